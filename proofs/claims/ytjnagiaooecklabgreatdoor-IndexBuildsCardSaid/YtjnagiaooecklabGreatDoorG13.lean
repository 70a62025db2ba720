/-
  Walks of functions of the program over an abstract layer, and the laws that they use: each contract says what the function computes, for every input that its conditions let by. No other condition.
-/
import Derived.Test.YtjnagiaooecklabGreatDoorProg
import Derived.Test.YtjnagiaooecklabGreatDoorG11
import Derived.Test.YtjnagiaooecklabGreatDoorG12
import Derived.Test.YtjnagiaooecklabGreatDoorG10
set_option linter.all false
section
/-
 The abstract code of functions of the program, printed by gen.py; each stands for the given one. No condition.
-/
namespace Go.Hx
open Go.Proofs
variable [Glob]
abbrev zDr:Nat:=149
abbrev zCq:Nat:=150
abbrev zGP:Nat:=148
abbrev zCO:Nat:=205
abbrev zB5:Nat:=206
abbrev zCc:Nat:=44
abbrev zGQ:Nat:=48
abbrev zGR:Nat:=103
abbrev zDs:Nat:=152
abbrev zDt:Nat:=45
abbrev zBj:Nat:=101
abbrev zFz:Nat:=104
abbrev zCP:Nat:=153
abbrev zFA:Nat:=41
abbrev zDu:Nat:=47
abbrev zBF:Nat:=97
abbrev zKd:Nat:=96
abbrev zCX:Nat:=102
abbrev zBP:Nat:=151
abbrev zCY:Nat:=123
abbrev zAD:Nat:=75
abbrev zZF:HCode:=oN [oV 1 (.boxF (.t 0)),
  ⟨none,.vnl 2 zAD 3⟩]
abbrev zZG:HCode:=oR [oV 5 (.fldR (.t 1) 1 1),
  oV 6 (.ldR (.t 5) 1 false),
  ⟨none,.vow 7 (.bld [.v (.int .i64 0),.v (mkS []),.nl 1] [(0,1,.c (iv 1)),(1,1,.t 6)]) 2 zAC 1⟩,
  ⟨none,.vbs 8 zAD 3 7⟩,
  ⟨none,.vmv 3 8⟩] [5,6,7,8]
abbrev zZH:HCode:=oR [oV 9 (.fldR (.t 1) 2 1),
  oV 10 (.ldR (.t 9) 1 false),
  oV 11 (.strs .neq (.t 10) (.c (sv [])))] [9,10]
abbrev zZI:HCode:=oR [⟨none,.vmv 12 3⟩,
  oV 13 (.fldR (.t 1) 2 1),
  oV 14 (.ldR (.t 13) 1 false),
  ⟨none,.vow 15 (.bld [.v (.int .i64 0),.v (mkS []),.nl 1] [(0,1,.c (iv 2)),(1,1,.t 14)]) 2 zAC 1⟩,
  ⟨none,.vbs 16 zAD 3 15⟩,
  ⟨none,.vap 17 zAD 3 12 (.t 16)⟩,
  ⟨none,.vmv 3 17⟩] [12,13,14,15,16,17]
abbrev zZJ:HCode:=oN [oV 4 (.mv (.c (iv 0)))]
abbrev zZK:HCode:=oR [oV 18 (.mv (.t 4)),
  oV 19 (.fldR (.t 1) 3 1),
  oV 20 (.ldR (.t 19) 1 false),
  oV 21 (.len false (.t 20)),
  oV 22 (.ints .lss (.t 18) (.t 21))] [18,19,20,21]
abbrev zZL:HCode:=oR [⟨none,.vmv 25 3⟩,
  oV 26 (.fldR (.t 1) 3 1),
  oV 27 (.ldR (.t 26) 1 false),
  oV 28 (.mv (.t 4)),
  oV 29 (.idxA 1 (.t 27) (.t 28)),
  oV 30 (.ldR (.t 29) 1 false),
  ⟨none,.vow 31 (.bld [.v (.int .i64 0),.v (mkS []),.nl 1] [(0,1,.c (iv 3)),(1,1,.t 30)]) 2 zAC 1⟩,
  ⟨none,.vbs 32 zAD 3 31⟩,
  ⟨none,.vap 33 zAD 3 25 (.t 32)⟩,
  ⟨none,.vmv 3 33⟩] [25,26,27,28,29,30,31,32,33]
abbrev zZM:HCode:=oR [oV 23 (.mv (.t 4)),
  oV 24 (.ints .add (.t 23) (.c (iv 1))),
  oV 4 (.mv (.t 24))] [23,24]
abbrev zZN:HCode:=oR [⟨none,.vmv 34 3⟩,
  ⟨none,.vmv 2 34⟩] [34]
abbrev yE5:HCode:=(.seq zZF (.seq zZG (.seq (.seq zZH (.cond (.t 11) zZI .skip)) (.seq (.seq zZJ (.block 0 (.loop (.seq (.seq zZK (.cond (.t 22) .skip (.exit 0))) (.seq (.block 1 zZL) zZM))))) (.seq zZN .ret)))))
abbrev zTa:Env:={N:=35,Γ:=[],L:=35,nfix:=0}
abbrev ref_keys_R:List RSrc:=[.tmp 2]
theorem zZO:zB1 Tryz.prog zKd yE5 zTa ref_keys_R:=by kernel_rfl
abbrev zOh:HCode:=oN [oV 2 (.boxF (.t 0)),
  oV 3 (.boxF (.t 1)),
  oV 4 (.mv (.c (bv false)))]
abbrev zOi:HCode:=oR [oV 5 (.fldR (.t 2) 0 1),
  oV 6 (.ldR (.t 5) 1 false),
  oV 7 (.fldR (.t 3) 0 1),
  oV 8 (.ldR (.t 7) 1 false),
  oV 9 (.ints .neq (.t 6) (.t 8))] [5,6,7,8]
abbrev zOj:HCode:=oR [oV 10 (.fldR (.t 2) 0 1),
  oV 11 (.ldR (.t 10) 1 false),
  oV 12 (.fldR (.t 3) 0 1),
  oV 13 (.ldR (.t 12) 1 false),
  oV 14 (.ints .gtr (.t 11) (.t 13)),
  oV 4 (.mv (.t 14))] [10,11,12,13,14]
abbrev zOk:HCode:=oR [oV 15 (.fldR (.t 2) 1 1),
  oV 16 (.ldR (.t 15) 1 false),
  oV 17 (.fldR (.t 3) 1 1),
  oV 18 (.ldR (.t 17) 1 false),
  oV 19 (.strs .gtr (.t 16) (.t 18)),
  oV 4 (.mv (.t 19))] [15,16,17,18,19]
abbrev zVa:HCode:=(.seq zOh (.seq (.seq zOi (.cond (.t 9) (.seq zOj .ret) .skip)) (.seq zOk .ret)))
abbrev zIl:Env:={N:=20,Γ:=[],L:=20,nfix:=0}
abbrev ref_behindKey_R:List RSrc:=[.tmp 4]
theorem zOl:zB1 Tryz.prog zBF zVa zIl ref_behindKey_R:=by kernel_rfl
abbrev zVb:HCode:=oN [oV 2 (.mv (.c (iv 0)))]
abbrev zVc:HCode:=oN [oV 3 (.mv (.c (iv 0)))]
abbrev zVd:HCode:=oN [oV 6 (.mv (.t 0)),
  oV 7 (.len false (.t 6)),
  oV 8 (.mv (.c (iv 0)))]
abbrev zVe:HCode:=oN [oV 9 (.ints .lss (.t 8) (.t 7))]
abbrev zVf:HCode:=oR [oV 10 (.idxA 1 (.t 6) (.t 8)),
  oV 11 (.ldR (.t 10) 1 false),
  oV 5 (.mv (.t 11))] [10,11]
abbrev zVg:HCode:=oR [oV 12 (.mv (.t 5)),
  oV 13 (.mv (.t 3)),
  oV 14 (.ints .neq (.t 12) (.t 13))] [12,13]
abbrev zVh:HCode:=oR [oV 15 (.mv (.t 5)),
  oV 2 (.mv (.t 15))] [15]
abbrev zVi:HCode:=oR [oV 16 (.ints .add (.t 8) (.c (iv 1))),
  oV 8 (.mv (.t 16))] [16]
abbrev zVj:HCode:=oR [oV 17 (.mv (.t 3)),
  oV 2 (.mv (.t 17))] [17]
abbrev yB1:HCode:=(.seq zVb (.seq zVc (.seq (.seq zVd (.block 0 (.loop (.seq zVe (.seq (.cond (.t 9) .skip (.exit 0)) (.seq (.block 1 (.seq zVf (.seq zVg (.cond (.t 14) (.seq zVh .ret) .skip)))) zVi)))))) (.seq zVj .ret))))
abbrev zNN:Env:={N:=18,Γ:=[],L:=18,nfix:=0}
abbrev cmp_Or_int_R:List RSrc:=[.tmp 2]
theorem zVk:zB1 Tryz.prog zGP yB1 zNN cmp_Or_int_R:=by kernel_rfl
abbrev zLA:HCode:=oN [oV 4 (.mv (.c (iv 0)))]
abbrev zLB:HCode:=oR [oV 7 (.mv (.t 0)),
  oC 8 zCO [(.t 7,.v)],
  oV 5 (.mv (.t 8))] [7,8]
abbrev zLC:HCode:=oR [oV 9 (.mv (.t 1)),
  oC 10 zCO [(.t 9,.v)],
  oV 6 (.mv (.t 10))] [9,10]
abbrev zLD:HCode:=oN [oV 11 (.mv (.t 5))]
abbrev zLE:HCode:=oN [oV 12 (.mv (.t 6))]
abbrev zLF:HCode:=oN [oV 4 (.mv (.c (iv 0)))]
abbrev zLG:HCode:=oN [oV 4 (.mv (.c (iv (-1))))]
abbrev zLH:HCode:=oN [oV 13 (.mv (.t 6))]
abbrev zLI:HCode:=oN [oV 4 (.mv (.c (iv 1)))]
abbrev zLJ:HCode:=oR [oV 14 (.mv (.t 0)),
  oV 15 (.mv (.t 1)),
  oV 16 (.ints .lss (.t 14) (.t 15))] [14,15]
abbrev zKe:HCode:=oN [oV 4 (.mv (.c (iv (-1))))]
abbrev zKf:HCode:=oR [oV 17 (.mv (.t 0)),
  oV 18 (.mv (.t 1)),
  oV 19 (.ints .gtr (.t 17) (.t 18))] [17,18]
abbrev zKg:HCode:=oN [oV 4 (.mv (.c (iv 1)))]
abbrev zKh:HCode:=oN [oV 4 (.mv (.c (iv 0)))]
abbrev zQa:HCode:=(.seq zLA (.seq zLB (.seq zLC (.seq (.seq zLD (.cond (.t 11) (.seq (.seq zLE (.cond (.t 12) (.seq zLF .ret) .skip)) (.seq zLG .ret)) .skip)) (.seq (.seq zLH (.cond (.t 13) (.seq zLI .ret) .skip)) (.seq (.seq zLJ (.cond (.t 16) (.seq zKe .ret) .skip)) (.seq (.seq zKf (.cond (.t 19) (.seq zKg .ret) .skip)) (.seq zKh .ret))))))))
abbrev zGt:Env:={N:=20,Γ:=[],L:=20,nfix:=0}
abbrev cmp_Compare_int_R:List RSrc:=[.tmp 4]
theorem zLK:zB1 Tryz.prog zDr zQa zGt cmp_Compare_int_R:=by kernel_rfl
abbrev zOm:HCode:=oN [oV 2 (.mv (.c (bv false)))]
abbrev zOn:HCode:=oR [oV 3 (.mv (.t 0)),
  oV 4 (.mv (.t 0)),
  oV 5 (.ints .neq (.t 3) (.t 4)),
  oV 2 (.mv (.t 5))] [3,4,5]
abbrev zVl:HCode:=(.seq zOm (.seq zOn .ret))
abbrev zIm:Env:={N:=6,Γ:=[],L:=6,nfix:=0}
abbrev cmp_isNaN_int_R:List RSrc:=[.tmp 2]
theorem zOo:zB1 Tryz.prog zCO zVl zIm cmp_isNaN_int_R:=by kernel_rfl
abbrev zIn:HCode:=oN [oV 4 (.mv (.c (iv 0)))]
abbrev zIo:HCode:=oR [oV 7 (.mv (.t 0)),
  oC 8 zB5 [(.t 7,.v)],
  oV 5 (.mv (.t 8))] [7,8]
abbrev zIp:HCode:=oR [oV 9 (.mv (.t 1)),
  oC 10 zB5 [(.t 9,.v)],
  oV 6 (.mv (.t 10))] [9,10]
abbrev zIq:HCode:=oN [oV 11 (.mv (.t 5))]
abbrev zIr:HCode:=oN [oV 12 (.mv (.t 6))]
abbrev zIs:HCode:=oN [oV 4 (.mv (.c (iv 0)))]
abbrev zIt:HCode:=oN [oV 4 (.mv (.c (iv (-1))))]
abbrev zIu:HCode:=oN [oV 13 (.mv (.t 6))]
abbrev zIv:HCode:=oN [oV 4 (.mv (.c (iv 1)))]
abbrev zIw:HCode:=oR [oV 14 (.mv (.t 0)),
  oV 15 (.mv (.t 1)),
  oV 16 (.strs .lss (.t 14) (.t 15))] [14,15]
abbrev zHj:HCode:=oN [oV 4 (.mv (.c (iv (-1))))]
abbrev zHk:HCode:=oR [oV 17 (.mv (.t 0)),
  oV 18 (.mv (.t 1)),
  oV 19 (.strs .gtr (.t 17) (.t 18))] [17,18]
abbrev zHl:HCode:=oN [oV 4 (.mv (.c (iv 1)))]
abbrev zHm:HCode:=oN [oV 4 (.mv (.c (iv 0)))]
abbrev zLL:HCode:=(.seq zIn (.seq zIo (.seq zIp (.seq (.seq zIq (.cond (.t 11) (.seq (.seq zIr (.cond (.t 12) (.seq zIs .ret) .skip)) (.seq zIt .ret)) .skip)) (.seq (.seq zIu (.cond (.t 13) (.seq zIv .ret) .skip)) (.seq (.seq zIw (.cond (.t 16) (.seq zHj .ret) .skip)) (.seq (.seq zHk (.cond (.t 19) (.seq zHl .ret) .skip)) (.seq zHm .ret))))))))
abbrev zEa:Env:={N:=20,Γ:=[],L:=20,nfix:=0}
abbrev cmp_Compare_string_R:List RSrc:=[.tmp 4]
theorem zIx:zB1 Tryz.prog zCq zLL zEa cmp_Compare_string_R:=by kernel_rfl
abbrev zKi:HCode:=oN [oV 2 (.mv (.c (bv false)))]
abbrev zKj:HCode:=oR [oV 3 (.mv (.t 0)),
  oV 4 (.mv (.t 0)),
  oV 5 (.strs .neq (.t 3) (.t 4)),
  oV 2 (.mv (.t 5))] [3,4,5]
abbrev zOp:HCode:=(.seq zKi (.seq zKj .ret))
abbrev zFi:Env:={N:=6,Γ:=[],L:=6,nfix:=0}
abbrev cmp_isNaN_string_R:List RSrc:=[.tmp 2]
theorem zKk:zB1 Tryz.prog zB5 zOp zFi cmp_isNaN_string_R:=by kernel_rfl
abbrev zRO:HCode:=oN [oV 2 (.boxF (.t 0)),
  oV 3 (.boxF (.t 1)),
  oV 4 (.mv (.c (iv 0)))]
abbrev zRP:HCode:=oQ [oD 0 false (oV 5 (.fldR (.t 2) 0 1)),
  oD 1 false (oV 6 (.ldR (.t 5) 1 false)),
  oD 2 false (oV 7 (.fldR (.t 3) 0 1)),
  oD 3 false (oV 8 (.ldR (.t 7) 1 false)),
  oD 4 false (oC 9 zDr [(.t 6,.v),(.t 8,.v)]),
  oD 5 false (oV 10 (.fldR (.t 2) 1 1)),
  oD 6 false (oV 11 (.ldR (.t 10) 1 false)),
  oD 7 false (oV 12 (.fldR (.t 3) 1 1)),
  oD 8 false (oV 13 (.ldR (.t 12) 1 false)),
  oD 9 true (oC 14 zCq [(.t 11,.v),(.t 13,.v)]),
  oD 10 false (oV 15 (.bslF 1 [.t 9,.t 14])),
  oD 11 true (oC 16 zGP [(.t 15,.v)]),
  oD 12 false (oV 4 (.mv (.t 16)))] [5,6,7,8,9,10,11,12,13,14,15,16]
abbrev zZP:HCode:=(.seq zRO (.seq zRP .ret))
abbrev zLM:Env:={N:=17,Γ:=[],L:=17,nfix:=0}
abbrev index_order_R:List RSrc:=[.tmp 4]
theorem zRQ:zB1 Tryz.prog zBj zZP zLM index_order_R:=by kernel_rfl
abbrev zKl:HCode:=oN [⟨none,.nlo 2 zAC 1⟩]
abbrev zKm:HCode:=oR [oV 3 (.mv (.t 0)),
  ⟨none,.isn 4 false (.t 3)⟩] [3]
abbrev zKn:HCode:=oN [⟨none,.nlo 2 zAC 1⟩]
abbrev zKo:HCode:=oR [⟨none,.bsl 5 zAC 1 []⟩,
  oV 6 (.mv (.t 0)),
  ⟨none,.app 7 zAC 1 (.t 5) (.t 6)⟩,
  ⟨none,.mvo 2 7⟩] [5,6,7]
abbrev zOq:HCode:=(.seq zKl (.seq (.seq zKm (.cond (.t 4) (.seq zKn .ret) .skip)) (.seq zKo .ret)))
abbrev zFj:Env:={N:=8,Γ:=[],L:=8,nfix:=0}
abbrev slices_Clone_int_R:List RSrc:=[.tmp 2]
theorem zKp:zB1 Tryz.prog zCX zOq zFj slices_Clone_int_R:=by kernel_rfl
abbrev zKq:HCode:=oN [oV 4 (.mv (.c (bv false)))]
abbrev zKr:HCode:=oR [oV 6 (.mv (.t 0)),
  oV 7 (.len false (.t 6)),
  oV 8 (.mv (.t 1)),
  oV 9 (.len false (.t 8)),
  oV 10 (.ints .neq (.t 7) (.t 9))] [6,7,8,9]
abbrev zKs:HCode:=oN [oV 4 (.mv (.c (bv false)))]
abbrev zKt:HCode:=oR [oV 11 (.mv (.t 0)),
  oV 12 (.len false (.t 11)),
  oV 13 (.mv (.c (iv 0)))] [11]
abbrev zKu:HCode:=oN [oV 14 (.ints .lss (.t 13) (.t 12))]
abbrev zKv:HCode:=oR [oV 15 (.mv (.t 13)),
  oV 5 (.mv (.t 15))] [15]
abbrev zKw:HCode:=oQ [oD 0 false (oV 16 (.mv (.t 0))),
  oD 1 false (oV 17 (.mv (.t 5))),
  oD 2 false (oV 18 (.idxA 1 (.t 16) (.t 17))),
  oD 3 false (oV 19 (.ldR (.t 18) 1 false)),
  oD 4 false (oV 20 (.mv (.t 1))),
  oD 5 false (oV 21 (.mv (.t 5))),
  oD 6 false (oV 22 (.idxA 1 (.t 20) (.t 21))),
  oD 7 false (oV 23 (.ldR (.t 22) 1 false)),
  oD 8 false (oV 24 (.ints .neq (.t 19) (.t 23)))] [16,17,18,19,20,21,22,23]
abbrev zKx:HCode:=oN [oV 4 (.mv (.c (bv false)))]
abbrev zKy:HCode:=oR [oV 25 (.ints .add (.t 13) (.c (iv 1))),
  oV 13 (.mv (.t 25))] [25]
abbrev zKz:HCode:=oN [oV 4 (.mv (.c (bv true)))]
abbrev zOr:HCode:=(.seq zKq (.seq (.seq zKr (.cond (.t 10) (.seq zKs .ret) .skip)) (.seq (.seq zKt (.block 0 (.loop (.seq zKu (.seq (.cond (.t 14) .skip (.exit 0)) (.seq (.block 1 (.seq zKv (.seq zKw (.cond (.t 24) (.seq zKx .ret) .skip)))) zKy)))))) (.seq zKz .ret))))
abbrev zFk:Env:={N:=26,Γ:=[],L:=26,nfix:=0}
abbrev slices_Equal_int_R:List RSrc:=[.tmp 4]
theorem zKA:zB1 Tryz.prog zCY zOr zFk slices_Equal_int_R:=by kernel_rfl
abbrev zVm:HCode:=oN [oV 6 (.mv (.c (.one (.nl 1)))),
  oV 7 (.mv (.c (iv 0)))]
abbrev zVn:HCode:=oR [oV 10 (.mv (.t 1)),
  oV 11 (.ints .lss (.t 10) (.c (iv 1))),
  oV 12 (.mv (.t 11)),
  oG 12 false 13 (.mv (.t 1)),
  oG 12 false 14 (.ints .gtr (.t 13) (.c (iv 3))),
  oV 15 (.pick (.t 12) (.c (bv true)) (.t 14))] [10,11,12,13,14]
abbrev zVo:HCode:=oN [oV 6 (.mv (.c (.one (.nl 1)))),
  oV 7 (.mv (.c (iv 4)))]
abbrev zVp:HCode:=oR [oV 16 (.mv (.t 0)),
  oV 17 (.len false (.t 16)),
  oV 18 (.ints .gtr (.t 17) (.c (iv 512)))] [16,17]
abbrev zVq:HCode:=oN [oV 6 (.mv (.c (.one (.nl 1)))),
  oV 7 (.mv (.c (iv 2)))]
abbrev zVr:HCode:=oN [oV 19 (.mv (.t 0)),
  oV 20 (.len false (.t 19)),
  oV 21 (.mv (.c (iv 0)))]
abbrev zVs:HCode:=oN [oV 22 (.ints .lss (.t 21) (.t 20))]
abbrev zVt:HCode:=.reg [oV 23 (.idxA 3 (.t 19) (.t 21)),
  oV 24 (.ldR (.t 23) 3 true),
  ⟨none,.alloc 9 0 39 [.v (.int .i64 0),.v (mkS []),.nl 1]⟩,
  ⟨none,.sto (.t 9) 0 39 0 3 (.t 24)⟩] false [.frz 0 39 3,.forget [23,24]]
abbrev zVu:HCode:=oR [oV 25 (.fldR (.t 9) 0 1),
  oV 26 (.ldR (.t 25) 1 false),
  oV 27 (.mv (.t 1)),
  oV 28 (.ints .eql (.t 26) (.t 27)),
  oV 29 (.mv (.t 28)),
  oG 29 true 30 (.fldR (.t 9) 1 1),
  oG 29 true 31 (.ldR (.t 30) 1 false),
  oG 29 true 32 (.mv (.t 2)),
  oG 29 true 33 (.strs .eql (.t 31) (.t 32)),
  oV 34 (.pick (.t 29) (.t 33) (.c (bv false)))] [25,26,27,28,29,30,31,32,33]
abbrev zVv:HCode:=oR [oV 35 (.fldR (.t 9) 2 1),
  oV 36 (.ldR (.t 35) 1 false),
  oC 37 zCX [(.t 36,.v)],
  oV 6 (.mv (.t 37)),
  oV 7 (.mv (.c (iv 0)))] [35,36,37]
abbrev zRR:HCode:=oR [oV 38 (.ints .add (.t 21) (.c (iv 1))),
  oV 21 (.mv (.t 38))] [38]
abbrev zRS:HCode:=oN [oV 6 (.mv (.c (.one (.nl 1)))),
  oV 7 (.mv (.c (iv 0)))]
abbrev yB2:HCode:=(.seq zVm (.seq (.seq zVn (.cond (.t 15) (.seq zVo .ret) .skip)) (.seq (.seq zVp (.cond (.t 18) (.seq zVq .ret) .skip)) (.seq (.seq zVr (.block 0 (.loop (.seq zVs (.seq (.cond (.t 22) .skip (.exit 0)) (.seq (.block 1 (.seq zVt (.seq zVu (.cond (.t 34) (.seq zVv .ret) .skip)))) zRR)))))) (.seq zRS .ret)))))
abbrev zNO:Env:={N:=39,Γ:=[(39,3)],L:=42,nfix:=0}
abbrev index_Look_R:List RSrc:=[.tmp 6,.tmp 7]
theorem zVw:zB1 Tryz.prog zDt yB2 zNO index_Look_R:=by kernel_rfl
abbrev zRT:HCode:=oN [oV 2 (.boxF (.t 0)),
  oV 3 (.boxF (.t 1)),
  oV 4 (.mv (.c (.one (.nl 1))))]
abbrev zRU:HCode:=oR [oV 12 (.fldR (.t 3) 0 1),
  oV 13 (.ldR (.t 12) 1 false),
  oV 14 (.fldR (.t 3) 0 1),
  oV 15 (.ldR (.t 14) 1 false),
  oV 16 (.len false (.t 15)),
  oV 17 (.ints .sub (.t 16) (.c (iv 1))),
  oV 18 (.idxA 2 (.t 13) (.t 17)),
  oV 19 (.ldR (.t 18) 2 true),
  ⟨none,.alloc 5 0 65 [.v (mkS []),.nl 6]⟩,
  ⟨none,.sto (.t 5) 0 65 0 2 (.t 19)⟩] [12,13,14,15,16,17,18,19]
abbrev zRV:HCode:=oN [⟨none,.alloc 6 1 67 [.nl 1]⟩]
abbrev zRW:HCode:=oN [⟨none,.alloc 7 2 68 [.v (.bool false)]⟩,
  ⟨none,.sto (.t 7) 2 68 0 1 (.c (bv false))⟩]
abbrev zRX:HCode:=oR [⟨none,.mkc 20 zCP [.t 2,.t 7,.t 6]⟩,
  oV 8 (.mv (.t 20))] [20]
abbrev zRY:HCode:=oR [oV 21 (.fldP (.t 5) 0),
  oV 22 (.ldB (.t 21) 0 65 0 1 false),
  oV 23 (.strs .neq (.t 22) (.c (sv [])))] [21,22]
abbrev zRZ:HCode:=oR [oV 24 (.mv (.t 8)),
  oV 25 (.fldP (.t 5) 0),
  oV 26 (.ldB (.t 25) 0 65 0 1 false),
  ⟨none,.clc (some 27) (.t 24) [(2,68,1),(1,67,1)] [(.c (iv 1),.v),(.t 26,.v)]⟩] [24,25,26,27]
abbrev zR0:HCode:=oR [oV 28 (.fldP (.t 5) 1),
  oV 29 (.ldB (.t 28) 0 65 1 1 false),
  oV 30 (.len false (.t 29)),
  oV 31 (.mv (.c (iv 0)))] [28]
abbrev zR1:HCode:=oN [oV 32 (.ints .lss (.t 31) (.t 30))]
abbrev zR2:HCode:=oR [oV 33 (.idxA 6 (.t 29) (.t 31)),
  oV 34 (.ldR (.t 33) 6 true),
  ⟨none,.alloc 10 3 69 [.v (.int .i64 0),.v (mkS []),.v (mkS []),.v (.int .i64 0),.v (.int .i64 0),.nl 2]⟩,
  ⟨none,.sto (.t 10) 3 69 0 6 (.t 34)⟩] [33,34]
abbrev zQb:HCode:=oR [oV 35 (.fldP (.t 10) 0),
  oV 36 (.ldB (.t 35) 3 69 0 1 false)] [35]
abbrev zQc:HCode:=oR [oV 38 (.ints .eql (.t 36) (.c (iv 2))),
  oV 37 (.mv (.t 38))] [38]
abbrev zQd:HCode:=oR [oV 39 (.mv (.t 8)),
  oV 40 (.fldP (.t 10) 1),
  oV 41 (.ldB (.t 40) 3 69 1 1 false),
  ⟨none,.clc (some 42) (.t 39) [(2,68,1),(1,67,1)] [(.c (iv 2),.v),(.t 41,.v)]⟩] [39,40,41,42]
abbrev zQe:HCode:=oR [oV 44 (.ints .eql (.t 36) (.c (iv 1))),
  oV 43 (.mv (.t 44))] [44]
abbrev zQf:HCode:=oR [oV 45 (.mv (.t 8)),
  oV 46 (.fldP (.t 10) 1),
  oV 47 (.ldB (.t 46) 3 69 1 1 false),
  ⟨none,.clc (some 48) (.t 45) [(2,68,1),(1,67,1)] [(.c (iv 3),.v),(.t 47,.v)]⟩] [45,46,47,48]
abbrev zQg:HCode:=oR [oV 49 (.ints .add (.t 31) (.c (iv 1))),
  oV 31 (.mv (.t 49))] [49]
abbrev zQh:HCode:=oR [oV 50 (.ldB (.t 7) 2 68 0 1 false),
  oV 51 (.not (.t 50))] [50]
abbrev zQi:HCode:=oR [oV 52 (.fldR (.t 2) 0 1),
  oV 53 (.fldR (.t 52) 0 1),
  oV 54 (.ldR (.t 53) 1 false),
  oV 55 (.len false (.t 54)),
  oV 56 (.mv (.c (iv 0)))] [52,53,54]
abbrev zQj:HCode:=oN [oV 57 (.ints .lss (.t 56) (.t 55))]
abbrev zQk:HCode:=oR [oV 58 (.mv (.t 56)),
  oV 11 (.mv (.t 58))] [58]
abbrev zQl:HCode:=oR [⟨none,.ldo 59 (.t 6) 1 67 0 zAC 1⟩,
  oV 60 (.mv (.t 11)),
  oV 61 (.bslF 1 [.t 60]),
  ⟨none,.app 62 zAC 1 (.t 59) (.t 61)⟩,
  ⟨none,.stw (.t 6) 1 67 0 62⟩] [59,60,61,62]
abbrev zQm:HCode:=oR [oV 63 (.ints .add (.t 56) (.c (iv 1))),
  oV 56 (.mv (.t 63))] [63]
abbrev zQn:HCode:=oR [oV 64 (.ldB (.t 6) 1 67 0 1 false),
  oV 4 (.mv (.t 64))] [64]
abbrev zZQ:HCode:=(.seq zRT (.seq zRU (.seq zRV (.seq zRW (.seq zRX (.seq (.seq zRY (.cond (.t 23) zRZ .skip)) (.seq (.seq zR0 (.block 0 (.loop (.seq zR1 (.seq (.cond (.t 32) .skip (.exit 0)) (.seq (.block 1 (.seq zR2 (.seq zQb (.block 2 (.seq zQc (.cond (.t 37) zQd (.seq zQe (.cond (.t 43) zQf .skip)))))))) zQg)))))) (.seq (.seq zQh (.cond (.t 51) (.seq zQi (.block 3 (.loop (.seq zQj (.seq (.cond (.t 57) .skip (.exit 3)) (.seq (.block 4 (.seq zQk zQl)) zQm)))))) .skip)) (.seq zQn .ret)))))))))
abbrev zLN:Env:={N:=65,Γ:=[(65,2),(67,1),(68,1),(69,6)],L:=75,nfix:=0}
abbrev index_seeds_R:List RSrc:=[.tmp 4]
theorem zR3:zB1 Tryz.prog zFz zZQ zLN index_seeds_R:=by kernel_rfl
abbrev zOs:HCode:=oR [oV 10 (.fldR (.t 2) 1 1),
  oV 11 (.ldR (.t 10) 1 false),
  oV 12 (.mv (.t 0)),
  oV 13 (.mv (.t 1)),
  oC 14 zDt [(.t 11,.v),(.t 12,.v),(.t 13,.v)],
  oV 9 (.mv (.t 14)),
  oV 15 (.ext 9 0),
  oV 16 (.ext 9 1),
  oV 7 (.mv (.t 15)),
  oV 8 (.mv (.t 16))] [8,9,10,11,12,13,14,15,16]
abbrev zOt:HCode:=oR [oV 17 (.ldB (.t 3) 0 27 0 1 false),
  oV 18 (.not (.t 17)),
  oV 19 (.mv (.t 18)),
  oG 19 false 20 (.mv (.t 7)),
  oG 19 false 21 (.len false (.t 20)),
  oG 19 false 22 (.ldB (.t 4) 1 28 0 1 false),
  oG 19 false 23 (.len false (.t 22)),
  oG 19 false 24 (.ints .lss (.t 21) (.t 23)),
  oV 25 (.pick (.t 19) (.c (bv true)) (.t 24))] [17,18,19,20,21,22,23,24]
abbrev zOu:HCode:=oR [oV 26 (.mv (.t 7)),
  ⟨none,.sto (.t 4) 1 28 0 1 (.t 26)⟩,
  ⟨none,.sto (.t 3) 0 27 0 1 (.c (bv true))⟩] [26]
abbrev zVx:HCode:=(.seq zOs (.seq zOt (.cond (.t 25) zOu .skip)))
abbrev zER:Env:={N:=27,Γ:=[(27,1),(28,1)],L:=29,nfix:=2}
abbrev zDv:List (Nat×Nat×Nat):=[(0,27,1),(1,28,1)]
theorem zOv {av:List AV} {cas:List CA} {io':List (List PV)} (hfo:zY1 zER zDv av cas) (hl:io'.map List.length=zOR cas) (hW:hwp Tryz.prog zVx (yJI zDv io') (F0c zER zDv av cas)):zEp Tryz.prog zCP av cas io':=
 zPw (fn:=Tryz.f153) (c:=Tryz.f153.body.getD .skip) (by kernel_rfl) (by kernel_rfl) (by kernel_rfl) (by kernel_rfl) (by kernel_rfl) (by kernel_rfl) (by kernel_rfl) (by kernel_rfl) hfo hl hW
abbrev zQo:HCode:=oN [oV 2 (.boxF (.t 0)),
  oV 3 (.boxF (.t 1)),
  oV 4 (.mv (.c (bv false)))]
abbrev zQp:HCode:=oR [oV 5 (.ldR (.t 2) 3 true),
  oV 6 (.ldR (.t 3) 3 true),
  oC 7 zBj [(.t 5,.v),(.t 6,.v)],
  oV 8 (.ints .eql (.t 7) (.c (iv 0))),
  oV 9 (.mv (.t 8)),
  oG 9 true 10 (.fldR (.t 2) 2 1),
  oG 9 true 11 (.ldR (.t 10) 1 false),
  oG 9 true 12 (.fldR (.t 3) 2 1),
  oG 9 true 13 (.ldR (.t 12) 1 false),
  ⟨some (9,true),.call (some 14) zCY [(.t 11,.v),(.t 13,.v)]⟩,
  oV 15 (.pick (.t 9) (.t 14) (.c (bv false))),
  oV 4 (.mv (.t 15))] [5,6,7,8,9,10,11,12,13,14,15]
abbrev zXM:HCode:=(.seq zQo (.seq zQp .ret))
abbrev zJx:Env:={N:=16,Γ:=[],L:=16,nfix:=0}
abbrev index_Fits_1_R:List RSrc:=[.tmp 4]
theorem zQq:zB1 Tryz.prog zDs zXM zJx index_Fits_1_R:=by kernel_rfl
abbrev zFB:HCode:=oN [oV 6 (.mv (.c (bv false)))]
abbrev zFC:HCode:=oR [oV 10 (.mv (.t 0)),
  oV 11 (.len false (.t 10)),
  oV 12 (.mv (.t 1)),
  oV 13 (.len false (.t 12)),
  oV 14 (.ints .neq (.t 11) (.t 13))] [10,11,12,13]
abbrev zFD:HCode:=oN [oV 6 (.mv (.c (bv false)))]
abbrev zFE:HCode:=oN [oV 15 (.mv (.t 0)),
  oV 16 (.len false (.t 15)),
  oV 17 (.mv (.c (iv 0)))]
abbrev zFF:HCode:=oN [oV 18 (.ints .lss (.t 17) (.t 16))]
abbrev zFG:HCode:=oR [oV 19 (.mv (.t 17)),
  oV 20 (.idxA 3 (.t 15) (.t 17)),
  oV 21 (.ldR (.t 20) 3 true),
  ⟨none,.alloc 8 0 32 [.v (.int .i64 0),.v (mkS []),.nl 1]⟩,
  oV 7 (.mv (.t 19)),
  ⟨none,.sto (.t 8) 0 32 0 3 (.t 21)⟩] [19,20,21]
abbrev zFH:HCode:=oR [oV 22 (.mv (.t 1)),
  oV 23 (.mv (.t 7)),
  oV 24 (.idxA 3 (.t 22) (.t 23)),
  oV 25 (.ldR (.t 24) 3 true),
  ⟨none,.alloc 9 1 35 [.v (.int .i64 0),.v (mkS []),.nl 1]⟩,
  ⟨none,.sto (.t 9) 1 35 0 3 (.t 25)⟩] [22,23,24,25]
abbrev zFI:HCode:=oR [oV 26 (.mv (.t 2)),
  oV 27 (.ldB (.t 8) 0 32 0 3 true),
  oV 28 (.ldB (.t 9) 1 35 0 3 true),
  ⟨none,.callv (some 29) (.t 26) [(.t 27,.v),(.t 28,.v)]⟩,
  oV 30 (.not (.t 29))] [26,27,28,29]
abbrev zFJ:HCode:=oN [oV 6 (.mv (.c (bv false)))]
abbrev zFK:HCode:=oR [oV 31 (.ints .add (.t 17) (.c (iv 1))),
  oV 17 (.mv (.t 31))] [31]
abbrev zEV:HCode:=oN [oV 6 (.mv (.c (bv true)))]
abbrev zHn:HCode:=(.seq zFB (.seq (.seq zFC (.cond (.t 14) (.seq zFD .ret) .skip)) (.seq (.seq zFE (.block 0 (.loop (.seq zFF (.seq (.cond (.t 18) .skip (.exit 0)) (.seq (.block 1 (.seq zFG (.seq zFH (.seq zFI (.cond (.t 30) (.seq zFJ .ret) .skip))))) zFK)))))) (.seq zEV .ret))))
abbrev zC3:Env:={N:=32,Γ:=[(32,3),(35,3)],L:=38,nfix:=0}
abbrev slices_EqualFunc_Entry_R:List RSrc:=[.tmp 6]
theorem zFL:zB1 Tryz.prog zBP zHn zC3 slices_EqualFunc_Entry_R:=by kernel_rfl
abbrev zVy:HCode:=oN [oV 1 (.boxF (.t 0)),
  oV 2 (.mv (.c (iv 0)))]
abbrev zVz:HCode:=oR [oV 6 (.fldR (.t 1) 0 1),
  oV 7 (.ldR (.t 6) 1 true),
  oC 8 zCc [(.t 7,.v)],
  oV 5 (.mv (.t 8)),
  oV 9 (.ext 5 0),
  oV 10 (.ext 5 1),
  oV 3 (.mv (.t 9)),
  oV 4 (.mv (.t 10))] [5,6,7,8,9,10]
abbrev zVA:HCode:=oR [oV 11 (.mv (.t 4)),
  oV 12 (.ints .neq (.t 11) (.c (iv 0)))] [11]
abbrev zVB:HCode:=oR [oV 13 (.mv (.t 4)),
  oV 2 (.mv (.t 13))] [13]
abbrev zVC:HCode:=oR [oV 14 (.mv (.t 3)),
  oV 15 (.fldR (.t 1) 1 1),
  oV 16 (.ldR (.t 15) 1 false),
  oC 17 zBP [(.t 14,.v),(.t 16,.v),(.f zDs,.v)],
  oV 18 (.not (.t 17))] [14,15,16,17]
abbrev zVD:HCode:=oN [oV 2 (.mv (.c (iv 1)))]
abbrev zVE:HCode:=oN [oV 2 (.mv (.c (iv 0)))]
abbrev yB3:HCode:=(.seq zVy (.seq zVz (.seq (.seq zVA (.cond (.t 12) (.seq zVB .ret) .skip)) (.seq (.seq zVC (.cond (.t 18) (.seq zVD .ret) .skip)) (.seq zVE .ret)))))
abbrev zNP:Env:={N:=19,Γ:=[],L:=19,nfix:=0}
abbrev index_Fits_R:List RSrc:=[.tmp 2]
theorem zVF:zB1 Tryz.prog zGR yB3 zNP index_Fits_R:=by kernel_rfl
abbrev zVG:HCode:=oN [oV 2 (.boxF (.t 0)),
  oV 4 (.mv (.c (.one (.nl 1)))),
  oV 5 (.mv (.c (iv 0)))]
abbrev zVH:HCode:=oR [oV 17 (.ldR (.t 2) 2 true),
  oC 18 zGR [(.t 17,.v)],
  oV 6 (.mv (.t 18))] [17,18]
abbrev zVI:HCode:=oR [oV 19 (.mv (.t 6)),
  oV 20 (.ints .neq (.t 19) (.c (iv 0)))] [19]
abbrev zVJ:HCode:=oR [oV 21 (.mv (.t 6)),
  oV 4 (.mv (.c (.one (.nl 1)))),
  oV 5 (.mv (.t 21))] [21]
abbrev zVK:HCode:=oR [oV 22 (.mv (.t 1)),
  oC 23 zEg [(.t 22,.v)],
  oV 7 (.mv (.t 23))] [22,23]
abbrev zVL:HCode:=oR [oV 24 (.mv (.t 7)),
  oV 25 (.ints .neq (.t 24) (.c (iv 0)))] [24]
abbrev zVM:HCode:=oR [oV 26 (.mv (.t 7)),
  oV 4 (.mv (.c (.one (.nl 1)))),
  oV 5 (.mv (.t 26))] [26]
abbrev zVN:HCode:=oN [⟨none,.mmk 27⟩,
  oV 8 (.mv (.t 27))]
abbrev zVO:HCode:=oN [oV 28 (.mv (.t 1)),
  oV 29 (.len false (.t 28)),
  oV 30 (.mv (.c (iv 0)))]
abbrev zVP:HCode:=oN [oV 31 (.ints .lss (.t 30) (.t 29))]
abbrev zR4:HCode:=oR [oV 32 (.idxA 2 (.t 28) (.t 30)),
  oV 33 (.ldR (.t 32) 2 true),
  ⟨none,.alloc 10 0 75 [.nl 2,.nl 1]⟩,
  ⟨none,.sto (.t 10) 0 75 0 2 (.t 33)⟩] [32,33]
abbrev zR5:HCode:=oR [oV 34 (.ldR (.t 2) 2 true),
  oV 35 (.ldB (.t 10) 0 75 0 2 true),
  oC 36 zFz [(.t 34,.v),(.t 35,.v)],
  oV 37 (.len false (.t 36)),
  oV 38 (.mv (.c (iv 0)))] [34,35]
abbrev zR6:HCode:=oN [oV 39 (.ints .lss (.t 38) (.t 37))]
abbrev zR7:HCode:=oR [oV 40 (.idxA 1 (.t 36) (.t 38)),
  oV 41 (.ldR (.t 40) 1 false),
  oV 12 (.mv (.t 41))] [40,41]
abbrev zR8:HCode:=oR [oV 43 (.fldR (.t 2) 0 1),
  oV 44 (.ldR (.t 43) 1 true),
  oV 45 (.ldB (.t 10) 0 75 0 2 true),
  oV 46 (.bslF 2 [.t 45]),
  oV 47 (.mv (.t 12)),
  oC 48 zD2 [(.t 44,.v),(.t 46,.v),(.t 47,.v)],
  oV 42 (.mv (.t 48)),
  oV 49 (.ext 42 0),
  oV 50 (.ext 42 1),
  oV 13 (.mv (.t 49)),
  oV 14 (.mv (.t 50))] [14,42,43,44,45,46,47,48,49,50]
abbrev zR9:HCode:=oN [oV 51 (.mv (.t 13))]
abbrev zSa:HCode:=oR [oV 52 (.mv (.t 8)),
  oV 53 (.mv (.t 12)),
  ⟨none,.mpl 54 (.t 52) 27 1 (.t 53) (.v (.int .i64 0)) false⟩,
  oV 55 (.ints .add (.t 54) (.c (iv 1))),
  ⟨none,.mps (.t 52) 27 1 (.t 53) (.t 55)⟩] [52,53,54,55]
abbrev zSb:HCode:=oR [oV 56 (.ints .add (.t 38) (.c (iv 1))),
  oV 38 (.mv (.t 56))] [56]
abbrev zSc:HCode:=oR [oV 57 (.ints .add (.t 30) (.c (iv 1))),
  oV 30 (.mv (.t 57))] [57]
abbrev zSd:HCode:=oN [⟨none,.nlo 15 zAC 1⟩]
abbrev zSe:HCode:=oR [oV 58 (.fldR (.t 2) 0 1),
  oV 59 (.fldR (.t 58) 0 1),
  oV 60 (.ldR (.t 59) 1 false),
  oV 61 (.len false (.t 60)),
  oV 62 (.mv (.c (iv 0)))] [58,59,60]
abbrev zSf:HCode:=oN [oV 63 (.ints .lss (.t 62) (.t 61))]
abbrev zSg:HCode:=oR [oV 64 (.mv (.t 62)),
  oV 16 (.mv (.t 64))] [64]
abbrev zSh:HCode:=oR [oV 65 (.mv (.t 8)),
  oV 66 (.mv (.t 16)),
  ⟨none,.mpl 67 (.t 65) 27 1 (.t 66) (.v (.int .i64 0)) false⟩,
  oV 68 (.ints .gtr (.t 67) (.c (iv 0)))] [65,66,67]
abbrev zSi:HCode:=oR [⟨none,.mvo 69 15⟩,
  oV 70 (.mv (.t 16)),
  oV 71 (.bslF 1 [.t 70]),
  ⟨none,.app 72 zAC 1 (.t 69) (.t 71)⟩,
  ⟨none,.mvo 15 72⟩] [69,70,71,72]
abbrev zSj:HCode:=oR [oV 73 (.ints .add (.t 62) (.c (iv 1))),
  oV 62 (.mv (.t 73))] [73]
abbrev zSk:HCode:=oR [oV 74 (.mv (.t 15)),
  oV 4 (.mv (.t 74)),
  oV 5 (.mv (.c (iv 0)))] [74]
abbrev yB4:HCode:=(.seq zVG (.seq (.seq zVH (.seq zVI (.cond (.t 20) (.seq zVJ .ret) .skip))) (.seq (.seq zVK (.seq zVL (.cond (.t 25) (.seq zVM .ret) .skip))) (.seq zVN (.seq (.seq zVO (.block 0 (.loop (.seq zVP (.seq (.cond (.t 31) .skip (.exit 0)) (.seq (.block 1 (.seq zR4 (.seq zR5 (.block 2 (.loop (.seq zR6 (.seq (.cond (.t 39) .skip (.exit 2)) (.seq (.block 3 (.seq zR7 (.seq zR8 (.seq zR9 (.cond (.t 51) zSa .skip))))) zSb)))))))) zSc)))))) (.seq zSd (.seq (.seq zSe (.block 4 (.loop (.seq zSf (.seq (.cond (.t 63) .skip (.exit 4)) (.seq (.block 5 (.seq zSg (.seq zSh (.cond (.t 68) zSi .skip)))) zSj)))))) (.seq zSk .ret))))))))
abbrev zNQ:Env:={N:=75,Γ:=[(75,2)],L:=77,nfix:=0}
abbrev index_Find_R:List RSrc:=[.tmp 4,.tmp 5]
theorem zVQ:zB1 Tryz.prog zGQ yB4 zNQ index_Find_R:=by kernel_rfl
abbrev zLO:HCode:=oN [oV 4 (.mv (.c (bv false)))]
abbrev zLP:HCode:=oR [oV 6 (.mv (.t 0)),
  oV 7 (.len false (.t 6)),
  oV 8 (.mv (.t 1)),
  oV 9 (.len false (.t 8)),
  oV 10 (.ints .neq (.t 7) (.t 9))] [6,7,8,9]
abbrev zLQ:HCode:=oN [oV 4 (.mv (.c (bv false)))]
abbrev zLR:HCode:=oN [oV 5 (.mv (.c (iv 0)))]
abbrev zLS:HCode:=oR [oV 11 (.mv (.t 5)),
  oV 12 (.mv (.t 0)),
  oV 13 (.len false (.t 12)),
  oV 14 (.ints .lss (.t 11) (.t 13))] [11,12,13]
abbrev zLT:HCode:=oQ [oD 0 false (oV 17 (.mv (.t 0))),
  oD 1 false (oV 18 (.mv (.t 5))),
  oD 2 false (oV 19 (.idxA 3 (.t 17) (.t 18))),
  oD 3 false (oV 20 (.fldR (.t 19) 0 1)),
  oD 4 false (oV 21 (.ldR (.t 20) 1 false)),
  oD 5 false (oV 22 (.mv (.t 1))),
  oD 6 false (oV 23 (.mv (.t 5))),
  oD 7 false (oV 24 (.idxA 3 (.t 22) (.t 23))),
  oD 8 false (oV 25 (.fldR (.t 24) 0 1)),
  oD 9 false (oV 26 (.ldR (.t 25) 1 false)),
  oD 10 false (oV 27 (.ints .neq (.t 21) (.t 26))),
  oD 11 false (oV 28 (.mv (.t 27))),
  oD 12 false (oG 28 false 29 (.mv (.t 0))),
  oD 13 false (oG 28 false 30 (.mv (.t 5))),
  oD 14 false (oG 28 false 31 (.idxA 3 (.t 29) (.t 30))),
  oD 15 false (oG 28 false 32 (.fldR (.t 31) 1 1)),
  oD 16 false (oG 28 false 33 (.ldR (.t 32) 1 false)),
  oD 17 false (oG 28 false 34 (.mv (.t 1))),
  oD 18 false (oG 28 false 35 (.mv (.t 5))),
  oD 19 false (oG 28 false 36 (.idxA 3 (.t 34) (.t 35))),
  oD 20 false (oG 28 false 37 (.fldR (.t 36) 1 1)),
  oD 21 false (oG 28 false 38 (.ldR (.t 37) 1 false)),
  oD 22 false (oG 28 false 39 (.strs .neq (.t 33) (.t 38))),
  oD 23 false (oV 40 (.pick (.t 28) (.c (bv true)) (.t 39))),
  oD 24 false (oV 41 (.mv (.t 40))),
  oD 25 false (oG 41 false 42 (.mv (.t 0))),
  oD 26 false (oG 41 false 43 (.mv (.t 5))),
  oD 27 false (oG 41 false 44 (.idxA 3 (.t 42) (.t 43))),
  oD 28 false (oG 41 false 45 (.fldR (.t 44) 2 1)),
  oD 29 false (oG 41 false 46 (.ldR (.t 45) 1 false)),
  oD 30 false (oG 41 false 47 (.mv (.t 1))),
  oD 31 false (oG 41 false 48 (.mv (.t 5))),
  oD 32 false (oG 41 false 49 (.idxA 3 (.t 47) (.t 48))),
  oD 33 false (oG 41 false 50 (.fldR (.t 49) 2 1)),
  oD 34 false (oG 41 false 51 (.ldR (.t 50) 1 false)),
  oD 35 true ⟨some (41,false),.call (some 52) zBX [(.t 46,.v),(.t 51,.v)]⟩,
  oD 36 false (oG 41 false 53 (.not (.t 52))),
  oD 37 false (oV 54 (.pick (.t 41) (.c (bv true)) (.t 53)))] [17,18,19,20,21,22,23,24,25,26,27,28,29,30,31,32,33,34,35,36,37,38,39,40,41,42,43,44,45,46,47,48,49,50,51,52,53]
abbrev zLU:HCode:=oN [oV 4 (.mv (.c (bv false)))]
abbrev zLV:HCode:=oR [oV 15 (.mv (.t 5)),
  oV 16 (.ints .add (.t 15) (.c (iv 1))),
  oV 5 (.mv (.t 16))] [15,16]
abbrev zLW:HCode:=oN [oV 4 (.mv (.c (bv true)))]
abbrev zQr:HCode:=(.seq zLO (.seq (.seq zLP (.cond (.t 10) (.seq zLQ .ret) .skip)) (.seq (.seq zLR (.block 0 (.loop (.seq (.seq zLS (.cond (.t 14) .skip (.exit 0))) (.seq (.block 1 (.seq zLT (.cond (.t 54) (.seq zLU .ret) .skip))) zLV))))) (.seq zLW .ret))))
abbrev zGu:Env:={N:=55,Γ:=[],L:=55,nfix:=0}
abbrev ref_SameIndexes_R:List RSrc:=[.tmp 4]
theorem zLX:zB1 Tryz.prog zDu zQr zGu ref_SameIndexes_R:=by kernel_rfl
end Go.Hx
end

section
namespace Go.Hx
open Go.Proofs
variable [Glob]
attribute [local go_sem] zAt zAp zAn zAj ndV zAq
attribute [local go_sem] reduceCtorEq Nat.reduceAdd Nat.reduceEqDiff reduceIte Nat.reduceLeDiff Nat.reduceLT Nat.reduceSub
theorem zNR (n lo hi:Int):Contract Tryz.prog zEd [.val (iv n),.val (iv lo),.val (iv hi)] {res:=.val (bv (decide (lo≤n∧n≤hi)))}:=by
 refine mkA zUi (base:=0) (fo rfl) (fun hfit=>?_)
 unfold F0 zNE
 simp (maxSteps:=2000000) only [zAJ,List.set_cons_succ,List.set_cons_zero,List.map_cons,List.map_nil,zAH,zAa,ioOf,List.length_cons,List.length_nil,Nat.reduceAdd,Nat.reduceSub,List.replicate,List.cons_append,List.nil_append]
 try simp (maxSteps:=2000000) only [go_sem]
 repeat with_reducible refine zAb ?_
 refine zAd rfl trivial (.inl ?_)
 congr 3
 by_cases h1:lo≤n<;>by_cases h2:n≤hi<;>simp [h1,h2]
theorem zFl (s:Bys):Contract Tryz.prog zCt [.val (sv s)] {res:=.val (bv (zBJ s))}:=by
 refine mkA zUt (base:=0) (fo rfl) (fun hfit=>?_)
 unfold F0 zNF
 simp (maxSteps:=2000000) only [zAJ,List.set_cons_succ,List.set_cons_zero,List.map_cons,List.map_nil,zAH,zAa,ioOf,List.length_cons,List.length_nil,Nat.reduceAdd,Nat.reduceSub,List.replicate,List.cons_append,List.nil_append]
 try simp (maxSteps:=2000000) only [go_sem]
 repeat with_reducible refine zAb ?_
 refine zAw (by repeat' constructor) (zNR _ _ _) ?_
 try simp (maxSteps:=2000000) only [go_sem]
 repeat with_reducible refine zAb ?_
 refine zAc (by rfl) trivial (fun h=>?_) (fun h=>?_)
 ·try simp (maxSteps:=2000000) only [go_sem]
  repeat with_reducible refine zAb ?_
  refine zAd rfl trivial (.inl ?_)
  congr 3
  cases hn:zBJ s with
  |false=>rfl
  |true=>exfalso;simp [zBJ] at hn h;omega
 have hl:s.length≤12:=by simp at h;omega
 try simp (maxSteps:=2000000) only [go_sem]
 repeat with_reducible refine zAb ?_
 refine zAv (fun i:Nat=>[(3,.pv (iv i)),(4,.un),(22,.un),(46,.un)]) (fun i=>s.length-i) (fun i=>i≤s.length∧(s.take i).all zNA=true) 0 ?_ ⟨Nat.zero_le _,rfl⟩ ?_
 ·simp (maxSteps:=2000000) only [go_sem,zAf,zAl,zAz,zAg]
 intro i ⟨hi,hall⟩
 try simp (maxSteps:=2000000) only [go_sem]
 repeat with_reducible refine zAb ?_
 refine zAc (by rfl) trivial (fun h2=>?_) (fun h2=>?_)
 ·have hlt:i < s.length:=by simpa using h2
  try simp (maxSteps:=2000000) only [go_sem]
  repeat with_reducible refine zAb ?_
  refine zAc (by rfl) trivial (fun h3=>?_) (fun h3=>?_)
  ·try simp (maxSteps:=2000000) only [go_sem]
   repeat with_reducible refine zAb ?_
   refine zAd rfl trivial (.inl ?_)
   congr 3
   cases hn:zBJ s with
   |false=>rfl
   |true=>
    exfalso
    simp only [zBJ,Bool.and_eq_true,List.all_eq_true] at hn
    have h4:=hn.2 (s.getD i 0) (by simp [hlt])
    simp [zNA,hlt] at h3 h4
    omega
  ·try simp (maxSteps:=2000000) only [go_sem]
   repeat with_reducible refine zAb ?_
   refine ⟨i+1,by omega,⟨hlt,?_⟩,?_⟩
   ·rw [zK6 hlt (d:=0),hall]
    simp [zNA,hlt] at h3 ⊢
    omega
   ·simp (maxSteps:=2000000) only [go_sem,zAf,zAl,zAz,zAg]
    exact zAm (by omega)
 ·try simp (maxSteps:=2000000) only [go_sem]
  repeat with_reducible refine zAb ?_
  refine zAd rfl trivial (.inl ?_)
  congr 3
  have hi2:i=s.length:=by simp at h2;omega
  subst hi2
  simp [zBJ] at hall h ⊢
  exact ⟨by omega,hall⟩
theorem zVR (s:Bys):Contract Tryz.prog zFu [.val (sv s)] {res:=.val (bv (zDJ s))}:=by
 refine mkA zRu (base:=0) (fo rfl) (fun hfit=>?_)
 unfold F0 zK9
 simp (maxSteps:=2000000) only [zAJ,List.set_cons_succ,List.set_cons_zero,List.map_cons,List.map_nil,zAH,zAa,ioOf,List.length_cons,List.length_nil,Nat.reduceAdd,Nat.reduceSub,List.replicate,List.cons_append,List.nil_append]
 try simp (maxSteps:=2000000) only [go_sem]
 repeat with_reducible refine zAb ?_
 refine zAc (by rfl) trivial (fun h=>?_) (fun h=>?_)
 ·try simp (maxSteps:=2000000) only [go_sem]
  repeat with_reducible refine zAb ?_
  refine zAd rfl trivial (.inl ?_)
  simp [zDJ] at h ⊢
  intro h';omega
 have hl:s.length≤16:=by simp at h;omega
 try simp (maxSteps:=2000000) only [go_sem]
 repeat with_reducible refine zAb ?_
 refine zAv (fun i:Nat=>[(3,.pv (iv i)),(10,.un),(28,.un)]) (fun i=>s.length-i) (fun i=>i≤s.length∧(s.take i).all yBD=true) 0 ?_ ⟨Nat.zero_le _,rfl⟩ ?_
 ·simp (maxSteps:=2000000) only [go_sem,zAf,zAl,zAz,zAg]
 intro i ⟨hi,hall⟩
 try simp (maxSteps:=2000000) only [go_sem]
 repeat with_reducible refine zAb ?_
 refine zAc (by rfl) trivial (fun h=>?_) (fun h=>?_)
 ·have hlt:i < s.length:=by simpa using h
  try simp (maxSteps:=2000000) only [go_sem]
  repeat with_reducible refine zAb ?_
  refine zAc (by rfl) trivial (fun h2=>?_) (fun h2=>?_)
  ·try simp (maxSteps:=2000000) only [go_sem]
   repeat with_reducible refine zAb ?_
   refine zAd rfl trivial (.inl ?_)
   congr 3
   cases hn:zDJ s with
   |false=>rfl
   |true=>
    exfalso
    simp only [zDJ,Bool.and_eq_true,List.all_eq_true] at hn
    have h4:=hn.2 (s.getD i 0) (by simp [hlt])
    simp [yBD,hlt] at h2 h4
    omega
  ·try simp (maxSteps:=2000000) only [go_sem]
   repeat with_reducible refine zAb ?_
   refine ⟨i+1,by omega,⟨hlt,?_⟩,?_⟩
   ·rw [zK6 hlt (d:=0),hall]
    simp [yBD,hlt] at h2 ⊢
    omega
   ·simp (maxSteps:=2000000) only [go_sem,zAf,zAl,zAz,zAg]
    exact zAm (by omega)
 ·try simp (maxSteps:=2000000) only [go_sem]
  repeat with_reducible refine zAb ?_
  refine zAd rfl trivial (.inl ?_)
  have hi2:i=s.length:=by simp at h;omega
  subst hi2
  simp [zDJ,hl] at hall ⊢
  exact hall
end Go.Hx
end

section
set_option maxRecDepth 100000
set_option linter.unusedSimpArgs false
namespace Go.Hx
open Go.Proofs
variable [Glob]
attribute [local go_sem] zAt zAp zAn zAj ndV zAq
attribute [local go_sem] reduceCtorEq Nat.reduceAdd Nat.reduceEqDiff reduceIte Nat.reduceLeDiff Nat.reduceLT Nat.reduceSub
theorem zDO (a b:List Int):Contract Tryz.prog zBX [.val (.one (.sl 1 (zAS a))),.val (.one (.sl 1 (zAS b)))] {res:=.val (bv (decide (a=b)))}:=by
 refine mkA zP2 (base:=0) (fo rfl) (fun hfit=>?_)
 unfold F0 zJw
 simp (maxSteps:=2000000) only [zAJ,List.set_cons_succ,List.set_cons_zero,List.map_cons,List.map_nil,zAH,zAa,ioOf,List.length_cons,List.length_nil,Nat.reduceAdd,Nat.reduceSub,List.replicate,List.cons_append,List.nil_append]
 try simp (maxSteps:=2000000) only [go_sem]
 repeat with_reducible refine zAb ?_
 have hm:=zDg (k:=1) hfit.1
 rw [zAj] at hm
 refine zAc (by rfl) trivial (fun h=>?_) (fun h=>?_)
 ·try simp (maxSteps:=2000000) only [go_sem]
  repeat with_reducible refine zAb ?_
  refine zAd rfl trivial (.inl ?_)
  congr 3
  simp [zAj] at h
  exact decide_eq_false (fun e=>h (by subst e;rfl))
 have hl:a.length=b.length:=by simp [zAj] at h;omega
 try simp (maxSteps:=2000000) only [go_sem]
 repeat with_reducible refine zAb ?_
 refine zAv (fun i:Nat=>[(5,.pv (iv i)),(14,.un),(25,.un)]) (fun i=>a.length-i) (fun i=>i≤a.length∧a.take i=b.take i) 0 ?_ ⟨Nat.zero_le _,rfl⟩ ?_
 ·simp (maxSteps:=2000000) only [go_sem,zAf,zAl,zAz,zAg]
 intro i ⟨hi,heq⟩
 try simp (maxSteps:=2000000) only [go_sem,zAj]
 repeat with_reducible refine zAb ?_
 refine zAc (by rfl) trivial (fun h2=>?_) (fun h2=>?_)
 ·have hlt:i < a.length:=by simpa using h2
  have hltb:i < b.length:=by omega
  try simp (maxSteps:=2000000) only [go_sem,zEu _ _ hlt,zEu _ _ hltb,zAj]
  repeat with_reducible refine zAb ?_
  refine zAc (by rfl) trivial (fun h3=>?_) (fun h3=>?_)
  ·try simp (maxSteps:=2000000) only [go_sem]
   repeat with_reducible refine zAb ?_
   refine zAd rfl trivial (.inl ?_)
   congr 3
   simp only [bne_iff_ne,ne_eq] at h3
   exact (decide_eq_false (yBB 0 h3))
  ·try simp (maxSteps:=2000000) only [go_sem]
   repeat with_reducible refine zAb ?_
   refine ⟨i+1,by omega,⟨hlt,zWE 0 heq hlt hltb ?_⟩,?_⟩
   ·simpa only [bne_eq_false_iff_eq] using h3
   ·simp (maxSteps:=2000000) only [go_sem,zAf,zAl,zAz,zAg]
    exact zAm (by omega)
 ·try simp (maxSteps:=2000000) only [go_sem]
  repeat with_reducible refine zAb ?_
  refine zAd rfl trivial (.inl ?_)
  congr 3
  have hi2:i=a.length:=by simp at h2;omega
  subst hi2
  exact decide_eq_true (yBC hl heq)
end Go.Hx
end

section
set_option maxRecDepth 100000
set_option linter.unusedSimpArgs false
namespace Go.Hx
open Go.Proofs
variable [Glob]
attribute [local go_sem] zAt zAp zAn zAj ndV zAq
attribute [local go_sem] reduceCtorEq Nat.reduceAdd Nat.reduceEqDiff reduceIte Nat.reduceLeDiff Nat.reduceLT Nat.reduceSub
theorem zSl (x:Nd):Contract Tryz.prog zEz [.val (.agg (ndV x))] {res:=.val (bv (zBK x))}:=by
 unfold ndV
 refine mkA zPH (base:=0) (fo rfl) (fun hfit=>?_)
 unfold F0 zJu
 simp (maxSteps:=2000000) only [zAJ,List.set_cons_succ,List.set_cons_zero,List.map_cons,List.map_nil,zAH,zAa,ioOf,List.length_cons,List.length_nil,Nat.reduceAdd,Nat.reduceSub,List.replicate,List.cons_append,List.nil_append]
 try simp (maxSteps:=2000000) only [go_sem]
 repeat with_reducible refine zAb ?_
 refine zAw (by repeat' constructor) (zFl _) ?_
 try simp (maxSteps:=2000000) only [go_sem]
 repeat with_reducible refine zAb ?_
 apply zAu (h2:=fun _=>zFl _)
 ·(simp (maxSteps:=2000000) only [go_sem];rfl)
 ·intro h;repeat' (first|exact trivial|exact h|refine And.intro ?_ ?_)
 try simp (maxSteps:=2000000) only [go_sem,zAp,zAn]
 repeat with_reducible refine zAb ?_
 refine zAc (by rfl) trivial (fun h=>?_) (fun h=>?_)
 ·try simp (maxSteps:=2000000) only [go_sem]
  repeat with_reducible refine zAb ?_
  refine zAd rfl trivial (.inl ?_)
  congr 3
  cases hn:zBK x with
  |false=>rfl
  |true=>
   exfalso
   simp only [zBK,Bool.and_eq_true,Bool.or_eq_true,decide_eq_true_eq,beq_iff_eq] at hn
   obtain ⟨⟨⟨⟨⟨h1,h2⟩,h3⟩,h4⟩,_⟩,_⟩:=hn
   rcases h2 with h2|h2
   ·simp [h1,h2] at h;omega
   ·simp [h1,h2] at h;omega
 have hh:zBJ x.tag=true∧(x.id=[]∨zBJ x.id=true)∧x.cls.length≤6∧x.att.length≤4:=by
  simp at h
  refine ⟨h.1.1.1,?_,by omega,by omega⟩
  by_cases h0:x.id=[]
  ·exact .inl h0
  ·exact .inr (h.1.1.2 h0)
 obtain ⟨hh1,hh2,hh3,hh4⟩:=hh
 try simp (maxSteps:=2000000) only [go_sem]
 repeat with_reducible refine zAb ?_
 refine zAv (fun i:Nat=>[(3,.pv (iv i)),(36,.un),(63,.un)]) (fun i=>x.cls.length-i) (fun i=>i≤x.cls.length∧okC x.cls i=true) 0 ?_ ⟨Nat.zero_le _,rfl⟩ ?_
 ·simp (maxSteps:=2000000) only [go_sem,zAf,zAl,zAz,zAg]
 intro i ⟨hi,hok⟩
 try simp (maxSteps:=2000000) only [go_sem,zAp]
 repeat with_reducible refine zAb ?_
 refine zAc (by rfl) trivial (fun h2=>?_) (fun h2=>?_)
 ·have hlt:i < x.cls.length:=by simpa using h2
  have e1:((i:Int)-1).toNat=i-1:=by omega
  try simp (maxSteps:=2000000) only [go_sem,zGJ _ _ hlt,zAp]
  repeat with_reducible refine zAb ?_
  refine zAw (by repeat' constructor) (zFl _) ?_
  try simp (maxSteps:=2000000) only [go_sem,zGJ _ _ hlt,zAp,e1,zGJ _ _ (show i-1 < x.cls.length by omega)]
  repeat with_reducible refine zAb ?_
  refine zAc (by rfl) trivial (fun h3=>?_) (fun h3=>?_)
  ·try simp (maxSteps:=2000000) only [go_sem]
   repeat with_reducible refine zAb ?_
   refine zAd rfl trivial (.inl ?_)
   congr 3
   cases hn:zBK x with
   |false=>rfl
   |true=>
    exfalso
    simp only [zBK,Bool.and_eq_true] at hn
    have h4:=zAV hn.1.2 hlt
    simp [cOk,hlt] at h3 h4
    grind
  ·try simp (maxSteps:=2000000) only [go_sem]
   repeat with_reducible refine zAb ?_
   refine ⟨i+1,by omega,⟨hlt,?_⟩,?_⟩
   ·show (List.range (i+1)).all (cOk x.cls)=true
    rw [zCJ]
    have hok':(List.range i).all (cOk x.cls)=true:=hok
    rw [hok']
    simp [cOk,hlt] at h3 ⊢
    refine ⟨h3.1,?_⟩
    rcases Nat.eq_zero_or_pos i with h5|h5
    ·exact .inl h5
    ·exact .inr (h3.2 h5)
   ·simp (maxSteps:=2000000) only [go_sem,zAf,zAl,zAz,zAg]
    exact zAm (by omega)
 try simp (maxSteps:=2000000) only [go_sem]
 repeat with_reducible refine zAb ?_
 have hi2:i=x.cls.length:=by simp at h2;omega
 refine zAv (fun i:Nat=>[(4,.pv (iv i)),(68,.un),(108,.un)]) (fun i=>x.att.length-i) (fun i=>i≤x.att.length∧okA x.att i=true) 0 ?_ ⟨Nat.zero_le _,rfl⟩ ?_
 ·simp (maxSteps:=2000000) only [go_sem,zAf,zAl,zAz,zAg]
 intro k ⟨hk,hokA⟩
 try simp (maxSteps:=2000000) only [go_sem,zAn]
 repeat with_reducible refine zAb ?_
 refine zAc (by rfl) trivial (fun h3=>?_) (fun h3=>?_)
 ·have hlt:k < x.att.length:=by simpa using h3
  have e1:((k:Int)-1).toNat=k-1:=by omega
  try simp (maxSteps:=2000000) only [go_sem,zE6 _ _ hlt,zAn]
  repeat with_reducible refine zAb ?_
  refine zAw (by repeat' constructor) (zFl _) ?_
  try simp (maxSteps:=2000000) only [go_sem,zE6 _ _ hlt,zAn]
  repeat with_reducible refine zAb ?_
  apply zAu (h2:=fun _=>zVR _)
  ·(simp (maxSteps:=2000000) only [go_sem];rfl)
  ·intro h;repeat' (first|exact trivial|exact h|refine And.intro ?_ ?_)
  try simp (maxSteps:=2000000) only [go_sem,zE6 _ _ hlt,zAn,e1,zE6 _ _ (show k-1 < x.att.length by omega)]
  repeat with_reducible refine zAb ?_
  refine zAc (by rfl) trivial (fun h4=>?_) (fun h4=>?_)
  ·try simp (maxSteps:=2000000) only [go_sem]
   repeat with_reducible refine zAb ?_
   refine zAd rfl trivial (.inl ?_)
   congr 3
   cases hn:zBK x with
   |false=>rfl
   |true=>
    exfalso
    simp only [zBK,Bool.and_eq_true] at hn
    have h5:=zAV hn.2 hlt
    simp [aOk,hlt] at h4 h5
    grind
  ·try simp (maxSteps:=2000000) only [go_sem]
   repeat with_reducible refine zAb ?_
   refine ⟨k+1,by omega,⟨hlt,?_⟩,?_⟩
   ·show (List.range (k+1)).all (aOk x.att)=true
    rw [zCJ]
    have hok':(List.range k).all (aOk x.att)=true:=hokA
    rw [hok']
    simp [aOk,hlt] at h4 ⊢
    refine ⟨h4.1,?_⟩
    rcases Nat.eq_zero_or_pos k with h5|h5
    ·exact .inl h5
    ·exact .inr (h4.2 h5)
   ·simp (maxSteps:=2000000) only [go_sem,zAf,zAl,zAz,zAg]
    exact zAm (by omega)
 ·try simp (maxSteps:=2000000) only [go_sem]
  repeat with_reducible refine zAb ?_
  refine zAd rfl trivial (.inl ?_)
  congr 3
  have hk2:k=x.att.length:=by simp at h3;omega
  subst hk2 hi2
  simp only [zBK,hh1,hok,hokA,hh3,hh4,decide_true,Bool.and_true,Bool.true_and]
  rcases hh2 with h|h<;>simp [h]
end Go.Hx
end

section
set_option maxRecDepth 100000
set_option linter.unusedSimpArgs false
set_option maxHeartbeats 4000000
namespace Go.Hx
open Go.Proofs
variable [Glob]
attribute [local go_sem] zAt zAp zAn zAj ndV zAq zAk
attribute [local go_sem] reduceCtorEq Nat.reduceAdd Nat.reduceEqDiff reduceIte Nat.reduceLeDiff Nat.reduceLT Nat.reduceSub
def entV (e:Ent):List PV:=[bI e.kind,bS e.name,.sl 1 (zAS e.nodes)]
def zCj (l:List Ent):List (List PV):=l.map entV
theorem zB8 (l:List Ent):(zCj l).length=l.length:=by simp [zCj]
theorem zGv (l:List Ent) (i:Nat) (h:i < l.length):(zCj l).getD i []=entV (l.getD i default):=by simp [zCj,h]
theorem yDi (a:Int):Contract Tryz.prog zCO [.val (iv a)] {res:=.val (bv false)}:=by
 refine mkA zOo (base:=0) (fo rfl) (fun hfit=>?_)
 unfold F0 zIm
 simp (maxSteps:=2000000) only [zAJ,List.set_cons_succ,List.set_cons_zero,List.map_cons,List.map_nil,zAH,zAa,ioOf,List.length_cons,List.length_nil,Nat.reduceAdd,Nat.reduceSub,List.replicate,List.cons_append,List.nil_append]
 try simp (maxSteps:=2000000) only [go_sem]
 repeat with_reducible refine zAb ?_
 have e:(a != a)=false:=by simp
 try simp (maxSteps:=2000000) only [go_sem,e]
 repeat with_reducible refine zAb ?_
 exact zAd rfl trivial (.inl rfl)
theorem zXN (a:Bys):Contract Tryz.prog zB5 [.val (sv a)] {res:=.val (bv false)}:=by
 refine mkA zKk (base:=0) (fo rfl) (fun hfit=>?_)
 unfold F0 zFi
 simp (maxSteps:=2000000) only [zAJ,List.set_cons_succ,List.set_cons_zero,List.map_cons,List.map_nil,zAH,zAa,ioOf,List.length_cons,List.length_nil,Nat.reduceAdd,Nat.reduceSub,List.replicate,List.cons_append,List.nil_append]
 try simp (maxSteps:=2000000) only [go_sem]
 repeat with_reducible refine zAb ?_
 have e:(a==a)=true:=by simp
 try simp (maxSteps:=2000000) only [go_sem,e,Bool.not_true]
 repeat with_reducible refine zAb ?_
 exact zAd rfl trivial (.inl rfl)
def yE6 (a b:Int):Int:=if a < b then -1 else if a > b then 1 else 0
theorem yDj (a b:Int):Contract Tryz.prog zDr [.val (iv a),.val (iv b)] {res:=.val (iv (yE6 a b))}:=by
 unfold yE6
 refine mkA zLK (base:=0) (fo rfl) (fun hfit=>?_)
 unfold F0 zGt
 simp (maxSteps:=2000000) only [zAJ,List.set_cons_succ,List.set_cons_zero,List.map_cons,List.map_nil,zAH,zAa,ioOf,List.length_cons,List.length_nil,Nat.reduceAdd,Nat.reduceSub,List.replicate,List.cons_append,List.nil_append]
 try simp (maxSteps:=2000000) only [go_sem]
 repeat with_reducible refine zAb ?_
 refine zAw (by repeat' constructor) (yDi a) ?_
 try simp (maxSteps:=2000000) only [go_sem]
 repeat with_reducible refine zAb ?_
 refine zAw (by repeat' constructor) (yDi b) ?_
 try simp (maxSteps:=2000000) only [go_sem]
 repeat with_reducible refine zAb ?_
 refine zAc (by rfl) trivial (fun h1=>?_) (fun h1=>?_)
 ·cases h1
 ·try simp (maxSteps:=2000000) only [go_sem]
  repeat with_reducible refine zAb ?_
  refine zAc (by rfl) trivial (fun h2=>?_) (fun h2=>?_)
  ·cases h2
  ·try simp (maxSteps:=2000000) only [go_sem]
   repeat with_reducible refine zAb ?_
   refine zAc (by rfl) trivial (fun h3=>?_) (fun h3=>?_)
   ·rw [if_pos (by simpa using h3)]
    try simp (maxSteps:=2000000) only [go_sem]
    repeat with_reducible refine zAb ?_
    exact zAd rfl trivial (.inl rfl)
   ·rw [if_neg (by simpa using h3)]
    try simp (maxSteps:=2000000) only [go_sem]
    repeat with_reducible refine zAb ?_
    refine zAc (by rfl) trivial (fun h4=>?_) (fun h4=>?_)
    ·rw [if_pos (by simpa using h4)]
     try simp (maxSteps:=2000000) only [go_sem]
     repeat with_reducible refine zAb ?_
     exact zAd rfl trivial (.inl rfl)
    ·rw [if_neg (by simpa using h4)]
     try simp (maxSteps:=2000000) only [go_sem]
     repeat with_reducible refine zAb ?_
     exact zAd rfl trivial (.inl rfl)
def yHZ (a b:Bys):Int:=if Op.bytesLess a b then -1 else if a=b then 0 else 1
theorem zZR (a b:Bys):Contract Tryz.prog zCq [.val (sv a),.val (sv b)] {res:=.val (iv (yHZ a b))}:=by
 unfold yHZ
 refine mkA zIx (base:=0) (fo rfl) (fun hfit=>?_)
 unfold F0 zEa
 simp (maxSteps:=2000000) only [zAJ,List.set_cons_succ,List.set_cons_zero,List.map_cons,List.map_nil,zAH,zAa,ioOf,List.length_cons,List.length_nil,Nat.reduceAdd,Nat.reduceSub,List.replicate,List.cons_append,List.nil_append]
 try simp (maxSteps:=2000000) only [go_sem]
 repeat with_reducible refine zAb ?_
 refine zAw (by repeat' constructor) (zXN a) ?_
 try simp (maxSteps:=2000000) only [go_sem]
 repeat with_reducible refine zAb ?_
 refine zAw (by repeat' constructor) (zXN b) ?_
 try simp (maxSteps:=2000000) only [go_sem]
 repeat with_reducible refine zAb ?_
 refine zAc (by rfl) trivial (fun h1=>?_) (fun h1=>?_)
 ·cases h1
 ·try simp (maxSteps:=2000000) only [go_sem]
  repeat with_reducible refine zAb ?_
  refine zAc (by rfl) trivial (fun h2=>?_) (fun h2=>?_)
  ·cases h2
  ·try simp (maxSteps:=2000000) only [go_sem]
   repeat with_reducible refine zAb ?_
   refine zAc (by rfl) trivial (fun h3=>?_) (fun h3=>?_)
   ·rw [if_pos h3]
    try simp (maxSteps:=2000000) only [go_sem]
    repeat with_reducible refine zAb ?_
    exact zAd rfl trivial (.inl rfl)
   ·rw [if_neg (by rw [h3];decide)]
    try simp (maxSteps:=2000000) only [go_sem]
    repeat with_reducible refine zAb ?_
    refine zAc (by rfl) trivial (fun h4=>?_) (fun h4=>?_)
    ·rw [if_neg (by rintro rfl;simp at h4)]
     try simp (maxSteps:=2000000) only [go_sem]
     repeat with_reducible refine zAb ?_
     exact zAd rfl trivial (.inl rfl)
    ·rw [if_pos (by simp [h3] at h4;exact h4)]
     try simp (maxSteps:=2000000) only [go_sem]
     repeat with_reducible refine zAb ?_
     exact zAd rfl trivial (.inl rfl)
theorem yLk (x y:Int):Contract Tryz.prog zGP [.val (.one (.sl 1 [[bI x],[bI y]]))] {res:=.val (iv (if x≠0 then x else y))}:=by
 refine mkA zVk (base:=0) (fo rfl) (fun hfit=>?_)
 unfold F0 zNN
 simp (maxSteps:=2000000) only [zAJ,List.set_cons_succ,List.set_cons_zero,List.map_cons,List.map_nil,zAH,zAa,ioOf,List.length_cons,List.length_nil,Nat.reduceAdd,Nat.reduceSub,List.replicate,List.cons_append,List.nil_append]
 try simp (maxSteps:=2000000) only [go_sem]
 repeat with_reducible refine zAb ?_
 refine zAv (fun i:Nat=>[(8,.pv (iv i)),(2,.un),(5,.un),(9,.un),(14,.un)]) (fun i:Nat=>2-i) (fun i:Nat=>i≤2∧(1≤i→x=0)∧(2≤i→y=0)) (0) ?_ ⟨Nat.zero_le _,fun h=>(by omega),fun h=>(by omega)⟩ ?_
 focus (simp (maxSteps:=2000000) only [go_sem,zAf,zAl,zAz,zAg];all_goals (repeat' (first|exact trivial|exact zAm (by omega)|exact zAi rfl|exact zAx rfl|exact zAs|exact le_refl _|refine And.intro ?_ ?_)))
 rintro i ⟨hi,hx,hy⟩
 rcases (by omega:i=0∨i=1∨i=2) with rfl|rfl|rfl
 ·try simp (maxSteps:=2000000) only [go_sem,List.getD_cons_zero,List.length_cons,List.length_nil]
  repeat with_reducible refine zAb ?_
  refine zAc (by rfl) trivial (fun g1=>?_) (fun g1=>?_)
  ·try simp (maxSteps:=2000000) only [go_sem,List.getD_cons_zero,List.length_cons,List.length_nil]
   repeat with_reducible refine zAb ?_
   refine zAc (by rfl) trivial (fun g2=>?_) (fun g2=>?_)
   ·rw [if_pos (by simpa using g2)]
    try simp (maxSteps:=2000000) only [go_sem]
    repeat with_reducible refine zAb ?_
    exact zAd rfl trivial (.inl rfl)
   ·have h0:x=0:=by simpa using g2
    try simp (maxSteps:=2000000) only [go_sem]
    repeat with_reducible refine zAb ?_
    refine ⟨1,by omega,⟨by omega,fun _=>h0,fun h=>(by omega)⟩,?_⟩
    simp (maxSteps:=2000000) only [go_sem,zAf,zAl,zAz,zAg]
    all_goals (repeat' (first|exact trivial|exact zAm (by omega)|exact zAi rfl|exact zAx rfl|exact zAs|exact le_refl _|refine And.intro ?_ ?_))
  ·simp at g1
 ·try simp (maxSteps:=2000000) only [go_sem,List.getD_cons_zero,List.getD_cons_succ,List.length_cons,List.length_nil]
  repeat with_reducible refine zAb ?_
  refine zAc (by rfl) trivial (fun g1=>?_) (fun g1=>?_)
  ·try simp (maxSteps:=2000000) only [go_sem,List.getD_cons_zero,List.getD_cons_succ,List.length_cons,List.length_nil]
   repeat with_reducible refine zAb ?_
   refine zAc (by rfl) trivial (fun g2=>?_) (fun g2=>?_)
   ·rw [if_neg (by simpa using hx (by omega))]
    try simp (maxSteps:=2000000) only [go_sem]
    repeat with_reducible refine zAb ?_
    exact zAd rfl trivial (.inl rfl)
   ·have h0:y=0:=by simpa using g2
    try simp (maxSteps:=2000000) only [go_sem]
    repeat with_reducible refine zAb ?_
    refine ⟨2,by omega,⟨by omega,fun _=>hx (by omega),fun _=>h0⟩,?_⟩
    simp (maxSteps:=2000000) only [go_sem,zAf,zAl,zAz,zAg]
    all_goals (repeat' (first|exact trivial|exact zAm (by omega)|exact zAi rfl|exact zAx rfl|exact zAs|exact le_refl _|refine And.intro ?_ ?_))
  ·simp at g1
 ·try simp (maxSteps:=2000000) only [go_sem,List.length_cons,List.length_nil]
  repeat with_reducible refine zAb ?_
  refine zAc (by rfl) trivial (fun g1=>?_) (fun g1=>?_)
  ·simp at g1
  ·try simp (maxSteps:=2000000) only [go_sem]
   repeat with_reducible refine zAb ?_
   rw [if_neg (by simpa using hx (by omega)),hy (by omega)]
   exact zAd rfl trivial (.inl rfl)
def yEc (a b:Key):Int:=if yE6 a.1 b.1≠0 then yE6 a.1 b.1 else yHZ a.2 b.2
theorem yAY (k k':Int) (n n':Bys) (z z':PV):Contract Tryz.prog zBj [.val (.agg [bI k,bS n,z]),.val (.agg [bI k',bS n',z'])] {res:=.val (iv (yEc (k,n) (k',n')))}:=by
 have h1:=yDj k k'
 have h2:=zZR n n'
 have h3:=yLk (yE6 k k') (yHZ n n')
 refine mkA zRQ (base:=0) (fo rfl) (fun hfit=>?_)
 unfold F0 zLM
 simp (maxSteps:=2000000) only [zAJ,List.set_cons_succ,List.set_cons_zero,List.map_cons,List.map_nil,zAH,zAa,ioOf,List.length_cons,List.length_nil,Nat.reduceAdd,Nat.reduceSub,List.replicate,List.cons_append,List.nil_append]
 try simp (maxSteps:=2000000) only [go_sem]
 repeat with_reducible refine zAb ?_
 refine zAw (by repeat' constructor) (h1) ?_
 try simp (maxSteps:=2000000) only [go_sem]
 repeat with_reducible refine zAb ?_
 refine zAw (by repeat' constructor) (h2) ?_
 try simp (maxSteps:=2000000) only [go_sem]
 repeat with_reducible refine zAb ?_
 refine zAw (by repeat' constructor) (h3) ?_
 try simp (maxSteps:=2000000) only [go_sem]
 repeat with_reducible refine zAb ?_
 exact zAd rfl trivial (.inl rfl)
theorem yHm (a b:Ent):Contract Tryz.prog zBj [.val (.agg (entV a)),.val (.agg (entV b))] {res:=.val (iv (yEc a.key b.key))}:=yAY a.kind b.kind a.name b.name _ _
theorem zTb (a b:Int):(a < b∧yE6 a b=-1)∨(a=b∧yE6 a b=0)∨(b < a∧yE6 a b=1):=by
 unfold yE6
 rcases Int.lt_trichotomy a b with h|h|h
 ·exact .inl ⟨h,by rw [if_pos h]⟩
 ·exact .inr (.inl ⟨h,by rw [if_neg (by omega),if_neg (by omega)]⟩)
 ·exact .inr (.inr ⟨h,by rw [if_neg (by omega),if_pos h]⟩)
theorem yE7 (a b:Key):yEc a b < 0↔zAI a b=true:=by
 unfold yEc zAI
 rcases zTb a.1 b.1 with ⟨h,e⟩|⟨h,e⟩|⟨h,e⟩
 ·rw [e,if_pos (by decide),if_neg (by omega)]
  simp [h]
 ·rw [e,if_neg (by decide),if_pos h]
  unfold yHZ
  cases hb:Op.bytesLess a.2 b.2 with
  |true=>simp
  |false=>
   rw [if_neg (by decide)]
   split<;>simp
 ·rw [e,if_pos (by decide),if_neg (by omega)]
  simp;omega
theorem yDk (a b:Key):yEc a b=0↔a=b:=by
 unfold yEc
 rcases zTb a.1 b.1 with ⟨h,e⟩|⟨h,e⟩|⟨h,e⟩
 ·rw [e,if_pos (by decide)]
  simp
  intro h2;rw [h2] at h;omega
 ·rw [e,if_neg (by decide)]
  unfold yHZ
  constructor
  ·intro g
   split at g
   ·cases g
   ·split at g
    ·rename_i h2;exact Prod.ext h h2
    ·cases g
  ·rintro rfl
   rw [zHA,if_neg (by decide),if_pos rfl]
 ·rw [e,if_pos (by decide)]
  simp
  intro h2;rw [h2] at h;omega
end Go.Hx
end

section
set_option maxRecDepth 100000
set_option linter.unusedSimpArgs false
namespace Go.Hx
open Go.Proofs
variable [Glob]
attribute [local go_sem] zAt zAp zAn zAj ndV zAq zAk fdV Fd.add fM fF fR fK Nat.add_zero
attribute [local go_sem] reduceCtorEq Nat.reduceAdd Nat.reduceEqDiff reduceIte Nat.reduceLeDiff Nat.reduceLT Nat.reduceSub
theorem zCd {F:List Ct} {E:Env} {base:Nat} {av:List AV} {cells io:List PV} (hio:ioOf av=some cells) (hc:zAR F base cells.length=some io):yBx E base av [] {res:=.tup [],io:=io} .normal F:=
 ⟨rfl,fun cs h=>by rw [hio] at h;injection h with h;subst h;exact hc⟩
theorem zVS (c:Fd) (b:Bool) (h:c.m≤1000000000):Contract Tryz.prog zAA [.io (fdV c),.val (bv b),.val (iv 2)] {res:=.tup [],io:=fdV (c.add (fM b))}:=by
 unfold fdV
 refine mkA zCw (base:=17) ⟨Nat.le_of_ble_eq_true rfl,Nat.le_of_ble_eq_true rfl,Nat.le_of_ble_eq_true rfl,⟨rfl,rfl⟩⟩ (fun hfit=>?_)
 unfold F0 zB7
 simp (maxSteps:=2000000) only [zAJ,List.set_cons_succ,List.set_cons_zero,List.map_cons,List.map_nil,zAH,zAa,ioOf,List.length_cons,List.length_nil,Nat.reduceAdd,Nat.reduceSub,List.replicate,List.cons_append,List.nil_append]
 try simp (maxSteps:=2000000) only [go_sem]
 repeat with_reducible refine zAb ?_
 refine zAc (by rfl) trivial (fun hb=>?_) (fun hb=>?_)
 ·subst hb
  try simp (maxSteps:=2000000) only [go_sem,Int.reduceToNat]
  repeat with_reducible refine zAb ?_
  exact zCd rfl rfl
 ·subst hb
  try simp (maxSteps:=2000000) only [go_sem]
  repeat with_reducible refine zAb ?_
  exact zCd rfl rfl
theorem zOG (c:Fd) (b:Bool) (h:c.f≤1000000000):Contract Tryz.prog zAA [.io (fdV c),.val (bv b),.val (iv 1)] {res:=.tup [],io:=fdV (c.add (fF b))}:=by
 unfold fdV
 refine mkA zCw (base:=17) ⟨Nat.le_of_ble_eq_true rfl,Nat.le_of_ble_eq_true rfl,Nat.le_of_ble_eq_true rfl,⟨rfl,rfl⟩⟩ (fun hfit=>?_)
 unfold F0 zB7
 simp (maxSteps:=2000000) only [zAJ,List.set_cons_succ,List.set_cons_zero,List.map_cons,List.map_nil,zAH,zAa,ioOf,List.length_cons,List.length_nil,Nat.reduceAdd,Nat.reduceSub,List.replicate,List.cons_append,List.nil_append]
 try simp (maxSteps:=2000000) only [go_sem]
 repeat with_reducible refine zAb ?_
 refine zAc (by rfl) trivial (fun hb=>?_) (fun hb=>?_)
 ·subst hb
  try simp (maxSteps:=2000000) only [go_sem,Int.reduceToNat]
  repeat with_reducible refine zAb ?_
  exact zCd rfl rfl
 ·subst hb
  try simp (maxSteps:=2000000) only [go_sem]
  repeat with_reducible refine zAb ?_
  exact zCd rfl rfl
theorem yE8 (c:Fd) (b:Bool) (h:c.r≤1000000000):Contract Tryz.prog zAA [.io (fdV c),.val (bv b),.val (iv 3)] {res:=.tup [],io:=fdV (c.add (fR b))}:=by
 unfold fdV
 refine mkA zCw (base:=17) ⟨Nat.le_of_ble_eq_true rfl,Nat.le_of_ble_eq_true rfl,Nat.le_of_ble_eq_true rfl,⟨rfl,rfl⟩⟩ (fun hfit=>?_)
 unfold F0 zB7
 simp (maxSteps:=2000000) only [zAJ,List.set_cons_succ,List.set_cons_zero,List.map_cons,List.map_nil,zAH,zAa,ioOf,List.length_cons,List.length_nil,Nat.reduceAdd,Nat.reduceSub,List.replicate,List.cons_append,List.nil_append]
 try simp (maxSteps:=2000000) only [go_sem]
 repeat with_reducible refine zAb ?_
 refine zAc (by rfl) trivial (fun hb=>?_) (fun hb=>?_)
 ·subst hb
  try simp (maxSteps:=2000000) only [go_sem,Int.reduceToNat]
  repeat with_reducible refine zAb ?_
  exact zCd rfl rfl
 ·subst hb
  try simp (maxSteps:=2000000) only [go_sem]
  repeat with_reducible refine zAb ?_
  exact zCd rfl rfl
theorem yAZ (c:Fd) (b:Bool) (h:c.k≤1000000000):Contract Tryz.prog zAA [.io (fdV c),.val (bv b),.val (iv 4)] {res:=.tup [],io:=fdV (c.add (fK b))}:=by
 unfold fdV
 refine mkA zCw (base:=17) ⟨Nat.le_of_ble_eq_true rfl,Nat.le_of_ble_eq_true rfl,Nat.le_of_ble_eq_true rfl,⟨rfl,rfl⟩⟩ (fun hfit=>?_)
 unfold F0 zB7
 simp (maxSteps:=2000000) only [zAJ,List.set_cons_succ,List.set_cons_zero,List.map_cons,List.map_nil,zAH,zAa,ioOf,List.length_cons,List.length_nil,Nat.reduceAdd,Nat.reduceSub,List.replicate,List.cons_append,List.nil_append]
 try simp (maxSteps:=2000000) only [go_sem]
 repeat with_reducible refine zAb ?_
 refine zAc (by rfl) trivial (fun hb=>?_) (fun hb=>?_)
 ·subst hb
  try simp (maxSteps:=2000000) only [go_sem,Int.reduceToNat]
  repeat with_reducible refine zAb ?_
  exact zCd rfl rfl
 ·subst hb
  try simp (maxSteps:=2000000) only [go_sem]
  repeat with_reducible refine zAb ?_
  exact zCd rfl rfl
def shV (k:Int):PVal:=.agg [bB (yC6 k),bB (zWL k),bB (yJ1 k),bB (zMG k)]
def kOk (k:Int):Bool:=decide (1≤k∧k≤15)
theorem yDl (k:Int):Contract Tryz.prog zMI [.val (iv k)] {res:=.tup [shV k,bv (kOk k)]}:=by
 refine mkA yBX (base:=0) (fo rfl) (fun hfit=>?_)
 unfold F0 zXr
 simp (maxSteps:=2000000) only [zAJ,List.set_cons_succ,List.set_cons_zero,List.map_cons,List.map_nil,zAH,zAa,ioOf,List.length_cons,List.length_nil,Nat.reduceAdd,Nat.reduceSub,List.replicate,List.cons_append,List.nil_append]
 try simp (maxSteps:=2000000) only [go_sem]
 repeat with_reducible refine zAb ?_
 by_cases hk:1≤k∧k≤15
 ·have hn:k=1∨k=2∨k=3∨k=4∨k=5∨k=6∨k=7∨k=8∨k=9∨k=10∨k=11∨k=12∨k=13∨k=14∨k=15:=by omega
  rcases hn with rfl|rfl|rfl|rfl|rfl|rfl|rfl|rfl|rfl|rfl|rfl|rfl|rfl|rfl|rfl
  all_goals
   repeat (first|(refine zPl (by rfl) trivial ?_;(try simp (maxSteps:=2000000) only [go_sem]))|(refine zK5 (by rfl) trivial ?_;(try simp (maxSteps:=2000000) only [go_sem])))
   exact zBq (by simp) ⟨zOE rfl rfl (.inl rfl),zA0 rfl trivial (.inl rfl),rfl⟩
 ·have e:∀ n:Int,1≤n→n≤15→(k==n)=false:=by intro n h1 h2;simp;omega
  have hs:shV k=.agg [bB false,bB false,bB false,bB false]:=by
   unfold shV
   congr 2
   ·unfold yC6;congr 2;simp;omega
   ·congr 1
    ·unfold zWL;congr 2;simp;omega
    ·congr 1
     ·unfold yJ1;congr 2;simp;omega
     ·congr 1
      unfold zMG;congr 2;simp;omega
  have ho:kOk k=false:=by unfold kOk;simp;omega
  rw [hs,ho]
  try simp (maxSteps:=2000000) only [go_sem,e 1 (by omega) (by omega),e 2 (by omega) (by omega),e 3 (by omega) (by omega),e 4 (by omega) (by omega),e 5 (by omega) (by omega),e 6 (by omega) (by omega),e 7 (by omega) (by omega),e 8 (by omega) (by omega),e 9 (by omega) (by omega),e 10 (by omega) (by omega),e 11 (by omega) (by omega),e 12 (by omega) (by omega),e 13 (by omega) (by omega),e 14 (by omega) (by omega),e 15 (by omega) (by omega)]
  repeat (refine zK5 (by rfl) trivial ?_;(try simp (maxSteps:=2000000) only [go_sem,e 1 (by omega) (by omega),e 2 (by omega) (by omega),e 3 (by omega) (by omega),e 4 (by omega) (by omega),e 5 (by omega) (by omega),e 6 (by omega) (by omega),e 7 (by omega) (by omega),e 8 (by omega) (by omega),e 9 (by omega) (by omega),e 10 (by omega) (by omega),e 11 (by omega) (by omega),e 12 (by omega) (by omega),e 13 (by omega) (by omega),e 14 (by omega) (by omega),e 15 (by omega) (by omega)]))
  exact zBq (by simp) ⟨zOE rfl rfl (.inl rfl),zA0 rfl trivial (.inl rfl),rfl⟩
theorem zXO:Contract Tryz.prog zGN [] {res:=.val (.agg [bI 2,bI 4,bI 1,bI 3])}:=by
 refine mkA zUM (base:=0) (fo rfl) (fun hfit=>?_)
 unfold F0 zNK
 simp (maxSteps:=2000000) only [zAJ,List.set_cons_succ,List.set_cons_zero,List.map_cons,List.map_nil,zAH,zAa,ioOf,List.length_cons,List.length_nil,Nat.reduceAdd,Nat.reduceSub,List.replicate,List.cons_append,List.nil_append]
 try simp (maxSteps:=2000000) only [go_sem]
 repeat with_reducible refine zAb ?_
 exact zPn rfl rfl rfl
end Go.Hx
end

section
set_option maxRecDepth 100000
set_option linter.unusedSimpArgs false
namespace Go.Hx
open Go.Proofs
variable [Glob]
attribute [local go_sem] zAt zAp zAn zAj ndV zAq zAk fdV zBD zA7 zBt zBs
attribute [local go_sem] reduceCtorEq Nat.reduceAdd Nat.reduceEqDiff reduceIte Nat.reduceLeDiff Nat.reduceLT Nat.reduceSub
theorem zCQ {α:Type} {d:α} {l:List α} {i:Nat} (h:i < l.length):l.drop i=l.getD i d::l.drop (i+1):=by
 rw [List.drop_eq_getElem_cons h]
 simp [h]
def yLl (P:Program) (N:Nat):Prop:=
 (∀ (l:List Pt) (d K:Nat) (c:Fd),SizeOf.sizeOf l≤N→d≤4→c.le K→K+bd d≤1000000000→Contract P zBw [.io (fdV c),.val (zBD l),.val (iv d)] {res:=.tup [],io:=fdV (c.add (ntL l d))})∧
 (∀ (s:St) (d K:Nat) (c:Fd),SizeOf.sizeOf s≤N→d≤3→c.le K→K+bdS d≤1000000000→Contract P zCv [.io (fdV c),.val (.agg (stV s)),.val (iv d)] {res:=.tup [],io:=fdV (c.add (ntS s d))})
theorem yDm (N:Nat) (ih:yLl Tryz.prog N) (l:List Pt) (d K:Nat) (c:Fd) (hN:SizeOf.sizeOf l≤N+1) (hd:d≤4) (hc:c.le K) (hK:K+bd d≤1000000000):Contract Tryz.prog zBw [.io (fdV c),.val (zBD l),.val (iv d)] {res:=.tup [],io:=fdV (c.add (ntL l d))}:=by
 unfold fdV zBD
 refine mkA zMV (base:=83) ⟨Nat.le_of_ble_eq_true rfl,Nat.le_of_ble_eq_true rfl,Nat.le_of_ble_eq_true rfl,⟨rfl,rfl⟩⟩ (fun hfit=>?_)
 unfold F0 zGY
 simp (maxSteps:=2000000) only [zAJ,List.set_cons_succ,List.set_cons_zero,List.map_cons,List.map_nil,zAH,zAa,ioOf,List.length_cons,List.length_nil,Nat.reduceAdd,Nat.reduceSub,List.replicate,List.cons_append,List.nil_append]
 try simp (maxSteps:=2000000) only [go_sem]
 repeat with_reducible refine zAb ?_
 have hlb:(bif bif decide (3 < (d:Int)) then true else decide ((l.length:Int) < 1) then true else decide (5 < (l.length:Int)))=zHC l d:=by
  have e1:decide (3 < (d:Int))=decide (3 < d):=decide_eq_decide.2 (by omega)
  have e2:decide ((l.length:Int) < 1)=decide (l.length < 1):=decide_eq_decide.2 (by omega)
  have e3:decide (5 < (l.length:Int))=decide (5 < l.length):=decide_eq_decide.2 (by omega)
  unfold zHC
  rw [e1,e2,e3]
  cases decide (3 < d)<;>cases decide (l.length < 1)<;>rfl
 refine zAc (by rfl) trivial (fun h=>?_) (fun h=>?_)
 ·rw [hlb] at h
  have e:ntL l d=fM true:=by unfold ntL;rw [if_pos h]
  try simp (maxSteps:=2000000) only [go_sem]
  repeat with_reducible refine zAb ?_
  have hb1:=zUe (4-d)
  have hb2:bd d=bdF (4-d):=rfl
  have hm:=hc.m
  refine zDI (by repeat' constructor) (zVS c true (by omega)) ?_
  try simp (maxSteps:=2000000) only [go_sem]
  repeat with_reducible refine zAb ?_
  rw [e]
  exact zT3 rfl rfl
 ·rw [hlb] at h
  have e:ntL l d=zYC l d:=by unfold ntL;rw [if_neg (by rw [h];simp)]
  rw [e]
  have hd3:d≤3∧l.length≤5:=by
   simp only [zHC,Bool.or_eq_false_iff,decide_eq_false_iff_not] at h
   omega
  have hbd:=yHf hd3.1
  try simp (maxSteps:=2000000) only [go_sem]
  repeat with_reducible refine zAb ?_
  have hK0:K+(1+(l.length-0) * bdP d)≤1000000000:=by
   have:(l.length-0) * bdP d≤5 * bdP d:=Nat.mul_le_mul_right _ (by omega)
   omega
  refine zAv (fun x:Nat×Fd=>[(7,.un),(9,.un),(11,.un),(28,.pv (iv x.1)),(29,.un),(51,.un),(55,.un),(56,.un),(57,.un),(58,.un),(71,.un),(72,.un),(73,.un),(74,.un),(84,.pv (.one (bI x.2.f))),(85,.pv (.one (bI x.2.m))),(86,.pv (.one (bI x.2.r))),(87,.pv (.one (bI x.2.k))),(90,.un),(91,.un)]) (fun x:Nat×Fd=>l.length-x.1) (fun x:Nat×Fd=>x.1≤l.length∧(∃ K',x.2.le K'∧K'+(1+(l.length-x.1) * bdP d)≤1000000000)∧x.2.add (zYC (l.drop x.1) d)=c.add (zYC l d)) ((0,c)) ?_ ⟨Nat.zero_le _,⟨K,hc,hK0⟩,by simp⟩ ?_
  focus (simp (maxSteps:=2000000) only [go_sem,zAf,zAl,zAz,zAg];all_goals (repeat' (first|exact trivial|exact zAm (by omega)|exact zAi rfl|exact zAx rfl|exact zAs|exact le_refl _|refine And.intro ?_ ?_)))
  rintro ⟨i,a⟩ ⟨hi,⟨K',ha,hK'⟩,hsum⟩
  simp only at hi ha hK' hsum
  try simp (maxSteps:=2000000) only [go_sem]
  repeat with_reducible refine zAb ?_
  have hbx:bd d≤1000000000:=by omega
  refine zAc (by rfl) trivial (fun h2=>?_) (fun h2=>?_)
  ·have hil:i < l.length:=by simp at h2;omega
   rw [zCQ (d:=default) hil] at hsum
   obtain ⟨p,hp⟩:∃ p,p=l.getD i default:=⟨_,rfl⟩
   rw [←hp] at hsum
   have hg:(yBF l).getD i []=[.sl 2 (yC5 p.steps),.sl 1 (zAS p.links)]:=by rw [zUb l i hil,←hp,zHB]
   have hsz:SizeOf.sizeOf p.steps≤N:=by
    have h3:=yEQ p
    have h4:=yLd hil
    rw [←hp] at h4
    omega
   have hmul:(l.length-i) * bdP d=bdP d+(l.length-(i+1)) * bdP d:=by
    have:l.length-i=(l.length-(i+1))+1:=by omega
    rw [this,Nat.add_mul];omega
   have hbp:bdP d=4+5 * bdS d:=rfl
   have hin:(bif decide ((p.steps.length:Int) < 1) then true else decide (5 < (p.steps.length:Int)))=false→inR .i64 ((p.steps.length:Int)-1):=by
    intro h5
    have:¬ 5 < (p.steps.length:Int):=by
     intro h6
     rw [decide_eq_true h6] at h5
     cases hq:decide ((p.steps.length:Int) < 1)<;>rw [hq] at h5<;>cases h5
    exact zPo (by omega) (by omega)
   try simp (maxSteps:=2000000) only [go_sem,hg]
   repeat with_reducible refine zAb ?_
   have hpb:(bif bif decide ((p.steps.length:Int) < 1) then true else decide (5 < (p.steps.length:Int)) then true else (p.links.length:Int) != (p.steps.length:Int)-1)=zYY p:=by
    have e2:decide ((p.steps.length:Int) < 1)=decide (p.steps.length < 1):=decide_eq_decide.2 (by omega)
    have e3:decide (5 < (p.steps.length:Int))=decide (5 < p.steps.length):=decide_eq_decide.2 (by omega)
    have e4:((p.links.length:Int) != (p.steps.length:Int)-1)=decide ((p.links.length:Int)≠p.steps.length-1):=by
     by_cases h5:(p.links.length:Int)=(p.steps.length:Int)-1<;>simp [h5]
    unfold zYY
    rw [e2,e3,e4]
    cases decide (p.steps.length < 1)<;>cases decide (5 < p.steps.length)<;>rfl
   simp only [zYC] at hsum
   refine zAc (by rfl) trivial (fun h3=>?_) (fun h3=>?_)
   ·rw [hpb] at h3
    rw [if_pos h3] at hsum
    rw [←hsum]
    try simp (maxSteps:=2000000) only [go_sem]
    repeat with_reducible refine zAb ?_
    have hm:=ha.m
    refine zDI (by repeat' constructor) (zVS a true (by omega)) ?_
    try simp (maxSteps:=2000000) only [go_sem]
    repeat with_reducible refine zAb ?_
    exact zT3 rfl rfl
   ·rw [hpb] at h3
    rw [if_neg (by rw [h3];simp)] at hsum
    have hpl:p.steps.length≤5∧(p.links.length:Int)=p.steps.length-1:=by
     simp only [zYY,Bool.or_eq_false_iff,decide_eq_false_iff_not] at h3
     omega
    have hK1:K'+(p.links.length-0)≤K'+4:=by omega
    try simp (maxSteps:=2000000) only [go_sem]
    repeat with_reducible refine zAb ?_
    refine zAv (fun x:Nat×Fd=>[(9,.un),(57,.pv (iv x.1)),(58,.un),(67,.un),(84,.pv (.one (bI x.2.f))),(85,.pv (.one (bI x.2.m))),(86,.pv (.one (bI x.2.r))),(87,.pv (.one (bI x.2.k)))]) (fun x:Nat×Fd=>p.links.length-x.1) (fun x:Nat×Fd=>x.1≤p.links.length∧(∃ K2,x.2.le K2∧K2+(p.links.length-x.1)≤K'+4)∧x.2.add (yAS (p.links.drop x.1))=a.add (yAS p.links)) ((0,a)) ?_ ⟨Nat.zero_le _,⟨K',ha,hK1⟩,by simp⟩ ?_
    focus (simp (maxSteps:=2000000) only [go_sem,zAf,zAl,zAz,zAg];all_goals (repeat' (first|exact trivial|exact zAm (by omega)|exact zAi rfl|exact zAx rfl|exact zAs|exact le_refl _|refine And.intro ?_ ?_)))
    rintro ⟨j,b⟩ ⟨hj,⟨K2,hb,hK2⟩,hsb⟩
    simp only at hj hb hK2 hsb
    try simp (maxSteps:=2000000) only [go_sem]
    repeat with_reducible refine zAb ?_
    refine zAc (by rfl) trivial (fun h4=>?_) (fun h4=>?_)
    ·have hjl:j < p.links.length:=by simp at h4;omega
     rw [zCQ (d:=0) hjl] at hsb
     have hg2:=zEu p.links j hjl
     obtain ⟨v,hv⟩:∃ v,v=p.links.getD j 0:=⟨_,rfl⟩
     rw [←hv] at hg2 hsb
     have hvb:(bif decide (v < 1) then true else decide (4 < v))=zYX v:=by
      unfold zYX
      by_cases h5:v < 1<;>by_cases h6:4 < v<;>simp [h5,h6]<;>omega
     have hk:=hb.k
     try simp (maxSteps:=2000000) only [go_sem,hg2]
     repeat with_reducible refine zAb ?_
     refine zDI (by repeat' constructor) (yAZ b (bif decide (v < 1) then true else decide (4 < v)) (by omega)) ?_
     try simp (maxSteps:=2000000) only [go_sem,hvb]
     repeat with_reducible refine zAb ?_
     refine ⟨(j+1,b.add (fK (zYX v))),by simp only;omega,⟨by simp only;omega,⟨K2+1,hb.le_add (yHg _),by simp only;omega⟩,?_⟩,?_⟩
     ·simp only
      rw [←hsb,Fd.add_assoc]
      congr 1
      simp only [yAS,Fd.add,fK,List.countP_cons,nB]
      congr 1
      split<;>omega
     ·simp (maxSteps:=2000000) only [go_sem,zAf,zAl,zAz,zAg]
      all_goals (repeat' (first|exact trivial|exact zAm (by omega)|exact zAi rfl|exact zAx rfl|exact zAs|exact le_refl _|refine And.intro ?_ ?_))
    ·have hjl:j=p.links.length:=by simp at h4;omega
     subst hjl
     rw [List.drop_length] at hsb
     have e5:b=a.add (yAS p.links):=by
      rw [←hsb]
      simp [yAS,Fd.add]
     have hK3:K2≤K'+4:=by omega
     have hK4:K2+(p.steps.length-0) * bdS d≤K'+bdP d:=by
      have:(p.steps.length-0) * bdS d≤5 * bdS d:=Nat.mul_le_mul_right _ (by omega)
      omega
     try simp (maxSteps:=2000000) only [go_sem]
     repeat with_reducible refine zAb ?_
     refine zAv (fun x:Nat×Fd=>[(11,.un),(73,.pv (iv x.1)),(74,.un),(84,.pv (.one (bI x.2.f))),(85,.pv (.one (bI x.2.m))),(86,.pv (.one (bI x.2.r))),(87,.pv (.one (bI x.2.k))),(90,.un),(91,.un)]) (fun x:Nat×Fd=>p.steps.length-x.1) (fun x:Nat×Fd=>x.1≤p.steps.length∧(∃ K3,x.2.le K3∧K3+(p.steps.length-x.1) * bdS d≤K'+bdP d)∧x.2.add (yAT (p.steps.drop x.1) d)=b.add (yAT p.steps d)) ((0,b)) ?_ ⟨Nat.zero_le _,⟨K2,hb,hK4⟩,by simp⟩ ?_
     focus (simp (maxSteps:=2000000) only [go_sem,zAf,zAl,zAz,zAg];all_goals (repeat' (first|exact trivial|exact zAm (by omega)|exact zAi rfl|exact zAx rfl|exact zAs|exact le_refl _|refine And.intro ?_ ?_)))
     rintro ⟨k,e6⟩ ⟨hk,⟨K3,he6,hK5⟩,hse⟩
     simp only at hk he6 hK5 hse
     try simp (maxSteps:=2000000) only [go_sem]
     repeat with_reducible refine zAb ?_
     refine zAc (by rfl) trivial (fun h6=>?_) (fun h6=>?_)
     ·have hkl:k < p.steps.length:=by simp at h6;omega
      rw [zCQ (d:=default) hkl] at hse
      obtain ⟨q,hq⟩:∃ q,q=p.steps.getD k default:=⟨_,rfl⟩
      rw [←hq] at hse
      have hg3:(yC5 p.steps).getD k []=[bS q.tag,.sl 6 (yD6 q.tests)]:=by rw [zUa _ k hkl,←hq,zS3]
      have hqs:SizeOf.sizeOf q≤N:=by
       have h7:=yLc hkl
       rw [←hq] at h7
       omega
      have hmul2:(p.steps.length-k) * bdS d=bdS d+(p.steps.length-(k+1)) * bdS d:=by
       have:p.steps.length-k=(p.steps.length-(k+1))+1:=by omega
       rw [this,Nat.add_mul];omega
      have hst:=ih.2 q d K3 e6 hqs hd3.1 he6 (by omega)
      rw [zS3] at hst
      unfold fdV at hst
      try simp (maxSteps:=2000000) only [go_sem,hg3]
      repeat with_reducible refine zAb ?_
      refine zDI (by repeat' constructor) (hst) ?_
      try simp (maxSteps:=2000000) only [go_sem]
      repeat with_reducible refine zAb ?_
      refine ⟨(k+1,e6.add (ntS q d)),by simp only;omega,⟨by simp only;omega,⟨K3+bdS d,he6.le_add (b_S q d),by simp only;omega⟩,?_⟩,?_⟩
      ·simp only [yAT] at hse ⊢
       rw [←hse,Fd.add_assoc]
      ·simp (maxSteps:=2000000) only [go_sem,zAf,zAl,zAz,zAg]
       all_goals (repeat' (first|exact trivial|exact zAm (by omega)|exact zAi rfl|exact zAx rfl|exact zAs|exact le_refl _|refine And.intro ?_ ?_))
     ·have hkl:k=p.steps.length:=by simp at h6;omega
      subst hkl
      rw [List.drop_length] at hse
      have e7:e6=b.add (yAT p.steps d):=by rw [←hse];rfl
      try simp (maxSteps:=2000000) only [go_sem]
      repeat with_reducible refine zAb ?_
      refine ⟨(i+1,e6),by simp only;omega,⟨by simp only;omega,⟨K3,he6,by simp only;omega⟩,?_⟩,?_⟩
      ·simp only
       rw [←hsum,e7,e5,yJC,Fd.add_assoc,Fd.add_assoc,Fd.add_assoc]
      ·simp (maxSteps:=2000000) only [go_sem,zAf,zAl,zAz,zAg]
       all_goals (repeat' (first|exact trivial|exact zAm (by omega)|exact zAi rfl|exact zAx rfl|exact zAs|exact le_refl _|refine And.intro ?_ ?_))
  ·have hil:i=l.length:=by simp at h2;omega
   subst hil
   rw [List.drop_length] at hsum
   try simp (maxSteps:=2000000) only [go_sem]
   repeat with_reducible refine zAb ?_
   rw [←hsum]
   exact zCd rfl rfl
end Go.Hx
end

section
set_option maxRecDepth 100000
set_option linter.unusedSimpArgs false
set_option maxHeartbeats 4000000
namespace Go.Hx
open Go.Proofs
variable [Glob]
attribute [local go_sem] zAt zAp zAn zAj ndV zAq zAk zB8 entV
attribute [local go_sem] reduceCtorEq Nat.reduceAdd Nat.reduceEqDiff reduceIte Nat.reduceLeDiff Nat.reduceLT Nat.reduceSub
theorem yE9 {n:Nat} (h:n * 8≤140737488355328):zMx Tryz.prog zAC n:=.inr ⟨8,by kernel_rfl,by simp only [maxLen];omega,h⟩
theorem zZS (l:List Int) (h:l.length * 8≤140737488355328):Contract Tryz.prog zCX [.val (.one (.sl 1 (zAS l)))] {res:=.own zAC 1 (zAS l)}:=by
 have hr:=yE9 h
 refine mkA zKp (base:=0) (fo rfl) (fun hfit=>?_)
 unfold F0 zFj
 simp (maxSteps:=2000000) only [zAJ,List.set_cons_succ,List.set_cons_zero,List.map_cons,List.map_nil,zAH,zAa,ioOf,List.length_cons,List.length_nil,Nat.reduceAdd,Nat.reduceSub,List.replicate,List.cons_append,List.nil_append]
 try simp (maxSteps:=2000000) only [go_sem]
 repeat with_reducible refine zAb ?_
 intro b hb
 refine zAc (by rfl) trivial (fun h1=>?_) (fun h1=>?_)
 ·try simp (maxSteps:=2000000) only [go_sem]
  repeat with_reducible refine zAb ?_
  have:zAS l=[]:=by
   cases hl:zAS l with
   |nil=>rfl
   |cons x y=>have:=hb (by rw [hl];simp);rw [this] at h1;cases h1
  rw [this]
  exact zME rfl
 ·try simp (maxSteps:=2000000) only [go_sem]
  repeat with_reducible refine zAb ?_
  exact zME rfl
theorem zZT (a b:List Int):Contract Tryz.prog zCY [.val (.one (.sl 1 (zAS a))),.val (.one (.sl 1 (zAS b)))] {res:=.val (bv (a==b))}:=by
 refine mkA zKA (base:=0) (fo rfl) (fun hfit=>?_)
 unfold F0 zFk
 simp (maxSteps:=2000000) only [zAJ,List.set_cons_succ,List.set_cons_zero,List.map_cons,List.map_nil,zAH,zAa,ioOf,List.length_cons,List.length_nil,Nat.reduceAdd,Nat.reduceSub,List.replicate,List.cons_append,List.nil_append]
 try simp (maxSteps:=2000000) only [go_sem]
 repeat with_reducible refine zAb ?_
 have ha:=zDg (k:=1) hfit.1
 rw [zAj] at ha
 refine zAc (by rfl) trivial (fun h1=>?_) (fun h1=>?_)
 ·try simp (maxSteps:=2000000) only [go_sem]
  repeat with_reducible refine zAb ?_
  refine zAd rfl trivial (.inl ?_)
  congr 3
  have:a≠b:=by rintro rfl;simp at h1
  simp [this]
 have hl:a.length=b.length:=by simp at h1;omega
 try simp (maxSteps:=2000000) only [go_sem]
 repeat with_reducible refine zAb ?_
 refine zAv (fun i:Nat=>[(13,.pv (iv i)),(4,.un),(5,.un),(14,.un),(24,.un)]) (fun i:Nat=>a.length-i) (fun i:Nat=>i≤a.length∧(a.drop i==b.drop i)=(a==b)) (0) ?_ ⟨Nat.zero_le _,rfl⟩ ?_
 focus (simp (maxSteps:=2000000) only [go_sem,zAf,zAl,zAz,zAg];all_goals (repeat' (first|exact trivial|exact zAm (by omega)|exact zAi rfl|exact zAx rfl|exact zAs|exact le_refl _|refine And.intro ?_ ?_)))
 rintro i ⟨hi,hinv⟩
 try simp (maxSteps:=2000000) only [go_sem]
 repeat with_reducible refine zAb ?_
 refine zAc (by rfl) trivial (fun h2=>?_) (fun h2=>?_)
 ·have hil:i < a.length:=by simp at h2;omega
  have hib:i < b.length:=by omega
  rw [zCQ (d:=0) hil,zCQ (d:=0) hib] at hinv
  have e1:=zEu a i hil
  have e2:=zEu b i hib
  try simp (maxSteps:=2000000) only [go_sem,e1,e2]
  repeat with_reducible refine zAb ?_
  refine zAc (by rfl) trivial (fun h3=>?_) (fun h3=>?_)
  ·try simp (maxSteps:=2000000) only [go_sem]
   repeat with_reducible refine zAb ?_
   refine zAd rfl trivial (.inl ?_)
   congr 3
   rw [←hinv]
   have:(a.getD i 0==b.getD i 0)=false:=by
    have h4:a.getD i 0≠b.getD i 0:=by simpa using h3
    exact beq_false_of_ne h4
   simp only [List.cons_beq_cons,this,Bool.false_and]
  ·have h4:a.getD i 0=b.getD i 0:=by simpa using h3
   rw [h4] at hinv
   simp only [List.cons_beq_cons,beq_self_eq_true,Bool.true_and] at hinv
   try simp (maxSteps:=2000000) only [go_sem]
   repeat with_reducible refine zAb ?_
   refine ⟨i+1,by omega,⟨by omega,hinv⟩,?_⟩
   simp (maxSteps:=2000000) only [go_sem,zAf,zAl,zAz,zAg]
   all_goals (repeat' (first|exact trivial|exact zAm (by omega)|exact zAi rfl|exact zAx rfl|exact zAs|exact le_refl _|refine And.intro ?_ ?_))
 ·have hil:i=a.length:=by simp at h2;omega
  try simp (maxSteps:=2000000) only [go_sem]
  repeat with_reducible refine zAb ?_
  refine zAd rfl trivial (.inl ?_)
  congr 3
  rw [←hinv,hil,List.drop_length,hl,List.drop_length]
  rfl
theorem yHn (a b:Ent):(a==b)=(decide (yEc a.key b.key=0)&&(a.nodes==b.nodes)):=by
 rw [Bool.eq_iff_iff]
 simp only [beq_iff_eq,Bool.and_eq_true,decide_eq_true_eq,yDk]
 constructor
 ·rintro rfl;exact ⟨rfl,rfl⟩
 ·rintro ⟨h1,h2⟩;exact Ent.ext' h1 h2
theorem yFa (a b:Ent):Contract Tryz.prog zDs [.val (.agg (entV a)),.val (.agg (entV b))] {res:=.val (bv (a==b))}:=by
 have h1:=yHm a b
 have h2:=zZT a.nodes b.nodes
 rw [yHn]
 unfold entV at h1 ⊢
 obtain ⟨o,ho⟩:∃ o,o=yEc a.key b.key:=⟨_,rfl⟩
 rw [←ho] at h1 ⊢
 refine mkA zQq (base:=0) (fo rfl) (fun hfit=>?_)
 unfold F0 zJx
 simp (maxSteps:=2000000) only [zAJ,List.set_cons_succ,List.set_cons_zero,List.map_cons,List.map_nil,zAH,zAa,ioOf,List.length_cons,List.length_nil,Nat.reduceAdd,Nat.reduceSub,List.replicate,List.cons_append,List.nil_append]
 try simp (maxSteps:=2000000) only [go_sem]
 repeat with_reducible refine zAb ?_
 refine zAw (by repeat' constructor) (h1) ?_
 try simp (maxSteps:=2000000) only [go_sem]
 repeat with_reducible refine zAb ?_
 apply zAu (h2:=fun _=>h2)
 ·(simp (maxSteps:=2000000) only [go_sem];rfl)
 ·intro h;repeat' (first|exact trivial|exact h|refine And.intro ?_ ?_)
 try simp (maxSteps:=2000000) only [go_sem]
 repeat with_reducible refine zAb ?_
 refine zAd rfl trivial (.inl ?_)
 congr 3
 by_cases h:o=0<;>simp [h]
theorem zZU (a b:List Ent):Contract Tryz.prog zBP [.val (.one (.sl 3 (zCj a))),.val (.one (.sl 3 (zCj b))),.val (.one (.clo zDs []))] {res:=.val (bv (a==b))}:=by
 refine mkA zFL (base:=0) (fo rfl) (fun hfit=>?_)
 unfold F0 zC3
 simp (maxSteps:=2000000) only [zAJ,List.set_cons_succ,List.set_cons_zero,List.map_cons,List.map_nil,zAH,zAa,ioOf,List.length_cons,List.length_nil,Nat.reduceAdd,Nat.reduceSub,List.replicate,List.cons_append,List.nil_append]
 try simp (maxSteps:=2000000) only [go_sem]
 repeat with_reducible refine zAb ?_
 have ha:=zDg (k:=3) hfit.1
 rw [zB8] at ha
 refine zAc (by rfl) trivial (fun h1=>?_) (fun h1=>?_)
 ·try simp (maxSteps:=2000000) only [go_sem]
  repeat with_reducible refine zAb ?_
  refine zAd rfl trivial (.inl ?_)
  congr 3
  have:a≠b:=by rintro rfl;simp at h1
  simp [this]
 have hl:a.length=b.length:=by simp at h1;omega
 try simp (maxSteps:=2000000) only [go_sem]
 repeat with_reducible refine zAb ?_
 refine zAv (fun i:Nat=>[(17,.pv (iv i)),(6,.un),(7,.un),(8,.un),(9,.un),(18,.un),(30,.un),(32,.un),(33,.un),(34,.un),(35,.un),(36,.un),(37,.un)]) (fun i:Nat=>a.length-i) (fun i:Nat=>i≤a.length∧(a.drop i==b.drop i)=(a==b)) (0) ?_ ⟨Nat.zero_le _,rfl⟩ ?_
 focus (simp (maxSteps:=2000000) only [go_sem,zAf,zAl,zAz,zAg];all_goals (repeat' (first|exact trivial|exact zAm (by omega)|exact zAi rfl|exact zAx rfl|exact zAs|exact le_refl _|refine And.intro ?_ ?_)))
 rintro i ⟨hi,hinv⟩
 try simp (maxSteps:=2000000) only [go_sem]
 repeat with_reducible refine zAb ?_
 refine zAc (by rfl) trivial (fun h2=>?_) (fun h2=>?_)
 ·have hil:i < a.length:=by simp at h2;omega
  have hib:i < b.length:=by omega
  rw [zCQ (d:=default) hil,zCQ (d:=default) hib] at hinv
  have e1:=zGv a i hil
  have e2:=zGv b i hib
  have hc:=yFa (a.getD i default) (b.getD i default)
  unfold entV at e1 e2 hc
  try simp (maxSteps:=2000000) only [go_sem,e1,e2]
  repeat with_reducible refine zAb ?_
  refine zDf (by rfl) trivial (by repeat' constructor) (hc) ?_
  try simp (maxSteps:=2000000) only [go_sem]
  repeat with_reducible refine zAb ?_
  refine zAc (by rfl) trivial (fun h3=>?_) (fun h3=>?_)
  ·try simp (maxSteps:=2000000) only [go_sem]
   repeat with_reducible refine zAb ?_
   refine zAd rfl trivial (.inl ?_)
   congr 3
   rw [←hinv]
   have h4:(a.getD i default==b.getD i default)=false:=by simpa using h3
   simp only [List.cons_beq_cons,h4,Bool.false_and]
  ·have h4:(a.getD i default==b.getD i default)=true:=by simpa using h3
   simp only [List.cons_beq_cons,h4,Bool.true_and] at hinv
   try simp (maxSteps:=2000000) only [go_sem]
   repeat with_reducible refine zAb ?_
   refine ⟨i+1,by omega,⟨by omega,hinv⟩,?_⟩
   simp (maxSteps:=2000000) only [go_sem,zAf,zAl,zAz,zAg]
   all_goals (repeat' (first|exact trivial|exact zAm (by omega)|exact zAi rfl|exact zAx rfl|exact zAs|exact le_refl _|refine And.intro ?_ ?_))
 ·have hil:i=a.length:=by simp at h2;omega
  try simp (maxSteps:=2000000) only [go_sem]
  repeat with_reducible refine zAb ?_
  refine zAd rfl trivial (.inl ?_)
  congr 3
  rw [←hinv,hil,List.drop_length,hl,List.drop_length]
  rfl
theorem zG0 (a b:Ent) (z z':PV):Contract Tryz.prog zBF [.val (.agg [bI a.kind,bS a.name,z]),.val (.agg [bI b.kind,bS b.name,z'])] {res:=.val (bv (zAI b.key a.key))}:=by
 unfold zAI
 show Contract Tryz.prog _ _ {res:=.val (bv (if b.kind=a.kind then Op.bytesLess b.name a.name else decide (b.kind < a.kind)))}
 refine mkA zOl (base:=0) (fo rfl) (fun hfit=>?_)
 unfold F0 zIl
 simp (maxSteps:=2000000) only [zAJ,List.set_cons_succ,List.set_cons_zero,List.map_cons,List.map_nil,zAH,zAa,ioOf,List.length_cons,List.length_nil,Nat.reduceAdd,Nat.reduceSub,List.replicate,List.cons_append,List.nil_append]
 try simp (maxSteps:=2000000) only [go_sem]
 repeat with_reducible refine zAb ?_
 refine zAc (by rfl) trivial (fun h1=>?_) (fun h1=>?_)
 ·try simp (maxSteps:=2000000) only [go_sem]
  repeat with_reducible refine zAb ?_
  refine zAd rfl trivial (.inl ?_)
  have h2:b.kind≠a.kind:=by intro e;simp [e] at h1
  rw [if_neg h2]
 ·have h2:a.kind=b.kind:=by simpa using h1
  try simp (maxSteps:=2000000) only [go_sem]
  repeat with_reducible refine zAb ?_
  refine zAd rfl trivial (.inl ?_)
  congr 3
  rw [if_pos h2.symm,Bool.eq_iff_iff]
  cases h3:Op.bytesLess b.name a.name with
  |true=>
   have h4:Op.bytesLess a.name b.name=false:=by
    cases h5:Op.bytesLess a.name b.name with
    |false=>rfl
    |true=>have:=zJJ _ _ _ h3 h5;rw [zHA] at this;cases this
   rw [h4]
   have h6:a.name≠b.name:=by intro e;rw [e,zHA] at h3;cases h3
   simp [h6]
  |false=>
   cases h5:Op.bytesLess a.name b.name with
   |true=>simp
   |false=>simp [zPp _ _ h5 h3]
end Go.Hx
end

section
set_option maxRecDepth 100000
set_option linter.unusedSimpArgs false
set_option maxHeartbeats 4000000
namespace Go.Hx
open Go.Proofs
variable [Glob]
attribute [local go_sem] zAt zAp zAn zAj ndV zAq zAk zB8
attribute [local go_sem] reduceCtorEq Nat.reduceAdd Nat.reduceEqDiff reduceIte Nat.reduceLeDiff Nat.reduceLT Nat.reduceSub
theorem zNc (a b:List Ent):Contract Tryz.prog zDu [.val (.one (.sl 3 (zCj a))),.val (.one (.sl 3 (zCj b)))] {res:=.val (bv (a==b))}:=by
 refine mkA zLX (base:=0) (fo rfl) (fun hfit=>?_)
 unfold F0 zGu
 simp (maxSteps:=2000000) only [zAJ,List.set_cons_succ,List.set_cons_zero,List.map_cons,List.map_nil,zAH,zAa,ioOf,List.length_cons,List.length_nil,Nat.reduceAdd,Nat.reduceSub,List.replicate,List.cons_append,List.nil_append]
 try simp (maxSteps:=2000000) only [go_sem]
 repeat with_reducible refine zAb ?_
 have ha:=zDg (k:=3) hfit.1
 rw [zB8] at ha
 refine zAc (by rfl) trivial (fun h1=>?_) (fun h1=>?_)
 ·try simp (maxSteps:=2000000) only [go_sem]
  repeat with_reducible refine zAb ?_
  refine zAd rfl trivial (.inl ?_)
  congr 3
  have:a≠b:=by rintro rfl;simp at h1
  simp [this]
 have hl:a.length=b.length:=by simp at h1;omega
 try simp (maxSteps:=2000000) only [go_sem]
 repeat with_reducible refine zAb ?_
 refine zAv (fun i:Nat=>[(5,.pv (iv i)),(4,.un),(14,.un),(54,.un)]) (fun i:Nat=>a.length-i) (fun i:Nat=>i≤a.length∧(a.drop i==b.drop i)=(a==b)) (0) ?_ ⟨Nat.zero_le _,rfl⟩ ?_
 focus (simp (maxSteps:=2000000) only [go_sem,zAf,zAl,zAz,zAg];all_goals (repeat' (first|exact trivial|exact zAm (by omega)|exact zAi rfl|exact zAx rfl|exact zAs|exact le_refl _|refine And.intro ?_ ?_)))
 rintro i ⟨hi,hinv⟩
 try simp (maxSteps:=2000000) only [go_sem]
 repeat with_reducible refine zAb ?_
 refine zAc (by rfl) trivial (fun h2=>?_) (fun h2=>?_)
 ·have hil:i < a.length:=by simp at h2;omega
  have hib:i < b.length:=by omega
  rw [zCQ (d:=default) hil,zCQ (d:=default) hib] at hinv
  have e1:=zGv a i hil
  have e2:=zGv b i hib
  obtain ⟨x,hx⟩:∃ x,x=a.getD i default:=⟨_,rfl⟩
  obtain ⟨y,hy⟩:∃ y,y=b.getD i default:=⟨_,rfl⟩
  rw [←hx,←hy] at hinv
  rw [←hx] at e1
  rw [←hy] at e2
  have hc:=zDO x.nodes y.nodes
  unfold entV at e1 e2
  have hxy:(x==y)=((x.kind==y.kind)&&(x.name==y.name)&&decide (x.nodes=y.nodes)):=by
   rw [Bool.eq_iff_iff]
   simp only [beq_iff_eq,Bool.and_eq_true,decide_eq_true_eq]
   constructor
   ·rintro rfl;exact ⟨⟨rfl,rfl⟩,rfl⟩
   ·rintro ⟨⟨h1,h2⟩,h3⟩;exact Ent.ext' (Prod.ext h1 h2) h3
  try simp (maxSteps:=2000000) only [go_sem,e1,e2]
  repeat with_reducible refine zAb ?_
  apply zAu (h2:=fun _=>hc)
  ·(simp (maxSteps:=2000000) only [go_sem];rfl)
  ·intro h;repeat' (first|exact trivial|exact h|refine And.intro ?_ ?_)
  try simp (maxSteps:=2000000) only [go_sem]
  repeat with_reducible refine zAb ?_
  refine zAc (by rfl) trivial (fun g3=>?_) (fun g3=>?_)
  ·try simp (maxSteps:=2000000) only [go_sem]
   repeat with_reducible refine zAb ?_
   refine zAd rfl trivial (.inl ?_)
   congr 3
   rw [←hinv]
   have:(x==y)=false:=by
    rw [hxy]
    revert g3
    cases h5:(x.kind==y.kind)<;>cases h6:(x.name==y.name)<;>cases h7:decide (x.nodes=y.nodes)<;>simp [bne,h5,h6,h7]
   simp only [List.cons_beq_cons,this,Bool.false_and]
  ·have:(x==y)=true:=by
    rw [hxy]
    revert g3
    cases h5:(x.kind==y.kind)<;>cases h6:(x.name==y.name)<;>cases h7:decide (x.nodes=y.nodes)<;>simp [bne,h5,h6,h7]
   simp only [List.cons_beq_cons,this,Bool.true_and] at hinv
   try simp (maxSteps:=2000000) only [go_sem]
   repeat with_reducible refine zAb ?_
   refine ⟨i+1,by omega,⟨by omega,hinv⟩,?_⟩
   simp (maxSteps:=2000000) only [go_sem,zAf,zAl,zAz,zAg]
   all_goals (repeat' (first|exact trivial|exact zAm (by omega)|exact zAi rfl|exact zAx rfl|exact zAs|exact le_refl _|refine And.intro ?_ ?_))
 ·have hil:i=a.length:=by simp at h2;omega
  try simp (maxSteps:=2000000) only [go_sem]
  repeat with_reducible refine zAb ?_
  refine zAd rfl trivial (.inl ?_)
  congr 3
  rw [←hinv,hil,List.drop_length,hl,List.drop_length]
  rfl
end Go.Hx
end

section
set_option maxRecDepth 100000
set_option linter.unusedSimpArgs false
set_option maxHeartbeats 4000000
namespace Go.Hx
open Go.Proofs
variable [Glob]
attribute [local go_sem] zAt zAp zAn zAj ndV zAq zAk zB8 entV zBs zBt
attribute [local go_sem] reduceCtorEq Nat.reduceAdd Nat.reduceEqDiff reduceIte Nat.reduceLeDiff Nat.reduceLT Nat.reduceSub
theorem zIy (l:List Ent) (k:Int) (nm:Bys) (hs:∀ e∈l,e.nodes.length * 8≤140737488355328):Contract Tryz.prog zDt [.val (.one (.sl 3 (zCj l))),.val (iv k),.val (sv nm)] {res:=.tup [.one (.sl 1 (zAS (yEb l k nm).1)),iv (yEb l k nm).2]}:=by
 unfold yEb
 refine mkA zVw (base:=0) (fo rfl) (fun hfit=>?_)
 unfold F0 zNO
 simp (maxSteps:=2000000) only [zAJ,List.set_cons_succ,List.set_cons_zero,List.map_cons,List.map_nil,zAH,zAa,ioOf,List.length_cons,List.length_nil,Nat.reduceAdd,Nat.reduceSub,List.replicate,List.cons_append,List.nil_append]
 try simp (maxSteps:=2000000) only [go_sem]
 repeat with_reducible refine zAb ?_
 have hfl:=zDg (k:=3) hfit.1
 rw [zB8] at hfl
 refine zAc (by rfl) trivial (fun g1=>?_) (fun g1=>?_)
 ·have h1:k < 1∨3 < k:=by
   by_cases h:k < 1
   ·exact .inl h
   ·right;simp [h] at g1;omega
  rw [if_pos h1]
  try simp (maxSteps:=2000000) only [go_sem]
  repeat with_reducible refine zAb ?_
  exact zBq (by simp) ⟨zA0 rfl trivial (.inr rfl),zA0 rfl trivial (.inl rfl),rfl⟩
 have h1:¬ (k < 1∨3 < k):=by
  by_cases h:k < 1
  ·simp [h] at g1
  ·simp [h] at g1;omega
 rw [if_neg h1]
 try simp (maxSteps:=2000000) only [go_sem]
 repeat with_reducible refine zAb ?_
 refine zAc (by rfl) trivial (fun g2=>?_) (fun g2=>?_)
 ·have h2:512 < l.length:=by simp at g2;omega
  rw [if_pos h2]
  try simp (maxSteps:=2000000) only [go_sem]
  repeat with_reducible refine zAb ?_
  exact zBq (by simp) ⟨zA0 rfl trivial (.inr rfl),zA0 rfl trivial (.inl rfl),rfl⟩
 have h2:¬ 512 < l.length:=by simp at g2;omega
 rw [if_neg h2]
 try simp (maxSteps:=2000000) only [go_sem]
 repeat with_reducible refine zAb ?_
 refine zAv (fun i:Nat=>[(21,.pv (iv i)),(6,.un),(7,.un),(9,.un),(22,.un),(34,.un)]) (fun i:Nat=>l.length-i) (fun i:Nat=>i≤l.length∧l.find? (fun e=>decide (e.key=(k,nm)))=(l.drop i).find? (fun e=>decide (e.key=(k,nm)))) (0) ?_ ⟨Nat.zero_le _,rfl⟩ ?_
 focus (simp (maxSteps:=2000000) only [go_sem,zAf,zAl,zAz,zAg];all_goals (repeat' (first|exact trivial|exact zAm (by omega)|exact zAi rfl|exact zAx rfl|exact zAs|exact le_refl _|refine And.intro ?_ ?_)))
 rintro i ⟨hi,hinv⟩
 try simp (maxSteps:=2000000) only [go_sem]
 repeat with_reducible refine zAb ?_
 refine zAc (by rfl) trivial (fun g3=>?_) (fun g3=>?_)
 ·have hil:i < l.length:=by simpa using g3
  have e1:=zGv l i hil
  rw [zCQ (d:=default) hil] at hinv
  have hmem:l.getD i default∈l:=by simp [hil]
  have hsz:=hs _ hmem
  obtain ⟨e,he⟩:∃ e,e=l.getD i default:=⟨_,rfl⟩
  rw [←he] at e1 hinv hsz
  have hC:=zZS e.nodes hsz
  unfold entV at e1
  try simp (maxSteps:=2000000) only [go_sem,e1]
  repeat with_reducible refine zAb ?_
  refine zAc (by rfl) trivial (fun g4=>?_) (fun g4=>?_)
  ·have hk:e.key=(k,nm):=by
    by_cases h:e.kind=k
    ·simp [h] at g4;exact Prod.ext h g4
    ·simp [h] at g4
   rw [List.find?_cons_of_pos (by simpa using hk)] at hinv
   have ha:atK l (k,nm)=e.nodes:=by unfold atK;rw [hinv];rfl
   rw [ha]
   try simp (maxSteps:=2000000) only [go_sem]
   repeat with_reducible refine zAb ?_
   refine zT2 (by repeat' constructor) (hC) ?_
   try simp (maxSteps:=2000000) only [go_sem]
   repeat with_reducible refine zAb ?_
   exact zBq (by simp) ⟨zA0 rfl trivial (.inl rfl),zA0 rfl trivial (.inl rfl),rfl⟩
  ·have hk:¬ e.key=(k,nm):=by
    intro h
    have h:(e.kind,e.name)=(k,nm):=h
    injection h with h3 h4
    simp [h3,h4] at g4
   rw [List.find?_cons_of_neg (by simpa using hk)] at hinv
   try simp (maxSteps:=2000000) only [go_sem]
   repeat with_reducible refine zAb ?_
   refine ⟨i+1,by omega,⟨by omega,hinv⟩,?_⟩
   simp (maxSteps:=2000000) only [go_sem,zAf,zAl,zAz,zAg]
   all_goals (repeat' (first|exact trivial|exact zAm (by omega)|exact zAi rfl|exact zAx rfl|exact zAs|exact le_refl _|refine And.intro ?_ ?_))
 ·have hil:i=l.length:=by simp at g3;omega
  rw [hil,List.drop_length] at hinv
  have ha:atK l (k,nm)=[]:=by unfold atK;rw [hinv];rfl
  rw [ha]
  try simp (maxSteps:=2000000) only [go_sem]
  repeat with_reducible refine zAb ?_
  exact zBq (by simp) ⟨zA0 rfl trivial (.inr rfl),zA0 rfl trivial (.inl rfl),rfl⟩
theorem yDn (d:List Nd) (z:PV) (h64:d.length≤64) (hcls:∀ i,i < d.length→(d.getD i default).cls.length≤6) {k:Int} (hk1:1≤k) (hk3:k≤3) (nm:Bys) (s:Bool×List Int) (hsl:s.2.length≤4224):
  zEp Tryz.prog zCP [.val (iv k),.val (sv nm)] [.v (.fp [z,.sl 3 (zCj (idxOf d))]),.io [bB s.1],.io [.sl 1 (zAS s.2)]] [[bB (zRe s (zUf d (k,nm))).1],[.sl 1 (zAS (zRe s (zUf d (k,nm))).2)]]:=by
 have hn:∀ e∈idxOf d,e.nodes.length * 8≤140737488355328:=fun e he=>by
  have h1:=((zE7 _ (zAW d d.length) rfl).2 e).1 he
  have h2:=zDL (zAW d d.length) e.key
  have h3:=zE9 d d.length fun i hi=>hcls i hi
  rw [h1.2];omega
 have hL:=zIy (idxOf d) k nm hn
 rw [yEZ d h64 hcls hk1 hk3] at hL
 have hnl:=(zPv (d:=d) h64 (fun i hi=>Nat.le_trans (hcls i hi) (by decide)) (k,nm)).2
 obtain ⟨N,hN⟩:∃ N,N=zUf d (k,nm):=⟨_,rfl⟩
 rw [←hN] at hL hnl ⊢
 obtain ⟨b,S⟩:=s
 refine zOv ⟨Nat.le_of_ble_eq_true rfl,(fun x hx=>by simp at hx;rcases hx with rfl|rfl<;>exact ⟨_,rfl⟩),rfl,rfl,rfl⟩ rfl ?_
 unfold F0c zER zDv
 simp only [zAJ,zEZ,zAa,zIQ,zWj,zAH,List.set_cons_succ,List.set_cons_zero,List.map_cons,List.map_nil,List.length_cons,List.length_nil,Nat.reduceAdd,Nat.reduceSub,List.replicate,List.cons_append,List.nil_append]
 try simp (maxSteps:=2000000) only [go_sem]
 repeat with_reducible refine zAb ?_
 refine zCi (by repeat' constructor) (hL) ?_
 try simp (maxSteps:=2000000) only [go_sem]
 repeat with_reducible refine zAb ?_
 have hS:S.length≤4224:=hsl
 refine zAc (by rfl) trivial (fun g1=>?_) (fun g1=>?_)
 ·have ht:zRe (b,S) N=(true,N):=by
   unfold zRe
   rw [if_pos]
   by_cases h:b=false
   ·exact .inl h
   ·right;simp [h] at g1;exact g1
  rw [ht]
  try simp (maxSteps:=2000000) only [go_sem]
  repeat with_reducible refine zAb ?_
  rfl
 ·have ht:zRe (b,S) N=(b,S):=by
   unfold zRe
   rw [if_neg]
   rintro (h|h)
   ·have h:b=false:=h
    simp [h] at g1
   ·have h:N.length < S.length:=h
    by_cases hb:b=false
    ·simp [hb] at g1
    ·simp [hb] at g1;omega
  rw [ht]
  try simp (maxSteps:=2000000) only [go_sem]
  repeat with_reducible refine zAb ?_
  rfl
def zQs (s:Bool×List Int):PV:=if s.1 then .sl 1 (zAS s.2) else .nl 1
theorem yB5 {s:Bool×List Int} (h:s.1=false→s.2=[]):(zQs s).norm=.sl 1 (zAS s.2):=by
 unfold zQs
 cases hs:s.1 with
 |true=>rfl
 |false=>rw [h hs];rfl
theorem yA0 (s:Bool×List Int) (l:List Int):(zRe s l).1=true:=by
 unfold zRe
 split
 ·rfl
 ·rename_i h
  cases hs:s.1 with
  |true=>rfl
  |false=>exact absurd (.inl hs) h
theorem yDo (s:Bool×List Int) (l:List Int):zQs (zRe s l)=.sl 1 (zAS (zRe s l).2):=by
 unfold zQs;rw [yA0];rfl
theorem zVT {s:Bool×List Int} {l:List Int} (h:s.2.length≤4224) (h2:l.length≤4224):(zRe s l).2.length≤4224:=by
 unfold zRe;split
 ·exact h2
 ·exact h
theorem zVU (d:List Nd) (h64:d.length≤64) (hcls:∀ i,i < d.length→(d.getD i default).cls.length≤6) (p:Pt) (h1:1≤p.steps.length) (h6:(zFt p).tests.length≤6):
  Contract Tryz.prog zFz [.val (.agg [.sl 5 (zNz d),.sl 3 (zCj (idxOf d))]),.val (.agg (ptV p))] {res:=.val (.one (.sl 1 (zAS (zPu d p))))}:=by
 have hc64:∀ i,i < d.length→(d.getD i default).cls.length≤64:=fun i hi=>Nat.le_trans (hcls i hi) (by decide)
 have hnd:=fun k=>(zPv (d:=d) h64 hc64 k).2
 have hx:=zUa p.steps (p.steps.length-1) (by omega)
 have hS1:∀ (k:Int) (nm:Bys) (s:Bool×List Int),1≤k→k≤3→(s.1=false→s.2=[])→s.2.length≤4224→zEp Tryz.prog zCP [.val (iv k),.val (sv nm)] [.v (.fp [.sl 5 (zNz d),.sl 3 (zCj (idxOf d))]),.io [bB s.1],.io [(zQs s).norm]] [[bB (zRe s (zUf d (k,nm))).1],[zQs (zRe s (zUf d (k,nm)))]]:=by
  intro k nm s h2 h3 h4 h5
  rw [yB5 h4,yDo]
  exact yDn d _ h64 hcls h2 h3 nm s h5
 have hseed:zPu d p=if ((zFt p).tests.foldl (zD1 d) (zFs d (zFt p))).1 then ((zFt p).tests.foldl (zD1 d) (zFs d (zFt p))).2 else yJ2 d:=rfl
 rw [hseed]
 have hlast:p.steps.getD (p.steps.length-1) default=zFt p:=rfl
 rw [hlast] at hx
 obtain ⟨S,hS⟩:∃ S,S=zFt p:=⟨_,rfl⟩
 rw [←hS] at hx h6 ⊢
 rw [zS3] at hx
 obtain ⟨sts,hsts⟩:∃ s,s=p.steps:=⟨_,rfl⟩
 rw [←hsts] at h1 hx
 rw [zHB,←hsts]
 have hsub:((sts.length:Int)-1).toNat=sts.length-1:=by omega
 refine mkA zR3 (base:=0) (fo rfl) (fun hfit=>?_)
 unfold F0 zLN
 simp (maxSteps:=2000000) only [zAJ,List.set_cons_succ,List.set_cons_zero,List.map_cons,List.map_nil,zAH,zAa,ioOf,List.length_cons,List.length_nil,Nat.reduceAdd,Nat.reduceSub,List.replicate,List.cons_append,List.nil_append]
 try simp (maxSteps:=2000000) only [go_sem]
 repeat with_reducible refine zAb ?_
 have hfl:=zDg (k:=2) hfit.2.1.1
 rw [zBt] at hfl
 try simp (maxSteps:=2000000) only [go_sem,hsub,hx]
 repeat with_reducible refine zAb ?_
 have hI:∀ i,((S.tests.take i).foldl (zD1 d) (zFs d S)).2.length≤4224∧(((S.tests.take i).foldl (zD1 d) (zFs d S)).1=false→((S.tests.take i).foldl (zD1 d) (zFs d S)).2=[]):=by
  have h0:(zFs d S).2.length≤4224∧((zFs d S).1=false→(zFs d S).2=[]):=by
   unfold zFs
   split
   ·exact ⟨Nat.zero_le _,fun _=>rfl⟩
   ·exact ⟨zVT (Nat.zero_le _) (hnd _),fun h=>by rw [yA0] at h;cases h⟩
  have hF:∀ (l:List Ts) (s:Bool×List Int),s.2.length≤4224∧(s.1=false→s.2=[])→(l.foldl (zD1 d) s).2.length≤4224∧((l.foldl (zD1 d) s).1=false→(l.foldl (zD1 d) s).2=[]):=by
   intro l
   induction l with
   |nil=>intro s h;exact h
   |cons t r ih=>
    intro s h
    rw [List.foldl_cons]
    refine ih _ ?_
    unfold zD1
    split
    ·exact ⟨zVT h.1 (hnd _),fun h=>by rw [yA0] at h;cases h⟩
    ·split
     ·exact ⟨zVT h.1 (hnd _),fun h=>by rw [yA0] at h;cases h⟩
     ·exact h
  exact fun i=>hF _ _ h0
 have hst:∀ i,i < S.tests.length→(S.tests.take (i+1)).foldl (zD1 d) (zFs d S)=zD1 d ((S.tests.take i).foldl (zD1 d) (zFs d S)) (S.tests.getD i default):=by
  intro i hi
  rw [List.take_succ_eq_append_getElem hi,List.foldl_append]
  simp [hi]
 refine zAc (by rfl) trivial (fun g1=>?_) (fun g1=>?_)
 have htg:S.tag≠[]:=by simpa using g1
 have e0:zRe (false,[]) (zUf d (1,S.tag))=zFs d S:=by unfold zFs;rw [if_neg htg]
 have hC:=hS1 1 S.tag (false,[]) (by decide) (by decide) (fun _=>rfl) (Nat.zero_le _)
 rw [e0] at hC
 try simp (maxSteps:=2000000) only [go_sem]
 repeat with_reducible refine zAb ?_
 refine yG1 (by rfl) (by repeat' constructor) (by rfl) hC ?_
 simp only [zEZ]
 try simp (maxSteps:=2000000) only [go_sem]
 repeat with_reducible refine zAb ?_
 rotate_left
 have htg:S.tag=[]:=by simpa using g1
 have e0:zFs d S=(false,[]):=by unfold zFs;rw [if_pos htg]
 try simp (maxSteps:=2000000) only [go_sem]
 repeat with_reducible refine zAb ?_
 all_goals
  refine zAv (fun i:Nat=>[(31,.pv (iv i)),(68,.pv (.one (bB ((S.tests.take i).foldl (zD1 d) (zFs d S)).1))),(67,.pv (.one (zQs ((S.tests.take i).foldl (zD1 d) (zFs d S))))),(69,.un),(70,.un),(71,.un),(72,.un),(73,.un),(74,.un),(10,.un),(32,.un),(36,.un),(37,.un),(43,.un)]) (fun i:Nat=>S.tests.length-i) (fun i:Nat=>i≤S.tests.length) (0) ?_ (Nat.zero_le _) ?_
  focus (simp (maxSteps:=2000000) only [go_sem,zAf,zAl,zAz,zAg];all_goals (repeat' (first|exact trivial|exact zAm (by omega)|exact zAi rfl|exact zAx rfl|exact zAs|exact le_refl _|refine And.intro ?_ ?_)))
  all_goals try (rw [e0];exact zAx rfl)
  intro i hi
  obtain ⟨hI1,hI2⟩:=hI i
  have hsti:=hst i
  obtain ⟨s,hs⟩:∃ s,s=(S.tests.take i).foldl (zD1 d) (zFs d S):=⟨_,rfl⟩
  rw [←hs] at hI1 hI2 hsti ⊢
  try simp (maxSteps:=2000000) only [go_sem]
  repeat with_reducible refine zAb ?_
  refine zAc (by rfl) trivial (fun g2=>?_) (fun g2=>?_)
  ·have hil:i < S.tests.length:=by simpa using g2
   have hy:=zT9 S.tests i hil
   have hsti:=hsti hil
   rw [zND] at hy
   obtain ⟨t,ht⟩:∃ t,t=S.tests.getD i default:=⟨_,rfl⟩
   rw [←ht] at hy hsti
   try simp (maxSteps:=2000000) only [go_sem,hy]
   repeat with_reducible refine zAb ?_
   refine zAc (by rfl) trivial (fun g3=>?_) (fun g3=>?_)
   ·have hk:t.kind=2:=by simpa using g3
    have hC:=hS1 2 t.name s (by decide) (by decide) hI2 hI1
    have e1:zRe s (zUf d (2,t.name))=zD1 d s t:=by unfold zD1;rw [if_pos hk]
    rw [e1,←hsti] at hC
    try simp (maxSteps:=2000000) only [go_sem]
    repeat with_reducible refine zAb ?_
    refine yG1 (by rfl) (by repeat' constructor) (by rfl) hC ?_
    simp only [zEZ]
    try simp (maxSteps:=2000000) only [go_sem]
    repeat with_reducible refine zAb ?_
    refine ⟨i+1,by omega,by omega,?_⟩
    simp (maxSteps:=2000000) only [go_sem,zAf,zAl,zAz,zAg]
    all_goals (repeat' (first|exact trivial|exact zAm (by omega)|exact zAi rfl|exact zAx rfl|exact zAs|exact le_refl _|refine And.intro ?_ ?_))
   ·have hk:¬ t.kind=2:=by simpa using g3
    try simp (maxSteps:=2000000) only [go_sem]
    repeat with_reducible refine zAb ?_
    refine zAc (by rfl) trivial (fun g4=>?_) (fun g4=>?_)
    ·have hk1:t.kind=1:=by simpa using g4
     have hC:=hS1 3 t.name s (by decide) (by decide) hI2 hI1
     have e1:zRe s (zUf d (3,t.name))=zD1 d s t:=by unfold zD1;rw [if_neg hk,if_pos hk1]
     rw [e1,←hsti] at hC
     try simp (maxSteps:=2000000) only [go_sem]
     repeat with_reducible refine zAb ?_
     refine yG1 (by rfl) (by repeat' constructor) (by rfl) hC ?_
     simp only [zEZ]
     try simp (maxSteps:=2000000) only [go_sem]
     repeat with_reducible refine zAb ?_
     refine ⟨i+1,by omega,by omega,?_⟩
     simp (maxSteps:=2000000) only [go_sem,zAf,zAl,zAz,zAg]
     all_goals (repeat' (first|exact trivial|exact zAm (by omega)|exact zAi rfl|exact zAx rfl|exact zAs|exact le_refl _|refine And.intro ?_ ?_))
    ·have hk1:¬ t.kind=1:=by simpa using g4
     have e1:s=zD1 d s t:=by unfold zD1;rw [if_neg hk,if_neg hk1]
     rw [←e1] at hsti
     try simp (maxSteps:=2000000) only [go_sem]
     repeat with_reducible refine zAb ?_
     refine ⟨i+1,by omega,by omega,?_⟩
     rw [hsti]
     simp (maxSteps:=2000000) only [go_sem,zAf,zAl,zAz,zAg]
     all_goals (repeat' (first|exact trivial|exact zAm (by omega)|exact zAi rfl|exact zAx rfl|exact zAs|exact le_refl _|refine And.intro ?_ ?_))
  ·have hil:i=S.tests.length:=by simp at g2;omega
   rw [hil,List.take_length] at hs
   rw [←hs]
   try simp (maxSteps:=2000000) only [go_sem]
   repeat with_reducible refine zAb ?_
   cases hs1:s.1 with
   |true=>
    have hb:zQs s=.sl 1 (zAS s.2):=by unfold zQs;rw [hs1];rfl
    rw [hb]
    try simp (maxSteps:=2000000) only [go_sem,hs1]
    repeat with_reducible refine zAb ?_
    refine zK5 (by rfl) trivial ?_
    try simp (maxSteps:=2000000) only [go_sem]
    repeat with_reducible refine zAb ?_
    exact zAd rfl trivial (.inl rfl)
   |false=>
    have hb:zQs s=.nl 1:=by unfold zQs;rw [hs1];rfl
    rw [hb]
    try simp (maxSteps:=2000000) only [go_sem,hs1]
    repeat with_reducible refine zAb ?_
    refine zPl (by rfl) trivial ?_
    try simp (maxSteps:=2000000) only [go_sem]
    repeat with_reducible refine zAb ?_
    refine zAv (fun j:Nat=>[(56,.pv (iv j)),(67,.own zAC 1 (zAS ((List.range j).map Int.ofNat))),(11,.un),(57,.un)]) (fun j:Nat=>d.length-j) (fun j:Nat=>j≤d.length) (0) ?_ (Nat.zero_le _) ?_
    focus (simp (maxSteps:=2000000) only [go_sem,zAf,zAl,zAz,zAg];all_goals (repeat' (first|exact trivial|exact zAm (by omega)|exact zAi rfl|exact zAx rfl|exact zAs|exact le_refl _|refine And.intro ?_ ?_)))
    intro j hj
    have hjl:((List.range j).map Int.ofNat).length≤64:=by simp;omega
    have hjs:zAS ((List.range (j+1)).map Int.ofNat)=zAS ((List.range j).map Int.ofNat)++[[bI (j:Int)]]:=by simp [List.range_succ,zAS]
    obtain ⟨L,hL⟩:∃ L,L=(List.range j).map Int.ofNat:=⟨_,rfl⟩
    rw [←hL] at hjl hjs ⊢
    try simp (maxSteps:=2000000) only [go_sem]
    repeat with_reducible refine zAb ?_
    refine zAc (by rfl) trivial (fun g5=>?_) (fun g5=>?_)
    ·have hjd:j < d.length:=by simpa using g5
     try simp (maxSteps:=2000000) only [go_sem]
     repeat with_reducible refine zAb ?_
     refine ⟨j+1,by omega,by omega,?_⟩
     rw [hjs]
     simp (maxSteps:=2000000) only [go_sem,zAf,zAl,zAz,zAg]
     all_goals (repeat' (first|exact trivial|exact zAm (by omega)|exact zAi rfl|exact zAx rfl|exact zAs|exact le_refl _|refine And.intro ?_ ?_))
    ·have hjd:j=d.length:=by simp at g5;omega
     have hall:L=yJ2 d:=by rw [hL,hjd];rfl
     try simp (maxSteps:=2000000) only [go_sem]
     repeat with_reducible refine zAb ?_
     rw [hall]
     exact zAd rfl trivial (.inl rfl)
end Go.Hx
end

section
/-
 The abstract code of functions of the program, printed by gen.py; each stands for the given one. No condition.
-/
namespace Go.Hx
open Go.Proofs
variable [Glob]
abbrev zC4:Nat:=100
abbrev zSm:HCode:=oN [oV 1 (.boxF (.t 0)),
  oV 2 (.mv (.c (.one (.nl 3)))),
  oV 3 (.mv (.c (iv 0)))]
abbrev zSn:HCode:=oR [oV 13 (.ldR (.t 1) 1 true),
  oC 14 zFa [(.t 13,.v)],
  oV 4 (.mv (.t 14))] [13,14]
abbrev zSo:HCode:=oR [oV 15 (.mv (.t 4)),
  oV 16 (.ints .neq (.t 15) (.c (iv 0)))] [15]
abbrev zSp:HCode:=oR [oV 17 (.mv (.t 4)),
  oV 2 (.mv (.c (.one (.nl 3)))),
  oV 3 (.mv (.t 17))] [17]
abbrev zSq:HCode:=oN [⟨none,.mmk 18⟩,
  oV 5 (.mv (.t 18))]
abbrev zSr:HCode:=oR [oV 19 (.fldR (.t 1) 0 1),
  oV 20 (.ldR (.t 19) 1 false),
  oV 21 (.len false (.t 20)),
  oV 22 (.mv (.c (iv 0)))] [19]
abbrev zSs:HCode:=oN [oV 23 (.ints .lss (.t 22) (.t 21))]
abbrev zSt:HCode:=oR [oV 24 (.mv (.t 22)),
  oV 25 (.idxA 5 (.t 20) (.t 22)),
  oV 26 (.ldR (.t 25) 5 true),
  ⟨none,.alloc 7 0 92 [.v (.int .i64 0),.v (mkS []),.v (mkS []),.nl 1,.nl 2]⟩,
  oV 6 (.mv (.t 24)),
  ⟨none,.sto (.t 7) 0 92 0 5 (.t 26)⟩] [24,25,26]
abbrev zSu:HCode:=oQ [oD 0 false (oV 27 (.mv (.t 5))),
  oD 1 false (oV 28 (.fldP (.t 7) 1)),
  oD 2 false (oV 29 (.ldB (.t 28) 0 92 1 1 false)),
  oD 3 false (oV 30 (.bld [.v (.int .i64 0),.v (mkS [])] [(0,1,.c (iv 1)),(1,1,.t 29)])),
  oD 4 false (oV 31 (.mv (.t 5))),
  oD 5 false (oV 32 (.fldP (.t 7) 1)),
  oD 6 false (oV 33 (.ldB (.t 32) 0 92 1 1 false)),
  oD 7 false (oV 34 (.bld [.v (.int .i64 0),.v (mkS [])] [(0,1,.c (iv 1)),(1,1,.t 33)])),
  oD 8 false ⟨none,.mpv 35 (.t 31) 18 3 (.t 34) zAC 1⟩,
  oD 9 false (oV 36 (.mv (.t 6))),
  oD 10 false (oV 37 (.bslF 1 [.t 36])),
  oD 11 false ⟨none,.vap 38 zAC 1 35 (.t 37)⟩,
  oD 12 false ⟨none,.mps (.t 27) 18 3 (.t 30) (.t 38)⟩] [27,28,29,30,31,32,33,34,35,36,37,38]
abbrev zSv:HCode:=oR [oV 39 (.fldP (.t 7) 2),
  oV 40 (.ldB (.t 39) 0 92 2 1 false),
  oV 41 (.strs .neq (.t 40) (.c (sv [])))] [39,40]
abbrev zQu:HCode:=oQ [oD 0 false (oV 42 (.mv (.t 5))),
  oD 1 false (oV 43 (.fldP (.t 7) 2)),
  oD 2 false (oV 44 (.ldB (.t 43) 0 92 2 1 false)),
  oD 3 false (oV 45 (.bld [.v (.int .i64 0),.v (mkS [])] [(0,1,.c (iv 2)),(1,1,.t 44)])),
  oD 4 false (oV 46 (.mv (.t 5))),
  oD 5 false (oV 47 (.fldP (.t 7) 2)),
  oD 6 false (oV 48 (.ldB (.t 47) 0 92 2 1 false)),
  oD 7 false (oV 49 (.bld [.v (.int .i64 0),.v (mkS [])] [(0,1,.c (iv 2)),(1,1,.t 48)])),
  oD 8 false ⟨none,.mpv 50 (.t 46) 18 3 (.t 49) zAC 1⟩,
  oD 9 false (oV 51 (.mv (.t 6))),
  oD 10 false (oV 52 (.bslF 1 [.t 51])),
  oD 11 false ⟨none,.vap 53 zAC 1 50 (.t 52)⟩,
  oD 12 false ⟨none,.mps (.t 42) 18 3 (.t 45) (.t 53)⟩] [42,43,44,45,46,47,48,49,50,51,52,53]
abbrev zQv:HCode:=oR [oV 54 (.fldP (.t 7) 3),
  oV 55 (.ldB (.t 54) 0 92 3 1 false),
  oV 56 (.len false (.t 55)),
  oV 57 (.mv (.c (iv 0)))] [54]
abbrev zQw:HCode:=oN [oV 58 (.ints .lss (.t 57) (.t 56))]
abbrev zQx:HCode:=oR [oV 59 (.idxA 1 (.t 55) (.t 57)),
  oV 60 (.ldR (.t 59) 1 false),
  oV 9 (.mv (.t 60))] [59,60]
abbrev zQy:HCode:=oR [oV 61 (.mv (.t 5)),
  oV 62 (.mv (.t 9)),
  oV 63 (.bld [.v (.int .i64 0),.v (mkS [])] [(0,1,.c (iv 3)),(1,1,.t 62)]),
  oV 64 (.mv (.t 5)),
  oV 65 (.mv (.t 9)),
  oV 66 (.bld [.v (.int .i64 0),.v (mkS [])] [(0,1,.c (iv 3)),(1,1,.t 65)]),
  ⟨none,.mpv 67 (.t 64) 18 3 (.t 66) zAC 1⟩,
  oV 68 (.mv (.t 6)),
  oV 69 (.bslF 1 [.t 68]),
  ⟨none,.vap 70 zAC 1 67 (.t 69)⟩,
  ⟨none,.mps (.t 61) 18 3 (.t 63) (.t 70)⟩] [61,62,63,64,65,66,67,68,69,70]
abbrev zQz:HCode:=oR [oV 71 (.ints .add (.t 57) (.c (iv 1))),
  oV 57 (.mv (.t 71))] [71]
abbrev zQA:HCode:=oR [oV 72 (.ints .add (.t 22) (.c (iv 1))),
  oV 22 (.mv (.t 72))] [72]
abbrev zQB:HCode:=oN [⟨none,.vnl 10 zAD 3⟩]
abbrev zQC:HCode:=.regG [.vfm 18] [oV 73 (.mv (.t 5)),
  ⟨none,.mrg 74 (.t 73) 18⟩] [.forget [73]]
abbrev zQD:HCode:=oR [⟨none,.mnx 75 74 18⟩,
  oV 76 (.ext 75 0)] [75]
abbrev zQE:HCode:=oR [⟨none,.men 77 74 18⟩,
  oV 78 (.ext 77 0),
  oV 79 (.ext 77 1),
  ⟨none,.alloc 11 1 97 [.v (.int .i64 0),.v (mkS [])]⟩,
  ⟨none,.sto (.t 11) 1 97 0 2 (.t 78)⟩,
  oV 12 (.mv (.t 79))] [77,78,79]
abbrev zQF:HCode:=oR [⟨none,.vmv 80 10⟩,
  oV 81 (.fldP (.t 11) 0),
  oV 82 (.ldB (.t 81) 1 97 0 1 false),
  oV 83 (.fldP (.t 11) 1),
  oV 84 (.ldB (.t 83) 1 97 1 1 false),
  oV 85 (.mv (.t 12)),
  oV 86 (.bld [.v (.int .i64 0),.v (mkS []),.nl 1] [(0,1,.t 82),(1,1,.t 84),(2,1,.t 85)]),
  oV 87 (.bslF 3 [.t 86]),
  ⟨none,.vap 88 zAD 3 80 (.t 87)⟩,
  ⟨none,.vmv 10 88⟩] [80,81,82,83,84,85,86,87,88]
abbrev zQG:HCode:=.regG [.pin 10 0 0 []] [oV 89 (.mv (.t 10)),
  ⟨none,.cals (some 90) zC4 10 (.t 89) [(.f zBj,.v)]⟩] [.forget [89,90]]
abbrev zQH:HCode:=.regG [.vfr 10 0 0] [oV 91 (.mv (.t 10)),
  oV 2 (.mv (.t 91)),
  oV 3 (.mv (.c (iv 0)))] [.forget [91]]
abbrev zZW:HCode:=(.seq zSm (.seq (.seq zSn (.seq zSo (.cond (.t 16) (.seq zSp .ret) .skip))) (.seq zSq (.seq (.seq zSr (.block 0 (.loop (.seq zSs (.seq (.cond (.t 23) .skip (.exit 0)) (.seq (.block 1 (.seq zSt (.seq zSu (.seq (.seq zSv (.cond (.t 41) zQu .skip)) (.seq zQv (.block 2 (.loop (.seq zQw (.seq (.cond (.t 58) .skip (.exit 2)) (.seq (.block 3 (.seq zQx zQy)) zQz)))))))))) zQA)))))) (.seq zQB (.seq (.seq zQC (.block 4 (.loop (.seq zQD (.seq (.cond (.t 76) .skip (.exit 4)) (.block 5 (.seq zQE zQF))))))) (.seq zQG (.seq zQH .ret))))))))
abbrev zLY:Env:={N:=92,Γ:=[(92,5),(97,2)],L:=99,nfix:=0}
abbrev index_Build_R:List RSrc:=[.tmp 2,.tmp 3]
theorem zSw:zB1 Tryz.prog zCc zZW zLY index_Build_R:=by kernel_rfl
end Go.Hx
end

section
set_option maxRecDepth 100000
set_option linter.unusedSimpArgs false
namespace Go.Hx
open Go.Proofs
variable [Glob]
attribute [local go_sem] zAt zAp zAn zAj ndV zAq
end Go.Hx
end

section
set_option maxRecDepth 100000
set_option linter.unusedSimpArgs false
namespace Go.Hx
open Go.Proofs
variable [Glob]
attribute [local go_sem] zAt zAp zAn zAj ndV zAq
attribute [local go_sem] reduceCtorEq Nat.reduceAdd Nat.reduceEqDiff reduceIte Nat.reduceLeDiff Nat.reduceLT Nat.reduceSub
theorem zNe {d:List Nd} {i:Nat}:zCS d (i+1)=(zCS d i&&zWG d i):=zCJ
theorem zSy (d:List Nd):Contract Tryz.prog zEy [.val (zHz d)] {res:=.val (iv (zAy d))}:=by
 unfold zHz
 refine mkA zPS (base:=0) (fo rfl) (fun hfit=>?_)
 unfold F0 zJv
 simp (maxSteps:=2000000) only [zAJ,List.set_cons_succ,List.set_cons_zero,List.map_cons,List.map_nil,zAH,zAa,ioOf,List.length_cons,List.length_nil,Nat.reduceAdd,Nat.reduceSub,List.replicate,List.cons_append,List.nil_append]
 try simp (maxSteps:=2000000) only [go_sem]
 repeat with_reducible refine zAb ?_
 try simp (maxSteps:=2000000) only [go_sem,zAt]
 repeat with_reducible refine zAb ?_
 refine zAw (by repeat' constructor) (zNR _ _ _) ?_
 try simp (maxSteps:=2000000) only [go_sem]
 repeat with_reducible refine zAb ?_
 refine zAc (by rfl) trivial (fun h=>?_) (fun h=>?_)
 ·try simp (maxSteps:=2000000) only [go_sem]
  repeat with_reducible refine zAb ?_
  refine zAd rfl trivial (.inl ?_)
  congr 3
  have h2:¬ (1≤d.length∧d.length≤64):=by simp at h;omega
  simp [zAy,h2]
 have hr:1≤d.length∧d.length≤64:=by simp at h;omega
 obtain ⟨hr1,hr2⟩:=hr
 try simp (maxSteps:=2000000) only [go_sem]
 repeat with_reducible refine zAb ?_
 refine zAv (fun i:Nat=>[(3,.pv (iv i)),(4,.un),(5,.un),(15,.un),(37,.un),(47,.un),(63,.un)]) (fun i:Nat=>d.length-i) (fun i:Nat=>i≤d.length∧zCS d i=true) (0) ?_ ⟨Nat.zero_le _,rfl⟩ ?_
 focus (simp (maxSteps:=2000000) only [go_sem,zAf,zAl,zAz,zAg];all_goals (repeat' (first|exact trivial|exact zAm (by omega)|exact zAi rfl|exact zAx rfl|exact zAs|exact le_refl _|refine And.intro ?_ ?_)))
 intro i ⟨hi,hok⟩
 try simp (maxSteps:=2000000) only [go_sem,zAt]
 repeat with_reducible refine zAb ?_
 refine zAc (by rfl) trivial (fun h2=>?_) (fun h2=>?_)
 ·have hlt:i < d.length:=by simpa using h2
  try simp (maxSteps:=2000000) only [go_sem,zAt,zBC _ _ hlt]
  repeat with_reducible refine zAb ?_
  refine zAw (by repeat' constructor) (zSl _) ?_
  try simp (maxSteps:=2000000) only [go_sem,zAt,zBC _ _ hlt,ndV]
  repeat with_reducible refine zAb ?_
  refine zAc (by rfl) trivial (fun h3=>?_) (fun h3=>?_)
  ·try simp (maxSteps:=2000000) only [go_sem]
   repeat with_reducible refine zAb ?_
   refine zAd rfl trivial (.inl ?_)
   congr 3
   have:zCS d d.length=false:=by
    cases hn:zCS d d.length with
    |false=>rfl
    |true=>
     exfalso
     have h4:=zAV hn hlt
     simp only [zWG,yC2,zBc,Bool.and_eq_true] at h4
     rw [h4.1] at h3
     by_cases h5:i=0
     ·subst h5;simp at h3 h4;omega
     ·simp at h3;omega
   simp [zAy,hr1,hr2,this]
  have hn:zBK (d.getD i default)=true:=by
   cases hn:zBK (d.getD i default) with
   |true=>rfl
   |false=>rw [hn] at h3;simp at h3
  rw [hn] at h3
  have h4:i=0→zBc d i=-1:=by
   intro h5;subst h5;simpa [zBc] using h3
  have hup:=zBh hok
  try simp (maxSteps:=2000000) only [go_sem]
  repeat with_reducible refine zAb ?_
  refine zAv (fun x:Int×Bool=>[(4,.pv (bv x.2)),(5,.pv (iv x.1)),(47,.un)]) (fun x:Int×Bool=>(x.1+1).toNat) (fun x:Int×Bool=>-1≤x.1∧x.1 < i∧(x.2=true→yC2 d i=true)∧(x.2=false→yC2 d i=(zBr d (x.1+1).toNat x.1).contains (zBc d i))) (((i:Int)-1,(i:Int)==0)) ?_ ⟨by show -1≤(i:Int)-1;omega,by show (i:Int)-1 < i;omega,fun h=>by simp at h;subst h;simp [yC2,h4],fun h=>by simp at h;simp [yC2,h]⟩ ?_
  focus (simp (maxSteps:=2000000) only [go_sem,zAf,zAl,zAz,zAg];all_goals (repeat' (first|exact trivial|exact zAm (by omega)|exact zAi rfl|exact zAx rfl|exact zAs|exact le_refl _|refine And.intro ?_ ?_)))
  intro ⟨k,fine⟩ ⟨hk1,hk2,hk3,hk4⟩
  simp only at hk1 hk2 hk3 hk4
  try simp (maxSteps:=2000000) only [go_sem]
  repeat with_reducible refine zAb ?_
  refine zAc (by rfl) trivial (fun h5=>?_) (fun h5=>?_)
  ·have hk5:0≤k∧fine=false:=by simp at h5;exact h5
   obtain ⟨hk5,rfl⟩:=hk5
   have hkn:k.toNat < d.length:=by omega
   try simp (maxSteps:=2000000) only [go_sem,zBC _ _ hlt,zBC _ _ hkn]
   repeat with_reducible refine zAb ?_
   have h6:=hup k.toNat (by omega)
   refine ⟨(zBc d k.toNat,k==zBc d i),?_,⟨h6.1,?_,?_,?_⟩,?_⟩
   ·simp only;omega
   ·simp only;omega
   ·simp only
    intro h7
    have h8:k=zBc d i:=by simpa using h7
    rw [hk4 rfl,show (k+1).toNat=k.toNat+1 by omega,zBr,if_neg (by omega),h8]
    simp
   ·simp only
    intro h7
    have h8:¬ k=zBc d i:=by simpa using h7
    rw [hk4 rfl,show (k+1).toNat=k.toNat+1 by omega,zBr,if_neg (by omega),List.contains_cons]
    rw [zFW k.toNat (zBc d k.toNat+1).toNat _ (fun j hj=>(hup j (by omega)).2) (by omega) (by omega)]
    simp [Ne.symm h8]
   ·simp (maxSteps:=2000000) only [go_sem,zAf,zAl,zAz,zAg]
    all_goals (repeat' (first|exact trivial|exact zAm (by omega)|exact zAi rfl|exact zAx rfl|exact zAs|exact le_refl _|refine And.intro ?_ ?_))
  ·try simp (maxSteps:=2000000) only [go_sem]
   repeat with_reducible refine zAb ?_
   refine zAc (by rfl) trivial (fun h6=>?_) (fun h6=>?_)
   ·try simp (maxSteps:=2000000) only [go_sem]
    repeat with_reducible refine zAb ?_
    refine zAd rfl trivial (.inl ?_)
    congr 3
    have hf:fine=false:=by simpa using h6
    subst hf
    have hk:k=-1:=by simp at h5;omega
    subst hk
    have:zCS d d.length=false:=by
     cases hn:zCS d d.length with
     |false=>rfl
     |true=>
      exfalso
      have h7:=zAV hn hlt
      simp only [zWG,Bool.and_eq_true] at h7
      rw [hk4 rfl] at h7
      simp [zBr] at h7
    simp [zAy,hr1,hr2,this]
   ·have hf:fine=true:=by simpa using h6
    subst hf
    try simp (maxSteps:=2000000) only [go_sem]
    repeat with_reducible refine zAb ?_
    refine ⟨i+1,by omega,⟨hlt,?_⟩,?_⟩
    ·rw [zNe,hok,zWG,hn,hk3 rfl];rfl
    ·simp (maxSteps:=2000000) only [go_sem,zAf,zAl,zAz,zAg]
     all_goals (repeat' (first|exact trivial|exact zAm (by omega)|exact zAi rfl|exact zAx rfl|exact zAs|exact le_refl _|refine And.intro ?_ ?_))
 ·try simp (maxSteps:=2000000) only [go_sem]
  repeat with_reducible refine zAb ?_
  refine zAd rfl trivial (.inl ?_)
  congr 3
  have:i=d.length:=by simp at h2;omega
  subst this
  simp [zAy,hr1,hr2,hok]
end Go.Hx
end

section
set_option maxRecDepth 100000
set_option linter.unusedSimpArgs false
namespace Go.Hx
open Go.Proofs
variable [Glob]
attribute [local go_sem] zAt zAp zAn zAj ndV zAq
def yDs (d:List Nd) (k:Int):Int:=if zAy d=0 then (if 0≤k∧k≤(d.length:Int)-1 then 0 else 5) else zAy d
def zAX (d:List Nd) (n:Int) (k:Nat):Int:=((List.range k).filter fun i=>(zBr d d.length (zBc d i)).contains n).length
def zCG (d:List Nd) (n:Int):Int:=zAX d n d.length
theorem zIz {d:List Nd} {n:Int} {k:Nat}:zAX d n (k+1)=zAX d n k+(if (zBr d d.length (zBc d k)).contains n then 1 else 0):=by
 unfold zAX
 rw [List.range_succ,List.filter_append,List.length_append,List.filter_cons,List.filter_nil]
 split<;>simp
theorem zEl {d:List Nd} {n:Int}:∀ k:Nat,0≤zAX d n k∧zAX d n k≤k
 |0=>by simp [zAX]
 |k+1=>by have:=zEl (d:=d) (n:=n) k;rw [zIz];split<;>omega
def zAN (d:List Nd) (n:Int) (k:Nat):List Int:=((List.range k).filter fun i=>decide (zBc d i=n)).map Int.ofNat
def zIA (d:List Nd) (n:Int):List Int:=zAN d n d.length
theorem zAY {d:List Nd} {n:Int} {k:Nat}:zAN d n (k+1)=if zBc d k=n then zAN d n k++[(k:Int)] else zAN d n k:=by
 unfold zAN
 rw [List.range_succ,List.filter_append,List.map_append]
 by_cases h:zBc d k=n<;>simp [List.filter,h]
theorem zGw {d:List Nd} {n:Int} (k:Nat):(zAN d n k).length≤k:=by
 unfold zAN
 rw [List.length_map]
 exact Nat.le_trans (List.length_filter_le _ _) (by simp)
end Go.Hx
end
