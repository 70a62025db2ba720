/-
  Walks of functions of the program over an abstract layer, and the laws that they use: each contract says what the function computes, for every input that its conditions let by. No other condition.
-/
import Derived.Test.YtjnagiaooecklaaGreatDoorProg
import Derived.Test.YtjnagiaooecklaaGreatDoorG11
import Derived.Test.YtjnagiaooecklaaGreatDoorG12
import Derived.Test.YtjnagiaooecklaaGreatDoorG10
set_option linter.all false
section
/-
 The abstract code of functions of the program, printed by gen.py; each stands for the given one. No condition.
-/
namespace Go.Hx
open Go.Proofs
variable [Glob]
abbrev zDC:Nat:=136
abbrev zCA:Nat:=137
abbrev zHc:Nat:=135
abbrev zCZ:Nat:=198
abbrev zCe:Nat:=199
abbrev zDZ:Nat:=23
abbrev zHd:Nat:=11
abbrev zEx:Nat:=36
abbrev zDD:Nat:=82
abbrev zHe:Nat:=87
abbrev zBh:Nat:=69
abbrev zFR:Nat:=38
abbrev zC0:Nat:=86
abbrev zDE:Nat:=27
abbrev zBJ:Nat:=71
abbrev zK8:Nat:=70
abbrev zDa:Nat:=141
abbrev zBT:Nat:=81
abbrev zDb:Nat:=83
abbrev zAw:Nat:=131
abbrev yCd:HCode:=oN [oV 1 (.boxF (.t 0)),
  ⟨none,.vnl 2 zAw 3⟩]
abbrev yCe:HCode:=oR [oV 5 (.fldR (.t 1) 1 1),
  oV 6 (.ldR (.t 5) 1 false),
  ⟨none,.vow 7 (.bld [.v (.int .i64 0),.v (mkS []),.nl 1] [(0,1,.c (iv 1)),(1,1,.t 6)]) 2 zAs 1⟩,
  ⟨none,.vbs 8 zAw 3 7⟩,
  ⟨none,.vmv 3 8⟩] [5,6,7,8]
abbrev yCf:HCode:=oR [oV 9 (.fldR (.t 1) 2 1),
  oV 10 (.ldR (.t 9) 1 false),
  oV 11 (.strs .neq (.t 10) (.c (sv [])))] [9,10]
abbrev yCg:HCode:=oR [⟨none,.vmv 12 3⟩,
  oV 13 (.fldR (.t 1) 2 1),
  oV 14 (.ldR (.t 13) 1 false),
  ⟨none,.vow 15 (.bld [.v (.int .i64 0),.v (mkS []),.nl 1] [(0,1,.c (iv 2)),(1,1,.t 14)]) 2 zAs 1⟩,
  ⟨none,.vbs 16 zAw 3 15⟩,
  ⟨none,.vap 17 zAw 3 12 (.t 16)⟩,
  ⟨none,.vmv 3 17⟩] [12,13,14,15,16,17]
abbrev yCh:HCode:=oN [oV 4 (.mv (.c (iv 0)))]
abbrev yCi:HCode:=oR [oV 18 (.mv (.t 4)),
  oV 19 (.fldR (.t 1) 3 1),
  oV 20 (.ldR (.t 19) 1 false),
  oV 21 (.len false (.t 20)),
  oV 22 (.ints .lss (.t 18) (.t 21))] [18,19,20,21]
abbrev yCj:HCode:=oR [⟨none,.vmv 25 3⟩,
  oV 26 (.fldR (.t 1) 3 1),
  oV 27 (.ldR (.t 26) 1 false),
  oV 28 (.mv (.t 4)),
  oV 29 (.idxA 1 (.t 27) (.t 28)),
  oV 30 (.ldR (.t 29) 1 false),
  ⟨none,.vow 31 (.bld [.v (.int .i64 0),.v (mkS []),.nl 1] [(0,1,.c (iv 3)),(1,1,.t 30)]) 2 zAs 1⟩,
  ⟨none,.vbs 32 zAw 3 31⟩,
  ⟨none,.vap 33 zAw 3 25 (.t 32)⟩,
  ⟨none,.vmv 3 33⟩] [25,26,27,28,29,30,31,32,33]
abbrev yCk:HCode:=oR [oV 23 (.mv (.t 4)),
  oV 24 (.ints .add (.t 23) (.c (iv 1))),
  oV 4 (.mv (.t 24))] [23,24]
abbrev yCl:HCode:=oR [⟨none,.vmv 34 3⟩,
  ⟨none,.vmv 2 34⟩] [34]
abbrev yIN:HCode:=(.seq yCd (.seq yCe (.seq (.seq yCf (.cond (.t 11) yCg .skip)) (.seq (.seq yCh (.block 0 (.loop (.seq (.seq yCi (.cond (.t 22) .skip (.exit 0))) (.seq (.block 1 yCj) yCk))))) (.seq yCl .ret)))))
abbrev zUI:Env:={N:=35,Γ:=[],L:=35,nfix:=0}
abbrev ref_keys_R:List RSrc:=[.tmp 2]
theorem yCm:zBE Tryz.prog zK8 yIN zUI ref_keys_R:=by kernel_rfl
abbrev zOP:HCode:=oN [oV 2 (.boxF (.t 0)),
  oV 3 (.boxF (.t 1)),
  oV 4 (.mv (.c (bv false)))]
abbrev zOQ:HCode:=oR [oV 5 (.fldR (.t 2) 0 1),
  oV 6 (.ldR (.t 5) 1 false),
  oV 7 (.fldR (.t 3) 0 1),
  oV 8 (.ldR (.t 7) 1 false),
  oV 9 (.ints .neq (.t 6) (.t 8))] [5,6,7,8]
abbrev zOR:HCode:=oR [oV 10 (.fldR (.t 2) 0 1),
  oV 11 (.ldR (.t 10) 1 false),
  oV 12 (.fldR (.t 3) 0 1),
  oV 13 (.ldR (.t 12) 1 false),
  oV 14 (.ints .gtr (.t 11) (.t 13)),
  oV 4 (.mv (.t 14))] [10,11,12,13,14]
abbrev zOS:HCode:=oR [oV 15 (.fldR (.t 2) 1 1),
  oV 16 (.ldR (.t 15) 1 false),
  oV 17 (.fldR (.t 3) 1 1),
  oV 18 (.ldR (.t 17) 1 false),
  oV 19 (.strs .gtr (.t 16) (.t 18)),
  oV 4 (.mv (.t 19))] [15,16,17,18,19]
abbrev zW0:HCode:=(.seq zOP (.seq (.seq zOQ (.cond (.t 9) (.seq zOR .ret) .skip)) (.seq zOS .ret)))
abbrev zI5:Env:={N:=20,Γ:=[],L:=20,nfix:=0}
abbrev ref_behindKey_R:List RSrc:=[.tmp 4]
theorem zOT:zBE Tryz.prog zBJ zW0 zI5 ref_behindKey_R:=by kernel_rfl
abbrev zW1:HCode:=oN [oV 2 (.mv (.c (iv 0)))]
abbrev zW2:HCode:=oN [oV 3 (.mv (.c (iv 0)))]
abbrev zW3:HCode:=oN [oV 6 (.mv (.t 0)),
  oV 7 (.len false (.t 6)),
  oV 8 (.mv (.c (iv 0)))]
abbrev zW4:HCode:=oN [oV 9 (.ints .lss (.t 8) (.t 7))]
abbrev zW5:HCode:=oR [oV 10 (.idxA 1 (.t 6) (.t 8)),
  oV 11 (.ldR (.t 10) 1 false),
  oV 5 (.mv (.t 11))] [10,11]
abbrev zW6:HCode:=oR [oV 12 (.mv (.t 5)),
  oV 13 (.mv (.t 3)),
  oV 14 (.ints .neq (.t 12) (.t 13))] [12,13]
abbrev zW7:HCode:=oR [oV 15 (.mv (.t 5)),
  oV 2 (.mv (.t 15))] [15]
abbrev zW8:HCode:=oR [oV 16 (.ints .add (.t 8) (.c (iv 1))),
  oV 8 (.mv (.t 16))] [16]
abbrev zW9:HCode:=oR [oV 17 (.mv (.t 3)),
  oV 2 (.mv (.t 17))] [17]
abbrev yFg:HCode:=(.seq zW1 (.seq zW2 (.seq (.seq zW3 (.block 0 (.loop (.seq zW4 (.seq (.cond (.t 9) .skip (.exit 0)) (.seq (.block 1 (.seq zW5 (.seq zW6 (.cond (.t 14) (.seq zW7 .ret) .skip)))) zW8)))))) (.seq zW9 .ret))))
abbrev zOu:Env:={N:=18,Γ:=[],L:=18,nfix:=0}
abbrev cmp_Or_int_R:List RSrc:=[.tmp 2]
theorem zXa:zBE Tryz.prog zHc yFg zOu cmp_Or_int_R:=by kernel_rfl
abbrev zMi:HCode:=oN [oV 4 (.mv (.c (iv 0)))]
abbrev zMj:HCode:=oR [oV 7 (.mv (.t 0)),
  oC 8 zCZ [(.t 7,.v)],
  oV 5 (.mv (.t 8))] [7,8]
abbrev zMk:HCode:=oR [oV 9 (.mv (.t 1)),
  oC 10 zCZ [(.t 9,.v)],
  oV 6 (.mv (.t 10))] [9,10]
abbrev zMl:HCode:=oN [oV 11 (.mv (.t 5))]
abbrev zMm:HCode:=oN [oV 12 (.mv (.t 6))]
abbrev zMn:HCode:=oN [oV 4 (.mv (.c (iv 0)))]
abbrev zMo:HCode:=oN [oV 4 (.mv (.c (iv (-1))))]
abbrev zMp:HCode:=oN [oV 13 (.mv (.t 6))]
abbrev zMq:HCode:=oN [oV 4 (.mv (.c (iv 1)))]
abbrev zMr:HCode:=oR [oV 14 (.mv (.t 0)),
  oV 15 (.mv (.t 1)),
  oV 16 (.ints .lss (.t 14) (.t 15))] [14,15]
abbrev zK9:HCode:=oN [oV 4 (.mv (.c (iv (-1))))]
abbrev zLa:HCode:=oR [oV 17 (.mv (.t 0)),
  oV 18 (.mv (.t 1)),
  oV 19 (.ints .gtr (.t 17) (.t 18))] [17,18]
abbrev zLb:HCode:=oN [oV 4 (.mv (.c (iv 1)))]
abbrev zLc:HCode:=oN [oV 4 (.mv (.c (iv 0)))]
abbrev zRa:HCode:=(.seq zMi (.seq zMj (.seq zMk (.seq (.seq zMl (.cond (.t 11) (.seq (.seq zMm (.cond (.t 12) (.seq zMn .ret) .skip)) (.seq zMo .ret)) .skip)) (.seq (.seq zMp (.cond (.t 13) (.seq zMq .ret) .skip)) (.seq (.seq zMr (.cond (.t 16) (.seq zK9 .ret) .skip)) (.seq (.seq zLa (.cond (.t 19) (.seq zLb .ret) .skip)) (.seq zLc .ret))))))))
abbrev zGO:Env:={N:=20,Γ:=[],L:=20,nfix:=0}
abbrev cmp_Compare_int_R:List RSrc:=[.tmp 4]
theorem zMs:zBE Tryz.prog zDC zRa zGO cmp_Compare_int_R:=by kernel_rfl
abbrev zOU:HCode:=oN [oV 2 (.mv (.c (bv false)))]
abbrev zOV:HCode:=oR [oV 3 (.mv (.t 0)),
  oV 4 (.mv (.t 0)),
  oV 5 (.ints .neq (.t 3) (.t 4)),
  oV 2 (.mv (.t 5))] [3,4,5]
abbrev zXb:HCode:=(.seq zOU (.seq zOV .ret))
abbrev zI6:Env:={N:=6,Γ:=[],L:=6,nfix:=0}
abbrev cmp_isNaN_int_R:List RSrc:=[.tmp 2]
theorem zOW:zBE Tryz.prog zCZ zXb zI6 cmp_isNaN_int_R:=by kernel_rfl
abbrev zI7:HCode:=oN [oV 4 (.mv (.c (iv 0)))]
abbrev zI8:HCode:=oR [oV 7 (.mv (.t 0)),
  oC 8 zCe [(.t 7,.v)],
  oV 5 (.mv (.t 8))] [7,8]
abbrev zI9:HCode:=oR [oV 9 (.mv (.t 1)),
  oC 10 zCe [(.t 9,.v)],
  oV 6 (.mv (.t 10))] [9,10]
abbrev zJa:HCode:=oN [oV 11 (.mv (.t 5))]
abbrev zJb:HCode:=oN [oV 12 (.mv (.t 6))]
abbrev zJc:HCode:=oN [oV 4 (.mv (.c (iv 0)))]
abbrev zJd:HCode:=oN [oV 4 (.mv (.c (iv (-1))))]
abbrev zJe:HCode:=oN [oV 13 (.mv (.t 6))]
abbrev zJf:HCode:=oN [oV 4 (.mv (.c (iv 1)))]
abbrev zJg:HCode:=oR [oV 14 (.mv (.t 0)),
  oV 15 (.mv (.t 1)),
  oV 16 (.strs .lss (.t 14) (.t 15))] [14,15]
abbrev zHN:HCode:=oN [oV 4 (.mv (.c (iv (-1))))]
abbrev zHO:HCode:=oR [oV 17 (.mv (.t 0)),
  oV 18 (.mv (.t 1)),
  oV 19 (.strs .gtr (.t 17) (.t 18))] [17,18]
abbrev zHP:HCode:=oN [oV 4 (.mv (.c (iv 1)))]
abbrev zHQ:HCode:=oN [oV 4 (.mv (.c (iv 0)))]
abbrev zMt:HCode:=(.seq zI7 (.seq zI8 (.seq zI9 (.seq (.seq zJa (.cond (.t 11) (.seq (.seq zJb (.cond (.t 12) (.seq zJc .ret) .skip)) (.seq zJd .ret)) .skip)) (.seq (.seq zJe (.cond (.t 13) (.seq zJf .ret) .skip)) (.seq (.seq zJg (.cond (.t 16) (.seq zHN .ret) .skip)) (.seq (.seq zHO (.cond (.t 19) (.seq zHP .ret) .skip)) (.seq zHQ .ret))))))))
abbrev zEq:Env:={N:=20,Γ:=[],L:=20,nfix:=0}
abbrev cmp_Compare_string_R:List RSrc:=[.tmp 4]
theorem zJh:zBE Tryz.prog zCA zMt zEq cmp_Compare_string_R:=by kernel_rfl
abbrev zLd:HCode:=oN [oV 2 (.mv (.c (bv false)))]
abbrev zLe:HCode:=oR [oV 3 (.mv (.t 0)),
  oV 4 (.mv (.t 0)),
  oV 5 (.strs .neq (.t 3) (.t 4)),
  oV 2 (.mv (.t 5))] [3,4,5]
abbrev zOX:HCode:=(.seq zLd (.seq zLe .ret))
abbrev zFA:Env:={N:=6,Γ:=[],L:=6,nfix:=0}
abbrev cmp_isNaN_string_R:List RSrc:=[.tmp 2]
theorem zLf:zBE Tryz.prog zCe zOX zFA cmp_isNaN_string_R:=by kernel_rfl
abbrev zTe:HCode:=oN [oV 2 (.boxF (.t 0)),
  oV 3 (.boxF (.t 1)),
  oV 4 (.mv (.c (iv 0)))]
abbrev zTf:HCode:=oQ [oD 0 false (oV 5 (.fldR (.t 2) 0 1)),
  oD 1 false (oV 6 (.ldR (.t 5) 1 false)),
  oD 2 false (oV 7 (.fldR (.t 3) 0 1)),
  oD 3 false (oV 8 (.ldR (.t 7) 1 false)),
  oD 4 false (oC 9 zDC [(.t 6,.v),(.t 8,.v)]),
  oD 5 false (oV 10 (.fldR (.t 2) 1 1)),
  oD 6 false (oV 11 (.ldR (.t 10) 1 false)),
  oD 7 false (oV 12 (.fldR (.t 3) 1 1)),
  oD 8 false (oV 13 (.ldR (.t 12) 1 false)),
  oD 9 true (oC 14 zCA [(.t 11,.v),(.t 13,.v)]),
  oD 10 false (oV 15 (.bslF 1 [.t 9,.t 14])),
  oD 11 true (oC 16 zHc [(.t 15,.v)]),
  oD 12 false (oV 4 (.mv (.t 16)))] [5,6,7,8,9,10,11,12,13,14,15,16]
abbrev yCn:HCode:=(.seq zTe (.seq zTf .ret))
abbrev zMu:Env:={N:=17,Γ:=[],L:=17,nfix:=0}
abbrev index_order_R:List RSrc:=[.tmp 4]
theorem zTg:zBE Tryz.prog zBh yCn zMu index_order_R:=by kernel_rfl
abbrev zLg:HCode:=oN [⟨none,.nlo 2 zAs 1⟩]
abbrev zLh:HCode:=oR [oV 3 (.mv (.t 0)),
  ⟨none,.isn 4 false (.t 3)⟩] [3]
abbrev zLi:HCode:=oN [⟨none,.nlo 2 zAs 1⟩]
abbrev zLj:HCode:=oR [⟨none,.bsl 5 zAs 1 []⟩,
  oV 6 (.mv (.t 0)),
  ⟨none,.app 7 zAs 1 (.t 5) (.t 6)⟩,
  ⟨none,.mvo 2 7⟩] [5,6,7]
abbrev zOY:HCode:=(.seq zLg (.seq (.seq zLh (.cond (.t 4) (.seq zLi .ret) .skip)) (.seq zLj .ret)))
abbrev zFB:Env:={N:=8,Γ:=[],L:=8,nfix:=0}
abbrev slices_Clone_int_R:List RSrc:=[.tmp 2]
theorem zLk:zBE Tryz.prog zDa zOY zFB slices_Clone_int_R:=by kernel_rfl
abbrev zLl:HCode:=oN [oV 4 (.mv (.c (bv false)))]
abbrev zLm:HCode:=oR [oV 6 (.mv (.t 0)),
  oV 7 (.len false (.t 6)),
  oV 8 (.mv (.t 1)),
  oV 9 (.len false (.t 8)),
  oV 10 (.ints .neq (.t 7) (.t 9))] [6,7,8,9]
abbrev zLn:HCode:=oN [oV 4 (.mv (.c (bv false)))]
abbrev zLo:HCode:=oR [oV 11 (.mv (.t 0)),
  oV 12 (.len false (.t 11)),
  oV 13 (.mv (.c (iv 0)))] [11]
abbrev zLp:HCode:=oN [oV 14 (.ints .lss (.t 13) (.t 12))]
abbrev zLq:HCode:=oR [oV 15 (.mv (.t 13)),
  oV 5 (.mv (.t 15))] [15]
abbrev zLr:HCode:=oQ [oD 0 false (oV 16 (.mv (.t 0))),
  oD 1 false (oV 17 (.mv (.t 5))),
  oD 2 false (oV 18 (.idxA 1 (.t 16) (.t 17))),
  oD 3 false (oV 19 (.ldR (.t 18) 1 false)),
  oD 4 false (oV 20 (.mv (.t 1))),
  oD 5 false (oV 21 (.mv (.t 5))),
  oD 6 false (oV 22 (.idxA 1 (.t 20) (.t 21))),
  oD 7 false (oV 23 (.ldR (.t 22) 1 false)),
  oD 8 false (oV 24 (.ints .neq (.t 19) (.t 23)))] [16,17,18,19,20,21,22,23]
abbrev zLs:HCode:=oN [oV 4 (.mv (.c (bv false)))]
abbrev zLt:HCode:=oR [oV 25 (.ints .add (.t 13) (.c (iv 1))),
  oV 13 (.mv (.t 25))] [25]
abbrev zLu:HCode:=oN [oV 4 (.mv (.c (bv true)))]
abbrev zOZ:HCode:=(.seq zLl (.seq (.seq zLm (.cond (.t 10) (.seq zLn .ret) .skip)) (.seq (.seq zLo (.block 0 (.loop (.seq zLp (.seq (.cond (.t 14) .skip (.exit 0)) (.seq (.block 1 (.seq zLq (.seq zLr (.cond (.t 24) (.seq zLs .ret) .skip)))) zLt)))))) (.seq zLu .ret))))
abbrev zFC:Env:={N:=26,Γ:=[],L:=26,nfix:=0}
abbrev slices_Equal_int_R:List RSrc:=[.tmp 4]
theorem zLv:zBE Tryz.prog zDb zOZ zFC slices_Equal_int_R:=by kernel_rfl
abbrev zXc:HCode:=oN [oV 6 (.mv (.c (.one (.nl 1)))),
  oV 7 (.mv (.c (iv 0)))]
abbrev zXd:HCode:=oR [oV 10 (.mv (.t 1)),
  oV 11 (.ints .lss (.t 10) (.c (iv 1))),
  oV 12 (.mv (.t 11)),
  oG 12 false 13 (.mv (.t 1)),
  oG 12 false 14 (.ints .gtr (.t 13) (.c (iv 3))),
  oV 15 (.pick (.t 12) (.c (bv true)) (.t 14))] [10,11,12,13,14]
abbrev zXe:HCode:=oN [oV 6 (.mv (.c (.one (.nl 1)))),
  oV 7 (.mv (.c (iv 4)))]
abbrev zXf:HCode:=oR [oV 16 (.mv (.t 0)),
  oV 17 (.len false (.t 16)),
  oV 18 (.ints .gtr (.t 17) (.c (iv 512)))] [16,17]
abbrev zXg:HCode:=oN [oV 6 (.mv (.c (.one (.nl 1)))),
  oV 7 (.mv (.c (iv 2)))]
abbrev zXh:HCode:=oN [oV 19 (.mv (.t 0)),
  oV 20 (.len false (.t 19)),
  oV 21 (.mv (.c (iv 0)))]
abbrev zXi:HCode:=oN [oV 22 (.ints .lss (.t 21) (.t 20))]
abbrev zXj:HCode:=.reg [oV 23 (.idxA 3 (.t 19) (.t 21)),
  oV 24 (.ldR (.t 23) 3 true),
  ⟨none,.alloc 9 0 39 [.v (.int .i64 0),.v (mkS []),.nl 1]⟩,
  ⟨none,.sto (.t 9) 0 39 0 3 (.t 24)⟩] false [.frz 0 39 3,.forget [23,24]]
abbrev zXk:HCode:=oR [oV 25 (.fldR (.t 9) 0 1),
  oV 26 (.ldR (.t 25) 1 false),
  oV 27 (.mv (.t 1)),
  oV 28 (.ints .eql (.t 26) (.t 27)),
  oV 29 (.mv (.t 28)),
  oG 29 true 30 (.fldR (.t 9) 1 1),
  oG 29 true 31 (.ldR (.t 30) 1 false),
  oG 29 true 32 (.mv (.t 2)),
  oG 29 true 33 (.strs .eql (.t 31) (.t 32)),
  oV 34 (.pick (.t 29) (.t 33) (.c (bv false)))] [25,26,27,28,29,30,31,32,33]
abbrev zXl:HCode:=oR [oV 35 (.fldR (.t 9) 2 1),
  oV 36 (.ldR (.t 35) 1 false),
  oC 37 zDa [(.t 36,.v)],
  oV 6 (.mv (.t 37)),
  oV 7 (.mv (.c (iv 0)))] [35,36,37]
abbrev zTh:HCode:=oR [oV 38 (.ints .add (.t 21) (.c (iv 1))),
  oV 21 (.mv (.t 38))] [38]
abbrev zTi:HCode:=oN [oV 6 (.mv (.c (.one (.nl 1)))),
  oV 7 (.mv (.c (iv 0)))]
abbrev yFh:HCode:=(.seq zXc (.seq (.seq zXd (.cond (.t 15) (.seq zXe .ret) .skip)) (.seq (.seq zXf (.cond (.t 18) (.seq zXg .ret) .skip)) (.seq (.seq zXh (.block 0 (.loop (.seq zXi (.seq (.cond (.t 22) .skip (.exit 0)) (.seq (.block 1 (.seq zXj (.seq zXk (.cond (.t 34) (.seq zXl .ret) .skip)))) zTh)))))) (.seq zTi .ret)))))
abbrev zOv:Env:={N:=39,Γ:=[(39,3)],L:=42,nfix:=0}
abbrev index_Look_R:List RSrc:=[.tmp 6,.tmp 7]
theorem zXm:zBE Tryz.prog zHe yFh zOv index_Look_R:=by kernel_rfl
abbrev zTj:HCode:=oN [oV 2 (.boxF (.t 0)),
  oV 3 (.boxF (.t 1)),
  oV 4 (.mv (.c (.one (.nl 1))))]
abbrev zTk:HCode:=oR [oV 12 (.fldR (.t 3) 0 1),
  oV 13 (.ldR (.t 12) 1 false),
  oV 14 (.fldR (.t 3) 0 1),
  oV 15 (.ldR (.t 14) 1 false),
  oV 16 (.len false (.t 15)),
  oV 17 (.ints .sub (.t 16) (.c (iv 1))),
  oV 18 (.idxA 2 (.t 13) (.t 17)),
  oV 19 (.ldR (.t 18) 2 true),
  ⟨none,.alloc 5 0 65 [.v (mkS []),.nl 6]⟩,
  ⟨none,.sto (.t 5) 0 65 0 2 (.t 19)⟩] [12,13,14,15,16,17,18,19]
abbrev zTl:HCode:=oN [⟨none,.alloc 6 1 67 [.nl 1]⟩]
abbrev zTm:HCode:=oN [⟨none,.alloc 7 2 68 [.v (.bool false)]⟩,
  ⟨none,.sto (.t 7) 2 68 0 1 (.c (bv false))⟩]
abbrev zTn:HCode:=oR [⟨none,.mkc 20 zC0 [.t 2,.t 7,.t 6]⟩,
  oV 8 (.mv (.t 20))] [20]
abbrev zTo:HCode:=oR [oV 21 (.fldP (.t 5) 0),
  oV 22 (.ldB (.t 21) 0 65 0 1 false),
  oV 23 (.strs .neq (.t 22) (.c (sv [])))] [21,22]
abbrev zTp:HCode:=oR [oV 24 (.mv (.t 8)),
  oV 25 (.fldP (.t 5) 0),
  oV 26 (.ldB (.t 25) 0 65 0 1 false),
  ⟨none,.clc (some 27) (.t 24) [(2,68,1),(1,67,1)] [(.c (iv 1),.v),(.t 26,.v)]⟩] [24,25,26,27]
abbrev zTq:HCode:=oR [oV 28 (.fldP (.t 5) 1),
  oV 29 (.ldB (.t 28) 0 65 1 1 false),
  oV 30 (.len false (.t 29)),
  oV 31 (.mv (.c (iv 0)))] [28]
abbrev zTr:HCode:=oN [oV 32 (.ints .lss (.t 31) (.t 30))]
abbrev zTs:HCode:=oR [oV 33 (.idxA 6 (.t 29) (.t 31)),
  oV 34 (.ldR (.t 33) 6 true),
  ⟨none,.alloc 10 3 69 [.v (.int .i64 0),.v (mkS []),.v (mkS []),.v (.int .i64 0),.v (.int .i64 0),.nl 2]⟩,
  ⟨none,.sto (.t 10) 3 69 0 6 (.t 34)⟩] [33,34]
abbrev zRb:HCode:=oR [oV 35 (.fldP (.t 10) 0),
  oV 36 (.ldB (.t 35) 3 69 0 1 false)] [35]
abbrev zRc:HCode:=oR [oV 38 (.ints .eql (.t 36) (.c (iv 2))),
  oV 37 (.mv (.t 38))] [38]
abbrev zRd:HCode:=oR [oV 39 (.mv (.t 8)),
  oV 40 (.fldP (.t 10) 1),
  oV 41 (.ldB (.t 40) 3 69 1 1 false),
  ⟨none,.clc (some 42) (.t 39) [(2,68,1),(1,67,1)] [(.c (iv 2),.v),(.t 41,.v)]⟩] [39,40,41,42]
abbrev zRe:HCode:=oR [oV 44 (.ints .eql (.t 36) (.c (iv 1))),
  oV 43 (.mv (.t 44))] [44]
abbrev zRf:HCode:=oR [oV 45 (.mv (.t 8)),
  oV 46 (.fldP (.t 10) 1),
  oV 47 (.ldB (.t 46) 3 69 1 1 false),
  ⟨none,.clc (some 48) (.t 45) [(2,68,1),(1,67,1)] [(.c (iv 3),.v),(.t 47,.v)]⟩] [45,46,47,48]
abbrev zRg:HCode:=oR [oV 49 (.ints .add (.t 31) (.c (iv 1))),
  oV 31 (.mv (.t 49))] [49]
abbrev zRh:HCode:=oR [oV 50 (.ldB (.t 7) 2 68 0 1 false),
  oV 51 (.not (.t 50))] [50]
abbrev zRi:HCode:=oR [oV 52 (.fldR (.t 2) 0 1),
  oV 53 (.fldR (.t 52) 0 1),
  oV 54 (.ldR (.t 53) 1 false),
  oV 55 (.len false (.t 54)),
  oV 56 (.mv (.c (iv 0)))] [52,53,54]
abbrev zRj:HCode:=oN [oV 57 (.ints .lss (.t 56) (.t 55))]
abbrev zRk:HCode:=oR [oV 58 (.mv (.t 56)),
  oV 11 (.mv (.t 58))] [58]
abbrev zRl:HCode:=oR [⟨none,.ldo 59 (.t 6) 1 67 0 zAs 1⟩,
  oV 60 (.mv (.t 11)),
  oV 61 (.bslF 1 [.t 60]),
  ⟨none,.app 62 zAs 1 (.t 59) (.t 61)⟩,
  ⟨none,.stw (.t 6) 1 67 0 62⟩] [59,60,61,62]
abbrev zRm:HCode:=oR [oV 63 (.ints .add (.t 56) (.c (iv 1))),
  oV 56 (.mv (.t 63))] [63]
abbrev zRn:HCode:=oR [oV 64 (.ldB (.t 6) 1 67 0 1 false),
  oV 4 (.mv (.t 64))] [64]
abbrev yCo:HCode:=(.seq zTj (.seq zTk (.seq zTl (.seq zTm (.seq zTn (.seq (.seq zTo (.cond (.t 23) zTp .skip)) (.seq (.seq zTq (.block 0 (.loop (.seq zTr (.seq (.cond (.t 32) .skip (.exit 0)) (.seq (.block 1 (.seq zTs (.seq zRb (.block 2 (.seq zRc (.cond (.t 37) zRd (.seq zRe (.cond (.t 43) zRf .skip)))))))) zRg)))))) (.seq (.seq zRh (.cond (.t 51) (.seq zRi (.block 3 (.loop (.seq zRj (.seq (.cond (.t 57) .skip (.exit 3)) (.seq (.block 4 (.seq zRk zRl)) zRm)))))) .skip)) (.seq zRn .ret)))))))))
abbrev zMv:Env:={N:=65,Γ:=[(65,2),(67,1),(68,1),(69,6)],L:=75,nfix:=0}
abbrev index_seeds_R:List RSrc:=[.tmp 4]
theorem zTt:zBE Tryz.prog zFR yCo zMv index_seeds_R:=by kernel_rfl
abbrev zO0:HCode:=oR [oV 10 (.fldR (.t 2) 1 1),
  oV 11 (.ldR (.t 10) 1 false),
  oV 12 (.mv (.t 0)),
  oV 13 (.mv (.t 1)),
  oC 14 zHe [(.t 11,.v),(.t 12,.v),(.t 13,.v)],
  oV 9 (.mv (.t 14)),
  oV 15 (.ext 9 0),
  oV 16 (.ext 9 1),
  oV 7 (.mv (.t 15)),
  oV 8 (.mv (.t 16))] [8,9,10,11,12,13,14,15,16]
abbrev zO1:HCode:=oR [oV 17 (.ldB (.t 3) 0 27 0 1 false),
  oV 18 (.not (.t 17)),
  oV 19 (.mv (.t 18)),
  oG 19 false 20 (.mv (.t 7)),
  oG 19 false 21 (.len false (.t 20)),
  oG 19 false 22 (.ldB (.t 4) 1 28 0 1 false),
  oG 19 false 23 (.len false (.t 22)),
  oG 19 false 24 (.ints .lss (.t 21) (.t 23)),
  oV 25 (.pick (.t 19) (.c (bv true)) (.t 24))] [17,18,19,20,21,22,23,24]
abbrev zO2:HCode:=oR [oV 26 (.mv (.t 7)),
  ⟨none,.sto (.t 4) 1 28 0 1 (.t 26)⟩,
  ⟨none,.sto (.t 3) 0 27 0 1 (.c (bv true))⟩] [26]
abbrev zXn:HCode:=(.seq zO0 (.seq zO1 (.cond (.t 25) zO2 .skip)))
abbrev zE9:Env:={N:=27,Γ:=[(27,1),(28,1)],L:=29,nfix:=2}
abbrev zDF:List (Nat×Nat×Nat):=[(0,27,1),(1,28,1)]
theorem zO3 {av:List AV} {cas:List CA} {io':List (List PV)} (hfo:yBs zE9 zDF av cas) (hl:io'.map List.length=zPT cas) (hW:hwp Tryz.prog zXn (yNv zDF io') (F0c zE9 zDF av cas)):zEH Tryz.prog zC0 av cas io':=
 zQA (fn:=Tryz.f86) (c:=Tryz.f86.body.getD .skip) (by kernel_rfl) (by kernel_rfl) (by kernel_rfl) (by kernel_rfl) (by kernel_rfl) (by kernel_rfl) (by kernel_rfl) (by kernel_rfl) hfo hl hW
abbrev zRo:HCode:=oN [oV 2 (.boxF (.t 0)),
  oV 3 (.boxF (.t 1)),
  oV 4 (.mv (.c (bv false)))]
abbrev zRp:HCode:=oR [oV 5 (.ldR (.t 2) 3 true),
  oV 6 (.ldR (.t 3) 3 true),
  oC 7 zBh [(.t 5,.v),(.t 6,.v)],
  oV 8 (.ints .eql (.t 7) (.c (iv 0))),
  oV 9 (.mv (.t 8)),
  oG 9 true 10 (.fldR (.t 2) 2 1),
  oG 9 true 11 (.ldR (.t 10) 1 false),
  oG 9 true 12 (.fldR (.t 3) 2 1),
  oG 9 true 13 (.ldR (.t 12) 1 false),
  ⟨some (9,true),.call (some 14) zDb [(.t 11,.v),(.t 13,.v)]⟩,
  oV 15 (.pick (.t 9) (.t 14) (.c (bv false))),
  oV 4 (.mv (.t 15))] [5,6,7,8,9,10,11,12,13,14,15]
abbrev zZ4:HCode:=(.seq zRo (.seq zRp .ret))
abbrev zKr:Env:={N:=16,Γ:=[],L:=16,nfix:=0}
abbrev index_Fits_1_R:List RSrc:=[.tmp 4]
theorem zRq:zBE Tryz.prog zDD zZ4 zKr index_Fits_1_R:=by kernel_rfl
abbrev zFS:HCode:=oN [oV 6 (.mv (.c (bv false)))]
abbrev zFT:HCode:=oR [oV 10 (.mv (.t 0)),
  oV 11 (.len false (.t 10)),
  oV 12 (.mv (.t 1)),
  oV 13 (.len false (.t 12)),
  oV 14 (.ints .neq (.t 11) (.t 13))] [10,11,12,13]
abbrev zFU:HCode:=oN [oV 6 (.mv (.c (bv false)))]
abbrev zFV:HCode:=oN [oV 15 (.mv (.t 0)),
  oV 16 (.len false (.t 15)),
  oV 17 (.mv (.c (iv 0)))]
abbrev zFW:HCode:=oN [oV 18 (.ints .lss (.t 17) (.t 16))]
abbrev zFX:HCode:=oR [oV 19 (.mv (.t 17)),
  oV 20 (.idxA 3 (.t 15) (.t 17)),
  oV 21 (.ldR (.t 20) 3 true),
  ⟨none,.alloc 8 0 32 [.v (.int .i64 0),.v (mkS []),.nl 1]⟩,
  oV 7 (.mv (.t 19)),
  ⟨none,.sto (.t 8) 0 32 0 3 (.t 21)⟩] [19,20,21]
abbrev zFY:HCode:=oR [oV 22 (.mv (.t 1)),
  oV 23 (.mv (.t 7)),
  oV 24 (.idxA 3 (.t 22) (.t 23)),
  oV 25 (.ldR (.t 24) 3 true),
  ⟨none,.alloc 9 1 35 [.v (.int .i64 0),.v (mkS []),.nl 1]⟩,
  ⟨none,.sto (.t 9) 1 35 0 3 (.t 25)⟩] [22,23,24,25]
abbrev zFZ:HCode:=oR [oV 26 (.mv (.t 2)),
  oV 27 (.ldB (.t 8) 0 32 0 3 true),
  oV 28 (.ldB (.t 9) 1 35 0 3 true),
  ⟨none,.callv (some 29) (.t 26) [(.t 27,.v),(.t 28,.v)]⟩,
  oV 30 (.not (.t 29))] [26,27,28,29]
abbrev zF0:HCode:=oN [oV 6 (.mv (.c (bv false)))]
abbrev zF1:HCode:=oR [oV 31 (.ints .add (.t 17) (.c (iv 1))),
  oV 17 (.mv (.t 31))] [31]
abbrev zFd:HCode:=oN [oV 6 (.mv (.c (bv true)))]
abbrev zHR:HCode:=(.seq zFS (.seq (.seq zFT (.cond (.t 14) (.seq zFU .ret) .skip)) (.seq (.seq zFV (.block 0 (.loop (.seq zFW (.seq (.cond (.t 18) .skip (.exit 0)) (.seq (.block 1 (.seq zFX (.seq zFY (.seq zFZ (.cond (.t 30) (.seq zF0 .ret) .skip))))) zF1)))))) (.seq zFd .ret))))
abbrev zDg:Env:={N:=32,Γ:=[(32,3),(35,3)],L:=38,nfix:=0}
abbrev slices_EqualFunc_Entry_R:List RSrc:=[.tmp 6]
theorem zF2:zBE Tryz.prog zBT zHR zDg slices_EqualFunc_Entry_R:=by kernel_rfl
abbrev zXo:HCode:=oN [oV 1 (.boxF (.t 0)),
  oV 2 (.mv (.c (iv 0)))]
abbrev zXp:HCode:=oR [oV 6 (.fldR (.t 1) 0 1),
  oV 7 (.ldR (.t 6) 1 true),
  oC 8 zDZ [(.t 7,.v)],
  oV 5 (.mv (.t 8)),
  oV 9 (.ext 5 0),
  oV 10 (.ext 5 1),
  oV 3 (.mv (.t 9)),
  oV 4 (.mv (.t 10))] [5,6,7,8,9,10]
abbrev zXq:HCode:=oR [oV 11 (.mv (.t 4)),
  oV 12 (.ints .neq (.t 11) (.c (iv 0)))] [11]
abbrev zXr:HCode:=oR [oV 13 (.mv (.t 4)),
  oV 2 (.mv (.t 13))] [13]
abbrev zXs:HCode:=oR [oV 14 (.mv (.t 3)),
  oV 15 (.fldR (.t 1) 1 1),
  oV 16 (.ldR (.t 15) 1 false),
  oC 17 zBT [(.t 14,.v),(.t 16,.v),(.f zDD,.v)],
  oV 18 (.not (.t 17))] [14,15,16,17]
abbrev zXt:HCode:=oN [oV 2 (.mv (.c (iv 1)))]
abbrev zXu:HCode:=oN [oV 2 (.mv (.c (iv 0)))]
abbrev yFi:HCode:=(.seq zXo (.seq zXp (.seq (.seq zXq (.cond (.t 12) (.seq zXr .ret) .skip)) (.seq (.seq zXs (.cond (.t 18) (.seq zXt .ret) .skip)) (.seq zXu .ret)))))
abbrev zOw:Env:={N:=19,Γ:=[],L:=19,nfix:=0}
abbrev index_Fits_R:List RSrc:=[.tmp 2]
theorem zXv:zBE Tryz.prog zEx yFi zOw index_Fits_R:=by kernel_rfl
abbrev zXw:HCode:=oN [oV 2 (.boxF (.t 0)),
  oV 4 (.mv (.c (.one (.nl 1)))),
  oV 5 (.mv (.c (iv 0)))]
abbrev zXx:HCode:=oR [oV 17 (.ldR (.t 2) 2 true),
  oC 18 zEx [(.t 17,.v)],
  oV 6 (.mv (.t 18))] [17,18]
abbrev zXy:HCode:=oR [oV 19 (.mv (.t 6)),
  oV 20 (.ints .neq (.t 19) (.c (iv 0)))] [19]
abbrev zXz:HCode:=oR [oV 21 (.mv (.t 6)),
  oV 4 (.mv (.c (.one (.nl 1)))),
  oV 5 (.mv (.t 21))] [21]
abbrev zXA:HCode:=oR [oV 22 (.mv (.t 1)),
  oC 23 zEw [(.t 22,.v)],
  oV 7 (.mv (.t 23))] [22,23]
abbrev zXB:HCode:=oR [oV 24 (.mv (.t 7)),
  oV 25 (.ints .neq (.t 24) (.c (iv 0)))] [24]
abbrev zXC:HCode:=oR [oV 26 (.mv (.t 7)),
  oV 4 (.mv (.c (.one (.nl 1)))),
  oV 5 (.mv (.t 26))] [26]
abbrev zXD:HCode:=oN [⟨none,.mmk 27⟩,
  oV 8 (.mv (.t 27))]
abbrev zXE:HCode:=oN [oV 28 (.mv (.t 1)),
  oV 29 (.len false (.t 28)),
  oV 30 (.mv (.c (iv 0)))]
abbrev zXF:HCode:=oN [oV 31 (.ints .lss (.t 30) (.t 29))]
abbrev zTu:HCode:=oR [oV 32 (.idxA 2 (.t 28) (.t 30)),
  oV 33 (.ldR (.t 32) 2 true),
  ⟨none,.alloc 10 0 75 [.nl 2,.nl 1]⟩,
  ⟨none,.sto (.t 10) 0 75 0 2 (.t 33)⟩] [32,33]
abbrev zTv:HCode:=oR [oV 34 (.ldR (.t 2) 2 true),
  oV 35 (.ldB (.t 10) 0 75 0 2 true),
  oC 36 zFR [(.t 34,.v),(.t 35,.v)],
  oV 37 (.len false (.t 36)),
  oV 38 (.mv (.c (iv 0)))] [34,35]
abbrev zTw:HCode:=oN [oV 39 (.ints .lss (.t 38) (.t 37))]
abbrev zTx:HCode:=oR [oV 40 (.idxA 1 (.t 36) (.t 38)),
  oV 41 (.ldR (.t 40) 1 false),
  oV 12 (.mv (.t 41))] [40,41]
abbrev zTy:HCode:=oR [oV 43 (.fldR (.t 2) 0 1),
  oV 44 (.ldR (.t 43) 1 true),
  oV 45 (.ldB (.t 10) 0 75 0 2 true),
  oV 46 (.bslF 2 [.t 45]),
  oV 47 (.mv (.t 12)),
  oC 48 zEh [(.t 44,.v),(.t 46,.v),(.t 47,.v)],
  oV 42 (.mv (.t 48)),
  oV 49 (.ext 42 0),
  oV 50 (.ext 42 1),
  oV 13 (.mv (.t 49)),
  oV 14 (.mv (.t 50))] [14,42,43,44,45,46,47,48,49,50]
abbrev zTz:HCode:=oN [oV 51 (.mv (.t 13))]
abbrev zTA:HCode:=oR [oV 52 (.mv (.t 8)),
  oV 53 (.mv (.t 12)),
  ⟨none,.mpl 54 (.t 52) 27 1 (.t 53) (.v (.int .i64 0)) false⟩,
  oV 55 (.ints .add (.t 54) (.c (iv 1))),
  ⟨none,.mps (.t 52) 27 1 (.t 53) (.t 55)⟩] [52,53,54,55]
abbrev zTB:HCode:=oR [oV 56 (.ints .add (.t 38) (.c (iv 1))),
  oV 38 (.mv (.t 56))] [56]
abbrev zTC:HCode:=oR [oV 57 (.ints .add (.t 30) (.c (iv 1))),
  oV 30 (.mv (.t 57))] [57]
abbrev zTD:HCode:=oN [⟨none,.nlo 15 zAs 1⟩]
abbrev zTE:HCode:=oR [oV 58 (.fldR (.t 2) 0 1),
  oV 59 (.fldR (.t 58) 0 1),
  oV 60 (.ldR (.t 59) 1 false),
  oV 61 (.len false (.t 60)),
  oV 62 (.mv (.c (iv 0)))] [58,59,60]
abbrev zTF:HCode:=oN [oV 63 (.ints .lss (.t 62) (.t 61))]
abbrev zTG:HCode:=oR [oV 64 (.mv (.t 62)),
  oV 16 (.mv (.t 64))] [64]
abbrev zTH:HCode:=oR [oV 65 (.mv (.t 8)),
  oV 66 (.mv (.t 16)),
  ⟨none,.mpl 67 (.t 65) 27 1 (.t 66) (.v (.int .i64 0)) false⟩,
  oV 68 (.ints .gtr (.t 67) (.c (iv 0)))] [65,66,67]
abbrev zTI:HCode:=oR [⟨none,.mvo 69 15⟩,
  oV 70 (.mv (.t 16)),
  oV 71 (.bslF 1 [.t 70]),
  ⟨none,.app 72 zAs 1 (.t 69) (.t 71)⟩,
  ⟨none,.mvo 15 72⟩] [69,70,71,72]
abbrev zTJ:HCode:=oR [oV 73 (.ints .add (.t 62) (.c (iv 1))),
  oV 62 (.mv (.t 73))] [73]
abbrev zTK:HCode:=oR [oV 74 (.mv (.t 15)),
  oV 4 (.mv (.t 74)),
  oV 5 (.mv (.c (iv 0)))] [74]
abbrev yFj:HCode:=(.seq zXw (.seq (.seq zXx (.seq zXy (.cond (.t 20) (.seq zXz .ret) .skip))) (.seq (.seq zXA (.seq zXB (.cond (.t 25) (.seq zXC .ret) .skip))) (.seq zXD (.seq (.seq zXE (.block 0 (.loop (.seq zXF (.seq (.cond (.t 31) .skip (.exit 0)) (.seq (.block 1 (.seq zTu (.seq zTv (.block 2 (.loop (.seq zTw (.seq (.cond (.t 39) .skip (.exit 2)) (.seq (.block 3 (.seq zTx (.seq zTy (.seq zTz (.cond (.t 51) zTA .skip))))) zTB)))))))) zTC)))))) (.seq zTD (.seq (.seq zTE (.block 4 (.loop (.seq zTF (.seq (.cond (.t 63) .skip (.exit 4)) (.seq (.block 5 (.seq zTG (.seq zTH (.cond (.t 68) zTI .skip)))) zTJ)))))) (.seq zTK .ret))))))))
abbrev zOx:Env:={N:=75,Γ:=[(75,2)],L:=77,nfix:=0}
abbrev index_Find_R:List RSrc:=[.tmp 4,.tmp 5]
theorem zXG:zBE Tryz.prog zHd yFj zOx index_Find_R:=by kernel_rfl
abbrev zMw:HCode:=oN [oV 4 (.mv (.c (bv false)))]
abbrev zMx:HCode:=oR [oV 6 (.mv (.t 0)),
  oV 7 (.len false (.t 6)),
  oV 8 (.mv (.t 1)),
  oV 9 (.len false (.t 8)),
  oV 10 (.ints .neq (.t 7) (.t 9))] [6,7,8,9]
abbrev zMy:HCode:=oN [oV 4 (.mv (.c (bv false)))]
abbrev zMz:HCode:=oN [oV 5 (.mv (.c (iv 0)))]
abbrev zMA:HCode:=oR [oV 11 (.mv (.t 5)),
  oV 12 (.mv (.t 0)),
  oV 13 (.len false (.t 12)),
  oV 14 (.ints .lss (.t 11) (.t 13))] [11,12,13]
abbrev zMB:HCode:=oQ [oD 0 false (oV 17 (.mv (.t 0))),
  oD 1 false (oV 18 (.mv (.t 5))),
  oD 2 false (oV 19 (.idxA 3 (.t 17) (.t 18))),
  oD 3 false (oV 20 (.fldR (.t 19) 0 1)),
  oD 4 false (oV 21 (.ldR (.t 20) 1 false)),
  oD 5 false (oV 22 (.mv (.t 1))),
  oD 6 false (oV 23 (.mv (.t 5))),
  oD 7 false (oV 24 (.idxA 3 (.t 22) (.t 23))),
  oD 8 false (oV 25 (.fldR (.t 24) 0 1)),
  oD 9 false (oV 26 (.ldR (.t 25) 1 false)),
  oD 10 false (oV 27 (.ints .neq (.t 21) (.t 26))),
  oD 11 false (oV 28 (.mv (.t 27))),
  oD 12 false (oG 28 false 29 (.mv (.t 0))),
  oD 13 false (oG 28 false 30 (.mv (.t 5))),
  oD 14 false (oG 28 false 31 (.idxA 3 (.t 29) (.t 30))),
  oD 15 false (oG 28 false 32 (.fldR (.t 31) 1 1)),
  oD 16 false (oG 28 false 33 (.ldR (.t 32) 1 false)),
  oD 17 false (oG 28 false 34 (.mv (.t 1))),
  oD 18 false (oG 28 false 35 (.mv (.t 5))),
  oD 19 false (oG 28 false 36 (.idxA 3 (.t 34) (.t 35))),
  oD 20 false (oG 28 false 37 (.fldR (.t 36) 1 1)),
  oD 21 false (oG 28 false 38 (.ldR (.t 37) 1 false)),
  oD 22 false (oG 28 false 39 (.strs .neq (.t 33) (.t 38))),
  oD 23 false (oV 40 (.pick (.t 28) (.c (bv true)) (.t 39))),
  oD 24 false (oV 41 (.mv (.t 40))),
  oD 25 false (oG 41 false 42 (.mv (.t 0))),
  oD 26 false (oG 41 false 43 (.mv (.t 5))),
  oD 27 false (oG 41 false 44 (.idxA 3 (.t 42) (.t 43))),
  oD 28 false (oG 41 false 45 (.fldR (.t 44) 2 1)),
  oD 29 false (oG 41 false 46 (.ldR (.t 45) 1 false)),
  oD 30 false (oG 41 false 47 (.mv (.t 1))),
  oD 31 false (oG 41 false 48 (.mv (.t 5))),
  oD 32 false (oG 41 false 49 (.idxA 3 (.t 47) (.t 48))),
  oD 33 false (oG 41 false 50 (.fldR (.t 49) 2 1)),
  oD 34 false (oG 41 false 51 (.ldR (.t 50) 1 false)),
  oD 35 true ⟨some (41,false),.call (some 52) zDr [(.t 46,.v),(.t 51,.v)]⟩,
  oD 36 false (oG 41 false 53 (.not (.t 52))),
  oD 37 false (oV 54 (.pick (.t 41) (.c (bv true)) (.t 53)))] [17,18,19,20,21,22,23,24,25,26,27,28,29,30,31,32,33,34,35,36,37,38,39,40,41,42,43,44,45,46,47,48,49,50,51,52,53]
abbrev zMC:HCode:=oN [oV 4 (.mv (.c (bv false)))]
abbrev zMD:HCode:=oR [oV 15 (.mv (.t 5)),
  oV 16 (.ints .add (.t 15) (.c (iv 1))),
  oV 5 (.mv (.t 16))] [15,16]
abbrev zME:HCode:=oN [oV 4 (.mv (.c (bv true)))]
abbrev zRr:HCode:=(.seq zMw (.seq (.seq zMx (.cond (.t 10) (.seq zMy .ret) .skip)) (.seq (.seq zMz (.block 0 (.loop (.seq (.seq zMA (.cond (.t 14) .skip (.exit 0))) (.seq (.block 1 (.seq zMB (.cond (.t 54) (.seq zMC .ret) .skip))) zMD))))) (.seq zME .ret))))
abbrev zGP:Env:={N:=55,Γ:=[],L:=55,nfix:=0}
abbrev ref_SameIndexes_R:List RSrc:=[.tmp 4]
theorem zMF:zBE Tryz.prog zDE zRr zGP ref_SameIndexes_R:=by kernel_rfl
end Go.Hx
end

section
namespace Go.Hx
open Go.Proofs
variable [Glob]
attribute [local go_sem] zAk zAi zAj zAe ndV zAg
end Go.Hx
end

section
set_option maxRecDepth 100000
set_option linter.unusedSimpArgs false
namespace Go.Hx
open Go.Proofs
variable [Glob]
attribute [local go_sem] zAk zAi zAj zAe ndV zAg
attribute [local go_sem] reduceCtorEq Nat.reduceAdd Nat.reduceEqDiff reduceIte Nat.reduceLeDiff Nat.reduceLT Nat.reduceSub
theorem zKs (a b:List Int):Contract Tryz.prog zDr [.val (.one (.sl 1 (zAH a))),.val (.one (.sl 1 (zAH b)))] {res:=.val (bv (decide (a=b)))}:=by
 refine mkA zQK (base:=0) (fo rfl) (fun hfit=>?_)
 unfold F0 zKn
 refine goU ?_
 have hm:=zDp (k:=1) hfit.1
 rw [zAe] at hm
 refine zAa (by rfl) trivial (fun h=>?_) (fun h=>?_)
 ·refine goW ?_
  refine zAb rfl trivial (.inl ?_)
  congr 3
  simp [zAe] at h
  exact decide_eq_false (fun e=>h (by subst e;rfl))
 have hl:a.length=b.length:=by simp [zAe] at h;omega
 refine goW ?_
 refine zAn (fun i:Nat=>[(5,.pv (iv i)),(14,.un),(25,.un)]) (fun i=>a.length-i) (fun i=>i≤a.length∧a.take i=b.take i) 0 ?_ ⟨Nat.zero_le _,rfl⟩ ?_
 ·simp (maxSteps:=2000000) only [go_sem,zAS,zBu,zCR,zAT]
 intro i ⟨hi,heq⟩
 try simp (maxSteps:=2000000) only [go_sem,zAe]
 repeat with_reducible refine zAP ?_
 refine zAa (by rfl) trivial (fun h2=>?_) (fun h2=>?_)
 ·have hlt:i < a.length:=by simpa using h2
  have hltb:i < b.length:=by omega
  try simp (maxSteps:=2000000) only [go_sem,zD3 _ _ hlt,zD3 _ _ hltb,zAe]
  repeat with_reducible refine zAP ?_
  refine zAa (by rfl) trivial (fun h3=>?_) (fun h3=>?_)
  ·refine goW ?_
   refine zAb rfl trivial (.inl ?_)
   congr 3
   simp only [bne_iff_ne,ne_eq] at h3
   exact (decide_eq_false (yEH 0 h3))
  ·refine goW ?_
   refine ⟨i+1,by omega,⟨hlt,zYy 0 heq hlt hltb ?_⟩,?_⟩
   ·simpa only [bne_eq_false_iff_eq] using h3
   ·simp (maxSteps:=2000000) only [go_sem,zAS,zBu,zCR,zAT]
    exact zBa (by omega)
 ·refine goW ?_
  refine zAb rfl trivial (.inl ?_)
  congr 3
  have hi2:i=a.length:=by simp at h2;omega
  subst hi2
  exact decide_eq_true (yEI hl heq)
end Go.Hx
end

section
set_option maxRecDepth 100000
set_option linter.unusedSimpArgs false
namespace Go.Hx
open Go.Proofs
variable [Glob]
attribute [local go_sem] zAk zAi zAj zAe ndV zAg
end Go.Hx
end

section
set_option maxRecDepth 100000
set_option linter.unusedSimpArgs false
set_option maxHeartbeats 4000000
namespace Go.Hx
open Go.Proofs
variable [Glob]
attribute [local go_sem] zAk zAi zAj zAe ndV zAg zAf
attribute [local go_sem] reduceCtorEq Nat.reduceAdd Nat.reduceEqDiff reduceIte Nat.reduceLeDiff Nat.reduceLT Nat.reduceSub
def yFk (e:Ent):List PV:=[bI e.kind,bS e.name,.sl 1 (zAH e.nodes)]
def zCK (l:List Ent):List (List PV):=l.map yFk
theorem zB5 (l:List Ent):(zCK l).length=l.length:=by simp [zCK]
theorem zJi (l:List Ent) (i:Nat) (h:i < l.length):(zCK l).getD i []=yFk (l.getD i default):=by simp [zCK,h]
theorem yGN (a:Int):Contract Tryz.prog zCZ [.val (iv a)] {res:=.val (bv false)}:=by
 refine mkA zOW (base:=0) (fo rfl) (fun hfit=>?_)
 unfold F0 zI6
 refine goU ?_
 have e:(a != a)=false:=by simp
 try simp (maxSteps:=2000000) only [go_sem,e]
 repeat with_reducible refine zAP ?_
 exact zAb rfl trivial (.inl rfl)
theorem zZ5 (a:Bys):Contract Tryz.prog zCe [.val (sv a)] {res:=.val (bv false)}:=by
 refine mkA zLf (base:=0) (fo rfl) (fun hfit=>?_)
 unfold F0 zFA
 refine goU ?_
 have e:(a==a)=true:=by simp
 try simp (maxSteps:=2000000) only [go_sem,e,Bool.not_true]
 repeat with_reducible refine zAP ?_
 exact zAb rfl trivial (.inl rfl)
def yIO (a b:Int):Int:=if a < b then -1 else if a > b then 1 else 0
theorem yGO (a b:Int):Contract Tryz.prog zDC [.val (iv a),.val (iv b)] {res:=.val (iv (yIO a b))}:=by
 unfold yIO
 refine mkA zMs (base:=0) (fo rfl) (fun hfit=>?_)
 unfold F0 zGO
 refine goU ?_
 refine zAo (by repeat' constructor) (yGN a) ?_
 refine goW ?_
 refine zAo (by repeat' constructor) (yGN b) ?_
 refine goW ?_
 refine zAa (by rfl) trivial (fun h1=>?_) (fun h1=>?_)
 ·cases h1
 ·refine goW ?_
  refine zAa (by rfl) trivial (fun h2=>?_) (fun h2=>?_)
  ·cases h2
  ·refine goW ?_
   refine zAa (by rfl) trivial (fun h3=>?_) (fun h3=>?_)
   ·rw [if_pos (by simpa using h3)]
    refine goW ?_
    exact zAb rfl trivial (.inl rfl)
   ·rw [if_neg (by simpa using h3)]
    refine goW ?_
    refine zAa (by rfl) trivial (fun h4=>?_) (fun h4=>?_)
    ·rw [if_pos (by simpa using h4)]
     refine goW ?_
     exact zAb rfl trivial (.inl rfl)
    ·rw [if_neg (by simpa using h4)]
     refine goW ?_
     exact zAb rfl trivial (.inl rfl)
def yLR (a b:Bys):Int:=if Op.bytesLess a b then -1 else if a=b then 0 else 1
theorem yCp (a b:Bys):Contract Tryz.prog zCA [.val (sv a),.val (sv b)] {res:=.val (iv (yLR a b))}:=by
 unfold yLR
 refine mkA zJh (base:=0) (fo rfl) (fun hfit=>?_)
 unfold F0 zEq
 refine goU ?_
 refine zAo (by repeat' constructor) (zZ5 a) ?_
 refine goW ?_
 refine zAo (by repeat' constructor) (zZ5 b) ?_
 refine goW ?_
 refine zAa (by rfl) trivial (fun h1=>?_) (fun h1=>?_)
 ·cases h1
 ·refine goW ?_
  refine zAa (by rfl) trivial (fun h2=>?_) (fun h2=>?_)
  ·cases h2
  ·refine goW ?_
   refine zAa (by rfl) trivial (fun h3=>?_) (fun h3=>?_)
   ·rw [if_pos h3]
    refine goW ?_
    exact zAb rfl trivial (.inl rfl)
   ·rw [if_neg (by rw [h3];decide)]
    refine goW ?_
    refine zAa (by rfl) trivial (fun h4=>?_) (fun h4=>?_)
    ·rw [if_neg (by rintro rfl;simp at h4)]
     refine goW ?_
     exact zAb rfl trivial (.inl rfl)
    ·rw [if_pos (by simp [h3] at h4;exact h4)]
     refine goW ?_
     exact zAb rfl trivial (.inl rfl)
theorem yO0 (x y:Int):Contract Tryz.prog zHc [.val (.one (.sl 1 [[bI x],[bI y]]))] {res:=.val (iv (if x≠0 then x else y))}:=by
 refine mkA zXa (base:=0) (fo rfl) (fun hfit=>?_)
 unfold F0 zOu
 refine goU ?_
 refine zAn (fun i:Nat=>[(8,.pv (iv i)),(2,.un),(5,.un),(9,.un),(14,.un)]) (fun i:Nat=>2-i) (fun i:Nat=>i≤2∧(1≤i→x=0)∧(2≤i→y=0)) (0) ?_ ⟨Nat.zero_le _,fun h=>(by omega),fun h=>(by omega)⟩ ?_
 focus (exact leA)
 rintro i ⟨hi,hx,hy⟩
 rcases (by omega:i=0∨i=1∨i=2) with rfl|rfl|rfl
 ·try simp (maxSteps:=2000000) only [go_sem,List.getD_cons_zero,List.length_cons,List.length_nil]
  repeat with_reducible refine zAP ?_
  refine zAa (by rfl) trivial (fun g1=>?_) (fun g1=>?_)
  ·try simp (maxSteps:=2000000) only [go_sem,List.getD_cons_zero,List.length_cons,List.length_nil]
   repeat with_reducible refine zAP ?_
   refine zAa (by rfl) trivial (fun g2=>?_) (fun g2=>?_)
   ·rw [if_pos (by simpa using g2)]
    refine goW ?_
    exact zAb rfl trivial (.inl rfl)
   ·have h0:x=0:=by simpa using g2
    refine goW ?_
    refine ⟨1,by omega,⟨by omega,fun _=>h0,fun h=>(by omega)⟩,?_⟩
    exact leA
  ·simp at g1
 ·try simp (maxSteps:=2000000) only [go_sem,List.getD_cons_zero,List.getD_cons_succ,List.length_cons,List.length_nil]
  repeat with_reducible refine zAP ?_
  refine zAa (by rfl) trivial (fun g1=>?_) (fun g1=>?_)
  ·try simp (maxSteps:=2000000) only [go_sem,List.getD_cons_zero,List.getD_cons_succ,List.length_cons,List.length_nil]
   repeat with_reducible refine zAP ?_
   refine zAa (by rfl) trivial (fun g2=>?_) (fun g2=>?_)
   ·rw [if_neg (by simpa using hx (by omega))]
    refine goW ?_
    exact zAb rfl trivial (.inl rfl)
   ·have h0:y=0:=by simpa using g2
    refine goW ?_
    refine ⟨2,by omega,⟨by omega,fun _=>hx (by omega),fun _=>h0⟩,?_⟩
    exact leA
  ·simp at g1
 ·try simp (maxSteps:=2000000) only [go_sem,List.length_cons,List.length_nil]
  repeat with_reducible refine zAP ?_
  refine zAa (by rfl) trivial (fun g1=>?_) (fun g1=>?_)
  ·simp at g1
  ·refine goW ?_
   rw [if_neg (by simpa using hx (by omega)),hy (by omega)]
   exact zAb rfl trivial (.inl rfl)
def yHS (a b:Key):Int:=if yIO a.1 b.1≠0 then yIO a.1 b.1 else yLR a.2 b.2
theorem yD3 (k k':Int) (n n':Bys) (z z':PV):Contract Tryz.prog zBh [.val (.agg [bI k,bS n,z]),.val (.agg [bI k',bS n',z'])] {res:=.val (iv (yHS (k,n) (k',n')))}:=by
 have h1:=yGO k k'
 have h2:=yCp n n'
 have h3:=yO0 (yIO k k') (yLR n n')
 refine mkA zTg (base:=0) (fo rfl) (fun hfit=>?_)
 unfold F0 zMu
 refine goU ?_
 refine zAo (by repeat' constructor) (h1) ?_
 refine goW ?_
 refine zAo (by repeat' constructor) (h2) ?_
 refine goW ?_
 refine zAo (by repeat' constructor) (h3) ?_
 refine goW ?_
 exact zAb rfl trivial (.inl rfl)
theorem yLc (a b:Ent):Contract Tryz.prog zBh [.val (.agg (yFk a)),.val (.agg (yFk b))] {res:=.val (iv (yHS a.key b.key))}:=yD3 a.kind b.kind a.name b.name _ _
theorem zUJ (a b:Int):(a < b∧yIO a b=-1)∨(a=b∧yIO a b=0)∨(b < a∧yIO a b=1):=by
 unfold yIO
 rcases Int.lt_trichotomy a b with h|h|h
 ·exact .inl ⟨h,by rw [if_pos h]⟩
 ·exact .inr (.inl ⟨h,by rw [if_neg (by omega),if_neg (by omega)]⟩)
 ·exact .inr (.inr ⟨h,by rw [if_neg (by omega),if_pos h]⟩)
theorem yIP (a b:Key):yHS a b < 0↔zAC a b=true:=by
 unfold yHS zAC
 rcases zUJ a.1 b.1 with ⟨h,e⟩|⟨h,e⟩|⟨h,e⟩
 ·rw [e,if_pos (by decide),if_neg (by omega)]
  simp [h]
 ·rw [e,if_neg (by decide),if_pos h]
  unfold yLR
  cases hb:Op.bytesLess a.2 b.2 with
  |true=>simp
  |false=>
   rw [if_neg (by decide)]
   split<;>simp
 ·rw [e,if_pos (by decide),if_neg (by omega)]
  simp;omega
theorem yGP (a b:Key):yHS a b=0↔a=b:=by
 unfold yHS
 rcases zUJ a.1 b.1 with ⟨h,e⟩|⟨h,e⟩|⟨h,e⟩
 ·rw [e,if_pos (by decide)]
  simp
  intro h2;rw [h2] at h;omega
 ·rw [e,if_neg (by decide)]
  unfold yLR
  constructor
  ·intro g
   split at g
   ·cases g
   ·split at g
    ·rename_i h2;exact Prod.ext h h2
    ·cases g
  ·rintro rfl
   rw [zH7,if_neg (by decide),if_pos rfl]
 ·rw [e,if_pos (by decide)]
  simp
  intro h2;rw [h2] at h;omega
end Go.Hx
end

section
set_option maxRecDepth 100000
set_option linter.unusedSimpArgs false
namespace Go.Hx
open Go.Proofs
variable [Glob]
attribute [local go_sem] zAk zAi zAj zAe ndV zAg zAf fdV Fd.add fM fF fR fK Nat.add_zero
attribute [local go_sem] reduceCtorEq Nat.reduceAdd Nat.reduceEqDiff reduceIte Nat.reduceLeDiff Nat.reduceLT Nat.reduceSub
theorem zCp {F:List Ct} {E:Env} {base:Nat} {av:List AV} {cells io:List PV} (hio:ioOf av=some cells) (hc:zAM F base cells.length=some io):yED E base av [] {res:=.tup [],io:=io} .normal F:=
 ⟨rfl,fun cs h=>by rw [hio] at h;injection h with h;subst h;exact hc⟩
theorem zXH (c:Fd) (b:Bool) (h:c.m≤1000000000):Contract Tryz.prog zAu [.io (fdV c),.val (bv b),.val (iv 2)] {res:=.tup [],io:=fdV (c.add (fM b))}:=by
 unfold fdV
 refine mkA zCJ (base:=17) ⟨Nat.le_of_ble_eq_true rfl,Nat.le_of_ble_eq_true rfl,Nat.le_of_ble_eq_true rfl,⟨rfl,rfl⟩⟩ (fun hfit=>?_)
 unfold F0 zCi
 refine goU ?_
 refine zAa (by rfl) trivial (fun hb=>?_) (fun hb=>?_)
 ·subst hb
  try simp (maxSteps:=2000000) only [go_sem,Int.reduceToNat]
  repeat with_reducible refine zAP ?_
  exact zCp rfl rfl
 ·subst hb
  refine goW ?_
  exact zCp rfl rfl
theorem zPD (c:Fd) (b:Bool) (h:c.f≤1000000000):Contract Tryz.prog zAu [.io (fdV c),.val (bv b),.val (iv 1)] {res:=.tup [],io:=fdV (c.add (fF b))}:=by
 unfold fdV
 refine mkA zCJ (base:=17) ⟨Nat.le_of_ble_eq_true rfl,Nat.le_of_ble_eq_true rfl,Nat.le_of_ble_eq_true rfl,⟨rfl,rfl⟩⟩ (fun hfit=>?_)
 unfold F0 zCi
 refine goU ?_
 refine zAa (by rfl) trivial (fun hb=>?_) (fun hb=>?_)
 ·subst hb
  try simp (maxSteps:=2000000) only [go_sem,Int.reduceToNat]
  repeat with_reducible refine zAP ?_
  exact zCp rfl rfl
 ·subst hb
  refine goW ?_
  exact zCp rfl rfl
theorem yIQ (c:Fd) (b:Bool) (h:c.r≤1000000000):Contract Tryz.prog zAu [.io (fdV c),.val (bv b),.val (iv 3)] {res:=.tup [],io:=fdV (c.add (fR b))}:=by
 unfold fdV
 refine mkA zCJ (base:=17) ⟨Nat.le_of_ble_eq_true rfl,Nat.le_of_ble_eq_true rfl,Nat.le_of_ble_eq_true rfl,⟨rfl,rfl⟩⟩ (fun hfit=>?_)
 unfold F0 zCi
 refine goU ?_
 refine zAa (by rfl) trivial (fun hb=>?_) (fun hb=>?_)
 ·subst hb
  try simp (maxSteps:=2000000) only [go_sem,Int.reduceToNat]
  repeat with_reducible refine zAP ?_
  exact zCp rfl rfl
 ·subst hb
  refine goW ?_
  exact zCp rfl rfl
theorem yD4 (c:Fd) (b:Bool) (h:c.k≤1000000000):Contract Tryz.prog zAu [.io (fdV c),.val (bv b),.val (iv 4)] {res:=.tup [],io:=fdV (c.add (fK b))}:=by
 unfold fdV
 refine mkA zCJ (base:=17) ⟨Nat.le_of_ble_eq_true rfl,Nat.le_of_ble_eq_true rfl,Nat.le_of_ble_eq_true rfl,⟨rfl,rfl⟩⟩ (fun hfit=>?_)
 unfold F0 zCi
 refine goU ?_
 refine zAa (by rfl) trivial (fun hb=>?_) (fun hb=>?_)
 ·subst hb
  try simp (maxSteps:=2000000) only [go_sem,Int.reduceToNat]
  repeat with_reducible refine zAP ?_
  exact zCp rfl rfl
 ·subst hb
  refine goW ?_
  exact zCp rfl rfl
def shV (k:Int):PVal:=.agg [bB (yGy k),bB (zYF k),bB (yNT k),bB (zNr k)]
def kOk (k:Int):Bool:=decide (1≤k∧k≤15)
theorem yGQ (k:Int):Contract Tryz.prog zNt [.val (iv k)] {res:=.tup [shV k,bv (kOk k)]}:=by
 refine mkA yFc (base:=0) (fo rfl) (fun hfit=>?_)
 unfold F0 zZy
 refine goU ?_
 by_cases hk:1≤k∧k≤15
 ·have hn:k=1∨k=2∨k=3∨k=4∨k=5∨k=6∨k=7∨k=8∨k=9∨k=10∨k=11∨k=12∨k=13∨k=14∨k=15:=by omega
  rcases hn with rfl|rfl|rfl|rfl|rfl|rfl|rfl|rfl|rfl|rfl|rfl|rfl|rfl|rfl|rfl
  all_goals
   repeat (first|(refine zKk (by rfl) trivial ?_;(try simp (maxSteps:=2000000) only [go_sem]))|(refine zHm (by rfl) trivial ?_;(try simp (maxSteps:=2000000) only [go_sem])))
   exact zAA (by simp) ⟨zAZ rfl rfl (.inl rfl),zAv rfl trivial (.inl rfl),rfl⟩
 ·have e:∀ n:Int,1≤n→n≤15→(k==n)=false:=by intro n h1 h2;simp;omega
  have hs:shV k=.agg [bB false,bB false,bB false,bB false]:=by
   unfold shV
   congr 2
   ·unfold yGy;congr 2;simp;omega
   ·congr 1
    ·unfold zYF;congr 2;simp;omega
    ·congr 1
     ·unfold yNT;congr 2;simp;omega
     ·congr 1
      unfold zNr;congr 2;simp;omega
  have ho:kOk k=false:=by unfold kOk;simp;omega
  rw [hs,ho]
  try simp (maxSteps:=2000000) only [go_sem,e 1 (by omega) (by omega),e 2 (by omega) (by omega),e 3 (by omega) (by omega),e 4 (by omega) (by omega),e 5 (by omega) (by omega),e 6 (by omega) (by omega),e 7 (by omega) (by omega),e 8 (by omega) (by omega),e 9 (by omega) (by omega),e 10 (by omega) (by omega),e 11 (by omega) (by omega),e 12 (by omega) (by omega),e 13 (by omega) (by omega),e 14 (by omega) (by omega),e 15 (by omega) (by omega)]
  repeat (refine zHm (by rfl) trivial ?_;(try simp (maxSteps:=2000000) only [go_sem,e 1 (by omega) (by omega),e 2 (by omega) (by omega),e 3 (by omega) (by omega),e 4 (by omega) (by omega),e 5 (by omega) (by omega),e 6 (by omega) (by omega),e 7 (by omega) (by omega),e 8 (by omega) (by omega),e 9 (by omega) (by omega),e 10 (by omega) (by omega),e 11 (by omega) (by omega),e 12 (by omega) (by omega),e 13 (by omega) (by omega),e 14 (by omega) (by omega),e 15 (by omega) (by omega)]))
  exact zAA (by simp) ⟨zAZ rfl rfl (.inl rfl),zAv rfl trivial (.inl rfl),rfl⟩
theorem zZ6:Contract Tryz.prog zHa [] {res:=.val (.agg [bI 2,bI 4,bI 1,bI 3])}:=by
 refine mkA zWA (base:=0) (fo rfl) (fun hfit=>?_)
 unfold F0 zOr
 refine goU ?_
 exact zQq rfl rfl rfl
end Go.Hx
end

section
set_option maxRecDepth 100000
set_option linter.unusedSimpArgs false
namespace Go.Hx
open Go.Proofs
variable [Glob]
attribute [local go_sem] zAk zAi zAj zAe ndV zAg zAf fdV zBC zA2 zBy zBx
attribute [local go_sem] reduceCtorEq Nat.reduceAdd Nat.reduceEqDiff reduceIte Nat.reduceLeDiff Nat.reduceLT Nat.reduceSub
theorem zDG {α:Type} {d:α} {l:List α} {i:Nat} (h:i < l.length):l.drop i=l.getD i d::l.drop (i+1):=by
 rw [List.drop_eq_getElem_cons h]
 simp [h]
def yO1 (P:Program) (N:Nat):Prop:=
 (∀ (l:List Pt) (d K:Nat) (c:Fd),SizeOf.sizeOf l≤N→d≤4→c.le K→K+bd d≤1000000000→Contract P zBD [.io (fdV c),.val (zBC l),.val (iv d)] {res:=.tup [],io:=fdV (c.add (ntL l d))})∧
 (∀ (s:St) (d K:Nat) (c:Fd),SizeOf.sizeOf s≤N→d≤3→c.le K→K+bdS d≤1000000000→Contract P zCI [.io (fdV c),.val (.agg (stV s)),.val (iv d)] {res:=.tup [],io:=fdV (c.add (ntS s d))})
theorem yGR (N:Nat) (ih:yO1 Tryz.prog N) (l:List Pt) (d K:Nat) (c:Fd) (hN:SizeOf.sizeOf l≤N+1) (hd:d≤4) (hc:c.le K) (hK:K+bd d≤1000000000):Contract Tryz.prog zBD [.io (fdV c),.val (zBC l),.val (iv d)] {res:=.tup [],io:=fdV (c.add (ntL l d))}:=by
 unfold fdV zBC
 refine mkA zNG (base:=83) ⟨Nat.le_of_ble_eq_true rfl,Nat.le_of_ble_eq_true rfl,Nat.le_of_ble_eq_true rfl,⟨rfl,rfl⟩⟩ (fun hfit=>?_)
 unfold F0 zHn
 refine goU ?_
 have hlb:(bif bif decide (3 < (d:Int)) then true else decide ((l.length:Int) < 1) then true else decide (5 < (l.length:Int)))=zH9 l d:=by
  have e1:decide (3 < (d:Int))=decide (3 < d):=decide_eq_decide.2 (by omega)
  have e2:decide ((l.length:Int) < 1)=decide (l.length < 1):=decide_eq_decide.2 (by omega)
  have e3:decide (5 < (l.length:Int))=decide (5 < l.length):=decide_eq_decide.2 (by omega)
  unfold zH9
  rw [e1,e2,e3]
  cases decide (3 < d)<;>cases decide (l.length < 1)<;>rfl
 refine zAa (by rfl) trivial (fun h=>?_) (fun h=>?_)
 ·rw [hlb] at h
  have e:ntL l d=fM true:=by unfold ntL;rw [if_pos h]
  refine goW ?_
  have hb1:=zVP (4-d)
  have hb2:bd d=bdF (4-d):=rfl
  have hm:=hc.m
  refine zDS (by repeat' constructor) (zXH c true (by omega)) ?_
  refine goW ?_
  rw [e]
  exact zVG rfl rfl
 ·rw [hlb] at h
  have e:ntL l d=yA0 l d:=by unfold ntL;rw [if_neg (by rw [h];simp)]
  rw [e]
  have hd3:d≤3∧l.length≤5:=by
   simp only [zH9,Bool.or_eq_false_iff,decide_eq_false_iff_not] at h
   omega
  have hbd:=yK4 hd3.1
  refine goW ?_
  have hK0:K+(1+(l.length-0) * bdP d)≤1000000000:=by
   have:(l.length-0) * bdP d≤5 * bdP d:=Nat.mul_le_mul_right _ (by omega)
   omega
  refine zAn (fun x:Nat×Fd=>[(7,.un),(9,.un),(11,.un),(28,.pv (iv x.1)),(29,.un),(51,.un),(55,.un),(56,.un),(57,.un),(58,.un),(71,.un),(72,.un),(73,.un),(74,.un),(84,.pv (.one (bI x.2.f))),(85,.pv (.one (bI x.2.m))),(86,.pv (.one (bI x.2.r))),(87,.pv (.one (bI x.2.k))),(90,.un),(91,.un)]) (fun x:Nat×Fd=>l.length-x.1) (fun x:Nat×Fd=>x.1≤l.length∧(∃ K',x.2.le K'∧K'+(1+(l.length-x.1) * bdP d)≤1000000000)∧x.2.add (yA0 (l.drop x.1) d)=c.add (yA0 l d)) ((0,c)) ?_ ⟨Nat.zero_le _,⟨K,hc,hK0⟩,by simp⟩ ?_
  focus (exact leA)
  rintro ⟨i,a⟩ ⟨hi,⟨K',ha,hK'⟩,hsum⟩
  simp only at hi ha hK' hsum
  refine goW ?_
  have hbx:bd d≤1000000000:=by omega
  refine zAa (by rfl) trivial (fun h2=>?_) (fun h2=>?_)
  ·have hil:i < l.length:=by simp at h2;omega
   rw [zDG (d:=default) hil] at hsum
   obtain ⟨p,hp⟩:∃ p,p=l.getD i default:=⟨_,rfl⟩
   rw [←hp] at hsum
   have hg:(zQx l).getD i []=[.sl 2 (yFO p.steps),.sl 1 (zAH p.links)]:=by rw [zVM l i hil,←hp,zH8]
   have hsz:SizeOf.sizeOf p.steps≤N:=by
    have h3:=yIx p
    have h4:=yOU hil
    rw [←hp] at h4
    omega
   have hmul:(l.length-i) * bdP d=bdP d+(l.length-(i+1)) * bdP d:=by
    have:l.length-i=(l.length-(i+1))+1:=by omega
    rw [this,Nat.add_mul];omega
   have hbp:bdP d=4+5 * bdS d:=rfl
   have hin:(bif decide ((p.steps.length:Int) < 1) then true else decide (5 < (p.steps.length:Int)))=false→inR .i64 ((p.steps.length:Int)-1):=by
    intro h5
    have:¬ 5 < (p.steps.length:Int):=by
     intro h6
     rw [decide_eq_true h6] at h5
     cases hq:decide ((p.steps.length:Int) < 1)<;>rw [hq] at h5<;>cases h5
    exact zH5 (by omega) (by omega)
   try simp (maxSteps:=2000000) only [go_sem,hg]
   repeat with_reducible refine zAP ?_
   have hpb:(bif bif decide ((p.steps.length:Int) < 1) then true else decide (5 < (p.steps.length:Int)) then true else (p.links.length:Int) != (p.steps.length:Int)-1)=yBp p:=by
    have e2:decide ((p.steps.length:Int) < 1)=decide (p.steps.length < 1):=decide_eq_decide.2 (by omega)
    have e3:decide (5 < (p.steps.length:Int))=decide (5 < p.steps.length):=decide_eq_decide.2 (by omega)
    have e4:((p.links.length:Int) != (p.steps.length:Int)-1)=decide ((p.links.length:Int)≠p.steps.length-1):=by
     by_cases h5:(p.links.length:Int)=(p.steps.length:Int)-1<;>simp [h5]
    unfold yBp
    rw [e2,e3,e4]
    cases decide (p.steps.length < 1)<;>cases decide (5 < p.steps.length)<;>rfl
   simp only [yA0] at hsum
   refine zAa (by rfl) trivial (fun h3=>?_) (fun h3=>?_)
   ·rw [hpb] at h3
    rw [if_pos h3] at hsum
    rw [←hsum]
    refine goW ?_
    have hm:=ha.m
    refine zDS (by repeat' constructor) (zXH a true (by omega)) ?_
    refine goW ?_
    exact zVG rfl rfl
   ·rw [hpb] at h3
    rw [if_neg (by rw [h3];simp)] at hsum
    have hpl:p.steps.length≤5∧(p.links.length:Int)=p.steps.length-1:=by
     simp only [yBp,Bool.or_eq_false_iff,decide_eq_false_iff_not] at h3
     omega
    have hK1:K'+(p.links.length-0)≤K'+4:=by omega
    refine goW ?_
    refine zAn (fun x:Nat×Fd=>[(9,.un),(57,.pv (iv x.1)),(58,.un),(67,.un),(84,.pv (.one (bI x.2.f))),(85,.pv (.one (bI x.2.m))),(86,.pv (.one (bI x.2.r))),(87,.pv (.one (bI x.2.k)))]) (fun x:Nat×Fd=>p.links.length-x.1) (fun x:Nat×Fd=>x.1≤p.links.length∧(∃ K2,x.2.le K2∧K2+(p.links.length-x.1)≤K'+4)∧x.2.add (yDX (p.links.drop x.1))=a.add (yDX p.links)) ((0,a)) ?_ ⟨Nat.zero_le _,⟨K',ha,hK1⟩,by simp⟩ ?_
    focus (exact leA)
    rintro ⟨j,b⟩ ⟨hj,⟨K2,hb,hK2⟩,hsb⟩
    simp only at hj hb hK2 hsb
    refine goW ?_
    refine zAa (by rfl) trivial (fun h4=>?_) (fun h4=>?_)
    ·have hjl:j < p.links.length:=by simp at h4;omega
     rw [zDG (d:=0) hjl] at hsb
     have hg2:=zD3 p.links j hjl
     obtain ⟨v,hv⟩:∃ v,v=p.links.getD j 0:=⟨_,rfl⟩
     rw [←hv] at hg2 hsb
     have hvb:(bif decide (v < 1) then true else decide (4 < v))=yBo v:=by
      unfold yBo
      by_cases h5:v < 1<;>by_cases h6:4 < v<;>simp [h5,h6]<;>omega
     have hk:=hb.k
     try simp (maxSteps:=2000000) only [go_sem,hg2]
     repeat with_reducible refine zAP ?_
     refine zDS (by repeat' constructor) (yD4 b (bif decide (v < 1) then true else decide (4 < v)) (by omega)) ?_
     try simp (maxSteps:=2000000) only [go_sem,hvb]
     repeat with_reducible refine zAP ?_
     refine ⟨(j+1,b.add (fK (yBo v))),by simp only;omega,⟨by simp only;omega,⟨K2+1,hb.le_add (yK5 _),by simp only;omega⟩,?_⟩,?_⟩
     ·simp only
      rw [←hsb,Fd.add_assoc]
      congr 1
      simp only [yDX,Fd.add,fK,List.countP_cons,nB]
      congr 1
      split<;>omega
     ·exact leA
    ·have hjl:j=p.links.length:=by simp at h4;omega
     subst hjl
     rw [List.drop_length] at hsb
     have e5:b=a.add (yDX p.links):=by
      rw [←hsb]
      simp [yDX,Fd.add]
     have hK3:K2≤K'+4:=by omega
     have hK4:K2+(p.steps.length-0) * bdS d≤K'+bdP d:=by
      have:(p.steps.length-0) * bdS d≤5 * bdS d:=Nat.mul_le_mul_right _ (by omega)
      omega
     refine goW ?_
     refine zAn (fun x:Nat×Fd=>[(11,.un),(73,.pv (iv x.1)),(74,.un),(84,.pv (.one (bI x.2.f))),(85,.pv (.one (bI x.2.m))),(86,.pv (.one (bI x.2.r))),(87,.pv (.one (bI x.2.k))),(90,.un),(91,.un)]) (fun x:Nat×Fd=>p.steps.length-x.1) (fun x:Nat×Fd=>x.1≤p.steps.length∧(∃ K3,x.2.le K3∧K3+(p.steps.length-x.1) * bdS d≤K'+bdP d)∧x.2.add (yDY (p.steps.drop x.1) d)=b.add (yDY p.steps d)) ((0,b)) ?_ ⟨Nat.zero_le _,⟨K2,hb,hK4⟩,by simp⟩ ?_
     focus (exact leA)
     rintro ⟨k,e6⟩ ⟨hk,⟨K3,he6,hK5⟩,hse⟩
     simp only at hk he6 hK5 hse
     refine goW ?_
     refine zAa (by rfl) trivial (fun h6=>?_) (fun h6=>?_)
     ·have hkl:k < p.steps.length:=by simp at h6;omega
      rw [zDG (d:=default) hkl] at hse
      obtain ⟨q,hq⟩:∃ q,q=p.steps.getD k default:=⟨_,rfl⟩
      rw [←hq] at hse
      have hg3:(yFO p.steps).getD k []=[bS q.tag,.sl 6 (yGx q.tests)]:=by rw [zVL _ k hkl,←hq,zUA]
      have hqs:SizeOf.sizeOf q≤N:=by
       have h7:=yOT hkl
       rw [←hq] at h7
       omega
      have hmul2:(p.steps.length-k) * bdS d=bdS d+(p.steps.length-(k+1)) * bdS d:=by
       have:p.steps.length-k=(p.steps.length-(k+1))+1:=by omega
       rw [this,Nat.add_mul];omega
      have hst:=ih.2 q d K3 e6 hqs hd3.1 he6 (by omega)
      rw [zUA] at hst
      unfold fdV at hst
      try simp (maxSteps:=2000000) only [go_sem,hg3]
      repeat with_reducible refine zAP ?_
      refine zDS (by repeat' constructor) (hst) ?_
      refine goW ?_
      refine ⟨(k+1,e6.add (ntS q d)),by simp only;omega,⟨by simp only;omega,⟨K3+bdS d,he6.le_add (b_S q d),by simp only;omega⟩,?_⟩,?_⟩
      ·simp only [yDY] at hse ⊢
       rw [←hse,Fd.add_assoc]
      ·exact leA
     ·have hkl:k=p.steps.length:=by simp at h6;omega
      subst hkl
      rw [List.drop_length] at hse
      have e7:e6=b.add (yDY p.steps d):=by rw [←hse];rfl
      refine goW ?_
      refine ⟨(i+1,e6),by simp only;omega,⟨by simp only;omega,⟨K3,he6,by simp only;omega⟩,?_⟩,?_⟩
      ·simp only
       rw [←hsum,e7,e5,yNo,Fd.add_assoc,Fd.add_assoc,Fd.add_assoc]
      ·exact leA
  ·have hil:i=l.length:=by simp at h2;omega
   subst hil
   rw [List.drop_length] at hsum
   refine goW ?_
   rw [←hsum]
   exact zCp rfl rfl
end Go.Hx
end

section
set_option maxRecDepth 100000
set_option linter.unusedSimpArgs false
set_option maxHeartbeats 4000000
namespace Go.Hx
open Go.Proofs
variable [Glob]
attribute [local go_sem] zAk zAi zAj zAe ndV zAg zAf zB5 yFk
attribute [local go_sem] reduceCtorEq Nat.reduceAdd Nat.reduceEqDiff reduceIte Nat.reduceLeDiff Nat.reduceLT Nat.reduceSub
theorem yIR {n:Nat} (h:n * 8≤140737488355328):zNj Tryz.prog zAs n:=.inr ⟨8,by kernel_rfl,by simp only [maxLen];omega,h⟩
theorem yCq (l:List Int) (h:l.length * 8≤140737488355328):Contract Tryz.prog zDa [.val (.one (.sl 1 (zAH l)))] {res:=.own zAs 1 (zAH l)}:=by
 have hr:=yIR h
 refine mkA zLk (base:=0) (fo rfl) (fun hfit=>?_)
 unfold F0 zFB
 refine goU ?_
 intro b hb
 refine zAa (by rfl) trivial (fun h1=>?_) (fun h1=>?_)
 ·refine goW ?_
  have:zAH l=[]:=by
   cases hl:zAH l with
   |nil=>rfl
   |cons x y=>have:=hb (by rw [hl];simp);rw [this] at h1;cases h1
  rw [this]
  exact zG2 rfl
 ·refine goW ?_
  exact zG2 rfl
theorem yCr (a b:List Int):Contract Tryz.prog zDb [.val (.one (.sl 1 (zAH a))),.val (.one (.sl 1 (zAH b)))] {res:=.val (bv (a==b))}:=by
 refine mkA zLv (base:=0) (fo rfl) (fun hfit=>?_)
 unfold F0 zFC
 refine goU ?_
 have ha:=zDp (k:=1) hfit.1
 rw [zAe] at ha
 refine zAa (by rfl) trivial (fun h1=>?_) (fun h1=>?_)
 ·refine goW ?_
  refine zAb rfl trivial (.inl ?_)
  congr 3
  have:a≠b:=by rintro rfl;simp at h1
  simp [this]
 have hl:a.length=b.length:=by simp at h1;omega
 refine goW ?_
 refine zAn (fun i:Nat=>[(13,.pv (iv i)),(4,.un),(5,.un),(14,.un),(24,.un)]) (fun i:Nat=>a.length-i) (fun i:Nat=>i≤a.length∧(a.drop i==b.drop i)=(a==b)) (0) ?_ ⟨Nat.zero_le _,rfl⟩ ?_
 focus (exact leA)
 rintro i ⟨hi,hinv⟩
 refine goW ?_
 refine zAa (by rfl) trivial (fun h2=>?_) (fun h2=>?_)
 ·have hil:i < a.length:=by simp at h2;omega
  have hib:i < b.length:=by omega
  rw [zDG (d:=0) hil,zDG (d:=0) hib] at hinv
  have e1:=zD3 a i hil
  have e2:=zD3 b i hib
  try simp (maxSteps:=2000000) only [go_sem,e1,e2]
  repeat with_reducible refine zAP ?_
  refine zAa (by rfl) trivial (fun h3=>?_) (fun h3=>?_)
  ·refine goW ?_
   refine zAb rfl trivial (.inl ?_)
   congr 3
   rw [←hinv]
   have:(a.getD i 0==b.getD i 0)=false:=by
    have h4:a.getD i 0≠b.getD i 0:=by simpa using h3
    exact beq_false_of_ne h4
   simp only [List.cons_beq_cons,this,Bool.false_and]
  ·have h4:a.getD i 0=b.getD i 0:=by simpa using h3
   rw [h4] at hinv
   simp only [List.cons_beq_cons,beq_self_eq_true,Bool.true_and] at hinv
   refine goW ?_
   refine ⟨i+1,by omega,⟨by omega,hinv⟩,?_⟩
   exact leA
 ·have hil:i=a.length:=by simp at h2;omega
  refine goW ?_
  refine zAb rfl trivial (.inl ?_)
  congr 3
  rw [←hinv,hil,List.drop_length,hl,List.drop_length]
  rfl
theorem yLd (a b:Ent):(a==b)=(decide (yHS a.key b.key=0)&&(a.nodes==b.nodes)):=by
 rw [Bool.eq_iff_iff]
 simp only [beq_iff_eq,Bool.and_eq_true,decide_eq_true_eq,yGP]
 constructor
 ·rintro rfl;exact ⟨rfl,rfl⟩
 ·rintro ⟨h1,h2⟩;exact Ent.ext' h1 h2
theorem yIS (a b:Ent):Contract Tryz.prog zDD [.val (.agg (yFk a)),.val (.agg (yFk b))] {res:=.val (bv (a==b))}:=by
 have h1:=yLc a b
 have h2:=yCr a.nodes b.nodes
 rw [yLd]
 unfold yFk at h1 ⊢
 obtain ⟨o,ho⟩:∃ o,o=yHS a.key b.key:=⟨_,rfl⟩
 rw [←ho] at h1 ⊢
 refine mkA zRq (base:=0) (fo rfl) (fun hfit=>?_)
 unfold F0 zKr
 refine goU ?_
 refine zAo (by repeat' constructor) (h1) ?_
 refine goW ?_
 apply zAr (h2:=fun _=>h2)
 ·(simp (maxSteps:=2000000) only [go_sem];rfl)
 ·intro h;repeat' (first|exact trivial|exact h|refine And.intro ?_ ?_)
 refine goW ?_
 refine zAb rfl trivial (.inl ?_)
 congr 3
 by_cases h:o=0<;>simp [h]
theorem yCs (a b:List Ent):Contract Tryz.prog zBT [.val (.one (.sl 3 (zCK a))),.val (.one (.sl 3 (zCK b))),.val (.one (.clo zDD []))] {res:=.val (bv (a==b))}:=by
 refine mkA zF2 (base:=0) (fo rfl) (fun hfit=>?_)
 unfold F0 zDg
 refine goU ?_
 have ha:=zDp (k:=3) hfit.1
 rw [zB5] at ha
 refine zAa (by rfl) trivial (fun h1=>?_) (fun h1=>?_)
 ·refine goW ?_
  refine zAb rfl trivial (.inl ?_)
  congr 3
  have:a≠b:=by rintro rfl;simp at h1
  simp [this]
 have hl:a.length=b.length:=by simp at h1;omega
 refine goW ?_
 refine zAn (fun i:Nat=>[(17,.pv (iv i)),(6,.un),(7,.un),(8,.un),(9,.un),(18,.un),(30,.un),(32,.un),(33,.un),(34,.un),(35,.un),(36,.un),(37,.un)]) (fun i:Nat=>a.length-i) (fun i:Nat=>i≤a.length∧(a.drop i==b.drop i)=(a==b)) (0) ?_ ⟨Nat.zero_le _,rfl⟩ ?_
 focus (exact leA)
 rintro i ⟨hi,hinv⟩
 refine goW ?_
 refine zAa (by rfl) trivial (fun h2=>?_) (fun h2=>?_)
 ·have hil:i < a.length:=by simp at h2;omega
  have hib:i < b.length:=by omega
  rw [zDG (d:=default) hil,zDG (d:=default) hib] at hinv
  have e1:=zJi a i hil
  have e2:=zJi b i hib
  have hc:=yIS (a.getD i default) (b.getD i default)
  unfold yFk at e1 e2 hc
  try simp (maxSteps:=2000000) only [go_sem,e1,e2]
  repeat with_reducible refine zAP ?_
  refine zCu (by rfl) trivial (by repeat' constructor) (hc) ?_
  refine goW ?_
  refine zAa (by rfl) trivial (fun h3=>?_) (fun h3=>?_)
  ·refine goW ?_
   refine zAb rfl trivial (.inl ?_)
   congr 3
   rw [←hinv]
   have h4:(a.getD i default==b.getD i default)=false:=by simpa using h3
   simp only [List.cons_beq_cons,h4,Bool.false_and]
  ·have h4:(a.getD i default==b.getD i default)=true:=by simpa using h3
   simp only [List.cons_beq_cons,h4,Bool.true_and] at hinv
   refine goW ?_
   refine ⟨i+1,by omega,⟨by omega,hinv⟩,?_⟩
   exact leA
 ·have hil:i=a.length:=by simp at h2;omega
  refine goW ?_
  refine zAb rfl trivial (.inl ?_)
  congr 3
  rw [←hinv,hil,List.drop_length,hl,List.drop_length]
  rfl
theorem zHp (a b:Ent) (z z':PV):Contract Tryz.prog zBJ [.val (.agg [bI a.kind,bS a.name,z]),.val (.agg [bI b.kind,bS b.name,z'])] {res:=.val (bv (zAC b.key a.key))}:=by
 unfold zAC
 show Contract Tryz.prog _ _ {res:=.val (bv (if b.kind=a.kind then Op.bytesLess b.name a.name else decide (b.kind < a.kind)))}
 refine mkA zOT (base:=0) (fo rfl) (fun hfit=>?_)
 unfold F0 zI5
 refine goU ?_
 refine zAa (by rfl) trivial (fun h1=>?_) (fun h1=>?_)
 ·refine goW ?_
  refine zAb rfl trivial (.inl ?_)
  have h2:b.kind≠a.kind:=by intro e;simp [e] at h1
  rw [if_neg h2]
 ·have h2:a.kind=b.kind:=by simpa using h1
  refine goW ?_
  refine zAb rfl trivial (.inl ?_)
  congr 3
  rw [if_pos h2.symm,Bool.eq_iff_iff]
  cases h3:Op.bytesLess b.name a.name with
  |true=>
   have h4:Op.bytesLess a.name b.name=false:=by
    cases h5:Op.bytesLess a.name b.name with
    |false=>rfl
    |true=>have:=zKE _ _ _ h3 h5;rw [zH7] at this;cases this
   rw [h4]
   have h6:a.name≠b.name:=by intro e;rw [e,zH7] at h3;cases h3
   simp [h6]
  |false=>
   cases h5:Op.bytesLess a.name b.name with
   |true=>simp
   |false=>simp [zQs _ _ h5 h3]
end Go.Hx
end

section
set_option maxRecDepth 100000
set_option linter.unusedSimpArgs false
set_option maxHeartbeats 4000000
namespace Go.Hx
open Go.Proofs
variable [Glob]
attribute [local go_sem] zAk zAi zAj zAe ndV zAg zAf zB5
attribute [local go_sem] reduceCtorEq Nat.reduceAdd Nat.reduceEqDiff reduceIte Nat.reduceLeDiff Nat.reduceLT Nat.reduceSub
theorem zNX (a b:List Ent):Contract Tryz.prog zDE [.val (.one (.sl 3 (zCK a))),.val (.one (.sl 3 (zCK b)))] {res:=.val (bv (a==b))}:=by
 refine mkA zMF (base:=0) (fo rfl) (fun hfit=>?_)
 unfold F0 zGP
 refine goU ?_
 have ha:=zDp (k:=3) hfit.1
 rw [zB5] at ha
 refine zAa (by rfl) trivial (fun h1=>?_) (fun h1=>?_)
 ·refine goW ?_
  refine zAb rfl trivial (.inl ?_)
  congr 3
  have:a≠b:=by rintro rfl;simp at h1
  simp [this]
 have hl:a.length=b.length:=by simp at h1;omega
 refine goW ?_
 refine zAn (fun i:Nat=>[(5,.pv (iv i)),(4,.un),(14,.un),(54,.un)]) (fun i:Nat=>a.length-i) (fun i:Nat=>i≤a.length∧(a.drop i==b.drop i)=(a==b)) (0) ?_ ⟨Nat.zero_le _,rfl⟩ ?_
 focus (exact leA)
 rintro i ⟨hi,hinv⟩
 refine goW ?_
 refine zAa (by rfl) trivial (fun h2=>?_) (fun h2=>?_)
 ·have hil:i < a.length:=by simp at h2;omega
  have hib:i < b.length:=by omega
  rw [zDG (d:=default) hil,zDG (d:=default) hib] at hinv
  have e1:=zJi a i hil
  have e2:=zJi b i hib
  obtain ⟨x,hx⟩:∃ x,x=a.getD i default:=⟨_,rfl⟩
  obtain ⟨y,hy⟩:∃ y,y=b.getD i default:=⟨_,rfl⟩
  rw [←hx,←hy] at hinv
  rw [←hx] at e1
  rw [←hy] at e2
  have hc:=zKs x.nodes y.nodes
  unfold yFk at e1 e2
  have hxy:(x==y)=((x.kind==y.kind)&&(x.name==y.name)&&decide (x.nodes=y.nodes)):=by
   rw [Bool.eq_iff_iff]
   simp only [beq_iff_eq,Bool.and_eq_true,decide_eq_true_eq]
   constructor
   ·rintro rfl;exact ⟨⟨rfl,rfl⟩,rfl⟩
   ·rintro ⟨⟨h1,h2⟩,h3⟩;exact Ent.ext' (Prod.ext h1 h2) h3
  try simp (maxSteps:=2000000) only [go_sem,e1,e2]
  repeat with_reducible refine zAP ?_
  apply zAr (h2:=fun _=>hc)
  ·(simp (maxSteps:=2000000) only [go_sem];rfl)
  ·intro h;repeat' (first|exact trivial|exact h|refine And.intro ?_ ?_)
  refine goW ?_
  refine zAa (by rfl) trivial (fun g3=>?_) (fun g3=>?_)
  ·refine goW ?_
   refine zAb rfl trivial (.inl ?_)
   congr 3
   rw [←hinv]
   have:(x==y)=false:=by
    rw [hxy]
    revert g3
    cases h5:(x.kind==y.kind)<;>cases h6:(x.name==y.name)<;>cases h7:decide (x.nodes=y.nodes)<;>simp [bne,h5,h6,h7]
   simp only [List.cons_beq_cons,this,Bool.false_and]
  ·have:(x==y)=true:=by
    rw [hxy]
    revert g3
    cases h5:(x.kind==y.kind)<;>cases h6:(x.name==y.name)<;>cases h7:decide (x.nodes=y.nodes)<;>simp [bne,h5,h6,h7]
   simp only [List.cons_beq_cons,this,Bool.true_and] at hinv
   refine goW ?_
   refine ⟨i+1,by omega,⟨by omega,hinv⟩,?_⟩
   exact leA
 ·have hil:i=a.length:=by simp at h2;omega
  refine goW ?_
  refine zAb rfl trivial (.inl ?_)
  congr 3
  rw [←hinv,hil,List.drop_length,hl,List.drop_length]
  rfl
end Go.Hx
end

section
set_option maxRecDepth 100000
set_option linter.unusedSimpArgs false
set_option maxHeartbeats 4000000
namespace Go.Hx
open Go.Proofs
variable [Glob]
attribute [local go_sem] zAk zAi zAj zAe ndV zAg zAf zB5 yFk zBx zBy
attribute [local go_sem] reduceCtorEq Nat.reduceAdd Nat.reduceEqDiff reduceIte Nat.reduceLeDiff Nat.reduceLT Nat.reduceSub
theorem zZ7 (l:List Ent) (k:Int) (nm:Bys) (hs:∀ e∈l,e.nodes.length * 8≤140737488355328):Contract Tryz.prog zHe [.val (.one (.sl 3 (zCK l))),.val (iv k),.val (sv nm)] {res:=.tup [.one (.sl 1 (zAH (yNt l k nm).1)),iv (yNt l k nm).2]}:=by
 unfold yNt
 refine mkA zXm (base:=0) (fo rfl) (fun hfit=>?_)
 unfold F0 zOv
 refine goU ?_
 have hfl:=zDp (k:=3) hfit.1
 rw [zB5] at hfl
 refine zAa (by rfl) trivial (fun g1=>?_) (fun g1=>?_)
 ·have h1:k < 1∨3 < k:=by
   by_cases h:k < 1
   ·exact .inl h
   ·right;simp [h] at g1;omega
  rw [if_pos h1]
  refine goW ?_
  exact zAA (by simp) ⟨zAv rfl trivial (.inr rfl),zAv rfl trivial (.inl rfl),rfl⟩
 have h1:¬ (k < 1∨3 < k):=by
  by_cases h:k < 1
  ·simp [h] at g1
  ·simp [h] at g1;omega
 rw [if_neg h1]
 refine goW ?_
 refine zAa (by rfl) trivial (fun g2=>?_) (fun g2=>?_)
 ·have h2:512 < l.length:=by simp at g2;omega
  rw [if_pos h2]
  refine goW ?_
  exact zAA (by simp) ⟨zAv rfl trivial (.inr rfl),zAv rfl trivial (.inl rfl),rfl⟩
 have h2:¬ 512 < l.length:=by simp at g2;omega
 rw [if_neg h2]
 refine goW ?_
 refine zAn (fun i:Nat=>[(21,.pv (iv i)),(6,.un),(7,.un),(9,.un),(22,.un),(34,.un)]) (fun i:Nat=>l.length-i) (fun i:Nat=>i≤l.length∧l.find? (fun e=>decide (e.key=(k,nm)))=(l.drop i).find? (fun e=>decide (e.key=(k,nm)))) (0) ?_ ⟨Nat.zero_le _,rfl⟩ ?_
 focus (exact leA)
 rintro i ⟨hi,hinv⟩
 refine goW ?_
 refine zAa (by rfl) trivial (fun g3=>?_) (fun g3=>?_)
 ·have hil:i < l.length:=by simpa using g3
  have e1:=zJi l i hil
  rw [zDG (d:=default) hil] at hinv
  have hmem:l.getD i default∈l:=by simp [hil]
  have hsz:=hs _ hmem
  obtain ⟨e,he⟩:∃ e,e=l.getD i default:=⟨_,rfl⟩
  rw [←he] at e1 hinv hsz
  have hC:=yCq e.nodes hsz
  unfold yFk at e1
  try simp (maxSteps:=2000000) only [go_sem,e1]
  repeat with_reducible refine zAP ?_
  refine zAa (by rfl) trivial (fun g4=>?_) (fun g4=>?_)
  ·have hk:e.key=(k,nm):=by
    by_cases h:e.kind=k
    ·simp [h] at g4;exact Prod.ext h g4
    ·simp [h] at g4
   rw [List.find?_cons_of_pos (by simpa using hk)] at hinv
   have ha:atK l (k,nm)=e.nodes:=by unfold atK;rw [hinv];rfl
   rw [ha]
   refine goW ?_
   refine zBI (by repeat' constructor) (hC) ?_
   refine goW ?_
   exact zAA (by simp) ⟨zAv rfl trivial (.inl rfl),zAv rfl trivial (.inl rfl),rfl⟩
  ·have hk:¬ e.key=(k,nm):=by
    intro h
    have h:(e.kind,e.name)=(k,nm):=h
    injection h with h3 h4
    simp [h3,h4] at g4
   rw [List.find?_cons_of_neg (by simpa using hk)] at hinv
   refine goW ?_
   refine ⟨i+1,by omega,⟨by omega,hinv⟩,?_⟩
   exact leA
 ·have hil:i=l.length:=by simp at g3;omega
  rw [hil,List.drop_length] at hinv
  have ha:atK l (k,nm)=[]:=by unfold atK;rw [hinv];rfl
  rw [ha]
  refine goW ?_
  exact zAA (by simp) ⟨zAv rfl trivial (.inr rfl),zAv rfl trivial (.inl rfl),rfl⟩
theorem yGS (d:List Nd) (z:PV) (h64:d.length≤64) (hcls:∀ i,i < d.length→(d.getD i default).cls.length≤6) {k:Int} (hk1:1≤k) (hk3:k≤3) (nm:Bys) (s:Bool×List Int) (hsl:s.2.length≤4224):
  zEH Tryz.prog zC0 [.val (iv k),.val (sv nm)] [.v (.fp [z,.sl 3 (zCK (idxOf d))]),.io [bB s.1],.io [.sl 1 (zAH s.2)]] [[bB (zSF s (zVQ d (k,nm))).1],[.sl 1 (zAH (zSF s (zVQ d (k,nm))).2)]]:=by
 have hn:∀ e∈idxOf d,e.nodes.length * 8≤140737488355328:=fun e he=>by
  have h1:=((zG5 _ (zAY d d.length) rfl).2 e).1 he
  have h2:=zEP (zAY d d.length) e.key
  have h3:=zIb d d.length fun i hi=>hcls i hi
  rw [h1.2];omega
 have hL:=zZ7 (idxOf d) k nm hn
 rw [yIG d h64 hcls hk1 hk3] at hL
 have hnl:=(zQz (d:=d) h64 (fun i hi=>Nat.le_trans (hcls i hi) (by decide)) (k,nm)).2
 obtain ⟨N,hN⟩:∃ N,N=zVQ d (k,nm):=⟨_,rfl⟩
 rw [←hN] at hL hnl ⊢
 obtain ⟨b,S⟩:=s
 refine zO3 ⟨Nat.le_of_ble_eq_true rfl,(fun x hx=>by simp at hx;rcases hx with rfl|rfl<;>exact ⟨_,rfl⟩),rfl,rfl,rfl⟩ rfl ?_
 unfold F0c zE9 zDF
 simp only [zSL,zFj,zAl,zJH,zYf,zNo,List.set_cons_succ,List.set_cons_zero,List.map_cons,List.map_nil,List.length_cons,List.length_nil,Nat.reduceAdd,Nat.reduceSub,List.replicate,List.cons_append,List.nil_append]
 refine goW ?_
 refine zAR (by repeat' constructor) (hL) ?_
 refine goW ?_
 have hS:S.length≤4224:=hsl
 refine zAa (by rfl) trivial (fun g1=>?_) (fun g1=>?_)
 ·have ht:zSF (b,S) N=(true,N):=by
   unfold zSF
   rw [if_pos]
   by_cases h:b=false
   ·exact .inl h
   ·right;simp [h] at g1;exact g1
  rw [ht]
  refine goW ?_
  rfl
 ·have ht:zSF (b,S) N=(b,S):=by
   unfold zSF
   rw [if_neg]
   rintro (h|h)
   ·have h:b=false:=h
    simp [h] at g1
   ·have h:N.length < S.length:=h
    by_cases hb:b=false
    ·simp [hb] at g1
    ·simp [hb] at g1;omega
  rw [ht]
  refine goW ?_
  rfl
def zRs (s:Bool×List Int):PV:=if s.1 then .sl 1 (zAH s.2) else .nl 1
theorem yFl {s:Bool×List Int} (h:s.1=false→s.2=[]):(zRs s).norm=.sl 1 (zAH s.2):=by
 unfold zRs
 cases hs:s.1 with
 |true=>rfl
 |false=>rw [h hs];rfl
theorem yD5 (s:Bool×List Int) (l:List Int):(zSF s l).1=true:=by
 unfold zSF
 split
 ·rfl
 ·rename_i h
  cases hs:s.1 with
  |true=>rfl
  |false=>exact absurd (.inl hs) h
theorem yGT (s:Bool×List Int) (l:List Int):zRs (zSF s l)=.sl 1 (zAH (zSF s l).2):=by
 unfold zRs;rw [yD5];rfl
theorem zXI {s:Bool×List Int} {l:List Int} (h:s.2.length≤4224) (h2:l.length≤4224):(zSF s l).2.length≤4224:=by
 unfold zSF;split
 ·exact h2
 ·exact h
theorem zXJ (d:List Nd) (h64:d.length≤64) (hcls:∀ i,i < d.length→(d.getD i default).cls.length≤6) (p:Pt) (h1:1≤p.steps.length) (h6:(zFN p).tests.length≤6):
  Contract Tryz.prog zFR [.val (.agg [.sl 5 (zEf d),.sl 3 (zCK (idxOf d))]),.val (.agg (ptV p))] {res:=.val (.one (.sl 1 (zAH (zQy d p))))}:=by
 have hc64:∀ i,i < d.length→(d.getD i default).cls.length≤64:=fun i hi=>Nat.le_trans (hcls i hi) (by decide)
 have hnd:=fun k=>(zQz (d:=d) h64 hc64 k).2
 have hx:=zVL p.steps (p.steps.length-1) (by omega)
 have hS1:∀ (k:Int) (nm:Bys) (s:Bool×List Int),1≤k→k≤3→(s.1=false→s.2=[])→s.2.length≤4224→zEH Tryz.prog zC0 [.val (iv k),.val (sv nm)] [.v (.fp [.sl 5 (zEf d),.sl 3 (zCK (idxOf d))]),.io [bB s.1],.io [(zRs s).norm]] [[bB (zSF s (zVQ d (k,nm))).1],[zRs (zSF s (zVQ d (k,nm)))]]:=by
  intro k nm s h2 h3 h4 h5
  rw [yFl h4,yGT]
  exact yGS d _ h64 hcls h2 h3 nm s h5
 have hseed:zQy d p=if ((zFN p).tests.foldl (zEg d) (zFM d (zFN p))).1 then ((zFN p).tests.foldl (zEg d) (zFM d (zFN p))).2 else yNU d:=rfl
 rw [hseed]
 have hlast:p.steps.getD (p.steps.length-1) default=zFN p:=rfl
 rw [hlast] at hx
 obtain ⟨S,hS⟩:∃ S,S=zFN p:=⟨_,rfl⟩
 rw [←hS] at hx h6 ⊢
 rw [zUA] at hx
 obtain ⟨sts,hsts⟩:∃ s,s=p.steps:=⟨_,rfl⟩
 rw [←hsts] at h1 hx
 rw [zH8,←hsts]
 have hsub:((sts.length:Int)-1).toNat=sts.length-1:=by omega
 refine mkA zTt (base:=0) (fo rfl) (fun hfit=>?_)
 unfold F0 zMv
 refine goU ?_
 have hfl:=zDp (k:=2) hfit.2.1.1
 rw [zBy] at hfl
 try simp (maxSteps:=2000000) only [go_sem,hsub,hx]
 repeat with_reducible refine zAP ?_
 have hI:∀ i,((S.tests.take i).foldl (zEg d) (zFM d S)).2.length≤4224∧(((S.tests.take i).foldl (zEg d) (zFM d S)).1=false→((S.tests.take i).foldl (zEg d) (zFM d S)).2=[]):=by
  have h0:(zFM d S).2.length≤4224∧((zFM d S).1=false→(zFM d S).2=[]):=by
   unfold zFM
   split
   ·exact ⟨Nat.zero_le _,fun _=>rfl⟩
   ·exact ⟨zXI (Nat.zero_le _) (hnd _),fun h=>by rw [yD5] at h;cases h⟩
  have hF:∀ (l:List Ts) (s:Bool×List Int),s.2.length≤4224∧(s.1=false→s.2=[])→(l.foldl (zEg d) s).2.length≤4224∧((l.foldl (zEg d) s).1=false→(l.foldl (zEg d) s).2=[]):=by
   intro l
   induction l with
   |nil=>intro s h;exact h
   |cons t r ih=>
    intro s h
    rw [List.foldl_cons]
    refine ih _ ?_
    unfold zEg
    split
    ·exact ⟨zXI h.1 (hnd _),fun h=>by rw [yD5] at h;cases h⟩
    ·split
     ·exact ⟨zXI h.1 (hnd _),fun h=>by rw [yD5] at h;cases h⟩
     ·exact h
  exact fun i=>hF _ _ h0
 have hst:∀ i,i < S.tests.length→(S.tests.take (i+1)).foldl (zEg d) (zFM d S)=zEg d ((S.tests.take i).foldl (zEg d) (zFM d S)) (S.tests.getD i default):=by
  intro i hi
  rw [List.take_succ_eq_append_getElem hi,List.foldl_append]
  simp [hi]
 refine zAa (by rfl) trivial (fun g1=>?_) (fun g1=>?_)
 have htg:S.tag≠[]:=by simpa using g1
 have e0:zSF (false,[]) (zVQ d (1,S.tag))=zFM d S:=by unfold zFM;rw [if_neg htg]
 have hC:=hS1 1 S.tag (false,[]) (by decide) (by decide) (fun _=>rfl) (Nat.zero_le _)
 rw [e0] at hC
 refine goW ?_
 refine yKS (by rfl) (by repeat' constructor) (by rfl) hC ?_
 simp only [zFj]
 refine goW ?_
 rotate_left
 have htg:S.tag=[]:=by simpa using g1
 have e0:zFM d S=(false,[]):=by unfold zFM;rw [if_pos htg]
 refine goW ?_
 all_goals
  refine zAn (fun i:Nat=>[(31,.pv (iv i)),(68,.pv (.one (bB ((S.tests.take i).foldl (zEg d) (zFM d S)).1))),(67,.pv (.one (zRs ((S.tests.take i).foldl (zEg d) (zFM d S))))),(69,.un),(70,.un),(71,.un),(72,.un),(73,.un),(74,.un),(10,.un),(32,.un),(36,.un),(37,.un),(43,.un)]) (fun i:Nat=>S.tests.length-i) (fun i:Nat=>i≤S.tests.length) (0) ?_ (Nat.zero_le _) ?_
  focus (simp (maxSteps:=2000000) only [go_sem,zAS,zBu,zCR,zAT];all_goals (repeat' (first|exact trivial|exact zBa (by omega)|exact zAX rfl|exact zBb rfl|exact zBB|exact le_refl _|refine And.intro ?_ ?_)))
  all_goals try (rw [e0];exact zBb rfl)
  intro i hi
  obtain ⟨hI1,hI2⟩:=hI i
  have hsti:=hst i
  obtain ⟨s,hs⟩:∃ s,s=(S.tests.take i).foldl (zEg d) (zFM d S):=⟨_,rfl⟩
  rw [←hs] at hI1 hI2 hsti ⊢
  refine goW ?_
  refine zAa (by rfl) trivial (fun g2=>?_) (fun g2=>?_)
  ·have hil:i < S.tests.length:=by simpa using g2
   have hy:=zVK S.tests i hil
   have hsti:=hsti hil
   rw [zOj] at hy
   obtain ⟨t,ht⟩:∃ t,t=S.tests.getD i default:=⟨_,rfl⟩
   rw [←ht] at hy hsti
   try simp (maxSteps:=2000000) only [go_sem,hy]
   repeat with_reducible refine zAP ?_
   refine zAa (by rfl) trivial (fun g3=>?_) (fun g3=>?_)
   ·have hk:t.kind=2:=by simpa using g3
    have hC:=hS1 2 t.name s (by decide) (by decide) hI2 hI1
    have e1:zSF s (zVQ d (2,t.name))=zEg d s t:=by unfold zEg;rw [if_pos hk]
    rw [e1,←hsti] at hC
    refine goW ?_
    refine yKS (by rfl) (by repeat' constructor) (by rfl) hC ?_
    simp only [zFj]
    refine goW ?_
    refine ⟨i+1,by omega,by omega,?_⟩
    exact leA
   ·have hk:¬ t.kind=2:=by simpa using g3
    refine goW ?_
    refine zAa (by rfl) trivial (fun g4=>?_) (fun g4=>?_)
    ·have hk1:t.kind=1:=by simpa using g4
     have hC:=hS1 3 t.name s (by decide) (by decide) hI2 hI1
     have e1:zSF s (zVQ d (3,t.name))=zEg d s t:=by unfold zEg;rw [if_neg hk,if_pos hk1]
     rw [e1,←hsti] at hC
     refine goW ?_
     refine yKS (by rfl) (by repeat' constructor) (by rfl) hC ?_
     simp only [zFj]
     refine goW ?_
     refine ⟨i+1,by omega,by omega,?_⟩
     exact leA
    ·have hk1:¬ t.kind=1:=by simpa using g4
     have e1:s=zEg d s t:=by unfold zEg;rw [if_neg hk,if_neg hk1]
     rw [←e1] at hsti
     refine goW ?_
     refine ⟨i+1,by omega,by omega,?_⟩
     rw [hsti]
     exact leA
  ·have hil:i=S.tests.length:=by simp at g2;omega
   rw [hil,List.take_length] at hs
   rw [←hs]
   refine goW ?_
   cases hs1:s.1 with
   |true=>
    have hb:zRs s=.sl 1 (zAH s.2):=by unfold zRs;rw [hs1];rfl
    rw [hb]
    try simp (maxSteps:=2000000) only [go_sem,hs1]
    repeat with_reducible refine zAP ?_
    refine zHm (by rfl) trivial ?_
    refine goW ?_
    exact zAb rfl trivial (.inl rfl)
   |false=>
    have hb:zRs s=.nl 1:=by unfold zRs;rw [hs1];rfl
    rw [hb]
    try simp (maxSteps:=2000000) only [go_sem,hs1]
    repeat with_reducible refine zAP ?_
    refine zKk (by rfl) trivial ?_
    refine goW ?_
    refine zAn (fun j:Nat=>[(56,.pv (iv j)),(67,.own zAs 1 (zAH ((List.range j).map Int.ofNat))),(11,.un),(57,.un)]) (fun j:Nat=>d.length-j) (fun j:Nat=>j≤d.length) (0) ?_ (Nat.zero_le _) ?_
    focus (exact leA)
    intro j hj
    have hjl:((List.range j).map Int.ofNat).length≤64:=by simp;omega
    have hjs:zAH ((List.range (j+1)).map Int.ofNat)=zAH ((List.range j).map Int.ofNat)++[[bI (j:Int)]]:=by simp [List.range_succ,zAH]
    obtain ⟨L,hL⟩:∃ L,L=(List.range j).map Int.ofNat:=⟨_,rfl⟩
    rw [←hL] at hjl hjs ⊢
    refine goW ?_
    refine zAa (by rfl) trivial (fun g5=>?_) (fun g5=>?_)
    ·have hjd:j < d.length:=by simpa using g5
     refine goW ?_
     refine ⟨j+1,by omega,by omega,?_⟩
     rw [hjs]
     exact leA
    ·have hjd:j=d.length:=by simp at g5;omega
     have hall:L=yNU d:=by rw [hL,hjd];rfl
     refine goW ?_
     rw [hall]
     exact zAb rfl trivial (.inl rfl)
end Go.Hx
end

section
/-
 The abstract code of functions of the program, printed by gen.py; each stands for the given one. No condition.
-/
namespace Go.Hx
open Go.Proofs
variable [Glob]
abbrev zDh:Nat:=68
abbrev zTL:HCode:=oN [oV 1 (.boxF (.t 0)),
  oV 2 (.mv (.c (.one (.nl 3)))),
  oV 3 (.mv (.c (iv 0)))]
abbrev zTM:HCode:=oR [oV 13 (.ldR (.t 1) 1 true),
  oC 14 zB9 [(.t 13,.v)],
  oV 4 (.mv (.t 14))] [13,14]
abbrev zTN:HCode:=oR [oV 15 (.mv (.t 4)),
  oV 16 (.ints .neq (.t 15) (.c (iv 0)))] [15]
abbrev zTO:HCode:=oR [oV 17 (.mv (.t 4)),
  oV 2 (.mv (.c (.one (.nl 3)))),
  oV 3 (.mv (.t 17))] [17]
abbrev zTP:HCode:=oN [⟨none,.mmk 18⟩,
  oV 5 (.mv (.t 18))]
abbrev zTQ:HCode:=oR [oV 19 (.fldR (.t 1) 0 1),
  oV 20 (.ldR (.t 19) 1 false),
  oV 21 (.len false (.t 20)),
  oV 22 (.mv (.c (iv 0)))] [19]
abbrev zTR:HCode:=oN [oV 23 (.ints .lss (.t 22) (.t 21))]
abbrev zTS:HCode:=oR [oV 24 (.mv (.t 22)),
  oV 25 (.idxA 5 (.t 20) (.t 22)),
  oV 26 (.ldR (.t 25) 5 true),
  ⟨none,.alloc 7 0 92 [.v (.int .i64 0),.v (mkS []),.v (mkS []),.nl 1,.nl 2]⟩,
  oV 6 (.mv (.t 24)),
  ⟨none,.sto (.t 7) 0 92 0 5 (.t 26)⟩] [24,25,26]
abbrev zTT:HCode:=oQ [oD 0 false (oV 27 (.mv (.t 5))),
  oD 1 false (oV 28 (.fldP (.t 7) 1)),
  oD 2 false (oV 29 (.ldB (.t 28) 0 92 1 1 false)),
  oD 3 false (oV 30 (.bld [.v (.int .i64 0),.v (mkS [])] [(0,1,.c (iv 1)),(1,1,.t 29)])),
  oD 4 false (oV 31 (.mv (.t 5))),
  oD 5 false (oV 32 (.fldP (.t 7) 1)),
  oD 6 false (oV 33 (.ldB (.t 32) 0 92 1 1 false)),
  oD 7 false (oV 34 (.bld [.v (.int .i64 0),.v (mkS [])] [(0,1,.c (iv 1)),(1,1,.t 33)])),
  oD 8 false ⟨none,.mpv 35 (.t 31) 18 3 (.t 34) zAs 1⟩,
  oD 9 false (oV 36 (.mv (.t 6))),
  oD 10 false (oV 37 (.bslF 1 [.t 36])),
  oD 11 false ⟨none,.vap 38 zAs 1 35 (.t 37)⟩,
  oD 12 false ⟨none,.mps (.t 27) 18 3 (.t 30) (.t 38)⟩] [27,28,29,30,31,32,33,34,35,36,37,38]
abbrev zTU:HCode:=oR [oV 39 (.fldP (.t 7) 2),
  oV 40 (.ldB (.t 39) 0 92 2 1 false),
  oV 41 (.strs .neq (.t 40) (.c (sv [])))] [39,40]
abbrev zRu:HCode:=oQ [oD 0 false (oV 42 (.mv (.t 5))),
  oD 1 false (oV 43 (.fldP (.t 7) 2)),
  oD 2 false (oV 44 (.ldB (.t 43) 0 92 2 1 false)),
  oD 3 false (oV 45 (.bld [.v (.int .i64 0),.v (mkS [])] [(0,1,.c (iv 2)),(1,1,.t 44)])),
  oD 4 false (oV 46 (.mv (.t 5))),
  oD 5 false (oV 47 (.fldP (.t 7) 2)),
  oD 6 false (oV 48 (.ldB (.t 47) 0 92 2 1 false)),
  oD 7 false (oV 49 (.bld [.v (.int .i64 0),.v (mkS [])] [(0,1,.c (iv 2)),(1,1,.t 48)])),
  oD 8 false ⟨none,.mpv 50 (.t 46) 18 3 (.t 49) zAs 1⟩,
  oD 9 false (oV 51 (.mv (.t 6))),
  oD 10 false (oV 52 (.bslF 1 [.t 51])),
  oD 11 false ⟨none,.vap 53 zAs 1 50 (.t 52)⟩,
  oD 12 false ⟨none,.mps (.t 42) 18 3 (.t 45) (.t 53)⟩] [42,43,44,45,46,47,48,49,50,51,52,53]
abbrev zRv:HCode:=oR [oV 54 (.fldP (.t 7) 3),
  oV 55 (.ldB (.t 54) 0 92 3 1 false),
  oV 56 (.len false (.t 55)),
  oV 57 (.mv (.c (iv 0)))] [54]
abbrev zRw:HCode:=oN [oV 58 (.ints .lss (.t 57) (.t 56))]
abbrev zRx:HCode:=oR [oV 59 (.idxA 1 (.t 55) (.t 57)),
  oV 60 (.ldR (.t 59) 1 false),
  oV 9 (.mv (.t 60))] [59,60]
abbrev zRy:HCode:=oR [oV 61 (.mv (.t 5)),
  oV 62 (.mv (.t 9)),
  oV 63 (.bld [.v (.int .i64 0),.v (mkS [])] [(0,1,.c (iv 3)),(1,1,.t 62)]),
  oV 64 (.mv (.t 5)),
  oV 65 (.mv (.t 9)),
  oV 66 (.bld [.v (.int .i64 0),.v (mkS [])] [(0,1,.c (iv 3)),(1,1,.t 65)]),
  ⟨none,.mpv 67 (.t 64) 18 3 (.t 66) zAs 1⟩,
  oV 68 (.mv (.t 6)),
  oV 69 (.bslF 1 [.t 68]),
  ⟨none,.vap 70 zAs 1 67 (.t 69)⟩,
  ⟨none,.mps (.t 61) 18 3 (.t 63) (.t 70)⟩] [61,62,63,64,65,66,67,68,69,70]
abbrev zRz:HCode:=oR [oV 71 (.ints .add (.t 57) (.c (iv 1))),
  oV 57 (.mv (.t 71))] [71]
abbrev zRA:HCode:=oR [oV 72 (.ints .add (.t 22) (.c (iv 1))),
  oV 22 (.mv (.t 72))] [72]
abbrev zRB:HCode:=oN [⟨none,.vnl 10 zAw 3⟩]
abbrev zRC:HCode:=.regG [.vfm 18] [oV 73 (.mv (.t 5)),
  ⟨none,.mrg 74 (.t 73) 18⟩] [.forget [73]]
abbrev zRD:HCode:=oR [⟨none,.mnx 75 74 18⟩,
  oV 76 (.ext 75 0)] [75]
abbrev zRE:HCode:=oR [⟨none,.men 77 74 18⟩,
  oV 78 (.ext 77 0),
  oV 79 (.ext 77 1),
  ⟨none,.alloc 11 1 97 [.v (.int .i64 0),.v (mkS [])]⟩,
  ⟨none,.sto (.t 11) 1 97 0 2 (.t 78)⟩,
  oV 12 (.mv (.t 79))] [77,78,79]
abbrev zRF:HCode:=oR [⟨none,.vmv 80 10⟩,
  oV 81 (.fldP (.t 11) 0),
  oV 82 (.ldB (.t 81) 1 97 0 1 false),
  oV 83 (.fldP (.t 11) 1),
  oV 84 (.ldB (.t 83) 1 97 1 1 false),
  oV 85 (.mv (.t 12)),
  oV 86 (.bld [.v (.int .i64 0),.v (mkS []),.nl 1] [(0,1,.t 82),(1,1,.t 84),(2,1,.t 85)]),
  oV 87 (.bslF 3 [.t 86]),
  ⟨none,.vap 88 zAw 3 80 (.t 87)⟩,
  ⟨none,.vmv 10 88⟩] [80,81,82,83,84,85,86,87,88]
abbrev zRG:HCode:=.regG [.pin 10 0 0 []] [oV 89 (.mv (.t 10)),
  ⟨none,.cals (some 90) zDh 10 (.t 89) [(.f zBh,.v)]⟩] [.forget [89,90]]
abbrev zRH:HCode:=.regG [.vfr 10 0 0] [oV 91 (.mv (.t 10)),
  oV 2 (.mv (.t 91)),
  oV 3 (.mv (.c (iv 0)))] [.forget [91]]
abbrev yCu:HCode:=(.seq zTL (.seq (.seq zTM (.seq zTN (.cond (.t 16) (.seq zTO .ret) .skip))) (.seq zTP (.seq (.seq zTQ (.block 0 (.loop (.seq zTR (.seq (.cond (.t 23) .skip (.exit 0)) (.seq (.block 1 (.seq zTS (.seq zTT (.seq (.seq zTU (.cond (.t 41) zRu .skip)) (.seq zRv (.block 2 (.loop (.seq zRw (.seq (.cond (.t 58) .skip (.exit 2)) (.seq (.block 3 (.seq zRx zRy)) zRz)))))))))) zRA)))))) (.seq zRB (.seq (.seq zRC (.block 4 (.loop (.seq zRD (.seq (.cond (.t 76) .skip (.exit 4)) (.block 5 (.seq zRE zRF))))))) (.seq zRG (.seq zRH .ret))))))))
abbrev zMG:Env:={N:=92,Γ:=[(92,5),(97,2)],L:=99,nfix:=0}
abbrev index_Build_R:List RSrc:=[.tmp 2,.tmp 3]
theorem zTV:zBE Tryz.prog zDZ yCu zMG index_Build_R:=by kernel_rfl
end Go.Hx
end

section
set_option maxRecDepth 100000
set_option linter.unusedSimpArgs false
namespace Go.Hx
open Go.Proofs
variable [Glob]
end Go.Hx
end

section
set_option maxRecDepth 100000
set_option linter.unusedSimpArgs false
namespace Go.Hx
open Go.Proofs
variable [Glob]
attribute [local go_sem] zAk zAi zAj zAe ndV zAg
theorem zUN {d:List Nd} {i:Nat}:zCF d (i+1)=(zCF d i&&zVH d i):=zFL
end Go.Hx
end

section
set_option maxRecDepth 100000
set_option linter.unusedSimpArgs false
namespace Go.Hx
open Go.Proofs
variable [Glob]
attribute [local go_sem] zAk zAi zAj zAe ndV zAg
def zCB (d:List Nd) (k:Int):Int:=if zAd d=0 then (if 0≤k∧k≤(d.length:Int)-1 then 0 else 5) else zAd d
def zAU (d:List Nd) (n:Int) (k:Nat):Int:=((List.range k).filter fun i=>(zBk d d.length (zAB d i)).contains n).length
def zCU (d:List Nd) (n:Int):Int:=zAU d n d.length
theorem zJj {d:List Nd} {n:Int} {k:Nat}:zAU d n (k+1)=zAU d n k+(if (zBk d d.length (zAB d k)).contains n then 1 else 0):=by
 unfold zAU
 rw [List.range_succ,List.filter_append,List.length_append,List.filter_cons,List.filter_nil]
 split<;>simp
theorem zEC {d:List Nd} {n:Int}:∀ k:Nat,0≤zAU d n k∧zAU d n k≤k
 |0=>by simp [zAU]
 |k+1=>by have:=zEC (d:=d) (n:=n) k;rw [zJj];split<;>omega
def zAt (d:List Nd) (n:Int) (k:Nat):List Int:=((List.range k).filter fun i=>decide (zAB d i=n)).map Int.ofNat
def zDO (d:List Nd) (n:Int):List Int:=zAt d n d.length
theorem zAE {d:List Nd} {n:Int} {k:Nat}:zAt d n (k+1)=if zAB d k=n then zAt d n k++[(k:Int)] else zAt d n k:=by
 unfold zAt
 rw [List.range_succ,List.filter_append,List.map_append]
 by_cases h:zAB d k=n<;>simp [List.filter,h]
theorem zGQ {d:List Nd} {n:Int} (k:Nat):(zAt d n k).length≤k:=by
 unfold zAt
 rw [List.length_map]
 exact Nat.le_trans (List.length_filter_le _ _) (by simp)
end Go.Hx
end

section
set_option maxRecDepth 100000
set_option linter.unusedSimpArgs false
namespace Go.Hx
open Go.Proofs
variable [Glob]
inductive Tr where
 |mk (x:Nd) (k:List Tr)
instance:Inhabited Tr:=⟨.mk default []⟩
attribute [local go_sem] zAk zAi zAj zAe ndV zAg List.take_zero List.map_nil
mutual
def trV:Tr→List PV
 |.mk x k=>[bI x.up,bS x.tag,bS x.id,.sl 1 (zQr x.cls),.sl 2 (yBn x.att),.sl 6 (yLS k)]
def yLS:List Tr→List (List PV)
 |[]=>[]
 |t::r=>trV t::yLS r
end
theorem yD9:∀ l:List Tr,yLS l=l.map trV
 |[]=>rfl
 |t::r=>by simp [yLS,yD9 r]
theorem zRJ (t:Tr):(trV t).length=6:=by cases t;rfl
attribute [local go_sem] zRJ
theorem zMH (t:Tr):(trV t).map PV.norm=trV t:=by cases t;rfl
attribute [local go_sem] zMH
theorem zMI:yLS []=[]:=rfl
attribute [local go_sem] zMI
theorem zMJ (l:List Tr):(yLS l).length=l.length:=by simp [yD9]
attribute [local go_sem] zMJ
theorem zJD {d:List Nd} (hd:zCF d d.length=true) {n:Nat} (h:n < d.length):zCb (d.getD n default)=true:=by
 have:=zA0 hd h
 simp only [zVH,Bool.and_eq_true] at this
 exact this.1
theorem zD9 {x:Nd} (h:zCb x=true):x.cls.length≤6∧x.att.length≤4:=by
 simp only [zCb,Bool.and_eq_true,decide_eq_true_eq] at h
 exact ⟨h.1.1.1.2,h.1.1.2⟩
theorem zMK {α β:Type} {f:α→β} {l:List α} {i:Nat} (d:α) (h:i < l.length):(l.take (i+1)).map f=(l.take i).map f++[f (l.getD i d)]:=by
 rw [List.take_succ_eq_append_getElem h,List.map_append];simp [h]
theorem yCw {α:Type} {l:List α} {i:Nat} (d:α) (h:i < l.length):l.take (i+1)=l.take i++[l.getD i d]:=by
 rw [List.take_succ_eq_append_getElem h];simp [h]
theorem zXO (a b:List Nd):zEf (a++b)=zEf a++zEf b:=by simp [zEf]
end Go.Hx
end

section
set_option maxRecDepth 100000
set_option linter.unusedSimpArgs false
namespace Go.Hx
open Go.Proofs
variable [Glob]
attribute [local go_sem] zAk zAi zAj zAe ndV zAg zMJ zMI zRJ zMH List.take_zero List.map_nil
end Go.Hx
end

section
set_option maxRecDepth 100000
set_option linter.unusedSimpArgs false
namespace Go.Hx
open Go.Proofs
variable [Glob]
attribute [local go_sem] zAk zAi zAj zAe ndV zAg zMJ zMI zRJ zMH List.take_zero List.map_nil
theorem zML {d:List Nd} {n:Int} (h:zCB d n=0):zAd d=0∧0≤n∧n < d.length:=by
 unfold zCB at h
 split at h
 ·rename_i h1
  split at h
  ·exact ⟨h1,by omega,by omega⟩
  ·omega
 ·contradiction
theorem zBr {d:List Nd} (h:zAd d=0):1≤d.length∧d.length≤64∧zCF d d.length=true:=by
 unfold zAd at h
 split at h
 ·rename_i h1
  split at h
  ·rename_i h2
   exact ⟨h1.1,h1.2,h2⟩
  ·omega
 ·omega
end Go.Hx
end

section
set_option maxRecDepth 100000
set_option linter.unusedSimpArgs false
namespace Go.Hx
open Go.Proofs
variable [Glob]
attribute [local go_sem] zAk zAi zAj zAe ndV zAg zAf
attribute [local go_sem] reduceCtorEq Nat.reduceAdd Nat.reduceEqDiff reduceIte Nat.reduceLeDiff Nat.reduceLT Nat.reduceSub
theorem yLn {a b:Int} (h:zVO a b=0):(-1048576≤a∧a≤1048576)∧(-1048576≤b∧b≤1048576):=by
 unfold zVO at h
 split at h
 ·rename_i h1;simpa [zVN] using h1
 ·cases h
def yNC (a b:Int):PVal:=.agg [bI a,bI b]
theorem zRO (a b:Int):Contract Tryz.prog zFw [.val (yNC a b)] {res:=.val (iv (zVO a b))}:=by
 unfold yNC
 refine mkA zZp (base:=0) (fo rfl) (fun hfit=>?_)
 unfold F0 zQ5
 refine goU ?_
 refine zAn (fun i:Nat=>[(4,.un),(10,.pv (iv i)),(11,.un),(18,.un)]) (fun i:Nat=>2-i) (fun i:Nat=>i≤2∧(1≤i→zVN a=true)∧(2≤i→zVN b=true)) (0) ?_ ⟨by omega,by omega,by omega⟩ ?_
 focus (exact leA)
 intro i hi
 obtain ⟨h1,h2,h3⟩:=hi
 refine goW ?_
 refine zAa (by rfl) trivial (fun h=>?_) (fun h=>?_)
 ·have hlt:i < 2:=by simp at h;omega
  have hcase:i=0∨i=1:=by omega
  rcases hcase with rfl|rfl
  ·try simp (maxSteps:=2000000) only [go_sem,List.getD_cons_zero,Int.toNat_natCast,Int.cast_ofNat_Int,Int.toNat_zero,PV.norm]
   repeat with_reducible refine zAP ?_
   refine zAa (by rfl) trivial (fun h9=>?_) (fun h9=>?_)
   ·refine goW ?_
    refine zAb rfl trivial (.inl ?_)
    congr 3
    unfold zVO
    rw [if_neg]
    simp [zVN] at h9 ⊢
    omega
   ·refine goW ?_
    refine ⟨1,by omega,⟨by omega,fun _=>?_,by omega⟩,?_⟩
    ·simp [zVN] at h9 ⊢;omega
    ·exact leA
  ·try simp (maxSteps:=2000000) only [go_sem,List.getD_cons_zero,List.getD_cons_succ,Int.toNat_natCast,Int.cast_ofNat_Int,Int.toNat_one,PV.norm]
   repeat with_reducible refine zAP ?_
   refine zAa (by rfl) trivial (fun h9=>?_) (fun h9=>?_)
   ·refine goW ?_
    refine zAb rfl trivial (.inl ?_)
    congr 3
    unfold zVO
    rw [if_neg]
    simp [zVN] at h9 ⊢
    omega
   ·refine goW ?_
    refine ⟨2,by omega,⟨by omega,fun _=>h2 (by omega),fun _=>?_⟩,?_⟩
    ·simp [zVN] at h9 ⊢;omega
    ·exact leA
 ·refine goW ?_
  have:i=2:=by simp at h;omega
  refine zAb rfl trivial (.inl ?_)
  congr 3
  unfold zVO
  rw [h2 (by omega),h3 (by omega)]
  rfl
def zFD (a b i:Int):Bool:=decide (zVO a b=0∧1≤i∧i≤1073741824)&&(if a=0 then decide (i-b=0) else decide ((i-b).tmod a=0)&&decide (0≤(i-b).tdiv a))
theorem yFr {x y:Int} (h1:-2147483648≤x) (h2:x≤2147483648):-2147483648≤x.tdiv y∧x.tdiv y≤2147483648:=by
 have h:=Int.natAbs_tdiv_le_natAbs x y
 omega
theorem zRP (a b i:Int):Contract Tryz.prog zFx [.val (yNC a b),.val (iv i)] {res:=.val (bv (zFD a b i))}:=by
 unfold yNC
 refine mkA zZx (base:=0) (fo rfl) (fun hfit=>?_)
 unfold F0 zQ6
 refine goU ?_
 refine zAo (by repeat' constructor) (zRO a b) ?_
 refine goW ?_
 refine zAa (by rfl) trivial (fun h=>?_) (fun h=>?_)
 ·refine goW ?_
  refine zAb rfl trivial (.inl ?_)
  congr 3
  unfold zFD
  rw [decide_eq_false]
  ·rfl
  ·simp at h;omega
 have h2:zVO a b=0∧1≤i∧i≤1073741824:=by simp at h;omega
 obtain ⟨h3,h4⟩:=yLn h2.1
 refine goW ?_
 have hh:zFD a b i=(if a=0 then decide (i-b=0) else decide ((i-b).tmod a=0)&&decide (0≤(i-b).tdiv a)):=by
  unfold zFD
  rw [decide_eq_true h2,Bool.true_and]
 refine zAa (by rfl) trivial (fun h5=>?_) (fun h5=>?_)
 ·refine goW ?_
  refine zAb rfl trivial (.inl ?_)
  congr 3
  rw [hh,if_pos (by simpa using h5)]
  grind
 ·have ha:a≠0:=by simpa using h5
  have hd:=yFr (x:=i-b) (y:=a) (by omega) (by omega)
  try simp (maxSteps:=2000000) only [go_sem,ha]
  repeat with_reducible refine zAP ?_
  refine zAb rfl trivial (.inl ?_)
  congr 3
  rw [hh,if_neg ha]
  grind
def zPE (a b i:Int):Bool:=if zVO a b=0∧1≤i∧i≤1073741824 then (if a=0∨i=b then decide (i=b) else if 0 < a then decide (b < i)&&decide ((i-b).tmod a=0) else decide (i < b)&&decide ((b-i).tmod (-a)=0)) else false
end Go.Hx
end

section
set_option maxRecDepth 100000
set_option linter.unusedSimpArgs false
namespace Go.Hx
open Go.Proofs
variable [Glob]
attribute [local go_sem] zAk zAi zAj zAe ndV zAg zAf zCv
end Go.Hx
end

section
set_option maxRecDepth 100000
set_option linter.unusedSimpArgs false
namespace Go.Hx
open Go.Proofs
variable [Glob]
attribute [local go_sem] zAk zAi zAj zAe ndV zAg zAf zCv
end Go.Hx
end

section
set_option maxRecDepth 100000
set_option linter.unusedSimpArgs false
namespace Go.Hx
open Go.Proofs
variable [Glob]
attribute [local go_sem] zAk zAi zAj zAe ndV zAg zAf zCv List.take_nil
end Go.Hx
end

section
set_option maxRecDepth 100000
set_option linter.unusedSimpArgs false
namespace Go.Hx
open Go.Proofs
variable [Glob]
attribute [local go_sem] zAk zAi zAj zAe ndV zAg zAf zCv List.take_nil
end Go.Hx
end

section
set_option maxRecDepth 100000
set_option linter.unusedSimpArgs false
namespace Go.Hx
open Go.Proofs
variable [Glob]
attribute [local go_sem] zAk zAi zAj zAe ndV zAg zAf zCv List.take_nil zBy zBx
end Go.Hx
end

section
set_option maxRecDepth 100000
set_option linter.unusedSimpArgs false
namespace Go.Hx
open Go.Proofs
variable [Glob]
attribute [local go_sem] zAk zAi zAj zAe ndV zAg zAf zCv List.take_nil zA2
theorem yLo:∀ {l:List Pt} {e:Nat},GPs l e→∀ p∈l,GP p e:=fun h p hp=>by
 obtain ⟨i,hi,rfl⟩:=List.getElem_of_mem hp
 have:=h.get i hi
 simpa [hi] using this
theorem yLp:∀ {l:List St} {e:Nat},GSs l e→∀ p∈l,GS p e:=fun h p hp=>by
 obtain ⟨i,hi,rfl⟩:=List.getElem_of_mem hp
 have:=h.get i hi
 simpa [hi] using this
theorem yLq:∀ {l:List Ts} {e:Nat},GTs l e→∀ p∈l,GT p e:=fun h p hp=>by
 obtain ⟨i,hi,rfl⟩:=List.getElem_of_mem hp
 have:=h.get i hi
 simpa [hi] using this
end Go.Hx
end

section
/-
 Where a count holds: what the program and the document reckon is the same. Plain Lean. No condition.
-/
namespace Go.Hx
variable [Glob] [GlobL]
theorem yHe {x y:Int} (_:y≠0):x.tmod y=0↔∃ k,x=y * k:=by
 constructor
 ·intro h;exact ⟨x.tdiv y,by have:=Int.mul_tdiv_add_tmod x y;omega⟩
 ·rintro ⟨k,rfl⟩;exact Int.mul_tmod_right y k
theorem yFy {a b i:Int} (he:zVO a b=0) (hi:1≤i∧i≤1073741824):zFD a b i=true↔∃ k:Int,0≤k∧i=b+a * k:=by
 unfold zFD
 rw [decide_eq_true ⟨he,hi⟩,Bool.true_and]
 by_cases ha:a=0
 ·subst ha
  rw [if_pos rfl,decide_eq_true_eq]
  constructor
  ·intro h;exact ⟨0,by omega,by omega⟩
  ·rintro ⟨k,_,h⟩;rw [Int.zero_mul] at h;omega
 ·rw [if_neg ha,Bool.and_eq_true,decide_eq_true_eq,decide_eq_true_eq,yHe ha]
  constructor
  ·rintro ⟨⟨k,hk⟩,h2⟩
   rw [hk,Int.mul_tdiv_cancel_left _ ha] at h2
   exact ⟨k,h2,by omega⟩
  ·rintro ⟨k,hk,h⟩
   have e:i-b=a * k:=by omega
   exact ⟨⟨k,e⟩,by rw [e,Int.mul_tdiv_cancel_left _ ha];exact hk⟩
theorem yI8 {a b i:Int} (he:zVO a b=0) (hi:1≤i∧i≤1073741824):zPE a b i=true↔∃ k:Int,0≤k∧i=b+a * k:=by
 unfold zPE
 rw [if_pos ⟨he,hi⟩]
 by_cases h1:a=0∨i=b
 ·rw [if_pos h1,decide_eq_true_eq]
  constructor
  ·intro h;exact ⟨0,by omega,by omega⟩
  ·rintro ⟨k,_,h⟩
   rcases h1 with rfl|h1
   ·rw [Int.zero_mul] at h;omega
   ·exact h1
 ·rw [if_neg h1]
  have ha:a≠0:=fun h=>h1 (.inl h)
  by_cases h2:0 < a
  ·rw [if_pos h2,Bool.and_eq_true,decide_eq_true_eq,decide_eq_true_eq,yHe ha]
   constructor
   ·rintro ⟨h3,k,hk⟩
    refine ⟨k,?_,by omega⟩
    apply Classical.byContradiction
    intro hn
    have:=Int.mul_nonpos_of_nonneg_of_nonpos (show 0≤a by omega) (show k≤0 by omega)
    omega
   ·rintro ⟨k,hk,h⟩
    refine ⟨?_,k,by omega⟩
    have:=Int.mul_nonneg (show 0≤a by omega) hk
    omega
  ·rw [if_neg h2,Bool.and_eq_true,decide_eq_true_eq,decide_eq_true_eq,yHe (by omega)]
   constructor
   ·rintro ⟨h3,k,hk⟩
    refine ⟨k,?_,?_⟩
    ·apply Classical.byContradiction
     intro hn
     have:=Int.mul_nonpos_of_nonneg_of_nonpos (show 0≤-a by omega) (show k≤0 by omega)
     omega
    ·rw [Int.neg_mul] at hk;omega
   ·rintro ⟨k,hk,h⟩
    refine ⟨?_,k,by rw [Int.neg_mul];omega⟩
    have:=Int.mul_nonneg (show 0≤-a by omega) hk
    rw [Int.neg_mul] at this
    omega
theorem yAx (a b i:Int):zFD a b i=zPE a b i:=by
 by_cases h:zVO a b=0∧1≤i∧i≤1073741824
 ·have h1:=yFy h.1 h.2
  have h2:=yI8 h.1 h.2
  rw [Bool.eq_iff_iff,h1,h2]
 ·unfold zFD zPE
  rw [decide_eq_false h,if_neg h,Bool.false_and]
end Go.Hx
end

section
/-
 The abstract code of functions of the program, printed by gen.py; each stands for the given one. No condition.
-/
namespace Go.Hx
open Go.Proofs
variable [Glob]
abbrev zN5:Nat:=35
abbrev yCO:HCode:=oN [⟨none,.vnl 4 zAN 5⟩]
abbrev yCP:HCode:=oN [⟨none,.vnl 5 zAN 5⟩]
abbrev yCQ:HCode:=oN [oV 8 (.mv (.t 0)),
  oV 9 (.len false (.t 8)),
  oV 10 (.mv (.c (iv 0)))]
abbrev yCR:HCode:=oN [oV 11 (.ints .lss (.t 10) (.t 9))]
abbrev yCS:HCode:=oR [oV 12 (.idxA 5 (.t 8) (.t 10)),
  oV 13 (.ldR (.t 12) 5 true),
  ⟨none,.alloc 7 0 33 [.v (.int .i64 0),.v (mkS []),.v (mkS []),.nl 1,.nl 2]⟩,
  ⟨none,.sto (.t 7) 0 33 0 5 (.t 13)⟩] [12,13]
abbrev yCT:HCode:=oQ [oD 0 false (oV 14 (.mv (.t 1))),
  oD 1 false (oV 15 (.fldP (.t 7) 0)),
  oD 2 false (oV 16 (.ldB (.t 15) 0 33 0 1 false)),
  oD 3 false ⟨none,.callv (some 17) (.t 14) [(.t 16,.v)]⟩,
  oD 4 false (oV 18 (.fldP (.t 7) 3)),
  oD 5 false (oV 19 (.ldB (.t 18) 0 33 3 1 false)),
  oD 6 false (oC 20 zAW [(.t 19,.v)]),
  oD 7 false (oV 21 (.fldP (.t 7) 4)),
  oD 8 false (oV 22 (.ldB (.t 21) 0 33 4 1 false)),
  oD 9 false (oC 23 zA8 [(.t 22,.v)]),
  oD 10 false (oV 24 (.fldP (.t 7) 0)),
  oD 11 false ⟨none,.sto (.t 24) 0 33 0 1 (.t 17)⟩,
  oD 12 false (oV 25 (.fldP (.t 7) 3)),
  oD 13 false ⟨none,.sto (.t 25) 0 33 3 1 (.t 20)⟩,
  oD 14 false (oV 26 (.fldP (.t 7) 4)),
  oD 15 false ⟨none,.sto (.t 26) 0 33 4 1 (.t 23)⟩] [14,15,16,17,18,19,20,21,22,23,24,25,26]
abbrev yCU:HCode:=oR [⟨none,.vmv 27 5⟩,
  oV 28 (.ldB (.t 7) 0 33 0 5 true),
  oV 29 (.bslF 5 [.t 28]),
  ⟨none,.vap 30 zAN 5 27 (.t 29)⟩,
  ⟨none,.vmv 5 30⟩] [27,28,29,30]
abbrev yCV:HCode:=oR [oV 31 (.ints .add (.t 10) (.c (iv 1))),
  oV 10 (.mv (.t 31))] [31]
abbrev yCW:HCode:=oR [⟨none,.vmv 32 5⟩,
  ⟨none,.vmv 4 32⟩] [32]
abbrev yJc:HCode:=(.seq yCO (.seq yCP (.seq (.seq yCQ (.block 0 (.loop (.seq yCR (.seq (.cond (.t 11) .skip (.exit 0)) (.seq (.block 1 (.seq yCS (.seq yCT yCU))) yCV)))))) (.seq yCW .ret))))
abbrev zU2:Env:={N:=33,Γ:=[(33,5)],L:=38,nfix:=0}
abbrev doc_ownV_R:List RSrc:=[.tmp 4]
theorem yCX:zBE Tryz.prog zCn yJc zU2 doc_ownV_R:=by kernel_rfl
abbrev yCY:HCode:=oN [oV 3 (.boxF (.t 0)),
  ⟨none,.box 5 0 44 5 (.t 2)⟩,
  ⟨none,.alloc 6 1 49 [.nl 5]⟩,
  oV 7 (.mv (.c (iv 0)))]
abbrev yCZ:HCode:=oR [oV 10 (.ldR (.t 3) 1 true),
  oV 11 (.mv (.t 1)),
  oC 12 zFu [(.t 10,.v),(.t 11,.v)],
  oV 8 (.mv (.t 12))] [10,11,12]
abbrev yC0:HCode:=oR [oV 13 (.mv (.t 8)),
  oV 14 (.ints .neq (.t 13) (.c (iv 0)))] [13]
abbrev yC1:HCode:=oR [oV 15 (.bld [.nl 5] []),
  oV 16 (.mv (.t 8)),
  ⟨none,.sto (.t 6) 1 49 0 1 (.t 15)⟩,
  oV 7 (.mv (.t 16))] [15,16]
abbrev yC2:HCode:=oR [oV 17 (.ldB (.t 5) 0 44 0 5 true),
  oC 18 zG7 [(.t 17,.v)],
  oV 19 (.not (.t 18))] [17,18]
abbrev yC3:HCode:=oR [oV 20 (.bld [.nl 5] []),
  ⟨none,.sto (.t 6) 1 49 0 1 (.t 20)⟩,
  oV 7 (.mv (.c (iv 1)))] [20]
abbrev yC4:HCode:=.reg [oV 21 (.fldR (.t 3) 0 1),
  oV 22 (.ldR (.t 21) 1 false),
  oC 23 zCn [(.t 22,.v),(.f zFs,.v)],
  ⟨none,.vmv 9 23⟩] false [.forget [21,22,23],.pin 9 0 0 []]
abbrev yC5:HCode:=oQ [oD 0 false (oV 24 (.mv (.t 9))),
  oD 1 false (oV 25 (.mv (.t 1))),
  oD 2 false (oV 26 (.idxA 5 (.t 24) (.t 25))),
  oD 3 false (oV 27 (.fldP (.t 26) 0)),
  oD 4 false ⟨none,.vlp 28 (.t 27) 9 0 0 [] 1 false⟩,
  oD 5 false (oV 29 (.fldP (.t 5) 3)),
  oD 6 false (oV 30 (.ldB (.t 29) 0 44 3 1 false)),
  oD 7 false (oC 31 zAW [(.t 30,.v)]),
  oD 8 false (oV 32 (.fldP (.t 5) 4)),
  oD 9 false (oV 33 (.ldB (.t 32) 0 44 4 1 false)),
  oD 10 false (oC 34 zA8 [(.t 33,.v)]),
  oD 11 false (oV 35 (.fldP (.t 5) 0)),
  oD 12 false ⟨none,.sto (.t 35) 0 44 0 1 (.t 28)⟩,
  oD 13 false (oV 36 (.fldP (.t 5) 3)),
  oD 14 false ⟨none,.sto (.t 36) 0 44 3 1 (.t 31)⟩,
  oD 15 false (oV 37 (.fldP (.t 5) 4)),
  oD 16 false ⟨none,.sto (.t 37) 0 44 4 1 (.t 34)⟩] [24,25,26,27,28,29,30,31,32,33,34,35,36,37]
abbrev yC6:HCode:=.reg [oV 38 (.mv (.t 9)),
  oV 39 (.mv (.t 1)),
  oV 40 (.ldB (.t 5) 0 44 0 5 true),
  oV 41 (.idxA 5 (.t 38) (.t 39)),
  ⟨none,.vse (.t 41) 9 0 0 [] 5 (.t 40)⟩] false [.forget [38,39,40,41],.vfr 9 0 0]
abbrev yC7:HCode:=oR [oV 42 (.mv (.t 9)),
  oV 43 (.bld [.nl 5] [(0,1,.t 42)]),
  ⟨none,.sto (.t 6) 1 49 0 1 (.t 43)⟩,
  oV 7 (.mv (.c (iv 0)))] [42,43]
abbrev yJd:HCode:=(.seq yCY (.seq (.seq yCZ (.seq yC0 (.cond (.t 14) (.seq yC1 .ret) .skip))) (.seq (.seq yC2 (.cond (.t 19) (.seq yC3 .ret) .skip)) (.seq yC4 (.seq yC5 (.seq yC6 (.seq yC7 .ret)))))))
abbrev zU3:Env:={N:=44,Γ:=[(44,5),(49,1)],L:=50,nfix:=0}
abbrev doc_PutV_R:List RSrc:=[.cellB 6 1 49 0 1 true,.tmp 7]
theorem yC8:zBE Tryz.prog zN5 yJd zU3 doc_PutV_R:=by kernel_rfl
end Go.Hx
end

section
/-
 The abstract code of functions of the program, printed by gen.py; each stands for the given one. No condition.
-/
namespace Go.Hx
open Go.Proofs
variable [Glob]
end Go.Hx
end

section
/-
 The abstract code of functions of the program, printed by gen.py; each stands for the given one. No condition.
-/
namespace Go.Hx
open Go.Proofs
variable [Glob]
end Go.Hx
end
