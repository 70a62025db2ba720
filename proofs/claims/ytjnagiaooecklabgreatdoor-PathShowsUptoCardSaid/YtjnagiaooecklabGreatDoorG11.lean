/-
  Walks of functions of the program over an abstract layer, and the laws that they use: each contract says what the function computes, for every input that its conditions let by. No other condition.
-/
import Derived.Test.YtjnagiaooecklabGreatDoorProg
import Derived.Test.YtjnagiaooecklabGreatDoorG9
set_option linter.all false
section
/-
 The abstract code of functions of the program, printed by gen.py; each stands for the given one. No condition.
-/
namespace Go.Hx
open Go.Proofs
variable [Glob]
abbrev zD9:Nat:=140
abbrev zE2:Nat:=141
abbrev zEl:Nat:=21
abbrev zAW:Nat:=80
abbrev zP7:Nat:=3
abbrev zFh:Nat:=9
abbrev zU8:HCode:=oN [oV 6 (.mv (.c (bv false)))]
abbrev zU9:HCode:=oR [oV 7 (.mv (.t 0)),
  oV 8 (.mv (.t 1)),
  oV 9 (.ints .geq (.t 7) (.t 8)),
  oV 10 (.mv (.t 9)),
  oG 10 true 11 (.mv (.t 0)),
  oG 10 true 12 (.mv (.t 2)),
  oG 10 true 13 (.ints .leq (.t 11) (.t 12)),
  oV 14 (.pick (.t 10) (.t 13) (.c (bv false))),
  oV 6 (.mv (.t 14))] [7,8,9,10,11,12,13,14]
abbrev yCk:HCode:=(.seq zU8 (.seq zU9 .ret))
abbrev zGv:Env:={ N:=15,Γ:=[],L:=15,nfix:=0 }
abbrev ref_within_R:List RSrc:=[.tmp 6]
theorem zIX:zCu Tryz.prog zAW yCk zGv ref_within_R:=by kernel_rfl
abbrev zVa:HCode:=oN [oV 2 (.mv (.c (bv false)))]
abbrev zVb:HCode:=oR [oV 5 (.mv (.t 0)),
  oV 6 (.len true (.t 5)),
  oC 7 zAW [(.t 6,.v),(.c (iv 1),.v),(.c (iv 12),.v)],
  oV 8 (.not (.t 7)),
  oV 9 (.mv (.t 8)),
  oG 9 false 10 (.mv (.t 0)),
  oG 9 false 11 (.idxS (.t 10) (.c (iv 0))),
  oG 9 false 12 (.ints .lss (.t 11) (.c (.one (.v (.int .u8 97))))),
  oV 13 (.pick (.t 9) (.c (bv true)) (.t 12)),
  oV 14 (.mv (.t 13)),
  oG 14 false 15 (.mv (.t 0)),
  oG 14 false 16 (.idxS (.t 15) (.c (iv 0))),
  oG 14 false 17 (.ints .gtr (.t 16) (.c (.one (.v (.int .u8 122))))),
  oV 18 (.pick (.t 14) (.c (bv true)) (.t 17))] [5,6,7,8,9,10,11,12,13,14,15,16,17]
abbrev zVc:HCode:=oN [oV 2 (.mv (.c (bv false)))]
abbrev zVd:HCode:=oN [oV 3 (.mv (.c (iv 0)))]
abbrev zVe:HCode:=oR [oV 19 (.mv (.t 3)),
  oV 20 (.mv (.t 0)),
  oV 21 (.len true (.t 20)),
  oV 22 (.ints .lss (.t 19) (.t 21))] [19,20,21]
abbrev zVf:HCode:=oR [oV 25 (.mv (.t 0)),
  oV 26 (.mv (.t 3)),
  oV 27 (.idxS (.t 25) (.t 26)),
  oV 4 (.mv (.t 27))] [25,26,27]
abbrev zVg:HCode:=oR [oV 28 (.mv (.t 4)),
  oV 29 (.ints .geq (.t 28) (.c (.one (.v (.int .u8 97))))),
  oV 30 (.mv (.t 29)),
  oG 30 true 31 (.mv (.t 4)),
  oG 30 true 32 (.ints .leq (.t 31) (.c (.one (.v (.int .u8 122))))),
  oV 33 (.pick (.t 30) (.t 32) (.c (bv false))),
  oV 34 (.mv (.t 33)),
  oG 34 false 35 (.mv (.t 4)),
  oG 34 false 36 (.ints .geq (.t 35) (.c (.one (.v (.int .u8 48))))),
  oG 34 false 37 (.mv (.t 36)),
  oG 37 true 38 (.mv (.t 4)),
  oG 37 true 39 (.ints .leq (.t 38) (.c (.one (.v (.int .u8 57))))),
  oG 34 false 40 (.pick (.t 37) (.t 39) (.c (bv false))),
  oV 41 (.pick (.t 34) (.c (bv true)) (.t 40)),
  oV 42 (.mv (.t 41)),
  oG 42 false 43 (.mv (.t 4)),
  oG 42 false 44 (.ints .eql (.t 43) (.c (.one (.v (.int .u8 45))))),
  oV 45 (.pick (.t 42) (.c (bv true)) (.t 44)),
  oV 46 (.not (.t 45))] [28,29,30,31,32,33,34,35,36,37,38,39,40,41,42,43,44,45]
abbrev zVh:HCode:=oN [oV 2 (.mv (.c (bv false)))]
abbrev zVi:HCode:=oR [oV 23 (.mv (.t 3)),
  oV 24 (.ints .add (.t 23) (.c (iv 1))),
  oV 3 (.mv (.t 24))] [23,24]
abbrev zVj:HCode:=oN [oV 2 (.mv (.c (bv true)))]
abbrev yCl:HCode:=(.seq zVa (.seq (.seq zVb (.cond (.t 18) (.seq zVc .ret) .skip)) (.seq (.seq zVd (.block 0 (.loop (.seq (.seq zVe (.cond (.t 22) .skip (.exit 0))) (.seq (.block 1 (.seq zVf (.seq zVg (.cond (.t 46) (.seq zVh .ret) .skip)))) zVi))))) (.seq zVj .ret))))
abbrev zMf:Env:={ N:=47,Γ:=[],L:=47,nfix:=0 }
abbrev ref_IsName_R:List RSrc:=[.tmp 2]
theorem zVk:zCu Tryz.prog zD9 yCl zMf ref_IsName_R:=by kernel_rfl
abbrev zSq:HCode:=oN [oV 2 (.mv (.c (bv false)))]
abbrev zSr:HCode:=oR [oV 4 (.mv (.t 0)),
  oV 5 (.len true (.t 4)),
  oV 6 (.ints .gtr (.t 5) (.c (iv 16)))] [4,5]
abbrev zSs:HCode:=oN [oV 2 (.mv (.c (bv false)))]
abbrev zSt:HCode:=oN [oV 3 (.mv (.c (iv 0)))]
abbrev zSu:HCode:=oR [oV 7 (.mv (.t 3)),
  oV 8 (.mv (.t 0)),
  oV 9 (.len true (.t 8)),
  oV 10 (.ints .lss (.t 7) (.t 9))] [7,8,9]
abbrev zSv:HCode:=oR [oV 13 (.mv (.t 0)),
  oV 14 (.mv (.t 3)),
  oV 15 (.idxS (.t 13) (.t 14)),
  oV 16 (.ints .lss (.t 15) (.c (.one (.v (.int .u8 32))))),
  oV 17 (.mv (.t 16)),
  oG 17 false 18 (.mv (.t 0)),
  oG 17 false 19 (.mv (.t 3)),
  oG 17 false 20 (.idxS (.t 18) (.t 19)),
  oG 17 false 21 (.ints .gtr (.t 20) (.c (.one (.v (.int .u8 126))))),
  oV 22 (.pick (.t 17) (.c (bv true)) (.t 21)),
  oV 23 (.mv (.t 22)),
  oG 23 false 24 (.mv (.t 0)),
  oG 23 false 25 (.mv (.t 3)),
  oG 23 false 26 (.idxS (.t 24) (.t 25)),
  oG 23 false 27 (.ints .eql (.t 26) (.c (.one (.v (.int .u8 34))))),
  oV 28 (.pick (.t 23) (.c (bv true)) (.t 27))] [13,14,15,16,17,18,19,20,21,22,23,24,25,26,27]
abbrev zSw:HCode:=oN [oV 2 (.mv (.c (bv false)))]
abbrev zSx:HCode:=oR [oV 11 (.mv (.t 3)),
  oV 12 (.ints .add (.t 11) (.c (iv 1))),
  oV 3 (.mv (.t 12))] [11,12]
abbrev zSy:HCode:=oN [oV 2 (.mv (.c (bv true)))]
abbrev zZR:HCode:=(.seq zSq (.seq (.seq zSr (.cond (.t 6) (.seq zSs .ret) .skip)) (.seq (.seq zSt (.block 0 (.loop (.seq (.seq zSu (.cond (.t 10) .skip (.exit 0))) (.seq (.block 1 (.seq zSv (.cond (.t 28) (.seq zSw .ret) .skip))) zSx))))) (.seq zSy .ret))))
abbrev zIY:Env:={ N:=29,Γ:=[],L:=29,nfix:=0 }
abbrev ref_IsValue_R:List RSrc:=[.tmp 2]
theorem zSz:zCu Tryz.prog zE2 zZR zIY ref_IsValue_R:=by kernel_rfl
abbrev zP8:HCode:=oN [oV 4 (.mv (.c (bv false)))]
abbrev zP9:HCode:=oR [oV 6 (.mv (.t 0)),
  oV 7 (.len false (.t 6)),
  oV 8 (.mv (.t 1)),
  oV 9 (.len false (.t 8)),
  oV 10 (.ints .neq (.t 7) (.t 9))] [6,7,8,9]
abbrev zQa:HCode:=oN [oV 4 (.mv (.c (bv false)))]
abbrev zQb:HCode:=oN [oV 5 (.mv (.c (iv 0)))]
abbrev zQc:HCode:=oR [oV 11 (.mv (.t 5)),
  oV 12 (.mv (.t 0)),
  oV 13 (.len false (.t 12)),
  oV 14 (.ints .lss (.t 11) (.t 13))] [11,12,13]
abbrev zQd:HCode:=oQ [oD 0 false (oV 17 (.mv (.t 0))),
  oD 1 false (oV 18 (.mv (.t 5))),
  oD 2 false (oV 19 (.idxA 1 (.t 17) (.t 18))),
  oD 3 false (oV 20 (.ldR (.t 19) 1 false)),
  oD 4 false (oV 21 (.mv (.t 1))),
  oD 5 false (oV 22 (.mv (.t 5))),
  oD 6 false (oV 23 (.idxA 1 (.t 21) (.t 22))),
  oD 7 false (oV 24 (.ldR (.t 23) 1 false)),
  oD 8 false (oV 25 (.ints .neq (.t 20) (.t 24)))] [17,18,19,20,21,22,23,24]
abbrev zQe:HCode:=oN [oV 4 (.mv (.c (bv false)))]
abbrev zQf:HCode:=oR [oV 15 (.mv (.t 5)),
  oV 16 (.ints .add (.t 15) (.c (iv 1))),
  oV 5 (.mv (.t 16))] [15,16]
abbrev zQg:HCode:=oN [oV 4 (.mv (.c (bv true)))]
abbrev zXX:HCode:=(.seq zP8 (.seq (.seq zP9 (.cond (.t 10) (.seq zQa .ret) .skip)) (.seq (.seq zQb (.block 0 (.loop (.seq (.seq zQc (.cond (.t 14) .skip (.exit 0))) (.seq (.block 1 (.seq zQd (.cond (.t 25) (.seq zQe .ret) .skip))) zQf))))) (.seq zQg .ret))))
abbrev zHq:Env:={ N:=26,Γ:=[],L:=26,nfix:=0 }
abbrev ref_SameInts_R:List RSrc:=[.tmp 4]
theorem zQh:zCu Tryz.prog zEl zXX zHq ref_SameInts_R:=by kernel_rfl
end Go.Hx
end

section
/-
 The abstract code of functions of the program, printed by gen.py; each stands for the given one. No condition.
-/
namespace Go.Hx
open Go.Proofs
variable [Glob]
abbrev zER:Nat:=221
abbrev zHG:Nat:=251
abbrev zFS:Nat:=207
abbrev zEm:Nat:=144
abbrev zA3:Nat:=213
abbrev zDL:Nat:=158
abbrev zCF:Nat:=255
abbrev zB4:Nat:=276
abbrev zAo:Nat:=162
abbrev zB8:Nat:=274
abbrev zDp:Nat:=246
abbrev zCl:Nat:=273
abbrev zXY:HCode:=oN [oV 1 (.boxF (.t 0)),
  oV 2 (.mv (.c (iv 0)))]
abbrev zXZ:HCode:=oR [oV 5 (.fldR (.t 1) 0 1),
  oV 6 (.ldR (.t 5) 1 false),
  oV 7 (.fldR (.t 1) 1 1),
  oV 8 (.ldR (.t 7) 1 false),
  oV 9 (.bld [.v (.int .i64 0),.v (.int .i64 0)] [(0,1,.t 6),(1,1,.t 8)]),
  oV 10 (.mv (.c (iv 0)))] [5,6,7,8]
abbrev zX0:HCode:=oN [oV 11 (.ints .lss (.t 10) (.c (iv 2)))]
abbrev zX1:HCode:=oR [oV 12 (.idxV 2 (.t 9) (.t 10)),
  oV 4 (.mv (.t 12))] [12]
abbrev zX2:HCode:=oR [oV 13 (.mv (.t 4)),
  oV 14 (.ints .lss (.t 13) (.c (iv (-1048576)))),
  oV 15 (.mv (.t 14)),
  oG 15 false 16 (.mv (.t 4)),
  oG 15 false 17 (.ints .gtr (.t 16) (.c (iv 1048576))),
  oV 18 (.pick (.t 15) (.c (bv true)) (.t 17))] [13,14,15,16,17]
abbrev zX3:HCode:=oN [oV 2 (.mv (.c (iv 3)))]
abbrev zX4:HCode:=oR [oV 19 (.ints .add (.t 10) (.c (iv 1))),
  oV 10 (.mv (.t 19))] [19]
abbrev zX5:HCode:=oN [oV 2 (.mv (.c (iv 0)))]
abbrev yDK:HCode:=(.seq zXY (.seq (.seq zXZ (.block 0 (.loop (.seq zX0 (.seq (.cond (.t 11) .skip (.exit 0)) (.seq (.block 1 (.seq zX1 (.seq zX2 (.cond (.t 18) (.seq zX3 .ret) .skip)))) zX4)))))) (.seq zX5 .ret)))
abbrev zQi:Env:={ N:=20,Γ:=[],L:=20,nfix:=0 }
abbrev nth_Check_R:List RSrc:=[.tmp 2]
theorem zX6:zCu Tryz.prog zER yDK zQi nth_Check_R:=by kernel_rfl
abbrev zZS:HCode:=oN [oV 1 (.boxF (.t 0)),
  oV 2 (.mv (.c (sv []))),
  oV 3 (.mv (.c (iv 0)))]
abbrev zZT:HCode:=oR [oV 6 (.ldR (.t 1) 2 true),
  oC 7 zER [(.t 6,.v)],
  oV 4 (.mv (.t 7))] [6,7]
abbrev zZU:HCode:=oR [oV 8 (.mv (.t 4)),
  oV 9 (.ints .neq (.t 8) (.c (iv 0)))] [8]
abbrev zZV:HCode:=oR [oV 10 (.mv (.t 4)),
  oV 2 (.mv (.c (sv []))),
  oV 3 (.mv (.t 10))] [10]
abbrev zZW:HCode:=oR [oV 11 (.fldR (.t 1) 1 1),
  oV 12 (.ldR (.t 11) 1 false),
  oC 13 zDp [(.t 12,.v)],
  oV 5 (.mv (.t 13))] [11,12,13]
abbrev zZX:HCode:=oR [oV 14 (.fldR (.t 1) 1 1),
  oV 15 (.ldR (.t 14) 1 false),
  oV 16 (.ints .geq (.t 15) (.c (iv 0)))] [14,15]
abbrev zZY:HCode:=oR [oV 17 (.mv (.t 5)),
  oV 18 (.strs .add (.c (sv [43])) (.t 17)),
  oV 5 (.mv (.t 18))] [17,18]
abbrev zZZ:HCode:=oR [oV 19 (.fldR (.t 1) 0 1),
  oV 20 (.ldR (.t 19) 1 false),
  oC 21 zDp [(.t 20,.v)],
  oV 22 (.strs .add (.t 21) (.c (sv [110]))),
  oV 23 (.mv (.t 5)),
  oV 24 (.strs .add (.t 22) (.t 23)),
  oV 2 (.mv (.t 24)),
  oV 3 (.mv (.c (iv 0)))] [19,20,21,22,23,24]
abbrev yFw:HCode:=(.seq zZS (.seq (.seq zZT (.seq zZU (.cond (.t 9) (.seq zZV .ret) .skip))) (.seq zZW (.seq (.seq zZX (.cond (.t 16) zZY .skip)) (.seq zZZ .ret)))))
abbrev zUf:Env:={ N:=25,Γ:=[],L:=25,nfix:=0 }
abbrev nth_Show_R:List RSrc:=[.tmp 2,.tmp 3]
theorem zZ0:zCu Tryz.prog zFS yFw zUf nth_Show_R:=by kernel_rfl
abbrev zZ1:HCode:=oN [⟨none,.alloc 2 0 42 [.v (.int .i64 0),.v (.int .i64 0)]⟩,
  oV 3 (.mv (.c (iv 0)))]
abbrev zZ2:HCode:=oR [oV 11 (.mv (.t 0)),
  oC 12 zCl [(.t 11,.v),(.c (sv [110]),.v)],
  oV 10 (.mv (.t 12)),
  oV 13 (.ext 10 0),
  oV 14 (.ext 10 1),
  oV 15 (.ext 10 2),
  oV 4 (.mv (.t 13)),
  oV 5 (.mv (.t 14)),
  oV 6 (.mv (.t 15))] [6,10,11,12,13,14,15]
abbrev zZ3:HCode:=oN [⟨none,.alloc 7 1 44 [.v (.int .i64 0),.v (.int .i64 0)]⟩]
abbrev zZ4:HCode:=oR [oV 17 (.mv (.t 4)),
  oC 18 zB8 [(.t 17,.v)],
  oV 16 (.mv (.t 18)),
  oV 19 (.ext 16 0),
  oV 20 (.ext 16 1),
  oV 21 (.fldP (.t 7) 0),
  ⟨none,.sto (.t 21) 1 44 0 1 (.t 19)⟩] [16,17,18,19,20,21]
abbrev zZ5:HCode:=oR [oV 23 (.mv (.t 5)),
  oC 24 zB8 [(.t 23,.v)],
  oV 22 (.mv (.t 24)),
  oV 25 (.ext 22 0),
  oV 26 (.ext 22 1),
  oV 27 (.fldP (.t 7) 1),
  ⟨none,.sto (.t 27) 1 44 1 1 (.t 25)⟩] [22,23,24,25,26,27]
abbrev zZ6:HCode:=oR [oV 29 (.ldB (.t 7) 1 44 0 2 true),
  oC 30 zFS [(.t 29,.v)],
  oV 28 (.mv (.t 30)),
  oV 31 (.ext 28 0),
  oV 32 (.ext 28 1),
  oV 8 (.mv (.t 31)),
  oV 9 (.mv (.t 32))] [28,29,30,31,32]
abbrev zZ7:HCode:=oR [oV 33 (.mv (.t 9)),
  oV 34 (.ints .neq (.t 33) (.c (iv 0))),
  oV 35 (.mv (.t 34)),
  oG 35 false 36 (.mv (.t 8)),
  oG 35 false 37 (.mv (.t 0)),
  oG 35 false 38 (.strs .neq (.t 36) (.t 37)),
  oV 39 (.pick (.t 35) (.c (bv true)) (.t 38))] [33,34,35,36,37,38]
abbrev zZ8:HCode:=oR [oV 40 (.bld [.v (.int .i64 0),.v (.int .i64 0)] []),
  ⟨none,.sto (.t 2) 0 42 0 2 (.t 40)⟩,
  oV 3 (.mv (.c (iv 1)))] [40]
abbrev zZ9:HCode:=oR [oV 41 (.ldB (.t 7) 1 44 0 2 true),
  ⟨none,.sto (.t 2) 0 42 0 2 (.t 41)⟩,
  oV 3 (.mv (.c (iv 0)))] [41]
abbrev yFx:HCode:=(.seq zZ1 (.seq zZ2 (.seq zZ3 (.seq zZ4 (.seq zZ5 (.seq (.seq zZ6 (.seq zZ7 (.cond (.t 39) (.seq zZ8 .ret) .skip))) (.seq zZ9 .ret)))))))
abbrev zUg:Env:={ N:=42,Γ:=[(42,2),(44,2)],L:=46,nfix:=0 }
abbrev nth_Read_R:List RSrc:=[.cellB 2 0 42 0 2 true,.tmp 3]
theorem yAa:zCu Tryz.prog zHG yFx zUg nth_Read_R:=by kernel_rfl
abbrev zQj:HCode:=oN [oV 1 (.boxF (.t 0)),
  oV 2 (.mv (.c (iv 0)))]
abbrev zQk:HCode:=oR [oV 3 (.fldR (.t 1) 0 1),
  oV 4 (.ldR (.t 3) 1 false),
  oC 5 zAW [(.t 4,.v),(.c (iv (-1048576)),.v),(.c (iv 1048576),.v)],
  oV 6 (.not (.t 5)),
  oV 7 (.mv (.t 6)),
  oG 7 false 8 (.fldR (.t 1) 1 1),
  oG 7 false 9 (.ldR (.t 8) 1 false),
  ⟨some (7,false),.call (some 10) zAW [(.t 9,.v),(.c (iv (-1048576)),.v),(.c (iv 1048576),.v)]⟩,
  oG 7 false 11 (.not (.t 10)),
  oV 12 (.pick (.t 7) (.c (bv true)) (.t 11))] [3,4,5,6,7,8,9,10,11]
abbrev zQl:HCode:=oN [oV 2 (.mv (.c (iv 3)))]
abbrev zQm:HCode:=oN [oV 2 (.mv (.c (iv 0)))]
abbrev zX7:HCode:=(.seq zQj (.seq (.seq zQk (.cond (.t 12) (.seq zQl .ret) .skip)) (.seq zQm .ret)))
abbrev zHr:Env:={ N:=13,Γ:=[],L:=13,nfix:=0 }
abbrev ref_CheckNth_R:List RSrc:=[.tmp 2]
theorem zQn:zCu Tryz.prog zEm zX7 zHr ref_CheckNth_R:=by kernel_rfl
abbrev zVl:HCode:=oN [oV 2 (.mv (.c (sv [])))]
abbrev zVm:HCode:=oR [oV 3 (.mv (.t 0)),
  oV 4 (.ints .lss (.t 3) (.c (iv 0))),
  oV 5 (.mv (.t 4)),
  oG 5 true 6 (.mv (.t 0)),
  oG 5 true 7 (.ints .gtr (.t 6) (.c (iv (-10)))),
  oV 8 (.pick (.t 5) (.t 7) (.c (bv false)))] [3,4,5,6,7]
abbrev zVn:HCode:=oR [oV 9 (.mv (.t 0)),
  oV 10 (.neg (.t 9)),
  oC 11 zA3 [(.t 10,.v)],
  oV 12 (.strs .add (.c (sv [45])) (.t 11)),
  oV 2 (.mv (.t 12))] [9,10,11,12]
abbrev zVo:HCode:=oR [oV 13 (.mv (.t 0)),
  oV 14 (.ints .lss (.t 13) (.c (iv 0)))] [13]
abbrev zVp:HCode:=oR [oV 15 (.mv (.t 0)),
  oV 16 (.ints .quo (.t 15) (.c (iv 10))),
  oC 17 zA3 [(.t 16,.v)],
  oV 18 (.mv (.t 0)),
  oV 19 (.ints .rem (.t 18) (.c (iv 10))),
  oV 20 (.neg (.t 19)),
  oC 21 zA3 [(.t 20,.v)],
  oV 22 (.strs .add (.t 17) (.t 21)),
  oV 2 (.mv (.t 22))] [15,16,17,18,19,20,21,22]
abbrev zVq:HCode:=oR [oV 23 (.mv (.t 0)),
  oV 24 (.ints .lss (.t 23) (.c (iv 10)))] [23]
abbrev zVr:HCode:=oR [oV 25 (.mv (.t 0)),
  oV 26 (.ints .add (.c (iv 48)) (.t 25)),
  oV 27 (.conv .u8 (.t 26)),
  oV 28 (.bslF 1 [.t 27]),
  oV 29 (.b2s (.t 28)),
  oV 2 (.mv (.t 29))] [25,26,27,28,29]
abbrev zVs:HCode:=oR [oV 30 (.mv (.t 0)),
  oV 31 (.ints .quo (.t 30) (.c (iv 10))),
  oC 32 zA3 [(.t 31,.v)],
  oV 33 (.mv (.t 0)),
  oV 34 (.ints .rem (.t 33) (.c (iv 10))),
  oC 35 zA3 [(.t 34,.v)],
  oV 36 (.strs .add (.t 32) (.t 35)),
  oV 2 (.mv (.t 36))] [30,31,32,33,34,35,36]
abbrev yCm:HCode:=(.seq zVl (.seq (.seq zVm (.cond (.t 8) (.seq zVn .ret) .skip)) (.seq (.seq zVo (.cond (.t 14) (.seq zVp .ret) .skip)) (.seq (.seq zVq (.cond (.t 24) (.seq zVr .ret) .skip)) (.seq zVs .ret)))))
abbrev zMg:Env:={ N:=37,Γ:=[],L:=37,nfix:=0 }
abbrev ref_Digits_R:List RSrc:=[.tmp 2]
theorem zVt:zCu Tryz.prog zA3 yCm zMg ref_Digits_R:=by kernel_rfl
abbrev zSA:HCode:=oN [oV 1 (.boxF (.t 0)),
  oV 2 (.mv (.c (sv [])))]
abbrev zSB:HCode:=oR [oV 3 (.fldR (.t 1) 1 1),
  oV 4 (.ldR (.t 3) 1 false),
  oV 5 (.ints .lss (.t 4) (.c (iv 0)))] [3,4]
abbrev zSC:HCode:=oQ [oD 0 false (oV 6 (.fldR (.t 1) 0 1)),
  oD 1 false (oV 7 (.ldR (.t 6) 1 false)),
  oD 2 false (oC 8 zA3 [(.t 7,.v)]),
  oD 3 false (oV 9 (.strs .add (.t 8) (.c (sv [110,45])))),
  oD 4 false (oV 10 (.fldR (.t 1) 1 1)),
  oD 5 false (oV 11 (.ldR (.t 10) 1 false)),
  oD 6 false (oV 12 (.neg (.t 11))),
  oD 7 true (oC 13 zA3 [(.t 12,.v)]),
  oD 8 false (oV 14 (.strs .add (.t 9) (.t 13))),
  oD 9 false (oV 2 (.mv (.t 14)))] [6,7,8,9,10,11,12,13,14]
abbrev zSD:HCode:=oQ [oD 0 false (oV 15 (.fldR (.t 1) 0 1)),
  oD 1 false (oV 16 (.ldR (.t 15) 1 false)),
  oD 2 false (oC 17 zA3 [(.t 16,.v)]),
  oD 3 false (oV 18 (.strs .add (.t 17) (.c (sv [110,43])))),
  oD 4 false (oV 19 (.fldR (.t 1) 1 1)),
  oD 5 false (oV 20 (.ldR (.t 19) 1 false)),
  oD 6 true (oC 21 zA3 [(.t 20,.v)]),
  oD 7 false (oV 22 (.strs .add (.t 18) (.t 21))),
  oD 8 false (oV 2 (.mv (.t 22)))] [15,16,17,18,19,20,21,22]
abbrev yAb:HCode:=(.seq zSA (.seq (.seq zSB (.cond (.t 5) (.seq zSC .ret) .skip)) (.seq zSD .ret)))
abbrev zIZ:Env:={ N:=23,Γ:=[],L:=23,nfix:=0 }
abbrev ref_NthText_R:List RSrc:=[.tmp 2]
theorem zSE:zCu Tryz.prog zDL yAb zIZ ref_NthText_R:=by kernel_rfl
abbrev zKU:HCode:=oN [⟨none,.alloc 2 1 31 [.v (.int .i64 0),.v (.int .i64 0)]⟩]
abbrev zKV:HCode:=oN [⟨none,.alloc 3 2 33 [.v (.int .i64 0),.v (.int .i64 0)]⟩]
abbrev zKW:HCode:=oR [oV 5 (.mv (.t 0)),
  oC 6 zAo [(.t 5,.i 0 30 1),(.c (sv [45]),.v)],
  oV 4 (.mv (.t 6))] [5,6]
abbrev zKX:HCode:=oR [oV 7 (.mv (.t 0)),
  oC 8 zB4 [(.t 7,.i 0 30 1)],
  oV 9 (.fldP (.t 3) 0),
  ⟨none,.sto (.t 9) 2 33 0 1 (.t 8)⟩] [7,8,9]
abbrev zKY:HCode:=oN [oV 10 (.mv (.t 4))]
abbrev zKZ:HCode:=oR [oV 11 (.fldP (.t 3) 0),
  oV 12 (.ldB (.t 11) 2 33 0 1 false),
  oV 13 (.neg (.t 12)),
  oV 14 (.fldP (.t 3) 0),
  ⟨none,.sto (.t 14) 2 33 0 1 (.t 13)⟩] [11,12,13,14]
abbrev zK0:HCode:=oR [oV 15 (.mv (.t 0)),
  oC 16 zAo [(.t 15,.i 0 30 1),(.c (sv [110]),.v)]] [15,16]
abbrev zK1:HCode:=oR [oV 17 (.mv (.t 0)),
  oC 18 zAo [(.t 17,.i 0 30 1),(.c (sv [45]),.v)],
  oV 4 (.mv (.t 18))] [17,18]
abbrev zK2:HCode:=oR [oV 19 (.mv (.t 0)),
  oC 20 zAo [(.t 19,.i 0 30 1),(.c (sv [43]),.v)]] [19,20]
abbrev zK3:HCode:=oR [oV 21 (.mv (.t 0)),
  oC 22 zB4 [(.t 21,.i 0 30 1)],
  oV 23 (.fldP (.t 3) 1),
  ⟨none,.sto (.t 23) 2 33 1 1 (.t 22)⟩] [21,22,23]
abbrev zI0:HCode:=oN [oV 24 (.mv (.t 4))]
abbrev zI1:HCode:=oR [oV 25 (.fldP (.t 3) 1),
  oV 26 (.ldB (.t 25) 2 33 1 1 false),
  oV 27 (.neg (.t 26)),
  oV 28 (.fldP (.t 3) 1),
  ⟨none,.sto (.t 28) 2 33 1 1 (.t 27)⟩] [25,26,27,28]
abbrev zI2:HCode:=oR [oV 29 (.ldB (.t 3) 2 33 0 2 true),
  ⟨none,.sto (.t 2) 1 31 0 2 (.t 29)⟩] [29]
abbrev zSF:HCode:=(.seq zKU (.seq zKV (.seq zKW (.seq zKX (.seq (.seq zKY (.cond (.t 10) zKZ .skip)) (.seq zK0 (.seq zK1 (.seq zK2 (.seq zK3 (.seq (.seq zI0 (.cond (.t 24) zI1 .skip)) (.seq zI2 .ret)))))))))))
abbrev zF9:Env:={ N:=30,Γ:=[(30,1),(31,2),(33,2)],L:=35,nfix:=1 }
abbrev ref_reader_nth_R:List RSrc:=[.cellB 2 1 31 0 2 true]
theorem zK4:zCu Tryz.prog zCF zSF zF9 ref_reader_nth_R:=by kernel_rfl
abbrev zHa:HCode:=oN [oV 2 (.mv (.c (iv 0)))]
abbrev zHb:HCode:=oN [oV 3 (.mv (.c (iv 0)))]
abbrev zHc:HCode:=oN [oV 4 (.mv (.c (iv 0)))]
abbrev zHd:HCode:=oR [oV 5 (.mv (.t 4)),
  oV 6 (.ints .lss (.t 5) (.c (iv 8))),
  oV 7 (.mv (.t 6)),
  oG 7 true 8 (.mv (.t 0)),
  oG 7 true 9 (.nilck (.t 8)),
  oG 7 true 10 (.fldP (.t 9) 0),
  oG 7 true 11 (.ldB (.t 10) 0 52 0 1 false),
  oG 7 true 12 (.len true (.t 11)),
  oG 7 true 13 (.ints .gtr (.t 12) (.c (iv 0))),
  oV 14 (.pick (.t 7) (.t 13) (.c (bv false))),
  oV 15 (.mv (.t 14)),
  oG 15 true 16 (.mv (.t 0)),
  oG 15 true 17 (.nilck (.t 16)),
  oG 15 true 18 (.fldP (.t 17) 0),
  oG 15 true 19 (.ldB (.t 18) 0 52 0 1 false),
  oG 15 true 20 (.idxS (.t 19) (.c (iv 0))),
  oG 15 true 21 (.ints .geq (.t 20) (.c (.one (.v (.int .u8 48))))),
  oV 22 (.pick (.t 15) (.t 21) (.c (bv false))),
  oV 23 (.mv (.t 22)),
  oG 23 true 24 (.mv (.t 0)),
  oG 23 true 25 (.nilck (.t 24)),
  oG 23 true 26 (.fldP (.t 25) 0),
  oG 23 true 27 (.ldB (.t 26) 0 52 0 1 false),
  oG 23 true 28 (.idxS (.t 27) (.c (iv 0))),
  oG 23 true 29 (.ints .leq (.t 28) (.c (.one (.v (.int .u8 57))))),
  oV 30 (.pick (.t 23) (.t 29) (.c (bv false)))] [5,6,7,8,9,10,11,12,13,14,15,16,17,18,19,20,21,22,23,24,25,26,27,28,29]
abbrev zHe:HCode:=oR [oV 33 (.mv (.t 3)),
  oV 34 (.ints .mul (.c (iv 10)) (.t 33)),
  oV 35 (.mv (.t 0)),
  oV 36 (.nilck (.t 35)),
  oV 37 (.fldP (.t 36) 0),
  oV 38 (.ldB (.t 37) 0 52 0 1 false),
  oV 39 (.idxS (.t 38) (.c (iv 0))),
  oV 40 (.ints .sub (.t 39) (.c (.one (.v (.int .u8 48))))),
  oV 41 (.conv .i64 (.t 40)),
  oV 42 (.ints .add (.t 34) (.t 41)),
  oV 3 (.mv (.t 42))] [33,34,35,36,37,38,39,40,41,42]
abbrev zHf:HCode:=oR [oV 43 (.mv (.t 0)),
  oV 44 (.mv (.t 0)),
  oV 45 (.nilck (.t 44)),
  oV 46 (.fldP (.t 45) 0),
  oV 47 (.ldB (.t 46) 0 52 0 1 false),
  oV 48 (.sls (.t 47) (some (.c (iv 1))) none),
  oV 49 (.nilck (.t 43)),
  oV 50 (.fldP (.t 49) 0),
  ⟨none,.sto (.t 50) 0 52 0 1 (.t 48)⟩] [43,44,45,46,47,48,49,50]
abbrev zHg:HCode:=oR [oV 31 (.mv (.t 4)),
  oV 32 (.ints .add (.t 31) (.c (iv 1))),
  oV 4 (.mv (.t 32))] [31,32]
abbrev zHh:HCode:=oR [oV 51 (.mv (.t 3)),
  oV 2 (.mv (.t 51))] [51]
abbrev zK5:HCode:=(.seq zHa (.seq zHb (.seq (.seq zHc (.block 0 (.loop (.seq (.seq zHd (.cond (.t 30) .skip (.exit 0))) (.seq (.block 1 (.seq zHe zHf)) zHg))))) (.seq zHh .ret))))
abbrev zEn:Env:={ N:=52,Γ:=[(52,1)],L:=53,nfix:=1 }
abbrev ref_reader_number_R:List RSrc:=[.tmp 2]
theorem zHi:zCu Tryz.prog zB4 zK5 zEn ref_reader_number_R:=by kernel_rfl
abbrev zI3:HCode:=oN [oV 4 (.mv (.c (bv false)))]
abbrev zI4:HCode:=oR [oV 5 (.mv (.t 0)),
  oV 6 (.nilck (.t 5)),
  oV 7 (.fldP (.t 6) 0),
  oV 8 (.ldB (.t 7) 0 34 0 1 false),
  oV 9 (.len true (.t 8)),
  oV 10 (.mv (.t 1)),
  oV 11 (.len true (.t 10)),
  oV 12 (.ints .lss (.t 9) (.t 11)),
  oV 13 (.mv (.t 12)),
  oG 13 false 14 (.mv (.t 0)),
  oG 13 false 15 (.nilck (.t 14)),
  oG 13 false 16 (.fldP (.t 15) 0),
  oG 13 false 17 (.ldB (.t 16) 0 34 0 1 false),
  oG 13 false 18 (.mv (.t 1)),
  oG 13 false 19 (.len true (.t 18)),
  oG 13 false 20 (.sls (.t 17) none (some (.t 19))),
  oG 13 false 21 (.mv (.t 1)),
  oG 13 false 22 (.strs .neq (.t 20) (.t 21)),
  oV 23 (.pick (.t 13) (.c (bv true)) (.t 22))] [5,6,7,8,9,10,11,12,13,14,15,16,17,18,19,20,21,22]
abbrev zI5:HCode:=oN [oV 4 (.mv (.c (bv false)))]
abbrev zI6:HCode:=oR [oV 24 (.mv (.t 0)),
  oV 25 (.mv (.t 0)),
  oV 26 (.nilck (.t 25)),
  oV 27 (.fldP (.t 26) 0),
  oV 28 (.ldB (.t 27) 0 34 0 1 false),
  oV 29 (.mv (.t 1)),
  oV 30 (.len true (.t 29)),
  oV 31 (.sls (.t 28) (some (.t 30)) none),
  oV 32 (.nilck (.t 24)),
  oV 33 (.fldP (.t 32) 0),
  ⟨none,.sto (.t 33) 0 34 0 1 (.t 31)⟩] [24,25,26,27,28,29,30,31,32,33]
abbrev zI7:HCode:=oN [oV 4 (.mv (.c (bv true)))]
abbrev zQo:HCode:=(.seq zI3 (.seq (.seq zI4 (.cond (.t 23) (.seq zI5 .ret) .skip)) (.seq zI6 (.seq zI7 .ret))))
abbrev zFi:Env:={ N:=34,Γ:=[(34,1)],L:=35,nfix:=1 }
abbrev ref_reader_sign_R:List RSrc:=[.tmp 4]
theorem zI8:zCu Tryz.prog zAo zQo zFi ref_reader_sign_R:=by kernel_rfl
end Go.Hx
end

section
/-
 The abstract code of functions of the program, printed by gen.py; each stands for the given one. No condition.
-/
namespace Go.Hx
open Go.Proofs
variable [Glob]
abbrev zBK:Nat:=286
abbrev zBt:Nat:=277
abbrev zSG:HCode:=oN [oV 4 (.mv (.c (sv []))),
  oV 5 (.mv (.c (sv []))),
  oV 6 (.mv (.c (bv false)))]
abbrev zSH:HCode:=oR [oV 7 (.mv (.t 0)),
  oV 8 (.mv (.t 1)),
  oC 9 zBK [(.t 7,.v),(.t 8,.v)],
  oV 10 (.ext 9 0),
  oV 11 (.ext 9 1),
  oV 12 (.ext 9 2),
  oV 4 (.mv (.t 10)),
  oV 5 (.mv (.t 11)),
  oV 6 (.mv (.t 12))] [7,8,9,10,11,12]
abbrev strings_Cut:HCode:=(.seq zSG (.seq zSH .ret))
abbrev zI9:Env:={ N:=13,Γ:=[],L:=13,nfix:=0 }
abbrev strings_Cut_R:List RSrc:=[.tmp 4,.tmp 5,.tmp 6]
theorem zSI:zCu Tryz.prog zCl strings_Cut zI9 strings_Cut_R:=by kernel_rfl
abbrev zEo:HCode:=oN [oV 4 (.mv (.c (sv []))),
  oV 5 (.mv (.c (sv []))),
  oV 6 (.mv (.c (bv false)))]
abbrev zEp:HCode:=oR [oV 8 (.mv (.t 0)),
  oV 9 (.mv (.t 1)),
  oC 10 zBt [(.t 8,.v),(.t 9,.v)],
  oV 7 (.mv (.t 10))] [8,9,10]
abbrev zEq:HCode:=oR [oV 11 (.mv (.t 7)),
  oV 12 (.ints .geq (.t 11) (.c (iv 0)))] [11]
abbrev zEr:HCode:=oQ [oD 0 false (oV 13 (.mv (.t 0))),
  oD 1 false (oV 14 (.mv (.t 7))),
  oD 2 false (oV 15 (.sls (.t 13) none (some (.t 14)))),
  oD 3 false (oV 16 (.mv (.t 0))),
  oD 4 false (oV 17 (.mv (.t 7))),
  oD 5 false (oV 18 (.mv (.t 1))),
  oD 6 false (oV 19 (.len true (.t 18))),
  oD 7 false (oV 20 (.ints .add (.t 17) (.t 19))),
  oD 8 false (oV 21 (.sls (.t 16) (some (.t 20)) none)),
  oD 9 false (oV 4 (.mv (.t 15))),
  oD 10 false (oV 5 (.mv (.t 21))),
  oD 11 false (oV 6 (.mv (.c (bv true))))] [13,14,15,16,17,18,19,20,21]
abbrev zEs:HCode:=oR [oV 22 (.mv (.t 0)),
  oV 4 (.mv (.t 22)),
  oV 5 (.mv (.c (sv []))),
  oV 6 (.mv (.c (bv false)))] [22]
abbrev zFj:HCode:=(.seq zEo (.seq (.seq zEp (.seq zEq (.cond (.t 12) (.seq zEr .ret) .skip))) (.seq zEs .ret)))
abbrev zCO:Env:={ N:=23,Γ:=[],L:=23,nfix:=0 }
abbrev internal_stringslite_Cut_R:List RSrc:=[.tmp 4,.tmp 5,.tmp 6]
theorem zEt:zCu Tryz.prog zBK zFj zCO internal_stringslite_Cut_R:=by kernel_rfl
end Go.Hx
end

section
/-
 The abstract code of functions of the program, printed by gen.py; each stands for the given one. No condition.
-/
namespace Go.Hx
open Go.Proofs
variable [Glob]
abbrev zFT:Nat:=185
abbrev zGw:Nat:=192
end Go.Hx
end

section
/-
 The abstract code of functions of the program, printed by gen.py; each stands for the given one. No condition.
-/
namespace Go.Hx
open Go.Proofs
variable [Glob]
abbrev zCG:Nat:=239
abbrev zCm:Nat:=240
abbrev zBy:Nat:=238
abbrev zEu:Nat:=237
abbrev yAg:HCode:=oN [oV 2 (.mv (.c (bv false)))]
abbrev yAh:HCode:=oR [oV 3 (.mv (.t 0)),
  oV 4 (.len true (.t 3)),
  oV 5 (.ints .gtr (.t 4) (.c (iv 0))),
  oV 6 (.mv (.t 5)),
  oG 6 true 7 (.mv (.t 0)),
  oG 6 true 8 (.len true (.t 7)),
  oG 6 true 9 (.ints .leq (.t 8) (.c (iv 12))),
  oV 10 (.pick (.t 6) (.t 9) (.c (bv false))),
  oV 11 (.mv (.t 10)),
  oG 11 true 12 (.mv (.t 0)),
  oG 11 true 13 (.idxS (.t 12) (.c (iv 0))),
  oG 11 true 14 (.ints .geq (.t 13) (.c (.one (.v (.int .u8 97))))),
  oV 15 (.pick (.t 11) (.t 14) (.c (bv false))),
  oV 16 (.mv (.t 15)),
  oG 16 true 17 (.mv (.t 0)),
  oG 16 true 18 (.idxS (.t 17) (.c (iv 0))),
  oG 16 true 19 (.ints .leq (.t 18) (.c (.one (.v (.int .u8 122))))),
  oV 20 (.pick (.t 16) (.t 19) (.c (bv false))),
  oV 21 (.mv (.t 20)),
  oG 21 true 22 (.mv (.t 0)),
  ⟨some (21,true),.call (some 23) zEu [(.t 22,.v),(.c (sv [97,98,99,100,101,102,103,104,105,106,107,108,109,110,111,112,113,114,115,116,117,118,119,120,121,122,48,49,50,51,52,53,54,55,56,57,45]),.v)]⟩,
  oG 21 true 24 (.strs .eql (.t 23) (.c (sv []))),
  oV 25 (.pick (.t 21) (.t 24) (.c (bv false))),
  oV 26 (.mv (.t 25)),
  oG 26 true 27 (.mv (.t 0)),
  ⟨some (26,true),.call (some 28) zBy [(.t 27,.v),(.f zCG,.v)]⟩,
  oG 26 true 29 (.not (.t 28)),
  oV 30 (.pick (.t 26) (.t 29) (.c (bv false))),
  oV 2 (.mv (.t 30))] [3,4,5,6,7,8,9,10,11,12,13,14,15,16,17,18,19,20,21,22,23,24,25,26,27,28,29,30]
abbrev yFB:HCode:=(.seq yAg (.seq yAh .ret))
abbrev zUh:Env:={ N:=31,Γ:=[],L:=31,nfix:=0 }
abbrev doc_Name_R:List RSrc:=[.tmp 2]
theorem yAi:zCu Tryz.prog zFT yFB zUh doc_Name_R:=by kernel_rfl
abbrev zVw:HCode:=oN [oV 2 (.mv (.c (bv false)))]
abbrev zVx:HCode:=oR [oV 3 (.mv (.t 0)),
  oV 4 (.ints .lss (.t 3) (.c (.one (.v (.int .i32 97))))),
  oV 5 (.mv (.t 4)),
  oG 5 false 6 (.mv (.t 0)),
  oG 5 false 7 (.ints .gtr (.t 6) (.c (.one (.v (.int .i32 122))))),
  oV 8 (.pick (.t 5) (.c (bv true)) (.t 7)),
  oV 9 (.mv (.t 8)),
  oG 9 true 10 (.mv (.t 0)),
  oG 9 true 11 (.ints .lss (.t 10) (.c (.one (.v (.int .i32 48))))),
  oG 9 true 12 (.mv (.t 11)),
  oG 12 false 13 (.mv (.t 0)),
  oG 12 false 14 (.ints .gtr (.t 13) (.c (.one (.v (.int .i32 57))))),
  oG 9 true 15 (.pick (.t 12) (.c (bv true)) (.t 14)),
  oV 16 (.pick (.t 9) (.t 15) (.c (bv false))),
  oV 17 (.mv (.t 16)),
  oG 17 true 18 (.mv (.t 0)),
  oG 17 true 19 (.ints .neq (.t 18) (.c (.one (.v (.int .i32 45))))),
  oV 20 (.pick (.t 17) (.t 19) (.c (bv false))),
  oV 2 (.mv (.t 20))] [3,4,5,6,7,8,9,10,11,12,13,14,15,16,17,18,19,20]
abbrev yCo:HCode:=(.seq zVw (.seq zVx .ret))
abbrev zMh:Env:={ N:=21,Γ:=[],L:=21,nfix:=0 }
abbrev doc_Name_1_R:List RSrc:=[.tmp 2]
theorem zVy:zCu Tryz.prog zCG yCo zMh doc_Name_1_R:=by kernel_rfl
abbrev zX9:HCode:=oN [oV 2 (.mv (.c (bv false)))]
abbrev zYa:HCode:=oR [oV 3 (.mv (.t 0)),
  oV 4 (.len true (.t 3)),
  oV 5 (.ints .leq (.t 4) (.c (iv 16))),
  oV 6 (.mv (.t 5)),
  oG 6 true 7 (.mv (.t 0)),
  ⟨some (6,true),.call (some 8) zBy [(.t 7,.v),(.f zCm,.v)]⟩,
  oG 6 true 9 (.not (.t 8)),
  oV 10 (.pick (.t 6) (.t 9) (.c (bv false))),
  oV 2 (.mv (.t 10))] [3,4,5,6,7,8,9,10]
abbrev yDP:HCode:=(.seq zX9 (.seq zYa .ret))
abbrev zQp:Env:={ N:=11,Γ:=[],L:=11,nfix:=0 }
abbrev doc_Value_R:List RSrc:=[.tmp 2]
theorem zYb:zCu Tryz.prog zGw yDP zQp doc_Value_R:=by kernel_rfl
abbrev zSN:HCode:=oN [oV 2 (.mv (.c (bv false)))]
abbrev zSO:HCode:=oR [oV 3 (.mv (.t 0)),
  oV 4 (.ints .lss (.t 3) (.c (.one (.v (.int .i32 32))))),
  oV 5 (.mv (.t 4)),
  oG 5 false 6 (.mv (.t 0)),
  oG 5 false 7 (.ints .gtr (.t 6) (.c (.one (.v (.int .i32 126))))),
  oV 8 (.pick (.t 5) (.c (bv true)) (.t 7)),
  oV 9 (.mv (.t 8)),
  oG 9 false 10 (.mv (.t 0)),
  oG 9 false 11 (.ints .eql (.t 10) (.c (.one (.v (.int .i32 34))))),
  oV 12 (.pick (.t 9) (.c (bv true)) (.t 11)),
  oV 2 (.mv (.t 12))] [3,4,5,6,7,8,9,10,11,12]
abbrev yAj:HCode:=(.seq zSN (.seq zSO .ret))
abbrev zJb:Env:={ N:=13,Γ:=[],L:=13,nfix:=0 }
abbrev doc_Value_1_R:List RSrc:=[.tmp 2]
theorem zSP:zCu Tryz.prog zCm yAj zJb doc_Value_1_R:=by kernel_rfl
end Go.Hx
end

section
/-
 The abstract code of functions of the program, printed by gen.py; each stands for the given one. No condition.
-/
namespace Go.Hx
open Go.Proofs
variable [Glob]
abbrev zBU:Nat:=54
abbrev zBD:Nat:=110
abbrev zAD:Nat:=163
abbrev zCH:Nat:=164
abbrev zG2:Nat:=220
abbrev zFU:Nat:=111
abbrev zC0:Nat:=39
abbrev zDM:Nat:=94
abbrev zDN:Nat:=93
abbrev zEa:Nat:=95
abbrev zFk:Nat:=143
abbrev zDO:Nat:=92
abbrev yCp:HCode:=oN [⟨none,.alloc 2 0 31 [.v (.bool false),.v (.bool false),.v (.bool false),.v (.bool false)]⟩,
  oV 3 (.mv (.c (bv false)))]
abbrev yCq:HCode:=oN [oV 4 (.mv (.t 0))]
abbrev yCr:HCode:=oR [oV 6 (.ints .eql (.t 4) (.c (iv 1))),
  oV 5 (.mv (.t 6))] [6]
abbrev yCs:HCode:=oR [oV 7 (.ints .eql (.t 4) (.c (iv 2))),
  oV 5 (.mv (.t 7))] [7]
abbrev yCt:HCode:=oR [oV 8 (.ints .eql (.t 4) (.c (iv 3))),
  oV 5 (.mv (.t 8))] [8]
abbrev yCu:HCode:=oR [oV 9 (.bld [.v (.bool false),.v (.bool false),.v (.bool false),.v (.bool false)] [(0,1,.c (bv true))]),
  ⟨none,.sto (.t 2) 0 31 0 4 (.t 9)⟩,
  oV 3 (.mv (.c (bv true)))] [9]
abbrev yCv:HCode:=oR [oV 11 (.ints .eql (.t 4) (.c (iv 4))),
  oV 10 (.mv (.t 11))] [11]
abbrev yCw:HCode:=oR [oV 12 (.ints .eql (.t 4) (.c (iv 5))),
  oV 10 (.mv (.t 12))] [12]
abbrev yCx:HCode:=oR [oV 13 (.ints .eql (.t 4) (.c (iv 6))),
  oV 10 (.mv (.t 13))] [13]
abbrev yCy:HCode:=oR [oV 14 (.ints .eql (.t 4) (.c (iv 7))),
  oV 10 (.mv (.t 14))] [14]
abbrev yAk:HCode:=oR [oV 15 (.ints .eql (.t 4) (.c (iv 8))),
  oV 10 (.mv (.t 15))] [15]
abbrev yAl:HCode:=oR [oV 16 (.bld [.v (.bool false),.v (.bool false),.v (.bool false),.v (.bool false)] [(0,1,.c (bv true)),(1,1,.c (bv true))]),
  ⟨none,.sto (.t 2) 0 31 0 4 (.t 16)⟩,
  oV 3 (.mv (.c (bv true)))] [16]
abbrev yAm:HCode:=oR [oV 18 (.ints .eql (.t 4) (.c (iv 9))),
  oV 17 (.mv (.t 18))] [18]
abbrev yAn:HCode:=oR [oV 19 (.ints .eql (.t 4) (.c (iv 10))),
  oV 17 (.mv (.t 19))] [19]
abbrev yAo:HCode:=oR [oV 20 (.bld [.v (.bool false),.v (.bool false),.v (.bool false),.v (.bool false)] [(2,1,.c (bv true))]),
  ⟨none,.sto (.t 2) 0 31 0 4 (.t 20)⟩,
  oV 3 (.mv (.c (bv true)))] [20]
abbrev yAp:HCode:=oR [oV 22 (.ints .eql (.t 4) (.c (iv 11))),
  oV 21 (.mv (.t 22))] [22]
abbrev yAq:HCode:=oR [oV 23 (.ints .eql (.t 4) (.c (iv 12))),
  oV 21 (.mv (.t 23))] [23]
abbrev yAr:HCode:=oR [oV 24 (.bld [.v (.bool false),.v (.bool false),.v (.bool false),.v (.bool false)] []),
  ⟨none,.sto (.t 2) 0 31 0 4 (.t 24)⟩,
  oV 3 (.mv (.c (bv true)))] [24]
abbrev yAs:HCode:=oR [oV 26 (.ints .eql (.t 4) (.c (iv 13))),
  oV 25 (.mv (.t 26))] [26]
abbrev yAt:HCode:=oR [oV 27 (.ints .eql (.t 4) (.c (iv 14))),
  oV 25 (.mv (.t 27))] [27]
abbrev yAu:HCode:=oR [oV 28 (.ints .eql (.t 4) (.c (iv 15))),
  oV 25 (.mv (.t 28))] [28]
abbrev yAv:HCode:=oR [oV 29 (.bld [.v (.bool false),.v (.bool false),.v (.bool false),.v (.bool false)] [(3,1,.c (bv true))]),
  ⟨none,.sto (.t 2) 0 31 0 4 (.t 29)⟩,
  oV 3 (.mv (.c (bv true)))] [29]
abbrev yAw:HCode:=oR [oV 30 (.bld [.v (.bool false),.v (.bool false),.v (.bool false),.v (.bool false)] []),
  ⟨none,.sto (.t 2) 0 31 0 4 (.t 30)⟩,
  oV 3 (.mv (.c (bv false)))] [30]
abbrev yHL:HCode:=(.seq yCp (.seq (.seq yCq (.block 0 (.seq (.seq yCr (.cond (.t 5) .skip (.seq yCs (.cond (.t 5) .skip yCt)))) (.cond (.t 5) (.seq yCu .ret) (.seq (.seq yCv (.cond (.t 10) .skip (.seq yCw (.cond (.t 10) .skip (.seq yCx (.cond (.t 10) .skip (.seq yCy (.cond (.t 10) .skip yAk)))))))) (.cond (.t 10) (.seq yAl .ret) (.seq (.seq yAm (.cond (.t 17) .skip yAn)) (.cond (.t 17) (.seq yAo .ret) (.seq (.seq yAp (.cond (.t 21) .skip yAq)) (.cond (.t 21) (.seq yAr .ret) (.seq (.seq yAs (.cond (.t 25) .skip (.seq yAt (.cond (.t 25) .skip yAu)))) (.cond (.t 25) (.seq yAv .ret) .skip)))))))))))) (.seq yAw .ret)))
abbrev zYc:Env:={ N:=31,Γ:=[(31,4)],L:=35,nfix:=0 }
abbrev path_of_R:List RSrc:=[.cellB 2 0 31 0 4 true,.tmp 3]
theorem yCz:zCu Tryz.prog zG2 yHL zYc path_of_R:=by kernel_rfl
abbrev zVz:HCode:=oN [⟨none,.alloc 0 0 2 [.v (.int .i64 0),.v (.int .i64 0),.v (.int .i64 0),.v (.int .i64 0)]⟩]
abbrev zVA:HCode:=oR [oV 1 (.bld [.v (.int .i64 0),.v (.int .i64 0),.v (.int .i64 0),.v (.int .i64 0)] [(0,1,.c (iv 2)),(1,1,.c (iv 4)),(2,1,.c (iv 1)),(3,1,.c (iv 3))]),
  ⟨none,.sto (.t 0) 0 2 0 4 (.t 1)⟩] [1]
abbrev yCA:HCode:=(.seq zVz (.seq zVA .ret))
abbrev zMi:Env:={ N:=2,Γ:=[(2,4)],L:=6,nfix:=0 }
abbrev path_order_R:List RSrc:=[.cellB 0 0 2 0 4 true]
theorem zVB:zCu Tryz.prog zFU yCA zMi path_order_R:=by kernel_rfl
abbrev zK6:HCode:=oN [oV 6 (.mv (.t 1))]
abbrev zK7:HCode:=oQ [oD 0 false (oV 7 (.mv (.t 0))),
  oD 1 false (oV 8 (.mv (.t 2))),
  oD 2 false (oV 9 (.nilck (.t 7))),
  oD 3 false (oV 10 (.fldP (.t 9) 0)),
  oD 4 false (oV 11 (.ixB 5 (.t 10) (.t 8))),
  oD 5 false (oV 12 (.ldD (.t 11) 0 17 5)),
  oD 6 false (oV 13 (.ints .add (.t 12) (.c (iv 1)))),
  oD 7 false (oV 14 (.nilck (.t 7))),
  oD 8 false (oV 15 (.fldP (.t 14) 0)),
  oD 9 false (oV 16 (.ixB 5 (.t 15) (.t 8))),
  oD 10 false ⟨none,.std (.t 16) 0 17 5 (.t 13)⟩] [7,8,9,10,11,12,13,14,15,16]
abbrev zSQ:HCode:=(.seq zK6 (.cond (.t 6) zK7 .skip))
abbrev zCg:Env:={ N:=17,Γ:=[(17,5)],L:=22,nfix:=1 }
abbrev path_look_note_R:List RSrc:=[]
theorem zCI:zCu Tryz.prog zAD zSQ zCg path_look_note_R:=by kernel_rfl
abbrev zK8:HCode:=oR [oV 12 (.mv (.t 2)),
  oV 13 (.ints .gtr (.t 12) (.c (iv 3))),
  oV 14 (.mv (.t 13)),
  oG 14 false 15 (.mv (.t 1)),
  oG 14 false 16 (.len false (.t 15)),
  oG 14 false 17 (.ints .lss (.t 16) (.c (iv 1))),
  oV 18 (.pick (.t 14) (.c (bv true)) (.t 17)),
  oV 19 (.mv (.t 18)),
  oG 19 false 20 (.mv (.t 1)),
  oG 19 false 21 (.len false (.t 20)),
  oG 19 false 22 (.ints .gtr (.t 21) (.c (iv 5))),
  oV 23 (.pick (.t 19) (.c (bv true)) (.t 22))] [12,13,14,15,16,17,18,19,20,21,22]
abbrev zK9:HCode:=oR [oV 24 (.mv (.t 0)),
  oC 25 zAD [(.t 24,.i 0 83 5),(.c (bv true),.v),(.c (iv 2),.v)]] [24,25]
abbrev zLa:HCode:=oN [oV 26 (.mv (.t 1)),
  oV 27 (.len false (.t 26)),
  oV 28 (.mv (.c (iv 0)))]
abbrev zLb:HCode:=oN [oV 29 (.ints .lss (.t 28) (.t 27))]
abbrev zLc:HCode:=.reg [oV 30 (.idxA 2 (.t 26) (.t 28)),
  oV 31 (.ldR (.t 30) 2 true),
  ⟨none,.alloc 7 1 88 [.nl 2,.nl 1]⟩,
  ⟨none,.sto (.t 7) 1 88 0 2 (.t 31)⟩] false [.frz 1 88 2,.forget [30,31]]
abbrev zLd:HCode:=oR [oV 32 (.fldR (.t 7) 0 1),
  oV 33 (.ldR (.t 32) 1 false),
  oV 34 (.len false (.t 33)),
  oV 35 (.ints .lss (.t 34) (.c (iv 1))),
  oV 36 (.mv (.t 35)),
  oG 36 false 37 (.fldR (.t 7) 0 1),
  oG 36 false 38 (.ldR (.t 37) 1 false),
  oG 36 false 39 (.len false (.t 38)),
  oG 36 false 40 (.ints .gtr (.t 39) (.c (iv 5))),
  oV 41 (.pick (.t 36) (.c (bv true)) (.t 40)),
  oV 42 (.mv (.t 41)),
  oG 42 false 43 (.fldR (.t 7) 1 1),
  oG 42 false 44 (.ldR (.t 43) 1 false),
  oG 42 false 45 (.len false (.t 44)),
  oG 42 false 46 (.fldR (.t 7) 0 1),
  oG 42 false 47 (.ldR (.t 46) 1 false),
  oG 42 false 48 (.len false (.t 47)),
  oG 42 false 49 (.ints .sub (.t 48) (.c (iv 1))),
  oG 42 false 50 (.ints .neq (.t 45) (.t 49)),
  oV 51 (.pick (.t 42) (.c (bv true)) (.t 50))] [32,33,34,35,36,37,38,39,40,41,42,43,44,45,46,47,48,49,50]
abbrev zLe:HCode:=oR [oV 52 (.mv (.t 0)),
  oC 53 zAD [(.t 52,.i 0 83 5),(.c (bv true),.v),(.c (iv 2),.v)]] [52,53]
abbrev zLf:HCode:=oR [oV 54 (.fldR (.t 7) 1 1),
  oV 55 (.ldR (.t 54) 1 false),
  oV 56 (.len false (.t 55)),
  oV 57 (.mv (.c (iv 0)))] [54]
abbrev zLg:HCode:=oN [oV 58 (.ints .lss (.t 57) (.t 56))]
abbrev zLh:HCode:=oR [oV 59 (.idxA 1 (.t 55) (.t 57)),
  oV 60 (.ldR (.t 59) 1 false),
  oV 9 (.mv (.t 60))] [59,60]
abbrev zJc:HCode:=oR [oV 61 (.mv (.t 0)),
  oV 62 (.mv (.t 9)),
  oV 63 (.ints .lss (.t 62) (.c (iv 1))),
  oV 64 (.mv (.t 63)),
  oG 64 false 65 (.mv (.t 9)),
  oG 64 false 66 (.ints .gtr (.t 65) (.c (iv 4))),
  oV 67 (.pick (.t 64) (.c (bv true)) (.t 66)),
  oC 68 zAD [(.t 61,.i 0 83 5),(.t 67,.v),(.c (iv 4),.v)]] [61,62,63,64,65,66,67,68]
abbrev zJd:HCode:=oR [oV 69 (.ints .add (.t 57) (.c (iv 1))),
  oV 57 (.mv (.t 69))] [69]
abbrev zJe:HCode:=oR [oV 70 (.fldR (.t 7) 0 1),
  oV 71 (.ldR (.t 70) 1 false),
  oV 72 (.len false (.t 71)),
  oV 73 (.mv (.c (iv 0)))] [70]
abbrev zJf:HCode:=oN [oV 74 (.ints .lss (.t 73) (.t 72))]
abbrev zJg:HCode:=oR [oV 75 (.idxA 2 (.t 71) (.t 73)),
  oV 76 (.ldR (.t 75) 2 true),
  ⟨none,.alloc 11 2 90 [.v (mkS []),.nl 6]⟩,
  ⟨none,.sto (.t 11) 2 90 0 2 (.t 76)⟩] [75,76]
abbrev zJh:HCode:=oR [oV 77 (.mv (.t 0)),
  oV 78 (.ldB (.t 11) 2 90 0 2 true),
  oV 79 (.mv (.t 2)),
  oC 80 zCH [(.t 77,.i 0 83 5),(.t 78,.v),(.t 79,.v)]] [77,78,79,80]
abbrev zJi:HCode:=oR [oV 81 (.ints .add (.t 73) (.c (iv 1))),
  oV 73 (.mv (.t 81))] [81]
abbrev zJj:HCode:=oR [oV 82 (.ints .add (.t 28) (.c (iv 1))),
  oV 28 (.mv (.t 82))] [82]
abbrev zSR:HCode:=(.seq (.seq zK8 (.cond (.t 23) (.seq zK9 .ret) .skip)) (.seq zLa (.block 0 (.loop (.seq zLb (.seq (.cond (.t 29) .skip (.exit 0)) (.seq (.block 1 (.seq zLc (.seq (.seq zLd (.cond (.t 51) (.seq zLe .ret) .skip)) (.seq (.seq zLf (.block 2 (.loop (.seq zLg (.seq (.cond (.t 58) .skip (.exit 2)) (.seq (.block 3 (.seq zLh zJc)) zJd)))))) (.seq zJe (.block 4 (.loop (.seq zJf (.seq (.cond (.t 74) .skip (.exit 4)) (.seq (.block 5 (.seq zJg zJh)) zJi)))))))))) zJj)))))))
abbrev zGa:Env:={ N:=83,Γ:=[(83,5),(88,2),(90,2)],L:=92,nfix:=1 }
abbrev path_look_list_R:List RSrc:=[]
theorem zLi:zCu Tryz.prog zBD zSR zGa path_look_list_R:=by kernel_rfl
abbrev zLj:HCode:=oN [oV 4 (.boxF (.t 1))]
abbrev zLk:HCode:=oR [oV 10 (.fldR (.t 4) 1 1),
  oV 11 (.ldR (.t 10) 1 false),
  oV 12 (.len false (.t 11)),
  oV 13 (.ints .gtr (.t 12) (.c (iv 6)))] [10,11,12]
abbrev zLl:HCode:=oR [oV 14 (.mv (.t 0)),
  oC 15 zAD [(.t 14,.i 0 121 5),(.c (bv true),.v),(.c (iv 2),.v)]] [14,15]
abbrev zLm:HCode:=oR [oV 16 (.mv (.t 0)),
  oV 17 (.fldR (.t 4) 0 1),
  oV 18 (.ldR (.t 17) 1 false),
  oV 19 (.strs .neq (.t 18) (.c (sv []))),
  oV 20 (.mv (.t 19)),
  oG 20 true 21 (.fldR (.t 4) 0 1),
  oG 20 true 22 (.ldR (.t 21) 1 false),
  ⟨some (20,true),.call (some 23) zFT [(.t 22,.v)]⟩,
  oG 20 true 24 (.not (.t 23)),
  oV 25 (.pick (.t 20) (.t 24) (.c (bv false))),
  oC 26 zAD [(.t 16,.i 0 121 5),(.t 25,.v),(.c (iv 1),.v)]] [16,17,18,19,20,21,22,23,24,25,26]
abbrev zLn:HCode:=oR [oV 27 (.fldR (.t 4) 1 1),
  oV 28 (.ldR (.t 27) 1 false),
  oV 29 (.len false (.t 28)),
  oV 30 (.mv (.c (iv 0)))] [27]
abbrev zLo:HCode:=oN [oV 31 (.ints .lss (.t 30) (.t 29))]
abbrev zLp:HCode:=.reg [oV 32 (.idxA 6 (.t 28) (.t 30)),
  oV 33 (.ldR (.t 32) 6 true),
  ⟨none,.alloc 7 1 126 [.v (.int .i64 0),.v (mkS []),.v (mkS []),.v (.int .i64 0),.v (.int .i64 0),.nl 2]⟩,
  ⟨none,.sto (.t 7) 1 126 0 6 (.t 33)⟩] false [.frz 1 126 6,.forget [32,33]]
abbrev zLq:HCode:=.reg [oV 35 (.fldR (.t 7) 0 1),
  oV 36 (.ldR (.t 35) 1 false),
  oC 37 zG2 [(.t 36,.v)],
  oV 34 (.mv (.t 37)),
  oV 38 (.ext 34 0),
  oV 39 (.ext 34 1),
  ⟨none,.alloc 8 2 132 [.v (.bool false),.v (.bool false),.v (.bool false),.v (.bool false)]⟩,
  ⟨none,.sto (.t 8) 2 132 0 4 (.t 38)⟩,
  oV 9 (.mv (.t 39))] false [.frz 2 132 4,.forget [34,35,36,37,38,39]]
abbrev zLr:HCode:=oR [oV 40 (.mv (.t 0)),
  oV 41 (.mv (.t 9)),
  oV 42 (.not (.t 41)),
  oC 43 zAD [(.t 40,.i 0 121 5),(.t 42,.v),(.c (iv 4),.v)]] [40,41,42,43]
abbrev zLs:HCode:=oR [oV 44 (.mv (.t 0)),
  oV 45 (.fldR (.t 8) 0 1),
  oV 46 (.ldR (.t 45) 1 false),
  oV 47 (.mv (.t 46)),
  oG 47 true 48 (.fldR (.t 7) 1 1),
  oG 47 true 49 (.ldR (.t 48) 1 false),
  ⟨some (47,true),.call (some 50) zFT [(.t 49,.v)]⟩,
  oG 47 true 51 (.not (.t 50)),
  oV 52 (.pick (.t 47) (.t 51) (.c (bv false))),
  oV 53 (.mv (.t 52)),
  oG 53 false 54 (.fldR (.t 8) 0 1),
  oG 53 false 55 (.ldR (.t 54) 1 false),
  oG 53 false 56 (.not (.t 55)),
  oG 53 false 57 (.mv (.t 56)),
  oG 57 true 58 (.fldR (.t 7) 1 1),
  oG 57 true 59 (.ldR (.t 58) 1 false),
  oG 57 true 60 (.strs .neq (.t 59) (.c (sv []))),
  oG 53 false 61 (.pick (.t 57) (.t 60) (.c (bv false))),
  oV 62 (.pick (.t 53) (.c (bv true)) (.t 61)),
  oC 63 zAD [(.t 44,.i 0 121 5),(.t 62,.v),(.c (iv 1),.v)]] [44,45,46,47,48,49,50,51,52,53,54,55,56,57,58,59,60,61,62,63]
abbrev zJk:HCode:=oR [oV 64 (.mv (.t 0)),
  oV 65 (.fldR (.t 8) 1 1),
  oV 66 (.ldR (.t 65) 1 false),
  oV 67 (.mv (.t 66)),
  oG 67 true 68 (.fldR (.t 7) 2 1),
  oG 67 true 69 (.ldR (.t 68) 1 false),
  ⟨some (67,true),.call (some 70) zGw [(.t 69,.v)]⟩,
  oG 67 true 71 (.not (.t 70)),
  oV 72 (.pick (.t 67) (.t 71) (.c (bv false))),
  oV 73 (.mv (.t 72)),
  oG 73 false 74 (.fldR (.t 8) 1 1),
  oG 73 false 75 (.ldR (.t 74) 1 false),
  oG 73 false 76 (.not (.t 75)),
  oG 73 false 77 (.mv (.t 76)),
  oG 77 true 78 (.fldR (.t 7) 2 1),
  oG 77 true 79 (.ldR (.t 78) 1 false),
  oG 77 true 80 (.strs .neq (.t 79) (.c (sv []))),
  oG 73 false 81 (.pick (.t 77) (.t 80) (.c (bv false))),
  oV 82 (.pick (.t 73) (.c (bv true)) (.t 81)),
  oC 83 zAD [(.t 64,.i 0 121 5),(.t 82,.v),(.c (iv 1),.v)]] [64,65,66,67,68,69,70,71,72,73,74,75,76,77,78,79,80,81,82,83]
abbrev zJl:HCode:=oR [oV 84 (.mv (.t 0)),
  oV 85 (.fldR (.t 8) 2 1),
  oV 86 (.ldR (.t 85) 1 false),
  oV 87 (.not (.t 86)),
  oV 88 (.mv (.t 87)),
  oG 88 true 89 (.fldR (.t 7) 3 2),
  oG 88 true 90 (.ldR (.t 89) 2 true),
  oG 88 true 91 (.bld [.v (.int .i64 0),.v (.int .i64 0)] []),
  oG 88 true 92 (.steq true [0,0] (.t 90) (.t 91)),
  oV 93 (.pick (.t 88) (.t 92) (.c (bv false))),
  oV 94 (.mv (.t 93)),
  oG 94 false 95 (.fldR (.t 8) 3 1),
  oG 94 false 96 (.ldR (.t 95) 1 false),
  oG 94 false 97 (.not (.t 96)),
  oG 94 false 98 (.mv (.t 97)),
  oG 98 true 99 (.fldR (.t 7) 5 1),
  oG 98 true 100 (.ldR (.t 99) 1 false),
  oG 98 true 101 (.len false (.t 100)),
  oG 98 true 102 (.ints .gtr (.t 101) (.c (iv 0))),
  oG 94 false 103 (.pick (.t 98) (.t 102) (.c (bv false))),
  oV 104 (.pick (.t 94) (.c (bv true)) (.t 103)),
  oC 105 zAD [(.t 84,.i 0 121 5),(.t 104,.v),(.c (iv 1),.v)]] [84,85,86,87,88,89,90,91,92,93,94,95,96,97,98,99,100,101,102,103,104,105]
abbrev zJm:HCode:=oR [oV 106 (.mv (.t 0)),
  oV 107 (.fldR (.t 7) 3 2),
  oV 108 (.ldR (.t 107) 2 true),
  oC 109 zER [(.t 108,.v)],
  oV 110 (.ints .neq (.t 109) (.c (iv 0))),
  oC 111 zAD [(.t 106,.i 0 121 5),(.t 110,.v),(.c (iv 3),.v)]] [106,107,108,109,110,111]
abbrev zJn:HCode:=oR [oV 112 (.fldR (.t 8) 3 1),
  oV 113 (.ldR (.t 112) 1 false)] [112]
abbrev zJo:HCode:=oR [oV 114 (.mv (.t 0)),
  oV 115 (.fldR (.t 7) 5 1),
  oV 116 (.ldR (.t 115) 1 false),
  oV 117 (.mv (.t 2)),
  oV 118 (.ints .add (.t 117) (.c (iv 1))),
  oC 119 zBD [(.t 114,.i 0 121 5),(.t 116,.v),(.t 118,.v)]] [114,115,116,117,118,119]
abbrev zJp:HCode:=oR [oV 120 (.ints .add (.t 30) (.c (iv 1))),
  oV 30 (.mv (.t 120))] [120]
abbrev zSS:HCode:=(.seq zLj (.seq (.seq zLk (.cond (.t 13) (.seq zLl .ret) .skip)) (.seq zLm (.seq zLn (.block 0 (.loop (.seq zLo (.seq (.cond (.t 31) .skip (.exit 0)) (.seq (.block 1 (.seq zLp (.seq zLq (.seq zLr (.seq zLs (.seq zJk (.seq zJl (.seq zJm (.seq zJn (.cond (.t 113) zJo .skip)))))))))) zJp)))))))))
abbrev zGb:Env:={ N:=121,Γ:=[(121,5),(126,6),(132,4)],L:=136,nfix:=1 }
abbrev path_look_step_R:List RSrc:=[]
theorem zLt:zCu Tryz.prog zCH zSS zGb path_look_step_R:=by kernel_rfl
abbrev zVC:HCode:=oN [oV 2 (.mv (.c (iv 0)))]
abbrev zVD:HCode:=oR [oV 6 (.bld [.v (.int .i64 0),.v (.int .i64 0),.v (.int .i64 0),.v (.int .i64 0),.v (.int .i64 0)] []),
  ⟨none,.box 7 0 24 5 (.t 6)⟩,
  oV 3 (.mv (.t 7))] [6,7]
abbrev zVE:HCode:=oR [oV 8 (.mv (.t 3)),
  oV 9 (.mv (.t 0)),
  oC 10 zBD [(.t 8,.i 0 24 5),(.t 9,.v),(.c (iv 1),.v)]] [8,9,10]
abbrev zVF:HCode:=oN [oC 11 zFU [],
  oV 12 (.mv (.c (iv 0)))]
abbrev zVG:HCode:=oN [oV 13 (.ints .lss (.t 12) (.c (iv 4)))]
abbrev zVH:HCode:=oR [oV 14 (.idxV 4 (.t 11) (.t 12)),
  oV 5 (.mv (.t 14))] [14]
abbrev zVI:HCode:=oR [oV 15 (.mv (.t 3)),
  oV 16 (.mv (.t 5)),
  oV 17 (.nilck (.t 15)),
  oV 18 (.fldP (.t 17) 0),
  oV 19 (.ixB 5 (.t 18) (.t 16)),
  oV 20 (.ldD (.t 19) 0 24 5),
  oV 21 (.ints .gtr (.t 20) (.c (iv 0)))] [15,16,17,18,19,20]
abbrev zVJ:HCode:=oR [oV 22 (.mv (.t 5)),
  oV 2 (.mv (.t 22))] [22]
abbrev zVK:HCode:=oR [oV 23 (.ints .add (.t 12) (.c (iv 1))),
  oV 12 (.mv (.t 23))] [23]
abbrev zVL:HCode:=oN [oV 2 (.mv (.c (iv 0)))]
abbrev yCB:HCode:=(.seq zVC (.seq zVD (.seq zVE (.seq (.seq zVF (.block 0 (.loop (.seq zVG (.seq (.cond (.t 13) .skip (.exit 0)) (.seq (.block 1 (.seq zVH (.seq zVI (.cond (.t 21) (.seq zVJ .ret) .skip)))) zVK)))))) (.seq zVL .ret)))))
abbrev zMj:Env:={ N:=24,Γ:=[(24,5)],L:=29,nfix:=0 }
abbrev path_Check_R:List RSrc:=[.tmp 2]
theorem zVM:zCu Tryz.prog zBU yCB zMj path_Check_R:=by kernel_rfl
abbrev yCC:HCode:=oN [oV 2 (.mv (.c (bv false))),
  oV 3 (.mv (.c (bv false))),
  oV 4 (.mv (.c (bv false))),
  oV 5 (.mv (.c (bv false)))]
abbrev yCD:HCode:=oR [oV 6 (.mv (.t 0)),
  oC 7 zAW [(.t 6,.v),(.c (iv 1),.v),(.c (iv 8),.v)],
  oV 8 (.mv (.t 0)),
  oC 9 zAW [(.t 8,.v),(.c (iv 4),.v),(.c (iv 8),.v)],
  oV 10 (.mv (.t 0)),
  oV 11 (.ints .eql (.t 10) (.c (iv 9))),
  oV 12 (.mv (.t 11)),
  oG 12 false 13 (.mv (.t 0)),
  oG 12 false 14 (.ints .eql (.t 13) (.c (iv 10))),
  oV 15 (.pick (.t 12) (.c (bv true)) (.t 14)),
  oV 16 (.mv (.t 0)),
  oC 17 zAW [(.t 16,.v),(.c (iv 13),.v),(.c (iv 15),.v)],
  oV 2 (.mv (.t 7)),
  oV 3 (.mv (.t 9)),
  oV 4 (.mv (.t 15)),
  oV 5 (.mv (.t 17))] [6,7,8,9,10,11,12,13,14,15,16,17]
abbrev yHM:HCode:=(.seq yCC (.seq yCD .ret))
abbrev zYd:Env:={ N:=18,Γ:=[],L:=18,nfix:=0 }
abbrev ref_has_R:List RSrc:=[.tmp 2,.tmp 3,.tmp 4,.tmp 5]
theorem yCE:zCu Tryz.prog zFk yHM zYd ref_has_R:=by kernel_rfl
abbrev zST:HCode:=oN [oV 4 (.mv (.c (bv false)))]
abbrev zSU:HCode:=oR [oV 14 (.mv (.t 1)),
  oV 15 (.ints .gtr (.t 14) (.c (iv 3))),
  oV 16 (.mv (.t 15)),
  oG 16 false 17 (.mv (.t 0)),
  oG 16 false 18 (.len false (.t 17)),
  ⟨some (16,false),.call (some 19) zAW [(.t 18,.v),(.c (iv 1),.v),(.c (iv 5),.v)]⟩,
  oG 16 false 20 (.not (.t 19)),
  oV 21 (.pick (.t 16) (.c (bv true)) (.t 20))] [14,15,16,17,18,19,20]
abbrev zSV:HCode:=oN [oV 4 (.mv (.c (bv true)))]
abbrev zSW:HCode:=oN [oV 5 (.mv (.c (iv 0)))]
abbrev zSX:HCode:=oR [oV 22 (.mv (.t 5)),
  oV 23 (.mv (.t 0)),
  oV 24 (.len false (.t 23)),
  oV 25 (.ints .lss (.t 22) (.t 24))] [22,23,24]
abbrev zSY:HCode:=.reg [oV 28 (.mv (.t 0)),
  oV 29 (.mv (.t 5)),
  oV 30 (.idxA 2 (.t 28) (.t 29)),
  oV 31 (.ldR (.t 30) 2 true),
  ⟨none,.alloc 6 0 98 [.nl 2,.nl 1]⟩,
  ⟨none,.sto (.t 6) 0 98 0 2 (.t 31)⟩] false [.frz 0 98 2,.forget [28,29,30,31]]
abbrev zSZ:HCode:=oR [oV 32 (.fldR (.t 6) 0 1),
  oV 33 (.ldR (.t 32) 1 false),
  oV 34 (.len false (.t 33)),
  oC 35 zAW [(.t 34,.v),(.c (iv 1),.v),(.c (iv 5),.v)],
  oV 36 (.not (.t 35)),
  oV 37 (.mv (.t 36)),
  oG 37 false 38 (.fldR (.t 6) 1 1),
  oG 37 false 39 (.ldR (.t 38) 1 false),
  oG 37 false 40 (.len false (.t 39)),
  oG 37 false 41 (.fldR (.t 6) 0 1),
  oG 37 false 42 (.ldR (.t 41) 1 false),
  oG 37 false 43 (.len false (.t 42)),
  oG 37 false 44 (.ints .sub (.t 43) (.c (iv 1))),
  oG 37 false 45 (.ints .neq (.t 40) (.t 44)),
  oV 46 (.pick (.t 37) (.c (bv true)) (.t 45))] [32,33,34,35,36,37,38,39,40,41,42,43,44,45]
abbrev zS0:HCode:=oN [oV 4 (.mv (.c (bv true)))]
abbrev zS1:HCode:=oN [oV 7 (.mv (.c (iv 0)))]
abbrev zS2:HCode:=oR [oV 47 (.mv (.t 7)),
  oV 48 (.fldR (.t 6) 0 1),
  oV 49 (.ldR (.t 48) 1 false),
  oV 50 (.len false (.t 49)),
  oV 51 (.ints .lss (.t 47) (.t 50))] [47,48,49,50]
abbrev zQq:HCode:=oR [oV 54 (.fldR (.t 6) 0 1),
  oV 55 (.ldR (.t 54) 1 false),
  oV 56 (.mv (.t 7)),
  oV 57 (.idxA 2 (.t 55) (.t 56)),
  oV 58 (.fldR (.t 57) 1 1),
  oV 59 (.ldR (.t 58) 1 false),
  oV 60 (.len false (.t 59)),
  oV 61 (.ints .gtr (.t 60) (.c (iv 6)))] [54,55,56,57,58,59,60]
abbrev zQr:HCode:=oN [oV 4 (.mv (.c (bv true)))]
abbrev zQs:HCode:=oN [oV 8 (.mv (.c (iv 0)))]
abbrev zQt:HCode:=oR [oV 62 (.mv (.t 8)),
  oV 63 (.fldR (.t 6) 0 1),
  oV 64 (.ldR (.t 63) 1 false),
  oV 65 (.mv (.t 7)),
  oV 66 (.idxA 2 (.t 64) (.t 65)),
  oV 67 (.fldR (.t 66) 1 1),
  oV 68 (.ldR (.t 67) 1 false),
  oV 69 (.len false (.t 68)),
  oV 70 (.ints .lss (.t 62) (.t 69))] [62,63,64,65,66,67,68,69]
abbrev zQu:HCode:=.reg [oV 73 (.fldR (.t 6) 0 1),
  oV 74 (.ldR (.t 73) 1 false),
  oV 75 (.mv (.t 7)),
  oV 76 (.idxA 2 (.t 74) (.t 75)),
  oV 77 (.fldR (.t 76) 1 1),
  oV 78 (.ldR (.t 77) 1 false),
  oV 79 (.mv (.t 8)),
  oV 80 (.idxA 6 (.t 78) (.t 79)),
  oV 81 (.ldR (.t 80) 6 true),
  ⟨none,.alloc 9 1 100 [.v (.int .i64 0),.v (mkS []),.v (mkS []),.v (.int .i64 0),.v (.int .i64 0),.nl 2]⟩,
  ⟨none,.sto (.t 9) 1 100 0 6 (.t 81)⟩] false [.frz 1 100 6,.forget [73,74,75,76,77,78,79,80,81]]
abbrev zQv:HCode:=oR [oV 83 (.fldR (.t 9) 0 1),
  oV 84 (.ldR (.t 83) 1 false),
  oC 85 zFk [(.t 84,.v)],
  oV 82 (.mv (.t 85)),
  oV 86 (.ext 82 0),
  oV 87 (.ext 82 1),
  oV 88 (.ext 82 2),
  oV 89 (.ext 82 3),
  oV 10 (.mv (.t 86)),
  oV 11 (.mv (.t 87)),
  oV 12 (.mv (.t 88)),
  oV 13 (.mv (.t 89))] [10,11,12,82,83,84,85,86,87,88,89]
abbrev zQw:HCode:=oR [oV 90 (.mv (.t 13)),
  oV 91 (.mv (.t 90)),
  oG 91 true 92 (.fldR (.t 9) 5 1),
  oG 91 true 93 (.ldR (.t 92) 1 false),
  oG 91 true 94 (.mv (.t 1)),
  oG 91 true 95 (.ints .add (.t 94) (.c (iv 1))),
  ⟨some (91,true),.call (some 96) zDO [(.t 93,.v),(.t 95,.v)]⟩,
  oV 97 (.pick (.t 91) (.t 96) (.c (bv false)))] [90,91,92,93,94,95,96]
abbrev zQx:HCode:=oN [oV 4 (.mv (.c (bv true)))]
abbrev zQy:HCode:=oR [oV 71 (.mv (.t 8)),
  oV 72 (.ints .add (.t 71) (.c (iv 1))),
  oV 8 (.mv (.t 72))] [71,72]
abbrev zQz:HCode:=oR [oV 52 (.mv (.t 7)),
  oV 53 (.ints .add (.t 52) (.c (iv 1))),
  oV 7 (.mv (.t 53))] [52,53]
abbrev zQA:HCode:=oR [oV 26 (.mv (.t 5)),
  oV 27 (.ints .add (.t 26) (.c (iv 1))),
  oV 5 (.mv (.t 27))] [26,27]
abbrev zQB:HCode:=oN [oV 4 (.mv (.c (bv false)))]
abbrev yAx:HCode:=(.seq zST (.seq (.seq zSU (.cond (.t 21) (.seq zSV .ret) .skip)) (.seq (.seq zSW (.block 0 (.loop (.seq (.seq zSX (.cond (.t 25) .skip (.exit 0))) (.seq (.block 1 (.seq zSY (.seq (.seq zSZ (.cond (.t 46) (.seq zS0 .ret) .skip)) (.seq zS1 (.block 2 (.loop (.seq (.seq zS2 (.cond (.t 51) .skip (.exit 2))) (.seq (.block 3 (.seq (.seq zQq (.cond (.t 61) (.seq zQr .ret) .skip)) (.seq zQs (.block 4 (.loop (.seq (.seq zQt (.cond (.t 70) .skip (.exit 4))) (.seq (.block 5 (.seq zQu (.seq zQv (.seq zQw (.cond (.t 97) (.seq zQx .ret) .skip))))) zQy))))))) zQz)))))))) zQA))))) (.seq zQB .ret))))
abbrev zJq:Env:={ N:=98,Γ:=[(98,2),(100,6)],L:=106,nfix:=0 }
abbrev ref_tooMany_R:List RSrc:=[.tmp 4]
theorem zS3:zCu Tryz.prog zDO yAx zJq ref_tooMany_R:=by kernel_rfl
abbrev zS4:HCode:=oN [oV 2 (.mv (.c (bv false)))]
abbrev zS5:HCode:=oN [oV 3 (.mv (.c (iv 0)))]
abbrev zS6:HCode:=oR [oV 12 (.mv (.t 3)),
  oV 13 (.mv (.t 0)),
  oV 14 (.len false (.t 13)),
  oV 15 (.ints .lss (.t 12) (.t 14))] [12,13,14]
abbrev zS7:HCode:=oN [oV 4 (.mv (.c (iv 0)))]
abbrev zS8:HCode:=oR [oV 18 (.mv (.t 4)),
  oV 19 (.mv (.t 0)),
  oV 20 (.mv (.t 3)),
  oV 21 (.idxA 2 (.t 19) (.t 20)),
  oV 22 (.fldR (.t 21) 1 1),
  oV 23 (.ldR (.t 22) 1 false),
  oV 24 (.len false (.t 23)),
  oV 25 (.ints .lss (.t 18) (.t 24))] [18,19,20,21,22,23,24]
abbrev zS9:HCode:=oR [oV 28 (.mv (.t 0)),
  oV 29 (.mv (.t 3)),
  oV 30 (.idxA 2 (.t 28) (.t 29)),
  oV 31 (.fldR (.t 30) 1 1),
  oV 32 (.ldR (.t 31) 1 false),
  oV 33 (.mv (.t 4)),
  oV 34 (.idxA 1 (.t 32) (.t 33)),
  oV 35 (.ldR (.t 34) 1 false),
  oC 36 zAW [(.t 35,.v),(.c (iv 1),.v),(.c (iv 4),.v)],
  oV 37 (.not (.t 36))] [28,29,30,31,32,33,34,35,36]
abbrev zTa:HCode:=oN [oV 2 (.mv (.c (bv true)))]
abbrev zTb:HCode:=oR [oV 26 (.mv (.t 4)),
  oV 27 (.ints .add (.t 26) (.c (iv 1))),
  oV 4 (.mv (.t 27))] [26,27]
abbrev zTc:HCode:=oN [oV 5 (.mv (.c (iv 0)))]
abbrev zTd:HCode:=oR [oV 38 (.mv (.t 5)),
  oV 39 (.mv (.t 0)),
  oV 40 (.mv (.t 3)),
  oV 41 (.idxA 2 (.t 39) (.t 40)),
  oV 42 (.fldR (.t 41) 0 1),
  oV 43 (.ldR (.t 42) 1 false),
  oV 44 (.len false (.t 43)),
  oV 45 (.ints .lss (.t 38) (.t 44))] [38,39,40,41,42,43,44]
abbrev zQC:HCode:=oN [oV 6 (.mv (.c (iv 0)))]
abbrev zQD:HCode:=oR [oV 48 (.mv (.t 6)),
  oV 49 (.mv (.t 0)),
  oV 50 (.mv (.t 3)),
  oV 51 (.idxA 2 (.t 49) (.t 50)),
  oV 52 (.fldR (.t 51) 0 1),
  oV 53 (.ldR (.t 52) 1 false),
  oV 54 (.mv (.t 5)),
  oV 55 (.idxA 2 (.t 53) (.t 54)),
  oV 56 (.fldR (.t 55) 1 1),
  oV 57 (.ldR (.t 56) 1 false),
  oV 58 (.len false (.t 57)),
  oV 59 (.ints .lss (.t 48) (.t 58))] [48,49,50,51,52,53,54,55,56,57,58]
abbrev zQE:HCode:=.reg [oV 62 (.mv (.t 0)),
  oV 63 (.mv (.t 3)),
  oV 64 (.idxA 2 (.t 62) (.t 63)),
  oV 65 (.fldR (.t 64) 0 1),
  oV 66 (.ldR (.t 65) 1 false),
  oV 67 (.mv (.t 5)),
  oV 68 (.idxA 2 (.t 66) (.t 67)),
  oV 69 (.fldR (.t 68) 1 1),
  oV 70 (.ldR (.t 69) 1 false),
  oV 71 (.mv (.t 6)),
  oV 72 (.idxA 6 (.t 70) (.t 71)),
  oV 73 (.ldR (.t 72) 6 true),
  ⟨none,.alloc 7 0 94 [.v (.int .i64 0),.v (mkS []),.v (mkS []),.v (.int .i64 0),.v (.int .i64 0),.nl 2]⟩,
  ⟨none,.sto (.t 7) 0 94 0 6 (.t 73)⟩] false [.frz 0 94 6,.forget [62,63,64,65,66,67,68,69,70,71,72,73]]
abbrev zQF:HCode:=oR [oV 75 (.fldR (.t 7) 0 1),
  oV 76 (.ldR (.t 75) 1 false),
  oC 77 zFk [(.t 76,.v)],
  oV 74 (.mv (.t 77)),
  oV 78 (.ext 74 0),
  oV 79 (.ext 74 1),
  oV 80 (.ext 74 2),
  oV 81 (.ext 74 3),
  oV 8 (.mv (.t 78)),
  oV 9 (.mv (.t 79)),
  oV 10 (.mv (.t 80)),
  oV 11 (.mv (.t 81))] [8,9,10,74,75,76,77,78,79,80,81]
abbrev zQG:HCode:=oR [oV 82 (.fldR (.t 7) 0 1),
  oV 83 (.ldR (.t 82) 1 false),
  oC 84 zAW [(.t 83,.v),(.c (iv 1),.v),(.c (iv 15),.v)],
  oV 85 (.not (.t 84)),
  oV 86 (.mv (.t 85)),
  oG 86 false 87 (.mv (.t 11)),
  oG 86 false 88 (.mv (.t 87)),
  oG 88 true 89 (.fldR (.t 7) 5 1),
  oG 88 true 90 (.ldR (.t 89) 1 false),
  ⟨some (88,true),.call (some 91) zDN [(.t 90,.v)]⟩,
  oG 86 false 92 (.pick (.t 88) (.t 91) (.c (bv false))),
  oV 93 (.pick (.t 86) (.c (bv true)) (.t 92))] [82,83,84,85,86,87,88,89,90,91,92]
abbrev zQH:HCode:=oN [oV 2 (.mv (.c (bv true)))]
abbrev zQI:HCode:=oR [oV 60 (.mv (.t 6)),
  oV 61 (.ints .add (.t 60) (.c (iv 1))),
  oV 6 (.mv (.t 61))] [60,61]
abbrev zQJ:HCode:=oR [oV 46 (.mv (.t 5)),
  oV 47 (.ints .add (.t 46) (.c (iv 1))),
  oV 5 (.mv (.t 47))] [46,47]
abbrev zQK:HCode:=oR [oV 16 (.mv (.t 3)),
  oV 17 (.ints .add (.t 16) (.c (iv 1))),
  oV 3 (.mv (.t 17))] [16,17]
abbrev zQL:HCode:=oN [oV 2 (.mv (.c (bv false)))]
abbrev yAy:HCode:=(.seq zS4 (.seq (.seq zS5 (.block 0 (.loop (.seq (.seq zS6 (.cond (.t 15) .skip (.exit 0))) (.seq (.block 1 (.seq (.seq zS7 (.block 2 (.loop (.seq (.seq zS8 (.cond (.t 25) .skip (.exit 2))) (.seq (.block 3 (.seq zS9 (.cond (.t 37) (.seq zTa .ret) .skip))) zTb))))) (.seq zTc (.block 4 (.loop (.seq (.seq zTd (.cond (.t 45) .skip (.exit 4))) (.seq (.block 5 (.seq zQC (.block 6 (.loop (.seq (.seq zQD (.cond (.t 59) .skip (.exit 6))) (.seq (.block 7 (.seq zQE (.seq zQF (.seq zQG (.cond (.t 93) (.seq zQH .ret) .skip))))) zQI)))))) zQJ))))))) zQK))))) (.seq zQL .ret)))
abbrev zJr:Env:={ N:=94,Γ:=[(94,6)],L:=100,nfix:=0 }
abbrev ref_badKind_R:List RSrc:=[.tmp 2]
theorem zTe:zCu Tryz.prog zDN yAy zJr ref_badKind_R:=by kernel_rfl
abbrev zTf:HCode:=oN [oV 2 (.mv (.c (bv false)))]
abbrev zTg:HCode:=oN [oV 3 (.mv (.c (iv 0)))]
abbrev zTh:HCode:=oR [oV 12 (.mv (.t 3)),
  oV 13 (.mv (.t 0)),
  oV 14 (.len false (.t 13)),
  oV 15 (.ints .lss (.t 12) (.t 14))] [12,13,14]
abbrev zTi:HCode:=oN [oV 4 (.mv (.c (iv 0)))]
abbrev zTj:HCode:=oR [oV 18 (.mv (.t 4)),
  oV 19 (.mv (.t 0)),
  oV 20 (.mv (.t 3)),
  oV 21 (.idxA 2 (.t 19) (.t 20)),
  oV 22 (.fldR (.t 21) 0 1),
  oV 23 (.ldR (.t 22) 1 false),
  oV 24 (.len false (.t 23)),
  oV 25 (.ints .lss (.t 18) (.t 24))] [18,19,20,21,22,23,24]
abbrev zTk:HCode:=.reg [oV 28 (.mv (.t 0)),
  oV 29 (.mv (.t 3)),
  oV 30 (.idxA 2 (.t 28) (.t 29)),
  oV 31 (.fldR (.t 30) 0 1),
  oV 32 (.ldR (.t 31) 1 false),
  oV 33 (.mv (.t 4)),
  oV 34 (.idxA 2 (.t 32) (.t 33)),
  oV 35 (.ldR (.t 34) 2 true),
  ⟨none,.alloc 5 0 127 [.v (mkS []),.nl 6]⟩,
  ⟨none,.sto (.t 5) 0 127 0 2 (.t 35)⟩] false [.frz 0 127 2,.forget [28,29,30,31,32,33,34,35]]
abbrev zTl:HCode:=oR [oV 36 (.fldR (.t 5) 0 1),
  oV 37 (.ldR (.t 36) 1 false),
  oV 38 (.strs .neq (.t 37) (.c (sv []))),
  oV 39 (.mv (.t 38)),
  oG 39 true 40 (.fldR (.t 5) 0 1),
  oG 39 true 41 (.ldR (.t 40) 1 false),
  ⟨some (39,true),.call (some 42) zD9 [(.t 41,.v)]⟩,
  oG 39 true 43 (.not (.t 42)),
  oV 44 (.pick (.t 39) (.t 43) (.c (bv false)))] [36,37,38,39,40,41,42,43]
abbrev zTm:HCode:=oN [oV 2 (.mv (.c (bv true)))]
abbrev zTn:HCode:=oN [oV 6 (.mv (.c (iv 0)))]
abbrev zTo:HCode:=oR [oV 45 (.mv (.t 6)),
  oV 46 (.fldR (.t 5) 1 1),
  oV 47 (.ldR (.t 46) 1 false),
  oV 48 (.len false (.t 47)),
  oV 49 (.ints .lss (.t 45) (.t 48))] [45,46,47,48]
abbrev zQM:HCode:=.reg [oV 52 (.fldR (.t 5) 1 1),
  oV 53 (.ldR (.t 52) 1 false),
  oV 54 (.mv (.t 6)),
  oV 55 (.idxA 6 (.t 53) (.t 54)),
  oV 56 (.ldR (.t 55) 6 true),
  ⟨none,.alloc 7 1 129 [.v (.int .i64 0),.v (mkS []),.v (mkS []),.v (.int .i64 0),.v (.int .i64 0),.nl 2]⟩,
  ⟨none,.sto (.t 7) 1 129 0 6 (.t 56)⟩] false [.frz 1 129 6,.forget [52,53,54,55,56]]
abbrev zQN:HCode:=oR [oV 58 (.fldR (.t 7) 0 1),
  oV 59 (.ldR (.t 58) 1 false),
  oC 60 zFk [(.t 59,.v)],
  oV 57 (.mv (.t 60)),
  oV 61 (.ext 57 0),
  oV 62 (.ext 57 1),
  oV 63 (.ext 57 2),
  oV 64 (.ext 57 3),
  oV 8 (.mv (.t 61)),
  oV 9 (.mv (.t 62)),
  oV 10 (.mv (.t 63)),
  oV 11 (.mv (.t 64))] [57,58,59,60,61,62,63,64]
abbrev zQO:HCode:=oR [oV 65 (.mv (.t 8)),
  oV 66 (.mv (.t 65)),
  oG 66 true 67 (.fldR (.t 7) 1 1),
  oG 66 true 68 (.ldR (.t 67) 1 false),
  ⟨some (66,true),.call (some 69) zD9 [(.t 68,.v)]⟩,
  oG 66 true 70 (.not (.t 69)),
  oV 71 (.pick (.t 66) (.t 70) (.c (bv false))),
  oV 72 (.mv (.t 71)),
  oG 72 false 73 (.mv (.t 8)),
  oG 72 false 74 (.not (.t 73)),
  oG 72 false 75 (.mv (.t 74)),
  oG 75 true 76 (.fldR (.t 7) 1 1),
  oG 75 true 77 (.ldR (.t 76) 1 false),
  oG 75 true 78 (.strs .neq (.t 77) (.c (sv []))),
  oG 72 false 79 (.pick (.t 75) (.t 78) (.c (bv false))),
  oV 80 (.pick (.t 72) (.c (bv true)) (.t 79)),
  oV 81 (.mv (.t 80)),
  oG 81 false 82 (.mv (.t 9)),
  oG 81 false 83 (.mv (.t 82)),
  oG 83 true 84 (.fldR (.t 7) 2 1),
  oG 83 true 85 (.ldR (.t 84) 1 false),
  ⟨some (83,true),.call (some 86) zE2 [(.t 85,.v)]⟩,
  oG 83 true 87 (.not (.t 86)),
  oG 81 false 88 (.pick (.t 83) (.t 87) (.c (bv false))),
  oV 89 (.pick (.t 81) (.c (bv true)) (.t 88)),
  oV 90 (.mv (.t 89)),
  oG 90 false 91 (.mv (.t 9)),
  oG 90 false 92 (.not (.t 91)),
  oG 90 false 93 (.mv (.t 92)),
  oG 93 true 94 (.fldR (.t 7) 2 1),
  oG 93 true 95 (.ldR (.t 94) 1 false),
  oG 93 true 96 (.strs .neq (.t 95) (.c (sv []))),
  oG 90 false 97 (.pick (.t 93) (.t 96) (.c (bv false))),
  oV 98 (.pick (.t 90) (.c (bv true)) (.t 97)),
  oV 99 (.mv (.t 98)),
  oG 99 false 100 (.mv (.t 10)),
  oG 99 false 101 (.not (.t 100)),
  oG 99 false 102 (.mv (.t 101)),
  oG 102 true 103 (.fldR (.t 7) 3 2),
  oG 102 true 104 (.ldR (.t 103) 2 true),
  oG 102 true 105 (.bld [.v (.int .i64 0),.v (.int .i64 0)] []),
  oG 102 true 106 (.steq true [0,0] (.t 104) (.t 105)),
  oG 99 false 107 (.pick (.t 102) (.t 106) (.c (bv false))),
  oV 108 (.pick (.t 99) (.c (bv true)) (.t 107)),
  oV 109 (.mv (.t 108)),
  oG 109 false 110 (.mv (.t 11)),
  oG 109 false 111 (.not (.t 110)),
  oG 109 false 112 (.mv (.t 111)),
  oG 112 true 113 (.fldR (.t 7) 5 1),
  oG 112 true 114 (.ldR (.t 113) 1 false),
  oG 112 true 115 (.len false (.t 114)),
  oG 112 true 116 (.ints .gtr (.t 115) (.c (iv 0))),
  oG 109 false 117 (.pick (.t 112) (.t 116) (.c (bv false))),
  oV 118 (.pick (.t 109) (.c (bv true)) (.t 117)),
  oV 119 (.mv (.t 118)),
  oG 119 false 120 (.mv (.t 11)),
  oG 119 false 121 (.mv (.t 120)),
  oG 121 true 122 (.fldR (.t 7) 5 1),
  oG 121 true 123 (.ldR (.t 122) 1 false),
  ⟨some (121,true),.call (some 124) zDM [(.t 123,.v)]⟩,
  oG 119 false 125 (.pick (.t 121) (.t 124) (.c (bv false))),
  oV 126 (.pick (.t 119) (.c (bv true)) (.t 125))] [65,66,67,68,69,70,71,72,73,74,75,76,77,78,79,80,81,82,83,84,85,86,87,88,89,90,91,92,93,94,95,96,97,98,99,100,101,102,103,104,105,106,107,108,109,110,111,112,113,114,115,116,117,118,119,120,121,122,123,124,125]
abbrev zQP:HCode:=oN [oV 2 (.mv (.c (bv true)))]
abbrev zQQ:HCode:=oR [oV 50 (.mv (.t 6)),
  oV 51 (.ints .add (.t 50) (.c (iv 1))),
  oV 6 (.mv (.t 51))] [50,51]
abbrev zQR:HCode:=oR [oV 26 (.mv (.t 4)),
  oV 27 (.ints .add (.t 26) (.c (iv 1))),
  oV 4 (.mv (.t 27))] [26,27]
abbrev zQS:HCode:=oR [oV 16 (.mv (.t 3)),
  oV 17 (.ints .add (.t 16) (.c (iv 1))),
  oV 3 (.mv (.t 17))] [16,17]
abbrev zQT:HCode:=oN [oV 2 (.mv (.c (bv false)))]
abbrev yAz:HCode:=(.seq zTf (.seq (.seq zTg (.block 0 (.loop (.seq (.seq zTh (.cond (.t 15) .skip (.exit 0))) (.seq (.block 1 (.seq zTi (.block 2 (.loop (.seq (.seq zTj (.cond (.t 25) .skip (.exit 2))) (.seq (.block 3 (.seq zTk (.seq (.seq zTl (.cond (.t 44) (.seq zTm .ret) .skip)) (.seq zTn (.block 4 (.loop (.seq (.seq zTo (.cond (.t 49) .skip (.exit 4))) (.seq (.block 5 (.seq zQM (.seq zQN (.seq zQO (.cond (.t 126) (.seq zQP .ret) .skip))))) zQQ)))))))) zQR)))))) zQS))))) (.seq zQT .ret)))
abbrev zJs:Env:={ N:=127,Γ:=[(127,2),(129,6)],L:=135,nfix:=0 }
abbrev ref_badForm_R:List RSrc:=[.tmp 2]
theorem zTp:zCu Tryz.prog zDM yAz zJs ref_badForm_R:=by kernel_rfl
abbrev zVN:HCode:=oN [oV 2 (.mv (.c (bv false)))]
abbrev zVO:HCode:=oN [oV 3 (.mv (.c (iv 0)))]
abbrev zVP:HCode:=oR [oV 7 (.mv (.t 3)),
  oV 8 (.mv (.t 0)),
  oV 9 (.len false (.t 8)),
  oV 10 (.ints .lss (.t 7) (.t 9))] [7,8,9]
abbrev zVQ:HCode:=oN [oV 4 (.mv (.c (iv 0)))]
abbrev zVR:HCode:=oR [oV 13 (.mv (.t 4)),
  oV 14 (.mv (.t 0)),
  oV 15 (.mv (.t 3)),
  oV 16 (.idxA 2 (.t 14) (.t 15)),
  oV 17 (.fldR (.t 16) 0 1),
  oV 18 (.ldR (.t 17) 1 false),
  oV 19 (.len false (.t 18)),
  oV 20 (.ints .lss (.t 13) (.t 19))] [13,14,15,16,17,18,19]
abbrev zVS:HCode:=oN [oV 5 (.mv (.c (iv 0)))]
abbrev zVT:HCode:=oR [oV 23 (.mv (.t 5)),
  oV 24 (.mv (.t 0)),
  oV 25 (.mv (.t 3)),
  oV 26 (.idxA 2 (.t 24) (.t 25)),
  oV 27 (.fldR (.t 26) 0 1),
  oV 28 (.ldR (.t 27) 1 false),
  oV 29 (.mv (.t 4)),
  oV 30 (.idxA 2 (.t 28) (.t 29)),
  oV 31 (.fldR (.t 30) 1 1),
  oV 32 (.ldR (.t 31) 1 false),
  oV 33 (.len false (.t 32)),
  oV 34 (.ints .lss (.t 23) (.t 33))] [23,24,25,26,27,28,29,30,31,32,33]
abbrev zVU:HCode:=.reg [oV 37 (.mv (.t 0)),
  oV 38 (.mv (.t 3)),
  oV 39 (.idxA 2 (.t 37) (.t 38)),
  oV 40 (.fldR (.t 39) 0 1),
  oV 41 (.ldR (.t 40) 1 false),
  oV 42 (.mv (.t 4)),
  oV 43 (.idxA 2 (.t 41) (.t 42)),
  oV 44 (.fldR (.t 43) 1 1),
  oV 45 (.ldR (.t 44) 1 false),
  oV 46 (.mv (.t 5)),
  oV 47 (.idxA 6 (.t 45) (.t 46)),
  oV 48 (.ldR (.t 47) 6 true),
  ⟨none,.alloc 6 0 58 [.v (.int .i64 0),.v (mkS []),.v (mkS []),.v (.int .i64 0),.v (.int .i64 0),.nl 2]⟩,
  ⟨none,.sto (.t 6) 0 58 0 6 (.t 48)⟩] false [.frz 0 58 6,.forget [37,38,39,40,41,42,43,44,45,46,47,48]]
abbrev zVV:HCode:=oR [oV 49 (.fldR (.t 6) 3 2),
  oV 50 (.ldR (.t 49) 2 true),
  oC 51 zEm [(.t 50,.v)],
  oV 52 (.ints .neq (.t 51) (.c (iv 0))),
  oV 53 (.mv (.t 52)),
  oG 53 false 54 (.fldR (.t 6) 5 1),
  oG 53 false 55 (.ldR (.t 54) 1 false),
  ⟨some (53,false),.call (some 56) zEa [(.t 55,.v)]⟩,
  oV 57 (.pick (.t 53) (.c (bv true)) (.t 56))] [49,50,51,52,53,54,55,56]
abbrev zVW:HCode:=oN [oV 2 (.mv (.c (bv true)))]
abbrev zTq:HCode:=oR [oV 35 (.mv (.t 5)),
  oV 36 (.ints .add (.t 35) (.c (iv 1))),
  oV 5 (.mv (.t 36))] [35,36]
abbrev zTr:HCode:=oR [oV 21 (.mv (.t 4)),
  oV 22 (.ints .add (.t 21) (.c (iv 1))),
  oV 4 (.mv (.t 22))] [21,22]
abbrev zTs:HCode:=oR [oV 11 (.mv (.t 3)),
  oV 12 (.ints .add (.t 11) (.c (iv 1))),
  oV 3 (.mv (.t 12))] [11,12]
abbrev zTt:HCode:=oN [oV 2 (.mv (.c (bv false)))]
abbrev yCF:HCode:=(.seq zVN (.seq (.seq zVO (.block 0 (.loop (.seq (.seq zVP (.cond (.t 10) .skip (.exit 0))) (.seq (.block 1 (.seq zVQ (.block 2 (.loop (.seq (.seq zVR (.cond (.t 20) .skip (.exit 2))) (.seq (.block 3 (.seq zVS (.block 4 (.loop (.seq (.seq zVT (.cond (.t 34) .skip (.exit 4))) (.seq (.block 5 (.seq zVU (.seq zVV (.cond (.t 57) (.seq zVW .ret) .skip)))) zTq)))))) zTr)))))) zTs))))) (.seq zTt .ret)))
abbrev zMk:Env:={ N:=58,Γ:=[(58,6)],L:=64,nfix:=0 }
abbrev ref_badNth_R:List RSrc:=[.tmp 2]
theorem zVX:zCu Tryz.prog zEa yCF zMk ref_badNth_R:=by kernel_rfl
abbrev zMA:HCode:=oN [oV 2 (.mv (.c (iv 0)))]
abbrev zMB:HCode:=oR [oV 4 (.mv (.t 0)),
  oC 5 zDO [(.t 4,.v),(.c (iv 1),.v)],
  oV 3 (.mv (.t 5))] [4,5]
abbrev zMC:HCode:=oN [oV 2 (.mv (.c (iv 2)))]
abbrev zMD:HCode:=oR [oV 7 (.mv (.t 0)),
  oC 8 zDN [(.t 7,.v)],
  oV 6 (.mv (.t 8))] [7,8]
abbrev zME:HCode:=oN [oV 2 (.mv (.c (iv 4)))]
abbrev zMF:HCode:=oR [oV 10 (.mv (.t 0)),
  oC 11 zDM [(.t 10,.v)],
  oV 9 (.mv (.t 11))] [10,11]
abbrev zMG:HCode:=oN [oV 2 (.mv (.c (iv 1)))]
abbrev zMH:HCode:=oR [oV 13 (.mv (.t 0)),
  oC 14 zEa [(.t 13,.v)],
  oV 12 (.mv (.t 14))] [13,14]
abbrev zMI:HCode:=oN [oV 2 (.mv (.c (iv 3)))]
abbrev zMJ:HCode:=oN [oV 2 (.mv (.c (iv 0)))]
abbrev zVY:HCode:=(.seq zMA (.seq (.block 0 (.seq zMB (.cond (.t 3) (.seq zMC .ret) (.seq zMD (.cond (.t 6) (.seq zME .ret) (.seq zMF (.cond (.t 9) (.seq zMG .ret) (.seq zMH (.cond (.t 12) (.seq zMI .ret) .skip))))))))) (.seq zMJ .ret)))
abbrev zGx:Env:={ N:=15,Γ:=[],L:=15,nfix:=0 }
abbrev ref_CheckList_R:List RSrc:=[.tmp 2]
theorem zMK:zCu Tryz.prog zC0 zVY zGx ref_CheckList_R:=by kernel_rfl
end Go.Hx
end

section
/-
 The abstract code of functions of the program, printed by gen.py; each stands for the given one. No condition.
-/
namespace Go.Hx
open Go.Proofs
variable [Glob]
abbrev zDX:Nat:=155
abbrev zDq:Nat:=253
abbrev zES:Nat:=49
abbrev zEb:Nat:=154
abbrev zCw:Nat:=105
abbrev zDP:Nat:=208
abbrev zDY:Nat:=250
abbrev zA1:Nat:=160
abbrev zA5:Nat:=214
abbrev zBu:Nat:=108
abbrev zBv:Nat:=215
abbrev zBO:Nat:=159
abbrev zCh:Nat:=216
abbrev zCi:Nat:=252
abbrev zET:Nat:=209
abbrev zEU:Nat:=156
abbrev zDr:Nat:=210
abbrev zCU:Nat:=212
abbrev zAZ:Nat:=211
abbrev zCS:Nat:=217
abbrev zEv:Nat:=157
abbrev zC6:Nat:=249
abbrev zBj:Nat:=78
abbrev zC7:Nat:=81
abbrev zC8:Nat:=85
abbrev zB2:Nat:=155
abbrev zBa:Nat:=258
abbrev zFV:Nat:=5
abbrev zQU:HCode:=oN [oV 4 (.mv (.c (bv false)))]
abbrev zQV:HCode:=oR [oV 8 (.mv (.t 0)),
  oV 9 (.nilck (.t 8)),
  oV 10 (.fldP (.t 9) 0),
  oV 11 (.ldB (.t 10) 0 21 0 1 false),
  oV 12 (.mv (.t 1)),
  oC 13 zCS [(.t 11,.v),(.t 12,.v)],
  oV 7 (.mv (.t 13)),
  oV 14 (.ext 7 0),
  oV 15 (.ext 7 1),
  oV 5 (.mv (.t 14)),
  oV 6 (.mv (.t 15))] [7,8,9,10,11,12,13,14,15]
abbrev zQW:HCode:=oR [oV 16 (.mv (.t 0)),
  oV 17 (.mv (.t 5)),
  oV 18 (.nilck (.t 16)),
  oV 19 (.fldP (.t 18) 0),
  ⟨none,.sto (.t 19) 0 21 0 1 (.t 17)⟩] [16,17,18,19]
abbrev zQX:HCode:=oR [oV 20 (.mv (.t 6)),
  oV 4 (.mv (.t 20))] [20]
abbrev zYe:HCode:=(.seq zQU (.seq zQV (.seq zQW (.seq zQX .ret))))
abbrev zHt:Env:={ N:=21,Γ:=[(21,1)],L:=22,nfix:=1 }
abbrev path_pen_has_R:List RSrc:=[.tmp 4]
theorem zQY:zCu Tryz.prog zA1 zYe zHt path_pen_has_R:=by kernel_rfl
abbrev zML:HCode:=oR [oV 4 (.mv (.t 0)),
  oV 5 (.mv (.t 1)),
  oC 6 zA1 [(.t 4,.i 0 10 1),(.t 5,.v)],
  oV 7 (.not (.t 6))] [4,5,6]
abbrev zMM:HCode:=oR [oV 8 (.bld [] []),
  oV 9 (.mki zB2 (.t 8)),
  ⟨none,.pan (.t 9)⟩] [8,9]
abbrev zVZ:HCode:=(.seq zML (.cond (.t 7) zMM .skip))
abbrev zEw:Env:={ N:=10,Γ:=[(10,1)],L:=11,nfix:=1 }
abbrev path_pen_must_R:List RSrc:=[]
theorem zGc:zCu Tryz.prog zBv zVZ zEw path_pen_must_R:=by kernel_rfl
abbrev zMN:HCode:=oN [oV 4 (.mv (.c (sv [])))]
abbrev zMO:HCode:=oR [oV 9 (.mv (.t 0)),
  oV 10 (.nilck (.t 9)),
  oV 11 (.fldP (.t 10) 0),
  oV 12 (.ldB (.t 11) 0 27 0 1 false),
  oV 13 (.mv (.t 1)),
  oC 14 zCl [(.t 12,.v),(.t 13,.v)],
  oV 8 (.mv (.t 14)),
  oV 15 (.ext 8 0),
  oV 16 (.ext 8 1),
  oV 17 (.ext 8 2),
  oV 5 (.mv (.t 15)),
  oV 6 (.mv (.t 16)),
  oV 7 (.mv (.t 17))] [8,9,10,11,12,13,14,15,16,17]
abbrev zMP:HCode:=oR [oV 18 (.mv (.t 7)),
  oV 19 (.not (.t 18))] [18]
abbrev zMQ:HCode:=oR [oV 20 (.bld [] []),
  oV 21 (.mki zB2 (.t 20)),
  ⟨none,.pan (.t 21)⟩] [20,21]
abbrev zMR:HCode:=oR [oV 22 (.mv (.t 0)),
  oV 23 (.mv (.t 6)),
  oV 24 (.nilck (.t 22)),
  oV 25 (.fldP (.t 24) 0),
  ⟨none,.sto (.t 25) 0 27 0 1 (.t 23)⟩] [22,23,24,25]
abbrev zMS:HCode:=oR [oV 26 (.mv (.t 5)),
  oV 4 (.mv (.t 26))] [26]
abbrev zV0:HCode:=(.seq zMN (.seq zMO (.seq (.seq zMP (.cond (.t 19) zMQ .skip)) (.seq zMR (.seq zMS .ret)))))
abbrev zEx:Env:={ N:=27,Γ:=[(27,1)],L:=28,nfix:=1 }
abbrev path_pen_upTo_R:List RSrc:=[.tmp 4]
theorem zGd:zCu Tryz.prog zCi zV0 zEx path_pen_upTo_R:=by kernel_rfl
abbrev zHH:HCode:=oN [oV 2 (.mv (.c (sv [])))]
abbrev zHI:HCode:=oQ [oD 0 false (oV 5 (.mv (.t 0))),
  oD 1 false (oV 6 (.nilck (.t 5))),
  oD 2 false (oV 7 (.fldP (.t 6) 0)),
  oD 3 false (oV 8 (.ldB (.t 7) 0 33 0 1 false)),
  oD 4 false (oV 9 (.len true (.t 8))),
  oD 5 false (oV 10 (.mv (.t 0))),
  oD 6 false (oV 11 (.nilck (.t 10))),
  oD 7 false (oV 12 (.fldP (.t 11) 0)),
  oD 8 false (oV 13 (.ldB (.t 12) 0 33 0 1 false)),
  oD 9 true (oC 14 zC6 [(.t 13,.v),(.c (sv [97,98,99,100,101,102,103,104,105,106,107,108,109,110,111,112,113,114,115,116,117,118,119,120,121,122,48,49,50,51,52,53,54,55,56,57,45]),.v)]),
  oD 10 false (oV 15 (.len true (.t 14))),
  oD 11 false (oV 16 (.ints .sub (.t 9) (.t 15))),
  oD 12 false (oV 3 (.mv (.t 16)))] [5,6,7,8,9,10,11,12,13,14,15,16]
abbrev zHJ:HCode:=oR [oV 17 (.mv (.t 0)),
  oV 18 (.nilck (.t 17)),
  oV 19 (.fldP (.t 18) 0),
  oV 20 (.ldB (.t 19) 0 33 0 1 false),
  oV 21 (.mv (.t 3)),
  oV 22 (.sls (.t 20) none (some (.t 21))),
  oV 4 (.mv (.t 22))] [17,18,19,20,21,22]
abbrev zHK:HCode:=oR [oV 23 (.mv (.t 0)),
  oV 24 (.mv (.t 0)),
  oV 25 (.nilck (.t 24)),
  oV 26 (.fldP (.t 25) 0),
  oV 27 (.ldB (.t 26) 0 33 0 1 false),
  oV 28 (.mv (.t 3)),
  oV 29 (.sls (.t 27) (some (.t 28)) none),
  oV 30 (.nilck (.t 23)),
  oV 31 (.fldP (.t 30) 0),
  ⟨none,.sto (.t 31) 0 33 0 1 (.t 29)⟩] [23,24,25,26,27,28,29,30,31]
abbrev zHL:HCode:=oR [oV 32 (.mv (.t 4)),
  oV 2 (.mv (.t 32))] [32]
abbrev zMT:HCode:=(.seq zHH (.seq zHI (.seq zHJ (.seq zHK (.seq zHL .ret)))))
abbrev zEV:Env:={ N:=33,Γ:=[(33,1)],L:=34,nfix:=1 }
abbrev path_pen_letters_R:List RSrc:=[.tmp 2]
theorem zHM:zCu Tryz.prog zA5 zMT zEV path_pen_letters_R:=by kernel_rfl
abbrev zYf:HCode:=oN [oV 2 (.mv (.c (sv [])))]
abbrev zYg:HCode:=oR [oV 3 (.bld [.v (mkS []),.v (mkS []),.v (mkS []),.v (mkS []),.v (mkS [])] [(0,1,.c (sv [61])),(1,1,.c (sv [94,61])),(2,1,.c (sv [36,61])),(3,1,.c (sv [42,61])),(4,1,.c (sv [126,61]))]),
  oV 4 (.mv (.t 0)),
  oV 5 (.ints .sub (.t 4) (.c (iv 4))),
  oV 6 (.idxV 5 (.t 3) (.t 5)),
  oV 2 (.mv (.t 6))] [3,4,5,6]
abbrev yDQ:HCode:=(.seq zYf (.seq zYg .ret))
abbrev zQZ:Env:={ N:=7,Γ:=[],L:=7,nfix:=0 }
abbrev path_sign_R:List RSrc:=[.tmp 2]
theorem zYh:zCu Tryz.prog zET yDQ zQZ path_sign_R:=by kernel_rfl
abbrev zV1:HCode:=oN [⟨none,.alloc 0 0 2 [.v (mkS []),.v (mkS []),.v (mkS []),.v (mkS []),.v (mkS [])]⟩]
abbrev zV2:HCode:=oR [oV 1 (.bld [.v (mkS []),.v (mkS []),.v (mkS []),.v (mkS []),.v (mkS [])] [(0,1,.c (sv [])),(1,1,.c (sv [32])),(2,1,.c (sv [32,62,32])),(3,1,.c (sv [32,43,32])),(4,1,.c (sv [32,126,32]))]),
  ⟨none,.sto (.t 0) 0 2 0 5 (.t 1)⟩] [1]
abbrev yCG:HCode:=(.seq zV1 (.seq zV2 .ret))
abbrev zMl:Env:={ N:=2,Γ:=[(2,5)],L:=7,nfix:=0 }
abbrev path_links_R:List RSrc:=[.cellB 0 0 2 0 5 true]
theorem zV3:zCu Tryz.prog zEb yCG zMl path_links_R:=by kernel_rfl
abbrev zTu:HCode:=oN [oV 2 (.mv (.c (sv [])))]
abbrev zTv:HCode:=oN [oV 3 (.mv (.t 0))]
abbrev zTw:HCode:=oR [oV 5 (.ints .eql (.t 3) (.c (iv 9))),
  oV 4 (.mv (.t 5))] [5]
abbrev zTx:HCode:=oN [oV 2 (.mv (.c (sv [58,110,116,104,40])))]
abbrev zTy:HCode:=oR [oV 7 (.ints .eql (.t 3) (.c (iv 10))),
  oV 6 (.mv (.t 7))] [7]
abbrev zTz:HCode:=oN [oV 2 (.mv (.c (sv [58,108,97,115,116,40])))]
abbrev zTA:HCode:=oR [oV 9 (.ints .eql (.t 3) (.c (iv 13))),
  oV 8 (.mv (.t 9))] [9]
abbrev zTB:HCode:=oN [oV 2 (.mv (.c (sv [58,110,111,116,40])))]
abbrev zTC:HCode:=oR [oV 11 (.ints .eql (.t 3) (.c (iv 14))),
  oV 10 (.mv (.t 11))] [11]
abbrev zTD:HCode:=oN [oV 2 (.mv (.c (sv [58,105,115,40])))]
abbrev zQ0:HCode:=oN [oV 2 (.mv (.c (sv [58,104,97,115,40])))]
abbrev yAA:HCode:=(.seq zTu (.seq (.seq zTv (.block 0 (.seq zTw (.cond (.t 4) (.seq zTx .ret) (.seq zTy (.cond (.t 6) (.seq zTz .ret) (.seq zTA (.cond (.t 8) (.seq zTB .ret) (.seq zTC (.cond (.t 10) (.seq zTD .ret) .skip)))))))))) (.seq zQ0 .ret)))
abbrev zCJ:Env:={ N:=12,Γ:=[],L:=12,nfix:=0 }
abbrev path_opened_R:List RSrc:=[.tmp 2]
theorem zCV:zCu Tryz.prog zDP yAA zCJ path_opened_R:=by kernel_rfl
abbrev zMU:HCode:=oN [⟨none,.alloc 2 1 26 [.v (.int .i64 0),.v (mkS []),.v (mkS []),.v (.int .i64 0),.v (.int .i64 0),.nl 2]⟩]
abbrev zMV:HCode:=oR [oV 5 (.mv (.t 0)),
  oC 6 zA5 [(.t 5,.i 0 25 1)],
  oV 7 (.bld [.v (.int .i64 0),.v (mkS []),.v (mkS []),.v (.int .i64 0),.v (.int .i64 0),.nl 2] [(0,1,.c (iv 3)),(1,1,.t 6)]),
  ⟨none,.alloc 3 2 32 [.v (.int .i64 0),.v (mkS []),.v (mkS []),.v (.int .i64 0),.v (.int .i64 0),.nl 2]⟩,
  ⟨none,.sto (.t 3) 2 32 0 6 (.t 7)⟩] [5,6,7]
abbrev zMW:HCode:=oN [oV 4 (.mv (.c (iv 4)))]
abbrev zMX:HCode:=oR [oV 8 (.mv (.t 4)),
  oV 9 (.ints .leq (.t 8) (.c (iv 8)))] [8]
abbrev zMY:HCode:=oR [oV 12 (.mv (.t 0)),
  oV 13 (.mv (.t 4)),
  oC 14 zET [(.t 13,.v)],
  oV 15 (.strs .add (.t 14) (.c (sv [34]))),
  oC 16 zA1 [(.t 12,.i 0 25 1),(.t 15,.v)]] [12,13,14,15]
abbrev zMZ:HCode:=oR [oV 17 (.mv (.t 4)),
  oV 18 (.mv (.t 0)),
  oC 19 zCi [(.t 18,.i 0 25 1),(.c (sv [34]),.v)],
  oV 20 (.fldP (.t 3) 0),
  ⟨none,.sto (.t 20) 2 32 0 1 (.t 17)⟩,
  oV 21 (.fldP (.t 3) 2),
  ⟨none,.sto (.t 21) 2 32 2 1 (.t 19)⟩] [17,18,19,20,21]
abbrev zM0:HCode:=oR [oV 10 (.mv (.t 4)),
  oV 11 (.ints .add (.t 10) (.c (iv 1))),
  oV 4 (.mv (.t 11))] [10,11]
abbrev zM1:HCode:=oR [oV 22 (.mv (.t 0)),
  oC 23 zBv [(.t 22,.i 0 25 1),(.c (sv [93]),.v)]] [22,23]
abbrev zM2:HCode:=oR [oV 24 (.ldB (.t 3) 2 32 0 6 true),
  ⟨none,.sto (.t 2) 1 26 0 6 (.t 24)⟩] [24]
abbrev zV4:HCode:=(.seq zMU (.seq zMV (.seq (.seq zMW (.block 0 (.loop (.seq (.seq zMX (.cond (.t 9) .skip (.exit 0))) (.seq (.block 1 (.seq zMY (.cond (.t 16) (.seq zMZ (.exit 0)) .skip))) zM0))))) (.seq zM1 (.seq zM2 .ret)))))
abbrev zGy:Env:={ N:=25,Γ:=[(25,1),(26,6),(32,6)],L:=38,nfix:=1 }
abbrev path_pen_attr_R:List RSrc:=[.cellB 2 1 26 0 6 true]
theorem zM3:zCu Tryz.prog zDY zV4 zGy path_pen_attr_R:=by kernel_rfl
abbrev zM4:HCode:=oN [⟨none,.alloc 4 1 88 [.v (.int .i64 0),.v (mkS []),.v (mkS []),.v (.int .i64 0),.v (.int .i64 0),.nl 2]⟩,
  oV 5 (.mv (.c (bv false)))]
abbrev zM5:HCode:=oR [oV 14 (.mv (.t 0)),
  oC 15 zA1 [(.t 14,.i 0 87 1),(.c (sv [46]),.v)],
  oV 13 (.mv (.t 15))] [14,15]
abbrev zM6:HCode:=oR [oV 16 (.mv (.t 0)),
  oC 17 zA5 [(.t 16,.i 0 87 1)],
  oV 18 (.bld [.v (.int .i64 0),.v (mkS []),.v (mkS []),.v (.int .i64 0),.v (.int .i64 0),.nl 2] [(0,1,.c (iv 1)),(1,1,.t 17)]),
  ⟨none,.sto (.t 4) 1 88 0 6 (.t 18)⟩,
  oV 5 (.mv (.c (bv true)))] [16,17,18]
abbrev zM7:HCode:=oR [oV 20 (.mv (.t 0)),
  oC 21 zA1 [(.t 20,.i 0 87 1),(.c (sv [35]),.v)],
  oV 19 (.mv (.t 21))] [20,21]
abbrev zM8:HCode:=oR [oV 22 (.mv (.t 0)),
  oC 23 zA5 [(.t 22,.i 0 87 1)],
  oV 24 (.bld [.v (.int .i64 0),.v (mkS []),.v (mkS []),.v (.int .i64 0),.v (.int .i64 0),.nl 2] [(0,1,.c (iv 2)),(1,1,.t 23)]),
  ⟨none,.sto (.t 4) 1 88 0 6 (.t 24)⟩,
  oV 5 (.mv (.c (bv true)))] [22,23,24]
abbrev zM9:HCode:=oR [oV 26 (.mv (.t 0)),
  oC 27 zA1 [(.t 26,.i 0 87 1),(.c (sv [91]),.v)],
  oV 25 (.mv (.t 27))] [26,27]
abbrev zNa:HCode:=oR [oV 28 (.mv (.t 0)),
  oC 29 zDY [(.t 28,.i 0 87 1)],
  ⟨none,.sto (.t 4) 1 88 0 6 (.t 29)⟩,
  oV 5 (.mv (.c (bv true)))] [28,29]
abbrev zNb:HCode:=oR [oV 31 (.mv (.t 0)),
  oC 32 zA1 [(.t 31,.i 0 87 1),(.c (sv [58]),.v)],
  oV 33 (.not (.t 32)),
  oV 30 (.mv (.t 33))] [31,32,33]
abbrev zNc:HCode:=oR [oV 34 (.bld [.v (.int .i64 0),.v (mkS []),.v (mkS []),.v (.int .i64 0),.v (.int .i64 0),.nl 2] []),
  ⟨none,.sto (.t 4) 1 88 0 6 (.t 34)⟩,
  oV 5 (.mv (.c (bv false)))] [34]
abbrev zNd:HCode:=oR [oV 35 (.mv (.t 0)),
  oC 36 zA5 [(.t 35,.i 0 87 1)],
  oV 6 (.mv (.t 36))] [35,36]
abbrev zLu:HCode:=oR [⟨none,.mmk 38⟩,
  ⟨none,.mps (.t 38) 38 2 (.c (sv [101,109,112,116,121])) (.c (iv 11))⟩,
  ⟨none,.mps (.t 38) 38 2 (.c (sv [114,111,111,116])) (.c (iv 12))⟩,
  oV 39 (.mv (.t 38)),
  oV 40 (.mv (.t 6)),
  ⟨none,.mpl 41 (.t 39) 38 2 (.t 40) (.v (.int .i64 0)) true⟩,
  oV 37 (.mv (.t 41)),
  oV 42 (.ext 37 0),
  oV 43 (.ext 37 1),
  oV 7 (.mv (.t 42)),
  oV 8 (.mv (.t 43))] [37,38,39,40,41,42,43]
abbrev zLv:HCode:=oN [oV 44 (.mv (.t 8))]
abbrev zLw:HCode:=oR [oV 45 (.mv (.t 7)),
  oV 46 (.bld [.v (.int .i64 0),.v (mkS []),.v (mkS []),.v (.int .i64 0),.v (.int .i64 0),.nl 2] [(0,1,.t 45)]),
  ⟨none,.sto (.t 4) 1 88 0 6 (.t 46)⟩,
  oV 5 (.mv (.c (bv true)))] [45,46]
abbrev zLx:HCode:=oR [oV 47 (.mv (.t 0)),
  oC 48 zBv [(.t 47,.i 0 87 1),(.c (sv [40]),.v)]] [47,48]
abbrev zLy:HCode:=oR [⟨none,.mmk 49⟩,
  ⟨none,.mps (.t 49) 49 2 (.c (sv [110,116,104])) (.c (iv 9))⟩,
  ⟨none,.mps (.t 49) 49 2 (.c (sv [108,97,115,116])) (.c (iv 10))⟩,
  ⟨none,.mps (.t 49) 49 2 (.c (sv [110,111,116])) (.c (iv 13))⟩,
  ⟨none,.mps (.t 49) 49 2 (.c (sv [105,115])) (.c (iv 14))⟩,
  ⟨none,.mps (.t 49) 49 2 (.c (sv [104,97,115])) (.c (iv 15))⟩,
  oV 50 (.mv (.t 49)),
  oV 51 (.mv (.t 6)),
  ⟨none,.mpl 52 (.t 50) 49 2 (.t 51) (.v (.int .i64 0)) false⟩,
  oV 53 (.bld [.v (.int .i64 0),.v (mkS []),.v (mkS []),.v (.int .i64 0),.v (.int .i64 0),.nl 2] [(0,1,.t 52)]),
  ⟨none,.alloc 9 2 94 [.v (.int .i64 0),.v (mkS []),.v (mkS []),.v (.int .i64 0),.v (.int .i64 0),.nl 2]⟩,
  ⟨none,.sto (.t 9) 2 94 0 6 (.t 53)⟩] [49,50,51,52,53]
abbrev zLz:HCode:=oR [oV 55 (.fldP (.t 9) 0),
  oV 56 (.ldB (.t 55) 2 94 0 1 false),
  oC 57 zG2 [(.t 56,.v)],
  oV 54 (.mv (.t 57)),
  oV 58 (.ext 54 0),
  oV 59 (.ext 54 1),
  ⟨none,.alloc 10 3 100 [.v (.bool false),.v (.bool false),.v (.bool false),.v (.bool false)]⟩,
  ⟨none,.sto (.t 10) 3 100 0 4 (.t 58)⟩,
  oV 11 (.mv (.t 59))] [54,55,56,57,58,59]
abbrev zLA:HCode:=oR [oV 72 (.mv (.t 11)),
  oV 73 (.not (.t 72)),
  oV 71 (.mv (.t 73))] [72,73]
abbrev zLB:HCode:=oR [oV 74 (.bld [] []),
  oV 75 (.mki zB2 (.t 74)),
  ⟨none,.pan (.t 75)⟩] [74,75]
abbrev zLC:HCode:=oR [oV 77 (.fldP (.t 10) 3),
  oV 78 (.ldB (.t 77) 3 100 3 1 false),
  oV 76 (.mv (.t 78))] [77,78]
abbrev zLD:HCode:=oR [oV 79 (.mv (.t 0)),
  oV 80 (.mv (.t 1)),
  oV 81 (.ints .add (.t 80) (.c (iv 1))),
  oC 82 zBu [(.t 79,.i 0 87 1),(.t 81,.v)],
  oV 83 (.fldP (.t 9) 5),
  ⟨none,.sto (.t 83) 2 94 5 1 (.t 82)⟩] [79,80,81,82,83]
abbrev zLE:HCode:=oR [oV 84 (.mv (.t 0)),
  oC 85 zBv [(.t 84,.i 0 87 1),(.c (sv [41]),.v)]] [84,85]
abbrev zLF:HCode:=oN [oV 12 (.mv (.c (iv 0)))]
abbrev zLG:HCode:=oR [oV 61 (.mv (.t 0)),
  oC 62 zCi [(.t 61,.i 0 87 1),(.c (sv [41]),.v)],
  oC 63 zHG [(.t 62,.v)],
  oV 60 (.mv (.t 63)),
  oV 64 (.ext 60 0),
  oV 65 (.ext 60 1),
  oV 66 (.fldP (.t 9) 3),
  ⟨none,.sto (.t 66) 2 94 3 2 (.t 64)⟩,
  oV 12 (.mv (.t 65))] [60,61,62,63,64,65,66]
abbrev zLH:HCode:=oR [oV 67 (.mv (.t 12)),
  oV 68 (.ints .neq (.t 67) (.c (iv 0)))] [67]
abbrev zLI:HCode:=oR [oV 69 (.bld [] []),
  oV 70 (.mki zB2 (.t 69)),
  ⟨none,.pan (.t 70)⟩] [69,70]
abbrev zLJ:HCode:=oR [oV 86 (.ldB (.t 9) 2 94 0 6 true),
  ⟨none,.sto (.t 4) 1 88 0 6 (.t 86)⟩,
  oV 5 (.mv (.c (bv true)))] [86]
abbrev zV5:HCode:=(.seq zM4 (.seq (.block 0 (.seq zM5 (.cond (.t 13) (.seq zM6 .ret) (.seq zM7 (.cond (.t 19) (.seq zM8 .ret) (.seq zM9 (.cond (.t 25) (.seq zNa .ret) (.seq zNb (.cond (.t 30) (.seq zNc .ret) .skip))))))))) (.seq zNd (.seq (.seq zLu (.seq zLv (.cond (.t 44) (.seq zLw .ret) .skip))) (.seq zLx (.seq zLy (.seq zLz (.seq (.block 1 (.seq zLA (.cond (.t 71) zLB (.seq zLC (.cond (.t 76) (.seq zLD zLE) (.seq zLF (.seq zLG (.seq zLH (.cond (.t 68) zLI .skip))))))))) (.seq zLJ .ret)))))))))
abbrev zGz:Env:={ N:=87,Γ:=[(87,1),(88,6),(94,6),(100,4)],L:=104,nfix:=1 }
abbrev path_pen_test_R:List RSrc:=[.cellB 4 1 88 0 6 true,.tmp 5]
theorem zNe:zCu Tryz.prog zCh zV5 zGz path_pen_test_R:=by kernel_rfl
abbrev zNf:HCode:=oN [⟨none,.alloc 4 1 32 [.v (mkS []),.nl 6]⟩]
abbrev zNg:HCode:=oR [oV 8 (.mv (.t 0)),
  oC 9 zA5 [(.t 8,.i 0 31 1)],
  oV 10 (.bld [.v (mkS []),.nl 6] [(0,1,.t 9)]),
  ⟨none,.alloc 5 2 34 [.v (mkS []),.nl 6]⟩,
  ⟨none,.sto (.t 5) 2 34 0 2 (.t 10)⟩] [8,9,10]
abbrev zNh:HCode:=oR [oV 11 (.fldP (.t 5) 0),
  oV 12 (.ldB (.t 11) 2 34 0 1 false),
  oV 13 (.strs .eql (.t 12) (.c (sv [])))] [11,12]
abbrev zNi:HCode:=oR [oV 14 (.mv (.t 0)),
  oC 15 zBv [(.t 14,.i 0 31 1),(.c (sv [42]),.v)]] [14,15]
abbrev zNj:HCode:=oR [oV 17 (.mv (.t 0)),
  oV 18 (.mv (.t 1)),
  oC 19 zCh [(.t 17,.i 0 31 1),(.t 18,.v)],
  oV 16 (.mv (.t 19)),
  oV 20 (.ext 16 0),
  oV 21 (.ext 16 1),
  ⟨none,.alloc 6 3 36 [.v (.int .i64 0),.v (mkS []),.v (mkS []),.v (.int .i64 0),.v (.int .i64 0),.nl 2]⟩,
  ⟨none,.sto (.t 6) 3 36 0 6 (.t 20)⟩,
  oV 7 (.mv (.t 21))] [16,17,18,19,20,21]
abbrev zNk:HCode:=oR [oV 22 (.mv (.t 7)),
  oV 23 (.not (.t 22))] [22]
abbrev zNl:HCode:=oR [oV 24 (.ldB (.t 5) 2 34 0 2 true),
  ⟨none,.sto (.t 4) 1 32 0 2 (.t 24)⟩] [24]
abbrev zNm:HCode:=oR [oV 25 (.fldP (.t 5) 1),
  ⟨none,.ldo 26 (.t 25) 2 34 1 zC8 6⟩,
  oV 27 (.ldB (.t 6) 3 36 0 6 true),
  oV 28 (.bslF 6 [.t 27]),
  ⟨none,.app 29 zC8 6 (.t 26) (.t 28)⟩,
  oV 30 (.fldP (.t 5) 1),
  ⟨none,.stw (.t 30) 2 34 1 29⟩] [25,26,27,28,29,30]
abbrev zV6:HCode:=(.seq zNf (.seq zNg (.seq (.seq zNh (.cond (.t 13) zNi .skip)) (.block 0 (.loop (.block 1 (.seq zNj (.seq (.seq zNk (.cond (.t 23) (.seq zNl .ret) .skip)) zNm))))))))
abbrev zGA:Env:={ N:=31,Γ:=[(31,1),(32,2),(34,2),(36,6)],L:=42,nfix:=1 }
abbrev path_pen_step_R:List RSrc:=[.cellB 4 1 32 0 2 true]
theorem zNn:zCu Tryz.prog zBO zV6 zGA path_pen_step_R:=by kernel_rfl
abbrev zNo:HCode:=oN [⟨none,.nlo 4 zBj 2⟩]
abbrev zNp:HCode:=oR [oV 9 (.mv (.t 1)),
  oV 10 (.ints .gtr (.t 9) (.c (iv 3)))] [9]
abbrev zNq:HCode:=oR [oV 11 (.bld [] []),
  oV 12 (.mki zB2 (.t 11)),
  ⟨none,.pan (.t 12)⟩] [11,12]
abbrev zNr:HCode:=oN [⟨none,.nlo 5 zBj 2⟩]
abbrev zNs:HCode:=oR [oV 13 (.mv (.t 0)),
  oV 14 (.mv (.t 1)),
  oC 15 zBO [(.t 13,.i 0 50 1),(.t 14,.v)],
  ⟨none,.vbp 16 zC7 2 (.t 15)⟩,
  ⟨none,.vbd 17 [.nl 2,.nl 1] 0 1 (.t 16)⟩,
  ⟨none,.alloc 6 1 51 [.nl 2,.nl 1]⟩,
  ⟨none,.vst (.t 6) 1 51 0 2 17⟩] [13,14,15,16,17]
abbrev zNt:HCode:=oN [oV 18 (.bld [.v (.int .i64 0),.v (.int .i64 0),.v (.int .i64 0),.v (.int .i64 0)] [(0,1,.c (iv 2)),(1,1,.c (iv 3)),(2,1,.c (iv 4)),(3,1,.c (iv 1))]),
  oV 19 (.mv (.c (iv 0)))]
abbrev zNu:HCode:=oN [oV 20 (.ints .lss (.t 19) (.c (iv 4)))]
abbrev zNv:HCode:=oR [oV 21 (.idxV 4 (.t 18) (.t 19)),
  oV 8 (.mv (.t 21))] [21]
abbrev zNw:HCode:=oR [oV 22 (.mv (.t 0)),
  oC 23 zEb [],
  oV 24 (.mv (.t 8)),
  oV 25 (.idxV 5 (.t 23) (.t 24)),
  oC 26 zA1 [(.t 22,.i 0 50 1),(.t 25,.v)]] [22,23,24,25]
abbrev zNx:HCode:=oR [oV 27 (.fldP (.t 6) 1),
  ⟨none,.ldo 28 (.t 27) 1 51 1 zP7 1⟩,
  oV 29 (.mv (.t 8)),
  oV 30 (.bslF 1 [.t 29]),
  ⟨none,.app 31 zP7 1 (.t 28) (.t 30)⟩,
  oV 32 (.fldP (.t 6) 1),
  ⟨none,.stw (.t 32) 1 51 1 31⟩] [27,28,29,30,31,32]
abbrev zLK:HCode:=oQ [oD 0 false (oV 33 (.fldP (.t 6) 0)),
  oD 1 false ⟨none,.vld 34 (.t 33) 1 51 0 1 false⟩,
  oD 2 false (oV 35 (.mv (.t 0))),
  oD 3 false (oV 36 (.mv (.t 1))),
  oD 4 true (oC 37 zBO [(.t 35,.i 0 50 1),(.t 36,.v)]),
  oD 5 false (oV 38 (.bslF 2 [.t 37])),
  oD 6 false ⟨none,.vap 39 zC7 2 34 (.t 38)⟩,
  oD 7 false (oV 40 (.fldP (.t 6) 0)),
  oD 8 false ⟨none,.vst (.t 40) 1 51 0 1 39⟩] [33,34,35,36,37,38,39,40]
abbrev zLL:HCode:=oR [oV 41 (.ints .add (.t 19) (.c (iv 1))),
  oV 19 (.mv (.t 41))] [41]
abbrev zLM:HCode:=.regG [.vfr 51 1 51] [⟨none,.mvo 42 5⟩,
  oV 43 (.ldB (.t 6) 1 51 0 2 true),
  oV 44 (.bslF 2 [.t 43]),
  ⟨none,.app 45 zBj 2 (.t 42) (.t 44)⟩,
  ⟨none,.mvo 5 45⟩] [.forget [42,43,44,45]]
abbrev zLN:HCode:=oR [oV 46 (.mv (.t 0)),
  oC 47 zA1 [(.t 46,.i 0 50 1),(.c (sv [44,32]),.v)],
  oV 48 (.not (.t 47))] [46,47]
abbrev zLO:HCode:=oR [⟨none,.mvo 49 5⟩,
  ⟨none,.mvo 4 49⟩] [49]
abbrev zV7:HCode:=(.seq zNo (.seq (.seq zNp (.cond (.t 10) zNq .skip)) (.seq zNr (.block 0 (.loop (.block 1 (.scope (.seq zNs (.seq .label (.seq (.block 2 (.loop (.block 3 (.seq (.seq zNt (.block 4 (.loop (.seq zNu (.seq (.cond (.t 20) .skip (.exit 4)) (.seq (.block 5 (.seq zNv (.seq zNw (.cond (.t 26) (.seq zNx (.seq zLK (.exit 3))) .skip)))) zLL)))))) (.exit 2))))) (.seq zLM (.seq zLN (.cond (.t 48) (.seq zLO .ret) .skip)))))))))))))
abbrev zGB:Env:={ N:=50,Γ:=[(50,1),(51,2)],L:=53,nfix:=1 }
abbrev path_pen_list_R:List RSrc:=[.tmp 4]
theorem zNy:zCu Tryz.prog zBu zV7 zGB path_pen_list_R:=by kernel_rfl
abbrev zYi:HCode:=oN [oV 1 (.boxF (.t 0)),
  oV 2 (.mv (.c (sv [])))]
abbrev zYj:HCode:=oR [oV 5 (.fldR (.t 1) 0 1),
  oV 6 (.ldR (.t 5) 1 false)] [5]
abbrev zYk:HCode:=oR [oV 8 (.ints .eql (.t 6) (.c (iv 1))),
  oV 7 (.mv (.t 8))] [8]
abbrev zYl:HCode:=oR [oV 9 (.fldR (.t 1) 1 1),
  oV 10 (.ldR (.t 9) 1 false),
  oV 11 (.strs .add (.c (sv [46])) (.t 10)),
  oV 2 (.mv (.t 11))] [9,10,11]
abbrev zYm:HCode:=oR [oV 13 (.ints .eql (.t 6) (.c (iv 2))),
  oV 12 (.mv (.t 13))] [13]
abbrev zYn:HCode:=oR [oV 14 (.fldR (.t 1) 1 1),
  oV 15 (.ldR (.t 14) 1 false),
  oV 16 (.strs .add (.c (sv [35])) (.t 15)),
  oV 2 (.mv (.t 16))] [14,15,16]
abbrev zYo:HCode:=oR [oV 18 (.ints .eql (.t 6) (.c (iv 3))),
  oV 17 (.mv (.t 18))] [18]
abbrev zYp:HCode:=oR [oV 19 (.fldR (.t 1) 1 1),
  oV 20 (.ldR (.t 19) 1 false),
  oV 21 (.strs .add (.c (sv [91])) (.t 20)),
  oV 22 (.strs .add (.t 21) (.c (sv [93]))),
  oV 2 (.mv (.t 22))] [19,20,21,22]
abbrev zYq:HCode:=oR [oV 24 (.ints .eql (.t 6) (.c (iv 9))),
  oV 23 (.mv (.t 24))] [24]
abbrev zYr:HCode:=oR [oV 25 (.ints .eql (.t 6) (.c (iv 10))),
  oV 23 (.mv (.t 25))] [25]
abbrev zV8:HCode:=oR [oV 27 (.fldR (.t 1) 3 2),
  oV 28 (.ldR (.t 27) 2 true),
  oC 29 zFS [(.t 28,.v)],
  oV 26 (.mv (.t 29)),
  oV 30 (.ext 26 0),
  oV 31 (.ext 26 1),
  oV 3 (.mv (.t 30)),
  oV 4 (.mv (.t 31))] [4,26,27,28,29,30,31]
abbrev zV9:HCode:=oR [oV 32 (.fldR (.t 1) 0 1),
  oV 33 (.ldR (.t 32) 1 false),
  oC 34 zDP [(.t 33,.v)],
  oV 35 (.mv (.t 3)),
  oV 36 (.strs .add (.t 34) (.t 35)),
  oV 37 (.strs .add (.t 36) (.c (sv [41]))),
  oV 2 (.mv (.t 37))] [32,33,34,35,36,37]
abbrev zWa:HCode:=oR [oV 39 (.ints .eql (.t 6) (.c (iv 11))),
  oV 38 (.mv (.t 39))] [39]
abbrev zWb:HCode:=oN [oV 2 (.mv (.c (sv [58,101,109,112,116,121])))]
abbrev zWc:HCode:=oR [oV 41 (.ints .eql (.t 6) (.c (iv 12))),
  oV 40 (.mv (.t 41))] [41]
abbrev zWd:HCode:=oN [oV 2 (.mv (.c (sv [58,114,111,111,116])))]
abbrev zWe:HCode:=oR [oV 43 (.ints .eql (.t 6) (.c (iv 13))),
  oV 42 (.mv (.t 43))] [43]
abbrev zWf:HCode:=oR [oV 44 (.ints .eql (.t 6) (.c (iv 14))),
  oV 42 (.mv (.t 44))] [44]
abbrev zWg:HCode:=oR [oV 45 (.ints .eql (.t 6) (.c (iv 15))),
  oV 42 (.mv (.t 45))] [45]
abbrev zWh:HCode:=oQ [oD 0 false (oV 46 (.fldR (.t 1) 0 1)),
  oD 1 false (oV 47 (.ldR (.t 46) 1 false)),
  oD 2 false (oC 48 zDP [(.t 47,.v)]),
  oD 3 false (oV 49 (.fldR (.t 1) 5 1)),
  oD 4 false (oV 50 (.ldR (.t 49) 1 false)),
  oD 5 true (oC 51 zCw [(.t 50,.v)]),
  oD 6 false (oV 52 (.strs .add (.t 48) (.t 51))),
  oD 7 false (oV 53 (.strs .add (.t 52) (.c (sv [41])))),
  oD 8 false (oV 2 (.mv (.t 53)))] [46,47,48,49,50,51,52,53]
abbrev zWi:HCode:=oQ [oD 0 false (oV 54 (.fldR (.t 1) 1 1)),
  oD 1 false (oV 55 (.ldR (.t 54) 1 false)),
  oD 2 false (oV 56 (.strs .add (.c (sv [91])) (.t 55))),
  oD 3 false (oV 57 (.fldR (.t 1) 0 1)),
  oD 4 false (oV 58 (.ldR (.t 57) 1 false)),
  oD 5 false (oC 59 zET [(.t 58,.v)]),
  oD 6 false (oV 60 (.strs .add (.t 56) (.t 59))),
  oD 7 false (oV 61 (.strs .add (.t 60) (.c (sv [34])))),
  oD 8 false (oV 62 (.fldR (.t 1) 2 1)),
  oD 9 false (oV 63 (.ldR (.t 62) 1 false)),
  oD 10 false (oV 64 (.strs .add (.t 61) (.t 63))),
  oD 11 false (oV 65 (.strs .add (.t 64) (.c (sv [34,93])))),
  oD 12 false (oV 2 (.mv (.t 65)))] [54,55,56,57,58,59,60,61,62,63,64,65]
abbrev yDR:HCode:=(.seq zYi (.seq (.seq zYj (.block 0 (.seq zYk (.cond (.t 7) (.seq zYl .ret) (.seq zYm (.cond (.t 12) (.seq zYn .ret) (.seq zYo (.cond (.t 17) (.seq zYp .ret) (.seq (.seq zYq (.cond (.t 23) .skip zYr)) (.cond (.t 23) (.seq zV8 (.seq zV9 .ret)) (.seq zWa (.cond (.t 38) (.seq zWb .ret) (.seq zWc (.cond (.t 40) (.seq zWd .ret) (.seq (.seq zWe (.cond (.t 42) .skip (.seq zWf (.cond (.t 42) .skip zWg)))) (.cond (.t 42) (.seq zWh .ret) .skip)))))))))))))))) (.seq zWi .ret)))
abbrev zQ1:Env:={ N:=66,Γ:=[],L:=66,nfix:=0 }
abbrev path_test_R:List RSrc:=[.tmp 2]
theorem zYs:zCu Tryz.prog zEU yDR zQ1 path_test_R:=by kernel_rfl
abbrev zYt:HCode:=oN [oV 2 (.mv (.c (sv [])))]
abbrev zYu:HCode:=oN [⟨none,.nlo 3 zFh 1⟩]
abbrev zYv:HCode:=oN [oV 11 (.mv (.t 0)),
  oV 12 (.len false (.t 11)),
  oV 13 (.mv (.c (iv 0)))]
abbrev zYw:HCode:=oN [oV 14 (.ints .lss (.t 13) (.t 12))]
abbrev zYx:HCode:=oR [oV 15 (.idxA 2 (.t 11) (.t 13)),
  oV 16 (.ldR (.t 15) 2 true),
  ⟨none,.alloc 5 0 63 [.nl 2,.nl 1]⟩,
  ⟨none,.sto (.t 5) 0 63 0 2 (.t 16)⟩] [15,16]
abbrev zYy:HCode:=oN [oV 6 (.mv (.c (sv [])))]
abbrev zYz:HCode:=oR [oV 17 (.fldP (.t 5) 0),
  oV 18 (.ldB (.t 17) 0 63 0 1 false),
  oV 19 (.len false (.t 18)),
  oV 20 (.mv (.c (iv 0)))] [17]
abbrev zYA:HCode:=oN [oV 21 (.ints .lss (.t 20) (.t 19))]
abbrev zYB:HCode:=oR [oV 22 (.mv (.t 20)),
  oV 23 (.idxA 2 (.t 18) (.t 20)),
  oV 24 (.ldR (.t 23) 2 true),
  ⟨none,.alloc 8 1 65 [.v (mkS []),.nl 6]⟩,
  oV 7 (.mv (.t 22)),
  ⟨none,.sto (.t 8) 1 65 0 2 (.t 24)⟩] [22,23,24]
abbrev zYC:HCode:=oR [oV 25 (.mv (.t 7)),
  oV 26 (.ints .gtr (.t 25) (.c (iv 0)))] [25]
abbrev zWj:HCode:=oQ [oD 0 false (oV 27 (.mv (.t 6))),
  oD 1 false (oC 28 zEb []),
  oD 2 false (oV 29 (.fldP (.t 5) 1)),
  oD 3 false (oV 30 (.ldB (.t 29) 0 63 1 1 false)),
  oD 4 false (oV 31 (.mv (.t 7))),
  oD 5 false (oV 32 (.ints .sub (.t 31) (.c (iv 1)))),
  oD 6 false (oV 33 (.idxA 1 (.t 30) (.t 32))),
  oD 7 false (oV 34 (.ldR (.t 33) 1 false)),
  oD 8 false (oV 35 (.idxV 5 (.t 28) (.t 34))),
  oD 9 false (oV 36 (.strs .add (.t 27) (.t 35))),
  oD 10 false (oV 6 (.mv (.t 36)))] [27,28,29,30,31,32,33,34,35,36]
abbrev zWk:HCode:=oR [oV 37 (.mv (.t 6)),
  oV 38 (.fldP (.t 8) 0),
  oV 39 (.ldB (.t 38) 1 65 0 1 false),
  oV 40 (.bslF 1 [.t 39,.c (sv [42])]),
  oC 41 zDX [(.t 40,.v)],
  oV 42 (.strs .add (.t 37) (.t 41)),
  oV 6 (.mv (.t 42))] [37,38,39,40,41,42]
abbrev zWl:HCode:=oR [oV 43 (.fldP (.t 8) 1),
  oV 44 (.ldB (.t 43) 1 65 1 1 false),
  oV 45 (.len false (.t 44)),
  oV 46 (.mv (.c (iv 0)))] [43]
abbrev zWm:HCode:=oN [oV 47 (.ints .lss (.t 46) (.t 45))]
abbrev zWn:HCode:=oR [oV 48 (.idxA 6 (.t 44) (.t 46)),
  oV 49 (.ldR (.t 48) 6 true),
  ⟨none,.alloc 10 2 67 [.v (.int .i64 0),.v (mkS []),.v (mkS []),.v (.int .i64 0),.v (.int .i64 0),.nl 2]⟩,
  ⟨none,.sto (.t 10) 2 67 0 6 (.t 49)⟩] [48,49]
abbrev zWo:HCode:=oR [oV 50 (.mv (.t 6)),
  oV 51 (.ldB (.t 10) 2 67 0 6 true),
  oC 52 zEU [(.t 51,.v)],
  oV 53 (.strs .add (.t 50) (.t 52)),
  oV 6 (.mv (.t 53))] [50,51,52,53]
abbrev zWp:HCode:=oR [oV 54 (.ints .add (.t 46) (.c (iv 1))),
  oV 46 (.mv (.t 54))] [54]
abbrev zWq:HCode:=oR [oV 55 (.ints .add (.t 20) (.c (iv 1))),
  oV 20 (.mv (.t 55))] [55]
abbrev zWr:HCode:=oR [⟨none,.mvo 56 3⟩,
  oV 57 (.mv (.t 6)),
  oV 58 (.bslF 1 [.t 57]),
  ⟨none,.app 59 zFh 1 (.t 56) (.t 58)⟩,
  ⟨none,.mvo 3 59⟩] [56,57,58,59]
abbrev zWs:HCode:=oR [oV 60 (.ints .add (.t 13) (.c (iv 1))),
  oV 13 (.mv (.t 60))] [60]
abbrev zWt:HCode:=oR [oV 61 (.mv (.t 3)),
  oC 62 zEv [(.t 61,.v),(.c (sv [44,32]),.v)],
  oV 2 (.mv (.t 62))] [61,62]
abbrev yDS:HCode:=(.seq zYt (.seq zYu (.seq (.seq zYv (.block 0 (.loop (.seq zYw (.seq (.cond (.t 14) .skip (.exit 0)) (.seq (.block 1 (.seq zYx (.seq zYy (.seq (.seq zYz (.block 2 (.loop (.seq zYA (.seq (.cond (.t 21) .skip (.exit 2)) (.seq (.block 3 (.seq zYB (.seq (.seq zYC (.cond (.t 26) zWj .skip)) (.seq zWk (.seq zWl (.block 4 (.loop (.seq zWm (.seq (.cond (.t 47) .skip (.exit 4)) (.seq (.block 5 (.seq zWn zWo)) zWp)))))))))) zWq)))))) zWr)))) zWs)))))) (.seq zWt .ret))))
abbrev zQ2:Env:={ N:=63,Γ:=[(63,2),(65,2),(67,6)],L:=73,nfix:=0 }
abbrev path_list_R:List RSrc:=[.tmp 2]
theorem zYD:zCu Tryz.prog zCw yDS zQ2 path_list_R:=by kernel_rfl
abbrev zYE:HCode:=oN [oV 2 (.mv (.c (sv []))),
  oV 3 (.mv (.c (iv 0)))]
abbrev zYF:HCode:=oR [oV 5 (.mv (.t 0)),
  oC 6 zBU [(.t 5,.v)],
  oV 4 (.mv (.t 6))] [5,6]
abbrev zYG:HCode:=oR [oV 7 (.mv (.t 4)),
  oV 8 (.ints .neq (.t 7) (.c (iv 0)))] [7]
abbrev zYH:HCode:=oR [oV 9 (.mv (.t 4)),
  oV 2 (.mv (.c (sv []))),
  oV 3 (.mv (.t 9))] [9]
abbrev zYI:HCode:=oR [oV 10 (.mv (.t 0)),
  oC 11 zCw [(.t 10,.v)],
  oV 2 (.mv (.t 11)),
  oV 3 (.mv (.c (iv 0)))] [10,11]
abbrev yDT:HCode:=(.seq zYE (.seq (.seq zYF (.seq zYG (.cond (.t 8) (.seq zYH .ret) .skip))) (.seq zYI .ret)))
abbrev zQ3:Env:={ N:=12,Γ:=[],L:=12,nfix:=0 }
abbrev path_Show_R:List RSrc:=[.tmp 2,.tmp 3]
theorem zYJ:zCu Tryz.prog zES yDT zQ3 path_Show_R:=by kernel_rfl
abbrev zNz:HCode:=oN [oV 2 (.mv (.c (sv [])))]
abbrev zNA:HCode:=oN [oV 3 (.mv (.c (sv [])))]
abbrev zNB:HCode:=oN [oV 6 (.mv (.t 0)),
  oV 7 (.len false (.t 6)),
  oV 8 (.mv (.c (iv 0)))]
abbrev zNC:HCode:=oN [oV 9 (.ints .lss (.t 8) (.t 7))]
abbrev zND:HCode:=oR [oV 10 (.idxA 1 (.t 6) (.t 8)),
  oV 11 (.ldR (.t 10) 1 false),
  oV 5 (.mv (.t 11))] [10,11]
abbrev zNE:HCode:=oR [oV 12 (.mv (.t 5)),
  oV 13 (.mv (.t 3)),
  oV 14 (.strs .neq (.t 12) (.t 13))] [12,13]
abbrev zNF:HCode:=oR [oV 15 (.mv (.t 5)),
  oV 2 (.mv (.t 15))] [15]
abbrev zNG:HCode:=oR [oV 16 (.ints .add (.t 8) (.c (iv 1))),
  oV 8 (.mv (.t 16))] [16]
abbrev zNH:HCode:=oR [oV 17 (.mv (.t 3)),
  oV 2 (.mv (.t 17))] [17]
abbrev zWu:HCode:=(.seq zNz (.seq zNA (.seq (.seq zNB (.block 0 (.loop (.seq zNC (.seq (.cond (.t 9) .skip (.exit 0)) (.seq (.block 1 (.seq zND (.seq zNE (.cond (.t 14) (.seq zNF .ret) .skip)))) zNG)))))) (.seq zNH .ret))))
abbrev zGC:Env:={ N:=18,Γ:=[],L:=18,nfix:=0 }
abbrev cmp_Or_string_R:List RSrc:=[.tmp 2]
theorem zNI:zCu Tryz.prog zDX zWu zGC cmp_Or_string_R:=by kernel_rfl
abbrev zHj:HCode:=oN [oV 4 (.mv (.c (sv []))),
  oV 5 (.mv (.c (bv false)))]
abbrev zHk:HCode:=oR [oV 6 (.mv (.t 0)),
  oV 7 (.mv (.t 1)),
  oC 8 zDq [(.t 6,.v),(.t 7,.v)],
  oV 9 (.ext 8 0),
  oV 10 (.ext 8 1),
  oV 4 (.mv (.t 9)),
  oV 5 (.mv (.t 10))] [6,7,8,9,10]
abbrev strings_CutPrefix:HCode:=(.seq zHj (.seq zHk .ret))
abbrev zQ4:HCode:=oN [oV 4 (.mv (.c (sv [])))]
abbrev zQ5:HCode:=oR [oV 11 (.mv (.t 0)),
  oV 12 (.len false (.t 11))] [11]
abbrev zQ6:HCode:=oR [oV 14 (.ints .eql (.t 12) (.c (iv 0))),
  oV 13 (.mv (.t 14))] [14]
abbrev zQ7:HCode:=oN [oV 4 (.mv (.c (sv [])))]
abbrev zQ8:HCode:=oR [oV 16 (.ints .eql (.t 12) (.c (iv 1))),
  oV 15 (.mv (.t 16))] [16]
abbrev zQ9:HCode:=oR [oV 17 (.mv (.t 0)),
  oV 18 (.idxA 1 (.t 17) (.c (iv 0))),
  oV 19 (.ldR (.t 18) 1 false),
  oV 4 (.mv (.t 19))] [17,18,19]
abbrev zRa:HCode:=oN [oV 5 (.mv (.c (iv 0)))]
abbrev zRb:HCode:=oR [oV 20 (.mv (.t 1)),
  oV 21 (.len true (.t 20)),
  oV 22 (.ints .gtr (.t 21) (.c (iv 0)))] [20,21]
abbrev zRc:HCode:=oR [oV 23 (.mv (.t 1)),
  oV 24 (.len true (.t 23)),
  oV 25 (.mv (.t 0)),
  oV 26 (.len false (.t 25)),
  oV 27 (.ints .sub (.t 26) (.c (iv 1))),
  oV 28 (.ints .quo (.c (iv 9223372036854775807)) (.t 27)),
  oV 29 (.ints .geq (.t 24) (.t 28))] [23,24,25,26,27,28]
abbrev zRd:HCode:=oR [oV 30 (.mki zFh (.c (sv [115,116,114,105,110,103,115,58,32,74,111,105,110,32,111,117,116,112,117,116,32,108,101,110,103,116,104,32,111,118,101,114,102,108,111,119]))),
  ⟨none,.pan (.t 30)⟩] [30]
abbrev zNJ:HCode:=oR [oV 31 (.mv (.t 5)),
  oV 32 (.mv (.t 1)),
  oV 33 (.len true (.t 32)),
  oV 34 (.mv (.t 0)),
  oV 35 (.len false (.t 34)),
  oV 36 (.ints .sub (.t 35) (.c (iv 1))),
  oV 37 (.ints .mul (.t 33) (.t 36)),
  oV 38 (.ints .add (.t 31) (.t 37)),
  oV 5 (.mv (.t 38))] [31,32,33,34,35,36,37,38]
abbrev zNK:HCode:=oN [oV 39 (.mv (.t 0)),
  oV 40 (.len false (.t 39)),
  oV 41 (.mv (.c (iv 0)))]
abbrev zNL:HCode:=oN [oV 42 (.ints .lss (.t 41) (.t 40))]
abbrev zNM:HCode:=oR [oV 43 (.idxA 1 (.t 39) (.t 41)),
  oV 44 (.ldR (.t 43) 1 false),
  oV 7 (.mv (.t 44))] [43,44]
abbrev zNN:HCode:=oR [oV 45 (.mv (.t 7)),
  oV 46 (.len true (.t 45)),
  oV 47 (.mv (.t 5)),
  oV 48 (.ints .sub (.c (iv 9223372036854775807)) (.t 47)),
  oV 49 (.ints .gtr (.t 46) (.t 48))] [45,46,47,48]
abbrev zNO:HCode:=oR [oV 50 (.mki zFh (.c (sv [115,116,114,105,110,103,115,58,32,74,111,105,110,32,111,117,116,112,117,116,32,108,101,110,103,116,104,32,111,118,101,114,102,108,111,119]))),
  ⟨none,.pan (.t 50)⟩] [50]
abbrev zNP:HCode:=oR [oV 51 (.mv (.t 5)),
  oV 52 (.mv (.t 7)),
  oV 53 (.len true (.t 52)),
  oV 54 (.ints .add (.t 51) (.t 53)),
  oV 5 (.mv (.t 54))] [51,52,53,54]
abbrev zNQ:HCode:=oR [oV 55 (.ints .add (.t 41) (.c (iv 1))),
  oV 41 (.mv (.t 55))] [55]
abbrev zNR:HCode:=oN [⟨none,.bmk 8 zBa zFV⟩]
abbrev zNS:HCode:=oR [oV 56 (.mv (.t 5)),
  ⟨none,.callm (some 57) zDr 8 [(.t 56,.v)]⟩] [56,57]
abbrev zNT:HCode:=oR [oV 58 (.mv (.t 0)),
  oV 59 (.idxA 1 (.t 58) (.c (iv 0))),
  oV 60 (.ldR (.t 59) 1 false),
  ⟨none,.callm (some 61) zAZ 8 [(.t 60,.v)]⟩] [58,59,60,61]
abbrev zNU:HCode:=oR [oV 62 (.mv (.t 0)),
  oV 63 (.slr 1 (.t 62) (some (.c (iv 1))) none),
  oV 64 (.len false (.t 63)),
  oV 65 (.mv (.c (iv 0)))] [62]
abbrev zNV:HCode:=oN [oV 66 (.ints .lss (.t 65) (.t 64))]
abbrev zNW:HCode:=oR [oV 67 (.idxA 1 (.t 63) (.t 65)),
  oV 68 (.ldR (.t 67) 1 false),
  oV 10 (.mv (.t 68))] [67,68]
abbrev zNX:HCode:=oR [oV 69 (.mv (.t 1)),
  ⟨none,.callm (some 70) zAZ 8 [(.t 69,.v)]⟩] [69,70]
abbrev zNY:HCode:=oR [oV 71 (.mv (.t 10)),
  ⟨none,.callm (some 72) zAZ 8 [(.t 71,.v)]⟩] [71,72]
abbrev zNZ:HCode:=oR [oV 73 (.ints .add (.t 65) (.c (iv 1))),
  oV 65 (.mv (.t 73))] [73]
abbrev zN0:HCode:=oR [⟨none,.callm (some 74) zCU 8 []⟩,
  oV 4 (.mv (.t 74))] [74]
abbrev zYK:HCode:=(.seq zQ4 (.seq (.seq zQ5 (.block 0 (.seq zQ6 (.cond (.t 13) (.seq zQ7 .ret) (.seq zQ8 (.cond (.t 15) (.seq zQ9 .ret) .skip)))))) (.seq zRa (.seq (.seq zRb (.cond (.t 22) (.seq (.seq zRc (.cond (.t 29) zRd .skip)) zNJ) .skip)) (.seq (.seq zNK (.block 1 (.loop (.seq zNL (.seq (.cond (.t 42) .skip (.exit 1)) (.seq (.block 2 (.seq zNM (.seq (.seq zNN (.cond (.t 49) zNO .skip)) zNP))) zNQ)))))) (.seq zNR (.seq zNS (.seq zNT (.seq (.seq zNU (.block 3 (.loop (.seq zNV (.seq (.cond (.t 66) .skip (.exit 3)) (.seq (.block 4 (.seq zNW (.seq zNX zNY))) zNZ)))))) (.seq zN0 .ret))))))))))
abbrev zHu:Env:={ N:=75,Γ:=[],L:=75,nfix:=0 }
abbrev strings_Join_R:List RSrc:=[.tmp 4]
theorem zRe:zCu Tryz.prog zEv zYK zHu strings_Join_R:=by kernel_rfl
end Go.Hx
end

section
set_option maxRecDepth 100000
set_option linter.unusedSimpArgs false
namespace Go.Hx
open Go.Proofs
variable [Glob]
attribute [local go_sem] zAC zAz zAB zAw ndV zAx zAv
attribute [local go_sem] reduceCtorEq Nat.reduceAdd Nat.reduceEqDiff reduceIte Nat.reduceLeDiff Nat.reduceLT Nat.reduceSub
def zAj (s t:Bys):Bool:=decide (t.length≤s.length) && (s.take t.length == t)
def zAg (s t:Bys):Bys:=if zAj s t then s.drop t.length else s
theorem zAk (s t:Bys):Contract Tryz.prog zAo [.io [bS s],.val (sv t)] { res:=.val (bv (zAj s t)),io:=[bS (zAg s t)] }:=by
 refine mkA zI8 (base:=34) ⟨Nat.le_of_ble_eq_true rfl,Nat.le_of_ble_eq_true rfl,Nat.le_of_ble_eq_true rfl,⟨rfl,rfl⟩⟩ (fun hfit=>?_)
 unfold F0 zFi
 simp only [yIn,Nat.reduceAdd,Nat.reduceSub]
 try simp only [go_sem]
 repeat with_reducible refine zAc ?_
 cases hd:decide ((s.length:Int)<(t.length:Int)) with
 |true=>
  try simp only [go_sem,Bool.not_true,Bool.not_false]
  repeat with_reducible refine zAc ?_
  refine zAa yF trivial (fun h=>?_) (fun h=>?_)
  ·try simp only [go_sem]
   repeat with_reducible refine zAc ?_
   have h2:zAj s t=false:=by
    have:s.length<t.length:=by simpa using hd
    unfold zAj
    rw [decide_eq_false yO]; rfl
   unfold zAg
   rw [h2]
   exact zBT rfl trivial (.inl rfl) rfl rfl
  ·simp at h
 |false=>
  have h1:t.length≤s.length:=by simpa using hd
  try simp only [go_sem,Bool.not_true,Bool.not_false,Int.toNat_natCast,Int.toNat_zero,List.drop_zero,Int.cast_ofNat_Int]
  repeat with_reducible refine zAc ?_
  refine zAa yF trivial (fun h=>?_) (fun h=>?_)
  ·try simp only [go_sem]
   repeat with_reducible refine zAc ?_
   have h2:zAj s t=false:=by
    unfold zAj
    rw [decide_eq_true h1]
    simpa using h
   unfold zAg
   rw [h2]
   exact zBT rfl trivial (.inl rfl) rfl rfl
  ·try simp only [go_sem,Int.toNat_natCast,List.take_length]
   repeat with_reducible refine zAc ?_
   have h2:zAj s t=true:=by
    unfold zAj
    rw [decide_eq_true h1]
    simpa using h
   unfold zAg
   rw [h2]
   exact zBT rfl trivial (.inl rfl) rfl rfl
end Go.Hx
end

section
set_option maxRecDepth 100000
set_option linter.unusedSimpArgs false
namespace Go.Hx
open Go.Proofs
variable [Glob]
attribute [local go_sem] zAC zAz zAB zAw ndV zAx zAv
attribute [local go_sem] reduceCtorEq Nat.reduceAdd Nat.reduceEqDiff reduceIte Nat.reduceLeDiff Nat.reduceLT Nat.reduceSub
theorem zMp (n lo hi:Int):Contract Tryz.prog zAW [.val (iv n),.val (iv lo),.val (iv hi)] { res:=.val (bv (decide (lo≤n∧n≤hi))) }:=by
 refine mkA zIX (base:=0) (fo rfl) (fun hfit=>?_)
 unfold F0 zGv
 simp only [yIn,Nat.reduceAdd,Nat.reduceSub]
 try simp only [go_sem]
 repeat with_reducible refine zAc ?_
 refine zAq rfl trivial (.inl ?_)
 congr 3
 by_cases h1:lo≤n <;> by_cases h2:n≤hi <;> simp [h1,h2]
theorem zWC {a b:Int} (h:zIG a b=0):(-1048576≤a∧a≤1048576)∧(-1048576≤b∧b≤1048576):=by
 unfold zIG at h
 split at h
 ·rename_i h1; simpa [zN1] using h1
 ·cases h
def yAF (a b:Int):PVal:=.agg [bI a,bI b]
theorem zTF (a b:Int):Contract Tryz.prog zEm [.val (yAF a b)] { res:=.val (iv (zIG a b)) }:=by
 unfold yAF
 refine mkA zQn (base:=0) (fo rfl) (fun hfit=>?_)
 unfold F0 zHr
 simp only [yIn,Nat.reduceAdd,Nat.reduceSub]
 try simp only [go_sem]
 repeat with_reducible refine zAc ?_
 refine zAd yR (zMp a (-1048576) 1048576) ?_
 try simp only [go_sem]
 repeat with_reducible refine zAc ?_
 apply zAA (h2:=fun _=>zMp b (-1048576) 1048576)
 ·(simp only [go_sem]; rfl)
 ·intro h; repeat' (first | exact trivial | exact h | refine And.intro ?_ ?_)
 try simp only [go_sem]
 repeat with_reducible refine zAc ?_
 refine zAa yF trivial (fun h=>?_) (fun h=>?_)
 ·try simp only [go_sem]
  repeat with_reducible refine zAc ?_
  refine zAq rfl trivial (.inl ?_)
  congr 3
  unfold zIG zN1
  rw [if_neg]
  simp at h ⊢
  omega
 ·try simp only [go_sem]
  repeat with_reducible refine zAc ?_
  refine zAq rfl trivial (.inl ?_)
  congr 3
  unfold zIG zN1
  rw [if_pos]
  simp at h ⊢
  omega
theorem zRi (a b:Int):Contract Tryz.prog zER [.val (yAF a b)] { res:=.val (iv (zIG a b)) }:=by
 unfold yAF
 refine mkA zX6 (base:=0) (fo rfl) (fun hfit=>?_)
 unfold F0 zQi
 simp only [yIn,Nat.reduceAdd,Nat.reduceSub]
 try simp only [go_sem]
 repeat with_reducible refine zAc ?_
 refine zAr (fun i:Nat=>[(4,.un),(10,.pv (iv i)),(11,.un),(18,.un)]) (fun i:Nat=>2 - i) (fun i:Nat=>i≤2∧(1≤i→zN1 a=true)∧(2≤i→zN1 b=true)) (0) ?_ ⟨by omega,by omega,by omega⟩ ?_
 focus (simp only [go_sem,zAf,zAl,zAs,zAb]; all_goals exact yLe)
 intro i hi
 obtain ⟨h1,h2,h3⟩:=hi
 try simp only [go_sem]
 repeat with_reducible refine zAc ?_
 refine zAa yF trivial (fun h=>?_) (fun h=>?_)
 ·have hlt:i<2:=by simp at h; omega
  have hcase:i=0∨i=1:=by omega
  rcases hcase with rfl | rfl
  ·try simp only [go_sem,List.getD_cons_zero,Int.toNat_natCast,Int.cast_ofNat_Int,Int.toNat_zero,PV.norm]
   repeat with_reducible refine zAc ?_
   refine zAa yF trivial (fun h9=>?_) (fun h9=>?_)
   ·try simp only [go_sem]
    repeat with_reducible refine zAc ?_
    refine zAq rfl trivial (.inl ?_)
    congr 3
    unfold zIG
    rw [if_neg]
    simp [zN1] at h9 ⊢
    omega
   ·try simp only [go_sem]
    repeat with_reducible refine zAc ?_
    refine ⟨1,by omega,⟨by omega,fun _=>?_,by omega⟩,?_⟩
    ·simp [zN1] at h9 ⊢; omega
    ·simp only [go_sem,zAf,zAl,zAs,zAb]
     all_goals exact yLe
  ·try simp only [go_sem,List.getD_cons_zero,List.getD_cons_succ,Int.toNat_natCast,Int.cast_ofNat_Int,Int.toNat_one,PV.norm]
   repeat with_reducible refine zAc ?_
   refine zAa yF trivial (fun h9=>?_) (fun h9=>?_)
   ·try simp only [go_sem]
    repeat with_reducible refine zAc ?_
    refine zAq rfl trivial (.inl ?_)
    congr 3
    unfold zIG
    rw [if_neg]
    simp [zN1] at h9 ⊢
    omega
   ·try simp only [go_sem]
    repeat with_reducible refine zAc ?_
    refine ⟨2,by omega,⟨by omega,fun _=>h2 yO,fun _=>?_⟩,?_⟩
    ·simp [zN1] at h9 ⊢; omega
    ·simp only [go_sem,zAf,zAl,zAs,zAb]
     all_goals exact yLe
 ·try simp only [go_sem]
  repeat with_reducible refine zAc ?_
  have:i=2:=by simp at h; omega
  refine zAq rfl trivial (.inl ?_)
  congr 3
  unfold zIG
  rw [h2 yO,h3 yO]
  rfl
end Go.Hx
end

section
set_option maxRecDepth 100000
set_option linter.unusedSimpArgs false
namespace Go.Hx
open Go.Proofs
variable [Glob]
attribute [local go_sem] zAC zAz zAB zAw ndV zAx zAv fdV Fd.add fM fF fR fK Nat.add_zero
attribute [local go_sem] reduceCtorEq Nat.reduceAdd Nat.reduceEqDiff reduceIte Nat.reduceLeDiff Nat.reduceLT Nat.reduceSub
theorem zCn {F:List Ct} {E:Env} {base:Nat} {av:List AV} {cells io:List PV} (hio:ioOf av=some cells) (hc:zAL F base cells.length=some io):yCd E base av [] { res:=.tup [],io:=io } .normal F:=
 ⟨rfl,fun cs h=>by rw [hio] at h; injection h with h; subst h; exact hc⟩
theorem zWK (c:Fd) (b:Bool) (h:c.m≤1000000000):Contract Tryz.prog zAD [.io (fdV c),.val (bv b),.val (iv 2)] { res:=.tup [],io:=fdV (c.add (fM b)) }:=by
 unfold fdV
 refine mkA zCI (base:=17) ⟨Nat.le_of_ble_eq_true rfl,Nat.le_of_ble_eq_true rfl,Nat.le_of_ble_eq_true rfl,⟨rfl,rfl⟩⟩ (fun hfit=>?_)
 unfold F0 zCg
 simp only [yIn,Nat.reduceAdd,Nat.reduceSub]
 try simp only [go_sem]
 repeat with_reducible refine zAc ?_
 refine zAa yF trivial (fun hb=>?_) (fun hb=>?_)
 ·subst hb
  try simp only [go_sem,Int.reduceToNat]
  repeat with_reducible refine zAc ?_
  exact zCn rfl rfl
 ·subst hb
  try simp only [go_sem]
  repeat with_reducible refine zAc ?_
  exact zCn rfl rfl
theorem zPz (c:Fd) (b:Bool) (h:c.f≤1000000000):Contract Tryz.prog zAD [.io (fdV c),.val (bv b),.val (iv 1)] { res:=.tup [],io:=fdV (c.add (fF b)) }:=by
 unfold fdV
 refine mkA zCI (base:=17) ⟨Nat.le_of_ble_eq_true rfl,Nat.le_of_ble_eq_true rfl,Nat.le_of_ble_eq_true rfl,⟨rfl,rfl⟩⟩ (fun hfit=>?_)
 unfold F0 zCg
 simp only [yIn,Nat.reduceAdd,Nat.reduceSub]
 try simp only [go_sem]
 repeat with_reducible refine zAc ?_
 refine zAa yF trivial (fun hb=>?_) (fun hb=>?_)
 ·subst hb
  try simp only [go_sem,Int.reduceToNat]
  repeat with_reducible refine zAc ?_
  exact zCn rfl rfl
 ·subst hb
  try simp only [go_sem]
  repeat with_reducible refine zAc ?_
  exact zCn rfl rfl
theorem yFY (c:Fd) (b:Bool) (h:c.r≤1000000000):Contract Tryz.prog zAD [.io (fdV c),.val (bv b),.val (iv 3)] { res:=.tup [],io:=fdV (c.add (fR b)) }:=by
 unfold fdV
 refine mkA zCI (base:=17) ⟨Nat.le_of_ble_eq_true rfl,Nat.le_of_ble_eq_true rfl,Nat.le_of_ble_eq_true rfl,⟨rfl,rfl⟩⟩ (fun hfit=>?_)
 unfold F0 zCg
 simp only [yIn,Nat.reduceAdd,Nat.reduceSub]
 try simp only [go_sem]
 repeat with_reducible refine zAc ?_
 refine zAa yF trivial (fun hb=>?_) (fun hb=>?_)
 ·subst hb
  try simp only [go_sem,Int.reduceToNat]
  repeat with_reducible refine zAc ?_
  exact zCn rfl rfl
 ·subst hb
  try simp only [go_sem]
  repeat with_reducible refine zAc ?_
  exact zCn rfl rfl
theorem yBN (c:Fd) (b:Bool) (h:c.k≤1000000000):Contract Tryz.prog zAD [.io (fdV c),.val (bv b),.val (iv 4)] { res:=.tup [],io:=fdV (c.add (fK b)) }:=by
 unfold fdV
 refine mkA zCI (base:=17) ⟨Nat.le_of_ble_eq_true rfl,Nat.le_of_ble_eq_true rfl,Nat.le_of_ble_eq_true rfl,⟨rfl,rfl⟩⟩ (fun hfit=>?_)
 unfold F0 zCg
 simp only [yIn,Nat.reduceAdd,Nat.reduceSub]
 try simp only [go_sem]
 repeat with_reducible refine zAc ?_
 refine zAa yF trivial (fun hb=>?_) (fun hb=>?_)
 ·subst hb
  try simp only [go_sem,Int.reduceToNat]
  repeat with_reducible refine zAc ?_
  exact zCn rfl rfl
 ·subst hb
  try simp only [go_sem]
  repeat with_reducible refine zAc ?_
  exact zCn rfl rfl
def shV (k:Int):PVal:=.agg [bB (zYO k),bB (zMo k),bB (yGC k),bB (zEc k)]
def kOk (k:Int):Bool:=decide (1≤k∧k≤15)
theorem zY0 (k:Int):Contract Tryz.prog zG2 [.val (iv k)] { res:=.tup [shV k,bv (kOk k)] }:=by
 refine mkA yCz (base:=0) (fo rfl) (fun hfit=>?_)
 unfold F0 zYc
 simp only [yIn,Nat.reduceAdd,Nat.reduceSub]
 try simp only [go_sem]
 repeat with_reducible refine zAc ?_
 by_cases hk:1≤k∧k≤15
 ·have hn:k=1∨k=2∨k=3∨k=4∨k=5∨k=6∨k=7∨k=8∨k=9∨k=10∨k=11∨k=12∨k=13∨k=14∨k=15:=by omega
  rcases hn with rfl | rfl | rfl | rfl | rfl | rfl | rfl | rfl | rfl | rfl | rfl | rfl | rfl | rfl | rfl
  all_goals
   repeat (first | (refine yJm yF trivial ?_; (try simp only [go_sem])) | (refine yGy yF trivial ?_; (try simp only [go_sem])))
   exact zCr (by simp) ⟨zAS rfl rfl (.inl rfl),zAO rfl trivial (.inl rfl),rfl⟩
 ·have e:∀ n:Int,1≤n→n≤15→(k == n)=false:=by intro n h1 h2; simp; omega
  have hs:shV k = .agg [bB false,bB false,bB false,bB false]:=by
   unfold shV
   congr 2
   ·unfold zYO; congr 2; simp; omega
   ·congr 1
    ·unfold zMo; congr 2; simp; omega
    ·congr 1
     ·unfold yGC; congr 2; simp; omega
     ·congr 1
      unfold zEc; congr 2; simp; omega
  have ho:kOk k=false:=by unfold kOk; simp; omega
  rw [hs,ho]
  try simp only [go_sem,e 1 yO yO,e 2 yO yO,e 3 yO yO,e 4 yO yO,e 5 yO yO,e 6 yO yO,e 7 yO yO,e 8 yO yO,e 9 yO yO,e 10 yO yO,e 11 yO yO,e 12 yO yO,e 13 yO yO,e 14 yO yO,e 15 yO yO]
  repeat (refine yGy yF trivial ?_; (try simp only [go_sem,e 1 yO yO,e 2 yO yO,e 3 yO yO,e 4 yO yO,e 5 yO yO,e 6 yO yO,e 7 yO yO,e 8 yO yO,e 9 yO yO,e 10 yO yO,e 11 yO yO,e 12 yO yO,e 13 yO yO,e 14 yO yO,e 15 yO yO]))
  exact zCr (by simp) ⟨zAS rfl rfl (.inl rfl),zAO rfl trivial (.inl rfl),rfl⟩
theorem zY1:Contract Tryz.prog zFU [] { res:=.val (.agg [bI 2,bI 4,bI 1,bI 3]) }:=by
 refine mkA zVB (base:=0) (fo rfl) (fun hfit=>?_)
 unfold F0 zMi
 simp only [yIn,Nat.reduceAdd,Nat.reduceSub]
 try simp only [go_sem]
 repeat with_reducible refine zAc ?_
 exact zIW rfl rfl rfl
end Go.Hx
end
