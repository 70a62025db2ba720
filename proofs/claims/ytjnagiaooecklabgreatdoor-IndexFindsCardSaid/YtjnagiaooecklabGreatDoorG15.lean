/-
  Walks of functions of the program over an abstract layer, and the laws that they use: each contract says what the function computes, for every input that its conditions let by. No other condition.
-/
import Derived.Test.YtjnagiaooecklabGreatDoorProg
import Derived.Test.YtjnagiaooecklabGreatDoorG11
import Derived.Test.YtjnagiaooecklabGreatDoorG12
import Derived.Test.YtjnagiaooecklabGreatDoorG13
import Derived.Test.YtjnagiaooecklabGreatDoorG14
set_option linter.all false
section
/-
 The abstract code of functions of the program, printed by gen.py; each stands for the given one. No condition.
-/
namespace Go.Hx
open Go.Proofs
variable [Glob]
abbrev zHt:Nat:=62
abbrev yBg:HCode:=oN [oV 0 (.mv (.c (.one (.nl 2))))]
abbrev yBh:HCode:=oR [oV 1 (.bld [.v (.int .i64 0),.v (.int .i64 0)] [(1,1,.c (iv 1))]),
  oV 2 (.bld [.v (.int .i64 0),.v (mkS []),.v (mkS []),.v (.int .i64 0),.v (.int .i64 0),.nl 2] [(0,1,.c (iv 10)),(3,2,.t 1)]),
  oV 3 (.bslF 6 [.t 2]),
  oV 4 (.bld [.v (mkS []),.nl 6] [(1,1,.t 3)]),
  oV 5 (.bslF 2 [.t 4]),
  oV 6 (.bld [.nl 2,.nl 1] [(0,1,.t 5)]),
  oV 7 (.bslF 2 [.t 6]),
  oV 8 (.bld [.v (.int .i64 0),.v (mkS []),.v (mkS []),.v (.int .i64 0),.v (.int .i64 0),.nl 2] [(0,1,.c (iv 13)),(5,1,.t 7)]),
  oV 9 (.bslF 6 [.t 8]),
  oV 10 (.bld [.v (mkS []),.nl 6] [(0,1,.c (sv [105,116,101,109])),(1,1,.t 9)]),
  oV 11 (.bld [.v (.int .i64 0),.v (mkS []),.v (mkS []),.v (.int .i64 0),.v (.int .i64 0),.nl 2] [(0,1,.c (iv 8)),(1,1,.c (sv [116,111])),(2,1,.c (sv [116,119,111]))]),
  oV 12 (.bslF 6 [.t 11]),
  oV 13 (.bld [.v (mkS []),.nl 6] [(1,1,.t 12)]),
  oV 14 (.bslF 2 [.t 13]),
  oV 15 (.bld [.nl 2,.nl 1] [(0,1,.t 14)]),
  oV 16 (.bslF 2 [.t 15]),
  oV 17 (.bld [.v (.int .i64 0),.v (mkS []),.v (mkS []),.v (.int .i64 0),.v (.int .i64 0),.nl 2] [(0,1,.c (iv 15)),(5,1,.t 16)]),
  oV 18 (.bslF 6 [.t 17]),
  oV 19 (.bld [.v (mkS []),.nl 6] [(1,1,.t 18)]),
  oV 20 (.bslF 2 [.t 10,.t 19]),
  oV 21 (.bslF 1 [.c (iv 3)]),
  oV 22 (.bld [.nl 2,.nl 1] [(0,1,.t 20),(1,1,.t 21)]),
  oV 23 (.bld [.v (.int .i64 0),.v (mkS []),.v (mkS []),.v (.int .i64 0),.v (.int .i64 0),.nl 2] [(0,1,.c (iv 2)),(1,1,.c (sv [116,111,112]))]),
  oV 24 (.bslF 6 [.t 23]),
  oV 25 (.bld [.v (mkS []),.nl 6] [(1,1,.t 24)]),
  oV 26 (.bslF 2 [.t 25]),
  oV 27 (.bld [.nl 2,.nl 1] [(0,1,.t 26)]),
  oV 28 (.bslF 2 [.t 22,.t 27]),
  oV 0 (.mv (.t 28))] [1,2,3,4,5,6,7,8,9,10,11,12,13,14,15,16,17,18,19,20,21,22,23,24,25,26,27,28]
abbrev yIE:HCode:=(.seq yBg (.seq yBh .ret))
abbrev zPt:Env:={N:=29,Γ:=[],L:=29,nfix:=0}
abbrev law_looked_R:List RSrc:=[.tmp 0]
theorem yBi:zBs Tryz.prog zHt yIE zPt law_looked_R:=by kernel_rfl
end Go.Hx
end

section
/-
 The abstract code of functions of the program, printed by gen.py; each stands for the given one. No condition.
-/
namespace Go.Hx
open Go.Proofs
variable [Glob]
abbrev zG9:Nat:=8
abbrev zDV:Nat:=46
abbrev zOD:HCode:=oN [oV 0 (.mv (.c (bv false)))]
abbrev zOE:HCode:=oR [oC 8 zFL [],
  oC 9 zCR [(.t 8,.v)],
  oV 7 (.mv (.t 9)),
  oV 10 (.ext 7 0),
  oV 11 (.ext 7 1),
  oV 1 (.mv (.t 10)),
  oV 2 (.mv (.t 11))] [7,8,9,10,11]
abbrev zOF:HCode:=oR [oV 13 (.mv (.t 1)),
  oC 14 zEJ [(.t 13,.v),(.c (iv 3),.v),(.c (sv [97]),.v)],
  oV 12 (.mv (.t 14)),
  oV 15 (.ext 12 0),
  oV 16 (.ext 12 1),
  oV 3 (.mv (.t 15)),
  oV 4 (.mv (.t 16))] [12,13,14,15,16]
abbrev zOG:HCode:=oR [oC 18 zLL [],
  oC 19 zHt [],
  oC 20 zEI [(.t 18,.v),(.t 19,.v)],
  oV 17 (.mv (.t 20)),
  oV 21 (.ext 17 0),
  oV 22 (.ext 17 1),
  oV 5 (.mv (.t 21)),
  oV 6 (.mv (.t 22))] [17,18,19,20,21,22]
abbrev zOH:HCode:=oR [oV 23 (.mv (.t 2)),
  oV 24 (.ints .eql (.t 23) (.c (iv 0))),
  oV 25 (.mv (.t 24)),
  oG 25 true 26 (.mv (.t 4)),
  oG 25 true 27 (.ints .eql (.t 26) (.c (iv 0))),
  oV 28 (.pick (.t 25) (.t 27) (.c (bv false))),
  oV 29 (.mv (.t 28)),
  oG 29 true 30 (.mv (.t 6)),
  oG 29 true 31 (.ints .eql (.t 30) (.c (iv 0))),
  oV 32 (.pick (.t 29) (.t 31) (.c (bv false))),
  oV 33 (.mv (.t 32)),
  oG 33 true 34 (.mv (.t 1)),
  oG 33 true 35 (.len false (.t 34)),
  oG 33 true 36 (.ints .eql (.t 35) (.c (iv 6))),
  oV 37 (.pick (.t 33) (.t 36) (.c (bv false))),
  oV 38 (.mv (.t 37)),
  oG 38 true 39 (.mv (.t 3)),
  oG 38 true 40 (.bslF 1 [.c (iv 1),.c (iv 4)]),
  ⟨some (38,true),.call (some 41) zBZ [(.t 39,.v),(.t 40,.v)]⟩,
  oV 42 (.pick (.t 38) (.t 41) (.c (bv false))),
  oV 43 (.mv (.t 42)),
  oG 43 true 44 (.mv (.t 5)),
  oG 43 true 45 (.bslF 1 [.c (iv 0),.c (iv 2)]),
  ⟨some (43,true),.call (some 46) zBZ [(.t 44,.v),(.t 45,.v)]⟩,
  oV 47 (.pick (.t 43) (.t 46) (.c (bv false))),
  oV 0 (.mv (.t 47))] [23,24,25,26,27,28,29,30,31,32,33,34,35,36,37,38,39,40,41,42,43,44,45,46,47]
abbrev zXe:HCode:=(.seq zOD (.seq zOE (.seq zOF (.seq zOG (.seq zOH .ret)))))
abbrev zHC:Env:={N:=48,Γ:=[],L:=48,nfix:=0}
abbrev law_indexBegun_R:List RSrc:=[.tmp 0]
theorem zOI:zBs Tryz.prog zDV zXe zHC law_indexBegun_R:=by kernel_rfl
abbrev zOJ:HCode:=oN [oV 2 (.boxF (.t 0)),
  oV 4 (.mv (.c (bv false)))]
abbrev zOK:HCode:=oR [oV 10 (.ldR (.t 2) 2 true),
  oV 11 (.mv (.t 1)),
  oC 12 zEI [(.t 10,.v),(.t 11,.v)],
  oV 9 (.mv (.t 12)),
  oV 13 (.ext 9 0),
  oV 14 (.ext 9 1),
  oV 5 (.mv (.t 13)),
  oV 6 (.mv (.t 14))] [9,10,11,12,13,14]
abbrev zOL:HCode:=oR [oV 15 (.ldR (.t 2) 2 true),
  oC 16 zEl [(.t 15,.v)],
  oV 7 (.mv (.t 16))] [15,16]
abbrev zOM:HCode:=oR [oV 17 (.mv (.t 7)),
  oV 18 (.ints .eql (.t 17) (.c (iv 0)))] [17]
abbrev zON:HCode:=oR [oV 19 (.mv (.t 1)),
  oC 20 zEi [(.t 19,.v)],
  oV 7 (.mv (.t 20))] [19,20]
abbrev zOO:HCode:=oN [oV 8 (.mv (.c (.one (.nl 1))))]
abbrev zOP:HCode:=oR [oV 21 (.mv (.t 7)),
  oV 22 (.ints .eql (.t 21) (.c (iv 0)))] [21]
abbrev zOQ:HCode:=oR [oV 23 (.fldR (.t 2) 0 1),
  oV 24 (.ldR (.t 23) 1 true),
  oV 25 (.mv (.t 1)),
  oC 26 zIs [(.t 24,.v),(.t 25,.v)],
  oV 8 (.mv (.t 26))] [23,24,25,26]
abbrev zOR:HCode:=oR [oC 27 zDV [],
  oV 28 (.mv (.t 27)),
  oG 28 true 29 (.mv (.t 6)),
  oG 28 true 30 (.mv (.t 7)),
  oG 28 true 31 (.ints .eql (.t 29) (.t 30)),
  oV 32 (.pick (.t 28) (.t 31) (.c (bv false))),
  oV 33 (.mv (.t 32)),
  oG 33 true 34 (.mv (.t 5)),
  oG 33 true 35 (.mv (.t 8)),
  ⟨some (33,true),.call (some 36) zBZ [(.t 34,.v),(.t 35,.v)]⟩,
  oV 37 (.pick (.t 33) (.t 36) (.c (bv false))),
  oV 4 (.mv (.t 37))] [27,28,29,30,31,32,33,34,35,36,37]
abbrev zXf:HCode:=(.seq zOJ (.seq zOK (.seq zOL (.seq (.seq zOM (.cond (.t 18) zON .skip)) (.seq zOO (.seq (.seq zOP (.cond (.t 22) zOQ .skip)) (.seq zOR .ret)))))))
abbrev zCX:Env:={N:=38,Γ:=[],L:=38,nfix:=0}
abbrev law_IndexFinds_R:List RSrc:=[.tmp 4]
theorem zDW:zBs Tryz.prog zG9 zXf zCX law_IndexFinds_R:=by kernel_rfl
end Go.Hx
end
