/-
  Walks of functions of the program over an abstract layer, and the laws that they use: each contract says what the function computes, for every input that its conditions let by. No other condition.
-/
import Derived.Test.YtjnagiaooecklaaGreatDoorProg
import Derived.Test.YtjnagiaooecklaaGreatDoorG11
import Derived.Test.YtjnagiaooecklaaGreatDoorG10
set_option linter.all false
section
/-
 The abstract code of functions of the program, printed by gen.py; each stands for the given one. No condition.
-/
namespace Go.Hx
open Go.Proofs
variable [Glob]
abbrev zDr:Nat:=13
abbrev zES:Nat:=64
abbrev zAN:Nat:=28
abbrev zAs:Nat:=3
abbrev zGi:Nat:=9
abbrev zQB:HCode:=oN [oV 4 (.mv (.c (bv false)))]
abbrev zQC:HCode:=oR [oV 6 (.mv (.t 0)),
  oV 7 (.len false (.t 6)),
  oV 8 (.mv (.t 1)),
  oV 9 (.len false (.t 8)),
  oV 10 (.ints .neq (.t 7) (.t 9))] [6,7,8,9]
abbrev zQD:HCode:=oN [oV 4 (.mv (.c (bv false)))]
abbrev zQE:HCode:=oN [oV 5 (.mv (.c (iv 0)))]
abbrev zQF:HCode:=oR [oV 11 (.mv (.t 5)),
  oV 12 (.mv (.t 0)),
  oV 13 (.len false (.t 12)),
  oV 14 (.ints .lss (.t 11) (.t 13))] [11,12,13]
abbrev zQG:HCode:=oQ [oD 0 false (oV 17 (.mv (.t 0))),
  oD 1 false (oV 18 (.mv (.t 5))),
  oD 2 false (oV 19 (.idxA 1 (.t 17) (.t 18))),
  oD 3 false (oV 20 (.ldR (.t 19) 1 false)),
  oD 4 false (oV 21 (.mv (.t 1))),
  oD 5 false (oV 22 (.mv (.t 5))),
  oD 6 false (oV 23 (.idxA 1 (.t 21) (.t 22))),
  oD 7 false (oV 24 (.ldR (.t 23) 1 false)),
  oD 8 false (oV 25 (.ints .neq (.t 20) (.t 24)))] [17,18,19,20,21,22,23,24]
abbrev zQH:HCode:=oN [oV 4 (.mv (.c (bv false)))]
abbrev zQI:HCode:=oR [oV 15 (.mv (.t 5)),
  oV 16 (.ints .add (.t 15) (.c (iv 1))),
  oV 5 (.mv (.t 16))] [15,16]
abbrev zQJ:HCode:=oN [oV 4 (.mv (.c (bv true)))]
abbrev zYK:HCode:=(.seq zQB (.seq (.seq zQC (.cond (.t 10) (.seq zQD .ret) .skip)) (.seq (.seq zQE (.block 0 (.loop (.seq (.seq zQF (.cond (.t 14) .skip (.exit 0))) (.seq (.block 1 (.seq zQG (.cond (.t 25) (.seq zQH .ret) .skip))) zQI))))) (.seq zQJ .ret))))
abbrev zKn:Env:={N:=26,Γ:=[],L:=26,nfix:=0}
abbrev ref_SameInts_R:List RSrc:=[.tmp 4]
theorem zQK:zBE Tryz.prog zDr zYK zKn ref_SameInts_R:=by kernel_rfl
end Go.Hx
end

section
/-
 The abstract code of functions of the program, printed by gen.py; each stands for the given one. No condition.
-/
namespace Go.Hx
open Go.Proofs
variable [Glob]
abbrev zB9:Nat:=14
abbrev zG7:Nat:=42
abbrev zEu:Nat:=94
abbrev zEv:Nat:=96
abbrev zDs:Nat:=98
abbrev zG8:Nat:=31
abbrev zCw:Nat:=74
abbrev zDt:Nat:=75
abbrev zCx:Nat:=92
abbrev zFs:Nat:=80
abbrev zG9:Nat:=33
abbrev zCy:Nat:=79
abbrev zFt:Nat:=99
abbrev zCG:Nat:=73
abbrev zKF:Nat:=72
abbrev zCn:Nat:=77
abbrev zCz:Nat:=95
abbrev zC6:Nat:=93
abbrev zFu:Nat:=78
abbrev zIc:Nat:=56
abbrev zA8:Nat:=25
abbrev zAW:Nat:=24
abbrev zBN:Nat:=76
abbrev zBF:Nat:=97
abbrev zKG:Nat:=138
abbrev zA3:Nat:=148
abbrev zHs:HCode:=oN [⟨none,.nlo 2 zGi 1⟩]
abbrev zHt:HCode:=oR [oV 3 (.mv (.t 0)),
  ⟨none,.isn 4 false (.t 3)⟩] [3]
abbrev zHu:HCode:=oN [⟨none,.nlo 2 zGi 1⟩]
abbrev zHv:HCode:=oR [⟨none,.bsl 5 zGi 1 []⟩,
  oV 6 (.mv (.t 0)),
  ⟨none,.app 7 zGi 1 (.t 5) (.t 6)⟩,
  ⟨none,.mvo 2 7⟩] [5,6,7]
abbrev zKH:HCode:=(.seq zHs (.seq (.seq zHt (.cond (.t 4) (.seq zHu .ret) .skip)) (.seq zHv .ret)))
abbrev zD4:Env:={N:=8,Γ:=[],L:=8,nfix:=0}
abbrev slices_Clone_string_R:List RSrc:=[.tmp 2]
theorem zHw:zBE Tryz.prog zAW zKH zD4 slices_Clone_string_R:=by kernel_rfl
abbrev zJI:HCode:=oN [⟨none,.nlo 2 zES 2⟩]
abbrev zJJ:HCode:=oR [oV 3 (.mv (.t 0)),
  ⟨none,.isn 4 false (.t 3)⟩] [3]
abbrev zJK:HCode:=oN [⟨none,.nlo 2 zES 2⟩]
abbrev zJL:HCode:=oR [⟨none,.bsl 5 zES 2 []⟩,
  oV 6 (.mv (.t 0)),
  ⟨none,.app 7 zES 2 (.t 5) (.t 6)⟩,
  ⟨none,.mvo 2 7⟩] [5,6,7]
abbrev zNs:HCode:=(.seq zJI (.seq (.seq zJJ (.cond (.t 4) (.seq zJK .ret) .skip)) (.seq zJL .ret)))
abbrev zET:Env:={N:=8,Γ:=[],L:=8,nfix:=0}
abbrev slices_Clone_Attr_R:List RSrc:=[.tmp 2]
theorem zJM:zBE Tryz.prog zA8 zNs zET slices_Clone_Attr_R:=by kernel_rfl
abbrev zGj:HCode:=oN [oV 4 (.mv (.c (iv 0)))]
abbrev zGk:HCode:=oR [oV 6 (.mv (.t 0)),
  oV 7 (.len false (.t 6)),
  oV 8 (.mv (.c (iv 0)))] [6]
abbrev zGl:HCode:=oN [oV 9 (.ints .lss (.t 8) (.t 7))]
abbrev zGm:HCode:=oR [oV 10 (.mv (.t 8)),
  oV 5 (.mv (.t 10))] [10]
abbrev zGn:HCode:=oR [oV 11 (.mv (.t 1)),
  oV 12 (.mv (.t 0)),
  oV 13 (.mv (.t 5)),
  oV 14 (.idxA 2 (.t 12) (.t 13)),
  oV 15 (.ldR (.t 14) 2 true),
  ⟨none,.callv (some 16) (.t 11) [(.t 15,.v)]⟩] [11,12,13,14,15]
abbrev zGo:HCode:=oR [oV 17 (.mv (.t 5)),
  oV 4 (.mv (.t 17))] [17]
abbrev zGp:HCode:=oR [oV 18 (.ints .add (.t 8) (.c (iv 1))),
  oV 8 (.mv (.t 18))] [18]
abbrev zGq:HCode:=oN [oV 4 (.mv (.c (iv (-1))))]
abbrev zId:HCode:=(.seq zGj (.seq (.seq zGk (.block 0 (.loop (.seq zGl (.seq (.cond (.t 9) .skip (.exit 0)) (.seq (.block 1 (.seq zGm (.seq zGn (.cond (.t 16) (.seq zGo .ret) .skip)))) zGp)))))) (.seq zGq .ret)))
abbrev zCc:Env:={N:=19,Γ:=[],L:=19,nfix:=0}
abbrev slices_IndexFunc_Attr_R:List RSrc:=[.tmp 4]
theorem zDe:zBE Tryz.prog zA3 zId zCc slices_IndexFunc_Attr_R:=by kernel_rfl
abbrev zEU:HCode:=oN [oV 4 (.mv (.c (bv false)))]
abbrev zEV:HCode:=oR [oV 5 (.mv (.t 0)),
  oV 6 (.mv (.t 1)),
  oC 7 zA3 [(.t 5,.v),(.t 6,.v)],
  oV 8 (.ints .geq (.t 7) (.c (iv 0))),
  oV 4 (.mv (.t 8))] [5,6,7,8]
abbrev zGr:HCode:=(.seq zEU (.seq zEV .ret))
abbrev zCM:Env:={N:=9,Γ:=[],L:=9,nfix:=0}
abbrev slices_ContainsFunc_Attr_R:List RSrc:=[.tmp 4]
theorem zEW:zBE Tryz.prog zBF zGr zCM slices_ContainsFunc_Attr_R:=by kernel_rfl
abbrev zKI:HCode:=oN [oV 4 (.mv (.c (bv false)))]
abbrev zKJ:HCode:=oN [oV 5 (.mv (.c (sv [])))]
abbrev zKK:HCode:=oN [oV 8 (.mv (.t 0)),
  oV 9 (.len false (.t 8)),
  oV 10 (.mv (.c (iv 0)))]
abbrev zKL:HCode:=oN [oV 11 (.ints .lss (.t 10) (.t 9))]
abbrev zKM:HCode:=oR [oV 12 (.idxA 1 (.t 8) (.t 10)),
  oV 13 (.ldR (.t 12) 1 false),
  oV 7 (.mv (.t 13))] [12,13]
abbrev zKN:HCode:=oR [oV 14 (.mv (.t 1)),
  oV 15 (.mv (.t 7)),
  ⟨none,.callv (some 16) (.t 14) [(.t 15,.v)]⟩,
  oC 17 zCx [(.t 16,.v)],
  oV 18 (.not (.t 17)),
  oV 19 (.mv (.t 18)),
  oG 19 false 20 (.mv (.t 1)),
  oG 19 false 21 (.mv (.t 7)),
  ⟨some (19,false),.callv (some 22) (.t 20) [(.t 21,.v)]⟩,
  oG 19 false 23 (.mv (.t 5)),
  oG 19 false 24 (.strs .leq (.t 22) (.t 23)),
  oV 25 (.pick (.t 19) (.c (bv true)) (.t 24))] [14,15,16,17,18,19,20,21,22,23,24]
abbrev zKO:HCode:=oN [oV 4 (.mv (.c (bv false)))]
abbrev zKP:HCode:=oR [oV 26 (.mv (.t 1)),
  oV 27 (.mv (.t 7)),
  ⟨none,.callv (some 28) (.t 26) [(.t 27,.v)]⟩,
  oV 5 (.mv (.t 28))] [26,27,28]
abbrev zKQ:HCode:=oR [oV 29 (.ints .add (.t 10) (.c (iv 1))),
  oV 10 (.mv (.t 29))] [29]
abbrev zKR:HCode:=oN [oV 4 (.mv (.c (bv true)))]
abbrev zOI:HCode:=(.seq zKI (.seq zKJ (.seq (.seq zKK (.block 0 (.loop (.seq zKL (.seq (.cond (.t 11) .skip (.exit 0)) (.seq (.block 1 (.seq zKM (.seq (.seq zKN (.cond (.t 25) (.seq zKO .ret) .skip)) zKP))) zKQ)))))) (.seq zKR .ret))))
abbrev zFv:Env:={N:=30,Γ:=[],L:=30,nfix:=0}
abbrev doc_rises_string_R:List RSrc:=[.tmp 4]
theorem zKS:zBE Tryz.prog zC6 zOI zFv doc_rises_string_R:=by kernel_rfl
abbrev zIe:HCode:=oN [oV 4 (.mv (.c (bv false)))]
abbrev zIf:HCode:=oN [oV 5 (.mv (.c (sv [])))]
abbrev zIg:HCode:=oN [oV 8 (.mv (.t 0)),
  oV 9 (.len false (.t 8)),
  oV 10 (.mv (.c (iv 0)))]
abbrev zIh:HCode:=oN [oV 11 (.ints .lss (.t 10) (.t 9))]
abbrev zIi:HCode:=oR [oV 12 (.idxA 2 (.t 8) (.t 10)),
  oV 13 (.ldR (.t 12) 2 true),
  ⟨none,.alloc 7 0 30 [.v (mkS []),.v (mkS [])]⟩,
  ⟨none,.sto (.t 7) 0 30 0 2 (.t 13)⟩] [12,13]
abbrev zIj:HCode:=oR [oV 14 (.mv (.t 1)),
  oV 15 (.ldB (.t 7) 0 30 0 2 true),
  ⟨none,.callv (some 16) (.t 14) [(.t 15,.v)]⟩,
  oC 17 zCx [(.t 16,.v)],
  oV 18 (.not (.t 17)),
  oV 19 (.mv (.t 18)),
  oG 19 false 20 (.mv (.t 1)),
  oG 19 false 21 (.ldB (.t 7) 0 30 0 2 true),
  ⟨some (19,false),.callv (some 22) (.t 20) [(.t 21,.v)]⟩,
  oG 19 false 23 (.mv (.t 5)),
  oG 19 false 24 (.strs .leq (.t 22) (.t 23)),
  oV 25 (.pick (.t 19) (.c (bv true)) (.t 24))] [14,15,16,17,18,19,20,21,22,23,24]
abbrev zIk:HCode:=oN [oV 4 (.mv (.c (bv false)))]
abbrev zIl:HCode:=oR [oV 26 (.mv (.t 1)),
  oV 27 (.ldB (.t 7) 0 30 0 2 true),
  ⟨none,.callv (some 28) (.t 26) [(.t 27,.v)]⟩,
  oV 5 (.mv (.t 28))] [26,27,28]
abbrev zIm:HCode:=oR [oV 29 (.ints .add (.t 10) (.c (iv 1))),
  oV 10 (.mv (.t 29))] [29]
abbrev zIn:HCode:=oN [oV 4 (.mv (.c (bv true)))]
abbrev zLR:HCode:=(.seq zIe (.seq zIf (.seq (.seq zIg (.block 0 (.loop (.seq zIh (.seq (.cond (.t 11) .skip (.exit 0)) (.seq (.block 1 (.seq zIi (.seq (.seq zIj (.cond (.t 25) (.seq zIk .ret) .skip)) zIl))) zIm)))))) (.seq zIn .ret))))
abbrev zEl:Env:={N:=30,Γ:=[(30,2)],L:=32,nfix:=0}
abbrev doc_rises_api_Attr_R:List RSrc:=[.tmp 4]
theorem zIo:zBE Tryz.prog zCz zLR zEl doc_rises_api_Attr_R:=by kernel_rfl
abbrev yBt:HCode:=oN [oV 1 (.boxF (.t 0)),
  oV 2 (.mv (.c (bv false)))]
abbrev yBu:HCode:=oR [oV 3 (.fldR (.t 1) 1 1),
  oV 4 (.ldR (.t 3) 1 false),
  oC 5 zCx [(.t 4,.v)],
  oV 6 (.mv (.t 5)),
  oG 6 true 7 (.fldR (.t 1) 2 1),
  oG 6 true 8 (.ldR (.t 7) 1 false),
  oG 6 true 9 (.strs .eql (.t 8) (.c (sv []))),
  oG 6 true 10 (.mv (.t 9)),
  oG 10 false 11 (.fldR (.t 1) 2 1),
  oG 10 false 12 (.ldR (.t 11) 1 false),
  ⟨some (10,false),.call (some 13) zCx [(.t 12,.v)]⟩,
  oG 6 true 14 (.pick (.t 10) (.c (bv true)) (.t 13)),
  oV 15 (.pick (.t 6) (.t 14) (.c (bv false))),
  oV 16 (.mv (.t 15)),
  oG 16 true 17 (.fldR (.t 1) 3 1),
  oG 16 true 18 (.ldR (.t 17) 1 false),
  oG 16 true 19 (.len false (.t 18)),
  oG 16 true 20 (.ints .leq (.t 19) (.c (iv 6))),
  oV 21 (.pick (.t 16) (.t 20) (.c (bv false))),
  oV 22 (.mv (.t 21)),
  oG 22 true 23 (.fldR (.t 1) 4 1),
  oG 22 true 24 (.ldR (.t 23) 1 false),
  oG 22 true 25 (.len false (.t 24)),
  oG 22 true 26 (.ints .leq (.t 25) (.c (iv 4))),
  oV 27 (.pick (.t 22) (.t 26) (.c (bv false))),
  oV 28 (.mv (.t 27)),
  oG 28 true 29 (.fldR (.t 1) 3 1),
  oG 28 true 30 (.ldR (.t 29) 1 false),
  ⟨some (28,true),.call (some 31) zC6 [(.t 30,.v),(.f zEu,.v)]⟩,
  oV 32 (.pick (.t 28) (.t 31) (.c (bv false))),
  oV 33 (.mv (.t 32)),
  oG 33 true 34 (.fldR (.t 1) 4 1),
  oG 33 true 35 (.ldR (.t 34) 1 false),
  ⟨some (33,true),.call (some 36) zCz [(.t 35,.v),(.f zEv,.v)]⟩,
  oV 37 (.pick (.t 33) (.t 36) (.c (bv false))),
  oV 38 (.mv (.t 37)),
  oG 38 true 39 (.fldR (.t 1) 4 1),
  oG 38 true 40 (.ldR (.t 39) 1 false),
  ⟨some (38,true),.call (some 41) zBF [(.t 40,.v),(.f zDs,.v)]⟩,
  oG 38 true 42 (.not (.t 41)),
  oV 43 (.pick (.t 38) (.t 42) (.c (bv false))),
  oV 2 (.mv (.t 43))] [3,4,5,6,7,8,9,10,11,12,13,14,15,16,17,18,19,20,21,22,23,24,25,26,27,28,29,30,31,32,33,34,35,36,37,38,39,40,41,42,43]
abbrev yII:HCode:=(.seq yBt (.seq yBu .ret))
abbrev zUD:Env:={N:=44,Γ:=[],L:=44,nfix:=0}
abbrev doc_Fine_R:List RSrc:=[.tmp 2]
theorem yBv:zBE Tryz.prog zG7 yII zUD doc_Fine_R:=by kernel_rfl
abbrev zVR:HCode:=oN [oV 2 (.mv (.c (sv [])))]
abbrev zVS:HCode:=oR [oV 3 (.mv (.t 0)),
  oV 2 (.mv (.t 3))] [3]
abbrev yEL:HCode:=(.seq zVR (.seq zVS .ret))
abbrev zOk:Env:={N:=4,Γ:=[],L:=4,nfix:=0}
abbrev doc_Fine_1_R:List RSrc:=[.tmp 2]
theorem zVT:zBE Tryz.prog zEu yEL zOk doc_Fine_1_R:=by kernel_rfl
abbrev zVU:HCode:=oN [oV 1 (.boxF (.t 0)),
  oV 2 (.mv (.c (sv [])))]
abbrev zVV:HCode:=oR [oV 3 (.fldR (.t 1) 0 1),
  oV 4 (.ldR (.t 3) 1 false),
  oV 2 (.mv (.t 4))] [3,4]
abbrev yEM:HCode:=(.seq zVU (.seq zVV .ret))
abbrev zOl:Env:={N:=5,Γ:=[],L:=5,nfix:=0}
abbrev doc_Fine_2_R:List RSrc:=[.tmp 2]
theorem zVW:zBE Tryz.prog zEv yEM zOl doc_Fine_2_R:=by kernel_rfl
abbrev zVX:HCode:=oN [oV 1 (.boxF (.t 0)),
  oV 2 (.mv (.c (bv false)))]
abbrev zVY:HCode:=oR [oV 3 (.fldR (.t 1) 1 1),
  oV 4 (.ldR (.t 3) 1 false),
  oC 5 zFt [(.t 4,.v)],
  oV 6 (.not (.t 5)),
  oV 2 (.mv (.t 6))] [3,4,5,6]
abbrev yEN:HCode:=(.seq zVX (.seq zVY .ret))
abbrev zOm:Env:={N:=7,Γ:=[],L:=7,nfix:=0}
abbrev doc_Fine_3_R:List RSrc:=[.tmp 2]
theorem zVZ:zBE Tryz.prog zDs yEN zOm doc_Fine_3_R:=by kernel_rfl
abbrev zYL:HCode:=oN [oV 1 (.boxF (.t 0)),
  oV 2 (.mv (.c (iv 0)))]
abbrev zYM:HCode:=oR [oV 6 (.fldR (.t 1) 0 1),
  oV 7 (.ldR (.t 6) 1 false),
  oV 8 (.len false (.t 7)),
  oV 9 (.ints .lss (.t 8) (.c (iv 1))),
  oV 10 (.mv (.t 9)),
  oG 10 false 11 (.fldR (.t 1) 0 1),
  oG 10 false 12 (.ldR (.t 11) 1 false),
  oG 10 false 13 (.len false (.t 12)),
  oG 10 false 14 (.ints .gtr (.t 13) (.c (iv 64))),
  oV 15 (.pick (.t 10) (.c (bv true)) (.t 14))] [6,7,8,9,10,11,12,13,14]
abbrev zYN:HCode:=oN [oV 2 (.mv (.c (iv 2)))]
abbrev zYO:HCode:=oN [⟨none,.nlk 3 zAs 1⟩]
abbrev zYP:HCode:=oR [oV 16 (.fldR (.t 1) 0 1),
  oV 17 (.ldR (.t 16) 1 false),
  oV 18 (.len false (.t 17)),
  oV 19 (.mv (.c (iv 0)))] [16]
abbrev zYQ:HCode:=oN [oV 20 (.ints .lss (.t 19) (.t 18))]
abbrev zYR:HCode:=.reg [oV 21 (.mv (.t 19)),
  oV 22 (.idxA 5 (.t 17) (.t 19)),
  oV 23 (.ldR (.t 22) 5 true),
  ⟨none,.alloc 5 0 69 [.v (.int .i64 0),.v (mkS []),.v (mkS []),.nl 1,.nl 2]⟩,
  oV 4 (.mv (.t 21)),
  ⟨none,.sto (.t 5) 0 69 0 5 (.t 23)⟩] false [.frz 0 69 5,.forget [21,22,23]]
abbrev zYS:HCode:=.rdr 3 [oV 24 (.mv (.t 3)),
  oV 25 (.len false (.t 24)),
  oV 26 (.ints .gtr (.t 25) (.c (iv 0))),
  oV 27 (.mv (.t 26)),
  oG 27 true 28 (.mv (.t 3)),
  oG 27 true 29 (.mv (.t 3)),
  oG 27 true 30 (.len false (.t 29)),
  oG 27 true 31 (.ints .sub (.t 30) (.c (iv 1))),
  oG 27 true 32 (.idxA 1 (.t 28) (.t 31)),
  oG 27 true 33 (.ldR (.t 32) 1 false),
  oG 27 true 34 (.fldR (.t 5) 0 1),
  oG 27 true 35 (.ldR (.t 34) 1 false),
  oG 27 true 36 (.ints .neq (.t 33) (.t 35)),
  oV 37 (.pick (.t 27) (.t 36) (.c (bv false)))] true [.forget [24,25,26,27,28,29,30,31,32,33,34,35,36]]
abbrev zYT:HCode:=oR [⟨none,.mvk 38 3⟩,
  oV 39 (.mv (.t 3)),
  oV 40 (.len false (.t 39)),
  oV 41 (.ints .sub (.t 40) (.c (iv 1))),
  ⟨none,.trk 42 38 (.t 41)⟩,
  ⟨none,.mvk 3 42⟩] [38,39,40,41,42]
abbrev zYU:HCode:=.rdr 3 [oV 43 (.ldR (.t 5) 5 true),
  oC 44 zG7 [(.t 43,.v)],
  oV 45 (.not (.t 44)),
  oV 46 (.mv (.t 45)),
  oG 46 false 47 (.mv (.t 4)),
  oG 46 false 48 (.ints .eql (.t 47) (.c (iv 0))),
  oG 46 false 49 (.mv (.t 48)),
  oG 49 true 50 (.fldR (.t 5) 0 1),
  oG 49 true 51 (.ldR (.t 50) 1 false),
  oG 49 true 52 (.ints .neq (.t 51) (.c (iv (-1)))),
  oG 46 false 53 (.pick (.t 49) (.t 52) (.c (bv false))),
  oV 54 (.pick (.t 46) (.c (bv true)) (.t 53)),
  oV 55 (.mv (.t 54)),
  oG 55 false 56 (.mv (.t 4)),
  oG 55 false 57 (.ints .gtr (.t 56) (.c (iv 0))),
  oG 55 false 58 (.mv (.t 57)),
  oG 58 true 59 (.mv (.t 3)),
  oG 58 true 60 (.len false (.t 59)),
  oG 58 true 61 (.ints .eql (.t 60) (.c (iv 0))),
  oG 55 false 62 (.pick (.t 58) (.t 61) (.c (bv false))),
  oV 63 (.pick (.t 55) (.c (bv true)) (.t 62))] false [.forget [43,44,45,46,47,48,49,50,51,52,53,54,55,56,57,58,59,60,61,62]]
abbrev zV0:HCode:=oN [oV 2 (.mv (.c (iv 1)))]
abbrev zV1:HCode:=oR [⟨none,.mvk 64 3⟩,
  oV 65 (.mv (.t 4)),
  oV 66 (.bslF 1 [.t 65]),
  ⟨none,.apk 67 zAs 1 64 (.t 66)⟩,
  ⟨none,.mvk 3 67⟩] [64,65,66,67]
abbrev zV2:HCode:=oR [oV 68 (.ints .add (.t 19) (.c (iv 1))),
  oV 19 (.mv (.t 68))] [68]
abbrev zV3:HCode:=oN [oV 2 (.mv (.c (iv 0)))]
abbrev yGF:HCode:=(.seq zYL (.seq (.seq zYM (.cond (.t 15) (.seq zYN .ret) .skip)) (.seq zYO (.seq (.seq zYP (.block 0 (.loop (.seq zYQ (.seq (.cond (.t 20) .skip (.exit 0)) (.seq (.block 1 (.seq zYR (.seq (.block 2 (.loop (.seq (.seq zYS (.cond (.t 37) .skip (.exit 2))) (.block 3 zYT)))) (.seq (.seq zYU (.cond (.t 63) (.seq zV0 .ret) .skip)) zV1)))) zV2)))))) (.seq zV3 .ret)))))
abbrev zQL:Env:={N:=69,Γ:=[(69,5)],L:=74,nfix:=0}
abbrev doc_Check_R:List RSrc:=[.tmp 2]
theorem zYV:zBE Tryz.prog zB9 yGF zQL doc_Check_R:=by kernel_rfl
abbrev zV4:HCode:=oN [oV 2 (.boxF (.t 0)),
  oV 4 (.mv (.c (iv 0)))]
abbrev zV5:HCode:=oR [oV 6 (.mv (.t 1)),
  oV 7 (.ints .add (.t 6) (.c (iv 1))),
  oV 5 (.mv (.t 7))] [6,7]
abbrev zV6:HCode:=oR [oV 8 (.mv (.t 5)),
  oV 9 (.fldR (.t 2) 0 1),
  oV 10 (.ldR (.t 9) 1 false),
  oV 11 (.len false (.t 10)),
  oV 12 (.ints .lss (.t 8) (.t 11)),
  oV 13 (.mv (.t 12)),
  oG 13 true 14 (.fldR (.t 2) 0 1),
  oG 13 true 15 (.ldR (.t 14) 1 false),
  oG 13 true 16 (.mv (.t 5)),
  oG 13 true 17 (.idxA 5 (.t 15) (.t 16)),
  oG 13 true 18 (.fldR (.t 17) 0 1),
  oG 13 true 19 (.ldR (.t 18) 1 false),
  oG 13 true 20 (.mv (.t 1)),
  oG 13 true 21 (.ints .geq (.t 19) (.t 20)),
  oV 22 (.pick (.t 13) (.t 21) (.c (bv false)))] [8,9,10,11,12,13,14,15,16,17,18,19,20,21]
abbrev zV7:HCode:=oR [oV 23 (.mv (.t 5)),
  oV 24 (.ints .add (.t 23) (.c (iv 1))),
  oV 5 (.mv (.t 24))] [23,24]
abbrev zV8:HCode:=oR [oV 25 (.mv (.t 5)),
  oV 4 (.mv (.t 25))] [25]
abbrev yEO:HCode:=(.seq zV4 (.seq zV5 (.seq (.block 0 (.loop (.seq (.seq zV6 (.cond (.t 22) .skip (.exit 0))) (.block 1 zV7)))) (.seq zV8 .ret))))
abbrev zOn:Env:={N:=26,Γ:=[],L:=26,nfix:=0}
abbrev doc_behind_R:List RSrc:=[.tmp 4]
theorem zV9:zBE Tryz.prog zCG yEO zOn doc_behind_R:=by kernel_rfl
abbrev zYW:HCode:=oN [oV 2 (.boxF (.t 0)),
  oV 4 (.mv (.c (iv 0)))]
abbrev zYX:HCode:=oR [oV 6 (.ldR (.t 2) 1 true),
  oC 7 zB9 [(.t 6,.v)],
  oV 5 (.mv (.t 7))] [6,7]
abbrev zYY:HCode:=oR [oV 8 (.mv (.t 5)),
  oV 9 (.ints .neq (.t 8) (.c (iv 0)))] [8]
abbrev zYZ:HCode:=oR [oV 10 (.mv (.t 5)),
  oV 4 (.mv (.t 10))] [10]
abbrev zY0:HCode:=oR [oV 11 (.mv (.t 1)),
  oV 12 (.ints .lss (.t 11) (.c (iv 0))),
  oV 13 (.mv (.t 12)),
  oG 13 false 14 (.mv (.t 1)),
  oG 13 false 15 (.fldR (.t 2) 0 1),
  oG 13 false 16 (.ldR (.t 15) 1 false),
  oG 13 false 17 (.len false (.t 16)),
  oG 13 false 18 (.ints .geq (.t 14) (.t 17)),
  oV 19 (.pick (.t 13) (.c (bv true)) (.t 18))] [11,12,13,14,15,16,17,18]
abbrev zY1:HCode:=oN [oV 4 (.mv (.c (iv 5)))]
abbrev zY2:HCode:=oN [oV 4 (.mv (.c (iv 0)))]
abbrev yGG:HCode:=(.seq zYW (.seq (.seq zYX (.seq zYY (.cond (.t 9) (.seq zYZ .ret) .skip))) (.seq (.seq zY0 (.cond (.t 19) (.seq zY1 .ret) .skip)) (.seq zY2 .ret))))
abbrev zQM:Env:={N:=20,Γ:=[],L:=20,nfix:=0}
abbrev doc_there_R:List RSrc:=[.tmp 4]
theorem zY3:zBE Tryz.prog zFu yGG zQM doc_there_R:=by kernel_rfl
abbrev yBw:HCode:=oN [oV 2 (.boxF (.t 0)),
  ⟨none,.nlo 4 zAs 1⟩]
abbrev yBx:HCode:=oN [⟨none,.nlo 5 zAs 1⟩]
abbrev yBy:HCode:=oR [oV 7 (.mv (.t 1)),
  oV 8 (.ints .add (.t 7) (.c (iv 1))),
  oV 6 (.mv (.t 8))] [7,8]
abbrev yBz:HCode:=oR [oV 9 (.mv (.t 6)),
  oV 10 (.ldR (.t 2) 1 true),
  oV 11 (.mv (.t 1)),
  oC 12 zCG [(.t 10,.v),(.t 11,.v)],
  oV 13 (.ints .lss (.t 9) (.t 12))] [9,10,11,12]
abbrev yBA:HCode:=oR [⟨none,.mvo 17 5⟩,
  oV 18 (.mv (.t 6)),
  oV 19 (.bslF 1 [.t 18]),
  ⟨none,.app 20 zAs 1 (.t 17) (.t 19)⟩,
  ⟨none,.mvo 5 20⟩] [17,18,19,20]
abbrev yBB:HCode:=oR [oV 14 (.ldR (.t 2) 1 true),
  oV 15 (.mv (.t 6)),
  oC 16 zCG [(.t 14,.v),(.t 15,.v)],
  oV 6 (.mv (.t 16))] [14,15,16]
abbrev yBC:HCode:=oR [⟨none,.mvo 21 5⟩,
  ⟨none,.mvo 4 21⟩] [21]
abbrev yIJ:HCode:=(.seq yBw (.seq yBx (.seq (.seq yBy (.block 0 (.loop (.seq (.seq yBz (.cond (.t 13) .skip (.exit 0))) (.seq (.block 1 yBA) yBB))))) (.seq yBC .ret))))
abbrev zUE:Env:={N:=22,Γ:=[],L:=22,nfix:=0}
abbrev doc_kids_R:List RSrc:=[.tmp 4]
theorem yBD:zBE Tryz.prog zKF yIJ zUE doc_kids_R:=by kernel_rfl
abbrev yEP:HCode:=oN [⟨none,.nlo 4 zAN 5⟩]
abbrev yEQ:HCode:=oN [⟨none,.nlo 5 zAN 5⟩]
abbrev yER:HCode:=oN [oV 8 (.mv (.t 0)),
  oV 9 (.len false (.t 8)),
  oV 10 (.mv (.c (iv 0)))]
abbrev yES:HCode:=oN [oV 11 (.ints .lss (.t 10) (.t 9))]
abbrev yET:HCode:=oR [oV 12 (.idxA 5 (.t 8) (.t 10)),
  oV 13 (.ldR (.t 12) 5 true),
  ⟨none,.alloc 7 0 33 [.v (.int .i64 0),.v (mkS []),.v (mkS []),.nl 1,.nl 2]⟩,
  ⟨none,.sto (.t 7) 0 33 0 5 (.t 13)⟩] [12,13]
abbrev yEU:HCode:=oQ [oD 0 false (oV 14 (.mv (.t 1))),
  oD 1 false (oV 15 (.fldP (.t 7) 0)),
  oD 2 false (oV 16 (.ldB (.t 15) 0 33 0 1 false)),
  oD 3 false ⟨none,.callv (some 17) (.t 14) [(.t 16,.v)]⟩,
  oD 4 false (oV 18 (.fldP (.t 7) 3)),
  oD 5 false (oV 19 (.ldB (.t 18) 0 33 3 1 false)),
  oD 6 false (oC 20 zAW [(.t 19,.v)]),
  oD 7 false (oV 21 (.fldP (.t 7) 4)),
  oD 8 false (oV 22 (.ldB (.t 21) 0 33 4 1 false)),
  oD 9 false (oC 23 zA8 [(.t 22,.v)]),
  oD 10 false (oV 24 (.fldP (.t 7) 0)),
  oD 11 false ⟨none,.sto (.t 24) 0 33 0 1 (.t 17)⟩,
  oD 12 false (oV 25 (.fldP (.t 7) 3)),
  oD 13 false ⟨none,.sto (.t 25) 0 33 3 1 (.t 20)⟩,
  oD 14 false (oV 26 (.fldP (.t 7) 4)),
  oD 15 false ⟨none,.sto (.t 26) 0 33 4 1 (.t 23)⟩] [14,15,16,17,18,19,20,21,22,23,24,25,26]
abbrev yEV:HCode:=oR [⟨none,.mvo 27 5⟩,
  oV 28 (.ldB (.t 7) 0 33 0 5 true),
  oV 29 (.bslF 5 [.t 28]),
  ⟨none,.app 30 zAN 5 (.t 27) (.t 29)⟩,
  ⟨none,.mvo 5 30⟩] [27,28,29,30]
abbrev yEW:HCode:=oR [oV 31 (.ints .add (.t 10) (.c (iv 1))),
  oV 10 (.mv (.t 31))] [31]
abbrev yEX:HCode:=oR [⟨none,.mvo 32 5⟩,
  ⟨none,.mvo 4 32⟩] [32]
abbrev yLa:HCode:=(.seq yEP (.seq yEQ (.seq (.seq yER (.block 0 (.loop (.seq yES (.seq (.cond (.t 11) .skip (.exit 0)) (.seq (.block 1 (.seq yET (.seq yEU yEV))) yEW)))))) (.seq yEX .ret))))
abbrev zY4:Env:={N:=33,Γ:=[(33,5)],L:=38,nfix:=0}
abbrev doc_own_R:List RSrc:=[.tmp 4]
theorem yEY:zBE Tryz.prog zCn yLa zY4 doc_own_R:=by kernel_rfl
abbrev zWa:HCode:=oN [oV 4 (.boxF (.t 0)),
  oV 5 (.boxF (.t 1)),
  oV 7 (.boxF (.t 3)),
  ⟨none,.alloc 8 0 89 [.nl 5]⟩,
  oV 9 (.mv (.c (iv 0)))]
abbrev zWb:HCode:=oR [oV 16 (.ldR (.t 4) 1 true),
  oC 17 zB9 [(.t 16,.v)],
  oV 10 (.mv (.t 17))] [16,17]
abbrev zWc:HCode:=oR [oV 18 (.mv (.t 10)),
  oV 19 (.ints .neq (.t 18) (.c (iv 0)))] [18]
abbrev zWd:HCode:=oR [oV 20 (.bld [.nl 5] []),
  oV 21 (.mv (.t 10)),
  ⟨none,.sto (.t 8) 0 89 0 1 (.t 20)⟩,
  oV 9 (.mv (.t 21))] [20,21]
abbrev zWe:HCode:=oR [oV 22 (.ldR (.t 7) 1 true),
  oC 23 zB9 [(.t 22,.v)],
  oV 11 (.mv (.t 23))] [22,23]
abbrev zWf:HCode:=oR [oV 24 (.mv (.t 11)),
  oV 25 (.ints .neq (.t 24) (.c (iv 0)))] [24]
abbrev zWg:HCode:=oR [oV 26 (.bld [.nl 5] []),
  oV 27 (.mv (.t 11)),
  ⟨none,.sto (.t 8) 0 89 0 1 (.t 26)⟩,
  oV 9 (.mv (.t 27))] [26,27]
abbrev zWh:HCode:=oR [oV 28 (.ldR (.t 5) 1 false),
  oV 29 (.ints .lss (.t 28) (.c (iv 0))),
  oV 30 (.mv (.t 29)),
  oG 30 false 31 (.ldR (.t 5) 1 false),
  oG 30 false 32 (.fldR (.t 4) 0 1),
  oG 30 false 33 (.ldR (.t 32) 1 false),
  oG 30 false 34 (.len false (.t 33)),
  oG 30 false 35 (.ints .geq (.t 31) (.t 34)),
  oV 36 (.pick (.t 30) (.c (bv true)) (.t 35))] [28,29,30,31,32,33,34,35]
abbrev zWi:HCode:=oR [oV 37 (.bld [.nl 5] []),
  ⟨none,.sto (.t 8) 0 89 0 1 (.t 37)⟩,
  oV 9 (.mv (.c (iv 5)))] [37]
abbrev zWj:HCode:=oQ [oD 0 false (oV 38 (.ldR (.t 4) 1 true)),
  oD 1 false (oV 39 (.ldR (.t 5) 1 false)),
  oD 2 false (oC 40 zKF [(.t 38,.v),(.t 39,.v)]),
  oD 3 false (oV 41 (.ldR (.t 4) 1 true)),
  oD 4 false (oV 42 (.ldR (.t 5) 1 false)),
  oD 5 true (oC 43 zCG [(.t 41,.v),(.t 42,.v)]),
  oD 6 false (oV 44 (.bslF 1 [.t 43])),
  oD 7 false ⟨none,.app 45 zAs 1 (.t 40) (.t 44)⟩,
  oD 8 false (oV 12 (.mv (.t 45)))] [38,39,40,41,42,43,44,45]
abbrev zSN:HCode:=oR [oV 46 (.mv (.t 2)),
  oV 47 (.ints .lss (.t 46) (.c (iv 0))),
  oV 48 (.mv (.t 47)),
  oG 48 false 49 (.mv (.t 2)),
  oG 48 false 50 (.mv (.t 12)),
  oG 48 false 51 (.len false (.t 50)),
  oG 48 false 52 (.ints .geq (.t 49) (.t 51)),
  oV 53 (.pick (.t 48) (.c (bv true)) (.t 52))] [46,47,48,49,50,51,52]
abbrev zSO:HCode:=oR [oV 54 (.bld [.nl 5] []),
  ⟨none,.sto (.t 8) 0 89 0 1 (.t 54)⟩,
  oV 9 (.mv (.c (iv 3)))] [54]
abbrev zSP:HCode:=oR [oV 55 (.fldR (.t 4) 0 1),
  oV 56 (.ldR (.t 55) 1 false),
  oV 57 (.len false (.t 56)),
  oV 58 (.fldR (.t 7) 0 1),
  oV 59 (.ldR (.t 58) 1 false),
  oV 60 (.len false (.t 59)),
  oV 61 (.ints .add (.t 57) (.t 60)),
  oV 62 (.ints .gtr (.t 61) (.c (iv 64)))] [55,56,57,58,59,60,61]
abbrev zSQ:HCode:=oR [oV 63 (.bld [.nl 5] []),
  ⟨none,.sto (.t 8) 0 89 0 1 (.t 63)⟩,
  oV 9 (.mv (.c (iv 2)))] [63]
abbrev zSR:HCode:=.reg [oV 64 (.mv (.t 12)),
  oV 65 (.mv (.t 2)),
  oV 66 (.idxA 1 (.t 64) (.t 65)),
  oV 67 (.ldR (.t 66) 1 false),
  ⟨none,.alloc 13 1 90 [.v (.int .i64 0)]⟩,
  ⟨none,.sto (.t 13) 1 90 0 1 (.t 67)⟩] false [.frz 1 90 1,.forget [64,65,66,67]]
abbrev zSS:HCode:=oR [oV 68 (.mkf zCw [.t 13,.t 7]),
  oV 14 (.mv (.t 68))] [68]
abbrev zST:HCode:=oR [oV 69 (.mkf zDt [.t 5,.t 13]),
  oV 15 (.mv (.t 69))] [69]
abbrev zSU:HCode:=oQ [oD 0 false (oV 70 (.fldR (.t 4) 0 1)),
  oD 1 false (oV 71 (.ldR (.t 70) 1 false)),
  oD 2 false (oV 72 (.ldR (.t 13) 1 false)),
  oD 3 false (oV 73 (.slr 5 (.t 71) none (some (.t 72)))),
  oD 4 false (oV 74 (.mv (.t 14))),
  oD 5 false (oC 75 zCn [(.t 73,.v),(.t 74,.v)]),
  oD 6 false (oV 76 (.fldR (.t 7) 0 1)),
  oD 7 false (oV 77 (.ldR (.t 76) 1 false)),
  oD 8 false (oV 78 (.mv (.t 15))),
  oD 9 false (oC 79 zCn [(.t 77,.v),(.t 78,.v)]),
  oD 10 false (oV 80 (.fldR (.t 4) 0 1)),
  oD 11 false (oV 81 (.ldR (.t 80) 1 false)),
  oD 12 false (oV 82 (.ldR (.t 13) 1 false)),
  oD 13 false (oV 83 (.slr 5 (.t 81) (some (.t 82)) none)),
  oD 14 false (oV 84 (.mv (.t 14))),
  oD 15 true (oC 85 zCn [(.t 83,.v),(.t 84,.v)]),
  oD 16 false (oV 86 (.bslF 1 [.t 75,.t 79,.t 85])),
  oD 17 true (oC 87 zBN [(.t 86,.v)]),
  oD 18 false (oV 88 (.bld [.nl 5] [(0,1,.t 87)])),
  oD 19 false ⟨none,.sto (.t 8) 0 89 0 1 (.t 88)⟩,
  oD 20 false (oV 9 (.mv (.c (iv 0))))] [70,71,72,73,74,75,76,77,78,79,80,81,82,83,84,85,86,87,88]
abbrev yEZ:HCode:=(.seq zWa (.seq (.seq zWb (.seq zWc (.cond (.t 19) (.seq zWd .ret) .skip))) (.seq (.seq zWe (.seq zWf (.cond (.t 25) (.seq zWg .ret) .skip))) (.seq (.seq zWh (.cond (.t 36) (.seq zWi .ret) .skip)) (.seq zWj (.seq (.seq zSN (.cond (.t 53) (.seq zSO .ret) .skip)) (.seq (.seq zSP (.cond (.t 62) (.seq zSQ .ret) .skip)) (.seq zSR (.seq zSS (.seq zST (.seq zSU .ret)))))))))))
abbrev zOo:Env:={N:=89,Γ:=[(89,1),(90,1)],L:=91,nfix:=0}
abbrev doc_Insert_R:List RSrc:=[.cellB 8 0 89 0 1 true,.tmp 9]
theorem zWk:zBE Tryz.prog zG8 yEZ zOo doc_Insert_R:=by kernel_rfl
abbrev zQN:HCode:=oN [oV 4 (.mv (.c (iv 0)))]
abbrev zQO:HCode:=oR [oV 5 (.mv (.t 0)),
  oV 6 (.ldR (.t 1) 1 false),
  oV 7 (.ints .geq (.t 5) (.t 6))] [5,6]
abbrev zQP:HCode:=oR [oV 8 (.mv (.t 0)),
  oV 9 (.fldR (.t 2) 0 1),
  oV 10 (.ldR (.t 9) 1 false),
  oV 11 (.len false (.t 10)),
  oV 12 (.ints .add (.t 8) (.t 11)),
  oV 4 (.mv (.t 12))] [8,9,10,11,12]
abbrev zQQ:HCode:=oR [oV 13 (.mv (.t 0)),
  oV 4 (.mv (.t 13))] [13]
abbrev zY5:HCode:=(.seq zQN (.seq (.seq zQO (.cond (.t 7) (.seq zQP .ret) .skip)) (.seq zQQ .ret)))
abbrev zKo:Env:={N:=14,Γ:=[],L:=14,nfix:=0}
abbrev doc_Insert_1_R:List RSrc:=[.tmp 4]
theorem zQR:zBE Tryz.prog zCw zY5 zKo doc_Insert_1_R:=by kernel_rfl
abbrev zQS:HCode:=oN [oV 4 (.mv (.c (iv 0)))]
abbrev zQT:HCode:=oR [oV 5 (.mv (.t 0)),
  oV 6 (.ints .lss (.t 5) (.c (iv 0)))] [5]
abbrev zQU:HCode:=oR [oV 7 (.ldR (.t 1) 1 false),
  oV 4 (.mv (.t 7))] [7]
abbrev zQV:HCode:=oR [oV 8 (.mv (.t 0)),
  oV 9 (.ldR (.t 2) 1 false),
  oV 10 (.ints .add (.t 8) (.t 9)),
  oV 4 (.mv (.t 10))] [8,9,10]
abbrev zY6:HCode:=(.seq zQS (.seq (.seq zQT (.cond (.t 6) (.seq zQU .ret) .skip)) (.seq zQV .ret)))
abbrev zKp:Env:={N:=11,Γ:=[],L:=11,nfix:=0}
abbrev doc_Insert_2_R:List RSrc:=[.tmp 4]
theorem zQW:zBE Tryz.prog zDt zY6 zKp doc_Insert_2_R:=by kernel_rfl
abbrev zWl:HCode:=oN [oV 2 (.boxF (.t 0)),
  oV 3 (.boxF (.t 1)),
  ⟨none,.alloc 4 0 38 [.nl 5]⟩,
  oV 5 (.mv (.c (iv 0)))]
abbrev zWm:HCode:=oR [oV 9 (.ldR (.t 2) 1 true),
  oV 10 (.ldR (.t 3) 1 false),
  oC 11 zFu [(.t 9,.v),(.t 10,.v)],
  oV 6 (.mv (.t 11))] [9,10,11]
abbrev zWn:HCode:=oR [oV 12 (.mv (.t 6)),
  oV 13 (.ints .neq (.t 12) (.c (iv 0)))] [12]
abbrev zWo:HCode:=oR [oV 14 (.bld [.nl 5] []),
  oV 15 (.mv (.t 6)),
  ⟨none,.sto (.t 4) 0 38 0 1 (.t 14)⟩,
  oV 5 (.mv (.t 15))] [14,15]
abbrev zWp:HCode:=oR [oV 16 (.ldR (.t 3) 1 false),
  oV 17 (.ints .eql (.t 16) (.c (iv 0)))] [16]
abbrev zWq:HCode:=oR [oV 18 (.bld [.nl 5] []),
  ⟨none,.sto (.t 4) 0 38 0 1 (.t 18)⟩,
  oV 5 (.mv (.c (iv 3)))] [18]
abbrev zWr:HCode:=.reg [oV 19 (.ldR (.t 2) 1 true),
  oV 20 (.ldR (.t 3) 1 false),
  oC 21 zCG [(.t 19,.v),(.t 20,.v)],
  ⟨none,.alloc 7 1 39 [.v (.int .i64 0)]⟩,
  ⟨none,.sto (.t 7) 1 39 0 1 (.t 21)⟩] false [.frz 1 39 1,.forget [19,20,21]]
abbrev zWs:HCode:=oR [oV 22 (.mkf zCy [.t 7,.t 3]),
  oV 8 (.mv (.t 22))] [22]
abbrev zWt:HCode:=oQ [oD 0 false (oV 23 (.fldR (.t 2) 0 1)),
  oD 1 false (oV 24 (.ldR (.t 23) 1 false)),
  oD 2 false (oV 25 (.ldR (.t 3) 1 false)),
  oD 3 false (oV 26 (.slr 5 (.t 24) none (some (.t 25)))),
  oD 4 false (oV 27 (.mv (.t 8))),
  oD 5 false (oC 28 zCn [(.t 26,.v),(.t 27,.v)]),
  oD 6 false (oV 29 (.fldR (.t 2) 0 1)),
  oD 7 false (oV 30 (.ldR (.t 29) 1 false)),
  oD 8 false (oV 31 (.ldR (.t 7) 1 false)),
  oD 9 false (oV 32 (.slr 5 (.t 30) (some (.t 31)) none)),
  oD 10 false (oV 33 (.mv (.t 8))),
  oD 11 true (oC 34 zCn [(.t 32,.v),(.t 33,.v)]),
  oD 12 false (oV 35 (.bslF 1 [.t 28,.t 34])),
  oD 13 true (oC 36 zBN [(.t 35,.v)]),
  oD 14 false (oV 37 (.bld [.nl 5] [(0,1,.t 36)])),
  oD 15 false ⟨none,.sto (.t 4) 0 38 0 1 (.t 37)⟩,
  oD 16 false (oV 5 (.mv (.c (iv 0))))] [23,24,25,26,27,28,29,30,31,32,33,34,35,36,37]
abbrev yE0:HCode:=(.seq zWl (.seq (.seq zWm (.seq zWn (.cond (.t 13) (.seq zWo .ret) .skip))) (.seq (.seq zWp (.cond (.t 17) (.seq zWq .ret) .skip)) (.seq zWr (.seq zWs (.seq zWt .ret))))))
abbrev zOp:Env:={N:=38,Γ:=[(38,1),(39,1)],L:=40,nfix:=0}
abbrev doc_Remove_R:List RSrc:=[.cellB 4 0 38 0 1 true,.tmp 5]
theorem zWu:zBE Tryz.prog zG9 yE0 zOp doc_Remove_R:=by kernel_rfl
abbrev zQX:HCode:=oN [oV 4 (.mv (.c (iv 0)))]
abbrev zQY:HCode:=oR [oV 5 (.mv (.t 0)),
  oV 6 (.ldR (.t 1) 1 false),
  oV 7 (.ints .geq (.t 5) (.t 6))] [5,6]
abbrev zQZ:HCode:=oR [oV 8 (.mv (.t 0)),
  oV 9 (.ldR (.t 1) 1 false),
  oV 10 (.ints .sub (.t 8) (.t 9)),
  oV 11 (.ldR (.t 2) 1 false),
  oV 12 (.ints .add (.t 10) (.t 11)),
  oV 4 (.mv (.t 12))] [8,9,10,11,12]
abbrev zQ0:HCode:=oR [oV 13 (.mv (.t 0)),
  oV 4 (.mv (.t 13))] [13]
abbrev zY7:HCode:=(.seq zQX (.seq (.seq zQY (.cond (.t 7) (.seq zQZ .ret) .skip)) (.seq zQ0 .ret)))
abbrev zKq:Env:={N:=14,Γ:=[],L:=14,nfix:=0}
abbrev doc_Remove_1_R:List RSrc:=[.tmp 4]
theorem zQ1:zBE Tryz.prog zCy zY7 zKq doc_Remove_1_R:=by kernel_rfl
abbrev zY8:HCode:=oN [oV 2 (.mv (.c (iv 0)))]
abbrev zY9:HCode:=oR [oV 3 (.mv (.t 0)),
  oV 2 (.mv (.t 3))] [3]
abbrev yGH:HCode:=(.seq zY8 (.seq zY9 .ret))
abbrev zQ2:Env:={N:=4,Γ:=[],L:=4,nfix:=0}
abbrev doc_Put_1_R:List RSrc:=[.tmp 2]
theorem zZa:zBE Tryz.prog zFs yGH zQ2 doc_Put_1_R:=by kernel_rfl
abbrev zIp:HCode:=oN [⟨none,.nlo 2 zAN 5⟩]
abbrev zIq:HCode:=oN [oV 3 (.mv (.c (iv 0)))]
abbrev zIr:HCode:=oN [oV 9 (.mv (.t 0)),
  oV 10 (.len false (.t 9)),
  oV 11 (.mv (.c (iv 0)))]
abbrev zIs:HCode:=oN [oV 12 (.ints .lss (.t 11) (.t 10))]
abbrev zIt:HCode:=oR [oV 13 (.idxA 1 (.t 9) (.t 11)),
  oV 14 (.ldR (.t 13) 1 false),
  oV 5 (.mv (.t 14))] [13,14]
abbrev zIu:HCode:=oR [oV 15 (.mv (.t 3)),
  oV 16 (.mv (.t 5)),
  oV 17 (.len false (.t 16)),
  oV 18 (.ints .add (.t 15) (.t 17)),
  oV 3 (.mv (.t 18))] [15,16,17,18]
abbrev zIv:HCode:=oR [oV 19 (.mv (.t 3)),
  oV 20 (.ints .lss (.t 19) (.c (iv 0)))] [19]
abbrev zIw:HCode:=oR [oV 21 (.mki zGi (.c (sv [108,101,110,32,111,117,116,32,111,102,32,114,97,110,103,101]))),
  ⟨none,.pan (.t 21)⟩] [21]
abbrev zIx:HCode:=oR [oV 22 (.ints .add (.t 11) (.c (iv 1))),
  oV 11 (.mv (.t 22))] [22]
abbrev zIy:HCode:=oR [oV 23 (.mv (.t 3)),
  oC 24 zKG [(.c (.one (.nl 5)),.r),(.t 23,.v)],
  ⟨none,.mvo 6 24⟩] [23,24]
abbrev zHx:HCode:=oN [oV 25 (.mv (.t 0)),
  oV 26 (.len false (.t 25)),
  oV 27 (.mv (.c (iv 0)))]
abbrev zHy:HCode:=oN [oV 28 (.ints .lss (.t 27) (.t 26))]
abbrev zHz:HCode:=oR [oV 29 (.idxA 1 (.t 25) (.t 27)),
  oV 30 (.ldR (.t 29) 1 false),
  oV 8 (.mv (.t 30))] [29,30]
abbrev zHA:HCode:=oR [⟨none,.mvo 31 6⟩,
  oV 32 (.mv (.t 8)),
  ⟨none,.app 33 zAN 5 (.t 31) (.t 32)⟩,
  ⟨none,.mvo 6 33⟩] [31,32,33]
abbrev zHB:HCode:=oR [oV 34 (.ints .add (.t 27) (.c (iv 1))),
  oV 27 (.mv (.t 34))] [34]
abbrev zHC:HCode:=oR [⟨none,.mvo 35 6⟩,
  ⟨none,.mvo 2 35⟩] [35]
abbrev zLS:HCode:=(.seq zIp (.seq zIq (.seq (.seq zIr (.block 0 (.loop (.seq zIs (.seq (.cond (.t 12) .skip (.exit 0)) (.seq (.block 1 (.seq zIt (.seq zIu (.seq zIv (.cond (.t 20) zIw .skip))))) zIx)))))) (.seq zIy (.seq (.seq zHx (.block 2 (.loop (.seq zHy (.seq (.cond (.t 28) .skip (.exit 2)) (.seq (.block 3 (.seq zHz zHA)) zHB)))))) (.seq zHC .ret))))))
abbrev zEm:Env:={N:=36,Γ:=[],L:=36,nfix:=0}
abbrev slices_Concat_Node_R:List RSrc:=[.tmp 2]
theorem zIz:zBE Tryz.prog zBN zLS zEm slices_Concat_Node_R:=by kernel_rfl
abbrev zZb:HCode:=oN [⟨none,.alloc 0 0 13 [.nl 5]⟩]
abbrev zZc:HCode:=oR [oV 1 (.bld [.v (.int .i64 0),.v (mkS []),.v (mkS []),.nl 1,.nl 2] [(0,1,.c (iv (-1))),(1,1,.c (sv [108,105,115,116])),(2,1,.c (sv [116,111,112]))]),
  oV 2 (.bslF 1 [.c (sv [97])]),
  oV 3 (.bld [.v (.int .i64 0),.v (mkS []),.v (mkS []),.nl 1,.nl 2] [(0,1,.c (iv 0)),(1,1,.c (sv [105,116,101,109])),(3,1,.t 2)]),
  oV 4 (.bslF 1 [.c (sv [98])]),
  oV 5 (.bld [.v (.int .i64 0),.v (mkS []),.v (mkS []),.nl 1,.nl 2] [(0,1,.c (iv 0)),(1,1,.c (sv [105,116,101,109])),(3,1,.t 4)]),
  oV 6 (.bld [.v (mkS []),.v (mkS [])] [(0,1,.c (sv [116,111])),(1,1,.c (sv [111,110,101,32,116,119,111]))]),
  oV 7 (.bslF 2 [.t 6]),
  oV 8 (.bld [.v (.int .i64 0),.v (mkS []),.v (mkS []),.nl 1,.nl 2] [(0,1,.c (iv 2)),(1,1,.c (sv [108,105,110,107])),(4,1,.t 7)]),
  oV 9 (.bslF 1 [.c (sv [97])]),
  oV 10 (.bld [.v (.int .i64 0),.v (mkS []),.v (mkS []),.nl 1,.nl 2] [(0,1,.c (iv 0)),(1,1,.c (sv [105,116,101,109])),(3,1,.t 9)]),
  oV 11 (.bslF 5 [.t 1,.t 3,.t 5,.t 8,.t 10]),
  oV 12 (.bld [.nl 5] [(0,1,.t 11)]),
  ⟨none,.sto (.t 0) 0 13 0 1 (.t 12)⟩] [1,2,3,4,5,6,7,8,9,10,11,12]
abbrev yGI:HCode:=(.seq zZb (.seq zZc .ret))
abbrev zQ3:Env:={N:=13,Γ:=[(13,1)],L:=14,nfix:=0}
abbrev law_small_R:List RSrc:=[.cellB 0 0 13 0 1 true]
theorem zZd:zBE Tryz.prog zIc yGI zQ3 law_small_R:=by kernel_rfl
end Go.Hx
end

section
/-
 The abstract code of functions of the program, printed by gen.py; each stands for the given one. No condition.
-/
namespace Go.Hx
open Go.Proofs
variable [Glob]
abbrev zCH:Nat:=147
abbrev zCo:Nat:=149
abbrev zBA:Nat:=146
abbrev zEX:Nat:=145
abbrev yBE:HCode:=oN [oV 2 (.mv (.c (bv false)))]
abbrev yBF:HCode:=oR [oV 3 (.mv (.t 0)),
  oV 4 (.len true (.t 3)),
  oV 5 (.ints .gtr (.t 4) (.c (iv 0))),
  oV 6 (.mv (.t 5)),
  oG 6 true 7 (.mv (.t 0)),
  oG 6 true 8 (.len true (.t 7)),
  oG 6 true 9 (.ints .leq (.t 8) (.c (iv 12))),
  oV 10 (.pick (.t 6) (.t 9) (.c (bv false))),
  oV 11 (.mv (.t 10)),
  oG 11 true 12 (.mv (.t 0)),
  oG 11 true 13 (.idxS (.t 12) (.c (iv 0))),
  oG 11 true 14 (.ints .geq (.t 13) (.c (.one (.v (.int .u8 97))))),
  oV 15 (.pick (.t 11) (.t 14) (.c (bv false))),
  oV 16 (.mv (.t 15)),
  oG 16 true 17 (.mv (.t 0)),
  oG 16 true 18 (.idxS (.t 17) (.c (iv 0))),
  oG 16 true 19 (.ints .leq (.t 18) (.c (.one (.v (.int .u8 122))))),
  oV 20 (.pick (.t 16) (.t 19) (.c (bv false))),
  oV 21 (.mv (.t 20)),
  oG 21 true 22 (.mv (.t 0)),
  ⟨some (21,true),.call (some 23) zEX [(.t 22,.v),(.c (sv [97,98,99,100,101,102,103,104,105,106,107,108,109,110,111,112,113,114,115,116,117,118,119,120,121,122,48,49,50,51,52,53,54,55,56,57,45]),.v)]⟩,
  oG 21 true 24 (.strs .eql (.t 23) (.c (sv []))),
  oV 25 (.pick (.t 21) (.t 24) (.c (bv false))),
  oV 26 (.mv (.t 25)),
  oG 26 true 27 (.mv (.t 0)),
  ⟨some (26,true),.call (some 28) zBA [(.t 27,.v),(.f zCH,.v)]⟩,
  oG 26 true 29 (.not (.t 28)),
  oV 30 (.pick (.t 26) (.t 29) (.c (bv false))),
  oV 2 (.mv (.t 30))] [3,4,5,6,7,8,9,10,11,12,13,14,15,16,17,18,19,20,21,22,23,24,25,26,27,28,29,30]
abbrev yIK:HCode:=(.seq yBE (.seq yBF .ret))
abbrev zUF:Env:={N:=31,Γ:=[],L:=31,nfix:=0}
abbrev doc_Name_R:List RSrc:=[.tmp 2]
theorem yBG:zBE Tryz.prog zCx yIK zUF doc_Name_R:=by kernel_rfl
abbrev zWv:HCode:=oN [oV 2 (.mv (.c (bv false)))]
abbrev zWw:HCode:=oR [oV 3 (.mv (.t 0)),
  oV 4 (.ints .lss (.t 3) (.c (.one (.v (.int .i32 97))))),
  oV 5 (.mv (.t 4)),
  oG 5 false 6 (.mv (.t 0)),
  oG 5 false 7 (.ints .gtr (.t 6) (.c (.one (.v (.int .i32 122))))),
  oV 8 (.pick (.t 5) (.c (bv true)) (.t 7)),
  oV 9 (.mv (.t 8)),
  oG 9 true 10 (.mv (.t 0)),
  oG 9 true 11 (.ints .lss (.t 10) (.c (.one (.v (.int .i32 48))))),
  oG 9 true 12 (.mv (.t 11)),
  oG 12 false 13 (.mv (.t 0)),
  oG 12 false 14 (.ints .gtr (.t 13) (.c (.one (.v (.int .i32 57))))),
  oG 9 true 15 (.pick (.t 12) (.c (bv true)) (.t 14)),
  oV 16 (.pick (.t 9) (.t 15) (.c (bv false))),
  oV 17 (.mv (.t 16)),
  oG 17 true 18 (.mv (.t 0)),
  oG 17 true 19 (.ints .neq (.t 18) (.c (.one (.v (.int .i32 45))))),
  oV 20 (.pick (.t 17) (.t 19) (.c (bv false))),
  oV 2 (.mv (.t 20))] [3,4,5,6,7,8,9,10,11,12,13,14,15,16,17,18,19,20]
abbrev yE1:HCode:=(.seq zWv (.seq zWw .ret))
abbrev zOq:Env:={N:=21,Γ:=[],L:=21,nfix:=0}
abbrev doc_Name_1_R:List RSrc:=[.tmp 2]
theorem zWx:zBE Tryz.prog zCH yE1 zOq doc_Name_1_R:=by kernel_rfl
abbrev zZe:HCode:=oN [oV 2 (.mv (.c (bv false)))]
abbrev zZf:HCode:=oR [oV 3 (.mv (.t 0)),
  oV 4 (.len true (.t 3)),
  oV 5 (.ints .leq (.t 4) (.c (iv 16))),
  oV 6 (.mv (.t 5)),
  oG 6 true 7 (.mv (.t 0)),
  ⟨some (6,true),.call (some 8) zBA [(.t 7,.v),(.f zCo,.v)]⟩,
  oG 6 true 9 (.not (.t 8)),
  oV 10 (.pick (.t 6) (.t 9) (.c (bv false))),
  oV 2 (.mv (.t 10))] [3,4,5,6,7,8,9,10]
abbrev yGJ:HCode:=(.seq zZe (.seq zZf .ret))
abbrev zQ4:Env:={N:=11,Γ:=[],L:=11,nfix:=0}
abbrev doc_Value_R:List RSrc:=[.tmp 2]
theorem zZg:zBE Tryz.prog zFt yGJ zQ4 doc_Value_R:=by kernel_rfl
abbrev zSV:HCode:=oN [oV 2 (.mv (.c (bv false)))]
abbrev zSW:HCode:=oR [oV 3 (.mv (.t 0)),
  oV 4 (.ints .lss (.t 3) (.c (.one (.v (.int .i32 32))))),
  oV 5 (.mv (.t 4)),
  oG 5 false 6 (.mv (.t 0)),
  oG 5 false 7 (.ints .gtr (.t 6) (.c (.one (.v (.int .i32 126))))),
  oV 8 (.pick (.t 5) (.c (bv true)) (.t 7)),
  oV 9 (.mv (.t 8)),
  oG 9 false 10 (.mv (.t 0)),
  oG 9 false 11 (.ints .eql (.t 10) (.c (.one (.v (.int .i32 34))))),
  oV 12 (.pick (.t 9) (.c (bv true)) (.t 11)),
  oV 2 (.mv (.t 12))] [3,4,5,6,7,8,9,10,11,12]
abbrev yBH:HCode:=(.seq zSV (.seq zSW .ret))
abbrev zLT:Env:={N:=13,Γ:=[],L:=13,nfix:=0}
abbrev doc_Value_1_R:List RSrc:=[.tmp 2]
theorem zSX:zBE Tryz.prog zCo yBH zLT doc_Value_1_R:=by kernel_rfl
end Go.Hx
end

section
/-
 The abstract code of functions of the program, printed by gen.py; each stands for the given one. No condition.
-/
namespace Go.Hx
open Go.Proofs
variable [Glob]
abbrev zFw:Nat:=179
abbrev zFx:Nat:=121
abbrev zZh:HCode:=oN [oV 1 (.boxF (.t 0)),
  oV 2 (.mv (.c (iv 0)))]
abbrev zZi:HCode:=oR [oV 5 (.fldR (.t 1) 0 1),
  oV 6 (.ldR (.t 5) 1 false),
  oV 7 (.fldR (.t 1) 1 1),
  oV 8 (.ldR (.t 7) 1 false),
  oV 9 (.bld [.v (.int .i64 0),.v (.int .i64 0)] [(0,1,.t 6),(1,1,.t 8)]),
  oV 10 (.mv (.c (iv 0)))] [5,6,7,8]
abbrev zZj:HCode:=oN [oV 11 (.ints .lss (.t 10) (.c (iv 2)))]
abbrev zZk:HCode:=oR [oV 12 (.idxV 2 (.t 9) (.t 10)),
  oV 4 (.mv (.t 12))] [12]
abbrev zZl:HCode:=oR [oV 13 (.mv (.t 4)),
  oV 14 (.ints .lss (.t 13) (.c (iv (-1048576)))),
  oV 15 (.mv (.t 14)),
  oG 15 false 16 (.mv (.t 4)),
  oG 15 false 17 (.ints .gtr (.t 16) (.c (iv 1048576))),
  oV 18 (.pick (.t 15) (.c (bv true)) (.t 17))] [13,14,15,16,17]
abbrev zZm:HCode:=oN [oV 2 (.mv (.c (iv 3)))]
abbrev zZn:HCode:=oR [oV 19 (.ints .add (.t 10) (.c (iv 1))),
  oV 10 (.mv (.t 19))] [19]
abbrev zZo:HCode:=oN [oV 2 (.mv (.c (iv 0)))]
abbrev yGK:HCode:=(.seq zZh (.seq (.seq zZi (.block 0 (.loop (.seq zZj (.seq (.cond (.t 11) .skip (.exit 0)) (.seq (.block 1 (.seq zZk (.seq zZl (.cond (.t 18) (.seq zZm .ret) .skip)))) zZn)))))) (.seq zZo .ret)))
abbrev zQ5:Env:={N:=20,Γ:=[],L:=20,nfix:=0}
abbrev nth_Check_R:List RSrc:=[.tmp 2]
theorem zZp:zBE Tryz.prog zFw yGK zQ5 nth_Check_R:=by kernel_rfl
abbrev zZq:HCode:=oN [oV 2 (.boxF (.t 0)),
  oV 4 (.mv (.c (bv false)))]
abbrev zZr:HCode:=oR [oV 6 (.ldR (.t 2) 2 true),
  oC 7 zFw [(.t 6,.v)],
  oV 8 (.ints .neq (.t 7) (.c (iv 0))),
  oV 9 (.mv (.t 8)),
  oG 9 false 10 (.mv (.t 1)),
  oG 9 false 11 (.ints .lss (.t 10) (.c (iv 1))),
  oV 12 (.pick (.t 9) (.c (bv true)) (.t 11)),
  oV 13 (.mv (.t 12)),
  oG 13 false 14 (.mv (.t 1)),
  oG 13 false 15 (.ints .gtr (.t 14) (.c (iv 1073741824))),
  oV 16 (.pick (.t 13) (.c (bv true)) (.t 15))] [6,7,8,9,10,11,12,13,14,15]
abbrev zZs:HCode:=oN [oV 4 (.mv (.c (bv false)))]
abbrev zZt:HCode:=oR [oV 17 (.mv (.t 1)),
  oV 18 (.fldR (.t 2) 1 1),
  oV 19 (.ldR (.t 18) 1 false),
  oV 20 (.ints .sub (.t 17) (.t 19)),
  oV 5 (.mv (.t 20))] [17,18,19,20]
abbrev zZu:HCode:=oR [oV 21 (.fldR (.t 2) 0 1),
  oV 22 (.ldR (.t 21) 1 false),
  oV 23 (.ints .eql (.t 22) (.c (iv 0)))] [21,22]
abbrev zZv:HCode:=oR [oV 24 (.mv (.t 5)),
  oV 25 (.ints .eql (.t 24) (.c (iv 0))),
  oV 4 (.mv (.t 25))] [24,25]
abbrev zZw:HCode:=oR [oV 26 (.mv (.t 5)),
  oV 27 (.fldR (.t 2) 0 1),
  oV 28 (.ldR (.t 27) 1 false),
  oV 29 (.ints .rem (.t 26) (.t 28)),
  oV 30 (.ints .eql (.t 29) (.c (iv 0))),
  oV 31 (.mv (.t 30)),
  oG 31 true 32 (.mv (.t 5)),
  oG 31 true 33 (.fldR (.t 2) 0 1),
  oG 31 true 34 (.ldR (.t 33) 1 false),
  oG 31 true 35 (.ints .quo (.t 32) (.t 34)),
  oG 31 true 36 (.ints .geq (.t 35) (.c (iv 0))),
  oV 37 (.pick (.t 31) (.t 36) (.c (bv false))),
  oV 4 (.mv (.t 37))] [26,27,28,29,30,31,32,33,34,35,36,37]
abbrev yGL:HCode:=(.seq zZq (.seq (.seq zZr (.cond (.t 16) (.seq zZs .ret) .skip)) (.seq zZt (.seq (.seq zZu (.cond (.t 23) (.seq zZv .ret) .skip)) (.seq zZw .ret)))))
abbrev zQ6:Env:={N:=38,Γ:=[],L:=38,nfix:=0}
abbrev nth_Holds_R:List RSrc:=[.tmp 4]
theorem zZx:zBE Tryz.prog zFx yGL zQ6 nth_Holds_R:=by kernel_rfl
end Go.Hx
end

section
/-
 The abstract code of functions of the program, printed by gen.py; each stands for the given one. No condition.
-/
namespace Go.Hx
open Go.Proofs
variable [Glob]
end Go.Hx
end

section
/-
 The abstract code of functions of the program, printed by gen.py; each stands for the given one. No condition.
-/
namespace Go.Hx
open Go.Proofs
variable [Glob]
abbrev zEw:Nat:=37
abbrev zBD:Nat:=84
abbrev zAu:Nat:=139
abbrev zCI:Nat:=140
abbrev zNt:Nat:=200
abbrev zHa:Nat:=85
abbrev yE2:HCode:=oN [⟨none,.alloc 2 0 31 [.v (.bool false),.v (.bool false),.v (.bool false),.v (.bool false)]⟩,
  oV 3 (.mv (.c (bv false)))]
abbrev yE3:HCode:=oN [oV 4 (.mv (.t 0))]
abbrev yE4:HCode:=oR [oV 6 (.ints .eql (.t 4) (.c (iv 1))),
  oV 5 (.mv (.t 6))] [6]
abbrev yE5:HCode:=oR [oV 7 (.ints .eql (.t 4) (.c (iv 2))),
  oV 5 (.mv (.t 7))] [7]
abbrev yE6:HCode:=oR [oV 8 (.ints .eql (.t 4) (.c (iv 3))),
  oV 5 (.mv (.t 8))] [8]
abbrev yE7:HCode:=oR [oV 9 (.bld [.v (.bool false),.v (.bool false),.v (.bool false),.v (.bool false)] [(0,1,.c (bv true))]),
  ⟨none,.sto (.t 2) 0 31 0 4 (.t 9)⟩,
  oV 3 (.mv (.c (bv true)))] [9]
abbrev yE8:HCode:=oR [oV 11 (.ints .eql (.t 4) (.c (iv 4))),
  oV 10 (.mv (.t 11))] [11]
abbrev yE9:HCode:=oR [oV 12 (.ints .eql (.t 4) (.c (iv 5))),
  oV 10 (.mv (.t 12))] [12]
abbrev yFa:HCode:=oR [oV 13 (.ints .eql (.t 4) (.c (iv 6))),
  oV 10 (.mv (.t 13))] [13]
abbrev yFb:HCode:=oR [oV 14 (.ints .eql (.t 4) (.c (iv 7))),
  oV 10 (.mv (.t 14))] [14]
abbrev yBI:HCode:=oR [oV 15 (.ints .eql (.t 4) (.c (iv 8))),
  oV 10 (.mv (.t 15))] [15]
abbrev yBJ:HCode:=oR [oV 16 (.bld [.v (.bool false),.v (.bool false),.v (.bool false),.v (.bool false)] [(0,1,.c (bv true)),(1,1,.c (bv true))]),
  ⟨none,.sto (.t 2) 0 31 0 4 (.t 16)⟩,
  oV 3 (.mv (.c (bv true)))] [16]
abbrev yBK:HCode:=oR [oV 18 (.ints .eql (.t 4) (.c (iv 9))),
  oV 17 (.mv (.t 18))] [18]
abbrev yBL:HCode:=oR [oV 19 (.ints .eql (.t 4) (.c (iv 10))),
  oV 17 (.mv (.t 19))] [19]
abbrev yBM:HCode:=oR [oV 20 (.bld [.v (.bool false),.v (.bool false),.v (.bool false),.v (.bool false)] [(2,1,.c (bv true))]),
  ⟨none,.sto (.t 2) 0 31 0 4 (.t 20)⟩,
  oV 3 (.mv (.c (bv true)))] [20]
abbrev yBN:HCode:=oR [oV 22 (.ints .eql (.t 4) (.c (iv 11))),
  oV 21 (.mv (.t 22))] [22]
abbrev yBO:HCode:=oR [oV 23 (.ints .eql (.t 4) (.c (iv 12))),
  oV 21 (.mv (.t 23))] [23]
abbrev yBP:HCode:=oR [oV 24 (.bld [.v (.bool false),.v (.bool false),.v (.bool false),.v (.bool false)] []),
  ⟨none,.sto (.t 2) 0 31 0 4 (.t 24)⟩,
  oV 3 (.mv (.c (bv true)))] [24]
abbrev yBQ:HCode:=oR [oV 26 (.ints .eql (.t 4) (.c (iv 13))),
  oV 25 (.mv (.t 26))] [26]
abbrev yBR:HCode:=oR [oV 27 (.ints .eql (.t 4) (.c (iv 14))),
  oV 25 (.mv (.t 27))] [27]
abbrev yBS:HCode:=oR [oV 28 (.ints .eql (.t 4) (.c (iv 15))),
  oV 25 (.mv (.t 28))] [28]
abbrev yBT:HCode:=oR [oV 29 (.bld [.v (.bool false),.v (.bool false),.v (.bool false),.v (.bool false)] [(3,1,.c (bv true))]),
  ⟨none,.sto (.t 2) 0 31 0 4 (.t 29)⟩,
  oV 3 (.mv (.c (bv true)))] [29]
abbrev yBU:HCode:=oR [oV 30 (.bld [.v (.bool false),.v (.bool false),.v (.bool false),.v (.bool false)] []),
  ⟨none,.sto (.t 2) 0 31 0 4 (.t 30)⟩,
  oV 3 (.mv (.c (bv false)))] [30]
abbrev yLb:HCode:=(.seq yE2 (.seq (.seq yE3 (.block 0 (.seq (.seq yE4 (.cond (.t 5) .skip (.seq yE5 (.cond (.t 5) .skip yE6)))) (.cond (.t 5) (.seq yE7 .ret) (.seq (.seq yE8 (.cond (.t 10) .skip (.seq yE9 (.cond (.t 10) .skip (.seq yFa (.cond (.t 10) .skip (.seq yFb (.cond (.t 10) .skip yBI)))))))) (.cond (.t 10) (.seq yBJ .ret) (.seq (.seq yBK (.cond (.t 17) .skip yBL)) (.cond (.t 17) (.seq yBM .ret) (.seq (.seq yBN (.cond (.t 21) .skip yBO)) (.cond (.t 21) (.seq yBP .ret) (.seq (.seq yBQ (.cond (.t 25) .skip (.seq yBR (.cond (.t 25) .skip yBS)))) (.cond (.t 25) (.seq yBT .ret) .skip)))))))))))) (.seq yBU .ret)))
abbrev zZy:Env:={N:=31,Γ:=[(31,4)],L:=35,nfix:=0}
abbrev path_of_R:List RSrc:=[.cellB 2 0 31 0 4 true,.tmp 3]
theorem yFc:zBE Tryz.prog zNt yLb zZy path_of_R:=by kernel_rfl
abbrev zWy:HCode:=oN [⟨none,.alloc 0 0 2 [.v (.int .i64 0),.v (.int .i64 0),.v (.int .i64 0),.v (.int .i64 0)]⟩]
abbrev zWz:HCode:=oR [oV 1 (.bld [.v (.int .i64 0),.v (.int .i64 0),.v (.int .i64 0),.v (.int .i64 0)] [(0,1,.c (iv 2)),(1,1,.c (iv 4)),(2,1,.c (iv 1)),(3,1,.c (iv 3))]),
  ⟨none,.sto (.t 0) 0 2 0 4 (.t 1)⟩] [1]
abbrev yFd:HCode:=(.seq zWy (.seq zWz .ret))
abbrev zOr:Env:={N:=2,Γ:=[(2,4)],L:=6,nfix:=0}
abbrev path_order_R:List RSrc:=[.cellB 0 0 2 0 4 true]
theorem zWA:zBE Tryz.prog zHa yFd zOr path_order_R:=by kernel_rfl
abbrev zNu:HCode:=oN [oV 6 (.mv (.t 1))]
abbrev zNv:HCode:=oQ [oD 0 false (oV 7 (.mv (.t 0))),
  oD 1 false (oV 8 (.mv (.t 2))),
  oD 2 false (oV 9 (.nilck (.t 7))),
  oD 3 false (oV 10 (.fldP (.t 9) 0)),
  oD 4 false (oV 11 (.ixB 5 (.t 10) (.t 8))),
  oD 5 false (oV 12 (.ldD (.t 11) 0 17 5)),
  oD 6 false (oV 13 (.ints .add (.t 12) (.c (iv 1)))),
  oD 7 false (oV 14 (.nilck (.t 7))),
  oD 8 false (oV 15 (.fldP (.t 14) 0)),
  oD 9 false (oV 16 (.ixB 5 (.t 15) (.t 8))),
  oD 10 false ⟨none,.std (.t 16) 0 17 5 (.t 13)⟩] [7,8,9,10,11,12,13,14,15,16]
abbrev zSY:HCode:=(.seq zNu (.cond (.t 6) zNv .skip))
abbrev zCi:Env:={N:=17,Γ:=[(17,5)],L:=22,nfix:=1}
abbrev path_look_note_R:List RSrc:=[]
theorem zCJ:zBE Tryz.prog zAu zSY zCi path_look_note_R:=by kernel_rfl
abbrev zNw:HCode:=oR [oV 12 (.mv (.t 2)),
  oV 13 (.ints .gtr (.t 12) (.c (iv 3))),
  oV 14 (.mv (.t 13)),
  oG 14 false 15 (.mv (.t 1)),
  oG 14 false 16 (.len false (.t 15)),
  oG 14 false 17 (.ints .lss (.t 16) (.c (iv 1))),
  oV 18 (.pick (.t 14) (.c (bv true)) (.t 17)),
  oV 19 (.mv (.t 18)),
  oG 19 false 20 (.mv (.t 1)),
  oG 19 false 21 (.len false (.t 20)),
  oG 19 false 22 (.ints .gtr (.t 21) (.c (iv 5))),
  oV 23 (.pick (.t 19) (.c (bv true)) (.t 22))] [12,13,14,15,16,17,18,19,20,21,22]
abbrev zNx:HCode:=oR [oV 24 (.mv (.t 0)),
  oC 25 zAu [(.t 24,.i 0 83 5),(.c (bv true),.v),(.c (iv 2),.v)]] [24,25]
abbrev zNy:HCode:=oN [oV 26 (.mv (.t 1)),
  oV 27 (.len false (.t 26)),
  oV 28 (.mv (.c (iv 0)))]
abbrev zNz:HCode:=oN [oV 29 (.ints .lss (.t 28) (.t 27))]
abbrev zNA:HCode:=.reg [oV 30 (.idxA 2 (.t 26) (.t 28)),
  oV 31 (.ldR (.t 30) 2 true),
  ⟨none,.alloc 7 1 88 [.nl 2,.nl 1]⟩,
  ⟨none,.sto (.t 7) 1 88 0 2 (.t 31)⟩] false [.frz 1 88 2,.forget [30,31]]
abbrev zNB:HCode:=oR [oV 32 (.fldR (.t 7) 0 1),
  oV 33 (.ldR (.t 32) 1 false),
  oV 34 (.len false (.t 33)),
  oV 35 (.ints .lss (.t 34) (.c (iv 1))),
  oV 36 (.mv (.t 35)),
  oG 36 false 37 (.fldR (.t 7) 0 1),
  oG 36 false 38 (.ldR (.t 37) 1 false),
  oG 36 false 39 (.len false (.t 38)),
  oG 36 false 40 (.ints .gtr (.t 39) (.c (iv 5))),
  oV 41 (.pick (.t 36) (.c (bv true)) (.t 40)),
  oV 42 (.mv (.t 41)),
  oG 42 false 43 (.fldR (.t 7) 1 1),
  oG 42 false 44 (.ldR (.t 43) 1 false),
  oG 42 false 45 (.len false (.t 44)),
  oG 42 false 46 (.fldR (.t 7) 0 1),
  oG 42 false 47 (.ldR (.t 46) 1 false),
  oG 42 false 48 (.len false (.t 47)),
  oG 42 false 49 (.ints .sub (.t 48) (.c (iv 1))),
  oG 42 false 50 (.ints .neq (.t 45) (.t 49)),
  oV 51 (.pick (.t 42) (.c (bv true)) (.t 50))] [32,33,34,35,36,37,38,39,40,41,42,43,44,45,46,47,48,49,50]
abbrev zNC:HCode:=oR [oV 52 (.mv (.t 0)),
  oC 53 zAu [(.t 52,.i 0 83 5),(.c (bv true),.v),(.c (iv 2),.v)]] [52,53]
abbrev zND:HCode:=oR [oV 54 (.fldR (.t 7) 1 1),
  oV 55 (.ldR (.t 54) 1 false),
  oV 56 (.len false (.t 55)),
  oV 57 (.mv (.c (iv 0)))] [54]
abbrev zNE:HCode:=oN [oV 58 (.ints .lss (.t 57) (.t 56))]
abbrev zNF:HCode:=oR [oV 59 (.idxA 1 (.t 55) (.t 57)),
  oV 60 (.ldR (.t 59) 1 false),
  oV 9 (.mv (.t 60))] [59,60]
abbrev zLU:HCode:=oR [oV 61 (.mv (.t 0)),
  oV 62 (.mv (.t 9)),
  oV 63 (.ints .lss (.t 62) (.c (iv 1))),
  oV 64 (.mv (.t 63)),
  oG 64 false 65 (.mv (.t 9)),
  oG 64 false 66 (.ints .gtr (.t 65) (.c (iv 4))),
  oV 67 (.pick (.t 64) (.c (bv true)) (.t 66)),
  oC 68 zAu [(.t 61,.i 0 83 5),(.t 67,.v),(.c (iv 4),.v)]] [61,62,63,64,65,66,67,68]
abbrev zLV:HCode:=oR [oV 69 (.ints .add (.t 57) (.c (iv 1))),
  oV 57 (.mv (.t 69))] [69]
abbrev zLW:HCode:=oR [oV 70 (.fldR (.t 7) 0 1),
  oV 71 (.ldR (.t 70) 1 false),
  oV 72 (.len false (.t 71)),
  oV 73 (.mv (.c (iv 0)))] [70]
abbrev zLX:HCode:=oN [oV 74 (.ints .lss (.t 73) (.t 72))]
abbrev zLY:HCode:=oR [oV 75 (.idxA 2 (.t 71) (.t 73)),
  oV 76 (.ldR (.t 75) 2 true),
  ⟨none,.alloc 11 2 90 [.v (mkS []),.nl 6]⟩,
  ⟨none,.sto (.t 11) 2 90 0 2 (.t 76)⟩] [75,76]
abbrev zLZ:HCode:=oR [oV 77 (.mv (.t 0)),
  oV 78 (.ldB (.t 11) 2 90 0 2 true),
  oV 79 (.mv (.t 2)),
  oC 80 zCI [(.t 77,.i 0 83 5),(.t 78,.v),(.t 79,.v)]] [77,78,79,80]
abbrev zL0:HCode:=oR [oV 81 (.ints .add (.t 73) (.c (iv 1))),
  oV 73 (.mv (.t 81))] [81]
abbrev zL1:HCode:=oR [oV 82 (.ints .add (.t 28) (.c (iv 1))),
  oV 28 (.mv (.t 82))] [82]
abbrev zSZ:HCode:=(.seq (.seq zNw (.cond (.t 23) (.seq zNx .ret) .skip)) (.seq zNy (.block 0 (.loop (.seq zNz (.seq (.cond (.t 29) .skip (.exit 0)) (.seq (.block 1 (.seq zNA (.seq (.seq zNB (.cond (.t 51) (.seq zNC .ret) .skip)) (.seq (.seq zND (.block 2 (.loop (.seq zNE (.seq (.cond (.t 58) .skip (.exit 2)) (.seq (.block 3 (.seq zNF zLU)) zLV)))))) (.seq zLW (.block 4 (.loop (.seq zLX (.seq (.cond (.t 74) .skip (.exit 4)) (.seq (.block 5 (.seq zLY zLZ)) zL0)))))))))) zL1)))))))
abbrev zHn:Env:={N:=83,Γ:=[(83,5),(88,2),(90,2)],L:=92,nfix:=1}
abbrev path_look_list_R:List RSrc:=[]
theorem zNG:zBE Tryz.prog zBD zSZ zHn path_look_list_R:=by kernel_rfl
abbrev zNH:HCode:=oN [oV 4 (.boxF (.t 1))]
abbrev zNI:HCode:=oR [oV 10 (.fldR (.t 4) 1 1),
  oV 11 (.ldR (.t 10) 1 false),
  oV 12 (.len false (.t 11)),
  oV 13 (.ints .gtr (.t 12) (.c (iv 6)))] [10,11,12]
abbrev zNJ:HCode:=oR [oV 14 (.mv (.t 0)),
  oC 15 zAu [(.t 14,.i 0 121 5),(.c (bv true),.v),(.c (iv 2),.v)]] [14,15]
abbrev zNK:HCode:=oR [oV 16 (.mv (.t 0)),
  oV 17 (.fldR (.t 4) 0 1),
  oV 18 (.ldR (.t 17) 1 false),
  oV 19 (.strs .neq (.t 18) (.c (sv []))),
  oV 20 (.mv (.t 19)),
  oG 20 true 21 (.fldR (.t 4) 0 1),
  oG 20 true 22 (.ldR (.t 21) 1 false),
  ⟨some (20,true),.call (some 23) zCx [(.t 22,.v)]⟩,
  oG 20 true 24 (.not (.t 23)),
  oV 25 (.pick (.t 20) (.t 24) (.c (bv false))),
  oC 26 zAu [(.t 16,.i 0 121 5),(.t 25,.v),(.c (iv 1),.v)]] [16,17,18,19,20,21,22,23,24,25,26]
abbrev zNL:HCode:=oR [oV 27 (.fldR (.t 4) 1 1),
  oV 28 (.ldR (.t 27) 1 false),
  oV 29 (.len false (.t 28)),
  oV 30 (.mv (.c (iv 0)))] [27]
abbrev zNM:HCode:=oN [oV 31 (.ints .lss (.t 30) (.t 29))]
abbrev zNN:HCode:=.reg [oV 32 (.idxA 6 (.t 28) (.t 30)),
  oV 33 (.ldR (.t 32) 6 true),
  ⟨none,.alloc 7 1 126 [.v (.int .i64 0),.v (mkS []),.v (mkS []),.v (.int .i64 0),.v (.int .i64 0),.nl 2]⟩,
  ⟨none,.sto (.t 7) 1 126 0 6 (.t 33)⟩] false [.frz 1 126 6,.forget [32,33]]
abbrev zNO:HCode:=.reg [oV 35 (.fldR (.t 7) 0 1),
  oV 36 (.ldR (.t 35) 1 false),
  oC 37 zNt [(.t 36,.v)],
  oV 34 (.mv (.t 37)),
  oV 38 (.ext 34 0),
  oV 39 (.ext 34 1),
  ⟨none,.alloc 8 2 132 [.v (.bool false),.v (.bool false),.v (.bool false),.v (.bool false)]⟩,
  ⟨none,.sto (.t 8) 2 132 0 4 (.t 38)⟩,
  oV 9 (.mv (.t 39))] false [.frz 2 132 4,.forget [34,35,36,37,38,39]]
abbrev zNP:HCode:=oR [oV 40 (.mv (.t 0)),
  oV 41 (.mv (.t 9)),
  oV 42 (.not (.t 41)),
  oC 43 zAu [(.t 40,.i 0 121 5),(.t 42,.v),(.c (iv 4),.v)]] [40,41,42,43]
abbrev zNQ:HCode:=oR [oV 44 (.mv (.t 0)),
  oV 45 (.fldR (.t 8) 0 1),
  oV 46 (.ldR (.t 45) 1 false),
  oV 47 (.mv (.t 46)),
  oG 47 true 48 (.fldR (.t 7) 1 1),
  oG 47 true 49 (.ldR (.t 48) 1 false),
  ⟨some (47,true),.call (some 50) zCx [(.t 49,.v)]⟩,
  oG 47 true 51 (.not (.t 50)),
  oV 52 (.pick (.t 47) (.t 51) (.c (bv false))),
  oV 53 (.mv (.t 52)),
  oG 53 false 54 (.fldR (.t 8) 0 1),
  oG 53 false 55 (.ldR (.t 54) 1 false),
  oG 53 false 56 (.not (.t 55)),
  oG 53 false 57 (.mv (.t 56)),
  oG 57 true 58 (.fldR (.t 7) 1 1),
  oG 57 true 59 (.ldR (.t 58) 1 false),
  oG 57 true 60 (.strs .neq (.t 59) (.c (sv []))),
  oG 53 false 61 (.pick (.t 57) (.t 60) (.c (bv false))),
  oV 62 (.pick (.t 53) (.c (bv true)) (.t 61)),
  oC 63 zAu [(.t 44,.i 0 121 5),(.t 62,.v),(.c (iv 1),.v)]] [44,45,46,47,48,49,50,51,52,53,54,55,56,57,58,59,60,61,62,63]
abbrev zL2:HCode:=oR [oV 64 (.mv (.t 0)),
  oV 65 (.fldR (.t 8) 1 1),
  oV 66 (.ldR (.t 65) 1 false),
  oV 67 (.mv (.t 66)),
  oG 67 true 68 (.fldR (.t 7) 2 1),
  oG 67 true 69 (.ldR (.t 68) 1 false),
  ⟨some (67,true),.call (some 70) zFt [(.t 69,.v)]⟩,
  oG 67 true 71 (.not (.t 70)),
  oV 72 (.pick (.t 67) (.t 71) (.c (bv false))),
  oV 73 (.mv (.t 72)),
  oG 73 false 74 (.fldR (.t 8) 1 1),
  oG 73 false 75 (.ldR (.t 74) 1 false),
  oG 73 false 76 (.not (.t 75)),
  oG 73 false 77 (.mv (.t 76)),
  oG 77 true 78 (.fldR (.t 7) 2 1),
  oG 77 true 79 (.ldR (.t 78) 1 false),
  oG 77 true 80 (.strs .neq (.t 79) (.c (sv []))),
  oG 73 false 81 (.pick (.t 77) (.t 80) (.c (bv false))),
  oV 82 (.pick (.t 73) (.c (bv true)) (.t 81)),
  oC 83 zAu [(.t 64,.i 0 121 5),(.t 82,.v),(.c (iv 1),.v)]] [64,65,66,67,68,69,70,71,72,73,74,75,76,77,78,79,80,81,82,83]
abbrev zL3:HCode:=oR [oV 84 (.mv (.t 0)),
  oV 85 (.fldR (.t 8) 2 1),
  oV 86 (.ldR (.t 85) 1 false),
  oV 87 (.not (.t 86)),
  oV 88 (.mv (.t 87)),
  oG 88 true 89 (.fldR (.t 7) 3 2),
  oG 88 true 90 (.ldR (.t 89) 2 true),
  oG 88 true 91 (.bld [.v (.int .i64 0),.v (.int .i64 0)] []),
  oG 88 true 92 (.steq true [0,0] (.t 90) (.t 91)),
  oV 93 (.pick (.t 88) (.t 92) (.c (bv false))),
  oV 94 (.mv (.t 93)),
  oG 94 false 95 (.fldR (.t 8) 3 1),
  oG 94 false 96 (.ldR (.t 95) 1 false),
  oG 94 false 97 (.not (.t 96)),
  oG 94 false 98 (.mv (.t 97)),
  oG 98 true 99 (.fldR (.t 7) 5 1),
  oG 98 true 100 (.ldR (.t 99) 1 false),
  oG 98 true 101 (.len false (.t 100)),
  oG 98 true 102 (.ints .gtr (.t 101) (.c (iv 0))),
  oG 94 false 103 (.pick (.t 98) (.t 102) (.c (bv false))),
  oV 104 (.pick (.t 94) (.c (bv true)) (.t 103)),
  oC 105 zAu [(.t 84,.i 0 121 5),(.t 104,.v),(.c (iv 1),.v)]] [84,85,86,87,88,89,90,91,92,93,94,95,96,97,98,99,100,101,102,103,104,105]
abbrev zL4:HCode:=oR [oV 106 (.mv (.t 0)),
  oV 107 (.fldR (.t 7) 3 2),
  oV 108 (.ldR (.t 107) 2 true),
  oC 109 zFw [(.t 108,.v)],
  oV 110 (.ints .neq (.t 109) (.c (iv 0))),
  oC 111 zAu [(.t 106,.i 0 121 5),(.t 110,.v),(.c (iv 3),.v)]] [106,107,108,109,110,111]
abbrev zL5:HCode:=oR [oV 112 (.fldR (.t 8) 3 1),
  oV 113 (.ldR (.t 112) 1 false)] [112]
abbrev zL6:HCode:=oR [oV 114 (.mv (.t 0)),
  oV 115 (.fldR (.t 7) 5 1),
  oV 116 (.ldR (.t 115) 1 false),
  oV 117 (.mv (.t 2)),
  oV 118 (.ints .add (.t 117) (.c (iv 1))),
  oC 119 zBD [(.t 114,.i 0 121 5),(.t 116,.v),(.t 118,.v)]] [114,115,116,117,118,119]
abbrev zL7:HCode:=oR [oV 120 (.ints .add (.t 30) (.c (iv 1))),
  oV 30 (.mv (.t 120))] [120]
abbrev zS0:HCode:=(.seq zNH (.seq (.seq zNI (.cond (.t 13) (.seq zNJ .ret) .skip)) (.seq zNK (.seq zNL (.block 0 (.loop (.seq zNM (.seq (.cond (.t 31) .skip (.exit 0)) (.seq (.block 1 (.seq zNN (.seq zNO (.seq zNP (.seq zNQ (.seq zL2 (.seq zL3 (.seq zL4 (.seq zL5 (.cond (.t 113) zL6 .skip)))))))))) zL7)))))))))
abbrev zHo:Env:={N:=121,Γ:=[(121,5),(126,6),(132,4)],L:=136,nfix:=1}
abbrev path_look_step_R:List RSrc:=[]
theorem zNR:zBE Tryz.prog zCI zS0 zHo path_look_step_R:=by kernel_rfl
abbrev zWB:HCode:=oN [oV 2 (.mv (.c (iv 0)))]
abbrev zWC:HCode:=oR [oV 6 (.bld [.v (.int .i64 0),.v (.int .i64 0),.v (.int .i64 0),.v (.int .i64 0),.v (.int .i64 0)] []),
  ⟨none,.box 7 0 24 5 (.t 6)⟩,
  oV 3 (.mv (.t 7))] [6,7]
abbrev zWD:HCode:=oR [oV 8 (.mv (.t 3)),
  oV 9 (.mv (.t 0)),
  oC 10 zBD [(.t 8,.i 0 24 5),(.t 9,.v),(.c (iv 1),.v)]] [8,9,10]
abbrev zWE:HCode:=oN [oC 11 zHa [],
  oV 12 (.mv (.c (iv 0)))]
abbrev zWF:HCode:=oN [oV 13 (.ints .lss (.t 12) (.c (iv 4)))]
abbrev zWG:HCode:=oR [oV 14 (.idxV 4 (.t 11) (.t 12)),
  oV 5 (.mv (.t 14))] [14]
abbrev zWH:HCode:=oR [oV 15 (.mv (.t 3)),
  oV 16 (.mv (.t 5)),
  oV 17 (.nilck (.t 15)),
  oV 18 (.fldP (.t 17) 0),
  oV 19 (.ixB 5 (.t 18) (.t 16)),
  oV 20 (.ldD (.t 19) 0 24 5),
  oV 21 (.ints .gtr (.t 20) (.c (iv 0)))] [15,16,17,18,19,20]
abbrev zWI:HCode:=oR [oV 22 (.mv (.t 5)),
  oV 2 (.mv (.t 22))] [22]
abbrev zWJ:HCode:=oR [oV 23 (.ints .add (.t 12) (.c (iv 1))),
  oV 12 (.mv (.t 23))] [23]
abbrev zWK:HCode:=oN [oV 2 (.mv (.c (iv 0)))]
abbrev yFe:HCode:=(.seq zWB (.seq zWC (.seq zWD (.seq (.seq zWE (.block 0 (.loop (.seq zWF (.seq (.cond (.t 13) .skip (.exit 0)) (.seq (.block 1 (.seq zWG (.seq zWH (.cond (.t 21) (.seq zWI .ret) .skip)))) zWJ)))))) (.seq zWK .ret)))))
abbrev zOs:Env:={N:=24,Γ:=[(24,5)],L:=29,nfix:=0}
abbrev path_Check_R:List RSrc:=[.tmp 2]
theorem zWL:zBE Tryz.prog zEw yFe zOs path_Check_R:=by kernel_rfl
end Go.Hx
end

section
/-
 The abstract code of functions of the program, printed by gen.py; each stands for the given one. No condition.
-/
namespace Go.Hx
open Go.Proofs
variable [Glob]
end Go.Hx
end

section
/-
 The abstract code of functions of the program, printed by gen.py; each stands for the given one. No condition.
-/
namespace Go.Hx
open Go.Proofs
variable [Glob]
abbrev zA5:Nat:=243
abbrev zA6:Nat:=103
abbrev zIA:Nat:=12
abbrev zEh:Nat:=39
abbrev zKT:Nat:=51
abbrev zHb:Nat:=123
abbrev zDY:Nat:=40
abbrev zAy:Nat:=41
abbrev zBZ:Nat:=90
abbrev zA9:Nat:=52
abbrev zA7:Nat:=91
abbrev zC7:Nat:=144
abbrev zBO:Nat:=203
abbrev zBP:Nat:=204
abbrev zD5:Nat:=205
abbrev zBp:Nat:=143
abbrev zB0:Nat:=202
abbrev zC8:Nat:=122
abbrev zBQ:Nat:=180
abbrev zKU:Nat:=88
abbrev zBG:Nat:=89
abbrev zBH:Nat:=201
abbrev zBg:Nat:=111
abbrev zB3:Nat:=142
abbrev zB4:Nat:=250
abbrev zCr:Nat:=157
abbrev zC9:Nat:=182
abbrev zCS:Nat:=181
abbrev zCT:Nat:=44
abbrev zEi:Nat:=183
abbrev zCd:Nat:=181
abbrev zJN:HCode:=oN [oV 4 (.mv (.c (bv false)))]
abbrev zJO:HCode:=oR [oV 5 (.mv (.t 0)),
  oV 6 (.mv (.t 1)),
  oC 7 zA5 [(.t 5,.v),(.t 6,.v)],
  oV 4 (.mv (.t 7))] [5,6,7]
abbrev zNS:HCode:=(.seq zJN (.seq zJO .ret))
abbrev zEY:Env:={N:=8,Γ:=[],L:=8,nfix:=0}
abbrev strings_HasPrefix_R:List RSrc:=[.tmp 4]
theorem zJP:zBE Tryz.prog zCS zNS zEY strings_HasPrefix_R:=by kernel_rfl
abbrev zDu:HCode:=oN [oV 4 (.mv (.c (bv false)))]
abbrev zDv:HCode:=oR [oV 5 (.mv (.t 0)),
  oV 6 (.len true (.t 5)),
  oV 7 (.mv (.t 1)),
  oV 8 (.len true (.t 7)),
  oV 9 (.ints .geq (.t 6) (.t 8)),
  oV 10 (.mv (.t 9)),
  oG 10 true 11 (.mv (.t 0)),
  oG 10 true 12 (.mv (.t 1)),
  oG 10 true 13 (.len true (.t 12)),
  oG 10 true 14 (.sls (.t 11) none (some (.t 13))),
  oG 10 true 15 (.mv (.t 1)),
  oG 10 true 16 (.strs .eql (.t 14) (.t 15)),
  oV 17 (.pick (.t 10) (.t 16) (.c (bv false))),
  oV 4 (.mv (.t 17))] [5,6,7,8,9,10,11,12,13,14,15,16,17]
abbrev zD6:HCode:=(.seq zDu (.seq zDv .ret))
abbrev zBU:Env:={N:=18,Γ:=[],L:=18,nfix:=0}
abbrev internal_stringslite_HasPrefix_R:List RSrc:=[.tmp 4]
theorem zDw:zBE Tryz.prog zA5 zD6 zBU internal_stringslite_HasPrefix_R:=by kernel_rfl
abbrev zJQ:HCode:=oN [oV 4 (.mv (.c (bv false)))]
abbrev zJR:HCode:=oR [oV 5 (.mv (.t 0)),
  oV 6 (.mv (.t 1)),
  oC 7 zA6 [(.t 5,.v),(.t 6,.v)],
  oV 4 (.mv (.t 7))] [5,6,7]
abbrev zNT:HCode:=(.seq zJQ (.seq zJR .ret))
abbrev zEZ:Env:={N:=8,Γ:=[],L:=8,nfix:=0}
abbrev strings_HasSuffix_R:List RSrc:=[.tmp 4]
theorem zJS:zBE Tryz.prog zCT zNT zEZ strings_HasSuffix_R:=by kernel_rfl
abbrev zDx:HCode:=oN [oV 4 (.mv (.c (bv false)))]
abbrev zDy:HCode:=oR [oV 5 (.mv (.t 0)),
  oV 6 (.len true (.t 5)),
  oV 7 (.mv (.t 1)),
  oV 8 (.len true (.t 7)),
  oV 9 (.ints .geq (.t 6) (.t 8)),
  oV 10 (.mv (.t 9)),
  oG 10 true 11 (.mv (.t 0)),
  oG 10 true 12 (.mv (.t 0)),
  oG 10 true 13 (.len true (.t 12)),
  oG 10 true 14 (.mv (.t 1)),
  oG 10 true 15 (.len true (.t 14)),
  oG 10 true 16 (.ints .sub (.t 13) (.t 15)),
  oG 10 true 17 (.sls (.t 11) (some (.t 16)) none),
  oG 10 true 18 (.mv (.t 1)),
  oG 10 true 19 (.strs .eql (.t 17) (.t 18)),
  oV 20 (.pick (.t 10) (.t 19) (.c (bv false))),
  oV 4 (.mv (.t 20))] [5,6,7,8,9,10,11,12,13,14,15,16,17,18,19,20]
abbrev zD7:HCode:=(.seq zDx (.seq zDy .ret))
abbrev zBV:Env:={N:=21,Γ:=[],L:=21,nfix:=0}
abbrev internal_stringslite_HasSuffix_R:List RSrc:=[.tmp 4]
theorem zDz:zBE Tryz.prog zA6 zD7 zBV internal_stringslite_HasSuffix_R:=by kernel_rfl
abbrev zFO:HCode:=oN [oV 4 (.mv (.c (bv false)))]
abbrev zFP:HCode:=oR [oV 5 (.mv (.t 0)),
  oV 6 (.mv (.t 1)),
  oC 7 zCr [(.t 5,.v),(.t 6,.v)],
  oV 8 (.ints .geq (.t 7) (.c (iv 0))),
  oV 4 (.mv (.t 8))] [5,6,7,8]
abbrev zHD:HCode:=(.seq zFO (.seq zFP .ret))
abbrev zDf:Env:={N:=9,Γ:=[],L:=9,nfix:=0}
abbrev slices_Contains_string_R:List RSrc:=[.tmp 4]
theorem zFQ:zBE Tryz.prog zBg zHD zDf slices_Contains_string_R:=by kernel_rfl
abbrev zHE:HCode:=oN [oV 4 (.mv (.c (iv 0)))]
abbrev zHF:HCode:=oR [oV 6 (.mv (.t 0)),
  oV 7 (.len false (.t 6)),
  oV 8 (.mv (.c (iv 0)))] [6]
abbrev zHG:HCode:=oN [oV 9 (.ints .lss (.t 8) (.t 7))]
abbrev zHH:HCode:=oR [oV 10 (.mv (.t 8)),
  oV 5 (.mv (.t 10))] [10]
abbrev zHI:HCode:=oR [oV 11 (.mv (.t 1)),
  oV 12 (.mv (.t 0)),
  oV 13 (.mv (.t 5)),
  oV 14 (.idxA 1 (.t 12) (.t 13)),
  oV 15 (.ldR (.t 14) 1 false),
  oV 16 (.strs .eql (.t 11) (.t 15))] [11,12,13,14,15]
abbrev zHJ:HCode:=oR [oV 17 (.mv (.t 5)),
  oV 4 (.mv (.t 17))] [17]
abbrev zHK:HCode:=oR [oV 18 (.ints .add (.t 8) (.c (iv 1))),
  oV 8 (.mv (.t 18))] [18]
abbrev zHL:HCode:=oN [oV 4 (.mv (.c (iv (-1))))]
abbrev zKV:HCode:=(.seq zHE (.seq (.seq zHF (.block 0 (.loop (.seq zHG (.seq (.cond (.t 9) .skip (.exit 0)) (.seq (.block 1 (.seq zHH (.seq zHI (.cond (.t 16) (.seq zHJ .ret) .skip)))) zHK)))))) (.seq zHL .ret)))
abbrev zD8:Env:={N:=19,Γ:=[],L:=19,nfix:=0}
abbrev slices_Index_string_R:List RSrc:=[.tmp 4]
theorem zHM:zBE Tryz.prog zCr zKV zD8 slices_Index_string_R:=by kernel_rfl
abbrev zE0:HCode:=oN [oV 4 (.mv (.c (bv false)))]
abbrev zE1:HCode:=oR [oV 5 (.mv (.t 0)),
  oV 6 (.mv (.t 1)),
  oC 7 zB3 [(.t 5,.v),(.t 6,.v)],
  oV 8 (.ints .geq (.t 7) (.c (iv 0))),
  oV 4 (.mv (.t 8))] [5,6,7,8]
abbrev zGs:HCode:=(.seq zE0 (.seq zE1 .ret))
abbrev zCN:Env:={N:=9,Γ:=[],L:=9,nfix:=0}
abbrev slices_ContainsFunc_Path_R:List RSrc:=[.tmp 4]
theorem zE2:zBE Tryz.prog zBG zGs zCN slices_ContainsFunc_Path_R:=by kernel_rfl
abbrev zGt:HCode:=oN [oV 4 (.mv (.c (iv 0)))]
abbrev zGu:HCode:=oR [oV 6 (.mv (.t 0)),
  oV 7 (.len false (.t 6)),
  oV 8 (.mv (.c (iv 0)))] [6]
abbrev zGv:HCode:=oN [oV 9 (.ints .lss (.t 8) (.t 7))]
abbrev zGw:HCode:=oR [oV 10 (.mv (.t 8)),
  oV 5 (.mv (.t 10))] [10]
abbrev zGx:HCode:=oR [oV 11 (.mv (.t 1)),
  oV 12 (.mv (.t 0)),
  oV 13 (.mv (.t 5)),
  oV 14 (.idxA 2 (.t 12) (.t 13)),
  oV 15 (.ldR (.t 14) 2 true),
  ⟨none,.callv (some 16) (.t 11) [(.t 15,.v)]⟩] [11,12,13,14,15]
abbrev zGy:HCode:=oR [oV 17 (.mv (.t 5)),
  oV 4 (.mv (.t 17))] [17]
abbrev zGz:HCode:=oR [oV 18 (.ints .add (.t 8) (.c (iv 1))),
  oV 8 (.mv (.t 18))] [18]
abbrev zGA:HCode:=oN [oV 4 (.mv (.c (iv (-1))))]
abbrev zIB:HCode:=(.seq zGt (.seq (.seq zGu (.block 0 (.loop (.seq zGv (.seq (.cond (.t 9) .skip (.exit 0)) (.seq (.block 1 (.seq zGw (.seq zGx (.cond (.t 16) (.seq zGy .ret) .skip)))) zGz)))))) (.seq zGA .ret)))
abbrev zDA:Env:={N:=19,Γ:=[],L:=19,nfix:=0}
abbrev slices_IndexFunc_Path_R:List RSrc:=[.tmp 4]
theorem zGB:zBE Tryz.prog zB3 zIB zDA slices_IndexFunc_Path_R:=by kernel_rfl
abbrev zE3:HCode:=oN [oV 4 (.mv (.c (bv false)))]
abbrev zE4:HCode:=oR [oV 5 (.mv (.t 0)),
  oV 6 (.mv (.t 1)),
  oC 7 zB4 [(.t 5,.v),(.t 6,.v)],
  oV 8 (.ints .geq (.t 7) (.c (iv 0))),
  oV 4 (.mv (.t 8))] [5,6,7,8]
abbrev zGC:HCode:=(.seq zE3 (.seq zE4 .ret))
abbrev zCO:Env:={N:=9,Γ:=[],L:=9,nfix:=0}
abbrev slices_ContainsFunc_Test_R:List RSrc:=[.tmp 4]
theorem zE5:zBE Tryz.prog zBH zGC zCO slices_ContainsFunc_Test_R:=by kernel_rfl
abbrev zGD:HCode:=oN [oV 4 (.mv (.c (iv 0)))]
abbrev zGE:HCode:=oR [oV 6 (.mv (.t 0)),
  oV 7 (.len false (.t 6)),
  oV 8 (.mv (.c (iv 0)))] [6]
abbrev zGF:HCode:=oN [oV 9 (.ints .lss (.t 8) (.t 7))]
abbrev zGG:HCode:=oR [oV 10 (.mv (.t 8)),
  oV 5 (.mv (.t 10))] [10]
abbrev zGH:HCode:=oR [oV 11 (.mv (.t 1)),
  oV 12 (.mv (.t 0)),
  oV 13 (.mv (.t 5)),
  oV 14 (.idxA 6 (.t 12) (.t 13)),
  oV 15 (.ldR (.t 14) 6 true),
  ⟨none,.callv (some 16) (.t 11) [(.t 15,.v)]⟩] [11,12,13,14,15]
abbrev zGI:HCode:=oR [oV 17 (.mv (.t 5)),
  oV 4 (.mv (.t 17))] [17]
abbrev zGJ:HCode:=oR [oV 18 (.ints .add (.t 8) (.c (iv 1))),
  oV 8 (.mv (.t 18))] [18]
abbrev zGK:HCode:=oN [oV 4 (.mv (.c (iv (-1))))]
abbrev zIC:HCode:=(.seq zGD (.seq (.seq zGE (.block 0 (.loop (.seq zGF (.seq (.cond (.t 9) .skip (.exit 0)) (.seq (.block 1 (.seq zGG (.seq zGH (.cond (.t 16) (.seq zGI .ret) .skip)))) zGJ)))))) (.seq zGK .ret)))
abbrev zDB:Env:={N:=19,Γ:=[],L:=19,nfix:=0}
abbrev slices_IndexFunc_Test_R:List RSrc:=[.tmp 4]
theorem zGL:zBE Tryz.prog zB4 zIC zDB slices_IndexFunc_Test_R:=by kernel_rfl
abbrev yBV:HCode:=oN [oV 1 (.boxF (.t 0)),
  oV 2 (.mv (.c (.one (.v (.pointer none)))))]
abbrev yBW:HCode:=.drg [oD 0 false (oV 13 (.ldR (.t 1) 1 true)),
  oD 1 false (oV 14 (.fldR (.t 1) 0 1)),
  oD 2 false (oV 15 (.ldR (.t 14) 1 false)),
  oD 3 false (oV 16 (.len false (.t 15))),
  oD 4 false ⟨none,.vmk 17 zCd 5 [.v (.int .i64 0),.v (.int .i64 0),.v (.int .i64 0),.v (.int .i64 0),.v (.int .i64 0)] (.t 16)⟩,
  oD 5 false ⟨none,.vbe 18 [.nl 5,.nl 5] [(0,1,.t 13)] 1 1 (.t 17)⟩,
  oD 6 false ⟨none,.vby 19 0 162 2 18⟩,
  oD 7 false (oV 3 (.mv (.t 19)))] [.forget [13,14,15,16,17,18,19],.pin 163 0 162 []]
abbrev yBX:HCode:=oN [⟨none,.mmk 20⟩,
  oV 4 (.mv (.t 20))]
abbrev yBY:HCode:=oR [oV 21 (.fldR (.t 1) 0 1),
  oV 22 (.ldR (.t 21) 1 false),
  oV 23 (.len false (.t 22)),
  oV 24 (.mv (.c (iv 0)))] [21]
abbrev yBZ:HCode:=oN [oV 25 (.ints .lss (.t 24) (.t 23))]
abbrev yB0:HCode:=oR [oV 26 (.mv (.t 24)),
  oV 27 (.idxA 5 (.t 22) (.t 24)),
  oV 28 (.ldR (.t 27) 5 true),
  ⟨none,.alloc 6 1 164 [.v (.int .i64 0),.v (mkS []),.v (mkS []),.nl 1,.nl 2]⟩,
  oV 5 (.mv (.t 26)),
  ⟨none,.sto (.t 6) 1 164 0 5 (.t 28)⟩] [26,27,28]
abbrev yB1:HCode:=oR [oV 29 (.mv (.t 3)),
  oV 30 (.nilck (.t 29)),
  oV 31 (.fldP (.t 30) 1),
  oV 32 (.ldh (.t 31) 0 162 1),
  oV 33 (.mv (.t 5)),
  oV 34 (.idxA 5 (.t 32) (.t 33)),
  oV 35 (.fldP (.t 34) 2),
  ⟨none,.vse (.t 35) 163 0 162 [] 1 (.c (iv (-1)))⟩] [29,30,31,32,33,34,35]
abbrev yB2:HCode:=oR [oV 37 (.mv (.t 4)),
  oV 38 (.fldP (.t 6) 0),
  oV 39 (.ldB (.t 38) 1 164 0 1 false),
  ⟨none,.mpl 40 (.t 37) 20 1 (.t 39) (.v (.int .i64 0)) true⟩,
  oV 36 (.mv (.t 40)),
  oV 41 (.ext 36 0),
  oV 42 (.ext 36 1),
  oV 7 (.mv (.t 41)),
  oV 8 (.mv (.t 42))] [36,37,38,39,40,41,42]
abbrev yB3:HCode:=oN [oV 43 (.mv (.t 8))]
abbrev yB4:HCode:=oR [oV 44 (.mv (.t 3)),
  oV 45 (.nilck (.t 44)),
  oV 46 (.fldP (.t 45) 1),
  oV 47 (.ldh (.t 46) 0 162 1),
  oV 48 (.mv (.t 5)),
  oV 49 (.mv (.t 7)),
  oV 50 (.idxA 5 (.t 47) (.t 48)),
  oV 51 (.fldP (.t 50) 2),
  ⟨none,.vse (.t 51) 163 0 162 [] 1 (.t 49)⟩] [44,45,46,47,48,49,50,51]
abbrev zZz:HCode:=oR [oV 52 (.mv (.t 4)),
  oV 53 (.fldP (.t 6) 0),
  oV 54 (.ldB (.t 53) 1 164 0 1 false),
  oV 55 (.mv (.t 5)),
  ⟨none,.mps (.t 52) 20 1 (.t 54) (.t 55)⟩] [52,53,54,55]
abbrev zZA:HCode:=oR [oV 56 (.mv (.t 3)),
  oV 57 (.nilck (.t 56)),
  oV 58 (.fldP (.t 57) 1),
  oV 59 (.ldh (.t 58) 0 162 1),
  oV 60 (.mv (.t 5)),
  oV 61 (.idxA 5 (.t 59) (.t 60)),
  oV 62 (.fldP (.t 61) 0),
  ⟨none,.vse (.t 62) 163 0 162 [] 1 (.c (iv 1))⟩] [56,57,58,59,60,61,62]
abbrev zZB:HCode:=oR [oV 63 (.mv (.t 3)),
  oV 64 (.nilck (.t 63)),
  oV 65 (.fldP (.t 64) 1),
  oV 66 (.ldh (.t 65) 0 162 1),
  oV 67 (.mv (.t 5)),
  oV 68 (.idxA 5 (.t 66) (.t 67)),
  oV 69 (.fldP (.t 68) 2),
  ⟨none,.vlp 70 (.t 69) 163 0 162 [] 1 false⟩,
  oV 9 (.mv (.t 70))] [63,64,65,66,67,68,69,70]
abbrev zZC:HCode:=oR [oV 71 (.mv (.t 9)),
  oV 72 (.ints .geq (.t 71) (.c (iv 0)))] [71]
abbrev zZD:HCode:=oQ [oD 0 false (oV 73 (.mv (.t 3))),
  oD 1 false (oV 74 (.nilck (.t 73))),
  oD 2 false (oV 75 (.fldP (.t 74) 1)),
  oD 3 false (oV 76 (.ldh (.t 75) 0 162 1)),
  oD 4 false (oV 77 (.mv (.t 5))),
  oD 5 false (oV 78 (.mv (.t 3))),
  oD 6 false (oV 79 (.nilck (.t 78))),
  oD 7 false (oV 80 (.fldP (.t 79) 1)),
  oD 8 false (oV 81 (.ldh (.t 80) 0 162 1)),
  oD 9 false (oV 82 (.mv (.t 9))),
  oD 10 false (oV 83 (.idxA 5 (.t 81) (.t 82))),
  oD 11 false (oV 84 (.fldP (.t 83) 0)),
  oD 12 false ⟨none,.vlp 85 (.t 84) 163 0 162 [] 1 false⟩,
  oD 13 false (oV 86 (.ints .add (.t 85) (.c (iv 1)))),
  oD 14 false (oV 87 (.idxA 5 (.t 76) (.t 77))),
  oD 15 false (oV 88 (.fldP (.t 87) 0)),
  oD 16 false ⟨none,.vse (.t 88) 163 0 162 [] 1 (.t 86)⟩] [73,74,75,76,77,78,79,80,81,82,83,84,85,86,87,88]
abbrev zZE:HCode:=oR [oV 89 (.fldP (.t 6) 0),
  oV 90 (.ldB (.t 89) 1 164 0 1 false),
  oV 91 (.ints .geq (.t 90) (.c (iv 0)))] [89,90]
abbrev zZF:HCode:=oQ [oD 0 false (oV 92 (.mv (.t 3))),
  oD 1 false (oV 93 (.nilck (.t 92))),
  oD 2 false (oV 94 (.fldP (.t 93) 1)),
  oD 3 false (oV 95 (.ldh (.t 94) 0 162 1)),
  oD 4 false (oV 96 (.fldP (.t 6) 0)),
  oD 5 false (oV 97 (.ldB (.t 96) 1 164 0 1 false)),
  oD 6 false (oV 98 (.idxA 5 (.t 95) (.t 97))),
  oD 7 false (oV 99 (.fldP (.t 98) 4)),
  oD 8 false ⟨none,.vlp 100 (.t 99) 163 0 162 [] 1 false⟩,
  oD 9 false (oV 101 (.ints .add (.t 100) (.c (iv 1)))),
  oD 10 false (oV 102 (.idxA 5 (.t 95) (.t 97))),
  oD 11 false (oV 103 (.fldP (.t 102) 4)),
  oD 12 false ⟨none,.vse (.t 103) 163 0 162 [] 1 (.t 101)⟩] [92,93,94,95,96,97,98,99,100,101,102,103]
abbrev zZG:HCode:=oR [oV 104 (.fldP (.t 6) 0),
  oV 105 (.ldB (.t 104) 1 164 0 1 false),
  oV 10 (.mv (.t 105))] [104,105]
abbrev zZH:HCode:=oR [oV 106 (.mv (.t 10)),
  oV 107 (.ints .geq (.t 106) (.c (iv 0)))] [106]
abbrev zZI:HCode:=oR [oV 114 (.mv (.t 3)),
  oV 115 (.nilck (.t 114)),
  oV 116 (.fldP (.t 115) 1),
  oV 117 (.ldh (.t 116) 0 162 1),
  oV 118 (.mv (.t 10)),
  oV 119 (.idxA 5 (.t 117) (.t 118)),
  oV 120 (.fldP (.t 119) 3),
  ⟨none,.vlp 121 (.t 120) 163 0 162 [] 1 false⟩,
  oV 122 (.ints .add (.t 121) (.c (iv 1))),
  oV 123 (.idxA 5 (.t 117) (.t 118)),
  oV 124 (.fldP (.t 123) 3),
  ⟨none,.vse (.t 124) 163 0 162 [] 1 (.t 122)⟩] [114,115,116,117,118,119,120,121,122,123,124]
abbrev zZJ:HCode:=oR [oV 108 (.fldR (.t 1) 0 1),
  oV 109 (.ldR (.t 108) 1 false),
  oV 110 (.mv (.t 10)),
  oV 111 (.idxA 5 (.t 109) (.t 110)),
  oV 112 (.fldR (.t 111) 0 1),
  oV 113 (.ldR (.t 112) 1 false),
  oV 10 (.mv (.t 113))] [108,109,110,111,112,113]
abbrev zZK:HCode:=oR [oV 125 (.ints .add (.t 24) (.c (iv 1))),
  oV 24 (.mv (.t 125))] [125]
abbrev zZL:HCode:=oR [oV 126 (.fldR (.t 1) 0 1),
  oV 127 (.ldR (.t 126) 1 false),
  oV 128 (.len false (.t 127)),
  oV 129 (.mv (.c (iv 0)))] [126]
abbrev zZM:HCode:=oN [oV 130 (.ints .lss (.t 129) (.t 128))]
abbrev zZN:HCode:=oR [oV 131 (.mv (.t 129)),
  oV 132 (.idxA 5 (.t 127) (.t 129)),
  oV 133 (.ldR (.t 132) 5 true),
  ⟨none,.alloc 12 2 169 [.v (.int .i64 0),.v (mkS []),.v (mkS []),.nl 1,.nl 2]⟩,
  oV 11 (.mv (.t 131)),
  ⟨none,.sto (.t 12) 2 169 0 5 (.t 133)⟩] [131,132,133]
abbrev zZO:HCode:=oR [oV 134 (.mv (.t 3)),
  oV 135 (.nilck (.t 134)),
  oV 136 (.fldP (.t 135) 1),
  oV 137 (.ldh (.t 136) 0 162 1),
  oV 138 (.mv (.t 11)),
  oV 139 (.idxA 5 (.t 137) (.t 138)),
  oV 140 (.fldP (.t 139) 1),
  ⟨none,.vse (.t 140) 163 0 162 [] 1 (.c (iv 1))⟩] [134,135,136,137,138,139,140]
abbrev zZP:HCode:=oR [oV 141 (.fldP (.t 12) 0),
  oV 142 (.ldB (.t 141) 2 169 0 1 false),
  oV 143 (.ints .geq (.t 142) (.c (iv 0)))] [141,142]
abbrev zZQ:HCode:=oQ [oD 0 false (oV 144 (.mv (.t 3))),
  oD 1 false (oV 145 (.nilck (.t 144))),
  oD 2 false (oV 146 (.fldP (.t 145) 1)),
  oD 3 false (oV 147 (.ldh (.t 146) 0 162 1)),
  oD 4 false (oV 148 (.mv (.t 11))),
  oD 5 false (oV 149 (.mv (.t 3))),
  oD 6 false (oV 150 (.nilck (.t 149))),
  oD 7 false (oV 151 (.fldP (.t 150) 1)),
  oD 8 false (oV 152 (.ldh (.t 151) 0 162 1)),
  oD 9 false (oV 153 (.fldP (.t 12) 0)),
  oD 10 false (oV 154 (.ldB (.t 153) 2 169 0 1 false)),
  oD 11 false (oV 155 (.idxA 5 (.t 152) (.t 154))),
  oD 12 false (oV 156 (.fldP (.t 155) 4)),
  oD 13 false ⟨none,.vlp 157 (.t 156) 163 0 162 [] 1 false⟩,
  oD 14 false (oV 158 (.idxA 5 (.t 147) (.t 148))),
  oD 15 false (oV 159 (.fldP (.t 158) 1)),
  oD 16 false ⟨none,.vse (.t 159) 163 0 162 [] 1 (.t 157)⟩] [144,145,146,147,148,149,150,151,152,153,154,155,156,157,158,159]
abbrev zZR:HCode:=oR [oV 160 (.ints .add (.t 129) (.c (iv 1))),
  oV 129 (.mv (.t 160))] [160]
abbrev zZS:HCode:=.regG [.vfr 163 0 162,.frz 0 162 2] [oV 161 (.mv (.t 3)),
  oV 2 (.mv (.t 161))] [.forget [161]]
abbrev yIL:HCode:=(.seq yBV (.seq yBW (.seq yBX (.seq (.seq yBY (.block 0 (.loop (.seq yBZ (.seq (.cond (.t 25) .skip (.exit 0)) (.seq (.block 1 (.seq yB0 (.seq yB1 (.seq (.seq yB2 (.seq yB3 (.cond (.t 43) yB4 .skip))) (.seq zZz (.seq zZA (.seq (.seq zZB (.seq zZC (.cond (.t 72) zZD .skip))) (.seq (.seq zZE (.cond (.t 91) zZF .skip)) (.seq zZG (.block 2 (.loop (.seq (.seq zZH (.cond (.t 107) .skip (.exit 2))) (.seq (.block 3 zZI) zZJ))))))))))))) zZK)))))) (.seq (.seq zZL (.block 4 (.loop (.seq zZM (.seq (.cond (.t 130) .skip (.exit 4)) (.seq (.block 5 (.seq zZN (.seq zZO (.seq zZP (.cond (.t 143) zZQ .skip))))) zZR)))))) (.seq zZS .ret))))))
abbrev zUG:Env:={N:=162,Γ:=[(162,2),(164,5),(169,5)],L:=174,nfix:=0,una:=[162]}
abbrev match_of_R:List RSrc:=[.tmp 2]
theorem yB5:zBE Tryz.prog zKU yIL zUG match_of_R:=by kernel_rfl
abbrev zKW:HCode:=oN [oV 5 (.boxF (.t 2)),
  oV 6 (.mv (.c (sv []))),
  oV 7 (.mv (.c (bv false)))]
abbrev zKX:HCode:=oR [oV 9 (.mv (.t 0)),
  oV 10 (.nilck (.t 9)),
  oV 11 (.fldR (.t 10) 0 1),
  oV 12 (.fldR (.t 11) 0 1),
  oV 13 (.ldR (.t 12) 1 false),
  oV 14 (.mv (.t 1)),
  oV 15 (.idxA 5 (.t 13) (.t 14)),
  oV 16 (.fldR (.t 15) 4 1),
  oV 17 (.ldR (.t 16) 1 false),
  oV 18 (.mkf zBQ [.t 5]),
  oC 19 zA3 [(.t 17,.v),(.t 18,.v)],
  oV 8 (.mv (.t 19))] [9,10,11,12,13,14,15,16,17,18,19]
abbrev zKY:HCode:=oR [oV 20 (.mv (.t 8)),
  oV 21 (.ints .lss (.t 20) (.c (iv 0)))] [20]
abbrev zKZ:HCode:=oN [oV 6 (.mv (.c (sv []))),
  oV 7 (.mv (.c (bv false)))]
abbrev zK0:HCode:=oR [oV 22 (.mv (.t 0)),
  oV 23 (.nilck (.t 22)),
  oV 24 (.fldR (.t 23) 0 1),
  oV 25 (.fldR (.t 24) 0 1),
  oV 26 (.ldR (.t 25) 1 false),
  oV 27 (.mv (.t 1)),
  oV 28 (.idxA 5 (.t 26) (.t 27)),
  oV 29 (.fldR (.t 28) 4 1),
  oV 30 (.ldR (.t 29) 1 false),
  oV 31 (.mv (.t 8)),
  oV 32 (.idxA 2 (.t 30) (.t 31)),
  oV 33 (.fldR (.t 32) 1 1),
  oV 34 (.ldR (.t 33) 1 false),
  oV 6 (.mv (.t 34)),
  oV 7 (.mv (.c (bv true)))] [22,23,24,25,26,27,28,29,30,31,32,33,34]
abbrev zOJ:HCode:=(.seq zKW (.seq zKX (.seq (.seq zKY (.cond (.t 21) (.seq zKZ .ret) .skip)) (.seq zK0 .ret))))
abbrev zFy:Env:={N:=35,Γ:=[],L:=35,nfix:=0}
abbrev match_look_value_R:List RSrc:=[.tmp 6,.tmp 7]
theorem zK1:zBE Tryz.prog zC8 zOJ zFy match_look_value_R:=by kernel_rfl
abbrev zID:HCode:=oN [oV 2 (.boxF (.t 0)),
  oV 3 (.mv (.c (bv false)))]
abbrev zIE:HCode:=oR [oV 4 (.fldR (.t 2) 0 1),
  oV 5 (.ldR (.t 4) 1 false),
  oV 6 (.ldR (.t 1) 1 false),
  oV 7 (.strs .eql (.t 5) (.t 6)),
  oV 3 (.mv (.t 7))] [4,5,6,7]
abbrev zL8:HCode:=(.seq zID (.seq zIE .ret))
abbrev zEn:Env:={N:=8,Γ:=[],L:=8,nfix:=0}
abbrev match_look_value_1_R:List RSrc:=[.tmp 3]
theorem zIF:zBE Tryz.prog zBQ zL8 zEn match_look_value_1_R:=by kernel_rfl
abbrev zWM:HCode:=oN [oV 2 (.boxF (.t 0)),
  oV 4 (.mv (.c (bv false)))]
abbrev zWN:HCode:=oR [oV 6 (.fldR (.t 2) 2 1),
  oV 7 (.ldR (.t 6) 1 false),
  oV 5 (.mv (.t 7))] [6,7]
abbrev zWO:HCode:=oR [oV 8 (.fldR (.t 2) 0 1),
  oV 9 (.ldR (.t 8) 1 false)] [8]
abbrev zWP:HCode:=oR [oV 11 (.ints .eql (.t 9) (.c (iv 4))),
  oV 10 (.mv (.t 11))] [11]
abbrev zWQ:HCode:=oR [oV 12 (.mv (.t 1)),
  oV 13 (.mv (.t 5)),
  oV 14 (.strs .eql (.t 12) (.t 13)),
  oV 4 (.mv (.t 14))] [12,13,14]
abbrev zWR:HCode:=oR [oV 16 (.ints .eql (.t 9) (.c (iv 5))),
  oV 15 (.mv (.t 16))] [16]
abbrev zWS:HCode:=oR [oV 17 (.mv (.t 5)),
  oV 18 (.strs .neq (.t 17) (.c (sv []))),
  oV 19 (.mv (.t 18)),
  oG 19 true 20 (.mv (.t 1)),
  oG 19 true 21 (.mv (.t 5)),
  ⟨some (19,true),.call (some 22) zCS [(.t 20,.v),(.t 21,.v)]⟩,
  oV 23 (.pick (.t 19) (.t 22) (.c (bv false))),
  oV 4 (.mv (.t 23))] [17,18,19,20,21,22,23]
abbrev zWT:HCode:=oR [oV 25 (.ints .eql (.t 9) (.c (iv 6))),
  oV 24 (.mv (.t 25))] [25]
abbrev zWU:HCode:=oR [oV 26 (.mv (.t 5)),
  oV 27 (.strs .neq (.t 26) (.c (sv []))),
  oV 28 (.mv (.t 27)),
  oG 28 true 29 (.mv (.t 1)),
  oG 28 true 30 (.mv (.t 5)),
  ⟨some (28,true),.call (some 31) zCT [(.t 29,.v),(.t 30,.v)]⟩,
  oV 32 (.pick (.t 28) (.t 31) (.c (bv false))),
  oV 4 (.mv (.t 32))] [26,27,28,29,30,31,32]
abbrev zWV:HCode:=oR [oV 34 (.ints .eql (.t 9) (.c (iv 7))),
  oV 33 (.mv (.t 34))] [34]
abbrev zS1:HCode:=oR [oV 35 (.mv (.t 5)),
  oV 36 (.strs .neq (.t 35) (.c (sv []))),
  oV 37 (.mv (.t 36)),
  oG 37 true 38 (.mv (.t 1)),
  oG 37 true 39 (.mv (.t 5)),
  ⟨some (37,true),.call (some 40) zC9 [(.t 38,.v),(.t 39,.v)]⟩,
  oV 41 (.pick (.t 37) (.t 40) (.c (bv false))),
  oV 4 (.mv (.t 41))] [35,36,37,38,39,40,41]
abbrev zS2:HCode:=oR [oV 43 (.ints .eql (.t 9) (.c (iv 8))),
  oV 42 (.mv (.t 43))] [43]
abbrev zS3:HCode:=oR [oV 44 (.mv (.t 5)),
  oV 45 (.strs .neq (.t 44) (.c (sv []))),
  oV 46 (.mv (.t 45)),
  oG 46 true 47 (.mv (.t 1)),
  ⟨some (46,true),.call (some 48) zEi [(.t 47,.v),(.c (sv [32]),.v)]⟩,
  oG 46 true 49 (.mv (.t 5)),
  ⟨some (46,true),.call (some 50) zBg [(.t 48,.v),(.t 49,.v)]⟩,
  oV 51 (.pick (.t 46) (.t 50) (.c (bv false))),
  oV 4 (.mv (.t 51))] [44,45,46,47,48,49,50,51]
abbrev zS4:HCode:=oN [oV 4 (.mv (.c (bv true)))]
abbrev yFf:HCode:=(.seq zWM (.seq zWN (.seq (.seq zWO (.block 0 (.seq zWP (.cond (.t 10) (.seq zWQ .ret) (.seq zWR (.cond (.t 15) (.seq zWS .ret) (.seq zWT (.cond (.t 24) (.seq zWU .ret) (.seq zWV (.cond (.t 33) (.seq zS1 .ret) (.seq zS2 (.cond (.t 42) (.seq zS3 .ret) .skip)))))))))))) (.seq zS4 .ret))))
abbrev zOt:Env:={N:=52,Γ:=[],L:=52,nfix:=0}
abbrev match_attr_R:List RSrc:=[.tmp 4]
theorem zWW:zBE Tryz.prog zHb yFf zOt match_attr_R:=by kernel_rfl
abbrev zJT:HCode:=oN [oV 4 (.boxF (.t 1)),
  oV 6 (.mv (.c (bv false)))]
abbrev zJU:HCode:=oR [oV 11 (.mv (.t 0)),
  oV 12 (.nilck (.t 11)),
  oV 13 (.fldR (.t 12) 0 1),
  oV 14 (.fldR (.t 13) 0 1),
  oV 15 (.ldR (.t 14) 1 false),
  oV 16 (.mv (.t 2)),
  oV 17 (.idxA 5 (.t 15) (.t 16)),
  oV 18 (.ldR (.t 17) 5 true),
  ⟨none,.alloc 7 0 138 [.v (.int .i64 0),.v (mkS []),.v (mkS []),.nl 1,.nl 2]⟩,
  ⟨none,.sto (.t 7) 0 138 0 5 (.t 18)⟩] [11,12,13,14,15,16,17,18]
abbrev zJV:HCode:=oR [oV 19 (.fldR (.t 4) 0 1),
  oV 20 (.ldR (.t 19) 1 false)] [19]
abbrev zJW:HCode:=oR [oV 22 (.ints .eql (.t 20) (.c (iv 1))),
  oV 21 (.mv (.t 22))] [22]
abbrev zJX:HCode:=oR [oV 23 (.fldP (.t 7) 3),
  oV 24 (.ldB (.t 23) 0 138 3 1 false),
  oV 25 (.fldR (.t 4) 1 1),
  oV 26 (.ldR (.t 25) 1 false),
  oC 27 zBg [(.t 24,.v),(.t 26,.v)],
  oV 6 (.mv (.t 27))] [23,24,25,26,27]
abbrev zJY:HCode:=oR [oV 29 (.ints .eql (.t 20) (.c (iv 2))),
  oV 28 (.mv (.t 29))] [29]
abbrev zJZ:HCode:=oR [oV 30 (.fldP (.t 7) 2),
  oV 31 (.ldB (.t 30) 0 138 2 1 false),
  oV 32 (.fldR (.t 4) 1 1),
  oV 33 (.ldR (.t 32) 1 false),
  oV 34 (.strs .eql (.t 31) (.t 33)),
  oV 6 (.mv (.t 34))] [30,31,32,33,34]
abbrev zJ0:HCode:=oR [oV 36 (.ints .eql (.t 20) (.c (iv 9))),
  oV 35 (.mv (.t 36))] [36]
abbrev zJ1:HCode:=oQ [oD 0 false (oV 37 (.fldR (.t 4) 3 2)),
  oD 1 false (oV 38 (.ldR (.t 37) 2 true)),
  oD 2 false (oV 39 (.mv (.t 0))),
  oD 3 false (oV 40 (.nilck (.t 39))),
  oD 4 false (oV 41 (.fldR (.t 40) 1 1)),
  oD 5 false (oV 42 (.ldR (.t 41) 1 false)),
  oD 6 false (oV 43 (.mv (.t 2))),
  oD 7 false (oV 44 (.idxA 5 (.t 42) (.t 43))),
  oD 8 false (oV 45 (.fldR (.t 44) 0 1)),
  oD 9 false (oV 46 (.ldR (.t 45) 1 false)),
  oD 10 true (oC 47 zFx [(.t 38,.v),(.t 46,.v)]),
  oD 11 false (oV 6 (.mv (.t 47)))] [37,38,39,40,41,42,43,44,45,46,47]
abbrev zJ2:HCode:=oR [oV 49 (.ints .eql (.t 20) (.c (iv 10))),
  oV 48 (.mv (.t 49))] [49]
abbrev zIG:HCode:=oQ [oD 0 false (oV 50 (.fldR (.t 4) 3 2)),
  oD 1 false (oV 51 (.ldR (.t 50) 2 true)),
  oD 2 false (oV 52 (.mv (.t 0))),
  oD 3 false (oV 53 (.nilck (.t 52))),
  oD 4 false (oV 54 (.fldR (.t 53) 1 1)),
  oD 5 false (oV 55 (.ldR (.t 54) 1 false)),
  oD 6 false (oV 56 (.mv (.t 2))),
  oD 7 false (oV 57 (.idxA 5 (.t 55) (.t 56))),
  oD 8 false (oV 58 (.fldR (.t 57) 1 1)),
  oD 9 false (oV 59 (.ldR (.t 58) 1 false)),
  oD 10 false (oV 60 (.mv (.t 0))),
  oD 11 false (oV 61 (.nilck (.t 60))),
  oD 12 false (oV 62 (.fldR (.t 61) 1 1)),
  oD 13 false (oV 63 (.ldR (.t 62) 1 false)),
  oD 14 false (oV 64 (.mv (.t 2))),
  oD 15 false (oV 65 (.idxA 5 (.t 63) (.t 64))),
  oD 16 false (oV 66 (.fldR (.t 65) 0 1)),
  oD 17 false (oV 67 (.ldR (.t 66) 1 false)),
  oD 18 false (oV 68 (.ints .sub (.t 59) (.t 67))),
  oD 19 false (oV 69 (.ints .add (.t 68) (.c (iv 1)))),
  oD 20 true (oC 70 zFx [(.t 51,.v),(.t 69,.v)]),
  oD 21 false (oV 6 (.mv (.t 70)))] [50,51,52,53,54,55,56,57,58,59,60,61,62,63,64,65,66,67,68,69,70]
abbrev zIH:HCode:=oR [oV 72 (.ints .eql (.t 20) (.c (iv 11))),
  oV 71 (.mv (.t 72))] [72]
abbrev zII:HCode:=oR [oV 73 (.mv (.t 0)),
  oV 74 (.nilck (.t 73)),
  oV 75 (.fldR (.t 74) 1 1),
  oV 76 (.ldR (.t 75) 1 false),
  oV 77 (.mv (.t 2)),
  oV 78 (.idxA 5 (.t 76) (.t 77)),
  oV 79 (.fldR (.t 78) 4 1),
  oV 80 (.ldR (.t 79) 1 false),
  oV 81 (.ints .eql (.t 80) (.c (iv 0))),
  oV 6 (.mv (.t 81))] [73,74,75,76,77,78,79,80,81]
abbrev zIJ:HCode:=oR [oV 83 (.ints .eql (.t 20) (.c (iv 12))),
  oV 82 (.mv (.t 83))] [83]
abbrev zIK:HCode:=oR [oV 84 (.mv (.t 2)),
  oV 85 (.ints .eql (.t 84) (.c (iv 0))),
  oV 6 (.mv (.t 85))] [84,85]
abbrev zIL:HCode:=oR [oV 87 (.ints .eql (.t 20) (.c (iv 13))),
  oV 86 (.mv (.t 87))] [87]
abbrev zIM:HCode:=oR [oV 88 (.mv (.t 0)),
  oV 89 (.fldR (.t 4) 5 1),
  oV 90 (.ldR (.t 89) 1 false),
  oV 91 (.mv (.t 2)),
  oC 92 zAy [(.t 88,.v),(.t 90,.v),(.t 91,.v)],
  oV 93 (.not (.t 92)),
  oV 6 (.mv (.t 93))] [88,89,90,91,92,93]
abbrev zIN:HCode:=oR [oV 95 (.ints .eql (.t 20) (.c (iv 14))),
  oV 94 (.mv (.t 95))] [95]
abbrev zIO:HCode:=oR [oV 96 (.mv (.t 0)),
  oV 97 (.fldR (.t 4) 5 1),
  oV 98 (.ldR (.t 97) 1 false),
  oV 99 (.mv (.t 2)),
  oC 100 zAy [(.t 96,.v),(.t 98,.v),(.t 99,.v)],
  oV 6 (.mv (.t 100))] [96,97,98,99,100]
abbrev zIP:HCode:=oR [oV 102 (.ints .eql (.t 20) (.c (iv 15))),
  oV 101 (.mv (.t 102))] [102]
abbrev zIQ:HCode:=oR [oV 103 (.mv (.t 2)),
  oV 104 (.ints .add (.t 103) (.c (iv 1))),
  oV 8 (.mv (.t 104))] [103,104]
abbrev zIR:HCode:=oR [oV 105 (.mv (.t 8)),
  oV 106 (.mv (.t 2)),
  oV 107 (.mv (.t 0)),
  oV 108 (.nilck (.t 107)),
  oV 109 (.fldR (.t 108) 1 1),
  oV 110 (.ldR (.t 109) 1 false),
  oV 111 (.mv (.t 2)),
  oV 112 (.idxA 5 (.t 110) (.t 111)),
  oV 113 (.fldR (.t 112) 3 1),
  oV 114 (.ldR (.t 113) 1 false),
  oV 115 (.ints .add (.t 106) (.t 114)),
  oV 116 (.ints .leq (.t 105) (.t 115))] [105,106,107,108,109,110,111,112,113,114,115]
abbrev zIS:HCode:=oR [oV 119 (.mv (.t 0)),
  oV 120 (.fldR (.t 4) 5 1),
  oV 121 (.ldR (.t 120) 1 false),
  oV 122 (.mv (.t 8)),
  oC 123 zAy [(.t 119,.v),(.t 121,.v),(.t 122,.v)]] [119,120,121,122]
abbrev zIT:HCode:=oN [oV 6 (.mv (.c (bv true)))]
abbrev zIU:HCode:=oR [oV 117 (.mv (.t 8)),
  oV 118 (.ints .add (.t 117) (.c (iv 1))),
  oV 8 (.mv (.t 118))] [117,118]
abbrev zIV:HCode:=oN [oV 6 (.mv (.c (bv false)))]
abbrev zIW:HCode:=oR [oV 125 (.mv (.t 0)),
  oV 126 (.mv (.t 2)),
  oV 127 (.fldR (.t 4) 1 1),
  oV 128 (.ldR (.t 127) 1 false),
  oC 129 zC8 [(.t 125,.v),(.t 126,.v),(.t 128,.v)],
  oV 124 (.mv (.t 129)),
  oV 130 (.ext 124 0),
  oV 131 (.ext 124 1),
  oV 9 (.mv (.t 130)),
  oV 10 (.mv (.t 131))] [124,125,126,127,128,129,130,131]
abbrev zIX:HCode:=oR [oV 132 (.mv (.t 10)),
  oV 133 (.mv (.t 132)),
  oG 133 true 134 (.ldR (.t 4) 6 true),
  oG 133 true 135 (.mv (.t 9)),
  ⟨some (133,true),.call (some 136) zHb [(.t 134,.v),(.t 135,.v)]⟩,
  oV 137 (.pick (.t 133) (.t 136) (.c (bv false))),
  oV 6 (.mv (.t 137))] [132,133,134,135,136,137]
abbrev zNU:HCode:=(.seq zJT (.seq zJU (.seq (.seq zJV (.block 0 (.seq zJW (.cond (.t 21) (.seq zJX .ret) (.seq zJY (.cond (.t 28) (.seq zJZ .ret) (.seq zJ0 (.cond (.t 35) (.seq zJ1 .ret) (.seq zJ2 (.cond (.t 48) (.seq zIG .ret) (.seq zIH (.cond (.t 71) (.seq zII .ret) (.seq zIJ (.cond (.t 82) (.seq zIK .ret) (.seq zIL (.cond (.t 86) (.seq zIM .ret) (.seq zIN (.cond (.t 94) (.seq zIO .ret) (.seq zIP (.cond (.t 101) (.seq (.seq zIQ (.block 1 (.loop (.seq (.seq zIR (.cond (.t 116) .skip (.exit 1))) (.seq (.block 2 (.seq zIS (.cond (.t 123) (.seq zIT .ret) .skip))) zIU))))) (.seq zIV .ret)) .skip)))))))))))))))))))) (.seq zIW (.seq zIX .ret)))))
abbrev zE6:Env:={N:=138,Γ:=[(138,5)],L:=143,nfix:=0}
abbrev match_look_passes_R:List RSrc:=[.tmp 6]
theorem zJ3:zBE Tryz.prog zA9 zNU zE6 match_look_passes_R:=by kernel_rfl
abbrev zL9:HCode:=oN [oV 3 (.boxF (.t 0)),
  oV 4 (.boxF (.t 1)),
  oV 5 (.boxF (.t 2)),
  oV 6 (.mv (.c (bv false)))]
abbrev zMa:HCode:=oQ [oD 0 false (oV 7 (.fldR (.t 4) 0 1)),
  oD 1 false (oV 8 (.ldR (.t 7) 1 false)),
  oD 2 false (oV 9 (.strs .eql (.t 8) (.c (sv [])))),
  oD 3 false (oV 10 (.mv (.t 9))),
  oD 4 false (oG 10 false 11 (.fldR (.t 4) 0 1)),
  oD 5 false (oG 10 false 12 (.ldR (.t 11) 1 false)),
  oD 6 false (oG 10 false 13 (.ldR (.t 3) 1 false)),
  oD 7 false (oG 10 false 14 (.nilck (.t 13))),
  oD 8 false (oG 10 false 15 (.fldR (.t 14) 0 1)),
  oD 9 false (oG 10 false 16 (.fldR (.t 15) 0 1)),
  oD 10 false (oG 10 false 17 (.ldR (.t 16) 1 false)),
  oD 11 false (oG 10 false 18 (.ldR (.t 5) 1 false)),
  oD 12 false (oG 10 false 19 (.idxA 5 (.t 17) (.t 18))),
  oD 13 false (oG 10 false 20 (.fldR (.t 19) 1 1)),
  oD 14 false (oG 10 false 21 (.ldR (.t 20) 1 false)),
  oD 15 false (oG 10 false 22 (.strs .eql (.t 12) (.t 21))),
  oD 16 false (oV 23 (.pick (.t 10) (.c (bv true)) (.t 22))),
  oD 17 false (oV 24 (.mv (.t 23))),
  oD 18 false (oG 24 true 25 (.fldR (.t 4) 1 1)),
  oD 19 false (oG 24 true 26 (.ldR (.t 25) 1 false)),
  oD 20 false (oG 24 true 27 (.mkf zB0 [.t 3,.t 5])),
  oD 21 true ⟨some (24,true),.call (some 28) zBH [(.t 26,.v),(.t 27,.v)]⟩,
  oD 22 false (oG 24 true 29 (.not (.t 28))),
  oD 23 false (oV 30 (.pick (.t 24) (.t 29) (.c (bv false)))),
  oD 24 false (oV 6 (.mv (.t 30)))] [7,8,9,10,11,12,13,14,15,16,17,18,19,20,21,22,23,24,25,26,27,28,29,30]
abbrev zQ7:HCode:=(.seq zL9 (.seq zMa .ret))
abbrev zGM:Env:={N:=31,Γ:=[],L:=31,nfix:=0}
abbrev match_look_step_R:List RSrc:=[.tmp 6]
theorem zMb:zBE Tryz.prog zBp zQ7 zGM match_look_step_R:=by kernel_rfl
abbrev zJ4:HCode:=oN [oV 3 (.boxF (.t 0)),
  oV 4 (.mv (.c (bv false)))]
abbrev zJ5:HCode:=oR [oV 5 (.ldR (.t 1) 1 false),
  oV 6 (.ldR (.t 3) 6 true),
  oV 7 (.ldR (.t 2) 1 false),
  oC 8 zA9 [(.t 5,.v),(.t 6,.v),(.t 7,.v)],
  oV 9 (.not (.t 8)),
  oV 4 (.mv (.t 9))] [5,6,7,8,9]
abbrev zNV:HCode:=(.seq zJ4 (.seq zJ5 .ret))
abbrev zE7:Env:={N:=10,Γ:=[],L:=10,nfix:=0}
abbrev match_look_step_1_R:List RSrc:=[.tmp 4]
theorem zJ6:zBE Tryz.prog zB0 zNV zE7 match_look_step_1_R:=by kernel_rfl
abbrev zK2:HCode:=oN [oV 3 (.boxF (.t 0)),
  oV 4 (.boxF (.t 1)),
  oV 5 (.boxF (.t 2)),
  oV 6 (.mv (.c (.one (.v .nilFunc))))]
abbrev zK3:HCode:=oR [oV 8 (.mkf zBO [.t 3]),
  ⟨none,.alloc 7 0 17 [.v .nilFunc]⟩,
  ⟨none,.sto (.t 7) 0 17 0 1 (.t 8)⟩] [8]
abbrev zK4:HCode:=oR [oV 9 (.ldR (.t 4) 1 false),
  oV 10 (.ints .eql (.t 9) (.c (iv 3))),
  oV 11 (.mv (.t 10)),
  oG 11 false 12 (.ldR (.t 4) 1 false),
  oG 11 false 13 (.ints .eql (.t 12) (.c (iv 4))),
  oV 14 (.pick (.t 11) (.c (bv true)) (.t 13))] [9,10,11,12,13]
abbrev zK5:HCode:=oR [oV 15 (.mkf zBP [.t 3]),
  ⟨none,.sto (.t 7) 0 17 0 1 (.t 15)⟩] [15]
abbrev zK6:HCode:=.regG [.frz 0 17 1] [oV 16 (.mkf zD5 [.t 7,.t 5,.t 4]),
  oV 6 (.mv (.t 16))] [.forget [16]]
abbrev zOK:HCode:=(.seq zK2 (.seq zK3 (.seq (.seq zK4 (.cond (.t 14) zK5 .skip)) (.seq zK6 .ret))))
abbrev zFz:Env:={N:=17,Γ:=[(17,1)],L:=18,nfix:=0}
abbrev match_look_roads_R:List RSrc:=[.tmp 6]
theorem zK7:zBE Tryz.prog zC7 zOK zFz match_look_roads_R:=by kernel_rfl
abbrev zIY:HCode:=oN [oV 3 (.mv (.c (iv 0)))]
abbrev zIZ:HCode:=oR [oV 4 (.ldR (.t 1) 1 false),
  oV 5 (.nilck (.t 4)),
  oV 6 (.fldR (.t 5) 0 1),
  oV 7 (.fldR (.t 6) 0 1),
  oV 8 (.ldR (.t 7) 1 false),
  oV 9 (.mv (.t 0)),
  oV 10 (.idxA 5 (.t 8) (.t 9)),
  oV 11 (.fldR (.t 10) 0 1),
  oV 12 (.ldR (.t 11) 1 false),
  oV 3 (.mv (.t 12))] [4,5,6,7,8,9,10,11,12]
abbrev zMc:HCode:=(.seq zIY (.seq zIZ .ret))
abbrev zEo:Env:={N:=13,Γ:=[],L:=13,nfix:=0}
abbrev match_look_roads_1_R:List RSrc:=[.tmp 3]
theorem zI0:zBE Tryz.prog zBO zMc zEo match_look_roads_1_R:=by kernel_rfl
abbrev zI1:HCode:=oN [oV 3 (.mv (.c (iv 0)))]
abbrev zI2:HCode:=oR [oV 4 (.ldR (.t 1) 1 false),
  oV 5 (.nilck (.t 4)),
  oV 6 (.fldR (.t 5) 1 1),
  oV 7 (.ldR (.t 6) 1 false),
  oV 8 (.mv (.t 0)),
  oV 9 (.idxA 5 (.t 7) (.t 8)),
  oV 10 (.fldR (.t 9) 2 1),
  oV 11 (.ldR (.t 10) 1 false),
  oV 3 (.mv (.t 11))] [4,5,6,7,8,9,10,11]
abbrev zMd:HCode:=(.seq zI1 (.seq zI2 .ret))
abbrev zEp:Env:={N:=12,Γ:=[],L:=12,nfix:=0}
abbrev match_look_roads_2_R:List RSrc:=[.tmp 3]
theorem zI3:zBE Tryz.prog zBP zMd zEp match_look_roads_2_R:=by kernel_rfl
abbrev zMe:HCode:=oN [oV 3 (.boxF (.t 0)),
  oV 5 (.boxF (.t 2)),
  oV 6 (.mv (.c (bv false)))]
abbrev zMf:HCode:=oR [oV 7 (.mv (.t 1)),
  oV 8 (.mkf zBZ [.t 3,.t 5]),
  oC 9 zBG [(.t 7,.v),(.t 8,.v)],
  oV 6 (.mv (.t 9))] [7,8,9]
abbrev zQ8:HCode:=(.seq zMe (.seq zMf .ret))
abbrev zGN:Env:={N:=10,Γ:=[],L:=10,nfix:=0}
abbrev match_look_list_R:List RSrc:=[.tmp 6]
theorem zMg:zBE Tryz.prog zAy zQ8 zGN match_look_list_R:=by kernel_rfl
abbrev zJ7:HCode:=oN [oV 3 (.boxF (.t 0)),
  oV 4 (.mv (.c (bv false)))]
abbrev zJ8:HCode:=oR [oV 5 (.ldR (.t 1) 1 false),
  oV 6 (.ldR (.t 3) 2 true),
  oV 7 (.fldR (.t 3) 0 1),
  oV 8 (.ldR (.t 7) 1 false),
  oV 9 (.len false (.t 8)),
  oV 10 (.ldR (.t 2) 1 false),
  oC 11 zA7 [(.t 5,.v),(.t 6,.v),(.t 9,.v),(.t 10,.v)],
  oV 4 (.mv (.t 11))] [5,6,7,8,9,10,11]
abbrev zNW:HCode:=(.seq zJ7 (.seq zJ8 .ret))
abbrev zE8:Env:={N:=12,Γ:=[],L:=12,nfix:=0}
abbrev match_look_list_1_R:List RSrc:=[.tmp 4]
theorem zJ9:zBE Tryz.prog zBZ zNW zE8 match_look_list_1_R:=by kernel_rfl
abbrev zS5:HCode:=oN [oV 2 (.boxF (.t 0)),
  oV 4 (.mv (.c (.one (.v (.pointer none))))),
  oV 5 (.mv (.c (iv 0)))]
abbrev zS6:HCode:=oR [oV 8 (.ldR (.t 2) 1 true),
  oC 9 zB9 [(.t 8,.v)],
  oV 6 (.mv (.t 9))] [8,9]
abbrev zS7:HCode:=oR [oV 10 (.mv (.t 6)),
  oV 11 (.ints .neq (.t 10) (.c (iv 0)))] [10]
abbrev zS8:HCode:=oR [oV 12 (.mv (.t 6)),
  oV 4 (.mv (.c (.one (.v (.pointer none))))),
  oV 5 (.mv (.t 12))] [12]
abbrev zS9:HCode:=oR [oV 13 (.mv (.t 1)),
  oC 14 zEw [(.t 13,.v)],
  oV 7 (.mv (.t 14))] [13,14]
abbrev zTa:HCode:=oR [oV 15 (.mv (.t 7)),
  oV 16 (.ints .neq (.t 15) (.c (iv 0)))] [15]
abbrev zTb:HCode:=oR [oV 17 (.mv (.t 7)),
  oV 4 (.mv (.c (.one (.v (.pointer none))))),
  oV 5 (.mv (.t 17))] [17]
abbrev zTc:HCode:=oR [oV 18 (.ldR (.t 2) 1 true),
  oC 19 zKU [(.t 18,.v)],
  oV 4 (.mv (.t 19)),
  oV 5 (.mv (.c (iv 0)))] [18,19]
abbrev yB6:HCode:=(.seq zS5 (.seq (.seq zS6 (.seq zS7 (.cond (.t 11) (.seq zS8 .ret) .skip))) (.seq (.seq zS9 (.seq zTa (.cond (.t 16) (.seq zTb .ret) .skip))) (.seq zTc .ret))))
abbrev zMh:Env:={N:=20,Γ:=[],L:=20,nfix:=0}
abbrev match_begin_R:List RSrc:=[.tmp 4,.tmp 5]
theorem zTd:zBE Tryz.prog zDY yB6 zMh match_begin_R:=by kernel_rfl
abbrev yB7:HCode:=oN [oV 3 (.boxF (.t 0)),
  oV 6 (.mv (.c (.one (.v (.pointer none))))),
  oV 7 (.mv (.c (iv 0)))]
abbrev yB8:HCode:=oR [oV 11 (.ldR (.t 3) 1 true),
  oV 12 (.mv (.t 1)),
  oC 13 zDY [(.t 11,.v),(.t 12,.v)],
  oV 10 (.mv (.t 13)),
  oV 14 (.ext 10 0),
  oV 15 (.ext 10 1),
  oV 8 (.mv (.t 14)),
  oV 9 (.mv (.t 15))] [10,11,12,13,14,15]
abbrev yB9:HCode:=oR [oV 16 (.mv (.t 9)),
  oV 17 (.ints .eql (.t 16) (.c (iv 0))),
  oV 18 (.mv (.t 17)),
  oG 18 true 19 (.mv (.t 2)),
  oG 18 true 20 (.ints .lss (.t 19) (.c (iv 0))),
  oG 18 true 21 (.mv (.t 20)),
  oG 21 false 22 (.mv (.t 2)),
  oG 21 false 23 (.fldR (.t 3) 0 1),
  oG 21 false 24 (.ldR (.t 23) 1 false),
  oG 21 false 25 (.len false (.t 24)),
  oG 21 false 26 (.ints .geq (.t 22) (.t 25)),
  oG 18 true 27 (.pick (.t 21) (.c (bv true)) (.t 26)),
  oV 28 (.pick (.t 18) (.t 27) (.c (bv false)))] [16,17,18,19,20,21,22,23,24,25,26,27]
abbrev yCa:HCode:=oN [oV 9 (.mv (.c (iv 5)))]
abbrev yCb:HCode:=oR [oV 29 (.mv (.t 8)),
  oV 30 (.mv (.t 9)),
  oV 6 (.mv (.t 29)),
  oV 7 (.mv (.t 30))] [29,30]
abbrev yIM:HCode:=(.seq yB7 (.seq yB8 (.seq (.seq yB9 (.cond (.t 28) yCa .skip)) (.seq yCb .ret))))
abbrev zUH:Env:={N:=31,Γ:=[],L:=31,nfix:=0}
abbrev match_at_R:List RSrc:=[.tmp 6,.tmp 7]
theorem yCc:zBE Tryz.prog zKT yIM zUH match_at_R:=by kernel_rfl
abbrev zOL:HCode:=oN [oV 3 (.boxF (.t 0)),
  oV 6 (.mv (.c (bv false))),
  oV 7 (.mv (.c (iv 0)))]
abbrev zOM:HCode:=oR [oV 11 (.ldR (.t 3) 1 true),
  oV 12 (.mv (.t 1)),
  oV 13 (.mv (.t 2)),
  oC 14 zKT [(.t 11,.v),(.t 12,.v),(.t 13,.v)],
  oV 10 (.mv (.t 14)),
  oV 15 (.ext 10 0),
  oV 16 (.ext 10 1),
  oV 8 (.mv (.t 15)),
  oV 9 (.mv (.t 16))] [10,11,12,13,14,15,16]
abbrev zON:HCode:=oR [oV 17 (.mv (.t 9)),
  oV 18 (.ints .eql (.t 17) (.c (iv 0))),
  oV 19 (.mv (.t 18)),
  oG 19 true 20 (.mv (.t 8)),
  oG 19 true 21 (.mv (.t 1)),
  oG 19 true 22 (.mv (.t 2)),
  ⟨some (19,true),.call (some 23) zAy [(.t 20,.v),(.t 21,.v),(.t 22,.v)]⟩,
  oV 24 (.pick (.t 19) (.t 23) (.c (bv false))),
  oV 25 (.mv (.t 9)),
  oV 6 (.mv (.t 24)),
  oV 7 (.mv (.t 25))] [17,18,19,20,21,22,23,24,25]
abbrev zWX:HCode:=(.seq zOL (.seq zOM (.seq zON .ret)))
abbrev zI4:Env:={N:=26,Γ:=[],L:=26,nfix:=0}
abbrev match_Matches_R:List RSrc:=[.tmp 6,.tmp 7]
theorem zOO:zBE Tryz.prog zEh zWX zI4 match_Matches_R:=by kernel_rfl
abbrev zZT:HCode:=oN [oV 2 (.boxF (.t 0)),
  oV 4 (.mv (.c (.one (.nl 1)))),
  oV 5 (.mv (.c (iv 0)))]
abbrev zZU:HCode:=oR [oV 11 (.ldR (.t 2) 1 true),
  oV 12 (.mv (.t 1)),
  oC 13 zDY [(.t 11,.v),(.t 12,.v)],
  oV 10 (.mv (.t 13)),
  oV 14 (.ext 10 0),
  oV 15 (.ext 10 1),
  oV 6 (.mv (.t 14)),
  oV 7 (.mv (.t 15))] [10,11,12,13,14,15]
abbrev zZV:HCode:=oR [oV 16 (.mv (.t 7)),
  oV 17 (.ints .neq (.t 16) (.c (iv 0)))] [16]
abbrev zZW:HCode:=oR [oV 18 (.mv (.t 7)),
  oV 4 (.mv (.c (.one (.nl 1)))),
  oV 5 (.mv (.t 18))] [18]
abbrev zZX:HCode:=oN [⟨none,.nlo 8 zAs 1⟩]
abbrev zZY:HCode:=oR [oV 19 (.fldR (.t 2) 0 1),
  oV 20 (.ldR (.t 19) 1 false),
  oV 21 (.len false (.t 20)),
  oV 22 (.mv (.c (iv 0)))] [19,20]
abbrev zZZ:HCode:=oN [oV 23 (.ints .lss (.t 22) (.t 21))]
abbrev zZ0:HCode:=oR [oV 24 (.mv (.t 22)),
  oV 9 (.mv (.t 24))] [24]
abbrev zZ1:HCode:=oR [oV 25 (.mv (.t 6)),
  oV 26 (.mv (.t 1)),
  oV 27 (.mv (.t 9)),
  oC 28 zAy [(.t 25,.v),(.t 26,.v),(.t 27,.v)]] [25,26,27]
abbrev zZ2:HCode:=oR [⟨none,.mvo 29 8⟩,
  oV 30 (.mv (.t 9)),
  oV 31 (.bslF 1 [.t 30]),
  ⟨none,.app 32 zAs 1 (.t 29) (.t 31)⟩,
  ⟨none,.mvo 8 32⟩] [29,30,31,32]
abbrev zWY:HCode:=oR [oV 33 (.ints .add (.t 22) (.c (iv 1))),
  oV 22 (.mv (.t 33))] [33]
abbrev zWZ:HCode:=oR [oV 34 (.mv (.t 8)),
  oV 4 (.mv (.t 34)),
  oV 5 (.mv (.c (iv 0)))] [34]
abbrev yGM:HCode:=(.seq zZT (.seq zZU (.seq (.seq zZV (.cond (.t 17) (.seq zZW .ret) .skip)) (.seq zZX (.seq (.seq zZY (.block 0 (.loop (.seq zZZ (.seq (.cond (.t 23) .skip (.exit 0)) (.seq (.block 1 (.seq zZ0 (.seq zZ1 (.cond (.t 28) zZ2 .skip)))) zWY)))))) (.seq zWZ .ret))))))
abbrev zQ9:Env:={N:=35,Γ:=[],L:=35,nfix:=0}
abbrev match_All_R:List RSrc:=[.tmp 4,.tmp 5]
theorem zZ3:zBE Tryz.prog zIA yGM zQ9 match_All_R:=by kernel_rfl
end Go.Hx
end
