/-
  Walks of functions of the program over an abstract layer, and the laws that they use: each contract says what the function computes, for every input that its conditions let by. No other condition.
-/
import Derived.Test.YtjnagiaooecklaaGreatDoorProg
import Derived.Test.YtjnagiaooecklaaGreatDoorG11
import Derived.Test.YtjnagiaooecklaaGreatDoorG12
import Derived.Test.YtjnagiaooecklaaGreatDoorG13
import Derived.Test.YtjnagiaooecklaaGreatDoorG10
set_option linter.all false
section
/-
 The abstract code of functions of the program, printed by gen.py; each stands for the given one. No condition.
-/
namespace Go.Hx
open Go.Proofs
variable [Glob]
abbrev zJn:Nat:=3
abbrev zC1:Nat:=7
abbrev zLy:Nat:=26
abbrev zD0:Nat:=8
abbrev zC2:Nat:=30
abbrev zEb:Nat:=6
abbrev zHi:Nat:=10
abbrev zEz:Nat:=34
abbrev zD1:Nat:=9
abbrev zC3:Nat:=32
abbrev zCC:Nat:=29
abbrev zF3:Nat:=28
abbrev zT2:HCode:=oN [oV 1 (.boxF (.t 0)),
  oV 2 (.mv (.c (.one (.nl 3))))]
abbrev zT3:HCode:=oN [⟨none,.vnl 3 zAw 3⟩]
abbrev zT4:HCode:=oN [oV 4 (.mv (.c (iv 0)))]
abbrev zT5:HCode:=oR [oV 8 (.mv (.t 4)),
  oV 9 (.fldR (.t 1) 0 1),
  oV 10 (.ldR (.t 9) 1 false),
  oV 11 (.len false (.t 10)),
  oV 12 (.ints .lss (.t 8) (.t 11))] [8,9,10,11]
abbrev zT6:HCode:=oR [oV 15 (.fldR (.t 1) 0 1),
  oV 16 (.ldR (.t 15) 1 false),
  oV 17 (.mv (.t 4)),
  oV 18 (.idxA 5 (.t 16) (.t 17)),
  oV 19 (.ldR (.t 18) 5 true),
  oC 20 zK8 [(.t 19,.v)],
  ⟨none,.vmv 5 20⟩] [15,16,17,18,19,20]
abbrev zT7:HCode:=oN [oV 6 (.mv (.c (iv 0)))]
abbrev zT8:HCode:=oR [oV 21 (.mv (.t 6)),
  oV 22 (.mv (.t 5)),
  oV 23 (.len false (.t 22)),
  oV 24 (.ints .lss (.t 21) (.t 23))] [21,22,23]
abbrev zT9:HCode:=oN [oV 7 (.mv (.c (iv 0)))]
abbrev zUa:HCode:=.drgG [.pin 3 0 0 [],.pin 5 0 0 []] [oD 0 false (oV 27 (.mv (.t 7))),
  oD 1 false (oV 28 (.mv (.t 3))),
  oD 2 false (oV 29 (.len false (.t 28))),
  oD 3 false (oV 30 (.ints .lss (.t 27) (.t 29))),
  oD 4 false (oV 31 (.mv (.t 30))),
  oD 5 false (oG 31 true 32 (.mv (.t 5))),
  oD 6 false (oG 31 true 33 (.mv (.t 6))),
  oD 7 false (oG 31 true 34 (.idxA 3 (.t 32) (.t 33))),
  oD 8 false ⟨some (31,true),.vlp 35 (.t 34) 5 0 0 [] 3 true⟩,
  oD 9 false (oG 31 true 36 (.mv (.t 3))),
  oD 10 false (oG 31 true 37 (.mv (.t 7))),
  oD 11 false (oG 31 true 38 (.idxA 3 (.t 36) (.t 37))),
  oD 12 false ⟨some (31,true),.vlp 39 (.t 38) 3 0 0 [] 3 true⟩,
  oD 13 true ⟨some (31,true),.call (some 40) zBJ [(.t 35,.v),(.t 39,.v)]⟩,
  oD 14 false (oV 41 (.pick (.t 31) (.t 40) (.c (bv false))))] [.forget [27,28,29,30,31,32,33,34,35,36,37,38,39,40],.unp 3 0 0 [],.unp 5 0 0 []]
abbrev zUb:HCode:=oR [oV 42 (.mv (.t 7)),
  oV 43 (.ints .add (.t 42) (.c (iv 1))),
  oV 7 (.mv (.t 43))] [42,43]
abbrev zR1:HCode:=.drgG [.pin 3 0 0 [],.pin 5 0 0 []] [oD 0 false (oV 44 (.mv (.t 7))),
  oD 1 false (oV 45 (.mv (.t 3))),
  oD 2 false (oV 46 (.len false (.t 45))),
  oD 3 false (oV 47 (.ints .eql (.t 44) (.t 46))),
  oD 4 false (oV 48 (.mv (.t 47))),
  oD 5 false (oG 48 false 49 (.mv (.t 3))),
  oD 6 false (oG 48 false 50 (.mv (.t 7))),
  oD 7 false (oG 48 false 51 (.idxA 3 (.t 49) (.t 50))),
  oD 8 false ⟨some (48,false),.vlp 52 (.t 51) 3 0 0 [] 3 true⟩,
  oD 9 false (oG 48 false 53 (.mv (.t 5))),
  oD 10 false (oG 48 false 54 (.mv (.t 6))),
  oD 11 false (oG 48 false 55 (.idxA 3 (.t 53) (.t 54))),
  oD 12 false ⟨some (48,false),.vlp 56 (.t 55) 5 0 0 [] 3 true⟩,
  oD 13 true ⟨some (48,false),.call (some 57) zBJ [(.t 52,.v),(.t 56,.v)]⟩,
  oD 14 false (oV 58 (.pick (.t 48) (.c (bv true)) (.t 57)))] [.forget [44,45,46,47,48,49,50,51,52,53,54,55,56,57],.unp 3 0 0 [],.unp 5 0 0 []]
abbrev zR2:HCode:=oR [⟨none,.vmv 59 3⟩,
  oV 60 (.bld [.v (.int .i64 0),.v (mkS []),.nl 1] []),
  oV 61 (.bslF 3 [.t 60]),
  ⟨none,.vap 62 zAw 3 59 (.t 61)⟩,
  ⟨none,.vmv 3 62⟩] [59,60,61,62]
abbrev zR3:HCode:=.drgG [.pin 3 0 0 []] [oD 0 false (oV 63 (.mv (.t 3))),
  oD 1 false (oV 64 (.mv (.t 7))),
  oD 2 false (oV 65 (.ints .add (.t 64) (.c (iv 1)))),
  oD 3 false (oV 66 (.slr 3 (.t 63) (some (.t 65)) none)),
  oD 4 false (oV 67 (.mv (.t 3))),
  oD 5 false (oV 68 (.mv (.t 7))),
  oD 6 false (oV 69 (.slr 3 (.t 67) (some (.t 68)) none)),
  oD 7 false ⟨none,.cpy (some 70) zAw 3 3 (.t 66) (.t 69)⟩] [.forget [63,64,65,66,67,68,69,70],.unp 3 0 0 []]
abbrev zR4:HCode:=.regG [.pin 3 0 0 [],.pin 5 0 0 []] [oV 71 (.mv (.t 3)),
  oV 72 (.mv (.t 7)),
  oV 73 (.mv (.t 5)),
  oV 74 (.mv (.t 6)),
  oV 75 (.idxA 3 (.t 73) (.t 74)),
  ⟨none,.vle 76 (.t 75) 5 0 0 [] 3 true⟩,
  oV 77 (.idxA 3 (.t 71) (.t 72)),
  ⟨none,.vse (.t 77) 3 0 0 [] 3 (.t 76)⟩] [.forget [71,72,73,74,75,76,77],.unp 3 0 0 [],.unp 5 0 0 []]
abbrev zDI:HCode:=.regG [.pin 3 0 0 []] [oV 78 (.mv (.t 3)),
  oV 79 (.mv (.t 7)),
  oV 80 (.mv (.t 3)),
  oV 81 (.mv (.t 7)),
  oV 82 (.idxA 3 (.t 80) (.t 81)),
  oV 83 (.fldP (.t 82) 2),
  ⟨none,.vle 84 (.t 83) 3 0 0 [] 1 false⟩,
  oV 85 (.mv (.t 4)),
  oV 86 (.bslF 1 [.t 85]),
  ⟨none,.vap 87 zAs 1 84 (.t 86)⟩,
  oV 88 (.idxA 3 (.t 78) (.t 79)),
  oV 89 (.fldP (.t 88) 2),
  ⟨none,.vse (.t 89) 3 0 0 [] 1 (.t 87)⟩] [.forget [78,79,80,81,82,83,84,85,86,87,88,89],.unp 3 0 0 []]
abbrev zR5:HCode:=oR [oV 25 (.mv (.t 6)),
  oV 26 (.ints .add (.t 25) (.c (iv 1))),
  oV 6 (.mv (.t 26))] [25,26]
abbrev zR6:HCode:=oR [oV 13 (.mv (.t 4)),
  oV 14 (.ints .add (.t 13) (.c (iv 1))),
  oV 4 (.mv (.t 14))] [13,14]
abbrev zR7:HCode:=.regG [.vfr 3 0 0] [oV 90 (.mv (.t 3)),
  oV 2 (.mv (.t 90))] [.forget [90]]
abbrev yC9:HCode:=(.seq zT2 (.seq zT3 (.seq (.seq zT4 (.block 0 (.loop (.seq (.seq zT5 (.cond (.t 12) .skip (.exit 0))) (.seq (.block 1 (.seq zT6 (.seq zT7 (.block 2 (.loop (.seq (.seq zT8 (.cond (.t 24) .skip (.exit 2))) (.seq (.block 3 (.seq zT9 (.seq (.block 4 (.loop (.seq (.seq zUa (.cond (.t 41) .skip (.exit 4))) (.block 5 zUb)))) (.seq (.seq zR1 (.cond (.t 58) (.seq zR2 (.seq zR3 zR4)) .skip)) zDI)))) zR5))))))) zR6))))) (.seq zR7 .ret))))
abbrev zM5:Env:={N:=91,Γ:=[],L:=91,nfix:=0}
abbrev ref_IndexOf_R:List RSrc:=[.tmp 2]
theorem zUc:zBE Tryz.prog zF3 yC9 zM5 ref_IndexOf_R:=by kernel_rfl
abbrev yAF:HCode:=oN [oV 1 (.boxF (.t 0)),
  ⟨none,.alloc 2 0 45 [.nl 5,.nl 3]⟩,
  oV 3 (.mv (.c (iv 0)))]
abbrev yAG:HCode:=oR [oV 10 (.ldR (.t 1) 1 true),
  oC 11 zDZ [(.t 10,.v)],
  oV 9 (.mv (.t 11)),
  oV 12 (.ext 9 0),
  oV 13 (.ext 9 1),
  oV 4 (.mv (.t 12)),
  oV 5 (.mv (.t 13))] [9,10,11,12,13]
abbrev yAH:HCode:=oR [oV 14 (.mv (.t 5)),
  oV 15 (.ints .neq (.t 14) (.c (iv 0)))] [14]
abbrev yAI:HCode:=oR [oV 16 (.bld [.nl 5,.nl 3] []),
  oV 17 (.mv (.t 5)),
  ⟨none,.sto (.t 2) 0 45 0 2 (.t 16)⟩,
  oV 3 (.mv (.t 17))] [16,17]
abbrev yAJ:HCode:=oR [oV 18 (.mv (.t 4)),
  oV 19 (.bld [.nl 5,.nl 3] [(1,1,.t 18)]),
  ⟨none,.alloc 6 1 47 [.nl 5,.nl 3]⟩,
  ⟨none,.sto (.t 6) 1 47 0 2 (.t 19)⟩] [18,19]
abbrev yAK:HCode:=oR [oV 20 (.fldR (.t 1) 0 1),
  oV 21 (.ldR (.t 20) 1 false),
  oV 22 (.len false (.t 21)),
  oV 23 (.mv (.c (iv 0)))] [20]
abbrev yAL:HCode:=oN [oV 24 (.ints .lss (.t 23) (.t 22))]
abbrev yAM:HCode:=oR [oV 25 (.idxA 5 (.t 21) (.t 23)),
  oV 26 (.ldR (.t 25) 5 true),
  ⟨none,.alloc 8 2 49 [.v (.int .i64 0),.v (mkS []),.v (mkS []),.nl 1,.nl 2]⟩,
  ⟨none,.sto (.t 8) 2 49 0 5 (.t 26)⟩] [25,26]
abbrev yAN:HCode:=oQ [oD 0 false (oV 27 (.fldP (.t 8) 3)),
  oD 1 false (oV 28 (.ldB (.t 27) 2 49 3 1 false)),
  oD 2 false (oC 29 zAW [(.t 28,.v)]),
  oD 3 false (oV 30 (.fldP (.t 8) 4)),
  oD 4 false (oV 31 (.ldB (.t 30) 2 49 4 1 false)),
  oD 5 false (oC 32 zA8 [(.t 31,.v)]),
  oD 6 false (oV 33 (.fldP (.t 8) 3)),
  oD 7 false ⟨none,.sto (.t 33) 2 49 3 1 (.t 29)⟩,
  oD 8 false (oV 34 (.fldP (.t 8) 4)),
  oD 9 false ⟨none,.sto (.t 34) 2 49 4 1 (.t 32)⟩] [27,28,29,30,31,32,33,34]
abbrev yAO:HCode:=oR [oV 35 (.fldP (.t 6) 0),
  oV 36 (.fldP (.t 35) 0),
  ⟨none,.ldo 37 (.t 36) 1 47 0 zAN 5⟩,
  oV 38 (.ldB (.t 8) 2 49 0 5 true),
  oV 39 (.bslF 5 [.t 38]),
  ⟨none,.app 40 zAN 5 (.t 37) (.t 39)⟩,
  oV 41 (.fldP (.t 6) 0),
  oV 42 (.fldP (.t 41) 0),
  ⟨none,.stw (.t 42) 1 47 0 40⟩] [35,36,37,38,39,40,41,42]
abbrev zX0:HCode:=oR [oV 43 (.ints .add (.t 23) (.c (iv 1))),
  oV 23 (.mv (.t 43))] [43]
abbrev zX1:HCode:=oR [oV 44 (.ldB (.t 6) 1 47 0 2 true),
  ⟨none,.sto (.t 2) 0 45 0 2 (.t 44)⟩,
  oV 3 (.mv (.c (iv 0)))] [44]
abbrev yHp:HCode:=(.seq yAF (.seq yAG (.seq (.seq yAH (.cond (.t 15) (.seq yAI .ret) .skip)) (.seq yAJ (.seq (.seq yAK (.block 0 (.loop (.seq yAL (.seq (.cond (.t 24) .skip (.exit 0)) (.seq (.block 1 (.seq yAM (.seq yAN yAO))) zX0)))))) (.seq zX1 .ret))))))
abbrev zR8:Env:={N:=45,Γ:=[(45,2),(47,2),(49,5)],L:=54,nfix:=0}
abbrev live_Open_R:List RSrc:=[.cellB 2 0 45 0 2 true,.tmp 3]
theorem yAP:zBE Tryz.prog zEb yHp zR8 live_Open_R:=by kernel_rfl
abbrev zR9:HCode:=oN [oV 2 (.boxF (.t 0)),
  ⟨none,.alloc 4 0 30 [.nl 5,.nl 3]⟩,
  oV 5 (.mv (.c (iv 0)))]
abbrev zSa:HCode:=oR [oV 9 (.ldR (.t 2) 2 true),
  oC 10 zEx [(.t 9,.v)],
  oV 6 (.mv (.t 10))] [9,10]
abbrev zSb:HCode:=oR [oV 11 (.mv (.t 6)),
  oV 12 (.ints .neq (.t 11) (.c (iv 0)))] [11]
abbrev zSc:HCode:=oR [oV 13 (.bld [.nl 5,.nl 3] []),
  oV 14 (.mv (.t 6)),
  ⟨none,.sto (.t 4) 0 30 0 2 (.t 13)⟩,
  oV 5 (.mv (.t 14))] [13,14]
abbrev zSd:HCode:=oR [oV 16 (.mv (.t 1)),
  oV 17 (.fldR (.t 2) 0 1),
  oV 18 (.ldR (.t 17) 1 true),
  ⟨none,.callv (some 19) (.t 16) [(.t 18,.v)]⟩,
  oV 15 (.mv (.t 19)),
  oV 20 (.ext 15 0),
  oV 21 (.ext 15 1),
  ⟨none,.alloc 7 1 32 [.nl 5]⟩,
  ⟨none,.sto (.t 7) 1 32 0 1 (.t 20)⟩,
  oV 8 (.mv (.t 21))] [15,16,17,18,19,20,21]
abbrev zSe:HCode:=oR [oV 22 (.mv (.t 8)),
  oV 23 (.ints .neq (.t 22) (.c (iv 0)))] [22]
abbrev zSf:HCode:=oR [oV 24 (.bld [.nl 5,.nl 3] []),
  oV 25 (.mv (.t 8)),
  ⟨none,.sto (.t 4) 0 30 0 2 (.t 24)⟩,
  oV 5 (.mv (.t 25))] [24,25]
abbrev zSg:HCode:=oR [oV 26 (.ldB (.t 7) 1 32 0 1 true),
  oC 27 zEb [(.t 26,.v)],
  oV 28 (.ext 27 0),
  oV 29 (.ext 27 1),
  ⟨none,.sto (.t 4) 0 30 0 2 (.t 28)⟩,
  oV 5 (.mv (.t 29))] [26,27,28,29]
abbrev yAQ:HCode:=(.seq zR9 (.seq (.seq zSa (.seq zSb (.cond (.t 12) (.seq zSc .ret) .skip))) (.seq zSd (.seq (.seq zSe (.cond (.t 23) (.seq zSf .ret) .skip)) (.seq zSg .ret)))))
abbrev zKv:Env:={N:=30,Γ:=[(30,2),(32,1)],L:=33,nfix:=0}
abbrev live_changed_R:List RSrc:=[.cellB 4 0 30 0 2 true,.tmp 5]
theorem zSh:zBE Tryz.prog zCC yAQ zKv live_changed_R:=by kernel_rfl
abbrev zUd:HCode:=oN [oV 4 (.boxF (.t 0)),
  oV 5 (.boxF (.t 1)),
  oV 6 (.boxF (.t 2)),
  oV 7 (.boxF (.t 3)),
  ⟨none,.alloc 8 0 15 [.nl 5,.nl 3]⟩,
  oV 9 (.mv (.c (iv 0)))]
abbrev zUe:HCode:=oR [oV 10 (.ldR (.t 4) 2 true),
  oV 11 (.mkf zC2 [.t 5,.t 6,.t 7]),
  oC 12 zCC [(.t 10,.v),(.t 11,.v)],
  oV 13 (.ext 12 0),
  oV 14 (.ext 12 1),
  ⟨none,.sto (.t 8) 0 15 0 2 (.t 13)⟩,
  oV 9 (.mv (.t 14))] [10,11,12,13,14]
abbrev yDa:HCode:=(.seq zUd (.seq zUe .ret))
abbrev zM6:Env:={N:=15,Γ:=[(15,2)],L:=17,nfix:=0}
abbrev live_Insert_R:List RSrc:=[.cellB 8 0 15 0 2 true,.tmp 9]
theorem zUf:zBE Tryz.prog zD0 yDa zM6 live_Insert_R:=by kernel_rfl
abbrev zO9:HCode:=oN [oV 4 (.boxF (.t 0)),
  ⟨none,.alloc 5 0 14 [.nl 5]⟩,
  oV 6 (.mv (.c (iv 0)))]
abbrev zPa:HCode:=oR [oV 7 (.ldR (.t 4) 1 true),
  oV 8 (.ldR (.t 1) 1 false),
  oV 9 (.ldR (.t 2) 1 false),
  oV 10 (.ldR (.t 3) 1 true),
  oC 11 zG8 [(.t 7,.v),(.t 8,.v),(.t 9,.v),(.t 10,.v)],
  oV 12 (.ext 11 0),
  oV 13 (.ext 11 1),
  ⟨none,.sto (.t 5) 0 14 0 1 (.t 12)⟩,
  oV 6 (.mv (.t 13))] [7,8,9,10,11,12,13]
abbrev zX2:HCode:=(.seq zO9 (.seq zPa .ret))
abbrev zJo:Env:={N:=14,Γ:=[(14,1)],L:=15,nfix:=0}
abbrev live_Insert_1_R:List RSrc:=[.cellB 5 0 14 0 1 true,.tmp 6]
theorem zPb:zBE Tryz.prog zC2 zX2 zJo live_Insert_1_R:=by kernel_rfl
abbrev zUg:HCode:=oN [oV 2 (.boxF (.t 0)),
  oV 3 (.boxF (.t 1)),
  ⟨none,.alloc 4 0 11 [.nl 5,.nl 3]⟩,
  oV 5 (.mv (.c (iv 0)))]
abbrev zUh:HCode:=oR [oV 6 (.ldR (.t 2) 2 true),
  oV 7 (.mkf zC3 [.t 3]),
  oC 8 zCC [(.t 6,.v),(.t 7,.v)],
  oV 9 (.ext 8 0),
  oV 10 (.ext 8 1),
  ⟨none,.sto (.t 4) 0 11 0 2 (.t 9)⟩,
  oV 5 (.mv (.t 10))] [6,7,8,9,10]
abbrev yDb:HCode:=(.seq zUg (.seq zUh .ret))
abbrev zM7:Env:={N:=11,Γ:=[(11,2)],L:=13,nfix:=0}
abbrev live_Remove_R:List RSrc:=[.cellB 4 0 11 0 2 true,.tmp 5]
theorem zUi:zBE Tryz.prog zD1 yDb zM7 live_Remove_R:=by kernel_rfl
abbrev zPc:HCode:=oN [oV 2 (.boxF (.t 0)),
  ⟨none,.alloc 3 0 10 [.nl 5]⟩,
  oV 4 (.mv (.c (iv 0)))]
abbrev zPd:HCode:=oR [oV 5 (.ldR (.t 2) 1 true),
  oV 6 (.ldR (.t 1) 1 false),
  oC 7 zG9 [(.t 5,.v),(.t 6,.v)],
  oV 8 (.ext 7 0),
  oV 9 (.ext 7 1),
  ⟨none,.sto (.t 3) 0 10 0 1 (.t 8)⟩,
  oV 4 (.mv (.t 9))] [5,6,7,8,9]
abbrev zX3:HCode:=(.seq zPc (.seq zPd .ret))
abbrev zJp:Env:={N:=10,Γ:=[(10,1)],L:=11,nfix:=0}
abbrev live_Remove_1_R:List RSrc:=[.cellB 3 0 10 0 1 true,.tmp 4]
theorem zPe:zBE Tryz.prog zC3 zX3 zJp live_Remove_1_R:=by kernel_rfl
abbrev yDc:HCode:=oN [oV 3 (.boxF (.t 0)),
  oV 4 (.boxF (.t 1)),
  oV 5 (.boxF (.t 2)),
  ⟨none,.alloc 6 0 13 [.nl 5,.nl 3]⟩,
  oV 7 (.mv (.c (iv 0)))]
abbrev yDd:HCode:=oR [oV 8 (.ldR (.t 3) 2 true),
  oV 9 (.mkf zEz [.t 4,.t 5]),
  oC 10 zCC [(.t 8,.v),(.t 9,.v)],
  oV 11 (.ext 10 0),
  oV 12 (.ext 10 1),
  ⟨none,.sto (.t 6) 0 13 0 2 (.t 11)⟩,
  oV 7 (.mv (.t 12))] [8,9,10,11,12]
abbrev yJe:HCode:=(.seq yDc (.seq yDd .ret))
abbrev zU4:Env:={N:=13,Γ:=[(13,2)],L:=15,nfix:=0}
abbrev live_Put_R:List RSrc:=[.cellB 6 0 13 0 2 true,.tmp 7]
theorem yDe:zBE Tryz.prog zHi yJe zU4 live_Put_R:=by kernel_rfl
abbrev zX4:HCode:=oN [oV 3 (.boxF (.t 0)),
  ⟨none,.alloc 4 0 12 [.nl 5]⟩,
  oV 5 (.mv (.c (iv 0)))]
abbrev zX5:HCode:=oR [oV 6 (.ldR (.t 3) 1 true),
  oV 7 (.ldR (.t 1) 1 false),
  oV 8 (.ldR (.t 2) 5 true),
  oC 9 zN5 [(.t 6,.v),(.t 7,.v),(.t 8,.v)],
  oV 10 (.ext 9 0),
  oV 11 (.ext 9 1),
  ⟨none,.sto (.t 4) 0 12 0 1 (.t 10)⟩,
  oV 5 (.mv (.t 11))] [6,7,8,9,10,11]
abbrev yFD:HCode:=(.seq zX4 (.seq zX5 .ret))
abbrev zOC:Env:={N:=12,Γ:=[(12,1)],L:=13,nfix:=0}
abbrev live_Put_1_R:List RSrc:=[.cellB 4 0 12 0 1 true,.tmp 5]
theorem zX6:zBE Tryz.prog zEz yFD zOC live_Put_1_R:=by kernel_rfl
abbrev yDf:HCode:=oN [⟨none,.alloc 0 0 9 [.nl 5,.nl 3]⟩]
abbrev yDg:HCode:=oR [oC 4 zIc [],
  oC 5 zEb [(.t 4,.v)],
  oV 3 (.mv (.t 5)),
  oV 6 (.ext 3 0),
  oV 7 (.ext 3 1),
  ⟨none,.alloc 1 1 11 [.nl 5,.nl 3]⟩,
  ⟨none,.sto (.t 1) 1 11 0 2 (.t 6)⟩,
  oV 2 (.mv (.t 7))] [2,3,4,5,6,7]
abbrev yDh:HCode:=oR [oV 8 (.ldB (.t 1) 1 11 0 2 true),
  ⟨none,.sto (.t 0) 0 9 0 2 (.t 8)⟩] [8]
abbrev yJf:HCode:=(.seq yDf (.seq yDg (.seq yDh .ret)))
abbrev zU5:Env:={N:=9,Γ:=[(9,2),(11,2)],L:=13,nfix:=0}
abbrev law_page_R:List RSrc:=[.cellB 0 0 9 0 2 true]
theorem yDi:zBE Tryz.prog zLy yJf zU5 law_page_R:=by kernel_rfl
abbrev zPf:HCode:=oN [oV 0 (.mv (.c (bv false)))]
abbrev zPg:HCode:=.reg [oC 8 zLy [],
  oC 9 zD1 [(.t 8,.v),(.c (iv 2),.v)],
  oV 7 (.mv (.t 9)),
  oV 10 (.ext 7 0),
  oV 11 (.ext 7 1),
  ⟨none,.alloc 1 0 72 [.nl 5,.nl 3]⟩,
  ⟨none,.sto (.t 1) 0 72 0 2 (.t 10)⟩,
  oV 2 (.mv (.t 11))] false [.frz 0 72 2,.forget [7,8,9,10,11]]
abbrev zPh:HCode:=.reg [oV 13 (.ldR (.t 1) 2 true),
  oV 14 (.bld [.v (.int .i64 0),.v (mkS []),.v (mkS []),.nl 1,.nl 2] [(0,1,.c (iv (-1))),(1,1,.c (sv [120]))]),
  oV 15 (.bslF 5 [.t 14]),
  oV 16 (.bld [.nl 5] [(0,1,.t 15)]),
  oC 17 zD0 [(.t 13,.v),(.c (iv 0),.v),(.c (iv 2),.v),(.t 16,.v)],
  oV 12 (.mv (.t 17)),
  oV 18 (.ext 12 0),
  oV 19 (.ext 12 1),
  ⟨none,.alloc 3 1 74 [.nl 5,.nl 3]⟩,
  ⟨none,.sto (.t 3) 1 74 0 2 (.t 18)⟩,
  oV 4 (.mv (.t 19))] false [.frz 1 74 2,.forget [12,13,14,15,16,17,18,19]]
abbrev zPi:HCode:=.reg [oV 21 (.ldR (.t 3) 2 true),
  oV 22 (.bld [.v (.int .i64 0),.v (mkS []),.v (mkS []),.nl 1,.nl 2] [(1,1,.c (sv [121]))]),
  oC 23 zHi [(.t 21,.v),(.c (iv 3),.v),(.t 22,.v)],
  oV 20 (.mv (.t 23)),
  oV 24 (.ext 20 0),
  oV 25 (.ext 20 1),
  ⟨none,.alloc 5 2 76 [.nl 5,.nl 3]⟩,
  ⟨none,.sto (.t 5) 2 76 0 2 (.t 24)⟩,
  oV 6 (.mv (.t 25))] false [.frz 2 76 2,.forget [20,21,22,23,24,25]]
abbrev zPj:HCode:=oQ [oD 0 false (oV 26 (.mv (.t 2))),
  oD 1 false (oV 27 (.ints .eql (.t 26) (.c (iv 0)))),
  oD 2 false (oV 28 (.mv (.t 27))),
  oD 3 false (oG 28 true 29 (.mv (.t 4))),
  oD 4 false (oG 28 true 30 (.ints .eql (.t 29) (.c (iv 0)))),
  oD 5 false (oV 31 (.pick (.t 28) (.t 30) (.c (bv false)))),
  oD 6 false (oV 32 (.mv (.t 31))),
  oD 7 false (oG 32 true 33 (.mv (.t 6))),
  oD 8 false (oG 32 true 34 (.ints .eql (.t 33) (.c (iv 0)))),
  oD 9 false (oV 35 (.pick (.t 32) (.t 34) (.c (bv false)))),
  oD 10 false (oV 36 (.mv (.t 35))),
  oD 11 false (oG 36 true 37 (.fldR (.t 1) 1 1)),
  oD 12 false (oG 36 true 38 (.ldR (.t 37) 1 false)),
  oD 13 false (oG 36 true 39 (.len false (.t 38))),
  oD 14 false (oG 36 true 40 (.ints .eql (.t 39) (.c (iv 4)))),
  oD 15 false (oV 41 (.pick (.t 36) (.t 40) (.c (bv false)))),
  oD 16 false (oV 42 (.mv (.t 41))),
  oD 17 false (oG 42 true 43 (.fldR (.t 3) 1 1)),
  oD 18 false (oG 42 true 44 (.ldR (.t 43) 1 false)),
  oD 19 false (oG 42 true 45 (.len false (.t 44))),
  oD 20 false (oG 42 true 46 (.ints .eql (.t 45) (.c (iv 5)))),
  oD 21 false (oV 47 (.pick (.t 42) (.t 46) (.c (bv false)))),
  oD 22 false (oV 48 (.mv (.t 47))),
  oD 23 false (oG 48 true 49 (.fldR (.t 5) 0 1)),
  oD 24 false (oG 48 true 50 (.fldR (.t 49) 0 1)),
  oD 25 false (oG 48 true 51 (.ldR (.t 50) 1 false)),
  oD 26 false (oG 48 true 52 (.len false (.t 51))),
  oD 27 false (oG 48 true 53 (.ints .eql (.t 52) (.c (iv 4)))),
  oD 28 false (oV 54 (.pick (.t 48) (.t 53) (.c (bv false)))),
  oD 29 false (oV 55 (.mv (.t 54))),
  oD 30 false (oG 55 true 56 (.fldR (.t 5) 0 1)),
  oD 31 false (oG 55 true 57 (.fldR (.t 56) 0 1)),
  oD 32 false (oG 55 true 58 (.ldR (.t 57) 1 false)),
  oD 33 false (oG 55 true 59 (.idxA 5 (.t 58) (.c (iv 3)))),
  oD 34 false (oG 55 true 60 (.fldR (.t 59) 1 1)),
  oD 35 false (oG 55 true 61 (.ldR (.t 60) 1 false)),
  oD 36 false (oG 55 true 62 (.strs .eql (.t 61) (.c (sv [121])))),
  oD 37 false (oV 63 (.pick (.t 55) (.t 62) (.c (bv false)))),
  oD 38 false (oV 64 (.mv (.t 63))),
  oD 39 false (oG 64 true 65 (.fldR (.t 5) 1 1)),
  oD 40 false (oG 64 true 66 (.ldR (.t 65) 1 false)),
  oD 41 false (oG 64 true 67 (.fldR (.t 5) 0 1)),
  oD 42 false (oG 64 true 68 (.ldR (.t 67) 1 true)),
  oD 43 true ⟨some (64,true),.call (some 69) zF3 [(.t 68,.v)]⟩,
  oD 44 true ⟨some (64,true),.call (some 70) zDE [(.t 66,.v),(.t 69,.v)]⟩,
  oD 45 false (oV 71 (.pick (.t 64) (.t 70) (.c (bv false)))),
  oD 46 false (oV 0 (.mv (.t 71)))] [26,27,28,29,30,31,32,33,34,35,36,37,38,39,40,41,42,43,44,45,46,47,48,49,50,51,52,53,54,55,56,57,58,59,60,61,62,63,64,65,66,67,68,69,70,71]
abbrev zX7:HCode:=(.seq zPf (.seq zPg (.seq zPh (.seq zPi (.seq zPj .ret)))))
abbrev zJq:Env:={N:=72,Γ:=[(72,2),(74,2),(76,2)],L:=78,nfix:=0}
abbrev law_liveBegun_R:List RSrc:=[.tmp 0]
theorem zPk:zBE Tryz.prog zC1 zX7 zJq law_liveBegun_R:=by kernel_rfl
abbrev zSi:HCode:=oN [oV 8 (.boxF (.t 0)),
  oV 11 (.boxF (.t 3)),
  oV 14 (.boxF (.t 6)),
  oV 16 (.mv (.c (bv false)))]
abbrev zSj:HCode:=oR [oV 26 (.ldR (.t 8) 1 true),
  oC 27 zEb [(.t 26,.v)],
  oV 25 (.mv (.t 27)),
  oV 28 (.ext 25 0),
  oV 29 (.ext 25 1),
  ⟨none,.alloc 17 0 93 [.nl 5,.nl 3]⟩,
  ⟨none,.sto (.t 17) 0 93 0 2 (.t 28)⟩,
  oV 18 (.mv (.t 29))] [25,26,27,28,29]
abbrev zSk:HCode:=oR [oV 30 (.mv (.t 18)),
  oV 31 (.ints .neq (.t 30) (.c (iv 0)))] [30]
abbrev zSl:HCode:=oR [oC 32 zC1 [],
  oV 16 (.mv (.t 32))] [32]
abbrev zSm:HCode:=oR [oV 34 (.ldB (.t 17) 0 93 0 2 true),
  oV 35 (.mv (.t 1)),
  oV 36 (.mv (.t 2)),
  oV 37 (.ldR (.t 11) 1 true),
  oC 38 zD0 [(.t 34,.v),(.t 35,.v),(.t 36,.v),(.t 37,.v)],
  oV 33 (.mv (.t 38)),
  oV 39 (.ext 33 0),
  oV 40 (.ext 33 1),
  ⟨none,.alloc 19 1 95 [.nl 5,.nl 3]⟩,
  ⟨none,.sto (.t 19) 1 95 0 2 (.t 39)⟩,
  oV 20 (.mv (.t 40))] [33,34,35,36,37,38,39,40]
abbrev zSn:HCode:=oR [oV 41 (.mv (.t 20)),
  oV 42 (.ints .eql (.t 41) (.c (iv 0)))] [41]
abbrev zSo:HCode:=oR [oV 43 (.ldB (.t 19) 1 95 0 2 true),
  ⟨none,.sto (.t 17) 0 93 0 2 (.t 43)⟩] [43]
abbrev zSp:HCode:=oR [oV 45 (.ldB (.t 17) 0 93 0 2 true),
  oV 46 (.mv (.t 4)),
  oC 47 zD1 [(.t 45,.v),(.t 46,.v)],
  oV 44 (.mv (.t 47)),
  oV 48 (.ext 44 0),
  oV 49 (.ext 44 1),
  ⟨none,.sto (.t 19) 1 95 0 2 (.t 48)⟩,
  oV 20 (.mv (.t 49))] [44,45,46,47,48,49]
abbrev zSq:HCode:=oR [oV 50 (.mv (.t 20)),
  oV 51 (.ints .eql (.t 50) (.c (iv 0)))] [50]
abbrev zSr:HCode:=oR [oV 52 (.ldB (.t 19) 1 95 0 2 true),
  ⟨none,.sto (.t 17) 0 93 0 2 (.t 52)⟩] [52]
abbrev zPl:HCode:=oR [oV 54 (.ldB (.t 17) 0 93 0 2 true),
  oV 55 (.mv (.t 5)),
  oV 56 (.ldR (.t 14) 5 true),
  oC 57 zHi [(.t 54,.v),(.t 55,.v),(.t 56,.v)],
  oV 53 (.mv (.t 57)),
  oV 58 (.ext 53 0),
  oV 59 (.ext 53 1),
  ⟨none,.sto (.t 19) 1 95 0 2 (.t 58)⟩,
  oV 20 (.mv (.t 59))] [53,54,55,56,57,58,59]
abbrev zPm:HCode:=oR [oV 60 (.mv (.t 20)),
  oV 61 (.ints .eql (.t 60) (.c (iv 0)))] [60]
abbrev zPn:HCode:=oR [oV 62 (.ldB (.t 19) 1 95 0 2 true),
  ⟨none,.sto (.t 17) 0 93 0 2 (.t 62)⟩] [62]
abbrev zPo:HCode:=oR [oV 64 (.ldB (.t 17) 0 93 0 2 true),
  oV 65 (.mv (.t 7)),
  oC 66 zHd [(.t 64,.v),(.t 65,.v)],
  oV 63 (.mv (.t 66)),
  oV 67 (.ext 63 0),
  oV 68 (.ext 63 1),
  oV 21 (.mv (.t 67)),
  oV 22 (.mv (.t 68))] [63,64,65,66,67,68]
abbrev zPp:HCode:=oR [oV 70 (.fldP (.t 17) 0),
  oV 71 (.ldB (.t 70) 0 93 0 1 true),
  oV 72 (.mv (.t 7)),
  oC 73 zIA [(.t 71,.v),(.t 72,.v)],
  oV 69 (.mv (.t 73)),
  oV 74 (.ext 69 0),
  oV 75 (.ext 69 1),
  oV 23 (.mv (.t 74)),
  oV 24 (.mv (.t 75))] [69,70,71,72,73,74,75]
abbrev zPq:HCode:=oR [oC 76 zC1 [],
  oV 77 (.mv (.t 76)),
  oG 77 true 78 (.mv (.t 22)),
  oG 77 true 79 (.mv (.t 24)),
  oG 77 true 80 (.ints .eql (.t 78) (.t 79)),
  oV 81 (.pick (.t 77) (.t 80) (.c (bv false))),
  oV 82 (.mv (.t 81)),
  oG 82 true 83 (.mv (.t 21)),
  oG 82 true 84 (.mv (.t 23)),
  ⟨some (82,true),.call (some 85) zDr [(.t 83,.v),(.t 84,.v)]⟩,
  oV 86 (.pick (.t 82) (.t 85) (.c (bv false))),
  oV 87 (.mv (.t 86)),
  oG 87 true 88 (.fldP (.t 17) 0),
  oG 87 true 89 (.ldB (.t 88) 0 93 0 1 true),
  ⟨some (87,true),.call (some 90) zB9 [(.t 89,.v)]⟩,
  oG 87 true 91 (.ints .eql (.t 90) (.c (iv 0))),
  oV 92 (.pick (.t 87) (.t 91) (.c (bv false))),
  oV 16 (.mv (.t 92))] [76,77,78,79,80,81,82,83,84,85,86,87,88,89,90,91,92]
abbrev yAR:HCode:=(.seq zSi (.seq zSj (.seq (.seq zSk (.cond (.t 31) (.seq zSl .ret) .skip)) (.seq zSm (.seq (.seq zSn (.cond (.t 42) zSo .skip)) (.seq zSp (.seq (.seq zSq (.cond (.t 51) zSr .skip)) (.seq zPl (.seq (.seq zPm (.cond (.t 61) zPn .skip)) (.seq zPo (.seq zPp (.seq zPq .ret))))))))))))
abbrev zF4:Env:={N:=93,Γ:=[(93,2),(95,2)],L:=97,nfix:=0}
abbrev law_LiveTrue_R:List RSrc:=[.tmp 16]
theorem zJr:zBE Tryz.prog zJn yAR zF4 law_LiveTrue_R:=by kernel_rfl
end Go.Hx
end

section
set_option maxRecDepth 100000
set_option linter.unusedSimpArgs false
set_option maxHeartbeats 4000000
namespace Go.Hx
open Go.Proofs
variable [Glob]
attribute [local go_sem] zAk zAi zAj zAe ndV zAg zAf atV OVal.cells zVc List.drop_succ_cons List.drop_zero List.take_succ_cons List.getD_nil Nat.sub_zero List.map_nil List.map_cons List.take_zero zDH OV.left List.length_set
attribute [local go_sem ↓] yGs yGt yNj
attribute [local go_sem] reduceCtorEq Nat.reduceAdd Nat.reduceEqDiff reduceIte Nat.reduceLeDiff Nat.reduceLT Nat.reduceSub
def kE (k:Key):Ent:=⟨k.1,k.2,[]⟩
def ksO (l:List Key):List (List OV):=ovT zAs (l.map kE)
theorem yHq (l:List Key):(ksO l).length=l.length:=by simp [ksO,zDH]
theorem yLB (a b:List Key):ksO (a++b)=ksO a++ksO b:=by simp [ksO,ovT]
theorem yFE (x:Nd) (hx:x.cls.length≤100):Contract Tryz.prog zK8 [.val (.agg (ndV x))] {res:=.ov (.one (.os none zAw 3 (ksO (zEO x))))}:=by
 have hk:zEO x=((1,x.tag)::(if x.id=[] then [] else [(2,x.id)]))++x.cls.map fun c=>((3:Int),c):=rfl
 unfold ndV
 refine mkA yCm (base:=0) (fo rfl) (fun hfit=>?_)
 unfold F0 zUI
 refine goU ?_
 refine zAa (by rfl) trivial (fun h1=>?_) (fun h1=>?_)
 have hid:x.id≠[]:=by simpa using h1
 rw [if_neg hid] at hk
 refine goW ?_
 obtain ⟨K0,hK0⟩:∃ k,k=[((1:Int),x.tag),(2,x.id)]:=⟨_,rfl⟩
 rw [←hK0] at hk
 have hKl:K0.length≤2:=by rw [hK0];simp
 have hKr:ksO K0=[[.p (.v (.int .i64 1)),.p (bS x.tag),.os none zAs 1 []],[.p (.v (.int .i64 2)),.p (bS x.id),.os none zAs 1 []]]:=by rw [hK0];rfl
 rotate_left
 have hid:x.id=[]:=by simpa using h1
 rw [if_pos hid] at hk
 refine goW ?_
 obtain ⟨K0,hK0⟩:∃ k,k=[((1:Int),x.tag)]:=⟨_,rfl⟩
 rw [←hK0] at hk
 have hKl:K0.length≤2:=by rw [hK0];simp
 have hKr:ksO K0=[[.p (.v (.int .i64 1)),.p (bS x.tag),.os none zAs 1 []]]:=by rw [hK0];rfl
 all_goals
  refine zAn (fun i:Nat=>[(4,.pv (iv i)),(3,.ov (.one (.os none zAw 3 (ksO (K0++(x.cls.take i).map fun c=>((3:Int),c)))))),(22,.un)]) (fun i:Nat=>x.cls.length-i) (fun i:Nat=>i≤x.cls.length) (0) ?_ (Nat.zero_le _) ?_
  focus (simp (maxSteps:=2000000) only [go_sem,zAS,zBu,zCR,zAT];all_goals (repeat' (first|exact trivial|exact zBa (by omega)|exact zAX rfl|exact zBb rfl|exact zBB|exact le_refl _|refine And.intro ?_ ?_)))
  ·rw [List.append_nil,hKr];exact zBb rfl
  intro i hi
  have hkl:(ksO (K0++(x.cls.take i).map fun c=>((3:Int),c))).length≤102:=by rw [yHq,List.length_append,List.length_map,List.length_take];omega
  obtain ⟨R,hR⟩:∃ R,R=ksO (K0++(x.cls.take i).map fun c=>((3:Int),c)):=⟨_,rfl⟩
  rw [←hR] at hkl ⊢
  refine goW ?_
  refine zAa (by rfl) trivial (fun g=>?_) (fun g=>?_)
  ·have hil:i < x.cls.length:=by simpa using g
   have hcj:=zPx x.cls i hil
   try simp (maxSteps:=2000000) only [go_sem,hcj]
   repeat with_reducible refine zAP ?_
   refine ⟨i+1,by omega,by omega,?_⟩
   have e:ksO (K0++(x.cls.take (i+1)).map fun c=>((3:Int),c))=R++[[.p (.v (.int .i64 3)),.p (bS (x.cls.getD i [])),.os none zAs 1 []]]:=by
    rw [hR,List.take_succ_eq_append_getElem hil,List.map_append,←List.append_assoc,yLB]
    simp [ksO,ovT,yAC,zKm,kE,hil]
   rw [e]
   exact leA
  ·have hil:i=x.cls.length:=by simp at g;omega
   rw [hil,List.take_length,←hk] at hR
   refine goW ?_
   rw [hR]
   exact yJG rfl
theorem zU6 (es:List Ent) (i:Nat) (hi:i≤es.length) (z:List OV) (hz:z.length=3):((zDd i (ovT zAs es++[z])).getD i []).length=3:=by
 have hl:(List.take i (ovT zAs es++[z])).length=i:=by rw [List.length_take,List.length_append,zDH];simp;omega
 have h3:((ovT zAs es++[z]).getD i []).length=3:=by
  rcases Nat.lt_or_ge i es.length with h|h
  ·rw [List.getD_eq_getElem?_getD,List.getElem?_append_left (by rw [zDH];exact h),←List.getD_eq_getElem?_getD,zRZ _ _ _ h];rfl
  ·have:i=es.length:=by omega
   rw [List.getD_eq_getElem?_getD,List.getElem?_append_right (by rw [zDH];omega),zDH,this,Nat.sub_self];exact hz
 unfold zDd
 rw [List.getD_eq_getElem?_getD,List.getElem?_append_left (by simp [hl]),List.getElem?_append_right (by omega),hl,Nat.sub_self]
 simpa using h3
theorem yHr (es:List Ent) (k:Key) (n:Int) (i:Nat) (hi:i≤es.length) (hj:∀ j,j < i→zAC (es.getD j default).key k=true) (h:i=es.length∨zAC k (es.getD i default).key=true):zOG es k n=(es.take i++kE k::es.drop i).set i ⟨k.1,k.2,[n]⟩:=by
 rw [yEf es i k n hi hj h,List.set_append_right _ _ (by simp;omega)]
 have:i-(es.take i).length=0:=by simp;omega
 rw [this];rfl
theorem yEh (es:List Ent) (i:Nat) (x:Ent) (hi:i≤es.length):(es.take i++x::es.drop i).getD i default=x:=by
 rw [List.getD_eq_getElem?_getD,List.getElem?_append_right (by simp;omega)]
 have:i-(es.take i).length=0:=by simp;omega
 rw [this];rfl
theorem yLC (es:List Ent) (i:Nat) (e:Ent):(ovT zAs es).set i (yAC zAs e)=ovT zAs (es.set i e):=by
 unfold ovT;rw [List.map_set]
theorem zX8 (d:List Nd) (h64:d.length≤64) (hcls:∀ i,i < d.length→(d.getD i default).cls.length≤64):Contract Tryz.prog zF3 [.val (zCv d)] {res:=.val (.one (.sl 3 (zCK (idxOf d))))}:=by
 unfold zCv
 refine mkA zUc (base:=0) (fo rfl) (fun hfit=>?_)
 unfold F0 zM5
 refine goU ?_
 refine zAn (fun n:Nat=>[(4,.pv (iv n)),(3,.ov (.one (.os none zAw 3 (ovT zAs (zBM (zAY d n)))))),(5,.un),(6,.un),(7,.un),(12,.un),(24,.un),(41,.un),(58,.un)]) (fun n:Nat=>d.length-n) (fun n:Nat=>n≤d.length) (0) ?_ (Nat.zero_le _) ?_
 focus (exact leA)
 intro n hn
 refine goW ?_
 refine zAa (by rfl) trivial (fun g1=>?_) (fun g1=>?_)
 ·have hnl:n < d.length:=by simpa using g1
  have hx:=zBo d n hnl
  have hpl:=zEQ d n fun j hj=>hcls j (by omega)
  have hc:=hcls n hnl
  have hsu:zAY d (n+1)=zAY d n++(zEO (d.getD n default)).map fun k=>(k,(n:Int)):=rfl
  obtain ⟨x,hxe⟩:∃ x,x=d.getD n default:=⟨_,rfl⟩
  rw [←hxe] at hx hsu hc
  have hK:=yFE x (by omega)
  have hkl:=zNq x
  obtain ⟨ks,hks⟩:∃ k,k=zEO x:=⟨_,rfl⟩
  rw [←hks] at hK hkl hsu
  unfold ndV at hx hK
  obtain ⟨p0,hp0⟩:∃ p,p=zAY d n:=⟨_,rfl⟩
  rw [←hp0] at hpl hsu ⊢
  try simp (maxSteps:=2000000) only [go_sem,hx]
  repeat with_reducible refine zAP ?_
  refine yGu (by repeat' constructor) (hK) ?_
  refine goW ?_
  refine zAn (fun s:Nat×List (List OV)=>[(6,.pv (iv s.1)),(5,.ov (.one (.os none zAw 3 s.2))),(3,.ov (.one (.os none zAw 3 (ovT zAs (zBM (p0++(ks.take s.1).map fun k=>(k,(n:Int)))))))),(7,.un),(24,.un),(41,.un),(58,.un)]) (fun s:Nat×List (List OV)=>ks.length-s.1) (fun s:Nat×List (List OV)=>s.1≤ks.length∧s.2.length=ks.length∧(∀ j,s.1≤j→j < ks.length→s.2.getD j []=yAC zAs (kE (ks.getD j default)))) ((0,ksO ks)) ?_ ⟨Nat.zero_le _,yHq _,fun j _ hj=>(by simp [ksO,ovT,hj])⟩ ?_
  focus (simp (maxSteps:=2000000) only [go_sem,zAS,zBu,zCR,zAT];all_goals (repeat' (first|exact trivial|exact zBa (by omega)|exact zAX rfl|exact zBb rfl|exact zBB|exact le_refl _|refine And.intro ?_ ?_)))
  ·exact zBb (by rw [List.append_nil])
  rintro ⟨q,R⟩ ⟨hq,hRl,hR⟩
  simp only at hq hRl hR
  try simp (maxSteps:=2000000) only [go_sem,hRl]
  repeat with_reducible refine zAP ?_
  refine zAa (by rfl) trivial (fun g2=>?_) (fun g2=>?_)
  ·have hql:q < ks.length:=by simpa using g2
   have hRq:=hR q (Nat.le_refl _) hql
   obtain ⟨ky,hky⟩:∃ k,k=ks.getD q default:=⟨_,rfl⟩
   rw [←hky] at hRq
   have hstep:p0++(ks.take (q+1)).map (fun k=>(k,(n:Int)))=(p0++(ks.take q).map fun k=>(k,(n:Int)))++[(ky,(n:Int))]:=by
    rw [List.take_succ_eq_append_getElem hql,List.map_append,←List.append_assoc,hky]
    simp [hql]
   obtain ⟨p1,hp1⟩:∃ p,p=p0++(ks.take q).map fun k=>(k,(n:Int)):=⟨_,rfl⟩
   have hp1l:p1.length≤n * 66+66:=by rw [hp1,List.length_append,List.length_map,List.length_take];omega
   have hel:=yFC p1
   have hnode:=fun e=>yCN p1 (e:=e)
   have hins:=zQu p1 (ky,(n:Int))
   rw [←hp1] at hstep ⊢
   rw [←hstep] at hins
   obtain ⟨es,hes⟩:∃ e,e=zBM p1:=⟨_,rfl⟩
   rw [←hes] at hel hnode hins ⊢
   refine goW ?_
   refine zAn (fun i:Nat=>[(7,.pv (iv i)),(5,.ov (.one (.os none zAw 3 R))),(3,.ov (.one (.os none zAw 3 (ovT zAs es)))),(41,.un)]) (fun i:Nat=>es.length-i) (fun i:Nat=>i≤es.length∧∀ j,j < i→zAC (es.getD j default).key ky=true) (0) ?_ ⟨Nat.zero_le _,fun j hj=>absurd hj (Nat.not_lt_zero _)⟩ ?_
   focus (exact leA)
   rintro i ⟨hi,hlt⟩
   have hRq:R.getD q []=[.p (bI ky.1),.p (bS ky.2),.os none zAs 1 []]:=hRq
   have h48:es.length≤4400:=by omega
   have A:i < es.length∧zAC (es.getD i default).key ky=true∨(i=es.length∨i < es.length∧zAC ky (es.getD i default).key=true)∨(i < es.length∧(es.getD i default).key=ky):=by
    rcases Nat.lt_or_ge i es.length with h|h
    ·cases h1:zAC (es.getD i default).key ky with
     |true=>exact .inl ⟨h,rfl⟩
     |false=>
      cases h2:zAC ky (es.getD i default).key with
      |true=>exact .inr (.inl (.inr ⟨h,rfl⟩))
      |false=>exact .inr (.inr ⟨h,zG3 h1 h2⟩)
    ·exact .inr (.inl (.inl (by omega)))
   refine goW ?_
   intro b3 b5
   have hB:∀ e:Ent,Contract Tryz.prog zBJ [.val (.agg [bI ky.1,bS ky.2,.any]),.val (.agg [bI e.kind,bS e.name,.any])] {res:=.val (bv (zAC e.key ky))}:=fun e=>zHp ⟨ky.1,ky.2,[]⟩ e .any .any
   have hB2:∀ e:Ent,Contract Tryz.prog zBJ [.val (.agg [bI e.kind,bS e.name,.any]),.val (.agg [bI ky.1,bS ky.2,.any])] {res:=.val (bv (zAC ky e.key))}:=fun e=>zHp e ⟨ky.1,ky.2,[]⟩ .any .any
   rcases A with ⟨hil,hk1⟩|(hie|⟨hil,hk1⟩)|⟨hil,hk1⟩
   ·have t1:decide ((i:Int) < (es.length:Int))=true:=by simpa using hil
    have hei:=zRZ zAs es i hil
    have hB:=hB (es.getD i default)
    rw [hk1] at hB
    have hlt':∀ j,j < i+1→zAC (es.getD j default).key ky=true:=fun j hj=>by
     rcases Nat.lt_or_ge j i with h|h
     ·exact hlt j h
     ·have:j=i:=by omega
      rw [this];exact hk1
    obtain ⟨e,he⟩:∃ e,e=es.getD i default:=⟨_,rfl⟩
    rw [←he] at hei hB
    unfold yAC zKm at hei
    try simp (maxSteps:=2000000) only [go_sem,t1,hRq,hei,yEo]
    repeat with_reducible refine zAP ?_
    apply zAr (h2:=fun _=>hB)
    ·(simp (maxSteps:=2000000) only [go_sem];rfl)
    ·intro h;repeat' (first|exact trivial|exact h|refine And.intro ?_ ?_)
    refine goW ?_
    refine zKk (by rfl) trivial ?_
    refine goW ?_
    refine ⟨i+1,by omega,⟨by omega,hlt'⟩,?_⟩
    exact leA
   have t1:decide ((i:Int) < (es.length:Int))=false:=by rw [hie];simp
   have t2:((i:Int)==(es.length:Int))=true:=by rw [hie];simp
   have hnew:=yHr es ky n i hi hlt (.inl hie)
   try simp (maxSteps:=2000000) only [go_sem,t1,hRq]
   repeat with_reducible refine zAP ?_
   refine zAr (T:=false) (x:=bv false) (by rfl) (fun h=>by cases h) (fun h=>by cases h) ?_
   refine goW ?_
   refine zHm (by rfl) trivial ?_
   refine goW ?_
   intro b6 b7
   try simp (maxSteps:=2000000) only [go_sem,t2,Bool.not_true]
   repeat with_reducible refine zAP ?_
   refine zAr (T:=false) (x:=bv false) (by rfl) (fun h=>by cases h) (fun h=>by cases h) ?_
   refine goW ?_
   refine zKk (by rfl) trivial ?_
   refine goW ?_
   obtain ⟨RR,hRR⟩:∃ RR,RR=ovT zAs es++[[OV.p (PV.v (Value.int IntKind.i64 0)),OV.p (PV.v (mkS [])),OV.p (PV.sl 1 [])]]:=⟨_,rfl⟩
   have hRl2:RR.length=es.length+1:=by rw [hRR,List.length_append,zDH];rfl
   have hto:((i:Int)+1).toNat=i+1:=by omega
   rw [←hRR]
   intro b8
   try simp (maxSteps:=2000000) only [go_sem,hRl2,hto]
   repeat with_reducible refine zAP ?_
   refine yNk (b:=b8) (i:=i) (rows:=RR) rfl rfl rfl (by omega) (by omega) (by omega) (by decide) ?_
   obtain ⟨R3,hR3⟩:∃ R3,R3=zDd i RR:=⟨_,rfl⟩
   have hR3l:R3.length=es.length+1:=by rw [hR3,hRR];exact yAE _ _ _ hi _
   have hrow:(R3.getD i []).length=3:=by rw [hR3,hRR];exact zU6 _ _ hi _ rfl
   rw [←hR3]
   have hdr:List.drop 3 (R3.getD i [])=[]:=List.drop_eq_nil_of_le (by omega)
   have hset:R3.set i [OV.p (bI ky.1),.p (bS ky.2),.os none zAs 1 []]=ovT zAs (es.take i++kE ky::es.drop i):=by
    rw [hR3,hRR,yAD _ _ _ hi]
    simp [ovT,yAC,zKm,kE]
   generalize hG14:hwp Tryz.prog zDI=G14
   try simp (maxSteps:=2000000) only [go_sem,hR3l,hRq,hrow,hdr,List.append_nil,hset,OV.left]
   repeat with_reducible refine zAP ?_
   have hR1l:(R.set q [OV.p (bI ky.1),.p (bS ky.2),.hole]).length=ks.length:=by rw [List.length_set];exact hRl
   have hR1:∀ j,q+1≤j→j < ks.length→(R.set q [OV.p (bI ky.1),.p (bS ky.2),.hole]).getD j []=yAC zAs (kE (ks.getD j default)):=fun j h1 h2=>by
    rw [List.getD_eq_getElem?_getD,List.getElem?_set_ne (by omega),←List.getD_eq_getElem?_getD];exact hR j (by omega) h2
   obtain ⟨R1,hR1e⟩:∃ R1,R1=R.set q [OV.p (bI ky.1),.p (bS ky.2),.hole]:=⟨_,rfl⟩
   rw [←hR1e] at hR1l hR1 ⊢
   have hi1:i < (es.take i++kE ky::es.drop i).length:=by simp;omega
   have hl1:(es.take i++kE ky::es.drop i).length≤5000:=by simp;omega
   have hn1:((es.take i++kE ky::es.drop i).getD i default).nodes.length≤5000:=by rw [yEh _ _ _ hi];simp [kE]
   have hins1:zBM (p0++(ks.take (q+1)).map fun k=>(k,(n:Int)))=(es.take i++kE ky::es.drop i).set i ⟨((es.take i++kE ky::es.drop i).getD i default).kind,((es.take i++kE ky::es.drop i).getD i default).name,((es.take i++kE ky::es.drop i).getD i default).nodes++[(n:Int)]⟩:=by
    rw [hins,yEh _ _ _ hi];exact hnew
   obtain ⟨es1,hes1⟩:∃ e,e=es.take i++kE ky::es.drop i:=⟨_,rfl⟩
   rw [←hes1] at hi1 hl1 hn1 hins1 ⊢
   rotate_left
   have t1:decide ((i:Int) < (es.length:Int))=true:=by simpa using hil
   have t2:((i:Int)==(es.length:Int))=false:=by simp;omega
   have hnew:=yHr es ky n i hi hlt (.inr hk1)
   have hei:=zRZ zAs es i hil
   have hB:=hB (es.getD i default)
   rw [zG4 hk1] at hB
   have hB2:=hB2 (es.getD i default)
   rw [hk1] at hB2
   obtain ⟨e,he⟩:∃ e,e=es.getD i default:=⟨_,rfl⟩
   rw [←he] at hei hB hB2
   unfold yAC zKm at hei
   try simp (maxSteps:=2000000) only [go_sem,t1,hRq,hei,yEo]
   repeat with_reducible refine zAP ?_
   apply zAr (h2:=fun _=>hB)
   ·(simp (maxSteps:=2000000) only [go_sem];rfl)
   ·intro h;repeat' (first|exact trivial|exact h|refine And.intro ?_ ?_)
   refine goW ?_
   refine zHm (by rfl) trivial ?_
   refine goW ?_
   intro b6 b7
   try simp (maxSteps:=2000000) only [go_sem,t2,Bool.not_false,hRq,hei,yEo]
   repeat with_reducible refine zAP ?_
   apply zAr (h2:=fun _=>hB2)
   ·(simp (maxSteps:=2000000) only [go_sem];rfl)
   ·intro h;repeat' (first|exact trivial|exact h|refine And.intro ?_ ?_)
   refine goW ?_
   refine zKk (by rfl) trivial ?_
   refine goW ?_
   obtain ⟨RR,hRR⟩:∃ RR,RR=ovT zAs es++[[OV.p (PV.v (Value.int IntKind.i64 0)),OV.p (PV.v (mkS [])),OV.p (PV.sl 1 [])]]:=⟨_,rfl⟩
   have hRl2:RR.length=es.length+1:=by rw [hRR,List.length_append,zDH];rfl
   have hto:((i:Int)+1).toNat=i+1:=by omega
   rw [←hRR]
   intro b8
   try simp (maxSteps:=2000000) only [go_sem,hRl2,hto]
   repeat with_reducible refine zAP ?_
   refine yNk (b:=b8) (i:=i) (rows:=RR) rfl rfl rfl (by omega) (by omega) (by omega) (by decide) ?_
   obtain ⟨R3,hR3⟩:∃ R3,R3=zDd i RR:=⟨_,rfl⟩
   have hR3l:R3.length=es.length+1:=by rw [hR3,hRR];exact yAE _ _ _ hi _
   have hrow:(R3.getD i []).length=3:=by rw [hR3,hRR];exact zU6 _ _ hi _ rfl
   rw [←hR3]
   have hdr:List.drop 3 (R3.getD i [])=[]:=List.drop_eq_nil_of_le (by omega)
   have hset:R3.set i [OV.p (bI ky.1),.p (bS ky.2),.os none zAs 1 []]=ovT zAs (es.take i++kE ky::es.drop i):=by
    rw [hR3,hRR,yAD _ _ _ hi]
    simp [ovT,yAC,zKm,kE]
   generalize hG14:hwp Tryz.prog zDI=G14
   try simp (maxSteps:=2000000) only [go_sem,hR3l,hRq,hrow,hdr,List.append_nil,hset,OV.left]
   repeat with_reducible refine zAP ?_
   have hR1l:(R.set q [OV.p (bI ky.1),.p (bS ky.2),.hole]).length=ks.length:=by rw [List.length_set];exact hRl
   have hR1:∀ j,q+1≤j→j < ks.length→(R.set q [OV.p (bI ky.1),.p (bS ky.2),.hole]).getD j []=yAC zAs (kE (ks.getD j default)):=fun j h1 h2=>by
    rw [List.getD_eq_getElem?_getD,List.getElem?_set_ne (by omega),←List.getD_eq_getElem?_getD];exact hR j (by omega) h2
   obtain ⟨R1,hR1e⟩:∃ R1,R1=R.set q [OV.p (bI ky.1),.p (bS ky.2),.hole]:=⟨_,rfl⟩
   rw [←hR1e] at hR1l hR1 ⊢
   have hi1:i < (es.take i++kE ky::es.drop i).length:=by simp;omega
   have hl1:(es.take i++kE ky::es.drop i).length≤5000:=by simp;omega
   have hn1:((es.take i++kE ky::es.drop i).getD i default).nodes.length≤5000:=by rw [yEh _ _ _ hi];simp [kE]
   have hins1:zBM (p0++(ks.take (q+1)).map fun k=>(k,(n:Int)))=(es.take i++kE ky::es.drop i).set i ⟨((es.take i++kE ky::es.drop i).getD i default).kind,((es.take i++kE ky::es.drop i).getD i default).name,((es.take i++kE ky::es.drop i).getD i default).nodes++[(n:Int)]⟩:=by
    rw [hins,yEh _ _ _ hi];exact hnew
   obtain ⟨es1,hes1⟩:∃ e,e=es.take i++kE ky::es.drop i:=⟨_,rfl⟩
   rw [←hes1] at hi1 hl1 hn1 hins1 ⊢
   rotate_left
   have t1:decide ((i:Int) < (es.length:Int))=true:=by simpa using hil
   have t2:((i:Int)==(es.length:Int))=false:=by simp;omega
   have hei:=zRZ zAs es i hil
   have hB:=hB (es.getD i default)
   have hB2:=hB2 (es.getD i default)
   have hirr:=zBe ky
   rw [hk1,hirr] at hB hB2
   have hi1:=hil
   have hl1:es.length≤5000:=by omega
   have hn1:(es.getD i default).nodes.length≤5000:=by
    have:=hnode (es.getD i default) (by rw [hes,←hes];simp [hil])
    omega
   have hins1:zBM (p0++(ks.take (q+1)).map fun k=>(k,(n:Int)))=es.set i ⟨(es.getD i default).kind,(es.getD i default).name,(es.getD i default).nodes++[(n:Int)]⟩:=by
    rw [hins,yEg es i ky n hil hlt hk1]
   obtain ⟨e,he⟩:∃ e,e=es.getD i default:=⟨_,rfl⟩
   rw [←he] at hei hB hB2
   unfold yAC zKm at hei
   try simp (maxSteps:=2000000) only [go_sem,t1,hRq,hei,yEo]
   repeat with_reducible refine zAP ?_
   apply zAr (h2:=fun _=>hB)
   ·(simp (maxSteps:=2000000) only [go_sem];rfl)
   ·intro h;repeat' (first|exact trivial|exact h|refine And.intro ?_ ?_)
   refine goW ?_
   refine zHm (by rfl) trivial ?_
   refine goW ?_
   intro b6 b7
   try simp (maxSteps:=2000000) only [go_sem,t2,Bool.not_false,hRq,hei,yEo]
   repeat with_reducible refine zAP ?_
   apply zAr (h2:=fun _=>hB2)
   ·(simp (maxSteps:=2000000) only [go_sem];rfl)
   ·intro h;repeat' (first|exact trivial|exact h|refine And.intro ?_ ?_)
   refine goW ?_
   refine zHm (by rfl) trivial ?_
   generalize hG14:hwp Tryz.prog zDI=G14
   refine goW ?_
   have hR1l:=hRl
   have hR1:∀ j,q+1≤j→j < ks.length→R.getD j []=yAC zAs (kE (ks.getD j default)):=fun j h1 h2=>hR j (by omega) h2
   obtain ⟨R1,hR1e⟩:∃ R1,R1=R:=⟨_,rfl⟩
   rw [←hR1e] at hR1l hR1 ⊢
   obtain ⟨es1,hes1⟩:∃ e,e=es:=⟨_,rfl⟩
   rw [←hes1] at hi1 hl1 hn1 hins1 ⊢
   all_goals
    have he1:=zRZ zAs es1 i hi1
    obtain ⟨e1,hee⟩:∃ e,e=es1.getD i default:=⟨_,rfl⟩
    rw [←hee] at he1 hn1 hins1
    have hset1:(ovT zAs es1).set i [OV.p (bI e1.kind),OV.p (bS e1.name),OV.os none zAs 1 (e1.nodes.map (fun n=>[OV.p (bI n)])++[[OV.p (bI (n:Int))]])]=ovT zAs (zBM (p0++(ks.take (q+1)).map fun k=>(k,(n:Int)))):=by
     rw [hins1,←yLC];simp [yAC,zKm]
    have hgs:∀ X,((ovT zAs es1).set i X).getD i []=X:=fun X=>by simp [zDH,hi1]
    unfold yAC zKm at he1
    subst hG14
    try simp (maxSteps:=2000000) only [go_sem,he1,zDH,List.length_map,hgs,List.set_set,hset1]
    repeat with_reducible refine zAP ?_
    refine ⟨(q+1,R1),by simp only;omega,⟨by simp only;omega,hR1l,hR1⟩,?_⟩
    exact leA
  ·have hql:q=ks.length:=by simp at g2;omega
   rw [hql,List.take_length,←hsu]
   refine goW ?_
   refine ⟨n+1,by omega,by omega,?_⟩
   exact leA
 ·have hnl:n=d.length:=by simp at g1;omega
  have hfz:∀ (b:Option Nat) (e:Nat) (es:List Ent),(OV.os b e 3 (ovT zAs es)).frz=some (.sl 3 (zCK es)):=fun b e es=>zUw (zR0 _ _)
  rw [hnl,show zBM (zAY d d.length)=idxOf d from rfl]
  try simp (maxSteps:=2000000) only [go_sem,hfz]
  repeat with_reducible refine zAP ?_
  exact zAb rfl trivial (.inl rfl)
end Go.Hx
end

section
/-
 The abstract code of functions of the program, printed by gen.py; each stands for the given one. No condition.
-/
namespace Go.Hx
open Go.Proofs
variable [Glob]
end Go.Hx
end
