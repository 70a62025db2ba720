/-
  Walks of functions of the program over an abstract layer, and the laws that they use: each contract says what the function computes, for every input that its conditions let by. No other condition.
-/
import Derived.Test.YtjnagiaooecklabGreatDoorProg
import Derived.Test.YtjnagiaooecklabGreatDoorG9
import Derived.Test.YtjnagiaooecklabGreatDoorG25
import Derived.Test.YtjnagiaooecklabGreatDoorG11
import Derived.Test.YtjnagiaooecklabGreatDoorG12
set_option linter.all false
section
/-
 The abstract code of functions of the program, printed by gen.py; each stands for the given one. No condition.
-/
namespace Go.Hx
open Go.Proofs
variable [Glob]
abbrev zEY:Nat:=51
abbrev zE4:Nat:=107
abbrev zY9:HCode:=oN [⟨none,.alloc 2 0 24 [.nl 2]⟩,
  ⟨none,.alloc 3 1 25 [.v (.int .i64 0)]⟩]
abbrev zZa:HCode:=oR [oV 6 (.mv (.t 0)),
  oV 7 (.bld [.v (mkS [])] [(0,1,.t 6)]),
  ⟨none,.box 8 2 26 1 (.t 7)⟩,
  oV 4 (.mv (.t 8))] [6,7,8]
abbrev zZb:HCode:=oR [oV 9 (.mv (.t 4)),
  oC 10 zBu [(.t 9,.i 2 26 1),(.c (iv 1),.v)],
  ⟨none,.sto (.t 2) 0 24 0 1 (.t 10)⟩] [9,10]
abbrev zZc:HCode:=oR [oV 11 (.mv (.t 4)),
  oV 12 (.nilck (.t 11)),
  oV 13 (.fldP (.t 12) 0),
  oV 14 (.ldB (.t 13) 2 26 0 1 false),
  oV 15 (.strs .neq (.t 14) (.c (sv []))),
  oV 16 (.mv (.t 15)),
  oG 16 false 17 (.ldB (.t 2) 0 24 0 1 false),
  ⟨some (16,false),.call (some 18) zBU [(.t 17,.v)]⟩,
  oG 16 false 19 (.ints .neq (.t 18) (.c (iv 0))),
  oV 20 (.pick (.t 16) (.c (bv true)) (.t 19))] [11,12,13,14,15,16,17,18,19]
abbrev zZd:HCode:=oR [oV 21 (.bld [] []),
  oV 22 (.mki zB2 (.t 21)),
  ⟨none,.pan (.t 22)⟩] [21,22]
abbrev zZe:HCode:=oR [oV 23 (.ldB (.t 2) 0 24 0 1 false),
  ⟨none,.sto (.t 2) 0 24 0 1 (.t 23)⟩,
  ⟨none,.sto (.t 3) 1 25 0 1 (.c (iv 0))⟩] [23]
abbrev zMu:HCode:=zY9
abbrev zZf:HCode:=(.seq zZa (.seq zZb (.seq (.seq zZc (.cond (.t 20) zZd .skip)) (.seq zZe .ret))))
abbrev zHS:Env:={ N:=24,Γ:=[(24,1),(25,1),(26,1)],L:=27,nfix:=0 }
abbrev yAX:List RSrc:=[.cellB 2 0 24 0 1 false,.cellB 3 1 25 0 1 false]
abbrev zHT:List CapB:=[⟨2,0,24,[.nl 2]⟩,⟨3,1,25,[.v (.int .i64 1)]⟩]
theorem zZg {base:Nat} {av:List AV} {r:RV} (hfo:zUe zHS base av) (hres:(∃ x,r.res = .val x)∨∃ xs,r.res = .tup xs) (hret:yLh Tryz.prog zE4 2)
  (hW:AVs.fits av→hwp Tryz.prog zMu (fun e F=>e = .normal∧(∀ x ∈ zHT,F.getD x.i .un = .ptr x.j 0)∧hwp Tryz.prog zZf (yIc Tryz.prog base av yAX r zE4 zHT) (F.set 5 .un)) (F0 zHS base av)):Contract Tryz.prog zEY av r:=
 zRx (fn:=Tryz.f51) (c0:=cdL (Tryz.f51.body.getD .skip)) (c1:=cdR (cdR (Tryz.f51.body.getD .skip))) (id:=cdI (cdL (cdR (Tryz.f51.body.getD .skip)))) (ops:=cdO (cdL (cdR (Tryz.f51.body.getD .skip)))) (by kernel_rfl) (by kernel_rfl) (by kernel_rfl) (by kernel_rfl) (by kernel_rfl) (by kernel_rfl) (g:=zE4) (k:=5) (l:=zHT) (by kernel_rfl) (nf:=2) (by kernel_rfl) (by kernel_rfl) (by kernel_rfl) (by kernel_rfl) hfo hres hret hW
end Go.Hx
end

section
/-
 The abstract code of functions of the program, printed by gen.py; each stands for the given one. No condition.
-/
namespace Go.Hx
open Go.Proofs
variable [Glob]
abbrev zGg:Nat:=10
abbrev zCN:Nat:=62
abbrev zD2:Nat:=53
abbrev zXw:HCode:=oN [oV 0 (.mv (.c (.one (.nl 2))))]
abbrev zXx:HCode:=oR [oV 1 (.bld [.v (.int .i64 0),.v (.int .i64 0)] [(1,1,.c (iv 1))]),
  oV 2 (.bld [.v (.int .i64 0),.v (mkS []),.v (mkS []),.v (.int .i64 0),.v (.int .i64 0),.nl 2] [(0,1,.c (iv 10)),(3,2,.t 1)]),
  oV 3 (.bslF 6 [.t 2]),
  oV 4 (.bld [.v (mkS []),.nl 6] [(1,1,.t 3)]),
  oV 5 (.bslF 2 [.t 4]),
  oV 6 (.bld [.nl 2,.nl 1] [(0,1,.t 5)]),
  oV 7 (.bslF 2 [.t 6]),
  oV 8 (.bld [.v (.int .i64 0),.v (mkS []),.v (mkS []),.v (.int .i64 0),.v (.int .i64 0),.nl 2] [(0,1,.c (iv 13)),(5,1,.t 7)]),
  oV 9 (.bslF 6 [.t 8]),
  oV 10 (.bld [.v (mkS []),.nl 6] [(0,1,.c (sv [105,116,101,109])),(1,1,.t 9)]),
  oV 11 (.bld [.v (.int .i64 0),.v (mkS []),.v (mkS []),.v (.int .i64 0),.v (.int .i64 0),.nl 2] [(0,1,.c (iv 8)),(1,1,.c (sv [116,111])),(2,1,.c (sv [116,119,111]))]),
  oV 12 (.bslF 6 [.t 11]),
  oV 13 (.bld [.v (mkS []),.nl 6] [(1,1,.t 12)]),
  oV 14 (.bslF 2 [.t 13]),
  oV 15 (.bld [.nl 2,.nl 1] [(0,1,.t 14)]),
  oV 16 (.bslF 2 [.t 15]),
  oV 17 (.bld [.v (.int .i64 0),.v (mkS []),.v (mkS []),.v (.int .i64 0),.v (.int .i64 0),.nl 2] [(0,1,.c (iv 15)),(5,1,.t 16)]),
  oV 18 (.bslF 6 [.t 17]),
  oV 19 (.bld [.v (mkS []),.nl 6] [(1,1,.t 18)]),
  oV 20 (.bslF 2 [.t 10,.t 19]),
  oV 21 (.bslF 1 [.c (iv 3)]),
  oV 22 (.bld [.nl 2,.nl 1] [(0,1,.t 20),(1,1,.t 21)]),
  oV 23 (.bld [.v (.int .i64 0),.v (mkS []),.v (mkS []),.v (.int .i64 0),.v (.int .i64 0),.nl 2] [(0,1,.c (iv 2)),(1,1,.c (sv [116,111,112]))]),
  oV 24 (.bslF 6 [.t 23]),
  oV 25 (.bld [.v (mkS []),.nl 6] [(1,1,.t 24)]),
  oV 26 (.bslF 2 [.t 25]),
  oV 27 (.bld [.nl 2,.nl 1] [(0,1,.t 26)]),
  oV 28 (.bslF 2 [.t 22,.t 27]),
  oV 0 (.mv (.t 28))] [1,2,3,4,5,6,7,8,9,10,11,12,13,14,15,16,17,18,19,20,21,22,23,24,25,26,27,28]
abbrev yDb:HCode:=(.seq zXw (.seq zXx .ret))
abbrev zMy:Env:={ N:=29,Γ:=[],L:=29,nfix:=0 }
abbrev law_looked_R:List RSrc:=[.tmp 0]
theorem zXy:zCu Tryz.prog zCN yDb zMy law_looked_R:=by kernel_rfl
abbrev zPc:HCode:=oN [oV 0 (.mv (.c (bv false)))]
abbrev zPd:HCode:=oR [oC 8 zCN [],
  oC 9 zES [(.t 8,.v)],
  oV 7 (.mv (.t 9)),
  oV 10 (.ext 7 0),
  oV 11 (.ext 7 1),
  oV 1 (.mv (.t 10)),
  oV 2 (.mv (.t 11))] [7,8,9,10,11]
abbrev zPe:HCode:=oR [oV 13 (.mv (.t 1)),
  oC 14 zEY [(.t 13,.v)],
  oV 12 (.mv (.t 14)),
  oV 15 (.ext 12 0),
  oV 16 (.ext 12 1),
  oV 3 (.mv (.t 15)),
  oV 4 (.mv (.t 16))] [12,13,14,15,16]
abbrev zPf:HCode:=oR [oC 18 zCN [],
  oV 19 (.idxA 2 (.t 18) (.c (iv 0))),
  oV 20 (.ldR (.t 19) 2 true),
  oC 21 zF5 [(.t 20,.v)],
  oV 17 (.mv (.t 21)),
  oV 22 (.ext 17 0),
  oV 23 (.ext 17 1),
  ⟨none,.alloc 5 0 57 [.v (.int .i64 0),.v (.int .i64 0),.v (.int .i64 0)]⟩,
  ⟨none,.sto (.t 5) 0 57 0 3 (.t 22)⟩,
  oV 6 (.mv (.t 23))] [17,18,19,20,21,22,23]
abbrev zPg:HCode:=oR [oC 24 zCN [],
  oC 25 zBU [(.t 24,.v)],
  oV 26 (.ints .eql (.t 25) (.c (iv 0))),
  oV 27 (.mv (.t 26)),
  ⟨some (27,true),.call (some 28) zBU [(.c (.one (.nl 2)),.v)]⟩,
  oG 27 true 29 (.ints .eql (.t 28) (.c (iv 2))),
  oV 30 (.pick (.t 27) (.t 29) (.c (bv false))),
  oV 31 (.mv (.t 30)),
  oG 31 true 32 (.mv (.t 2)),
  oG 31 true 33 (.ints .eql (.t 32) (.c (iv 0))),
  oV 34 (.pick (.t 31) (.t 33) (.c (bv false))),
  oV 35 (.mv (.t 34)),
  oG 35 true 36 (.mv (.t 4)),
  oG 35 true 37 (.ints .eql (.t 36) (.c (iv 0))),
  oV 38 (.pick (.t 35) (.t 37) (.c (bv false))),
  oV 39 (.mv (.t 38)),
  oG 39 true 40 (.mv (.t 6)),
  oG 39 true 41 (.ints .eql (.t 40) (.c (iv 0))),
  oV 42 (.pick (.t 39) (.t 41) (.c (bv false))),
  oV 43 (.mv (.t 42)),
  oG 43 true 44 (.mv (.t 1)),
  oG 43 true 45 (.strs .eql (.t 44) (.c (sv [105,116,101,109,58,110,111,116,40,42,58,108,97,115,116,40,48,110,43,49,41,41,32,43,32,42,58,104,97,115,40,42,91,116,111,126,61,34,116,119,111,34,93,41,44,32,42,35,116,111,112]))),
  oV 46 (.pick (.t 43) (.t 45) (.c (bv false))),
  oV 47 (.mv (.t 46)),
  oG 47 true 48 (.mv (.t 3)),
  ⟨some (47,true),.call (some 49) zCN []⟩,
  ⟨some (47,true),.call (some 50) zBQ [(.t 48,.v),(.t 49,.v)]⟩,
  oV 51 (.pick (.t 47) (.t 50) (.c (bv false))),
  oV 52 (.mv (.t 51)),
  oG 52 true 53 (.ldB (.t 5) 0 57 0 3 true),
  oG 52 true 54 (.bld [.v (.int .i64 0),.v (.int .i64 0),.v (.int .i64 0)] [(1,1,.c (iv 2)),(2,1,.c (iv 1))]),
  oG 52 true 55 (.steq false [0,0,0] (.t 53) (.t 54)),
  oV 56 (.pick (.t 52) (.t 55) (.c (bv false))),
  oV 0 (.mv (.t 56))] [24,25,26,27,28,29,30,31,32,33,34,35,36,37,38,39,40,41,42,43,44,45,46,47,48,49,50,51,52,53,54,55,56]
abbrev zXz:HCode:=(.seq zPc (.seq zPd (.seq zPe (.seq zPf (.seq zPg .ret)))))
abbrev zGT:Env:={ N:=57,Γ:=[(57,3)],L:=60,nfix:=0 }
abbrev law_pathBegun_R:List RSrc:=[.tmp 0]
theorem zPh:zCu Tryz.prog zD2 zXz zGT law_pathBegun_R:=by kernel_rfl
abbrev zPi:HCode:=oN [oV 4 (.mv (.c (bv false)))]
abbrev zPj:HCode:=oR [oV 15 (.mv (.t 0)),
  oC 16 zES [(.t 15,.v)],
  oV 14 (.mv (.t 16)),
  oV 17 (.ext 14 0),
  oV 18 (.ext 14 1),
  oV 5 (.mv (.t 17)),
  oV 6 (.mv (.t 18))] [14,15,16,17,18]
abbrev zPk:HCode:=oR [oV 19 (.mv (.t 0)),
  oC 20 zC0 [(.t 19,.v)],
  oV 7 (.mv (.t 20))] [19,20]
abbrev zPl:HCode:=oN [oV 8 (.mv (.c (sv [])))]
abbrev zPm:HCode:=oR [oV 21 (.mv (.t 7)),
  oV 22 (.ints .eql (.t 21) (.c (iv 0)))] [21]
abbrev zPn:HCode:=oR [oV 23 (.mv (.t 0)),
  oC 24 zA2 [(.t 23,.v)],
  oV 8 (.mv (.t 24))] [23,24]
abbrev zPo:HCode:=oR [oV 26 (.mv (.t 1)),
  oC 27 zEY [(.t 26,.v)],
  oV 25 (.mv (.t 27)),
  oV 28 (.ext 25 0),
  oV 29 (.ext 25 1),
  oV 9 (.mv (.t 28)),
  oV 10 (.mv (.t 29))] [25,26,27,28,29]
abbrev zPp:HCode:=oR [oV 31 (.mv (.t 1)),
  oC 32 zEG [(.t 31,.v)],
  oV 30 (.mv (.t 32)),
  oV 33 (.ext 30 0),
  oV 34 (.ext 30 1),
  oV 11 (.mv (.t 33)),
  oV 12 (.mv (.t 34))] [30,31,32,33,34]
abbrev zPq:HCode:=oN [oV 13 (.mv (.c (iv 0)))]
abbrev zPr:HCode:=oR [oV 35 (.mv (.t 12)),
  oV 36 (.not (.t 35))] [35]
abbrev zL2:HCode:=oN [oV 13 (.mv (.c (iv 1)))]
abbrev zL3:HCode:=oR [oC 37 zD2 [],
  oV 38 (.mv (.t 37)),
  oG 38 true 39 (.mv (.t 0)),
  ⟨some (38,true),.call (some 40) zBU [(.t 39,.v)]⟩,
  oG 38 true 41 (.mv (.t 7)),
  oG 38 true 42 (.ints .eql (.t 40) (.t 41)),
  oV 43 (.pick (.t 38) (.t 42) (.c (bv false))),
  oV 44 (.mv (.t 43)),
  oG 44 true 45 (.mv (.t 5)),
  oG 44 true 46 (.mv (.t 8)),
  oG 44 true 47 (.strs .eql (.t 45) (.t 46)),
  oV 48 (.pick (.t 44) (.t 47) (.c (bv false))),
  oV 49 (.mv (.t 48)),
  oG 49 true 50 (.mv (.t 6)),
  oG 49 true 51 (.mv (.t 7)),
  oG 49 true 52 (.ints .eql (.t 50) (.t 51)),
  oV 53 (.pick (.t 49) (.t 52) (.c (bv false))),
  oV 54 (.mv (.t 53)),
  oG 54 true 55 (.mv (.t 10)),
  oG 54 true 56 (.mv (.t 13)),
  oG 54 true 57 (.ints .eql (.t 55) (.t 56)),
  oV 58 (.pick (.t 54) (.t 57) (.c (bv false))),
  oV 59 (.mv (.t 58)),
  oG 59 true 60 (.mv (.t 9)),
  oG 59 true 61 (.mv (.t 11)),
  ⟨some (59,true),.call (some 62) zBQ [(.t 60,.v),(.t 61,.v)]⟩,
  oV 63 (.pick (.t 59) (.t 62) (.c (bv false))),
  oV 4 (.mv (.t 63))] [37,38,39,40,41,42,43,44,45,46,47,48,49,50,51,52,53,54,55,56,57,58,59,60,61,62,63]
abbrev zXA:HCode:=(.seq zPi (.seq zPj (.seq zPk (.seq zPl (.seq (.seq zPm (.cond (.t 22) zPn .skip)) (.seq zPo (.seq zPp (.seq zPq (.seq (.seq zPr (.cond (.t 36) zL2 .skip)) (.seq zL3 .ret))))))))))
abbrev zCA:Env:={ N:=64,Γ:=[],L:=64,nfix:=0 }
abbrev law_PathShows_R:List RSrc:=[.tmp 4]
theorem zC3:zCu Tryz.prog zGg zXA zCA law_PathShows_R:=by kernel_rfl
end Go.Hx
end
