/-
 The abstract code of look.path ahead of its loop, printed by gen.py; each piece stands for the given one. No condition.
-/
import Derived.Test.YtjnagiaooecklaaGreatDoorG12
import Derived.Test.YtjnagiaooecklaaGreatDoorG25
set_option linter.all false
namespace Go.Hx
open Go.Proofs
variable [Glob]
abbrev zFE:HCode:=oN [oV 4 (.boxF (.t 0)),
  oV 5 (.boxF (.t 1)),
  oV 6 (.boxF (.t 2)),
  ⟨none,.alloc 8 0 38 [.v (.bool false)]⟩]
abbrev zMX:HCode:=oQ [oD 0 false (oV 10 (.ldR (.t 4) 1 false)),
  oD 1 false (oV 11 (.fldR (.t 5) 0 1)),
  oD 2 false (oV 12 (.ldR (.t 11) 1 false)),
  oD 3 false (oV 13 (.ldR (.t 6) 1 false)),
  oD 4 false (oV 14 (.ints .sub (.t 13) (.c (iv 1)))),
  oD 5 false (oV 15 (.idxA 2 (.t 12) (.t 14))),
  oD 6 false (oV 16 (.ldR (.t 15) 2 true)),
  oD 7 false (oV 17 (.mv (.t 3))),
  oD 8 true (oC 18 zBp [(.t 10,.v),(.t 16,.v),(.t 17,.v)]),
  oD 9 false (oV 19 (.not (.t 18)))] [10,11,12,13,14,15,16,17,18]
abbrev zMY:HCode:=oN [⟨none,.sto (.t 8) 0 38 0 1 (.c (bv false))⟩]
abbrev zMZ:HCode:=oR [oV 20 (.ldR (.t 6) 1 false),
  oV 21 (.ints .eql (.t 20) (.c (iv 1)))] [20]
abbrev zM0:HCode:=oN [⟨none,.sto (.t 8) 0 38 0 1 (.c (bv true))⟩]
abbrev zFF:HCode:=oQ [oD 0 false (oV 22 (.ldR (.t 4) 1 false)),
  oD 1 false (oV 23 (.fldR (.t 5) 1 1)),
  oD 2 false (oV 24 (.ldR (.t 23) 1 false)),
  oD 3 false (oV 25 (.ldR (.t 6) 1 false)),
  oD 4 false (oV 26 (.ints .sub (.t 25) (.c (iv 2)))),
  oD 5 false (oV 27 (.idxA 1 (.t 24) (.t 26))),
  oD 6 false (oV 28 (.ldR (.t 27) 1 false)),
  oD 7 false (oV 29 (.mv (.t 3))),
  oD 8 true (oC 30 zC7 [(.t 22,.v),(.t 28,.v),(.t 29,.v)])] [22,23,24,25,26,27,28,29]
abbrev match_look_path_E:Env:={N:=38,Γ:=[(38,1)],L:=39,nfix:=0}
abbrev zB6:List RSrc:=[.cellB 8 0 38 0 1 false]
abbrev lpX:HCode:=.seq zMX (.cond (.t 19) (.seq zMY .ret) .skip)
abbrev lpY:HCode:=.seq zMZ (.cond (.t 21) (.seq zM0 .ret) .skip)
abbrev lpA:HCode:=.seq zFE (.seq lpX (.seq lpY zFF))
theorem yO4:zCV Tryz.prog match_look_path_E (cdL (Tryz.f91.body.getD .skip)) zFE=true:=by kernel_rfl
theorem yO5:zCV Tryz.prog match_look_path_E (cdL (cdR (Tryz.f91.body.getD .skip))) lpX=true:=by kernel_rfl
theorem yO6:zCV Tryz.prog match_look_path_E (cdL (cdR (cdR (Tryz.f91.body.getD .skip)))) lpY=true:=by kernel_rfl
theorem yO7:zCV Tryz.prog match_look_path_E (cdL (cdL (cdR (cdR (cdR (Tryz.f91.body.getD .skip)))))) zFF=true:=by kernel_rfl
theorem yO8:(Tryz.f91.body.getD .skip)=.seq (cdL (Tryz.f91.body.getD .skip)) (.seq (cdL (cdR (Tryz.f91.body.getD .skip))) (.seq (cdL (cdR (cdR (Tryz.f91.body.getD .skip)))) (.seq (.seq (cdL (cdL (cdR (cdR (cdR (Tryz.f91.body.getD .skip)))))) (cdR (cdL (cdR (cdR (cdR (Tryz.f91.body.getD .skip))))))) (cdR (cdR (cdR (cdR (Tryz.f91.body.getD .skip)))))))):=by kernel_rfl
theorem yPC:(match_look_path_E.ok&&match_look_path_E.unaOk)=true:=by kernel_rfl
theorem yPD:zEN Tryz.prog match_look_path_E zB6 Tryz.f91.results.toList=true:=by kernel_rfl
end Go.Hx
