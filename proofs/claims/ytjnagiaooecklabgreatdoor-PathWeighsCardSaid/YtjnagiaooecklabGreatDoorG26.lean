/-
  Walks of functions of the program over an abstract layer, and the laws that they use: each contract says what the function computes, for every input that its conditions let by. No other condition.
-/
import Derived.Test.YtjnagiaooecklabGreatDoorProg
import Derived.Test.YtjnagiaooecklabGreatDoorG8
import Derived.Test.YtjnagiaooecklabGreatDoorG25
import Derived.Test.YtjnagiaooecklabGreatDoorG10
import Derived.Test.YtjnagiaooecklabGreatDoorG11
import Derived.Test.YtjnagiaooecklabGreatDoorG12
set_option linter.all false
section
/-
 The abstract code of functions of the program, printed by gen.py; each stands for the given one. No condition.
-/
namespace Go.Hx
open Go.Proofs
variable [Glob]
abbrev zGp : Nat := 51
abbrev zE2 : Nat := 107
abbrev zVy : HCode := .reg [⟨none, .alloc 2 0 24 [.nl 2]⟩,
  ⟨none, .alloc 3 1 25 [.v (.int .i64 0)]⟩] false []
abbrev zVz : HCode := .reg [⟨none, .val 6 (.mv (.t 0))⟩,
  ⟨none, .val 7 (.bld [.v (mkS [])] [(0, 1, .t 6)])⟩,
  ⟨none, .box 8 2 26 1 (.t 7)⟩,
  ⟨none, .val 4 (.mv (.t 8))⟩] false [.forget [6, 7, 8]]
abbrev zVA : HCode := .reg [⟨none, .val 9 (.mv (.t 4))⟩,
  ⟨none, .call (some 10) zBb [(.t 9, .i 2 26 1), (.c (iv 1), .v)]⟩,
  ⟨none, .sto (.t 2) 0 24 0 1 (.t 10)⟩] false [.forget [9, 10]]
abbrev zVB : HCode := .reg [⟨none, .val 11 (.mv (.t 4))⟩,
  ⟨none, .val 12 (.nilck (.t 11))⟩,
  ⟨none, .val 13 (.fldP (.t 12) 0)⟩,
  ⟨none, .val 14 (.ldB (.t 13) 2 26 0 1 false)⟩,
  ⟨none, .val 15 (.strs .neq (.t 14) (.c (sv [])))⟩,
  ⟨none, .val 16 (.mv (.t 15))⟩,
  ⟨some (16, false), .val 17 (.ldB (.t 2) 0 24 0 1 false)⟩,
  ⟨some (16, false), .call (some 18) zBQ [(.t 17, .v)]⟩,
  ⟨some (16, false), .val 19 (.ints .neq (.t 18) (.c (iv 0)))⟩,
  ⟨none, .val 20 (.pick (.t 16) (.c (bv true)) (.t 19))⟩] false [.forget [11, 12, 13, 14, 15, 16, 17, 18, 19]]
abbrev zVC : HCode := .reg [⟨none, .val 21 (.bld [] [])⟩,
  ⟨none, .val 22 (.mki zBG (.t 21))⟩,
  ⟨none, .pan (.t 22)⟩] false [.forget [21, 22]]
abbrev zVD : HCode := .reg [⟨none, .val 23 (.ldB (.t 2) 0 24 0 1 false)⟩,
  ⟨none, .sto (.t 2) 0 24 0 1 (.t 23)⟩,
  ⟨none, .sto (.t 3) 1 25 0 1 (.c (iv 0))⟩] false [.forget [23]]
abbrev zJC : HCode := zVy
abbrev zVE : HCode := (.seq zVz (.seq zVA (.seq (.seq zVB (.cond (.t 20) zVC .skip)) (.seq zVD .ret))))
abbrev zG6 : Env := { N := 24, Γ := [(24, 1), (25, 1), (26, 1)], L := 27, nfix := 0 }
abbrev zXr : List RSrc := [.cellB 2 0 24 0 1 false, .cellB 3 1 25 0 1 false]
abbrev zG7 : List CapB := [⟨2, 0, 24, [.nl 2]⟩, ⟨3, 1, 25, [.v (.int .i64 1)]⟩]
theorem zVF {base : Nat} {av : List AV} {r : RV} (hfo : zAC zG6 base av) (hres : (∃ x, r.res = .val x) ∨ ∃ xs, r.res = .tup xs) (hret : yHv Tryz.prog zE2 2)
  (hW : AVs.fits av → hwp Tryz.prog zJC (fun e F => e = .normal ∧ (∀ x ∈ zG7, F.getD x.i .un = .ptr x.j 0) ∧ hwp Tryz.prog zVE (yEv Tryz.prog base av zXr r zE2 zG7) (F.set 5 .un)) (F0 zG6 base av)) : Contract Tryz.prog zGp av r :=
 zOp (fn := Tryz.f51) (c0 := cdL (Tryz.f51.body.getD .skip)) (c1 := cdR (cdR (Tryz.f51.body.getD .skip))) (id := cdI (cdL (cdR (Tryz.f51.body.getD .skip)))) (ops := cdO (cdL (cdR (Tryz.f51.body.getD .skip)))) (by kernel_rfl) (by kernel_rfl) (by kernel_rfl) (by kernel_rfl) (by kernel_rfl) (by kernel_rfl) (g := zE2) (k := 5) (l := zG7) (by kernel_rfl) (nf := 2) (by kernel_rfl) (by kernel_rfl) (by kernel_rfl) (by kernel_rfl) hfo hres hret hW
end Go.Hx
end

section
/-
 The abstract code of functions of the program, printed by gen.py; each stands for the given one. No condition.
-/
namespace Go.Hx
open Go.Proofs
variable [Glob]
abbrev zFx : Nat := 11
abbrev zCu : Nat := 62
abbrev zDW : Nat := 53
abbrev zTP : HCode := .reg [⟨none, .val 0 (.mv (.c (.one (.nl 2))))⟩] false []
abbrev zTQ : HCode := .reg [⟨none, .val 1 (.bld [.v (.int .i64 0), .v (.int .i64 0)] [(1, 1, .c (iv 1))])⟩,
  ⟨none, .val 2 (.bld [.v (.int .i64 0), .v (mkS []), .v (mkS []), .v (.int .i64 0), .v (.int .i64 0), .nl 2] [(0, 1, .c (iv 10)), (3, 2, .t 1)])⟩,
  ⟨none, .val 3 (.bslF 6 [.t 2])⟩,
  ⟨none, .val 4 (.bld [.v (mkS []), .nl 6] [(1, 1, .t 3)])⟩,
  ⟨none, .val 5 (.bslF 2 [.t 4])⟩,
  ⟨none, .val 6 (.bld [.nl 2, .nl 1] [(0, 1, .t 5)])⟩,
  ⟨none, .val 7 (.bslF 2 [.t 6])⟩,
  ⟨none, .val 8 (.bld [.v (.int .i64 0), .v (mkS []), .v (mkS []), .v (.int .i64 0), .v (.int .i64 0), .nl 2] [(0, 1, .c (iv 13)), (5, 1, .t 7)])⟩,
  ⟨none, .val 9 (.bslF 6 [.t 8])⟩,
  ⟨none, .val 10 (.bld [.v (mkS []), .nl 6] [(0, 1, .c (sv [105, 116, 101, 109])), (1, 1, .t 9)])⟩,
  ⟨none, .val 11 (.bld [.v (.int .i64 0), .v (mkS []), .v (mkS []), .v (.int .i64 0), .v (.int .i64 0), .nl 2] [(0, 1, .c (iv 8)), (1, 1, .c (sv [116, 111])), (2, 1, .c (sv [116, 119, 111]))])⟩,
  ⟨none, .val 12 (.bslF 6 [.t 11])⟩,
  ⟨none, .val 13 (.bld [.v (mkS []), .nl 6] [(1, 1, .t 12)])⟩,
  ⟨none, .val 14 (.bslF 2 [.t 13])⟩,
  ⟨none, .val 15 (.bld [.nl 2, .nl 1] [(0, 1, .t 14)])⟩,
  ⟨none, .val 16 (.bslF 2 [.t 15])⟩,
  ⟨none, .val 17 (.bld [.v (.int .i64 0), .v (mkS []), .v (mkS []), .v (.int .i64 0), .v (.int .i64 0), .nl 2] [(0, 1, .c (iv 15)), (5, 1, .t 16)])⟩,
  ⟨none, .val 18 (.bslF 6 [.t 17])⟩,
  ⟨none, .val 19 (.bld [.v (mkS []), .nl 6] [(1, 1, .t 18)])⟩,
  ⟨none, .val 20 (.bslF 2 [.t 10, .t 19])⟩,
  ⟨none, .val 21 (.bslF 1 [.c (iv 3)])⟩,
  ⟨none, .val 22 (.bld [.nl 2, .nl 1] [(0, 1, .t 20), (1, 1, .t 21)])⟩,
  ⟨none, .val 23 (.bld [.v (.int .i64 0), .v (mkS []), .v (mkS []), .v (.int .i64 0), .v (.int .i64 0), .nl 2] [(0, 1, .c (iv 2)), (1, 1, .c (sv [116, 111, 112]))])⟩,
  ⟨none, .val 24 (.bslF 6 [.t 23])⟩,
  ⟨none, .val 25 (.bld [.v (mkS []), .nl 6] [(1, 1, .t 24)])⟩,
  ⟨none, .val 26 (.bslF 2 [.t 25])⟩,
  ⟨none, .val 27 (.bld [.nl 2, .nl 1] [(0, 1, .t 26)])⟩,
  ⟨none, .val 28 (.bslF 2 [.t 22, .t 27])⟩,
  ⟨none, .val 0 (.mv (.t 28))⟩] false [.forget [1, 2, 3, 4, 5, 6, 7, 8, 9, 10, 11, 12, 13, 14, 15, 16, 17, 18, 19, 20, 21, 22, 23, 24, 25, 26, 27, 28]]
abbrev zZD : HCode := (.seq zTP (.seq zTQ .ret))
abbrev zEX : Env := { N := 29, Γ := [], L := 29, nfix := 0 }
abbrev zVQ : List RSrc := [.tmp 0]
theorem zTR {base : Nat} {av : List AV} {r : RV} (hfo : zAC zEX base av) (hW : AVs.fits av → hwp Tryz.prog zZD (zCj zEX base av zVQ r) (F0 zEX base av)) (hov : ∀ x, r.res = .ov x → zB5 av = 0 := by intro x h; cases h <;> rfl) : Contract Tryz.prog zCu av r :=
 contract_of_wp (fn := Tryz.f62) (c := Tryz.f62.body.getD .skip) (by kernel_rfl) (by kernel_rfl) (by kernel_rfl) (by kernel_rfl) (by kernel_rfl) (by kernel_rfl) (by kernel_rfl) hfo hW hov
abbrev zL2 : HCode := .reg [⟨none, .val 0 (.mv (.c (bv false)))⟩] false []
abbrev zL3 : HCode := .reg [⟨none, .call (some 8) zCu []⟩,
  ⟨none, .call (some 9) zGi [(.t 8, .v)]⟩,
  ⟨none, .val 7 (.mv (.t 9))⟩,
  ⟨none, .val 10 (.ext 7 0)⟩,
  ⟨none, .val 11 (.ext 7 1)⟩,
  ⟨none, .val 1 (.mv (.t 10))⟩,
  ⟨none, .val 2 (.mv (.t 11))⟩] false [.forget [7, 8, 9, 10, 11]]
abbrev zL4 : HCode := .reg [⟨none, .val 13 (.mv (.t 1))⟩,
  ⟨none, .call (some 14) zGp [(.t 13, .v)]⟩,
  ⟨none, .val 12 (.mv (.t 14))⟩,
  ⟨none, .val 15 (.ext 12 0)⟩,
  ⟨none, .val 16 (.ext 12 1)⟩,
  ⟨none, .val 3 (.mv (.t 15))⟩,
  ⟨none, .val 4 (.mv (.t 16))⟩] false [.forget [12, 13, 14, 15, 16]]
abbrev zL5 : HCode := .reg [⟨none, .call (some 18) zCu []⟩,
  ⟨none, .val 19 (.idxA 2 (.t 18) (.c (iv 0)))⟩,
  ⟨none, .val 20 (.ldR (.t 19) 2 true)⟩,
  ⟨none, .call (some 21) zEc [(.t 20, .v)]⟩,
  ⟨none, .val 17 (.mv (.t 21))⟩,
  ⟨none, .val 22 (.ext 17 0)⟩,
  ⟨none, .val 23 (.ext 17 1)⟩,
  ⟨none, .alloc 5 0 57 [.v (.int .i64 0), .v (.int .i64 0), .v (.int .i64 0)]⟩,
  ⟨none, .sto (.t 5) 0 57 0 3 (.t 22)⟩,
  ⟨none, .val 6 (.mv (.t 23))⟩] false [.forget [17, 18, 19, 20, 21, 22, 23]]
abbrev zL6 : HCode := .reg [⟨none, .call (some 24) zCu []⟩,
  ⟨none, .call (some 25) zBQ [(.t 24, .v)]⟩,
  ⟨none, .val 26 (.ints .eql (.t 25) (.c (iv 0)))⟩,
  ⟨none, .val 27 (.mv (.t 26))⟩,
  ⟨some (27, true), .call (some 28) zBQ [(.c (.one (.nl 2)), .v)]⟩,
  ⟨some (27, true), .val 29 (.ints .eql (.t 28) (.c (iv 2)))⟩,
  ⟨none, .val 30 (.pick (.t 27) (.t 29) (.c (bv false)))⟩,
  ⟨none, .val 31 (.mv (.t 30))⟩,
  ⟨some (31, true), .val 32 (.mv (.t 2))⟩,
  ⟨some (31, true), .val 33 (.ints .eql (.t 32) (.c (iv 0)))⟩,
  ⟨none, .val 34 (.pick (.t 31) (.t 33) (.c (bv false)))⟩,
  ⟨none, .val 35 (.mv (.t 34))⟩,
  ⟨some (35, true), .val 36 (.mv (.t 4))⟩,
  ⟨some (35, true), .val 37 (.ints .eql (.t 36) (.c (iv 0)))⟩,
  ⟨none, .val 38 (.pick (.t 35) (.t 37) (.c (bv false)))⟩,
  ⟨none, .val 39 (.mv (.t 38))⟩,
  ⟨some (39, true), .val 40 (.mv (.t 6))⟩,
  ⟨some (39, true), .val 41 (.ints .eql (.t 40) (.c (iv 0)))⟩,
  ⟨none, .val 42 (.pick (.t 39) (.t 41) (.c (bv false)))⟩,
  ⟨none, .val 43 (.mv (.t 42))⟩,
  ⟨some (43, true), .val 44 (.mv (.t 1))⟩,
  ⟨some (43, true), .val 45 (.strs .eql (.t 44) (.c (sv [105, 116, 101, 109, 58, 110, 111, 116, 40, 42, 58, 108, 97, 115, 116, 40, 48, 110, 43, 49, 41, 41, 32, 43, 32, 42, 58, 104, 97, 115, 40, 42, 91, 116, 111, 126, 61, 34, 116, 119, 111, 34, 93, 41, 44, 32, 42, 35, 116, 111, 112])))⟩,
  ⟨none, .val 46 (.pick (.t 43) (.t 45) (.c (bv false)))⟩,
  ⟨none, .val 47 (.mv (.t 46))⟩,
  ⟨some (47, true), .val 48 (.mv (.t 3))⟩,
  ⟨some (47, true), .call (some 49) zCu []⟩,
  ⟨some (47, true), .call (some 50) zBX [(.t 48, .v), (.t 49, .v)]⟩,
  ⟨none, .val 51 (.pick (.t 47) (.t 50) (.c (bv false)))⟩,
  ⟨none, .val 52 (.mv (.t 51))⟩,
  ⟨some (52, true), .val 53 (.ldB (.t 5) 0 57 0 3 true)⟩,
  ⟨some (52, true), .val 54 (.bld [.v (.int .i64 0), .v (.int .i64 0), .v (.int .i64 0)] [(1, 1, .c (iv 2)), (2, 1, .c (iv 1))])⟩,
  ⟨some (52, true), .val 55 (.steq false [0, 0, 0] (.t 53) (.t 54))⟩,
  ⟨none, .val 56 (.pick (.t 52) (.t 55) (.c (bv false)))⟩,
  ⟨none, .val 0 (.mv (.t 56))⟩] false [.forget [24, 25, 26, 27, 28, 29, 30, 31, 32, 33, 34, 35, 36, 37, 38, 39, 40, 41, 42, 43, 44, 45, 46, 47, 48, 49, 50, 51, 52, 53, 54, 55, 56]]
abbrev zTS : HCode := (.seq zL2 (.seq zL3 (.seq zL4 (.seq zL5 (.seq zL6 .ret)))))
abbrev zDj : Env := { N := 57, Γ := [(57, 3)], L := 60, nfix := 0 }
abbrev zOJ : List RSrc := [.tmp 0]
theorem zL7 {base : Nat} {av : List AV} {r : RV} (hfo : zAC zDj base av) (hW : AVs.fits av → hwp Tryz.prog zTS (zCj zDj base av zOJ r) (F0 zDj base av)) (hov : ∀ x, r.res = .ov x → zB5 av = 0 := by intro x h; cases h <;> rfl) : Contract Tryz.prog zDW av r :=
 contract_of_wp (fn := Tryz.f53) (c := Tryz.f53.body.getD .skip) (by kernel_rfl) (by kernel_rfl) (by kernel_rfl) (by kernel_rfl) (by kernel_rfl) (by kernel_rfl) (by kernel_rfl) hfo hW hov
abbrev zJe : HCode := .reg [⟨none, .val 1 (.boxF (.t 0))⟩,
  ⟨none, .val 2 (.mv (.c (bv false)))⟩] false []
abbrev zJf : HCode := .reg [⟨none, .val 8 (.ldR (.t 1) 2 true)⟩,
  ⟨none, .call (some 9) zEc [(.t 8, .v)]⟩,
  ⟨none, .val 7 (.mv (.t 9))⟩,
  ⟨none, .val 10 (.ext 7 0)⟩,
  ⟨none, .val 11 (.ext 7 1)⟩,
  ⟨none, .alloc 3 0 30 [.v (.int .i64 0), .v (.int .i64 0), .v (.int .i64 0)]⟩,
  ⟨none, .sto (.t 3) 0 30 0 3 (.t 10)⟩,
  ⟨none, .val 4 (.mv (.t 11))⟩] false [.forget [7, 8, 9, 10, 11]]
abbrev zJg : HCode := .reg [⟨none, .val 12 (.ldR (.t 1) 2 true)⟩,
  ⟨none, .val 13 (.bslF 2 [.t 12])⟩,
  ⟨none, .call (some 14) zDP [(.t 13, .v)]⟩,
  ⟨none, .val 5 (.mv (.t 14))⟩] false [.forget [12, 13, 14]]
abbrev zJh : HCode := .reg [⟨none, .alloc 6 1 33 [.v (.int .i64 0), .v (.int .i64 0), .v (.int .i64 0)]⟩] false []
abbrev zJi : HCode := .reg [⟨none, .val 15 (.mv (.t 5))⟩,
  ⟨none, .val 16 (.ints .eql (.t 15) (.c (iv 0)))⟩] false [.forget [15]]
abbrev zJj : HCode := .reg [⟨none, .val 17 (.ldR (.t 1) 2 true)⟩,
  ⟨none, .call (some 18) zBp [(.t 17, .v)]⟩,
  ⟨none, .sto (.t 6) 1 33 0 3 (.t 18)⟩] false [.forget [17, 18]]
abbrev zJk : HCode := .reg [⟨none, .call (some 19) zDW []⟩,
  ⟨none, .val 20 (.mv (.t 19))⟩,
  ⟨some (20, true), .val 21 (.mv (.t 4))⟩,
  ⟨some (20, true), .val 22 (.mv (.t 5))⟩,
  ⟨some (20, true), .val 23 (.ints .eql (.t 21) (.t 22))⟩,
  ⟨none, .val 24 (.pick (.t 20) (.t 23) (.c (bv false)))⟩,
  ⟨none, .val 25 (.mv (.t 24))⟩,
  ⟨some (25, true), .val 26 (.ldB (.t 3) 0 30 0 3 true)⟩,
  ⟨some (25, true), .val 27 (.ldB (.t 6) 1 33 0 3 true)⟩,
  ⟨some (25, true), .val 28 (.steq false [0, 0, 0] (.t 26) (.t 27))⟩,
  ⟨none, .val 29 (.pick (.t 25) (.t 28) (.c (bv false)))⟩,
  ⟨none, .val 2 (.mv (.t 29))⟩] false [.forget [19, 20, 21, 22, 23, 24, 25, 26, 27, 28, 29]]
abbrev zQE : HCode := (.seq zJe (.seq zJf (.seq zJg (.seq zJh (.seq (.seq zJi (.cond (.t 16) zJj .skip)) (.seq zJk .ret))))))
abbrev zBY : Env := { N := 30, Γ := [(30, 3), (33, 3)], L := 36, nfix := 0 }
abbrev zL8 : List RSrc := [.tmp 2]
theorem zFy {base : Nat} {av : List AV} {r : RV} (hfo : zAC zBY base av) (hW : AVs.fits av → hwp Tryz.prog zQE (zCj zBY base av zL8 r) (F0 zBY base av)) (hov : ∀ x, r.res = .ov x → zB5 av = 0 := by intro x h; cases h <;> rfl) : Contract Tryz.prog zFx av r :=
 contract_of_wp (fn := Tryz.f11) (c := Tryz.f11.body.getD .skip) (by kernel_rfl) (by kernel_rfl) (by kernel_rfl) (by kernel_rfl) (by kernel_rfl) (by kernel_rfl) (by kernel_rfl) hfo hW hov
end Go.Hx
end
