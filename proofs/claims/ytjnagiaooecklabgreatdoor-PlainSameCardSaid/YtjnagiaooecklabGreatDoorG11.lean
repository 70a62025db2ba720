/-
  Walks of functions of the program over an abstract layer, and the laws that they use: each contract says what the function computes, for every input that its conditions let by. No other condition.
-/
import Derived.Test.YtjnagiaooecklabGreatDoorProg
import Derived.Test.YtjnagiaooecklabGreatDoorG9
import Derived.Test.YtjnagiaooecklabGreatDoorG10
set_option linter.all false
section
/-
 The abstract code of functions of the program, printed by gen.py; each stands for the given one. No condition.
-/
namespace Go.Hx
open Go.Proofs
variable [Glob]
abbrev zEl : Nat := 24
abbrev zCK : Nat := 22
abbrev zDr : Nat := 25
abbrev zBY : Nat := 122
abbrev zA8 : Nat := 182
abbrev zBZ : Nat := 181
abbrev zA9 : Nat := 236
abbrev zFq : Nat := 180
abbrev zCx : Nat := 65
abbrev zAN : Nat := 67
abbrev zBS : Nat := 125
abbrev zA2 : Nat := 127
abbrev zEm : Nat := 69
abbrev zHk : Nat := 121
abbrev zCY : Nat := 102
abbrev zBj : Nat := 66
abbrev zB0 : Nat := 124
abbrev zB1 : Nat := 126
abbrev zCZ : Nat := 123
abbrev zBA : Nat := 78
abbrev zKk : Nat := 81
abbrev zA3 : Nat := 85
abbrev zKl : HCode := oN [⟨none, .nlo 2 zHt 1⟩]
abbrev zKm : HCode := oR [oV 3 (.mv (.t 0)),
  ⟨none, .isn 4 false (.t 3)⟩] [3]
abbrev zKn : HCode := oN [⟨none, .nlo 2 zHt 1⟩]
abbrev zKo : HCode := oR [⟨none, .bsl 5 zHt 1 []⟩,
  oV 6 (.mv (.t 0)),
  ⟨none, .app 7 zHt 1 (.t 5) (.t 6)⟩,
  ⟨none, .mvo 2 7⟩] [5, 6, 7]
abbrev zNt : HCode := (.seq zKl (.seq (.seq zKm (.cond (.t 4) (.seq zKn .ret) .skip)) (.seq zKo .ret)))
abbrev zFh : Env := { N := 8, Γ := [], L := 8, nfix := 0 }
abbrev slices_Clone_int_R : List RSrc := [.tmp 2]
theorem zKp : zCf Tryz.prog zCY zNt zFh slices_Clone_int_R := by kernel_rfl
abbrev zKq : HCode := oN [oV 4 (.mv (.c (bv false)))]
abbrev zKr : HCode := oR [oV 6 (.mv (.t 0)),
  oV 7 (.len false (.t 6)),
  oV 8 (.mv (.t 1)),
  oV 9 (.len false (.t 8)),
  oV 10 (.ints .neq (.t 7) (.t 9))] [6, 7, 8, 9]
abbrev zKs : HCode := oN [oV 4 (.mv (.c (bv false)))]
abbrev zKt : HCode := oR [oV 11 (.mv (.t 0)),
  oV 12 (.len false (.t 11)),
  oV 13 (.mv (.c (iv 0)))] [11]
abbrev zKu : HCode := oN [oV 14 (.ints .lss (.t 13) (.t 12))]
abbrev zKv : HCode := oR [oV 15 (.mv (.t 13)),
  oV 5 (.mv (.t 15))] [15]
abbrev zKw : HCode := oQ [oD 0 false (oV 16 (.mv (.t 0))),
  oD 1 false (oV 17 (.mv (.t 5))),
  oD 2 false (oV 18 (.idxA 1 (.t 16) (.t 17))),
  oD 3 false (oV 19 (.ldR (.t 18) 1 false)),
  oD 4 false (oV 20 (.mv (.t 1))),
  oD 5 false (oV 21 (.mv (.t 5))),
  oD 6 false (oV 22 (.idxA 1 (.t 20) (.t 21))),
  oD 7 false (oV 23 (.ldR (.t 22) 1 false)),
  oD 8 false (oV 24 (.ints .neq (.t 19) (.t 23)))] [16, 17, 18, 19, 20, 21, 22, 23]
abbrev zKx : HCode := oN [oV 4 (.mv (.c (bv false)))]
abbrev zKy : HCode := oR [oV 25 (.ints .add (.t 13) (.c (iv 1))),
  oV 13 (.mv (.t 25))] [25]
abbrev zKz : HCode := oN [oV 4 (.mv (.c (bv true)))]
abbrev zNu : HCode := (.seq zKq (.seq (.seq zKr (.cond (.t 10) (.seq zKs .ret) .skip)) (.seq (.seq zKt (.block 0 (.loop (.seq zKu (.seq (.cond (.t 14) .skip (.exit 0)) (.seq (.block 1 (.seq zKv (.seq zKw (.cond (.t 24) (.seq zKx .ret) .skip)))) zKy)))))) (.seq zKz .ret))))
abbrev zFi : Env := { N := 26, Γ := [], L := 26, nfix := 0 }
abbrev slices_Equal_int_R : List RSrc := [.tmp 4]
theorem zKA : zCf Tryz.prog zCZ zNu zFi slices_Equal_int_R := by kernel_rfl
abbrev zLE : HCode := oN [oV 2 (.boxF (.t 0)),
  oV 3 (.boxF (.t 1)),
  oV 4 (.mv (.c (bv false)))]
abbrev zLF : HCode := oR [oV 5 (.fldR (.t 2) 0 1),
  oV 6 (.ldR (.t 5) 1 false),
  oV 7 (.fldR (.t 3) 0 1),
  oV 8 (.ldR (.t 7) 1 false),
  oV 9 (.ints .eql (.t 6) (.t 8)),
  oV 10 (.mv (.t 9)),
  oG 10 true 11 (.fldR (.t 2) 1 1),
  oG 10 true 12 (.ldR (.t 11) 1 false),
  oG 10 true 13 (.fldR (.t 3) 1 1),
  oG 10 true 14 (.ldR (.t 13) 1 false),
  oG 10 true 15 (.strs .eql (.t 12) (.t 14)),
  oV 16 (.pick (.t 10) (.t 15) (.c (bv false))),
  oV 17 (.mv (.t 16)),
  oG 17 true 18 (.fldR (.t 2) 2 1),
  oG 17 true 19 (.ldR (.t 18) 1 false),
  oG 17 true 20 (.fldR (.t 3) 2 1),
  oG 17 true 21 (.ldR (.t 20) 1 false),
  oG 17 true 22 (.strs .eql (.t 19) (.t 21)),
  oV 23 (.pick (.t 17) (.t 22) (.c (bv false))),
  oV 24 (.mv (.t 23)),
  oG 24 true 25 (.fldR (.t 2) 3 2),
  oG 24 true 26 (.ldR (.t 25) 2 true),
  oG 24 true 27 (.fldR (.t 3) 3 2),
  oG 24 true 28 (.ldR (.t 27) 2 true),
  oG 24 true 29 (.steq false [0, 0] (.t 26) (.t 28)),
  oV 30 (.pick (.t 24) (.t 29) (.c (bv false))),
  oV 31 (.mv (.t 30)),
  oG 31 true 32 (.fldR (.t 2) 5 1),
  oG 31 true 33 (.ldR (.t 32) 1 false),
  oG 31 true 34 (.fldR (.t 3) 5 1),
  oG 31 true 35 (.ldR (.t 34) 1 false),
  ⟨some (31, true), .call (some 36) zBj [(.t 33, .v), (.t 35, .v), (.f zAN, .v)]⟩,
  oV 37 (.pick (.t 31) (.t 36) (.c (bv false))),
  oV 4 (.mv (.t 37))] [5, 6, 7, 8, 9, 10, 11, 12, 13, 14, 15, 16, 17, 18, 19, 20, 21, 22, 23, 24, 25, 26, 27, 28, 29, 30, 31, 32, 33, 34, 35, 36, 37]
abbrev zPu : HCode := (.seq zLE (.seq zLF .ret))
abbrev zGe : Env := { N := 38, Γ := [], L := 38, nfix := 0 }
abbrev plain_sameTests_R : List RSrc := [.tmp 4]
theorem zLG : zCf Tryz.prog zA2 zPu zGe plain_sameTests_R := by kernel_rfl
abbrev zLH : HCode := oN [oV 2 (.boxF (.t 0)),
  oV 3 (.boxF (.t 1)),
  oV 4 (.mv (.c (bv false)))]
abbrev zLI : HCode := oR [oV 5 (.fldR (.t 2) 1 1),
  oV 6 (.ldR (.t 5) 1 false),
  oV 7 (.fldR (.t 3) 1 1),
  oV 8 (.ldR (.t 7) 1 false),
  oC 9 zCZ [(.t 6, .v), (.t 8, .v)],
  oV 10 (.mv (.t 9)),
  oG 10 true 11 (.fldR (.t 2) 0 1),
  oG 10 true 12 (.ldR (.t 11) 1 false),
  oG 10 true 13 (.fldR (.t 3) 0 1),
  oG 10 true 14 (.ldR (.t 13) 1 false),
  ⟨some (10, true), .call (some 15) zB0 [(.t 12, .v), (.t 14, .v), (.f zBS, .v)]⟩,
  oV 16 (.pick (.t 10) (.t 15) (.c (bv false))),
  oV 4 (.mv (.t 16))] [5, 6, 7, 8, 9, 10, 11, 12, 13, 14, 15, 16]
abbrev zPv : HCode := (.seq zLH (.seq zLI .ret))
abbrev zGf : Env := { N := 17, Γ := [], L := 17, nfix := 0 }
abbrev plain_samePaths_R : List RSrc := [.tmp 4]
theorem zLJ : zCf Tryz.prog zAN zPv zGf plain_samePaths_R := by kernel_rfl
abbrev zJy : HCode := oN [oV 2 (.boxF (.t 0)),
  oV 3 (.boxF (.t 1)),
  oV 4 (.mv (.c (bv false)))]
abbrev zJz : HCode := oR [oV 5 (.fldR (.t 2) 0 1),
  oV 6 (.ldR (.t 5) 1 false),
  oV 7 (.fldR (.t 3) 0 1),
  oV 8 (.ldR (.t 7) 1 false),
  oV 9 (.strs .eql (.t 6) (.t 8)),
  oV 10 (.mv (.t 9)),
  oG 10 true 11 (.fldR (.t 2) 1 1),
  oG 10 true 12 (.ldR (.t 11) 1 false),
  oG 10 true 13 (.fldR (.t 3) 1 1),
  oG 10 true 14 (.ldR (.t 13) 1 false),
  ⟨some (10, true), .call (some 15) zB1 [(.t 12, .v), (.t 14, .v), (.f zA2, .v)]⟩,
  oV 16 (.pick (.t 10) (.t 15) (.c (bv false))),
  oV 4 (.mv (.t 16))] [5, 6, 7, 8, 9, 10, 11, 12, 13, 14, 15, 16]
abbrev zMG : HCode := (.seq zJy (.seq zJz .ret))
abbrev zEO : Env := { N := 17, Γ := [], L := 17, nfix := 0 }
abbrev plain_samePaths_1_R : List RSrc := [.tmp 4]
theorem zJA : zCf Tryz.prog zBS zMG zEO plain_samePaths_1_R := by kernel_rfl
abbrev zGg : HCode := oN [oV 6 (.mv (.c (bv false)))]
abbrev zGh : HCode := oR [oV 10 (.mv (.t 0)),
  oV 11 (.len false (.t 10)),
  oV 12 (.mv (.t 1)),
  oV 13 (.len false (.t 12)),
  oV 14 (.ints .neq (.t 11) (.t 13))] [10, 11, 12, 13]
abbrev zGi : HCode := oN [oV 6 (.mv (.c (bv false)))]
abbrev zGj : HCode := oN [oV 15 (.mv (.t 0)),
  oV 16 (.len false (.t 15)),
  oV 17 (.mv (.c (iv 0)))]
abbrev zGk : HCode := oN [oV 18 (.ints .lss (.t 17) (.t 16))]
abbrev zGl : HCode := oR [oV 19 (.mv (.t 17)),
  oV 20 (.idxA 2 (.t 15) (.t 17)),
  oV 21 (.ldR (.t 20) 2 true),
  ⟨none, .alloc 8 0 32 [.nl 2, .nl 1]⟩,
  oV 7 (.mv (.t 19)),
  ⟨none, .sto (.t 8) 0 32 0 2 (.t 21)⟩] [19, 20, 21]
abbrev zGm : HCode := oR [oV 22 (.mv (.t 1)),
  oV 23 (.mv (.t 7)),
  oV 24 (.idxA 2 (.t 22) (.t 23)),
  oV 25 (.ldR (.t 24) 2 true),
  ⟨none, .alloc 9 1 34 [.nl 2, .nl 1]⟩,
  ⟨none, .sto (.t 9) 1 34 0 2 (.t 25)⟩] [22, 23, 24, 25]
abbrev zGn : HCode := oR [oV 26 (.mv (.t 2)),
  oV 27 (.ldB (.t 8) 0 32 0 2 true),
  oV 28 (.ldB (.t 9) 1 34 0 2 true),
  ⟨none, .callv (some 29) (.t 26) [(.t 27, .v), (.t 28, .v)]⟩,
  oV 30 (.not (.t 29))] [26, 27, 28, 29]
abbrev zGo : HCode := oN [oV 6 (.mv (.c (bv false)))]
abbrev zGp : HCode := oR [oV 31 (.ints .add (.t 17) (.c (iv 1))),
  oV 17 (.mv (.t 31))] [31]
abbrev zFr : HCode := oN [oV 6 (.mv (.c (bv true)))]
abbrev zIL : HCode := (.seq zGg (.seq (.seq zGh (.cond (.t 14) (.seq zGi .ret) .skip)) (.seq (.seq zGj (.block 0 (.loop (.seq zGk (.seq (.cond (.t 18) .skip (.exit 0)) (.seq (.block 1 (.seq zGl (.seq zGm (.seq zGn (.cond (.t 30) (.seq zGo .ret) .skip))))) zGp)))))) (.seq zFr .ret))))
abbrev zDs : Env := { N := 32, Γ := [(32, 2), (34, 2)], L := 36, nfix := 0 }
abbrev slices_EqualFunc_Path_R : List RSrc := [.tmp 6]
theorem zGq : zCf Tryz.prog zBj zIL zDs slices_EqualFunc_Path_R := by kernel_rfl
abbrev zGr : HCode := oN [oV 6 (.mv (.c (bv false)))]
abbrev zGs : HCode := oR [oV 10 (.mv (.t 0)),
  oV 11 (.len false (.t 10)),
  oV 12 (.mv (.t 1)),
  oV 13 (.len false (.t 12)),
  oV 14 (.ints .neq (.t 11) (.t 13))] [10, 11, 12, 13]
abbrev zGt : HCode := oN [oV 6 (.mv (.c (bv false)))]
abbrev zGu : HCode := oN [oV 15 (.mv (.t 0)),
  oV 16 (.len false (.t 15)),
  oV 17 (.mv (.c (iv 0)))]
abbrev zGv : HCode := oN [oV 18 (.ints .lss (.t 17) (.t 16))]
abbrev zGw : HCode := oR [oV 19 (.mv (.t 17)),
  oV 20 (.idxA 2 (.t 15) (.t 17)),
  oV 21 (.ldR (.t 20) 2 true),
  ⟨none, .alloc 8 0 32 [.v (mkS []), .nl 6]⟩,
  oV 7 (.mv (.t 19)),
  ⟨none, .sto (.t 8) 0 32 0 2 (.t 21)⟩] [19, 20, 21]
abbrev zGx : HCode := oR [oV 22 (.mv (.t 1)),
  oV 23 (.mv (.t 7)),
  oV 24 (.idxA 2 (.t 22) (.t 23)),
  oV 25 (.ldR (.t 24) 2 true),
  ⟨none, .alloc 9 1 34 [.v (mkS []), .nl 6]⟩,
  ⟨none, .sto (.t 9) 1 34 0 2 (.t 25)⟩] [22, 23, 24, 25]
abbrev zGy : HCode := oR [oV 26 (.mv (.t 2)),
  oV 27 (.ldB (.t 8) 0 32 0 2 true),
  oV 28 (.ldB (.t 9) 1 34 0 2 true),
  ⟨none, .callv (some 29) (.t 26) [(.t 27, .v), (.t 28, .v)]⟩,
  oV 30 (.not (.t 29))] [26, 27, 28, 29]
abbrev zGz : HCode := oN [oV 6 (.mv (.c (bv false)))]
abbrev zGA : HCode := oR [oV 31 (.ints .add (.t 17) (.c (iv 1))),
  oV 17 (.mv (.t 31))] [31]
abbrev zFs : HCode := oN [oV 6 (.mv (.c (bv true)))]
abbrev zIM : HCode := (.seq zGr (.seq (.seq zGs (.cond (.t 14) (.seq zGt .ret) .skip)) (.seq (.seq zGu (.block 0 (.loop (.seq zGv (.seq (.cond (.t 18) .skip (.exit 0)) (.seq (.block 1 (.seq zGw (.seq zGx (.seq zGy (.cond (.t 30) (.seq zGz .ret) .skip))))) zGA)))))) (.seq zFs .ret))))
abbrev zDt : Env := { N := 32, Γ := [(32, 2), (34, 2)], L := 36, nfix := 0 }
abbrev slices_EqualFunc_Step_R : List RSrc := [.tmp 6]
theorem zGB : zCf Tryz.prog zB0 zIM zDt slices_EqualFunc_Step_R := by kernel_rfl
abbrev zGC : HCode := oN [oV 6 (.mv (.c (bv false)))]
abbrev zGD : HCode := oR [oV 10 (.mv (.t 0)),
  oV 11 (.len false (.t 10)),
  oV 12 (.mv (.t 1)),
  oV 13 (.len false (.t 12)),
  oV 14 (.ints .neq (.t 11) (.t 13))] [10, 11, 12, 13]
abbrev zGE : HCode := oN [oV 6 (.mv (.c (bv false)))]
abbrev zGF : HCode := oN [oV 15 (.mv (.t 0)),
  oV 16 (.len false (.t 15)),
  oV 17 (.mv (.c (iv 0)))]
abbrev zGG : HCode := oN [oV 18 (.ints .lss (.t 17) (.t 16))]
abbrev zGH : HCode := oR [oV 19 (.mv (.t 17)),
  oV 20 (.idxA 6 (.t 15) (.t 17)),
  oV 21 (.ldR (.t 20) 6 true),
  ⟨none, .alloc 8 0 32 [.v (.int .i64 0), .v (mkS []), .v (mkS []), .v (.int .i64 0), .v (.int .i64 0), .nl 2]⟩,
  oV 7 (.mv (.t 19)),
  ⟨none, .sto (.t 8) 0 32 0 6 (.t 21)⟩] [19, 20, 21]
abbrev zGI : HCode := oR [oV 22 (.mv (.t 1)),
  oV 23 (.mv (.t 7)),
  oV 24 (.idxA 6 (.t 22) (.t 23)),
  oV 25 (.ldR (.t 24) 6 true),
  ⟨none, .alloc 9 1 38 [.v (.int .i64 0), .v (mkS []), .v (mkS []), .v (.int .i64 0), .v (.int .i64 0), .nl 2]⟩,
  ⟨none, .sto (.t 9) 1 38 0 6 (.t 25)⟩] [22, 23, 24, 25]
abbrev zGJ : HCode := oR [oV 26 (.mv (.t 2)),
  oV 27 (.ldB (.t 8) 0 32 0 6 true),
  oV 28 (.ldB (.t 9) 1 38 0 6 true),
  ⟨none, .callv (some 29) (.t 26) [(.t 27, .v), (.t 28, .v)]⟩,
  oV 30 (.not (.t 29))] [26, 27, 28, 29]
abbrev zGK : HCode := oN [oV 6 (.mv (.c (bv false)))]
abbrev zGL : HCode := oR [oV 31 (.ints .add (.t 17) (.c (iv 1))),
  oV 17 (.mv (.t 31))] [31]
abbrev zFt : HCode := oN [oV 6 (.mv (.c (bv true)))]
abbrev zIN : HCode := (.seq zGC (.seq (.seq zGD (.cond (.t 14) (.seq zGE .ret) .skip)) (.seq (.seq zGF (.block 0 (.loop (.seq zGG (.seq (.cond (.t 18) .skip (.exit 0)) (.seq (.block 1 (.seq zGH (.seq zGI (.seq zGJ (.cond (.t 30) (.seq zGK .ret) .skip))))) zGL)))))) (.seq zFt .ret))))
abbrev zDu : Env := { N := 32, Γ := [(32, 6), (38, 6)], L := 44, nfix := 0 }
abbrev slices_EqualFunc_Test_R : List RSrc := [.tmp 6]
theorem zGM : zCf Tryz.prog zB1 zIN zDu slices_EqualFunc_Test_R := by kernel_rfl
abbrev zGN : HCode := oN [oV 3 (.boxF (.t 1)),
  ⟨none, .nlo 4 zBA 2⟩]
abbrev zGO : HCode := oN [⟨none, .nlo 5 zBA 2⟩]
abbrev zGP : HCode := oN [oV 8 (.mv (.t 0)),
  oV 9 (.len false (.t 8)),
  oV 10 (.mv (.c (iv 0)))]
abbrev zGQ : HCode := oN [oV 11 (.ints .lss (.t 10) (.t 9))]
abbrev zGR : HCode := .reg [oV 12 (.idxA 2 (.t 8) (.t 10)),
  oV 13 (.ldR (.t 12) 2 true),
  ⟨none, .alloc 7 0 24 [.nl 2, .nl 1]⟩,
  ⟨none, .sto (.t 7) 0 24 0 2 (.t 13)⟩] false [.frz 0 24 2, .forget [12, 13]]
abbrev zGS : HCode := oR [oV 14 (.mv (.t 5)),
  oV 15 (.mkf zA8 [.t 3, .t 7]),
  oC 16 zA0 [(.t 14, .v), (.t 15, .v)],
  oV 17 (.not (.t 16))] [14, 15, 16]
abbrev zGT : HCode := oR [⟨none, .mvo 18 5⟩,
  oV 19 (.ldR (.t 7) 2 true),
  oV 20 (.bslF 2 [.t 19]),
  ⟨none, .app 21 zBA 2 (.t 18) (.t 20)⟩,
  ⟨none, .mvo 5 21⟩] [18, 19, 20, 21]
abbrev zGU : HCode := oR [oV 22 (.ints .add (.t 10) (.c (iv 1))),
  oV 10 (.mv (.t 22))] [22]
abbrev zGV : HCode := oR [⟨none, .mvo 23 5⟩,
  ⟨none, .mvo 4 23⟩] [23]
abbrev zIO : HCode := (.seq zGN (.seq zGO (.seq (.seq zGP (.block 0 (.loop (.seq zGQ (.seq (.cond (.t 11) .skip (.exit 0)) (.seq (.block 1 (.seq zGR (.seq zGS (.cond (.t 17) zGT .skip)))) zGU)))))) (.seq zGV .ret))))
abbrev zDv : Env := { N := 24, Γ := [(24, 2)], L := 26, nfix := 0 }
abbrev plain_firsts_api_Path_R : List RSrc := [.tmp 4]
theorem zGW : zCf Tryz.prog zBY zIO zDv plain_firsts_api_Path_R := by kernel_rfl
abbrev zEU : HCode := oN [oV 3 (.boxF (.t 0)),
  oV 4 (.mv (.c (bv false)))]
abbrev zEV : HCode := oR [oV 5 (.ldR (.t 1) 1 false),
  oV 6 (.ldR (.t 2) 2 true),
  oV 7 (.ldR (.t 3) 2 true),
  ⟨none, .callv (some 8) (.t 5) [(.t 6, .v), (.t 7, .v)]⟩,
  oV 4 (.mv (.t 8))] [5, 6, 7, 8]
abbrev zHl : HCode := (.seq zEU (.seq zEV .ret))
abbrev zCL : Env := { N := 9, Γ := [], L := 9, nfix := 0 }
abbrev plain_firsts_api_Path_1_R : List RSrc := [.tmp 4]
theorem zEW : zCf Tryz.prog zA8 zHl zCL plain_firsts_api_Path_1_R := by kernel_rfl
abbrev zGX : HCode := oN [oV 3 (.boxF (.t 1)),
  ⟨none, .nlo 4 zA3 6⟩]
abbrev zGY : HCode := oN [⟨none, .nlo 5 zA3 6⟩]
abbrev zGZ : HCode := oN [oV 8 (.mv (.t 0)),
  oV 9 (.len false (.t 8)),
  oV 10 (.mv (.c (iv 0)))]
abbrev zG0 : HCode := oN [oV 11 (.ints .lss (.t 10) (.t 9))]
abbrev zG1 : HCode := .reg [oV 12 (.idxA 6 (.t 8) (.t 10)),
  oV 13 (.ldR (.t 12) 6 true),
  ⟨none, .alloc 7 0 24 [.v (.int .i64 0), .v (mkS []), .v (mkS []), .v (.int .i64 0), .v (.int .i64 0), .nl 2]⟩,
  ⟨none, .sto (.t 7) 0 24 0 6 (.t 13)⟩] false [.frz 0 24 6, .forget [12, 13]]
abbrev zG2 : HCode := oR [oV 14 (.mv (.t 5)),
  oV 15 (.mkf zA9 [.t 3, .t 7]),
  oC 16 zA1 [(.t 14, .v), (.t 15, .v)],
  oV 17 (.not (.t 16))] [14, 15, 16]
abbrev zG3 : HCode := oR [⟨none, .mvo 18 5⟩,
  oV 19 (.ldR (.t 7) 6 true),
  oV 20 (.bslF 6 [.t 19]),
  ⟨none, .app 21 zA3 6 (.t 18) (.t 20)⟩,
  ⟨none, .mvo 5 21⟩] [18, 19, 20, 21]
abbrev zG4 : HCode := oR [oV 22 (.ints .add (.t 10) (.c (iv 1))),
  oV 10 (.mv (.t 22))] [22]
abbrev zG5 : HCode := oR [⟨none, .mvo 23 5⟩,
  ⟨none, .mvo 4 23⟩] [23]
abbrev zIP : HCode := (.seq zGX (.seq zGY (.seq (.seq zGZ (.block 0 (.loop (.seq zG0 (.seq (.cond (.t 11) .skip (.exit 0)) (.seq (.block 1 (.seq zG1 (.seq zG2 (.cond (.t 17) zG3 .skip)))) zG4)))))) (.seq zG5 .ret))))
abbrev zDw : Env := { N := 24, Γ := [(24, 6)], L := 30, nfix := 0 }
abbrev plain_firsts_api_Test_R : List RSrc := [.tmp 4]
theorem zG6 : zCf Tryz.prog zBZ zIP zDw plain_firsts_api_Test_R := by kernel_rfl
abbrev zEX : HCode := oN [oV 3 (.boxF (.t 0)),
  oV 4 (.mv (.c (bv false)))]
abbrev zEY : HCode := oR [oV 5 (.ldR (.t 1) 1 false),
  oV 6 (.ldR (.t 2) 6 true),
  oV 7 (.ldR (.t 3) 6 true),
  ⟨none, .callv (some 8) (.t 5) [(.t 6, .v), (.t 7, .v)]⟩,
  oV 4 (.mv (.t 8))] [5, 6, 7, 8]
abbrev zHm : HCode := (.seq zEX (.seq zEY .ret))
abbrev zCM : Env := { N := 9, Γ := [], L := 9, nfix := 0 }
abbrev plain_firsts_api_Test_1_R : List RSrc := [.tmp 4]
theorem zEZ : zCf Tryz.prog zA9 zHm zCM plain_firsts_api_Test_1_R := by kernel_rfl
abbrev zQj : HCode := oN [oV 1 (.boxF (.t 0)),
  oV 2 (.mv (.c (.one (.v (.pointer none)))))]
abbrev zQk : HCode := oR [oV 3 (.fldR (.t 1) 5 1),
  oV 4 (.ldR (.t 3) 1 false),
  oV 5 (.len false (.t 4)),
  oV 6 (.ints .neq (.t 5) (.c (iv 1))),
  oV 7 (.mv (.t 6)),
  oG 7 false 8 (.fldR (.t 1) 5 1),
  oG 7 false 9 (.ldR (.t 8) 1 false),
  oG 7 false 10 (.idxA 2 (.t 9) (.c (iv 0))),
  oG 7 false 11 (.fldR (.t 10) 0 1),
  oG 7 false 12 (.ldR (.t 11) 1 false),
  oG 7 false 13 (.len false (.t 12)),
  oG 7 false 14 (.ints .neq (.t 13) (.c (iv 1))),
  oV 15 (.pick (.t 7) (.c (bv true)) (.t 14))] [3, 4, 5, 6, 7, 8, 9, 10, 11, 12, 13, 14]
abbrev zQl : HCode := oN [oV 2 (.mv (.c (.one (.v (.pointer none)))))]
abbrev zQm : HCode := oR [oV 16 (.fldR (.t 1) 5 1),
  oV 17 (.ldR (.t 16) 1 false),
  oV 18 (.idxA 2 (.t 17) (.c (iv 0))),
  oV 19 (.fldR (.t 18) 0 1),
  oV 20 (.ldR (.t 19) 1 false),
  oV 21 (.idxA 2 (.t 20) (.c (iv 0))),
  oV 2 (.mv (.t 21))] [16, 17, 18, 19, 20, 21]
abbrev zXm : HCode := (.seq zQj (.seq (.seq zQk (.cond (.t 15) (.seq zQl .ret) .skip)) (.seq zQm .ret)))
abbrev zCy : Env := { N := 22, Γ := [], L := 22, nfix := 0 }
abbrev plain_inner_R : List RSrc := [.tmp 2]
theorem zCN : zCf Tryz.prog zFq zXm zCy plain_inner_R := by kernel_rfl
abbrev zSX : HCode := oN [oV 1 (.boxF (.t 0)),
  ⟨none, .alloc 2 0 136 [.v (mkS []), .nl 6]⟩]
abbrev zSY : HCode := oR [oV 7 (.fldR (.t 1) 0 1),
  oV 8 (.ldR (.t 7) 1 false),
  oV 9 (.bld [.v (mkS []), .nl 6] [(0, 1, .t 8)]),
  ⟨none, .alloc 3 1 138 [.v (mkS []), .nl 6]⟩,
  ⟨none, .sto (.t 3) 1 138 0 2 (.t 9)⟩] [7, 8, 9]
abbrev zSZ : HCode := oR [oV 10 (.fldR (.t 1) 1 1),
  oV 11 (.ldR (.t 10) 1 false),
  oV 12 (.len false (.t 11)),
  oV 13 (.mv (.c (iv 0)))] [10]
abbrev zS0 : HCode := oN [oV 14 (.ints .lss (.t 13) (.t 12))]
abbrev zS1 : HCode := oR [oV 15 (.mv (.t 13)),
  oV 16 (.idxA 6 (.t 11) (.t 13)),
  oV 17 (.ldR (.t 16) 6 true),
  ⟨none, .alloc 5 2 140 [.v (.int .i64 0), .v (mkS []), .v (mkS []), .v (.int .i64 0), .v (.int .i64 0), .nl 2]⟩,
  oV 4 (.mv (.t 15)),
  ⟨none, .sto (.t 5) 2 140 0 6 (.t 17)⟩] [15, 16, 17]
abbrev zS2 : HCode := oR [oV 18 (.fldP (.t 5) 5),
  oV 19 (.ldB (.t 18) 2 140 5 1 false),
  oC 20 zCx [(.t 19, .v)],
  oV 21 (.fldP (.t 5) 5),
  ⟨none, .sto (.t 21) 2 140 5 1 (.t 20)⟩] [18, 19, 20, 21]
abbrev zS3 : HCode := oR [oV 22 (.ldB (.t 5) 2 140 0 6 true),
  oC 23 zFq [(.t 22, .v)],
  oV 6 (.mv (.t 23))] [22, 23]
abbrev zS4 : HCode := oR [oV 25 (.mv (.t 6)),
  oV 26 (.pnl false true (.t 25)),
  oV 24 (.mv (.t 26))] [25, 26]
abbrev zLK : HCode := oR [oV 28 (.fldP (.t 5) 0),
  oV 29 (.ldB (.t 28) 2 140 0 1 false),
  oV 30 (.ints .eql (.t 29) (.c (iv 13))),
  oV 31 (.mv (.t 30)),
  oG 31 true 32 (.mv (.t 6)),
  oG 31 true 33 (.nilck (.t 32)),
  oG 31 true 34 (.fldR (.t 33) 0 1),
  oG 31 true 35 (.ldR (.t 34) 1 false),
  oG 31 true 36 (.strs .eql (.t 35) (.c (sv []))),
  oV 37 (.pick (.t 31) (.t 36) (.c (bv false))),
  oV 38 (.mv (.t 37)),
  oG 38 true 39 (.mv (.t 6)),
  oG 38 true 40 (.nilck (.t 39)),
  oG 38 true 41 (.fldR (.t 40) 1 1),
  oG 38 true 42 (.ldR (.t 41) 1 false),
  oG 38 true 43 (.len false (.t 42)),
  oG 38 true 44 (.ints .eql (.t 43) (.c (iv 1))),
  oV 45 (.pick (.t 38) (.t 44) (.c (bv false))),
  oV 46 (.mv (.t 45)),
  oG 46 true 47 (.mv (.t 6)),
  oG 46 true 48 (.nilck (.t 47)),
  oG 46 true 49 (.fldR (.t 48) 1 1),
  oG 46 true 50 (.ldR (.t 49) 1 false),
  oG 46 true 51 (.idxA 6 (.t 50) (.c (iv 0))),
  oG 46 true 52 (.fldR (.t 51) 0 1),
  oG 46 true 53 (.ldR (.t 52) 1 false),
  oG 46 true 54 (.ints .eql (.t 53) (.c (iv 13))),
  oV 55 (.pick (.t 46) (.t 54) (.c (bv false))),
  oV 27 (.mv (.t 55))] [28, 29, 30, 31, 32, 33, 34, 35, 36, 37, 38, 39, 40, 41, 42, 43, 44, 45, 46, 47, 48, 49, 50, 51, 52, 53, 54, 55]
abbrev zS5 : HCode := oR [oV 56 (.mv (.t 6)),
  oV 57 (.nilck (.t 56)),
  oV 58 (.fldR (.t 57) 1 1),
  oV 59 (.ldR (.t 58) 1 false),
  oV 60 (.idxA 6 (.t 59) (.c (iv 0))),
  oV 61 (.fldR (.t 60) 5 1),
  oV 62 (.ldR (.t 61) 1 false),
  oV 63 (.bld [.v (.int .i64 0), .v (mkS []), .v (mkS []), .v (.int .i64 0), .v (.int .i64 0), .nl 2] [(0, 1, .c (iv 14)), (5, 1, .t 62)]),
  ⟨none, .sto (.t 5) 2 140 0 6 (.t 63)⟩] [56, 57, 58, 59, 60, 61, 62, 63]
abbrev zJL : HCode := oQ [oD 0 false (oV 65 (.fldP (.t 5) 0)),
  oD 1 false (oV 66 (.ldB (.t 65) 2 140 0 1 false)),
  oD 2 false (oV 67 (.ints .eql (.t 66) (.c (iv 14)))),
  oD 3 false (oV 68 (.mv (.t 67))),
  oD 4 false (oG 68 true 69 (.mv (.t 6))),
  oD 5 false (oG 68 true 70 (.nilck (.t 69))),
  oD 6 false (oG 68 true 71 (.fldR (.t 70) 0 1)),
  oD 7 false (oG 68 true 72 (.ldR (.t 71) 1 false)),
  oD 8 false (oG 68 true 73 (.strs .eql (.t 72) (.c (sv [])))),
  oD 9 false (oG 68 true 74 (.mv (.t 73))),
  oD 10 false (oG 74 false 75 (.fldP (.t 3) 0)),
  oD 11 false (oG 74 false 76 (.ldB (.t 75) 1 138 0 1 false)),
  oD 12 false (oG 74 false 77 (.strs .eql (.t 76) (.c (sv [])))),
  oD 13 false (oG 68 true 78 (.pick (.t 74) (.c (bv true)) (.t 77))),
  oD 14 false (oG 68 true 79 (.mv (.t 78))),
  oD 15 false (oG 79 false 80 (.mv (.t 6))),
  oD 16 false (oG 79 false 81 (.nilck (.t 80))),
  oD 17 false (oG 79 false 82 (.fldR (.t 81) 0 1)),
  oD 18 false (oG 79 false 83 (.ldR (.t 82) 1 false)),
  oD 19 false (oG 79 false 84 (.fldP (.t 3) 0)),
  oD 20 false (oG 79 false 85 (.ldB (.t 84) 1 138 0 1 false)),
  oD 21 false (oG 79 false 86 (.strs .eql (.t 83) (.t 85))),
  oD 22 false (oG 68 true 87 (.pick (.t 79) (.c (bv true)) (.t 86))),
  oD 23 false (oV 88 (.pick (.t 68) (.t 87) (.c (bv false)))),
  oD 24 false (oV 89 (.mv (.t 88))),
  oD 25 false (oG 89 true 90 (.fldP (.t 3) 1)),
  oD 26 false (oG 89 true 91 (.ldB (.t 90) 1 138 1 1 false)),
  oD 27 false (oG 89 true 92 (.len false (.t 91))),
  oD 28 false (oG 89 true 93 (.mv (.t 6))),
  oD 29 false (oG 89 true 94 (.nilck (.t 93))),
  oD 30 false (oG 89 true 95 (.fldR (.t 94) 1 1)),
  oD 31 false (oG 89 true 96 (.ldR (.t 95) 1 false)),
  oD 32 false (oG 89 true 97 (.len false (.t 96))),
  oD 33 false (oG 89 true 98 (.ints .add (.t 92) (.t 97))),
  oD 34 false (oG 89 true 99 (.fldR (.t 1) 1 1)),
  oD 35 false (oG 89 true 100 (.ldR (.t 99) 1 false)),
  oD 36 false (oG 89 true 101 (.mv (.t 4))),
  oD 37 false (oG 89 true 102 (.ints .add (.t 101) (.c (iv 1)))),
  oD 38 false (oG 89 true 103 (.slr 6 (.t 100) (some (.t 102)) none)),
  oD 39 false (oG 89 true 104 (.len false (.t 103))),
  oD 40 false (oG 89 true 105 (.ints .add (.t 98) (.t 104))),
  oD 41 false (oG 89 true 106 (.ints .leq (.t 105) (.c (iv 6)))),
  oD 42 false (oV 107 (.pick (.t 89) (.t 106) (.c (bv false)))),
  oD 43 false (oV 64 (.mv (.t 107)))] [65, 66, 67, 68, 69, 70, 71, 72, 73, 74, 75, 76, 77, 78, 79, 80, 81, 82, 83, 84, 85, 86, 87, 88, 89, 90, 91, 92, 93, 94, 95, 96, 97, 98, 99, 100, 101, 102, 103, 104, 105, 106, 107]
abbrev zQn : HCode := oR [oV 108 (.fldP (.t 3) 0),
  oV 109 (.ldB (.t 108) 1 138 0 1 false),
  oV 110 (.strs .eql (.t 109) (.c (sv [])))] [108, 109]
abbrev zQo : HCode := oR [oV 111 (.mv (.t 6)),
  oV 112 (.nilck (.t 111)),
  oV 113 (.fldR (.t 112) 0 1),
  oV 114 (.ldR (.t 113) 1 false),
  oV 115 (.fldP (.t 3) 0),
  ⟨none, .sto (.t 115) 1 138 0 1 (.t 114)⟩] [111, 112, 113, 114, 115]
abbrev zQp : HCode := oQ [oD 0 false (oV 116 (.fldP (.t 3) 1)),
  oD 1 false ⟨none, .ldo 117 (.t 116) 1 138 1 zA3 6⟩,
  oD 2 false (oV 118 (.mv (.t 6))),
  oD 3 false (oV 119 (.nilck (.t 118))),
  oD 4 false (oV 120 (.fldR (.t 119) 1 1)),
  oD 5 false (oV 121 (.ldR (.t 120) 1 false)),
  oD 6 false ⟨none, .app 122 zA3 6 (.t 117) (.t 121)⟩,
  oD 7 false (oV 123 (.fldP (.t 3) 1)),
  oD 8 false ⟨none, .stw (.t 123) 1 138 1 122⟩] [116, 117, 118, 119, 120, 121, 122, 123]
abbrev zQq : HCode := oR [oV 124 (.fldP (.t 3) 1),
  ⟨none, .ldo 125 (.t 124) 1 138 1 zA3 6⟩,
  oV 126 (.ldB (.t 5) 2 140 0 6 true),
  oV 127 (.bslF 6 [.t 126]),
  ⟨none, .app 128 zA3 6 (.t 125) (.t 127)⟩,
  oV 129 (.fldP (.t 3) 1),
  ⟨none, .stw (.t 129) 1 138 1 128⟩] [124, 125, 126, 127, 128, 129]
abbrev zQr : HCode := oR [oV 130 (.ints .add (.t 13) (.c (iv 1))),
  oV 13 (.mv (.t 130))] [130]
abbrev zQs : HCode := .reg [oV 131 (.fldP (.t 3) 1),
  oV 132 (.ldB (.t 131) 1 138 1 1 false),
  oC 133 zBZ [(.t 132, .v), (.f zA2, .v)],
  oV 134 (.fldP (.t 3) 1),
  ⟨none, .stw (.t 134) 1 138 1 133⟩] false [.frz 1 138 2, .forget [131, 132, 133, 134]]
abbrev zQt : HCode := oR [oV 135 (.ldR (.t 3) 2 true),
  ⟨none, .sto (.t 2) 0 136 0 2 (.t 135)⟩] [135]
abbrev zZC : HCode := (.seq zSX (.seq zSY (.seq (.seq zSZ (.block 0 (.loop (.seq zS0 (.seq (.cond (.t 14) .skip (.exit 0)) (.seq (.block 1 (.seq zS1 (.seq zS2 (.seq zS3 (.seq (.block 2 (.seq zS4 (.cond (.t 24) .skip (.seq zLK (.cond (.t 27) zS5 (.seq zJL (.cond (.t 64) (.seq (.seq zQn (.cond (.t 110) zQo .skip)) (.seq zQp (.exit 1))) .skip))))))) zQq))))) zQr)))))) (.seq zQs (.seq zQt .ret)))))
abbrev zNa : Env := { N := 136, Γ := [(136, 2), (138, 2), (140, 6)], L := 146, nfix := 0 }
abbrev plain_step_R : List RSrc := [.cellB 2 0 136 0 2 true]
theorem zS6 : zCf Tryz.prog zHk zZC zNa plain_step_R := by kernel_rfl
abbrev zS7 : HCode := oN [⟨none, .nlo 2 zBA 2⟩]
abbrev zS8 : HCode := oN [⟨none, .nlo 3 zBA 2⟩]
abbrev zS9 : HCode := oN [oV 9 (.mv (.t 0)),
  oV 10 (.len false (.t 9)),
  oV 11 (.mv (.c (iv 0)))]
abbrev zTa : HCode := oN [oV 12 (.ints .lss (.t 11) (.t 10))]
abbrev zTb : HCode := oR [oV 13 (.idxA 2 (.t 9) (.t 11)),
  oV 14 (.ldR (.t 13) 2 true),
  ⟨none, .alloc 5 0 41 [.nl 2, .nl 1]⟩,
  ⟨none, .sto (.t 5) 0 41 0 2 (.t 14)⟩] [13, 14]
abbrev zTc : HCode := oR [oV 15 (.fldP (.t 5) 1),
  oV 16 (.ldB (.t 15) 0 41 1 1 false),
  oC 17 zCY [(.t 16, .v)],
  oV 18 (.bld [.nl 2, .nl 1] [(1, 1, .t 17)]),
  ⟨none, .alloc 6 1 43 [.nl 2, .nl 1]⟩,
  ⟨none, .sto (.t 6) 1 43 0 2 (.t 18)⟩] [15, 16, 17, 18]
abbrev zTd : HCode := oR [oV 19 (.fldP (.t 5) 0),
  oV 20 (.ldB (.t 19) 0 41 0 1 false),
  oV 21 (.len false (.t 20)),
  oV 22 (.mv (.c (iv 0)))] [19]
abbrev zTe : HCode := oN [oV 23 (.ints .lss (.t 22) (.t 21))]
abbrev zTf : HCode := oR [oV 24 (.idxA 2 (.t 20) (.t 22)),
  oV 25 (.ldR (.t 24) 2 true),
  ⟨none, .alloc 8 2 45 [.v (mkS []), .nl 6]⟩,
  ⟨none, .sto (.t 8) 2 45 0 2 (.t 25)⟩] [24, 25]
abbrev zTg : HCode := oQ [oD 0 false (oV 26 (.fldP (.t 6) 0)),
  oD 1 false ⟨none, .ldo 27 (.t 26) 1 43 0 zKk 2⟩,
  oD 2 false (oV 28 (.ldB (.t 8) 2 45 0 2 true)),
  oD 3 true (oC 29 zHk [(.t 28, .v)]),
  oD 4 false (oV 30 (.bslF 2 [.t 29])),
  oD 5 false ⟨none, .app 31 zKk 2 (.t 27) (.t 30)⟩,
  oD 6 false (oV 32 (.fldP (.t 6) 0)),
  oD 7 false ⟨none, .stw (.t 32) 1 43 0 31⟩] [26, 27, 28, 29, 30, 31, 32]
abbrev zQu : HCode := oR [oV 33 (.ints .add (.t 22) (.c (iv 1))),
  oV 22 (.mv (.t 33))] [33]
abbrev zQv : HCode := oR [⟨none, .mvo 34 3⟩,
  oV 35 (.ldB (.t 6) 1 43 0 2 true),
  oV 36 (.bslF 2 [.t 35]),
  ⟨none, .app 37 zBA 2 (.t 34) (.t 36)⟩,
  ⟨none, .mvo 3 37⟩] [34, 35, 36, 37]
abbrev zQw : HCode := oR [oV 38 (.ints .add (.t 11) (.c (iv 1))),
  oV 11 (.mv (.t 38))] [38]
abbrev zQx : HCode := oR [oV 39 (.mv (.t 3)),
  oC 40 zBY [(.t 39, .v), (.f zAN, .v)],
  ⟨none, .mvo 2 40⟩] [39, 40]
abbrev zZD : HCode := (.seq zS7 (.seq zS8 (.seq (.seq zS9 (.block 0 (.loop (.seq zTa (.seq (.cond (.t 12) .skip (.exit 0)) (.seq (.block 1 (.seq zTb (.seq zTc (.seq (.seq zTd (.block 2 (.loop (.seq zTe (.seq (.cond (.t 23) .skip (.exit 2)) (.seq (.block 3 (.seq zTf zTg)) zQu)))))) zQv)))) zQw)))))) (.seq zQx .ret))))
abbrev zNb : Env := { N := 41, Γ := [(41, 2), (43, 2), (45, 2)], L := 47, nfix := 0 }
abbrev plain_once_R : List RSrc := [.tmp 2]
theorem zTh : zCf Tryz.prog zCx zZD zNb plain_once_R := by kernel_rfl
abbrev zTi : HCode := oN [oV 2 (.mv (.c (.one (.nl 2)))),
  oV 3 (.mv (.c (iv 0)))]
abbrev zTj : HCode := oR [oV 5 (.mv (.t 0)),
  oC 6 zCt [(.t 5, .v)],
  oV 4 (.mv (.t 6))] [5, 6]
abbrev zTk : HCode := oR [oV 7 (.mv (.t 4)),
  oV 8 (.ints .neq (.t 7) (.c (iv 0)))] [7]
abbrev zTl : HCode := oR [oV 9 (.mv (.t 4)),
  oV 2 (.mv (.c (.one (.nl 2)))),
  oV 3 (.mv (.t 9))] [9]
abbrev zTm : HCode := oR [oV 10 (.mv (.t 0)),
  oC 11 zCx [(.t 10, .v)],
  oV 2 (.mv (.t 11)),
  oV 3 (.mv (.c (iv 0)))] [10, 11]
abbrev zZE : HCode := (.seq zTi (.seq (.seq zTj (.seq zTk (.cond (.t 8) (.seq zTl .ret) .skip))) (.seq zTm .ret)))
abbrev zNc : Env := { N := 12, Γ := [], L := 12, nfix := 0 }
abbrev plain_Once_R : List RSrc := [.tmp 2, .tmp 3]
theorem zTn : zCf Tryz.prog zEl zZE zNc plain_Once_R := by kernel_rfl
abbrev zQy : HCode := oN [oV 2 (.mv (.c (.one (.nl 2)))),
  oV 3 (.mv (.c (iv 0)))]
abbrev zQz : HCode := oR [oV 6 (.mv (.t 0)),
  oC 7 zCt [(.t 6, .v)],
  oV 4 (.mv (.t 7))] [6, 7]
abbrev zQA : HCode := oR [oV 8 (.mv (.t 4)),
  oV 9 (.ints .neq (.t 8) (.c (iv 0)))] [8]
abbrev zQB : HCode := oR [oV 10 (.mv (.t 4)),
  oV 2 (.mv (.c (.one (.nl 2)))),
  oV 3 (.mv (.t 10))] [10]
abbrev zQC : HCode := oR [oV 11 (.mv (.t 0)),
  oC 12 zCx [(.t 11, .v)],
  oV 5 (.mv (.t 12))] [11, 12]
abbrev zQD : HCode := oR [oV 13 (.mv (.t 0)),
  oV 14 (.mv (.t 5)),
  oC 15 zBj [(.t 13, .v), (.t 14, .v), (.f zAN, .v)]] [13, 14]
abbrev zQE : HCode := oR [oV 16 (.mv (.t 5)),
  oV 2 (.mv (.t 16)),
  oV 3 (.mv (.c (iv 0)))] [16]
abbrev zQF : HCode := oR [oV 17 (.mv (.t 5)),
  oV 0 (.mv (.t 17))] [17]
abbrev zXn : HCode := (.seq zQy (.seq (.seq zQz (.seq zQA (.cond (.t 9) (.seq zQB .ret) .skip))) (.block 0 (.loop (.block 1 (.seq zQC (.seq (.seq zQD (.cond (.t 15) (.seq zQE .ret) .skip)) zQF)))))))
abbrev zLL : Env := { N := 18, Γ := [], L := 18, nfix := 0 }
abbrev plain_Plain_R : List RSrc := [.tmp 2, .tmp 3]
theorem zQG : zCf Tryz.prog zCK zXn zLL plain_Plain_R := by kernel_rfl
abbrev zTo : HCode := oN [oV 2 (.mv (.c (iv 0)))]
abbrev zTp : HCode := oN [oV 3 (.mv (.c (iv 0)))]
abbrev zTq : HCode := oN [oV 10 (.mv (.t 0)),
  oV 11 (.len false (.t 10)),
  oV 12 (.mv (.c (iv 0)))]
abbrev zTr : HCode := oN [oV 13 (.ints .lss (.t 12) (.t 11))]
abbrev zTs : HCode := oR [oV 14 (.idxA 2 (.t 10) (.t 12)),
  oV 15 (.ldR (.t 14) 2 true),
  ⟨none, .alloc 5 0 42 [.nl 2, .nl 1]⟩,
  ⟨none, .sto (.t 5) 0 42 0 2 (.t 15)⟩] [14, 15]
abbrev zTt : HCode := oR [oV 16 (.fldP (.t 5) 0),
  oV 17 (.ldB (.t 16) 0 42 0 1 false),
  oV 18 (.len false (.t 17)),
  oV 19 (.mv (.c (iv 0)))] [16]
abbrev zTu : HCode := oN [oV 20 (.ints .lss (.t 19) (.t 18))]
abbrev zTv : HCode := oR [oV 21 (.idxA 2 (.t 17) (.t 19)),
  oV 22 (.ldR (.t 21) 2 true),
  ⟨none, .alloc 7 1 44 [.v (mkS []), .nl 6]⟩,
  ⟨none, .sto (.t 7) 1 44 0 2 (.t 22)⟩] [21, 22]
abbrev zTw : HCode := oR [oV 23 (.mv (.t 3)),
  oV 24 (.ints .add (.t 23) (.c (iv 1))),
  oV 3 (.mv (.t 24))] [23, 24]
abbrev zTx : HCode := oR [oV 25 (.fldP (.t 7) 1),
  oV 26 (.ldB (.t 25) 1 44 1 1 false),
  oV 27 (.len false (.t 26)),
  oV 28 (.mv (.c (iv 0)))] [25]
abbrev zQH : HCode := oN [oV 29 (.ints .lss (.t 28) (.t 27))]
abbrev zQI : HCode := oR [oV 30 (.idxA 6 (.t 26) (.t 28)),
  oV 31 (.ldR (.t 30) 6 true),
  ⟨none, .alloc 9 2 46 [.v (.int .i64 0), .v (mkS []), .v (mkS []), .v (.int .i64 0), .v (.int .i64 0), .nl 2]⟩,
  ⟨none, .sto (.t 9) 2 46 0 6 (.t 31)⟩] [30, 31]
abbrev zQJ : HCode := oR [oV 32 (.mv (.t 3)),
  oV 33 (.fldP (.t 9) 5),
  oV 34 (.ldB (.t 33) 2 46 5 1 false),
  oC 35 zEm [(.t 34, .v)],
  oV 36 (.ints .add (.c (iv 1)) (.t 35)),
  oV 37 (.ints .add (.t 32) (.t 36)),
  oV 3 (.mv (.t 37))] [32, 33, 34, 35, 36, 37]
abbrev zQK : HCode := oR [oV 38 (.ints .add (.t 28) (.c (iv 1))),
  oV 28 (.mv (.t 38))] [38]
abbrev zQL : HCode := oR [oV 39 (.ints .add (.t 19) (.c (iv 1))),
  oV 19 (.mv (.t 39))] [39]
abbrev zQM : HCode := oR [oV 40 (.ints .add (.t 12) (.c (iv 1))),
  oV 12 (.mv (.t 40))] [40]
abbrev zQN : HCode := oR [oV 41 (.mv (.t 3)),
  oV 2 (.mv (.t 41))] [41]
abbrev zZF : HCode := (.seq zTo (.seq zTp (.seq (.seq zTq (.block 0 (.loop (.seq zTr (.seq (.cond (.t 13) .skip (.exit 0)) (.seq (.block 1 (.seq zTs (.seq zTt (.block 2 (.loop (.seq zTu (.seq (.cond (.t 20) .skip (.exit 2)) (.seq (.block 3 (.seq zTv (.seq zTw (.seq zTx (.block 4 (.loop (.seq zQH (.seq (.cond (.t 29) .skip (.exit 4)) (.seq (.block 5 (.seq zQI zQJ)) zQK))))))))) zQL)))))))) zQM)))))) (.seq zQN .ret))))
abbrev zNd : Env := { N := 42, Γ := [(42, 2), (44, 2), (46, 6)], L := 52, nfix := 0 }
abbrev plain_size_R : List RSrc := [.tmp 2]
theorem zTy : zCf Tryz.prog zEm zZF zNd plain_size_R := by kernel_rfl
abbrev zTz : HCode := oN [oV 2 (.mv (.c (iv 0))),
  oV 3 (.mv (.c (iv 0)))]
abbrev zTA : HCode := oR [oV 5 (.mv (.t 0)),
  oC 6 zCt [(.t 5, .v)],
  oV 4 (.mv (.t 6))] [5, 6]
abbrev zTB : HCode := oR [oV 7 (.mv (.t 4)),
  oV 8 (.ints .neq (.t 7) (.c (iv 0)))] [7]
abbrev zTC : HCode := oR [oV 9 (.mv (.t 4)),
  oV 2 (.mv (.c (iv 0))),
  oV 3 (.mv (.t 9))] [9]
abbrev zTD : HCode := oR [oV 10 (.mv (.t 0)),
  oC 11 zEm [(.t 10, .v)],
  oV 2 (.mv (.t 11)),
  oV 3 (.mv (.c (iv 0)))] [10, 11]
abbrev zZG : HCode := (.seq zTz (.seq (.seq zTA (.seq zTB (.cond (.t 8) (.seq zTC .ret) .skip))) (.seq zTD .ret)))
abbrev zNe : Env := { N := 12, Γ := [], L := 12, nfix := 0 }
abbrev plain_Size_R : List RSrc := [.tmp 2, .tmp 3]
theorem zTE : zCf Tryz.prog zDr zZG zNe plain_Size_R := by kernel_rfl
end Go.Hx
end

section
/-
 The abstract code of functions of the program, printed by gen.py; each stands for the given one. No condition.
-/
namespace Go.Hx
open Go.Proofs
variable [Glob]
abbrev zHz : Nat := 4
abbrev zCz : Nat := 23
abbrev zDY : Nat := 68
abbrev zBG : Nat := 26
abbrev zD5 : Nat := 70
abbrev zD6 : Nat := 129
abbrev zD7 : Nat := 183
abbrev zNv : HCode := oN [oV 2 (.boxF (.t 0)),
  oV 3 (.boxF (.t 1)),
  oV 4 (.mv (.c (bv false)))]
abbrev zNw : HCode := oR [oV 5 (.fldR (.t 2) 0 1),
  oV 6 (.ldR (.t 5) 1 false),
  oV 7 (.fldR (.t 3) 0 1),
  oV 8 (.ldR (.t 7) 1 false),
  oV 9 (.ints .eql (.t 6) (.t 8)),
  oV 10 (.mv (.t 9)),
  oG 10 true 11 (.fldR (.t 2) 1 1),
  oG 10 true 12 (.ldR (.t 11) 1 false),
  oG 10 true 13 (.fldR (.t 3) 1 1),
  oG 10 true 14 (.ldR (.t 13) 1 false),
  oG 10 true 15 (.strs .eql (.t 12) (.t 14)),
  oV 16 (.pick (.t 10) (.t 15) (.c (bv false))),
  oV 17 (.mv (.t 16)),
  oG 17 true 18 (.fldR (.t 2) 2 1),
  oG 17 true 19 (.ldR (.t 18) 1 false),
  oG 17 true 20 (.fldR (.t 3) 2 1),
  oG 17 true 21 (.ldR (.t 20) 1 false),
  oG 17 true 22 (.strs .eql (.t 19) (.t 21)),
  oV 23 (.pick (.t 17) (.t 22) (.c (bv false))),
  oV 24 (.mv (.t 23)),
  oG 24 true 25 (.fldR (.t 2) 3 2),
  oG 24 true 26 (.ldR (.t 25) 2 true),
  oG 24 true 27 (.fldR (.t 3) 3 2),
  oG 24 true 28 (.ldR (.t 27) 2 true),
  oG 24 true 29 (.steq false [0, 0] (.t 26) (.t 28)),
  oV 30 (.pick (.t 24) (.t 29) (.c (bv false))),
  oV 31 (.mv (.t 30)),
  oG 31 true 32 (.fldR (.t 2) 5 1),
  oG 31 true 33 (.ldR (.t 32) 1 false),
  oG 31 true 34 (.fldR (.t 3) 5 1),
  oG 31 true 35 (.ldR (.t 34) 1 false),
  ⟨some (31, true), .call (some 36) zBG [(.t 33, .v), (.t 35, .v)]⟩,
  oV 37 (.pick (.t 31) (.t 36) (.c (bv false))),
  oV 4 (.mv (.t 37))] [5, 6, 7, 8, 9, 10, 11, 12, 13, 14, 15, 16, 17, 18, 19, 20, 21, 22, 23, 24, 25, 26, 27, 28, 29, 30, 31, 32, 33, 34, 35, 36, 37]
abbrev zTL : HCode := (.seq zNv (.seq zNw .ret))
abbrev zIS : Env := { N := 38, Γ := [], L := 38, nfix := 0 }
abbrev ref_SameTests_R : List RSrc := [.tmp 4]
theorem zNx : zCf Tryz.prog zD7 zTL zIS ref_SameTests_R := by kernel_rfl
abbrev zNy : HCode := oN [oV 2 (.boxF (.t 0)),
  oV 3 (.boxF (.t 1)),
  oV 4 (.mv (.c (bv false)))]
abbrev zNz : HCode := oR [oV 6 (.fldR (.t 2) 0 1),
  oV 7 (.ldR (.t 6) 1 false),
  oV 8 (.fldR (.t 3) 0 1),
  oV 9 (.ldR (.t 8) 1 false),
  oV 10 (.strs .neq (.t 7) (.t 9)),
  oV 11 (.mv (.t 10)),
  oG 11 false 12 (.fldR (.t 2) 1 1),
  oG 11 false 13 (.ldR (.t 12) 1 false),
  oG 11 false 14 (.len false (.t 13)),
  oG 11 false 15 (.fldR (.t 3) 1 1),
  oG 11 false 16 (.ldR (.t 15) 1 false),
  oG 11 false 17 (.len false (.t 16)),
  oG 11 false 18 (.ints .neq (.t 14) (.t 17)),
  oV 19 (.pick (.t 11) (.c (bv true)) (.t 18))] [6, 7, 8, 9, 10, 11, 12, 13, 14, 15, 16, 17, 18]
abbrev zNA : HCode := oN [oV 4 (.mv (.c (bv false)))]
abbrev zNB : HCode := oN [oV 5 (.mv (.c (iv 0)))]
abbrev zNC : HCode := oR [oV 20 (.mv (.t 5)),
  oV 21 (.fldR (.t 2) 1 1),
  oV 22 (.ldR (.t 21) 1 false),
  oV 23 (.len false (.t 22)),
  oV 24 (.ints .lss (.t 20) (.t 23))] [20, 21, 22, 23]
abbrev zND : HCode := oQ [oD 0 false (oV 27 (.fldR (.t 2) 1 1)),
  oD 1 false (oV 28 (.ldR (.t 27) 1 false)),
  oD 2 false (oV 29 (.mv (.t 5))),
  oD 3 false (oV 30 (.idxA 6 (.t 28) (.t 29))),
  oD 4 false (oV 31 (.ldR (.t 30) 6 true)),
  oD 5 false (oV 32 (.fldR (.t 3) 1 1)),
  oD 6 false (oV 33 (.ldR (.t 32) 1 false)),
  oD 7 false (oV 34 (.mv (.t 5))),
  oD 8 false (oV 35 (.idxA 6 (.t 33) (.t 34))),
  oD 9 false (oV 36 (.ldR (.t 35) 6 true)),
  oD 10 true (oC 37 zD7 [(.t 31, .v), (.t 36, .v)]),
  oD 11 false (oV 38 (.not (.t 37)))] [27, 28, 29, 30, 31, 32, 33, 34, 35, 36, 37]
abbrev zNE : HCode := oN [oV 4 (.mv (.c (bv false)))]
abbrev zNF : HCode := oR [oV 25 (.mv (.t 5)),
  oV 26 (.ints .add (.t 25) (.c (iv 1))),
  oV 5 (.mv (.t 26))] [25, 26]
abbrev zNG : HCode := oN [oV 4 (.mv (.c (bv true)))]
abbrev zTM : HCode := (.seq zNy (.seq (.seq zNz (.cond (.t 19) (.seq zNA .ret) .skip)) (.seq (.seq zNB (.block 0 (.loop (.seq (.seq zNC (.cond (.t 24) .skip (.exit 0))) (.seq (.block 1 (.seq zND (.cond (.t 38) (.seq zNE .ret) .skip))) zNF))))) (.seq zNG .ret))))
abbrev zIT : Env := { N := 39, Γ := [], L := 39, nfix := 0 }
abbrev ref_SameSteps_R : List RSrc := [.tmp 4]
theorem zNH : zCf Tryz.prog zD6 zTM zIT ref_SameSteps_R := by kernel_rfl
abbrev zNI : HCode := oN [oV 2 (.boxF (.t 0)),
  oV 3 (.boxF (.t 1)),
  oV 4 (.mv (.c (bv false)))]
abbrev zNJ : HCode := oR [oV 6 (.fldR (.t 2) 0 1),
  oV 7 (.ldR (.t 6) 1 false),
  oV 8 (.len false (.t 7)),
  oV 9 (.fldR (.t 3) 0 1),
  oV 10 (.ldR (.t 9) 1 false),
  oV 11 (.len false (.t 10)),
  oV 12 (.ints .neq (.t 8) (.t 11)),
  oV 13 (.mv (.t 12)),
  oG 13 false 14 (.fldR (.t 2) 1 1),
  oG 13 false 15 (.ldR (.t 14) 1 false),
  oG 13 false 16 (.fldR (.t 3) 1 1),
  oG 13 false 17 (.ldR (.t 16) 1 false),
  ⟨some (13, false), .call (some 18) zCl [(.t 15, .v), (.t 17, .v)]⟩,
  oG 13 false 19 (.not (.t 18)),
  oV 20 (.pick (.t 13) (.c (bv true)) (.t 19))] [6, 7, 8, 9, 10, 11, 12, 13, 14, 15, 16, 17, 18, 19]
abbrev zNK : HCode := oN [oV 4 (.mv (.c (bv false)))]
abbrev zNL : HCode := oN [oV 5 (.mv (.c (iv 0)))]
abbrev zNM : HCode := oR [oV 21 (.mv (.t 5)),
  oV 22 (.fldR (.t 2) 0 1),
  oV 23 (.ldR (.t 22) 1 false),
  oV 24 (.len false (.t 23)),
  oV 25 (.ints .lss (.t 21) (.t 24))] [21, 22, 23, 24]
abbrev zNN : HCode := oQ [oD 0 false (oV 28 (.fldR (.t 2) 0 1)),
  oD 1 false (oV 29 (.ldR (.t 28) 1 false)),
  oD 2 false (oV 30 (.mv (.t 5))),
  oD 3 false (oV 31 (.idxA 2 (.t 29) (.t 30))),
  oD 4 false (oV 32 (.ldR (.t 31) 2 true)),
  oD 5 false (oV 33 (.fldR (.t 3) 0 1)),
  oD 6 false (oV 34 (.ldR (.t 33) 1 false)),
  oD 7 false (oV 35 (.mv (.t 5))),
  oD 8 false (oV 36 (.idxA 2 (.t 34) (.t 35))),
  oD 9 false (oV 37 (.ldR (.t 36) 2 true)),
  oD 10 true (oC 38 zD6 [(.t 32, .v), (.t 37, .v)]),
  oD 11 false (oV 39 (.not (.t 38)))] [28, 29, 30, 31, 32, 33, 34, 35, 36, 37, 38]
abbrev zNO : HCode := oN [oV 4 (.mv (.c (bv false)))]
abbrev zNP : HCode := oR [oV 26 (.mv (.t 5)),
  oV 27 (.ints .add (.t 26) (.c (iv 1))),
  oV 5 (.mv (.t 27))] [26, 27]
abbrev zNQ : HCode := oN [oV 4 (.mv (.c (bv true)))]
abbrev zTN : HCode := (.seq zNI (.seq (.seq zNJ (.cond (.t 20) (.seq zNK .ret) .skip)) (.seq (.seq zNL (.block 0 (.loop (.seq (.seq zNM (.cond (.t 25) .skip (.exit 0))) (.seq (.block 1 (.seq zNN (.cond (.t 39) (.seq zNO .ret) .skip))) zNP))))) (.seq zNQ .ret))))
abbrev zIU : Env := { N := 40, Γ := [], L := 40, nfix := 0 }
abbrev ref_SamePaths_R : List RSrc := [.tmp 4]
theorem zNR : zCf Tryz.prog zD5 zTN zIU ref_SamePaths_R := by kernel_rfl
abbrev zNS : HCode := oN [oV 4 (.mv (.c (bv false)))]
abbrev zNT : HCode := oR [oV 6 (.mv (.t 0)),
  oV 7 (.len false (.t 6)),
  oV 8 (.mv (.t 1)),
  oV 9 (.len false (.t 8)),
  oV 10 (.ints .neq (.t 7) (.t 9))] [6, 7, 8, 9]
abbrev zNU : HCode := oN [oV 4 (.mv (.c (bv false)))]
abbrev zNV : HCode := oN [oV 5 (.mv (.c (iv 0)))]
abbrev zNW : HCode := oR [oV 11 (.mv (.t 5)),
  oV 12 (.mv (.t 0)),
  oV 13 (.len false (.t 12)),
  oV 14 (.ints .lss (.t 11) (.t 13))] [11, 12, 13]
abbrev zNX : HCode := oQ [oD 0 false (oV 17 (.mv (.t 0))),
  oD 1 false (oV 18 (.mv (.t 5))),
  oD 2 false (oV 19 (.idxA 2 (.t 17) (.t 18))),
  oD 3 false (oV 20 (.ldR (.t 19) 2 true)),
  oD 4 false (oV 21 (.mv (.t 1))),
  oD 5 false (oV 22 (.mv (.t 5))),
  oD 6 false (oV 23 (.idxA 2 (.t 21) (.t 22))),
  oD 7 false (oV 24 (.ldR (.t 23) 2 true)),
  oD 8 true (oC 25 zD5 [(.t 20, .v), (.t 24, .v)]),
  oD 9 false (oV 26 (.not (.t 25)))] [17, 18, 19, 20, 21, 22, 23, 24, 25]
abbrev zNY : HCode := oN [oV 4 (.mv (.c (bv false)))]
abbrev zNZ : HCode := oR [oV 15 (.mv (.t 5)),
  oV 16 (.ints .add (.t 15) (.c (iv 1))),
  oV 5 (.mv (.t 16))] [15, 16]
abbrev zN0 : HCode := oN [oV 4 (.mv (.c (bv true)))]
abbrev zTO : HCode := (.seq zNS (.seq (.seq zNT (.cond (.t 10) (.seq zNU .ret) .skip)) (.seq (.seq zNV (.block 0 (.loop (.seq (.seq zNW (.cond (.t 14) .skip (.exit 0))) (.seq (.block 1 (.seq zNX (.cond (.t 26) (.seq zNY .ret) .skip))) zNZ))))) (.seq zN0 .ret))))
abbrev zIV : Env := { N := 27, Γ := [], L := 27, nfix := 0 }
abbrev ref_SameLists_R : List RSrc := [.tmp 4]
theorem zN1 : zCf Tryz.prog zBG zTO zIV ref_SameLists_R := by kernel_rfl
abbrev zV6 : HCode := oN [oV 0 (.mv (.c (.one (.nl 2))))]
abbrev zV7 : HCode := oR [oV 1 (.bld [.v (.int .i64 0), .v (mkS []), .v (mkS []), .v (.int .i64 0), .v (.int .i64 0), .nl 2] [(0, 1, .c (iv 11))]),
  oV 2 (.bslF 6 [.t 1]),
  oV 3 (.bld [.v (mkS []), .nl 6] [(0, 1, .c (sv [120])), (1, 1, .t 2)]),
  oV 4 (.bslF 2 [.t 3]),
  oV 5 (.bld [.nl 2, .nl 1] [(0, 1, .t 4)]),
  oV 6 (.bslF 2 [.t 5]),
  oV 7 (.bld [.v (.int .i64 0), .v (mkS []), .v (mkS []), .v (.int .i64 0), .v (.int .i64 0), .nl 2] [(0, 1, .c (iv 13)), (5, 1, .t 6)]),
  oC 8 zGd [(.t 7, .v)],
  oV 9 (.bld [.v (.int .i64 0), .v (mkS []), .v (mkS []), .v (.int .i64 0), .v (.int .i64 0), .nl 2] [(0, 1, .c (iv 13)), (5, 1, .t 8)]),
  oC 10 zGd [(.t 9, .v)],
  oV 0 (.mv (.t 10))] [1, 2, 3, 4, 5, 6, 7, 8, 9, 10]
abbrev yBj : HCode := (.seq zV6 (.seq zV7 .ret))
abbrev zPD : Env := { N := 11, Γ := [], L := 11, nfix := 0 }
abbrev law_twice_R : List RSrc := [.tmp 0]
theorem zV8 : zCf Tryz.prog zDY yBj zPD law_twice_R := by kernel_rfl
abbrev zMK : HCode := oN [oV 0 (.mv (.c (bv false)))]
abbrev zML : HCode := oR [oC 8 zDY [],
  oC 9 zCK [(.t 8, .v)],
  oV 7 (.mv (.t 9)),
  oV 10 (.ext 7 0),
  oV 11 (.ext 7 1),
  oV 1 (.mv (.t 10)),
  oV 2 (.mv (.t 11))] [7, 8, 9, 10, 11]
abbrev zMM : HCode := oR [oC 13 zDY [],
  oC 14 zEl [(.t 13, .v)],
  oV 12 (.mv (.t 14)),
  oV 15 (.ext 12 0),
  oV 16 (.ext 12 1),
  oV 3 (.mv (.t 15)),
  oV 4 (.mv (.t 16))] [12, 13, 14, 15, 16]
abbrev zMN : HCode := oR [oC 18 zDY [],
  oC 19 zDr [(.t 18, .v)],
  oV 17 (.mv (.t 19)),
  oV 20 (.ext 17 0),
  oV 21 (.ext 17 1),
  oV 5 (.mv (.t 20)),
  oV 6 (.mv (.t 21))] [17, 18, 19, 20, 21]
abbrev zMO : HCode := oR [oV 22 (.mv (.t 2)),
  oV 23 (.ints .eql (.t 22) (.c (iv 0))),
  oV 24 (.mv (.t 23)),
  oG 24 true 25 (.mv (.t 4)),
  oG 24 true 26 (.ints .eql (.t 25) (.c (iv 0))),
  oV 27 (.pick (.t 24) (.t 26) (.c (bv false))),
  oV 28 (.mv (.t 27)),
  oG 28 true 29 (.mv (.t 6)),
  oG 28 true 30 (.ints .eql (.t 29) (.c (iv 0))),
  oV 31 (.pick (.t 28) (.t 30) (.c (bv false))),
  oV 32 (.mv (.t 31)),
  oG 32 true 33 (.mv (.t 5)),
  oG 32 true 34 (.ints .eql (.t 33) (.c (iv 6))),
  oV 35 (.pick (.t 32) (.t 34) (.c (bv false))),
  oV 36 (.mv (.t 35)),
  oG 36 true 37 (.mv (.t 1)),
  oG 36 true 38 (.bld [.v (.int .i64 0), .v (mkS []), .v (mkS []), .v (.int .i64 0), .v (.int .i64 0), .nl 2] [(0, 1, .c (iv 11))]),
  oG 36 true 39 (.bslF 6 [.t 38]),
  oG 36 true 40 (.bld [.v (mkS []), .nl 6] [(0, 1, .c (sv [120])), (1, 1, .t 39)]),
  oG 36 true 41 (.bslF 2 [.t 40]),
  oG 36 true 42 (.bld [.nl 2, .nl 1] [(0, 1, .t 41)]),
  oG 36 true 43 (.bslF 2 [.t 42]),
  ⟨some (36, true), .call (some 44) zBG [(.t 37, .v), (.t 43, .v)]⟩,
  oV 45 (.pick (.t 36) (.t 44) (.c (bv false))),
  oV 46 (.mv (.t 45)),
  oG 46 true 47 (.mv (.t 3)),
  oG 46 true 48 (.len false (.t 47)),
  oG 46 true 49 (.ints .eql (.t 48) (.c (iv 1))),
  oV 50 (.pick (.t 46) (.t 49) (.c (bv false))),
  oV 51 (.mv (.t 50)),
  oG 51 true 52 (.mv (.t 3)),
  oG 51 true 53 (.idxA 2 (.t 52) (.c (iv 0))),
  oG 51 true 54 (.fldR (.t 53) 0 1),
  oG 51 true 55 (.ldR (.t 54) 1 false),
  oG 51 true 56 (.len false (.t 55)),
  oG 51 true 57 (.ints .eql (.t 56) (.c (iv 1))),
  oV 58 (.pick (.t 51) (.t 57) (.c (bv false))),
  oV 59 (.mv (.t 58)),
  oG 59 true 60 (.mv (.t 3)),
  oG 59 true 61 (.idxA 2 (.t 60) (.c (iv 0))),
  oG 59 true 62 (.fldR (.t 61) 0 1),
  oG 59 true 63 (.ldR (.t 62) 1 false),
  oG 59 true 64 (.idxA 2 (.t 63) (.c (iv 0))),
  oG 59 true 65 (.fldR (.t 64) 1 1),
  oG 59 true 66 (.ldR (.t 65) 1 false),
  oG 59 true 67 (.len false (.t 66)),
  oG 59 true 68 (.ints .eql (.t 67) (.c (iv 1))),
  oV 69 (.pick (.t 59) (.t 68) (.c (bv false))),
  oV 70 (.mv (.t 69)),
  oG 70 true 71 (.mv (.t 3)),
  oG 70 true 72 (.idxA 2 (.t 71) (.c (iv 0))),
  oG 70 true 73 (.fldR (.t 72) 0 1),
  oG 70 true 74 (.ldR (.t 73) 1 false),
  oG 70 true 75 (.idxA 2 (.t 74) (.c (iv 0))),
  oG 70 true 76 (.fldR (.t 75) 1 1),
  oG 70 true 77 (.ldR (.t 76) 1 false),
  oG 70 true 78 (.idxA 6 (.t 77) (.c (iv 0))),
  oG 70 true 79 (.fldR (.t 78) 0 1),
  oG 70 true 80 (.ldR (.t 79) 1 false),
  oG 70 true 81 (.ints .eql (.t 80) (.c (iv 14))),
  oV 82 (.pick (.t 70) (.t 81) (.c (bv false))),
  oV 0 (.mv (.t 82))] [22, 23, 24, 25, 26, 27, 28, 29, 30, 31, 32, 33, 34, 35, 36, 37, 38, 39, 40, 41, 42, 43, 44, 45, 46, 47, 48, 49, 50, 51, 52, 53, 54, 55, 56, 57, 58, 59, 60, 61, 62, 63, 64, 65, 66, 67, 68, 69, 70, 71, 72, 73, 74, 75, 76, 77, 78, 79, 80, 81, 82]
abbrev zQO : HCode := (.seq zMK (.seq zML (.seq zMM (.seq zMN (.seq zMO .ret)))))
abbrev zHA : Env := { N := 83, Γ := [], L := 83, nfix := 0 }
abbrev law_plainBegun_R : List RSrc := [.tmp 0]
theorem zMP : zCf Tryz.prog zCz zQO zHA law_plainBegun_R := by kernel_rfl
abbrev zN2 : HCode := oN [oV 2 (.boxF (.t 0)),
  oV 4 (.mv (.c (bv false)))]
abbrev zN3 : HCode := oR [oV 22 (.mv (.t 1)),
  oC 23 zCK [(.t 22, .v)],
  oV 21 (.mv (.t 23)),
  oV 24 (.ext 21 0),
  oV 25 (.ext 21 1),
  oV 5 (.mv (.t 24)),
  oV 6 (.mv (.t 25))] [21, 22, 23, 24, 25]
abbrev zN4 : HCode := oR [oV 26 (.mv (.t 6)),
  oV 27 (.ints .neq (.t 26) (.c (iv 0)))] [26]
abbrev zN5 : HCode := oR [oC 28 zCz [],
  oV 4 (.mv (.t 28))] [28]
abbrev zN6 : HCode := oR [oV 30 (.mv (.t 1)),
  oC 31 zEl [(.t 30, .v)],
  oV 29 (.mv (.t 31)),
  oV 32 (.ext 29 0),
  oV 33 (.ext 29 1),
  oV 7 (.mv (.t 32)),
  oV 8 (.mv (.t 33))] [29, 30, 31, 32, 33]
abbrev zN7 : HCode := oR [oV 35 (.mv (.t 1)),
  oC 36 zDr [(.t 35, .v)],
  oV 34 (.mv (.t 36)),
  oV 37 (.ext 34 0),
  oV 38 (.ext 34 1),
  oV 9 (.mv (.t 37)),
  oV 10 (.mv (.t 38))] [34, 35, 36, 37, 38]
abbrev zN8 : HCode := oR [oV 40 (.mv (.t 5)),
  oC 41 zDr [(.t 40, .v)],
  oV 39 (.mv (.t 41)),
  oV 42 (.ext 39 0),
  oV 43 (.ext 39 1),
  oV 11 (.mv (.t 42)),
  oV 12 (.mv (.t 43))] [39, 40, 41, 42, 43]
abbrev zN9 : HCode := oR [oV 45 (.mv (.t 5)),
  oC 46 zCK [(.t 45, .v)],
  oV 44 (.mv (.t 46)),
  oV 47 (.ext 44 0),
  oV 48 (.ext 44 1),
  oV 13 (.mv (.t 47)),
  oV 14 (.mv (.t 48))] [44, 45, 46, 47, 48]
abbrev zOa : HCode := oR [oV 49 (.mv (.t 8)),
  oV 50 (.ints .neq (.t 49) (.c (iv 0))),
  oV 51 (.mv (.t 50)),
  oG 51 false 52 (.mv (.t 10)),
  oG 51 false 53 (.ints .neq (.t 52) (.c (iv 0))),
  oV 54 (.pick (.t 51) (.c (bv true)) (.t 53)),
  oV 55 (.mv (.t 54)),
  oG 55 false 56 (.mv (.t 12)),
  oG 55 false 57 (.ints .neq (.t 56) (.c (iv 0))),
  oV 58 (.pick (.t 55) (.c (bv true)) (.t 57)),
  oV 59 (.mv (.t 58)),
  oG 59 false 60 (.mv (.t 14)),
  oG 59 false 61 (.ints .neq (.t 60) (.c (iv 0))),
  oV 62 (.pick (.t 59) (.c (bv true)) (.t 61)),
  oV 63 (.mv (.t 62)),
  oG 63 false 64 (.mv (.t 11)),
  oG 63 false 65 (.mv (.t 9)),
  oG 63 false 66 (.ints .gtr (.t 64) (.t 65)),
  oV 67 (.pick (.t 63) (.c (bv true)) (.t 66)),
  oV 68 (.mv (.t 67)),
  oG 68 false 69 (.mv (.t 13)),
  oG 68 false 70 (.mv (.t 5)),
  ⟨some (68, false), .call (some 71) zBG [(.t 69, .v), (.t 70, .v)]⟩,
  oG 68 false 72 (.not (.t 71)),
  oV 73 (.pick (.t 68) (.c (bv true)) (.t 72))] [49, 50, 51, 52, 53, 54, 55, 56, 57, 58, 59, 60, 61, 62, 63, 64, 65, 66, 67, 68, 69, 70, 71, 72]
abbrev zOb : HCode := oN [oV 4 (.mv (.c (bv false)))]
abbrev zMQ : HCode := oR [oV 75 (.ldR (.t 2) 1 true),
  oV 76 (.mv (.t 1)),
  oC 77 zDS [(.t 75, .v), (.t 76, .v)],
  oV 74 (.mv (.t 77)),
  oV 78 (.ext 74 0),
  oV 79 (.ext 74 1),
  oV 15 (.mv (.t 78)),
  oV 16 (.mv (.t 79))] [74, 75, 76, 77, 78, 79]
abbrev zMR : HCode := oR [oV 81 (.ldR (.t 2) 1 true),
  oV 82 (.mv (.t 5)),
  oC 83 zDS [(.t 81, .v), (.t 82, .v)],
  oV 80 (.mv (.t 83)),
  oV 84 (.ext 80 0),
  oV 85 (.ext 80 1),
  oV 17 (.mv (.t 84)),
  oV 18 (.mv (.t 85))] [80, 81, 82, 83, 84, 85]
abbrev zMS : HCode := oR [oV 87 (.ldR (.t 2) 1 true),
  oV 88 (.mv (.t 7)),
  oC 89 zDS [(.t 87, .v), (.t 88, .v)],
  oV 86 (.mv (.t 89)),
  oV 90 (.ext 86 0),
  oV 91 (.ext 86 1),
  oV 19 (.mv (.t 90)),
  oV 20 (.mv (.t 91))] [86, 87, 88, 89, 90, 91]
abbrev zMT : HCode := oR [oC 92 zCz [],
  oV 93 (.mv (.t 92)),
  oG 93 true 94 (.mv (.t 16)),
  oG 93 true 95 (.mv (.t 18)),
  oG 93 true 96 (.ints .eql (.t 94) (.t 95)),
  oV 97 (.pick (.t 93) (.t 96) (.c (bv false))),
  oV 98 (.mv (.t 97)),
  oG 98 true 99 (.mv (.t 16)),
  oG 98 true 100 (.mv (.t 20)),
  oG 98 true 101 (.ints .eql (.t 99) (.t 100)),
  oV 102 (.pick (.t 98) (.t 101) (.c (bv false))),
  oV 103 (.mv (.t 102)),
  oG 103 true 104 (.mv (.t 15)),
  oG 103 true 105 (.mv (.t 17)),
  ⟨some (103, true), .call (some 106) zCl [(.t 104, .v), (.t 105, .v)]⟩,
  oV 107 (.pick (.t 103) (.t 106) (.c (bv false))),
  oV 108 (.mv (.t 107)),
  oG 108 true 109 (.mv (.t 15)),
  oG 108 true 110 (.mv (.t 19)),
  ⟨some (108, true), .call (some 111) zCl [(.t 109, .v), (.t 110, .v)]⟩,
  oV 112 (.pick (.t 108) (.t 111) (.c (bv false))),
  oV 4 (.mv (.t 112))] [92, 93, 94, 95, 96, 97, 98, 99, 100, 101, 102, 103, 104, 105, 106, 107, 108, 109, 110, 111, 112]
abbrev zTP : HCode := (.seq zN2 (.seq zN3 (.seq (.seq zN4 (.cond (.t 27) (.seq zN5 .ret) .skip)) (.seq zN6 (.seq zN7 (.seq zN8 (.seq zN9 (.seq (.seq zOa (.cond (.t 73) (.seq zOb .ret) .skip)) (.seq zMQ (.seq zMR (.seq zMS (.seq zMT .ret))))))))))))
abbrev zEQ : Env := { N := 113, Γ := [], L := 113, nfix := 0 }
abbrev law_PlainSame_R : List RSrc := [.tmp 4]
theorem zHB : zCf Tryz.prog zHz zTP zEQ law_PlainSame_R := by kernel_rfl
end Go.Hx
end
