/-
  Walks of functions of the program over an abstract layer, and the laws that they use: each contract says what the function computes, for every input that its conditions let by. No other condition.
-/
import Derived.Test.YtjnagiaooecklabGreatDoorProg
import Derived.Test.YtjnagiaooecklabGreatDoorG11
import Derived.Test.YtjnagiaooecklabGreatDoorG10
set_option linter.all false
section
/-
 The abstract code of functions of the program, printed by gen.py; each stands for the given one. No condition.
-/
namespace Go.Hx
open Go.Proofs
variable [Glob]
abbrev zCf : Nat := 21
abbrev zEl : Nat := 73
abbrev zJn : Nat := 53
abbrev zBk : Nat := 3
abbrev zHg : Nat := 9
abbrev zOl : HCode := oN [oV 4 (.mv (.c (bv false)))]
abbrev zOm : HCode := oR [oV 6 (.mv (.t 0)),
  oV 7 (.len false (.t 6)),
  oV 8 (.mv (.t 1)),
  oV 9 (.len false (.t 8)),
  oV 10 (.ints .neq (.t 7) (.t 9))] [6, 7, 8, 9]
abbrev zOn : HCode := oN [oV 4 (.mv (.c (bv false)))]
abbrev zOo : HCode := oN [oV 5 (.mv (.c (iv 0)))]
abbrev zOp : HCode := oR [oV 11 (.mv (.t 5)),
  oV 12 (.mv (.t 0)),
  oV 13 (.len false (.t 12)),
  oV 14 (.ints .lss (.t 11) (.t 13))] [11, 12, 13]
abbrev zOq : HCode := oQ [oD 0 false (oV 17 (.mv (.t 0))),
  oD 1 false (oV 18 (.mv (.t 5))),
  oD 2 false (oV 19 (.idxA 1 (.t 17) (.t 18))),
  oD 3 false (oV 20 (.ldR (.t 19) 1 false)),
  oD 4 false (oV 21 (.mv (.t 1))),
  oD 5 false (oV 22 (.mv (.t 5))),
  oD 6 false (oV 23 (.idxA 1 (.t 21) (.t 22))),
  oD 7 false (oV 24 (.ldR (.t 23) 1 false)),
  oD 8 false (oV 25 (.ints .neq (.t 20) (.t 24)))] [17, 18, 19, 20, 21, 22, 23, 24]
abbrev zOr : HCode := oN [oV 4 (.mv (.c (bv false)))]
abbrev zOs : HCode := oR [oV 15 (.mv (.t 5)),
  oV 16 (.ints .add (.t 15) (.c (iv 1))),
  oV 5 (.mv (.t 16))] [15, 16]
abbrev zOt : HCode := oN [oV 4 (.mv (.c (bv true)))]
abbrev zUK : HCode := (.seq zOl (.seq (.seq zOm (.cond (.t 10) (.seq zOn .ret) .skip)) (.seq (.seq zOo (.block 0 (.loop (.seq (.seq zOp (.cond (.t 14) .skip (.exit 0))) (.seq (.block 1 (.seq zOq (.cond (.t 25) (.seq zOr .ret) .skip))) zOs))))) (.seq zOt .ret))))
abbrev zI9 : Env := { N := 26, Γ := [], L := 26, nfix := 0 }
abbrev ref_SameInts_R : List RSrc := [.tmp 4]
theorem zOu : zCa Tryz.prog zCf zUK zI9 ref_SameInts_R := by kernel_rfl
end Go.Hx
end

section
/-
 The abstract code of functions of the program, printed by gen.py; each stands for the given one. No condition.
-/
namespace Go.Hx
open Go.Proofs
variable [Glob]
abbrev zES : Nat := 99
abbrev zJo : Nat := 138
abbrev zDZ : Nat := 187
abbrev zD0 : Nat := 189
abbrev zC9 : Nat := 191
abbrev zCg : Nat := 185
abbrev zET : Nat := 192
abbrev zCh : Nat := 188
abbrev zCL : Nat := 186
abbrev zEU : Nat := 61
abbrev zCw : Nat := 72
abbrev zB6 : Nat := 71
abbrev zBx : Nat := 190
abbrev zAX : Nat := 228
abbrev zGG : HCode := oN [⟨none, .nlo 2 zHg 1⟩]
abbrev zGH : HCode := oR [oV 3 (.mv (.t 0)),
  ⟨none, .isn 4 false (.t 3)⟩] [3]
abbrev zGI : HCode := oN [⟨none, .nlo 2 zHg 1⟩]
abbrev zGJ : HCode := oR [⟨none, .bsl 5 zHg 1 []⟩,
  oV 6 (.mv (.t 0)),
  ⟨none, .app 7 zHg 1 (.t 5) (.t 6)⟩,
  ⟨none, .mvo 2 7⟩] [5, 6, 7]
abbrev zJp : HCode := (.seq zGG (.seq (.seq zGH (.cond (.t 4) (.seq zGI .ret) .skip)) (.seq zGJ .ret)))
abbrev zDE : Env := { N := 8, Γ := [], L := 8, nfix := 0 }
abbrev slices_Clone_string_R : List RSrc := [.tmp 2]
theorem zGK : zCa Tryz.prog zB6 zJp zDE slices_Clone_string_R := by kernel_rfl
abbrev zIx : HCode := oN [⟨none, .nlo 2 zEl 2⟩]
abbrev zIy : HCode := oR [oV 3 (.mv (.t 0)),
  ⟨none, .isn 4 false (.t 3)⟩] [3]
abbrev zIz : HCode := oN [⟨none, .nlo 2 zEl 2⟩]
abbrev zIA : HCode := oR [⟨none, .bsl 5 zEl 2 []⟩,
  oV 6 (.mv (.t 0)),
  ⟨none, .app 7 zEl 2 (.t 5) (.t 6)⟩,
  ⟨none, .mvo 2 7⟩] [5, 6, 7]
abbrev zLM : HCode := (.seq zIx (.seq (.seq zIy (.cond (.t 4) (.seq zIz .ret) .skip)) (.seq zIA .ret)))
abbrev zEm : Env := { N := 8, Γ := [], L := 8, nfix := 0 }
abbrev slices_Clone_Attr_R : List RSrc := [.tmp 2]
theorem zIB : zCa Tryz.prog zCw zLM zEm slices_Clone_Attr_R := by kernel_rfl
abbrev zFE : HCode := oN [oV 4 (.mv (.c (iv 0)))]
abbrev zFF : HCode := oR [oV 6 (.mv (.t 0)),
  oV 7 (.len false (.t 6)),
  oV 8 (.mv (.c (iv 0)))] [6]
abbrev zFG : HCode := oN [oV 9 (.ints .lss (.t 8) (.t 7))]
abbrev zFH : HCode := oR [oV 10 (.mv (.t 8)),
  oV 5 (.mv (.t 10))] [10]
abbrev zFI : HCode := oR [oV 11 (.mv (.t 1)),
  oV 12 (.mv (.t 0)),
  oV 13 (.mv (.t 5)),
  oV 14 (.idxA 2 (.t 12) (.t 13)),
  oV 15 (.ldR (.t 14) 2 true),
  ⟨none, .callv (some 16) (.t 11) [(.t 15, .v)]⟩] [11, 12, 13, 14, 15]
abbrev zFJ : HCode := oR [oV 17 (.mv (.t 5)),
  oV 4 (.mv (.t 17))] [17]
abbrev zFK : HCode := oR [oV 18 (.ints .add (.t 8) (.c (iv 1))),
  oV 8 (.mv (.t 18))] [18]
abbrev zFL : HCode := oN [oV 4 (.mv (.c (iv (-1))))]
abbrev zHh : HCode := (.seq zFE (.seq (.seq zFF (.block 0 (.loop (.seq zFG (.seq (.cond (.t 9) .skip (.exit 0)) (.seq (.block 1 (.seq zFH (.seq zFI (.cond (.t 16) (.seq zFJ .ret) .skip)))) zFK)))))) (.seq zFL .ret)))
abbrev zBW : Env := { N := 19, Γ := [], L := 19, nfix := 0 }
abbrev slices_IndexFunc_Attr_R : List RSrc := [.tmp 4]
theorem zCS : zCa Tryz.prog zAX zHh zBW slices_IndexFunc_Attr_R := by kernel_rfl
abbrev zEn : HCode := oN [oV 4 (.mv (.c (bv false)))]
abbrev zEo : HCode := oR [oV 5 (.mv (.t 0)),
  oV 6 (.mv (.t 1)),
  oC 7 zAX [(.t 5, .v), (.t 6, .v)],
  oV 8 (.ints .geq (.t 7) (.c (iv 0))),
  oV 4 (.mv (.t 8))] [5, 6, 7, 8]
abbrev zFM : HCode := (.seq zEn (.seq zEo .ret))
abbrev zCr : Env := { N := 9, Γ := [], L := 9, nfix := 0 }
abbrev slices_ContainsFunc_Attr_R : List RSrc := [.tmp 4]
theorem zEp : zCa Tryz.prog zBx zFM zCr slices_ContainsFunc_Attr_R := by kernel_rfl
abbrev zJq : HCode := oN [oV 4 (.mv (.c (bv false)))]
abbrev zJr : HCode := oN [oV 5 (.mv (.c (sv [])))]
abbrev zJs : HCode := oN [oV 8 (.mv (.t 0)),
  oV 9 (.len false (.t 8)),
  oV 10 (.mv (.c (iv 0)))]
abbrev zJt : HCode := oN [oV 11 (.ints .lss (.t 10) (.t 9))]
abbrev zJu : HCode := oR [oV 12 (.idxA 1 (.t 8) (.t 10)),
  oV 13 (.ldR (.t 12) 1 false),
  oV 7 (.mv (.t 13))] [12, 13]
abbrev zJv : HCode := oR [oV 14 (.mv (.t 1)),
  oV 15 (.mv (.t 7)),
  ⟨none, .callv (some 16) (.t 14) [(.t 15, .v)]⟩,
  oC 17 zCg [(.t 16, .v)],
  oV 18 (.not (.t 17)),
  oV 19 (.mv (.t 18)),
  oG 19 false 20 (.mv (.t 1)),
  oG 19 false 21 (.mv (.t 7)),
  ⟨some (19, false), .callv (some 22) (.t 20) [(.t 21, .v)]⟩,
  oG 19 false 23 (.mv (.t 5)),
  oG 19 false 24 (.strs .leq (.t 22) (.t 23)),
  oV 25 (.pick (.t 19) (.c (bv true)) (.t 24))] [14, 15, 16, 17, 18, 19, 20, 21, 22, 23, 24]
abbrev zJw : HCode := oN [oV 4 (.mv (.c (bv false)))]
abbrev zJx : HCode := oR [oV 26 (.mv (.t 1)),
  oV 27 (.mv (.t 7)),
  ⟨none, .callv (some 28) (.t 26) [(.t 27, .v)]⟩,
  oV 5 (.mv (.t 28))] [26, 27, 28]
abbrev zJy : HCode := oR [oV 29 (.ints .add (.t 10) (.c (iv 1))),
  oV 10 (.mv (.t 29))] [29]
abbrev zJz : HCode := oN [oV 4 (.mv (.c (bv true)))]
abbrev zM1 : HCode := (.seq zJq (.seq zJr (.seq (.seq zJs (.block 0 (.loop (.seq zJt (.seq (.cond (.t 11) .skip (.exit 0)) (.seq (.block 1 (.seq zJu (.seq (.seq zJv (.cond (.t 25) (.seq zJw .ret) .skip)) zJx))) zJy)))))) (.seq zJz .ret))))
abbrev zEV : Env := { N := 30, Γ := [], L := 30, nfix := 0 }
abbrev doc_rises_string_R : List RSrc := [.tmp 4]
theorem zJA : zCa Tryz.prog zCL zM1 zEV doc_rises_string_R := by kernel_rfl
abbrev zHi : HCode := oN [oV 4 (.mv (.c (bv false)))]
abbrev zHj : HCode := oN [oV 5 (.mv (.c (sv [])))]
abbrev zHk : HCode := oN [oV 8 (.mv (.t 0)),
  oV 9 (.len false (.t 8)),
  oV 10 (.mv (.c (iv 0)))]
abbrev zHl : HCode := oN [oV 11 (.ints .lss (.t 10) (.t 9))]
abbrev zHm : HCode := oR [oV 12 (.idxA 2 (.t 8) (.t 10)),
  oV 13 (.ldR (.t 12) 2 true),
  ⟨none, .alloc 7 0 30 [.v (mkS []), .v (mkS [])]⟩,
  ⟨none, .sto (.t 7) 0 30 0 2 (.t 13)⟩] [12, 13]
abbrev zHn : HCode := oR [oV 14 (.mv (.t 1)),
  oV 15 (.ldB (.t 7) 0 30 0 2 true),
  ⟨none, .callv (some 16) (.t 14) [(.t 15, .v)]⟩,
  oC 17 zCg [(.t 16, .v)],
  oV 18 (.not (.t 17)),
  oV 19 (.mv (.t 18)),
  oG 19 false 20 (.mv (.t 1)),
  oG 19 false 21 (.ldB (.t 7) 0 30 0 2 true),
  ⟨some (19, false), .callv (some 22) (.t 20) [(.t 21, .v)]⟩,
  oG 19 false 23 (.mv (.t 5)),
  oG 19 false 24 (.strs .leq (.t 22) (.t 23)),
  oV 25 (.pick (.t 19) (.c (bv true)) (.t 24))] [14, 15, 16, 17, 18, 19, 20, 21, 22, 23, 24]
abbrev zHo : HCode := oN [oV 4 (.mv (.c (bv false)))]
abbrev zHp : HCode := oR [oV 26 (.mv (.t 1)),
  oV 27 (.ldB (.t 7) 0 30 0 2 true),
  ⟨none, .callv (some 28) (.t 26) [(.t 27, .v)]⟩,
  oV 5 (.mv (.t 28))] [26, 27, 28]
abbrev zHq : HCode := oR [oV 29 (.ints .add (.t 10) (.c (iv 1))),
  oV 10 (.mv (.t 29))] [29]
abbrev zHr : HCode := oN [oV 4 (.mv (.c (bv true)))]
abbrev zKB : HCode := (.seq zHi (.seq zHj (.seq (.seq zHk (.block 0 (.loop (.seq zHl (.seq (.cond (.t 11) .skip (.exit 0)) (.seq (.block 1 (.seq zHm (.seq (.seq zHn (.cond (.t 25) (.seq zHo .ret) .skip)) zHp))) zHq)))))) (.seq zHr .ret))))
abbrev zDS : Env := { N := 30, Γ := [(30, 2)], L := 32, nfix := 0 }
abbrev doc_rises_api_Attr_R : List RSrc := [.tmp 4]
theorem zHs : zCa Tryz.prog zCh zKB zDS doc_rises_api_Attr_R := by kernel_rfl
abbrev zW1 : HCode := oN [oV 1 (.boxF (.t 0)),
  oV 2 (.mv (.c (bv false)))]
abbrev zW2 : HCode := oR [oV 3 (.fldR (.t 1) 1 1),
  oV 4 (.ldR (.t 3) 1 false),
  oC 5 zCg [(.t 4, .v)],
  oV 6 (.mv (.t 5)),
  oG 6 true 7 (.fldR (.t 1) 2 1),
  oG 6 true 8 (.ldR (.t 7) 1 false),
  oG 6 true 9 (.strs .eql (.t 8) (.c (sv []))),
  oG 6 true 10 (.mv (.t 9)),
  oG 10 false 11 (.fldR (.t 1) 2 1),
  oG 10 false 12 (.ldR (.t 11) 1 false),
  ⟨some (10, false), .call (some 13) zCg [(.t 12, .v)]⟩,
  oG 6 true 14 (.pick (.t 10) (.c (bv true)) (.t 13)),
  oV 15 (.pick (.t 6) (.t 14) (.c (bv false))),
  oV 16 (.mv (.t 15)),
  oG 16 true 17 (.fldR (.t 1) 3 1),
  oG 16 true 18 (.ldR (.t 17) 1 false),
  oG 16 true 19 (.len false (.t 18)),
  oG 16 true 20 (.ints .leq (.t 19) (.c (iv 6))),
  oV 21 (.pick (.t 16) (.t 20) (.c (bv false))),
  oV 22 (.mv (.t 21)),
  oG 22 true 23 (.fldR (.t 1) 4 1),
  oG 22 true 24 (.ldR (.t 23) 1 false),
  oG 22 true 25 (.len false (.t 24)),
  oG 22 true 26 (.ints .leq (.t 25) (.c (iv 4))),
  oV 27 (.pick (.t 22) (.t 26) (.c (bv false))),
  oV 28 (.mv (.t 27)),
  oG 28 true 29 (.fldR (.t 1) 3 1),
  oG 28 true 30 (.ldR (.t 29) 1 false),
  ⟨some (28, true), .call (some 31) zCL [(.t 30, .v), (.f zDZ, .v)]⟩,
  oV 32 (.pick (.t 28) (.t 31) (.c (bv false))),
  oV 33 (.mv (.t 32)),
  oG 33 true 34 (.fldR (.t 1) 4 1),
  oG 33 true 35 (.ldR (.t 34) 1 false),
  ⟨some (33, true), .call (some 36) zCh [(.t 35, .v), (.f zD0, .v)]⟩,
  oV 37 (.pick (.t 33) (.t 36) (.c (bv false))),
  oV 38 (.mv (.t 37)),
  oG 38 true 39 (.fldR (.t 1) 4 1),
  oG 38 true 40 (.ldR (.t 39) 1 false),
  ⟨some (38, true), .call (some 41) zBx [(.t 40, .v), (.f zC9, .v)]⟩,
  oG 38 true 42 (.not (.t 41)),
  oV 43 (.pick (.t 38) (.t 42) (.c (bv false))),
  oV 2 (.mv (.t 43))] [3, 4, 5, 6, 7, 8, 9, 10, 11, 12, 13, 14, 15, 16, 17, 18, 19, 20, 21, 22, 23, 24, 25, 26, 27, 28, 29, 30, 31, 32, 33, 34, 35, 36, 37, 38, 39, 40, 41, 42, 43]
abbrev yCD : HCode := (.seq zW1 (.seq zW2 .ret))
abbrev zRg : Env := { N := 44, Γ := [], L := 44, nfix := 0 }
abbrev doc_Fine_R : List RSrc := [.tmp 2]
theorem zW3 : zCa Tryz.prog zJo yCD zRg doc_Fine_R := by kernel_rfl
abbrev zSp : HCode := oN [oV 2 (.mv (.c (sv [])))]
abbrev zSq : HCode := oR [oV 3 (.mv (.t 0)),
  oV 2 (.mv (.t 3))] [3]
abbrev zZs : HCode := (.seq zSp (.seq zSq .ret))
abbrev zMG : Env := { N := 4, Γ := [], L := 4, nfix := 0 }
abbrev doc_Fine_1_R : List RSrc := [.tmp 2]
theorem zSr : zCa Tryz.prog zDZ zZs zMG doc_Fine_1_R := by kernel_rfl
abbrev zSs : HCode := oN [oV 1 (.boxF (.t 0)),
  oV 2 (.mv (.c (sv [])))]
abbrev zSt : HCode := oR [oV 3 (.fldR (.t 1) 0 1),
  oV 4 (.ldR (.t 3) 1 false),
  oV 2 (.mv (.t 4))] [3, 4]
abbrev zZt : HCode := (.seq zSs (.seq zSt .ret))
abbrev zMH : Env := { N := 5, Γ := [], L := 5, nfix := 0 }
abbrev doc_Fine_2_R : List RSrc := [.tmp 2]
theorem zSu : zCa Tryz.prog zD0 zZt zMH doc_Fine_2_R := by kernel_rfl
abbrev zSv : HCode := oN [oV 1 (.boxF (.t 0)),
  oV 2 (.mv (.c (bv false)))]
abbrev zSw : HCode := oR [oV 3 (.fldR (.t 1) 1 1),
  oV 4 (.ldR (.t 3) 1 false),
  oC 5 zET [(.t 4, .v)],
  oV 6 (.not (.t 5)),
  oV 2 (.mv (.t 6))] [3, 4, 5, 6]
abbrev zZu : HCode := (.seq zSv (.seq zSw .ret))
abbrev zMI : Env := { N := 7, Γ := [], L := 7, nfix := 0 }
abbrev doc_Fine_3_R : List RSrc := [.tmp 2]
theorem zSx : zCa Tryz.prog zC9 zZu zMI doc_Fine_3_R := by kernel_rfl
abbrev zUL : HCode := oN [oV 1 (.boxF (.t 0)),
  oV 2 (.mv (.c (iv 0)))]
abbrev zUM : HCode := oR [oV 6 (.fldR (.t 1) 0 1),
  oV 7 (.ldR (.t 6) 1 false),
  oV 8 (.len false (.t 7)),
  oV 9 (.ints .lss (.t 8) (.c (iv 1))),
  oV 10 (.mv (.t 9)),
  oG 10 false 11 (.fldR (.t 1) 0 1),
  oG 10 false 12 (.ldR (.t 11) 1 false),
  oG 10 false 13 (.len false (.t 12)),
  oG 10 false 14 (.ints .gtr (.t 13) (.c (iv 64))),
  oV 15 (.pick (.t 10) (.c (bv true)) (.t 14))] [6, 7, 8, 9, 10, 11, 12, 13, 14]
abbrev zUN : HCode := oN [oV 2 (.mv (.c (iv 2)))]
abbrev zUO : HCode := oN [⟨none, .nlk 3 zBk 1⟩]
abbrev zUP : HCode := oR [oV 16 (.fldR (.t 1) 0 1),
  oV 17 (.ldR (.t 16) 1 false),
  oV 18 (.len false (.t 17)),
  oV 19 (.mv (.c (iv 0)))] [16]
abbrev zUQ : HCode := oN [oV 20 (.ints .lss (.t 19) (.t 18))]
abbrev zUR : HCode := .reg [oV 21 (.mv (.t 19)),
  oV 22 (.idxA 5 (.t 17) (.t 19)),
  oV 23 (.ldR (.t 22) 5 true),
  ⟨none, .alloc 5 0 69 [.v (.int .i64 0), .v (mkS []), .v (mkS []), .nl 1, .nl 2]⟩,
  oV 4 (.mv (.t 21)),
  ⟨none, .sto (.t 5) 0 69 0 5 (.t 23)⟩] false [.frz 0 69 5, .forget [21, 22, 23]]
abbrev zUS : HCode := .rdr 3 [oV 24 (.mv (.t 3)),
  oV 25 (.len false (.t 24)),
  oV 26 (.ints .gtr (.t 25) (.c (iv 0))),
  oV 27 (.mv (.t 26)),
  oG 27 true 28 (.mv (.t 3)),
  oG 27 true 29 (.mv (.t 3)),
  oG 27 true 30 (.len false (.t 29)),
  oG 27 true 31 (.ints .sub (.t 30) (.c (iv 1))),
  oG 27 true 32 (.idxA 1 (.t 28) (.t 31)),
  oG 27 true 33 (.ldR (.t 32) 1 false),
  oG 27 true 34 (.fldR (.t 5) 0 1),
  oG 27 true 35 (.ldR (.t 34) 1 false),
  oG 27 true 36 (.ints .neq (.t 33) (.t 35)),
  oV 37 (.pick (.t 27) (.t 36) (.c (bv false)))] true [.forget [24, 25, 26, 27, 28, 29, 30, 31, 32, 33, 34, 35, 36]]
abbrev zUT : HCode := oR [⟨none, .mvk 38 3⟩,
  oV 39 (.mv (.t 3)),
  oV 40 (.len false (.t 39)),
  oV 41 (.ints .sub (.t 40) (.c (iv 1))),
  ⟨none, .trk 42 38 (.t 41)⟩,
  ⟨none, .mvk 3 42⟩] [38, 39, 40, 41, 42]
abbrev zUU : HCode := .rdr 3 [oV 43 (.ldR (.t 5) 5 true),
  oC 44 zJo [(.t 43, .v)],
  oV 45 (.not (.t 44)),
  oV 46 (.mv (.t 45)),
  oG 46 false 47 (.mv (.t 4)),
  oG 46 false 48 (.ints .eql (.t 47) (.c (iv 0))),
  oG 46 false 49 (.mv (.t 48)),
  oG 49 true 50 (.fldR (.t 5) 0 1),
  oG 49 true 51 (.ldR (.t 50) 1 false),
  oG 49 true 52 (.ints .neq (.t 51) (.c (iv (-1)))),
  oG 46 false 53 (.pick (.t 49) (.t 52) (.c (bv false))),
  oV 54 (.pick (.t 46) (.c (bv true)) (.t 53)),
  oV 55 (.mv (.t 54)),
  oG 55 false 56 (.mv (.t 4)),
  oG 55 false 57 (.ints .gtr (.t 56) (.c (iv 0))),
  oG 55 false 58 (.mv (.t 57)),
  oG 58 true 59 (.mv (.t 3)),
  oG 58 true 60 (.len false (.t 59)),
  oG 58 true 61 (.ints .eql (.t 60) (.c (iv 0))),
  oG 55 false 62 (.pick (.t 58) (.t 61) (.c (bv false))),
  oV 63 (.pick (.t 55) (.c (bv true)) (.t 62))] false [.forget [43, 44, 45, 46, 47, 48, 49, 50, 51, 52, 53, 54, 55, 56, 57, 58, 59, 60, 61, 62]]
abbrev zSy : HCode := oN [oV 2 (.mv (.c (iv 1)))]
abbrev zSz : HCode := oR [⟨none, .mvk 64 3⟩,
  oV 65 (.mv (.t 4)),
  oV 66 (.bslF 1 [.t 65]),
  ⟨none, .apk 67 zBk 1 64 (.t 66)⟩,
  ⟨none, .mvk 3 67⟩] [64, 65, 66, 67]
abbrev zSA : HCode := oR [oV 68 (.ints .add (.t 19) (.c (iv 1))),
  oV 19 (.mv (.t 68))] [68]
abbrev zSB : HCode := oN [oV 2 (.mv (.c (iv 0)))]
abbrev yAW : HCode := (.seq zUL (.seq (.seq zUM (.cond (.t 15) (.seq zUN .ret) .skip)) (.seq zUO (.seq (.seq zUP (.block 0 (.loop (.seq zUQ (.seq (.cond (.t 20) .skip (.exit 0)) (.seq (.block 1 (.seq zUR (.seq (.block 2 (.loop (.seq (.seq zUS (.cond (.t 37) .skip (.exit 2))) (.block 3 zUT)))) (.seq (.seq zUU (.cond (.t 63) (.seq zSy .ret) .skip)) zSz)))) zSA)))))) (.seq zSB .ret)))))
abbrev zOv : Env := { N := 69, Γ := [(69, 5)], L := 74, nfix := 0 }
abbrev doc_Check_R : List RSrc := [.tmp 2]
theorem zUV : zCa Tryz.prog zES yAW zOv doc_Check_R := by kernel_rfl
abbrev zUW : HCode := oN [⟨none, .alloc 0 0 13 [.nl 5]⟩]
abbrev zUX : HCode := oR [oV 1 (.bld [.v (.int .i64 0), .v (mkS []), .v (mkS []), .nl 1, .nl 2] [(0, 1, .c (iv (-1))), (1, 1, .c (sv [108, 105, 115, 116])), (2, 1, .c (sv [116, 111, 112]))]),
  oV 2 (.bslF 1 [.c (sv [97])]),
  oV 3 (.bld [.v (.int .i64 0), .v (mkS []), .v (mkS []), .nl 1, .nl 2] [(0, 1, .c (iv 0)), (1, 1, .c (sv [105, 116, 101, 109])), (3, 1, .t 2)]),
  oV 4 (.bslF 1 [.c (sv [98])]),
  oV 5 (.bld [.v (.int .i64 0), .v (mkS []), .v (mkS []), .nl 1, .nl 2] [(0, 1, .c (iv 0)), (1, 1, .c (sv [105, 116, 101, 109])), (3, 1, .t 4)]),
  oV 6 (.bld [.v (mkS []), .v (mkS [])] [(0, 1, .c (sv [116, 111])), (1, 1, .c (sv [111, 110, 101, 32, 116, 119, 111]))]),
  oV 7 (.bslF 2 [.t 6]),
  oV 8 (.bld [.v (.int .i64 0), .v (mkS []), .v (mkS []), .nl 1, .nl 2] [(0, 1, .c (iv 2)), (1, 1, .c (sv [108, 105, 110, 107])), (4, 1, .t 7)]),
  oV 9 (.bslF 1 [.c (sv [97])]),
  oV 10 (.bld [.v (.int .i64 0), .v (mkS []), .v (mkS []), .nl 1, .nl 2] [(0, 1, .c (iv 0)), (1, 1, .c (sv [105, 116, 101, 109])), (3, 1, .t 9)]),
  oV 11 (.bslF 5 [.t 1, .t 3, .t 5, .t 8, .t 10]),
  oV 12 (.bld [.nl 5] [(0, 1, .t 11)]),
  ⟨none, .sto (.t 0) 0 13 0 1 (.t 12)⟩] [1, 2, 3, 4, 5, 6, 7, 8, 9, 10, 11, 12]
abbrev yAX : HCode := (.seq zUW (.seq zUX .ret))
abbrev zOw : Env := { N := 13, Γ := [(13, 1)], L := 14, nfix := 0 }
abbrev law_small_R : List RSrc := [.cellB 0 0 13 0 1 true]
theorem zUY : zCa Tryz.prog zEU yAX zOw law_small_R := by kernel_rfl
end Go.Hx
end

section
/-
 The abstract code of functions of the program, printed by gen.py; each stands for the given one. No condition.
-/
namespace Go.Hx
open Go.Proofs
variable [Glob]
abbrev zCm : Nat := 239
abbrev zB3 : Nat := 240
abbrev zBt : Nat := 238
abbrev zEq : Nat := 237
abbrev zW4 : HCode := oN [oV 2 (.mv (.c (bv false)))]
abbrev zW5 : HCode := oR [oV 3 (.mv (.t 0)),
  oV 4 (.len true (.t 3)),
  oV 5 (.ints .gtr (.t 4) (.c (iv 0))),
  oV 6 (.mv (.t 5)),
  oG 6 true 7 (.mv (.t 0)),
  oG 6 true 8 (.len true (.t 7)),
  oG 6 true 9 (.ints .leq (.t 8) (.c (iv 12))),
  oV 10 (.pick (.t 6) (.t 9) (.c (bv false))),
  oV 11 (.mv (.t 10)),
  oG 11 true 12 (.mv (.t 0)),
  oG 11 true 13 (.idxS (.t 12) (.c (iv 0))),
  oG 11 true 14 (.ints .geq (.t 13) (.c (.one (.v (.int .u8 97))))),
  oV 15 (.pick (.t 11) (.t 14) (.c (bv false))),
  oV 16 (.mv (.t 15)),
  oG 16 true 17 (.mv (.t 0)),
  oG 16 true 18 (.idxS (.t 17) (.c (iv 0))),
  oG 16 true 19 (.ints .leq (.t 18) (.c (.one (.v (.int .u8 122))))),
  oV 20 (.pick (.t 16) (.t 19) (.c (bv false))),
  oV 21 (.mv (.t 20)),
  oG 21 true 22 (.mv (.t 0)),
  ⟨some (21, true), .call (some 23) zEq [(.t 22, .v), (.c (sv [97, 98, 99, 100, 101, 102, 103, 104, 105, 106, 107, 108, 109, 110, 111, 112, 113, 114, 115, 116, 117, 118, 119, 120, 121, 122, 48, 49, 50, 51, 52, 53, 54, 55, 56, 57, 45]), .v)]⟩,
  oG 21 true 24 (.strs .eql (.t 23) (.c (sv []))),
  oV 25 (.pick (.t 21) (.t 24) (.c (bv false))),
  oV 26 (.mv (.t 25)),
  oG 26 true 27 (.mv (.t 0)),
  ⟨some (26, true), .call (some 28) zBt [(.t 27, .v), (.f zCm, .v)]⟩,
  oG 26 true 29 (.not (.t 28)),
  oV 30 (.pick (.t 26) (.t 29) (.c (bv false))),
  oV 2 (.mv (.t 30))] [3, 4, 5, 6, 7, 8, 9, 10, 11, 12, 13, 14, 15, 16, 17, 18, 19, 20, 21, 22, 23, 24, 25, 26, 27, 28, 29, 30]
abbrev yCE : HCode := (.seq zW4 (.seq zW5 .ret))
abbrev zRh : Env := { N := 31, Γ := [], L := 31, nfix := 0 }
abbrev doc_Name_R : List RSrc := [.tmp 2]
theorem zW6 : zCa Tryz.prog zCg yCE zRh doc_Name_R := by kernel_rfl
abbrev zSC : HCode := oN [oV 2 (.mv (.c (bv false)))]
abbrev zSD : HCode := oR [oV 3 (.mv (.t 0)),
  oV 4 (.ints .lss (.t 3) (.c (.one (.v (.int .i32 97))))),
  oV 5 (.mv (.t 4)),
  oG 5 false 6 (.mv (.t 0)),
  oG 5 false 7 (.ints .gtr (.t 6) (.c (.one (.v (.int .i32 122))))),
  oV 8 (.pick (.t 5) (.c (bv true)) (.t 7)),
  oV 9 (.mv (.t 8)),
  oG 9 true 10 (.mv (.t 0)),
  oG 9 true 11 (.ints .lss (.t 10) (.c (.one (.v (.int .i32 48))))),
  oG 9 true 12 (.mv (.t 11)),
  oG 12 false 13 (.mv (.t 0)),
  oG 12 false 14 (.ints .gtr (.t 13) (.c (.one (.v (.int .i32 57))))),
  oG 9 true 15 (.pick (.t 12) (.c (bv true)) (.t 14)),
  oV 16 (.pick (.t 9) (.t 15) (.c (bv false))),
  oV 17 (.mv (.t 16)),
  oG 17 true 18 (.mv (.t 0)),
  oG 17 true 19 (.ints .neq (.t 18) (.c (.one (.v (.int .i32 45))))),
  oV 20 (.pick (.t 17) (.t 19) (.c (bv false))),
  oV 2 (.mv (.t 20))] [3, 4, 5, 6, 7, 8, 9, 10, 11, 12, 13, 14, 15, 16, 17, 18, 19, 20]
abbrev zZv : HCode := (.seq zSC (.seq zSD .ret))
abbrev zMJ : Env := { N := 21, Γ := [], L := 21, nfix := 0 }
abbrev doc_Name_1_R : List RSrc := [.tmp 2]
theorem zSE : zCa Tryz.prog zCm zZv zMJ doc_Name_1_R := by kernel_rfl
abbrev zUZ : HCode := oN [oV 2 (.mv (.c (bv false)))]
abbrev zU0 : HCode := oR [oV 3 (.mv (.t 0)),
  oV 4 (.len true (.t 3)),
  oV 5 (.ints .leq (.t 4) (.c (iv 16))),
  oV 6 (.mv (.t 5)),
  oG 6 true 7 (.mv (.t 0)),
  ⟨some (6, true), .call (some 8) zBt [(.t 7, .v), (.f zB3, .v)]⟩,
  oG 6 true 9 (.not (.t 8)),
  oV 10 (.pick (.t 6) (.t 9) (.c (bv false))),
  oV 2 (.mv (.t 10))] [3, 4, 5, 6, 7, 8, 9, 10]
abbrev yAY : HCode := (.seq zUZ (.seq zU0 .ret))
abbrev zOx : Env := { N := 11, Γ := [], L := 11, nfix := 0 }
abbrev doc_Value_R : List RSrc := [.tmp 2]
theorem zU1 : zCa Tryz.prog zET yAY zOx doc_Value_R := by kernel_rfl
abbrev zPN : HCode := oN [oV 2 (.mv (.c (bv false)))]
abbrev zPO : HCode := oR [oV 3 (.mv (.t 0)),
  oV 4 (.ints .lss (.t 3) (.c (.one (.v (.int .i32 32))))),
  oV 5 (.mv (.t 4)),
  oG 5 false 6 (.mv (.t 0)),
  oG 5 false 7 (.ints .gtr (.t 6) (.c (.one (.v (.int .i32 126))))),
  oV 8 (.pick (.t 5) (.c (bv true)) (.t 7)),
  oV 9 (.mv (.t 8)),
  oG 9 false 10 (.mv (.t 0)),
  oG 9 false 11 (.ints .eql (.t 10) (.c (.one (.v (.int .i32 34))))),
  oV 12 (.pick (.t 9) (.c (bv true)) (.t 11)),
  oV 2 (.mv (.t 12))] [3, 4, 5, 6, 7, 8, 9, 10, 11, 12]
abbrev zW7 : HCode := (.seq zPN (.seq zPO .ret))
abbrev zKC : Env := { N := 13, Γ := [], L := 13, nfix := 0 }
abbrev doc_Value_1_R : List RSrc := [.tmp 2]
theorem zPP : zCa Tryz.prog zB3 zW7 zKC doc_Value_1_R := by kernel_rfl
end Go.Hx
end

section
/-
 The abstract code of functions of the program, printed by gen.py; each stands for the given one. No condition.
-/
namespace Go.Hx
open Go.Proofs
variable [Glob]
abbrev zEW : Nat := 221
abbrev zEX : Nat := 171
abbrev zU2 : HCode := oN [oV 1 (.boxF (.t 0)),
  oV 2 (.mv (.c (iv 0)))]
abbrev zU3 : HCode := oR [oV 5 (.fldR (.t 1) 0 1),
  oV 6 (.ldR (.t 5) 1 false),
  oV 7 (.fldR (.t 1) 1 1),
  oV 8 (.ldR (.t 7) 1 false),
  oV 9 (.bld [.v (.int .i64 0), .v (.int .i64 0)] [(0, 1, .t 6), (1, 1, .t 8)]),
  oV 10 (.mv (.c (iv 0)))] [5, 6, 7, 8]
abbrev zU4 : HCode := oN [oV 11 (.ints .lss (.t 10) (.c (iv 2)))]
abbrev zU5 : HCode := oR [oV 12 (.idxV 2 (.t 9) (.t 10)),
  oV 4 (.mv (.t 12))] [12]
abbrev zU6 : HCode := oR [oV 13 (.mv (.t 4)),
  oV 14 (.ints .lss (.t 13) (.c (iv (-1048576)))),
  oV 15 (.mv (.t 14)),
  oG 15 false 16 (.mv (.t 4)),
  oG 15 false 17 (.ints .gtr (.t 16) (.c (iv 1048576))),
  oV 18 (.pick (.t 15) (.c (bv true)) (.t 17))] [13, 14, 15, 16, 17]
abbrev zU7 : HCode := oN [oV 2 (.mv (.c (iv 3)))]
abbrev zU8 : HCode := oR [oV 19 (.ints .add (.t 10) (.c (iv 1))),
  oV 10 (.mv (.t 19))] [19]
abbrev zU9 : HCode := oN [oV 2 (.mv (.c (iv 0)))]
abbrev yAZ : HCode := (.seq zU2 (.seq (.seq zU3 (.block 0 (.loop (.seq zU4 (.seq (.cond (.t 11) .skip (.exit 0)) (.seq (.block 1 (.seq zU5 (.seq zU6 (.cond (.t 18) (.seq zU7 .ret) .skip)))) zU8)))))) (.seq zU9 .ret)))
abbrev zOy : Env := { N := 20, Γ := [], L := 20, nfix := 0 }
abbrev nth_Check_R : List RSrc := [.tmp 2]
theorem zVa : zCa Tryz.prog zEW yAZ zOy nth_Check_R := by kernel_rfl
abbrev zVb : HCode := oN [oV 2 (.boxF (.t 0)),
  oV 4 (.mv (.c (bv false)))]
abbrev zVc : HCode := oR [oV 6 (.ldR (.t 2) 2 true),
  oC 7 zEW [(.t 6, .v)],
  oV 8 (.ints .neq (.t 7) (.c (iv 0))),
  oV 9 (.mv (.t 8)),
  oG 9 false 10 (.mv (.t 1)),
  oG 9 false 11 (.ints .lss (.t 10) (.c (iv 1))),
  oV 12 (.pick (.t 9) (.c (bv true)) (.t 11)),
  oV 13 (.mv (.t 12)),
  oG 13 false 14 (.mv (.t 1)),
  oG 13 false 15 (.ints .gtr (.t 14) (.c (iv 1073741824))),
  oV 16 (.pick (.t 13) (.c (bv true)) (.t 15))] [6, 7, 8, 9, 10, 11, 12, 13, 14, 15]
abbrev zVd : HCode := oN [oV 4 (.mv (.c (bv false)))]
abbrev zVe : HCode := oR [oV 17 (.mv (.t 1)),
  oV 18 (.fldR (.t 2) 1 1),
  oV 19 (.ldR (.t 18) 1 false),
  oV 20 (.ints .sub (.t 17) (.t 19)),
  oV 5 (.mv (.t 20))] [17, 18, 19, 20]
abbrev zVf : HCode := oR [oV 21 (.fldR (.t 2) 0 1),
  oV 22 (.ldR (.t 21) 1 false),
  oV 23 (.ints .eql (.t 22) (.c (iv 0)))] [21, 22]
abbrev zVg : HCode := oR [oV 24 (.mv (.t 5)),
  oV 25 (.ints .eql (.t 24) (.c (iv 0))),
  oV 4 (.mv (.t 25))] [24, 25]
abbrev zVh : HCode := oR [oV 26 (.mv (.t 5)),
  oV 27 (.fldR (.t 2) 0 1),
  oV 28 (.ldR (.t 27) 1 false),
  oV 29 (.ints .rem (.t 26) (.t 28)),
  oV 30 (.ints .eql (.t 29) (.c (iv 0))),
  oV 31 (.mv (.t 30)),
  oG 31 true 32 (.mv (.t 5)),
  oG 31 true 33 (.fldR (.t 2) 0 1),
  oG 31 true 34 (.ldR (.t 33) 1 false),
  oG 31 true 35 (.ints .quo (.t 32) (.t 34)),
  oG 31 true 36 (.ints .geq (.t 35) (.c (iv 0))),
  oV 37 (.pick (.t 31) (.t 36) (.c (bv false))),
  oV 4 (.mv (.t 37))] [26, 27, 28, 29, 30, 31, 32, 33, 34, 35, 36, 37]
abbrev yA0 : HCode := (.seq zVb (.seq (.seq zVc (.cond (.t 16) (.seq zVd .ret) .skip)) (.seq zVe (.seq (.seq zVf (.cond (.t 23) (.seq zVg .ret) .skip)) (.seq zVh .ret)))))
abbrev zOz : Env := { N := 38, Γ := [], L := 38, nfix := 0 }
abbrev nth_Holds_R : List RSrc := [.tmp 4]
theorem zVi : zCa Tryz.prog zEX yA0 zOz nth_Holds_R := by kernel_rfl
end Go.Hx
end

section
/-
 The abstract code of functions of the program, printed by gen.py; each stands for the given one. No condition.
-/
namespace Go.Hx
open Go.Proofs
variable [Glob]
end Go.Hx
end

section
/-
 The abstract code of functions of the program, printed by gen.py; each stands for the given one. No condition.
-/
namespace Go.Hx
open Go.Proofs
variable [Glob]
abbrev zD1 : Nat := 54
abbrev zBu : Nat := 110
abbrev zAx : Nat := 163
abbrev zCn : Nat := 164
abbrev zLN : Nat := 220
abbrev zGp : Nat := 111
abbrev zZw : HCode := oN [⟨none, .alloc 2 0 31 [.v (.bool false), .v (.bool false), .v (.bool false), .v (.bool false)]⟩,
  oV 3 (.mv (.c (bv false)))]
abbrev zZx : HCode := oN [oV 4 (.mv (.t 0))]
abbrev zZy : HCode := oR [oV 6 (.ints .eql (.t 4) (.c (iv 1))),
  oV 5 (.mv (.t 6))] [6]
abbrev zZz : HCode := oR [oV 7 (.ints .eql (.t 4) (.c (iv 2))),
  oV 5 (.mv (.t 7))] [7]
abbrev zZA : HCode := oR [oV 8 (.ints .eql (.t 4) (.c (iv 3))),
  oV 5 (.mv (.t 8))] [8]
abbrev zZB : HCode := oR [oV 9 (.bld [.v (.bool false), .v (.bool false), .v (.bool false), .v (.bool false)] [(0, 1, .c (bv true))]),
  ⟨none, .sto (.t 2) 0 31 0 4 (.t 9)⟩,
  oV 3 (.mv (.c (bv true)))] [9]
abbrev zZC : HCode := oR [oV 11 (.ints .eql (.t 4) (.c (iv 4))),
  oV 10 (.mv (.t 11))] [11]
abbrev zZD : HCode := oR [oV 12 (.ints .eql (.t 4) (.c (iv 5))),
  oV 10 (.mv (.t 12))] [12]
abbrev zZE : HCode := oR [oV 13 (.ints .eql (.t 4) (.c (iv 6))),
  oV 10 (.mv (.t 13))] [13]
abbrev zZF : HCode := oR [oV 14 (.ints .eql (.t 4) (.c (iv 7))),
  oV 10 (.mv (.t 14))] [14]
abbrev zW8 : HCode := oR [oV 15 (.ints .eql (.t 4) (.c (iv 8))),
  oV 10 (.mv (.t 15))] [15]
abbrev zW9 : HCode := oR [oV 16 (.bld [.v (.bool false), .v (.bool false), .v (.bool false), .v (.bool false)] [(0, 1, .c (bv true)), (1, 1, .c (bv true))]),
  ⟨none, .sto (.t 2) 0 31 0 4 (.t 16)⟩,
  oV 3 (.mv (.c (bv true)))] [16]
abbrev zXa : HCode := oR [oV 18 (.ints .eql (.t 4) (.c (iv 9))),
  oV 17 (.mv (.t 18))] [18]
abbrev zXb : HCode := oR [oV 19 (.ints .eql (.t 4) (.c (iv 10))),
  oV 17 (.mv (.t 19))] [19]
abbrev zXc : HCode := oR [oV 20 (.bld [.v (.bool false), .v (.bool false), .v (.bool false), .v (.bool false)] [(2, 1, .c (bv true))]),
  ⟨none, .sto (.t 2) 0 31 0 4 (.t 20)⟩,
  oV 3 (.mv (.c (bv true)))] [20]
abbrev zXd : HCode := oR [oV 22 (.ints .eql (.t 4) (.c (iv 11))),
  oV 21 (.mv (.t 22))] [22]
abbrev zXe : HCode := oR [oV 23 (.ints .eql (.t 4) (.c (iv 12))),
  oV 21 (.mv (.t 23))] [23]
abbrev zXf : HCode := oR [oV 24 (.bld [.v (.bool false), .v (.bool false), .v (.bool false), .v (.bool false)] []),
  ⟨none, .sto (.t 2) 0 31 0 4 (.t 24)⟩,
  oV 3 (.mv (.c (bv true)))] [24]
abbrev zXg : HCode := oR [oV 26 (.ints .eql (.t 4) (.c (iv 13))),
  oV 25 (.mv (.t 26))] [26]
abbrev zXh : HCode := oR [oV 27 (.ints .eql (.t 4) (.c (iv 14))),
  oV 25 (.mv (.t 27))] [27]
abbrev zXi : HCode := oR [oV 28 (.ints .eql (.t 4) (.c (iv 15))),
  oV 25 (.mv (.t 28))] [28]
abbrev zXj : HCode := oR [oV 29 (.bld [.v (.bool false), .v (.bool false), .v (.bool false), .v (.bool false)] [(3, 1, .c (bv true))]),
  ⟨none, .sto (.t 2) 0 31 0 4 (.t 29)⟩,
  oV 3 (.mv (.c (bv true)))] [29]
abbrev zXk : HCode := oR [oV 30 (.bld [.v (.bool false), .v (.bool false), .v (.bool false), .v (.bool false)] []),
  ⟨none, .sto (.t 2) 0 31 0 4 (.t 30)⟩,
  oV 3 (.mv (.c (bv false)))] [30]
abbrev yEU : HCode := (.seq zZw (.seq (.seq zZx (.block 0 (.seq (.seq zZy (.cond (.t 5) .skip (.seq zZz (.cond (.t 5) .skip zZA)))) (.cond (.t 5) (.seq zZB .ret) (.seq (.seq zZC (.cond (.t 10) .skip (.seq zZD (.cond (.t 10) .skip (.seq zZE (.cond (.t 10) .skip (.seq zZF (.cond (.t 10) .skip zW8)))))))) (.cond (.t 10) (.seq zW9 .ret) (.seq (.seq zXa (.cond (.t 17) .skip zXb)) (.cond (.t 17) (.seq zXc .ret) (.seq (.seq zXd (.cond (.t 21) .skip zXe)) (.cond (.t 21) (.seq zXf .ret) (.seq (.seq zXg (.cond (.t 25) .skip (.seq zXh (.cond (.t 25) .skip zXi)))) (.cond (.t 25) (.seq zXj .ret) .skip)))))))))))) (.seq zXk .ret)))
abbrev zVj : Env := { N := 31, Γ := [(31, 4)], L := 35, nfix := 0 }
abbrev path_of_R : List RSrc := [.cellB 2 0 31 0 4 true, .tmp 3]
theorem zZG : zCa Tryz.prog zLN yEU zVj path_of_R := by kernel_rfl
abbrev zSF : HCode := oN [⟨none, .alloc 0 0 2 [.v (.int .i64 0), .v (.int .i64 0), .v (.int .i64 0), .v (.int .i64 0)]⟩]
abbrev zSG : HCode := oR [oV 1 (.bld [.v (.int .i64 0), .v (.int .i64 0), .v (.int .i64 0), .v (.int .i64 0)] [(0, 1, .c (iv 2)), (1, 1, .c (iv 4)), (2, 1, .c (iv 1)), (3, 1, .c (iv 3))]),
  ⟨none, .sto (.t 0) 0 2 0 4 (.t 1)⟩] [1]
abbrev zZH : HCode := (.seq zSF (.seq zSG .ret))
abbrev zMK : Env := { N := 2, Γ := [(2, 4)], L := 6, nfix := 0 }
abbrev path_order_R : List RSrc := [.cellB 0 0 2 0 4 true]
theorem zSH : zCa Tryz.prog zGp zZH zMK path_order_R := by kernel_rfl
abbrev zLO : HCode := oN [oV 6 (.mv (.t 1))]
abbrev zLP : HCode := oQ [oD 0 false (oV 7 (.mv (.t 0))),
  oD 1 false (oV 8 (.mv (.t 2))),
  oD 2 false (oV 9 (.nilck (.t 7))),
  oD 3 false (oV 10 (.fldP (.t 9) 0)),
  oD 4 false (oV 11 (.ixB 5 (.t 10) (.t 8))),
  oD 5 false (oV 12 (.ldD (.t 11) 0 17 5)),
  oD 6 false (oV 13 (.ints .add (.t 12) (.c (iv 1)))),
  oD 7 false (oV 14 (.nilck (.t 7))),
  oD 8 false (oV 15 (.fldP (.t 14) 0)),
  oD 9 false (oV 16 (.ixB 5 (.t 15) (.t 8))),
  oD 10 false ⟨none, .std (.t 16) 0 17 5 (.t 13)⟩] [7, 8, 9, 10, 11, 12, 13, 14, 15, 16]
abbrev zPQ : HCode := (.seq zLO (.cond (.t 6) zLP .skip))
abbrev zB0 : Env := { N := 17, Γ := [(17, 5)], L := 22, nfix := 1 }
abbrev path_look_note_R : List RSrc := []
theorem zCo : zCa Tryz.prog zAx zPQ zB0 path_look_note_R := by kernel_rfl
abbrev zLQ : HCode := oR [oV 12 (.mv (.t 2)),
  oV 13 (.ints .gtr (.t 12) (.c (iv 3))),
  oV 14 (.mv (.t 13)),
  oG 14 false 15 (.mv (.t 1)),
  oG 14 false 16 (.len false (.t 15)),
  oG 14 false 17 (.ints .lss (.t 16) (.c (iv 1))),
  oV 18 (.pick (.t 14) (.c (bv true)) (.t 17)),
  oV 19 (.mv (.t 18)),
  oG 19 false 20 (.mv (.t 1)),
  oG 19 false 21 (.len false (.t 20)),
  oG 19 false 22 (.ints .gtr (.t 21) (.c (iv 5))),
  oV 23 (.pick (.t 19) (.c (bv true)) (.t 22))] [12, 13, 14, 15, 16, 17, 18, 19, 20, 21, 22]
abbrev zLR : HCode := oR [oV 24 (.mv (.t 0)),
  oC 25 zAx [(.t 24, .i 0 83 5), (.c (bv true), .v), (.c (iv 2), .v)]] [24, 25]
abbrev zLS : HCode := oN [oV 26 (.mv (.t 1)),
  oV 27 (.len false (.t 26)),
  oV 28 (.mv (.c (iv 0)))]
abbrev zLT : HCode := oN [oV 29 (.ints .lss (.t 28) (.t 27))]
abbrev zLU : HCode := .reg [oV 30 (.idxA 2 (.t 26) (.t 28)),
  oV 31 (.ldR (.t 30) 2 true),
  ⟨none, .alloc 7 1 88 [.nl 2, .nl 1]⟩,
  ⟨none, .sto (.t 7) 1 88 0 2 (.t 31)⟩] false [.frz 1 88 2, .forget [30, 31]]
abbrev zLV : HCode := oR [oV 32 (.fldR (.t 7) 0 1),
  oV 33 (.ldR (.t 32) 1 false),
  oV 34 (.len false (.t 33)),
  oV 35 (.ints .lss (.t 34) (.c (iv 1))),
  oV 36 (.mv (.t 35)),
  oG 36 false 37 (.fldR (.t 7) 0 1),
  oG 36 false 38 (.ldR (.t 37) 1 false),
  oG 36 false 39 (.len false (.t 38)),
  oG 36 false 40 (.ints .gtr (.t 39) (.c (iv 5))),
  oV 41 (.pick (.t 36) (.c (bv true)) (.t 40)),
  oV 42 (.mv (.t 41)),
  oG 42 false 43 (.fldR (.t 7) 1 1),
  oG 42 false 44 (.ldR (.t 43) 1 false),
  oG 42 false 45 (.len false (.t 44)),
  oG 42 false 46 (.fldR (.t 7) 0 1),
  oG 42 false 47 (.ldR (.t 46) 1 false),
  oG 42 false 48 (.len false (.t 47)),
  oG 42 false 49 (.ints .sub (.t 48) (.c (iv 1))),
  oG 42 false 50 (.ints .neq (.t 45) (.t 49)),
  oV 51 (.pick (.t 42) (.c (bv true)) (.t 50))] [32, 33, 34, 35, 36, 37, 38, 39, 40, 41, 42, 43, 44, 45, 46, 47, 48, 49, 50]
abbrev zLW : HCode := oR [oV 52 (.mv (.t 0)),
  oC 53 zAx [(.t 52, .i 0 83 5), (.c (bv true), .v), (.c (iv 2), .v)]] [52, 53]
abbrev zLX : HCode := oR [oV 54 (.fldR (.t 7) 1 1),
  oV 55 (.ldR (.t 54) 1 false),
  oV 56 (.len false (.t 55)),
  oV 57 (.mv (.c (iv 0)))] [54]
abbrev zLY : HCode := oN [oV 58 (.ints .lss (.t 57) (.t 56))]
abbrev zLZ : HCode := oR [oV 59 (.idxA 1 (.t 55) (.t 57)),
  oV 60 (.ldR (.t 59) 1 false),
  oV 9 (.mv (.t 60))] [59, 60]
abbrev zKD : HCode := oR [oV 61 (.mv (.t 0)),
  oV 62 (.mv (.t 9)),
  oV 63 (.ints .lss (.t 62) (.c (iv 1))),
  oV 64 (.mv (.t 63)),
  oG 64 false 65 (.mv (.t 9)),
  oG 64 false 66 (.ints .gtr (.t 65) (.c (iv 4))),
  oV 67 (.pick (.t 64) (.c (bv true)) (.t 66)),
  oC 68 zAx [(.t 61, .i 0 83 5), (.t 67, .v), (.c (iv 4), .v)]] [61, 62, 63, 64, 65, 66, 67, 68]
abbrev zKE : HCode := oR [oV 69 (.ints .add (.t 57) (.c (iv 1))),
  oV 57 (.mv (.t 69))] [69]
abbrev zKF : HCode := oR [oV 70 (.fldR (.t 7) 0 1),
  oV 71 (.ldR (.t 70) 1 false),
  oV 72 (.len false (.t 71)),
  oV 73 (.mv (.c (iv 0)))] [70]
abbrev zKG : HCode := oN [oV 74 (.ints .lss (.t 73) (.t 72))]
abbrev zKH : HCode := oR [oV 75 (.idxA 2 (.t 71) (.t 73)),
  oV 76 (.ldR (.t 75) 2 true),
  ⟨none, .alloc 11 2 90 [.v (mkS []), .nl 6]⟩,
  ⟨none, .sto (.t 11) 2 90 0 2 (.t 76)⟩] [75, 76]
abbrev zKI : HCode := oR [oV 77 (.mv (.t 0)),
  oV 78 (.ldB (.t 11) 2 90 0 2 true),
  oV 79 (.mv (.t 2)),
  oC 80 zCn [(.t 77, .i 0 83 5), (.t 78, .v), (.t 79, .v)]] [77, 78, 79, 80]
abbrev zKJ : HCode := oR [oV 81 (.ints .add (.t 73) (.c (iv 1))),
  oV 73 (.mv (.t 81))] [81]
abbrev zKK : HCode := oR [oV 82 (.ints .add (.t 28) (.c (iv 1))),
  oV 28 (.mv (.t 82))] [82]
abbrev zPR : HCode := (.seq (.seq zLQ (.cond (.t 23) (.seq zLR .ret) .skip)) (.seq zLS (.block 0 (.loop (.seq zLT (.seq (.cond (.t 29) .skip (.exit 0)) (.seq (.block 1 (.seq zLU (.seq (.seq zLV (.cond (.t 51) (.seq zLW .ret) .skip)) (.seq (.seq zLX (.block 2 (.loop (.seq zLY (.seq (.cond (.t 58) .skip (.exit 2)) (.seq (.block 3 (.seq zLZ zKD)) zKE)))))) (.seq zKF (.block 4 (.loop (.seq zKG (.seq (.cond (.t 74) .skip (.exit 4)) (.seq (.block 5 (.seq zKH zKI)) zKJ)))))))))) zKK)))))))
abbrev zGA : Env := { N := 83, Γ := [(83, 5), (88, 2), (90, 2)], L := 92, nfix := 1 }
abbrev path_look_list_R : List RSrc := []
theorem zL0 : zCa Tryz.prog zBu zPR zGA path_look_list_R := by kernel_rfl
abbrev zL1 : HCode := oN [oV 4 (.boxF (.t 1))]
abbrev zL2 : HCode := oR [oV 10 (.fldR (.t 4) 1 1),
  oV 11 (.ldR (.t 10) 1 false),
  oV 12 (.len false (.t 11)),
  oV 13 (.ints .gtr (.t 12) (.c (iv 6)))] [10, 11, 12]
abbrev zL3 : HCode := oR [oV 14 (.mv (.t 0)),
  oC 15 zAx [(.t 14, .i 0 121 5), (.c (bv true), .v), (.c (iv 2), .v)]] [14, 15]
abbrev zL4 : HCode := oR [oV 16 (.mv (.t 0)),
  oV 17 (.fldR (.t 4) 0 1),
  oV 18 (.ldR (.t 17) 1 false),
  oV 19 (.strs .neq (.t 18) (.c (sv []))),
  oV 20 (.mv (.t 19)),
  oG 20 true 21 (.fldR (.t 4) 0 1),
  oG 20 true 22 (.ldR (.t 21) 1 false),
  ⟨some (20, true), .call (some 23) zCg [(.t 22, .v)]⟩,
  oG 20 true 24 (.not (.t 23)),
  oV 25 (.pick (.t 20) (.t 24) (.c (bv false))),
  oC 26 zAx [(.t 16, .i 0 121 5), (.t 25, .v), (.c (iv 1), .v)]] [16, 17, 18, 19, 20, 21, 22, 23, 24, 25, 26]
abbrev zL5 : HCode := oR [oV 27 (.fldR (.t 4) 1 1),
  oV 28 (.ldR (.t 27) 1 false),
  oV 29 (.len false (.t 28)),
  oV 30 (.mv (.c (iv 0)))] [27]
abbrev zL6 : HCode := oN [oV 31 (.ints .lss (.t 30) (.t 29))]
abbrev zL7 : HCode := .reg [oV 32 (.idxA 6 (.t 28) (.t 30)),
  oV 33 (.ldR (.t 32) 6 true),
  ⟨none, .alloc 7 1 126 [.v (.int .i64 0), .v (mkS []), .v (mkS []), .v (.int .i64 0), .v (.int .i64 0), .nl 2]⟩,
  ⟨none, .sto (.t 7) 1 126 0 6 (.t 33)⟩] false [.frz 1 126 6, .forget [32, 33]]
abbrev zL8 : HCode := .reg [oV 35 (.fldR (.t 7) 0 1),
  oV 36 (.ldR (.t 35) 1 false),
  oC 37 zLN [(.t 36, .v)],
  oV 34 (.mv (.t 37)),
  oV 38 (.ext 34 0),
  oV 39 (.ext 34 1),
  ⟨none, .alloc 8 2 132 [.v (.bool false), .v (.bool false), .v (.bool false), .v (.bool false)]⟩,
  ⟨none, .sto (.t 8) 2 132 0 4 (.t 38)⟩,
  oV 9 (.mv (.t 39))] false [.frz 2 132 4, .forget [34, 35, 36, 37, 38, 39]]
abbrev zL9 : HCode := oR [oV 40 (.mv (.t 0)),
  oV 41 (.mv (.t 9)),
  oV 42 (.not (.t 41)),
  oC 43 zAx [(.t 40, .i 0 121 5), (.t 42, .v), (.c (iv 4), .v)]] [40, 41, 42, 43]
abbrev zMa : HCode := oR [oV 44 (.mv (.t 0)),
  oV 45 (.fldR (.t 8) 0 1),
  oV 46 (.ldR (.t 45) 1 false),
  oV 47 (.mv (.t 46)),
  oG 47 true 48 (.fldR (.t 7) 1 1),
  oG 47 true 49 (.ldR (.t 48) 1 false),
  ⟨some (47, true), .call (some 50) zCg [(.t 49, .v)]⟩,
  oG 47 true 51 (.not (.t 50)),
  oV 52 (.pick (.t 47) (.t 51) (.c (bv false))),
  oV 53 (.mv (.t 52)),
  oG 53 false 54 (.fldR (.t 8) 0 1),
  oG 53 false 55 (.ldR (.t 54) 1 false),
  oG 53 false 56 (.not (.t 55)),
  oG 53 false 57 (.mv (.t 56)),
  oG 57 true 58 (.fldR (.t 7) 1 1),
  oG 57 true 59 (.ldR (.t 58) 1 false),
  oG 57 true 60 (.strs .neq (.t 59) (.c (sv []))),
  oG 53 false 61 (.pick (.t 57) (.t 60) (.c (bv false))),
  oV 62 (.pick (.t 53) (.c (bv true)) (.t 61)),
  oC 63 zAx [(.t 44, .i 0 121 5), (.t 62, .v), (.c (iv 1), .v)]] [44, 45, 46, 47, 48, 49, 50, 51, 52, 53, 54, 55, 56, 57, 58, 59, 60, 61, 62, 63]
abbrev zKL : HCode := oR [oV 64 (.mv (.t 0)),
  oV 65 (.fldR (.t 8) 1 1),
  oV 66 (.ldR (.t 65) 1 false),
  oV 67 (.mv (.t 66)),
  oG 67 true 68 (.fldR (.t 7) 2 1),
  oG 67 true 69 (.ldR (.t 68) 1 false),
  ⟨some (67, true), .call (some 70) zET [(.t 69, .v)]⟩,
  oG 67 true 71 (.not (.t 70)),
  oV 72 (.pick (.t 67) (.t 71) (.c (bv false))),
  oV 73 (.mv (.t 72)),
  oG 73 false 74 (.fldR (.t 8) 1 1),
  oG 73 false 75 (.ldR (.t 74) 1 false),
  oG 73 false 76 (.not (.t 75)),
  oG 73 false 77 (.mv (.t 76)),
  oG 77 true 78 (.fldR (.t 7) 2 1),
  oG 77 true 79 (.ldR (.t 78) 1 false),
  oG 77 true 80 (.strs .neq (.t 79) (.c (sv []))),
  oG 73 false 81 (.pick (.t 77) (.t 80) (.c (bv false))),
  oV 82 (.pick (.t 73) (.c (bv true)) (.t 81)),
  oC 83 zAx [(.t 64, .i 0 121 5), (.t 82, .v), (.c (iv 1), .v)]] [64, 65, 66, 67, 68, 69, 70, 71, 72, 73, 74, 75, 76, 77, 78, 79, 80, 81, 82, 83]
abbrev zKM : HCode := oR [oV 84 (.mv (.t 0)),
  oV 85 (.fldR (.t 8) 2 1),
  oV 86 (.ldR (.t 85) 1 false),
  oV 87 (.not (.t 86)),
  oV 88 (.mv (.t 87)),
  oG 88 true 89 (.fldR (.t 7) 3 2),
  oG 88 true 90 (.ldR (.t 89) 2 true),
  oG 88 true 91 (.bld [.v (.int .i64 0), .v (.int .i64 0)] []),
  oG 88 true 92 (.steq true [0, 0] (.t 90) (.t 91)),
  oV 93 (.pick (.t 88) (.t 92) (.c (bv false))),
  oV 94 (.mv (.t 93)),
  oG 94 false 95 (.fldR (.t 8) 3 1),
  oG 94 false 96 (.ldR (.t 95) 1 false),
  oG 94 false 97 (.not (.t 96)),
  oG 94 false 98 (.mv (.t 97)),
  oG 98 true 99 (.fldR (.t 7) 5 1),
  oG 98 true 100 (.ldR (.t 99) 1 false),
  oG 98 true 101 (.len false (.t 100)),
  oG 98 true 102 (.ints .gtr (.t 101) (.c (iv 0))),
  oG 94 false 103 (.pick (.t 98) (.t 102) (.c (bv false))),
  oV 104 (.pick (.t 94) (.c (bv true)) (.t 103)),
  oC 105 zAx [(.t 84, .i 0 121 5), (.t 104, .v), (.c (iv 1), .v)]] [84, 85, 86, 87, 88, 89, 90, 91, 92, 93, 94, 95, 96, 97, 98, 99, 100, 101, 102, 103, 104, 105]
abbrev zKN : HCode := oR [oV 106 (.mv (.t 0)),
  oV 107 (.fldR (.t 7) 3 2),
  oV 108 (.ldR (.t 107) 2 true),
  oC 109 zEW [(.t 108, .v)],
  oV 110 (.ints .neq (.t 109) (.c (iv 0))),
  oC 111 zAx [(.t 106, .i 0 121 5), (.t 110, .v), (.c (iv 3), .v)]] [106, 107, 108, 109, 110, 111]
abbrev zKO : HCode := oR [oV 112 (.fldR (.t 8) 3 1),
  oV 113 (.ldR (.t 112) 1 false)] [112]
abbrev zKP : HCode := oR [oV 114 (.mv (.t 0)),
  oV 115 (.fldR (.t 7) 5 1),
  oV 116 (.ldR (.t 115) 1 false),
  oV 117 (.mv (.t 2)),
  oV 118 (.ints .add (.t 117) (.c (iv 1))),
  oC 119 zBu [(.t 114, .i 0 121 5), (.t 116, .v), (.t 118, .v)]] [114, 115, 116, 117, 118, 119]
abbrev zKQ : HCode := oR [oV 120 (.ints .add (.t 30) (.c (iv 1))),
  oV 30 (.mv (.t 120))] [120]
abbrev zPS : HCode := (.seq zL1 (.seq (.seq zL2 (.cond (.t 13) (.seq zL3 .ret) .skip)) (.seq zL4 (.seq zL5 (.block 0 (.loop (.seq zL6 (.seq (.cond (.t 31) .skip (.exit 0)) (.seq (.block 1 (.seq zL7 (.seq zL8 (.seq zL9 (.seq zMa (.seq zKL (.seq zKM (.seq zKN (.seq zKO (.cond (.t 113) zKP .skip)))))))))) zKQ)))))))))
abbrev zGB : Env := { N := 121, Γ := [(121, 5), (126, 6), (132, 4)], L := 136, nfix := 1 }
abbrev path_look_step_R : List RSrc := []
theorem zMb : zCa Tryz.prog zCn zPS zGB path_look_step_R := by kernel_rfl
abbrev zSI : HCode := oN [oV 2 (.mv (.c (iv 0)))]
abbrev zSJ : HCode := oR [oV 6 (.bld [.v (.int .i64 0), .v (.int .i64 0), .v (.int .i64 0), .v (.int .i64 0), .v (.int .i64 0)] []),
  ⟨none, .box 7 0 24 5 (.t 6)⟩,
  oV 3 (.mv (.t 7))] [6, 7]
abbrev zSK : HCode := oR [oV 8 (.mv (.t 3)),
  oV 9 (.mv (.t 0)),
  oC 10 zBu [(.t 8, .i 0 24 5), (.t 9, .v), (.c (iv 1), .v)]] [8, 9, 10]
abbrev zSL : HCode := oN [oC 11 zGp [],
  oV 12 (.mv (.c (iv 0)))]
abbrev zSM : HCode := oN [oV 13 (.ints .lss (.t 12) (.c (iv 4)))]
abbrev zSN : HCode := oR [oV 14 (.idxV 4 (.t 11) (.t 12)),
  oV 5 (.mv (.t 14))] [14]
abbrev zSO : HCode := oR [oV 15 (.mv (.t 3)),
  oV 16 (.mv (.t 5)),
  oV 17 (.nilck (.t 15)),
  oV 18 (.fldP (.t 17) 0),
  oV 19 (.ixB 5 (.t 18) (.t 16)),
  oV 20 (.ldD (.t 19) 0 24 5),
  oV 21 (.ints .gtr (.t 20) (.c (iv 0)))] [15, 16, 17, 18, 19, 20]
abbrev zSP : HCode := oR [oV 22 (.mv (.t 5)),
  oV 2 (.mv (.t 22))] [22]
abbrev zSQ : HCode := oR [oV 23 (.ints .add (.t 12) (.c (iv 1))),
  oV 12 (.mv (.t 23))] [23]
abbrev zSR : HCode := oN [oV 2 (.mv (.c (iv 0)))]
abbrev zZI : HCode := (.seq zSI (.seq zSJ (.seq zSK (.seq (.seq zSL (.block 0 (.loop (.seq zSM (.seq (.cond (.t 13) .skip (.exit 0)) (.seq (.block 1 (.seq zSN (.seq zSO (.cond (.t 21) (.seq zSP .ret) .skip)))) zSQ)))))) (.seq zSR .ret)))))
abbrev zML : Env := { N := 24, Γ := [(24, 5)], L := 29, nfix := 0 }
abbrev path_Check_R : List RSrc := [.tmp 2]
theorem zSS : zCa Tryz.prog zD1 zZI zML path_Check_R := by kernel_rfl
end Go.Hx
end

section
/-
 The abstract code of functions of the program, printed by gen.py; each stands for the given one. No condition.
-/
namespace Go.Hx
open Go.Proofs
variable [Glob]
end Go.Hx
end

section
/-
 The abstract code of functions of the program, printed by gen.py; each stands for the given one. No condition.
-/
namespace Go.Hx
open Go.Proofs
variable [Glob]
abbrev zA4 : Nat := 257
abbrev zA5 : Nat := 258
abbrev zHt : Nat := 14
abbrev zDP : Nat := 13
abbrev zJB : Nat := 57
abbrev zGq : Nat := 173
abbrev zDA : Nat := 59
abbrev zAC : Nat := 58
abbrev zBP : Nat := 115
abbrev zA7 : Nat := 118
abbrev zA6 : Nat := 116
abbrev zCM : Nat := 169
abbrev zBG : Nat := 224
abbrev zBH : Nat := 225
abbrev zDF : Nat := 226
abbrev zBl : Nat := 168
abbrev zBQ : Nat := 223
abbrev zCN : Nat := 172
abbrev zBI : Nat := 229
abbrev zJC : Nat := 117
abbrev zBy : Nat := 114
abbrev zBz : Nat := 222
abbrev zBc : Nat := 170
abbrev zBS : Nat := 167
abbrev zBT : Nat := 256
abbrev zB7 : Nat := 227
abbrev zCO : Nat := 232
abbrev zCx : Nat := 230
abbrev zCy : Nat := 231
abbrev zDQ : Nat := 233
abbrev zBX : Nat := 217
abbrev zIC : HCode := oN [oV 4 (.mv (.c (bv false)))]
abbrev zID : HCode := oR [oV 5 (.mv (.t 0)),
  oV 6 (.mv (.t 1)),
  oC 7 zA4 [(.t 5, .v), (.t 6, .v)],
  oV 4 (.mv (.t 7))] [5, 6, 7]
abbrev zMc : HCode := (.seq zIC (.seq zID .ret))
abbrev zEr : Env := { N := 8, Γ := [], L := 8, nfix := 0 }
abbrev strings_HasPrefix_R : List RSrc := [.tmp 4]
theorem zIE : zCa Tryz.prog zCx zMc zEr strings_HasPrefix_R := by kernel_rfl
abbrev zDa : HCode := oN [oV 4 (.mv (.c (bv false)))]
abbrev zDb : HCode := oR [oV 5 (.mv (.t 0)),
  oV 6 (.len true (.t 5)),
  oV 7 (.mv (.t 1)),
  oV 8 (.len true (.t 7)),
  oV 9 (.ints .geq (.t 6) (.t 8)),
  oV 10 (.mv (.t 9)),
  oG 10 true 11 (.mv (.t 0)),
  oG 10 true 12 (.mv (.t 1)),
  oG 10 true 13 (.len true (.t 12)),
  oG 10 true 14 (.sls (.t 11) none (some (.t 13))),
  oG 10 true 15 (.mv (.t 1)),
  oG 10 true 16 (.strs .eql (.t 14) (.t 15)),
  oV 17 (.pick (.t 10) (.t 16) (.c (bv false))),
  oV 4 (.mv (.t 17))] [5, 6, 7, 8, 9, 10, 11, 12, 13, 14, 15, 16, 17]
abbrev zDG : HCode := (.seq zDa (.seq zDb .ret))
abbrev zBL : Env := { N := 18, Γ := [], L := 18, nfix := 0 }
abbrev internal_stringslite_HasPrefix_R : List RSrc := [.tmp 4]
theorem zDc : zCa Tryz.prog zA4 zDG zBL internal_stringslite_HasPrefix_R := by kernel_rfl
abbrev zIF : HCode := oN [oV 4 (.mv (.c (bv false)))]
abbrev zIG : HCode := oR [oV 5 (.mv (.t 0)),
  oV 6 (.mv (.t 1)),
  oC 7 zA5 [(.t 5, .v), (.t 6, .v)],
  oV 4 (.mv (.t 7))] [5, 6, 7]
abbrev zMd : HCode := (.seq zIF (.seq zIG .ret))
abbrev zEs : Env := { N := 8, Γ := [], L := 8, nfix := 0 }
abbrev strings_HasSuffix_R : List RSrc := [.tmp 4]
theorem zIH : zCa Tryz.prog zCy zMd zEs strings_HasSuffix_R := by kernel_rfl
abbrev zDd : HCode := oN [oV 4 (.mv (.c (bv false)))]
abbrev zDe : HCode := oR [oV 5 (.mv (.t 0)),
  oV 6 (.len true (.t 5)),
  oV 7 (.mv (.t 1)),
  oV 8 (.len true (.t 7)),
  oV 9 (.ints .geq (.t 6) (.t 8)),
  oV 10 (.mv (.t 9)),
  oG 10 true 11 (.mv (.t 0)),
  oG 10 true 12 (.mv (.t 0)),
  oG 10 true 13 (.len true (.t 12)),
  oG 10 true 14 (.mv (.t 1)),
  oG 10 true 15 (.len true (.t 14)),
  oG 10 true 16 (.ints .sub (.t 13) (.t 15)),
  oG 10 true 17 (.sls (.t 11) (some (.t 16)) none),
  oG 10 true 18 (.mv (.t 1)),
  oG 10 true 19 (.strs .eql (.t 17) (.t 18)),
  oV 20 (.pick (.t 10) (.t 19) (.c (bv false))),
  oV 4 (.mv (.t 20))] [5, 6, 7, 8, 9, 10, 11, 12, 13, 14, 15, 16, 17, 18, 19, 20]
abbrev zDH : HCode := (.seq zDd (.seq zDe .ret))
abbrev zBM : Env := { N := 21, Γ := [], L := 21, nfix := 0 }
abbrev internal_stringslite_HasSuffix_R : List RSrc := [.tmp 4]
theorem zDf : zCa Tryz.prog zA5 zDH zBM internal_stringslite_HasSuffix_R := by kernel_rfl
abbrev zFc : HCode := oN [oV 4 (.mv (.c (bv false)))]
abbrev zFd : HCode := oR [oV 5 (.mv (.t 0)),
  oV 6 (.mv (.t 1)),
  oC 7 zB7 [(.t 5, .v), (.t 6, .v)],
  oV 8 (.ints .geq (.t 7) (.c (iv 0))),
  oV 4 (.mv (.t 8))] [5, 6, 7, 8]
abbrev zGL : HCode := (.seq zFc (.seq zFd .ret))
abbrev zCT : Env := { N := 9, Γ := [], L := 9, nfix := 0 }
abbrev slices_Contains_string_R : List RSrc := [.tmp 4]
theorem zFe : zCa Tryz.prog zBc zGL zCT slices_Contains_string_R := by kernel_rfl
abbrev zGM : HCode := oN [oV 4 (.mv (.c (iv 0)))]
abbrev zGN : HCode := oR [oV 6 (.mv (.t 0)),
  oV 7 (.len false (.t 6)),
  oV 8 (.mv (.c (iv 0)))] [6]
abbrev zGO : HCode := oN [oV 9 (.ints .lss (.t 8) (.t 7))]
abbrev zGP : HCode := oR [oV 10 (.mv (.t 8)),
  oV 5 (.mv (.t 10))] [10]
abbrev zGQ : HCode := oR [oV 11 (.mv (.t 1)),
  oV 12 (.mv (.t 0)),
  oV 13 (.mv (.t 5)),
  oV 14 (.idxA 1 (.t 12) (.t 13)),
  oV 15 (.ldR (.t 14) 1 false),
  oV 16 (.strs .eql (.t 11) (.t 15))] [11, 12, 13, 14, 15]
abbrev zGR : HCode := oR [oV 17 (.mv (.t 5)),
  oV 4 (.mv (.t 17))] [17]
abbrev zGS : HCode := oR [oV 18 (.ints .add (.t 8) (.c (iv 1))),
  oV 8 (.mv (.t 18))] [18]
abbrev zGT : HCode := oN [oV 4 (.mv (.c (iv (-1))))]
abbrev zJD : HCode := (.seq zGM (.seq (.seq zGN (.block 0 (.loop (.seq zGO (.seq (.cond (.t 9) .skip (.exit 0)) (.seq (.block 1 (.seq zGP (.seq zGQ (.cond (.t 16) (.seq zGR .ret) .skip)))) zGS)))))) (.seq zGT .ret)))
abbrev zDI : Env := { N := 19, Γ := [], L := 19, nfix := 0 }
abbrev slices_Index_string_R : List RSrc := [.tmp 4]
theorem zGU : zCa Tryz.prog zB7 zJD zDI slices_Index_string_R := by kernel_rfl
abbrev zEt : HCode := oN [oV 4 (.mv (.c (bv false)))]
abbrev zEu : HCode := oR [oV 5 (.mv (.t 0)),
  oV 6 (.mv (.t 1)),
  oC 7 zBS [(.t 5, .v), (.t 6, .v)],
  oV 8 (.ints .geq (.t 7) (.c (iv 0))),
  oV 4 (.mv (.t 8))] [5, 6, 7, 8]
abbrev zFN : HCode := (.seq zEt (.seq zEu .ret))
abbrev zCs : Env := { N := 9, Γ := [], L := 9, nfix := 0 }
abbrev slices_ContainsFunc_Path_R : List RSrc := [.tmp 4]
theorem zEv : zCa Tryz.prog zBy zFN zCs slices_ContainsFunc_Path_R := by kernel_rfl
abbrev zFO : HCode := oN [oV 4 (.mv (.c (iv 0)))]
abbrev zFP : HCode := oR [oV 6 (.mv (.t 0)),
  oV 7 (.len false (.t 6)),
  oV 8 (.mv (.c (iv 0)))] [6]
abbrev zFQ : HCode := oN [oV 9 (.ints .lss (.t 8) (.t 7))]
abbrev zFR : HCode := oR [oV 10 (.mv (.t 8)),
  oV 5 (.mv (.t 10))] [10]
abbrev zFS : HCode := oR [oV 11 (.mv (.t 1)),
  oV 12 (.mv (.t 0)),
  oV 13 (.mv (.t 5)),
  oV 14 (.idxA 2 (.t 12) (.t 13)),
  oV 15 (.ldR (.t 14) 2 true),
  ⟨none, .callv (some 16) (.t 11) [(.t 15, .v)]⟩] [11, 12, 13, 14, 15]
abbrev zFT : HCode := oR [oV 17 (.mv (.t 5)),
  oV 4 (.mv (.t 17))] [17]
abbrev zFU : HCode := oR [oV 18 (.ints .add (.t 8) (.c (iv 1))),
  oV 8 (.mv (.t 18))] [18]
abbrev zFV : HCode := oN [oV 4 (.mv (.c (iv (-1))))]
abbrev zHu : HCode := (.seq zFO (.seq (.seq zFP (.block 0 (.loop (.seq zFQ (.seq (.cond (.t 9) .skip (.exit 0)) (.seq (.block 1 (.seq zFR (.seq zFS (.cond (.t 16) (.seq zFT .ret) .skip)))) zFU)))))) (.seq zFV .ret)))
abbrev zDg : Env := { N := 19, Γ := [], L := 19, nfix := 0 }
abbrev slices_IndexFunc_Path_R : List RSrc := [.tmp 4]
theorem zFW : zCa Tryz.prog zBS zHu zDg slices_IndexFunc_Path_R := by kernel_rfl
abbrev zEw : HCode := oN [oV 4 (.mv (.c (bv false)))]
abbrev zEx : HCode := oR [oV 5 (.mv (.t 0)),
  oV 6 (.mv (.t 1)),
  oC 7 zBT [(.t 5, .v), (.t 6, .v)],
  oV 8 (.ints .geq (.t 7) (.c (iv 0))),
  oV 4 (.mv (.t 8))] [5, 6, 7, 8]
abbrev zFX : HCode := (.seq zEw (.seq zEx .ret))
abbrev zCt : Env := { N := 9, Γ := [], L := 9, nfix := 0 }
abbrev slices_ContainsFunc_Test_R : List RSrc := [.tmp 4]
theorem zEy : zCa Tryz.prog zBz zFX zCt slices_ContainsFunc_Test_R := by kernel_rfl
abbrev zFY : HCode := oN [oV 4 (.mv (.c (iv 0)))]
abbrev zFZ : HCode := oR [oV 6 (.mv (.t 0)),
  oV 7 (.len false (.t 6)),
  oV 8 (.mv (.c (iv 0)))] [6]
abbrev zF0 : HCode := oN [oV 9 (.ints .lss (.t 8) (.t 7))]
abbrev zF1 : HCode := oR [oV 10 (.mv (.t 8)),
  oV 5 (.mv (.t 10))] [10]
abbrev zF2 : HCode := oR [oV 11 (.mv (.t 1)),
  oV 12 (.mv (.t 0)),
  oV 13 (.mv (.t 5)),
  oV 14 (.idxA 6 (.t 12) (.t 13)),
  oV 15 (.ldR (.t 14) 6 true),
  ⟨none, .callv (some 16) (.t 11) [(.t 15, .v)]⟩] [11, 12, 13, 14, 15]
abbrev zF3 : HCode := oR [oV 17 (.mv (.t 5)),
  oV 4 (.mv (.t 17))] [17]
abbrev zF4 : HCode := oR [oV 18 (.ints .add (.t 8) (.c (iv 1))),
  oV 8 (.mv (.t 18))] [18]
abbrev zF5 : HCode := oN [oV 4 (.mv (.c (iv (-1))))]
abbrev zHv : HCode := (.seq zFY (.seq (.seq zFZ (.block 0 (.loop (.seq zF0 (.seq (.cond (.t 9) .skip (.exit 0)) (.seq (.block 1 (.seq zF1 (.seq zF2 (.cond (.t 16) (.seq zF3 .ret) .skip)))) zF4)))))) (.seq zF5 .ret)))
abbrev zDh : Env := { N := 19, Γ := [], L := 19, nfix := 0 }
abbrev slices_IndexFunc_Test_R : List RSrc := [.tmp 4]
theorem zF6 : zCa Tryz.prog zBT zHv zDh slices_IndexFunc_Test_R := by kernel_rfl
abbrev zXl : HCode := oN [oV 1 (.boxF (.t 0)),
  oV 2 (.mv (.c (.one (.v (.pointer none)))))]
abbrev zXm : HCode := .drg [oD 0 false (oV 13 (.ldR (.t 1) 1 true)),
  oD 1 false (oV 14 (.fldR (.t 1) 0 1)),
  oD 2 false (oV 15 (.ldR (.t 14) 1 false)),
  oD 3 false (oV 16 (.len false (.t 15))),
  oD 4 false ⟨none, .vmk 17 zBX 5 [.v (.int .i64 0), .v (.int .i64 0), .v (.int .i64 0), .v (.int .i64 0), .v (.int .i64 0)] (.t 16)⟩,
  oD 5 false ⟨none, .vbe 18 [.nl 5, .nl 5] [(0, 1, .t 13)] 1 1 (.t 17)⟩,
  oD 6 false ⟨none, .vby 19 0 162 2 18⟩,
  oD 7 false (oV 3 (.mv (.t 19)))] [.forget [13, 14, 15, 16, 17, 18, 19], .pin 163 0 162 []]
abbrev zXn : HCode := oN [⟨none, .mmk 20⟩,
  oV 4 (.mv (.t 20))]
abbrev zXo : HCode := oR [oV 21 (.fldR (.t 1) 0 1),
  oV 22 (.ldR (.t 21) 1 false),
  oV 23 (.len false (.t 22)),
  oV 24 (.mv (.c (iv 0)))] [21]
abbrev zXp : HCode := oN [oV 25 (.ints .lss (.t 24) (.t 23))]
abbrev zXq : HCode := oR [oV 26 (.mv (.t 24)),
  oV 27 (.idxA 5 (.t 22) (.t 24)),
  oV 28 (.ldR (.t 27) 5 true),
  ⟨none, .alloc 6 1 164 [.v (.int .i64 0), .v (mkS []), .v (mkS []), .nl 1, .nl 2]⟩,
  oV 5 (.mv (.t 26)),
  ⟨none, .sto (.t 6) 1 164 0 5 (.t 28)⟩] [26, 27, 28]
abbrev zXr : HCode := oR [oV 29 (.mv (.t 3)),
  oV 30 (.nilck (.t 29)),
  oV 31 (.fldP (.t 30) 1),
  oV 32 (.ldh (.t 31) 0 162 1),
  oV 33 (.mv (.t 5)),
  oV 34 (.idxA 5 (.t 32) (.t 33)),
  oV 35 (.fldP (.t 34) 2),
  ⟨none, .vse (.t 35) 163 0 162 [] 1 (.c (iv (-1)))⟩] [29, 30, 31, 32, 33, 34, 35]
abbrev zXs : HCode := oR [oV 37 (.mv (.t 4)),
  oV 38 (.fldP (.t 6) 0),
  oV 39 (.ldB (.t 38) 1 164 0 1 false),
  ⟨none, .mpl 40 (.t 37) 20 1 (.t 39) (.v (.int .i64 0)) true⟩,
  oV 36 (.mv (.t 40)),
  oV 41 (.ext 36 0),
  oV 42 (.ext 36 1),
  oV 7 (.mv (.t 41)),
  oV 8 (.mv (.t 42))] [36, 37, 38, 39, 40, 41, 42]
abbrev zXt : HCode := oN [oV 43 (.mv (.t 8))]
abbrev zXu : HCode := oR [oV 44 (.mv (.t 3)),
  oV 45 (.nilck (.t 44)),
  oV 46 (.fldP (.t 45) 1),
  oV 47 (.ldh (.t 46) 0 162 1),
  oV 48 (.mv (.t 5)),
  oV 49 (.mv (.t 7)),
  oV 50 (.idxA 5 (.t 47) (.t 48)),
  oV 51 (.fldP (.t 50) 2),
  ⟨none, .vse (.t 51) 163 0 162 [] 1 (.t 49)⟩] [44, 45, 46, 47, 48, 49, 50, 51]
abbrev zVk : HCode := oR [oV 52 (.mv (.t 4)),
  oV 53 (.fldP (.t 6) 0),
  oV 54 (.ldB (.t 53) 1 164 0 1 false),
  oV 55 (.mv (.t 5)),
  ⟨none, .mps (.t 52) 20 1 (.t 54) (.t 55)⟩] [52, 53, 54, 55]
abbrev zVl : HCode := oR [oV 56 (.mv (.t 3)),
  oV 57 (.nilck (.t 56)),
  oV 58 (.fldP (.t 57) 1),
  oV 59 (.ldh (.t 58) 0 162 1),
  oV 60 (.mv (.t 5)),
  oV 61 (.idxA 5 (.t 59) (.t 60)),
  oV 62 (.fldP (.t 61) 0),
  ⟨none, .vse (.t 62) 163 0 162 [] 1 (.c (iv 1))⟩] [56, 57, 58, 59, 60, 61, 62]
abbrev zVm : HCode := oR [oV 63 (.mv (.t 3)),
  oV 64 (.nilck (.t 63)),
  oV 65 (.fldP (.t 64) 1),
  oV 66 (.ldh (.t 65) 0 162 1),
  oV 67 (.mv (.t 5)),
  oV 68 (.idxA 5 (.t 66) (.t 67)),
  oV 69 (.fldP (.t 68) 2),
  ⟨none, .vlp 70 (.t 69) 163 0 162 [] 1 false⟩,
  oV 9 (.mv (.t 70))] [63, 64, 65, 66, 67, 68, 69, 70]
abbrev zVn : HCode := oR [oV 71 (.mv (.t 9)),
  oV 72 (.ints .geq (.t 71) (.c (iv 0)))] [71]
abbrev zVo : HCode := oQ [oD 0 false (oV 73 (.mv (.t 3))),
  oD 1 false (oV 74 (.nilck (.t 73))),
  oD 2 false (oV 75 (.fldP (.t 74) 1)),
  oD 3 false (oV 76 (.ldh (.t 75) 0 162 1)),
  oD 4 false (oV 77 (.mv (.t 5))),
  oD 5 false (oV 78 (.mv (.t 3))),
  oD 6 false (oV 79 (.nilck (.t 78))),
  oD 7 false (oV 80 (.fldP (.t 79) 1)),
  oD 8 false (oV 81 (.ldh (.t 80) 0 162 1)),
  oD 9 false (oV 82 (.mv (.t 9))),
  oD 10 false (oV 83 (.idxA 5 (.t 81) (.t 82))),
  oD 11 false (oV 84 (.fldP (.t 83) 0)),
  oD 12 false ⟨none, .vlp 85 (.t 84) 163 0 162 [] 1 false⟩,
  oD 13 false (oV 86 (.ints .add (.t 85) (.c (iv 1)))),
  oD 14 false (oV 87 (.idxA 5 (.t 76) (.t 77))),
  oD 15 false (oV 88 (.fldP (.t 87) 0)),
  oD 16 false ⟨none, .vse (.t 88) 163 0 162 [] 1 (.t 86)⟩] [73, 74, 75, 76, 77, 78, 79, 80, 81, 82, 83, 84, 85, 86, 87, 88]
abbrev zVp : HCode := oR [oV 89 (.fldP (.t 6) 0),
  oV 90 (.ldB (.t 89) 1 164 0 1 false),
  oV 91 (.ints .geq (.t 90) (.c (iv 0)))] [89, 90]
abbrev zVq : HCode := oQ [oD 0 false (oV 92 (.mv (.t 3))),
  oD 1 false (oV 93 (.nilck (.t 92))),
  oD 2 false (oV 94 (.fldP (.t 93) 1)),
  oD 3 false (oV 95 (.ldh (.t 94) 0 162 1)),
  oD 4 false (oV 96 (.fldP (.t 6) 0)),
  oD 5 false (oV 97 (.ldB (.t 96) 1 164 0 1 false)),
  oD 6 false (oV 98 (.idxA 5 (.t 95) (.t 97))),
  oD 7 false (oV 99 (.fldP (.t 98) 4)),
  oD 8 false ⟨none, .vlp 100 (.t 99) 163 0 162 [] 1 false⟩,
  oD 9 false (oV 101 (.ints .add (.t 100) (.c (iv 1)))),
  oD 10 false (oV 102 (.idxA 5 (.t 95) (.t 97))),
  oD 11 false (oV 103 (.fldP (.t 102) 4)),
  oD 12 false ⟨none, .vse (.t 103) 163 0 162 [] 1 (.t 101)⟩] [92, 93, 94, 95, 96, 97, 98, 99, 100, 101, 102, 103]
abbrev zVr : HCode := oR [oV 104 (.fldP (.t 6) 0),
  oV 105 (.ldB (.t 104) 1 164 0 1 false),
  oV 10 (.mv (.t 105))] [104, 105]
abbrev zVs : HCode := oR [oV 106 (.mv (.t 10)),
  oV 107 (.ints .geq (.t 106) (.c (iv 0)))] [106]
abbrev zVt : HCode := oR [oV 114 (.mv (.t 3)),
  oV 115 (.nilck (.t 114)),
  oV 116 (.fldP (.t 115) 1),
  oV 117 (.ldh (.t 116) 0 162 1),
  oV 118 (.mv (.t 10)),
  oV 119 (.idxA 5 (.t 117) (.t 118)),
  oV 120 (.fldP (.t 119) 3),
  ⟨none, .vlp 121 (.t 120) 163 0 162 [] 1 false⟩,
  oV 122 (.ints .add (.t 121) (.c (iv 1))),
  oV 123 (.idxA 5 (.t 117) (.t 118)),
  oV 124 (.fldP (.t 123) 3),
  ⟨none, .vse (.t 124) 163 0 162 [] 1 (.t 122)⟩] [114, 115, 116, 117, 118, 119, 120, 121, 122, 123, 124]
abbrev zVu : HCode := oR [oV 108 (.fldR (.t 1) 0 1),
  oV 109 (.ldR (.t 108) 1 false),
  oV 110 (.mv (.t 10)),
  oV 111 (.idxA 5 (.t 109) (.t 110)),
  oV 112 (.fldR (.t 111) 0 1),
  oV 113 (.ldR (.t 112) 1 false),
  oV 10 (.mv (.t 113))] [108, 109, 110, 111, 112, 113]
abbrev zVv : HCode := oR [oV 125 (.ints .add (.t 24) (.c (iv 1))),
  oV 24 (.mv (.t 125))] [125]
abbrev zVw : HCode := oR [oV 126 (.fldR (.t 1) 0 1),
  oV 127 (.ldR (.t 126) 1 false),
  oV 128 (.len false (.t 127)),
  oV 129 (.mv (.c (iv 0)))] [126]
abbrev zVx : HCode := oN [oV 130 (.ints .lss (.t 129) (.t 128))]
abbrev zVy : HCode := oR [oV 131 (.mv (.t 129)),
  oV 132 (.idxA 5 (.t 127) (.t 129)),
  oV 133 (.ldR (.t 132) 5 true),
  ⟨none, .alloc 12 2 169 [.v (.int .i64 0), .v (mkS []), .v (mkS []), .nl 1, .nl 2]⟩,
  oV 11 (.mv (.t 131)),
  ⟨none, .sto (.t 12) 2 169 0 5 (.t 133)⟩] [131, 132, 133]
abbrev zVz : HCode := oR [oV 134 (.mv (.t 3)),
  oV 135 (.nilck (.t 134)),
  oV 136 (.fldP (.t 135) 1),
  oV 137 (.ldh (.t 136) 0 162 1),
  oV 138 (.mv (.t 11)),
  oV 139 (.idxA 5 (.t 137) (.t 138)),
  oV 140 (.fldP (.t 139) 1),
  ⟨none, .vse (.t 140) 163 0 162 [] 1 (.c (iv 1))⟩] [134, 135, 136, 137, 138, 139, 140]
abbrev zVA : HCode := oR [oV 141 (.fldP (.t 12) 0),
  oV 142 (.ldB (.t 141) 2 169 0 1 false),
  oV 143 (.ints .geq (.t 142) (.c (iv 0)))] [141, 142]
abbrev zVB : HCode := oQ [oD 0 false (oV 144 (.mv (.t 3))),
  oD 1 false (oV 145 (.nilck (.t 144))),
  oD 2 false (oV 146 (.fldP (.t 145) 1)),
  oD 3 false (oV 147 (.ldh (.t 146) 0 162 1)),
  oD 4 false (oV 148 (.mv (.t 11))),
  oD 5 false (oV 149 (.mv (.t 3))),
  oD 6 false (oV 150 (.nilck (.t 149))),
  oD 7 false (oV 151 (.fldP (.t 150) 1)),
  oD 8 false (oV 152 (.ldh (.t 151) 0 162 1)),
  oD 9 false (oV 153 (.fldP (.t 12) 0)),
  oD 10 false (oV 154 (.ldB (.t 153) 2 169 0 1 false)),
  oD 11 false (oV 155 (.idxA 5 (.t 152) (.t 154))),
  oD 12 false (oV 156 (.fldP (.t 155) 4)),
  oD 13 false ⟨none, .vlp 157 (.t 156) 163 0 162 [] 1 false⟩,
  oD 14 false (oV 158 (.idxA 5 (.t 147) (.t 148))),
  oD 15 false (oV 159 (.fldP (.t 158) 1)),
  oD 16 false ⟨none, .vse (.t 159) 163 0 162 [] 1 (.t 157)⟩] [144, 145, 146, 147, 148, 149, 150, 151, 152, 153, 154, 155, 156, 157, 158, 159]
abbrev zVC : HCode := oR [oV 160 (.ints .add (.t 129) (.c (iv 1))),
  oV 129 (.mv (.t 160))] [160]
abbrev zVD : HCode := .regG [.vfr 163 0 162, .frz 0 162 2] [oV 161 (.mv (.t 3)),
  oV 2 (.mv (.t 161))] [.forget [161]]
abbrev yCF : HCode := (.seq zXl (.seq zXm (.seq zXn (.seq (.seq zXo (.block 0 (.loop (.seq zXp (.seq (.cond (.t 25) .skip (.exit 0)) (.seq (.block 1 (.seq zXq (.seq zXr (.seq (.seq zXs (.seq zXt (.cond (.t 43) zXu .skip))) (.seq zVk (.seq zVl (.seq (.seq zVm (.seq zVn (.cond (.t 72) zVo .skip))) (.seq (.seq zVp (.cond (.t 91) zVq .skip)) (.seq zVr (.block 2 (.loop (.seq (.seq zVs (.cond (.t 107) .skip (.exit 2))) (.seq (.block 3 zVt) zVu))))))))))))) zVv)))))) (.seq (.seq zVw (.block 4 (.loop (.seq zVx (.seq (.cond (.t 130) .skip (.exit 4)) (.seq (.block 5 (.seq zVy (.seq zVz (.seq zVA (.cond (.t 143) zVB .skip))))) zVC)))))) (.seq zVD .ret))))))
abbrev zRi : Env := { N := 162, Γ := [(162, 2), (164, 5), (169, 5)], L := 174, nfix := 0, una := [162] }
abbrev match_of_R : List RSrc := [.tmp 2]
theorem zXv : zCa Tryz.prog zJC yCF zRi match_of_R := by kernel_rfl
abbrev zJE : HCode := oN [oV 5 (.boxF (.t 2)),
  oV 6 (.mv (.c (sv []))),
  oV 7 (.mv (.c (bv false)))]
abbrev zJF : HCode := oR [oV 9 (.mv (.t 0)),
  oV 10 (.nilck (.t 9)),
  oV 11 (.fldR (.t 10) 0 1),
  oV 12 (.fldR (.t 11) 0 1),
  oV 13 (.ldR (.t 12) 1 false),
  oV 14 (.mv (.t 1)),
  oV 15 (.idxA 5 (.t 13) (.t 14)),
  oV 16 (.fldR (.t 15) 4 1),
  oV 17 (.ldR (.t 16) 1 false),
  oV 18 (.mkf zBI [.t 5]),
  oC 19 zAX [(.t 17, .v), (.t 18, .v)],
  oV 8 (.mv (.t 19))] [9, 10, 11, 12, 13, 14, 15, 16, 17, 18, 19]
abbrev zJG : HCode := oR [oV 20 (.mv (.t 8)),
  oV 21 (.ints .lss (.t 20) (.c (iv 0)))] [20]
abbrev zJH : HCode := oN [oV 6 (.mv (.c (sv []))),
  oV 7 (.mv (.c (bv false)))]
abbrev zJI : HCode := oR [oV 22 (.mv (.t 0)),
  oV 23 (.nilck (.t 22)),
  oV 24 (.fldR (.t 23) 0 1),
  oV 25 (.fldR (.t 24) 0 1),
  oV 26 (.ldR (.t 25) 1 false),
  oV 27 (.mv (.t 1)),
  oV 28 (.idxA 5 (.t 26) (.t 27)),
  oV 29 (.fldR (.t 28) 4 1),
  oV 30 (.ldR (.t 29) 1 false),
  oV 31 (.mv (.t 8)),
  oV 32 (.idxA 2 (.t 30) (.t 31)),
  oV 33 (.fldR (.t 32) 1 1),
  oV 34 (.ldR (.t 33) 1 false),
  oV 6 (.mv (.t 34)),
  oV 7 (.mv (.c (bv true)))] [22, 23, 24, 25, 26, 27, 28, 29, 30, 31, 32, 33, 34]
abbrev zM2 : HCode := (.seq zJE (.seq zJF (.seq (.seq zJG (.cond (.t 21) (.seq zJH .ret) .skip)) (.seq zJI .ret))))
abbrev zEY : Env := { N := 35, Γ := [], L := 35, nfix := 0 }
abbrev match_look_value_R : List RSrc := [.tmp 6, .tmp 7]
theorem zJJ : zCa Tryz.prog zCN zM2 zEY match_look_value_R := by kernel_rfl
abbrev zHw : HCode := oN [oV 2 (.boxF (.t 0)),
  oV 3 (.mv (.c (bv false)))]
abbrev zHx : HCode := oR [oV 4 (.fldR (.t 2) 0 1),
  oV 5 (.ldR (.t 4) 1 false),
  oV 6 (.ldR (.t 1) 1 false),
  oV 7 (.strs .eql (.t 5) (.t 6)),
  oV 3 (.mv (.t 7))] [4, 5, 6, 7]
abbrev zKR : HCode := (.seq zHw (.seq zHx .ret))
abbrev zDT : Env := { N := 8, Γ := [], L := 8, nfix := 0 }
abbrev match_look_value_1_R : List RSrc := [.tmp 3]
theorem zHy : zCa Tryz.prog zBI zKR zDT match_look_value_1_R := by kernel_rfl
abbrev zST : HCode := oN [oV 2 (.boxF (.t 0)),
  oV 4 (.mv (.c (bv false)))]
abbrev zSU : HCode := oR [oV 6 (.fldR (.t 2) 2 1),
  oV 7 (.ldR (.t 6) 1 false),
  oV 5 (.mv (.t 7))] [6, 7]
abbrev zSV : HCode := oR [oV 8 (.fldR (.t 2) 0 1),
  oV 9 (.ldR (.t 8) 1 false)] [8]
abbrev zSW : HCode := oR [oV 11 (.ints .eql (.t 9) (.c (iv 4))),
  oV 10 (.mv (.t 11))] [11]
abbrev zSX : HCode := oR [oV 12 (.mv (.t 1)),
  oV 13 (.mv (.t 5)),
  oV 14 (.strs .eql (.t 12) (.t 13)),
  oV 4 (.mv (.t 14))] [12, 13, 14]
abbrev zSY : HCode := oR [oV 16 (.ints .eql (.t 9) (.c (iv 5))),
  oV 15 (.mv (.t 16))] [16]
abbrev zSZ : HCode := oR [oV 17 (.mv (.t 5)),
  oV 18 (.strs .neq (.t 17) (.c (sv []))),
  oV 19 (.mv (.t 18)),
  oG 19 true 20 (.mv (.t 1)),
  oG 19 true 21 (.mv (.t 5)),
  ⟨some (19, true), .call (some 22) zCx [(.t 20, .v), (.t 21, .v)]⟩,
  oV 23 (.pick (.t 19) (.t 22) (.c (bv false))),
  oV 4 (.mv (.t 23))] [17, 18, 19, 20, 21, 22, 23]
abbrev zS0 : HCode := oR [oV 25 (.ints .eql (.t 9) (.c (iv 6))),
  oV 24 (.mv (.t 25))] [25]
abbrev zS1 : HCode := oR [oV 26 (.mv (.t 5)),
  oV 27 (.strs .neq (.t 26) (.c (sv []))),
  oV 28 (.mv (.t 27)),
  oG 28 true 29 (.mv (.t 1)),
  oG 28 true 30 (.mv (.t 5)),
  ⟨some (28, true), .call (some 31) zCy [(.t 29, .v), (.t 30, .v)]⟩,
  oV 32 (.pick (.t 28) (.t 31) (.c (bv false))),
  oV 4 (.mv (.t 32))] [26, 27, 28, 29, 30, 31, 32]
abbrev zS2 : HCode := oR [oV 34 (.ints .eql (.t 9) (.c (iv 7))),
  oV 33 (.mv (.t 34))] [34]
abbrev zPT : HCode := oR [oV 35 (.mv (.t 5)),
  oV 36 (.strs .neq (.t 35) (.c (sv []))),
  oV 37 (.mv (.t 36)),
  oG 37 true 38 (.mv (.t 1)),
  oG 37 true 39 (.mv (.t 5)),
  ⟨some (37, true), .call (some 40) zCO [(.t 38, .v), (.t 39, .v)]⟩,
  oV 41 (.pick (.t 37) (.t 40) (.c (bv false))),
  oV 4 (.mv (.t 41))] [35, 36, 37, 38, 39, 40, 41]
abbrev zPU : HCode := oR [oV 43 (.ints .eql (.t 9) (.c (iv 8))),
  oV 42 (.mv (.t 43))] [43]
abbrev zPV : HCode := oR [oV 44 (.mv (.t 5)),
  oV 45 (.strs .neq (.t 44) (.c (sv []))),
  oV 46 (.mv (.t 45)),
  oG 46 true 47 (.mv (.t 1)),
  ⟨some (46, true), .call (some 48) zDQ [(.t 47, .v), (.c (sv [32]), .v)]⟩,
  oG 46 true 49 (.mv (.t 5)),
  ⟨some (46, true), .call (some 50) zBc [(.t 48, .v), (.t 49, .v)]⟩,
  oV 51 (.pick (.t 46) (.t 50) (.c (bv false))),
  oV 4 (.mv (.t 51))] [44, 45, 46, 47, 48, 49, 50, 51]
abbrev zPW : HCode := oN [oV 4 (.mv (.c (bv true)))]
abbrev zZJ : HCode := (.seq zST (.seq zSU (.seq (.seq zSV (.block 0 (.seq zSW (.cond (.t 10) (.seq zSX .ret) (.seq zSY (.cond (.t 15) (.seq zSZ .ret) (.seq zS0 (.cond (.t 24) (.seq zS1 .ret) (.seq zS2 (.cond (.t 33) (.seq zPT .ret) (.seq zPU (.cond (.t 42) (.seq zPV .ret) .skip)))))))))))) (.seq zPW .ret))))
abbrev zMM : Env := { N := 52, Γ := [], L := 52, nfix := 0 }
abbrev match_attr_R : List RSrc := [.tmp 4]
theorem zS3 : zCa Tryz.prog zGq zZJ zMM match_attr_R := by kernel_rfl
abbrev zII : HCode := oN [oV 4 (.boxF (.t 1)),
  oV 6 (.mv (.c (bv false)))]
abbrev zIJ : HCode := oR [oV 11 (.mv (.t 0)),
  oV 12 (.nilck (.t 11)),
  oV 13 (.fldR (.t 12) 0 1),
  oV 14 (.fldR (.t 13) 0 1),
  oV 15 (.ldR (.t 14) 1 false),
  oV 16 (.mv (.t 2)),
  oV 17 (.idxA 5 (.t 15) (.t 16)),
  oV 18 (.ldR (.t 17) 5 true),
  ⟨none, .alloc 7 0 138 [.v (.int .i64 0), .v (mkS []), .v (mkS []), .nl 1, .nl 2]⟩,
  ⟨none, .sto (.t 7) 0 138 0 5 (.t 18)⟩] [11, 12, 13, 14, 15, 16, 17, 18]
abbrev zIK : HCode := oR [oV 19 (.fldR (.t 4) 0 1),
  oV 20 (.ldR (.t 19) 1 false)] [19]
abbrev zIL : HCode := oR [oV 22 (.ints .eql (.t 20) (.c (iv 1))),
  oV 21 (.mv (.t 22))] [22]
abbrev zIM : HCode := oR [oV 23 (.fldP (.t 7) 3),
  oV 24 (.ldB (.t 23) 0 138 3 1 false),
  oV 25 (.fldR (.t 4) 1 1),
  oV 26 (.ldR (.t 25) 1 false),
  oC 27 zBc [(.t 24, .v), (.t 26, .v)],
  oV 6 (.mv (.t 27))] [23, 24, 25, 26, 27]
abbrev zIN : HCode := oR [oV 29 (.ints .eql (.t 20) (.c (iv 2))),
  oV 28 (.mv (.t 29))] [29]
abbrev zIO : HCode := oR [oV 30 (.fldP (.t 7) 2),
  oV 31 (.ldB (.t 30) 0 138 2 1 false),
  oV 32 (.fldR (.t 4) 1 1),
  oV 33 (.ldR (.t 32) 1 false),
  oV 34 (.strs .eql (.t 31) (.t 33)),
  oV 6 (.mv (.t 34))] [30, 31, 32, 33, 34]
abbrev zIP : HCode := oR [oV 36 (.ints .eql (.t 20) (.c (iv 9))),
  oV 35 (.mv (.t 36))] [36]
abbrev zIQ : HCode := oQ [oD 0 false (oV 37 (.fldR (.t 4) 3 2)),
  oD 1 false (oV 38 (.ldR (.t 37) 2 true)),
  oD 2 false (oV 39 (.mv (.t 0))),
  oD 3 false (oV 40 (.nilck (.t 39))),
  oD 4 false (oV 41 (.fldR (.t 40) 1 1)),
  oD 5 false (oV 42 (.ldR (.t 41) 1 false)),
  oD 6 false (oV 43 (.mv (.t 2))),
  oD 7 false (oV 44 (.idxA 5 (.t 42) (.t 43))),
  oD 8 false (oV 45 (.fldR (.t 44) 0 1)),
  oD 9 false (oV 46 (.ldR (.t 45) 1 false)),
  oD 10 true (oC 47 zEX [(.t 38, .v), (.t 46, .v)]),
  oD 11 false (oV 6 (.mv (.t 47)))] [37, 38, 39, 40, 41, 42, 43, 44, 45, 46, 47]
abbrev zIR : HCode := oR [oV 49 (.ints .eql (.t 20) (.c (iv 10))),
  oV 48 (.mv (.t 49))] [49]
abbrev zHz : HCode := oQ [oD 0 false (oV 50 (.fldR (.t 4) 3 2)),
  oD 1 false (oV 51 (.ldR (.t 50) 2 true)),
  oD 2 false (oV 52 (.mv (.t 0))),
  oD 3 false (oV 53 (.nilck (.t 52))),
  oD 4 false (oV 54 (.fldR (.t 53) 1 1)),
  oD 5 false (oV 55 (.ldR (.t 54) 1 false)),
  oD 6 false (oV 56 (.mv (.t 2))),
  oD 7 false (oV 57 (.idxA 5 (.t 55) (.t 56))),
  oD 8 false (oV 58 (.fldR (.t 57) 1 1)),
  oD 9 false (oV 59 (.ldR (.t 58) 1 false)),
  oD 10 false (oV 60 (.mv (.t 0))),
  oD 11 false (oV 61 (.nilck (.t 60))),
  oD 12 false (oV 62 (.fldR (.t 61) 1 1)),
  oD 13 false (oV 63 (.ldR (.t 62) 1 false)),
  oD 14 false (oV 64 (.mv (.t 2))),
  oD 15 false (oV 65 (.idxA 5 (.t 63) (.t 64))),
  oD 16 false (oV 66 (.fldR (.t 65) 0 1)),
  oD 17 false (oV 67 (.ldR (.t 66) 1 false)),
  oD 18 false (oV 68 (.ints .sub (.t 59) (.t 67))),
  oD 19 false (oV 69 (.ints .add (.t 68) (.c (iv 1)))),
  oD 20 true (oC 70 zEX [(.t 51, .v), (.t 69, .v)]),
  oD 21 false (oV 6 (.mv (.t 70)))] [50, 51, 52, 53, 54, 55, 56, 57, 58, 59, 60, 61, 62, 63, 64, 65, 66, 67, 68, 69, 70]
abbrev zHA : HCode := oR [oV 72 (.ints .eql (.t 20) (.c (iv 11))),
  oV 71 (.mv (.t 72))] [72]
abbrev zHB : HCode := oR [oV 73 (.mv (.t 0)),
  oV 74 (.nilck (.t 73)),
  oV 75 (.fldR (.t 74) 1 1),
  oV 76 (.ldR (.t 75) 1 false),
  oV 77 (.mv (.t 2)),
  oV 78 (.idxA 5 (.t 76) (.t 77)),
  oV 79 (.fldR (.t 78) 4 1),
  oV 80 (.ldR (.t 79) 1 false),
  oV 81 (.ints .eql (.t 80) (.c (iv 0))),
  oV 6 (.mv (.t 81))] [73, 74, 75, 76, 77, 78, 79, 80, 81]
abbrev zHC : HCode := oR [oV 83 (.ints .eql (.t 20) (.c (iv 12))),
  oV 82 (.mv (.t 83))] [83]
abbrev zHD : HCode := oR [oV 84 (.mv (.t 2)),
  oV 85 (.ints .eql (.t 84) (.c (iv 0))),
  oV 6 (.mv (.t 85))] [84, 85]
abbrev zHE : HCode := oR [oV 87 (.ints .eql (.t 20) (.c (iv 13))),
  oV 86 (.mv (.t 87))] [87]
abbrev zHF : HCode := oR [oV 88 (.mv (.t 0)),
  oV 89 (.fldR (.t 4) 5 1),
  oV 90 (.ldR (.t 89) 1 false),
  oV 91 (.mv (.t 2)),
  oC 92 zAC [(.t 88, .v), (.t 90, .v), (.t 91, .v)],
  oV 93 (.not (.t 92)),
  oV 6 (.mv (.t 93))] [88, 89, 90, 91, 92, 93]
abbrev zHG : HCode := oR [oV 95 (.ints .eql (.t 20) (.c (iv 14))),
  oV 94 (.mv (.t 95))] [95]
abbrev zHH : HCode := oR [oV 96 (.mv (.t 0)),
  oV 97 (.fldR (.t 4) 5 1),
  oV 98 (.ldR (.t 97) 1 false),
  oV 99 (.mv (.t 2)),
  oC 100 zAC [(.t 96, .v), (.t 98, .v), (.t 99, .v)],
  oV 6 (.mv (.t 100))] [96, 97, 98, 99, 100]
abbrev zHI : HCode := oR [oV 102 (.ints .eql (.t 20) (.c (iv 15))),
  oV 101 (.mv (.t 102))] [102]
abbrev zHJ : HCode := oR [oV 103 (.mv (.t 2)),
  oV 104 (.ints .add (.t 103) (.c (iv 1))),
  oV 8 (.mv (.t 104))] [103, 104]
abbrev zHK : HCode := oR [oV 105 (.mv (.t 8)),
  oV 106 (.mv (.t 2)),
  oV 107 (.mv (.t 0)),
  oV 108 (.nilck (.t 107)),
  oV 109 (.fldR (.t 108) 1 1),
  oV 110 (.ldR (.t 109) 1 false),
  oV 111 (.mv (.t 2)),
  oV 112 (.idxA 5 (.t 110) (.t 111)),
  oV 113 (.fldR (.t 112) 3 1),
  oV 114 (.ldR (.t 113) 1 false),
  oV 115 (.ints .add (.t 106) (.t 114)),
  oV 116 (.ints .leq (.t 105) (.t 115))] [105, 106, 107, 108, 109, 110, 111, 112, 113, 114, 115]
abbrev zHL : HCode := oR [oV 119 (.mv (.t 0)),
  oV 120 (.fldR (.t 4) 5 1),
  oV 121 (.ldR (.t 120) 1 false),
  oV 122 (.mv (.t 8)),
  oC 123 zAC [(.t 119, .v), (.t 121, .v), (.t 122, .v)]] [119, 120, 121, 122]
abbrev zHM : HCode := oN [oV 6 (.mv (.c (bv true)))]
abbrev zHN : HCode := oR [oV 117 (.mv (.t 8)),
  oV 118 (.ints .add (.t 117) (.c (iv 1))),
  oV 8 (.mv (.t 118))] [117, 118]
abbrev zHO : HCode := oN [oV 6 (.mv (.c (bv false)))]
abbrev zHP : HCode := oR [oV 125 (.mv (.t 0)),
  oV 126 (.mv (.t 2)),
  oV 127 (.fldR (.t 4) 1 1),
  oV 128 (.ldR (.t 127) 1 false),
  oC 129 zCN [(.t 125, .v), (.t 126, .v), (.t 128, .v)],
  oV 124 (.mv (.t 129)),
  oV 130 (.ext 124 0),
  oV 131 (.ext 124 1),
  oV 9 (.mv (.t 130)),
  oV 10 (.mv (.t 131))] [124, 125, 126, 127, 128, 129, 130, 131]
abbrev zHQ : HCode := oR [oV 132 (.mv (.t 10)),
  oV 133 (.mv (.t 132)),
  oG 133 true 134 (.ldR (.t 4) 6 true),
  oG 133 true 135 (.mv (.t 9)),
  ⟨some (133, true), .call (some 136) zGq [(.t 134, .v), (.t 135, .v)]⟩,
  oV 137 (.pick (.t 133) (.t 136) (.c (bv false))),
  oV 6 (.mv (.t 137))] [132, 133, 134, 135, 136, 137]
abbrev zMe : HCode := (.seq zII (.seq zIJ (.seq (.seq zIK (.block 0 (.seq zIL (.cond (.t 21) (.seq zIM .ret) (.seq zIN (.cond (.t 28) (.seq zIO .ret) (.seq zIP (.cond (.t 35) (.seq zIQ .ret) (.seq zIR (.cond (.t 48) (.seq zHz .ret) (.seq zHA (.cond (.t 71) (.seq zHB .ret) (.seq zHC (.cond (.t 82) (.seq zHD .ret) (.seq zHE (.cond (.t 86) (.seq zHF .ret) (.seq zHG (.cond (.t 94) (.seq zHH .ret) (.seq zHI (.cond (.t 101) (.seq (.seq zHJ (.block 1 (.loop (.seq (.seq zHK (.cond (.t 116) .skip (.exit 1))) (.seq (.block 2 (.seq zHL (.cond (.t 123) (.seq zHM .ret) .skip))) zHN))))) (.seq zHO .ret)) .skip)))))))))))))))))))) (.seq zHP (.seq zHQ .ret)))))
abbrev zEz : Env := { N := 138, Γ := [(138, 5)], L := 143, nfix := 0 }
abbrev match_look_passes_R : List RSrc := [.tmp 6]
theorem zIS : zCa Tryz.prog zA7 zMe zEz match_look_passes_R := by kernel_rfl
abbrev zKS : HCode := oN [oV 3 (.boxF (.t 0)),
  oV 4 (.boxF (.t 1)),
  oV 5 (.boxF (.t 2)),
  oV 6 (.mv (.c (bv false)))]
abbrev zKT : HCode := oQ [oD 0 false (oV 7 (.fldR (.t 4) 0 1)),
  oD 1 false (oV 8 (.ldR (.t 7) 1 false)),
  oD 2 false (oV 9 (.strs .eql (.t 8) (.c (sv [])))),
  oD 3 false (oV 10 (.mv (.t 9))),
  oD 4 false (oG 10 false 11 (.fldR (.t 4) 0 1)),
  oD 5 false (oG 10 false 12 (.ldR (.t 11) 1 false)),
  oD 6 false (oG 10 false 13 (.ldR (.t 3) 1 false)),
  oD 7 false (oG 10 false 14 (.nilck (.t 13))),
  oD 8 false (oG 10 false 15 (.fldR (.t 14) 0 1)),
  oD 9 false (oG 10 false 16 (.fldR (.t 15) 0 1)),
  oD 10 false (oG 10 false 17 (.ldR (.t 16) 1 false)),
  oD 11 false (oG 10 false 18 (.ldR (.t 5) 1 false)),
  oD 12 false (oG 10 false 19 (.idxA 5 (.t 17) (.t 18))),
  oD 13 false (oG 10 false 20 (.fldR (.t 19) 1 1)),
  oD 14 false (oG 10 false 21 (.ldR (.t 20) 1 false)),
  oD 15 false (oG 10 false 22 (.strs .eql (.t 12) (.t 21))),
  oD 16 false (oV 23 (.pick (.t 10) (.c (bv true)) (.t 22))),
  oD 17 false (oV 24 (.mv (.t 23))),
  oD 18 false (oG 24 true 25 (.fldR (.t 4) 1 1)),
  oD 19 false (oG 24 true 26 (.ldR (.t 25) 1 false)),
  oD 20 false (oG 24 true 27 (.mkf zBQ [.t 3, .t 5])),
  oD 21 true ⟨some (24, true), .call (some 28) zBz [(.t 26, .v), (.t 27, .v)]⟩,
  oD 22 false (oG 24 true 29 (.not (.t 28))),
  oD 23 false (oV 30 (.pick (.t 24) (.t 29) (.c (bv false)))),
  oD 24 false (oV 6 (.mv (.t 30)))] [7, 8, 9, 10, 11, 12, 13, 14, 15, 16, 17, 18, 19, 20, 21, 22, 23, 24, 25, 26, 27, 28, 29, 30]
abbrev zOA : HCode := (.seq zKS (.seq zKT .ret))
abbrev zF7 : Env := { N := 31, Γ := [], L := 31, nfix := 0 }
abbrev match_look_step_R : List RSrc := [.tmp 6]
theorem zKU : zCa Tryz.prog zBl zOA zF7 match_look_step_R := by kernel_rfl
abbrev zIT : HCode := oN [oV 3 (.boxF (.t 0)),
  oV 4 (.mv (.c (bv false)))]
abbrev zIU : HCode := oR [oV 5 (.ldR (.t 1) 1 false),
  oV 6 (.ldR (.t 3) 6 true),
  oV 7 (.ldR (.t 2) 1 false),
  oC 8 zA7 [(.t 5, .v), (.t 6, .v), (.t 7, .v)],
  oV 9 (.not (.t 8)),
  oV 4 (.mv (.t 9))] [5, 6, 7, 8, 9]
abbrev zMf : HCode := (.seq zIT (.seq zIU .ret))
abbrev zEA : Env := { N := 10, Γ := [], L := 10, nfix := 0 }
abbrev match_look_step_1_R : List RSrc := [.tmp 4]
theorem zIV : zCa Tryz.prog zBQ zMf zEA match_look_step_1_R := by kernel_rfl
abbrev zJK : HCode := oN [oV 3 (.boxF (.t 0)),
  oV 4 (.boxF (.t 1)),
  oV 5 (.boxF (.t 2)),
  oV 6 (.mv (.c (.one (.v .nilFunc))))]
abbrev zJL : HCode := oR [oV 8 (.mkf zBG [.t 3]),
  ⟨none, .alloc 7 0 17 [.v .nilFunc]⟩,
  ⟨none, .sto (.t 7) 0 17 0 1 (.t 8)⟩] [8]
abbrev zJM : HCode := oR [oV 9 (.ldR (.t 4) 1 false),
  oV 10 (.ints .eql (.t 9) (.c (iv 3))),
  oV 11 (.mv (.t 10)),
  oG 11 false 12 (.ldR (.t 4) 1 false),
  oG 11 false 13 (.ints .eql (.t 12) (.c (iv 4))),
  oV 14 (.pick (.t 11) (.c (bv true)) (.t 13))] [9, 10, 11, 12, 13]
abbrev zJN : HCode := oR [oV 15 (.mkf zBH [.t 3]),
  ⟨none, .sto (.t 7) 0 17 0 1 (.t 15)⟩] [15]
abbrev zJO : HCode := .regG [.frz 0 17 1] [oV 16 (.mkf zDF [.t 7, .t 5, .t 4]),
  oV 6 (.mv (.t 16))] [.forget [16]]
abbrev zM3 : HCode := (.seq zJK (.seq zJL (.seq (.seq zJM (.cond (.t 14) zJN .skip)) (.seq zJO .ret))))
abbrev zEZ : Env := { N := 17, Γ := [(17, 1)], L := 18, nfix := 0 }
abbrev match_look_roads_R : List RSrc := [.tmp 6]
theorem zJP : zCa Tryz.prog zCM zM3 zEZ match_look_roads_R := by kernel_rfl
abbrev zHR : HCode := oN [oV 3 (.mv (.c (iv 0)))]
abbrev zHS : HCode := oR [oV 4 (.ldR (.t 1) 1 false),
  oV 5 (.nilck (.t 4)),
  oV 6 (.fldR (.t 5) 0 1),
  oV 7 (.fldR (.t 6) 0 1),
  oV 8 (.ldR (.t 7) 1 false),
  oV 9 (.mv (.t 0)),
  oV 10 (.idxA 5 (.t 8) (.t 9)),
  oV 11 (.fldR (.t 10) 0 1),
  oV 12 (.ldR (.t 11) 1 false),
  oV 3 (.mv (.t 12))] [4, 5, 6, 7, 8, 9, 10, 11, 12]
abbrev zKV : HCode := (.seq zHR (.seq zHS .ret))
abbrev zDU : Env := { N := 13, Γ := [], L := 13, nfix := 0 }
abbrev match_look_roads_1_R : List RSrc := [.tmp 3]
theorem zHT : zCa Tryz.prog zBG zKV zDU match_look_roads_1_R := by kernel_rfl
abbrev zHU : HCode := oN [oV 3 (.mv (.c (iv 0)))]
abbrev zHV : HCode := oR [oV 4 (.ldR (.t 1) 1 false),
  oV 5 (.nilck (.t 4)),
  oV 6 (.fldR (.t 5) 1 1),
  oV 7 (.ldR (.t 6) 1 false),
  oV 8 (.mv (.t 0)),
  oV 9 (.idxA 5 (.t 7) (.t 8)),
  oV 10 (.fldR (.t 9) 2 1),
  oV 11 (.ldR (.t 10) 1 false),
  oV 3 (.mv (.t 11))] [4, 5, 6, 7, 8, 9, 10, 11]
abbrev zKW : HCode := (.seq zHU (.seq zHV .ret))
abbrev zDV : Env := { N := 12, Γ := [], L := 12, nfix := 0 }
abbrev match_look_roads_2_R : List RSrc := [.tmp 3]
theorem zHW : zCa Tryz.prog zBH zKW zDV match_look_roads_2_R := by kernel_rfl
abbrev zKX : HCode := oN [oV 3 (.boxF (.t 0)),
  oV 5 (.boxF (.t 2)),
  oV 6 (.mv (.c (bv false)))]
abbrev zKY : HCode := oR [oV 7 (.mv (.t 1)),
  oV 8 (.mkf zBP [.t 3, .t 5]),
  oC 9 zBy [(.t 7, .v), (.t 8, .v)],
  oV 6 (.mv (.t 9))] [7, 8, 9]
abbrev zOB : HCode := (.seq zKX (.seq zKY .ret))
abbrev zF8 : Env := { N := 10, Γ := [], L := 10, nfix := 0 }
abbrev match_look_list_R : List RSrc := [.tmp 6]
theorem zKZ : zCa Tryz.prog zAC zOB zF8 match_look_list_R := by kernel_rfl
abbrev zIW : HCode := oN [oV 3 (.boxF (.t 0)),
  oV 4 (.mv (.c (bv false)))]
abbrev zIX : HCode := oR [oV 5 (.ldR (.t 1) 1 false),
  oV 6 (.ldR (.t 3) 2 true),
  oV 7 (.fldR (.t 3) 0 1),
  oV 8 (.ldR (.t 7) 1 false),
  oV 9 (.len false (.t 8)),
  oV 10 (.ldR (.t 2) 1 false),
  oC 11 zA6 [(.t 5, .v), (.t 6, .v), (.t 9, .v), (.t 10, .v)],
  oV 4 (.mv (.t 11))] [5, 6, 7, 8, 9, 10, 11]
abbrev zMg : HCode := (.seq zIW (.seq zIX .ret))
abbrev zEB : Env := { N := 12, Γ := [], L := 12, nfix := 0 }
abbrev match_look_list_1_R : List RSrc := [.tmp 4]
theorem zIY : zCa Tryz.prog zBP zMg zEB match_look_list_1_R := by kernel_rfl
abbrev zPX : HCode := oN [oV 2 (.boxF (.t 0)),
  oV 4 (.mv (.c (.one (.v (.pointer none))))),
  oV 5 (.mv (.c (iv 0)))]
abbrev zPY : HCode := oR [oV 8 (.ldR (.t 2) 1 true),
  oC 9 zES [(.t 8, .v)],
  oV 6 (.mv (.t 9))] [8, 9]
abbrev zPZ : HCode := oR [oV 10 (.mv (.t 6)),
  oV 11 (.ints .neq (.t 10) (.c (iv 0)))] [10]
abbrev zP0 : HCode := oR [oV 12 (.mv (.t 6)),
  oV 4 (.mv (.c (.one (.v (.pointer none))))),
  oV 5 (.mv (.t 12))] [12]
abbrev zP1 : HCode := oR [oV 13 (.mv (.t 1)),
  oC 14 zD1 [(.t 13, .v)],
  oV 7 (.mv (.t 14))] [13, 14]
abbrev zP2 : HCode := oR [oV 15 (.mv (.t 7)),
  oV 16 (.ints .neq (.t 15) (.c (iv 0)))] [15]
abbrev zP3 : HCode := oR [oV 17 (.mv (.t 7)),
  oV 4 (.mv (.c (.one (.v (.pointer none))))),
  oV 5 (.mv (.t 17))] [17]
abbrev zP4 : HCode := oR [oV 18 (.ldR (.t 2) 1 true),
  oC 19 zJC [(.t 18, .v)],
  oV 4 (.mv (.t 19)),
  oV 5 (.mv (.c (iv 0)))] [18, 19]
abbrev zXw : HCode := (.seq zPX (.seq (.seq zPY (.seq zPZ (.cond (.t 11) (.seq zP0 .ret) .skip))) (.seq (.seq zP1 (.seq zP2 (.cond (.t 16) (.seq zP3 .ret) .skip))) (.seq zP4 .ret))))
abbrev zK0 : Env := { N := 20, Γ := [], L := 20, nfix := 0 }
abbrev match_begin_R : List RSrc := [.tmp 4, .tmp 5]
theorem zP5 : zCa Tryz.prog zDA zXw zK0 match_begin_R := by kernel_rfl
abbrev zXx : HCode := oN [oV 3 (.boxF (.t 0)),
  oV 6 (.mv (.c (.one (.v (.pointer none))))),
  oV 7 (.mv (.c (iv 0)))]
abbrev zXy : HCode := oR [oV 11 (.ldR (.t 3) 1 true),
  oV 12 (.mv (.t 1)),
  oC 13 zDA [(.t 11, .v), (.t 12, .v)],
  oV 10 (.mv (.t 13)),
  oV 14 (.ext 10 0),
  oV 15 (.ext 10 1),
  oV 8 (.mv (.t 14)),
  oV 9 (.mv (.t 15))] [10, 11, 12, 13, 14, 15]
abbrev zXz : HCode := oR [oV 16 (.mv (.t 9)),
  oV 17 (.ints .eql (.t 16) (.c (iv 0))),
  oV 18 (.mv (.t 17)),
  oG 18 true 19 (.mv (.t 2)),
  oG 18 true 20 (.ints .lss (.t 19) (.c (iv 0))),
  oG 18 true 21 (.mv (.t 20)),
  oG 21 false 22 (.mv (.t 2)),
  oG 21 false 23 (.fldR (.t 3) 0 1),
  oG 21 false 24 (.ldR (.t 23) 1 false),
  oG 21 false 25 (.len false (.t 24)),
  oG 21 false 26 (.ints .geq (.t 22) (.t 25)),
  oG 18 true 27 (.pick (.t 21) (.c (bv true)) (.t 26)),
  oV 28 (.pick (.t 18) (.t 27) (.c (bv false)))] [16, 17, 18, 19, 20, 21, 22, 23, 24, 25, 26, 27]
abbrev zXA : HCode := oN [oV 9 (.mv (.c (iv 5)))]
abbrev zXB : HCode := oR [oV 29 (.mv (.t 8)),
  oV 30 (.mv (.t 9)),
  oV 6 (.mv (.t 29)),
  oV 7 (.mv (.t 30))] [29, 30]
abbrev yCG : HCode := (.seq zXx (.seq zXy (.seq (.seq zXz (.cond (.t 28) zXA .skip)) (.seq zXB .ret))))
abbrev zRj : Env := { N := 31, Γ := [], L := 31, nfix := 0 }
abbrev match_at_R : List RSrc := [.tmp 6, .tmp 7]
theorem zXC : zCa Tryz.prog zJB yCG zRj match_at_R := by kernel_rfl
abbrev zM4 : HCode := oN [oV 3 (.boxF (.t 0)),
  oV 6 (.mv (.c (bv false))),
  oV 7 (.mv (.c (iv 0)))]
abbrev zM5 : HCode := oR [oV 11 (.ldR (.t 3) 1 true),
  oV 12 (.mv (.t 1)),
  oV 13 (.mv (.t 2)),
  oC 14 zJB [(.t 11, .v), (.t 12, .v), (.t 13, .v)],
  oV 10 (.mv (.t 14)),
  oV 15 (.ext 10 0),
  oV 16 (.ext 10 1),
  oV 8 (.mv (.t 15)),
  oV 9 (.mv (.t 16))] [10, 11, 12, 13, 14, 15, 16]
abbrev zM6 : HCode := oR [oV 17 (.mv (.t 9)),
  oV 18 (.ints .eql (.t 17) (.c (iv 0))),
  oV 19 (.mv (.t 18)),
  oG 19 true 20 (.mv (.t 8)),
  oG 19 true 21 (.mv (.t 1)),
  oG 19 true 22 (.mv (.t 2)),
  ⟨some (19, true), .call (some 23) zAC [(.t 20, .v), (.t 21, .v), (.t 22, .v)]⟩,
  oV 24 (.pick (.t 19) (.t 23) (.c (bv false))),
  oV 25 (.mv (.t 9)),
  oV 6 (.mv (.t 24)),
  oV 7 (.mv (.t 25))] [17, 18, 19, 20, 21, 22, 23, 24, 25]
abbrev zS4 : HCode := (.seq zM4 (.seq zM5 (.seq zM6 .ret)))
abbrev zHX : Env := { N := 26, Γ := [], L := 26, nfix := 0 }
abbrev match_Matches_R : List RSrc := [.tmp 6, .tmp 7]
theorem zM7 : zCa Tryz.prog zDP zS4 zHX match_Matches_R := by kernel_rfl
abbrev zVE : HCode := oN [oV 2 (.boxF (.t 0)),
  oV 4 (.mv (.c (.one (.nl 1)))),
  oV 5 (.mv (.c (iv 0)))]
abbrev zVF : HCode := oR [oV 11 (.ldR (.t 2) 1 true),
  oV 12 (.mv (.t 1)),
  oC 13 zDA [(.t 11, .v), (.t 12, .v)],
  oV 10 (.mv (.t 13)),
  oV 14 (.ext 10 0),
  oV 15 (.ext 10 1),
  oV 6 (.mv (.t 14)),
  oV 7 (.mv (.t 15))] [10, 11, 12, 13, 14, 15]
abbrev zVG : HCode := oR [oV 16 (.mv (.t 7)),
  oV 17 (.ints .neq (.t 16) (.c (iv 0)))] [16]
abbrev zVH : HCode := oR [oV 18 (.mv (.t 7)),
  oV 4 (.mv (.c (.one (.nl 1)))),
  oV 5 (.mv (.t 18))] [18]
abbrev zVI : HCode := oN [⟨none, .nlo 8 zBk 1⟩]
abbrev zVJ : HCode := oR [oV 19 (.fldR (.t 2) 0 1),
  oV 20 (.ldR (.t 19) 1 false),
  oV 21 (.len false (.t 20)),
  oV 22 (.mv (.c (iv 0)))] [19, 20]
abbrev zVK : HCode := oN [oV 23 (.ints .lss (.t 22) (.t 21))]
abbrev zVL : HCode := oR [oV 24 (.mv (.t 22)),
  oV 9 (.mv (.t 24))] [24]
abbrev zVM : HCode := oR [oV 25 (.mv (.t 6)),
  oV 26 (.mv (.t 1)),
  oV 27 (.mv (.t 9)),
  oC 28 zAC [(.t 25, .v), (.t 26, .v), (.t 27, .v)]] [25, 26, 27]
abbrev zVN : HCode := oR [⟨none, .mvo 29 8⟩,
  oV 30 (.mv (.t 9)),
  oV 31 (.bslF 1 [.t 30]),
  ⟨none, .app 32 zBk 1 (.t 29) (.t 31)⟩,
  ⟨none, .mvo 8 32⟩] [29, 30, 31, 32]
abbrev zS5 : HCode := oR [oV 33 (.ints .add (.t 22) (.c (iv 1))),
  oV 22 (.mv (.t 33))] [33]
abbrev zS6 : HCode := oR [oV 34 (.mv (.t 8)),
  oV 4 (.mv (.t 34)),
  oV 5 (.mv (.c (iv 0)))] [34]
abbrev yA1 : HCode := (.seq zVE (.seq zVF (.seq (.seq zVG (.cond (.t 17) (.seq zVH .ret) .skip)) (.seq zVI (.seq (.seq zVJ (.block 0 (.loop (.seq zVK (.seq (.cond (.t 23) .skip (.exit 0)) (.seq (.block 1 (.seq zVL (.seq zVM (.cond (.t 28) zVN .skip)))) zS5)))))) (.seq zS6 .ret))))))
abbrev zOC : Env := { N := 35, Γ := [], L := 35, nfix := 0 }
abbrev match_All_R : List RSrc := [.tmp 4, .tmp 5]
theorem zVO : zCa Tryz.prog zHt yA1 zOC match_All_R := by kernel_rfl
end Go.Hx
end

section
/-
 The abstract code of functions of the program, printed by gen.py; each stands for the given one. No condition.
-/
namespace Go.Hx
open Go.Proofs
variable [Glob]
abbrev zDi : Nat := 149
abbrev zCi : Nat := 150
abbrev zGr : Nat := 148
abbrev zCI : Nat := 205
abbrev zBY : Nat := 206
abbrev zB4 : Nat := 44
abbrev zD2 : Nat := 48
abbrev zGs : Nat := 103
abbrev zDj : Nat := 152
abbrev zD3 : Nat := 45
abbrev zBd : Nat := 101
abbrev zFf : Nat := 104
abbrev zCJ : Nat := 153
abbrev zCP : Nat := 102
abbrev zBK : Nat := 151
abbrev zCQ : Nat := 123
abbrev zCU : Nat := 75
abbrev zS7 : HCode := oN [oV 2 (.mv (.c (iv 0)))]
abbrev zS8 : HCode := oN [oV 3 (.mv (.c (iv 0)))]
abbrev zS9 : HCode := oN [oV 6 (.mv (.t 0)),
  oV 7 (.len false (.t 6)),
  oV 8 (.mv (.c (iv 0)))]
abbrev zTa : HCode := oN [oV 9 (.ints .lss (.t 8) (.t 7))]
abbrev zTb : HCode := oR [oV 10 (.idxA 1 (.t 6) (.t 8)),
  oV 11 (.ldR (.t 10) 1 false),
  oV 5 (.mv (.t 11))] [10, 11]
abbrev zTc : HCode := oR [oV 12 (.mv (.t 5)),
  oV 13 (.mv (.t 3)),
  oV 14 (.ints .neq (.t 12) (.t 13))] [12, 13]
abbrev zTd : HCode := oR [oV 15 (.mv (.t 5)),
  oV 2 (.mv (.t 15))] [15]
abbrev zTe : HCode := oR [oV 16 (.ints .add (.t 8) (.c (iv 1))),
  oV 8 (.mv (.t 16))] [16]
abbrev zTf : HCode := oR [oV 17 (.mv (.t 3)),
  oV 2 (.mv (.t 17))] [17]
abbrev zZK : HCode := (.seq zS7 (.seq zS8 (.seq (.seq zS9 (.block 0 (.loop (.seq zTa (.seq (.cond (.t 9) .skip (.exit 0)) (.seq (.block 1 (.seq zTb (.seq zTc (.cond (.t 14) (.seq zTd .ret) .skip)))) zTe)))))) (.seq zTf .ret))))
abbrev zMN : Env := { N := 18, Γ := [], L := 18, nfix := 0 }
abbrev cmp_Or_int_R : List RSrc := [.tmp 2]
theorem zTg : zCa Tryz.prog zGr zZK zMN cmp_Or_int_R := by kernel_rfl
abbrev zK1 : HCode := oN [oV 4 (.mv (.c (iv 0)))]
abbrev zK2 : HCode := oR [oV 7 (.mv (.t 0)),
  oC 8 zCI [(.t 7, .v)],
  oV 5 (.mv (.t 8))] [7, 8]
abbrev zK3 : HCode := oR [oV 9 (.mv (.t 1)),
  oC 10 zCI [(.t 9, .v)],
  oV 6 (.mv (.t 10))] [9, 10]
abbrev zK4 : HCode := oN [oV 11 (.mv (.t 5))]
abbrev zK5 : HCode := oN [oV 12 (.mv (.t 6))]
abbrev zK6 : HCode := oN [oV 4 (.mv (.c (iv 0)))]
abbrev zK7 : HCode := oN [oV 4 (.mv (.c (iv (-1))))]
abbrev zK8 : HCode := oN [oV 13 (.mv (.t 6))]
abbrev zK9 : HCode := oN [oV 4 (.mv (.c (iv 1)))]
abbrev zLa : HCode := oR [oV 14 (.mv (.t 0)),
  oV 15 (.mv (.t 1)),
  oV 16 (.ints .lss (.t 14) (.t 15))] [14, 15]
abbrev zJQ : HCode := oN [oV 4 (.mv (.c (iv (-1))))]
abbrev zJR : HCode := oR [oV 17 (.mv (.t 0)),
  oV 18 (.mv (.t 1)),
  oV 19 (.ints .gtr (.t 17) (.t 18))] [17, 18]
abbrev zJS : HCode := oN [oV 4 (.mv (.c (iv 1)))]
abbrev zJT : HCode := oN [oV 4 (.mv (.c (iv 0)))]
abbrev zOD : HCode := (.seq zK1 (.seq zK2 (.seq zK3 (.seq (.seq zK4 (.cond (.t 11) (.seq (.seq zK5 (.cond (.t 12) (.seq zK6 .ret) .skip)) (.seq zK7 .ret)) .skip)) (.seq (.seq zK8 (.cond (.t 13) (.seq zK9 .ret) .skip)) (.seq (.seq zLa (.cond (.t 16) (.seq zJQ .ret) .skip)) (.seq (.seq zJR (.cond (.t 19) (.seq zJS .ret) .skip)) (.seq zJT .ret))))))))
abbrev zF9 : Env := { N := 20, Γ := [], L := 20, nfix := 0 }
abbrev cmp_Compare_int_R : List RSrc := [.tmp 4]
theorem zLb : zCa Tryz.prog zDi zOD zF9 cmp_Compare_int_R := by kernel_rfl
abbrev zM8 : HCode := oN [oV 2 (.mv (.c (bv false)))]
abbrev zM9 : HCode := oR [oV 3 (.mv (.t 0)),
  oV 4 (.mv (.t 0)),
  oV 5 (.ints .neq (.t 3) (.t 4)),
  oV 2 (.mv (.t 5))] [3, 4, 5]
abbrev zTh : HCode := (.seq zM8 (.seq zM9 .ret))
abbrev zHY : Env := { N := 6, Γ := [], L := 6, nfix := 0 }
abbrev cmp_isNaN_int_R : List RSrc := [.tmp 2]
theorem zNa : zCa Tryz.prog zCI zTh zHY cmp_isNaN_int_R := by kernel_rfl
abbrev zHZ : HCode := oN [oV 4 (.mv (.c (iv 0)))]
abbrev zH0 : HCode := oR [oV 7 (.mv (.t 0)),
  oC 8 zBY [(.t 7, .v)],
  oV 5 (.mv (.t 8))] [7, 8]
abbrev zH1 : HCode := oR [oV 9 (.mv (.t 1)),
  oC 10 zBY [(.t 9, .v)],
  oV 6 (.mv (.t 10))] [9, 10]
abbrev zH2 : HCode := oN [oV 11 (.mv (.t 5))]
abbrev zH3 : HCode := oN [oV 12 (.mv (.t 6))]
abbrev zH4 : HCode := oN [oV 4 (.mv (.c (iv 0)))]
abbrev zH5 : HCode := oN [oV 4 (.mv (.c (iv (-1))))]
abbrev zH6 : HCode := oN [oV 13 (.mv (.t 6))]
abbrev zH7 : HCode := oN [oV 4 (.mv (.c (iv 1)))]
abbrev zH8 : HCode := oR [oV 14 (.mv (.t 0)),
  oV 15 (.mv (.t 1)),
  oV 16 (.strs .lss (.t 14) (.t 15))] [14, 15]
abbrev zGV : HCode := oN [oV 4 (.mv (.c (iv (-1))))]
abbrev zGW : HCode := oR [oV 17 (.mv (.t 0)),
  oV 18 (.mv (.t 1)),
  oV 19 (.strs .gtr (.t 17) (.t 18))] [17, 18]
abbrev zGX : HCode := oN [oV 4 (.mv (.c (iv 1)))]
abbrev zGY : HCode := oN [oV 4 (.mv (.c (iv 0)))]
abbrev zLc : HCode := (.seq zHZ (.seq zH0 (.seq zH1 (.seq (.seq zH2 (.cond (.t 11) (.seq (.seq zH3 (.cond (.t 12) (.seq zH4 .ret) .skip)) (.seq zH5 .ret)) .skip)) (.seq (.seq zH6 (.cond (.t 13) (.seq zH7 .ret) .skip)) (.seq (.seq zH8 (.cond (.t 16) (.seq zGV .ret) .skip)) (.seq (.seq zGW (.cond (.t 19) (.seq zGX .ret) .skip)) (.seq zGY .ret))))))))
abbrev zDW : Env := { N := 20, Γ := [], L := 20, nfix := 0 }
abbrev cmp_Compare_string_R : List RSrc := [.tmp 4]
theorem zH9 : zCa Tryz.prog zCi zLc zDW cmp_Compare_string_R := by kernel_rfl
abbrev zJU : HCode := oN [oV 2 (.mv (.c (bv false)))]
abbrev zJV : HCode := oR [oV 3 (.mv (.t 0)),
  oV 4 (.mv (.t 0)),
  oV 5 (.strs .neq (.t 3) (.t 4)),
  oV 2 (.mv (.t 5))] [3, 4, 5]
abbrev zNb : HCode := (.seq zJU (.seq zJV .ret))
abbrev zE0 : Env := { N := 6, Γ := [], L := 6, nfix := 0 }
abbrev cmp_isNaN_string_R : List RSrc := [.tmp 2]
theorem zJW : zCa Tryz.prog zBY zNb zE0 cmp_isNaN_string_R := by kernel_rfl
abbrev zP6 : HCode := oN [oV 2 (.boxF (.t 0)),
  oV 3 (.boxF (.t 1)),
  oV 4 (.mv (.c (iv 0)))]
abbrev zP7 : HCode := oQ [oD 0 false (oV 5 (.fldR (.t 2) 0 1)),
  oD 1 false (oV 6 (.ldR (.t 5) 1 false)),
  oD 2 false (oV 7 (.fldR (.t 3) 0 1)),
  oD 3 false (oV 8 (.ldR (.t 7) 1 false)),
  oD 4 false (oC 9 zDi [(.t 6, .v), (.t 8, .v)]),
  oD 5 false (oV 10 (.fldR (.t 2) 1 1)),
  oD 6 false (oV 11 (.ldR (.t 10) 1 false)),
  oD 7 false (oV 12 (.fldR (.t 3) 1 1)),
  oD 8 false (oV 13 (.ldR (.t 12) 1 false)),
  oD 9 true (oC 14 zCi [(.t 11, .v), (.t 13, .v)]),
  oD 10 false (oV 15 (.bslF 1 [.t 9, .t 14])),
  oD 11 true (oC 16 zGr [(.t 15, .v)]),
  oD 12 false (oV 4 (.mv (.t 16)))] [5, 6, 7, 8, 9, 10, 11, 12, 13, 14, 15, 16]
abbrev zXD : HCode := (.seq zP6 (.seq zP7 .ret))
abbrev zLd : Env := { N := 17, Γ := [], L := 17, nfix := 0 }
abbrev index_order_R : List RSrc := [.tmp 4]
theorem zP8 : zCa Tryz.prog zBd zXD zLd index_order_R := by kernel_rfl
abbrev zJX : HCode := oN [⟨none, .nlo 2 zBk 1⟩]
abbrev zJY : HCode := oR [oV 3 (.mv (.t 0)),
  ⟨none, .isn 4 false (.t 3)⟩] [3]
abbrev zJZ : HCode := oN [⟨none, .nlo 2 zBk 1⟩]
abbrev zJ0 : HCode := oR [⟨none, .bsl 5 zBk 1 []⟩,
  oV 6 (.mv (.t 0)),
  ⟨none, .app 7 zBk 1 (.t 5) (.t 6)⟩,
  ⟨none, .mvo 2 7⟩] [5, 6, 7]
abbrev zNc : HCode := (.seq zJX (.seq (.seq zJY (.cond (.t 4) (.seq zJZ .ret) .skip)) (.seq zJ0 .ret)))
abbrev zE1 : Env := { N := 8, Γ := [], L := 8, nfix := 0 }
abbrev slices_Clone_int_R : List RSrc := [.tmp 2]
theorem zJ1 : zCa Tryz.prog zCP zNc zE1 slices_Clone_int_R := by kernel_rfl
abbrev zJ2 : HCode := oN [oV 4 (.mv (.c (bv false)))]
abbrev zJ3 : HCode := oR [oV 6 (.mv (.t 0)),
  oV 7 (.len false (.t 6)),
  oV 8 (.mv (.t 1)),
  oV 9 (.len false (.t 8)),
  oV 10 (.ints .neq (.t 7) (.t 9))] [6, 7, 8, 9]
abbrev zJ4 : HCode := oN [oV 4 (.mv (.c (bv false)))]
abbrev zJ5 : HCode := oR [oV 11 (.mv (.t 0)),
  oV 12 (.len false (.t 11)),
  oV 13 (.mv (.c (iv 0)))] [11]
abbrev zJ6 : HCode := oN [oV 14 (.ints .lss (.t 13) (.t 12))]
abbrev zJ7 : HCode := oR [oV 15 (.mv (.t 13)),
  oV 5 (.mv (.t 15))] [15]
abbrev zJ8 : HCode := oQ [oD 0 false (oV 16 (.mv (.t 0))),
  oD 1 false (oV 17 (.mv (.t 5))),
  oD 2 false (oV 18 (.idxA 1 (.t 16) (.t 17))),
  oD 3 false (oV 19 (.ldR (.t 18) 1 false)),
  oD 4 false (oV 20 (.mv (.t 1))),
  oD 5 false (oV 21 (.mv (.t 5))),
  oD 6 false (oV 22 (.idxA 1 (.t 20) (.t 21))),
  oD 7 false (oV 23 (.ldR (.t 22) 1 false)),
  oD 8 false (oV 24 (.ints .neq (.t 19) (.t 23)))] [16, 17, 18, 19, 20, 21, 22, 23]
abbrev zJ9 : HCode := oN [oV 4 (.mv (.c (bv false)))]
abbrev zKa : HCode := oR [oV 25 (.ints .add (.t 13) (.c (iv 1))),
  oV 13 (.mv (.t 25))] [25]
abbrev zKb : HCode := oN [oV 4 (.mv (.c (bv true)))]
abbrev zNd : HCode := (.seq zJ2 (.seq (.seq zJ3 (.cond (.t 10) (.seq zJ4 .ret) .skip)) (.seq (.seq zJ5 (.block 0 (.loop (.seq zJ6 (.seq (.cond (.t 14) .skip (.exit 0)) (.seq (.block 1 (.seq zJ7 (.seq zJ8 (.cond (.t 24) (.seq zJ9 .ret) .skip)))) zKa)))))) (.seq zKb .ret))))
abbrev zE2 : Env := { N := 26, Γ := [], L := 26, nfix := 0 }
abbrev slices_Equal_int_R : List RSrc := [.tmp 4]
theorem zKc : zCa Tryz.prog zCQ zNd zE2 slices_Equal_int_R := by kernel_rfl
abbrev zTi : HCode := oN [oV 6 (.mv (.c (.one (.nl 1)))),
  oV 7 (.mv (.c (iv 0)))]
abbrev zTj : HCode := oR [oV 10 (.mv (.t 1)),
  oV 11 (.ints .lss (.t 10) (.c (iv 1))),
  oV 12 (.mv (.t 11)),
  oG 12 false 13 (.mv (.t 1)),
  oG 12 false 14 (.ints .gtr (.t 13) (.c (iv 3))),
  oV 15 (.pick (.t 12) (.c (bv true)) (.t 14))] [10, 11, 12, 13, 14]
abbrev zTk : HCode := oN [oV 6 (.mv (.c (.one (.nl 1)))),
  oV 7 (.mv (.c (iv 4)))]
abbrev zTl : HCode := oR [oV 16 (.mv (.t 0)),
  oV 17 (.len false (.t 16)),
  oV 18 (.ints .gtr (.t 17) (.c (iv 512)))] [16, 17]
abbrev zTm : HCode := oN [oV 6 (.mv (.c (.one (.nl 1)))),
  oV 7 (.mv (.c (iv 2)))]
abbrev zTn : HCode := oN [oV 19 (.mv (.t 0)),
  oV 20 (.len false (.t 19)),
  oV 21 (.mv (.c (iv 0)))]
abbrev zTo : HCode := oN [oV 22 (.ints .lss (.t 21) (.t 20))]
abbrev zTp : HCode := .reg [oV 23 (.idxA 3 (.t 19) (.t 21)),
  oV 24 (.ldR (.t 23) 3 true),
  ⟨none, .alloc 9 0 39 [.v (.int .i64 0), .v (mkS []), .nl 1]⟩,
  ⟨none, .sto (.t 9) 0 39 0 3 (.t 24)⟩] false [.frz 0 39 3, .forget [23, 24]]
abbrev zTq : HCode := oR [oV 25 (.fldR (.t 9) 0 1),
  oV 26 (.ldR (.t 25) 1 false),
  oV 27 (.mv (.t 1)),
  oV 28 (.ints .eql (.t 26) (.t 27)),
  oV 29 (.mv (.t 28)),
  oG 29 true 30 (.fldR (.t 9) 1 1),
  oG 29 true 31 (.ldR (.t 30) 1 false),
  oG 29 true 32 (.mv (.t 2)),
  oG 29 true 33 (.strs .eql (.t 31) (.t 32)),
  oV 34 (.pick (.t 29) (.t 33) (.c (bv false)))] [25, 26, 27, 28, 29, 30, 31, 32, 33]
abbrev zTr : HCode := oR [oV 35 (.fldR (.t 9) 2 1),
  oV 36 (.ldR (.t 35) 1 false),
  oC 37 zCP [(.t 36, .v)],
  oV 6 (.mv (.t 37)),
  oV 7 (.mv (.c (iv 0)))] [35, 36, 37]
abbrev zP9 : HCode := oR [oV 38 (.ints .add (.t 21) (.c (iv 1))),
  oV 21 (.mv (.t 38))] [38]
abbrev zQa : HCode := oN [oV 6 (.mv (.c (.one (.nl 1)))),
  oV 7 (.mv (.c (iv 0)))]
abbrev zZL : HCode := (.seq zTi (.seq (.seq zTj (.cond (.t 15) (.seq zTk .ret) .skip)) (.seq (.seq zTl (.cond (.t 18) (.seq zTm .ret) .skip)) (.seq (.seq zTn (.block 0 (.loop (.seq zTo (.seq (.cond (.t 22) .skip (.exit 0)) (.seq (.block 1 (.seq zTp (.seq zTq (.cond (.t 34) (.seq zTr .ret) .skip)))) zP9)))))) (.seq zQa .ret)))))
abbrev zMO : Env := { N := 39, Γ := [(39, 3)], L := 42, nfix := 0 }
abbrev index_Look_R : List RSrc := [.tmp 6, .tmp 7]
theorem zTs : zCa Tryz.prog zD3 zZL zMO index_Look_R := by kernel_rfl
abbrev zQb : HCode := oN [oV 2 (.boxF (.t 0)),
  oV 3 (.boxF (.t 1)),
  oV 4 (.mv (.c (.one (.nl 1))))]
abbrev zQc : HCode := oR [oV 12 (.fldR (.t 3) 0 1),
  oV 13 (.ldR (.t 12) 1 false),
  oV 14 (.fldR (.t 3) 0 1),
  oV 15 (.ldR (.t 14) 1 false),
  oV 16 (.len false (.t 15)),
  oV 17 (.ints .sub (.t 16) (.c (iv 1))),
  oV 18 (.idxA 2 (.t 13) (.t 17)),
  oV 19 (.ldR (.t 18) 2 true),
  ⟨none, .alloc 5 0 65 [.v (mkS []), .nl 6]⟩,
  ⟨none, .sto (.t 5) 0 65 0 2 (.t 19)⟩] [12, 13, 14, 15, 16, 17, 18, 19]
abbrev zQd : HCode := oN [⟨none, .alloc 6 1 67 [.nl 1]⟩]
abbrev zQe : HCode := oN [⟨none, .alloc 7 2 68 [.v (.bool false)]⟩,
  ⟨none, .sto (.t 7) 2 68 0 1 (.c (bv false))⟩]
abbrev zQf : HCode := oR [⟨none, .mkc 20 zCJ [.t 2, .t 7, .t 6]⟩,
  oV 8 (.mv (.t 20))] [20]
abbrev zQg : HCode := oR [oV 21 (.fldP (.t 5) 0),
  oV 22 (.ldB (.t 21) 0 65 0 1 false),
  oV 23 (.strs .neq (.t 22) (.c (sv [])))] [21, 22]
abbrev zQh : HCode := oR [oV 24 (.mv (.t 8)),
  oV 25 (.fldP (.t 5) 0),
  oV 26 (.ldB (.t 25) 0 65 0 1 false),
  ⟨none, .clc (some 27) (.t 24) [(2, 68, 1), (1, 67, 1)] [(.c (iv 1), .v), (.t 26, .v)]⟩] [24, 25, 26, 27]
abbrev zQi : HCode := oR [oV 28 (.fldP (.t 5) 1),
  oV 29 (.ldB (.t 28) 0 65 1 1 false),
  oV 30 (.len false (.t 29)),
  oV 31 (.mv (.c (iv 0)))] [28]
abbrev zQj : HCode := oN [oV 32 (.ints .lss (.t 31) (.t 30))]
abbrev zQk : HCode := oR [oV 33 (.idxA 6 (.t 29) (.t 31)),
  oV 34 (.ldR (.t 33) 6 true),
  ⟨none, .alloc 10 3 69 [.v (.int .i64 0), .v (mkS []), .v (mkS []), .v (.int .i64 0), .v (.int .i64 0), .nl 2]⟩,
  ⟨none, .sto (.t 10) 3 69 0 6 (.t 34)⟩] [33, 34]
abbrev zOE : HCode := oR [oV 35 (.fldP (.t 10) 0),
  oV 36 (.ldB (.t 35) 3 69 0 1 false)] [35]
abbrev zOF : HCode := oR [oV 38 (.ints .eql (.t 36) (.c (iv 2))),
  oV 37 (.mv (.t 38))] [38]
abbrev zOG : HCode := oR [oV 39 (.mv (.t 8)),
  oV 40 (.fldP (.t 10) 1),
  oV 41 (.ldB (.t 40) 3 69 1 1 false),
  ⟨none, .clc (some 42) (.t 39) [(2, 68, 1), (1, 67, 1)] [(.c (iv 2), .v), (.t 41, .v)]⟩] [39, 40, 41, 42]
abbrev zOH : HCode := oR [oV 44 (.ints .eql (.t 36) (.c (iv 1))),
  oV 43 (.mv (.t 44))] [44]
abbrev zOI : HCode := oR [oV 45 (.mv (.t 8)),
  oV 46 (.fldP (.t 10) 1),
  oV 47 (.ldB (.t 46) 3 69 1 1 false),
  ⟨none, .clc (some 48) (.t 45) [(2, 68, 1), (1, 67, 1)] [(.c (iv 3), .v), (.t 47, .v)]⟩] [45, 46, 47, 48]
abbrev zOJ : HCode := oR [oV 49 (.ints .add (.t 31) (.c (iv 1))),
  oV 31 (.mv (.t 49))] [49]
abbrev zOK : HCode := oR [oV 50 (.ldB (.t 7) 2 68 0 1 false),
  oV 51 (.not (.t 50))] [50]
abbrev zOL : HCode := oR [oV 52 (.fldR (.t 2) 0 1),
  oV 53 (.fldR (.t 52) 0 1),
  oV 54 (.ldR (.t 53) 1 false),
  oV 55 (.len false (.t 54)),
  oV 56 (.mv (.c (iv 0)))] [52, 53, 54]
abbrev zOM : HCode := oN [oV 57 (.ints .lss (.t 56) (.t 55))]
abbrev zON : HCode := oR [oV 58 (.mv (.t 56)),
  oV 11 (.mv (.t 58))] [58]
abbrev zOO : HCode := oR [⟨none, .ldo 59 (.t 6) 1 67 0 zBk 1⟩,
  oV 60 (.mv (.t 11)),
  oV 61 (.bslF 1 [.t 60]),
  ⟨none, .app 62 zBk 1 (.t 59) (.t 61)⟩,
  ⟨none, .stw (.t 6) 1 67 0 62⟩] [59, 60, 61, 62]
abbrev zOP : HCode := oR [oV 63 (.ints .add (.t 56) (.c (iv 1))),
  oV 56 (.mv (.t 63))] [63]
abbrev zOQ : HCode := oR [oV 64 (.ldB (.t 6) 1 67 0 1 false),
  oV 4 (.mv (.t 64))] [64]
abbrev zXE : HCode := (.seq zQb (.seq zQc (.seq zQd (.seq zQe (.seq zQf (.seq (.seq zQg (.cond (.t 23) zQh .skip)) (.seq (.seq zQi (.block 0 (.loop (.seq zQj (.seq (.cond (.t 32) .skip (.exit 0)) (.seq (.block 1 (.seq zQk (.seq zOE (.block 2 (.seq zOF (.cond (.t 37) zOG (.seq zOH (.cond (.t 43) zOI .skip)))))))) zOJ)))))) (.seq (.seq zOK (.cond (.t 51) (.seq zOL (.block 3 (.loop (.seq zOM (.seq (.cond (.t 57) .skip (.exit 3)) (.seq (.block 4 (.seq zON zOO)) zOP)))))) .skip)) (.seq zOQ .ret)))))))))
abbrev zLe : Env := { N := 65, Γ := [(65, 2), (67, 1), (68, 1), (69, 6)], L := 75, nfix := 0 }
abbrev index_seeds_R : List RSrc := [.tmp 4]
theorem zQl : zCa Tryz.prog zFf zXE zLe index_seeds_R := by kernel_rfl
abbrev zNe : HCode := oR [oV 10 (.fldR (.t 2) 1 1),
  oV 11 (.ldR (.t 10) 1 false),
  oV 12 (.mv (.t 0)),
  oV 13 (.mv (.t 1)),
  oC 14 zD3 [(.t 11, .v), (.t 12, .v), (.t 13, .v)],
  oV 9 (.mv (.t 14)),
  oV 15 (.ext 9 0),
  oV 16 (.ext 9 1),
  oV 7 (.mv (.t 15)),
  oV 8 (.mv (.t 16))] [8, 9, 10, 11, 12, 13, 14, 15, 16]
abbrev zNf : HCode := oR [oV 17 (.ldB (.t 3) 0 27 0 1 false),
  oV 18 (.not (.t 17)),
  oV 19 (.mv (.t 18)),
  oG 19 false 20 (.mv (.t 7)),
  oG 19 false 21 (.len false (.t 20)),
  oG 19 false 22 (.ldB (.t 4) 1 28 0 1 false),
  oG 19 false 23 (.len false (.t 22)),
  oG 19 false 24 (.ints .lss (.t 21) (.t 23)),
  oV 25 (.pick (.t 19) (.c (bv true)) (.t 24))] [17, 18, 19, 20, 21, 22, 23, 24]
abbrev zNg : HCode := oR [oV 26 (.mv (.t 7)),
  ⟨none, .sto (.t 4) 1 28 0 1 (.t 26)⟩,
  ⟨none, .sto (.t 3) 0 27 0 1 (.c (bv true))⟩] [26]
abbrev zTt : HCode := (.seq zNe (.seq zNf (.cond (.t 25) zNg .skip)))
abbrev zEC : Env := { N := 27, Γ := [(27, 1), (28, 1)], L := 29, nfix := 2 }
abbrev zDk : List (Nat × Nat × Nat) := [(0, 27, 1), (1, 28, 1)]
theorem zNh {av : List AV} {cas : List CA} {io' : List (List PV)} (hfo : zW0 zEC zDk av cas) (hl : io'.map List.length = zNG cas) (hW : hwp Tryz.prog zTt (yHf zDk io') (F0c zEC zDk av cas)) : zEe Tryz.prog zCJ av cas io' :=
 zOk (fn := Tryz.f153) (c := Tryz.f153.body.getD .skip) (by kernel_rfl) (by kernel_rfl) (by kernel_rfl) (by kernel_rfl) (by kernel_rfl) (by kernel_rfl) (by kernel_rfl) (by kernel_rfl) hfo hl hW
abbrev zOR : HCode := oN [oV 2 (.boxF (.t 0)),
  oV 3 (.boxF (.t 1)),
  oV 4 (.mv (.c (bv false)))]
abbrev zOS : HCode := oR [oV 5 (.ldR (.t 2) 3 true),
  oV 6 (.ldR (.t 3) 3 true),
  oC 7 zBd [(.t 5, .v), (.t 6, .v)],
  oV 8 (.ints .eql (.t 7) (.c (iv 0))),
  oV 9 (.mv (.t 8)),
  oG 9 true 10 (.fldR (.t 2) 2 1),
  oG 9 true 11 (.ldR (.t 10) 1 false),
  oG 9 true 12 (.fldR (.t 3) 2 1),
  oG 9 true 13 (.ldR (.t 12) 1 false),
  ⟨some (9, true), .call (some 14) zCQ [(.t 11, .v), (.t 13, .v)]⟩,
  oV 15 (.pick (.t 9) (.t 14) (.c (bv false))),
  oV 4 (.mv (.t 15))] [5, 6, 7, 8, 9, 10, 11, 12, 13, 14, 15]
abbrev zVP : HCode := (.seq zOR (.seq zOS .ret))
abbrev zJa : Env := { N := 16, Γ := [], L := 16, nfix := 0 }
abbrev index_Fits_1_R : List RSrc := [.tmp 4]
theorem zOT : zCa Tryz.prog zDj zVP zJa index_Fits_1_R := by kernel_rfl
abbrev zFg : HCode := oN [oV 6 (.mv (.c (bv false)))]
abbrev zFh : HCode := oR [oV 10 (.mv (.t 0)),
  oV 11 (.len false (.t 10)),
  oV 12 (.mv (.t 1)),
  oV 13 (.len false (.t 12)),
  oV 14 (.ints .neq (.t 11) (.t 13))] [10, 11, 12, 13]
abbrev zFi : HCode := oN [oV 6 (.mv (.c (bv false)))]
abbrev zFj : HCode := oN [oV 15 (.mv (.t 0)),
  oV 16 (.len false (.t 15)),
  oV 17 (.mv (.c (iv 0)))]
abbrev zFk : HCode := oN [oV 18 (.ints .lss (.t 17) (.t 16))]
abbrev zFl : HCode := oR [oV 19 (.mv (.t 17)),
  oV 20 (.idxA 3 (.t 15) (.t 17)),
  oV 21 (.ldR (.t 20) 3 true),
  ⟨none, .alloc 8 0 32 [.v (.int .i64 0), .v (mkS []), .nl 1]⟩,
  oV 7 (.mv (.t 19)),
  ⟨none, .sto (.t 8) 0 32 0 3 (.t 21)⟩] [19, 20, 21]
abbrev zFm : HCode := oR [oV 22 (.mv (.t 1)),
  oV 23 (.mv (.t 7)),
  oV 24 (.idxA 3 (.t 22) (.t 23)),
  oV 25 (.ldR (.t 24) 3 true),
  ⟨none, .alloc 9 1 35 [.v (.int .i64 0), .v (mkS []), .nl 1]⟩,
  ⟨none, .sto (.t 9) 1 35 0 3 (.t 25)⟩] [22, 23, 24, 25]
abbrev zFn : HCode := oR [oV 26 (.mv (.t 2)),
  oV 27 (.ldB (.t 8) 0 32 0 3 true),
  oV 28 (.ldB (.t 9) 1 35 0 3 true),
  ⟨none, .callv (some 29) (.t 26) [(.t 27, .v), (.t 28, .v)]⟩,
  oV 30 (.not (.t 29))] [26, 27, 28, 29]
abbrev zFo : HCode := oN [oV 6 (.mv (.c (bv false)))]
abbrev zFp : HCode := oR [oV 31 (.ints .add (.t 17) (.c (iv 1))),
  oV 17 (.mv (.t 31))] [31]
abbrev zEF : HCode := oN [oV 6 (.mv (.c (bv true)))]
abbrev zGZ : HCode := (.seq zFg (.seq (.seq zFh (.cond (.t 14) (.seq zFi .ret) .skip)) (.seq (.seq zFj (.block 0 (.loop (.seq zFk (.seq (.cond (.t 18) .skip (.exit 0)) (.seq (.block 1 (.seq zFl (.seq zFm (.seq zFn (.cond (.t 30) (.seq zFo .ret) .skip))))) zFp)))))) (.seq zEF .ret))))
abbrev zCV : Env := { N := 32, Γ := [(32, 3), (35, 3)], L := 38, nfix := 0 }
abbrev slices_EqualFunc_Entry_R : List RSrc := [.tmp 6]
theorem zFq : zCa Tryz.prog zBK zGZ zCV slices_EqualFunc_Entry_R := by kernel_rfl
abbrev zTu : HCode := oN [oV 1 (.boxF (.t 0)),
  oV 2 (.mv (.c (iv 0)))]
abbrev zTv : HCode := oR [oV 6 (.fldR (.t 1) 0 1),
  oV 7 (.ldR (.t 6) 1 true),
  oC 8 zB4 [(.t 7, .v)],
  oV 5 (.mv (.t 8)),
  oV 9 (.ext 5 0),
  oV 10 (.ext 5 1),
  oV 3 (.mv (.t 9)),
  oV 4 (.mv (.t 10))] [5, 6, 7, 8, 9, 10]
abbrev zTw : HCode := oR [oV 11 (.mv (.t 4)),
  oV 12 (.ints .neq (.t 11) (.c (iv 0)))] [11]
abbrev zTx : HCode := oR [oV 13 (.mv (.t 4)),
  oV 2 (.mv (.t 13))] [13]
abbrev zTy : HCode := oR [oV 14 (.mv (.t 3)),
  oV 15 (.fldR (.t 1) 1 1),
  oV 16 (.ldR (.t 15) 1 false),
  oC 17 zBK [(.t 14, .v), (.t 16, .v), (.f zDj, .v)],
  oV 18 (.not (.t 17))] [14, 15, 16, 17]
abbrev zTz : HCode := oN [oV 2 (.mv (.c (iv 1)))]
abbrev zTA : HCode := oN [oV 2 (.mv (.c (iv 0)))]
abbrev zZM : HCode := (.seq zTu (.seq zTv (.seq (.seq zTw (.cond (.t 12) (.seq zTx .ret) .skip)) (.seq (.seq zTy (.cond (.t 18) (.seq zTz .ret) .skip)) (.seq zTA .ret)))))
abbrev zMP : Env := { N := 19, Γ := [], L := 19, nfix := 0 }
abbrev index_Fits_R : List RSrc := [.tmp 2]
theorem zTB : zCa Tryz.prog zGs zZM zMP index_Fits_R := by kernel_rfl
abbrev zTC : HCode := oN [oV 2 (.boxF (.t 0)),
  oV 4 (.mv (.c (.one (.nl 1)))),
  oV 5 (.mv (.c (iv 0)))]
abbrev zTD : HCode := oR [oV 17 (.ldR (.t 2) 2 true),
  oC 18 zGs [(.t 17, .v)],
  oV 6 (.mv (.t 18))] [17, 18]
abbrev zTE : HCode := oR [oV 19 (.mv (.t 6)),
  oV 20 (.ints .neq (.t 19) (.c (iv 0)))] [19]
abbrev zTF : HCode := oR [oV 21 (.mv (.t 6)),
  oV 4 (.mv (.c (.one (.nl 1)))),
  oV 5 (.mv (.t 21))] [21]
abbrev zTG : HCode := oR [oV 22 (.mv (.t 1)),
  oC 23 zD1 [(.t 22, .v)],
  oV 7 (.mv (.t 23))] [22, 23]
abbrev zTH : HCode := oR [oV 24 (.mv (.t 7)),
  oV 25 (.ints .neq (.t 24) (.c (iv 0)))] [24]
abbrev zTI : HCode := oR [oV 26 (.mv (.t 7)),
  oV 4 (.mv (.c (.one (.nl 1)))),
  oV 5 (.mv (.t 26))] [26]
abbrev zTJ : HCode := oN [⟨none, .mmk 27⟩,
  oV 8 (.mv (.t 27))]
abbrev zTK : HCode := oN [oV 28 (.mv (.t 1)),
  oV 29 (.len false (.t 28)),
  oV 30 (.mv (.c (iv 0)))]
abbrev zTL : HCode := oN [oV 31 (.ints .lss (.t 30) (.t 29))]
abbrev zQm : HCode := oR [oV 32 (.idxA 2 (.t 28) (.t 30)),
  oV 33 (.ldR (.t 32) 2 true),
  ⟨none, .alloc 10 0 75 [.nl 2, .nl 1]⟩,
  ⟨none, .sto (.t 10) 0 75 0 2 (.t 33)⟩] [32, 33]
abbrev zQn : HCode := oR [oV 34 (.ldR (.t 2) 2 true),
  oV 35 (.ldB (.t 10) 0 75 0 2 true),
  oC 36 zFf [(.t 34, .v), (.t 35, .v)],
  oV 37 (.len false (.t 36)),
  oV 38 (.mv (.c (iv 0)))] [34, 35]
abbrev zQo : HCode := oN [oV 39 (.ints .lss (.t 38) (.t 37))]
abbrev zQp : HCode := oR [oV 40 (.idxA 1 (.t 36) (.t 38)),
  oV 41 (.ldR (.t 40) 1 false),
  oV 12 (.mv (.t 41))] [40, 41]
abbrev zQq : HCode := oR [oV 43 (.fldR (.t 2) 0 1),
  oV 44 (.ldR (.t 43) 1 true),
  oV 45 (.ldB (.t 10) 0 75 0 2 true),
  oV 46 (.bslF 2 [.t 45]),
  oV 47 (.mv (.t 12)),
  oC 48 zDP [(.t 44, .v), (.t 46, .v), (.t 47, .v)],
  oV 42 (.mv (.t 48)),
  oV 49 (.ext 42 0),
  oV 50 (.ext 42 1),
  oV 13 (.mv (.t 49)),
  oV 14 (.mv (.t 50))] [14, 42, 43, 44, 45, 46, 47, 48, 49, 50]
abbrev zQr : HCode := oN [oV 51 (.mv (.t 13))]
abbrev zQs : HCode := oR [oV 52 (.mv (.t 8)),
  oV 53 (.mv (.t 12)),
  ⟨none, .mpl 54 (.t 52) 27 1 (.t 53) (.v (.int .i64 0)) false⟩,
  oV 55 (.ints .add (.t 54) (.c (iv 1))),
  ⟨none, .mps (.t 52) 27 1 (.t 53) (.t 55)⟩] [52, 53, 54, 55]
abbrev zQt : HCode := oR [oV 56 (.ints .add (.t 38) (.c (iv 1))),
  oV 38 (.mv (.t 56))] [56]
abbrev zQu : HCode := oR [oV 57 (.ints .add (.t 30) (.c (iv 1))),
  oV 30 (.mv (.t 57))] [57]
abbrev zQv : HCode := oN [⟨none, .nlo 15 zBk 1⟩]
abbrev zQw : HCode := oR [oV 58 (.fldR (.t 2) 0 1),
  oV 59 (.fldR (.t 58) 0 1),
  oV 60 (.ldR (.t 59) 1 false),
  oV 61 (.len false (.t 60)),
  oV 62 (.mv (.c (iv 0)))] [58, 59, 60]
abbrev zQx : HCode := oN [oV 63 (.ints .lss (.t 62) (.t 61))]
abbrev zQy : HCode := oR [oV 64 (.mv (.t 62)),
  oV 16 (.mv (.t 64))] [64]
abbrev zQz : HCode := oR [oV 65 (.mv (.t 8)),
  oV 66 (.mv (.t 16)),
  ⟨none, .mpl 67 (.t 65) 27 1 (.t 66) (.v (.int .i64 0)) false⟩,
  oV 68 (.ints .gtr (.t 67) (.c (iv 0)))] [65, 66, 67]
abbrev zQA : HCode := oR [⟨none, .mvo 69 15⟩,
  oV 70 (.mv (.t 16)),
  oV 71 (.bslF 1 [.t 70]),
  ⟨none, .app 72 zBk 1 (.t 69) (.t 71)⟩,
  ⟨none, .mvo 15 72⟩] [69, 70, 71, 72]
abbrev zQB : HCode := oR [oV 73 (.ints .add (.t 62) (.c (iv 1))),
  oV 62 (.mv (.t 73))] [73]
abbrev zQC : HCode := oR [oV 74 (.mv (.t 15)),
  oV 4 (.mv (.t 74)),
  oV 5 (.mv (.c (iv 0)))] [74]
abbrev zZN : HCode := (.seq zTC (.seq (.seq zTD (.seq zTE (.cond (.t 20) (.seq zTF .ret) .skip))) (.seq (.seq zTG (.seq zTH (.cond (.t 25) (.seq zTI .ret) .skip))) (.seq zTJ (.seq (.seq zTK (.block 0 (.loop (.seq zTL (.seq (.cond (.t 31) .skip (.exit 0)) (.seq (.block 1 (.seq zQm (.seq zQn (.block 2 (.loop (.seq zQo (.seq (.cond (.t 39) .skip (.exit 2)) (.seq (.block 3 (.seq zQp (.seq zQq (.seq zQr (.cond (.t 51) zQs .skip))))) zQt)))))))) zQu)))))) (.seq zQv (.seq (.seq zQw (.block 4 (.loop (.seq zQx (.seq (.cond (.t 63) .skip (.exit 4)) (.seq (.block 5 (.seq zQy (.seq zQz (.cond (.t 68) zQA .skip)))) zQB)))))) (.seq zQC .ret))))))))
abbrev zMQ : Env := { N := 75, Γ := [(75, 2)], L := 77, nfix := 0 }
abbrev index_Find_R : List RSrc := [.tmp 4, .tmp 5]
theorem zTM : zCa Tryz.prog zD2 zZN zMQ index_Find_R := by kernel_rfl
end Go.Hx
end

section
namespace Go.Hx
open Go.Proofs
variable [Glob]
attribute [local go_sem] zAq zAo zAp zAg ndV zAl
end Go.Hx
end

section
set_option maxRecDepth 100000
set_option linter.unusedSimpArgs false
namespace Go.Hx
open Go.Proofs
variable [Glob]
attribute [local go_sem] zAq zAo zAp zAg ndV zAl
attribute [local go_sem] reduceCtorEq Nat.reduceAdd Nat.reduceEqDiff reduceIte Nat.reduceLeDiff Nat.reduceLT Nat.reduceSub
theorem zFr (a b : List Int) : Contract Tryz.prog zCf [.val (.one (.sl 1 (zAS a))), .val (.one (.sl 1 (zAS b)))] { res := .val (bv (decide (a = b))) } := by
 refine mkA zOu (base := 0) (fo rfl) (fun hfit => ?_)
 unfold F0 zI9
 simp (maxSteps := 2000000) only [zAH, List.set_cons_succ, List.set_cons_zero, List.map_cons, List.map_nil, zAG, zAa, ioOf, List.length_cons, List.length_nil, Nat.reduceAdd, Nat.reduceSub, List.replicate, List.cons_append, List.nil_append]
 try simp (maxSteps := 2000000) only [go_sem]
 repeat with_reducible refine zAb ?_
 have hm := zDN (k := 1) hfit.1
 rw [zAg] at hm
 refine zAc (by rfl) trivial (fun h => ?_) (fun h => ?_)
 ·try simp (maxSteps := 2000000) only [go_sem]
  repeat with_reducible refine zAb ?_
  refine zAe rfl trivial (.inl ?_)
  congr 3
  simp [zAg] at h
  exact decide_eq_false (fun e => h (by subst e; rfl))
 have hl : a.length = b.length := by simp [zAg] at h; omega
 try simp (maxSteps := 2000000) only [go_sem]
 repeat with_reducible refine zAb ?_
 refine zAv (fun i : Nat => [(5, .pv (iv i)), (14, .un), (25, .un)]) (fun i => a.length - i) (fun i => i ≤ a.length ∧ a.take i = b.take i) 0 ?_ ⟨Nat.zero_le _, rfl⟩ ?_
 ·simp (maxSteps := 2000000) only [go_sem, zAi, zAs, zAF, zAj]
 intro i ⟨hi, heq⟩
 try simp (maxSteps := 2000000) only [go_sem, zAg]
 repeat with_reducible refine zAb ?_
 refine zAc (by rfl) trivial (fun h2 => ?_) (fun h2 => ?_)
 ·have hlt : i < a.length := by simpa using h2
  have hltb : i < b.length := by omega
  try simp (maxSteps := 2000000) only [go_sem, zEj _ _ hlt, zEj _ _ hltb, zAg]
  repeat with_reducible refine zAb ?_
  refine zAc (by rfl) trivial (fun h3 => ?_) (fun h3 => ?_)
  ·try simp (maxSteps := 2000000) only [go_sem]
   repeat with_reducible refine zAb ?_
   refine zAe rfl trivial (.inl ?_)
   congr 3
   simp only [bne_iff_ne, ne_eq] at h3
   exact (decide_eq_false (zZn 0 h3))
  ·try simp (maxSteps := 2000000) only [go_sem]
   repeat with_reducible refine zAb ?_
   refine ⟨i + 1, by omega, ⟨hlt, zUx 0 heq hlt hltb ?_⟩, ?_⟩
   ·simpa only [bne_eq_false_iff_eq] using h3
   ·simp (maxSteps := 2000000) only [go_sem, zAi, zAs, zAF, zAj]
    exact zAr (by omega)
 ·try simp (maxSteps := 2000000) only [go_sem]
  repeat with_reducible refine zAb ?_
  refine zAe rfl trivial (.inl ?_)
  congr 3
  have hi2 : i = a.length := by simp at h2; omega
  subst hi2
  exact decide_eq_true (zZo hl heq)
end Go.Hx
end

section
set_option maxRecDepth 100000
set_option linter.unusedSimpArgs false
namespace Go.Hx
open Go.Proofs
variable [Glob]
attribute [local go_sem] zAq zAo zAp zAg ndV zAl
end Go.Hx
end
