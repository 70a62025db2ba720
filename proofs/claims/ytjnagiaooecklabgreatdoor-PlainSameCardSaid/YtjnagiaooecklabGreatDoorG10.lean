/-
  Walks of functions of the program over an abstract layer, and the laws that they use: each contract says what the function computes, for every input that its conditions let by. No other condition.
-/
import Derived.Test.YtjnagiaooecklabGreatDoorProg
import Derived.Test.YtjnagiaooecklabGreatDoorG9
import Derived.Test.YtjnagiaooecklabGreatDoorG8
set_option linter.all false
section
/-
 The abstract code of functions of the program, printed by gen.py; each stands for the given one. No condition.
-/
namespace Go.Hx
open Go.Proofs
variable [Glob]
abbrev zCl : Nat := 21
abbrev zHt : Nat := 3
abbrev zOY : HCode := oN [oV 4 (.mv (.c (bv false)))]
abbrev zOZ : HCode := oR [oV 6 (.mv (.t 0)),
  oV 7 (.len false (.t 6)),
  oV 8 (.mv (.t 1)),
  oV 9 (.len false (.t 8)),
  oV 10 (.ints .neq (.t 7) (.t 9))] [6, 7, 8, 9]
abbrev zO0 : HCode := oN [oV 4 (.mv (.c (bv false)))]
abbrev zO1 : HCode := oN [oV 5 (.mv (.c (iv 0)))]
abbrev zO2 : HCode := oR [oV 11 (.mv (.t 5)),
  oV 12 (.mv (.t 0)),
  oV 13 (.len false (.t 12)),
  oV 14 (.ints .lss (.t 11) (.t 13))] [11, 12, 13]
abbrev zO3 : HCode := oQ [oD 0 false (oV 17 (.mv (.t 0))),
  oD 1 false (oV 18 (.mv (.t 5))),
  oD 2 false (oV 19 (.idxA 1 (.t 17) (.t 18))),
  oD 3 false (oV 20 (.ldR (.t 19) 1 false)),
  oD 4 false (oV 21 (.mv (.t 1))),
  oD 5 false (oV 22 (.mv (.t 5))),
  oD 6 false (oV 23 (.idxA 1 (.t 21) (.t 22))),
  oD 7 false (oV 24 (.ldR (.t 23) 1 false)),
  oD 8 false (oV 25 (.ints .neq (.t 20) (.t 24)))] [17, 18, 19, 20, 21, 22, 23, 24]
abbrev zO4 : HCode := oN [oV 4 (.mv (.c (bv false)))]
abbrev zO5 : HCode := oR [oV 15 (.mv (.t 5)),
  oV 16 (.ints .add (.t 15) (.c (iv 1))),
  oV 5 (.mv (.t 16))] [15, 16]
abbrev zO6 : HCode := oN [oV 4 (.mv (.c (bv true)))]
abbrev zUq : HCode := (.seq zOY (.seq (.seq zOZ (.cond (.t 10) (.seq zO0 .ret) .skip)) (.seq (.seq zO1 (.block 0 (.loop (.seq (.seq zO2 (.cond (.t 14) .skip (.exit 0))) (.seq (.block 1 (.seq zO3 (.cond (.t 25) (.seq zO4 .ret) .skip))) zO5))))) (.seq zO6 .ret))))
abbrev zJH : Env := { N := 26, Γ := [], L := 26, nfix := 0 }
abbrev ref_SameInts_R : List RSrc := [.tmp 4]
theorem zO7 : zCf Tryz.prog zCl zUq zJH ref_SameInts_R := by kernel_rfl
end Go.Hx
end

section
/-
 The abstract code of functions of the program, printed by gen.py; each stands for the given one. No condition.
-/
namespace Go.Hx
open Go.Proofs
variable [Glob]
abbrev zH0 : Nat := 99
abbrev zJR : Nat := 138
abbrev zEi : Nat := 187
abbrev zEj : Nat := 189
abbrev zDi : Nat := 191
abbrev zCm : Nat := 185
abbrev zE7 : Nat := 192
abbrev zCn : Nat := 188
abbrev zCU : Nat := 186
abbrev zBz : Nat := 190
abbrev zAU : Nat := 228
abbrev zFF : HCode := oN [oV 4 (.mv (.c (iv 0)))]
abbrev zFG : HCode := oR [oV 6 (.mv (.t 0)),
  oV 7 (.len false (.t 6)),
  oV 8 (.mv (.c (iv 0)))] [6]
abbrev zFH : HCode := oN [oV 9 (.ints .lss (.t 8) (.t 7))]
abbrev zFI : HCode := oR [oV 10 (.mv (.t 8)),
  oV 5 (.mv (.t 10))] [10]
abbrev zFJ : HCode := oR [oV 11 (.mv (.t 1)),
  oV 12 (.mv (.t 0)),
  oV 13 (.mv (.t 5)),
  oV 14 (.idxA 2 (.t 12) (.t 13)),
  oV 15 (.ldR (.t 14) 2 true),
  ⟨none, .callv (some 16) (.t 11) [(.t 15, .v)]⟩] [11, 12, 13, 14, 15]
abbrev zFK : HCode := oR [oV 17 (.mv (.t 5)),
  oV 4 (.mv (.t 17))] [17]
abbrev zFL : HCode := oR [oV 18 (.ints .add (.t 8) (.c (iv 1))),
  oV 8 (.mv (.t 18))] [18]
abbrev zFM : HCode := oN [oV 4 (.mv (.c (iv (-1))))]
abbrev zH1 : HCode := (.seq zFF (.seq (.seq zFG (.block 0 (.loop (.seq zFH (.seq (.cond (.t 9) .skip (.exit 0)) (.seq (.block 1 (.seq zFI (.seq zFJ (.cond (.t 16) (.seq zFK .ret) .skip)))) zFL)))))) (.seq zFM .ret)))
abbrev zB5 : Env := { N := 19, Γ := [], L := 19, nfix := 0 }
abbrev slices_IndexFunc_Attr_R : List RSrc := [.tmp 4]
theorem zC1 : zCf Tryz.prog zAU zH1 zB5 slices_IndexFunc_Attr_R := by kernel_rfl
abbrev zEy : HCode := oN [oV 4 (.mv (.c (bv false)))]
abbrev zEz : HCode := oR [oV 5 (.mv (.t 0)),
  oV 6 (.mv (.t 1)),
  oC 7 zAU [(.t 5, .v), (.t 6, .v)],
  oV 8 (.ints .geq (.t 7) (.c (iv 0))),
  oV 4 (.mv (.t 8))] [5, 6, 7, 8]
abbrev zFN : HCode := (.seq zEy (.seq zEz .ret))
abbrev zCA : Env := { N := 9, Γ := [], L := 9, nfix := 0 }
abbrev slices_ContainsFunc_Attr_R : List RSrc := [.tmp 4]
theorem zEA : zCf Tryz.prog zBz zFN zCA slices_ContainsFunc_Attr_R := by kernel_rfl
abbrev zJS : HCode := oN [oV 4 (.mv (.c (bv false)))]
abbrev zJT : HCode := oN [oV 5 (.mv (.c (sv [])))]
abbrev zJU : HCode := oN [oV 8 (.mv (.t 0)),
  oV 9 (.len false (.t 8)),
  oV 10 (.mv (.c (iv 0)))]
abbrev zJV : HCode := oN [oV 11 (.ints .lss (.t 10) (.t 9))]
abbrev zJW : HCode := oR [oV 12 (.idxA 1 (.t 8) (.t 10)),
  oV 13 (.ldR (.t 12) 1 false),
  oV 7 (.mv (.t 13))] [12, 13]
abbrev zJX : HCode := oR [oV 14 (.mv (.t 1)),
  oV 15 (.mv (.t 7)),
  ⟨none, .callv (some 16) (.t 14) [(.t 15, .v)]⟩,
  oC 17 zCm [(.t 16, .v)],
  oV 18 (.not (.t 17)),
  oV 19 (.mv (.t 18)),
  oG 19 false 20 (.mv (.t 1)),
  oG 19 false 21 (.mv (.t 7)),
  ⟨some (19, false), .callv (some 22) (.t 20) [(.t 21, .v)]⟩,
  oG 19 false 23 (.mv (.t 5)),
  oG 19 false 24 (.strs .leq (.t 22) (.t 23)),
  oV 25 (.pick (.t 19) (.c (bv true)) (.t 24))] [14, 15, 16, 17, 18, 19, 20, 21, 22, 23, 24]
abbrev zJY : HCode := oN [oV 4 (.mv (.c (bv false)))]
abbrev zJZ : HCode := oR [oV 26 (.mv (.t 1)),
  oV 27 (.mv (.t 7)),
  ⟨none, .callv (some 28) (.t 26) [(.t 27, .v)]⟩,
  oV 5 (.mv (.t 28))] [26, 27, 28]
abbrev zJ0 : HCode := oR [oV 29 (.ints .add (.t 10) (.c (iv 1))),
  oV 10 (.mv (.t 29))] [29]
abbrev zJ1 : HCode := oN [oV 4 (.mv (.c (bv true)))]
abbrev zNm : HCode := (.seq zJS (.seq zJT (.seq (.seq zJU (.block 0 (.loop (.seq zJV (.seq (.cond (.t 11) .skip (.exit 0)) (.seq (.block 1 (.seq zJW (.seq (.seq zJX (.cond (.t 25) (.seq zJY .ret) .skip)) zJZ))) zJ0)))))) (.seq zJ1 .ret))))
abbrev zE8 : Env := { N := 30, Γ := [], L := 30, nfix := 0 }
abbrev doc_rises_string_R : List RSrc := [.tmp 4]
theorem zJ2 : zCf Tryz.prog zCU zNm zE8 doc_rises_string_R := by kernel_rfl
abbrev zH2 : HCode := oN [oV 4 (.mv (.c (bv false)))]
abbrev zH3 : HCode := oN [oV 5 (.mv (.c (sv [])))]
abbrev zH4 : HCode := oN [oV 8 (.mv (.t 0)),
  oV 9 (.len false (.t 8)),
  oV 10 (.mv (.c (iv 0)))]
abbrev zH5 : HCode := oN [oV 11 (.ints .lss (.t 10) (.t 9))]
abbrev zH6 : HCode := oR [oV 12 (.idxA 2 (.t 8) (.t 10)),
  oV 13 (.ldR (.t 12) 2 true),
  ⟨none, .alloc 7 0 30 [.v (mkS []), .v (mkS [])]⟩,
  ⟨none, .sto (.t 7) 0 30 0 2 (.t 13)⟩] [12, 13]
abbrev zH7 : HCode := oR [oV 14 (.mv (.t 1)),
  oV 15 (.ldB (.t 7) 0 30 0 2 true),
  ⟨none, .callv (some 16) (.t 14) [(.t 15, .v)]⟩,
  oC 17 zCm [(.t 16, .v)],
  oV 18 (.not (.t 17)),
  oV 19 (.mv (.t 18)),
  oG 19 false 20 (.mv (.t 1)),
  oG 19 false 21 (.ldB (.t 7) 0 30 0 2 true),
  ⟨some (19, false), .callv (some 22) (.t 20) [(.t 21, .v)]⟩,
  oG 19 false 23 (.mv (.t 5)),
  oG 19 false 24 (.strs .leq (.t 22) (.t 23)),
  oV 25 (.pick (.t 19) (.c (bv true)) (.t 24))] [14, 15, 16, 17, 18, 19, 20, 21, 22, 23, 24]
abbrev zH8 : HCode := oN [oV 4 (.mv (.c (bv false)))]
abbrev zH9 : HCode := oR [oV 26 (.mv (.t 1)),
  oV 27 (.ldB (.t 7) 0 30 0 2 true),
  ⟨none, .callv (some 28) (.t 26) [(.t 27, .v)]⟩,
  oV 5 (.mv (.t 28))] [26, 27, 28]
abbrev zIa : HCode := oR [oV 29 (.ints .add (.t 10) (.c (iv 1))),
  oV 10 (.mv (.t 29))] [29]
abbrev zIb : HCode := oN [oV 4 (.mv (.c (bv true)))]
abbrev zKY : HCode := (.seq zH2 (.seq zH3 (.seq (.seq zH4 (.block 0 (.loop (.seq zH5 (.seq (.cond (.t 11) .skip (.exit 0)) (.seq (.block 1 (.seq zH6 (.seq (.seq zH7 (.cond (.t 25) (.seq zH8 .ret) .skip)) zH9))) zIa)))))) (.seq zIb .ret))))
abbrev zD8 : Env := { N := 30, Γ := [(30, 2)], L := 32, nfix := 0 }
abbrev doc_rises_api_Attr_R : List RSrc := [.tmp 4]
theorem zIc : zCf Tryz.prog zCn zKY zD8 doc_rises_api_Attr_R := by kernel_rfl
abbrev zWB : HCode := oN [oV 1 (.boxF (.t 0)),
  oV 2 (.mv (.c (bv false)))]
abbrev zWC : HCode := oR [oV 3 (.fldR (.t 1) 1 1),
  oV 4 (.ldR (.t 3) 1 false),
  oC 5 zCm [(.t 4, .v)],
  oV 6 (.mv (.t 5)),
  oG 6 true 7 (.fldR (.t 1) 2 1),
  oG 6 true 8 (.ldR (.t 7) 1 false),
  oG 6 true 9 (.strs .eql (.t 8) (.c (sv []))),
  oG 6 true 10 (.mv (.t 9)),
  oG 10 false 11 (.fldR (.t 1) 2 1),
  oG 10 false 12 (.ldR (.t 11) 1 false),
  ⟨some (10, false), .call (some 13) zCm [(.t 12, .v)]⟩,
  oG 6 true 14 (.pick (.t 10) (.c (bv true)) (.t 13)),
  oV 15 (.pick (.t 6) (.t 14) (.c (bv false))),
  oV 16 (.mv (.t 15)),
  oG 16 true 17 (.fldR (.t 1) 3 1),
  oG 16 true 18 (.ldR (.t 17) 1 false),
  oG 16 true 19 (.len false (.t 18)),
  oG 16 true 20 (.ints .leq (.t 19) (.c (iv 6))),
  oV 21 (.pick (.t 16) (.t 20) (.c (bv false))),
  oV 22 (.mv (.t 21)),
  oG 22 true 23 (.fldR (.t 1) 4 1),
  oG 22 true 24 (.ldR (.t 23) 1 false),
  oG 22 true 25 (.len false (.t 24)),
  oG 22 true 26 (.ints .leq (.t 25) (.c (iv 4))),
  oV 27 (.pick (.t 22) (.t 26) (.c (bv false))),
  oV 28 (.mv (.t 27)),
  oG 28 true 29 (.fldR (.t 1) 3 1),
  oG 28 true 30 (.ldR (.t 29) 1 false),
  ⟨some (28, true), .call (some 31) zCU [(.t 30, .v), (.f zEi, .v)]⟩,
  oV 32 (.pick (.t 28) (.t 31) (.c (bv false))),
  oV 33 (.mv (.t 32)),
  oG 33 true 34 (.fldR (.t 1) 4 1),
  oG 33 true 35 (.ldR (.t 34) 1 false),
  ⟨some (33, true), .call (some 36) zCn [(.t 35, .v), (.f zEj, .v)]⟩,
  oV 37 (.pick (.t 33) (.t 36) (.c (bv false))),
  oV 38 (.mv (.t 37)),
  oG 38 true 39 (.fldR (.t 1) 4 1),
  oG 38 true 40 (.ldR (.t 39) 1 false),
  ⟨some (38, true), .call (some 41) zBz [(.t 40, .v), (.f zDi, .v)]⟩,
  oG 38 true 42 (.not (.t 41)),
  oV 43 (.pick (.t 38) (.t 42) (.c (bv false))),
  oV 2 (.mv (.t 43))] [3, 4, 5, 6, 7, 8, 9, 10, 11, 12, 13, 14, 15, 16, 17, 18, 19, 20, 21, 22, 23, 24, 25, 26, 27, 28, 29, 30, 31, 32, 33, 34, 35, 36, 37, 38, 39, 40, 41, 42, 43]
abbrev yCc : HCode := (.seq zWB (.seq zWC .ret))
abbrev zQ0 : Env := { N := 44, Γ := [], L := 44, nfix := 0 }
abbrev doc_Fine_R : List RSrc := [.tmp 2]
theorem zWD : zCf Tryz.prog zJR yCc zQ0 doc_Fine_R := by kernel_rfl
abbrev zRZ : HCode := oN [oV 2 (.mv (.c (sv [])))]
abbrev zR0 : HCode := oR [oV 3 (.mv (.t 0)),
  oV 2 (.mv (.t 3))] [3]
abbrev zY1 : HCode := (.seq zRZ (.seq zR0 .ret))
abbrev zM2 : Env := { N := 4, Γ := [], L := 4, nfix := 0 }
abbrev doc_Fine_1_R : List RSrc := [.tmp 2]
theorem zR1 : zCf Tryz.prog zEi zY1 zM2 doc_Fine_1_R := by kernel_rfl
abbrev zR2 : HCode := oN [oV 1 (.boxF (.t 0)),
  oV 2 (.mv (.c (sv [])))]
abbrev zR3 : HCode := oR [oV 3 (.fldR (.t 1) 0 1),
  oV 4 (.ldR (.t 3) 1 false),
  oV 2 (.mv (.t 4))] [3, 4]
abbrev zY2 : HCode := (.seq zR2 (.seq zR3 .ret))
abbrev zM3 : Env := { N := 5, Γ := [], L := 5, nfix := 0 }
abbrev doc_Fine_2_R : List RSrc := [.tmp 2]
theorem zR4 : zCf Tryz.prog zEj zY2 zM3 doc_Fine_2_R := by kernel_rfl
abbrev zR5 : HCode := oN [oV 1 (.boxF (.t 0)),
  oV 2 (.mv (.c (bv false)))]
abbrev zR6 : HCode := oR [oV 3 (.fldR (.t 1) 1 1),
  oV 4 (.ldR (.t 3) 1 false),
  oC 5 zE7 [(.t 4, .v)],
  oV 6 (.not (.t 5)),
  oV 2 (.mv (.t 6))] [3, 4, 5, 6]
abbrev zY3 : HCode := (.seq zR5 (.seq zR6 .ret))
abbrev zM4 : Env := { N := 7, Γ := [], L := 7, nfix := 0 }
abbrev doc_Fine_3_R : List RSrc := [.tmp 2]
theorem zR7 : zCf Tryz.prog zDi zY3 zM4 doc_Fine_3_R := by kernel_rfl
abbrev zUr : HCode := oN [oV 1 (.boxF (.t 0)),
  oV 2 (.mv (.c (iv 0)))]
abbrev zUs : HCode := oR [oV 6 (.fldR (.t 1) 0 1),
  oV 7 (.ldR (.t 6) 1 false),
  oV 8 (.len false (.t 7)),
  oV 9 (.ints .lss (.t 8) (.c (iv 1))),
  oV 10 (.mv (.t 9)),
  oG 10 false 11 (.fldR (.t 1) 0 1),
  oG 10 false 12 (.ldR (.t 11) 1 false),
  oG 10 false 13 (.len false (.t 12)),
  oG 10 false 14 (.ints .gtr (.t 13) (.c (iv 64))),
  oV 15 (.pick (.t 10) (.c (bv true)) (.t 14))] [6, 7, 8, 9, 10, 11, 12, 13, 14]
abbrev zUt : HCode := oN [oV 2 (.mv (.c (iv 2)))]
abbrev zUu : HCode := oN [⟨none, .nlk 3 zHt 1⟩]
abbrev zUv : HCode := oR [oV 16 (.fldR (.t 1) 0 1),
  oV 17 (.ldR (.t 16) 1 false),
  oV 18 (.len false (.t 17)),
  oV 19 (.mv (.c (iv 0)))] [16]
abbrev zUw : HCode := oN [oV 20 (.ints .lss (.t 19) (.t 18))]
abbrev zUx : HCode := .reg [oV 21 (.mv (.t 19)),
  oV 22 (.idxA 5 (.t 17) (.t 19)),
  oV 23 (.ldR (.t 22) 5 true),
  ⟨none, .alloc 5 0 69 [.v (.int .i64 0), .v (mkS []), .v (mkS []), .nl 1, .nl 2]⟩,
  oV 4 (.mv (.t 21)),
  ⟨none, .sto (.t 5) 0 69 0 5 (.t 23)⟩] false [.frz 0 69 5, .forget [21, 22, 23]]
abbrev zUy : HCode := .rdr 3 [oV 24 (.mv (.t 3)),
  oV 25 (.len false (.t 24)),
  oV 26 (.ints .gtr (.t 25) (.c (iv 0))),
  oV 27 (.mv (.t 26)),
  oG 27 true 28 (.mv (.t 3)),
  oG 27 true 29 (.mv (.t 3)),
  oG 27 true 30 (.len false (.t 29)),
  oG 27 true 31 (.ints .sub (.t 30) (.c (iv 1))),
  oG 27 true 32 (.idxA 1 (.t 28) (.t 31)),
  oG 27 true 33 (.ldR (.t 32) 1 false),
  oG 27 true 34 (.fldR (.t 5) 0 1),
  oG 27 true 35 (.ldR (.t 34) 1 false),
  oG 27 true 36 (.ints .neq (.t 33) (.t 35)),
  oV 37 (.pick (.t 27) (.t 36) (.c (bv false)))] true [.forget [24, 25, 26, 27, 28, 29, 30, 31, 32, 33, 34, 35, 36]]
abbrev zUz : HCode := oR [⟨none, .mvk 38 3⟩,
  oV 39 (.mv (.t 3)),
  oV 40 (.len false (.t 39)),
  oV 41 (.ints .sub (.t 40) (.c (iv 1))),
  ⟨none, .trk 42 38 (.t 41)⟩,
  ⟨none, .mvk 3 42⟩] [38, 39, 40, 41, 42]
abbrev zUA : HCode := .rdr 3 [oV 43 (.ldR (.t 5) 5 true),
  oC 44 zJR [(.t 43, .v)],
  oV 45 (.not (.t 44)),
  oV 46 (.mv (.t 45)),
  oG 46 false 47 (.mv (.t 4)),
  oG 46 false 48 (.ints .eql (.t 47) (.c (iv 0))),
  oG 46 false 49 (.mv (.t 48)),
  oG 49 true 50 (.fldR (.t 5) 0 1),
  oG 49 true 51 (.ldR (.t 50) 1 false),
  oG 49 true 52 (.ints .neq (.t 51) (.c (iv (-1)))),
  oG 46 false 53 (.pick (.t 49) (.t 52) (.c (bv false))),
  oV 54 (.pick (.t 46) (.c (bv true)) (.t 53)),
  oV 55 (.mv (.t 54)),
  oG 55 false 56 (.mv (.t 4)),
  oG 55 false 57 (.ints .gtr (.t 56) (.c (iv 0))),
  oG 55 false 58 (.mv (.t 57)),
  oG 58 true 59 (.mv (.t 3)),
  oG 58 true 60 (.len false (.t 59)),
  oG 58 true 61 (.ints .eql (.t 60) (.c (iv 0))),
  oG 55 false 62 (.pick (.t 58) (.t 61) (.c (bv false))),
  oV 63 (.pick (.t 55) (.c (bv true)) (.t 62))] false [.forget [43, 44, 45, 46, 47, 48, 49, 50, 51, 52, 53, 54, 55, 56, 57, 58, 59, 60, 61, 62]]
abbrev zR8 : HCode := oN [oV 2 (.mv (.c (iv 1)))]
abbrev zR9 : HCode := oR [⟨none, .mvk 64 3⟩,
  oV 65 (.mv (.t 4)),
  oV 66 (.bslF 1 [.t 65]),
  ⟨none, .apk 67 zHt 1 64 (.t 66)⟩,
  ⟨none, .mvk 3 67⟩] [64, 65, 66, 67]
abbrev zSa : HCode := oR [oV 68 (.ints .add (.t 19) (.c (iv 1))),
  oV 19 (.mv (.t 68))] [68]
abbrev zSb : HCode := oN [oV 2 (.mv (.c (iv 0)))]
abbrev yAx : HCode := (.seq zUr (.seq (.seq zUs (.cond (.t 15) (.seq zUt .ret) .skip)) (.seq zUu (.seq (.seq zUv (.block 0 (.loop (.seq zUw (.seq (.cond (.t 20) .skip (.exit 0)) (.seq (.block 1 (.seq zUx (.seq (.block 2 (.loop (.seq (.seq zUy (.cond (.t 37) .skip (.exit 2))) (.block 3 zUz)))) (.seq (.seq zUA (.cond (.t 63) (.seq zR8 .ret) .skip)) zR9)))) zSa)))))) (.seq zSb .ret)))))
abbrev zO8 : Env := { N := 69, Γ := [(69, 5)], L := 74, nfix := 0 }
abbrev doc_Check_R : List RSrc := [.tmp 2]
theorem zUB : zCf Tryz.prog zH0 yAx zO8 doc_Check_R := by kernel_rfl
end Go.Hx
end

section
/-
 The abstract code of functions of the program, printed by gen.py; each stands for the given one. No condition.
-/
namespace Go.Hx
open Go.Proofs
variable [Glob]
abbrev zCs : Nat := 239
abbrev zCc : Nat := 240
abbrev zBu : Nat := 238
abbrev zEB : Nat := 237
abbrev zWE : HCode := oN [oV 2 (.mv (.c (bv false)))]
abbrev zWF : HCode := oR [oV 3 (.mv (.t 0)),
  oV 4 (.len true (.t 3)),
  oV 5 (.ints .gtr (.t 4) (.c (iv 0))),
  oV 6 (.mv (.t 5)),
  oG 6 true 7 (.mv (.t 0)),
  oG 6 true 8 (.len true (.t 7)),
  oG 6 true 9 (.ints .leq (.t 8) (.c (iv 12))),
  oV 10 (.pick (.t 6) (.t 9) (.c (bv false))),
  oV 11 (.mv (.t 10)),
  oG 11 true 12 (.mv (.t 0)),
  oG 11 true 13 (.idxS (.t 12) (.c (iv 0))),
  oG 11 true 14 (.ints .geq (.t 13) (.c (.one (.v (.int .u8 97))))),
  oV 15 (.pick (.t 11) (.t 14) (.c (bv false))),
  oV 16 (.mv (.t 15)),
  oG 16 true 17 (.mv (.t 0)),
  oG 16 true 18 (.idxS (.t 17) (.c (iv 0))),
  oG 16 true 19 (.ints .leq (.t 18) (.c (.one (.v (.int .u8 122))))),
  oV 20 (.pick (.t 16) (.t 19) (.c (bv false))),
  oV 21 (.mv (.t 20)),
  oG 21 true 22 (.mv (.t 0)),
  ⟨some (21, true), .call (some 23) zEB [(.t 22, .v), (.c (sv [97, 98, 99, 100, 101, 102, 103, 104, 105, 106, 107, 108, 109, 110, 111, 112, 113, 114, 115, 116, 117, 118, 119, 120, 121, 122, 48, 49, 50, 51, 52, 53, 54, 55, 56, 57, 45]), .v)]⟩,
  oG 21 true 24 (.strs .eql (.t 23) (.c (sv []))),
  oV 25 (.pick (.t 21) (.t 24) (.c (bv false))),
  oV 26 (.mv (.t 25)),
  oG 26 true 27 (.mv (.t 0)),
  ⟨some (26, true), .call (some 28) zBu [(.t 27, .v), (.f zCs, .v)]⟩,
  oG 26 true 29 (.not (.t 28)),
  oV 30 (.pick (.t 26) (.t 29) (.c (bv false))),
  oV 2 (.mv (.t 30))] [3, 4, 5, 6, 7, 8, 9, 10, 11, 12, 13, 14, 15, 16, 17, 18, 19, 20, 21, 22, 23, 24, 25, 26, 27, 28, 29, 30]
abbrev yCd : HCode := (.seq zWE (.seq zWF .ret))
abbrev zQ1 : Env := { N := 31, Γ := [], L := 31, nfix := 0 }
abbrev doc_Name_R : List RSrc := [.tmp 2]
theorem zWG : zCf Tryz.prog zCm yCd zQ1 doc_Name_R := by kernel_rfl
abbrev zSc : HCode := oN [oV 2 (.mv (.c (bv false)))]
abbrev zSd : HCode := oR [oV 3 (.mv (.t 0)),
  oV 4 (.ints .lss (.t 3) (.c (.one (.v (.int .i32 97))))),
  oV 5 (.mv (.t 4)),
  oG 5 false 6 (.mv (.t 0)),
  oG 5 false 7 (.ints .gtr (.t 6) (.c (.one (.v (.int .i32 122))))),
  oV 8 (.pick (.t 5) (.c (bv true)) (.t 7)),
  oV 9 (.mv (.t 8)),
  oG 9 true 10 (.mv (.t 0)),
  oG 9 true 11 (.ints .lss (.t 10) (.c (.one (.v (.int .i32 48))))),
  oG 9 true 12 (.mv (.t 11)),
  oG 12 false 13 (.mv (.t 0)),
  oG 12 false 14 (.ints .gtr (.t 13) (.c (.one (.v (.int .i32 57))))),
  oG 9 true 15 (.pick (.t 12) (.c (bv true)) (.t 14)),
  oV 16 (.pick (.t 9) (.t 15) (.c (bv false))),
  oV 17 (.mv (.t 16)),
  oG 17 true 18 (.mv (.t 0)),
  oG 17 true 19 (.ints .neq (.t 18) (.c (.one (.v (.int .i32 45))))),
  oV 20 (.pick (.t 17) (.t 19) (.c (bv false))),
  oV 2 (.mv (.t 20))] [3, 4, 5, 6, 7, 8, 9, 10, 11, 12, 13, 14, 15, 16, 17, 18, 19, 20]
abbrev zY4 : HCode := (.seq zSc (.seq zSd .ret))
abbrev zM5 : Env := { N := 21, Γ := [], L := 21, nfix := 0 }
abbrev doc_Name_1_R : List RSrc := [.tmp 2]
theorem zSe : zCf Tryz.prog zCs zY4 zM5 doc_Name_1_R := by kernel_rfl
abbrev zUC : HCode := oN [oV 2 (.mv (.c (bv false)))]
abbrev zUD : HCode := oR [oV 3 (.mv (.t 0)),
  oV 4 (.len true (.t 3)),
  oV 5 (.ints .leq (.t 4) (.c (iv 16))),
  oV 6 (.mv (.t 5)),
  oG 6 true 7 (.mv (.t 0)),
  ⟨some (6, true), .call (some 8) zBu [(.t 7, .v), (.f zCc, .v)]⟩,
  oG 6 true 9 (.not (.t 8)),
  oV 10 (.pick (.t 6) (.t 9) (.c (bv false))),
  oV 2 (.mv (.t 10))] [3, 4, 5, 6, 7, 8, 9, 10]
abbrev yAy : HCode := (.seq zUC (.seq zUD .ret))
abbrev zO9 : Env := { N := 11, Γ := [], L := 11, nfix := 0 }
abbrev doc_Value_R : List RSrc := [.tmp 2]
theorem zUE : zCf Tryz.prog zE7 yAy zO9 doc_Value_R := by kernel_rfl
abbrev zPT : HCode := oN [oV 2 (.mv (.c (bv false)))]
abbrev zPU : HCode := oR [oV 3 (.mv (.t 0)),
  oV 4 (.ints .lss (.t 3) (.c (.one (.v (.int .i32 32))))),
  oV 5 (.mv (.t 4)),
  oG 5 false 6 (.mv (.t 0)),
  oG 5 false 7 (.ints .gtr (.t 6) (.c (.one (.v (.int .i32 126))))),
  oV 8 (.pick (.t 5) (.c (bv true)) (.t 7)),
  oV 9 (.mv (.t 8)),
  oG 9 false 10 (.mv (.t 0)),
  oG 9 false 11 (.ints .eql (.t 10) (.c (.one (.v (.int .i32 34))))),
  oV 12 (.pick (.t 9) (.c (bv true)) (.t 11)),
  oV 2 (.mv (.t 12))] [3, 4, 5, 6, 7, 8, 9, 10, 11, 12]
abbrev zWH : HCode := (.seq zPT (.seq zPU .ret))
abbrev zKZ : Env := { N := 13, Γ := [], L := 13, nfix := 0 }
abbrev doc_Value_1_R : List RSrc := [.tmp 2]
theorem zPV : zCf Tryz.prog zCc zWH zKZ doc_Value_1_R := by kernel_rfl
end Go.Hx
end

section
/-
 The abstract code of functions of the program, printed by gen.py; each stands for the given one. No condition.
-/
namespace Go.Hx
open Go.Proofs
variable [Glob]
abbrev zE9 : Nat := 221
abbrev zFa : Nat := 171
abbrev zUF : HCode := oN [oV 1 (.boxF (.t 0)),
  oV 2 (.mv (.c (iv 0)))]
abbrev zUG : HCode := oR [oV 5 (.fldR (.t 1) 0 1),
  oV 6 (.ldR (.t 5) 1 false),
  oV 7 (.fldR (.t 1) 1 1),
  oV 8 (.ldR (.t 7) 1 false),
  oV 9 (.bld [.v (.int .i64 0), .v (.int .i64 0)] [(0, 1, .t 6), (1, 1, .t 8)]),
  oV 10 (.mv (.c (iv 0)))] [5, 6, 7, 8]
abbrev zUH : HCode := oN [oV 11 (.ints .lss (.t 10) (.c (iv 2)))]
abbrev zUI : HCode := oR [oV 12 (.idxV 2 (.t 9) (.t 10)),
  oV 4 (.mv (.t 12))] [12]
abbrev zUJ : HCode := oR [oV 13 (.mv (.t 4)),
  oV 14 (.ints .lss (.t 13) (.c (iv (-1048576)))),
  oV 15 (.mv (.t 14)),
  oG 15 false 16 (.mv (.t 4)),
  oG 15 false 17 (.ints .gtr (.t 16) (.c (iv 1048576))),
  oV 18 (.pick (.t 15) (.c (bv true)) (.t 17))] [13, 14, 15, 16, 17]
abbrev zUK : HCode := oN [oV 2 (.mv (.c (iv 3)))]
abbrev zUL : HCode := oR [oV 19 (.ints .add (.t 10) (.c (iv 1))),
  oV 10 (.mv (.t 19))] [19]
abbrev zUM : HCode := oN [oV 2 (.mv (.c (iv 0)))]
abbrev yAz : HCode := (.seq zUF (.seq (.seq zUG (.block 0 (.loop (.seq zUH (.seq (.cond (.t 11) .skip (.exit 0)) (.seq (.block 1 (.seq zUI (.seq zUJ (.cond (.t 18) (.seq zUK .ret) .skip)))) zUL)))))) (.seq zUM .ret)))
abbrev zPa : Env := { N := 20, Γ := [], L := 20, nfix := 0 }
abbrev nth_Check_R : List RSrc := [.tmp 2]
theorem zUN : zCf Tryz.prog zE9 yAz zPa nth_Check_R := by kernel_rfl
abbrev zUO : HCode := oN [oV 2 (.boxF (.t 0)),
  oV 4 (.mv (.c (bv false)))]
abbrev zUP : HCode := oR [oV 6 (.ldR (.t 2) 2 true),
  oC 7 zE9 [(.t 6, .v)],
  oV 8 (.ints .neq (.t 7) (.c (iv 0))),
  oV 9 (.mv (.t 8)),
  oG 9 false 10 (.mv (.t 1)),
  oG 9 false 11 (.ints .lss (.t 10) (.c (iv 1))),
  oV 12 (.pick (.t 9) (.c (bv true)) (.t 11)),
  oV 13 (.mv (.t 12)),
  oG 13 false 14 (.mv (.t 1)),
  oG 13 false 15 (.ints .gtr (.t 14) (.c (iv 1073741824))),
  oV 16 (.pick (.t 13) (.c (bv true)) (.t 15))] [6, 7, 8, 9, 10, 11, 12, 13, 14, 15]
abbrev zUQ : HCode := oN [oV 4 (.mv (.c (bv false)))]
abbrev zUR : HCode := oR [oV 17 (.mv (.t 1)),
  oV 18 (.fldR (.t 2) 1 1),
  oV 19 (.ldR (.t 18) 1 false),
  oV 20 (.ints .sub (.t 17) (.t 19)),
  oV 5 (.mv (.t 20))] [17, 18, 19, 20]
abbrev zUS : HCode := oR [oV 21 (.fldR (.t 2) 0 1),
  oV 22 (.ldR (.t 21) 1 false),
  oV 23 (.ints .eql (.t 22) (.c (iv 0)))] [21, 22]
abbrev zUT : HCode := oR [oV 24 (.mv (.t 5)),
  oV 25 (.ints .eql (.t 24) (.c (iv 0))),
  oV 4 (.mv (.t 25))] [24, 25]
abbrev zUU : HCode := oR [oV 26 (.mv (.t 5)),
  oV 27 (.fldR (.t 2) 0 1),
  oV 28 (.ldR (.t 27) 1 false),
  oV 29 (.ints .rem (.t 26) (.t 28)),
  oV 30 (.ints .eql (.t 29) (.c (iv 0))),
  oV 31 (.mv (.t 30)),
  oG 31 true 32 (.mv (.t 5)),
  oG 31 true 33 (.fldR (.t 2) 0 1),
  oG 31 true 34 (.ldR (.t 33) 1 false),
  oG 31 true 35 (.ints .quo (.t 32) (.t 34)),
  oG 31 true 36 (.ints .geq (.t 35) (.c (iv 0))),
  oV 37 (.pick (.t 31) (.t 36) (.c (bv false))),
  oV 4 (.mv (.t 37))] [26, 27, 28, 29, 30, 31, 32, 33, 34, 35, 36, 37]
abbrev yAA : HCode := (.seq zUO (.seq (.seq zUP (.cond (.t 16) (.seq zUQ .ret) .skip)) (.seq zUR (.seq (.seq zUS (.cond (.t 23) (.seq zUT .ret) .skip)) (.seq zUU .ret)))))
abbrev zPb : Env := { N := 38, Γ := [], L := 38, nfix := 0 }
abbrev nth_Holds_R : List RSrc := [.tmp 4]
theorem zUV : zCf Tryz.prog zFa yAA zPb nth_Holds_R := by kernel_rfl
end Go.Hx
end

section
/-
 The abstract code of functions of the program, printed by gen.py; each stands for the given one. No condition.
-/
namespace Go.Hx
open Go.Proofs
variable [Glob]
abbrev zCt : Nat := 54
abbrev zBv : Nat := 110
abbrev zAx : Nat := 163
abbrev zCu : Nat := 164
abbrev zL6 : Nat := 220
abbrev zHh : Nat := 111
abbrev zY5 : HCode := oN [⟨none, .alloc 2 0 31 [.v (.bool false), .v (.bool false), .v (.bool false), .v (.bool false)]⟩,
  oV 3 (.mv (.c (bv false)))]
abbrev zY6 : HCode := oN [oV 4 (.mv (.t 0))]
abbrev zY7 : HCode := oR [oV 6 (.ints .eql (.t 4) (.c (iv 1))),
  oV 5 (.mv (.t 6))] [6]
abbrev zY8 : HCode := oR [oV 7 (.ints .eql (.t 4) (.c (iv 2))),
  oV 5 (.mv (.t 7))] [7]
abbrev zY9 : HCode := oR [oV 8 (.ints .eql (.t 4) (.c (iv 3))),
  oV 5 (.mv (.t 8))] [8]
abbrev zZa : HCode := oR [oV 9 (.bld [.v (.bool false), .v (.bool false), .v (.bool false), .v (.bool false)] [(0, 1, .c (bv true))]),
  ⟨none, .sto (.t 2) 0 31 0 4 (.t 9)⟩,
  oV 3 (.mv (.c (bv true)))] [9]
abbrev zZb : HCode := oR [oV 11 (.ints .eql (.t 4) (.c (iv 4))),
  oV 10 (.mv (.t 11))] [11]
abbrev zZc : HCode := oR [oV 12 (.ints .eql (.t 4) (.c (iv 5))),
  oV 10 (.mv (.t 12))] [12]
abbrev zZd : HCode := oR [oV 13 (.ints .eql (.t 4) (.c (iv 6))),
  oV 10 (.mv (.t 13))] [13]
abbrev zZe : HCode := oR [oV 14 (.ints .eql (.t 4) (.c (iv 7))),
  oV 10 (.mv (.t 14))] [14]
abbrev zWI : HCode := oR [oV 15 (.ints .eql (.t 4) (.c (iv 8))),
  oV 10 (.mv (.t 15))] [15]
abbrev zWJ : HCode := oR [oV 16 (.bld [.v (.bool false), .v (.bool false), .v (.bool false), .v (.bool false)] [(0, 1, .c (bv true)), (1, 1, .c (bv true))]),
  ⟨none, .sto (.t 2) 0 31 0 4 (.t 16)⟩,
  oV 3 (.mv (.c (bv true)))] [16]
abbrev zWK : HCode := oR [oV 18 (.ints .eql (.t 4) (.c (iv 9))),
  oV 17 (.mv (.t 18))] [18]
abbrev zWL : HCode := oR [oV 19 (.ints .eql (.t 4) (.c (iv 10))),
  oV 17 (.mv (.t 19))] [19]
abbrev zWM : HCode := oR [oV 20 (.bld [.v (.bool false), .v (.bool false), .v (.bool false), .v (.bool false)] [(2, 1, .c (bv true))]),
  ⟨none, .sto (.t 2) 0 31 0 4 (.t 20)⟩,
  oV 3 (.mv (.c (bv true)))] [20]
abbrev zWN : HCode := oR [oV 22 (.ints .eql (.t 4) (.c (iv 11))),
  oV 21 (.mv (.t 22))] [22]
abbrev zWO : HCode := oR [oV 23 (.ints .eql (.t 4) (.c (iv 12))),
  oV 21 (.mv (.t 23))] [23]
abbrev zWP : HCode := oR [oV 24 (.bld [.v (.bool false), .v (.bool false), .v (.bool false), .v (.bool false)] []),
  ⟨none, .sto (.t 2) 0 31 0 4 (.t 24)⟩,
  oV 3 (.mv (.c (bv true)))] [24]
abbrev zWQ : HCode := oR [oV 26 (.ints .eql (.t 4) (.c (iv 13))),
  oV 25 (.mv (.t 26))] [26]
abbrev zWR : HCode := oR [oV 27 (.ints .eql (.t 4) (.c (iv 14))),
  oV 25 (.mv (.t 27))] [27]
abbrev zWS : HCode := oR [oV 28 (.ints .eql (.t 4) (.c (iv 15))),
  oV 25 (.mv (.t 28))] [28]
abbrev zWT : HCode := oR [oV 29 (.bld [.v (.bool false), .v (.bool false), .v (.bool false), .v (.bool false)] [(3, 1, .c (bv true))]),
  ⟨none, .sto (.t 2) 0 31 0 4 (.t 29)⟩,
  oV 3 (.mv (.c (bv true)))] [29]
abbrev zWU : HCode := oR [oV 30 (.bld [.v (.bool false), .v (.bool false), .v (.bool false), .v (.bool false)] []),
  ⟨none, .sto (.t 2) 0 31 0 4 (.t 30)⟩,
  oV 3 (.mv (.c (bv false)))] [30]
abbrev yEv : HCode := (.seq zY5 (.seq (.seq zY6 (.block 0 (.seq (.seq zY7 (.cond (.t 5) .skip (.seq zY8 (.cond (.t 5) .skip zY9)))) (.cond (.t 5) (.seq zZa .ret) (.seq (.seq zZb (.cond (.t 10) .skip (.seq zZc (.cond (.t 10) .skip (.seq zZd (.cond (.t 10) .skip (.seq zZe (.cond (.t 10) .skip zWI)))))))) (.cond (.t 10) (.seq zWJ .ret) (.seq (.seq zWK (.cond (.t 17) .skip zWL)) (.cond (.t 17) (.seq zWM .ret) (.seq (.seq zWN (.cond (.t 21) .skip zWO)) (.cond (.t 21) (.seq zWP .ret) (.seq (.seq zWQ (.cond (.t 25) .skip (.seq zWR (.cond (.t 25) .skip zWS)))) (.cond (.t 25) (.seq zWT .ret) .skip)))))))))))) (.seq zWU .ret)))
abbrev zUW : Env := { N := 31, Γ := [(31, 4)], L := 35, nfix := 0 }
abbrev path_of_R : List RSrc := [.cellB 2 0 31 0 4 true, .tmp 3]
theorem zZf : zCf Tryz.prog zL6 yEv zUW path_of_R := by kernel_rfl
abbrev zSf : HCode := oN [⟨none, .alloc 0 0 2 [.v (.int .i64 0), .v (.int .i64 0), .v (.int .i64 0), .v (.int .i64 0)]⟩]
abbrev zSg : HCode := oR [oV 1 (.bld [.v (.int .i64 0), .v (.int .i64 0), .v (.int .i64 0), .v (.int .i64 0)] [(0, 1, .c (iv 2)), (1, 1, .c (iv 4)), (2, 1, .c (iv 1)), (3, 1, .c (iv 3))]),
  ⟨none, .sto (.t 0) 0 2 0 4 (.t 1)⟩] [1]
abbrev zZg : HCode := (.seq zSf (.seq zSg .ret))
abbrev zM6 : Env := { N := 2, Γ := [(2, 4)], L := 6, nfix := 0 }
abbrev path_order_R : List RSrc := [.cellB 0 0 2 0 4 true]
theorem zSh : zCf Tryz.prog zHh zZg zM6 path_order_R := by kernel_rfl
abbrev zL7 : HCode := oN [oV 6 (.mv (.t 1))]
abbrev zL8 : HCode := oQ [oD 0 false (oV 7 (.mv (.t 0))),
  oD 1 false (oV 8 (.mv (.t 2))),
  oD 2 false (oV 9 (.nilck (.t 7))),
  oD 3 false (oV 10 (.fldP (.t 9) 0)),
  oD 4 false (oV 11 (.ixB 5 (.t 10) (.t 8))),
  oD 5 false (oV 12 (.ldD (.t 11) 0 17 5)),
  oD 6 false (oV 13 (.ints .add (.t 12) (.c (iv 1)))),
  oD 7 false (oV 14 (.nilck (.t 7))),
  oD 8 false (oV 15 (.fldP (.t 14) 0)),
  oD 9 false (oV 16 (.ixB 5 (.t 15) (.t 8))),
  oD 10 false ⟨none, .std (.t 16) 0 17 5 (.t 13)⟩] [7, 8, 9, 10, 11, 12, 13, 14, 15, 16]
abbrev zPW : HCode := (.seq zL7 (.cond (.t 6) zL8 .skip))
abbrev zB9 : Env := { N := 17, Γ := [(17, 5)], L := 22, nfix := 1 }
abbrev path_look_note_R : List RSrc := []
theorem zCv : zCf Tryz.prog zAx zPW zB9 path_look_note_R := by kernel_rfl
abbrev zL9 : HCode := oR [oV 12 (.mv (.t 2)),
  oV 13 (.ints .gtr (.t 12) (.c (iv 3))),
  oV 14 (.mv (.t 13)),
  oG 14 false 15 (.mv (.t 1)),
  oG 14 false 16 (.len false (.t 15)),
  oG 14 false 17 (.ints .lss (.t 16) (.c (iv 1))),
  oV 18 (.pick (.t 14) (.c (bv true)) (.t 17)),
  oV 19 (.mv (.t 18)),
  oG 19 false 20 (.mv (.t 1)),
  oG 19 false 21 (.len false (.t 20)),
  oG 19 false 22 (.ints .gtr (.t 21) (.c (iv 5))),
  oV 23 (.pick (.t 19) (.c (bv true)) (.t 22))] [12, 13, 14, 15, 16, 17, 18, 19, 20, 21, 22]
abbrev zMa : HCode := oR [oV 24 (.mv (.t 0)),
  oC 25 zAx [(.t 24, .i 0 83 5), (.c (bv true), .v), (.c (iv 2), .v)]] [24, 25]
abbrev zMb : HCode := oN [oV 26 (.mv (.t 1)),
  oV 27 (.len false (.t 26)),
  oV 28 (.mv (.c (iv 0)))]
abbrev zMc : HCode := oN [oV 29 (.ints .lss (.t 28) (.t 27))]
abbrev zMd : HCode := .reg [oV 30 (.idxA 2 (.t 26) (.t 28)),
  oV 31 (.ldR (.t 30) 2 true),
  ⟨none, .alloc 7 1 88 [.nl 2, .nl 1]⟩,
  ⟨none, .sto (.t 7) 1 88 0 2 (.t 31)⟩] false [.frz 1 88 2, .forget [30, 31]]
abbrev zMe : HCode := oR [oV 32 (.fldR (.t 7) 0 1),
  oV 33 (.ldR (.t 32) 1 false),
  oV 34 (.len false (.t 33)),
  oV 35 (.ints .lss (.t 34) (.c (iv 1))),
  oV 36 (.mv (.t 35)),
  oG 36 false 37 (.fldR (.t 7) 0 1),
  oG 36 false 38 (.ldR (.t 37) 1 false),
  oG 36 false 39 (.len false (.t 38)),
  oG 36 false 40 (.ints .gtr (.t 39) (.c (iv 5))),
  oV 41 (.pick (.t 36) (.c (bv true)) (.t 40)),
  oV 42 (.mv (.t 41)),
  oG 42 false 43 (.fldR (.t 7) 1 1),
  oG 42 false 44 (.ldR (.t 43) 1 false),
  oG 42 false 45 (.len false (.t 44)),
  oG 42 false 46 (.fldR (.t 7) 0 1),
  oG 42 false 47 (.ldR (.t 46) 1 false),
  oG 42 false 48 (.len false (.t 47)),
  oG 42 false 49 (.ints .sub (.t 48) (.c (iv 1))),
  oG 42 false 50 (.ints .neq (.t 45) (.t 49)),
  oV 51 (.pick (.t 42) (.c (bv true)) (.t 50))] [32, 33, 34, 35, 36, 37, 38, 39, 40, 41, 42, 43, 44, 45, 46, 47, 48, 49, 50]
abbrev zMf : HCode := oR [oV 52 (.mv (.t 0)),
  oC 53 zAx [(.t 52, .i 0 83 5), (.c (bv true), .v), (.c (iv 2), .v)]] [52, 53]
abbrev zMg : HCode := oR [oV 54 (.fldR (.t 7) 1 1),
  oV 55 (.ldR (.t 54) 1 false),
  oV 56 (.len false (.t 55)),
  oV 57 (.mv (.c (iv 0)))] [54]
abbrev zMh : HCode := oN [oV 58 (.ints .lss (.t 57) (.t 56))]
abbrev zMi : HCode := oR [oV 59 (.idxA 1 (.t 55) (.t 57)),
  oV 60 (.ldR (.t 59) 1 false),
  oV 9 (.mv (.t 60))] [59, 60]
abbrev zK0 : HCode := oR [oV 61 (.mv (.t 0)),
  oV 62 (.mv (.t 9)),
  oV 63 (.ints .lss (.t 62) (.c (iv 1))),
  oV 64 (.mv (.t 63)),
  oG 64 false 65 (.mv (.t 9)),
  oG 64 false 66 (.ints .gtr (.t 65) (.c (iv 4))),
  oV 67 (.pick (.t 64) (.c (bv true)) (.t 66)),
  oC 68 zAx [(.t 61, .i 0 83 5), (.t 67, .v), (.c (iv 4), .v)]] [61, 62, 63, 64, 65, 66, 67, 68]
abbrev zK1 : HCode := oR [oV 69 (.ints .add (.t 57) (.c (iv 1))),
  oV 57 (.mv (.t 69))] [69]
abbrev zK2 : HCode := oR [oV 70 (.fldR (.t 7) 0 1),
  oV 71 (.ldR (.t 70) 1 false),
  oV 72 (.len false (.t 71)),
  oV 73 (.mv (.c (iv 0)))] [70]
abbrev zK3 : HCode := oN [oV 74 (.ints .lss (.t 73) (.t 72))]
abbrev zK4 : HCode := oR [oV 75 (.idxA 2 (.t 71) (.t 73)),
  oV 76 (.ldR (.t 75) 2 true),
  ⟨none, .alloc 11 2 90 [.v (mkS []), .nl 6]⟩,
  ⟨none, .sto (.t 11) 2 90 0 2 (.t 76)⟩] [75, 76]
abbrev zK5 : HCode := oR [oV 77 (.mv (.t 0)),
  oV 78 (.ldB (.t 11) 2 90 0 2 true),
  oV 79 (.mv (.t 2)),
  oC 80 zCu [(.t 77, .i 0 83 5), (.t 78, .v), (.t 79, .v)]] [77, 78, 79, 80]
abbrev zK6 : HCode := oR [oV 81 (.ints .add (.t 73) (.c (iv 1))),
  oV 73 (.mv (.t 81))] [81]
abbrev zK7 : HCode := oR [oV 82 (.ints .add (.t 28) (.c (iv 1))),
  oV 28 (.mv (.t 82))] [82]
abbrev zPX : HCode := (.seq (.seq zL9 (.cond (.t 23) (.seq zMa .ret) .skip)) (.seq zMb (.block 0 (.loop (.seq zMc (.seq (.cond (.t 29) .skip (.exit 0)) (.seq (.block 1 (.seq zMd (.seq (.seq zMe (.cond (.t 51) (.seq zMf .ret) .skip)) (.seq (.seq zMg (.block 2 (.loop (.seq zMh (.seq (.cond (.t 58) .skip (.exit 2)) (.seq (.block 3 (.seq zMi zK0)) zK1)))))) (.seq zK2 (.block 4 (.loop (.seq zK3 (.seq (.cond (.t 74) .skip (.exit 4)) (.seq (.block 5 (.seq zK4 zK5)) zK6)))))))))) zK7)))))))
abbrev zHu : Env := { N := 83, Γ := [(83, 5), (88, 2), (90, 2)], L := 92, nfix := 1 }
abbrev path_look_list_R : List RSrc := []
theorem zMj : zCf Tryz.prog zBv zPX zHu path_look_list_R := by kernel_rfl
abbrev zMk : HCode := oN [oV 4 (.boxF (.t 1))]
abbrev zMl : HCode := oR [oV 10 (.fldR (.t 4) 1 1),
  oV 11 (.ldR (.t 10) 1 false),
  oV 12 (.len false (.t 11)),
  oV 13 (.ints .gtr (.t 12) (.c (iv 6)))] [10, 11, 12]
abbrev zMm : HCode := oR [oV 14 (.mv (.t 0)),
  oC 15 zAx [(.t 14, .i 0 121 5), (.c (bv true), .v), (.c (iv 2), .v)]] [14, 15]
abbrev zMn : HCode := oR [oV 16 (.mv (.t 0)),
  oV 17 (.fldR (.t 4) 0 1),
  oV 18 (.ldR (.t 17) 1 false),
  oV 19 (.strs .neq (.t 18) (.c (sv []))),
  oV 20 (.mv (.t 19)),
  oG 20 true 21 (.fldR (.t 4) 0 1),
  oG 20 true 22 (.ldR (.t 21) 1 false),
  ⟨some (20, true), .call (some 23) zCm [(.t 22, .v)]⟩,
  oG 20 true 24 (.not (.t 23)),
  oV 25 (.pick (.t 20) (.t 24) (.c (bv false))),
  oC 26 zAx [(.t 16, .i 0 121 5), (.t 25, .v), (.c (iv 1), .v)]] [16, 17, 18, 19, 20, 21, 22, 23, 24, 25, 26]
abbrev zMo : HCode := oR [oV 27 (.fldR (.t 4) 1 1),
  oV 28 (.ldR (.t 27) 1 false),
  oV 29 (.len false (.t 28)),
  oV 30 (.mv (.c (iv 0)))] [27]
abbrev zMp : HCode := oN [oV 31 (.ints .lss (.t 30) (.t 29))]
abbrev zMq : HCode := .reg [oV 32 (.idxA 6 (.t 28) (.t 30)),
  oV 33 (.ldR (.t 32) 6 true),
  ⟨none, .alloc 7 1 126 [.v (.int .i64 0), .v (mkS []), .v (mkS []), .v (.int .i64 0), .v (.int .i64 0), .nl 2]⟩,
  ⟨none, .sto (.t 7) 1 126 0 6 (.t 33)⟩] false [.frz 1 126 6, .forget [32, 33]]
abbrev zMr : HCode := .reg [oV 35 (.fldR (.t 7) 0 1),
  oV 36 (.ldR (.t 35) 1 false),
  oC 37 zL6 [(.t 36, .v)],
  oV 34 (.mv (.t 37)),
  oV 38 (.ext 34 0),
  oV 39 (.ext 34 1),
  ⟨none, .alloc 8 2 132 [.v (.bool false), .v (.bool false), .v (.bool false), .v (.bool false)]⟩,
  ⟨none, .sto (.t 8) 2 132 0 4 (.t 38)⟩,
  oV 9 (.mv (.t 39))] false [.frz 2 132 4, .forget [34, 35, 36, 37, 38, 39]]
abbrev zMs : HCode := oR [oV 40 (.mv (.t 0)),
  oV 41 (.mv (.t 9)),
  oV 42 (.not (.t 41)),
  oC 43 zAx [(.t 40, .i 0 121 5), (.t 42, .v), (.c (iv 4), .v)]] [40, 41, 42, 43]
abbrev zMt : HCode := oR [oV 44 (.mv (.t 0)),
  oV 45 (.fldR (.t 8) 0 1),
  oV 46 (.ldR (.t 45) 1 false),
  oV 47 (.mv (.t 46)),
  oG 47 true 48 (.fldR (.t 7) 1 1),
  oG 47 true 49 (.ldR (.t 48) 1 false),
  ⟨some (47, true), .call (some 50) zCm [(.t 49, .v)]⟩,
  oG 47 true 51 (.not (.t 50)),
  oV 52 (.pick (.t 47) (.t 51) (.c (bv false))),
  oV 53 (.mv (.t 52)),
  oG 53 false 54 (.fldR (.t 8) 0 1),
  oG 53 false 55 (.ldR (.t 54) 1 false),
  oG 53 false 56 (.not (.t 55)),
  oG 53 false 57 (.mv (.t 56)),
  oG 57 true 58 (.fldR (.t 7) 1 1),
  oG 57 true 59 (.ldR (.t 58) 1 false),
  oG 57 true 60 (.strs .neq (.t 59) (.c (sv []))),
  oG 53 false 61 (.pick (.t 57) (.t 60) (.c (bv false))),
  oV 62 (.pick (.t 53) (.c (bv true)) (.t 61)),
  oC 63 zAx [(.t 44, .i 0 121 5), (.t 62, .v), (.c (iv 1), .v)]] [44, 45, 46, 47, 48, 49, 50, 51, 52, 53, 54, 55, 56, 57, 58, 59, 60, 61, 62, 63]
abbrev zK8 : HCode := oR [oV 64 (.mv (.t 0)),
  oV 65 (.fldR (.t 8) 1 1),
  oV 66 (.ldR (.t 65) 1 false),
  oV 67 (.mv (.t 66)),
  oG 67 true 68 (.fldR (.t 7) 2 1),
  oG 67 true 69 (.ldR (.t 68) 1 false),
  ⟨some (67, true), .call (some 70) zE7 [(.t 69, .v)]⟩,
  oG 67 true 71 (.not (.t 70)),
  oV 72 (.pick (.t 67) (.t 71) (.c (bv false))),
  oV 73 (.mv (.t 72)),
  oG 73 false 74 (.fldR (.t 8) 1 1),
  oG 73 false 75 (.ldR (.t 74) 1 false),
  oG 73 false 76 (.not (.t 75)),
  oG 73 false 77 (.mv (.t 76)),
  oG 77 true 78 (.fldR (.t 7) 2 1),
  oG 77 true 79 (.ldR (.t 78) 1 false),
  oG 77 true 80 (.strs .neq (.t 79) (.c (sv []))),
  oG 73 false 81 (.pick (.t 77) (.t 80) (.c (bv false))),
  oV 82 (.pick (.t 73) (.c (bv true)) (.t 81)),
  oC 83 zAx [(.t 64, .i 0 121 5), (.t 82, .v), (.c (iv 1), .v)]] [64, 65, 66, 67, 68, 69, 70, 71, 72, 73, 74, 75, 76, 77, 78, 79, 80, 81, 82, 83]
abbrev zK9 : HCode := oR [oV 84 (.mv (.t 0)),
  oV 85 (.fldR (.t 8) 2 1),
  oV 86 (.ldR (.t 85) 1 false),
  oV 87 (.not (.t 86)),
  oV 88 (.mv (.t 87)),
  oG 88 true 89 (.fldR (.t 7) 3 2),
  oG 88 true 90 (.ldR (.t 89) 2 true),
  oG 88 true 91 (.bld [.v (.int .i64 0), .v (.int .i64 0)] []),
  oG 88 true 92 (.steq true [0, 0] (.t 90) (.t 91)),
  oV 93 (.pick (.t 88) (.t 92) (.c (bv false))),
  oV 94 (.mv (.t 93)),
  oG 94 false 95 (.fldR (.t 8) 3 1),
  oG 94 false 96 (.ldR (.t 95) 1 false),
  oG 94 false 97 (.not (.t 96)),
  oG 94 false 98 (.mv (.t 97)),
  oG 98 true 99 (.fldR (.t 7) 5 1),
  oG 98 true 100 (.ldR (.t 99) 1 false),
  oG 98 true 101 (.len false (.t 100)),
  oG 98 true 102 (.ints .gtr (.t 101) (.c (iv 0))),
  oG 94 false 103 (.pick (.t 98) (.t 102) (.c (bv false))),
  oV 104 (.pick (.t 94) (.c (bv true)) (.t 103)),
  oC 105 zAx [(.t 84, .i 0 121 5), (.t 104, .v), (.c (iv 1), .v)]] [84, 85, 86, 87, 88, 89, 90, 91, 92, 93, 94, 95, 96, 97, 98, 99, 100, 101, 102, 103, 104, 105]
abbrev zLa : HCode := oR [oV 106 (.mv (.t 0)),
  oV 107 (.fldR (.t 7) 3 2),
  oV 108 (.ldR (.t 107) 2 true),
  oC 109 zE9 [(.t 108, .v)],
  oV 110 (.ints .neq (.t 109) (.c (iv 0))),
  oC 111 zAx [(.t 106, .i 0 121 5), (.t 110, .v), (.c (iv 3), .v)]] [106, 107, 108, 109, 110, 111]
abbrev zLb : HCode := oR [oV 112 (.fldR (.t 8) 3 1),
  oV 113 (.ldR (.t 112) 1 false)] [112]
abbrev zLc : HCode := oR [oV 114 (.mv (.t 0)),
  oV 115 (.fldR (.t 7) 5 1),
  oV 116 (.ldR (.t 115) 1 false),
  oV 117 (.mv (.t 2)),
  oV 118 (.ints .add (.t 117) (.c (iv 1))),
  oC 119 zBv [(.t 114, .i 0 121 5), (.t 116, .v), (.t 118, .v)]] [114, 115, 116, 117, 118, 119]
abbrev zLd : HCode := oR [oV 120 (.ints .add (.t 30) (.c (iv 1))),
  oV 30 (.mv (.t 120))] [120]
abbrev zPY : HCode := (.seq zMk (.seq (.seq zMl (.cond (.t 13) (.seq zMm .ret) .skip)) (.seq zMn (.seq zMo (.block 0 (.loop (.seq zMp (.seq (.cond (.t 31) .skip (.exit 0)) (.seq (.block 1 (.seq zMq (.seq zMr (.seq zMs (.seq zMt (.seq zK8 (.seq zK9 (.seq zLa (.seq zLb (.cond (.t 113) zLc .skip)))))))))) zLd)))))))))
abbrev zHv : Env := { N := 121, Γ := [(121, 5), (126, 6), (132, 4)], L := 136, nfix := 1 }
abbrev path_look_step_R : List RSrc := []
theorem zMu : zCf Tryz.prog zCu zPY zHv path_look_step_R := by kernel_rfl
abbrev zSi : HCode := oN [oV 2 (.mv (.c (iv 0)))]
abbrev zSj : HCode := oR [oV 6 (.bld [.v (.int .i64 0), .v (.int .i64 0), .v (.int .i64 0), .v (.int .i64 0), .v (.int .i64 0)] []),
  ⟨none, .box 7 0 24 5 (.t 6)⟩,
  oV 3 (.mv (.t 7))] [6, 7]
abbrev zSk : HCode := oR [oV 8 (.mv (.t 3)),
  oV 9 (.mv (.t 0)),
  oC 10 zBv [(.t 8, .i 0 24 5), (.t 9, .v), (.c (iv 1), .v)]] [8, 9, 10]
abbrev zSl : HCode := oN [oC 11 zHh [],
  oV 12 (.mv (.c (iv 0)))]
abbrev zSm : HCode := oN [oV 13 (.ints .lss (.t 12) (.c (iv 4)))]
abbrev zSn : HCode := oR [oV 14 (.idxV 4 (.t 11) (.t 12)),
  oV 5 (.mv (.t 14))] [14]
abbrev zSo : HCode := oR [oV 15 (.mv (.t 3)),
  oV 16 (.mv (.t 5)),
  oV 17 (.nilck (.t 15)),
  oV 18 (.fldP (.t 17) 0),
  oV 19 (.ixB 5 (.t 18) (.t 16)),
  oV 20 (.ldD (.t 19) 0 24 5),
  oV 21 (.ints .gtr (.t 20) (.c (iv 0)))] [15, 16, 17, 18, 19, 20]
abbrev zSp : HCode := oR [oV 22 (.mv (.t 5)),
  oV 2 (.mv (.t 22))] [22]
abbrev zSq : HCode := oR [oV 23 (.ints .add (.t 12) (.c (iv 1))),
  oV 12 (.mv (.t 23))] [23]
abbrev zSr : HCode := oN [oV 2 (.mv (.c (iv 0)))]
abbrev zZh : HCode := (.seq zSi (.seq zSj (.seq zSk (.seq (.seq zSl (.block 0 (.loop (.seq zSm (.seq (.cond (.t 13) .skip (.exit 0)) (.seq (.block 1 (.seq zSn (.seq zSo (.cond (.t 21) (.seq zSp .ret) .skip)))) zSq)))))) (.seq zSr .ret)))))
abbrev zM7 : Env := { N := 24, Γ := [(24, 5)], L := 29, nfix := 0 }
abbrev path_Check_R : List RSrc := [.tmp 2]
theorem zSs : zCf Tryz.prog zCt zZh zM7 path_Check_R := by kernel_rfl
end Go.Hx
end

section
/-
 The abstract code of functions of the program, printed by gen.py; each stands for the given one. No condition.
-/
namespace Go.Hx
open Go.Proofs
variable [Glob]
end Go.Hx
end

section
namespace Go.Hx
open Go.Proofs
variable [Glob]
attribute [local go_sem] zAu zAr zAs zAk ndV zAo
end Go.Hx
end

section
set_option maxRecDepth 100000
set_option linter.unusedSimpArgs false
namespace Go.Hx
open Go.Proofs
variable [Glob]
attribute [local go_sem] zAu zAr zAs zAk ndV zAo
end Go.Hx
end

section
set_option maxRecDepth 100000
set_option linter.unusedSimpArgs false
namespace Go.Hx
open Go.Proofs
variable [Glob]
attribute [local go_sem] zAu zAr zAs zAk ndV zAo
attribute [local go_sem] reduceCtorEq Nat.reduceAdd Nat.reduceEqDiff reduceIte Nat.reduceLeDiff Nat.reduceLT Nat.reduceSub
theorem zJI (a b : List Int) : Contract Tryz.prog zCl [.val (.one (.sl 1 (zCr a))), .val (.one (.sl 1 (zCr b)))] { res := .val (bv (decide (a = b))) } := by
 refine mkA zO7 (base := 0) (fo rfl) (fun hfit => ?_)
 unfold F0 zJH
 simp (maxSteps := 2000000) only [zAD, List.set_cons_succ, List.set_cons_zero, List.map_cons, List.map_nil, zAB, zAa, ioOf, List.length_cons, List.length_nil, Nat.reduceAdd, Nat.reduceSub, List.replicate, List.cons_append, List.nil_append]
 try simp (maxSteps := 2000000) only [go_sem]
 repeat with_reducible refine zAb ?_
 have hm := zD3 (k := 1) hfit.1
 rw [zAk] at hm
 refine zAc (by rfl) trivial (fun h => ?_) (fun h => ?_)
 ·try simp (maxSteps := 2000000) only [go_sem]
  repeat with_reducible refine zAb ?_
  refine zAd rfl trivial (.inl ?_)
  congr 3
  simp [zAk] at h
  exact decide_eq_false (fun e => h (by subst e; rfl))
 have hl : a.length = b.length := by simp [zAk] at h; omega
 try simp (maxSteps := 2000000) only [go_sem]
 repeat with_reducible refine zAb ?_
 refine zAv (fun i : Nat => [(5, .pv (iv i)), (14, .un), (25, .un)]) (fun i => a.length - i) (fun i => i ≤ a.length ∧ a.take i = b.take i) 0 ?_ ⟨Nat.zero_le _, rfl⟩ ?_
 ·simp (maxSteps := 2000000) only [go_sem, zAf, zAn, zAz, zAg]
 intro i ⟨hi, heq⟩
 try simp (maxSteps := 2000000) only [go_sem, zAk]
 repeat with_reducible refine zAb ?_
 refine zAc (by rfl) trivial (fun h2 => ?_) (fun h2 => ?_)
 ·have hlt : i < a.length := by simpa using h2
  have hltb : i < b.length := by omega
  try simp (maxSteps := 2000000) only [go_sem, zFD _ _ hlt, zFD _ _ hltb, zAk]
  repeat with_reducible refine zAb ?_
  refine zAc (by rfl) trivial (fun h3 => ?_) (fun h3 => ?_)
  ·try simp (maxSteps := 2000000) only [go_sem]
   repeat with_reducible refine zAb ?_
   refine zAd rfl trivial (.inl ?_)
   congr 3
   simp only [bne_iff_ne, ne_eq] at h3
   exact (decide_eq_false (zYV 0 h3))
  ·try simp (maxSteps := 2000000) only [go_sem]
   repeat with_reducible refine zAb ?_
   refine ⟨i + 1, by omega, ⟨hlt, zUh 0 heq hlt hltb ?_⟩, ?_⟩
   ·simpa only [bne_eq_false_iff_eq] using h3
   ·simp (maxSteps := 2000000) only [go_sem, zAf, zAn, zAz, zAg]
    exact zAl (by omega)
 ·try simp (maxSteps := 2000000) only [go_sem]
  repeat with_reducible refine zAb ?_
  refine zAd rfl trivial (.inl ?_)
  congr 3
  have hi2 : i = a.length := by simp at h2; omega
  subst hi2
  exact decide_eq_true (zYW hl heq)
end Go.Hx
end

section
set_option maxRecDepth 100000
set_option linter.unusedSimpArgs false
namespace Go.Hx
open Go.Proofs
variable [Glob]
attribute [local go_sem] zAu zAr zAs zAk ndV zAo
end Go.Hx
end

section
set_option maxRecDepth 100000
set_option linter.unusedSimpArgs false
namespace Go.Hx
open Go.Proofs
variable [Glob]
attribute [local go_sem] zAu zAr zAs zAk ndV zAo
theorem zQ2 {d : List Nd} {i : Nat} : zEw d (i + 1) = (zEw d i && zYX d i) := zFl
end Go.Hx
end

section
set_option maxRecDepth 100000
set_option linter.unusedSimpArgs false
namespace Go.Hx
open Go.Proofs
variable [Glob]
attribute [local go_sem] zAu zAr zAs zAk ndV zAo
def zAR (d : List Nd) (n : Int) (k : Nat) : Int := ((List.range k).filter fun i => (zBE d d.length (zBf d i)).contains n).length
def zCF (d : List Nd) (n : Int) : Int := zAR d n d.length
theorem zId {d : List Nd} {n : Int} {k : Nat} : zAR d n (k + 1) = zAR d n k + (if (zBE d d.length (zBf d k)).contains n then 1 else 0) := by
 unfold zAR
 rw [List.range_succ, List.filter_append, List.length_append, List.filter_cons, List.filter_nil]
 split <;> simp
theorem zEn {d : List Nd} {n : Int} : ∀ k : Nat, 0 ≤ zAR d n k ∧ zAR d n k ≤ k
 | 0 => by simp [zAR]
 | k + 1 => by have := zEn (d := d) (n := n) k; rw [zId]; split <;> omega
def zAH (d : List Nd) (n : Int) (k : Nat) : List Int := ((List.range k).filter fun i => decide (zBf d i = n)).map Int.ofNat
def zIe (d : List Nd) (n : Int) : List Int := zAH d n d.length
theorem zAS {d : List Nd} {n : Int} {k : Nat} : zAH d n (k + 1) = if zBf d k = n then zAH d n k ++ [(k : Int)] else zAH d n k := by
 unfold zAH
 rw [List.range_succ, List.filter_append, List.map_append]
 by_cases h : zBf d k = n <;> simp [List.filter, h]
theorem zFO {d : List Nd} {n : Int} (k : Nat) : (zAH d n k).length ≤ k := by
 unfold zAH
 rw [List.length_map]
 exact Nat.le_trans (List.length_filter_le _ _) (by simp)
end Go.Hx
end

section
set_option maxRecDepth 100000
set_option linter.unusedSimpArgs false
namespace Go.Hx
open Go.Proofs
variable [Glob]
attribute [local go_sem] zAu zAr zAs zAk ndV zAo zAj
attribute [local go_sem] reduceCtorEq Nat.reduceAdd Nat.reduceEqDiff reduceIte Nat.reduceLeDiff Nat.reduceLT Nat.reduceSub
theorem yEw {a b : Int} (h : zRX a b = 0) : (-1048576 ≤ a ∧ a ≤ 1048576) ∧ (-1048576 ≤ b ∧ b ≤ 1048576) := by
 unfold zRX at h
 split at h
 ·rename_i h1; simpa [zRW] using h1
 ·cases h
def yGx (a b : Int) : PVal := .agg [bI a, bI b]
theorem zPc (a b : Int) : Contract Tryz.prog zE9 [.val (yGx a b)] { res := .val (iv (zRX a b)) } := by
 unfold yGx
 refine mkA zUN (base := 0) (fo rfl) (fun hfit => ?_)
 unfold F0 zPa
 simp (maxSteps := 2000000) only [zAD, List.set_cons_succ, List.set_cons_zero, List.map_cons, List.map_nil, zAB, zAa, ioOf, List.length_cons, List.length_nil, Nat.reduceAdd, Nat.reduceSub, List.replicate, List.cons_append, List.nil_append]
 try simp (maxSteps := 2000000) only [go_sem]
 repeat with_reducible refine zAb ?_
 refine zAv (fun i : Nat => [(4, .un), (10, .pv (iv i)), (11, .un), (18, .un)]) (fun i : Nat => 2 - i) (fun i : Nat => i ≤ 2 ∧ (1 ≤ i → zRW a = true) ∧ (2 ≤ i → zRW b = true)) (0) ?_ ⟨by omega, by omega, by omega⟩ ?_
 focus (simp (maxSteps := 2000000) only [go_sem, zAf, zAn, zAz, zAg]; all_goals (repeat' (first | exact trivial | exact zAl (by omega) | exact zAh rfl | exact zAw rfl | exact zAp | exact le_refl _ | refine And.intro ?_ ?_)))
 intro i hi
 obtain ⟨h1, h2, h3⟩ := hi
 try simp (maxSteps := 2000000) only [go_sem]
 repeat with_reducible refine zAb ?_
 refine zAc (by rfl) trivial (fun h => ?_) (fun h => ?_)
 ·have hlt : i < 2 := by simp at h; omega
  have hcase : i = 0 ∨ i = 1 := by omega
  rcases hcase with rfl | rfl
  ·try simp (maxSteps := 2000000) only [go_sem, List.getD_cons_zero, Int.toNat_natCast, Int.cast_ofNat_Int, Int.toNat_zero, PV.norm]
   repeat with_reducible refine zAb ?_
   refine zAc (by rfl) trivial (fun h9 => ?_) (fun h9 => ?_)
   ·try simp (maxSteps := 2000000) only [go_sem]
    repeat with_reducible refine zAb ?_
    refine zAd rfl trivial (.inl ?_)
    congr 3
    unfold zRX
    rw [if_neg]
    simp [zRW] at h9 ⊢
    omega
   ·try simp (maxSteps := 2000000) only [go_sem]
    repeat with_reducible refine zAb ?_
    refine ⟨1, by omega, ⟨by omega, fun _ => ?_, by omega⟩, ?_⟩
    ·simp [zRW] at h9 ⊢; omega
    ·simp (maxSteps := 2000000) only [go_sem, zAf, zAn, zAz, zAg]
     all_goals (repeat' (first | exact trivial | exact zAl (by omega) | exact zAh rfl | exact zAw rfl | exact zAp | exact le_refl _ | refine And.intro ?_ ?_))
  ·try simp (maxSteps := 2000000) only [go_sem, List.getD_cons_zero, List.getD_cons_succ, Int.toNat_natCast, Int.cast_ofNat_Int, Int.toNat_one, PV.norm]
   repeat with_reducible refine zAb ?_
   refine zAc (by rfl) trivial (fun h9 => ?_) (fun h9 => ?_)
   ·try simp (maxSteps := 2000000) only [go_sem]
    repeat with_reducible refine zAb ?_
    refine zAd rfl trivial (.inl ?_)
    congr 3
    unfold zRX
    rw [if_neg]
    simp [zRW] at h9 ⊢
    omega
   ·try simp (maxSteps := 2000000) only [go_sem]
    repeat with_reducible refine zAb ?_
    refine ⟨2, by omega, ⟨by omega, fun _ => h2 (by omega), fun _ => ?_⟩, ?_⟩
    ·simp [zRW] at h9 ⊢; omega
    ·simp (maxSteps := 2000000) only [go_sem, zAf, zAn, zAz, zAg]
     all_goals (repeat' (first | exact trivial | exact zAl (by omega) | exact zAh rfl | exact zAw rfl | exact zAp | exact le_refl _ | refine And.intro ?_ ?_))
 ·try simp (maxSteps := 2000000) only [go_sem]
  repeat with_reducible refine zAb ?_
  have : i = 2 := by simp at h; omega
  refine zAd rfl trivial (.inl ?_)
  congr 3
  unfold zRX
  rw [h2 (by omega), h3 (by omega)]
  rfl
def zFb (a b i : Int) : Bool := decide (zRX a b = 0 ∧ 1 ≤ i ∧ i ≤ 1073741824) && (if a = 0 then decide (i - b = 0) else decide ((i - b).tmod a = 0) && decide (0 ≤ (i - b).tdiv a))
theorem zZi {x y : Int} (h1 : -2147483648 ≤ x) (h2 : x ≤ 2147483648) : -2147483648 ≤ x.tdiv y ∧ x.tdiv y ≤ 2147483648 := by
 have h := Int.natAbs_tdiv_le_natAbs x y
 omega
theorem zPd (a b i : Int) : Contract Tryz.prog zFa [.val (yGx a b), .val (iv i)] { res := .val (bv (zFb a b i)) } := by
 unfold yGx
 refine mkA zUV (base := 0) (fo rfl) (fun hfit => ?_)
 unfold F0 zPb
 simp (maxSteps := 2000000) only [zAD, List.set_cons_succ, List.set_cons_zero, List.map_cons, List.map_nil, zAB, zAa, ioOf, List.length_cons, List.length_nil, Nat.reduceAdd, Nat.reduceSub, List.replicate, List.cons_append, List.nil_append]
 try simp (maxSteps := 2000000) only [go_sem]
 repeat with_reducible refine zAb ?_
 refine zAt (by repeat' constructor) (zPc a b) ?_
 try simp (maxSteps := 2000000) only [go_sem]
 repeat with_reducible refine zAb ?_
 refine zAc (by rfl) trivial (fun h => ?_) (fun h => ?_)
 ·try simp (maxSteps := 2000000) only [go_sem]
  repeat with_reducible refine zAb ?_
  refine zAd rfl trivial (.inl ?_)
  congr 3
  unfold zFb
  rw [decide_eq_false]
  ·rfl
  ·simp at h; omega
 have h2 : zRX a b = 0 ∧ 1 ≤ i ∧ i ≤ 1073741824 := by simp at h; omega
 obtain ⟨h3, h4⟩ := yEw h2.1
 try simp (maxSteps := 2000000) only [go_sem]
 repeat with_reducible refine zAb ?_
 have hh : zFb a b i = (if a = 0 then decide (i - b = 0) else decide ((i - b).tmod a = 0) && decide (0 ≤ (i - b).tdiv a)) := by
  unfold zFb
  rw [decide_eq_true h2, Bool.true_and]
 refine zAc (by rfl) trivial (fun h5 => ?_) (fun h5 => ?_)
 ·try simp (maxSteps := 2000000) only [go_sem]
  repeat with_reducible refine zAb ?_
  refine zAd rfl trivial (.inl ?_)
  congr 3
  rw [hh, if_pos (by simpa using h5)]
  grind
 ·have ha : a ≠ 0 := by simpa using h5
  have hd := zZi (x := i - b) (y := a) (by omega) (by omega)
  try simp (maxSteps := 2000000) only [go_sem, ha]
  repeat with_reducible refine zAb ?_
  refine zAd rfl trivial (.inl ?_)
  congr 3
  rw [hh, if_neg ha]
  grind
def zOg (a b i : Int) : Bool := if zRX a b = 0 ∧ 1 ≤ i ∧ i ≤ 1073741824 then (if a = 0 ∨ i = b then decide (i = b) else if 0 < a then decide (b < i) && decide ((i - b).tmod a = 0) else decide (i < b) && decide ((b - i).tmod (-a) = 0)) else false
end Go.Hx
end

section
set_option maxRecDepth 100000
set_option linter.unusedSimpArgs false
namespace Go.Hx
open Go.Proofs
variable [Glob]
attribute [local go_sem] zAu zAr zAs zAk ndV zAo zAj zPS
end Go.Hx
end

section
set_option maxRecDepth 100000
set_option linter.unusedSimpArgs false
namespace Go.Hx
open Go.Proofs
variable [Glob]
attribute [local go_sem] zAu zAr zAs zAk ndV zAo zAj zPS
end Go.Hx
end

section
set_option maxRecDepth 100000
set_option linter.unusedSimpArgs false
namespace Go.Hx
open Go.Proofs
variable [Glob]
attribute [local go_sem] zAu zAr zAs zAk ndV zAo zAj zPS List.take_nil
end Go.Hx
end

section
set_option maxRecDepth 100000
set_option linter.unusedSimpArgs false
namespace Go.Hx
open Go.Proofs
variable [Glob]
attribute [local go_sem] zAu zAr zAs zAk ndV zAo zAj zPS List.take_nil
end Go.Hx
end

section
set_option maxRecDepth 100000
set_option linter.unusedSimpArgs false
namespace Go.Hx
open Go.Proofs
variable [Glob]
attribute [local go_sem] zAu zAr zAs zAk ndV zAo zAj zPS List.take_nil zAO zAI
end Go.Hx
end

section
set_option maxRecDepth 100000
set_option linter.unusedSimpArgs false
namespace Go.Hx
open Go.Proofs
variable [Glob]
attribute [local go_sem] zAu zAr zAs zAk ndV zAo zAj zPS List.take_nil zAJ
theorem yEx : ∀ {l : List Pt} {e : Nat}, GPs l e → ∀ p ∈ l, GP p e := fun h p hp => by
 obtain ⟨i, hi, rfl⟩ := List.getElem_of_mem hp
 have := h.get i hi
 simpa [hi] using this
theorem yEy : ∀ {l : List St} {e : Nat}, GSs l e → ∀ p ∈ l, GS p e := fun h p hp => by
 obtain ⟨i, hi, rfl⟩ := List.getElem_of_mem hp
 have := h.get i hi
 simpa [hi] using this
theorem yEz : ∀ {l : List Ts} {e : Nat}, GTs l e → ∀ p ∈ l, GT p e := fun h p hp => by
 obtain ⟨i, hi, rfl⟩ := List.getElem_of_mem hp
 have := h.get i hi
 simpa [hi] using this
end Go.Hx
end

section
set_option maxRecDepth 100000
set_option linter.unusedSimpArgs false
namespace Go.Hx
open Go.Proofs
variable [Glob]
attribute [local go_sem] zAu zAr zAs zAk ndV zAo zAj fdV Fd.add fM fF fR fK Nat.add_zero
attribute [local go_sem] reduceCtorEq Nat.reduceAdd Nat.reduceEqDiff reduceIte Nat.reduceLeDiff Nat.reduceLT Nat.reduceSub
theorem zCd {F : List Ct} {E : Env} {base : Nat} {av : List AV} {cells io : List PV} (hio : ioOf av = some cells) (hc : zAW F base cells.length = some io) : zZQ E base av [] { res := .tup [], io := io } .normal F :=
 ⟨rfl, fun cs h => by rw [hio] at h; injection h with h; subst h; exact hc⟩
theorem zSt (c : Fd) (b : Bool) (h : c.m ≤ 1000000000) : Contract Tryz.prog zAx [.io (fdV c), .val (bv b), .val (iv 2)] { res := .tup [], io := fdV (c.add (fM b)) } := by
 unfold fdV
 refine mkA zCv (base := 17) ⟨Nat.le_of_ble_eq_true rfl, Nat.le_of_ble_eq_true rfl, Nat.le_of_ble_eq_true rfl, ⟨rfl, rfl⟩⟩ (fun hfit => ?_)
 unfold F0 zB9
 simp (maxSteps := 2000000) only [zAD, List.set_cons_succ, List.set_cons_zero, List.map_cons, List.map_nil, zAB, zAa, ioOf, List.length_cons, List.length_nil, Nat.reduceAdd, Nat.reduceSub, List.replicate, List.cons_append, List.nil_append]
 try simp (maxSteps := 2000000) only [go_sem]
 repeat with_reducible refine zAb ?_
 refine zAc (by rfl) trivial (fun hb => ?_) (fun hb => ?_)
 ·subst hb
  try simp (maxSteps := 2000000) only [go_sem, Int.reduceToNat]
  repeat with_reducible refine zAb ?_
  exact zCd rfl rfl
 ·subst hb
  try simp (maxSteps := 2000000) only [go_sem]
  repeat with_reducible refine zAb ?_
  exact zCd rfl rfl
theorem zOh (c : Fd) (b : Bool) (h : c.f ≤ 1000000000) : Contract Tryz.prog zAx [.io (fdV c), .val (bv b), .val (iv 1)] { res := .tup [], io := fdV (c.add (fF b)) } := by
 unfold fdV
 refine mkA zCv (base := 17) ⟨Nat.le_of_ble_eq_true rfl, Nat.le_of_ble_eq_true rfl, Nat.le_of_ble_eq_true rfl, ⟨rfl, rfl⟩⟩ (fun hfit => ?_)
 unfold F0 zB9
 simp (maxSteps := 2000000) only [zAD, List.set_cons_succ, List.set_cons_zero, List.map_cons, List.map_nil, zAB, zAa, ioOf, List.length_cons, List.length_nil, Nat.reduceAdd, Nat.reduceSub, List.replicate, List.cons_append, List.nil_append]
 try simp (maxSteps := 2000000) only [go_sem]
 repeat with_reducible refine zAb ?_
 refine zAc (by rfl) trivial (fun hb => ?_) (fun hb => ?_)
 ·subst hb
  try simp (maxSteps := 2000000) only [go_sem, Int.reduceToNat]
  repeat with_reducible refine zAb ?_
  exact zCd rfl rfl
 ·subst hb
  try simp (maxSteps := 2000000) only [go_sem]
  repeat with_reducible refine zAb ?_
  exact zCd rfl rfl
theorem yCe (c : Fd) (b : Bool) (h : c.r ≤ 1000000000) : Contract Tryz.prog zAx [.io (fdV c), .val (bv b), .val (iv 3)] { res := .tup [], io := fdV (c.add (fR b)) } := by
 unfold fdV
 refine mkA zCv (base := 17) ⟨Nat.le_of_ble_eq_true rfl, Nat.le_of_ble_eq_true rfl, Nat.le_of_ble_eq_true rfl, ⟨rfl, rfl⟩⟩ (fun hfit => ?_)
 unfold F0 zB9
 simp (maxSteps := 2000000) only [zAD, List.set_cons_succ, List.set_cons_zero, List.map_cons, List.map_nil, zAB, zAa, ioOf, List.length_cons, List.length_nil, Nat.reduceAdd, Nat.reduceSub, List.replicate, List.cons_append, List.nil_append]
 try simp (maxSteps := 2000000) only [go_sem]
 repeat with_reducible refine zAb ?_
 refine zAc (by rfl) trivial (fun hb => ?_) (fun hb => ?_)
 ·subst hb
  try simp (maxSteps := 2000000) only [go_sem, Int.reduceToNat]
  repeat with_reducible refine zAb ?_
  exact zCd rfl rfl
 ·subst hb
  try simp (maxSteps := 2000000) only [go_sem]
  repeat with_reducible refine zAb ?_
  exact zCd rfl rfl
theorem zYd (c : Fd) (b : Bool) (h : c.k ≤ 1000000000) : Contract Tryz.prog zAx [.io (fdV c), .val (bv b), .val (iv 4)] { res := .tup [], io := fdV (c.add (fK b)) } := by
 unfold fdV
 refine mkA zCv (base := 17) ⟨Nat.le_of_ble_eq_true rfl, Nat.le_of_ble_eq_true rfl, Nat.le_of_ble_eq_true rfl, ⟨rfl, rfl⟩⟩ (fun hfit => ?_)
 unfold F0 zB9
 simp (maxSteps := 2000000) only [zAD, List.set_cons_succ, List.set_cons_zero, List.map_cons, List.map_nil, zAB, zAa, ioOf, List.length_cons, List.length_nil, Nat.reduceAdd, Nat.reduceSub, List.replicate, List.cons_append, List.nil_append]
 try simp (maxSteps := 2000000) only [go_sem]
 repeat with_reducible refine zAb ?_
 refine zAc (by rfl) trivial (fun hb => ?_) (fun hb => ?_)
 ·subst hb
  try simp (maxSteps := 2000000) only [go_sem, Int.reduceToNat]
  repeat with_reducible refine zAb ?_
  exact zCd rfl rfl
 ·subst hb
  try simp (maxSteps := 2000000) only [go_sem]
  repeat with_reducible refine zAb ?_
  exact zCd rfl rfl
def shV (k : Int) : PVal := .agg [bB (zYY k), bB (zQZ k), bB (yGq k), bB (zFE k)]
def kOk (k : Int) : Bool := decide (1 ≤ k ∧ k ≤ 15)
theorem yAB (k : Int) : Contract Tryz.prog zL6 [.val (iv k)] { res := .tup [shV k, bv (kOk k)] } := by
 refine mkA zZf (base := 0) (fo rfl) (fun hfit => ?_)
 unfold F0 zUW
 simp (maxSteps := 2000000) only [zAD, List.set_cons_succ, List.set_cons_zero, List.map_cons, List.map_nil, zAB, zAa, ioOf, List.length_cons, List.length_nil, Nat.reduceAdd, Nat.reduceSub, List.replicate, List.cons_append, List.nil_append]
 try simp (maxSteps := 2000000) only [go_sem]
 repeat with_reducible refine zAb ?_
 by_cases hk : 1 ≤ k ∧ k ≤ 15
 ·have hn : k = 1 ∨ k = 2 ∨ k = 3 ∨ k = 4 ∨ k = 5 ∨ k = 6 ∨ k = 7 ∨ k = 8 ∨ k = 9 ∨ k = 10 ∨ k = 11 ∨ k = 12 ∨ k = 13 ∨ k = 14 ∨ k = 15 := by omega
  rcases hn with rfl | rfl | rfl | rfl | rfl | rfl | rfl | rfl | rfl | rfl | rfl | rfl | rfl | rfl | rfl
  all_goals
   repeat (first | (refine zOT (by rfl) trivial ?_; (try simp (maxSteps := 2000000) only [go_sem])) | (refine zUd (by rfl) trivial ?_; (try simp (maxSteps := 2000000) only [go_sem])))
   exact zCT (by simp) ⟨zX6 rfl rfl (.inl rfl), zBM rfl trivial (.inl rfl), rfl⟩
 ·have e : ∀ n : Int, 1 ≤ n → n ≤ 15 → (k == n) = false := by intro n h1 h2; simp; omega
  have hs : shV k = .agg [bB false, bB false, bB false, bB false] := by
   unfold shV
   congr 2
   ·unfold zYY; congr 2; simp; omega
   ·congr 1
    ·unfold zQZ; congr 2; simp; omega
    ·congr 1
     ·unfold yGq; congr 2; simp; omega
     ·congr 1
      unfold zFE; congr 2; simp; omega
  have ho : kOk k = false := by unfold kOk; simp; omega
  rw [hs, ho]
  try simp (maxSteps := 2000000) only [go_sem, e 1 (by omega) (by omega), e 2 (by omega) (by omega), e 3 (by omega) (by omega), e 4 (by omega) (by omega), e 5 (by omega) (by omega), e 6 (by omega) (by omega), e 7 (by omega) (by omega), e 8 (by omega) (by omega), e 9 (by omega) (by omega), e 10 (by omega) (by omega), e 11 (by omega) (by omega), e 12 (by omega) (by omega), e 13 (by omega) (by omega), e 14 (by omega) (by omega), e 15 (by omega) (by omega)]
  repeat (refine zUd (by rfl) trivial ?_; (try simp (maxSteps := 2000000) only [go_sem, e 1 (by omega) (by omega), e 2 (by omega) (by omega), e 3 (by omega) (by omega), e 4 (by omega) (by omega), e 5 (by omega) (by omega), e 6 (by omega) (by omega), e 7 (by omega) (by omega), e 8 (by omega) (by omega), e 9 (by omega) (by omega), e 10 (by omega) (by omega), e 11 (by omega) (by omega), e 12 (by omega) (by omega), e 13 (by omega) (by omega), e 14 (by omega) (by omega), e 15 (by omega) (by omega)]))
  exact zCT (by simp) ⟨zX6 rfl rfl (.inl rfl), zBM rfl trivial (.inl rfl), rfl⟩
theorem zUX : Contract Tryz.prog zHh [] { res := .val (.agg [bI 2, bI 4, bI 1, bI 3]) } := by
 refine mkA zSh (base := 0) (fo rfl) (fun hfit => ?_)
 unfold F0 zM6
 simp (maxSteps := 2000000) only [zAD, List.set_cons_succ, List.set_cons_zero, List.map_cons, List.map_nil, zAB, zAa, ioOf, List.length_cons, List.length_nil, Nat.reduceAdd, Nat.reduceSub, List.replicate, List.cons_append, List.nil_append]
 try simp (maxSteps := 2000000) only [go_sem]
 repeat with_reducible refine zAb ?_
 exact zUg rfl rfl rfl
end Go.Hx
end

section
set_option maxRecDepth 100000
set_option linter.unusedSimpArgs false
namespace Go.Hx
open Go.Proofs
variable [Glob]
attribute [local go_sem] zAu zAr zAs zAk ndV zAo zAj fdV zBc zAJ zAO zAI
attribute [local go_sem] reduceCtorEq Nat.reduceAdd Nat.reduceEqDiff reduceIte Nat.reduceLeDiff Nat.reduceLT Nat.reduceSub
theorem zA7 {α : Type} {d : α} {l : List α} {i : Nat} (h : i < l.length) : l.drop i = l.getD i d :: l.drop (i + 1) := by
 rw [List.drop_eq_getElem_cons h]
 simp [h]
def yIo (P : Program) (N : Nat) : Prop :=
 (∀ (l : List Pt) (d K : Nat) (c : Fd), SizeOf.sizeOf l ≤ N → d ≤ 4 → c.le K → K + bd d ≤ 1000000000 → Contract P zBv [.io (fdV c), .val (zBc l), .val (iv d)] { res := .tup [], io := fdV (c.add (ntL l d)) }) ∧
 (∀ (s : St) (d K : Nat) (c : Fd), SizeOf.sizeOf s ≤ N → d ≤ 3 → c.le K → K + bdS d ≤ 1000000000 → Contract P zCu [.io (fdV c), .val (.agg (stV s)), .val (iv d)] { res := .tup [], io := fdV (c.add (ntS s d)) })
theorem yAC (N : Nat) (ih : yIo Tryz.prog N) (l : List Pt) (d K : Nat) (c : Fd) (hN : SizeOf.sizeOf l ≤ N + 1) (hd : d ≤ 4) (hc : c.le K) (hK : K + bd d ≤ 1000000000) : Contract Tryz.prog zBv [.io (fdV c), .val (zBc l), .val (iv d)] { res := .tup [], io := fdV (c.add (ntL l d)) } := by
 unfold fdV zBc
 refine mkA zMj (base := 83) ⟨Nat.le_of_ble_eq_true rfl, Nat.le_of_ble_eq_true rfl, Nat.le_of_ble_eq_true rfl, ⟨rfl, rfl⟩⟩ (fun hfit => ?_)
 unfold F0 zHu
 simp (maxSteps := 2000000) only [zAD, List.set_cons_succ, List.set_cons_zero, List.map_cons, List.map_nil, zAB, zAa, ioOf, List.length_cons, List.length_nil, Nat.reduceAdd, Nat.reduceSub, List.replicate, List.cons_append, List.nil_append]
 try simp (maxSteps := 2000000) only [go_sem]
 repeat with_reducible refine zAb ?_
 have hlb : (bif bif decide (3 < (d : Int)) then true else decide ((l.length : Int) < 1) then true else decide (5 < (l.length : Int))) = zHY l d := by
  have e1 : decide (3 < (d : Int)) = decide (3 < d) := decide_eq_decide.2 (by omega)
  have e2 : decide ((l.length : Int) < 1) = decide (l.length < 1) := decide_eq_decide.2 (by omega)
  have e3 : decide (5 < (l.length : Int)) = decide (5 < l.length) := decide_eq_decide.2 (by omega)
  unfold zHY
  rw [e1, e2, e3]
  cases decide (3 < d) <;> cases decide (l.length < 1) <;> rfl
 refine zAc (by rfl) trivial (fun h => ?_) (fun h => ?_)
 ·rw [hlb] at h
  have e : ntL l d = fM true := by unfold ntL; rw [if_pos h]
  try simp (maxSteps := 2000000) only [go_sem]
  repeat with_reducible refine zAb ?_
  have hb1 := zRY (4 - d)
  have hb2 : bd d = bdF (4 - d) := rfl
  have hm := hc.m
  refine zDJ (by repeat' constructor) (zSt c true (by omega)) ?_
  try simp (maxSteps := 2000000) only [go_sem]
  repeat with_reducible refine zAb ?_
  rw [e]
  exact zRU rfl rfl
 ·rw [hlb] at h
  have e : ntL l d = zWe l d := by unfold ntL; rw [if_neg (by rw [h]; simp)]
  rw [e]
  have hd3 : d ≤ 3 ∧ l.length ≤ 5 := by
   simp only [zHY, Bool.or_eq_false_iff, decide_eq_false_iff_not] at h
   omega
  have hbd := yEs hd3.1
  try simp (maxSteps := 2000000) only [go_sem]
  repeat with_reducible refine zAb ?_
  have hK0 : K + (1 + (l.length - 0) * bdP d) ≤ 1000000000 := by
   have : (l.length - 0) * bdP d ≤ 5 * bdP d := Nat.mul_le_mul_right _ (by omega)
   omega
  refine zAv (fun x : Nat × Fd => [(7, .un), (9, .un), (11, .un), (28, .pv (iv x.1)), (29, .un), (51, .un), (55, .un), (56, .un), (57, .un), (58, .un), (71, .un), (72, .un), (73, .un), (74, .un), (84, .pv (.one (bI x.2.f))), (85, .pv (.one (bI x.2.m))), (86, .pv (.one (bI x.2.r))), (87, .pv (.one (bI x.2.k))), (90, .un), (91, .un)]) (fun x : Nat × Fd => l.length - x.1) (fun x : Nat × Fd => x.1 ≤ l.length ∧ (∃ K', x.2.le K' ∧ K' + (1 + (l.length - x.1) * bdP d) ≤ 1000000000) ∧ x.2.add (zWe (l.drop x.1) d) = c.add (zWe l d)) ((0, c)) ?_ ⟨Nat.zero_le _, ⟨K, hc, hK0⟩, by simp⟩ ?_
  focus (simp (maxSteps := 2000000) only [go_sem, zAf, zAn, zAz, zAg]; all_goals (repeat' (first | exact trivial | exact zAl (by omega) | exact zAh rfl | exact zAw rfl | exact zAp | exact le_refl _ | refine And.intro ?_ ?_)))
  rintro ⟨i, a⟩ ⟨hi, ⟨K', ha, hK'⟩, hsum⟩
  simp only at hi ha hK' hsum
  try simp (maxSteps := 2000000) only [go_sem]
  repeat with_reducible refine zAb ?_
  have hbx : bd d ≤ 1000000000 := by omega
  refine zAc (by rfl) trivial (fun h2 => ?_) (fun h2 => ?_)
  ·have hil : i < l.length := by simp at h2; omega
   rw [zA7 (d := default) hil] at hsum
   obtain ⟨p, hp⟩ : ∃ p, p = l.getD i default := ⟨_, rfl⟩
   rw [← hp] at hsum
   have hg : (zC5 l).getD i [] = [.sl 2 (zL5 p.steps), .sl 1 (zCr p.links)] := by rw [zDN l i hil, ← hp, zBp]
   have hsz : SizeOf.sizeOf p.steps ≤ N := by
    have h3 := zKV p
    have h4 := yAq hil
    rw [← hp] at h4
    omega
   have hmul : (l.length - i) * bdP d = bdP d + (l.length - (i + 1)) * bdP d := by
    have : l.length - i = (l.length - (i + 1)) + 1 := by omega
    rw [this, Nat.add_mul]; omega
   have hbp : bdP d = 4 + 5 * bdS d := rfl
   have hin : (bif decide ((p.steps.length : Int) < 1) then true else decide (5 < (p.steps.length : Int))) = false → inR .i64 ((p.steps.length : Int) - 1) := by
    intro h5
    have : ¬ 5 < (p.steps.length : Int) := by
     intro h6
     rw [decide_eq_true h6] at h5
     cases hq : decide ((p.steps.length : Int) < 1) <;> rw [hq] at h5 <;> cases h5
    exact zOW (by omega) (by omega)
   try simp (maxSteps := 2000000) only [go_sem, hg]
   repeat with_reducible refine zAb ?_
   have hpb : (bif bif decide ((p.steps.length : Int) < 1) then true else decide (5 < (p.steps.length : Int)) then true else (p.links.length : Int) != (p.steps.length : Int) - 1) = zWA p := by
    have e2 : decide ((p.steps.length : Int) < 1) = decide (p.steps.length < 1) := decide_eq_decide.2 (by omega)
    have e3 : decide (5 < (p.steps.length : Int)) = decide (5 < p.steps.length) := decide_eq_decide.2 (by omega)
    have e4 : ((p.links.length : Int) != (p.steps.length : Int) - 1) = decide ((p.links.length : Int) ≠ p.steps.length - 1) := by
     by_cases h5 : (p.links.length : Int) = (p.steps.length : Int) - 1 <;> simp [h5]
    unfold zWA
    rw [e2, e3, e4]
    cases decide (p.steps.length < 1) <;> cases decide (5 < p.steps.length) <;> rfl
   simp only [zWe] at hsum
   refine zAc (by rfl) trivial (fun h3 => ?_) (fun h3 => ?_)
   ·rw [hpb] at h3
    rw [if_pos h3] at hsum
    rw [← hsum]
    try simp (maxSteps := 2000000) only [go_sem]
    repeat with_reducible refine zAb ?_
    have hm := ha.m
    refine zDJ (by repeat' constructor) (zSt a true (by omega)) ?_
    try simp (maxSteps := 2000000) only [go_sem]
    repeat with_reducible refine zAb ?_
    exact zRU rfl rfl
   ·rw [hpb] at h3
    rw [if_neg (by rw [h3]; simp)] at hsum
    have hpl : p.steps.length ≤ 5 ∧ (p.links.length : Int) = p.steps.length - 1 := by
     simp only [zWA, Bool.or_eq_false_iff, decide_eq_false_iff_not] at h3
     omega
    have hK1 : K' + (p.links.length - 0) ≤ K' + 4 := by omega
    try simp (maxSteps := 2000000) only [go_sem]
    repeat with_reducible refine zAb ?_
    refine zAv (fun x : Nat × Fd => [(9, .un), (57, .pv (iv x.1)), (58, .un), (67, .un), (84, .pv (.one (bI x.2.f))), (85, .pv (.one (bI x.2.m))), (86, .pv (.one (bI x.2.r))), (87, .pv (.one (bI x.2.k)))]) (fun x : Nat × Fd => p.links.length - x.1) (fun x : Nat × Fd => x.1 ≤ p.links.length ∧ (∃ K2, x.2.le K2 ∧ K2 + (p.links.length - x.1) ≤ K' + 4) ∧ x.2.add (zX8 (p.links.drop x.1)) = a.add (zX8 p.links)) ((0, a)) ?_ ⟨Nat.zero_le _, ⟨K', ha, hK1⟩, by simp⟩ ?_
    focus (simp (maxSteps := 2000000) only [go_sem, zAf, zAn, zAz, zAg]; all_goals (repeat' (first | exact trivial | exact zAl (by omega) | exact zAh rfl | exact zAw rfl | exact zAp | exact le_refl _ | refine And.intro ?_ ?_)))
    rintro ⟨j, b⟩ ⟨hj, ⟨K2, hb, hK2⟩, hsb⟩
    simp only at hj hb hK2 hsb
    try simp (maxSteps := 2000000) only [go_sem]
    repeat with_reducible refine zAb ?_
    refine zAc (by rfl) trivial (fun h4 => ?_) (fun h4 => ?_)
    ·have hjl : j < p.links.length := by simp at h4; omega
     rw [zA7 (d := 0) hjl] at hsb
     have hg2 := zFD p.links j hjl
     obtain ⟨v, hv⟩ : ∃ v, v = p.links.getD j 0 := ⟨_, rfl⟩
     rw [← hv] at hg2 hsb
     have hvb : (bif decide (v < 1) then true else decide (4 < v)) = zWz v := by
      unfold zWz
      by_cases h5 : v < 1 <;> by_cases h6 : 4 < v <;> simp [h5, h6] <;> omega
     have hk := hb.k
     try simp (maxSteps := 2000000) only [go_sem, hg2]
     repeat with_reducible refine zAb ?_
     refine zDJ (by repeat' constructor) (zYd b (bif decide (v < 1) then true else decide (4 < v)) (by omega)) ?_
     try simp (maxSteps := 2000000) only [go_sem, hvb]
     repeat with_reducible refine zAb ?_
     refine ⟨(j + 1, b.add (fK (zWz v))), by simp only; omega, ⟨by simp only; omega, ⟨K2 + 1, hb.le_add (yEt _), by simp only; omega⟩, ?_⟩, ?_⟩
     ·simp only
      rw [← hsb, Fd.add_assoc]
      congr 1
      simp only [zX8, Fd.add, fK, List.countP_cons, nB]
      congr 1
      split <;> omega
     ·simp (maxSteps := 2000000) only [go_sem, zAf, zAn, zAz, zAg]
      all_goals (repeat' (first | exact trivial | exact zAl (by omega) | exact zAh rfl | exact zAw rfl | exact zAp | exact le_refl _ | refine And.intro ?_ ?_))
    ·have hjl : j = p.links.length := by simp at h4; omega
     subst hjl
     rw [List.drop_length] at hsb
     have e5 : b = a.add (zX8 p.links) := by
      rw [← hsb]
      simp [zX8, Fd.add]
     have hK3 : K2 ≤ K' + 4 := by omega
     have hK4 : K2 + (p.steps.length - 0) * bdS d ≤ K' + bdP d := by
      have : (p.steps.length - 0) * bdS d ≤ 5 * bdS d := Nat.mul_le_mul_right _ (by omega)
      omega
     try simp (maxSteps := 2000000) only [go_sem]
     repeat with_reducible refine zAb ?_
     refine zAv (fun x : Nat × Fd => [(11, .un), (73, .pv (iv x.1)), (74, .un), (84, .pv (.one (bI x.2.f))), (85, .pv (.one (bI x.2.m))), (86, .pv (.one (bI x.2.r))), (87, .pv (.one (bI x.2.k))), (90, .un), (91, .un)]) (fun x : Nat × Fd => p.steps.length - x.1) (fun x : Nat × Fd => x.1 ≤ p.steps.length ∧ (∃ K3, x.2.le K3 ∧ K3 + (p.steps.length - x.1) * bdS d ≤ K' + bdP d) ∧ x.2.add (zX9 (p.steps.drop x.1) d) = b.add (zX9 p.steps d)) ((0, b)) ?_ ⟨Nat.zero_le _, ⟨K2, hb, hK4⟩, by simp⟩ ?_
     focus (simp (maxSteps := 2000000) only [go_sem, zAf, zAn, zAz, zAg]; all_goals (repeat' (first | exact trivial | exact zAl (by omega) | exact zAh rfl | exact zAw rfl | exact zAp | exact le_refl _ | refine And.intro ?_ ?_)))
     rintro ⟨k, e6⟩ ⟨hk, ⟨K3, he6, hK5⟩, hse⟩
     simp only at hk he6 hK5 hse
     try simp (maxSteps := 2000000) only [go_sem]
     repeat with_reducible refine zAb ?_
     refine zAc (by rfl) trivial (fun h6 => ?_) (fun h6 => ?_)
     ·have hkl : k < p.steps.length := by simp at h6; omega
      rw [zA7 (d := default) hkl] at hse
      obtain ⟨q, hq⟩ : ∃ q, q = p.steps.getD k default := ⟨_, rfl⟩
      rw [← hq] at hse
      have hg3 : (zL5 p.steps).getD k [] = [bS q.tag, .sl 6 (zDG q.tests)] := by rw [zEh _ k hkl, ← hq, zCk]
      have hqs : SizeOf.sizeOf q ≤ N := by
       have h7 := yAp hkl
       rw [← hq] at h7
       omega
      have hmul2 : (p.steps.length - k) * bdS d = bdS d + (p.steps.length - (k + 1)) * bdS d := by
       have : p.steps.length - k = (p.steps.length - (k + 1)) + 1 := by omega
       rw [this, Nat.add_mul]; omega
      have hst := ih.2 q d K3 e6 hqs hd3.1 he6 (by omega)
      rw [zCk] at hst
      unfold fdV at hst
      try simp (maxSteps := 2000000) only [go_sem, hg3]
      repeat with_reducible refine zAb ?_
      refine zDJ (by repeat' constructor) (hst) ?_
      try simp (maxSteps := 2000000) only [go_sem]
      repeat with_reducible refine zAb ?_
      refine ⟨(k + 1, e6.add (ntS q d)), by simp only; omega, ⟨by simp only; omega, ⟨K3 + bdS d, he6.le_add (b_S q d), by simp only; omega⟩, ?_⟩, ?_⟩
      ·simp only [zX9] at hse ⊢
       rw [← hse, Fd.add_assoc]
      ·simp (maxSteps := 2000000) only [go_sem, zAf, zAn, zAz, zAg]
       all_goals (repeat' (first | exact trivial | exact zAl (by omega) | exact zAh rfl | exact zAw rfl | exact zAp | exact le_refl _ | refine And.intro ?_ ?_))
     ·have hkl : k = p.steps.length := by simp at h6; omega
      subst hkl
      rw [List.drop_length] at hse
      have e7 : e6 = b.add (zX9 p.steps d) := by rw [← hse]; rfl
      try simp (maxSteps := 2000000) only [go_sem]
      repeat with_reducible refine zAb ?_
      refine ⟨(i + 1, e6), by simp only; omega, ⟨by simp only; omega, ⟨K3, he6, by simp only; omega⟩, ?_⟩, ?_⟩
      ·simp only
       rw [← hsum, e7, e5, yGs, Fd.add_assoc, Fd.add_assoc, Fd.add_assoc]
      ·simp (maxSteps := 2000000) only [go_sem, zAf, zAn, zAz, zAg]
       all_goals (repeat' (first | exact trivial | exact zAl (by omega) | exact zAh rfl | exact zAw rfl | exact zAp | exact le_refl _ | refine And.intro ?_ ?_))
  ·have hil : i = l.length := by simp at h2; omega
   subst hil
   rw [List.drop_length] at hsum
   try simp (maxSteps := 2000000) only [go_sem]
   repeat with_reducible refine zAb ?_
   rw [← hsum]
   exact zCd rfl rfl
end Go.Hx
end

section
/-
 The abstract code of functions of the program, printed by gen.py; each stands for the given one. No condition.
-/
namespace Go.Hx
open Go.Proofs
variable [Glob]
end Go.Hx
end

section
/-
 The abstract code of functions of the program, printed by gen.py; each stands for the given one. No condition.
-/
namespace Go.Hx
open Go.Proofs
variable [Glob]
abbrev zAX : Nat := 257
abbrev zAY : Nat := 258
abbrev zDS : Nat := 14
abbrev zHi : Nat := 173
abbrev zFm : Nat := 59
abbrev zAE : Nat := 58
abbrev zBQ : Nat := 115
abbrev zA4 : Nat := 118
abbrev zAZ : Nat := 116
abbrev zCV : Nat := 169
abbrev zBJ : Nat := 224
abbrev zBK : Nat := 225
abbrev zDT : Nat := 226
abbrev zBi : Nat := 168
abbrev zBR : Nat := 223
abbrev zCW : Nat := 172
abbrev zBL : Nat := 229
abbrev zJ3 : Nat := 117
abbrev zA0 : Nat := 114
abbrev zA1 : Nat := 222
abbrev zBd : Nat := 170
abbrev zBV : Nat := 167
abbrev zBW : Nat := 256
abbrev zCg : Nat := 227
abbrev zCX : Nat := 232
abbrev zCG : Nat := 230
abbrev zCH : Nat := 231
abbrev zD4 : Nat := 233
abbrev zB6 : Nat := 217
abbrev zI9 : HCode := oN [oV 4 (.mv (.c (bv false)))]
abbrev zJa : HCode := oR [oV 5 (.mv (.t 0)),
  oV 6 (.mv (.t 1)),
  oC 7 zAX [(.t 5, .v), (.t 6, .v)],
  oV 4 (.mv (.t 7))] [5, 6, 7]
abbrev zMw : HCode := (.seq zI9 (.seq zJa .ret))
abbrev zEC : Env := { N := 8, Γ := [], L := 8, nfix := 0 }
abbrev strings_HasPrefix_R : List RSrc := [.tmp 4]
theorem zJb : zCf Tryz.prog zCG zMw zEC strings_HasPrefix_R := by kernel_rfl
abbrev zDj : HCode := oN [oV 4 (.mv (.c (bv false)))]
abbrev zDk : HCode := oR [oV 5 (.mv (.t 0)),
  oV 6 (.len true (.t 5)),
  oV 7 (.mv (.t 1)),
  oV 8 (.len true (.t 7)),
  oV 9 (.ints .geq (.t 6) (.t 8)),
  oV 10 (.mv (.t 9)),
  oG 10 true 11 (.mv (.t 0)),
  oG 10 true 12 (.mv (.t 1)),
  oG 10 true 13 (.len true (.t 12)),
  oG 10 true 14 (.sls (.t 11) none (some (.t 13))),
  oG 10 true 15 (.mv (.t 1)),
  oG 10 true 16 (.strs .eql (.t 14) (.t 15)),
  oV 17 (.pick (.t 10) (.t 16) (.c (bv false))),
  oV 4 (.mv (.t 17))] [5, 6, 7, 8, 9, 10, 11, 12, 13, 14, 15, 16, 17]
abbrev zDU : HCode := (.seq zDj (.seq zDk .ret))
abbrev zBN : Env := { N := 18, Γ := [], L := 18, nfix := 0 }
abbrev internal_stringslite_HasPrefix_R : List RSrc := [.tmp 4]
theorem zDl : zCf Tryz.prog zAX zDU zBN internal_stringslite_HasPrefix_R := by kernel_rfl
abbrev zJc : HCode := oN [oV 4 (.mv (.c (bv false)))]
abbrev zJd : HCode := oR [oV 5 (.mv (.t 0)),
  oV 6 (.mv (.t 1)),
  oC 7 zAY [(.t 5, .v), (.t 6, .v)],
  oV 4 (.mv (.t 7))] [5, 6, 7]
abbrev zMx : HCode := (.seq zJc (.seq zJd .ret))
abbrev zED : Env := { N := 8, Γ := [], L := 8, nfix := 0 }
abbrev strings_HasSuffix_R : List RSrc := [.tmp 4]
theorem zJe : zCf Tryz.prog zCH zMx zED strings_HasSuffix_R := by kernel_rfl
abbrev zDm : HCode := oN [oV 4 (.mv (.c (bv false)))]
abbrev zDn : HCode := oR [oV 5 (.mv (.t 0)),
  oV 6 (.len true (.t 5)),
  oV 7 (.mv (.t 1)),
  oV 8 (.len true (.t 7)),
  oV 9 (.ints .geq (.t 6) (.t 8)),
  oV 10 (.mv (.t 9)),
  oG 10 true 11 (.mv (.t 0)),
  oG 10 true 12 (.mv (.t 0)),
  oG 10 true 13 (.len true (.t 12)),
  oG 10 true 14 (.mv (.t 1)),
  oG 10 true 15 (.len true (.t 14)),
  oG 10 true 16 (.ints .sub (.t 13) (.t 15)),
  oG 10 true 17 (.sls (.t 11) (some (.t 16)) none),
  oG 10 true 18 (.mv (.t 1)),
  oG 10 true 19 (.strs .eql (.t 17) (.t 18)),
  oV 20 (.pick (.t 10) (.t 19) (.c (bv false))),
  oV 4 (.mv (.t 20))] [5, 6, 7, 8, 9, 10, 11, 12, 13, 14, 15, 16, 17, 18, 19, 20]
abbrev zDV : HCode := (.seq zDm (.seq zDn .ret))
abbrev zBO : Env := { N := 21, Γ := [], L := 21, nfix := 0 }
abbrev internal_stringslite_HasSuffix_R : List RSrc := [.tmp 4]
theorem zDo : zCf Tryz.prog zAY zDV zBO internal_stringslite_HasSuffix_R := by kernel_rfl
abbrev zFn : HCode := oN [oV 4 (.mv (.c (bv false)))]
abbrev zFo : HCode := oR [oV 5 (.mv (.t 0)),
  oV 6 (.mv (.t 1)),
  oC 7 zCg [(.t 5, .v), (.t 6, .v)],
  oV 8 (.ints .geq (.t 7) (.c (iv 0))),
  oV 4 (.mv (.t 8))] [5, 6, 7, 8]
abbrev zHC : HCode := (.seq zFn (.seq zFo .ret))
abbrev zC2 : Env := { N := 9, Γ := [], L := 9, nfix := 0 }
abbrev slices_Contains_string_R : List RSrc := [.tmp 4]
theorem zFp : zCf Tryz.prog zBd zHC zC2 slices_Contains_string_R := by kernel_rfl
abbrev zHD : HCode := oN [oV 4 (.mv (.c (iv 0)))]
abbrev zHE : HCode := oR [oV 6 (.mv (.t 0)),
  oV 7 (.len false (.t 6)),
  oV 8 (.mv (.c (iv 0)))] [6]
abbrev zHF : HCode := oN [oV 9 (.ints .lss (.t 8) (.t 7))]
abbrev zHG : HCode := oR [oV 10 (.mv (.t 8)),
  oV 5 (.mv (.t 10))] [10]
abbrev zHH : HCode := oR [oV 11 (.mv (.t 1)),
  oV 12 (.mv (.t 0)),
  oV 13 (.mv (.t 5)),
  oV 14 (.idxA 1 (.t 12) (.t 13)),
  oV 15 (.ldR (.t 14) 1 false),
  oV 16 (.strs .eql (.t 11) (.t 15))] [11, 12, 13, 14, 15]
abbrev zHI : HCode := oR [oV 17 (.mv (.t 5)),
  oV 4 (.mv (.t 17))] [17]
abbrev zHJ : HCode := oR [oV 18 (.ints .add (.t 8) (.c (iv 1))),
  oV 8 (.mv (.t 18))] [18]
abbrev zHK : HCode := oN [oV 4 (.mv (.c (iv (-1))))]
abbrev zJ4 : HCode := (.seq zHD (.seq (.seq zHE (.block 0 (.loop (.seq zHF (.seq (.cond (.t 9) .skip (.exit 0)) (.seq (.block 1 (.seq zHG (.seq zHH (.cond (.t 16) (.seq zHI .ret) .skip)))) zHJ)))))) (.seq zHK .ret)))
abbrev zDW : Env := { N := 19, Γ := [], L := 19, nfix := 0 }
abbrev slices_Index_string_R : List RSrc := [.tmp 4]
theorem zHL : zCf Tryz.prog zCg zJ4 zDW slices_Index_string_R := by kernel_rfl
abbrev zEE : HCode := oN [oV 4 (.mv (.c (bv false)))]
abbrev zEF : HCode := oR [oV 5 (.mv (.t 0)),
  oV 6 (.mv (.t 1)),
  oC 7 zBV [(.t 5, .v), (.t 6, .v)],
  oV 8 (.ints .geq (.t 7) (.c (iv 0))),
  oV 4 (.mv (.t 8))] [5, 6, 7, 8]
abbrev zFP : HCode := (.seq zEE (.seq zEF .ret))
abbrev zCB : Env := { N := 9, Γ := [], L := 9, nfix := 0 }
abbrev slices_ContainsFunc_Path_R : List RSrc := [.tmp 4]
theorem zEG : zCf Tryz.prog zA0 zFP zCB slices_ContainsFunc_Path_R := by kernel_rfl
abbrev zFQ : HCode := oN [oV 4 (.mv (.c (iv 0)))]
abbrev zFR : HCode := oR [oV 6 (.mv (.t 0)),
  oV 7 (.len false (.t 6)),
  oV 8 (.mv (.c (iv 0)))] [6]
abbrev zFS : HCode := oN [oV 9 (.ints .lss (.t 8) (.t 7))]
abbrev zFT : HCode := oR [oV 10 (.mv (.t 8)),
  oV 5 (.mv (.t 10))] [10]
abbrev zFU : HCode := oR [oV 11 (.mv (.t 1)),
  oV 12 (.mv (.t 0)),
  oV 13 (.mv (.t 5)),
  oV 14 (.idxA 2 (.t 12) (.t 13)),
  oV 15 (.ldR (.t 14) 2 true),
  ⟨none, .callv (some 16) (.t 11) [(.t 15, .v)]⟩] [11, 12, 13, 14, 15]
abbrev zFV : HCode := oR [oV 17 (.mv (.t 5)),
  oV 4 (.mv (.t 17))] [17]
abbrev zFW : HCode := oR [oV 18 (.ints .add (.t 8) (.c (iv 1))),
  oV 8 (.mv (.t 18))] [18]
abbrev zFX : HCode := oN [oV 4 (.mv (.c (iv (-1))))]
abbrev zIf : HCode := (.seq zFQ (.seq (.seq zFR (.block 0 (.loop (.seq zFS (.seq (.cond (.t 9) .skip (.exit 0)) (.seq (.block 1 (.seq zFT (.seq zFU (.cond (.t 16) (.seq zFV .ret) .skip)))) zFW)))))) (.seq zFX .ret)))
abbrev zDp : Env := { N := 19, Γ := [], L := 19, nfix := 0 }
abbrev slices_IndexFunc_Path_R : List RSrc := [.tmp 4]
theorem zFY : zCf Tryz.prog zBV zIf zDp slices_IndexFunc_Path_R := by kernel_rfl
abbrev zEH : HCode := oN [oV 4 (.mv (.c (bv false)))]
abbrev zEI : HCode := oR [oV 5 (.mv (.t 0)),
  oV 6 (.mv (.t 1)),
  oC 7 zBW [(.t 5, .v), (.t 6, .v)],
  oV 8 (.ints .geq (.t 7) (.c (iv 0))),
  oV 4 (.mv (.t 8))] [5, 6, 7, 8]
abbrev zFZ : HCode := (.seq zEH (.seq zEI .ret))
abbrev zCC : Env := { N := 9, Γ := [], L := 9, nfix := 0 }
abbrev slices_ContainsFunc_Test_R : List RSrc := [.tmp 4]
theorem zEJ : zCf Tryz.prog zA1 zFZ zCC slices_ContainsFunc_Test_R := by kernel_rfl
abbrev zF0 : HCode := oN [oV 4 (.mv (.c (iv 0)))]
abbrev zF1 : HCode := oR [oV 6 (.mv (.t 0)),
  oV 7 (.len false (.t 6)),
  oV 8 (.mv (.c (iv 0)))] [6]
abbrev zF2 : HCode := oN [oV 9 (.ints .lss (.t 8) (.t 7))]
abbrev zF3 : HCode := oR [oV 10 (.mv (.t 8)),
  oV 5 (.mv (.t 10))] [10]
abbrev zF4 : HCode := oR [oV 11 (.mv (.t 1)),
  oV 12 (.mv (.t 0)),
  oV 13 (.mv (.t 5)),
  oV 14 (.idxA 6 (.t 12) (.t 13)),
  oV 15 (.ldR (.t 14) 6 true),
  ⟨none, .callv (some 16) (.t 11) [(.t 15, .v)]⟩] [11, 12, 13, 14, 15]
abbrev zF5 : HCode := oR [oV 17 (.mv (.t 5)),
  oV 4 (.mv (.t 17))] [17]
abbrev zF6 : HCode := oR [oV 18 (.ints .add (.t 8) (.c (iv 1))),
  oV 8 (.mv (.t 18))] [18]
abbrev zF7 : HCode := oN [oV 4 (.mv (.c (iv (-1))))]
abbrev zIg : HCode := (.seq zF0 (.seq (.seq zF1 (.block 0 (.loop (.seq zF2 (.seq (.cond (.t 9) .skip (.exit 0)) (.seq (.block 1 (.seq zF3 (.seq zF4 (.cond (.t 16) (.seq zF5 .ret) .skip)))) zF6)))))) (.seq zF7 .ret)))
abbrev zDq : Env := { N := 19, Γ := [], L := 19, nfix := 0 }
abbrev slices_IndexFunc_Test_R : List RSrc := [.tmp 4]
theorem zF8 : zCf Tryz.prog zBW zIg zDq slices_IndexFunc_Test_R := by kernel_rfl
abbrev zWX : HCode := oN [oV 1 (.boxF (.t 0)),
  oV 2 (.mv (.c (.one (.v (.pointer none)))))]
abbrev zWY : HCode := .drg [oD 0 false (oV 13 (.ldR (.t 1) 1 true)),
  oD 1 false (oV 14 (.fldR (.t 1) 0 1)),
  oD 2 false (oV 15 (.ldR (.t 14) 1 false)),
  oD 3 false (oV 16 (.len false (.t 15))),
  oD 4 false ⟨none, .vmk 17 zB6 5 [.v (.int .i64 0), .v (.int .i64 0), .v (.int .i64 0), .v (.int .i64 0), .v (.int .i64 0)] (.t 16)⟩,
  oD 5 false ⟨none, .vbe 18 [.nl 5, .nl 5] [(0, 1, .t 13)] 1 1 (.t 17)⟩,
  oD 6 false ⟨none, .vby 19 0 162 2 18⟩,
  oD 7 false (oV 3 (.mv (.t 19)))] [.forget [13, 14, 15, 16, 17, 18, 19], .pin 163 0 162 []]
abbrev zWZ : HCode := oN [⟨none, .mmk 20⟩,
  oV 4 (.mv (.t 20))]
abbrev zW0 : HCode := oR [oV 21 (.fldR (.t 1) 0 1),
  oV 22 (.ldR (.t 21) 1 false),
  oV 23 (.len false (.t 22)),
  oV 24 (.mv (.c (iv 0)))] [21]
abbrev zW1 : HCode := oN [oV 25 (.ints .lss (.t 24) (.t 23))]
abbrev zW2 : HCode := oR [oV 26 (.mv (.t 24)),
  oV 27 (.idxA 5 (.t 22) (.t 24)),
  oV 28 (.ldR (.t 27) 5 true),
  ⟨none, .alloc 6 1 164 [.v (.int .i64 0), .v (mkS []), .v (mkS []), .nl 1, .nl 2]⟩,
  oV 5 (.mv (.t 26)),
  ⟨none, .sto (.t 6) 1 164 0 5 (.t 28)⟩] [26, 27, 28]
abbrev zW3 : HCode := oR [oV 29 (.mv (.t 3)),
  oV 30 (.nilck (.t 29)),
  oV 31 (.fldP (.t 30) 1),
  oV 32 (.ldh (.t 31) 0 162 1),
  oV 33 (.mv (.t 5)),
  oV 34 (.idxA 5 (.t 32) (.t 33)),
  oV 35 (.fldP (.t 34) 2),
  ⟨none, .vse (.t 35) 163 0 162 [] 1 (.c (iv (-1)))⟩] [29, 30, 31, 32, 33, 34, 35]
abbrev zW4 : HCode := oR [oV 37 (.mv (.t 4)),
  oV 38 (.fldP (.t 6) 0),
  oV 39 (.ldB (.t 38) 1 164 0 1 false),
  ⟨none, .mpl 40 (.t 37) 20 1 (.t 39) (.v (.int .i64 0)) true⟩,
  oV 36 (.mv (.t 40)),
  oV 41 (.ext 36 0),
  oV 42 (.ext 36 1),
  oV 7 (.mv (.t 41)),
  oV 8 (.mv (.t 42))] [36, 37, 38, 39, 40, 41, 42]
abbrev zW5 : HCode := oN [oV 43 (.mv (.t 8))]
abbrev zW6 : HCode := oR [oV 44 (.mv (.t 3)),
  oV 45 (.nilck (.t 44)),
  oV 46 (.fldP (.t 45) 1),
  oV 47 (.ldh (.t 46) 0 162 1),
  oV 48 (.mv (.t 5)),
  oV 49 (.mv (.t 7)),
  oV 50 (.idxA 5 (.t 47) (.t 48)),
  oV 51 (.fldP (.t 50) 2),
  ⟨none, .vse (.t 51) 163 0 162 [] 1 (.t 49)⟩] [44, 45, 46, 47, 48, 49, 50, 51]
abbrev zU1 : HCode := oR [oV 52 (.mv (.t 4)),
  oV 53 (.fldP (.t 6) 0),
  oV 54 (.ldB (.t 53) 1 164 0 1 false),
  oV 55 (.mv (.t 5)),
  ⟨none, .mps (.t 52) 20 1 (.t 54) (.t 55)⟩] [52, 53, 54, 55]
abbrev zU2 : HCode := oR [oV 56 (.mv (.t 3)),
  oV 57 (.nilck (.t 56)),
  oV 58 (.fldP (.t 57) 1),
  oV 59 (.ldh (.t 58) 0 162 1),
  oV 60 (.mv (.t 5)),
  oV 61 (.idxA 5 (.t 59) (.t 60)),
  oV 62 (.fldP (.t 61) 0),
  ⟨none, .vse (.t 62) 163 0 162 [] 1 (.c (iv 1))⟩] [56, 57, 58, 59, 60, 61, 62]
abbrev zU3 : HCode := oR [oV 63 (.mv (.t 3)),
  oV 64 (.nilck (.t 63)),
  oV 65 (.fldP (.t 64) 1),
  oV 66 (.ldh (.t 65) 0 162 1),
  oV 67 (.mv (.t 5)),
  oV 68 (.idxA 5 (.t 66) (.t 67)),
  oV 69 (.fldP (.t 68) 2),
  ⟨none, .vlp 70 (.t 69) 163 0 162 [] 1 false⟩,
  oV 9 (.mv (.t 70))] [63, 64, 65, 66, 67, 68, 69, 70]
abbrev zU4 : HCode := oR [oV 71 (.mv (.t 9)),
  oV 72 (.ints .geq (.t 71) (.c (iv 0)))] [71]
abbrev zU5 : HCode := oQ [oD 0 false (oV 73 (.mv (.t 3))),
  oD 1 false (oV 74 (.nilck (.t 73))),
  oD 2 false (oV 75 (.fldP (.t 74) 1)),
  oD 3 false (oV 76 (.ldh (.t 75) 0 162 1)),
  oD 4 false (oV 77 (.mv (.t 5))),
  oD 5 false (oV 78 (.mv (.t 3))),
  oD 6 false (oV 79 (.nilck (.t 78))),
  oD 7 false (oV 80 (.fldP (.t 79) 1)),
  oD 8 false (oV 81 (.ldh (.t 80) 0 162 1)),
  oD 9 false (oV 82 (.mv (.t 9))),
  oD 10 false (oV 83 (.idxA 5 (.t 81) (.t 82))),
  oD 11 false (oV 84 (.fldP (.t 83) 0)),
  oD 12 false ⟨none, .vlp 85 (.t 84) 163 0 162 [] 1 false⟩,
  oD 13 false (oV 86 (.ints .add (.t 85) (.c (iv 1)))),
  oD 14 false (oV 87 (.idxA 5 (.t 76) (.t 77))),
  oD 15 false (oV 88 (.fldP (.t 87) 0)),
  oD 16 false ⟨none, .vse (.t 88) 163 0 162 [] 1 (.t 86)⟩] [73, 74, 75, 76, 77, 78, 79, 80, 81, 82, 83, 84, 85, 86, 87, 88]
abbrev zU6 : HCode := oR [oV 89 (.fldP (.t 6) 0),
  oV 90 (.ldB (.t 89) 1 164 0 1 false),
  oV 91 (.ints .geq (.t 90) (.c (iv 0)))] [89, 90]
abbrev zU7 : HCode := oQ [oD 0 false (oV 92 (.mv (.t 3))),
  oD 1 false (oV 93 (.nilck (.t 92))),
  oD 2 false (oV 94 (.fldP (.t 93) 1)),
  oD 3 false (oV 95 (.ldh (.t 94) 0 162 1)),
  oD 4 false (oV 96 (.fldP (.t 6) 0)),
  oD 5 false (oV 97 (.ldB (.t 96) 1 164 0 1 false)),
  oD 6 false (oV 98 (.idxA 5 (.t 95) (.t 97))),
  oD 7 false (oV 99 (.fldP (.t 98) 4)),
  oD 8 false ⟨none, .vlp 100 (.t 99) 163 0 162 [] 1 false⟩,
  oD 9 false (oV 101 (.ints .add (.t 100) (.c (iv 1)))),
  oD 10 false (oV 102 (.idxA 5 (.t 95) (.t 97))),
  oD 11 false (oV 103 (.fldP (.t 102) 4)),
  oD 12 false ⟨none, .vse (.t 103) 163 0 162 [] 1 (.t 101)⟩] [92, 93, 94, 95, 96, 97, 98, 99, 100, 101, 102, 103]
abbrev zU8 : HCode := oR [oV 104 (.fldP (.t 6) 0),
  oV 105 (.ldB (.t 104) 1 164 0 1 false),
  oV 10 (.mv (.t 105))] [104, 105]
abbrev zU9 : HCode := oR [oV 106 (.mv (.t 10)),
  oV 107 (.ints .geq (.t 106) (.c (iv 0)))] [106]
abbrev zVa : HCode := oR [oV 114 (.mv (.t 3)),
  oV 115 (.nilck (.t 114)),
  oV 116 (.fldP (.t 115) 1),
  oV 117 (.ldh (.t 116) 0 162 1),
  oV 118 (.mv (.t 10)),
  oV 119 (.idxA 5 (.t 117) (.t 118)),
  oV 120 (.fldP (.t 119) 3),
  ⟨none, .vlp 121 (.t 120) 163 0 162 [] 1 false⟩,
  oV 122 (.ints .add (.t 121) (.c (iv 1))),
  oV 123 (.idxA 5 (.t 117) (.t 118)),
  oV 124 (.fldP (.t 123) 3),
  ⟨none, .vse (.t 124) 163 0 162 [] 1 (.t 122)⟩] [114, 115, 116, 117, 118, 119, 120, 121, 122, 123, 124]
abbrev zVb : HCode := oR [oV 108 (.fldR (.t 1) 0 1),
  oV 109 (.ldR (.t 108) 1 false),
  oV 110 (.mv (.t 10)),
  oV 111 (.idxA 5 (.t 109) (.t 110)),
  oV 112 (.fldR (.t 111) 0 1),
  oV 113 (.ldR (.t 112) 1 false),
  oV 10 (.mv (.t 113))] [108, 109, 110, 111, 112, 113]
abbrev zVc : HCode := oR [oV 125 (.ints .add (.t 24) (.c (iv 1))),
  oV 24 (.mv (.t 125))] [125]
abbrev zVd : HCode := oR [oV 126 (.fldR (.t 1) 0 1),
  oV 127 (.ldR (.t 126) 1 false),
  oV 128 (.len false (.t 127)),
  oV 129 (.mv (.c (iv 0)))] [126]
abbrev zVe : HCode := oN [oV 130 (.ints .lss (.t 129) (.t 128))]
abbrev zVf : HCode := oR [oV 131 (.mv (.t 129)),
  oV 132 (.idxA 5 (.t 127) (.t 129)),
  oV 133 (.ldR (.t 132) 5 true),
  ⟨none, .alloc 12 2 169 [.v (.int .i64 0), .v (mkS []), .v (mkS []), .nl 1, .nl 2]⟩,
  oV 11 (.mv (.t 131)),
  ⟨none, .sto (.t 12) 2 169 0 5 (.t 133)⟩] [131, 132, 133]
abbrev zVg : HCode := oR [oV 134 (.mv (.t 3)),
  oV 135 (.nilck (.t 134)),
  oV 136 (.fldP (.t 135) 1),
  oV 137 (.ldh (.t 136) 0 162 1),
  oV 138 (.mv (.t 11)),
  oV 139 (.idxA 5 (.t 137) (.t 138)),
  oV 140 (.fldP (.t 139) 1),
  ⟨none, .vse (.t 140) 163 0 162 [] 1 (.c (iv 1))⟩] [134, 135, 136, 137, 138, 139, 140]
abbrev zVh : HCode := oR [oV 141 (.fldP (.t 12) 0),
  oV 142 (.ldB (.t 141) 2 169 0 1 false),
  oV 143 (.ints .geq (.t 142) (.c (iv 0)))] [141, 142]
abbrev zVi : HCode := oQ [oD 0 false (oV 144 (.mv (.t 3))),
  oD 1 false (oV 145 (.nilck (.t 144))),
  oD 2 false (oV 146 (.fldP (.t 145) 1)),
  oD 3 false (oV 147 (.ldh (.t 146) 0 162 1)),
  oD 4 false (oV 148 (.mv (.t 11))),
  oD 5 false (oV 149 (.mv (.t 3))),
  oD 6 false (oV 150 (.nilck (.t 149))),
  oD 7 false (oV 151 (.fldP (.t 150) 1)),
  oD 8 false (oV 152 (.ldh (.t 151) 0 162 1)),
  oD 9 false (oV 153 (.fldP (.t 12) 0)),
  oD 10 false (oV 154 (.ldB (.t 153) 2 169 0 1 false)),
  oD 11 false (oV 155 (.idxA 5 (.t 152) (.t 154))),
  oD 12 false (oV 156 (.fldP (.t 155) 4)),
  oD 13 false ⟨none, .vlp 157 (.t 156) 163 0 162 [] 1 false⟩,
  oD 14 false (oV 158 (.idxA 5 (.t 147) (.t 148))),
  oD 15 false (oV 159 (.fldP (.t 158) 1)),
  oD 16 false ⟨none, .vse (.t 159) 163 0 162 [] 1 (.t 157)⟩] [144, 145, 146, 147, 148, 149, 150, 151, 152, 153, 154, 155, 156, 157, 158, 159]
abbrev zVj : HCode := oR [oV 160 (.ints .add (.t 129) (.c (iv 1))),
  oV 129 (.mv (.t 160))] [160]
abbrev zVk : HCode := .regG [.vfr 163 0 162, .frz 0 162 2] [oV 161 (.mv (.t 3)),
  oV 2 (.mv (.t 161))] [.forget [161]]
abbrev yCl : HCode := (.seq zWX (.seq zWY (.seq zWZ (.seq (.seq zW0 (.block 0 (.loop (.seq zW1 (.seq (.cond (.t 25) .skip (.exit 0)) (.seq (.block 1 (.seq zW2 (.seq zW3 (.seq (.seq zW4 (.seq zW5 (.cond (.t 43) zW6 .skip))) (.seq zU1 (.seq zU2 (.seq (.seq zU3 (.seq zU4 (.cond (.t 72) zU5 .skip))) (.seq (.seq zU6 (.cond (.t 91) zU7 .skip)) (.seq zU8 (.block 2 (.loop (.seq (.seq zU9 (.cond (.t 107) .skip (.exit 2))) (.seq (.block 3 zVa) zVb))))))))))))) zVc)))))) (.seq (.seq zVd (.block 4 (.loop (.seq zVe (.seq (.cond (.t 130) .skip (.exit 4)) (.seq (.block 5 (.seq zVf (.seq zVg (.seq zVh (.cond (.t 143) zVi .skip))))) zVj)))))) (.seq zVk .ret))))))
abbrev zQ4 : Env := { N := 162, Γ := [(162, 2), (164, 5), (169, 5)], L := 174, nfix := 0, una := [162] }
abbrev match_of_R : List RSrc := [.tmp 2]
theorem zW7 : zCf Tryz.prog zJ3 yCl zQ4 match_of_R := by kernel_rfl
abbrev zJ5 : HCode := oN [oV 5 (.boxF (.t 2)),
  oV 6 (.mv (.c (sv []))),
  oV 7 (.mv (.c (bv false)))]
abbrev zJ6 : HCode := oR [oV 9 (.mv (.t 0)),
  oV 10 (.nilck (.t 9)),
  oV 11 (.fldR (.t 10) 0 1),
  oV 12 (.fldR (.t 11) 0 1),
  oV 13 (.ldR (.t 12) 1 false),
  oV 14 (.mv (.t 1)),
  oV 15 (.idxA 5 (.t 13) (.t 14)),
  oV 16 (.fldR (.t 15) 4 1),
  oV 17 (.ldR (.t 16) 1 false),
  oV 18 (.mkf zBL [.t 5]),
  oC 19 zAU [(.t 17, .v), (.t 18, .v)],
  oV 8 (.mv (.t 19))] [9, 10, 11, 12, 13, 14, 15, 16, 17, 18, 19]
abbrev zJ7 : HCode := oR [oV 20 (.mv (.t 8)),
  oV 21 (.ints .lss (.t 20) (.c (iv 0)))] [20]
abbrev zJ8 : HCode := oN [oV 6 (.mv (.c (sv []))),
  oV 7 (.mv (.c (bv false)))]
abbrev zJ9 : HCode := oR [oV 22 (.mv (.t 0)),
  oV 23 (.nilck (.t 22)),
  oV 24 (.fldR (.t 23) 0 1),
  oV 25 (.fldR (.t 24) 0 1),
  oV 26 (.ldR (.t 25) 1 false),
  oV 27 (.mv (.t 1)),
  oV 28 (.idxA 5 (.t 26) (.t 27)),
  oV 29 (.fldR (.t 28) 4 1),
  oV 30 (.ldR (.t 29) 1 false),
  oV 31 (.mv (.t 8)),
  oV 32 (.idxA 2 (.t 30) (.t 31)),
  oV 33 (.fldR (.t 32) 1 1),
  oV 34 (.ldR (.t 33) 1 false),
  oV 6 (.mv (.t 34)),
  oV 7 (.mv (.c (bv true)))] [22, 23, 24, 25, 26, 27, 28, 29, 30, 31, 32, 33, 34]
abbrev zNo : HCode := (.seq zJ5 (.seq zJ6 (.seq (.seq zJ7 (.cond (.t 21) (.seq zJ8 .ret) .skip)) (.seq zJ9 .ret))))
abbrev zFd : Env := { N := 35, Γ := [], L := 35, nfix := 0 }
abbrev match_look_value_R : List RSrc := [.tmp 6, .tmp 7]
theorem zKa : zCf Tryz.prog zCW zNo zFd match_look_value_R := by kernel_rfl
abbrev zIh : HCode := oN [oV 2 (.boxF (.t 0)),
  oV 3 (.mv (.c (bv false)))]
abbrev zIi : HCode := oR [oV 4 (.fldR (.t 2) 0 1),
  oV 5 (.ldR (.t 4) 1 false),
  oV 6 (.ldR (.t 1) 1 false),
  oV 7 (.strs .eql (.t 5) (.t 6)),
  oV 3 (.mv (.t 7))] [4, 5, 6, 7]
abbrev zLf : HCode := (.seq zIh (.seq zIi .ret))
abbrev zD9 : Env := { N := 8, Γ := [], L := 8, nfix := 0 }
abbrev match_look_value_1_R : List RSrc := [.tmp 3]
theorem zIj : zCf Tryz.prog zBL zLf zD9 match_look_value_1_R := by kernel_rfl
abbrev zSz : HCode := oN [oV 2 (.boxF (.t 0)),
  oV 4 (.mv (.c (bv false)))]
abbrev zSA : HCode := oR [oV 6 (.fldR (.t 2) 2 1),
  oV 7 (.ldR (.t 6) 1 false),
  oV 5 (.mv (.t 7))] [6, 7]
abbrev zSB : HCode := oR [oV 8 (.fldR (.t 2) 0 1),
  oV 9 (.ldR (.t 8) 1 false)] [8]
abbrev zSC : HCode := oR [oV 11 (.ints .eql (.t 9) (.c (iv 4))),
  oV 10 (.mv (.t 11))] [11]
abbrev zSD : HCode := oR [oV 12 (.mv (.t 1)),
  oV 13 (.mv (.t 5)),
  oV 14 (.strs .eql (.t 12) (.t 13)),
  oV 4 (.mv (.t 14))] [12, 13, 14]
abbrev zSE : HCode := oR [oV 16 (.ints .eql (.t 9) (.c (iv 5))),
  oV 15 (.mv (.t 16))] [16]
abbrev zSF : HCode := oR [oV 17 (.mv (.t 5)),
  oV 18 (.strs .neq (.t 17) (.c (sv []))),
  oV 19 (.mv (.t 18)),
  oG 19 true 20 (.mv (.t 1)),
  oG 19 true 21 (.mv (.t 5)),
  ⟨some (19, true), .call (some 22) zCG [(.t 20, .v), (.t 21, .v)]⟩,
  oV 23 (.pick (.t 19) (.t 22) (.c (bv false))),
  oV 4 (.mv (.t 23))] [17, 18, 19, 20, 21, 22, 23]
abbrev zSG : HCode := oR [oV 25 (.ints .eql (.t 9) (.c (iv 6))),
  oV 24 (.mv (.t 25))] [25]
abbrev zSH : HCode := oR [oV 26 (.mv (.t 5)),
  oV 27 (.strs .neq (.t 26) (.c (sv []))),
  oV 28 (.mv (.t 27)),
  oG 28 true 29 (.mv (.t 1)),
  oG 28 true 30 (.mv (.t 5)),
  ⟨some (28, true), .call (some 31) zCH [(.t 29, .v), (.t 30, .v)]⟩,
  oV 32 (.pick (.t 28) (.t 31) (.c (bv false))),
  oV 4 (.mv (.t 32))] [26, 27, 28, 29, 30, 31, 32]
abbrev zSI : HCode := oR [oV 34 (.ints .eql (.t 9) (.c (iv 7))),
  oV 33 (.mv (.t 34))] [34]
abbrev zP1 : HCode := oR [oV 35 (.mv (.t 5)),
  oV 36 (.strs .neq (.t 35) (.c (sv []))),
  oV 37 (.mv (.t 36)),
  oG 37 true 38 (.mv (.t 1)),
  oG 37 true 39 (.mv (.t 5)),
  ⟨some (37, true), .call (some 40) zCX [(.t 38, .v), (.t 39, .v)]⟩,
  oV 41 (.pick (.t 37) (.t 40) (.c (bv false))),
  oV 4 (.mv (.t 41))] [35, 36, 37, 38, 39, 40, 41]
abbrev zP2 : HCode := oR [oV 43 (.ints .eql (.t 9) (.c (iv 8))),
  oV 42 (.mv (.t 43))] [43]
abbrev zP3 : HCode := oR [oV 44 (.mv (.t 5)),
  oV 45 (.strs .neq (.t 44) (.c (sv []))),
  oV 46 (.mv (.t 45)),
  oG 46 true 47 (.mv (.t 1)),
  ⟨some (46, true), .call (some 48) zD4 [(.t 47, .v), (.c (sv [32]), .v)]⟩,
  oG 46 true 49 (.mv (.t 5)),
  ⟨some (46, true), .call (some 50) zBd [(.t 48, .v), (.t 49, .v)]⟩,
  oV 51 (.pick (.t 46) (.t 50) (.c (bv false))),
  oV 4 (.mv (.t 51))] [44, 45, 46, 47, 48, 49, 50, 51]
abbrev zP4 : HCode := oN [oV 4 (.mv (.c (bv true)))]
abbrev zZn : HCode := (.seq zSz (.seq zSA (.seq (.seq zSB (.block 0 (.seq zSC (.cond (.t 10) (.seq zSD .ret) (.seq zSE (.cond (.t 15) (.seq zSF .ret) (.seq zSG (.cond (.t 24) (.seq zSH .ret) (.seq zSI (.cond (.t 33) (.seq zP1 .ret) (.seq zP2 (.cond (.t 42) (.seq zP3 .ret) .skip)))))))))))) (.seq zP4 .ret))))
abbrev zM8 : Env := { N := 52, Γ := [], L := 52, nfix := 0 }
abbrev match_attr_R : List RSrc := [.tmp 4]
theorem zSJ : zCf Tryz.prog zHi zZn zM8 match_attr_R := by kernel_rfl
abbrev zJf : HCode := oN [oV 4 (.boxF (.t 1)),
  oV 6 (.mv (.c (bv false)))]
abbrev zJg : HCode := oR [oV 11 (.mv (.t 0)),
  oV 12 (.nilck (.t 11)),
  oV 13 (.fldR (.t 12) 0 1),
  oV 14 (.fldR (.t 13) 0 1),
  oV 15 (.ldR (.t 14) 1 false),
  oV 16 (.mv (.t 2)),
  oV 17 (.idxA 5 (.t 15) (.t 16)),
  oV 18 (.ldR (.t 17) 5 true),
  ⟨none, .alloc 7 0 138 [.v (.int .i64 0), .v (mkS []), .v (mkS []), .nl 1, .nl 2]⟩,
  ⟨none, .sto (.t 7) 0 138 0 5 (.t 18)⟩] [11, 12, 13, 14, 15, 16, 17, 18]
abbrev zJh : HCode := oR [oV 19 (.fldR (.t 4) 0 1),
  oV 20 (.ldR (.t 19) 1 false)] [19]
abbrev zJi : HCode := oR [oV 22 (.ints .eql (.t 20) (.c (iv 1))),
  oV 21 (.mv (.t 22))] [22]
abbrev zJj : HCode := oR [oV 23 (.fldP (.t 7) 3),
  oV 24 (.ldB (.t 23) 0 138 3 1 false),
  oV 25 (.fldR (.t 4) 1 1),
  oV 26 (.ldR (.t 25) 1 false),
  oC 27 zBd [(.t 24, .v), (.t 26, .v)],
  oV 6 (.mv (.t 27))] [23, 24, 25, 26, 27]
abbrev zJk : HCode := oR [oV 29 (.ints .eql (.t 20) (.c (iv 2))),
  oV 28 (.mv (.t 29))] [29]
abbrev zJl : HCode := oR [oV 30 (.fldP (.t 7) 2),
  oV 31 (.ldB (.t 30) 0 138 2 1 false),
  oV 32 (.fldR (.t 4) 1 1),
  oV 33 (.ldR (.t 32) 1 false),
  oV 34 (.strs .eql (.t 31) (.t 33)),
  oV 6 (.mv (.t 34))] [30, 31, 32, 33, 34]
abbrev zJm : HCode := oR [oV 36 (.ints .eql (.t 20) (.c (iv 9))),
  oV 35 (.mv (.t 36))] [36]
abbrev zJn : HCode := oQ [oD 0 false (oV 37 (.fldR (.t 4) 3 2)),
  oD 1 false (oV 38 (.ldR (.t 37) 2 true)),
  oD 2 false (oV 39 (.mv (.t 0))),
  oD 3 false (oV 40 (.nilck (.t 39))),
  oD 4 false (oV 41 (.fldR (.t 40) 1 1)),
  oD 5 false (oV 42 (.ldR (.t 41) 1 false)),
  oD 6 false (oV 43 (.mv (.t 2))),
  oD 7 false (oV 44 (.idxA 5 (.t 42) (.t 43))),
  oD 8 false (oV 45 (.fldR (.t 44) 0 1)),
  oD 9 false (oV 46 (.ldR (.t 45) 1 false)),
  oD 10 true (oC 47 zFa [(.t 38, .v), (.t 46, .v)]),
  oD 11 false (oV 6 (.mv (.t 47)))] [37, 38, 39, 40, 41, 42, 43, 44, 45, 46, 47]
abbrev zJo : HCode := oR [oV 49 (.ints .eql (.t 20) (.c (iv 10))),
  oV 48 (.mv (.t 49))] [49]
abbrev zIk : HCode := oQ [oD 0 false (oV 50 (.fldR (.t 4) 3 2)),
  oD 1 false (oV 51 (.ldR (.t 50) 2 true)),
  oD 2 false (oV 52 (.mv (.t 0))),
  oD 3 false (oV 53 (.nilck (.t 52))),
  oD 4 false (oV 54 (.fldR (.t 53) 1 1)),
  oD 5 false (oV 55 (.ldR (.t 54) 1 false)),
  oD 6 false (oV 56 (.mv (.t 2))),
  oD 7 false (oV 57 (.idxA 5 (.t 55) (.t 56))),
  oD 8 false (oV 58 (.fldR (.t 57) 1 1)),
  oD 9 false (oV 59 (.ldR (.t 58) 1 false)),
  oD 10 false (oV 60 (.mv (.t 0))),
  oD 11 false (oV 61 (.nilck (.t 60))),
  oD 12 false (oV 62 (.fldR (.t 61) 1 1)),
  oD 13 false (oV 63 (.ldR (.t 62) 1 false)),
  oD 14 false (oV 64 (.mv (.t 2))),
  oD 15 false (oV 65 (.idxA 5 (.t 63) (.t 64))),
  oD 16 false (oV 66 (.fldR (.t 65) 0 1)),
  oD 17 false (oV 67 (.ldR (.t 66) 1 false)),
  oD 18 false (oV 68 (.ints .sub (.t 59) (.t 67))),
  oD 19 false (oV 69 (.ints .add (.t 68) (.c (iv 1)))),
  oD 20 true (oC 70 zFa [(.t 51, .v), (.t 69, .v)]),
  oD 21 false (oV 6 (.mv (.t 70)))] [50, 51, 52, 53, 54, 55, 56, 57, 58, 59, 60, 61, 62, 63, 64, 65, 66, 67, 68, 69, 70]
abbrev zIl : HCode := oR [oV 72 (.ints .eql (.t 20) (.c (iv 11))),
  oV 71 (.mv (.t 72))] [72]
abbrev zIm : HCode := oR [oV 73 (.mv (.t 0)),
  oV 74 (.nilck (.t 73)),
  oV 75 (.fldR (.t 74) 1 1),
  oV 76 (.ldR (.t 75) 1 false),
  oV 77 (.mv (.t 2)),
  oV 78 (.idxA 5 (.t 76) (.t 77)),
  oV 79 (.fldR (.t 78) 4 1),
  oV 80 (.ldR (.t 79) 1 false),
  oV 81 (.ints .eql (.t 80) (.c (iv 0))),
  oV 6 (.mv (.t 81))] [73, 74, 75, 76, 77, 78, 79, 80, 81]
abbrev zIn : HCode := oR [oV 83 (.ints .eql (.t 20) (.c (iv 12))),
  oV 82 (.mv (.t 83))] [83]
abbrev zIo : HCode := oR [oV 84 (.mv (.t 2)),
  oV 85 (.ints .eql (.t 84) (.c (iv 0))),
  oV 6 (.mv (.t 85))] [84, 85]
abbrev zIp : HCode := oR [oV 87 (.ints .eql (.t 20) (.c (iv 13))),
  oV 86 (.mv (.t 87))] [87]
abbrev zIq : HCode := oR [oV 88 (.mv (.t 0)),
  oV 89 (.fldR (.t 4) 5 1),
  oV 90 (.ldR (.t 89) 1 false),
  oV 91 (.mv (.t 2)),
  oC 92 zAE [(.t 88, .v), (.t 90, .v), (.t 91, .v)],
  oV 93 (.not (.t 92)),
  oV 6 (.mv (.t 93))] [88, 89, 90, 91, 92, 93]
abbrev zIr : HCode := oR [oV 95 (.ints .eql (.t 20) (.c (iv 14))),
  oV 94 (.mv (.t 95))] [95]
abbrev zIs : HCode := oR [oV 96 (.mv (.t 0)),
  oV 97 (.fldR (.t 4) 5 1),
  oV 98 (.ldR (.t 97) 1 false),
  oV 99 (.mv (.t 2)),
  oC 100 zAE [(.t 96, .v), (.t 98, .v), (.t 99, .v)],
  oV 6 (.mv (.t 100))] [96, 97, 98, 99, 100]
abbrev zIt : HCode := oR [oV 102 (.ints .eql (.t 20) (.c (iv 15))),
  oV 101 (.mv (.t 102))] [102]
abbrev zIu : HCode := oR [oV 103 (.mv (.t 2)),
  oV 104 (.ints .add (.t 103) (.c (iv 1))),
  oV 8 (.mv (.t 104))] [103, 104]
abbrev zIv : HCode := oR [oV 105 (.mv (.t 8)),
  oV 106 (.mv (.t 2)),
  oV 107 (.mv (.t 0)),
  oV 108 (.nilck (.t 107)),
  oV 109 (.fldR (.t 108) 1 1),
  oV 110 (.ldR (.t 109) 1 false),
  oV 111 (.mv (.t 2)),
  oV 112 (.idxA 5 (.t 110) (.t 111)),
  oV 113 (.fldR (.t 112) 3 1),
  oV 114 (.ldR (.t 113) 1 false),
  oV 115 (.ints .add (.t 106) (.t 114)),
  oV 116 (.ints .leq (.t 105) (.t 115))] [105, 106, 107, 108, 109, 110, 111, 112, 113, 114, 115]
abbrev zIw : HCode := oR [oV 119 (.mv (.t 0)),
  oV 120 (.fldR (.t 4) 5 1),
  oV 121 (.ldR (.t 120) 1 false),
  oV 122 (.mv (.t 8)),
  oC 123 zAE [(.t 119, .v), (.t 121, .v), (.t 122, .v)]] [119, 120, 121, 122]
abbrev zIx : HCode := oN [oV 6 (.mv (.c (bv true)))]
abbrev zIy : HCode := oR [oV 117 (.mv (.t 8)),
  oV 118 (.ints .add (.t 117) (.c (iv 1))),
  oV 8 (.mv (.t 118))] [117, 118]
abbrev zIz : HCode := oN [oV 6 (.mv (.c (bv false)))]
abbrev zIA : HCode := oR [oV 125 (.mv (.t 0)),
  oV 126 (.mv (.t 2)),
  oV 127 (.fldR (.t 4) 1 1),
  oV 128 (.ldR (.t 127) 1 false),
  oC 129 zCW [(.t 125, .v), (.t 126, .v), (.t 128, .v)],
  oV 124 (.mv (.t 129)),
  oV 130 (.ext 124 0),
  oV 131 (.ext 124 1),
  oV 9 (.mv (.t 130)),
  oV 10 (.mv (.t 131))] [124, 125, 126, 127, 128, 129, 130, 131]
abbrev zIB : HCode := oR [oV 132 (.mv (.t 10)),
  oV 133 (.mv (.t 132)),
  oG 133 true 134 (.ldR (.t 4) 6 true),
  oG 133 true 135 (.mv (.t 9)),
  ⟨some (133, true), .call (some 136) zHi [(.t 134, .v), (.t 135, .v)]⟩,
  oV 137 (.pick (.t 133) (.t 136) (.c (bv false))),
  oV 6 (.mv (.t 137))] [132, 133, 134, 135, 136, 137]
abbrev zMy : HCode := (.seq zJf (.seq zJg (.seq (.seq zJh (.block 0 (.seq zJi (.cond (.t 21) (.seq zJj .ret) (.seq zJk (.cond (.t 28) (.seq zJl .ret) (.seq zJm (.cond (.t 35) (.seq zJn .ret) (.seq zJo (.cond (.t 48) (.seq zIk .ret) (.seq zIl (.cond (.t 71) (.seq zIm .ret) (.seq zIn (.cond (.t 82) (.seq zIo .ret) (.seq zIp (.cond (.t 86) (.seq zIq .ret) (.seq zIr (.cond (.t 94) (.seq zIs .ret) (.seq zIt (.cond (.t 101) (.seq (.seq zIu (.block 1 (.loop (.seq (.seq zIv (.cond (.t 116) .skip (.exit 1))) (.seq (.block 2 (.seq zIw (.cond (.t 123) (.seq zIx .ret) .skip))) zIy))))) (.seq zIz .ret)) .skip)))))))))))))))))))) (.seq zIA (.seq zIB .ret)))))
abbrev zEK : Env := { N := 138, Γ := [(138, 5)], L := 143, nfix := 0 }
abbrev match_look_passes_R : List RSrc := [.tmp 6]
theorem zJp : zCf Tryz.prog zA4 zMy zEK match_look_passes_R := by kernel_rfl
abbrev zLg : HCode := oN [oV 3 (.boxF (.t 0)),
  oV 4 (.boxF (.t 1)),
  oV 5 (.boxF (.t 2)),
  oV 6 (.mv (.c (bv false)))]
abbrev zLh : HCode := oQ [oD 0 false (oV 7 (.fldR (.t 4) 0 1)),
  oD 1 false (oV 8 (.ldR (.t 7) 1 false)),
  oD 2 false (oV 9 (.strs .eql (.t 8) (.c (sv [])))),
  oD 3 false (oV 10 (.mv (.t 9))),
  oD 4 false (oG 10 false 11 (.fldR (.t 4) 0 1)),
  oD 5 false (oG 10 false 12 (.ldR (.t 11) 1 false)),
  oD 6 false (oG 10 false 13 (.ldR (.t 3) 1 false)),
  oD 7 false (oG 10 false 14 (.nilck (.t 13))),
  oD 8 false (oG 10 false 15 (.fldR (.t 14) 0 1)),
  oD 9 false (oG 10 false 16 (.fldR (.t 15) 0 1)),
  oD 10 false (oG 10 false 17 (.ldR (.t 16) 1 false)),
  oD 11 false (oG 10 false 18 (.ldR (.t 5) 1 false)),
  oD 12 false (oG 10 false 19 (.idxA 5 (.t 17) (.t 18))),
  oD 13 false (oG 10 false 20 (.fldR (.t 19) 1 1)),
  oD 14 false (oG 10 false 21 (.ldR (.t 20) 1 false)),
  oD 15 false (oG 10 false 22 (.strs .eql (.t 12) (.t 21))),
  oD 16 false (oV 23 (.pick (.t 10) (.c (bv true)) (.t 22))),
  oD 17 false (oV 24 (.mv (.t 23))),
  oD 18 false (oG 24 true 25 (.fldR (.t 4) 1 1)),
  oD 19 false (oG 24 true 26 (.ldR (.t 25) 1 false)),
  oD 20 false (oG 24 true 27 (.mkf zBR [.t 3, .t 5])),
  oD 21 true ⟨some (24, true), .call (some 28) zA1 [(.t 26, .v), (.t 27, .v)]⟩,
  oD 22 false (oG 24 true 29 (.not (.t 28))),
  oD 23 false (oV 30 (.pick (.t 24) (.t 29) (.c (bv false)))),
  oD 24 false (oV 6 (.mv (.t 30)))] [7, 8, 9, 10, 11, 12, 13, 14, 15, 16, 17, 18, 19, 20, 21, 22, 23, 24, 25, 26, 27, 28, 29, 30]
abbrev zPg : HCode := (.seq zLg (.seq zLh .ret))
abbrev zF9 : Env := { N := 31, Γ := [], L := 31, nfix := 0 }
abbrev match_look_step_R : List RSrc := [.tmp 6]
theorem zLi : zCf Tryz.prog zBi zPg zF9 match_look_step_R := by kernel_rfl
abbrev zJq : HCode := oN [oV 3 (.boxF (.t 0)),
  oV 4 (.mv (.c (bv false)))]
abbrev zJr : HCode := oR [oV 5 (.ldR (.t 1) 1 false),
  oV 6 (.ldR (.t 3) 6 true),
  oV 7 (.ldR (.t 2) 1 false),
  oC 8 zA4 [(.t 5, .v), (.t 6, .v), (.t 7, .v)],
  oV 9 (.not (.t 8)),
  oV 4 (.mv (.t 9))] [5, 6, 7, 8, 9]
abbrev zMz : HCode := (.seq zJq (.seq zJr .ret))
abbrev zEL : Env := { N := 10, Γ := [], L := 10, nfix := 0 }
abbrev match_look_step_1_R : List RSrc := [.tmp 4]
theorem zJs : zCf Tryz.prog zBR zMz zEL match_look_step_1_R := by kernel_rfl
abbrev zKb : HCode := oN [oV 3 (.boxF (.t 0)),
  oV 4 (.boxF (.t 1)),
  oV 5 (.boxF (.t 2)),
  oV 6 (.mv (.c (.one (.v .nilFunc))))]
abbrev zKc : HCode := oR [oV 8 (.mkf zBJ [.t 3]),
  ⟨none, .alloc 7 0 17 [.v .nilFunc]⟩,
  ⟨none, .sto (.t 7) 0 17 0 1 (.t 8)⟩] [8]
abbrev zKd : HCode := oR [oV 9 (.ldR (.t 4) 1 false),
  oV 10 (.ints .eql (.t 9) (.c (iv 3))),
  oV 11 (.mv (.t 10)),
  oG 11 false 12 (.ldR (.t 4) 1 false),
  oG 11 false 13 (.ints .eql (.t 12) (.c (iv 4))),
  oV 14 (.pick (.t 11) (.c (bv true)) (.t 13))] [9, 10, 11, 12, 13]
abbrev zKe : HCode := oR [oV 15 (.mkf zBK [.t 3]),
  ⟨none, .sto (.t 7) 0 17 0 1 (.t 15)⟩] [15]
abbrev zKf : HCode := .regG [.frz 0 17 1] [oV 16 (.mkf zDT [.t 7, .t 5, .t 4]),
  oV 6 (.mv (.t 16))] [.forget [16]]
abbrev zNp : HCode := (.seq zKb (.seq zKc (.seq (.seq zKd (.cond (.t 14) zKe .skip)) (.seq zKf .ret))))
abbrev zFe : Env := { N := 17, Γ := [(17, 1)], L := 18, nfix := 0 }
abbrev match_look_roads_R : List RSrc := [.tmp 6]
theorem zKg : zCf Tryz.prog zCV zNp zFe match_look_roads_R := by kernel_rfl
abbrev zIC : HCode := oN [oV 3 (.mv (.c (iv 0)))]
abbrev zID : HCode := oR [oV 4 (.ldR (.t 1) 1 false),
  oV 5 (.nilck (.t 4)),
  oV 6 (.fldR (.t 5) 0 1),
  oV 7 (.fldR (.t 6) 0 1),
  oV 8 (.ldR (.t 7) 1 false),
  oV 9 (.mv (.t 0)),
  oV 10 (.idxA 5 (.t 8) (.t 9)),
  oV 11 (.fldR (.t 10) 0 1),
  oV 12 (.ldR (.t 11) 1 false),
  oV 3 (.mv (.t 12))] [4, 5, 6, 7, 8, 9, 10, 11, 12]
abbrev zLj : HCode := (.seq zIC (.seq zID .ret))
abbrev zEa : Env := { N := 13, Γ := [], L := 13, nfix := 0 }
abbrev match_look_roads_1_R : List RSrc := [.tmp 3]
theorem zIE : zCf Tryz.prog zBJ zLj zEa match_look_roads_1_R := by kernel_rfl
abbrev zIF : HCode := oN [oV 3 (.mv (.c (iv 0)))]
abbrev zIG : HCode := oR [oV 4 (.ldR (.t 1) 1 false),
  oV 5 (.nilck (.t 4)),
  oV 6 (.fldR (.t 5) 1 1),
  oV 7 (.ldR (.t 6) 1 false),
  oV 8 (.mv (.t 0)),
  oV 9 (.idxA 5 (.t 7) (.t 8)),
  oV 10 (.fldR (.t 9) 2 1),
  oV 11 (.ldR (.t 10) 1 false),
  oV 3 (.mv (.t 11))] [4, 5, 6, 7, 8, 9, 10, 11]
abbrev zLk : HCode := (.seq zIF (.seq zIG .ret))
abbrev zEb : Env := { N := 12, Γ := [], L := 12, nfix := 0 }
abbrev match_look_roads_2_R : List RSrc := [.tmp 3]
theorem zIH : zCf Tryz.prog zBK zLk zEb match_look_roads_2_R := by kernel_rfl
abbrev zLl : HCode := oN [oV 3 (.boxF (.t 0)),
  oV 5 (.boxF (.t 2)),
  oV 6 (.mv (.c (bv false)))]
abbrev zLm : HCode := oR [oV 7 (.mv (.t 1)),
  oV 8 (.mkf zBQ [.t 3, .t 5]),
  oC 9 zA0 [(.t 7, .v), (.t 8, .v)],
  oV 6 (.mv (.t 9))] [7, 8, 9]
abbrev zPh : HCode := (.seq zLl (.seq zLm .ret))
abbrev zGa : Env := { N := 10, Γ := [], L := 10, nfix := 0 }
abbrev match_look_list_R : List RSrc := [.tmp 6]
theorem zLn : zCf Tryz.prog zAE zPh zGa match_look_list_R := by kernel_rfl
abbrev zJt : HCode := oN [oV 3 (.boxF (.t 0)),
  oV 4 (.mv (.c (bv false)))]
abbrev zJu : HCode := oR [oV 5 (.ldR (.t 1) 1 false),
  oV 6 (.ldR (.t 3) 2 true),
  oV 7 (.fldR (.t 3) 0 1),
  oV 8 (.ldR (.t 7) 1 false),
  oV 9 (.len false (.t 8)),
  oV 10 (.ldR (.t 2) 1 false),
  oC 11 zAZ [(.t 5, .v), (.t 6, .v), (.t 9, .v), (.t 10, .v)],
  oV 4 (.mv (.t 11))] [5, 6, 7, 8, 9, 10, 11]
abbrev zMA : HCode := (.seq zJt (.seq zJu .ret))
abbrev zEM : Env := { N := 12, Γ := [], L := 12, nfix := 0 }
abbrev match_look_list_1_R : List RSrc := [.tmp 4]
theorem zJv : zCf Tryz.prog zBQ zMA zEM match_look_list_1_R := by kernel_rfl
abbrev zP5 : HCode := oN [oV 2 (.boxF (.t 0)),
  oV 4 (.mv (.c (.one (.v (.pointer none))))),
  oV 5 (.mv (.c (iv 0)))]
abbrev zP6 : HCode := oR [oV 8 (.ldR (.t 2) 1 true),
  oC 9 zH0 [(.t 8, .v)],
  oV 6 (.mv (.t 9))] [8, 9]
abbrev zP7 : HCode := oR [oV 10 (.mv (.t 6)),
  oV 11 (.ints .neq (.t 10) (.c (iv 0)))] [10]
abbrev zP8 : HCode := oR [oV 12 (.mv (.t 6)),
  oV 4 (.mv (.c (.one (.v (.pointer none))))),
  oV 5 (.mv (.t 12))] [12]
abbrev zP9 : HCode := oR [oV 13 (.mv (.t 1)),
  oC 14 zCt [(.t 13, .v)],
  oV 7 (.mv (.t 14))] [13, 14]
abbrev zQa : HCode := oR [oV 15 (.mv (.t 7)),
  oV 16 (.ints .neq (.t 15) (.c (iv 0)))] [15]
abbrev zQb : HCode := oR [oV 17 (.mv (.t 7)),
  oV 4 (.mv (.c (.one (.v (.pointer none))))),
  oV 5 (.mv (.t 17))] [17]
abbrev zQc : HCode := oR [oV 18 (.ldR (.t 2) 1 true),
  oC 19 zJ3 [(.t 18, .v)],
  oV 4 (.mv (.t 19)),
  oV 5 (.mv (.c (iv 0)))] [18, 19]
abbrev zW8 : HCode := (.seq zP5 (.seq (.seq zP6 (.seq zP7 (.cond (.t 11) (.seq zP8 .ret) .skip))) (.seq (.seq zP9 (.seq zQa (.cond (.t 16) (.seq zQb .ret) .skip))) (.seq zQc .ret))))
abbrev zLo : Env := { N := 20, Γ := [], L := 20, nfix := 0 }
abbrev match_begin_R : List RSrc := [.tmp 4, .tmp 5]
theorem zQd : zCf Tryz.prog zFm zW8 zLo match_begin_R := by kernel_rfl
abbrev zVl : HCode := oN [oV 2 (.boxF (.t 0)),
  oV 4 (.mv (.c (.one (.nl 1)))),
  oV 5 (.mv (.c (iv 0)))]
abbrev zVm : HCode := oR [oV 11 (.ldR (.t 2) 1 true),
  oV 12 (.mv (.t 1)),
  oC 13 zFm [(.t 11, .v), (.t 12, .v)],
  oV 10 (.mv (.t 13)),
  oV 14 (.ext 10 0),
  oV 15 (.ext 10 1),
  oV 6 (.mv (.t 14)),
  oV 7 (.mv (.t 15))] [10, 11, 12, 13, 14, 15]
abbrev zVn : HCode := oR [oV 16 (.mv (.t 7)),
  oV 17 (.ints .neq (.t 16) (.c (iv 0)))] [16]
abbrev zVo : HCode := oR [oV 18 (.mv (.t 7)),
  oV 4 (.mv (.c (.one (.nl 1)))),
  oV 5 (.mv (.t 18))] [18]
abbrev zVp : HCode := oN [⟨none, .nlo 8 zHt 1⟩]
abbrev zVq : HCode := oR [oV 19 (.fldR (.t 2) 0 1),
  oV 20 (.ldR (.t 19) 1 false),
  oV 21 (.len false (.t 20)),
  oV 22 (.mv (.c (iv 0)))] [19, 20]
abbrev zVr : HCode := oN [oV 23 (.ints .lss (.t 22) (.t 21))]
abbrev zVs : HCode := oR [oV 24 (.mv (.t 22)),
  oV 9 (.mv (.t 24))] [24]
abbrev zVt : HCode := oR [oV 25 (.mv (.t 6)),
  oV 26 (.mv (.t 1)),
  oV 27 (.mv (.t 9)),
  oC 28 zAE [(.t 25, .v), (.t 26, .v), (.t 27, .v)]] [25, 26, 27]
abbrev zVu : HCode := oR [⟨none, .mvo 29 8⟩,
  oV 30 (.mv (.t 9)),
  oV 31 (.bslF 1 [.t 30]),
  ⟨none, .app 32 zHt 1 (.t 29) (.t 31)⟩,
  ⟨none, .mvo 8 32⟩] [29, 30, 31, 32]
abbrev zSK : HCode := oR [oV 33 (.ints .add (.t 22) (.c (iv 1))),
  oV 22 (.mv (.t 33))] [33]
abbrev zSL : HCode := oR [oV 34 (.mv (.t 8)),
  oV 4 (.mv (.t 34)),
  oV 5 (.mv (.c (iv 0)))] [34]
abbrev yAQ : HCode := (.seq zVl (.seq zVm (.seq (.seq zVn (.cond (.t 17) (.seq zVo .ret) .skip)) (.seq zVp (.seq (.seq zVq (.block 0 (.loop (.seq zVr (.seq (.cond (.t 23) .skip (.exit 0)) (.seq (.block 1 (.seq zVs (.seq zVt (.cond (.t 28) zVu .skip)))) zSK)))))) (.seq zSL .ret))))))
abbrev zPi : Env := { N := 35, Γ := [], L := 35, nfix := 0 }
abbrev match_All_R : List RSrc := [.tmp 4, .tmp 5]
theorem zVv : zCf Tryz.prog zDS yAQ zPi match_All_R := by kernel_rfl
end Go.Hx
end

section
/-
 Where a count holds: what the program and the document reckon is the same. Plain Lean. No condition.
-/
namespace Go.Hx
variable [Glob]
theorem yAX {x y : Int} (_ : y ≠ 0) : x.tmod y = 0 ↔ ∃ k, x = y * k := by
 constructor
 ·intro h; exact ⟨x.tdiv y, by have := Int.mul_tdiv_add_tmod x y; omega⟩
 ·rintro ⟨k, rfl⟩; exact Int.mul_tmod_right y k
theorem zZt {a b i : Int} (he : zRX a b = 0) (hi : 1 ≤ i ∧ i ≤ 1073741824) : zFb a b i = true ↔ ∃ k : Int, 0 ≤ k ∧ i = b + a * k := by
 unfold zFb
 rw [decide_eq_true ⟨he, hi⟩, Bool.true_and]
 by_cases ha : a = 0
 ·subst ha
  rw [if_pos rfl, decide_eq_true_eq]
  constructor
  ·intro h; exact ⟨0, by omega, by omega⟩
  ·rintro ⟨k, _, h⟩; rw [Int.zero_mul] at h; omega
 ·rw [if_neg ha, Bool.and_eq_true, decide_eq_true_eq, decide_eq_true_eq, yAX ha]
  constructor
  ·rintro ⟨⟨k, hk⟩, h2⟩
   rw [hk, Int.mul_tdiv_cancel_left _ ha] at h2
   exact ⟨k, h2, by omega⟩
  ·rintro ⟨k, hk, h⟩
   have e : i - b = a * k := by omega
   exact ⟨⟨k, e⟩, by rw [e, Int.mul_tdiv_cancel_left _ ha]; exact hk⟩
theorem yCr {a b i : Int} (he : zRX a b = 0) (hi : 1 ≤ i ∧ i ≤ 1073741824) : zOg a b i = true ↔ ∃ k : Int, 0 ≤ k ∧ i = b + a * k := by
 unfold zOg
 rw [if_pos ⟨he, hi⟩]
 by_cases h1 : a = 0 ∨ i = b
 ·rw [if_pos h1, decide_eq_true_eq]
  constructor
  ·intro h; exact ⟨0, by omega, by omega⟩
  ·rintro ⟨k, _, h⟩
   rcases h1 with rfl | h1
   ·rw [Int.zero_mul] at h; omega
   ·exact h1
 ·rw [if_neg h1]
  have ha : a ≠ 0 := fun h => h1 (.inl h)
  by_cases h2 : 0 < a
  ·rw [if_pos h2, Bool.and_eq_true, decide_eq_true_eq, decide_eq_true_eq, yAX ha]
   constructor
   ·rintro ⟨h3, k, hk⟩
    refine ⟨k, ?_, by omega⟩
    apply Classical.byContradiction
    intro hn
    have := Int.mul_nonpos_of_nonneg_of_nonpos (show 0 ≤ a by omega) (show k ≤ 0 by omega)
    omega
   ·rintro ⟨k, hk, h⟩
    refine ⟨?_, k, by omega⟩
    have := Int.mul_nonneg (show 0 ≤ a by omega) hk
    omega
  ·rw [if_neg h2, Bool.and_eq_true, decide_eq_true_eq, decide_eq_true_eq, yAX (by omega)]
   constructor
   ·rintro ⟨h3, k, hk⟩
    refine ⟨k, ?_, ?_⟩
    ·apply Classical.byContradiction
     intro hn
     have := Int.mul_nonpos_of_nonneg_of_nonpos (show 0 ≤ -a by omega) (show k ≤ 0 by omega)
     omega
    ·rw [Int.neg_mul] at hk; omega
   ·rintro ⟨k, hk, h⟩
    refine ⟨?_, k, by rw [Int.neg_mul]; omega⟩
    have := Int.mul_nonneg (show 0 ≤ -a by omega) hk
    rw [Int.neg_mul] at this
    omega
theorem zVK (a b i : Int) : zFb a b i = zOg a b i := by
 by_cases h : zRX a b = 0 ∧ 1 ≤ i ∧ i ≤ 1073741824
 ·have h1 := zZt h.1 h.2
  have h2 := yCr h.1 h.2
  rw [Bool.eq_iff_iff, h1, h2]
 ·unfold zFb zOg
  rw [decide_eq_false h, if_neg h, Bool.false_and]
end Go.Hx
end

section
set_option maxRecDepth 100000
set_option linter.unusedSimpArgs false
namespace Go.Hx
open Go.Proofs
variable [Glob]
inductive Tr where
 | mk (x : Nd) (k : List Tr)
instance : Inhabited Tr := ⟨.mk default []⟩
attribute [local go_sem] zAu zAr zAs zAk ndV zAo List.take_zero List.map_nil
mutual
def trV : Tr → List PV
 | .mk x k => [bI x.up, bS x.tag, bS x.id, .sl 1 (zRV x.cls), .sl 2 (yAn x.att), .sl 6 (yE6 k)]
def yE6 : List Tr → List (List PV)
 | [] => []
 | t :: r => trV t :: yE6 r
end
theorem zYn : ∀ l : List Tr, yE6 l = l.map trV
 | [] => rfl
 | t :: r => by simp [yE6, zYn r]
theorem zXj (t : Tr) : (trV t).length = 6 := by cases t; rfl
attribute [local go_sem] zXj
theorem zST (t : Tr) : (trV t).map PV.norm = trV t := by cases t; rfl
attribute [local go_sem] zST
theorem zSU : yE6 [] = [] := rfl
attribute [local go_sem] zSU
theorem zSV (l : List Tr) : (yE6 l).length = l.length := by simp [zYn]
attribute [local go_sem] zSV
end Go.Hx
end

section
set_option maxRecDepth 100000
set_option linter.unusedSimpArgs false
namespace Go.Hx
open Go.Proofs
variable [Glob]
attribute [local go_sem] zAu zAr zAs zAk ndV zAo zSV zSU zXj zST List.take_zero List.map_nil
end Go.Hx
end

section
set_option maxRecDepth 100000
set_option linter.unusedSimpArgs false
namespace Go.Hx
open Go.Proofs
variable [Glob]
attribute [local go_sem] zAu zAr zAs zAk ndV zAo zSV zSU zXj zST List.take_zero List.map_nil
end Go.Hx
end

section
/-
 The abstract code of functions of the program, printed by gen.py; each stands for the given one. No condition.
-/
namespace Go.Hx
open Go.Proofs
variable [Glob]
abbrev zGd : Nat := 128
abbrev zZz : HCode := oN [oV 1 (.boxF (.t 0)),
  oV 2 (.mv (.c (.one (.nl 2))))]
abbrev zZA : HCode := oR [oV 3 (.ldR (.t 1) 6 true),
  oV 4 (.bslF 6 [.t 3]),
  oV 5 (.bld [.v (mkS []), .nl 6] [(1, 1, .t 4)]),
  oV 6 (.bslF 2 [.t 5]),
  oV 7 (.bld [.nl 2, .nl 1] [(0, 1, .t 6)]),
  oV 8 (.bslF 2 [.t 7]),
  oV 2 (.mv (.t 8))] [3, 4, 5, 6, 7, 8]
abbrev yEP : HCode := (.seq zZz (.seq zZA .ret))
abbrev zVV : Env := { N := 9, Γ := [], L := 9, nfix := 0 }
abbrev law_one_R : List RSrc := [.tmp 2]
theorem zZB : zCf Tryz.prog zGd yEP zVV law_one_R := by kernel_rfl
end Go.Hx
end
