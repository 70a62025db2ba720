/-
  Walks of functions of the program over an abstract layer, and the laws that they use: each contract says what the function computes, for every input that its conditions let by. No other condition.
-/
import Derived.Test.YtjnagiaooecklaaDoorProg
import Derived.Test.YtjnagiaooecklaaDoorG8
set_option linter.all false
section
/-
  The abstract code of functions of the program, printed by gen.py; each stands for the given one. No condition.
-/
namespace Go.Hx
open Go.Proofs
variable [Glob]
abbrev fn_ref_SameDocs : Nat := 23
abbrev fn_ref_SameNodes : Nat := 67
abbrev fn_ref_SameTexts : Nat := 118
abbrev ty_api_Attr : Nat := 97
abbrev ty_api_Node : Nat := 47
abbrev ty_int : Nat := 3
abbrev ty_string : Nat := 9
abbrev ref_SameTexts_r0 : HCode := .reg [⟨none, .val 4 (.mv (.c (bv false)))⟩] false []
abbrev ref_SameTexts_r1 : HCode := .reg [⟨none, .val 6 (.mv (.t 0))⟩,
    ⟨none, .val 7 (.len false (.t 6))⟩,
    ⟨none, .val 8 (.mv (.t 1))⟩,
    ⟨none, .val 9 (.len false (.t 8))⟩,
    ⟨none, .val 10 (.ints .neq (.t 7) (.t 9))⟩] false [.forget [6, 7, 8, 9]]
abbrev ref_SameTexts_r2 : HCode := .reg [⟨none, .val 4 (.mv (.c (bv false)))⟩] false []
abbrev ref_SameTexts_r3 : HCode := .reg [⟨none, .val 5 (.mv (.c (iv 0)))⟩] false []
abbrev ref_SameTexts_r4 : HCode := .reg [⟨none, .val 11 (.mv (.t 5))⟩,
    ⟨none, .val 12 (.mv (.t 0))⟩,
    ⟨none, .val 13 (.len false (.t 12))⟩,
    ⟨none, .val 14 (.ints .lss (.t 11) (.t 13))⟩] false [.forget [11, 12, 13]]
abbrev ref_SameTexts_r5 : HCode := .drg [⟨0, false, ⟨none, .val 17 (.mv (.t 0))⟩⟩,
    ⟨1, false, ⟨none, .val 18 (.mv (.t 5))⟩⟩,
    ⟨2, false, ⟨none, .val 19 (.idxA 1 (.t 17) (.t 18))⟩⟩,
    ⟨3, false, ⟨none, .val 20 (.ldR (.t 19) 1 false)⟩⟩,
    ⟨4, false, ⟨none, .val 21 (.mv (.t 1))⟩⟩,
    ⟨5, false, ⟨none, .val 22 (.mv (.t 5))⟩⟩,
    ⟨6, false, ⟨none, .val 23 (.idxA 1 (.t 21) (.t 22))⟩⟩,
    ⟨7, false, ⟨none, .val 24 (.ldR (.t 23) 1 false)⟩⟩,
    ⟨8, false, ⟨none, .val 25 (.strs .neq (.t 20) (.t 24))⟩⟩] [.forget [17, 18, 19, 20, 21, 22, 23, 24]]
abbrev ref_SameTexts_r6 : HCode := .reg [⟨none, .val 4 (.mv (.c (bv false)))⟩] false []
abbrev ref_SameTexts_r7 : HCode := .reg [⟨none, .val 15 (.mv (.t 5))⟩,
    ⟨none, .val 16 (.ints .add (.t 15) (.c (iv 1)))⟩,
    ⟨none, .val 5 (.mv (.t 16))⟩] false [.forget [15, 16]]
abbrev ref_SameTexts_r8 : HCode := .reg [⟨none, .val 4 (.mv (.c (bv true)))⟩] false []
abbrev ref_SameTexts : HCode := (.seq ref_SameTexts_r0 (.seq (.seq ref_SameTexts_r1 (.cond (.t 10) (.seq ref_SameTexts_r2 .ret) .skip)) (.seq (.seq ref_SameTexts_r3 (.block 0 (.loop (.seq (.seq ref_SameTexts_r4 (.cond (.t 14) .skip (.exit 0))) (.seq (.block 1 (.seq ref_SameTexts_r5 (.cond (.t 25) (.seq ref_SameTexts_r6 .ret) .skip))) ref_SameTexts_r7))))) (.seq ref_SameTexts_r8 .ret))))
abbrev ref_SameTexts_E : Env := { N := 26, Γ := [], L := 26, nfix := 0 }
abbrev ref_SameTexts_R : List RSrc := [.tmp 4]
theorem mk_ref_SameTexts {base : Nat} {av : List AV} {r : RV} (hfo : formOk ref_SameTexts_E base av) (hW : AVs.fits av → hwp Tryd.prog ref_SameTexts (finQ ref_SameTexts_E base av ref_SameTexts_R r) (F0 ref_SameTexts_E base av)) (hov : ∀ x, r.res = .ov x → nOwn av = 0 := by intro x h; cases h <;> rfl) : Contract Tryd.prog fn_ref_SameTexts av r :=
  contract_of_wp (fn := Tryd.f118) (c := Tryd.f118.body.getD .skip) (by kernel_rfl) (by kernel_rfl) (by kernel_rfl) (by kernel_rfl) (by kernel_rfl) (by kernel_rfl) (by kernel_rfl) hfo hW hov
abbrev ref_SameNodes_r0 : HCode := .reg [⟨none, .val 2 (.boxF (.t 0))⟩,
    ⟨none, .val 3 (.boxF (.t 1))⟩,
    ⟨none, .val 4 (.mv (.c (bv false)))⟩] false []
abbrev ref_SameNodes_r1 : HCode := .reg [⟨none, .val 6 (.fldR (.t 2) 0 1)⟩,
    ⟨none, .val 7 (.ldR (.t 6) 1 false)⟩,
    ⟨none, .val 8 (.fldR (.t 3) 0 1)⟩,
    ⟨none, .val 9 (.ldR (.t 8) 1 false)⟩,
    ⟨none, .val 10 (.ints .neq (.t 7) (.t 9))⟩,
    ⟨none, .val 11 (.mv (.t 10))⟩,
    ⟨some (11, false), .val 12 (.fldR (.t 2) 1 1)⟩,
    ⟨some (11, false), .val 13 (.ldR (.t 12) 1 false)⟩,
    ⟨some (11, false), .val 14 (.fldR (.t 3) 1 1)⟩,
    ⟨some (11, false), .val 15 (.ldR (.t 14) 1 false)⟩,
    ⟨some (11, false), .val 16 (.strs .neq (.t 13) (.t 15))⟩,
    ⟨none, .val 17 (.pick (.t 11) (.c (bv true)) (.t 16))⟩,
    ⟨none, .val 18 (.mv (.t 17))⟩,
    ⟨some (18, false), .val 19 (.fldR (.t 2) 2 1)⟩,
    ⟨some (18, false), .val 20 (.ldR (.t 19) 1 false)⟩,
    ⟨some (18, false), .val 21 (.fldR (.t 3) 2 1)⟩,
    ⟨some (18, false), .val 22 (.ldR (.t 21) 1 false)⟩,
    ⟨some (18, false), .val 23 (.strs .neq (.t 20) (.t 22))⟩,
    ⟨none, .val 24 (.pick (.t 18) (.c (bv true)) (.t 23))⟩,
    ⟨none, .val 25 (.mv (.t 24))⟩,
    ⟨some (25, false), .val 26 (.fldR (.t 2) 3 1)⟩,
    ⟨some (25, false), .val 27 (.ldR (.t 26) 1 false)⟩,
    ⟨some (25, false), .val 28 (.fldR (.t 3) 3 1)⟩,
    ⟨some (25, false), .val 29 (.ldR (.t 28) 1 false)⟩,
    ⟨some (25, false), .call (some 30) fn_ref_SameTexts [(.t 27, .v), (.t 29, .v)]⟩,
    ⟨some (25, false), .val 31 (.not (.t 30))⟩,
    ⟨none, .val 32 (.pick (.t 25) (.c (bv true)) (.t 31))⟩,
    ⟨none, .val 33 (.mv (.t 32))⟩,
    ⟨some (33, false), .val 34 (.fldR (.t 2) 4 1)⟩,
    ⟨some (33, false), .val 35 (.ldR (.t 34) 1 false)⟩,
    ⟨some (33, false), .val 36 (.len false (.t 35))⟩,
    ⟨some (33, false), .val 37 (.fldR (.t 3) 4 1)⟩,
    ⟨some (33, false), .val 38 (.ldR (.t 37) 1 false)⟩,
    ⟨some (33, false), .val 39 (.len false (.t 38))⟩,
    ⟨some (33, false), .val 40 (.ints .neq (.t 36) (.t 39))⟩,
    ⟨none, .val 41 (.pick (.t 33) (.c (bv true)) (.t 40))⟩] false [.forget [6, 7, 8, 9, 10, 11, 12, 13, 14, 15, 16, 17, 18, 19, 20, 21, 22, 23, 24, 25, 26, 27, 28, 29, 30, 31, 32, 33, 34, 35, 36, 37, 38, 39, 40]]
abbrev ref_SameNodes_r2 : HCode := .reg [⟨none, .val 4 (.mv (.c (bv false)))⟩] false []
abbrev ref_SameNodes_r3 : HCode := .reg [⟨none, .val 5 (.mv (.c (iv 0)))⟩] false []
abbrev ref_SameNodes_r4 : HCode := .reg [⟨none, .val 42 (.mv (.t 5))⟩,
    ⟨none, .val 43 (.fldR (.t 2) 4 1)⟩,
    ⟨none, .val 44 (.ldR (.t 43) 1 false)⟩,
    ⟨none, .val 45 (.len false (.t 44))⟩,
    ⟨none, .val 46 (.ints .lss (.t 42) (.t 45))⟩] false [.forget [42, 43, 44, 45]]
abbrev ref_SameNodes_r5 : HCode := .drg [⟨0, false, ⟨none, .val 49 (.fldR (.t 2) 4 1)⟩⟩,
    ⟨1, false, ⟨none, .val 50 (.ldR (.t 49) 1 false)⟩⟩,
    ⟨2, false, ⟨none, .val 51 (.mv (.t 5))⟩⟩,
    ⟨3, false, ⟨none, .val 52 (.idxA 2 (.t 50) (.t 51))⟩⟩,
    ⟨4, false, ⟨none, .val 53 (.ldR (.t 52) 2 true)⟩⟩,
    ⟨5, false, ⟨none, .val 54 (.fldR (.t 3) 4 1)⟩⟩,
    ⟨6, false, ⟨none, .val 55 (.ldR (.t 54) 1 false)⟩⟩,
    ⟨7, false, ⟨none, .val 56 (.mv (.t 5))⟩⟩,
    ⟨8, false, ⟨none, .val 57 (.idxA 2 (.t 55) (.t 56))⟩⟩,
    ⟨9, false, ⟨none, .val 58 (.ldR (.t 57) 2 true)⟩⟩,
    ⟨10, false, ⟨none, .val 59 (.steq true [2, 2] (.t 53) (.t 58))⟩⟩] [.forget [49, 50, 51, 52, 53, 54, 55, 56, 57, 58]]
abbrev ref_SameNodes_r6 : HCode := .reg [⟨none, .val 4 (.mv (.c (bv false)))⟩] false []
abbrev ref_SameNodes_r7 : HCode := .reg [⟨none, .val 47 (.mv (.t 5))⟩,
    ⟨none, .val 48 (.ints .add (.t 47) (.c (iv 1)))⟩,
    ⟨none, .val 5 (.mv (.t 48))⟩] false [.forget [47, 48]]
abbrev ref_SameNodes_r8 : HCode := .reg [⟨none, .val 4 (.mv (.c (bv true)))⟩] false []
abbrev ref_SameNodes : HCode := (.seq ref_SameNodes_r0 (.seq (.seq ref_SameNodes_r1 (.cond (.t 41) (.seq ref_SameNodes_r2 .ret) .skip)) (.seq (.seq ref_SameNodes_r3 (.block 0 (.loop (.seq (.seq ref_SameNodes_r4 (.cond (.t 46) .skip (.exit 0))) (.seq (.block 1 (.seq ref_SameNodes_r5 (.cond (.t 59) (.seq ref_SameNodes_r6 .ret) .skip))) ref_SameNodes_r7))))) (.seq ref_SameNodes_r8 .ret))))
abbrev ref_SameNodes_E : Env := { N := 60, Γ := [], L := 60, nfix := 0 }
abbrev ref_SameNodes_R : List RSrc := [.tmp 4]
theorem mk_ref_SameNodes {base : Nat} {av : List AV} {r : RV} (hfo : formOk ref_SameNodes_E base av) (hW : AVs.fits av → hwp Tryd.prog ref_SameNodes (finQ ref_SameNodes_E base av ref_SameNodes_R r) (F0 ref_SameNodes_E base av)) (hov : ∀ x, r.res = .ov x → nOwn av = 0 := by intro x h; cases h <;> rfl) : Contract Tryd.prog fn_ref_SameNodes av r :=
  contract_of_wp (fn := Tryd.f67) (c := Tryd.f67.body.getD .skip) (by kernel_rfl) (by kernel_rfl) (by kernel_rfl) (by kernel_rfl) (by kernel_rfl) (by kernel_rfl) (by kernel_rfl) hfo hW hov
abbrev ref_SameDocs_r0 : HCode := .reg [⟨none, .val 2 (.boxF (.t 0))⟩,
    ⟨none, .val 3 (.boxF (.t 1))⟩,
    ⟨none, .val 4 (.mv (.c (bv false)))⟩] false []
abbrev ref_SameDocs_r1 : HCode := .reg [⟨none, .val 6 (.fldR (.t 2) 0 1)⟩,
    ⟨none, .val 7 (.ldR (.t 6) 1 false)⟩,
    ⟨none, .val 8 (.len false (.t 7))⟩,
    ⟨none, .val 9 (.fldR (.t 3) 0 1)⟩,
    ⟨none, .val 10 (.ldR (.t 9) 1 false)⟩,
    ⟨none, .val 11 (.len false (.t 10))⟩,
    ⟨none, .val 12 (.ints .neq (.t 8) (.t 11))⟩] false [.forget [6, 7, 8, 9, 10, 11]]
abbrev ref_SameDocs_r2 : HCode := .reg [⟨none, .val 4 (.mv (.c (bv false)))⟩] false []
abbrev ref_SameDocs_r3 : HCode := .reg [⟨none, .val 5 (.mv (.c (iv 0)))⟩] false []
abbrev ref_SameDocs_r4 : HCode := .reg [⟨none, .val 13 (.mv (.t 5))⟩,
    ⟨none, .val 14 (.fldR (.t 2) 0 1)⟩,
    ⟨none, .val 15 (.ldR (.t 14) 1 false)⟩,
    ⟨none, .val 16 (.len false (.t 15))⟩,
    ⟨none, .val 17 (.ints .lss (.t 13) (.t 16))⟩] false [.forget [13, 14, 15, 16]]
abbrev ref_SameDocs_r5 : HCode := .drg [⟨0, false, ⟨none, .val 20 (.fldR (.t 2) 0 1)⟩⟩,
    ⟨1, false, ⟨none, .val 21 (.ldR (.t 20) 1 false)⟩⟩,
    ⟨2, false, ⟨none, .val 22 (.mv (.t 5))⟩⟩,
    ⟨3, false, ⟨none, .val 23 (.idxA 5 (.t 21) (.t 22))⟩⟩,
    ⟨4, false, ⟨none, .val 24 (.ldR (.t 23) 5 true)⟩⟩,
    ⟨5, false, ⟨none, .val 25 (.fldR (.t 3) 0 1)⟩⟩,
    ⟨6, false, ⟨none, .val 26 (.ldR (.t 25) 1 false)⟩⟩,
    ⟨7, false, ⟨none, .val 27 (.mv (.t 5))⟩⟩,
    ⟨8, false, ⟨none, .val 28 (.idxA 5 (.t 26) (.t 27))⟩⟩,
    ⟨9, false, ⟨none, .val 29 (.ldR (.t 28) 5 true)⟩⟩,
    ⟨10, true, ⟨none, .call (some 30) fn_ref_SameNodes [(.t 24, .v), (.t 29, .v)]⟩⟩,
    ⟨11, false, ⟨none, .val 31 (.not (.t 30))⟩⟩] [.forget [20, 21, 22, 23, 24, 25, 26, 27, 28, 29, 30]]
abbrev ref_SameDocs_r6 : HCode := .reg [⟨none, .val 4 (.mv (.c (bv false)))⟩] false []
abbrev ref_SameDocs_r7 : HCode := .reg [⟨none, .val 18 (.mv (.t 5))⟩,
    ⟨none, .val 19 (.ints .add (.t 18) (.c (iv 1)))⟩,
    ⟨none, .val 5 (.mv (.t 19))⟩] false [.forget [18, 19]]
abbrev ref_SameDocs_r8 : HCode := .reg [⟨none, .val 4 (.mv (.c (bv true)))⟩] false []
abbrev ref_SameDocs : HCode := (.seq ref_SameDocs_r0 (.seq (.seq ref_SameDocs_r1 (.cond (.t 12) (.seq ref_SameDocs_r2 .ret) .skip)) (.seq (.seq ref_SameDocs_r3 (.block 0 (.loop (.seq (.seq ref_SameDocs_r4 (.cond (.t 17) .skip (.exit 0))) (.seq (.block 1 (.seq ref_SameDocs_r5 (.cond (.t 31) (.seq ref_SameDocs_r6 .ret) .skip))) ref_SameDocs_r7))))) (.seq ref_SameDocs_r8 .ret))))
abbrev ref_SameDocs_E : Env := { N := 32, Γ := [], L := 32, nfix := 0 }
abbrev ref_SameDocs_R : List RSrc := [.tmp 4]
theorem mk_ref_SameDocs {base : Nat} {av : List AV} {r : RV} (hfo : formOk ref_SameDocs_E base av) (hW : AVs.fits av → hwp Tryd.prog ref_SameDocs (finQ ref_SameDocs_E base av ref_SameDocs_R r) (F0 ref_SameDocs_E base av)) (hov : ∀ x, r.res = .ov x → nOwn av = 0 := by intro x h; cases h <;> rfl) : Contract Tryd.prog fn_ref_SameDocs av r :=
  contract_of_wp (fn := Tryd.f23) (c := Tryd.f23.body.getD .skip) (by kernel_rfl) (by kernel_rfl) (by kernel_rfl) (by kernel_rfl) (by kernel_rfl) (by kernel_rfl) (by kernel_rfl) hfo hW hov
end Go.Hx
end

section
/-
  The abstract code of functions of the program, printed by gen.py; each stands for the given one. No condition.
-/
namespace Go.Hx
open Go.Proofs
variable [Glob]
abbrev fn_doc_Check : Nat := 20
abbrev fn_doc_Fine : Nat := 64
abbrev fn_doc_Fine_1 : Nat := 110
abbrev fn_doc_Fine_2 : Nat := 112
abbrev fn_doc_Fine_3 : Nat := 114
abbrev fn_doc_Name : Nat := 108
abbrev fn_doc_Value : Nat := 115
abbrev fn_doc_rises_api_Attr : Nat := 111
abbrev fn_doc_rises_string : Nat := 109
abbrev fn_law_small : Nat := 63
abbrev fn_slices_ContainsFunc_Attr : Nat := 113
abbrev fn_slices_IndexFunc_Attr : Nat := 150
abbrev slices_IndexFunc_Attr_r0 : HCode := .reg [⟨none, .val 4 (.mv (.c (iv 0)))⟩] false []
abbrev slices_IndexFunc_Attr_r1 : HCode := .reg [⟨none, .val 6 (.mv (.t 0))⟩,
    ⟨none, .val 7 (.len false (.t 6))⟩,
    ⟨none, .val 8 (.mv (.c (iv 0)))⟩] false [.forget [6]]
abbrev slices_IndexFunc_Attr_r2 : HCode := .reg [⟨none, .val 9 (.ints .lss (.t 8) (.t 7))⟩] false []
abbrev slices_IndexFunc_Attr_r3 : HCode := .reg [⟨none, .val 10 (.mv (.t 8))⟩,
    ⟨none, .val 5 (.mv (.t 10))⟩] false [.forget [10]]
abbrev slices_IndexFunc_Attr_r4 : HCode := .reg [⟨none, .val 11 (.mv (.t 1))⟩,
    ⟨none, .val 12 (.mv (.t 0))⟩,
    ⟨none, .val 13 (.mv (.t 5))⟩,
    ⟨none, .val 14 (.idxA 2 (.t 12) (.t 13))⟩,
    ⟨none, .val 15 (.ldR (.t 14) 2 true)⟩,
    ⟨none, .callv (some 16) (.t 11) [(.t 15, .v)]⟩] false [.forget [11, 12, 13, 14, 15]]
abbrev slices_IndexFunc_Attr_r5 : HCode := .reg [⟨none, .val 17 (.mv (.t 5))⟩,
    ⟨none, .val 4 (.mv (.t 17))⟩] false [.forget [17]]
abbrev slices_IndexFunc_Attr_r6 : HCode := .reg [⟨none, .val 18 (.ints .add (.t 8) (.c (iv 1)))⟩,
    ⟨none, .val 8 (.mv (.t 18))⟩] false [.forget [18]]
abbrev slices_IndexFunc_Attr_r7 : HCode := .reg [⟨none, .val 4 (.mv (.c (iv (-1))))⟩] false []
abbrev slices_IndexFunc_Attr : HCode := (.seq slices_IndexFunc_Attr_r0 (.seq (.seq slices_IndexFunc_Attr_r1 (.block 0 (.loop (.seq slices_IndexFunc_Attr_r2 (.seq (.cond (.t 9) .skip (.exit 0)) (.seq (.block 1 (.seq slices_IndexFunc_Attr_r3 (.seq slices_IndexFunc_Attr_r4 (.cond (.t 16) (.seq slices_IndexFunc_Attr_r5 .ret) .skip)))) slices_IndexFunc_Attr_r6)))))) (.seq slices_IndexFunc_Attr_r7 .ret)))
abbrev slices_IndexFunc_Attr_E : Env := { N := 19, Γ := [], L := 19, nfix := 0 }
abbrev slices_IndexFunc_Attr_R : List RSrc := [.tmp 4]
theorem mk_slices_IndexFunc_Attr {base : Nat} {av : List AV} {r : RV} (hfo : formOk slices_IndexFunc_Attr_E base av) (hW : AVs.fits av → hwp Tryd.prog slices_IndexFunc_Attr (finQ slices_IndexFunc_Attr_E base av slices_IndexFunc_Attr_R r) (F0 slices_IndexFunc_Attr_E base av)) (hov : ∀ x, r.res = .ov x → nOwn av = 0 := by intro x h; cases h <;> rfl) : Contract Tryd.prog fn_slices_IndexFunc_Attr av r :=
  contract_of_wp (fn := Tryd.f150) (c := Tryd.f150.body.getD .skip) (by kernel_rfl) (by kernel_rfl) (by kernel_rfl) (by kernel_rfl) (by kernel_rfl) (by kernel_rfl) (by kernel_rfl) hfo hW hov
abbrev slices_ContainsFunc_Attr_r0 : HCode := .reg [⟨none, .val 4 (.mv (.c (bv false)))⟩] false []
abbrev slices_ContainsFunc_Attr_r1 : HCode := .reg [⟨none, .val 5 (.mv (.t 0))⟩,
    ⟨none, .val 6 (.mv (.t 1))⟩,
    ⟨none, .call (some 7) fn_slices_IndexFunc_Attr [(.t 5, .v), (.t 6, .v)]⟩,
    ⟨none, .val 8 (.ints .geq (.t 7) (.c (iv 0)))⟩,
    ⟨none, .val 4 (.mv (.t 8))⟩] false [.forget [5, 6, 7, 8]]
abbrev slices_ContainsFunc_Attr : HCode := (.seq slices_ContainsFunc_Attr_r0 (.seq slices_ContainsFunc_Attr_r1 .ret))
abbrev slices_ContainsFunc_Attr_E : Env := { N := 9, Γ := [], L := 9, nfix := 0 }
abbrev slices_ContainsFunc_Attr_R : List RSrc := [.tmp 4]
theorem mk_slices_ContainsFunc_Attr {base : Nat} {av : List AV} {r : RV} (hfo : formOk slices_ContainsFunc_Attr_E base av) (hW : AVs.fits av → hwp Tryd.prog slices_ContainsFunc_Attr (finQ slices_ContainsFunc_Attr_E base av slices_ContainsFunc_Attr_R r) (F0 slices_ContainsFunc_Attr_E base av)) (hov : ∀ x, r.res = .ov x → nOwn av = 0 := by intro x h; cases h <;> rfl) : Contract Tryd.prog fn_slices_ContainsFunc_Attr av r :=
  contract_of_wp (fn := Tryd.f113) (c := Tryd.f113.body.getD .skip) (by kernel_rfl) (by kernel_rfl) (by kernel_rfl) (by kernel_rfl) (by kernel_rfl) (by kernel_rfl) (by kernel_rfl) hfo hW hov
abbrev doc_rises_string_r0 : HCode := .reg [⟨none, .val 4 (.mv (.c (bv false)))⟩] false []
abbrev doc_rises_string_r1 : HCode := .reg [⟨none, .val 5 (.mv (.c (sv [])))⟩] false []
abbrev doc_rises_string_r2 : HCode := .reg [⟨none, .val 8 (.mv (.t 0))⟩,
    ⟨none, .val 9 (.len false (.t 8))⟩,
    ⟨none, .val 10 (.mv (.c (iv 0)))⟩] false []
abbrev doc_rises_string_r3 : HCode := .reg [⟨none, .val 11 (.ints .lss (.t 10) (.t 9))⟩] false []
abbrev doc_rises_string_r4 : HCode := .reg [⟨none, .val 12 (.idxA 1 (.t 8) (.t 10))⟩,
    ⟨none, .val 13 (.ldR (.t 12) 1 false)⟩,
    ⟨none, .val 7 (.mv (.t 13))⟩] false [.forget [12, 13]]
abbrev doc_rises_string_r5 : HCode := .reg [⟨none, .val 14 (.mv (.t 1))⟩,
    ⟨none, .val 15 (.mv (.t 7))⟩,
    ⟨none, .callv (some 16) (.t 14) [(.t 15, .v)]⟩,
    ⟨none, .call (some 17) fn_doc_Name [(.t 16, .v)]⟩,
    ⟨none, .val 18 (.not (.t 17))⟩,
    ⟨none, .val 19 (.mv (.t 18))⟩,
    ⟨some (19, false), .val 20 (.mv (.t 1))⟩,
    ⟨some (19, false), .val 21 (.mv (.t 7))⟩,
    ⟨some (19, false), .callv (some 22) (.t 20) [(.t 21, .v)]⟩,
    ⟨some (19, false), .val 23 (.mv (.t 5))⟩,
    ⟨some (19, false), .val 24 (.strs .leq (.t 22) (.t 23))⟩,
    ⟨none, .val 25 (.pick (.t 19) (.c (bv true)) (.t 24))⟩] false [.forget [14, 15, 16, 17, 18, 19, 20, 21, 22, 23, 24]]
abbrev doc_rises_string_r6 : HCode := .reg [⟨none, .val 4 (.mv (.c (bv false)))⟩] false []
abbrev doc_rises_string_r7 : HCode := .reg [⟨none, .val 26 (.mv (.t 1))⟩,
    ⟨none, .val 27 (.mv (.t 7))⟩,
    ⟨none, .callv (some 28) (.t 26) [(.t 27, .v)]⟩,
    ⟨none, .val 5 (.mv (.t 28))⟩] false [.forget [26, 27, 28]]
abbrev doc_rises_string_r8 : HCode := .reg [⟨none, .val 29 (.ints .add (.t 10) (.c (iv 1)))⟩,
    ⟨none, .val 10 (.mv (.t 29))⟩] false [.forget [29]]
abbrev doc_rises_string_r9 : HCode := .reg [⟨none, .val 4 (.mv (.c (bv true)))⟩] false []
abbrev doc_rises_string : HCode := (.seq doc_rises_string_r0 (.seq doc_rises_string_r1 (.seq (.seq doc_rises_string_r2 (.block 0 (.loop (.seq doc_rises_string_r3 (.seq (.cond (.t 11) .skip (.exit 0)) (.seq (.block 1 (.seq doc_rises_string_r4 (.seq (.seq doc_rises_string_r5 (.cond (.t 25) (.seq doc_rises_string_r6 .ret) .skip)) doc_rises_string_r7))) doc_rises_string_r8)))))) (.seq doc_rises_string_r9 .ret))))
abbrev doc_rises_string_E : Env := { N := 30, Γ := [], L := 30, nfix := 0 }
abbrev doc_rises_string_R : List RSrc := [.tmp 4]
theorem mk_doc_rises_string {base : Nat} {av : List AV} {r : RV} (hfo : formOk doc_rises_string_E base av) (hW : AVs.fits av → hwp Tryd.prog doc_rises_string (finQ doc_rises_string_E base av doc_rises_string_R r) (F0 doc_rises_string_E base av)) (hov : ∀ x, r.res = .ov x → nOwn av = 0 := by intro x h; cases h <;> rfl) : Contract Tryd.prog fn_doc_rises_string av r :=
  contract_of_wp (fn := Tryd.f109) (c := Tryd.f109.body.getD .skip) (by kernel_rfl) (by kernel_rfl) (by kernel_rfl) (by kernel_rfl) (by kernel_rfl) (by kernel_rfl) (by kernel_rfl) hfo hW hov
abbrev doc_rises_api_Attr_r0 : HCode := .reg [⟨none, .val 4 (.mv (.c (bv false)))⟩] false []
abbrev doc_rises_api_Attr_r1 : HCode := .reg [⟨none, .val 5 (.mv (.c (sv [])))⟩] false []
abbrev doc_rises_api_Attr_r2 : HCode := .reg [⟨none, .val 8 (.mv (.t 0))⟩,
    ⟨none, .val 9 (.len false (.t 8))⟩,
    ⟨none, .val 10 (.mv (.c (iv 0)))⟩] false []
abbrev doc_rises_api_Attr_r3 : HCode := .reg [⟨none, .val 11 (.ints .lss (.t 10) (.t 9))⟩] false []
abbrev doc_rises_api_Attr_r4 : HCode := .reg [⟨none, .val 12 (.idxA 2 (.t 8) (.t 10))⟩,
    ⟨none, .val 13 (.ldR (.t 12) 2 true)⟩,
    ⟨none, .alloc 7 0 30 [.v (mkS []), .v (mkS [])]⟩,
    ⟨none, .sto (.t 7) 0 30 0 2 (.t 13)⟩] false [.forget [12, 13]]
abbrev doc_rises_api_Attr_r5 : HCode := .reg [⟨none, .val 14 (.mv (.t 1))⟩,
    ⟨none, .val 15 (.ldB (.t 7) 0 30 0 2 true)⟩,
    ⟨none, .callv (some 16) (.t 14) [(.t 15, .v)]⟩,
    ⟨none, .call (some 17) fn_doc_Name [(.t 16, .v)]⟩,
    ⟨none, .val 18 (.not (.t 17))⟩,
    ⟨none, .val 19 (.mv (.t 18))⟩,
    ⟨some (19, false), .val 20 (.mv (.t 1))⟩,
    ⟨some (19, false), .val 21 (.ldB (.t 7) 0 30 0 2 true)⟩,
    ⟨some (19, false), .callv (some 22) (.t 20) [(.t 21, .v)]⟩,
    ⟨some (19, false), .val 23 (.mv (.t 5))⟩,
    ⟨some (19, false), .val 24 (.strs .leq (.t 22) (.t 23))⟩,
    ⟨none, .val 25 (.pick (.t 19) (.c (bv true)) (.t 24))⟩] false [.forget [14, 15, 16, 17, 18, 19, 20, 21, 22, 23, 24]]
abbrev doc_rises_api_Attr_r6 : HCode := .reg [⟨none, .val 4 (.mv (.c (bv false)))⟩] false []
abbrev doc_rises_api_Attr_r7 : HCode := .reg [⟨none, .val 26 (.mv (.t 1))⟩,
    ⟨none, .val 27 (.ldB (.t 7) 0 30 0 2 true)⟩,
    ⟨none, .callv (some 28) (.t 26) [(.t 27, .v)]⟩,
    ⟨none, .val 5 (.mv (.t 28))⟩] false [.forget [26, 27, 28]]
abbrev doc_rises_api_Attr_r8 : HCode := .reg [⟨none, .val 29 (.ints .add (.t 10) (.c (iv 1)))⟩,
    ⟨none, .val 10 (.mv (.t 29))⟩] false [.forget [29]]
abbrev doc_rises_api_Attr_r9 : HCode := .reg [⟨none, .val 4 (.mv (.c (bv true)))⟩] false []
abbrev doc_rises_api_Attr : HCode := (.seq doc_rises_api_Attr_r0 (.seq doc_rises_api_Attr_r1 (.seq (.seq doc_rises_api_Attr_r2 (.block 0 (.loop (.seq doc_rises_api_Attr_r3 (.seq (.cond (.t 11) .skip (.exit 0)) (.seq (.block 1 (.seq doc_rises_api_Attr_r4 (.seq (.seq doc_rises_api_Attr_r5 (.cond (.t 25) (.seq doc_rises_api_Attr_r6 .ret) .skip)) doc_rises_api_Attr_r7))) doc_rises_api_Attr_r8)))))) (.seq doc_rises_api_Attr_r9 .ret))))
abbrev doc_rises_api_Attr_E : Env := { N := 30, Γ := [(30, 2)], L := 32, nfix := 0 }
abbrev doc_rises_api_Attr_R : List RSrc := [.tmp 4]
theorem mk_doc_rises_api_Attr {base : Nat} {av : List AV} {r : RV} (hfo : formOk doc_rises_api_Attr_E base av) (hW : AVs.fits av → hwp Tryd.prog doc_rises_api_Attr (finQ doc_rises_api_Attr_E base av doc_rises_api_Attr_R r) (F0 doc_rises_api_Attr_E base av)) (hov : ∀ x, r.res = .ov x → nOwn av = 0 := by intro x h; cases h <;> rfl) : Contract Tryd.prog fn_doc_rises_api_Attr av r :=
  contract_of_wp (fn := Tryd.f111) (c := Tryd.f111.body.getD .skip) (by kernel_rfl) (by kernel_rfl) (by kernel_rfl) (by kernel_rfl) (by kernel_rfl) (by kernel_rfl) (by kernel_rfl) hfo hW hov
abbrev doc_Fine_r0 : HCode := .reg [⟨none, .val 1 (.boxF (.t 0))⟩,
    ⟨none, .val 2 (.mv (.c (bv false)))⟩] false []
abbrev doc_Fine_r1 : HCode := .reg [⟨none, .val 3 (.fldR (.t 1) 1 1)⟩,
    ⟨none, .val 4 (.ldR (.t 3) 1 false)⟩,
    ⟨none, .call (some 5) fn_doc_Name [(.t 4, .v)]⟩,
    ⟨none, .val 6 (.mv (.t 5))⟩,
    ⟨some (6, true), .val 7 (.fldR (.t 1) 2 1)⟩,
    ⟨some (6, true), .val 8 (.ldR (.t 7) 1 false)⟩,
    ⟨some (6, true), .val 9 (.strs .eql (.t 8) (.c (sv [])))⟩,
    ⟨some (6, true), .val 10 (.mv (.t 9))⟩,
    ⟨some (10, false), .val 11 (.fldR (.t 1) 2 1)⟩,
    ⟨some (10, false), .val 12 (.ldR (.t 11) 1 false)⟩,
    ⟨some (10, false), .call (some 13) fn_doc_Name [(.t 12, .v)]⟩,
    ⟨some (6, true), .val 14 (.pick (.t 10) (.c (bv true)) (.t 13))⟩,
    ⟨none, .val 15 (.pick (.t 6) (.t 14) (.c (bv false)))⟩,
    ⟨none, .val 16 (.mv (.t 15))⟩,
    ⟨some (16, true), .val 17 (.fldR (.t 1) 3 1)⟩,
    ⟨some (16, true), .val 18 (.ldR (.t 17) 1 false)⟩,
    ⟨some (16, true), .val 19 (.len false (.t 18))⟩,
    ⟨some (16, true), .val 20 (.ints .leq (.t 19) (.c (iv 6)))⟩,
    ⟨none, .val 21 (.pick (.t 16) (.t 20) (.c (bv false)))⟩,
    ⟨none, .val 22 (.mv (.t 21))⟩,
    ⟨some (22, true), .val 23 (.fldR (.t 1) 4 1)⟩,
    ⟨some (22, true), .val 24 (.ldR (.t 23) 1 false)⟩,
    ⟨some (22, true), .val 25 (.len false (.t 24))⟩,
    ⟨some (22, true), .val 26 (.ints .leq (.t 25) (.c (iv 4)))⟩,
    ⟨none, .val 27 (.pick (.t 22) (.t 26) (.c (bv false)))⟩,
    ⟨none, .val 28 (.mv (.t 27))⟩,
    ⟨some (28, true), .val 29 (.fldR (.t 1) 3 1)⟩,
    ⟨some (28, true), .val 30 (.ldR (.t 29) 1 false)⟩,
    ⟨some (28, true), .call (some 31) fn_doc_rises_string [(.t 30, .v), (.f fn_doc_Fine_1, .v)]⟩,
    ⟨none, .val 32 (.pick (.t 28) (.t 31) (.c (bv false)))⟩,
    ⟨none, .val 33 (.mv (.t 32))⟩,
    ⟨some (33, true), .val 34 (.fldR (.t 1) 4 1)⟩,
    ⟨some (33, true), .val 35 (.ldR (.t 34) 1 false)⟩,
    ⟨some (33, true), .call (some 36) fn_doc_rises_api_Attr [(.t 35, .v), (.f fn_doc_Fine_2, .v)]⟩,
    ⟨none, .val 37 (.pick (.t 33) (.t 36) (.c (bv false)))⟩,
    ⟨none, .val 38 (.mv (.t 37))⟩,
    ⟨some (38, true), .val 39 (.fldR (.t 1) 4 1)⟩,
    ⟨some (38, true), .val 40 (.ldR (.t 39) 1 false)⟩,
    ⟨some (38, true), .call (some 41) fn_slices_ContainsFunc_Attr [(.t 40, .v), (.f fn_doc_Fine_3, .v)]⟩,
    ⟨some (38, true), .val 42 (.not (.t 41))⟩,
    ⟨none, .val 43 (.pick (.t 38) (.t 42) (.c (bv false)))⟩,
    ⟨none, .val 2 (.mv (.t 43))⟩] false [.forget [3, 4, 5, 6, 7, 8, 9, 10, 11, 12, 13, 14, 15, 16, 17, 18, 19, 20, 21, 22, 23, 24, 25, 26, 27, 28, 29, 30, 31, 32, 33, 34, 35, 36, 37, 38, 39, 40, 41, 42, 43]]
abbrev doc_Fine : HCode := (.seq doc_Fine_r0 (.seq doc_Fine_r1 .ret))
abbrev doc_Fine_E : Env := { N := 44, Γ := [], L := 44, nfix := 0 }
abbrev doc_Fine_R : List RSrc := [.tmp 2]
theorem mk_doc_Fine {base : Nat} {av : List AV} {r : RV} (hfo : formOk doc_Fine_E base av) (hW : AVs.fits av → hwp Tryd.prog doc_Fine (finQ doc_Fine_E base av doc_Fine_R r) (F0 doc_Fine_E base av)) (hov : ∀ x, r.res = .ov x → nOwn av = 0 := by intro x h; cases h <;> rfl) : Contract Tryd.prog fn_doc_Fine av r :=
  contract_of_wp (fn := Tryd.f64) (c := Tryd.f64.body.getD .skip) (by kernel_rfl) (by kernel_rfl) (by kernel_rfl) (by kernel_rfl) (by kernel_rfl) (by kernel_rfl) (by kernel_rfl) hfo hW hov
abbrev doc_Fine_1_r0 : HCode := .reg [⟨none, .val 2 (.mv (.c (sv [])))⟩] false []
abbrev doc_Fine_1_r1 : HCode := .reg [⟨none, .val 3 (.mv (.t 0))⟩,
    ⟨none, .val 2 (.mv (.t 3))⟩] false [.forget [3]]
abbrev doc_Fine_1 : HCode := (.seq doc_Fine_1_r0 (.seq doc_Fine_1_r1 .ret))
abbrev doc_Fine_1_E : Env := { N := 4, Γ := [], L := 4, nfix := 0 }
abbrev doc_Fine_1_R : List RSrc := [.tmp 2]
theorem mk_doc_Fine_1 {base : Nat} {av : List AV} {r : RV} (hfo : formOk doc_Fine_1_E base av) (hW : AVs.fits av → hwp Tryd.prog doc_Fine_1 (finQ doc_Fine_1_E base av doc_Fine_1_R r) (F0 doc_Fine_1_E base av)) (hov : ∀ x, r.res = .ov x → nOwn av = 0 := by intro x h; cases h <;> rfl) : Contract Tryd.prog fn_doc_Fine_1 av r :=
  contract_of_wp (fn := Tryd.f110) (c := Tryd.f110.body.getD .skip) (by kernel_rfl) (by kernel_rfl) (by kernel_rfl) (by kernel_rfl) (by kernel_rfl) (by kernel_rfl) (by kernel_rfl) hfo hW hov
abbrev doc_Fine_2_r0 : HCode := .reg [⟨none, .val 1 (.boxF (.t 0))⟩,
    ⟨none, .val 2 (.mv (.c (sv [])))⟩] false []
abbrev doc_Fine_2_r1 : HCode := .reg [⟨none, .val 3 (.fldR (.t 1) 0 1)⟩,
    ⟨none, .val 4 (.ldR (.t 3) 1 false)⟩,
    ⟨none, .val 2 (.mv (.t 4))⟩] false [.forget [3, 4]]
abbrev doc_Fine_2 : HCode := (.seq doc_Fine_2_r0 (.seq doc_Fine_2_r1 .ret))
abbrev doc_Fine_2_E : Env := { N := 5, Γ := [], L := 5, nfix := 0 }
abbrev doc_Fine_2_R : List RSrc := [.tmp 2]
theorem mk_doc_Fine_2 {base : Nat} {av : List AV} {r : RV} (hfo : formOk doc_Fine_2_E base av) (hW : AVs.fits av → hwp Tryd.prog doc_Fine_2 (finQ doc_Fine_2_E base av doc_Fine_2_R r) (F0 doc_Fine_2_E base av)) (hov : ∀ x, r.res = .ov x → nOwn av = 0 := by intro x h; cases h <;> rfl) : Contract Tryd.prog fn_doc_Fine_2 av r :=
  contract_of_wp (fn := Tryd.f112) (c := Tryd.f112.body.getD .skip) (by kernel_rfl) (by kernel_rfl) (by kernel_rfl) (by kernel_rfl) (by kernel_rfl) (by kernel_rfl) (by kernel_rfl) hfo hW hov
abbrev doc_Fine_3_r0 : HCode := .reg [⟨none, .val 1 (.boxF (.t 0))⟩,
    ⟨none, .val 2 (.mv (.c (bv false)))⟩] false []
abbrev doc_Fine_3_r1 : HCode := .reg [⟨none, .val 3 (.fldR (.t 1) 1 1)⟩,
    ⟨none, .val 4 (.ldR (.t 3) 1 false)⟩,
    ⟨none, .call (some 5) fn_doc_Value [(.t 4, .v)]⟩,
    ⟨none, .val 6 (.not (.t 5))⟩,
    ⟨none, .val 2 (.mv (.t 6))⟩] false [.forget [3, 4, 5, 6]]
abbrev doc_Fine_3 : HCode := (.seq doc_Fine_3_r0 (.seq doc_Fine_3_r1 .ret))
abbrev doc_Fine_3_E : Env := { N := 7, Γ := [], L := 7, nfix := 0 }
abbrev doc_Fine_3_R : List RSrc := [.tmp 2]
theorem mk_doc_Fine_3 {base : Nat} {av : List AV} {r : RV} (hfo : formOk doc_Fine_3_E base av) (hW : AVs.fits av → hwp Tryd.prog doc_Fine_3 (finQ doc_Fine_3_E base av doc_Fine_3_R r) (F0 doc_Fine_3_E base av)) (hov : ∀ x, r.res = .ov x → nOwn av = 0 := by intro x h; cases h <;> rfl) : Contract Tryd.prog fn_doc_Fine_3 av r :=
  contract_of_wp (fn := Tryd.f114) (c := Tryd.f114.body.getD .skip) (by kernel_rfl) (by kernel_rfl) (by kernel_rfl) (by kernel_rfl) (by kernel_rfl) (by kernel_rfl) (by kernel_rfl) hfo hW hov
abbrev doc_Check_r0 : HCode := .reg [⟨none, .val 1 (.boxF (.t 0))⟩,
    ⟨none, .val 2 (.mv (.c (iv 0)))⟩] false []
abbrev doc_Check_r1 : HCode := .reg [⟨none, .val 6 (.fldR (.t 1) 0 1)⟩,
    ⟨none, .val 7 (.ldR (.t 6) 1 false)⟩,
    ⟨none, .val 8 (.len false (.t 7))⟩,
    ⟨none, .val 9 (.ints .lss (.t 8) (.c (iv 1)))⟩,
    ⟨none, .val 10 (.mv (.t 9))⟩,
    ⟨some (10, false), .val 11 (.fldR (.t 1) 0 1)⟩,
    ⟨some (10, false), .val 12 (.ldR (.t 11) 1 false)⟩,
    ⟨some (10, false), .val 13 (.len false (.t 12))⟩,
    ⟨some (10, false), .val 14 (.ints .gtr (.t 13) (.c (iv 64)))⟩,
    ⟨none, .val 15 (.pick (.t 10) (.c (bv true)) (.t 14))⟩] false [.forget [6, 7, 8, 9, 10, 11, 12, 13, 14]]
abbrev doc_Check_r2 : HCode := .reg [⟨none, .val 2 (.mv (.c (iv 2)))⟩] false []
abbrev doc_Check_r3 : HCode := .reg [⟨none, .nlk 3 ty_int 1⟩] false []
abbrev doc_Check_r4 : HCode := .reg [⟨none, .val 16 (.fldR (.t 1) 0 1)⟩,
    ⟨none, .val 17 (.ldR (.t 16) 1 false)⟩,
    ⟨none, .val 18 (.len false (.t 17))⟩,
    ⟨none, .val 19 (.mv (.c (iv 0)))⟩] false [.forget [16]]
abbrev doc_Check_r5 : HCode := .reg [⟨none, .val 20 (.ints .lss (.t 19) (.t 18))⟩] false []
abbrev doc_Check_r6 : HCode := .reg [⟨none, .val 21 (.mv (.t 19))⟩,
    ⟨none, .val 22 (.idxA 5 (.t 17) (.t 19))⟩,
    ⟨none, .val 23 (.ldR (.t 22) 5 true)⟩,
    ⟨none, .alloc 5 0 69 [.v (.int .i64 0), .v (mkS []), .v (mkS []), .nl 1, .nl 2]⟩,
    ⟨none, .val 4 (.mv (.t 21))⟩,
    ⟨none, .sto (.t 5) 0 69 0 5 (.t 23)⟩] false [.frz 0 69 5, .forget [21, 22, 23]]
abbrev doc_Check_r7 : HCode := .rdr 3 [⟨none, .val 24 (.mv (.t 3))⟩,
    ⟨none, .val 25 (.len false (.t 24))⟩,
    ⟨none, .val 26 (.ints .gtr (.t 25) (.c (iv 0)))⟩,
    ⟨none, .val 27 (.mv (.t 26))⟩,
    ⟨some (27, true), .val 28 (.mv (.t 3))⟩,
    ⟨some (27, true), .val 29 (.mv (.t 3))⟩,
    ⟨some (27, true), .val 30 (.len false (.t 29))⟩,
    ⟨some (27, true), .val 31 (.ints .sub (.t 30) (.c (iv 1)))⟩,
    ⟨some (27, true), .val 32 (.idxA 1 (.t 28) (.t 31))⟩,
    ⟨some (27, true), .val 33 (.ldR (.t 32) 1 false)⟩,
    ⟨some (27, true), .val 34 (.fldR (.t 5) 0 1)⟩,
    ⟨some (27, true), .val 35 (.ldR (.t 34) 1 false)⟩,
    ⟨some (27, true), .val 36 (.ints .neq (.t 33) (.t 35))⟩,
    ⟨none, .val 37 (.pick (.t 27) (.t 36) (.c (bv false)))⟩] true [.forget [24, 25, 26, 27, 28, 29, 30, 31, 32, 33, 34, 35, 36]]
abbrev doc_Check_r8 : HCode := .reg [⟨none, .mvk 38 3⟩,
    ⟨none, .val 39 (.mv (.t 3))⟩,
    ⟨none, .val 40 (.len false (.t 39))⟩,
    ⟨none, .val 41 (.ints .sub (.t 40) (.c (iv 1)))⟩,
    ⟨none, .trk 42 38 (.t 41)⟩,
    ⟨none, .mvk 3 42⟩] false [.forget [38, 39, 40, 41, 42]]
abbrev doc_Check_r9 : HCode := .rdr 3 [⟨none, .val 43 (.ldR (.t 5) 5 true)⟩,
    ⟨none, .call (some 44) fn_doc_Fine [(.t 43, .v)]⟩,
    ⟨none, .val 45 (.not (.t 44))⟩,
    ⟨none, .val 46 (.mv (.t 45))⟩,
    ⟨some (46, false), .val 47 (.mv (.t 4))⟩,
    ⟨some (46, false), .val 48 (.ints .eql (.t 47) (.c (iv 0)))⟩,
    ⟨some (46, false), .val 49 (.mv (.t 48))⟩,
    ⟨some (49, true), .val 50 (.fldR (.t 5) 0 1)⟩,
    ⟨some (49, true), .val 51 (.ldR (.t 50) 1 false)⟩,
    ⟨some (49, true), .val 52 (.ints .neq (.t 51) (.c (iv (-1))))⟩,
    ⟨some (46, false), .val 53 (.pick (.t 49) (.t 52) (.c (bv false)))⟩,
    ⟨none, .val 54 (.pick (.t 46) (.c (bv true)) (.t 53))⟩,
    ⟨none, .val 55 (.mv (.t 54))⟩,
    ⟨some (55, false), .val 56 (.mv (.t 4))⟩,
    ⟨some (55, false), .val 57 (.ints .gtr (.t 56) (.c (iv 0)))⟩,
    ⟨some (55, false), .val 58 (.mv (.t 57))⟩,
    ⟨some (58, true), .val 59 (.mv (.t 3))⟩,
    ⟨some (58, true), .val 60 (.len false (.t 59))⟩,
    ⟨some (58, true), .val 61 (.ints .eql (.t 60) (.c (iv 0)))⟩,
    ⟨some (55, false), .val 62 (.pick (.t 58) (.t 61) (.c (bv false)))⟩,
    ⟨none, .val 63 (.pick (.t 55) (.c (bv true)) (.t 62))⟩] false [.forget [43, 44, 45, 46, 47, 48, 49, 50, 51, 52, 53, 54, 55, 56, 57, 58, 59, 60, 61, 62]]
abbrev doc_Check_r10 : HCode := .reg [⟨none, .val 2 (.mv (.c (iv 1)))⟩] false []
abbrev doc_Check_r11 : HCode := .reg [⟨none, .mvk 64 3⟩,
    ⟨none, .val 65 (.mv (.t 4))⟩,
    ⟨none, .val 66 (.bslF 1 [.t 65])⟩,
    ⟨none, .apk 67 ty_int 1 64 (.t 66)⟩,
    ⟨none, .mvk 3 67⟩] false [.forget [64, 65, 66, 67]]
abbrev doc_Check_r12 : HCode := .reg [⟨none, .val 68 (.ints .add (.t 19) (.c (iv 1)))⟩,
    ⟨none, .val 19 (.mv (.t 68))⟩] false [.forget [68]]
abbrev doc_Check_r13 : HCode := .reg [⟨none, .val 2 (.mv (.c (iv 0)))⟩] false []
abbrev doc_Check : HCode := (.seq doc_Check_r0 (.seq (.seq doc_Check_r1 (.cond (.t 15) (.seq doc_Check_r2 .ret) .skip)) (.seq doc_Check_r3 (.seq (.seq doc_Check_r4 (.block 0 (.loop (.seq doc_Check_r5 (.seq (.cond (.t 20) .skip (.exit 0)) (.seq (.block 1 (.seq doc_Check_r6 (.seq (.block 2 (.loop (.seq (.seq doc_Check_r7 (.cond (.t 37) .skip (.exit 2))) (.block 3 doc_Check_r8)))) (.seq (.seq doc_Check_r9 (.cond (.t 63) (.seq doc_Check_r10 .ret) .skip)) doc_Check_r11)))) doc_Check_r12)))))) (.seq doc_Check_r13 .ret)))))
abbrev doc_Check_E : Env := { N := 69, Γ := [(69, 5)], L := 74, nfix := 0 }
abbrev doc_Check_R : List RSrc := [.tmp 2]
theorem mk_doc_Check {base : Nat} {av : List AV} {r : RV} (hfo : formOk doc_Check_E base av) (hW : AVs.fits av → hwp Tryd.prog doc_Check (finQ doc_Check_E base av doc_Check_R r) (F0 doc_Check_E base av)) (hov : ∀ x, r.res = .ov x → nOwn av = 0 := by intro x h; cases h <;> rfl) : Contract Tryd.prog fn_doc_Check av r :=
  contract_of_wp (fn := Tryd.f20) (c := Tryd.f20.body.getD .skip) (by kernel_rfl) (by kernel_rfl) (by kernel_rfl) (by kernel_rfl) (by kernel_rfl) (by kernel_rfl) (by kernel_rfl) hfo hW hov
abbrev law_small_r0 : HCode := .reg [⟨none, .alloc 0 0 13 [.nl 5]⟩] false []
abbrev law_small_r1 : HCode := .reg [⟨none, .val 1 (.bld [.v (.int .i64 0), .v (mkS []), .v (mkS []), .nl 1, .nl 2] [(0, 1, .c (iv (-1))), (1, 1, .c (sv [108, 105, 115, 116])), (2, 1, .c (sv [116, 111, 112]))])⟩,
    ⟨none, .val 2 (.bslF 1 [.c (sv [97])])⟩,
    ⟨none, .val 3 (.bld [.v (.int .i64 0), .v (mkS []), .v (mkS []), .nl 1, .nl 2] [(0, 1, .c (iv 0)), (1, 1, .c (sv [105, 116, 101, 109])), (3, 1, .t 2)])⟩,
    ⟨none, .val 4 (.bslF 1 [.c (sv [98])])⟩,
    ⟨none, .val 5 (.bld [.v (.int .i64 0), .v (mkS []), .v (mkS []), .nl 1, .nl 2] [(0, 1, .c (iv 0)), (1, 1, .c (sv [105, 116, 101, 109])), (3, 1, .t 4)])⟩,
    ⟨none, .val 6 (.bld [.v (mkS []), .v (mkS [])] [(0, 1, .c (sv [116, 111])), (1, 1, .c (sv [111, 110, 101, 32, 116, 119, 111]))])⟩,
    ⟨none, .val 7 (.bslF 2 [.t 6])⟩,
    ⟨none, .val 8 (.bld [.v (.int .i64 0), .v (mkS []), .v (mkS []), .nl 1, .nl 2] [(0, 1, .c (iv 2)), (1, 1, .c (sv [108, 105, 110, 107])), (4, 1, .t 7)])⟩,
    ⟨none, .val 9 (.bslF 1 [.c (sv [97])])⟩,
    ⟨none, .val 10 (.bld [.v (.int .i64 0), .v (mkS []), .v (mkS []), .nl 1, .nl 2] [(0, 1, .c (iv 0)), (1, 1, .c (sv [105, 116, 101, 109])), (3, 1, .t 9)])⟩,
    ⟨none, .val 11 (.bslF 5 [.t 1, .t 3, .t 5, .t 8, .t 10])⟩,
    ⟨none, .val 12 (.bld [.nl 5] [(0, 1, .t 11)])⟩,
    ⟨none, .sto (.t 0) 0 13 0 1 (.t 12)⟩] false [.forget [1, 2, 3, 4, 5, 6, 7, 8, 9, 10, 11, 12]]
abbrev law_small : HCode := (.seq law_small_r0 (.seq law_small_r1 .ret))
abbrev law_small_E : Env := { N := 13, Γ := [(13, 1)], L := 14, nfix := 0 }
abbrev law_small_R : List RSrc := [.cellB 0 0 13 0 1 true]
theorem mk_law_small {base : Nat} {av : List AV} {r : RV} (hfo : formOk law_small_E base av) (hW : AVs.fits av → hwp Tryd.prog law_small (finQ law_small_E base av law_small_R r) (F0 law_small_E base av)) (hov : ∀ x, r.res = .ov x → nOwn av = 0 := by intro x h; cases h <;> rfl) : Contract Tryd.prog fn_law_small av r :=
  contract_of_wp (fn := Tryd.f63) (c := Tryd.f63.body.getD .skip) (by kernel_rfl) (by kernel_rfl) (by kernel_rfl) (by kernel_rfl) (by kernel_rfl) (by kernel_rfl) (by kernel_rfl) hfo hW hov
end Go.Hx
end

section
/-
  The abstract code of functions of the program, printed by gen.py; each stands for the given one. No condition.
-/
namespace Go.Hx
open Go.Proofs
variable [Glob]
abbrev fn_doc_Name_1 : Nat := 149
abbrev fn_doc_Value_1 : Nat := 151
abbrev fn_strings_ContainsFunc : Nat := 148
abbrev fn_strings_Trim : Nat := 147
abbrev doc_Name_r0 : HCode := .reg [⟨none, .val 2 (.mv (.c (bv false)))⟩] false []
abbrev doc_Name_r1 : HCode := .reg [⟨none, .val 3 (.mv (.t 0))⟩,
    ⟨none, .val 4 (.len true (.t 3))⟩,
    ⟨none, .val 5 (.ints .gtr (.t 4) (.c (iv 0)))⟩,
    ⟨none, .val 6 (.mv (.t 5))⟩,
    ⟨some (6, true), .val 7 (.mv (.t 0))⟩,
    ⟨some (6, true), .val 8 (.len true (.t 7))⟩,
    ⟨some (6, true), .val 9 (.ints .leq (.t 8) (.c (iv 12)))⟩,
    ⟨none, .val 10 (.pick (.t 6) (.t 9) (.c (bv false)))⟩,
    ⟨none, .val 11 (.mv (.t 10))⟩,
    ⟨some (11, true), .val 12 (.mv (.t 0))⟩,
    ⟨some (11, true), .val 13 (.idxS (.t 12) (.c (iv 0)))⟩,
    ⟨some (11, true), .val 14 (.ints .geq (.t 13) (.c (.one (.v (.int .u8 97)))))⟩,
    ⟨none, .val 15 (.pick (.t 11) (.t 14) (.c (bv false)))⟩,
    ⟨none, .val 16 (.mv (.t 15))⟩,
    ⟨some (16, true), .val 17 (.mv (.t 0))⟩,
    ⟨some (16, true), .val 18 (.idxS (.t 17) (.c (iv 0)))⟩,
    ⟨some (16, true), .val 19 (.ints .leq (.t 18) (.c (.one (.v (.int .u8 122)))))⟩,
    ⟨none, .val 20 (.pick (.t 16) (.t 19) (.c (bv false)))⟩,
    ⟨none, .val 21 (.mv (.t 20))⟩,
    ⟨some (21, true), .val 22 (.mv (.t 0))⟩,
    ⟨some (21, true), .call (some 23) fn_strings_Trim [(.t 22, .v), (.c (sv [97, 98, 99, 100, 101, 102, 103, 104, 105, 106, 107, 108, 109, 110, 111, 112, 113, 114, 115, 116, 117, 118, 119, 120, 121, 122, 48, 49, 50, 51, 52, 53, 54, 55, 56, 57, 45]), .v)]⟩,
    ⟨some (21, true), .val 24 (.strs .eql (.t 23) (.c (sv [])))⟩,
    ⟨none, .val 25 (.pick (.t 21) (.t 24) (.c (bv false)))⟩,
    ⟨none, .val 26 (.mv (.t 25))⟩,
    ⟨some (26, true), .val 27 (.mv (.t 0))⟩,
    ⟨some (26, true), .call (some 28) fn_strings_ContainsFunc [(.t 27, .v), (.f fn_doc_Name_1, .v)]⟩,
    ⟨some (26, true), .val 29 (.not (.t 28))⟩,
    ⟨none, .val 30 (.pick (.t 26) (.t 29) (.c (bv false)))⟩,
    ⟨none, .val 2 (.mv (.t 30))⟩] false [.forget [3, 4, 5, 6, 7, 8, 9, 10, 11, 12, 13, 14, 15, 16, 17, 18, 19, 20, 21, 22, 23, 24, 25, 26, 27, 28, 29, 30]]
abbrev doc_Name : HCode := (.seq doc_Name_r0 (.seq doc_Name_r1 .ret))
abbrev doc_Name_E : Env := { N := 31, Γ := [], L := 31, nfix := 0 }
abbrev doc_Name_R : List RSrc := [.tmp 2]
theorem mk_doc_Name {base : Nat} {av : List AV} {r : RV} (hfo : formOk doc_Name_E base av) (hW : AVs.fits av → hwp Tryd.prog doc_Name (finQ doc_Name_E base av doc_Name_R r) (F0 doc_Name_E base av)) (hov : ∀ x, r.res = .ov x → nOwn av = 0 := by intro x h; cases h <;> rfl) : Contract Tryd.prog fn_doc_Name av r :=
  contract_of_wp (fn := Tryd.f108) (c := Tryd.f108.body.getD .skip) (by kernel_rfl) (by kernel_rfl) (by kernel_rfl) (by kernel_rfl) (by kernel_rfl) (by kernel_rfl) (by kernel_rfl) hfo hW hov
abbrev doc_Name_1_r0 : HCode := .reg [⟨none, .val 2 (.mv (.c (bv false)))⟩] false []
abbrev doc_Name_1_r1 : HCode := .reg [⟨none, .val 3 (.mv (.t 0))⟩,
    ⟨none, .val 4 (.ints .lss (.t 3) (.c (.one (.v (.int .i32 97)))))⟩,
    ⟨none, .val 5 (.mv (.t 4))⟩,
    ⟨some (5, false), .val 6 (.mv (.t 0))⟩,
    ⟨some (5, false), .val 7 (.ints .gtr (.t 6) (.c (.one (.v (.int .i32 122)))))⟩,
    ⟨none, .val 8 (.pick (.t 5) (.c (bv true)) (.t 7))⟩,
    ⟨none, .val 9 (.mv (.t 8))⟩,
    ⟨some (9, true), .val 10 (.mv (.t 0))⟩,
    ⟨some (9, true), .val 11 (.ints .lss (.t 10) (.c (.one (.v (.int .i32 48)))))⟩,
    ⟨some (9, true), .val 12 (.mv (.t 11))⟩,
    ⟨some (12, false), .val 13 (.mv (.t 0))⟩,
    ⟨some (12, false), .val 14 (.ints .gtr (.t 13) (.c (.one (.v (.int .i32 57)))))⟩,
    ⟨some (9, true), .val 15 (.pick (.t 12) (.c (bv true)) (.t 14))⟩,
    ⟨none, .val 16 (.pick (.t 9) (.t 15) (.c (bv false)))⟩,
    ⟨none, .val 17 (.mv (.t 16))⟩,
    ⟨some (17, true), .val 18 (.mv (.t 0))⟩,
    ⟨some (17, true), .val 19 (.ints .neq (.t 18) (.c (.one (.v (.int .i32 45)))))⟩,
    ⟨none, .val 20 (.pick (.t 17) (.t 19) (.c (bv false)))⟩,
    ⟨none, .val 2 (.mv (.t 20))⟩] false [.forget [3, 4, 5, 6, 7, 8, 9, 10, 11, 12, 13, 14, 15, 16, 17, 18, 19, 20]]
abbrev doc_Name_1 : HCode := (.seq doc_Name_1_r0 (.seq doc_Name_1_r1 .ret))
abbrev doc_Name_1_E : Env := { N := 21, Γ := [], L := 21, nfix := 0 }
abbrev doc_Name_1_R : List RSrc := [.tmp 2]
theorem mk_doc_Name_1 {base : Nat} {av : List AV} {r : RV} (hfo : formOk doc_Name_1_E base av) (hW : AVs.fits av → hwp Tryd.prog doc_Name_1 (finQ doc_Name_1_E base av doc_Name_1_R r) (F0 doc_Name_1_E base av)) (hov : ∀ x, r.res = .ov x → nOwn av = 0 := by intro x h; cases h <;> rfl) : Contract Tryd.prog fn_doc_Name_1 av r :=
  contract_of_wp (fn := Tryd.f149) (c := Tryd.f149.body.getD .skip) (by kernel_rfl) (by kernel_rfl) (by kernel_rfl) (by kernel_rfl) (by kernel_rfl) (by kernel_rfl) (by kernel_rfl) hfo hW hov
abbrev doc_Value_r0 : HCode := .reg [⟨none, .val 2 (.mv (.c (bv false)))⟩] false []
abbrev doc_Value_r1 : HCode := .reg [⟨none, .val 3 (.mv (.t 0))⟩,
    ⟨none, .val 4 (.len true (.t 3))⟩,
    ⟨none, .val 5 (.ints .leq (.t 4) (.c (iv 16)))⟩,
    ⟨none, .val 6 (.mv (.t 5))⟩,
    ⟨some (6, true), .val 7 (.mv (.t 0))⟩,
    ⟨some (6, true), .call (some 8) fn_strings_ContainsFunc [(.t 7, .v), (.f fn_doc_Value_1, .v)]⟩,
    ⟨some (6, true), .val 9 (.not (.t 8))⟩,
    ⟨none, .val 10 (.pick (.t 6) (.t 9) (.c (bv false)))⟩,
    ⟨none, .val 2 (.mv (.t 10))⟩] false [.forget [3, 4, 5, 6, 7, 8, 9, 10]]
abbrev doc_Value : HCode := (.seq doc_Value_r0 (.seq doc_Value_r1 .ret))
abbrev doc_Value_E : Env := { N := 11, Γ := [], L := 11, nfix := 0 }
abbrev doc_Value_R : List RSrc := [.tmp 2]
theorem mk_doc_Value {base : Nat} {av : List AV} {r : RV} (hfo : formOk doc_Value_E base av) (hW : AVs.fits av → hwp Tryd.prog doc_Value (finQ doc_Value_E base av doc_Value_R r) (F0 doc_Value_E base av)) (hov : ∀ x, r.res = .ov x → nOwn av = 0 := by intro x h; cases h <;> rfl) : Contract Tryd.prog fn_doc_Value av r :=
  contract_of_wp (fn := Tryd.f115) (c := Tryd.f115.body.getD .skip) (by kernel_rfl) (by kernel_rfl) (by kernel_rfl) (by kernel_rfl) (by kernel_rfl) (by kernel_rfl) (by kernel_rfl) hfo hW hov
abbrev doc_Value_1_r0 : HCode := .reg [⟨none, .val 2 (.mv (.c (bv false)))⟩] false []
abbrev doc_Value_1_r1 : HCode := .reg [⟨none, .val 3 (.mv (.t 0))⟩,
    ⟨none, .val 4 (.ints .lss (.t 3) (.c (.one (.v (.int .i32 32)))))⟩,
    ⟨none, .val 5 (.mv (.t 4))⟩,
    ⟨some (5, false), .val 6 (.mv (.t 0))⟩,
    ⟨some (5, false), .val 7 (.ints .gtr (.t 6) (.c (.one (.v (.int .i32 126)))))⟩,
    ⟨none, .val 8 (.pick (.t 5) (.c (bv true)) (.t 7))⟩,
    ⟨none, .val 9 (.mv (.t 8))⟩,
    ⟨some (9, false), .val 10 (.mv (.t 0))⟩,
    ⟨some (9, false), .val 11 (.ints .eql (.t 10) (.c (.one (.v (.int .i32 34)))))⟩,
    ⟨none, .val 12 (.pick (.t 9) (.c (bv true)) (.t 11))⟩,
    ⟨none, .val 2 (.mv (.t 12))⟩] false [.forget [3, 4, 5, 6, 7, 8, 9, 10, 11, 12]]
abbrev doc_Value_1 : HCode := (.seq doc_Value_1_r0 (.seq doc_Value_1_r1 .ret))
abbrev doc_Value_1_E : Env := { N := 13, Γ := [], L := 13, nfix := 0 }
abbrev doc_Value_1_R : List RSrc := [.tmp 2]
theorem mk_doc_Value_1 {base : Nat} {av : List AV} {r : RV} (hfo : formOk doc_Value_1_E base av) (hW : AVs.fits av → hwp Tryd.prog doc_Value_1 (finQ doc_Value_1_E base av doc_Value_1_R r) (F0 doc_Value_1_E base av)) (hov : ∀ x, r.res = .ov x → nOwn av = 0 := by intro x h; cases h <;> rfl) : Contract Tryd.prog fn_doc_Value_1 av r :=
  contract_of_wp (fn := Tryd.f151) (c := Tryd.f151.body.getD .skip) (by kernel_rfl) (by kernel_rfl) (by kernel_rfl) (by kernel_rfl) (by kernel_rfl) (by kernel_rfl) (by kernel_rfl) hfo hW hov
end Go.Hx
end

section
/-
  The abstract code of functions of the program, printed by gen.py; each stands for the given one. No condition.
-/
namespace Go.Hx
open Go.Proofs
variable [Glob]
abbrev fn_strings_Cut : Nat := 105
end Go.Hx
end

section
/-
  The abstract code of functions of the program, printed by gen.py; each stands for the given one. No condition.
-/
namespace Go.Hx
open Go.Proofs
variable [Glob]
abbrev fn_internal_stringslite_Cut : Nat := 143
abbrev strings_Cut_r0 : HCode := .reg [⟨none, .val 4 (.mv (.c (sv [])))⟩,
    ⟨none, .val 5 (.mv (.c (sv [])))⟩,
    ⟨none, .val 6 (.mv (.c (bv false)))⟩] false []
abbrev strings_Cut_r1 : HCode := .reg [⟨none, .val 7 (.mv (.t 0))⟩,
    ⟨none, .val 8 (.mv (.t 1))⟩,
    ⟨none, .call (some 9) fn_internal_stringslite_Cut [(.t 7, .v), (.t 8, .v)]⟩,
    ⟨none, .val 10 (.ext 9 0)⟩,
    ⟨none, .val 11 (.ext 9 1)⟩,
    ⟨none, .val 12 (.ext 9 2)⟩,
    ⟨none, .val 4 (.mv (.t 10))⟩,
    ⟨none, .val 5 (.mv (.t 11))⟩,
    ⟨none, .val 6 (.mv (.t 12))⟩] false [.forget [7, 8, 9, 10, 11, 12]]
abbrev strings_Cut : HCode := (.seq strings_Cut_r0 (.seq strings_Cut_r1 .ret))
end Go.Hx
end

section
/-
  The abstract code of functions of the program, printed by gen.py; each stands for the given one. No condition.
-/
namespace Go.Hx
open Go.Proofs
variable [Glob]
abbrev fn_internal_stringslite_CutPrefix : Nat := 161
abbrev fn_mark_Show : Nat := 39
abbrev fn_mark_own : Nat := 96
abbrev fn_mark_pen_attr : Nat := 137
abbrev fn_mark_pen_has : Nat := 101
abbrev fn_mark_pen_must : Nat := 160
abbrev fn_mark_pen_name : Nat := 136
abbrev fn_mark_pen_node : Nat := 100
abbrev fn_strings_Builder_String : Nat := 97
abbrev fn_strings_Builder_WriteByte : Nat := 94
abbrev fn_strings_Builder_WriteString : Nat := 95
abbrev fn_strings_CutPrefix : Nat := 138
abbrev fn_strings_TrimLeft : Nat := 159
abbrev ty_mark_broken : Nat := 131
abbrev ty_strings_Builder : Nat := 117
abbrev ty_uint8 : Nat := 5
abbrev mark_own_r0 : HCode := .reg [⟨none, .val 1 (.boxF (.t 0))⟩,
    ⟨none, .val 2 (.mv (.c (sv [])))⟩] false []
abbrev mark_own_r1 : HCode := .reg [⟨none, .val 8 (.fldR (.t 1) 1 1)⟩,
    ⟨none, .val 9 (.ldR (.t 8) 1 false)⟩,
    ⟨none, .val 3 (.mv (.t 9))⟩] false [.forget [8, 9]]
abbrev mark_own_r2 : HCode := .reg [⟨none, .val 10 (.fldR (.t 1) 2 1)⟩,
    ⟨none, .val 11 (.ldR (.t 10) 1 false)⟩,
    ⟨none, .val 12 (.strs .neq (.t 11) (.c (sv [])))⟩] false [.forget [10, 11]]
abbrev mark_own_r3 : HCode := .reg [⟨none, .val 13 (.mv (.t 3))⟩,
    ⟨none, .val 14 (.fldR (.t 1) 2 1)⟩,
    ⟨none, .val 15 (.ldR (.t 14) 1 false)⟩,
    ⟨none, .val 16 (.strs .add (.c (sv [35])) (.t 15))⟩,
    ⟨none, .val 17 (.strs .add (.t 13) (.t 16))⟩,
    ⟨none, .val 3 (.mv (.t 17))⟩] false [.forget [13, 14, 15, 16, 17]]
abbrev mark_own_r4 : HCode := .reg [⟨none, .val 18 (.fldR (.t 1) 3 1)⟩,
    ⟨none, .val 19 (.ldR (.t 18) 1 false)⟩,
    ⟨none, .val 20 (.len false (.t 19))⟩,
    ⟨none, .val 21 (.mv (.c (iv 0)))⟩] false [.forget [18]]
abbrev mark_own_r5 : HCode := .reg [⟨none, .val 22 (.ints .lss (.t 21) (.t 20))⟩] false []
abbrev mark_own_r6 : HCode := .reg [⟨none, .val 23 (.idxA 1 (.t 19) (.t 21))⟩,
    ⟨none, .val 24 (.ldR (.t 23) 1 false)⟩,
    ⟨none, .val 5 (.mv (.t 24))⟩] false [.forget [23, 24]]
abbrev mark_own_r7 : HCode := .reg [⟨none, .val 25 (.mv (.t 3))⟩,
    ⟨none, .val 26 (.mv (.t 5))⟩,
    ⟨none, .val 27 (.strs .add (.c (sv [46])) (.t 26))⟩,
    ⟨none, .val 28 (.strs .add (.t 25) (.t 27))⟩,
    ⟨none, .val 3 (.mv (.t 28))⟩] false [.forget [25, 26, 27, 28]]
abbrev mark_own_r8 : HCode := .reg [⟨none, .val 29 (.ints .add (.t 21) (.c (iv 1)))⟩,
    ⟨none, .val 21 (.mv (.t 29))⟩] false [.forget [29]]
abbrev mark_own_r9 : HCode := .reg [⟨none, .val 30 (.fldR (.t 1) 4 1)⟩,
    ⟨none, .val 31 (.ldR (.t 30) 1 false)⟩,
    ⟨none, .val 32 (.len false (.t 31))⟩,
    ⟨none, .val 33 (.mv (.c (iv 0)))⟩] false [.forget [30]]
abbrev mark_own_r10 : HCode := .reg [⟨none, .val 34 (.ints .lss (.t 33) (.t 32))⟩] false []
abbrev mark_own_r11 : HCode := .reg [⟨none, .val 35 (.idxA 2 (.t 31) (.t 33))⟩,
    ⟨none, .val 36 (.ldR (.t 35) 2 true)⟩,
    ⟨none, .alloc 7 0 49 [.v (mkS []), .v (mkS [])]⟩,
    ⟨none, .sto (.t 7) 0 49 0 2 (.t 36)⟩] false [.forget [35, 36]]
abbrev mark_own_r12 : HCode := .reg [⟨none, .val 37 (.mv (.t 3))⟩,
    ⟨none, .val 38 (.fldP (.t 7) 0)⟩,
    ⟨none, .val 39 (.ldB (.t 38) 0 49 0 1 false)⟩,
    ⟨none, .val 40 (.strs .add (.c (sv [91])) (.t 39))⟩,
    ⟨none, .val 41 (.strs .add (.t 40) (.c (sv [61, 34])))⟩,
    ⟨none, .val 42 (.fldP (.t 7) 1)⟩,
    ⟨none, .val 43 (.ldB (.t 42) 0 49 1 1 false)⟩,
    ⟨none, .val 44 (.strs .add (.t 41) (.t 43))⟩,
    ⟨none, .val 45 (.strs .add (.t 44) (.c (sv [34, 93])))⟩,
    ⟨none, .val 46 (.strs .add (.t 37) (.t 45))⟩,
    ⟨none, .val 3 (.mv (.t 46))⟩] false [.forget [37, 38, 39, 40, 41, 42, 43, 44, 45, 46]]
abbrev mark_own_r13 : HCode := .reg [⟨none, .val 47 (.ints .add (.t 33) (.c (iv 1)))⟩,
    ⟨none, .val 33 (.mv (.t 47))⟩] false [.forget [47]]
abbrev mark_own_r14 : HCode := .reg [⟨none, .val 48 (.mv (.t 3))⟩,
    ⟨none, .val 2 (.mv (.t 48))⟩] false [.forget [48]]
abbrev mark_own : HCode := (.seq mark_own_r0 (.seq mark_own_r1 (.seq (.seq mark_own_r2 (.cond (.t 12) mark_own_r3 .skip)) (.seq (.seq mark_own_r4 (.block 0 (.loop (.seq mark_own_r5 (.seq (.cond (.t 22) .skip (.exit 0)) (.seq (.block 1 (.seq mark_own_r6 mark_own_r7)) mark_own_r8)))))) (.seq (.seq mark_own_r9 (.block 2 (.loop (.seq mark_own_r10 (.seq (.cond (.t 34) .skip (.exit 2)) (.seq (.block 3 (.seq mark_own_r11 mark_own_r12)) mark_own_r13)))))) (.seq mark_own_r14 .ret))))))
abbrev mark_own_E : Env := { N := 49, Γ := [(49, 2)], L := 51, nfix := 0 }
abbrev mark_own_R : List RSrc := [.tmp 2]
theorem mk_mark_own {base : Nat} {av : List AV} {r : RV} (hfo : formOk mark_own_E base av) (hW : AVs.fits av → hwp Tryd.prog mark_own (finQ mark_own_E base av mark_own_R r) (F0 mark_own_E base av)) (hov : ∀ x, r.res = .ov x → nOwn av = 0 := by intro x h; cases h <;> rfl) : Contract Tryd.prog fn_mark_own av r :=
  contract_of_wp (fn := Tryd.f96) (c := Tryd.f96.body.getD .skip) (by kernel_rfl) (by kernel_rfl) (by kernel_rfl) (by kernel_rfl) (by kernel_rfl) (by kernel_rfl) (by kernel_rfl) hfo hW hov
abbrev mark_pen_name_r0 : HCode := .reg [⟨none, .val 2 (.mv (.c (sv [])))⟩] false []
abbrev mark_pen_name_r1 : HCode := .drg [⟨0, false, ⟨none, .val 5 (.mv (.t 0))⟩⟩,
    ⟨1, false, ⟨none, .val 6 (.nilck (.t 5))⟩⟩,
    ⟨2, false, ⟨none, .val 7 (.fldP (.t 6) 0)⟩⟩,
    ⟨3, false, ⟨none, .val 8 (.ldB (.t 7) 0 38 0 1 false)⟩⟩,
    ⟨4, false, ⟨none, .val 9 (.len true (.t 8))⟩⟩,
    ⟨5, false, ⟨none, .val 10 (.mv (.t 0))⟩⟩,
    ⟨6, false, ⟨none, .val 11 (.nilck (.t 10))⟩⟩,
    ⟨7, false, ⟨none, .val 12 (.fldP (.t 11) 0)⟩⟩,
    ⟨8, false, ⟨none, .val 13 (.ldB (.t 12) 0 38 0 1 false)⟩⟩,
    ⟨9, true, ⟨none, .call (some 14) fn_strings_TrimLeft [(.t 13, .v), (.c (sv [97, 98, 99, 100, 101, 102, 103, 104, 105, 106, 107, 108, 109, 110, 111, 112, 113, 114, 115, 116, 117, 118, 119, 120, 121, 122, 48, 49, 50, 51, 52, 53, 54, 55, 56, 57, 45]), .v)]⟩⟩,
    ⟨10, false, ⟨none, .val 15 (.len true (.t 14))⟩⟩,
    ⟨11, false, ⟨none, .val 16 (.ints .sub (.t 9) (.t 15))⟩⟩,
    ⟨12, false, ⟨none, .val 3 (.mv (.t 16))⟩⟩] [.forget [5, 6, 7, 8, 9, 10, 11, 12, 13, 14, 15, 16]]
abbrev mark_pen_name_r2 : HCode := .reg [⟨none, .val 17 (.mv (.t 0))⟩,
    ⟨none, .val 18 (.nilck (.t 17))⟩,
    ⟨none, .val 19 (.fldP (.t 18) 0)⟩,
    ⟨none, .val 20 (.ldB (.t 19) 0 38 0 1 false)⟩,
    ⟨none, .val 21 (.mv (.t 3))⟩,
    ⟨none, .val 22 (.sls (.t 20) none (some (.t 21)))⟩,
    ⟨none, .val 4 (.mv (.t 22))⟩] false [.forget [17, 18, 19, 20, 21, 22]]
abbrev mark_pen_name_r3 : HCode := .reg [⟨none, .val 23 (.mv (.t 0))⟩,
    ⟨none, .val 24 (.mv (.t 0))⟩,
    ⟨none, .val 25 (.nilck (.t 24))⟩,
    ⟨none, .val 26 (.fldP (.t 25) 0)⟩,
    ⟨none, .val 27 (.ldB (.t 26) 0 38 0 1 false)⟩,
    ⟨none, .val 28 (.mv (.t 3))⟩,
    ⟨none, .val 29 (.sls (.t 27) (some (.t 28)) none)⟩,
    ⟨none, .val 30 (.nilck (.t 23))⟩,
    ⟨none, .val 31 (.fldP (.t 30) 0)⟩,
    ⟨none, .sto (.t 31) 0 38 0 1 (.t 29)⟩] false [.forget [23, 24, 25, 26, 27, 28, 29, 30, 31]]
abbrev mark_pen_name_r4 : HCode := .reg [⟨none, .val 32 (.mv (.t 4))⟩,
    ⟨none, .call (some 33) fn_doc_Name [(.t 32, .v)]⟩,
    ⟨none, .val 34 (.not (.t 33))⟩] false [.forget [32, 33]]
abbrev mark_pen_name_r5 : HCode := .reg [⟨none, .val 35 (.bld [] [])⟩,
    ⟨none, .val 36 (.mki ty_mark_broken (.t 35))⟩,
    ⟨none, .pan (.t 36)⟩] false [.forget [35, 36]]
abbrev mark_pen_name_r6 : HCode := .reg [⟨none, .val 37 (.mv (.t 4))⟩,
    ⟨none, .val 2 (.mv (.t 37))⟩] false [.forget [37]]
abbrev mark_pen_name : HCode := (.seq mark_pen_name_r0 (.seq mark_pen_name_r1 (.seq mark_pen_name_r2 (.seq mark_pen_name_r3 (.seq (.seq mark_pen_name_r4 (.cond (.t 34) mark_pen_name_r5 .skip)) (.seq mark_pen_name_r6 .ret))))))
abbrev mark_pen_name_E : Env := { N := 38, Γ := [(38, 1)], L := 39, nfix := 1 }
abbrev mark_pen_name_R : List RSrc := [.tmp 2]
theorem mk_mark_pen_name {base : Nat} {av : List AV} {r : RV} (hfo : formOk mark_pen_name_E base av) (hW : AVs.fits av → hwp Tryd.prog mark_pen_name (finQ mark_pen_name_E base av mark_pen_name_R r) (F0 mark_pen_name_E base av)) (hov : ∀ x, r.res = .ov x → nOwn av = 0 := by intro x h; cases h <;> rfl) : Contract Tryd.prog fn_mark_pen_name av r :=
  contract_of_wp (fn := Tryd.f136) (c := Tryd.f136.body.getD .skip) (by kernel_rfl) (by kernel_rfl) (by kernel_rfl) (by kernel_rfl) (by kernel_rfl) (by kernel_rfl) (by kernel_rfl) hfo hW hov
abbrev mark_pen_has_r0 : HCode := .reg [⟨none, .val 4 (.mv (.c (bv false)))⟩] false []
abbrev mark_pen_has_r1 : HCode := .reg [⟨none, .val 8 (.mv (.t 0))⟩,
    ⟨none, .val 9 (.nilck (.t 8))⟩,
    ⟨none, .val 10 (.fldP (.t 9) 0)⟩,
    ⟨none, .val 11 (.ldB (.t 10) 0 21 0 1 false)⟩,
    ⟨none, .val 12 (.mv (.t 1))⟩,
    ⟨none, .call (some 13) fn_strings_CutPrefix [(.t 11, .v), (.t 12, .v)]⟩,
    ⟨none, .val 7 (.mv (.t 13))⟩,
    ⟨none, .val 14 (.ext 7 0)⟩,
    ⟨none, .val 15 (.ext 7 1)⟩,
    ⟨none, .val 5 (.mv (.t 14))⟩,
    ⟨none, .val 6 (.mv (.t 15))⟩] false [.forget [7, 8, 9, 10, 11, 12, 13, 14, 15]]
abbrev mark_pen_has_r2 : HCode := .reg [⟨none, .val 16 (.mv (.t 0))⟩,
    ⟨none, .val 17 (.mv (.t 5))⟩,
    ⟨none, .val 18 (.nilck (.t 16))⟩,
    ⟨none, .val 19 (.fldP (.t 18) 0)⟩,
    ⟨none, .sto (.t 19) 0 21 0 1 (.t 17)⟩] false [.forget [16, 17, 18, 19]]
abbrev mark_pen_has_r3 : HCode := .reg [⟨none, .val 20 (.mv (.t 6))⟩,
    ⟨none, .val 4 (.mv (.t 20))⟩] false [.forget [20]]
abbrev mark_pen_has : HCode := (.seq mark_pen_has_r0 (.seq mark_pen_has_r1 (.seq mark_pen_has_r2 (.seq mark_pen_has_r3 .ret))))
abbrev mark_pen_has_E : Env := { N := 21, Γ := [(21, 1)], L := 22, nfix := 1 }
abbrev mark_pen_has_R : List RSrc := [.tmp 4]
theorem mk_mark_pen_has {base : Nat} {av : List AV} {r : RV} (hfo : formOk mark_pen_has_E base av) (hW : AVs.fits av → hwp Tryd.prog mark_pen_has (finQ mark_pen_has_E base av mark_pen_has_R r) (F0 mark_pen_has_E base av)) (hov : ∀ x, r.res = .ov x → nOwn av = 0 := by intro x h; cases h <;> rfl) : Contract Tryd.prog fn_mark_pen_has av r :=
  contract_of_wp (fn := Tryd.f101) (c := Tryd.f101.body.getD .skip) (by kernel_rfl) (by kernel_rfl) (by kernel_rfl) (by kernel_rfl) (by kernel_rfl) (by kernel_rfl) (by kernel_rfl) hfo hW hov
abbrev mark_pen_must_r0 : HCode := .reg [⟨none, .val 4 (.mv (.t 0))⟩,
    ⟨none, .val 5 (.mv (.t 1))⟩,
    ⟨none, .call (some 6) fn_mark_pen_has [(.t 4, .i 0 10 1), (.t 5, .v)]⟩,
    ⟨none, .val 7 (.not (.t 6))⟩] false [.forget [4, 5, 6]]
abbrev mark_pen_must_r1 : HCode := .reg [⟨none, .val 8 (.bld [] [])⟩,
    ⟨none, .val 9 (.mki ty_mark_broken (.t 8))⟩,
    ⟨none, .pan (.t 9)⟩] false [.forget [8, 9]]
abbrev mark_pen_must : HCode := (.seq mark_pen_must_r0 (.cond (.t 7) mark_pen_must_r1 .skip))
abbrev mark_pen_must_E : Env := { N := 10, Γ := [(10, 1)], L := 11, nfix := 1 }
abbrev mark_pen_must_R : List RSrc := []
theorem mk_mark_pen_must {base : Nat} {av : List AV} {r : RV} (hfo : formOk mark_pen_must_E base av) (hW : AVs.fits av → hwp Tryd.prog mark_pen_must (finQ mark_pen_must_E base av mark_pen_must_R r) (F0 mark_pen_must_E base av)) (hov : ∀ x, r.res = .ov x → nOwn av = 0 := by intro x h; cases h <;> rfl) : Contract Tryd.prog fn_mark_pen_must av r :=
  contract_of_wp (fn := Tryd.f160) (c := Tryd.f160.body.getD .skip) (by kernel_rfl) (by kernel_rfl) (by kernel_rfl) (by kernel_rfl) (by kernel_rfl) (by kernel_rfl) (by kernel_rfl) hfo hW hov
abbrev mark_pen_attr_r0 : HCode := .reg [⟨none, .alloc 2 1 38 [.v (mkS []), .v (mkS [])]⟩] false []
abbrev mark_pen_attr_r1 : HCode := .reg [⟨none, .val 7 (.mv (.t 0))⟩,
    ⟨none, .call (some 8) fn_mark_pen_name [(.t 7, .i 0 37 1)]⟩,
    ⟨none, .val 9 (.bld [.v (mkS []), .v (mkS [])] [(0, 1, .t 8)])⟩,
    ⟨none, .alloc 3 2 40 [.v (mkS []), .v (mkS [])]⟩,
    ⟨none, .sto (.t 3) 2 40 0 2 (.t 9)⟩] false [.forget [7, 8, 9]]
abbrev mark_pen_attr_r2 : HCode := .reg [⟨none, .val 10 (.mv (.t 0))⟩,
    ⟨none, .call (some 11) fn_mark_pen_must [(.t 10, .i 0 37 1), (.c (sv [61, 34]), .v)]⟩] false [.forget [10, 11]]
abbrev mark_pen_attr_r3 : HCode := .reg [⟨none, .val 13 (.mv (.t 0))⟩,
    ⟨none, .val 14 (.nilck (.t 13))⟩,
    ⟨none, .val 15 (.fldP (.t 14) 0)⟩,
    ⟨none, .val 16 (.ldB (.t 15) 0 37 0 1 false)⟩,
    ⟨none, .call (some 17) fn_strings_Cut [(.t 16, .v), (.c (sv [34, 93]), .v)]⟩,
    ⟨none, .val 12 (.mv (.t 17))⟩,
    ⟨none, .val 18 (.ext 12 0)⟩,
    ⟨none, .val 19 (.ext 12 1)⟩,
    ⟨none, .val 20 (.ext 12 2)⟩,
    ⟨none, .val 4 (.mv (.t 18))⟩,
    ⟨none, .val 5 (.mv (.t 19))⟩,
    ⟨none, .val 6 (.mv (.t 20))⟩] false [.forget [12, 13, 14, 15, 16, 17, 18, 19, 20]]
abbrev mark_pen_attr_r4 : HCode := .reg [⟨none, .val 21 (.mv (.t 6))⟩,
    ⟨none, .val 22 (.not (.t 21))⟩,
    ⟨none, .val 23 (.mv (.t 22))⟩,
    ⟨some (23, false), .val 24 (.mv (.t 4))⟩,
    ⟨some (23, false), .call (some 25) fn_doc_Value [(.t 24, .v)]⟩,
    ⟨some (23, false), .val 26 (.not (.t 25))⟩,
    ⟨none, .val 27 (.pick (.t 23) (.c (bv true)) (.t 26))⟩] false [.forget [21, 22, 23, 24, 25, 26]]
abbrev mark_pen_attr_r5 : HCode := .reg [⟨none, .val 28 (.bld [] [])⟩,
    ⟨none, .val 29 (.mki ty_mark_broken (.t 28))⟩,
    ⟨none, .pan (.t 29)⟩] false [.forget [28, 29]]
abbrev mark_pen_attr_r6 : HCode := .reg [⟨none, .val 30 (.mv (.t 0))⟩,
    ⟨none, .val 31 (.mv (.t 4))⟩,
    ⟨none, .val 32 (.mv (.t 5))⟩,
    ⟨none, .val 33 (.fldP (.t 3) 1)⟩,
    ⟨none, .sto (.t 33) 2 40 1 1 (.t 31)⟩,
    ⟨none, .val 34 (.nilck (.t 30))⟩,
    ⟨none, .val 35 (.fldP (.t 34) 0)⟩,
    ⟨none, .sto (.t 35) 0 37 0 1 (.t 32)⟩] false [.forget [30, 31, 32, 33, 34, 35]]
abbrev mark_pen_attr_r7 : HCode := .reg [⟨none, .val 36 (.ldB (.t 3) 2 40 0 2 true)⟩,
    ⟨none, .sto (.t 2) 1 38 0 2 (.t 36)⟩] false [.forget [36]]
abbrev mark_pen_attr : HCode := (.seq mark_pen_attr_r0 (.seq mark_pen_attr_r1 (.seq mark_pen_attr_r2 (.seq mark_pen_attr_r3 (.seq (.seq mark_pen_attr_r4 (.cond (.t 27) mark_pen_attr_r5 .skip)) (.seq mark_pen_attr_r6 (.seq mark_pen_attr_r7 .ret)))))))
abbrev mark_pen_attr_E : Env := { N := 37, Γ := [(37, 1), (38, 2), (40, 2)], L := 42, nfix := 1 }
abbrev mark_pen_attr_R : List RSrc := [.cellB 2 1 38 0 2 true]
theorem mk_mark_pen_attr {base : Nat} {av : List AV} {r : RV} (hfo : formOk mark_pen_attr_E base av) (hW : AVs.fits av → hwp Tryd.prog mark_pen_attr (finQ mark_pen_attr_E base av mark_pen_attr_R r) (F0 mark_pen_attr_E base av)) (hov : ∀ x, r.res = .ov x → nOwn av = 0 := by intro x h; cases h <;> rfl) : Contract Tryd.prog fn_mark_pen_attr av r :=
  contract_of_wp (fn := Tryd.f137) (c := Tryd.f137.body.getD .skip) (by kernel_rfl) (by kernel_rfl) (by kernel_rfl) (by kernel_rfl) (by kernel_rfl) (by kernel_rfl) (by kernel_rfl) hfo hW hov
abbrev mark_pen_node_r0 : HCode := .reg [⟨none, .alloc 4 1 35 [.v (.int .i64 0), .v (mkS []), .v (mkS []), .nl 1, .nl 2]⟩] false []
abbrev mark_pen_node_r1 : HCode := .reg [⟨none, .val 6 (.mv (.t 1))⟩,
    ⟨none, .val 7 (.mv (.t 0))⟩,
    ⟨none, .call (some 8) fn_mark_pen_name [(.t 7, .i 0 34 1)]⟩,
    ⟨none, .val 9 (.bld [.v (.int .i64 0), .v (mkS []), .v (mkS []), .nl 1, .nl 2] [(0, 1, .t 6), (1, 1, .t 8)])⟩,
    ⟨none, .alloc 5 2 40 [.v (.int .i64 0), .v (mkS []), .v (mkS []), .nl 1, .nl 2]⟩,
    ⟨none, .sto (.t 5) 2 40 0 5 (.t 9)⟩] false [.forget [6, 7, 8, 9]]
abbrev mark_pen_node_r2 : HCode := .reg [⟨none, .val 10 (.mv (.t 0))⟩,
    ⟨none, .call (some 11) fn_mark_pen_has [(.t 10, .i 0 34 1), (.c (sv [35]), .v)]⟩] false [.forget [10]]
abbrev mark_pen_node_r3 : HCode := .reg [⟨none, .val 12 (.mv (.t 0))⟩,
    ⟨none, .call (some 13) fn_mark_pen_name [(.t 12, .i 0 34 1)]⟩,
    ⟨none, .val 14 (.fldP (.t 5) 2)⟩,
    ⟨none, .sto (.t 14) 2 40 2 1 (.t 13)⟩] false [.forget [12, 13, 14]]
abbrev mark_pen_node_r4 : HCode := .reg [⟨none, .val 15 (.mv (.t 0))⟩,
    ⟨none, .call (some 16) fn_mark_pen_has [(.t 15, .i 0 34 1), (.c (sv [46]), .v)]⟩] false [.forget [15]]
abbrev mark_pen_node_r5 : HCode := .drg [⟨0, false, ⟨none, .val 17 (.fldP (.t 5) 3)⟩⟩,
    ⟨1, false, ⟨none, .ldo 18 (.t 17) 2 40 3 ty_string 1⟩⟩,
    ⟨2, false, ⟨none, .val 19 (.mv (.t 0))⟩⟩,
    ⟨3, true, ⟨none, .call (some 20) fn_mark_pen_name [(.t 19, .i 0 34 1)]⟩⟩,
    ⟨4, false, ⟨none, .val 21 (.bslF 1 [.t 20])⟩⟩,
    ⟨5, false, ⟨none, .app 22 ty_string 1 (.t 18) (.t 21)⟩⟩,
    ⟨6, false, ⟨none, .val 23 (.fldP (.t 5) 3)⟩⟩,
    ⟨7, false, ⟨none, .stw (.t 23) 2 40 3 22⟩⟩] [.forget [17, 18, 19, 20, 21, 22, 23]]
abbrev mark_pen_node_r6 : HCode := .reg [⟨none, .val 24 (.mv (.t 0))⟩,
    ⟨none, .call (some 25) fn_mark_pen_has [(.t 24, .i 0 34 1), (.c (sv [91]), .v)]⟩] false [.forget [24]]
abbrev mark_pen_node_r7 : HCode := .drg [⟨0, false, ⟨none, .val 26 (.fldP (.t 5) 4)⟩⟩,
    ⟨1, false, ⟨none, .ldo 27 (.t 26) 2 40 4 ty_api_Attr 2⟩⟩,
    ⟨2, false, ⟨none, .val 28 (.mv (.t 0))⟩⟩,
    ⟨3, true, ⟨none, .call (some 29) fn_mark_pen_attr [(.t 28, .i 0 34 1)]⟩⟩,
    ⟨4, false, ⟨none, .val 30 (.bslF 2 [.t 29])⟩⟩,
    ⟨5, false, ⟨none, .app 31 ty_api_Attr 2 (.t 27) (.t 30)⟩⟩,
    ⟨6, false, ⟨none, .val 32 (.fldP (.t 5) 4)⟩⟩,
    ⟨7, false, ⟨none, .stw (.t 32) 2 40 4 31⟩⟩] [.forget [26, 27, 28, 29, 30, 31, 32]]
abbrev mark_pen_node_r8 : HCode := .reg [⟨none, .val 33 (.ldB (.t 5) 2 40 0 5 true)⟩,
    ⟨none, .sto (.t 4) 1 35 0 5 (.t 33)⟩] false [.forget [33]]
abbrev mark_pen_node : HCode := (.seq mark_pen_node_r0 (.seq mark_pen_node_r1 (.seq (.seq mark_pen_node_r2 (.cond (.t 11) mark_pen_node_r3 .skip)) (.seq (.block 0 (.loop (.seq (.seq mark_pen_node_r4 (.cond (.t 16) .skip (.exit 0))) (.block 1 mark_pen_node_r5)))) (.seq (.block 2 (.loop (.seq (.seq mark_pen_node_r6 (.cond (.t 25) .skip (.exit 2))) (.block 3 mark_pen_node_r7)))) (.seq mark_pen_node_r8 .ret))))))
abbrev mark_pen_node_E : Env := { N := 34, Γ := [(34, 1), (35, 5), (40, 5)], L := 45, nfix := 1 }
abbrev mark_pen_node_R : List RSrc := [.cellB 4 1 35 0 5 true]
theorem mk_mark_pen_node {base : Nat} {av : List AV} {r : RV} (hfo : formOk mark_pen_node_E base av) (hW : AVs.fits av → hwp Tryd.prog mark_pen_node (finQ mark_pen_node_E base av mark_pen_node_R r) (F0 mark_pen_node_E base av)) (hov : ∀ x, r.res = .ov x → nOwn av = 0 := by intro x h; cases h <;> rfl) : Contract Tryd.prog fn_mark_pen_node av r :=
  contract_of_wp (fn := Tryd.f100) (c := Tryd.f100.body.getD .skip) (by kernel_rfl) (by kernel_rfl) (by kernel_rfl) (by kernel_rfl) (by kernel_rfl) (by kernel_rfl) (by kernel_rfl) hfo hW hov
abbrev strings_CutPrefix_r0 : HCode := .reg [⟨none, .val 4 (.mv (.c (sv [])))⟩,
    ⟨none, .val 5 (.mv (.c (bv false)))⟩] false []
abbrev strings_CutPrefix_r1 : HCode := .reg [⟨none, .val 6 (.mv (.t 0))⟩,
    ⟨none, .val 7 (.mv (.t 1))⟩,
    ⟨none, .call (some 8) fn_internal_stringslite_CutPrefix [(.t 6, .v), (.t 7, .v)]⟩,
    ⟨none, .val 9 (.ext 8 0)⟩,
    ⟨none, .val 10 (.ext 8 1)⟩,
    ⟨none, .val 4 (.mv (.t 9))⟩,
    ⟨none, .val 5 (.mv (.t 10))⟩] false [.forget [6, 7, 8, 9, 10]]
abbrev strings_CutPrefix : HCode := (.seq strings_CutPrefix_r0 (.seq strings_CutPrefix_r1 .ret))
abbrev mark_Show_r0 : HCode := .reg [⟨none, .val 1 (.boxF (.t 0))⟩,
    ⟨none, .val 2 (.mv (.c (sv [])))⟩,
    ⟨none, .val 3 (.mv (.c (iv 0)))⟩] false []
abbrev mark_Show_r1 : HCode := .reg [⟨none, .val 9 (.ldR (.t 1) 1 true)⟩,
    ⟨none, .call (some 10) fn_doc_Check [(.t 9, .v)]⟩,
    ⟨none, .val 4 (.mv (.t 10))⟩] false [.forget [9, 10]]
abbrev mark_Show_r2 : HCode := .reg [⟨none, .val 11 (.mv (.t 4))⟩,
    ⟨none, .val 12 (.ints .neq (.t 11) (.c (iv 0)))⟩] false [.forget [11]]
abbrev mark_Show_r3 : HCode := .reg [⟨none, .val 13 (.mv (.t 4))⟩,
    ⟨none, .val 2 (.mv (.c (sv [])))⟩,
    ⟨none, .val 3 (.mv (.t 13))⟩] false [.forget [13]]
abbrev mark_Show_r4 : HCode := .reg [⟨none, .bmk 5 ty_strings_Builder ty_uint8⟩] false []
abbrev mark_Show_r5 : HCode := .reg [⟨none, .nlk 6 ty_int 1⟩] false []
abbrev mark_Show_r6 : HCode := .reg [⟨none, .val 14 (.fldR (.t 1) 0 1)⟩,
    ⟨none, .val 15 (.ldR (.t 14) 1 false)⟩,
    ⟨none, .val 16 (.len false (.t 15))⟩,
    ⟨none, .val 17 (.mv (.c (iv 0)))⟩] false [.forget [14]]
abbrev mark_Show_r7 : HCode := .reg [⟨none, .val 18 (.ints .lss (.t 17) (.t 16))⟩] false []
abbrev mark_Show_r8 : HCode := .reg [⟨none, .val 19 (.mv (.t 17))⟩,
    ⟨none, .val 20 (.idxA 5 (.t 15) (.t 17))⟩,
    ⟨none, .val 21 (.ldR (.t 20) 5 true)⟩,
    ⟨none, .alloc 8 0 87 [.v (.int .i64 0), .v (mkS []), .v (mkS []), .nl 1, .nl 2]⟩,
    ⟨none, .val 7 (.mv (.t 19))⟩,
    ⟨none, .sto (.t 8) 0 87 0 5 (.t 21)⟩] false [.frz 0 87 5, .forget [19, 20, 21]]
abbrev mark_Show_r9 : HCode := .rdr 6 [⟨none, .val 22 (.mv (.t 6))⟩,
    ⟨none, .val 23 (.len false (.t 22))⟩,
    ⟨none, .val 24 (.ints .gtr (.t 23) (.c (iv 0)))⟩,
    ⟨none, .val 25 (.mv (.t 24))⟩,
    ⟨some (25, true), .val 26 (.mv (.t 6))⟩,
    ⟨some (25, true), .val 27 (.mv (.t 6))⟩,
    ⟨some (25, true), .val 28 (.len false (.t 27))⟩,
    ⟨some (25, true), .val 29 (.ints .sub (.t 28) (.c (iv 1)))⟩,
    ⟨some (25, true), .val 30 (.idxA 1 (.t 26) (.t 29))⟩,
    ⟨some (25, true), .val 31 (.ldR (.t 30) 1 false)⟩,
    ⟨some (25, true), .val 32 (.fldR (.t 8) 0 1)⟩,
    ⟨some (25, true), .val 33 (.ldR (.t 32) 1 false)⟩,
    ⟨some (25, true), .val 34 (.ints .neq (.t 31) (.t 33))⟩,
    ⟨none, .val 35 (.pick (.t 25) (.t 34) (.c (bv false)))⟩] true [.forget [22, 23, 24, 25, 26, 27, 28, 29, 30, 31, 32, 33, 34]]
abbrev mark_Show_r10 : HCode := .reg [⟨none, .callm (some 36) fn_strings_Builder_WriteByte 5 [(.c (.one (.v (.int .u8 41))), .v)]⟩] false [.forget [36]]
abbrev mark_Show_r11 : HCode := .reg [⟨none, .mvk 37 6⟩,
    ⟨none, .val 38 (.mv (.t 6))⟩,
    ⟨none, .val 39 (.len false (.t 38))⟩,
    ⟨none, .val 40 (.ints .sub (.t 39) (.c (iv 1)))⟩,
    ⟨none, .trk 41 37 (.t 40)⟩,
    ⟨none, .mvk 6 41⟩] false [.forget [37, 38, 39, 40, 41]]
abbrev mark_Show_r12 : HCode := .reg [⟨none, .val 42 (.mv (.t 7))⟩,
    ⟨none, .val 43 (.ints .gtr (.t 42) (.c (iv 0)))⟩,
    ⟨none, .val 44 (.mv (.t 43))⟩,
    ⟨some (44, true), .val 45 (.fldR (.t 8) 0 1)⟩,
    ⟨some (44, true), .val 46 (.ldR (.t 45) 1 false)⟩,
    ⟨some (44, true), .val 47 (.mv (.t 7))⟩,
    ⟨some (44, true), .val 48 (.ints .sub (.t 47) (.c (iv 1)))⟩,
    ⟨some (44, true), .val 49 (.ints .eql (.t 46) (.t 48))⟩,
    ⟨none, .val 50 (.pick (.t 44) (.t 49) (.c (bv false)))⟩] false [.forget [42, 43, 44, 45, 46, 47, 48, 49]]
abbrev mark_Show_r13 : HCode := .reg [⟨none, .callm (some 51) fn_strings_Builder_WriteByte 5 [(.c (.one (.v (.int .u8 40))), .v)]⟩] false [.forget [51]]
abbrev mark_Show_r14 : HCode := .reg [⟨none, .val 52 (.mv (.t 7))⟩,
    ⟨none, .val 53 (.ints .gtr (.t 52) (.c (iv 0)))⟩] false [.forget [52]]
abbrev mark_Show_r15 : HCode := .reg [⟨none, .callm (some 54) fn_strings_Builder_WriteByte 5 [(.c (.one (.v (.int .u8 32))), .v)]⟩] false [.forget [54]]
abbrev mark_Show_r16 : HCode := .reg [⟨none, .val 55 (.ldR (.t 8) 5 true)⟩,
    ⟨none, .call (some 56) fn_mark_own [(.t 55, .v)]⟩,
    ⟨none, .callm (some 57) fn_strings_Builder_WriteString 5 [(.t 56, .v)]⟩] false [.forget [55, 56, 57]]
abbrev mark_Show_r17 : HCode := .reg [⟨none, .val 58 (.mv (.t 7))⟩,
    ⟨none, .val 59 (.ints .add (.t 58) (.c (iv 1)))⟩,
    ⟨none, .val 60 (.fldR (.t 1) 0 1)⟩,
    ⟨none, .val 61 (.ldR (.t 60) 1 false)⟩,
    ⟨none, .val 62 (.len false (.t 61))⟩,
    ⟨none, .val 63 (.ints .lss (.t 59) (.t 62))⟩,
    ⟨none, .val 64 (.mv (.t 63))⟩,
    ⟨some (64, true), .val 65 (.fldR (.t 1) 0 1)⟩,
    ⟨some (64, true), .val 66 (.ldR (.t 65) 1 false)⟩,
    ⟨some (64, true), .val 67 (.mv (.t 7))⟩,
    ⟨some (64, true), .val 68 (.ints .add (.t 67) (.c (iv 1)))⟩,
    ⟨some (64, true), .val 69 (.idxA 5 (.t 66) (.t 68))⟩,
    ⟨some (64, true), .val 70 (.fldR (.t 69) 0 1)⟩,
    ⟨some (64, true), .val 71 (.ldR (.t 70) 1 false)⟩,
    ⟨some (64, true), .val 72 (.mv (.t 7))⟩,
    ⟨some (64, true), .val 73 (.ints .eql (.t 71) (.t 72))⟩,
    ⟨none, .val 74 (.pick (.t 64) (.t 73) (.c (bv false)))⟩] false [.forget [58, 59, 60, 61, 62, 63, 64, 65, 66, 67, 68, 69, 70, 71, 72, 73]]
abbrev mark_Show_r18 : HCode := .reg [⟨none, .mvk 75 6⟩,
    ⟨none, .val 76 (.mv (.t 7))⟩,
    ⟨none, .val 77 (.bslF 1 [.t 76])⟩,
    ⟨none, .apk 78 ty_int 1 75 (.t 77)⟩,
    ⟨none, .mvk 6 78⟩] false [.forget [75, 76, 77, 78]]
abbrev mark_Show_r19 : HCode := .reg [⟨none, .val 79 (.ints .add (.t 17) (.c (iv 1)))⟩,
    ⟨none, .val 17 (.mv (.t 79))⟩] false [.forget [79]]
abbrev mark_Show_r20 : HCode := .reg [⟨none, .val 80 (.mv (.t 6))⟩,
    ⟨none, .val 81 (.len false (.t 80))⟩,
    ⟨none, .val 82 (.mv (.c (iv 0)))⟩] false [.forget [80]]
abbrev mark_Show_r21 : HCode := .reg [⟨none, .val 83 (.ints .lss (.t 82) (.t 81))⟩] false []
abbrev mark_Show_r22 : HCode := .reg [⟨none, .callm (some 84) fn_strings_Builder_WriteByte 5 [(.c (.one (.v (.int .u8 41))), .v)]⟩] false [.forget [84]]
abbrev mark_Show_r23 : HCode := .reg [⟨none, .val 85 (.ints .add (.t 82) (.c (iv 1)))⟩,
    ⟨none, .val 82 (.mv (.t 85))⟩] false [.forget [85]]
abbrev mark_Show_r24 : HCode := .reg [⟨none, .callm (some 86) fn_strings_Builder_String 5 []⟩,
    ⟨none, .val 2 (.mv (.t 86))⟩,
    ⟨none, .val 3 (.mv (.c (iv 0)))⟩] false [.forget [86]]
abbrev mark_Show : HCode := (.seq mark_Show_r0 (.seq (.seq mark_Show_r1 (.seq mark_Show_r2 (.cond (.t 12) (.seq mark_Show_r3 .ret) .skip))) (.seq mark_Show_r4 (.seq mark_Show_r5 (.seq (.seq mark_Show_r6 (.block 0 (.loop (.seq mark_Show_r7 (.seq (.cond (.t 18) .skip (.exit 0)) (.seq (.block 1 (.seq mark_Show_r8 (.seq (.block 2 (.loop (.seq (.seq mark_Show_r9 (.cond (.t 35) .skip (.exit 2))) (.block 3 (.seq mark_Show_r10 mark_Show_r11))))) (.seq (.seq mark_Show_r12 (.cond (.t 50) mark_Show_r13 (.seq mark_Show_r14 (.cond (.t 53) mark_Show_r15 .skip)))) (.seq mark_Show_r16 (.seq mark_Show_r17 (.cond (.t 74) mark_Show_r18 .skip))))))) mark_Show_r19)))))) (.seq (.seq mark_Show_r20 (.block 4 (.loop (.seq mark_Show_r21 (.seq (.cond (.t 83) .skip (.exit 4)) (.seq (.block 5 mark_Show_r22) mark_Show_r23)))))) (.seq mark_Show_r24 .ret)))))))
abbrev mark_Show_E : Env := { N := 87, Γ := [(87, 5)], L := 92, nfix := 0 }
abbrev mark_Show_R : List RSrc := [.tmp 2, .tmp 3]
theorem mk_mark_Show {base : Nat} {av : List AV} {r : RV} (hfo : formOk mark_Show_E base av) (hW : AVs.fits av → hwp Tryd.prog mark_Show (finQ mark_Show_E base av mark_Show_R r) (F0 mark_Show_E base av)) (hov : ∀ x, r.res = .ov x → nOwn av = 0 := by intro x h; cases h <;> rfl) : Contract Tryd.prog fn_mark_Show av r :=
  contract_of_wp (fn := Tryd.f39) (c := Tryd.f39.body.getD .skip) (by kernel_rfl) (by kernel_rfl) (by kernel_rfl) (by kernel_rfl) (by kernel_rfl) (by kernel_rfl) (by kernel_rfl) hfo hW hov
end Go.Hx
end

section
-- DOM getO
set_option maxRecDepth 100000
set_option linter.unusedSimpArgs false
namespace Go.Hx
open Go.Proofs
variable [Glob]

attribute [local go_sem] ndsV_len clsV_len attV_len intsR_len ndV cellsEq getO
/-! ### The document's reader: signs -/

def signOk (s t : Bys) : Bool := decide (t.length ≤ s.length) && (s.take t.length == t)
def signR (s t : Bys) : Bys := if signOk s t then s.drop t.length else s
end Go.Hx
end

section
-- DOM getO
set_option maxRecDepth 100000
set_option linter.unusedSimpArgs false
namespace Go.Hx
open Go.Proofs
variable [Glob]

attribute [local go_sem] ndsV_len clsV_len attV_len intsR_len ndV cellsEq getO
/-! ### An element's text -/

def clsT (l : List Bys) : Bys := (l.map fun c => 46 :: c).flatten
def attT1 (a : Bys × Bys) : Bys := 91 :: a.1 ++ [61, 34] ++ a.2 ++ [34, 93]
def attT (l : List (Bys × Bys)) : Bys := (l.map attT1).flatten
def idT (i : Bys) : Bys := if i == [] then [] else 35 :: i
def nodeT0 (x : Nd) : Bys := x.tag ++ idT x.id ++ clsT x.cls ++ attT x.att
theorem clsT_succ {l : List Bys} {i : Nat} (h : i < l.length) : clsT (l.take (i + 1)) = clsT (l.take i) ++ 46 :: l.getD i [] := by
  unfold clsT
  rw [List.take_succ_eq_append_getElem h, List.map_append, List.flatten_append, List.getD_eq_getElem?_getD, List.getElem?_eq_getElem h]
  simp only [List.map_cons, List.map_nil, List.flatten_cons, List.flatten_nil, List.append_nil, Option.getD_some]
theorem attT_succ {l : List (Bys × Bys)} {i : Nat} (h : i < l.length) : attT (l.take (i + 1)) = attT (l.take i) ++ attT1 (l.getD i default) := by
  unfold attT
  rw [List.take_succ_eq_append_getElem h, List.map_append, List.flatten_append, List.getD_eq_getElem?_getD, List.getElem?_eq_getElem h]
  simp only [List.map_cons, List.map_nil, List.flatten_cons, List.flatten_nil, List.append_nil, Option.getD_some]
theorem cat_le {α : Type} (f : α → Bys) (l : List α) (m : Nat) (h : ∀ x ∈ l, (f x).length ≤ m) : ((l.map f).flatten).length ≤ l.length * m := by
  induction l with
  | nil => simp
  | cons x l ih =>
    have h1 := h x List.mem_cons_self
    have h2 := ih fun y hy => h y (List.mem_cons_of_mem _ hy)
    simp only [List.map_cons, List.flatten_cons, List.length_append, List.length_cons, Nat.succ_mul]
    omega
/-- Nothing in it is long. -/
structure ShortNd (x : Nd) : Prop where
  tag : x.tag.length ≤ 12
  id : x.id.length ≤ 12
  cls : x.cls.length ≤ 6
  att : x.att.length ≤ 4
  c : ∀ i, i < x.cls.length → (x.cls.getD i []).length ≤ 12
  a : ∀ i, i < x.att.length → (x.att.getD i default).1.length ≤ 12 ∧ (x.att.getD i default).2.length ≤ 16
theorem clsT_le {x : Nd} (h : ShortNd x) (i : Nat) : (clsT (x.cls.take i)).length ≤ 78 := by
  have h1 := cat_le (fun c : Bys => 46 :: c) (x.cls.take i) 13 (by
    intro c hc
    obtain ⟨j, hj, e⟩ := List.getElem_of_mem (List.mem_of_mem_take hc)
    have := h.c j hj
    simp [hj, e] at this
    simp only [List.length_cons]
    omega)
  have h2 : (x.cls.take i).length ≤ 6 := by rw [List.length_take]; have := h.cls; omega
  exact Nat.le_trans h1 (by omega)
theorem attT_le {x : Nd} (h : ShortNd x) (i : Nat) : (attT (x.att.take i)).length ≤ 132 := by
  have h1 := cat_le attT1 (x.att.take i) 33 (by
    intro c hc
    obtain ⟨j, hj, e⟩ := List.getElem_of_mem (List.mem_of_mem_take hc)
    have := h.a j hj
    simp [hj, e] at this
    simp only [attT1, List.length_cons, List.length_append, List.length_nil]
    omega)
  have h2 : (x.att.take i).length ≤ 4 := by rw [List.length_take]; have := h.att; omega
  exact Nat.le_trans h1 (by omega)
theorem idT_le {x : Nd} (h : ShortNd x) : (idT x.id).length ≤ 13 := by
  unfold idT
  have := h.id
  split <;> simp <;> omega

theorem c_mark_own (x : Nd) (hx : ShortNd x) : Contract Tryd.prog fn_mark_own [.val (.agg (ndV x))] { res := .val (sv (nodeT0 x)) } := by
  have hm0 : maxLen = 9223372036854775807 := rfl
  have b1 := hx.tag
  have b2 := hx.id
  have b3 := idT_le hx
  have b4 := hx.cls
  have b5 := hx.att
  refine mk_mark_own (base := 0) ⟨Nat.le_of_ble_eq_true rfl, Nat.le_of_ble_eq_true rfl, Nat.le_of_ble_eq_true rfl, rfl⟩ (fun hfit => ?_)
  unfold F0 mark_own_E
  simp (config := { maxSteps := 2000000 }) only [markU, List.set_cons_succ, List.set_cons_zero, List.map_cons, List.map_nil, argCt, setCells, ioOf, List.length_cons, List.length_nil, Nat.reduceAdd, Nat.reduceSub, List.replicate, List.cons_append, List.nil_append]
  try simp (config := { maxSteps := 2000000 }) only [go_sem, reduceCtorEq, Nat.reduceAdd, Nat.reduceEqDiff, reduceIte, Nat.reduceLeDiff, Nat.reduceLT, Nat.reduceSub]
  all_goals (repeat (with_reducible refine sAnd ?_))
  refine cond_of (by rfl) trivial (fun h => ?_) (fun h => ?_)
  · have e0 : x.tag ++ 35 :: x.id = x.tag ++ idT x.id := by
      unfold idT
      rw [if_neg (by simpa using h)]
    try simp (config := { maxSteps := 2000000 }) only [go_sem, reduceCtorEq, Nat.reduceAdd, Nat.reduceEqDiff, reduceIte, Nat.reduceLeDiff, Nat.reduceLT, Nat.reduceSub, List.cons_append, List.nil_append, e0, List.length_cons]
    all_goals (repeat (with_reducible refine sAnd ?_))
    refine loop_sets (fun i : Nat => [(3, .pv (sv (x.tag ++ idT x.id ++ clsT (x.cls.take i)))), (21, .pv (iv i)), (5, .un), (22, .un)]) (fun i : Nat => x.cls.length - i) (fun i : Nat => i ≤ x.cls.length) (0) ?_ (Nat.zero_le _) ?_
    focus (simp (config := { maxSteps := 2000000 }) only [go_sem, reduceCtorEq, Nat.reduceAdd, Nat.reduceEqDiff, reduceIte, Nat.reduceLeDiff, Nat.reduceLT, Nat.reduceSub, le_cons, le_nil, le_un, le_same]; all_goals (repeat' (first | exact trivial | exact le_int (by omega) | exact le_bool rfl | exact le_eq rfl | exact le_nlo | exact le_refl _ | refine And.intro ?_ ?_)))
    · exact le_str (by simp [clsT])
    intro i hi
    have hc1 := clsT_le hx i
    have hc2 := clsT_le hx (i + 1)
    try simp (config := { maxSteps := 2000000 }) only [go_sem, reduceCtorEq, Nat.reduceAdd, Nat.reduceEqDiff, reduceIte, Nat.reduceLeDiff, Nat.reduceLT, Nat.reduceSub, clsV_len]
    all_goals (repeat (with_reducible refine sAnd ?_))
    refine cond_of (by rfl) trivial (fun g1 => ?_) (fun g1 => ?_)
    · have hlt : i < x.cls.length := by simpa using g1
      have hs := clsT_succ hlt
      have hcl := hx.c i hlt
      rw [hs, List.length_append, List.length_cons] at hc2
      try simp (config := { maxSteps := 2000000 }) only [go_sem, reduceCtorEq, Nat.reduceAdd, Nat.reduceEqDiff, reduceIte, Nat.reduceLeDiff, Nat.reduceLT, Nat.reduceSub, clsV_get _ _ hlt, clsV_len, List.cons_append, List.nil_append, List.length_append, List.length_cons]
      all_goals (repeat (with_reducible refine sAnd ?_))
      refine ⟨i + 1, by omega, hlt, ?_⟩
      simp (config := { maxSteps := 2000000 }) only [go_sem, reduceCtorEq, Nat.reduceAdd, Nat.reduceEqDiff, reduceIte, Nat.reduceLeDiff, Nat.reduceLT, Nat.reduceSub, le_cons, le_nil, le_un, le_same]
      all_goals (repeat' (first | exact trivial | exact le_int (by omega) | exact le_bool rfl | exact le_eq rfl | exact le_nlo | exact le_refl _ | refine And.intro ?_ ?_))
      all_goals first | exact le_str (by rw [hs]; simp) | exact le_int (by omega) | exact le_same
    · have hie : i = x.cls.length := by have : ¬ i < x.cls.length := by simpa using g1
                                        omega
      subst hie
      rw [List.take_length] at hc1
      try simp (config := { maxSteps := 2000000 }) only [go_sem, reduceCtorEq, Nat.reduceAdd, Nat.reduceEqDiff, reduceIte, Nat.reduceLeDiff, Nat.reduceLT, Nat.reduceSub, List.take_length, attV_len]
      all_goals (repeat (with_reducible refine sAnd ?_))
      refine loop_sets (fun i : Nat => [(3, .pv (sv (x.tag ++ idT x.id ++ clsT x.cls ++ attT (x.att.take i)))), (33, .pv (iv i)), (7, .un), (34, .un), (49, .un), (50, .un)]) (fun i : Nat => x.att.length - i) (fun i : Nat => i ≤ x.att.length) (0) ?_ (Nat.zero_le _) ?_
      focus (simp (config := { maxSteps := 2000000 }) only [go_sem, reduceCtorEq, Nat.reduceAdd, Nat.reduceEqDiff, reduceIte, Nat.reduceLeDiff, Nat.reduceLT, Nat.reduceSub, le_cons, le_nil, le_un, le_same]; all_goals (repeat' (first | exact trivial | exact le_int (by omega) | exact le_bool rfl | exact le_eq rfl | exact le_nlo | exact le_refl _ | refine And.intro ?_ ?_)))
      · exact le_str (by simp [attT])
      intro i hi
      have ha1 := attT_le hx i
      have ha2 := attT_le hx (i + 1)
      try simp (config := { maxSteps := 2000000 }) only [go_sem, reduceCtorEq, Nat.reduceAdd, Nat.reduceEqDiff, reduceIte, Nat.reduceLeDiff, Nat.reduceLT, Nat.reduceSub, attV_len]
      all_goals (repeat (with_reducible refine sAnd ?_))
      refine cond_of (by rfl) trivial (fun g2 => ?_) (fun g2 => ?_)
      · have hlt : i < x.att.length := by simpa using g2
        have hs := attT_succ hlt
        have hal := hx.a i hlt
        rw [hs, List.length_append] at ha2
        simp only [attT1, List.length_append, List.length_cons, List.length_nil] at ha2
        try simp (config := { maxSteps := 2000000 }) only [go_sem, reduceCtorEq, Nat.reduceAdd, Nat.reduceEqDiff, reduceIte, Nat.reduceLeDiff, Nat.reduceLT, Nat.reduceSub, attV_get _ _ hlt, attV_len, List.cons_append, List.nil_append, List.length_append, List.length_cons, List.length_nil]
        all_goals (repeat (with_reducible refine sAnd ?_))
        refine ⟨i + 1, by omega, hlt, ?_⟩
        simp (config := { maxSteps := 2000000 }) only [go_sem, reduceCtorEq, Nat.reduceAdd, Nat.reduceEqDiff, reduceIte, Nat.reduceLeDiff, Nat.reduceLT, Nat.reduceSub, le_cons, le_nil, le_un, le_same]
        all_goals (repeat' (first | exact trivial | exact le_int (by omega) | exact le_bool rfl | exact le_eq rfl | exact le_nlo | exact le_refl _ | refine And.intro ?_ ?_))
        all_goals first | exact le_str (by rw [hs]; simp [attT1]) | exact le_int (by omega) | exact le_same
      · have hie : i = x.att.length := by have : ¬ i < x.att.length := by simpa using g2
                                          omega
        subst hie
        try simp (config := { maxSteps := 2000000 }) only [go_sem, reduceCtorEq, Nat.reduceAdd, Nat.reduceEqDiff, reduceIte, Nat.reduceLeDiff, Nat.reduceLT, Nat.reduceSub, List.take_length]
        all_goals (repeat (with_reducible refine sAnd ?_))
        refine fin_val rfl trivial (.inl ?_)
        unfold nodeT0
        simp
  · have e0 : idT x.id = [] := by
      unfold idT
      rw [if_pos (by simpa using h)]
    try simp (config := { maxSteps := 2000000 }) only [go_sem, reduceCtorEq, Nat.reduceAdd, Nat.reduceEqDiff, reduceIte, Nat.reduceLeDiff, Nat.reduceLT, Nat.reduceSub]
    all_goals (repeat (with_reducible refine sAnd ?_))
    refine loop_sets (fun i : Nat => [(3, .pv (sv (x.tag ++ clsT (x.cls.take i)))), (21, .pv (iv i)), (5, .un), (22, .un)]) (fun i : Nat => x.cls.length - i) (fun i : Nat => i ≤ x.cls.length) (0) ?_ (Nat.zero_le _) ?_
    focus (simp (config := { maxSteps := 2000000 }) only [go_sem, reduceCtorEq, Nat.reduceAdd, Nat.reduceEqDiff, reduceIte, Nat.reduceLeDiff, Nat.reduceLT, Nat.reduceSub, le_cons, le_nil, le_un, le_same]; all_goals (repeat' (first | exact trivial | exact le_int (by omega) | exact le_bool rfl | exact le_eq rfl | exact le_nlo | exact le_refl _ | refine And.intro ?_ ?_)))
    · exact le_str (by simp [clsT])
    intro i hi
    have hc1 := clsT_le hx i
    have hc2 := clsT_le hx (i + 1)
    try simp (config := { maxSteps := 2000000 }) only [go_sem, reduceCtorEq, Nat.reduceAdd, Nat.reduceEqDiff, reduceIte, Nat.reduceLeDiff, Nat.reduceLT, Nat.reduceSub, clsV_len]
    all_goals (repeat (with_reducible refine sAnd ?_))
    refine cond_of (by rfl) trivial (fun g1 => ?_) (fun g1 => ?_)
    · have hlt : i < x.cls.length := by simpa using g1
      have hs := clsT_succ hlt
      have hcl := hx.c i hlt
      rw [hs, List.length_append, List.length_cons] at hc2
      try simp (config := { maxSteps := 2000000 }) only [go_sem, reduceCtorEq, Nat.reduceAdd, Nat.reduceEqDiff, reduceIte, Nat.reduceLeDiff, Nat.reduceLT, Nat.reduceSub, clsV_get _ _ hlt, clsV_len, List.cons_append, List.nil_append, List.length_append, List.length_cons]
      all_goals (repeat (with_reducible refine sAnd ?_))
      refine ⟨i + 1, by omega, hlt, ?_⟩
      simp (config := { maxSteps := 2000000 }) only [go_sem, reduceCtorEq, Nat.reduceAdd, Nat.reduceEqDiff, reduceIte, Nat.reduceLeDiff, Nat.reduceLT, Nat.reduceSub, le_cons, le_nil, le_un, le_same]
      all_goals (repeat' (first | exact trivial | exact le_int (by omega) | exact le_bool rfl | exact le_eq rfl | exact le_nlo | exact le_refl _ | refine And.intro ?_ ?_))
      all_goals first | exact le_str (by rw [hs]; simp) | exact le_int (by omega) | exact le_same
    · have hie : i = x.cls.length := by have : ¬ i < x.cls.length := by simpa using g1
                                        omega
      subst hie
      rw [List.take_length] at hc1
      try simp (config := { maxSteps := 2000000 }) only [go_sem, reduceCtorEq, Nat.reduceAdd, Nat.reduceEqDiff, reduceIte, Nat.reduceLeDiff, Nat.reduceLT, Nat.reduceSub, List.take_length, attV_len]
      all_goals (repeat (with_reducible refine sAnd ?_))
      refine loop_sets (fun i : Nat => [(3, .pv (sv (x.tag ++ clsT x.cls ++ attT (x.att.take i)))), (33, .pv (iv i)), (7, .un), (34, .un), (49, .un), (50, .un)]) (fun i : Nat => x.att.length - i) (fun i : Nat => i ≤ x.att.length) (0) ?_ (Nat.zero_le _) ?_
      focus (simp (config := { maxSteps := 2000000 }) only [go_sem, reduceCtorEq, Nat.reduceAdd, Nat.reduceEqDiff, reduceIte, Nat.reduceLeDiff, Nat.reduceLT, Nat.reduceSub, le_cons, le_nil, le_un, le_same]; all_goals (repeat' (first | exact trivial | exact le_int (by omega) | exact le_bool rfl | exact le_eq rfl | exact le_nlo | exact le_refl _ | refine And.intro ?_ ?_)))
      · exact le_str (by simp [attT])
      intro i hi
      have ha1 := attT_le hx i
      have ha2 := attT_le hx (i + 1)
      try simp (config := { maxSteps := 2000000 }) only [go_sem, reduceCtorEq, Nat.reduceAdd, Nat.reduceEqDiff, reduceIte, Nat.reduceLeDiff, Nat.reduceLT, Nat.reduceSub, attV_len]
      all_goals (repeat (with_reducible refine sAnd ?_))
      refine cond_of (by rfl) trivial (fun g2 => ?_) (fun g2 => ?_)
      · have hlt : i < x.att.length := by simpa using g2
        have hs := attT_succ hlt
        have hal := hx.a i hlt
        rw [hs, List.length_append] at ha2
        simp only [attT1, List.length_append, List.length_cons, List.length_nil] at ha2
        try simp (config := { maxSteps := 2000000 }) only [go_sem, reduceCtorEq, Nat.reduceAdd, Nat.reduceEqDiff, reduceIte, Nat.reduceLeDiff, Nat.reduceLT, Nat.reduceSub, attV_get _ _ hlt, attV_len, List.cons_append, List.nil_append, List.length_append, List.length_cons, List.length_nil]
        all_goals (repeat (with_reducible refine sAnd ?_))
        refine ⟨i + 1, by omega, hlt, ?_⟩
        simp (config := { maxSteps := 2000000 }) only [go_sem, reduceCtorEq, Nat.reduceAdd, Nat.reduceEqDiff, reduceIte, Nat.reduceLeDiff, Nat.reduceLT, Nat.reduceSub, le_cons, le_nil, le_un, le_same]
        all_goals (repeat' (first | exact trivial | exact le_int (by omega) | exact le_bool rfl | exact le_eq rfl | exact le_nlo | exact le_refl _ | refine And.intro ?_ ?_))
        all_goals first | exact le_str (by rw [hs]; simp [attT1]) | exact le_int (by omega) | exact le_same
      · have hie : i = x.att.length := by have : ¬ i < x.att.length := by simpa using g2
                                          omega
        subst hie
        try simp (config := { maxSteps := 2000000 }) only [go_sem, reduceCtorEq, Nat.reduceAdd, Nat.reduceEqDiff, reduceIte, Nat.reduceLeDiff, Nat.reduceLT, Nat.reduceSub, List.take_length]
        all_goals (repeat (with_reducible refine sAnd ?_))
        refine fin_val rfl trivial (.inl ?_)
        unfold nodeT0
        simp [e0]
end Go.Hx
end

section
namespace Go.Hx
open Go.Proofs
variable [Glob]

attribute [local go_sem] ndsV_len clsV_len attV_len intsR_len ndV cellsEq
end Go.Hx
end

section
set_option maxRecDepth 100000
set_option linter.unusedSimpArgs false
namespace Go.Hx
open Go.Proofs
variable [Glob]

attribute [local go_sem] ndsV_len clsV_len attV_len intsR_len ndV cellsEq
end Go.Hx
end

section
set_option maxRecDepth 100000
set_option linter.unusedSimpArgs false
namespace Go.Hx
open Go.Proofs
variable [Glob]

attribute [local go_sem] ndsV_len clsV_len attV_len intsR_len ndV cellsEq
end Go.Hx
end

section
set_option maxRecDepth 100000
set_option linter.unusedSimpArgs false
namespace Go.Hx
open Go.Proofs
variable [Glob]

attribute [local go_sem] ndsV_len clsV_len attV_len intsR_len ndV cellsEq
theorem c_ref_SameTexts (a b : List Bys) : Contract Tryd.prog fn_ref_SameTexts [.val (.one (.sl 1 (clsV a))), .val (.one (.sl 1 (clsV b)))] { res := .val (bv (decide (a = b))) } := by
  refine mk_ref_SameTexts (base := 0) ⟨Nat.le_of_ble_eq_true rfl, Nat.le_of_ble_eq_true rfl, Nat.le_of_ble_eq_true rfl, rfl⟩ (fun hfit => ?_)
  unfold F0 ref_SameTexts_E
  simp (config := { maxSteps := 2000000 }) only [markU, List.set_cons_succ, List.set_cons_zero, List.map_cons, List.map_nil, argCt, setCells, ioOf, List.length_cons, List.length_nil, Nat.reduceAdd, Nat.reduceSub, List.replicate, List.cons_append, List.nil_append]
  try simp (config := { maxSteps := 2000000 }) only [go_sem, reduceCtorEq, Nat.reduceAdd, Nat.reduceEqDiff, reduceIte, Nat.reduceLeDiff, Nat.reduceLT, Nat.reduceSub]
  all_goals (repeat (with_reducible refine sAnd ?_))
  have hm := fits_sl (k := 1) hfit.1
  rw [clsV_len] at hm
  refine cond_of (by rfl) trivial (fun h => ?_) (fun h => ?_)
  · try simp (config := { maxSteps := 2000000 }) only [go_sem, reduceCtorEq, Nat.reduceAdd, Nat.reduceEqDiff, reduceIte, Nat.reduceLeDiff, Nat.reduceLT, Nat.reduceSub]
    all_goals (repeat (with_reducible refine sAnd ?_))
    refine fin_val rfl trivial (.inl ?_)
    congr 3
    simp [clsV_len] at h
    exact decide_eq_false (fun e => h (by subst e; rfl))
  have hl : a.length = b.length := by simp [clsV_len] at h; omega
  try simp (config := { maxSteps := 2000000 }) only [go_sem, reduceCtorEq, Nat.reduceAdd, Nat.reduceEqDiff, reduceIte, Nat.reduceLeDiff, Nat.reduceLT, Nat.reduceSub]
  all_goals (repeat (with_reducible refine sAnd ?_))
  refine loop_sets (fun i : Nat => [(5, .pv (iv i)), (14, .un), (25, .un)]) (fun i => a.length - i) (fun i => i ≤ a.length ∧ a.take i = b.take i) 0 ?_ ⟨Nat.zero_le _, rfl⟩ ?_
  · simp (config := { maxSteps := 2000000 }) only [go_sem, reduceCtorEq, Nat.reduceAdd, Nat.reduceEqDiff, reduceIte, Nat.reduceLeDiff, Nat.reduceLT, Nat.reduceSub, le_cons, le_nil, le_un, le_same]
  intro i ⟨hi, heq⟩
  try simp (config := { maxSteps := 2000000 }) only [go_sem, reduceCtorEq, Nat.reduceAdd, Nat.reduceEqDiff, reduceIte, Nat.reduceLeDiff, Nat.reduceLT, Nat.reduceSub, clsV_len]
  all_goals (repeat (with_reducible refine sAnd ?_))
  refine cond_of (by rfl) trivial (fun h2 => ?_) (fun h2 => ?_)
  · have hlt : i < a.length := by simpa using h2
    have hltb : i < b.length := by omega
    try simp (config := { maxSteps := 2000000 }) only [go_sem, reduceCtorEq, Nat.reduceAdd, Nat.reduceEqDiff, reduceIte, Nat.reduceLeDiff, Nat.reduceLT, Nat.reduceSub, clsV_get _ _ hlt, clsV_get _ _ hltb, clsV_len]
    all_goals (repeat (with_reducible refine sAnd ?_))
    refine cond_of (by rfl) trivial (fun h3 => ?_) (fun h3 => ?_)
    · try simp (config := { maxSteps := 2000000 }) only [go_sem, reduceCtorEq, Nat.reduceAdd, Nat.reduceEqDiff, reduceIte, Nat.reduceLeDiff, Nat.reduceLT, Nat.reduceSub]
      all_goals (repeat (with_reducible refine sAnd ?_))
      refine fin_val rfl trivial (.inl ?_)
      congr 3
      simp only [Bool.not_eq_true', beq_eq_false_iff_ne] at h3
      exact (decide_eq_false (ne_of_getD [] h3))
    · try simp (config := { maxSteps := 2000000 }) only [go_sem, reduceCtorEq, Nat.reduceAdd, Nat.reduceEqDiff, reduceIte, Nat.reduceLeDiff, Nat.reduceLT, Nat.reduceSub]
      all_goals (repeat (with_reducible refine sAnd ?_))
      refine ⟨i + 1, by omega, ⟨hlt, take_eq_succ [] heq hlt hltb ?_⟩, ?_⟩
      · simpa only [Bool.not_eq_false', beq_iff_eq] using h3
      · simp (config := { maxSteps := 2000000 }) only [go_sem, reduceCtorEq, Nat.reduceAdd, Nat.reduceEqDiff, reduceIte, Nat.reduceLeDiff, Nat.reduceLT, Nat.reduceSub, le_cons, le_nil, le_un, le_same]
        exact le_int (by omega)
  · try simp (config := { maxSteps := 2000000 }) only [go_sem, reduceCtorEq, Nat.reduceAdd, Nat.reduceEqDiff, reduceIte, Nat.reduceLeDiff, Nat.reduceLT, Nat.reduceSub]
    all_goals (repeat (with_reducible refine sAnd ?_))
    refine fin_val rfl trivial (.inl ?_)
    congr 3
    have hi2 : i = a.length := by simp at h2; omega
    subst hi2
    exact decide_eq_true (eq_of_take hl heq)

theorem c_ref_SameNodes (x y : Nd) : Contract Tryd.prog fn_ref_SameNodes [.val (.agg (ndV x)), .val (.agg (ndV y))] { res := .val (bv (decide (x = y))) } := by
  unfold ndV
  refine mk_ref_SameNodes (base := 0) ⟨Nat.le_of_ble_eq_true rfl, Nat.le_of_ble_eq_true rfl, Nat.le_of_ble_eq_true rfl, rfl⟩ (fun hfit => ?_)
  unfold F0 ref_SameNodes_E
  simp (config := { maxSteps := 2000000 }) only [markU, List.set_cons_succ, List.set_cons_zero, List.map_cons, List.map_nil, argCt, setCells, ioOf, List.length_cons, List.length_nil, Nat.reduceAdd, Nat.reduceSub, List.replicate, List.cons_append, List.nil_append]
  try simp (config := { maxSteps := 2000000 }) only [go_sem, reduceCtorEq, Nat.reduceAdd, Nat.reduceEqDiff, reduceIte, Nat.reduceLeDiff, Nat.reduceLT, Nat.reduceSub]
  all_goals (repeat (with_reducible refine sAnd ?_))
  apply call_guard (h2 := fun _ => c_ref_SameTexts _ _)
  · (simp (config := { maxSteps := 2000000 }) only [go_sem, reduceCtorEq, Nat.reduceAdd, Nat.reduceEqDiff, reduceIte, Nat.reduceLeDiff, Nat.reduceLT, Nat.reduceSub]; rfl)
  · intro h; repeat' (first | exact trivial | exact h | refine And.intro ?_ ?_)
  try simp (config := { maxSteps := 2000000 }) only [go_sem, reduceCtorEq, Nat.reduceAdd, Nat.reduceEqDiff, reduceIte, Nat.reduceLeDiff, Nat.reduceLT, Nat.reduceSub, attV_len]
  all_goals (repeat (with_reducible refine sAnd ?_))
  have hm := fits_sl (k := 2) (hfit.1.2.2.2.2.1)
  rw [attV_len] at hm
  refine cond_of (by rfl) trivial (fun h => ?_) (fun h => ?_)
  · try simp (config := { maxSteps := 2000000 }) only [go_sem, reduceCtorEq, Nat.reduceAdd, Nat.reduceEqDiff, reduceIte, Nat.reduceLeDiff, Nat.reduceLT, Nat.reduceSub]
    all_goals (repeat (with_reducible refine sAnd ?_))
    refine fin_val rfl trivial (.inl ?_)
    congr 3
    refine decide_eq_false (fun e => ?_)
    subst e
    simp at h
  have hh : x.up = y.up ∧ x.tag = y.tag ∧ x.id = y.id ∧ x.cls = y.cls ∧ x.att.length = y.att.length := by
    simp at h
    grind
  obtain ⟨e1, e2, e3, e4, hl⟩ := hh
  try simp (config := { maxSteps := 2000000 }) only [go_sem, reduceCtorEq, Nat.reduceAdd, Nat.reduceEqDiff, reduceIte, Nat.reduceLeDiff, Nat.reduceLT, Nat.reduceSub]
  all_goals (repeat (with_reducible refine sAnd ?_))
  refine loop_sets (fun i : Nat => [(5, .pv (iv i)), (46, .un), (59, .un)]) (fun i => x.att.length - i) (fun i => i ≤ x.att.length ∧ x.att.take i = y.att.take i) 0 ?_ ⟨Nat.zero_le _, rfl⟩ ?_
  · simp (config := { maxSteps := 2000000 }) only [go_sem, reduceCtorEq, Nat.reduceAdd, Nat.reduceEqDiff, reduceIte, Nat.reduceLeDiff, Nat.reduceLT, Nat.reduceSub, le_cons, le_nil, le_un, le_same]
  intro i ⟨hi, heq⟩
  try simp (config := { maxSteps := 2000000 }) only [go_sem, reduceCtorEq, Nat.reduceAdd, Nat.reduceEqDiff, reduceIte, Nat.reduceLeDiff, Nat.reduceLT, Nat.reduceSub, attV_len]
  all_goals (repeat (with_reducible refine sAnd ?_))
  refine cond_of (by rfl) trivial (fun h2 => ?_) (fun h2 => ?_)
  · have hlt : i < x.att.length := by simpa using h2
    have hltb : i < y.att.length := by omega
    try simp (config := { maxSteps := 2000000 }) only [go_sem, reduceCtorEq, Nat.reduceAdd, Nat.reduceEqDiff, reduceIte, Nat.reduceLeDiff, Nat.reduceLT, Nat.reduceSub, attV_get _ _ hlt, attV_get _ _ hltb, attV_len, cellsEq]
    all_goals (repeat (with_reducible refine sAnd ?_))
    refine cond_of (by rfl) trivial (fun h3 => ?_) (fun h3 => ?_)
    · try simp (config := { maxSteps := 2000000 }) only [go_sem, reduceCtorEq, Nat.reduceAdd, Nat.reduceEqDiff, reduceIte, Nat.reduceLeDiff, Nat.reduceLT, Nat.reduceSub]
      all_goals (repeat (with_reducible refine sAnd ?_))
      refine fin_val rfl trivial (.inl ?_)
      congr 3
      refine decide_eq_false (fun e => ?_)
      subst e
      simp at h3
    · try simp (config := { maxSteps := 2000000 }) only [go_sem, reduceCtorEq, Nat.reduceAdd, Nat.reduceEqDiff, reduceIte, Nat.reduceLeDiff, Nat.reduceLT, Nat.reduceSub]
      all_goals (repeat (with_reducible refine sAnd ?_))
      refine ⟨i + 1, by omega, ⟨hlt, take_eq_succ default heq hlt hltb ?_⟩, ?_⟩
      · simp at h3
        exact Prod.ext h3.1 h3.2
      · simp (config := { maxSteps := 2000000 }) only [go_sem, reduceCtorEq, Nat.reduceAdd, Nat.reduceEqDiff, reduceIte, Nat.reduceLeDiff, Nat.reduceLT, Nat.reduceSub, le_cons, le_nil, le_un, le_same]
        exact le_int (by omega)
  · try simp (config := { maxSteps := 2000000 }) only [go_sem, reduceCtorEq, Nat.reduceAdd, Nat.reduceEqDiff, reduceIte, Nat.reduceLeDiff, Nat.reduceLT, Nat.reduceSub]
    all_goals (repeat (with_reducible refine sAnd ?_))
    refine fin_val rfl trivial (.inl ?_)
    congr 3
    have hi2 : i = x.att.length := by simp at h2; omega
    subst hi2
    have e5 := eq_of_take hl heq
    refine decide_eq_true ?_
    cases x; cases y
    simp_all

theorem c_ref_SameDocs (a b : List Nd) : Contract Tryd.prog fn_ref_SameDocs [.val (docV a), .val (docV b)] { res := .val (bv (decide (a = b))) } := by
  unfold docV
  refine mk_ref_SameDocs (base := 0) ⟨Nat.le_of_ble_eq_true rfl, Nat.le_of_ble_eq_true rfl, Nat.le_of_ble_eq_true rfl, rfl⟩ (fun hfit => ?_)
  unfold F0 ref_SameDocs_E
  simp (config := { maxSteps := 2000000 }) only [markU, List.set_cons_succ, List.set_cons_zero, List.map_cons, List.map_nil, argCt, setCells, ioOf, List.length_cons, List.length_nil, Nat.reduceAdd, Nat.reduceSub, List.replicate, List.cons_append, List.nil_append]
  try simp (config := { maxSteps := 2000000 }) only [go_sem, reduceCtorEq, Nat.reduceAdd, Nat.reduceEqDiff, reduceIte, Nat.reduceLeDiff, Nat.reduceLT, Nat.reduceSub]
  all_goals (repeat (with_reducible refine sAnd ?_))
  have hm := fits_sl (k := 5) (hfit.1.1)
  rw [ndsV_len] at hm
  refine cond_of (by rfl) trivial (fun h => ?_) (fun h => ?_)
  · try simp (config := { maxSteps := 2000000 }) only [go_sem, reduceCtorEq, Nat.reduceAdd, Nat.reduceEqDiff, reduceIte, Nat.reduceLeDiff, Nat.reduceLT, Nat.reduceSub]
    all_goals (repeat (with_reducible refine sAnd ?_))
    refine fin_val rfl trivial (.inl ?_)
    congr 3
    simp [ndsV_len] at h
    exact decide_eq_false (fun e => h (by rw [e]))
  have hl : a.length = b.length := by simp [ndsV_len] at h; omega
  try simp (config := { maxSteps := 2000000 }) only [go_sem, reduceCtorEq, Nat.reduceAdd, Nat.reduceEqDiff, reduceIte, Nat.reduceLeDiff, Nat.reduceLT, Nat.reduceSub]
  all_goals (repeat (with_reducible refine sAnd ?_))
  refine loop_sets (fun i : Nat => [(5, .pv (iv i)), (17, .un), (31, .un)]) (fun i => a.length - i) (fun i => i ≤ a.length ∧ a.take i = b.take i) 0 ?_ ⟨Nat.zero_le _, rfl⟩ ?_
  · simp (config := { maxSteps := 2000000 }) only [go_sem, reduceCtorEq, Nat.reduceAdd, Nat.reduceEqDiff, reduceIte, Nat.reduceLeDiff, Nat.reduceLT, Nat.reduceSub, le_cons, le_nil, le_un, le_same]
  intro i ⟨hi, heq⟩
  try simp (config := { maxSteps := 2000000 }) only [go_sem, reduceCtorEq, Nat.reduceAdd, Nat.reduceEqDiff, reduceIte, Nat.reduceLeDiff, Nat.reduceLT, Nat.reduceSub, ndsV_len]
  all_goals (repeat (with_reducible refine sAnd ?_))
  refine cond_of (by rfl) trivial (fun h2 => ?_) (fun h2 => ?_)
  · have hlt : i < a.length := by simpa using h2
    have hltb : i < b.length := by omega
    try simp (config := { maxSteps := 2000000 }) only [go_sem, reduceCtorEq, Nat.reduceAdd, Nat.reduceEqDiff, reduceIte, Nat.reduceLeDiff, Nat.reduceLT, Nat.reduceSub, ndsV_get _ _ hlt, ndsV_get _ _ hltb, ndsV_len, ndV]
    all_goals (repeat (with_reducible refine sAnd ?_))
    refine call_val (by repeat' constructor) (c_ref_SameNodes _ _) ?_
    try simp (config := { maxSteps := 2000000 }) only [go_sem, reduceCtorEq, Nat.reduceAdd, Nat.reduceEqDiff, reduceIte, Nat.reduceLeDiff, Nat.reduceLT, Nat.reduceSub]
    all_goals (repeat (with_reducible refine sAnd ?_))
    refine cond_of (by rfl) trivial (fun h3 => ?_) (fun h3 => ?_)
    · try simp (config := { maxSteps := 2000000 }) only [go_sem, reduceCtorEq, Nat.reduceAdd, Nat.reduceEqDiff, reduceIte, Nat.reduceLeDiff, Nat.reduceLT, Nat.reduceSub]
      all_goals (repeat (with_reducible refine sAnd ?_))
      refine fin_val rfl trivial (.inl ?_)
      congr 3
      simp only [Bool.not_eq_true', decide_eq_false_iff_not] at h3
      exact decide_eq_false (ne_of_getD default h3)
    · try simp (config := { maxSteps := 2000000 }) only [go_sem, reduceCtorEq, Nat.reduceAdd, Nat.reduceEqDiff, reduceIte, Nat.reduceLeDiff, Nat.reduceLT, Nat.reduceSub]
      all_goals (repeat (with_reducible refine sAnd ?_))
      refine ⟨i + 1, by omega, ⟨hlt, take_eq_succ default heq hlt hltb ?_⟩, ?_⟩
      · simpa only [Bool.not_eq_false', decide_eq_true_eq] using h3
      · simp (config := { maxSteps := 2000000 }) only [go_sem, reduceCtorEq, Nat.reduceAdd, Nat.reduceEqDiff, reduceIte, Nat.reduceLeDiff, Nat.reduceLT, Nat.reduceSub, le_cons, le_nil, le_un, le_same]
        exact le_int (by omega)
  · try simp (config := { maxSteps := 2000000 }) only [go_sem, reduceCtorEq, Nat.reduceAdd, Nat.reduceEqDiff, reduceIte, Nat.reduceLeDiff, Nat.reduceLT, Nat.reduceSub]
    all_goals (repeat (with_reducible refine sAnd ?_))
    refine fin_val rfl trivial (.inl ?_)
    congr 3
    have hi2 : i = a.length := by simp at h2; omega
    subst hi2
    exact decide_eq_true (eq_of_take hl heq)
end Go.Hx
end

section
set_option maxRecDepth 100000
set_option linter.unusedSimpArgs false
namespace Go.Hx
open Go.Proofs
variable [Glob]

attribute [local go_sem] ndsV_len clsV_len attV_len intsR_len ndV cellsEq
theorem docOk_succ {d : List Nd} {i : Nat} : docOk d (i + 1) = (docOk d i && okAt d i) := range_all_succ
end Go.Hx
end

section
set_option maxRecDepth 100000
set_option linter.unusedSimpArgs false
namespace Go.Hx
open Go.Proofs
variable [Glob]

attribute [local go_sem] ndsV_len clsV_len attV_len intsR_len ndV cellsEq
def kidsTo (d : List Nd) (n : Int) (k : Nat) : List Int := ((List.range k).filter fun i => decide (upOf d i = n)).map Int.ofNat
def kidsOf (d : List Nd) (n : Int) : List Int := kidsTo d n d.length
theorem kidsTo_succ {d : List Nd} {n : Int} {k : Nat} : kidsTo d n (k + 1) = if upOf d k = n then kidsTo d n k ++ [(k : Int)] else kidsTo d n k := by
  unfold kidsTo
  rw [List.range_succ, List.filter_append, List.map_append]
  by_cases h : upOf d k = n <;> simp [List.filter, h]
end Go.Hx
end

section
-- DOM trsV_len, trsV_nil, trV_len, trV_norm, List.take_zero, List.map_nil
set_option maxRecDepth 100000
set_option linter.unusedSimpArgs false
namespace Go.Hx
open Go.Proofs
variable [Glob]

inductive Tr where
  | mk (x : Nd) (k : List Tr)
instance : Inhabited Tr := ⟨.mk default []⟩
attribute [local go_sem] ndsV_len clsV_len attV_len intsR_len ndV cellsEq List.take_zero List.map_nil
mutual
def trV : Tr → List PV
  | .mk x k => [bI x.up, bS x.tag, bS x.id, .sl 1 (clsV x.cls), .sl 2 (attV x.att), .sl 6 (trsV k)]
def trsV : List Tr → List (List PV)
  | [] => []
  | t :: r => trV t :: trsV r
end
theorem trsV_map : ∀ l : List Tr, trsV l = l.map trV
  | [] => rfl
  | t :: r => by simp [trsV, trsV_map r]
theorem trV_len (t : Tr) : (trV t).length = 6 := by cases t; rfl
attribute [local go_sem] trV_len
theorem trV_norm (t : Tr) : (trV t).map PV.norm = trV t := by cases t; rfl
attribute [local go_sem] trV_norm
theorem trsV_nil : trsV [] = [] := rfl
attribute [local go_sem] trsV_nil
theorem trsV_len (l : List Tr) : (trsV l).length = l.length := by simp [trsV_map]
attribute [local go_sem] trsV_len
def treeF (d : List Nd) : Nat → Nat → Tr
  | 0, n => .mk (d.getD n default) []
  | f + 1, n => .mk (d.getD n default) ((kidsOf d n).map fun k => treeF d f k.toNat)

theorem kidsOf_get {d : List Nd} (hd : docOk d d.length = true) {n : Nat} {i : Nat} (h : i < (kidsOf d n).length) : ∃ m : Nat, (kidsOf d n).getD i 0 = m ∧ m < d.length ∧ n < m := by
  have h1 : (kidsOf d n).getD i 0 ∈ kidsOf d n := by simp [h]
  unfold kidsOf kidsTo at h1
  obtain ⟨m, h2, h3⟩ := List.mem_map.1 h1
  rw [List.mem_filter] at h2
  have h4 : m < d.length := by simpa using h2.1
  have h5 : upOf d m = n := by simpa using h2.2
  have := (docOk_up hd m h4).2
  exact ⟨m, h3.symm, h4, by omega⟩

theorem docOk_node {d : List Nd} (hd : docOk d d.length = true) {n : Nat} (h : n < d.length) : nodeFine (d.getD n default) = true := by
  have := range_all_get hd h
  simp only [okAt, Bool.and_eq_true] at this
  exact this.1
theorem nodeFine_len {x : Nd} (h : nodeFine x = true) : x.cls.length ≤ 6 ∧ x.att.length ≤ 4 := by
  simp only [nodeFine, Bool.and_eq_true, decide_eq_true_eq] at h
  exact ⟨h.1.1.1.2, h.1.1.2⟩
mutual
def layT : Tr → List Nd → Int → List Nd
  | .mk x ks, l, up => layTs ks (l ++ [{ x with up := up }]) l.length
def layTs : List Tr → List Nd → Int → List Nd
  | [], l, _ => l
  | t :: r, l, n => layTs r (layT t l n) n
end
mutual
def szT : Tr → Nat
  | .mk _ ks => szTs ks + 1
def szTs : List Tr → Nat
  | [] => 0
  | t :: r => szT t + szTs r
end
mutual
theorem layT_len : ∀ (t : Tr) (l : List Nd) (n : Int), (layT t l n).length = l.length + szT t
  | .mk x ks, l, n => by simp only [layT, szT, layTs_len ks, List.length_append, List.length_cons, List.length_nil]; omega
theorem layTs_len : ∀ (t : List Tr) (l : List Nd) (n : Int), (layTs t l n).length = l.length + szTs t
  | [], l, n => by simp [layTs, szTs]
  | t :: r, l, n => by simp only [layTs, szTs, layTs_len r, layT_len t]; omega
end
theorem ndsV_app (a b : List Nd) : ndsV (a ++ b) = ndsV a ++ ndsV b := by simp [ndsV]

end Go.Hx
end

section
-- DOM trsV_len, trsV_nil, trV_len, trV_norm, List.take_zero, List.map_nil
set_option maxRecDepth 100000
set_option linter.unusedSimpArgs false
namespace Go.Hx
open Go.Proofs
variable [Glob]

attribute [local go_sem] ndsV_len clsV_len attV_len intsR_len ndV cellsEq trsV_len trsV_nil trV_len trV_norm List.take_zero List.map_nil
end Go.Hx
end

section
-- DOM trsV_len, trsV_nil, trV_len, trV_norm, List.take_zero, List.map_nil
set_option maxRecDepth 100000
set_option linter.unusedSimpArgs false
namespace Go.Hx
open Go.Proofs
variable [Glob]

attribute [local go_sem] ndsV_len clsV_len attV_len intsR_len ndV cellsEq trsV_len trsV_nil trV_len trV_norm List.take_zero List.map_nil
theorem checkDoc_ok {d : List Nd} (h : checkDoc d = 0) : 1 ≤ d.length ∧ d.length ≤ 64 ∧ docOk d d.length = true := by
  unfold checkDoc at h
  split at h
  · rename_i h1
    split at h
    · rename_i h2
      exact ⟨h1.1, h1.2, h2⟩
    · omega
  · omega

end Go.Hx
end

section
/-
  The abstract code of functions of the program, printed by gen.py; each stands for the given one. No condition.
-/
namespace Go.Hx
open Go.Proofs
variable [Glob]
end Go.Hx
end
