/-
  Walks of functions of the program over an abstract layer, and the laws that they use: each contract says what the function computes, for every input that its conditions let by. No other condition.
-/
import Derived.Test.YtjnagiaooecklaaDoorProg
import Derived.Test.YtjnagiaooecklaaDoorG8
import Derived.Test.YtjnagiaooecklaaDoorG10
set_option linter.all false
section
/-
  The abstract code of functions of the program, printed by gen.py; each stands for the given one. No condition.
-/
namespace Go.Hx
open Go.Proofs
variable [Glob]
abbrev fn_doc_Check : Nat := 20
abbrev fn_doc_Fine : Nat := 64
abbrev fn_doc_Fine_1 : Nat := 110
abbrev fn_doc_Fine_2 : Nat := 112
abbrev fn_doc_Fine_3 : Nat := 114
abbrev fn_doc_Insert : Nat := 24
abbrev fn_doc_Insert_1 : Nat := 68
abbrev fn_doc_Insert_2 : Nat := 69
abbrev fn_doc_Kids : Nat := 12
abbrev fn_doc_Name : Nat := 108
abbrev fn_doc_Part : Nat := 14
abbrev fn_doc_Part_1 : Nat := 58
abbrev fn_doc_Put_1 : Nat := 75
abbrev fn_doc_Remove : Nat := 26
abbrev fn_doc_Remove_1 : Nat := 74
abbrev fn_doc_Under : Nat := 13
abbrev fn_doc_Value : Nat := 115
abbrev fn_doc_behind : Nat := 56
abbrev fn_doc_kids : Nat := 55
abbrev fn_doc_own : Nat := 57
abbrev fn_doc_rises_api_Attr : Nat := 111
abbrev fn_doc_rises_string : Nat := 109
abbrev fn_doc_there : Nat := 54
abbrev fn_law_small : Nat := 63
abbrev fn_slices_Clone_Attr : Nat := 77
abbrev fn_slices_Clone_string : Nat := 76
abbrev fn_slices_Concat_Node : Nat := 70
abbrev fn_slices_ContainsFunc_Attr : Nat := 113
abbrev fn_slices_Grow_Node : Nat := 119
abbrev fn_slices_IndexFunc_Attr : Nat := 150
abbrev slices_Clone_string_r0 : HCode := .reg [⟨none, .nlo 2 ty_string 1⟩] false []
abbrev slices_Clone_string_r1 : HCode := .reg [⟨none, .val 3 (.mv (.t 0))⟩,
    ⟨none, .isn 4 false (.t 3)⟩] false [.forget [3]]
abbrev slices_Clone_string_r2 : HCode := .reg [⟨none, .nlo 2 ty_string 1⟩] false []
abbrev slices_Clone_string_r3 : HCode := .reg [⟨none, .bsl 5 ty_string 1 []⟩,
    ⟨none, .val 6 (.mv (.t 0))⟩,
    ⟨none, .app 7 ty_string 1 (.t 5) (.t 6)⟩,
    ⟨none, .mvo 2 7⟩] false [.forget [5, 6, 7]]
abbrev slices_Clone_string : HCode := (.seq slices_Clone_string_r0 (.seq (.seq slices_Clone_string_r1 (.cond (.t 4) (.seq slices_Clone_string_r2 .ret) .skip)) (.seq slices_Clone_string_r3 .ret)))
abbrev slices_Clone_string_E : Env := { N := 8, Γ := [], L := 8, nfix := 0 }
abbrev slices_Clone_string_R : List RSrc := [.tmp 2]
theorem mk_slices_Clone_string {base : Nat} {av : List AV} {r : RV} (hfo : formOk slices_Clone_string_E base av) (hW : AVs.fits av → hwp Tryd.prog slices_Clone_string (finQ slices_Clone_string_E base av slices_Clone_string_R r) (F0 slices_Clone_string_E base av)) (hov : ∀ x, r.res = .ov x → nOwn av = 0 := by intro x h; cases h <;> rfl) : Contract Tryd.prog fn_slices_Clone_string av r :=
  contract_of_wp (fn := Tryd.f76) (c := Tryd.f76.body.getD .skip) (by kernel_rfl) (by kernel_rfl) (by kernel_rfl) (by kernel_rfl) (by kernel_rfl) (by kernel_rfl) (by kernel_rfl) hfo hW hov
abbrev slices_Clone_Attr_r0 : HCode := .reg [⟨none, .nlo 2 ty_api_Attr 2⟩] false []
abbrev slices_Clone_Attr_r1 : HCode := .reg [⟨none, .val 3 (.mv (.t 0))⟩,
    ⟨none, .isn 4 false (.t 3)⟩] false [.forget [3]]
abbrev slices_Clone_Attr_r2 : HCode := .reg [⟨none, .nlo 2 ty_api_Attr 2⟩] false []
abbrev slices_Clone_Attr_r3 : HCode := .reg [⟨none, .bsl 5 ty_api_Attr 2 []⟩,
    ⟨none, .val 6 (.mv (.t 0))⟩,
    ⟨none, .app 7 ty_api_Attr 2 (.t 5) (.t 6)⟩,
    ⟨none, .mvo 2 7⟩] false [.forget [5, 6, 7]]
abbrev slices_Clone_Attr : HCode := (.seq slices_Clone_Attr_r0 (.seq (.seq slices_Clone_Attr_r1 (.cond (.t 4) (.seq slices_Clone_Attr_r2 .ret) .skip)) (.seq slices_Clone_Attr_r3 .ret)))
abbrev slices_Clone_Attr_E : Env := { N := 8, Γ := [], L := 8, nfix := 0 }
abbrev slices_Clone_Attr_R : List RSrc := [.tmp 2]
theorem mk_slices_Clone_Attr {base : Nat} {av : List AV} {r : RV} (hfo : formOk slices_Clone_Attr_E base av) (hW : AVs.fits av → hwp Tryd.prog slices_Clone_Attr (finQ slices_Clone_Attr_E base av slices_Clone_Attr_R r) (F0 slices_Clone_Attr_E base av)) (hov : ∀ x, r.res = .ov x → nOwn av = 0 := by intro x h; cases h <;> rfl) : Contract Tryd.prog fn_slices_Clone_Attr av r :=
  contract_of_wp (fn := Tryd.f77) (c := Tryd.f77.body.getD .skip) (by kernel_rfl) (by kernel_rfl) (by kernel_rfl) (by kernel_rfl) (by kernel_rfl) (by kernel_rfl) (by kernel_rfl) hfo hW hov
abbrev slices_IndexFunc_Attr_r0 : HCode := .reg [⟨none, .val 4 (.mv (.c (iv 0)))⟩] false []
abbrev slices_IndexFunc_Attr_r1 : HCode := .reg [⟨none, .val 6 (.mv (.t 0))⟩,
    ⟨none, .val 7 (.len false (.t 6))⟩,
    ⟨none, .val 8 (.mv (.c (iv 0)))⟩] false [.forget [6]]
abbrev slices_IndexFunc_Attr_r2 : HCode := .reg [⟨none, .val 9 (.ints .lss (.t 8) (.t 7))⟩] false []
abbrev slices_IndexFunc_Attr_r3 : HCode := .reg [⟨none, .val 10 (.mv (.t 8))⟩,
    ⟨none, .val 5 (.mv (.t 10))⟩] false [.forget [10]]
abbrev slices_IndexFunc_Attr_r4 : HCode := .reg [⟨none, .val 11 (.mv (.t 1))⟩,
    ⟨none, .val 12 (.mv (.t 0))⟩,
    ⟨none, .val 13 (.mv (.t 5))⟩,
    ⟨none, .val 14 (.idxA 2 (.t 12) (.t 13))⟩,
    ⟨none, .val 15 (.ldR (.t 14) 2 true)⟩,
    ⟨none, .callv (some 16) (.t 11) [(.t 15, .v)]⟩] false [.forget [11, 12, 13, 14, 15]]
abbrev slices_IndexFunc_Attr_r5 : HCode := .reg [⟨none, .val 17 (.mv (.t 5))⟩,
    ⟨none, .val 4 (.mv (.t 17))⟩] false [.forget [17]]
abbrev slices_IndexFunc_Attr_r6 : HCode := .reg [⟨none, .val 18 (.ints .add (.t 8) (.c (iv 1)))⟩,
    ⟨none, .val 8 (.mv (.t 18))⟩] false [.forget [18]]
abbrev slices_IndexFunc_Attr_r7 : HCode := .reg [⟨none, .val 4 (.mv (.c (iv (-1))))⟩] false []
abbrev slices_IndexFunc_Attr : HCode := (.seq slices_IndexFunc_Attr_r0 (.seq (.seq slices_IndexFunc_Attr_r1 (.block 0 (.loop (.seq slices_IndexFunc_Attr_r2 (.seq (.cond (.t 9) .skip (.exit 0)) (.seq (.block 1 (.seq slices_IndexFunc_Attr_r3 (.seq slices_IndexFunc_Attr_r4 (.cond (.t 16) (.seq slices_IndexFunc_Attr_r5 .ret) .skip)))) slices_IndexFunc_Attr_r6)))))) (.seq slices_IndexFunc_Attr_r7 .ret)))
abbrev slices_IndexFunc_Attr_E : Env := { N := 19, Γ := [], L := 19, nfix := 0 }
abbrev slices_IndexFunc_Attr_R : List RSrc := [.tmp 4]
theorem mk_slices_IndexFunc_Attr {base : Nat} {av : List AV} {r : RV} (hfo : formOk slices_IndexFunc_Attr_E base av) (hW : AVs.fits av → hwp Tryd.prog slices_IndexFunc_Attr (finQ slices_IndexFunc_Attr_E base av slices_IndexFunc_Attr_R r) (F0 slices_IndexFunc_Attr_E base av)) (hov : ∀ x, r.res = .ov x → nOwn av = 0 := by intro x h; cases h <;> rfl) : Contract Tryd.prog fn_slices_IndexFunc_Attr av r :=
  contract_of_wp (fn := Tryd.f150) (c := Tryd.f150.body.getD .skip) (by kernel_rfl) (by kernel_rfl) (by kernel_rfl) (by kernel_rfl) (by kernel_rfl) (by kernel_rfl) (by kernel_rfl) hfo hW hov
abbrev slices_ContainsFunc_Attr_r0 : HCode := .reg [⟨none, .val 4 (.mv (.c (bv false)))⟩] false []
abbrev slices_ContainsFunc_Attr_r1 : HCode := .reg [⟨none, .val 5 (.mv (.t 0))⟩,
    ⟨none, .val 6 (.mv (.t 1))⟩,
    ⟨none, .call (some 7) fn_slices_IndexFunc_Attr [(.t 5, .v), (.t 6, .v)]⟩,
    ⟨none, .val 8 (.ints .geq (.t 7) (.c (iv 0)))⟩,
    ⟨none, .val 4 (.mv (.t 8))⟩] false [.forget [5, 6, 7, 8]]
abbrev slices_ContainsFunc_Attr : HCode := (.seq slices_ContainsFunc_Attr_r0 (.seq slices_ContainsFunc_Attr_r1 .ret))
abbrev slices_ContainsFunc_Attr_E : Env := { N := 9, Γ := [], L := 9, nfix := 0 }
abbrev slices_ContainsFunc_Attr_R : List RSrc := [.tmp 4]
theorem mk_slices_ContainsFunc_Attr {base : Nat} {av : List AV} {r : RV} (hfo : formOk slices_ContainsFunc_Attr_E base av) (hW : AVs.fits av → hwp Tryd.prog slices_ContainsFunc_Attr (finQ slices_ContainsFunc_Attr_E base av slices_ContainsFunc_Attr_R r) (F0 slices_ContainsFunc_Attr_E base av)) (hov : ∀ x, r.res = .ov x → nOwn av = 0 := by intro x h; cases h <;> rfl) : Contract Tryd.prog fn_slices_ContainsFunc_Attr av r :=
  contract_of_wp (fn := Tryd.f113) (c := Tryd.f113.body.getD .skip) (by kernel_rfl) (by kernel_rfl) (by kernel_rfl) (by kernel_rfl) (by kernel_rfl) (by kernel_rfl) (by kernel_rfl) hfo hW hov
abbrev doc_rises_string_r0 : HCode := .reg [⟨none, .val 4 (.mv (.c (bv false)))⟩] false []
abbrev doc_rises_string_r1 : HCode := .reg [⟨none, .val 5 (.mv (.c (sv [])))⟩] false []
abbrev doc_rises_string_r2 : HCode := .reg [⟨none, .val 8 (.mv (.t 0))⟩,
    ⟨none, .val 9 (.len false (.t 8))⟩,
    ⟨none, .val 10 (.mv (.c (iv 0)))⟩] false []
abbrev doc_rises_string_r3 : HCode := .reg [⟨none, .val 11 (.ints .lss (.t 10) (.t 9))⟩] false []
abbrev doc_rises_string_r4 : HCode := .reg [⟨none, .val 12 (.idxA 1 (.t 8) (.t 10))⟩,
    ⟨none, .val 13 (.ldR (.t 12) 1 false)⟩,
    ⟨none, .val 7 (.mv (.t 13))⟩] false [.forget [12, 13]]
abbrev doc_rises_string_r5 : HCode := .reg [⟨none, .val 14 (.mv (.t 1))⟩,
    ⟨none, .val 15 (.mv (.t 7))⟩,
    ⟨none, .callv (some 16) (.t 14) [(.t 15, .v)]⟩,
    ⟨none, .call (some 17) fn_doc_Name [(.t 16, .v)]⟩,
    ⟨none, .val 18 (.not (.t 17))⟩,
    ⟨none, .val 19 (.mv (.t 18))⟩,
    ⟨some (19, false), .val 20 (.mv (.t 1))⟩,
    ⟨some (19, false), .val 21 (.mv (.t 7))⟩,
    ⟨some (19, false), .callv (some 22) (.t 20) [(.t 21, .v)]⟩,
    ⟨some (19, false), .val 23 (.mv (.t 5))⟩,
    ⟨some (19, false), .val 24 (.strs .leq (.t 22) (.t 23))⟩,
    ⟨none, .val 25 (.pick (.t 19) (.c (bv true)) (.t 24))⟩] false [.forget [14, 15, 16, 17, 18, 19, 20, 21, 22, 23, 24]]
abbrev doc_rises_string_r6 : HCode := .reg [⟨none, .val 4 (.mv (.c (bv false)))⟩] false []
abbrev doc_rises_string_r7 : HCode := .reg [⟨none, .val 26 (.mv (.t 1))⟩,
    ⟨none, .val 27 (.mv (.t 7))⟩,
    ⟨none, .callv (some 28) (.t 26) [(.t 27, .v)]⟩,
    ⟨none, .val 5 (.mv (.t 28))⟩] false [.forget [26, 27, 28]]
abbrev doc_rises_string_r8 : HCode := .reg [⟨none, .val 29 (.ints .add (.t 10) (.c (iv 1)))⟩,
    ⟨none, .val 10 (.mv (.t 29))⟩] false [.forget [29]]
abbrev doc_rises_string_r9 : HCode := .reg [⟨none, .val 4 (.mv (.c (bv true)))⟩] false []
abbrev doc_rises_string : HCode := (.seq doc_rises_string_r0 (.seq doc_rises_string_r1 (.seq (.seq doc_rises_string_r2 (.block 0 (.loop (.seq doc_rises_string_r3 (.seq (.cond (.t 11) .skip (.exit 0)) (.seq (.block 1 (.seq doc_rises_string_r4 (.seq (.seq doc_rises_string_r5 (.cond (.t 25) (.seq doc_rises_string_r6 .ret) .skip)) doc_rises_string_r7))) doc_rises_string_r8)))))) (.seq doc_rises_string_r9 .ret))))
abbrev doc_rises_string_E : Env := { N := 30, Γ := [], L := 30, nfix := 0 }
abbrev doc_rises_string_R : List RSrc := [.tmp 4]
theorem mk_doc_rises_string {base : Nat} {av : List AV} {r : RV} (hfo : formOk doc_rises_string_E base av) (hW : AVs.fits av → hwp Tryd.prog doc_rises_string (finQ doc_rises_string_E base av doc_rises_string_R r) (F0 doc_rises_string_E base av)) (hov : ∀ x, r.res = .ov x → nOwn av = 0 := by intro x h; cases h <;> rfl) : Contract Tryd.prog fn_doc_rises_string av r :=
  contract_of_wp (fn := Tryd.f109) (c := Tryd.f109.body.getD .skip) (by kernel_rfl) (by kernel_rfl) (by kernel_rfl) (by kernel_rfl) (by kernel_rfl) (by kernel_rfl) (by kernel_rfl) hfo hW hov
abbrev doc_rises_api_Attr_r0 : HCode := .reg [⟨none, .val 4 (.mv (.c (bv false)))⟩] false []
abbrev doc_rises_api_Attr_r1 : HCode := .reg [⟨none, .val 5 (.mv (.c (sv [])))⟩] false []
abbrev doc_rises_api_Attr_r2 : HCode := .reg [⟨none, .val 8 (.mv (.t 0))⟩,
    ⟨none, .val 9 (.len false (.t 8))⟩,
    ⟨none, .val 10 (.mv (.c (iv 0)))⟩] false []
abbrev doc_rises_api_Attr_r3 : HCode := .reg [⟨none, .val 11 (.ints .lss (.t 10) (.t 9))⟩] false []
abbrev doc_rises_api_Attr_r4 : HCode := .reg [⟨none, .val 12 (.idxA 2 (.t 8) (.t 10))⟩,
    ⟨none, .val 13 (.ldR (.t 12) 2 true)⟩,
    ⟨none, .alloc 7 0 30 [.v (mkS []), .v (mkS [])]⟩,
    ⟨none, .sto (.t 7) 0 30 0 2 (.t 13)⟩] false [.forget [12, 13]]
abbrev doc_rises_api_Attr_r5 : HCode := .reg [⟨none, .val 14 (.mv (.t 1))⟩,
    ⟨none, .val 15 (.ldB (.t 7) 0 30 0 2 true)⟩,
    ⟨none, .callv (some 16) (.t 14) [(.t 15, .v)]⟩,
    ⟨none, .call (some 17) fn_doc_Name [(.t 16, .v)]⟩,
    ⟨none, .val 18 (.not (.t 17))⟩,
    ⟨none, .val 19 (.mv (.t 18))⟩,
    ⟨some (19, false), .val 20 (.mv (.t 1))⟩,
    ⟨some (19, false), .val 21 (.ldB (.t 7) 0 30 0 2 true)⟩,
    ⟨some (19, false), .callv (some 22) (.t 20) [(.t 21, .v)]⟩,
    ⟨some (19, false), .val 23 (.mv (.t 5))⟩,
    ⟨some (19, false), .val 24 (.strs .leq (.t 22) (.t 23))⟩,
    ⟨none, .val 25 (.pick (.t 19) (.c (bv true)) (.t 24))⟩] false [.forget [14, 15, 16, 17, 18, 19, 20, 21, 22, 23, 24]]
abbrev doc_rises_api_Attr_r6 : HCode := .reg [⟨none, .val 4 (.mv (.c (bv false)))⟩] false []
abbrev doc_rises_api_Attr_r7 : HCode := .reg [⟨none, .val 26 (.mv (.t 1))⟩,
    ⟨none, .val 27 (.ldB (.t 7) 0 30 0 2 true)⟩,
    ⟨none, .callv (some 28) (.t 26) [(.t 27, .v)]⟩,
    ⟨none, .val 5 (.mv (.t 28))⟩] false [.forget [26, 27, 28]]
abbrev doc_rises_api_Attr_r8 : HCode := .reg [⟨none, .val 29 (.ints .add (.t 10) (.c (iv 1)))⟩,
    ⟨none, .val 10 (.mv (.t 29))⟩] false [.forget [29]]
abbrev doc_rises_api_Attr_r9 : HCode := .reg [⟨none, .val 4 (.mv (.c (bv true)))⟩] false []
abbrev doc_rises_api_Attr : HCode := (.seq doc_rises_api_Attr_r0 (.seq doc_rises_api_Attr_r1 (.seq (.seq doc_rises_api_Attr_r2 (.block 0 (.loop (.seq doc_rises_api_Attr_r3 (.seq (.cond (.t 11) .skip (.exit 0)) (.seq (.block 1 (.seq doc_rises_api_Attr_r4 (.seq (.seq doc_rises_api_Attr_r5 (.cond (.t 25) (.seq doc_rises_api_Attr_r6 .ret) .skip)) doc_rises_api_Attr_r7))) doc_rises_api_Attr_r8)))))) (.seq doc_rises_api_Attr_r9 .ret))))
abbrev doc_rises_api_Attr_E : Env := { N := 30, Γ := [(30, 2)], L := 32, nfix := 0 }
abbrev doc_rises_api_Attr_R : List RSrc := [.tmp 4]
theorem mk_doc_rises_api_Attr {base : Nat} {av : List AV} {r : RV} (hfo : formOk doc_rises_api_Attr_E base av) (hW : AVs.fits av → hwp Tryd.prog doc_rises_api_Attr (finQ doc_rises_api_Attr_E base av doc_rises_api_Attr_R r) (F0 doc_rises_api_Attr_E base av)) (hov : ∀ x, r.res = .ov x → nOwn av = 0 := by intro x h; cases h <;> rfl) : Contract Tryd.prog fn_doc_rises_api_Attr av r :=
  contract_of_wp (fn := Tryd.f111) (c := Tryd.f111.body.getD .skip) (by kernel_rfl) (by kernel_rfl) (by kernel_rfl) (by kernel_rfl) (by kernel_rfl) (by kernel_rfl) (by kernel_rfl) hfo hW hov
abbrev doc_Fine_r0 : HCode := .reg [⟨none, .val 1 (.boxF (.t 0))⟩,
    ⟨none, .val 2 (.mv (.c (bv false)))⟩] false []
abbrev doc_Fine_r1 : HCode := .reg [⟨none, .val 3 (.fldR (.t 1) 1 1)⟩,
    ⟨none, .val 4 (.ldR (.t 3) 1 false)⟩,
    ⟨none, .call (some 5) fn_doc_Name [(.t 4, .v)]⟩,
    ⟨none, .val 6 (.mv (.t 5))⟩,
    ⟨some (6, true), .val 7 (.fldR (.t 1) 2 1)⟩,
    ⟨some (6, true), .val 8 (.ldR (.t 7) 1 false)⟩,
    ⟨some (6, true), .val 9 (.strs .eql (.t 8) (.c (sv [])))⟩,
    ⟨some (6, true), .val 10 (.mv (.t 9))⟩,
    ⟨some (10, false), .val 11 (.fldR (.t 1) 2 1)⟩,
    ⟨some (10, false), .val 12 (.ldR (.t 11) 1 false)⟩,
    ⟨some (10, false), .call (some 13) fn_doc_Name [(.t 12, .v)]⟩,
    ⟨some (6, true), .val 14 (.pick (.t 10) (.c (bv true)) (.t 13))⟩,
    ⟨none, .val 15 (.pick (.t 6) (.t 14) (.c (bv false)))⟩,
    ⟨none, .val 16 (.mv (.t 15))⟩,
    ⟨some (16, true), .val 17 (.fldR (.t 1) 3 1)⟩,
    ⟨some (16, true), .val 18 (.ldR (.t 17) 1 false)⟩,
    ⟨some (16, true), .val 19 (.len false (.t 18))⟩,
    ⟨some (16, true), .val 20 (.ints .leq (.t 19) (.c (iv 6)))⟩,
    ⟨none, .val 21 (.pick (.t 16) (.t 20) (.c (bv false)))⟩,
    ⟨none, .val 22 (.mv (.t 21))⟩,
    ⟨some (22, true), .val 23 (.fldR (.t 1) 4 1)⟩,
    ⟨some (22, true), .val 24 (.ldR (.t 23) 1 false)⟩,
    ⟨some (22, true), .val 25 (.len false (.t 24))⟩,
    ⟨some (22, true), .val 26 (.ints .leq (.t 25) (.c (iv 4)))⟩,
    ⟨none, .val 27 (.pick (.t 22) (.t 26) (.c (bv false)))⟩,
    ⟨none, .val 28 (.mv (.t 27))⟩,
    ⟨some (28, true), .val 29 (.fldR (.t 1) 3 1)⟩,
    ⟨some (28, true), .val 30 (.ldR (.t 29) 1 false)⟩,
    ⟨some (28, true), .call (some 31) fn_doc_rises_string [(.t 30, .v), (.f fn_doc_Fine_1, .v)]⟩,
    ⟨none, .val 32 (.pick (.t 28) (.t 31) (.c (bv false)))⟩,
    ⟨none, .val 33 (.mv (.t 32))⟩,
    ⟨some (33, true), .val 34 (.fldR (.t 1) 4 1)⟩,
    ⟨some (33, true), .val 35 (.ldR (.t 34) 1 false)⟩,
    ⟨some (33, true), .call (some 36) fn_doc_rises_api_Attr [(.t 35, .v), (.f fn_doc_Fine_2, .v)]⟩,
    ⟨none, .val 37 (.pick (.t 33) (.t 36) (.c (bv false)))⟩,
    ⟨none, .val 38 (.mv (.t 37))⟩,
    ⟨some (38, true), .val 39 (.fldR (.t 1) 4 1)⟩,
    ⟨some (38, true), .val 40 (.ldR (.t 39) 1 false)⟩,
    ⟨some (38, true), .call (some 41) fn_slices_ContainsFunc_Attr [(.t 40, .v), (.f fn_doc_Fine_3, .v)]⟩,
    ⟨some (38, true), .val 42 (.not (.t 41))⟩,
    ⟨none, .val 43 (.pick (.t 38) (.t 42) (.c (bv false)))⟩,
    ⟨none, .val 2 (.mv (.t 43))⟩] false [.forget [3, 4, 5, 6, 7, 8, 9, 10, 11, 12, 13, 14, 15, 16, 17, 18, 19, 20, 21, 22, 23, 24, 25, 26, 27, 28, 29, 30, 31, 32, 33, 34, 35, 36, 37, 38, 39, 40, 41, 42, 43]]
abbrev doc_Fine : HCode := (.seq doc_Fine_r0 (.seq doc_Fine_r1 .ret))
abbrev doc_Fine_E : Env := { N := 44, Γ := [], L := 44, nfix := 0 }
abbrev doc_Fine_R : List RSrc := [.tmp 2]
theorem mk_doc_Fine {base : Nat} {av : List AV} {r : RV} (hfo : formOk doc_Fine_E base av) (hW : AVs.fits av → hwp Tryd.prog doc_Fine (finQ doc_Fine_E base av doc_Fine_R r) (F0 doc_Fine_E base av)) (hov : ∀ x, r.res = .ov x → nOwn av = 0 := by intro x h; cases h <;> rfl) : Contract Tryd.prog fn_doc_Fine av r :=
  contract_of_wp (fn := Tryd.f64) (c := Tryd.f64.body.getD .skip) (by kernel_rfl) (by kernel_rfl) (by kernel_rfl) (by kernel_rfl) (by kernel_rfl) (by kernel_rfl) (by kernel_rfl) hfo hW hov
abbrev doc_Fine_1_r0 : HCode := .reg [⟨none, .val 2 (.mv (.c (sv [])))⟩] false []
abbrev doc_Fine_1_r1 : HCode := .reg [⟨none, .val 3 (.mv (.t 0))⟩,
    ⟨none, .val 2 (.mv (.t 3))⟩] false [.forget [3]]
abbrev doc_Fine_1 : HCode := (.seq doc_Fine_1_r0 (.seq doc_Fine_1_r1 .ret))
abbrev doc_Fine_1_E : Env := { N := 4, Γ := [], L := 4, nfix := 0 }
abbrev doc_Fine_1_R : List RSrc := [.tmp 2]
theorem mk_doc_Fine_1 {base : Nat} {av : List AV} {r : RV} (hfo : formOk doc_Fine_1_E base av) (hW : AVs.fits av → hwp Tryd.prog doc_Fine_1 (finQ doc_Fine_1_E base av doc_Fine_1_R r) (F0 doc_Fine_1_E base av)) (hov : ∀ x, r.res = .ov x → nOwn av = 0 := by intro x h; cases h <;> rfl) : Contract Tryd.prog fn_doc_Fine_1 av r :=
  contract_of_wp (fn := Tryd.f110) (c := Tryd.f110.body.getD .skip) (by kernel_rfl) (by kernel_rfl) (by kernel_rfl) (by kernel_rfl) (by kernel_rfl) (by kernel_rfl) (by kernel_rfl) hfo hW hov
abbrev doc_Fine_2_r0 : HCode := .reg [⟨none, .val 1 (.boxF (.t 0))⟩,
    ⟨none, .val 2 (.mv (.c (sv [])))⟩] false []
abbrev doc_Fine_2_r1 : HCode := .reg [⟨none, .val 3 (.fldR (.t 1) 0 1)⟩,
    ⟨none, .val 4 (.ldR (.t 3) 1 false)⟩,
    ⟨none, .val 2 (.mv (.t 4))⟩] false [.forget [3, 4]]
abbrev doc_Fine_2 : HCode := (.seq doc_Fine_2_r0 (.seq doc_Fine_2_r1 .ret))
abbrev doc_Fine_2_E : Env := { N := 5, Γ := [], L := 5, nfix := 0 }
abbrev doc_Fine_2_R : List RSrc := [.tmp 2]
theorem mk_doc_Fine_2 {base : Nat} {av : List AV} {r : RV} (hfo : formOk doc_Fine_2_E base av) (hW : AVs.fits av → hwp Tryd.prog doc_Fine_2 (finQ doc_Fine_2_E base av doc_Fine_2_R r) (F0 doc_Fine_2_E base av)) (hov : ∀ x, r.res = .ov x → nOwn av = 0 := by intro x h; cases h <;> rfl) : Contract Tryd.prog fn_doc_Fine_2 av r :=
  contract_of_wp (fn := Tryd.f112) (c := Tryd.f112.body.getD .skip) (by kernel_rfl) (by kernel_rfl) (by kernel_rfl) (by kernel_rfl) (by kernel_rfl) (by kernel_rfl) (by kernel_rfl) hfo hW hov
abbrev doc_Fine_3_r0 : HCode := .reg [⟨none, .val 1 (.boxF (.t 0))⟩,
    ⟨none, .val 2 (.mv (.c (bv false)))⟩] false []
abbrev doc_Fine_3_r1 : HCode := .reg [⟨none, .val 3 (.fldR (.t 1) 1 1)⟩,
    ⟨none, .val 4 (.ldR (.t 3) 1 false)⟩,
    ⟨none, .call (some 5) fn_doc_Value [(.t 4, .v)]⟩,
    ⟨none, .val 6 (.not (.t 5))⟩,
    ⟨none, .val 2 (.mv (.t 6))⟩] false [.forget [3, 4, 5, 6]]
abbrev doc_Fine_3 : HCode := (.seq doc_Fine_3_r0 (.seq doc_Fine_3_r1 .ret))
abbrev doc_Fine_3_E : Env := { N := 7, Γ := [], L := 7, nfix := 0 }
abbrev doc_Fine_3_R : List RSrc := [.tmp 2]
theorem mk_doc_Fine_3 {base : Nat} {av : List AV} {r : RV} (hfo : formOk doc_Fine_3_E base av) (hW : AVs.fits av → hwp Tryd.prog doc_Fine_3 (finQ doc_Fine_3_E base av doc_Fine_3_R r) (F0 doc_Fine_3_E base av)) (hov : ∀ x, r.res = .ov x → nOwn av = 0 := by intro x h; cases h <;> rfl) : Contract Tryd.prog fn_doc_Fine_3 av r :=
  contract_of_wp (fn := Tryd.f114) (c := Tryd.f114.body.getD .skip) (by kernel_rfl) (by kernel_rfl) (by kernel_rfl) (by kernel_rfl) (by kernel_rfl) (by kernel_rfl) (by kernel_rfl) hfo hW hov
abbrev doc_Check_r0 : HCode := .reg [⟨none, .val 1 (.boxF (.t 0))⟩,
    ⟨none, .val 2 (.mv (.c (iv 0)))⟩] false []
abbrev doc_Check_r1 : HCode := .reg [⟨none, .val 6 (.fldR (.t 1) 0 1)⟩,
    ⟨none, .val 7 (.ldR (.t 6) 1 false)⟩,
    ⟨none, .val 8 (.len false (.t 7))⟩,
    ⟨none, .val 9 (.ints .lss (.t 8) (.c (iv 1)))⟩,
    ⟨none, .val 10 (.mv (.t 9))⟩,
    ⟨some (10, false), .val 11 (.fldR (.t 1) 0 1)⟩,
    ⟨some (10, false), .val 12 (.ldR (.t 11) 1 false)⟩,
    ⟨some (10, false), .val 13 (.len false (.t 12))⟩,
    ⟨some (10, false), .val 14 (.ints .gtr (.t 13) (.c (iv 64)))⟩,
    ⟨none, .val 15 (.pick (.t 10) (.c (bv true)) (.t 14))⟩] false [.forget [6, 7, 8, 9, 10, 11, 12, 13, 14]]
abbrev doc_Check_r2 : HCode := .reg [⟨none, .val 2 (.mv (.c (iv 2)))⟩] false []
abbrev doc_Check_r3 : HCode := .reg [⟨none, .nlk 3 ty_int 1⟩] false []
abbrev doc_Check_r4 : HCode := .reg [⟨none, .val 16 (.fldR (.t 1) 0 1)⟩,
    ⟨none, .val 17 (.ldR (.t 16) 1 false)⟩,
    ⟨none, .val 18 (.len false (.t 17))⟩,
    ⟨none, .val 19 (.mv (.c (iv 0)))⟩] false [.forget [16]]
abbrev doc_Check_r5 : HCode := .reg [⟨none, .val 20 (.ints .lss (.t 19) (.t 18))⟩] false []
abbrev doc_Check_r6 : HCode := .reg [⟨none, .val 21 (.mv (.t 19))⟩,
    ⟨none, .val 22 (.idxA 5 (.t 17) (.t 19))⟩,
    ⟨none, .val 23 (.ldR (.t 22) 5 true)⟩,
    ⟨none, .alloc 5 0 69 [.v (.int .i64 0), .v (mkS []), .v (mkS []), .nl 1, .nl 2]⟩,
    ⟨none, .val 4 (.mv (.t 21))⟩,
    ⟨none, .sto (.t 5) 0 69 0 5 (.t 23)⟩] false [.frz 0 69 5, .forget [21, 22, 23]]
abbrev doc_Check_r7 : HCode := .rdr 3 [⟨none, .val 24 (.mv (.t 3))⟩,
    ⟨none, .val 25 (.len false (.t 24))⟩,
    ⟨none, .val 26 (.ints .gtr (.t 25) (.c (iv 0)))⟩,
    ⟨none, .val 27 (.mv (.t 26))⟩,
    ⟨some (27, true), .val 28 (.mv (.t 3))⟩,
    ⟨some (27, true), .val 29 (.mv (.t 3))⟩,
    ⟨some (27, true), .val 30 (.len false (.t 29))⟩,
    ⟨some (27, true), .val 31 (.ints .sub (.t 30) (.c (iv 1)))⟩,
    ⟨some (27, true), .val 32 (.idxA 1 (.t 28) (.t 31))⟩,
    ⟨some (27, true), .val 33 (.ldR (.t 32) 1 false)⟩,
    ⟨some (27, true), .val 34 (.fldR (.t 5) 0 1)⟩,
    ⟨some (27, true), .val 35 (.ldR (.t 34) 1 false)⟩,
    ⟨some (27, true), .val 36 (.ints .neq (.t 33) (.t 35))⟩,
    ⟨none, .val 37 (.pick (.t 27) (.t 36) (.c (bv false)))⟩] true [.forget [24, 25, 26, 27, 28, 29, 30, 31, 32, 33, 34, 35, 36]]
abbrev doc_Check_r8 : HCode := .reg [⟨none, .mvk 38 3⟩,
    ⟨none, .val 39 (.mv (.t 3))⟩,
    ⟨none, .val 40 (.len false (.t 39))⟩,
    ⟨none, .val 41 (.ints .sub (.t 40) (.c (iv 1)))⟩,
    ⟨none, .trk 42 38 (.t 41)⟩,
    ⟨none, .mvk 3 42⟩] false [.forget [38, 39, 40, 41, 42]]
abbrev doc_Check_r9 : HCode := .rdr 3 [⟨none, .val 43 (.ldR (.t 5) 5 true)⟩,
    ⟨none, .call (some 44) fn_doc_Fine [(.t 43, .v)]⟩,
    ⟨none, .val 45 (.not (.t 44))⟩,
    ⟨none, .val 46 (.mv (.t 45))⟩,
    ⟨some (46, false), .val 47 (.mv (.t 4))⟩,
    ⟨some (46, false), .val 48 (.ints .eql (.t 47) (.c (iv 0)))⟩,
    ⟨some (46, false), .val 49 (.mv (.t 48))⟩,
    ⟨some (49, true), .val 50 (.fldR (.t 5) 0 1)⟩,
    ⟨some (49, true), .val 51 (.ldR (.t 50) 1 false)⟩,
    ⟨some (49, true), .val 52 (.ints .neq (.t 51) (.c (iv (-1))))⟩,
    ⟨some (46, false), .val 53 (.pick (.t 49) (.t 52) (.c (bv false)))⟩,
    ⟨none, .val 54 (.pick (.t 46) (.c (bv true)) (.t 53))⟩,
    ⟨none, .val 55 (.mv (.t 54))⟩,
    ⟨some (55, false), .val 56 (.mv (.t 4))⟩,
    ⟨some (55, false), .val 57 (.ints .gtr (.t 56) (.c (iv 0)))⟩,
    ⟨some (55, false), .val 58 (.mv (.t 57))⟩,
    ⟨some (58, true), .val 59 (.mv (.t 3))⟩,
    ⟨some (58, true), .val 60 (.len false (.t 59))⟩,
    ⟨some (58, true), .val 61 (.ints .eql (.t 60) (.c (iv 0)))⟩,
    ⟨some (55, false), .val 62 (.pick (.t 58) (.t 61) (.c (bv false)))⟩,
    ⟨none, .val 63 (.pick (.t 55) (.c (bv true)) (.t 62))⟩] false [.forget [43, 44, 45, 46, 47, 48, 49, 50, 51, 52, 53, 54, 55, 56, 57, 58, 59, 60, 61, 62]]
abbrev doc_Check_r10 : HCode := .reg [⟨none, .val 2 (.mv (.c (iv 1)))⟩] false []
abbrev doc_Check_r11 : HCode := .reg [⟨none, .mvk 64 3⟩,
    ⟨none, .val 65 (.mv (.t 4))⟩,
    ⟨none, .val 66 (.bslF 1 [.t 65])⟩,
    ⟨none, .apk 67 ty_int 1 64 (.t 66)⟩,
    ⟨none, .mvk 3 67⟩] false [.forget [64, 65, 66, 67]]
abbrev doc_Check_r12 : HCode := .reg [⟨none, .val 68 (.ints .add (.t 19) (.c (iv 1)))⟩,
    ⟨none, .val 19 (.mv (.t 68))⟩] false [.forget [68]]
abbrev doc_Check_r13 : HCode := .reg [⟨none, .val 2 (.mv (.c (iv 0)))⟩] false []
abbrev doc_Check : HCode := (.seq doc_Check_r0 (.seq (.seq doc_Check_r1 (.cond (.t 15) (.seq doc_Check_r2 .ret) .skip)) (.seq doc_Check_r3 (.seq (.seq doc_Check_r4 (.block 0 (.loop (.seq doc_Check_r5 (.seq (.cond (.t 20) .skip (.exit 0)) (.seq (.block 1 (.seq doc_Check_r6 (.seq (.block 2 (.loop (.seq (.seq doc_Check_r7 (.cond (.t 37) .skip (.exit 2))) (.block 3 doc_Check_r8)))) (.seq (.seq doc_Check_r9 (.cond (.t 63) (.seq doc_Check_r10 .ret) .skip)) doc_Check_r11)))) doc_Check_r12)))))) (.seq doc_Check_r13 .ret)))))
abbrev doc_Check_E : Env := { N := 69, Γ := [(69, 5)], L := 74, nfix := 0 }
abbrev doc_Check_R : List RSrc := [.tmp 2]
theorem mk_doc_Check {base : Nat} {av : List AV} {r : RV} (hfo : formOk doc_Check_E base av) (hW : AVs.fits av → hwp Tryd.prog doc_Check (finQ doc_Check_E base av doc_Check_R r) (F0 doc_Check_E base av)) (hov : ∀ x, r.res = .ov x → nOwn av = 0 := by intro x h; cases h <;> rfl) : Contract Tryd.prog fn_doc_Check av r :=
  contract_of_wp (fn := Tryd.f20) (c := Tryd.f20.body.getD .skip) (by kernel_rfl) (by kernel_rfl) (by kernel_rfl) (by kernel_rfl) (by kernel_rfl) (by kernel_rfl) (by kernel_rfl) hfo hW hov
abbrev doc_behind_r0 : HCode := .reg [⟨none, .val 2 (.boxF (.t 0))⟩,
    ⟨none, .val 4 (.mv (.c (iv 0)))⟩] false []
abbrev doc_behind_r1 : HCode := .reg [⟨none, .val 6 (.mv (.t 1))⟩,
    ⟨none, .val 7 (.ints .add (.t 6) (.c (iv 1)))⟩,
    ⟨none, .val 5 (.mv (.t 7))⟩] false [.forget [6, 7]]
abbrev doc_behind_r2 : HCode := .reg [⟨none, .val 8 (.mv (.t 5))⟩,
    ⟨none, .val 9 (.fldR (.t 2) 0 1)⟩,
    ⟨none, .val 10 (.ldR (.t 9) 1 false)⟩,
    ⟨none, .val 11 (.len false (.t 10))⟩,
    ⟨none, .val 12 (.ints .lss (.t 8) (.t 11))⟩,
    ⟨none, .val 13 (.mv (.t 12))⟩,
    ⟨some (13, true), .val 14 (.fldR (.t 2) 0 1)⟩,
    ⟨some (13, true), .val 15 (.ldR (.t 14) 1 false)⟩,
    ⟨some (13, true), .val 16 (.mv (.t 5))⟩,
    ⟨some (13, true), .val 17 (.idxA 5 (.t 15) (.t 16))⟩,
    ⟨some (13, true), .val 18 (.fldR (.t 17) 0 1)⟩,
    ⟨some (13, true), .val 19 (.ldR (.t 18) 1 false)⟩,
    ⟨some (13, true), .val 20 (.mv (.t 1))⟩,
    ⟨some (13, true), .val 21 (.ints .geq (.t 19) (.t 20))⟩,
    ⟨none, .val 22 (.pick (.t 13) (.t 21) (.c (bv false)))⟩] false [.forget [8, 9, 10, 11, 12, 13, 14, 15, 16, 17, 18, 19, 20, 21]]
abbrev doc_behind_r3 : HCode := .reg [⟨none, .val 23 (.mv (.t 5))⟩,
    ⟨none, .val 24 (.ints .add (.t 23) (.c (iv 1)))⟩,
    ⟨none, .val 5 (.mv (.t 24))⟩] false [.forget [23, 24]]
abbrev doc_behind_r4 : HCode := .reg [⟨none, .val 25 (.mv (.t 5))⟩,
    ⟨none, .val 4 (.mv (.t 25))⟩] false [.forget [25]]
abbrev doc_behind : HCode := (.seq doc_behind_r0 (.seq doc_behind_r1 (.seq (.block 0 (.loop (.seq (.seq doc_behind_r2 (.cond (.t 22) .skip (.exit 0))) (.block 1 doc_behind_r3)))) (.seq doc_behind_r4 .ret))))
abbrev doc_behind_E : Env := { N := 26, Γ := [], L := 26, nfix := 0 }
abbrev doc_behind_R : List RSrc := [.tmp 4]
theorem mk_doc_behind {base : Nat} {av : List AV} {r : RV} (hfo : formOk doc_behind_E base av) (hW : AVs.fits av → hwp Tryd.prog doc_behind (finQ doc_behind_E base av doc_behind_R r) (F0 doc_behind_E base av)) (hov : ∀ x, r.res = .ov x → nOwn av = 0 := by intro x h; cases h <;> rfl) : Contract Tryd.prog fn_doc_behind av r :=
  contract_of_wp (fn := Tryd.f56) (c := Tryd.f56.body.getD .skip) (by kernel_rfl) (by kernel_rfl) (by kernel_rfl) (by kernel_rfl) (by kernel_rfl) (by kernel_rfl) (by kernel_rfl) hfo hW hov
abbrev doc_there_r0 : HCode := .reg [⟨none, .val 2 (.boxF (.t 0))⟩,
    ⟨none, .val 4 (.mv (.c (iv 0)))⟩] false []
abbrev doc_there_r1 : HCode := .reg [⟨none, .val 6 (.ldR (.t 2) 1 true)⟩,
    ⟨none, .call (some 7) fn_doc_Check [(.t 6, .v)]⟩,
    ⟨none, .val 5 (.mv (.t 7))⟩] false [.forget [6, 7]]
abbrev doc_there_r2 : HCode := .reg [⟨none, .val 8 (.mv (.t 5))⟩,
    ⟨none, .val 9 (.ints .neq (.t 8) (.c (iv 0)))⟩] false [.forget [8]]
abbrev doc_there_r3 : HCode := .reg [⟨none, .val 10 (.mv (.t 5))⟩,
    ⟨none, .val 4 (.mv (.t 10))⟩] false [.forget [10]]
abbrev doc_there_r4 : HCode := .reg [⟨none, .val 11 (.mv (.t 1))⟩,
    ⟨none, .val 12 (.ints .lss (.t 11) (.c (iv 0)))⟩,
    ⟨none, .val 13 (.mv (.t 12))⟩,
    ⟨some (13, false), .val 14 (.mv (.t 1))⟩,
    ⟨some (13, false), .val 15 (.fldR (.t 2) 0 1)⟩,
    ⟨some (13, false), .val 16 (.ldR (.t 15) 1 false)⟩,
    ⟨some (13, false), .val 17 (.len false (.t 16))⟩,
    ⟨some (13, false), .val 18 (.ints .geq (.t 14) (.t 17))⟩,
    ⟨none, .val 19 (.pick (.t 13) (.c (bv true)) (.t 18))⟩] false [.forget [11, 12, 13, 14, 15, 16, 17, 18]]
abbrev doc_there_r5 : HCode := .reg [⟨none, .val 4 (.mv (.c (iv 5)))⟩] false []
abbrev doc_there_r6 : HCode := .reg [⟨none, .val 4 (.mv (.c (iv 0)))⟩] false []
abbrev doc_there : HCode := (.seq doc_there_r0 (.seq (.seq doc_there_r1 (.seq doc_there_r2 (.cond (.t 9) (.seq doc_there_r3 .ret) .skip))) (.seq (.seq doc_there_r4 (.cond (.t 19) (.seq doc_there_r5 .ret) .skip)) (.seq doc_there_r6 .ret))))
abbrev doc_there_E : Env := { N := 20, Γ := [], L := 20, nfix := 0 }
abbrev doc_there_R : List RSrc := [.tmp 4]
theorem mk_doc_there {base : Nat} {av : List AV} {r : RV} (hfo : formOk doc_there_E base av) (hW : AVs.fits av → hwp Tryd.prog doc_there (finQ doc_there_E base av doc_there_R r) (F0 doc_there_E base av)) (hov : ∀ x, r.res = .ov x → nOwn av = 0 := by intro x h; cases h <;> rfl) : Contract Tryd.prog fn_doc_there av r :=
  contract_of_wp (fn := Tryd.f54) (c := Tryd.f54.body.getD .skip) (by kernel_rfl) (by kernel_rfl) (by kernel_rfl) (by kernel_rfl) (by kernel_rfl) (by kernel_rfl) (by kernel_rfl) hfo hW hov
abbrev doc_kids_r0 : HCode := .reg [⟨none, .val 2 (.boxF (.t 0))⟩,
    ⟨none, .nlo 4 ty_int 1⟩] false []
abbrev doc_kids_r1 : HCode := .reg [⟨none, .nlo 5 ty_int 1⟩] false []
abbrev doc_kids_r2 : HCode := .reg [⟨none, .val 7 (.mv (.t 1))⟩,
    ⟨none, .val 8 (.ints .add (.t 7) (.c (iv 1)))⟩,
    ⟨none, .val 6 (.mv (.t 8))⟩] false [.forget [7, 8]]
abbrev doc_kids_r3 : HCode := .reg [⟨none, .val 9 (.mv (.t 6))⟩,
    ⟨none, .val 10 (.ldR (.t 2) 1 true)⟩,
    ⟨none, .val 11 (.mv (.t 1))⟩,
    ⟨none, .call (some 12) fn_doc_behind [(.t 10, .v), (.t 11, .v)]⟩,
    ⟨none, .val 13 (.ints .lss (.t 9) (.t 12))⟩] false [.forget [9, 10, 11, 12]]
abbrev doc_kids_r4 : HCode := .reg [⟨none, .mvo 17 5⟩,
    ⟨none, .val 18 (.mv (.t 6))⟩,
    ⟨none, .val 19 (.bslF 1 [.t 18])⟩,
    ⟨none, .app 20 ty_int 1 (.t 17) (.t 19)⟩,
    ⟨none, .mvo 5 20⟩] false [.forget [17, 18, 19, 20]]
abbrev doc_kids_r5 : HCode := .reg [⟨none, .val 14 (.ldR (.t 2) 1 true)⟩,
    ⟨none, .val 15 (.mv (.t 6))⟩,
    ⟨none, .call (some 16) fn_doc_behind [(.t 14, .v), (.t 15, .v)]⟩,
    ⟨none, .val 6 (.mv (.t 16))⟩] false [.forget [14, 15, 16]]
abbrev doc_kids_r6 : HCode := .reg [⟨none, .mvo 21 5⟩,
    ⟨none, .mvo 4 21⟩] false [.forget [21]]
abbrev doc_kids : HCode := (.seq doc_kids_r0 (.seq doc_kids_r1 (.seq (.seq doc_kids_r2 (.block 0 (.loop (.seq (.seq doc_kids_r3 (.cond (.t 13) .skip (.exit 0))) (.seq (.block 1 doc_kids_r4) doc_kids_r5))))) (.seq doc_kids_r6 .ret))))
abbrev doc_kids_E : Env := { N := 22, Γ := [], L := 22, nfix := 0 }
abbrev doc_kids_R : List RSrc := [.tmp 4]
theorem mk_doc_kids {base : Nat} {av : List AV} {r : RV} (hfo : formOk doc_kids_E base av) (hW : AVs.fits av → hwp Tryd.prog doc_kids (finQ doc_kids_E base av doc_kids_R r) (F0 doc_kids_E base av)) (hov : ∀ x, r.res = .ov x → nOwn av = 0 := by intro x h; cases h <;> rfl) : Contract Tryd.prog fn_doc_kids av r :=
  contract_of_wp (fn := Tryd.f55) (c := Tryd.f55.body.getD .skip) (by kernel_rfl) (by kernel_rfl) (by kernel_rfl) (by kernel_rfl) (by kernel_rfl) (by kernel_rfl) (by kernel_rfl) hfo hW hov
abbrev doc_Kids_r0 : HCode := .reg [⟨none, .val 2 (.boxF (.t 0))⟩,
    ⟨none, .val 4 (.mv (.c (.one (.nl 1))))⟩,
    ⟨none, .val 5 (.mv (.c (iv 0)))⟩] false []
abbrev doc_Kids_r1 : HCode := .reg [⟨none, .val 7 (.ldR (.t 2) 1 true)⟩,
    ⟨none, .val 8 (.mv (.t 1))⟩,
    ⟨none, .call (some 9) fn_doc_there [(.t 7, .v), (.t 8, .v)]⟩,
    ⟨none, .val 6 (.mv (.t 9))⟩] false [.forget [7, 8, 9]]
abbrev doc_Kids_r2 : HCode := .reg [⟨none, .val 10 (.mv (.t 6))⟩,
    ⟨none, .val 11 (.ints .neq (.t 10) (.c (iv 0)))⟩] false [.forget [10]]
abbrev doc_Kids_r3 : HCode := .reg [⟨none, .val 12 (.mv (.t 6))⟩,
    ⟨none, .val 4 (.mv (.c (.one (.nl 1))))⟩,
    ⟨none, .val 5 (.mv (.t 12))⟩] false [.forget [12]]
abbrev doc_Kids_r4 : HCode := .reg [⟨none, .val 13 (.ldR (.t 2) 1 true)⟩,
    ⟨none, .val 14 (.mv (.t 1))⟩,
    ⟨none, .call (some 15) fn_doc_kids [(.t 13, .v), (.t 14, .v)]⟩,
    ⟨none, .val 4 (.mv (.t 15))⟩,
    ⟨none, .val 5 (.mv (.c (iv 0)))⟩] false [.forget [13, 14, 15]]
abbrev doc_Kids : HCode := (.seq doc_Kids_r0 (.seq (.seq doc_Kids_r1 (.seq doc_Kids_r2 (.cond (.t 11) (.seq doc_Kids_r3 .ret) .skip))) (.seq doc_Kids_r4 .ret)))
abbrev doc_Kids_E : Env := { N := 16, Γ := [], L := 16, nfix := 0 }
abbrev doc_Kids_R : List RSrc := [.tmp 4, .tmp 5]
theorem mk_doc_Kids {base : Nat} {av : List AV} {r : RV} (hfo : formOk doc_Kids_E base av) (hW : AVs.fits av → hwp Tryd.prog doc_Kids (finQ doc_Kids_E base av doc_Kids_R r) (F0 doc_Kids_E base av)) (hov : ∀ x, r.res = .ov x → nOwn av = 0 := by intro x h; cases h <;> rfl) : Contract Tryd.prog fn_doc_Kids av r :=
  contract_of_wp (fn := Tryd.f12) (c := Tryd.f12.body.getD .skip) (by kernel_rfl) (by kernel_rfl) (by kernel_rfl) (by kernel_rfl) (by kernel_rfl) (by kernel_rfl) (by kernel_rfl) hfo hW hov
abbrev doc_Under_r0 : HCode := .reg [⟨none, .val 2 (.boxF (.t 0))⟩,
    ⟨none, .val 4 (.mv (.c (iv 0)))⟩,
    ⟨none, .val 5 (.mv (.c (iv 0)))⟩] false []
abbrev doc_Under_r1 : HCode := .reg [⟨none, .val 7 (.ldR (.t 2) 1 true)⟩,
    ⟨none, .val 8 (.mv (.t 1))⟩,
    ⟨none, .call (some 9) fn_doc_there [(.t 7, .v), (.t 8, .v)]⟩,
    ⟨none, .val 6 (.mv (.t 9))⟩] false [.forget [7, 8, 9]]
abbrev doc_Under_r2 : HCode := .reg [⟨none, .val 10 (.mv (.t 6))⟩,
    ⟨none, .val 11 (.ints .neq (.t 10) (.c (iv 0)))⟩] false [.forget [10]]
abbrev doc_Under_r3 : HCode := .reg [⟨none, .val 12 (.mv (.t 6))⟩,
    ⟨none, .val 4 (.mv (.c (iv 0)))⟩,
    ⟨none, .val 5 (.mv (.t 12))⟩] false [.forget [12]]
abbrev doc_Under_r4 : HCode := .reg [⟨none, .val 13 (.ldR (.t 2) 1 true)⟩,
    ⟨none, .val 14 (.mv (.t 1))⟩,
    ⟨none, .call (some 15) fn_doc_behind [(.t 13, .v), (.t 14, .v)]⟩,
    ⟨none, .val 16 (.mv (.t 1))⟩,
    ⟨none, .val 17 (.ints .sub (.t 15) (.t 16))⟩,
    ⟨none, .val 18 (.ints .sub (.t 17) (.c (iv 1)))⟩,
    ⟨none, .val 4 (.mv (.t 18))⟩,
    ⟨none, .val 5 (.mv (.c (iv 0)))⟩] false [.forget [13, 14, 15, 16, 17, 18]]
abbrev doc_Under : HCode := (.seq doc_Under_r0 (.seq (.seq doc_Under_r1 (.seq doc_Under_r2 (.cond (.t 11) (.seq doc_Under_r3 .ret) .skip))) (.seq doc_Under_r4 .ret)))
abbrev doc_Under_E : Env := { N := 19, Γ := [], L := 19, nfix := 0 }
abbrev doc_Under_R : List RSrc := [.tmp 4, .tmp 5]
theorem mk_doc_Under {base : Nat} {av : List AV} {r : RV} (hfo : formOk doc_Under_E base av) (hW : AVs.fits av → hwp Tryd.prog doc_Under (finQ doc_Under_E base av doc_Under_R r) (F0 doc_Under_E base av)) (hov : ∀ x, r.res = .ov x → nOwn av = 0 := by intro x h; cases h <;> rfl) : Contract Tryd.prog fn_doc_Under av r :=
  contract_of_wp (fn := Tryd.f13) (c := Tryd.f13.body.getD .skip) (by kernel_rfl) (by kernel_rfl) (by kernel_rfl) (by kernel_rfl) (by kernel_rfl) (by kernel_rfl) (by kernel_rfl) hfo hW hov
abbrev doc_own_r0 : HCode := .reg [⟨none, .nlo 4 ty_api_Node 5⟩] false []
abbrev doc_own_r1 : HCode := .reg [⟨none, .nlo 5 ty_api_Node 5⟩] false []
abbrev doc_own_r2 : HCode := .reg [⟨none, .val 8 (.mv (.t 0))⟩,
    ⟨none, .val 9 (.len false (.t 8))⟩,
    ⟨none, .val 10 (.mv (.c (iv 0)))⟩] false []
abbrev doc_own_r3 : HCode := .reg [⟨none, .val 11 (.ints .lss (.t 10) (.t 9))⟩] false []
abbrev doc_own_r4 : HCode := .reg [⟨none, .val 12 (.idxA 5 (.t 8) (.t 10))⟩,
    ⟨none, .val 13 (.ldR (.t 12) 5 true)⟩,
    ⟨none, .alloc 7 0 33 [.v (.int .i64 0), .v (mkS []), .v (mkS []), .nl 1, .nl 2]⟩,
    ⟨none, .sto (.t 7) 0 33 0 5 (.t 13)⟩] false [.forget [12, 13]]
abbrev doc_own_r5 : HCode := .drg [⟨0, false, ⟨none, .val 14 (.mv (.t 1))⟩⟩,
    ⟨1, false, ⟨none, .val 15 (.fldP (.t 7) 0)⟩⟩,
    ⟨2, false, ⟨none, .val 16 (.ldB (.t 15) 0 33 0 1 false)⟩⟩,
    ⟨3, false, ⟨none, .callv (some 17) (.t 14) [(.t 16, .v)]⟩⟩,
    ⟨4, false, ⟨none, .val 18 (.fldP (.t 7) 3)⟩⟩,
    ⟨5, false, ⟨none, .val 19 (.ldB (.t 18) 0 33 3 1 false)⟩⟩,
    ⟨6, false, ⟨none, .call (some 20) fn_slices_Clone_string [(.t 19, .v)]⟩⟩,
    ⟨7, false, ⟨none, .val 21 (.fldP (.t 7) 4)⟩⟩,
    ⟨8, false, ⟨none, .val 22 (.ldB (.t 21) 0 33 4 1 false)⟩⟩,
    ⟨9, false, ⟨none, .call (some 23) fn_slices_Clone_Attr [(.t 22, .v)]⟩⟩,
    ⟨10, false, ⟨none, .val 24 (.fldP (.t 7) 0)⟩⟩,
    ⟨11, false, ⟨none, .sto (.t 24) 0 33 0 1 (.t 17)⟩⟩,
    ⟨12, false, ⟨none, .val 25 (.fldP (.t 7) 3)⟩⟩,
    ⟨13, false, ⟨none, .sto (.t 25) 0 33 3 1 (.t 20)⟩⟩,
    ⟨14, false, ⟨none, .val 26 (.fldP (.t 7) 4)⟩⟩,
    ⟨15, false, ⟨none, .sto (.t 26) 0 33 4 1 (.t 23)⟩⟩] [.forget [14, 15, 16, 17, 18, 19, 20, 21, 22, 23, 24, 25, 26]]
abbrev doc_own_r6 : HCode := .reg [⟨none, .mvo 27 5⟩,
    ⟨none, .val 28 (.ldB (.t 7) 0 33 0 5 true)⟩,
    ⟨none, .val 29 (.bslF 5 [.t 28])⟩,
    ⟨none, .app 30 ty_api_Node 5 (.t 27) (.t 29)⟩,
    ⟨none, .mvo 5 30⟩] false [.forget [27, 28, 29, 30]]
abbrev doc_own_r7 : HCode := .reg [⟨none, .val 31 (.ints .add (.t 10) (.c (iv 1)))⟩,
    ⟨none, .val 10 (.mv (.t 31))⟩] false [.forget [31]]
abbrev doc_own_r8 : HCode := .reg [⟨none, .mvo 32 5⟩,
    ⟨none, .mvo 4 32⟩] false [.forget [32]]
abbrev doc_own : HCode := (.seq doc_own_r0 (.seq doc_own_r1 (.seq (.seq doc_own_r2 (.block 0 (.loop (.seq doc_own_r3 (.seq (.cond (.t 11) .skip (.exit 0)) (.seq (.block 1 (.seq doc_own_r4 (.seq doc_own_r5 doc_own_r6))) doc_own_r7)))))) (.seq doc_own_r8 .ret))))
abbrev doc_own_E : Env := { N := 33, Γ := [(33, 5)], L := 38, nfix := 0 }
abbrev doc_own_R : List RSrc := [.tmp 4]
theorem mk_doc_own {base : Nat} {av : List AV} {r : RV} (hfo : formOk doc_own_E base av) (hW : AVs.fits av → hwp Tryd.prog doc_own (finQ doc_own_E base av doc_own_R r) (F0 doc_own_E base av)) (hov : ∀ x, r.res = .ov x → nOwn av = 0 := by intro x h; cases h <;> rfl) : Contract Tryd.prog fn_doc_own av r :=
  contract_of_wp (fn := Tryd.f57) (c := Tryd.f57.body.getD .skip) (by kernel_rfl) (by kernel_rfl) (by kernel_rfl) (by kernel_rfl) (by kernel_rfl) (by kernel_rfl) (by kernel_rfl) hfo hW hov
abbrev doc_Part_r0 : HCode := .reg [⟨none, .val 2 (.boxF (.t 0))⟩,
    ⟨none, .val 3 (.boxF (.t 1))⟩,
    ⟨none, .alloc 4 0 24 [.nl 5]⟩,
    ⟨none, .val 5 (.mv (.c (iv 0)))⟩] false []
abbrev doc_Part_r1 : HCode := .reg [⟨none, .val 7 (.ldR (.t 2) 1 true)⟩,
    ⟨none, .val 8 (.ldR (.t 3) 1 false)⟩,
    ⟨none, .call (some 9) fn_doc_there [(.t 7, .v), (.t 8, .v)]⟩,
    ⟨none, .val 6 (.mv (.t 9))⟩] false [.forget [7, 8, 9]]
abbrev doc_Part_r2 : HCode := .reg [⟨none, .val 10 (.mv (.t 6))⟩,
    ⟨none, .val 11 (.ints .neq (.t 10) (.c (iv 0)))⟩] false [.forget [10]]
abbrev doc_Part_r3 : HCode := .reg [⟨none, .val 12 (.bld [.nl 5] [])⟩,
    ⟨none, .val 13 (.mv (.t 6))⟩,
    ⟨none, .sto (.t 4) 0 24 0 1 (.t 12)⟩,
    ⟨none, .val 5 (.mv (.t 13))⟩] false [.forget [12, 13]]
abbrev doc_Part_r4 : HCode := .drg [⟨0, false, ⟨none, .val 14 (.fldR (.t 2) 0 1)⟩⟩,
    ⟨1, false, ⟨none, .val 15 (.ldR (.t 14) 1 false)⟩⟩,
    ⟨2, false, ⟨none, .val 16 (.ldR (.t 3) 1 false)⟩⟩,
    ⟨3, false, ⟨none, .val 17 (.ldR (.t 2) 1 true)⟩⟩,
    ⟨4, false, ⟨none, .val 18 (.ldR (.t 3) 1 false)⟩⟩,
    ⟨5, false, ⟨none, .call (some 19) fn_doc_behind [(.t 17, .v), (.t 18, .v)]⟩⟩,
    ⟨6, false, ⟨none, .val 20 (.slr 5 (.t 15) (some (.t 16)) (some (.t 19)))⟩⟩,
    ⟨7, false, ⟨none, .val 21 (.mkf fn_doc_Part_1 [.t 3])⟩⟩,
    ⟨8, true, ⟨none, .call (some 22) fn_doc_own [(.t 20, .v), (.t 21, .v)]⟩⟩,
    ⟨9, false, ⟨none, .val 23 (.bld [.nl 5] [(0, 1, .t 22)])⟩⟩,
    ⟨10, false, ⟨none, .sto (.t 4) 0 24 0 1 (.t 23)⟩⟩,
    ⟨11, false, ⟨none, .val 5 (.mv (.c (iv 0)))⟩⟩] [.forget [14, 15, 16, 17, 18, 19, 20, 21, 22, 23]]
abbrev doc_Part : HCode := (.seq doc_Part_r0 (.seq (.seq doc_Part_r1 (.seq doc_Part_r2 (.cond (.t 11) (.seq doc_Part_r3 .ret) .skip))) (.seq doc_Part_r4 .ret)))
abbrev doc_Part_E : Env := { N := 24, Γ := [(24, 1)], L := 25, nfix := 0 }
abbrev doc_Part_R : List RSrc := [.cellB 4 0 24 0 1 true, .tmp 5]
theorem mk_doc_Part {base : Nat} {av : List AV} {r : RV} (hfo : formOk doc_Part_E base av) (hW : AVs.fits av → hwp Tryd.prog doc_Part (finQ doc_Part_E base av doc_Part_R r) (F0 doc_Part_E base av)) (hov : ∀ x, r.res = .ov x → nOwn av = 0 := by intro x h; cases h <;> rfl) : Contract Tryd.prog fn_doc_Part av r :=
  contract_of_wp (fn := Tryd.f14) (c := Tryd.f14.body.getD .skip) (by kernel_rfl) (by kernel_rfl) (by kernel_rfl) (by kernel_rfl) (by kernel_rfl) (by kernel_rfl) (by kernel_rfl) hfo hW hov
abbrev doc_Part_1_r0 : HCode := .reg [⟨none, .val 3 (.mv (.c (iv 0)))⟩] false []
abbrev doc_Part_1_r1 : HCode := .reg [⟨none, .val 4 (.mv (.t 0))⟩,
    ⟨none, .val 5 (.ldR (.t 1) 1 false)⟩,
    ⟨none, .val 6 (.ints .sub (.t 4) (.t 5))⟩,
    ⟨none, .val 7 (.mx (.t 6) (.c (iv (-1))))⟩,
    ⟨none, .val 3 (.mv (.t 7))⟩] false [.forget [4, 5, 6, 7]]
abbrev doc_Part_1 : HCode := (.seq doc_Part_1_r0 (.seq doc_Part_1_r1 .ret))
abbrev doc_Part_1_E : Env := { N := 8, Γ := [], L := 8, nfix := 0 }
abbrev doc_Part_1_R : List RSrc := [.tmp 3]
theorem mk_doc_Part_1 {base : Nat} {av : List AV} {r : RV} (hfo : formOk doc_Part_1_E base av) (hW : AVs.fits av → hwp Tryd.prog doc_Part_1 (finQ doc_Part_1_E base av doc_Part_1_R r) (F0 doc_Part_1_E base av)) (hov : ∀ x, r.res = .ov x → nOwn av = 0 := by intro x h; cases h <;> rfl) : Contract Tryd.prog fn_doc_Part_1 av r :=
  contract_of_wp (fn := Tryd.f58) (c := Tryd.f58.body.getD .skip) (by kernel_rfl) (by kernel_rfl) (by kernel_rfl) (by kernel_rfl) (by kernel_rfl) (by kernel_rfl) (by kernel_rfl) hfo hW hov
abbrev doc_Insert_r0 : HCode := .reg [⟨none, .val 4 (.boxF (.t 0))⟩,
    ⟨none, .val 5 (.boxF (.t 1))⟩,
    ⟨none, .val 7 (.boxF (.t 3))⟩,
    ⟨none, .alloc 8 0 89 [.nl 5]⟩,
    ⟨none, .val 9 (.mv (.c (iv 0)))⟩] false []
abbrev doc_Insert_r1 : HCode := .reg [⟨none, .val 16 (.ldR (.t 4) 1 true)⟩,
    ⟨none, .call (some 17) fn_doc_Check [(.t 16, .v)]⟩,
    ⟨none, .val 10 (.mv (.t 17))⟩] false [.forget [16, 17]]
abbrev doc_Insert_r2 : HCode := .reg [⟨none, .val 18 (.mv (.t 10))⟩,
    ⟨none, .val 19 (.ints .neq (.t 18) (.c (iv 0)))⟩] false [.forget [18]]
abbrev doc_Insert_r3 : HCode := .reg [⟨none, .val 20 (.bld [.nl 5] [])⟩,
    ⟨none, .val 21 (.mv (.t 10))⟩,
    ⟨none, .sto (.t 8) 0 89 0 1 (.t 20)⟩,
    ⟨none, .val 9 (.mv (.t 21))⟩] false [.forget [20, 21]]
abbrev doc_Insert_r4 : HCode := .reg [⟨none, .val 22 (.ldR (.t 7) 1 true)⟩,
    ⟨none, .call (some 23) fn_doc_Check [(.t 22, .v)]⟩,
    ⟨none, .val 11 (.mv (.t 23))⟩] false [.forget [22, 23]]
abbrev doc_Insert_r5 : HCode := .reg [⟨none, .val 24 (.mv (.t 11))⟩,
    ⟨none, .val 25 (.ints .neq (.t 24) (.c (iv 0)))⟩] false [.forget [24]]
abbrev doc_Insert_r6 : HCode := .reg [⟨none, .val 26 (.bld [.nl 5] [])⟩,
    ⟨none, .val 27 (.mv (.t 11))⟩,
    ⟨none, .sto (.t 8) 0 89 0 1 (.t 26)⟩,
    ⟨none, .val 9 (.mv (.t 27))⟩] false [.forget [26, 27]]
abbrev doc_Insert_r7 : HCode := .reg [⟨none, .val 28 (.ldR (.t 5) 1 false)⟩,
    ⟨none, .val 29 (.ints .lss (.t 28) (.c (iv 0)))⟩,
    ⟨none, .val 30 (.mv (.t 29))⟩,
    ⟨some (30, false), .val 31 (.ldR (.t 5) 1 false)⟩,
    ⟨some (30, false), .val 32 (.fldR (.t 4) 0 1)⟩,
    ⟨some (30, false), .val 33 (.ldR (.t 32) 1 false)⟩,
    ⟨some (30, false), .val 34 (.len false (.t 33))⟩,
    ⟨some (30, false), .val 35 (.ints .geq (.t 31) (.t 34))⟩,
    ⟨none, .val 36 (.pick (.t 30) (.c (bv true)) (.t 35))⟩] false [.forget [28, 29, 30, 31, 32, 33, 34, 35]]
abbrev doc_Insert_r8 : HCode := .reg [⟨none, .val 37 (.bld [.nl 5] [])⟩,
    ⟨none, .sto (.t 8) 0 89 0 1 (.t 37)⟩,
    ⟨none, .val 9 (.mv (.c (iv 5)))⟩] false [.forget [37]]
abbrev doc_Insert_r9 : HCode := .drg [⟨0, false, ⟨none, .val 38 (.ldR (.t 4) 1 true)⟩⟩,
    ⟨1, false, ⟨none, .val 39 (.ldR (.t 5) 1 false)⟩⟩,
    ⟨2, false, ⟨none, .call (some 40) fn_doc_kids [(.t 38, .v), (.t 39, .v)]⟩⟩,
    ⟨3, false, ⟨none, .val 41 (.ldR (.t 4) 1 true)⟩⟩,
    ⟨4, false, ⟨none, .val 42 (.ldR (.t 5) 1 false)⟩⟩,
    ⟨5, true, ⟨none, .call (some 43) fn_doc_behind [(.t 41, .v), (.t 42, .v)]⟩⟩,
    ⟨6, false, ⟨none, .val 44 (.bslF 1 [.t 43])⟩⟩,
    ⟨7, false, ⟨none, .app 45 ty_int 1 (.t 40) (.t 44)⟩⟩,
    ⟨8, false, ⟨none, .val 12 (.mv (.t 45))⟩⟩] [.forget [38, 39, 40, 41, 42, 43, 44, 45]]
abbrev doc_Insert_r10 : HCode := .reg [⟨none, .val 46 (.mv (.t 2))⟩,
    ⟨none, .val 47 (.ints .lss (.t 46) (.c (iv 0)))⟩,
    ⟨none, .val 48 (.mv (.t 47))⟩,
    ⟨some (48, false), .val 49 (.mv (.t 2))⟩,
    ⟨some (48, false), .val 50 (.mv (.t 12))⟩,
    ⟨some (48, false), .val 51 (.len false (.t 50))⟩,
    ⟨some (48, false), .val 52 (.ints .geq (.t 49) (.t 51))⟩,
    ⟨none, .val 53 (.pick (.t 48) (.c (bv true)) (.t 52))⟩] false [.forget [46, 47, 48, 49, 50, 51, 52]]
abbrev doc_Insert_r11 : HCode := .reg [⟨none, .val 54 (.bld [.nl 5] [])⟩,
    ⟨none, .sto (.t 8) 0 89 0 1 (.t 54)⟩,
    ⟨none, .val 9 (.mv (.c (iv 3)))⟩] false [.forget [54]]
abbrev doc_Insert_r12 : HCode := .reg [⟨none, .val 55 (.fldR (.t 4) 0 1)⟩,
    ⟨none, .val 56 (.ldR (.t 55) 1 false)⟩,
    ⟨none, .val 57 (.len false (.t 56))⟩,
    ⟨none, .val 58 (.fldR (.t 7) 0 1)⟩,
    ⟨none, .val 59 (.ldR (.t 58) 1 false)⟩,
    ⟨none, .val 60 (.len false (.t 59))⟩,
    ⟨none, .val 61 (.ints .add (.t 57) (.t 60))⟩,
    ⟨none, .val 62 (.ints .gtr (.t 61) (.c (iv 64)))⟩] false [.forget [55, 56, 57, 58, 59, 60, 61]]
abbrev doc_Insert_r13 : HCode := .reg [⟨none, .val 63 (.bld [.nl 5] [])⟩,
    ⟨none, .sto (.t 8) 0 89 0 1 (.t 63)⟩,
    ⟨none, .val 9 (.mv (.c (iv 2)))⟩] false [.forget [63]]
abbrev doc_Insert_r14 : HCode := .reg [⟨none, .val 64 (.mv (.t 12))⟩,
    ⟨none, .val 65 (.mv (.t 2))⟩,
    ⟨none, .val 66 (.idxA 1 (.t 64) (.t 65))⟩,
    ⟨none, .val 67 (.ldR (.t 66) 1 false)⟩,
    ⟨none, .alloc 13 1 90 [.v (.int .i64 0)]⟩,
    ⟨none, .sto (.t 13) 1 90 0 1 (.t 67)⟩] false [.frz 1 90 1, .forget [64, 65, 66, 67]]
abbrev doc_Insert_r15 : HCode := .reg [⟨none, .val 68 (.mkf fn_doc_Insert_1 [.t 13, .t 7])⟩,
    ⟨none, .val 14 (.mv (.t 68))⟩] false [.forget [68]]
abbrev doc_Insert_r16 : HCode := .reg [⟨none, .val 69 (.mkf fn_doc_Insert_2 [.t 5, .t 13])⟩,
    ⟨none, .val 15 (.mv (.t 69))⟩] false [.forget [69]]
abbrev doc_Insert_r17 : HCode := .drg [⟨0, false, ⟨none, .val 70 (.fldR (.t 4) 0 1)⟩⟩,
    ⟨1, false, ⟨none, .val 71 (.ldR (.t 70) 1 false)⟩⟩,
    ⟨2, false, ⟨none, .val 72 (.ldR (.t 13) 1 false)⟩⟩,
    ⟨3, false, ⟨none, .val 73 (.slr 5 (.t 71) none (some (.t 72)))⟩⟩,
    ⟨4, false, ⟨none, .val 74 (.mv (.t 14))⟩⟩,
    ⟨5, false, ⟨none, .call (some 75) fn_doc_own [(.t 73, .v), (.t 74, .v)]⟩⟩,
    ⟨6, false, ⟨none, .val 76 (.fldR (.t 7) 0 1)⟩⟩,
    ⟨7, false, ⟨none, .val 77 (.ldR (.t 76) 1 false)⟩⟩,
    ⟨8, false, ⟨none, .val 78 (.mv (.t 15))⟩⟩,
    ⟨9, false, ⟨none, .call (some 79) fn_doc_own [(.t 77, .v), (.t 78, .v)]⟩⟩,
    ⟨10, false, ⟨none, .val 80 (.fldR (.t 4) 0 1)⟩⟩,
    ⟨11, false, ⟨none, .val 81 (.ldR (.t 80) 1 false)⟩⟩,
    ⟨12, false, ⟨none, .val 82 (.ldR (.t 13) 1 false)⟩⟩,
    ⟨13, false, ⟨none, .val 83 (.slr 5 (.t 81) (some (.t 82)) none)⟩⟩,
    ⟨14, false, ⟨none, .val 84 (.mv (.t 14))⟩⟩,
    ⟨15, true, ⟨none, .call (some 85) fn_doc_own [(.t 83, .v), (.t 84, .v)]⟩⟩,
    ⟨16, false, ⟨none, .val 86 (.bslF 1 [.t 75, .t 79, .t 85])⟩⟩,
    ⟨17, true, ⟨none, .call (some 87) fn_slices_Concat_Node [(.t 86, .v)]⟩⟩,
    ⟨18, false, ⟨none, .val 88 (.bld [.nl 5] [(0, 1, .t 87)])⟩⟩,
    ⟨19, false, ⟨none, .sto (.t 8) 0 89 0 1 (.t 88)⟩⟩,
    ⟨20, false, ⟨none, .val 9 (.mv (.c (iv 0)))⟩⟩] [.forget [70, 71, 72, 73, 74, 75, 76, 77, 78, 79, 80, 81, 82, 83, 84, 85, 86, 87, 88]]
abbrev doc_Insert : HCode := (.seq doc_Insert_r0 (.seq (.seq doc_Insert_r1 (.seq doc_Insert_r2 (.cond (.t 19) (.seq doc_Insert_r3 .ret) .skip))) (.seq (.seq doc_Insert_r4 (.seq doc_Insert_r5 (.cond (.t 25) (.seq doc_Insert_r6 .ret) .skip))) (.seq (.seq doc_Insert_r7 (.cond (.t 36) (.seq doc_Insert_r8 .ret) .skip)) (.seq doc_Insert_r9 (.seq (.seq doc_Insert_r10 (.cond (.t 53) (.seq doc_Insert_r11 .ret) .skip)) (.seq (.seq doc_Insert_r12 (.cond (.t 62) (.seq doc_Insert_r13 .ret) .skip)) (.seq doc_Insert_r14 (.seq doc_Insert_r15 (.seq doc_Insert_r16 (.seq doc_Insert_r17 .ret)))))))))))
abbrev doc_Insert_E : Env := { N := 89, Γ := [(89, 1), (90, 1)], L := 91, nfix := 0 }
abbrev doc_Insert_R : List RSrc := [.cellB 8 0 89 0 1 true, .tmp 9]
theorem mk_doc_Insert {base : Nat} {av : List AV} {r : RV} (hfo : formOk doc_Insert_E base av) (hW : AVs.fits av → hwp Tryd.prog doc_Insert (finQ doc_Insert_E base av doc_Insert_R r) (F0 doc_Insert_E base av)) (hov : ∀ x, r.res = .ov x → nOwn av = 0 := by intro x h; cases h <;> rfl) : Contract Tryd.prog fn_doc_Insert av r :=
  contract_of_wp (fn := Tryd.f24) (c := Tryd.f24.body.getD .skip) (by kernel_rfl) (by kernel_rfl) (by kernel_rfl) (by kernel_rfl) (by kernel_rfl) (by kernel_rfl) (by kernel_rfl) hfo hW hov
abbrev doc_Insert_1_r0 : HCode := .reg [⟨none, .val 4 (.mv (.c (iv 0)))⟩] false []
abbrev doc_Insert_1_r1 : HCode := .reg [⟨none, .val 5 (.mv (.t 0))⟩,
    ⟨none, .val 6 (.ldR (.t 1) 1 false)⟩,
    ⟨none, .val 7 (.ints .geq (.t 5) (.t 6))⟩] false [.forget [5, 6]]
abbrev doc_Insert_1_r2 : HCode := .reg [⟨none, .val 8 (.mv (.t 0))⟩,
    ⟨none, .val 9 (.fldR (.t 2) 0 1)⟩,
    ⟨none, .val 10 (.ldR (.t 9) 1 false)⟩,
    ⟨none, .val 11 (.len false (.t 10))⟩,
    ⟨none, .val 12 (.ints .add (.t 8) (.t 11))⟩,
    ⟨none, .val 4 (.mv (.t 12))⟩] false [.forget [8, 9, 10, 11, 12]]
abbrev doc_Insert_1_r3 : HCode := .reg [⟨none, .val 13 (.mv (.t 0))⟩,
    ⟨none, .val 4 (.mv (.t 13))⟩] false [.forget [13]]
abbrev doc_Insert_1 : HCode := (.seq doc_Insert_1_r0 (.seq (.seq doc_Insert_1_r1 (.cond (.t 7) (.seq doc_Insert_1_r2 .ret) .skip)) (.seq doc_Insert_1_r3 .ret)))
abbrev doc_Insert_1_E : Env := { N := 14, Γ := [], L := 14, nfix := 0 }
abbrev doc_Insert_1_R : List RSrc := [.tmp 4]
theorem mk_doc_Insert_1 {base : Nat} {av : List AV} {r : RV} (hfo : formOk doc_Insert_1_E base av) (hW : AVs.fits av → hwp Tryd.prog doc_Insert_1 (finQ doc_Insert_1_E base av doc_Insert_1_R r) (F0 doc_Insert_1_E base av)) (hov : ∀ x, r.res = .ov x → nOwn av = 0 := by intro x h; cases h <;> rfl) : Contract Tryd.prog fn_doc_Insert_1 av r :=
  contract_of_wp (fn := Tryd.f68) (c := Tryd.f68.body.getD .skip) (by kernel_rfl) (by kernel_rfl) (by kernel_rfl) (by kernel_rfl) (by kernel_rfl) (by kernel_rfl) (by kernel_rfl) hfo hW hov
abbrev doc_Insert_2_r0 : HCode := .reg [⟨none, .val 4 (.mv (.c (iv 0)))⟩] false []
abbrev doc_Insert_2_r1 : HCode := .reg [⟨none, .val 5 (.mv (.t 0))⟩,
    ⟨none, .val 6 (.ints .lss (.t 5) (.c (iv 0)))⟩] false [.forget [5]]
abbrev doc_Insert_2_r2 : HCode := .reg [⟨none, .val 7 (.ldR (.t 1) 1 false)⟩,
    ⟨none, .val 4 (.mv (.t 7))⟩] false [.forget [7]]
abbrev doc_Insert_2_r3 : HCode := .reg [⟨none, .val 8 (.mv (.t 0))⟩,
    ⟨none, .val 9 (.ldR (.t 2) 1 false)⟩,
    ⟨none, .val 10 (.ints .add (.t 8) (.t 9))⟩,
    ⟨none, .val 4 (.mv (.t 10))⟩] false [.forget [8, 9, 10]]
abbrev doc_Insert_2 : HCode := (.seq doc_Insert_2_r0 (.seq (.seq doc_Insert_2_r1 (.cond (.t 6) (.seq doc_Insert_2_r2 .ret) .skip)) (.seq doc_Insert_2_r3 .ret)))
abbrev doc_Insert_2_E : Env := { N := 11, Γ := [], L := 11, nfix := 0 }
abbrev doc_Insert_2_R : List RSrc := [.tmp 4]
theorem mk_doc_Insert_2 {base : Nat} {av : List AV} {r : RV} (hfo : formOk doc_Insert_2_E base av) (hW : AVs.fits av → hwp Tryd.prog doc_Insert_2 (finQ doc_Insert_2_E base av doc_Insert_2_R r) (F0 doc_Insert_2_E base av)) (hov : ∀ x, r.res = .ov x → nOwn av = 0 := by intro x h; cases h <;> rfl) : Contract Tryd.prog fn_doc_Insert_2 av r :=
  contract_of_wp (fn := Tryd.f69) (c := Tryd.f69.body.getD .skip) (by kernel_rfl) (by kernel_rfl) (by kernel_rfl) (by kernel_rfl) (by kernel_rfl) (by kernel_rfl) (by kernel_rfl) hfo hW hov
abbrev doc_Remove_r0 : HCode := .reg [⟨none, .val 2 (.boxF (.t 0))⟩,
    ⟨none, .val 3 (.boxF (.t 1))⟩,
    ⟨none, .alloc 4 0 38 [.nl 5]⟩,
    ⟨none, .val 5 (.mv (.c (iv 0)))⟩] false []
abbrev doc_Remove_r1 : HCode := .reg [⟨none, .val 9 (.ldR (.t 2) 1 true)⟩,
    ⟨none, .val 10 (.ldR (.t 3) 1 false)⟩,
    ⟨none, .call (some 11) fn_doc_there [(.t 9, .v), (.t 10, .v)]⟩,
    ⟨none, .val 6 (.mv (.t 11))⟩] false [.forget [9, 10, 11]]
abbrev doc_Remove_r2 : HCode := .reg [⟨none, .val 12 (.mv (.t 6))⟩,
    ⟨none, .val 13 (.ints .neq (.t 12) (.c (iv 0)))⟩] false [.forget [12]]
abbrev doc_Remove_r3 : HCode := .reg [⟨none, .val 14 (.bld [.nl 5] [])⟩,
    ⟨none, .val 15 (.mv (.t 6))⟩,
    ⟨none, .sto (.t 4) 0 38 0 1 (.t 14)⟩,
    ⟨none, .val 5 (.mv (.t 15))⟩] false [.forget [14, 15]]
abbrev doc_Remove_r4 : HCode := .reg [⟨none, .val 16 (.ldR (.t 3) 1 false)⟩,
    ⟨none, .val 17 (.ints .eql (.t 16) (.c (iv 0)))⟩] false [.forget [16]]
abbrev doc_Remove_r5 : HCode := .reg [⟨none, .val 18 (.bld [.nl 5] [])⟩,
    ⟨none, .sto (.t 4) 0 38 0 1 (.t 18)⟩,
    ⟨none, .val 5 (.mv (.c (iv 3)))⟩] false [.forget [18]]
abbrev doc_Remove_r6 : HCode := .reg [⟨none, .val 19 (.ldR (.t 2) 1 true)⟩,
    ⟨none, .val 20 (.ldR (.t 3) 1 false)⟩,
    ⟨none, .call (some 21) fn_doc_behind [(.t 19, .v), (.t 20, .v)]⟩,
    ⟨none, .alloc 7 1 39 [.v (.int .i64 0)]⟩,
    ⟨none, .sto (.t 7) 1 39 0 1 (.t 21)⟩] false [.frz 1 39 1, .forget [19, 20, 21]]
abbrev doc_Remove_r7 : HCode := .reg [⟨none, .val 22 (.mkf fn_doc_Remove_1 [.t 7, .t 3])⟩,
    ⟨none, .val 8 (.mv (.t 22))⟩] false [.forget [22]]
abbrev doc_Remove_r8 : HCode := .drg [⟨0, false, ⟨none, .val 23 (.fldR (.t 2) 0 1)⟩⟩,
    ⟨1, false, ⟨none, .val 24 (.ldR (.t 23) 1 false)⟩⟩,
    ⟨2, false, ⟨none, .val 25 (.ldR (.t 3) 1 false)⟩⟩,
    ⟨3, false, ⟨none, .val 26 (.slr 5 (.t 24) none (some (.t 25)))⟩⟩,
    ⟨4, false, ⟨none, .val 27 (.mv (.t 8))⟩⟩,
    ⟨5, false, ⟨none, .call (some 28) fn_doc_own [(.t 26, .v), (.t 27, .v)]⟩⟩,
    ⟨6, false, ⟨none, .val 29 (.fldR (.t 2) 0 1)⟩⟩,
    ⟨7, false, ⟨none, .val 30 (.ldR (.t 29) 1 false)⟩⟩,
    ⟨8, false, ⟨none, .val 31 (.ldR (.t 7) 1 false)⟩⟩,
    ⟨9, false, ⟨none, .val 32 (.slr 5 (.t 30) (some (.t 31)) none)⟩⟩,
    ⟨10, false, ⟨none, .val 33 (.mv (.t 8))⟩⟩,
    ⟨11, true, ⟨none, .call (some 34) fn_doc_own [(.t 32, .v), (.t 33, .v)]⟩⟩,
    ⟨12, false, ⟨none, .val 35 (.bslF 1 [.t 28, .t 34])⟩⟩,
    ⟨13, true, ⟨none, .call (some 36) fn_slices_Concat_Node [(.t 35, .v)]⟩⟩,
    ⟨14, false, ⟨none, .val 37 (.bld [.nl 5] [(0, 1, .t 36)])⟩⟩,
    ⟨15, false, ⟨none, .sto (.t 4) 0 38 0 1 (.t 37)⟩⟩,
    ⟨16, false, ⟨none, .val 5 (.mv (.c (iv 0)))⟩⟩] [.forget [23, 24, 25, 26, 27, 28, 29, 30, 31, 32, 33, 34, 35, 36, 37]]
abbrev doc_Remove : HCode := (.seq doc_Remove_r0 (.seq (.seq doc_Remove_r1 (.seq doc_Remove_r2 (.cond (.t 13) (.seq doc_Remove_r3 .ret) .skip))) (.seq (.seq doc_Remove_r4 (.cond (.t 17) (.seq doc_Remove_r5 .ret) .skip)) (.seq doc_Remove_r6 (.seq doc_Remove_r7 (.seq doc_Remove_r8 .ret))))))
abbrev doc_Remove_E : Env := { N := 38, Γ := [(38, 1), (39, 1)], L := 40, nfix := 0 }
abbrev doc_Remove_R : List RSrc := [.cellB 4 0 38 0 1 true, .tmp 5]
theorem mk_doc_Remove {base : Nat} {av : List AV} {r : RV} (hfo : formOk doc_Remove_E base av) (hW : AVs.fits av → hwp Tryd.prog doc_Remove (finQ doc_Remove_E base av doc_Remove_R r) (F0 doc_Remove_E base av)) (hov : ∀ x, r.res = .ov x → nOwn av = 0 := by intro x h; cases h <;> rfl) : Contract Tryd.prog fn_doc_Remove av r :=
  contract_of_wp (fn := Tryd.f26) (c := Tryd.f26.body.getD .skip) (by kernel_rfl) (by kernel_rfl) (by kernel_rfl) (by kernel_rfl) (by kernel_rfl) (by kernel_rfl) (by kernel_rfl) hfo hW hov
abbrev doc_Remove_1_r0 : HCode := .reg [⟨none, .val 4 (.mv (.c (iv 0)))⟩] false []
abbrev doc_Remove_1_r1 : HCode := .reg [⟨none, .val 5 (.mv (.t 0))⟩,
    ⟨none, .val 6 (.ldR (.t 1) 1 false)⟩,
    ⟨none, .val 7 (.ints .geq (.t 5) (.t 6))⟩] false [.forget [5, 6]]
abbrev doc_Remove_1_r2 : HCode := .reg [⟨none, .val 8 (.mv (.t 0))⟩,
    ⟨none, .val 9 (.ldR (.t 1) 1 false)⟩,
    ⟨none, .val 10 (.ints .sub (.t 8) (.t 9))⟩,
    ⟨none, .val 11 (.ldR (.t 2) 1 false)⟩,
    ⟨none, .val 12 (.ints .add (.t 10) (.t 11))⟩,
    ⟨none, .val 4 (.mv (.t 12))⟩] false [.forget [8, 9, 10, 11, 12]]
abbrev doc_Remove_1_r3 : HCode := .reg [⟨none, .val 13 (.mv (.t 0))⟩,
    ⟨none, .val 4 (.mv (.t 13))⟩] false [.forget [13]]
abbrev doc_Remove_1 : HCode := (.seq doc_Remove_1_r0 (.seq (.seq doc_Remove_1_r1 (.cond (.t 7) (.seq doc_Remove_1_r2 .ret) .skip)) (.seq doc_Remove_1_r3 .ret)))
abbrev doc_Remove_1_E : Env := { N := 14, Γ := [], L := 14, nfix := 0 }
abbrev doc_Remove_1_R : List RSrc := [.tmp 4]
theorem mk_doc_Remove_1 {base : Nat} {av : List AV} {r : RV} (hfo : formOk doc_Remove_1_E base av) (hW : AVs.fits av → hwp Tryd.prog doc_Remove_1 (finQ doc_Remove_1_E base av doc_Remove_1_R r) (F0 doc_Remove_1_E base av)) (hov : ∀ x, r.res = .ov x → nOwn av = 0 := by intro x h; cases h <;> rfl) : Contract Tryd.prog fn_doc_Remove_1 av r :=
  contract_of_wp (fn := Tryd.f74) (c := Tryd.f74.body.getD .skip) (by kernel_rfl) (by kernel_rfl) (by kernel_rfl) (by kernel_rfl) (by kernel_rfl) (by kernel_rfl) (by kernel_rfl) hfo hW hov
abbrev doc_Put_1_r0 : HCode := .reg [⟨none, .val 2 (.mv (.c (iv 0)))⟩] false []
abbrev doc_Put_1_r1 : HCode := .reg [⟨none, .val 3 (.mv (.t 0))⟩,
    ⟨none, .val 2 (.mv (.t 3))⟩] false [.forget [3]]
abbrev doc_Put_1 : HCode := (.seq doc_Put_1_r0 (.seq doc_Put_1_r1 .ret))
abbrev doc_Put_1_E : Env := { N := 4, Γ := [], L := 4, nfix := 0 }
abbrev doc_Put_1_R : List RSrc := [.tmp 2]
theorem mk_doc_Put_1 {base : Nat} {av : List AV} {r : RV} (hfo : formOk doc_Put_1_E base av) (hW : AVs.fits av → hwp Tryd.prog doc_Put_1 (finQ doc_Put_1_E base av doc_Put_1_R r) (F0 doc_Put_1_E base av)) (hov : ∀ x, r.res = .ov x → nOwn av = 0 := by intro x h; cases h <;> rfl) : Contract Tryd.prog fn_doc_Put_1 av r :=
  contract_of_wp (fn := Tryd.f75) (c := Tryd.f75.body.getD .skip) (by kernel_rfl) (by kernel_rfl) (by kernel_rfl) (by kernel_rfl) (by kernel_rfl) (by kernel_rfl) (by kernel_rfl) hfo hW hov
abbrev slices_Concat_Node_r0 : HCode := .reg [⟨none, .nlo 2 ty_api_Node 5⟩] false []
abbrev slices_Concat_Node_r1 : HCode := .reg [⟨none, .val 3 (.mv (.c (iv 0)))⟩] false []
abbrev slices_Concat_Node_r2 : HCode := .reg [⟨none, .val 9 (.mv (.t 0))⟩,
    ⟨none, .val 10 (.len false (.t 9))⟩,
    ⟨none, .val 11 (.mv (.c (iv 0)))⟩] false []
abbrev slices_Concat_Node_r3 : HCode := .reg [⟨none, .val 12 (.ints .lss (.t 11) (.t 10))⟩] false []
abbrev slices_Concat_Node_r4 : HCode := .reg [⟨none, .val 13 (.idxA 1 (.t 9) (.t 11))⟩,
    ⟨none, .val 14 (.ldR (.t 13) 1 false)⟩,
    ⟨none, .val 5 (.mv (.t 14))⟩] false [.forget [13, 14]]
abbrev slices_Concat_Node_r5 : HCode := .reg [⟨none, .val 15 (.mv (.t 3))⟩,
    ⟨none, .val 16 (.mv (.t 5))⟩,
    ⟨none, .val 17 (.len false (.t 16))⟩,
    ⟨none, .val 18 (.ints .add (.t 15) (.t 17))⟩,
    ⟨none, .val 3 (.mv (.t 18))⟩] false [.forget [15, 16, 17, 18]]
abbrev slices_Concat_Node_r6 : HCode := .reg [⟨none, .val 19 (.mv (.t 3))⟩,
    ⟨none, .val 20 (.ints .lss (.t 19) (.c (iv 0)))⟩] false [.forget [19]]
abbrev slices_Concat_Node_r7 : HCode := .reg [⟨none, .val 21 (.mki ty_string (.c (sv [108, 101, 110, 32, 111, 117, 116, 32, 111, 102, 32, 114, 97, 110, 103, 101])))⟩,
    ⟨none, .pan (.t 21)⟩] false [.forget [21]]
abbrev slices_Concat_Node_r8 : HCode := .reg [⟨none, .val 22 (.ints .add (.t 11) (.c (iv 1)))⟩,
    ⟨none, .val 11 (.mv (.t 22))⟩] false [.forget [22]]
abbrev slices_Concat_Node_r9 : HCode := .reg [⟨none, .val 23 (.mv (.t 3))⟩,
    ⟨none, .call (some 24) fn_slices_Grow_Node [(.c (.one (.nl 5)), .r), (.t 23, .v)]⟩,
    ⟨none, .mvo 6 24⟩] false [.forget [23, 24]]
abbrev slices_Concat_Node_r10 : HCode := .reg [⟨none, .val 25 (.mv (.t 0))⟩,
    ⟨none, .val 26 (.len false (.t 25))⟩,
    ⟨none, .val 27 (.mv (.c (iv 0)))⟩] false []
abbrev slices_Concat_Node_r11 : HCode := .reg [⟨none, .val 28 (.ints .lss (.t 27) (.t 26))⟩] false []
abbrev slices_Concat_Node_r12 : HCode := .reg [⟨none, .val 29 (.idxA 1 (.t 25) (.t 27))⟩,
    ⟨none, .val 30 (.ldR (.t 29) 1 false)⟩,
    ⟨none, .val 8 (.mv (.t 30))⟩] false [.forget [29, 30]]
abbrev slices_Concat_Node_r13 : HCode := .reg [⟨none, .mvo 31 6⟩,
    ⟨none, .val 32 (.mv (.t 8))⟩,
    ⟨none, .app 33 ty_api_Node 5 (.t 31) (.t 32)⟩,
    ⟨none, .mvo 6 33⟩] false [.forget [31, 32, 33]]
abbrev slices_Concat_Node_r14 : HCode := .reg [⟨none, .val 34 (.ints .add (.t 27) (.c (iv 1)))⟩,
    ⟨none, .val 27 (.mv (.t 34))⟩] false [.forget [34]]
abbrev slices_Concat_Node_r15 : HCode := .reg [⟨none, .mvo 35 6⟩,
    ⟨none, .mvo 2 35⟩] false [.forget [35]]
abbrev slices_Concat_Node : HCode := (.seq slices_Concat_Node_r0 (.seq slices_Concat_Node_r1 (.seq (.seq slices_Concat_Node_r2 (.block 0 (.loop (.seq slices_Concat_Node_r3 (.seq (.cond (.t 12) .skip (.exit 0)) (.seq (.block 1 (.seq slices_Concat_Node_r4 (.seq slices_Concat_Node_r5 (.seq slices_Concat_Node_r6 (.cond (.t 20) slices_Concat_Node_r7 .skip))))) slices_Concat_Node_r8)))))) (.seq slices_Concat_Node_r9 (.seq (.seq slices_Concat_Node_r10 (.block 2 (.loop (.seq slices_Concat_Node_r11 (.seq (.cond (.t 28) .skip (.exit 2)) (.seq (.block 3 (.seq slices_Concat_Node_r12 slices_Concat_Node_r13)) slices_Concat_Node_r14)))))) (.seq slices_Concat_Node_r15 .ret))))))
abbrev slices_Concat_Node_E : Env := { N := 36, Γ := [], L := 36, nfix := 0 }
abbrev slices_Concat_Node_R : List RSrc := [.tmp 2]
theorem mk_slices_Concat_Node {base : Nat} {av : List AV} {r : RV} (hfo : formOk slices_Concat_Node_E base av) (hW : AVs.fits av → hwp Tryd.prog slices_Concat_Node (finQ slices_Concat_Node_E base av slices_Concat_Node_R r) (F0 slices_Concat_Node_E base av)) (hov : ∀ x, r.res = .ov x → nOwn av = 0 := by intro x h; cases h <;> rfl) : Contract Tryd.prog fn_slices_Concat_Node av r :=
  contract_of_wp (fn := Tryd.f70) (c := Tryd.f70.body.getD .skip) (by kernel_rfl) (by kernel_rfl) (by kernel_rfl) (by kernel_rfl) (by kernel_rfl) (by kernel_rfl) (by kernel_rfl) hfo hW hov
abbrev law_small_r0 : HCode := .reg [⟨none, .alloc 0 0 13 [.nl 5]⟩] false []
abbrev law_small_r1 : HCode := .reg [⟨none, .val 1 (.bld [.v (.int .i64 0), .v (mkS []), .v (mkS []), .nl 1, .nl 2] [(0, 1, .c (iv (-1))), (1, 1, .c (sv [108, 105, 115, 116])), (2, 1, .c (sv [116, 111, 112]))])⟩,
    ⟨none, .val 2 (.bslF 1 [.c (sv [97])])⟩,
    ⟨none, .val 3 (.bld [.v (.int .i64 0), .v (mkS []), .v (mkS []), .nl 1, .nl 2] [(0, 1, .c (iv 0)), (1, 1, .c (sv [105, 116, 101, 109])), (3, 1, .t 2)])⟩,
    ⟨none, .val 4 (.bslF 1 [.c (sv [98])])⟩,
    ⟨none, .val 5 (.bld [.v (.int .i64 0), .v (mkS []), .v (mkS []), .nl 1, .nl 2] [(0, 1, .c (iv 0)), (1, 1, .c (sv [105, 116, 101, 109])), (3, 1, .t 4)])⟩,
    ⟨none, .val 6 (.bld [.v (mkS []), .v (mkS [])] [(0, 1, .c (sv [116, 111])), (1, 1, .c (sv [111, 110, 101, 32, 116, 119, 111]))])⟩,
    ⟨none, .val 7 (.bslF 2 [.t 6])⟩,
    ⟨none, .val 8 (.bld [.v (.int .i64 0), .v (mkS []), .v (mkS []), .nl 1, .nl 2] [(0, 1, .c (iv 2)), (1, 1, .c (sv [108, 105, 110, 107])), (4, 1, .t 7)])⟩,
    ⟨none, .val 9 (.bslF 1 [.c (sv [97])])⟩,
    ⟨none, .val 10 (.bld [.v (.int .i64 0), .v (mkS []), .v (mkS []), .nl 1, .nl 2] [(0, 1, .c (iv 0)), (1, 1, .c (sv [105, 116, 101, 109])), (3, 1, .t 9)])⟩,
    ⟨none, .val 11 (.bslF 5 [.t 1, .t 3, .t 5, .t 8, .t 10])⟩,
    ⟨none, .val 12 (.bld [.nl 5] [(0, 1, .t 11)])⟩,
    ⟨none, .sto (.t 0) 0 13 0 1 (.t 12)⟩] false [.forget [1, 2, 3, 4, 5, 6, 7, 8, 9, 10, 11, 12]]
abbrev law_small : HCode := (.seq law_small_r0 (.seq law_small_r1 .ret))
abbrev law_small_E : Env := { N := 13, Γ := [(13, 1)], L := 14, nfix := 0 }
abbrev law_small_R : List RSrc := [.cellB 0 0 13 0 1 true]
theorem mk_law_small {base : Nat} {av : List AV} {r : RV} (hfo : formOk law_small_E base av) (hW : AVs.fits av → hwp Tryd.prog law_small (finQ law_small_E base av law_small_R r) (F0 law_small_E base av)) (hov : ∀ x, r.res = .ov x → nOwn av = 0 := by intro x h; cases h <;> rfl) : Contract Tryd.prog fn_law_small av r :=
  contract_of_wp (fn := Tryd.f63) (c := Tryd.f63.body.getD .skip) (by kernel_rfl) (by kernel_rfl) (by kernel_rfl) (by kernel_rfl) (by kernel_rfl) (by kernel_rfl) (by kernel_rfl) hfo hW hov
end Go.Hx
end

section
/-
  The abstract code of functions of the program, printed by gen.py; each stands for the given one. No condition.
-/
namespace Go.Hx
open Go.Proofs
variable [Glob]
abbrev fn_doc_Name_1 : Nat := 149
abbrev fn_doc_Value_1 : Nat := 151
abbrev fn_strings_ContainsFunc : Nat := 148
abbrev fn_strings_Trim : Nat := 147
abbrev doc_Name_r0 : HCode := .reg [⟨none, .val 2 (.mv (.c (bv false)))⟩] false []
abbrev doc_Name_r1 : HCode := .reg [⟨none, .val 3 (.mv (.t 0))⟩,
    ⟨none, .val 4 (.len true (.t 3))⟩,
    ⟨none, .val 5 (.ints .gtr (.t 4) (.c (iv 0)))⟩,
    ⟨none, .val 6 (.mv (.t 5))⟩,
    ⟨some (6, true), .val 7 (.mv (.t 0))⟩,
    ⟨some (6, true), .val 8 (.len true (.t 7))⟩,
    ⟨some (6, true), .val 9 (.ints .leq (.t 8) (.c (iv 12)))⟩,
    ⟨none, .val 10 (.pick (.t 6) (.t 9) (.c (bv false)))⟩,
    ⟨none, .val 11 (.mv (.t 10))⟩,
    ⟨some (11, true), .val 12 (.mv (.t 0))⟩,
    ⟨some (11, true), .val 13 (.idxS (.t 12) (.c (iv 0)))⟩,
    ⟨some (11, true), .val 14 (.ints .geq (.t 13) (.c (.one (.v (.int .u8 97)))))⟩,
    ⟨none, .val 15 (.pick (.t 11) (.t 14) (.c (bv false)))⟩,
    ⟨none, .val 16 (.mv (.t 15))⟩,
    ⟨some (16, true), .val 17 (.mv (.t 0))⟩,
    ⟨some (16, true), .val 18 (.idxS (.t 17) (.c (iv 0)))⟩,
    ⟨some (16, true), .val 19 (.ints .leq (.t 18) (.c (.one (.v (.int .u8 122)))))⟩,
    ⟨none, .val 20 (.pick (.t 16) (.t 19) (.c (bv false)))⟩,
    ⟨none, .val 21 (.mv (.t 20))⟩,
    ⟨some (21, true), .val 22 (.mv (.t 0))⟩,
    ⟨some (21, true), .call (some 23) fn_strings_Trim [(.t 22, .v), (.c (sv [97, 98, 99, 100, 101, 102, 103, 104, 105, 106, 107, 108, 109, 110, 111, 112, 113, 114, 115, 116, 117, 118, 119, 120, 121, 122, 48, 49, 50, 51, 52, 53, 54, 55, 56, 57, 45]), .v)]⟩,
    ⟨some (21, true), .val 24 (.strs .eql (.t 23) (.c (sv [])))⟩,
    ⟨none, .val 25 (.pick (.t 21) (.t 24) (.c (bv false)))⟩,
    ⟨none, .val 26 (.mv (.t 25))⟩,
    ⟨some (26, true), .val 27 (.mv (.t 0))⟩,
    ⟨some (26, true), .call (some 28) fn_strings_ContainsFunc [(.t 27, .v), (.f fn_doc_Name_1, .v)]⟩,
    ⟨some (26, true), .val 29 (.not (.t 28))⟩,
    ⟨none, .val 30 (.pick (.t 26) (.t 29) (.c (bv false)))⟩,
    ⟨none, .val 2 (.mv (.t 30))⟩] false [.forget [3, 4, 5, 6, 7, 8, 9, 10, 11, 12, 13, 14, 15, 16, 17, 18, 19, 20, 21, 22, 23, 24, 25, 26, 27, 28, 29, 30]]
abbrev doc_Name : HCode := (.seq doc_Name_r0 (.seq doc_Name_r1 .ret))
abbrev doc_Name_E : Env := { N := 31, Γ := [], L := 31, nfix := 0 }
abbrev doc_Name_R : List RSrc := [.tmp 2]
theorem mk_doc_Name {base : Nat} {av : List AV} {r : RV} (hfo : formOk doc_Name_E base av) (hW : AVs.fits av → hwp Tryd.prog doc_Name (finQ doc_Name_E base av doc_Name_R r) (F0 doc_Name_E base av)) (hov : ∀ x, r.res = .ov x → nOwn av = 0 := by intro x h; cases h <;> rfl) : Contract Tryd.prog fn_doc_Name av r :=
  contract_of_wp (fn := Tryd.f108) (c := Tryd.f108.body.getD .skip) (by kernel_rfl) (by kernel_rfl) (by kernel_rfl) (by kernel_rfl) (by kernel_rfl) (by kernel_rfl) (by kernel_rfl) hfo hW hov
abbrev doc_Name_1_r0 : HCode := .reg [⟨none, .val 2 (.mv (.c (bv false)))⟩] false []
abbrev doc_Name_1_r1 : HCode := .reg [⟨none, .val 3 (.mv (.t 0))⟩,
    ⟨none, .val 4 (.ints .lss (.t 3) (.c (.one (.v (.int .i32 97)))))⟩,
    ⟨none, .val 5 (.mv (.t 4))⟩,
    ⟨some (5, false), .val 6 (.mv (.t 0))⟩,
    ⟨some (5, false), .val 7 (.ints .gtr (.t 6) (.c (.one (.v (.int .i32 122)))))⟩,
    ⟨none, .val 8 (.pick (.t 5) (.c (bv true)) (.t 7))⟩,
    ⟨none, .val 9 (.mv (.t 8))⟩,
    ⟨some (9, true), .val 10 (.mv (.t 0))⟩,
    ⟨some (9, true), .val 11 (.ints .lss (.t 10) (.c (.one (.v (.int .i32 48)))))⟩,
    ⟨some (9, true), .val 12 (.mv (.t 11))⟩,
    ⟨some (12, false), .val 13 (.mv (.t 0))⟩,
    ⟨some (12, false), .val 14 (.ints .gtr (.t 13) (.c (.one (.v (.int .i32 57)))))⟩,
    ⟨some (9, true), .val 15 (.pick (.t 12) (.c (bv true)) (.t 14))⟩,
    ⟨none, .val 16 (.pick (.t 9) (.t 15) (.c (bv false)))⟩,
    ⟨none, .val 17 (.mv (.t 16))⟩,
    ⟨some (17, true), .val 18 (.mv (.t 0))⟩,
    ⟨some (17, true), .val 19 (.ints .neq (.t 18) (.c (.one (.v (.int .i32 45)))))⟩,
    ⟨none, .val 20 (.pick (.t 17) (.t 19) (.c (bv false)))⟩,
    ⟨none, .val 2 (.mv (.t 20))⟩] false [.forget [3, 4, 5, 6, 7, 8, 9, 10, 11, 12, 13, 14, 15, 16, 17, 18, 19, 20]]
abbrev doc_Name_1 : HCode := (.seq doc_Name_1_r0 (.seq doc_Name_1_r1 .ret))
abbrev doc_Name_1_E : Env := { N := 21, Γ := [], L := 21, nfix := 0 }
abbrev doc_Name_1_R : List RSrc := [.tmp 2]
theorem mk_doc_Name_1 {base : Nat} {av : List AV} {r : RV} (hfo : formOk doc_Name_1_E base av) (hW : AVs.fits av → hwp Tryd.prog doc_Name_1 (finQ doc_Name_1_E base av doc_Name_1_R r) (F0 doc_Name_1_E base av)) (hov : ∀ x, r.res = .ov x → nOwn av = 0 := by intro x h; cases h <;> rfl) : Contract Tryd.prog fn_doc_Name_1 av r :=
  contract_of_wp (fn := Tryd.f149) (c := Tryd.f149.body.getD .skip) (by kernel_rfl) (by kernel_rfl) (by kernel_rfl) (by kernel_rfl) (by kernel_rfl) (by kernel_rfl) (by kernel_rfl) hfo hW hov
abbrev doc_Value_r0 : HCode := .reg [⟨none, .val 2 (.mv (.c (bv false)))⟩] false []
abbrev doc_Value_r1 : HCode := .reg [⟨none, .val 3 (.mv (.t 0))⟩,
    ⟨none, .val 4 (.len true (.t 3))⟩,
    ⟨none, .val 5 (.ints .leq (.t 4) (.c (iv 16)))⟩,
    ⟨none, .val 6 (.mv (.t 5))⟩,
    ⟨some (6, true), .val 7 (.mv (.t 0))⟩,
    ⟨some (6, true), .call (some 8) fn_strings_ContainsFunc [(.t 7, .v), (.f fn_doc_Value_1, .v)]⟩,
    ⟨some (6, true), .val 9 (.not (.t 8))⟩,
    ⟨none, .val 10 (.pick (.t 6) (.t 9) (.c (bv false)))⟩,
    ⟨none, .val 2 (.mv (.t 10))⟩] false [.forget [3, 4, 5, 6, 7, 8, 9, 10]]
abbrev doc_Value : HCode := (.seq doc_Value_r0 (.seq doc_Value_r1 .ret))
abbrev doc_Value_E : Env := { N := 11, Γ := [], L := 11, nfix := 0 }
abbrev doc_Value_R : List RSrc := [.tmp 2]
theorem mk_doc_Value {base : Nat} {av : List AV} {r : RV} (hfo : formOk doc_Value_E base av) (hW : AVs.fits av → hwp Tryd.prog doc_Value (finQ doc_Value_E base av doc_Value_R r) (F0 doc_Value_E base av)) (hov : ∀ x, r.res = .ov x → nOwn av = 0 := by intro x h; cases h <;> rfl) : Contract Tryd.prog fn_doc_Value av r :=
  contract_of_wp (fn := Tryd.f115) (c := Tryd.f115.body.getD .skip) (by kernel_rfl) (by kernel_rfl) (by kernel_rfl) (by kernel_rfl) (by kernel_rfl) (by kernel_rfl) (by kernel_rfl) hfo hW hov
abbrev doc_Value_1_r0 : HCode := .reg [⟨none, .val 2 (.mv (.c (bv false)))⟩] false []
abbrev doc_Value_1_r1 : HCode := .reg [⟨none, .val 3 (.mv (.t 0))⟩,
    ⟨none, .val 4 (.ints .lss (.t 3) (.c (.one (.v (.int .i32 32)))))⟩,
    ⟨none, .val 5 (.mv (.t 4))⟩,
    ⟨some (5, false), .val 6 (.mv (.t 0))⟩,
    ⟨some (5, false), .val 7 (.ints .gtr (.t 6) (.c (.one (.v (.int .i32 126)))))⟩,
    ⟨none, .val 8 (.pick (.t 5) (.c (bv true)) (.t 7))⟩,
    ⟨none, .val 9 (.mv (.t 8))⟩,
    ⟨some (9, false), .val 10 (.mv (.t 0))⟩,
    ⟨some (9, false), .val 11 (.ints .eql (.t 10) (.c (.one (.v (.int .i32 34)))))⟩,
    ⟨none, .val 12 (.pick (.t 9) (.c (bv true)) (.t 11))⟩,
    ⟨none, .val 2 (.mv (.t 12))⟩] false [.forget [3, 4, 5, 6, 7, 8, 9, 10, 11, 12]]
abbrev doc_Value_1 : HCode := (.seq doc_Value_1_r0 (.seq doc_Value_1_r1 .ret))
abbrev doc_Value_1_E : Env := { N := 13, Γ := [], L := 13, nfix := 0 }
abbrev doc_Value_1_R : List RSrc := [.tmp 2]
theorem mk_doc_Value_1 {base : Nat} {av : List AV} {r : RV} (hfo : formOk doc_Value_1_E base av) (hW : AVs.fits av → hwp Tryd.prog doc_Value_1 (finQ doc_Value_1_E base av doc_Value_1_R r) (F0 doc_Value_1_E base av)) (hov : ∀ x, r.res = .ov x → nOwn av = 0 := by intro x h; cases h <;> rfl) : Contract Tryd.prog fn_doc_Value_1 av r :=
  contract_of_wp (fn := Tryd.f151) (c := Tryd.f151.body.getD .skip) (by kernel_rfl) (by kernel_rfl) (by kernel_rfl) (by kernel_rfl) (by kernel_rfl) (by kernel_rfl) (by kernel_rfl) hfo hW hov
end Go.Hx
end

section
namespace Go.Hx
open Go.Proofs
variable [Glob]

attribute [local go_sem] ndsV_len clsV_len attV_len intsR_len ndV cellsEq
theorem c_ref_within (n lo hi : Int) : Contract Tryd.prog fn_ref_within [.val (iv n), .val (iv lo), .val (iv hi)] { res := .val (bv (decide (lo ≤ n ∧ n ≤ hi))) } := by
  refine mk_ref_within (base := 0) ⟨Nat.le_of_ble_eq_true rfl, Nat.le_of_ble_eq_true rfl, Nat.le_of_ble_eq_true rfl, rfl⟩ (fun hfit => ?_)
  unfold F0 ref_within_E
  simp (config := { maxSteps := 2000000 }) only [markU, List.set_cons_succ, List.set_cons_zero, List.map_cons, List.map_nil, argCt, setCells, ioOf, List.length_cons, List.length_nil, Nat.reduceAdd, Nat.reduceSub, List.replicate, List.cons_append, List.nil_append]
  try simp (config := { maxSteps := 2000000 }) only [go_sem, reduceCtorEq, Nat.reduceAdd, Nat.reduceEqDiff, reduceIte, Nat.reduceLeDiff, Nat.reduceLT, Nat.reduceSub]
  all_goals (repeat (with_reducible refine sAnd ?_))
  refine fin_val rfl trivial (.inl ?_)
  congr 3
  by_cases h1 : lo ≤ n <;> by_cases h2 : n ≤ hi <;> simp [h1, h2]

theorem c_ref_IsName (s : Bys) : Contract Tryd.prog fn_ref_IsName [.val (sv s)] { res := .val (bv (isName s)) } := by
  refine mk_ref_IsName (base := 0) ⟨Nat.le_of_ble_eq_true rfl, Nat.le_of_ble_eq_true rfl, Nat.le_of_ble_eq_true rfl, rfl⟩ (fun hfit => ?_)
  unfold F0 ref_IsName_E
  simp (config := { maxSteps := 2000000 }) only [markU, List.set_cons_succ, List.set_cons_zero, List.map_cons, List.map_nil, argCt, setCells, ioOf, List.length_cons, List.length_nil, Nat.reduceAdd, Nat.reduceSub, List.replicate, List.cons_append, List.nil_append]
  try simp (config := { maxSteps := 2000000 }) only [go_sem, reduceCtorEq, Nat.reduceAdd, Nat.reduceEqDiff, reduceIte, Nat.reduceLeDiff, Nat.reduceLT, Nat.reduceSub]
  all_goals (repeat (with_reducible refine sAnd ?_))
  refine call_val (by repeat' constructor) (c_ref_within _ _ _) ?_
  try simp (config := { maxSteps := 2000000 }) only [go_sem, reduceCtorEq, Nat.reduceAdd, Nat.reduceEqDiff, reduceIte, Nat.reduceLeDiff, Nat.reduceLT, Nat.reduceSub]
  all_goals (repeat (with_reducible refine sAnd ?_))
  refine cond_of (by rfl) trivial (fun h => ?_) (fun h => ?_)
  · try simp (config := { maxSteps := 2000000 }) only [go_sem, reduceCtorEq, Nat.reduceAdd, Nat.reduceEqDiff, reduceIte, Nat.reduceLeDiff, Nat.reduceLT, Nat.reduceSub]
    all_goals (repeat (with_reducible refine sAnd ?_))
    refine fin_val rfl trivial (.inl ?_)
    congr 3
    cases hn : isName s with
    | false => rfl
    | true => exfalso; simp [isName] at hn h; omega
  have hl : s.length ≤ 12 := by simp at h; omega
  try simp (config := { maxSteps := 2000000 }) only [go_sem, reduceCtorEq, Nat.reduceAdd, Nat.reduceEqDiff, reduceIte, Nat.reduceLeDiff, Nat.reduceLT, Nat.reduceSub]
  all_goals (repeat (with_reducible refine sAnd ?_))
  refine loop_sets (fun i : Nat => [(3, .pv (iv i)), (4, .un), (22, .un), (46, .un)]) (fun i => s.length - i) (fun i => i ≤ s.length ∧ (s.take i).all nameCh = true) 0 ?_ ⟨Nat.zero_le _, rfl⟩ ?_
  · simp (config := { maxSteps := 2000000 }) only [go_sem, reduceCtorEq, Nat.reduceAdd, Nat.reduceEqDiff, reduceIte, Nat.reduceLeDiff, Nat.reduceLT, Nat.reduceSub, le_cons, le_nil, le_un, le_same]
  intro i ⟨hi, hall⟩
  try simp (config := { maxSteps := 2000000 }) only [go_sem, reduceCtorEq, Nat.reduceAdd, Nat.reduceEqDiff, reduceIte, Nat.reduceLeDiff, Nat.reduceLT, Nat.reduceSub]
  all_goals (repeat (with_reducible refine sAnd ?_))
  refine cond_of (by rfl) trivial (fun h2 => ?_) (fun h2 => ?_)
  · have hlt : i < s.length := by simpa using h2
    try simp (config := { maxSteps := 2000000 }) only [go_sem, reduceCtorEq, Nat.reduceAdd, Nat.reduceEqDiff, reduceIte, Nat.reduceLeDiff, Nat.reduceLT, Nat.reduceSub]
    all_goals (repeat (with_reducible refine sAnd ?_))
    refine cond_of (by rfl) trivial (fun h3 => ?_) (fun h3 => ?_)
    · try simp (config := { maxSteps := 2000000 }) only [go_sem, reduceCtorEq, Nat.reduceAdd, Nat.reduceEqDiff, reduceIte, Nat.reduceLeDiff, Nat.reduceLT, Nat.reduceSub]
      all_goals (repeat (with_reducible refine sAnd ?_))
      refine fin_val rfl trivial (.inl ?_)
      congr 3
      cases hn : isName s with
      | false => rfl
      | true =>
        exfalso
        simp only [isName, Bool.and_eq_true, List.all_eq_true] at hn
        have h4 := hn.2 (s.getD i 0) (by simp [hlt])
        simp [nameCh, hlt] at h3 h4
        omega
    · try simp (config := { maxSteps := 2000000 }) only [go_sem, reduceCtorEq, Nat.reduceAdd, Nat.reduceEqDiff, reduceIte, Nat.reduceLeDiff, Nat.reduceLT, Nat.reduceSub]
      all_goals (repeat (with_reducible refine sAnd ?_))
      refine ⟨i + 1, by omega, ⟨hlt, ?_⟩, ?_⟩
      · rw [all_take_succ hlt (d := 0), hall]
        simp [nameCh, hlt] at h3 ⊢
        omega
      · simp (config := { maxSteps := 2000000 }) only [go_sem, reduceCtorEq, Nat.reduceAdd, Nat.reduceEqDiff, reduceIte, Nat.reduceLeDiff, Nat.reduceLT, Nat.reduceSub, le_cons, le_nil, le_un, le_same]
        exact le_int (by omega)
  · try simp (config := { maxSteps := 2000000 }) only [go_sem, reduceCtorEq, Nat.reduceAdd, Nat.reduceEqDiff, reduceIte, Nat.reduceLeDiff, Nat.reduceLT, Nat.reduceSub]
    all_goals (repeat (with_reducible refine sAnd ?_))
    refine fin_val rfl trivial (.inl ?_)
    congr 3
    have hi2 : i = s.length := by simp at h2; omega
    subst hi2
    simp [isName] at hall h ⊢
    exact ⟨by omega, hall⟩

theorem c_ref_IsValue (s : Bys) : Contract Tryd.prog fn_ref_IsValue [.val (sv s)] { res := .val (bv (isValue s)) } := by
  refine mk_ref_IsValue (base := 0) ⟨Nat.le_of_ble_eq_true rfl, Nat.le_of_ble_eq_true rfl, Nat.le_of_ble_eq_true rfl, rfl⟩ (fun hfit => ?_)
  unfold F0 ref_IsValue_E
  simp (config := { maxSteps := 2000000 }) only [markU, List.set_cons_succ, List.set_cons_zero, List.map_cons, List.map_nil, argCt, setCells, ioOf, List.length_cons, List.length_nil, Nat.reduceAdd, Nat.reduceSub, List.replicate, List.cons_append, List.nil_append]
  try simp (config := { maxSteps := 2000000 }) only [go_sem, reduceCtorEq, Nat.reduceAdd, Nat.reduceEqDiff, reduceIte, Nat.reduceLeDiff, Nat.reduceLT, Nat.reduceSub]
  all_goals (repeat (with_reducible refine sAnd ?_))
  refine cond_of (by rfl) trivial (fun h => ?_) (fun h => ?_)
  · try simp (config := { maxSteps := 2000000 }) only [go_sem, reduceCtorEq, Nat.reduceAdd, Nat.reduceEqDiff, reduceIte, Nat.reduceLeDiff, Nat.reduceLT, Nat.reduceSub]
    all_goals (repeat (with_reducible refine sAnd ?_))
    refine fin_val rfl trivial (.inl ?_)
    simp [isValue] at h ⊢
    intro h'; omega
  have hl : s.length ≤ 16 := by simp at h; omega
  try simp (config := { maxSteps := 2000000 }) only [go_sem, reduceCtorEq, Nat.reduceAdd, Nat.reduceEqDiff, reduceIte, Nat.reduceLeDiff, Nat.reduceLT, Nat.reduceSub]
  all_goals (repeat (with_reducible refine sAnd ?_))
  refine loop_sets (fun i : Nat => [(3, .pv (iv i)), (10, .un), (28, .un)]) (fun i => s.length - i) (fun i => i ≤ s.length ∧ (s.take i).all valCh = true) 0 ?_ ⟨Nat.zero_le _, rfl⟩ ?_
  · simp (config := { maxSteps := 2000000 }) only [go_sem, reduceCtorEq, Nat.reduceAdd, Nat.reduceEqDiff, reduceIte, Nat.reduceLeDiff, Nat.reduceLT, Nat.reduceSub, le_cons, le_nil, le_un, le_same]
  intro i ⟨hi, hall⟩
  try simp (config := { maxSteps := 2000000 }) only [go_sem, reduceCtorEq, Nat.reduceAdd, Nat.reduceEqDiff, reduceIte, Nat.reduceLeDiff, Nat.reduceLT, Nat.reduceSub]
  all_goals (repeat (with_reducible refine sAnd ?_))
  refine cond_of (by rfl) trivial (fun h => ?_) (fun h => ?_)
  · have hlt : i < s.length := by simpa using h
    try simp (config := { maxSteps := 2000000 }) only [go_sem, reduceCtorEq, Nat.reduceAdd, Nat.reduceEqDiff, reduceIte, Nat.reduceLeDiff, Nat.reduceLT, Nat.reduceSub]
    all_goals (repeat (with_reducible refine sAnd ?_))
    refine cond_of (by rfl) trivial (fun h2 => ?_) (fun h2 => ?_)
    · try simp (config := { maxSteps := 2000000 }) only [go_sem, reduceCtorEq, Nat.reduceAdd, Nat.reduceEqDiff, reduceIte, Nat.reduceLeDiff, Nat.reduceLT, Nat.reduceSub]
      all_goals (repeat (with_reducible refine sAnd ?_))
      refine fin_val rfl trivial (.inl ?_)
      congr 3
      cases hn : isValue s with
      | false => rfl
      | true =>
        exfalso
        simp only [isValue, Bool.and_eq_true, List.all_eq_true] at hn
        have h4 := hn.2 (s.getD i 0) (by simp [hlt])
        simp [valCh, hlt] at h2 h4
        omega
    · try simp (config := { maxSteps := 2000000 }) only [go_sem, reduceCtorEq, Nat.reduceAdd, Nat.reduceEqDiff, reduceIte, Nat.reduceLeDiff, Nat.reduceLT, Nat.reduceSub]
      all_goals (repeat (with_reducible refine sAnd ?_))
      refine ⟨i + 1, by omega, ⟨hlt, ?_⟩, ?_⟩
      · rw [all_take_succ hlt (d := 0), hall]
        simp [valCh, hlt] at h2 ⊢
        omega
      · simp (config := { maxSteps := 2000000 }) only [go_sem, reduceCtorEq, Nat.reduceAdd, Nat.reduceEqDiff, reduceIte, Nat.reduceLeDiff, Nat.reduceLT, Nat.reduceSub, le_cons, le_nil, le_un, le_same]
        exact le_int (by omega)
  · try simp (config := { maxSteps := 2000000 }) only [go_sem, reduceCtorEq, Nat.reduceAdd, Nat.reduceEqDiff, reduceIte, Nat.reduceLeDiff, Nat.reduceLT, Nat.reduceSub]
    all_goals (repeat (with_reducible refine sAnd ?_))
    refine fin_val rfl trivial (.inl ?_)
    have hi2 : i = s.length := by simp at h; omega
    subst hi2
    simp [isValue, hl] at hall ⊢
    exact hall
end Go.Hx
end

section
set_option maxRecDepth 100000
set_option linter.unusedSimpArgs false
namespace Go.Hx
open Go.Proofs
variable [Glob]

attribute [local go_sem] ndsV_len clsV_len attV_len intsR_len ndV cellsEq
theorem c_ref_NodeFine (x : Nd) : Contract Tryd.prog fn_ref_NodeFine [.val (.agg (ndV x))] { res := .val (bv (nodeFine x)) } := by
  unfold ndV
  refine mk_ref_NodeFine (base := 0) ⟨Nat.le_of_ble_eq_true rfl, Nat.le_of_ble_eq_true rfl, Nat.le_of_ble_eq_true rfl, rfl⟩ (fun hfit => ?_)
  unfold F0 ref_NodeFine_E
  simp (config := { maxSteps := 2000000 }) only [markU, List.set_cons_succ, List.set_cons_zero, List.map_cons, List.map_nil, argCt, setCells, ioOf, List.length_cons, List.length_nil, Nat.reduceAdd, Nat.reduceSub, List.replicate, List.cons_append, List.nil_append]
  try simp (config := { maxSteps := 2000000 }) only [go_sem, reduceCtorEq, Nat.reduceAdd, Nat.reduceEqDiff, reduceIte, Nat.reduceLeDiff, Nat.reduceLT, Nat.reduceSub]
  all_goals (repeat (with_reducible refine sAnd ?_))
  refine call_val (by repeat' constructor) (c_ref_IsName _) ?_
  try simp (config := { maxSteps := 2000000 }) only [go_sem, reduceCtorEq, Nat.reduceAdd, Nat.reduceEqDiff, reduceIte, Nat.reduceLeDiff, Nat.reduceLT, Nat.reduceSub]
  all_goals (repeat (with_reducible refine sAnd ?_))
  apply call_guard (h2 := fun _ => c_ref_IsName _)
  · (simp (config := { maxSteps := 2000000 }) only [go_sem, reduceCtorEq, Nat.reduceAdd, Nat.reduceEqDiff, reduceIte, Nat.reduceLeDiff, Nat.reduceLT, Nat.reduceSub]; rfl)
  · intro h; repeat' (first | exact trivial | exact h | refine And.intro ?_ ?_)
  try simp (config := { maxSteps := 2000000 }) only [go_sem, reduceCtorEq, Nat.reduceAdd, Nat.reduceEqDiff, reduceIte, Nat.reduceLeDiff, Nat.reduceLT, Nat.reduceSub, clsV_len, attV_len]
  all_goals (repeat (with_reducible refine sAnd ?_))
  refine cond_of (by rfl) trivial (fun h => ?_) (fun h => ?_)
  · try simp (config := { maxSteps := 2000000 }) only [go_sem, reduceCtorEq, Nat.reduceAdd, Nat.reduceEqDiff, reduceIte, Nat.reduceLeDiff, Nat.reduceLT, Nat.reduceSub]
    all_goals (repeat (with_reducible refine sAnd ?_))
    refine fin_val rfl trivial (.inl ?_)
    congr 3
    cases hn : nodeFine x with
    | false => rfl
    | true =>
      exfalso
      simp only [nodeFine, Bool.and_eq_true, Bool.or_eq_true, decide_eq_true_eq, beq_iff_eq] at hn
      obtain ⟨⟨⟨⟨⟨h1, h2⟩, h3⟩, h4⟩, _⟩, _⟩ := hn
      rcases h2 with h2 | h2
      · simp [h1, h2] at h; omega
      · simp [h1, h2] at h; omega
  have hh : isName x.tag = true ∧ (x.id = [] ∨ isName x.id = true) ∧ x.cls.length ≤ 6 ∧ x.att.length ≤ 4 := by
    simp at h
    refine ⟨h.1.1.1, ?_, by omega, by omega⟩
    by_cases h0 : x.id = []
    · exact .inl h0
    · exact .inr (h.1.1.2 h0)
  obtain ⟨hh1, hh2, hh3, hh4⟩ := hh
  try simp (config := { maxSteps := 2000000 }) only [go_sem, reduceCtorEq, Nat.reduceAdd, Nat.reduceEqDiff, reduceIte, Nat.reduceLeDiff, Nat.reduceLT, Nat.reduceSub]
  all_goals (repeat (with_reducible refine sAnd ?_))
  refine loop_sets (fun i : Nat => [(3, .pv (iv i)), (36, .un), (63, .un)]) (fun i => x.cls.length - i) (fun i => i ≤ x.cls.length ∧ okC x.cls i = true) 0 ?_ ⟨Nat.zero_le _, rfl⟩ ?_
  · simp (config := { maxSteps := 2000000 }) only [go_sem, reduceCtorEq, Nat.reduceAdd, Nat.reduceEqDiff, reduceIte, Nat.reduceLeDiff, Nat.reduceLT, Nat.reduceSub, le_cons, le_nil, le_un, le_same]
  intro i ⟨hi, hok⟩
  try simp (config := { maxSteps := 2000000 }) only [go_sem, reduceCtorEq, Nat.reduceAdd, Nat.reduceEqDiff, reduceIte, Nat.reduceLeDiff, Nat.reduceLT, Nat.reduceSub, clsV_len]
  all_goals (repeat (with_reducible refine sAnd ?_))
  refine cond_of (by rfl) trivial (fun h2 => ?_) (fun h2 => ?_)
  · have hlt : i < x.cls.length := by simpa using h2
    have e1 : ((i : Int) - 1).toNat = i - 1 := by omega
    try simp (config := { maxSteps := 2000000 }) only [go_sem, reduceCtorEq, Nat.reduceAdd, Nat.reduceEqDiff, reduceIte, Nat.reduceLeDiff, Nat.reduceLT, Nat.reduceSub, clsV_get _ _ hlt, clsV_len]
    all_goals (repeat (with_reducible refine sAnd ?_))
    refine call_val (by repeat' constructor) (c_ref_IsName _) ?_
    try simp (config := { maxSteps := 2000000 }) only [go_sem, reduceCtorEq, Nat.reduceAdd, Nat.reduceEqDiff, reduceIte, Nat.reduceLeDiff, Nat.reduceLT, Nat.reduceSub, clsV_get _ _ hlt, clsV_len, e1, clsV_get _ _ (show i - 1 < x.cls.length by omega)]
    all_goals (repeat (with_reducible refine sAnd ?_))
    refine cond_of (by rfl) trivial (fun h3 => ?_) (fun h3 => ?_)
    · try simp (config := { maxSteps := 2000000 }) only [go_sem, reduceCtorEq, Nat.reduceAdd, Nat.reduceEqDiff, reduceIte, Nat.reduceLeDiff, Nat.reduceLT, Nat.reduceSub]
      all_goals (repeat (with_reducible refine sAnd ?_))
      refine fin_val rfl trivial (.inl ?_)
      congr 3
      cases hn : nodeFine x with
      | false => rfl
      | true =>
        exfalso
        simp only [nodeFine, Bool.and_eq_true] at hn
        have h4 := range_all_get hn.1.2 hlt
        simp [cOk, hlt] at h3 h4
        grind
    · try simp (config := { maxSteps := 2000000 }) only [go_sem, reduceCtorEq, Nat.reduceAdd, Nat.reduceEqDiff, reduceIte, Nat.reduceLeDiff, Nat.reduceLT, Nat.reduceSub]
      all_goals (repeat (with_reducible refine sAnd ?_))
      refine ⟨i + 1, by omega, ⟨hlt, ?_⟩, ?_⟩
      · show (List.range (i + 1)).all (cOk x.cls) = true
        rw [range_all_succ]
        have hok' : (List.range i).all (cOk x.cls) = true := hok
        rw [hok']
        simp [cOk, hlt] at h3 ⊢
        refine ⟨h3.1, ?_⟩
        rcases Nat.eq_zero_or_pos i with h5 | h5
        · exact .inl h5
        · exact .inr (h3.2 h5)
      · simp (config := { maxSteps := 2000000 }) only [go_sem, reduceCtorEq, Nat.reduceAdd, Nat.reduceEqDiff, reduceIte, Nat.reduceLeDiff, Nat.reduceLT, Nat.reduceSub, le_cons, le_nil, le_un, le_same]
        exact le_int (by omega)
  try simp (config := { maxSteps := 2000000 }) only [go_sem, reduceCtorEq, Nat.reduceAdd, Nat.reduceEqDiff, reduceIte, Nat.reduceLeDiff, Nat.reduceLT, Nat.reduceSub]
  all_goals (repeat (with_reducible refine sAnd ?_))
  have hi2 : i = x.cls.length := by simp at h2; omega
  refine loop_sets (fun i : Nat => [(4, .pv (iv i)), (68, .un), (108, .un)]) (fun i => x.att.length - i) (fun i => i ≤ x.att.length ∧ okA x.att i = true) 0 ?_ ⟨Nat.zero_le _, rfl⟩ ?_
  · simp (config := { maxSteps := 2000000 }) only [go_sem, reduceCtorEq, Nat.reduceAdd, Nat.reduceEqDiff, reduceIte, Nat.reduceLeDiff, Nat.reduceLT, Nat.reduceSub, le_cons, le_nil, le_un, le_same]
  intro k ⟨hk, hokA⟩
  try simp (config := { maxSteps := 2000000 }) only [go_sem, reduceCtorEq, Nat.reduceAdd, Nat.reduceEqDiff, reduceIte, Nat.reduceLeDiff, Nat.reduceLT, Nat.reduceSub, attV_len]
  all_goals (repeat (with_reducible refine sAnd ?_))
  refine cond_of (by rfl) trivial (fun h3 => ?_) (fun h3 => ?_)
  · have hlt : k < x.att.length := by simpa using h3
    have e1 : ((k : Int) - 1).toNat = k - 1 := by omega
    try simp (config := { maxSteps := 2000000 }) only [go_sem, reduceCtorEq, Nat.reduceAdd, Nat.reduceEqDiff, reduceIte, Nat.reduceLeDiff, Nat.reduceLT, Nat.reduceSub, attV_get _ _ hlt, attV_len]
    all_goals (repeat (with_reducible refine sAnd ?_))
    refine call_val (by repeat' constructor) (c_ref_IsName _) ?_
    try simp (config := { maxSteps := 2000000 }) only [go_sem, reduceCtorEq, Nat.reduceAdd, Nat.reduceEqDiff, reduceIte, Nat.reduceLeDiff, Nat.reduceLT, Nat.reduceSub, attV_get _ _ hlt, attV_len]
    all_goals (repeat (with_reducible refine sAnd ?_))
    apply call_guard (h2 := fun _ => c_ref_IsValue _)
    · (simp (config := { maxSteps := 2000000 }) only [go_sem, reduceCtorEq, Nat.reduceAdd, Nat.reduceEqDiff, reduceIte, Nat.reduceLeDiff, Nat.reduceLT, Nat.reduceSub]; rfl)
    · intro h; repeat' (first | exact trivial | exact h | refine And.intro ?_ ?_)
    try simp (config := { maxSteps := 2000000 }) only [go_sem, reduceCtorEq, Nat.reduceAdd, Nat.reduceEqDiff, reduceIte, Nat.reduceLeDiff, Nat.reduceLT, Nat.reduceSub, attV_get _ _ hlt, attV_len, e1, attV_get _ _ (show k - 1 < x.att.length by omega)]
    all_goals (repeat (with_reducible refine sAnd ?_))
    refine cond_of (by rfl) trivial (fun h4 => ?_) (fun h4 => ?_)
    · try simp (config := { maxSteps := 2000000 }) only [go_sem, reduceCtorEq, Nat.reduceAdd, Nat.reduceEqDiff, reduceIte, Nat.reduceLeDiff, Nat.reduceLT, Nat.reduceSub]
      all_goals (repeat (with_reducible refine sAnd ?_))
      refine fin_val rfl trivial (.inl ?_)
      congr 3
      cases hn : nodeFine x with
      | false => rfl
      | true =>
        exfalso
        simp only [nodeFine, Bool.and_eq_true] at hn
        have h5 := range_all_get hn.2 hlt
        simp [aOk, hlt] at h4 h5
        grind
    · try simp (config := { maxSteps := 2000000 }) only [go_sem, reduceCtorEq, Nat.reduceAdd, Nat.reduceEqDiff, reduceIte, Nat.reduceLeDiff, Nat.reduceLT, Nat.reduceSub]
      all_goals (repeat (with_reducible refine sAnd ?_))
      refine ⟨k + 1, by omega, ⟨hlt, ?_⟩, ?_⟩
      · show (List.range (k + 1)).all (aOk x.att) = true
        rw [range_all_succ]
        have hok' : (List.range k).all (aOk x.att) = true := hokA
        rw [hok']
        simp [aOk, hlt] at h4 ⊢
        refine ⟨h4.1, ?_⟩
        rcases Nat.eq_zero_or_pos k with h5 | h5
        · exact .inl h5
        · exact .inr (h4.2 h5)
      · simp (config := { maxSteps := 2000000 }) only [go_sem, reduceCtorEq, Nat.reduceAdd, Nat.reduceEqDiff, reduceIte, Nat.reduceLeDiff, Nat.reduceLT, Nat.reduceSub, le_cons, le_nil, le_un, le_same]
        exact le_int (by omega)
  · try simp (config := { maxSteps := 2000000 }) only [go_sem, reduceCtorEq, Nat.reduceAdd, Nat.reduceEqDiff, reduceIte, Nat.reduceLeDiff, Nat.reduceLT, Nat.reduceSub]
    all_goals (repeat (with_reducible refine sAnd ?_))
    refine fin_val rfl trivial (.inl ?_)
    congr 3
    have hk2 : k = x.att.length := by simp at h3; omega
    subst hk2 hi2
    simp only [nodeFine, hh1, hok, hokA, hh3, hh4, decide_true, Bool.and_true, Bool.true_and]
    rcases hh2 with h | h <;> simp [h]

theorem c_ref_OwnNode (x : Nd) (h1 : x.cls.length ≤ 64) (h2 : x.att.length ≤ 64) : Contract Tryd.prog fn_ref_OwnNode [.val (.agg (ndV x))] { res := .val (.agg (ndV x)) } := by
  unfold ndV
  refine mk_ref_OwnNode (base := 0) ⟨Nat.le_of_ble_eq_true rfl, Nat.le_of_ble_eq_true rfl, Nat.le_of_ble_eq_true rfl, rfl⟩ (fun hfit => ?_)
  unfold F0 ref_OwnNode_E
  simp (config := { maxSteps := 2000000 }) only [markU, List.set_cons_succ, List.set_cons_zero, List.map_cons, List.map_nil, argCt, setCells, ioOf, List.length_cons, List.length_nil, Nat.reduceAdd, Nat.reduceSub, List.replicate, List.cons_append, List.nil_append]
  try simp (config := { maxSteps := 2000000 }) only [go_sem, reduceCtorEq, Nat.reduceAdd, Nat.reduceEqDiff, reduceIte, Nat.reduceLeDiff, Nat.reduceLT, Nat.reduceSub]
  all_goals (repeat (with_reducible refine sAnd ?_))
  try simp (config := { maxSteps := 2000000 }) only [go_sem, reduceCtorEq, Nat.reduceAdd, Nat.reduceEqDiff, reduceIte, Nat.reduceLeDiff, Nat.reduceLT, Nat.reduceSub, clsV_len, attV_len]
  all_goals (repeat (with_reducible refine sAnd ?_))
  exact fin_cellB rfl rfl rfl

theorem c_ref_Above (d : List Nd) (hd : docOk d d.length = true) (a : Int) (n : Nat) (hn : n < d.length) : Contract Tryd.prog fn_ref_Above [.val (docV d), .val (iv a), .val (iv n)] { res := .val (bv ((chain d d.length (upOf d n)).contains a)) } := by
  unfold docV
  refine mk_ref_Above (base := 0) ⟨Nat.le_of_ble_eq_true rfl, Nat.le_of_ble_eq_true rfl, Nat.le_of_ble_eq_true rfl, rfl⟩ (fun hfit => ?_)
  unfold F0 ref_Above_E
  simp (config := { maxSteps := 2000000 }) only [markU, List.set_cons_succ, List.set_cons_zero, List.map_cons, List.map_nil, argCt, setCells, ioOf, List.length_cons, List.length_nil, Nat.reduceAdd, Nat.reduceSub, List.replicate, List.cons_append, List.nil_append]
  try simp (config := { maxSteps := 2000000 }) only [go_sem, reduceCtorEq, Nat.reduceAdd, Nat.reduceEqDiff, reduceIte, Nat.reduceLeDiff, Nat.reduceLT, Nat.reduceSub]
  all_goals (repeat (with_reducible refine sAnd ?_))
  try simp (config := { maxSteps := 2000000 }) only [go_sem, reduceCtorEq, Nat.reduceAdd, Nat.reduceEqDiff, reduceIte, Nat.reduceLeDiff, Nat.reduceLT, Nat.reduceSub, ndsV_len, ndsV_get _ _ hn, ndV]
  all_goals (repeat (with_reducible refine sAnd ?_))
  have hup := docOk_up hd
  refine loop_sets (fun k : Int => [(7, .pv (iv k)), (15, .un), (24, .un)]) (fun k => (k + 1).toNat) (fun k => -1 ≤ k ∧ k < d.length ∧ (chain d d.length (upOf d n)).contains a = (chain d d.length k).contains a) (upOf d n) ?_ ⟨(hup n hn).1, by have := (hup n hn).2; omega, rfl⟩ ?_
  · simp (config := { maxSteps := 2000000 }) only [go_sem, reduceCtorEq, Nat.reduceAdd, Nat.reduceEqDiff, reduceIte, Nat.reduceLeDiff, Nat.reduceLT, Nat.reduceSub, le_cons, le_nil, le_un, le_same]
    exact le_int rfl
  intro k ⟨h1, h2, h3⟩
  try simp (config := { maxSteps := 2000000 }) only [go_sem, reduceCtorEq, Nat.reduceAdd, Nat.reduceEqDiff, reduceIte, Nat.reduceLeDiff, Nat.reduceLT, Nat.reduceSub]
  all_goals (repeat (with_reducible refine sAnd ?_))
  refine cond_of (by rfl) trivial (fun h4 => ?_) (fun h4 => ?_)
  · have hk : 0 ≤ k := by simpa using h4
    have hkn : k.toNat < d.length := by omega
    have hk2 : k = (k.toNat : Int) := by omega
    try simp (config := { maxSteps := 2000000 }) only [go_sem, reduceCtorEq, Nat.reduceAdd, Nat.reduceEqDiff, reduceIte, Nat.reduceLeDiff, Nat.reduceLT, Nat.reduceSub]
    all_goals (repeat (with_reducible refine sAnd ?_))
    refine cond_of (by rfl) trivial (fun h5 => ?_) (fun h5 => ?_)
    · try simp (config := { maxSteps := 2000000 }) only [go_sem, reduceCtorEq, Nat.reduceAdd, Nat.reduceEqDiff, reduceIte, Nat.reduceLeDiff, Nat.reduceLT, Nat.reduceSub]
      all_goals (repeat (with_reducible refine sAnd ?_))
      refine fin_val rfl trivial (.inl ?_)
      congr 3
      rw [h3]
      have h6 : k = a := by simpa using h5
      subst h6
      cases hl : d.length with
      | zero => omega
      | succ f => simp [chain, show ¬ k < 0 by omega]
    · have h6 : ¬ k = a := by simpa using h5
      try simp (config := { maxSteps := 2000000 }) only [go_sem, reduceCtorEq, Nat.reduceAdd, Nat.reduceEqDiff, reduceIte, Nat.reduceLeDiff, Nat.reduceLT, Nat.reduceSub, ndsV_len, ndsV_get _ _ hkn, ndV]
      all_goals (repeat (with_reducible refine sAnd ?_))
      refine ⟨upOf d k.toNat, ?_, ⟨(hup _ hkn).1, ?_, ?_⟩, ?_⟩
      · have := (hup _ hkn); omega
      · have := (hup _ hkn); omega
      · rw [h3]
        cases hl : d.length with
        | zero => omega
        | succ f =>
          have e : chain d (f + 1) k = k :: chain d f (upOf d k.toNat) := by simp [chain, show ¬ k < 0 by omega]
          rw [e, chain_fuel f (f + 1) (upOf d k.toNat) (fun j hj => (hup j (by have := hup _ hkn; omega)).2) (by have := hup _ hkn; omega) (by have := hup _ hkn; omega)]
          rw [List.contains_cons]
          simp [Ne.symm h6]
      · simp (config := { maxSteps := 2000000 }) only [go_sem, reduceCtorEq, Nat.reduceAdd, Nat.reduceEqDiff, reduceIte, Nat.reduceLeDiff, Nat.reduceLT, Nat.reduceSub, le_cons, le_nil, le_un, le_same]
        exact le_int rfl
  · try simp (config := { maxSteps := 2000000 }) only [go_sem, reduceCtorEq, Nat.reduceAdd, Nat.reduceEqDiff, reduceIte, Nat.reduceLeDiff, Nat.reduceLT, Nat.reduceSub]
    all_goals (repeat (with_reducible refine sAnd ?_))
    refine fin_val rfl trivial (.inl ?_)
    congr 3
    rw [h3]
    have : k < 0 := by simp at h4; omega
    cases hl : d.length with
    | zero => simp [chain]
    | succ f => simp [chain, this]
end Go.Hx
end

section
set_option maxRecDepth 100000
set_option linter.unusedSimpArgs false
namespace Go.Hx
open Go.Proofs
variable [Glob]

attribute [local go_sem] ndsV_len clsV_len attV_len intsR_len ndV cellsEq
theorem c_ref_SameTexts (a b : List Bys) : Contract Tryd.prog fn_ref_SameTexts [.val (.one (.sl 1 (clsV a))), .val (.one (.sl 1 (clsV b)))] { res := .val (bv (decide (a = b))) } := by
  refine mk_ref_SameTexts (base := 0) ⟨Nat.le_of_ble_eq_true rfl, Nat.le_of_ble_eq_true rfl, Nat.le_of_ble_eq_true rfl, rfl⟩ (fun hfit => ?_)
  unfold F0 ref_SameTexts_E
  simp (config := { maxSteps := 2000000 }) only [markU, List.set_cons_succ, List.set_cons_zero, List.map_cons, List.map_nil, argCt, setCells, ioOf, List.length_cons, List.length_nil, Nat.reduceAdd, Nat.reduceSub, List.replicate, List.cons_append, List.nil_append]
  try simp (config := { maxSteps := 2000000 }) only [go_sem, reduceCtorEq, Nat.reduceAdd, Nat.reduceEqDiff, reduceIte, Nat.reduceLeDiff, Nat.reduceLT, Nat.reduceSub]
  all_goals (repeat (with_reducible refine sAnd ?_))
  have hm := fits_sl (k := 1) hfit.1
  rw [clsV_len] at hm
  refine cond_of (by rfl) trivial (fun h => ?_) (fun h => ?_)
  · try simp (config := { maxSteps := 2000000 }) only [go_sem, reduceCtorEq, Nat.reduceAdd, Nat.reduceEqDiff, reduceIte, Nat.reduceLeDiff, Nat.reduceLT, Nat.reduceSub]
    all_goals (repeat (with_reducible refine sAnd ?_))
    refine fin_val rfl trivial (.inl ?_)
    congr 3
    simp [clsV_len] at h
    exact decide_eq_false (fun e => h (by subst e; rfl))
  have hl : a.length = b.length := by simp [clsV_len] at h; omega
  try simp (config := { maxSteps := 2000000 }) only [go_sem, reduceCtorEq, Nat.reduceAdd, Nat.reduceEqDiff, reduceIte, Nat.reduceLeDiff, Nat.reduceLT, Nat.reduceSub]
  all_goals (repeat (with_reducible refine sAnd ?_))
  refine loop_sets (fun i : Nat => [(5, .pv (iv i)), (14, .un), (25, .un)]) (fun i => a.length - i) (fun i => i ≤ a.length ∧ a.take i = b.take i) 0 ?_ ⟨Nat.zero_le _, rfl⟩ ?_
  · simp (config := { maxSteps := 2000000 }) only [go_sem, reduceCtorEq, Nat.reduceAdd, Nat.reduceEqDiff, reduceIte, Nat.reduceLeDiff, Nat.reduceLT, Nat.reduceSub, le_cons, le_nil, le_un, le_same]
  intro i ⟨hi, heq⟩
  try simp (config := { maxSteps := 2000000 }) only [go_sem, reduceCtorEq, Nat.reduceAdd, Nat.reduceEqDiff, reduceIte, Nat.reduceLeDiff, Nat.reduceLT, Nat.reduceSub, clsV_len]
  all_goals (repeat (with_reducible refine sAnd ?_))
  refine cond_of (by rfl) trivial (fun h2 => ?_) (fun h2 => ?_)
  · have hlt : i < a.length := by simpa using h2
    have hltb : i < b.length := by omega
    try simp (config := { maxSteps := 2000000 }) only [go_sem, reduceCtorEq, Nat.reduceAdd, Nat.reduceEqDiff, reduceIte, Nat.reduceLeDiff, Nat.reduceLT, Nat.reduceSub, clsV_get _ _ hlt, clsV_get _ _ hltb, clsV_len]
    all_goals (repeat (with_reducible refine sAnd ?_))
    refine cond_of (by rfl) trivial (fun h3 => ?_) (fun h3 => ?_)
    · try simp (config := { maxSteps := 2000000 }) only [go_sem, reduceCtorEq, Nat.reduceAdd, Nat.reduceEqDiff, reduceIte, Nat.reduceLeDiff, Nat.reduceLT, Nat.reduceSub]
      all_goals (repeat (with_reducible refine sAnd ?_))
      refine fin_val rfl trivial (.inl ?_)
      congr 3
      simp only [Bool.not_eq_true', beq_eq_false_iff_ne] at h3
      exact (decide_eq_false (ne_of_getD [] h3))
    · try simp (config := { maxSteps := 2000000 }) only [go_sem, reduceCtorEq, Nat.reduceAdd, Nat.reduceEqDiff, reduceIte, Nat.reduceLeDiff, Nat.reduceLT, Nat.reduceSub]
      all_goals (repeat (with_reducible refine sAnd ?_))
      refine ⟨i + 1, by omega, ⟨hlt, take_eq_succ [] heq hlt hltb ?_⟩, ?_⟩
      · simpa only [Bool.not_eq_false', beq_iff_eq] using h3
      · simp (config := { maxSteps := 2000000 }) only [go_sem, reduceCtorEq, Nat.reduceAdd, Nat.reduceEqDiff, reduceIte, Nat.reduceLeDiff, Nat.reduceLT, Nat.reduceSub, le_cons, le_nil, le_un, le_same]
        exact le_int (by omega)
  · try simp (config := { maxSteps := 2000000 }) only [go_sem, reduceCtorEq, Nat.reduceAdd, Nat.reduceEqDiff, reduceIte, Nat.reduceLeDiff, Nat.reduceLT, Nat.reduceSub]
    all_goals (repeat (with_reducible refine sAnd ?_))
    refine fin_val rfl trivial (.inl ?_)
    congr 3
    have hi2 : i = a.length := by simp at h2; omega
    subst hi2
    exact decide_eq_true (eq_of_take hl heq)

theorem c_ref_SameInts (a b : List Int) : Contract Tryd.prog fn_ref_SameInts [.val (.one (.sl 1 (intsR a))), .val (.one (.sl 1 (intsR b)))] { res := .val (bv (decide (a = b))) } := by
  refine mk_ref_SameInts (base := 0) ⟨Nat.le_of_ble_eq_true rfl, Nat.le_of_ble_eq_true rfl, Nat.le_of_ble_eq_true rfl, rfl⟩ (fun hfit => ?_)
  unfold F0 ref_SameInts_E
  simp (config := { maxSteps := 2000000 }) only [markU, List.set_cons_succ, List.set_cons_zero, List.map_cons, List.map_nil, argCt, setCells, ioOf, List.length_cons, List.length_nil, Nat.reduceAdd, Nat.reduceSub, List.replicate, List.cons_append, List.nil_append]
  try simp (config := { maxSteps := 2000000 }) only [go_sem, reduceCtorEq, Nat.reduceAdd, Nat.reduceEqDiff, reduceIte, Nat.reduceLeDiff, Nat.reduceLT, Nat.reduceSub]
  all_goals (repeat (with_reducible refine sAnd ?_))
  have hm := fits_sl (k := 1) hfit.1
  rw [intsR_len] at hm
  refine cond_of (by rfl) trivial (fun h => ?_) (fun h => ?_)
  · try simp (config := { maxSteps := 2000000 }) only [go_sem, reduceCtorEq, Nat.reduceAdd, Nat.reduceEqDiff, reduceIte, Nat.reduceLeDiff, Nat.reduceLT, Nat.reduceSub]
    all_goals (repeat (with_reducible refine sAnd ?_))
    refine fin_val rfl trivial (.inl ?_)
    congr 3
    simp [intsR_len] at h
    exact decide_eq_false (fun e => h (by subst e; rfl))
  have hl : a.length = b.length := by simp [intsR_len] at h; omega
  try simp (config := { maxSteps := 2000000 }) only [go_sem, reduceCtorEq, Nat.reduceAdd, Nat.reduceEqDiff, reduceIte, Nat.reduceLeDiff, Nat.reduceLT, Nat.reduceSub]
  all_goals (repeat (with_reducible refine sAnd ?_))
  refine loop_sets (fun i : Nat => [(5, .pv (iv i)), (14, .un), (25, .un)]) (fun i => a.length - i) (fun i => i ≤ a.length ∧ a.take i = b.take i) 0 ?_ ⟨Nat.zero_le _, rfl⟩ ?_
  · simp (config := { maxSteps := 2000000 }) only [go_sem, reduceCtorEq, Nat.reduceAdd, Nat.reduceEqDiff, reduceIte, Nat.reduceLeDiff, Nat.reduceLT, Nat.reduceSub, le_cons, le_nil, le_un, le_same]
  intro i ⟨hi, heq⟩
  try simp (config := { maxSteps := 2000000 }) only [go_sem, reduceCtorEq, Nat.reduceAdd, Nat.reduceEqDiff, reduceIte, Nat.reduceLeDiff, Nat.reduceLT, Nat.reduceSub, intsR_len]
  all_goals (repeat (with_reducible refine sAnd ?_))
  refine cond_of (by rfl) trivial (fun h2 => ?_) (fun h2 => ?_)
  · have hlt : i < a.length := by simpa using h2
    have hltb : i < b.length := by omega
    try simp (config := { maxSteps := 2000000 }) only [go_sem, reduceCtorEq, Nat.reduceAdd, Nat.reduceEqDiff, reduceIte, Nat.reduceLeDiff, Nat.reduceLT, Nat.reduceSub, intsR_get _ _ hlt, intsR_get _ _ hltb, intsR_len]
    all_goals (repeat (with_reducible refine sAnd ?_))
    refine cond_of (by rfl) trivial (fun h3 => ?_) (fun h3 => ?_)
    · try simp (config := { maxSteps := 2000000 }) only [go_sem, reduceCtorEq, Nat.reduceAdd, Nat.reduceEqDiff, reduceIte, Nat.reduceLeDiff, Nat.reduceLT, Nat.reduceSub]
      all_goals (repeat (with_reducible refine sAnd ?_))
      refine fin_val rfl trivial (.inl ?_)
      congr 3
      simp only [bne_iff_ne, ne_eq] at h3
      exact (decide_eq_false (ne_of_getD 0 h3))
    · try simp (config := { maxSteps := 2000000 }) only [go_sem, reduceCtorEq, Nat.reduceAdd, Nat.reduceEqDiff, reduceIte, Nat.reduceLeDiff, Nat.reduceLT, Nat.reduceSub]
      all_goals (repeat (with_reducible refine sAnd ?_))
      refine ⟨i + 1, by omega, ⟨hlt, take_eq_succ 0 heq hlt hltb ?_⟩, ?_⟩
      · simpa only [bne_eq_false_iff_eq] using h3
      · simp (config := { maxSteps := 2000000 }) only [go_sem, reduceCtorEq, Nat.reduceAdd, Nat.reduceEqDiff, reduceIte, Nat.reduceLeDiff, Nat.reduceLT, Nat.reduceSub, le_cons, le_nil, le_un, le_same]
        exact le_int (by omega)
  · try simp (config := { maxSteps := 2000000 }) only [go_sem, reduceCtorEq, Nat.reduceAdd, Nat.reduceEqDiff, reduceIte, Nat.reduceLeDiff, Nat.reduceLT, Nat.reduceSub]
    all_goals (repeat (with_reducible refine sAnd ?_))
    refine fin_val rfl trivial (.inl ?_)
    congr 3
    have hi2 : i = a.length := by simp at h2; omega
    subst hi2
    exact decide_eq_true (eq_of_take hl heq)

theorem c_ref_SameNodes (x y : Nd) : Contract Tryd.prog fn_ref_SameNodes [.val (.agg (ndV x)), .val (.agg (ndV y))] { res := .val (bv (decide (x = y))) } := by
  unfold ndV
  refine mk_ref_SameNodes (base := 0) ⟨Nat.le_of_ble_eq_true rfl, Nat.le_of_ble_eq_true rfl, Nat.le_of_ble_eq_true rfl, rfl⟩ (fun hfit => ?_)
  unfold F0 ref_SameNodes_E
  simp (config := { maxSteps := 2000000 }) only [markU, List.set_cons_succ, List.set_cons_zero, List.map_cons, List.map_nil, argCt, setCells, ioOf, List.length_cons, List.length_nil, Nat.reduceAdd, Nat.reduceSub, List.replicate, List.cons_append, List.nil_append]
  try simp (config := { maxSteps := 2000000 }) only [go_sem, reduceCtorEq, Nat.reduceAdd, Nat.reduceEqDiff, reduceIte, Nat.reduceLeDiff, Nat.reduceLT, Nat.reduceSub]
  all_goals (repeat (with_reducible refine sAnd ?_))
  apply call_guard (h2 := fun _ => c_ref_SameTexts _ _)
  · (simp (config := { maxSteps := 2000000 }) only [go_sem, reduceCtorEq, Nat.reduceAdd, Nat.reduceEqDiff, reduceIte, Nat.reduceLeDiff, Nat.reduceLT, Nat.reduceSub]; rfl)
  · intro h; repeat' (first | exact trivial | exact h | refine And.intro ?_ ?_)
  try simp (config := { maxSteps := 2000000 }) only [go_sem, reduceCtorEq, Nat.reduceAdd, Nat.reduceEqDiff, reduceIte, Nat.reduceLeDiff, Nat.reduceLT, Nat.reduceSub, attV_len]
  all_goals (repeat (with_reducible refine sAnd ?_))
  have hm := fits_sl (k := 2) (hfit.1.2.2.2.2.1)
  rw [attV_len] at hm
  refine cond_of (by rfl) trivial (fun h => ?_) (fun h => ?_)
  · try simp (config := { maxSteps := 2000000 }) only [go_sem, reduceCtorEq, Nat.reduceAdd, Nat.reduceEqDiff, reduceIte, Nat.reduceLeDiff, Nat.reduceLT, Nat.reduceSub]
    all_goals (repeat (with_reducible refine sAnd ?_))
    refine fin_val rfl trivial (.inl ?_)
    congr 3
    refine decide_eq_false (fun e => ?_)
    subst e
    simp at h
  have hh : x.up = y.up ∧ x.tag = y.tag ∧ x.id = y.id ∧ x.cls = y.cls ∧ x.att.length = y.att.length := by
    simp at h
    grind
  obtain ⟨e1, e2, e3, e4, hl⟩ := hh
  try simp (config := { maxSteps := 2000000 }) only [go_sem, reduceCtorEq, Nat.reduceAdd, Nat.reduceEqDiff, reduceIte, Nat.reduceLeDiff, Nat.reduceLT, Nat.reduceSub]
  all_goals (repeat (with_reducible refine sAnd ?_))
  refine loop_sets (fun i : Nat => [(5, .pv (iv i)), (46, .un), (59, .un)]) (fun i => x.att.length - i) (fun i => i ≤ x.att.length ∧ x.att.take i = y.att.take i) 0 ?_ ⟨Nat.zero_le _, rfl⟩ ?_
  · simp (config := { maxSteps := 2000000 }) only [go_sem, reduceCtorEq, Nat.reduceAdd, Nat.reduceEqDiff, reduceIte, Nat.reduceLeDiff, Nat.reduceLT, Nat.reduceSub, le_cons, le_nil, le_un, le_same]
  intro i ⟨hi, heq⟩
  try simp (config := { maxSteps := 2000000 }) only [go_sem, reduceCtorEq, Nat.reduceAdd, Nat.reduceEqDiff, reduceIte, Nat.reduceLeDiff, Nat.reduceLT, Nat.reduceSub, attV_len]
  all_goals (repeat (with_reducible refine sAnd ?_))
  refine cond_of (by rfl) trivial (fun h2 => ?_) (fun h2 => ?_)
  · have hlt : i < x.att.length := by simpa using h2
    have hltb : i < y.att.length := by omega
    try simp (config := { maxSteps := 2000000 }) only [go_sem, reduceCtorEq, Nat.reduceAdd, Nat.reduceEqDiff, reduceIte, Nat.reduceLeDiff, Nat.reduceLT, Nat.reduceSub, attV_get _ _ hlt, attV_get _ _ hltb, attV_len, cellsEq]
    all_goals (repeat (with_reducible refine sAnd ?_))
    refine cond_of (by rfl) trivial (fun h3 => ?_) (fun h3 => ?_)
    · try simp (config := { maxSteps := 2000000 }) only [go_sem, reduceCtorEq, Nat.reduceAdd, Nat.reduceEqDiff, reduceIte, Nat.reduceLeDiff, Nat.reduceLT, Nat.reduceSub]
      all_goals (repeat (with_reducible refine sAnd ?_))
      refine fin_val rfl trivial (.inl ?_)
      congr 3
      refine decide_eq_false (fun e => ?_)
      subst e
      simp at h3
    · try simp (config := { maxSteps := 2000000 }) only [go_sem, reduceCtorEq, Nat.reduceAdd, Nat.reduceEqDiff, reduceIte, Nat.reduceLeDiff, Nat.reduceLT, Nat.reduceSub]
      all_goals (repeat (with_reducible refine sAnd ?_))
      refine ⟨i + 1, by omega, ⟨hlt, take_eq_succ default heq hlt hltb ?_⟩, ?_⟩
      · simp at h3
        exact Prod.ext h3.1 h3.2
      · simp (config := { maxSteps := 2000000 }) only [go_sem, reduceCtorEq, Nat.reduceAdd, Nat.reduceEqDiff, reduceIte, Nat.reduceLeDiff, Nat.reduceLT, Nat.reduceSub, le_cons, le_nil, le_un, le_same]
        exact le_int (by omega)
  · try simp (config := { maxSteps := 2000000 }) only [go_sem, reduceCtorEq, Nat.reduceAdd, Nat.reduceEqDiff, reduceIte, Nat.reduceLeDiff, Nat.reduceLT, Nat.reduceSub]
    all_goals (repeat (with_reducible refine sAnd ?_))
    refine fin_val rfl trivial (.inl ?_)
    congr 3
    have hi2 : i = x.att.length := by simp at h2; omega
    subst hi2
    have e5 := eq_of_take hl heq
    refine decide_eq_true ?_
    cases x; cases y
    simp_all

theorem c_ref_SameDocs (a b : List Nd) : Contract Tryd.prog fn_ref_SameDocs [.val (docV a), .val (docV b)] { res := .val (bv (decide (a = b))) } := by
  unfold docV
  refine mk_ref_SameDocs (base := 0) ⟨Nat.le_of_ble_eq_true rfl, Nat.le_of_ble_eq_true rfl, Nat.le_of_ble_eq_true rfl, rfl⟩ (fun hfit => ?_)
  unfold F0 ref_SameDocs_E
  simp (config := { maxSteps := 2000000 }) only [markU, List.set_cons_succ, List.set_cons_zero, List.map_cons, List.map_nil, argCt, setCells, ioOf, List.length_cons, List.length_nil, Nat.reduceAdd, Nat.reduceSub, List.replicate, List.cons_append, List.nil_append]
  try simp (config := { maxSteps := 2000000 }) only [go_sem, reduceCtorEq, Nat.reduceAdd, Nat.reduceEqDiff, reduceIte, Nat.reduceLeDiff, Nat.reduceLT, Nat.reduceSub]
  all_goals (repeat (with_reducible refine sAnd ?_))
  have hm := fits_sl (k := 5) (hfit.1.1)
  rw [ndsV_len] at hm
  refine cond_of (by rfl) trivial (fun h => ?_) (fun h => ?_)
  · try simp (config := { maxSteps := 2000000 }) only [go_sem, reduceCtorEq, Nat.reduceAdd, Nat.reduceEqDiff, reduceIte, Nat.reduceLeDiff, Nat.reduceLT, Nat.reduceSub]
    all_goals (repeat (with_reducible refine sAnd ?_))
    refine fin_val rfl trivial (.inl ?_)
    congr 3
    simp [ndsV_len] at h
    exact decide_eq_false (fun e => h (by rw [e]))
  have hl : a.length = b.length := by simp [ndsV_len] at h; omega
  try simp (config := { maxSteps := 2000000 }) only [go_sem, reduceCtorEq, Nat.reduceAdd, Nat.reduceEqDiff, reduceIte, Nat.reduceLeDiff, Nat.reduceLT, Nat.reduceSub]
  all_goals (repeat (with_reducible refine sAnd ?_))
  refine loop_sets (fun i : Nat => [(5, .pv (iv i)), (17, .un), (31, .un)]) (fun i => a.length - i) (fun i => i ≤ a.length ∧ a.take i = b.take i) 0 ?_ ⟨Nat.zero_le _, rfl⟩ ?_
  · simp (config := { maxSteps := 2000000 }) only [go_sem, reduceCtorEq, Nat.reduceAdd, Nat.reduceEqDiff, reduceIte, Nat.reduceLeDiff, Nat.reduceLT, Nat.reduceSub, le_cons, le_nil, le_un, le_same]
  intro i ⟨hi, heq⟩
  try simp (config := { maxSteps := 2000000 }) only [go_sem, reduceCtorEq, Nat.reduceAdd, Nat.reduceEqDiff, reduceIte, Nat.reduceLeDiff, Nat.reduceLT, Nat.reduceSub, ndsV_len]
  all_goals (repeat (with_reducible refine sAnd ?_))
  refine cond_of (by rfl) trivial (fun h2 => ?_) (fun h2 => ?_)
  · have hlt : i < a.length := by simpa using h2
    have hltb : i < b.length := by omega
    try simp (config := { maxSteps := 2000000 }) only [go_sem, reduceCtorEq, Nat.reduceAdd, Nat.reduceEqDiff, reduceIte, Nat.reduceLeDiff, Nat.reduceLT, Nat.reduceSub, ndsV_get _ _ hlt, ndsV_get _ _ hltb, ndsV_len, ndV]
    all_goals (repeat (with_reducible refine sAnd ?_))
    refine call_val (by repeat' constructor) (c_ref_SameNodes _ _) ?_
    try simp (config := { maxSteps := 2000000 }) only [go_sem, reduceCtorEq, Nat.reduceAdd, Nat.reduceEqDiff, reduceIte, Nat.reduceLeDiff, Nat.reduceLT, Nat.reduceSub]
    all_goals (repeat (with_reducible refine sAnd ?_))
    refine cond_of (by rfl) trivial (fun h3 => ?_) (fun h3 => ?_)
    · try simp (config := { maxSteps := 2000000 }) only [go_sem, reduceCtorEq, Nat.reduceAdd, Nat.reduceEqDiff, reduceIte, Nat.reduceLeDiff, Nat.reduceLT, Nat.reduceSub]
      all_goals (repeat (with_reducible refine sAnd ?_))
      refine fin_val rfl trivial (.inl ?_)
      congr 3
      simp only [Bool.not_eq_true', decide_eq_false_iff_not] at h3
      exact decide_eq_false (ne_of_getD default h3)
    · try simp (config := { maxSteps := 2000000 }) only [go_sem, reduceCtorEq, Nat.reduceAdd, Nat.reduceEqDiff, reduceIte, Nat.reduceLeDiff, Nat.reduceLT, Nat.reduceSub]
      all_goals (repeat (with_reducible refine sAnd ?_))
      refine ⟨i + 1, by omega, ⟨hlt, take_eq_succ default heq hlt hltb ?_⟩, ?_⟩
      · simpa only [Bool.not_eq_false', decide_eq_true_eq] using h3
      · simp (config := { maxSteps := 2000000 }) only [go_sem, reduceCtorEq, Nat.reduceAdd, Nat.reduceEqDiff, reduceIte, Nat.reduceLeDiff, Nat.reduceLT, Nat.reduceSub, le_cons, le_nil, le_un, le_same]
        exact le_int (by omega)
  · try simp (config := { maxSteps := 2000000 }) only [go_sem, reduceCtorEq, Nat.reduceAdd, Nat.reduceEqDiff, reduceIte, Nat.reduceLeDiff, Nat.reduceLT, Nat.reduceSub]
    all_goals (repeat (with_reducible refine sAnd ?_))
    refine fin_val rfl trivial (.inl ?_)
    congr 3
    have hi2 : i = a.length := by simp at h2; omega
    subst hi2
    exact decide_eq_true (eq_of_take hl heq)
end Go.Hx
end
