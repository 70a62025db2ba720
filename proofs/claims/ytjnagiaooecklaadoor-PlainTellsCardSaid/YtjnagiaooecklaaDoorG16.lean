/-
  The abstract code of functions of the program, printed by gen.py; each stands for the given one. No condition.
-/
import Derived.Test.YtjnagiaooecklaaDoorProg
import Derived.Test.YtjnagiaooecklaaDoorG8
import Derived.Test.YtjnagiaooecklaaDoorG12
import Derived.Test.YtjnagiaooecklaaDoorG13
import Derived.Test.YtjnagiaooecklaaDoorG14
import Derived.Test.YtjnagiaooecklaaDoorG15
set_option linter.all false
namespace Go.Hx
open Go.Proofs
variable [Glob]
abbrev fn_plain_Once : Nat := 31
abbrev fn_plain_Plain : Nat := 32
abbrev fn_plain_Size : Nat := 30
abbrev fn_plain_firsts_api_Path : Nat := 124
abbrev fn_plain_firsts_api_Path_1 : Nat := 157
abbrev fn_plain_firsts_api_Test : Nat := 155
abbrev fn_plain_firsts_api_Test_1 : Nat := 179
abbrev fn_plain_inner : Nat := 154
abbrev fn_plain_once : Nat := 83
abbrev fn_plain_samePaths : Nat := 85
abbrev fn_plain_samePaths_1 : Nat := 127
abbrev fn_plain_sameTests : Nat := 129
abbrev fn_plain_size : Nat := 82
abbrev fn_plain_step : Nat := 123
abbrev fn_slices_Clone_int : Nat := 122
abbrev fn_slices_ContainsFunc_Path : Nat := 156
abbrev fn_slices_ContainsFunc_Test : Nat := 178
abbrev fn_slices_EqualFunc_Path : Nat := 84
abbrev fn_slices_EqualFunc_Step : Nat := 126
abbrev fn_slices_EqualFunc_Test : Nat := 128
abbrev fn_slices_Equal_int : Nat := 125
abbrev fn_slices_IndexFunc_Path : Nat := 180
abbrev fn_slices_IndexFunc_Test : Nat := 198
abbrev ty_api_Path : Nat := 104
abbrev ty_api_Step : Nat := 109
abbrev ty_api_Test : Nat := 111
abbrev slices_Clone_int_r0 : HCode := .reg [⟨none, .nlo 2 ty_int 1⟩] false []
abbrev slices_Clone_int_r1 : HCode := .reg [⟨none, .val 3 (.mv (.t 0))⟩,
    ⟨none, .isn 4 false (.t 3)⟩] false [.forget [3]]
abbrev slices_Clone_int_r2 : HCode := .reg [⟨none, .nlo 2 ty_int 1⟩] false []
abbrev slices_Clone_int_r3 : HCode := .reg [⟨none, .bsl 5 ty_int 1 []⟩,
    ⟨none, .val 6 (.mv (.t 0))⟩,
    ⟨none, .app 7 ty_int 1 (.t 5) (.t 6)⟩,
    ⟨none, .mvo 2 7⟩] false [.forget [5, 6, 7]]
abbrev slices_Clone_int : HCode := (.seq slices_Clone_int_r0 (.seq (.seq slices_Clone_int_r1 (.cond (.t 4) (.seq slices_Clone_int_r2 .ret) .skip)) (.seq slices_Clone_int_r3 .ret)))
abbrev slices_Clone_int_E : Env := { N := 8, Γ := [], L := 8, nfix := 0 }
abbrev slices_Clone_int_R : List RSrc := [.tmp 2]
theorem mk_slices_Clone_int {base : Nat} {av : List AV} {r : RV} (hfo : formOk slices_Clone_int_E base av) (hW : AVs.fits av → hwp Tryd.prog slices_Clone_int (finQ slices_Clone_int_E base av slices_Clone_int_R r) (F0 slices_Clone_int_E base av)) (hov : ∀ x, r.res = .ov x → nOwn av = 0 := by intro x h; cases h <;> rfl) : Contract Tryd.prog fn_slices_Clone_int av r :=
  contract_of_wp (fn := Tryd.f122) (c := Tryd.f122.body.getD .skip) (by kernel_rfl) (by kernel_rfl) (by kernel_rfl) (by kernel_rfl) (by kernel_rfl) (by kernel_rfl) (by kernel_rfl) hfo hW hov
abbrev slices_Equal_int_r0 : HCode := .reg [⟨none, .val 4 (.mv (.c (bv false)))⟩] false []
abbrev slices_Equal_int_r1 : HCode := .reg [⟨none, .val 6 (.mv (.t 0))⟩,
    ⟨none, .val 7 (.len false (.t 6))⟩,
    ⟨none, .val 8 (.mv (.t 1))⟩,
    ⟨none, .val 9 (.len false (.t 8))⟩,
    ⟨none, .val 10 (.ints .neq (.t 7) (.t 9))⟩] false [.forget [6, 7, 8, 9]]
abbrev slices_Equal_int_r2 : HCode := .reg [⟨none, .val 4 (.mv (.c (bv false)))⟩] false []
abbrev slices_Equal_int_r3 : HCode := .reg [⟨none, .val 11 (.mv (.t 0))⟩,
    ⟨none, .val 12 (.len false (.t 11))⟩,
    ⟨none, .val 13 (.mv (.c (iv 0)))⟩] false [.forget [11]]
abbrev slices_Equal_int_r4 : HCode := .reg [⟨none, .val 14 (.ints .lss (.t 13) (.t 12))⟩] false []
abbrev slices_Equal_int_r5 : HCode := .reg [⟨none, .val 15 (.mv (.t 13))⟩,
    ⟨none, .val 5 (.mv (.t 15))⟩] false [.forget [15]]
abbrev slices_Equal_int_r6 : HCode := .drg [⟨0, false, ⟨none, .val 16 (.mv (.t 0))⟩⟩,
    ⟨1, false, ⟨none, .val 17 (.mv (.t 5))⟩⟩,
    ⟨2, false, ⟨none, .val 18 (.idxA 1 (.t 16) (.t 17))⟩⟩,
    ⟨3, false, ⟨none, .val 19 (.ldR (.t 18) 1 false)⟩⟩,
    ⟨4, false, ⟨none, .val 20 (.mv (.t 1))⟩⟩,
    ⟨5, false, ⟨none, .val 21 (.mv (.t 5))⟩⟩,
    ⟨6, false, ⟨none, .val 22 (.idxA 1 (.t 20) (.t 21))⟩⟩,
    ⟨7, false, ⟨none, .val 23 (.ldR (.t 22) 1 false)⟩⟩,
    ⟨8, false, ⟨none, .val 24 (.ints .neq (.t 19) (.t 23))⟩⟩] [.forget [16, 17, 18, 19, 20, 21, 22, 23]]
abbrev slices_Equal_int_r7 : HCode := .reg [⟨none, .val 4 (.mv (.c (bv false)))⟩] false []
abbrev slices_Equal_int_r8 : HCode := .reg [⟨none, .val 25 (.ints .add (.t 13) (.c (iv 1)))⟩,
    ⟨none, .val 13 (.mv (.t 25))⟩] false [.forget [25]]
abbrev slices_Equal_int_r9 : HCode := .reg [⟨none, .val 4 (.mv (.c (bv true)))⟩] false []
abbrev slices_Equal_int : HCode := (.seq slices_Equal_int_r0 (.seq (.seq slices_Equal_int_r1 (.cond (.t 10) (.seq slices_Equal_int_r2 .ret) .skip)) (.seq (.seq slices_Equal_int_r3 (.block 0 (.loop (.seq slices_Equal_int_r4 (.seq (.cond (.t 14) .skip (.exit 0)) (.seq (.block 1 (.seq slices_Equal_int_r5 (.seq slices_Equal_int_r6 (.cond (.t 24) (.seq slices_Equal_int_r7 .ret) .skip)))) slices_Equal_int_r8)))))) (.seq slices_Equal_int_r9 .ret))))
abbrev slices_Equal_int_E : Env := { N := 26, Γ := [], L := 26, nfix := 0 }
abbrev slices_Equal_int_R : List RSrc := [.tmp 4]
theorem mk_slices_Equal_int {base : Nat} {av : List AV} {r : RV} (hfo : formOk slices_Equal_int_E base av) (hW : AVs.fits av → hwp Tryd.prog slices_Equal_int (finQ slices_Equal_int_E base av slices_Equal_int_R r) (F0 slices_Equal_int_E base av)) (hov : ∀ x, r.res = .ov x → nOwn av = 0 := by intro x h; cases h <;> rfl) : Contract Tryd.prog fn_slices_Equal_int av r :=
  contract_of_wp (fn := Tryd.f125) (c := Tryd.f125.body.getD .skip) (by kernel_rfl) (by kernel_rfl) (by kernel_rfl) (by kernel_rfl) (by kernel_rfl) (by kernel_rfl) (by kernel_rfl) hfo hW hov
abbrev plain_sameTests_r0 : HCode := .reg [⟨none, .val 2 (.boxF (.t 0))⟩,
    ⟨none, .val 3 (.boxF (.t 1))⟩,
    ⟨none, .val 4 (.mv (.c (bv false)))⟩] false []
abbrev plain_sameTests_r1 : HCode := .reg [⟨none, .val 5 (.fldR (.t 2) 0 1)⟩,
    ⟨none, .val 6 (.ldR (.t 5) 1 false)⟩,
    ⟨none, .val 7 (.fldR (.t 3) 0 1)⟩,
    ⟨none, .val 8 (.ldR (.t 7) 1 false)⟩,
    ⟨none, .val 9 (.ints .eql (.t 6) (.t 8))⟩,
    ⟨none, .val 10 (.mv (.t 9))⟩,
    ⟨some (10, true), .val 11 (.fldR (.t 2) 1 1)⟩,
    ⟨some (10, true), .val 12 (.ldR (.t 11) 1 false)⟩,
    ⟨some (10, true), .val 13 (.fldR (.t 3) 1 1)⟩,
    ⟨some (10, true), .val 14 (.ldR (.t 13) 1 false)⟩,
    ⟨some (10, true), .val 15 (.strs .eql (.t 12) (.t 14))⟩,
    ⟨none, .val 16 (.pick (.t 10) (.t 15) (.c (bv false)))⟩,
    ⟨none, .val 17 (.mv (.t 16))⟩,
    ⟨some (17, true), .val 18 (.fldR (.t 2) 2 1)⟩,
    ⟨some (17, true), .val 19 (.ldR (.t 18) 1 false)⟩,
    ⟨some (17, true), .val 20 (.fldR (.t 3) 2 1)⟩,
    ⟨some (17, true), .val 21 (.ldR (.t 20) 1 false)⟩,
    ⟨some (17, true), .val 22 (.strs .eql (.t 19) (.t 21))⟩,
    ⟨none, .val 23 (.pick (.t 17) (.t 22) (.c (bv false)))⟩,
    ⟨none, .val 24 (.mv (.t 23))⟩,
    ⟨some (24, true), .val 25 (.fldR (.t 2) 3 2)⟩,
    ⟨some (24, true), .val 26 (.ldR (.t 25) 2 true)⟩,
    ⟨some (24, true), .val 27 (.fldR (.t 3) 3 2)⟩,
    ⟨some (24, true), .val 28 (.ldR (.t 27) 2 true)⟩,
    ⟨some (24, true), .val 29 (.steq false [0, 0] (.t 26) (.t 28))⟩,
    ⟨none, .val 30 (.pick (.t 24) (.t 29) (.c (bv false)))⟩,
    ⟨none, .val 31 (.mv (.t 30))⟩,
    ⟨some (31, true), .val 32 (.fldR (.t 2) 5 1)⟩,
    ⟨some (31, true), .val 33 (.ldR (.t 32) 1 false)⟩,
    ⟨some (31, true), .val 34 (.fldR (.t 3) 5 1)⟩,
    ⟨some (31, true), .val 35 (.ldR (.t 34) 1 false)⟩,
    ⟨some (31, true), .call (some 36) fn_slices_EqualFunc_Path [(.t 33, .v), (.t 35, .v), (.f fn_plain_samePaths, .v)]⟩,
    ⟨none, .val 37 (.pick (.t 31) (.t 36) (.c (bv false)))⟩,
    ⟨none, .val 4 (.mv (.t 37))⟩] false [.forget [5, 6, 7, 8, 9, 10, 11, 12, 13, 14, 15, 16, 17, 18, 19, 20, 21, 22, 23, 24, 25, 26, 27, 28, 29, 30, 31, 32, 33, 34, 35, 36, 37]]
abbrev plain_sameTests : HCode := (.seq plain_sameTests_r0 (.seq plain_sameTests_r1 .ret))
abbrev plain_sameTests_E : Env := { N := 38, Γ := [], L := 38, nfix := 0 }
abbrev plain_sameTests_R : List RSrc := [.tmp 4]
theorem mk_plain_sameTests {base : Nat} {av : List AV} {r : RV} (hfo : formOk plain_sameTests_E base av) (hW : AVs.fits av → hwp Tryd.prog plain_sameTests (finQ plain_sameTests_E base av plain_sameTests_R r) (F0 plain_sameTests_E base av)) (hov : ∀ x, r.res = .ov x → nOwn av = 0 := by intro x h; cases h <;> rfl) : Contract Tryd.prog fn_plain_sameTests av r :=
  contract_of_wp (fn := Tryd.f129) (c := Tryd.f129.body.getD .skip) (by kernel_rfl) (by kernel_rfl) (by kernel_rfl) (by kernel_rfl) (by kernel_rfl) (by kernel_rfl) (by kernel_rfl) hfo hW hov
abbrev plain_samePaths_r0 : HCode := .reg [⟨none, .val 2 (.boxF (.t 0))⟩,
    ⟨none, .val 3 (.boxF (.t 1))⟩,
    ⟨none, .val 4 (.mv (.c (bv false)))⟩] false []
abbrev plain_samePaths_r1 : HCode := .reg [⟨none, .val 5 (.fldR (.t 2) 1 1)⟩,
    ⟨none, .val 6 (.ldR (.t 5) 1 false)⟩,
    ⟨none, .val 7 (.fldR (.t 3) 1 1)⟩,
    ⟨none, .val 8 (.ldR (.t 7) 1 false)⟩,
    ⟨none, .call (some 9) fn_slices_Equal_int [(.t 6, .v), (.t 8, .v)]⟩,
    ⟨none, .val 10 (.mv (.t 9))⟩,
    ⟨some (10, true), .val 11 (.fldR (.t 2) 0 1)⟩,
    ⟨some (10, true), .val 12 (.ldR (.t 11) 1 false)⟩,
    ⟨some (10, true), .val 13 (.fldR (.t 3) 0 1)⟩,
    ⟨some (10, true), .val 14 (.ldR (.t 13) 1 false)⟩,
    ⟨some (10, true), .call (some 15) fn_slices_EqualFunc_Step [(.t 12, .v), (.t 14, .v), (.f fn_plain_samePaths_1, .v)]⟩,
    ⟨none, .val 16 (.pick (.t 10) (.t 15) (.c (bv false)))⟩,
    ⟨none, .val 4 (.mv (.t 16))⟩] false [.forget [5, 6, 7, 8, 9, 10, 11, 12, 13, 14, 15, 16]]
abbrev plain_samePaths : HCode := (.seq plain_samePaths_r0 (.seq plain_samePaths_r1 .ret))
abbrev plain_samePaths_E : Env := { N := 17, Γ := [], L := 17, nfix := 0 }
abbrev plain_samePaths_R : List RSrc := [.tmp 4]
theorem mk_plain_samePaths {base : Nat} {av : List AV} {r : RV} (hfo : formOk plain_samePaths_E base av) (hW : AVs.fits av → hwp Tryd.prog plain_samePaths (finQ plain_samePaths_E base av plain_samePaths_R r) (F0 plain_samePaths_E base av)) (hov : ∀ x, r.res = .ov x → nOwn av = 0 := by intro x h; cases h <;> rfl) : Contract Tryd.prog fn_plain_samePaths av r :=
  contract_of_wp (fn := Tryd.f85) (c := Tryd.f85.body.getD .skip) (by kernel_rfl) (by kernel_rfl) (by kernel_rfl) (by kernel_rfl) (by kernel_rfl) (by kernel_rfl) (by kernel_rfl) hfo hW hov
abbrev plain_samePaths_1_r0 : HCode := .reg [⟨none, .val 2 (.boxF (.t 0))⟩,
    ⟨none, .val 3 (.boxF (.t 1))⟩,
    ⟨none, .val 4 (.mv (.c (bv false)))⟩] false []
abbrev plain_samePaths_1_r1 : HCode := .reg [⟨none, .val 5 (.fldR (.t 2) 0 1)⟩,
    ⟨none, .val 6 (.ldR (.t 5) 1 false)⟩,
    ⟨none, .val 7 (.fldR (.t 3) 0 1)⟩,
    ⟨none, .val 8 (.ldR (.t 7) 1 false)⟩,
    ⟨none, .val 9 (.strs .eql (.t 6) (.t 8))⟩,
    ⟨none, .val 10 (.mv (.t 9))⟩,
    ⟨some (10, true), .val 11 (.fldR (.t 2) 1 1)⟩,
    ⟨some (10, true), .val 12 (.ldR (.t 11) 1 false)⟩,
    ⟨some (10, true), .val 13 (.fldR (.t 3) 1 1)⟩,
    ⟨some (10, true), .val 14 (.ldR (.t 13) 1 false)⟩,
    ⟨some (10, true), .call (some 15) fn_slices_EqualFunc_Test [(.t 12, .v), (.t 14, .v), (.f fn_plain_sameTests, .v)]⟩,
    ⟨none, .val 16 (.pick (.t 10) (.t 15) (.c (bv false)))⟩,
    ⟨none, .val 4 (.mv (.t 16))⟩] false [.forget [5, 6, 7, 8, 9, 10, 11, 12, 13, 14, 15, 16]]
abbrev plain_samePaths_1 : HCode := (.seq plain_samePaths_1_r0 (.seq plain_samePaths_1_r1 .ret))
abbrev plain_samePaths_1_E : Env := { N := 17, Γ := [], L := 17, nfix := 0 }
abbrev plain_samePaths_1_R : List RSrc := [.tmp 4]
theorem mk_plain_samePaths_1 {base : Nat} {av : List AV} {r : RV} (hfo : formOk plain_samePaths_1_E base av) (hW : AVs.fits av → hwp Tryd.prog plain_samePaths_1 (finQ plain_samePaths_1_E base av plain_samePaths_1_R r) (F0 plain_samePaths_1_E base av)) (hov : ∀ x, r.res = .ov x → nOwn av = 0 := by intro x h; cases h <;> rfl) : Contract Tryd.prog fn_plain_samePaths_1 av r :=
  contract_of_wp (fn := Tryd.f127) (c := Tryd.f127.body.getD .skip) (by kernel_rfl) (by kernel_rfl) (by kernel_rfl) (by kernel_rfl) (by kernel_rfl) (by kernel_rfl) (by kernel_rfl) hfo hW hov
abbrev slices_EqualFunc_Path_r0 : HCode := .reg [⟨none, .val 6 (.mv (.c (bv false)))⟩] false []
abbrev slices_EqualFunc_Path_r1 : HCode := .reg [⟨none, .val 10 (.mv (.t 0))⟩,
    ⟨none, .val 11 (.len false (.t 10))⟩,
    ⟨none, .val 12 (.mv (.t 1))⟩,
    ⟨none, .val 13 (.len false (.t 12))⟩,
    ⟨none, .val 14 (.ints .neq (.t 11) (.t 13))⟩] false [.forget [10, 11, 12, 13]]
abbrev slices_EqualFunc_Path_r2 : HCode := .reg [⟨none, .val 6 (.mv (.c (bv false)))⟩] false []
abbrev slices_EqualFunc_Path_r3 : HCode := .reg [⟨none, .val 15 (.mv (.t 0))⟩,
    ⟨none, .val 16 (.len false (.t 15))⟩,
    ⟨none, .val 17 (.mv (.c (iv 0)))⟩] false []
abbrev slices_EqualFunc_Path_r4 : HCode := .reg [⟨none, .val 18 (.ints .lss (.t 17) (.t 16))⟩] false []
abbrev slices_EqualFunc_Path_r5 : HCode := .reg [⟨none, .val 19 (.mv (.t 17))⟩,
    ⟨none, .val 20 (.idxA 2 (.t 15) (.t 17))⟩,
    ⟨none, .val 21 (.ldR (.t 20) 2 true)⟩,
    ⟨none, .alloc 8 0 32 [.nl 2, .nl 1]⟩,
    ⟨none, .val 7 (.mv (.t 19))⟩,
    ⟨none, .sto (.t 8) 0 32 0 2 (.t 21)⟩] false [.forget [19, 20, 21]]
abbrev slices_EqualFunc_Path_r6 : HCode := .reg [⟨none, .val 22 (.mv (.t 1))⟩,
    ⟨none, .val 23 (.mv (.t 7))⟩,
    ⟨none, .val 24 (.idxA 2 (.t 22) (.t 23))⟩,
    ⟨none, .val 25 (.ldR (.t 24) 2 true)⟩,
    ⟨none, .alloc 9 1 34 [.nl 2, .nl 1]⟩,
    ⟨none, .sto (.t 9) 1 34 0 2 (.t 25)⟩] false [.forget [22, 23, 24, 25]]
abbrev slices_EqualFunc_Path_r7 : HCode := .reg [⟨none, .val 26 (.mv (.t 2))⟩,
    ⟨none, .val 27 (.ldB (.t 8) 0 32 0 2 true)⟩,
    ⟨none, .val 28 (.ldB (.t 9) 1 34 0 2 true)⟩,
    ⟨none, .callv (some 29) (.t 26) [(.t 27, .v), (.t 28, .v)]⟩,
    ⟨none, .val 30 (.not (.t 29))⟩] false [.forget [26, 27, 28, 29]]
abbrev slices_EqualFunc_Path_r8 : HCode := .reg [⟨none, .val 6 (.mv (.c (bv false)))⟩] false []
abbrev slices_EqualFunc_Path_r9 : HCode := .reg [⟨none, .val 31 (.ints .add (.t 17) (.c (iv 1)))⟩,
    ⟨none, .val 17 (.mv (.t 31))⟩] false [.forget [31]]
abbrev slices_EqualFunc_Path_r10 : HCode := .reg [⟨none, .val 6 (.mv (.c (bv true)))⟩] false []
abbrev slices_EqualFunc_Path : HCode := (.seq slices_EqualFunc_Path_r0 (.seq (.seq slices_EqualFunc_Path_r1 (.cond (.t 14) (.seq slices_EqualFunc_Path_r2 .ret) .skip)) (.seq (.seq slices_EqualFunc_Path_r3 (.block 0 (.loop (.seq slices_EqualFunc_Path_r4 (.seq (.cond (.t 18) .skip (.exit 0)) (.seq (.block 1 (.seq slices_EqualFunc_Path_r5 (.seq slices_EqualFunc_Path_r6 (.seq slices_EqualFunc_Path_r7 (.cond (.t 30) (.seq slices_EqualFunc_Path_r8 .ret) .skip))))) slices_EqualFunc_Path_r9)))))) (.seq slices_EqualFunc_Path_r10 .ret))))
abbrev slices_EqualFunc_Path_E : Env := { N := 32, Γ := [(32, 2), (34, 2)], L := 36, nfix := 0 }
abbrev slices_EqualFunc_Path_R : List RSrc := [.tmp 6]
theorem mk_slices_EqualFunc_Path {base : Nat} {av : List AV} {r : RV} (hfo : formOk slices_EqualFunc_Path_E base av) (hW : AVs.fits av → hwp Tryd.prog slices_EqualFunc_Path (finQ slices_EqualFunc_Path_E base av slices_EqualFunc_Path_R r) (F0 slices_EqualFunc_Path_E base av)) (hov : ∀ x, r.res = .ov x → nOwn av = 0 := by intro x h; cases h <;> rfl) : Contract Tryd.prog fn_slices_EqualFunc_Path av r :=
  contract_of_wp (fn := Tryd.f84) (c := Tryd.f84.body.getD .skip) (by kernel_rfl) (by kernel_rfl) (by kernel_rfl) (by kernel_rfl) (by kernel_rfl) (by kernel_rfl) (by kernel_rfl) hfo hW hov
abbrev slices_EqualFunc_Step_r0 : HCode := .reg [⟨none, .val 6 (.mv (.c (bv false)))⟩] false []
abbrev slices_EqualFunc_Step_r1 : HCode := .reg [⟨none, .val 10 (.mv (.t 0))⟩,
    ⟨none, .val 11 (.len false (.t 10))⟩,
    ⟨none, .val 12 (.mv (.t 1))⟩,
    ⟨none, .val 13 (.len false (.t 12))⟩,
    ⟨none, .val 14 (.ints .neq (.t 11) (.t 13))⟩] false [.forget [10, 11, 12, 13]]
abbrev slices_EqualFunc_Step_r2 : HCode := .reg [⟨none, .val 6 (.mv (.c (bv false)))⟩] false []
abbrev slices_EqualFunc_Step_r3 : HCode := .reg [⟨none, .val 15 (.mv (.t 0))⟩,
    ⟨none, .val 16 (.len false (.t 15))⟩,
    ⟨none, .val 17 (.mv (.c (iv 0)))⟩] false []
abbrev slices_EqualFunc_Step_r4 : HCode := .reg [⟨none, .val 18 (.ints .lss (.t 17) (.t 16))⟩] false []
abbrev slices_EqualFunc_Step_r5 : HCode := .reg [⟨none, .val 19 (.mv (.t 17))⟩,
    ⟨none, .val 20 (.idxA 2 (.t 15) (.t 17))⟩,
    ⟨none, .val 21 (.ldR (.t 20) 2 true)⟩,
    ⟨none, .alloc 8 0 32 [.v (mkS []), .nl 6]⟩,
    ⟨none, .val 7 (.mv (.t 19))⟩,
    ⟨none, .sto (.t 8) 0 32 0 2 (.t 21)⟩] false [.forget [19, 20, 21]]
abbrev slices_EqualFunc_Step_r6 : HCode := .reg [⟨none, .val 22 (.mv (.t 1))⟩,
    ⟨none, .val 23 (.mv (.t 7))⟩,
    ⟨none, .val 24 (.idxA 2 (.t 22) (.t 23))⟩,
    ⟨none, .val 25 (.ldR (.t 24) 2 true)⟩,
    ⟨none, .alloc 9 1 34 [.v (mkS []), .nl 6]⟩,
    ⟨none, .sto (.t 9) 1 34 0 2 (.t 25)⟩] false [.forget [22, 23, 24, 25]]
abbrev slices_EqualFunc_Step_r7 : HCode := .reg [⟨none, .val 26 (.mv (.t 2))⟩,
    ⟨none, .val 27 (.ldB (.t 8) 0 32 0 2 true)⟩,
    ⟨none, .val 28 (.ldB (.t 9) 1 34 0 2 true)⟩,
    ⟨none, .callv (some 29) (.t 26) [(.t 27, .v), (.t 28, .v)]⟩,
    ⟨none, .val 30 (.not (.t 29))⟩] false [.forget [26, 27, 28, 29]]
abbrev slices_EqualFunc_Step_r8 : HCode := .reg [⟨none, .val 6 (.mv (.c (bv false)))⟩] false []
abbrev slices_EqualFunc_Step_r9 : HCode := .reg [⟨none, .val 31 (.ints .add (.t 17) (.c (iv 1)))⟩,
    ⟨none, .val 17 (.mv (.t 31))⟩] false [.forget [31]]
abbrev slices_EqualFunc_Step_r10 : HCode := .reg [⟨none, .val 6 (.mv (.c (bv true)))⟩] false []
abbrev slices_EqualFunc_Step : HCode := (.seq slices_EqualFunc_Step_r0 (.seq (.seq slices_EqualFunc_Step_r1 (.cond (.t 14) (.seq slices_EqualFunc_Step_r2 .ret) .skip)) (.seq (.seq slices_EqualFunc_Step_r3 (.block 0 (.loop (.seq slices_EqualFunc_Step_r4 (.seq (.cond (.t 18) .skip (.exit 0)) (.seq (.block 1 (.seq slices_EqualFunc_Step_r5 (.seq slices_EqualFunc_Step_r6 (.seq slices_EqualFunc_Step_r7 (.cond (.t 30) (.seq slices_EqualFunc_Step_r8 .ret) .skip))))) slices_EqualFunc_Step_r9)))))) (.seq slices_EqualFunc_Step_r10 .ret))))
abbrev slices_EqualFunc_Step_E : Env := { N := 32, Γ := [(32, 2), (34, 2)], L := 36, nfix := 0 }
abbrev slices_EqualFunc_Step_R : List RSrc := [.tmp 6]
theorem mk_slices_EqualFunc_Step {base : Nat} {av : List AV} {r : RV} (hfo : formOk slices_EqualFunc_Step_E base av) (hW : AVs.fits av → hwp Tryd.prog slices_EqualFunc_Step (finQ slices_EqualFunc_Step_E base av slices_EqualFunc_Step_R r) (F0 slices_EqualFunc_Step_E base av)) (hov : ∀ x, r.res = .ov x → nOwn av = 0 := by intro x h; cases h <;> rfl) : Contract Tryd.prog fn_slices_EqualFunc_Step av r :=
  contract_of_wp (fn := Tryd.f126) (c := Tryd.f126.body.getD .skip) (by kernel_rfl) (by kernel_rfl) (by kernel_rfl) (by kernel_rfl) (by kernel_rfl) (by kernel_rfl) (by kernel_rfl) hfo hW hov
abbrev slices_EqualFunc_Test_r0 : HCode := .reg [⟨none, .val 6 (.mv (.c (bv false)))⟩] false []
abbrev slices_EqualFunc_Test_r1 : HCode := .reg [⟨none, .val 10 (.mv (.t 0))⟩,
    ⟨none, .val 11 (.len false (.t 10))⟩,
    ⟨none, .val 12 (.mv (.t 1))⟩,
    ⟨none, .val 13 (.len false (.t 12))⟩,
    ⟨none, .val 14 (.ints .neq (.t 11) (.t 13))⟩] false [.forget [10, 11, 12, 13]]
abbrev slices_EqualFunc_Test_r2 : HCode := .reg [⟨none, .val 6 (.mv (.c (bv false)))⟩] false []
abbrev slices_EqualFunc_Test_r3 : HCode := .reg [⟨none, .val 15 (.mv (.t 0))⟩,
    ⟨none, .val 16 (.len false (.t 15))⟩,
    ⟨none, .val 17 (.mv (.c (iv 0)))⟩] false []
abbrev slices_EqualFunc_Test_r4 : HCode := .reg [⟨none, .val 18 (.ints .lss (.t 17) (.t 16))⟩] false []
abbrev slices_EqualFunc_Test_r5 : HCode := .reg [⟨none, .val 19 (.mv (.t 17))⟩,
    ⟨none, .val 20 (.idxA 6 (.t 15) (.t 17))⟩,
    ⟨none, .val 21 (.ldR (.t 20) 6 true)⟩,
    ⟨none, .alloc 8 0 32 [.v (.int .i64 0), .v (mkS []), .v (mkS []), .v (.int .i64 0), .v (.int .i64 0), .nl 2]⟩,
    ⟨none, .val 7 (.mv (.t 19))⟩,
    ⟨none, .sto (.t 8) 0 32 0 6 (.t 21)⟩] false [.forget [19, 20, 21]]
abbrev slices_EqualFunc_Test_r6 : HCode := .reg [⟨none, .val 22 (.mv (.t 1))⟩,
    ⟨none, .val 23 (.mv (.t 7))⟩,
    ⟨none, .val 24 (.idxA 6 (.t 22) (.t 23))⟩,
    ⟨none, .val 25 (.ldR (.t 24) 6 true)⟩,
    ⟨none, .alloc 9 1 38 [.v (.int .i64 0), .v (mkS []), .v (mkS []), .v (.int .i64 0), .v (.int .i64 0), .nl 2]⟩,
    ⟨none, .sto (.t 9) 1 38 0 6 (.t 25)⟩] false [.forget [22, 23, 24, 25]]
abbrev slices_EqualFunc_Test_r7 : HCode := .reg [⟨none, .val 26 (.mv (.t 2))⟩,
    ⟨none, .val 27 (.ldB (.t 8) 0 32 0 6 true)⟩,
    ⟨none, .val 28 (.ldB (.t 9) 1 38 0 6 true)⟩,
    ⟨none, .callv (some 29) (.t 26) [(.t 27, .v), (.t 28, .v)]⟩,
    ⟨none, .val 30 (.not (.t 29))⟩] false [.forget [26, 27, 28, 29]]
abbrev slices_EqualFunc_Test_r8 : HCode := .reg [⟨none, .val 6 (.mv (.c (bv false)))⟩] false []
abbrev slices_EqualFunc_Test_r9 : HCode := .reg [⟨none, .val 31 (.ints .add (.t 17) (.c (iv 1)))⟩,
    ⟨none, .val 17 (.mv (.t 31))⟩] false [.forget [31]]
abbrev slices_EqualFunc_Test_r10 : HCode := .reg [⟨none, .val 6 (.mv (.c (bv true)))⟩] false []
abbrev slices_EqualFunc_Test : HCode := (.seq slices_EqualFunc_Test_r0 (.seq (.seq slices_EqualFunc_Test_r1 (.cond (.t 14) (.seq slices_EqualFunc_Test_r2 .ret) .skip)) (.seq (.seq slices_EqualFunc_Test_r3 (.block 0 (.loop (.seq slices_EqualFunc_Test_r4 (.seq (.cond (.t 18) .skip (.exit 0)) (.seq (.block 1 (.seq slices_EqualFunc_Test_r5 (.seq slices_EqualFunc_Test_r6 (.seq slices_EqualFunc_Test_r7 (.cond (.t 30) (.seq slices_EqualFunc_Test_r8 .ret) .skip))))) slices_EqualFunc_Test_r9)))))) (.seq slices_EqualFunc_Test_r10 .ret))))
abbrev slices_EqualFunc_Test_E : Env := { N := 32, Γ := [(32, 6), (38, 6)], L := 44, nfix := 0 }
abbrev slices_EqualFunc_Test_R : List RSrc := [.tmp 6]
theorem mk_slices_EqualFunc_Test {base : Nat} {av : List AV} {r : RV} (hfo : formOk slices_EqualFunc_Test_E base av) (hW : AVs.fits av → hwp Tryd.prog slices_EqualFunc_Test (finQ slices_EqualFunc_Test_E base av slices_EqualFunc_Test_R r) (F0 slices_EqualFunc_Test_E base av)) (hov : ∀ x, r.res = .ov x → nOwn av = 0 := by intro x h; cases h <;> rfl) : Contract Tryd.prog fn_slices_EqualFunc_Test av r :=
  contract_of_wp (fn := Tryd.f128) (c := Tryd.f128.body.getD .skip) (by kernel_rfl) (by kernel_rfl) (by kernel_rfl) (by kernel_rfl) (by kernel_rfl) (by kernel_rfl) (by kernel_rfl) hfo hW hov
abbrev plain_firsts_api_Path_r0 : HCode := .reg [⟨none, .val 3 (.boxF (.t 1))⟩,
    ⟨none, .nlo 4 ty_api_Path 2⟩] false []
abbrev plain_firsts_api_Path_r1 : HCode := .reg [⟨none, .nlo 5 ty_api_Path 2⟩] false []
abbrev plain_firsts_api_Path_r2 : HCode := .reg [⟨none, .val 8 (.mv (.t 0))⟩,
    ⟨none, .val 9 (.len false (.t 8))⟩,
    ⟨none, .val 10 (.mv (.c (iv 0)))⟩] false []
abbrev plain_firsts_api_Path_r3 : HCode := .reg [⟨none, .val 11 (.ints .lss (.t 10) (.t 9))⟩] false []
abbrev plain_firsts_api_Path_r4 : HCode := .reg [⟨none, .val 12 (.idxA 2 (.t 8) (.t 10))⟩,
    ⟨none, .val 13 (.ldR (.t 12) 2 true)⟩,
    ⟨none, .alloc 7 0 24 [.nl 2, .nl 1]⟩,
    ⟨none, .sto (.t 7) 0 24 0 2 (.t 13)⟩] false [.frz 0 24 2, .forget [12, 13]]
abbrev plain_firsts_api_Path_r5 : HCode := .reg [⟨none, .val 14 (.mv (.t 5))⟩,
    ⟨none, .val 15 (.mkf fn_plain_firsts_api_Path_1 [.t 3, .t 7])⟩,
    ⟨none, .call (some 16) fn_slices_ContainsFunc_Path [(.t 14, .v), (.t 15, .v)]⟩,
    ⟨none, .val 17 (.not (.t 16))⟩] false [.forget [14, 15, 16]]
abbrev plain_firsts_api_Path_r6 : HCode := .reg [⟨none, .mvo 18 5⟩,
    ⟨none, .val 19 (.ldR (.t 7) 2 true)⟩,
    ⟨none, .val 20 (.bslF 2 [.t 19])⟩,
    ⟨none, .app 21 ty_api_Path 2 (.t 18) (.t 20)⟩,
    ⟨none, .mvo 5 21⟩] false [.forget [18, 19, 20, 21]]
abbrev plain_firsts_api_Path_r7 : HCode := .reg [⟨none, .val 22 (.ints .add (.t 10) (.c (iv 1)))⟩,
    ⟨none, .val 10 (.mv (.t 22))⟩] false [.forget [22]]
abbrev plain_firsts_api_Path_r8 : HCode := .reg [⟨none, .mvo 23 5⟩,
    ⟨none, .mvo 4 23⟩] false [.forget [23]]
abbrev plain_firsts_api_Path : HCode := (.seq plain_firsts_api_Path_r0 (.seq plain_firsts_api_Path_r1 (.seq (.seq plain_firsts_api_Path_r2 (.block 0 (.loop (.seq plain_firsts_api_Path_r3 (.seq (.cond (.t 11) .skip (.exit 0)) (.seq (.block 1 (.seq plain_firsts_api_Path_r4 (.seq plain_firsts_api_Path_r5 (.cond (.t 17) plain_firsts_api_Path_r6 .skip)))) plain_firsts_api_Path_r7)))))) (.seq plain_firsts_api_Path_r8 .ret))))
abbrev plain_firsts_api_Path_E : Env := { N := 24, Γ := [(24, 2)], L := 26, nfix := 0 }
abbrev plain_firsts_api_Path_R : List RSrc := [.tmp 4]
theorem mk_plain_firsts_api_Path {base : Nat} {av : List AV} {r : RV} (hfo : formOk plain_firsts_api_Path_E base av) (hW : AVs.fits av → hwp Tryd.prog plain_firsts_api_Path (finQ plain_firsts_api_Path_E base av plain_firsts_api_Path_R r) (F0 plain_firsts_api_Path_E base av)) (hov : ∀ x, r.res = .ov x → nOwn av = 0 := by intro x h; cases h <;> rfl) : Contract Tryd.prog fn_plain_firsts_api_Path av r :=
  contract_of_wp (fn := Tryd.f124) (c := Tryd.f124.body.getD .skip) (by kernel_rfl) (by kernel_rfl) (by kernel_rfl) (by kernel_rfl) (by kernel_rfl) (by kernel_rfl) (by kernel_rfl) hfo hW hov
abbrev plain_firsts_api_Path_1_r0 : HCode := .reg [⟨none, .val 3 (.boxF (.t 0))⟩,
    ⟨none, .val 4 (.mv (.c (bv false)))⟩] false []
abbrev plain_firsts_api_Path_1_r1 : HCode := .reg [⟨none, .val 5 (.ldR (.t 1) 1 false)⟩,
    ⟨none, .val 6 (.ldR (.t 2) 2 true)⟩,
    ⟨none, .val 7 (.ldR (.t 3) 2 true)⟩,
    ⟨none, .callv (some 8) (.t 5) [(.t 6, .v), (.t 7, .v)]⟩,
    ⟨none, .val 4 (.mv (.t 8))⟩] false [.forget [5, 6, 7, 8]]
abbrev plain_firsts_api_Path_1 : HCode := (.seq plain_firsts_api_Path_1_r0 (.seq plain_firsts_api_Path_1_r1 .ret))
abbrev plain_firsts_api_Path_1_E : Env := { N := 9, Γ := [], L := 9, nfix := 0 }
abbrev plain_firsts_api_Path_1_R : List RSrc := [.tmp 4]
theorem mk_plain_firsts_api_Path_1 {base : Nat} {av : List AV} {r : RV} (hfo : formOk plain_firsts_api_Path_1_E base av) (hW : AVs.fits av → hwp Tryd.prog plain_firsts_api_Path_1 (finQ plain_firsts_api_Path_1_E base av plain_firsts_api_Path_1_R r) (F0 plain_firsts_api_Path_1_E base av)) (hov : ∀ x, r.res = .ov x → nOwn av = 0 := by intro x h; cases h <;> rfl) : Contract Tryd.prog fn_plain_firsts_api_Path_1 av r :=
  contract_of_wp (fn := Tryd.f157) (c := Tryd.f157.body.getD .skip) (by kernel_rfl) (by kernel_rfl) (by kernel_rfl) (by kernel_rfl) (by kernel_rfl) (by kernel_rfl) (by kernel_rfl) hfo hW hov
abbrev plain_firsts_api_Test_r0 : HCode := .reg [⟨none, .val 3 (.boxF (.t 1))⟩,
    ⟨none, .nlo 4 ty_api_Test 6⟩] false []
abbrev plain_firsts_api_Test_r1 : HCode := .reg [⟨none, .nlo 5 ty_api_Test 6⟩] false []
abbrev plain_firsts_api_Test_r2 : HCode := .reg [⟨none, .val 8 (.mv (.t 0))⟩,
    ⟨none, .val 9 (.len false (.t 8))⟩,
    ⟨none, .val 10 (.mv (.c (iv 0)))⟩] false []
abbrev plain_firsts_api_Test_r3 : HCode := .reg [⟨none, .val 11 (.ints .lss (.t 10) (.t 9))⟩] false []
abbrev plain_firsts_api_Test_r4 : HCode := .reg [⟨none, .val 12 (.idxA 6 (.t 8) (.t 10))⟩,
    ⟨none, .val 13 (.ldR (.t 12) 6 true)⟩,
    ⟨none, .alloc 7 0 24 [.v (.int .i64 0), .v (mkS []), .v (mkS []), .v (.int .i64 0), .v (.int .i64 0), .nl 2]⟩,
    ⟨none, .sto (.t 7) 0 24 0 6 (.t 13)⟩] false [.frz 0 24 6, .forget [12, 13]]
abbrev plain_firsts_api_Test_r5 : HCode := .reg [⟨none, .val 14 (.mv (.t 5))⟩,
    ⟨none, .val 15 (.mkf fn_plain_firsts_api_Test_1 [.t 3, .t 7])⟩,
    ⟨none, .call (some 16) fn_slices_ContainsFunc_Test [(.t 14, .v), (.t 15, .v)]⟩,
    ⟨none, .val 17 (.not (.t 16))⟩] false [.forget [14, 15, 16]]
abbrev plain_firsts_api_Test_r6 : HCode := .reg [⟨none, .mvo 18 5⟩,
    ⟨none, .val 19 (.ldR (.t 7) 6 true)⟩,
    ⟨none, .val 20 (.bslF 6 [.t 19])⟩,
    ⟨none, .app 21 ty_api_Test 6 (.t 18) (.t 20)⟩,
    ⟨none, .mvo 5 21⟩] false [.forget [18, 19, 20, 21]]
abbrev plain_firsts_api_Test_r7 : HCode := .reg [⟨none, .val 22 (.ints .add (.t 10) (.c (iv 1)))⟩,
    ⟨none, .val 10 (.mv (.t 22))⟩] false [.forget [22]]
abbrev plain_firsts_api_Test_r8 : HCode := .reg [⟨none, .mvo 23 5⟩,
    ⟨none, .mvo 4 23⟩] false [.forget [23]]
abbrev plain_firsts_api_Test : HCode := (.seq plain_firsts_api_Test_r0 (.seq plain_firsts_api_Test_r1 (.seq (.seq plain_firsts_api_Test_r2 (.block 0 (.loop (.seq plain_firsts_api_Test_r3 (.seq (.cond (.t 11) .skip (.exit 0)) (.seq (.block 1 (.seq plain_firsts_api_Test_r4 (.seq plain_firsts_api_Test_r5 (.cond (.t 17) plain_firsts_api_Test_r6 .skip)))) plain_firsts_api_Test_r7)))))) (.seq plain_firsts_api_Test_r8 .ret))))
abbrev plain_firsts_api_Test_E : Env := { N := 24, Γ := [(24, 6)], L := 30, nfix := 0 }
abbrev plain_firsts_api_Test_R : List RSrc := [.tmp 4]
theorem mk_plain_firsts_api_Test {base : Nat} {av : List AV} {r : RV} (hfo : formOk plain_firsts_api_Test_E base av) (hW : AVs.fits av → hwp Tryd.prog plain_firsts_api_Test (finQ plain_firsts_api_Test_E base av plain_firsts_api_Test_R r) (F0 plain_firsts_api_Test_E base av)) (hov : ∀ x, r.res = .ov x → nOwn av = 0 := by intro x h; cases h <;> rfl) : Contract Tryd.prog fn_plain_firsts_api_Test av r :=
  contract_of_wp (fn := Tryd.f155) (c := Tryd.f155.body.getD .skip) (by kernel_rfl) (by kernel_rfl) (by kernel_rfl) (by kernel_rfl) (by kernel_rfl) (by kernel_rfl) (by kernel_rfl) hfo hW hov
abbrev plain_firsts_api_Test_1_r0 : HCode := .reg [⟨none, .val 3 (.boxF (.t 0))⟩,
    ⟨none, .val 4 (.mv (.c (bv false)))⟩] false []
abbrev plain_firsts_api_Test_1_r1 : HCode := .reg [⟨none, .val 5 (.ldR (.t 1) 1 false)⟩,
    ⟨none, .val 6 (.ldR (.t 2) 6 true)⟩,
    ⟨none, .val 7 (.ldR (.t 3) 6 true)⟩,
    ⟨none, .callv (some 8) (.t 5) [(.t 6, .v), (.t 7, .v)]⟩,
    ⟨none, .val 4 (.mv (.t 8))⟩] false [.forget [5, 6, 7, 8]]
abbrev plain_firsts_api_Test_1 : HCode := (.seq plain_firsts_api_Test_1_r0 (.seq plain_firsts_api_Test_1_r1 .ret))
abbrev plain_firsts_api_Test_1_E : Env := { N := 9, Γ := [], L := 9, nfix := 0 }
abbrev plain_firsts_api_Test_1_R : List RSrc := [.tmp 4]
theorem mk_plain_firsts_api_Test_1 {base : Nat} {av : List AV} {r : RV} (hfo : formOk plain_firsts_api_Test_1_E base av) (hW : AVs.fits av → hwp Tryd.prog plain_firsts_api_Test_1 (finQ plain_firsts_api_Test_1_E base av plain_firsts_api_Test_1_R r) (F0 plain_firsts_api_Test_1_E base av)) (hov : ∀ x, r.res = .ov x → nOwn av = 0 := by intro x h; cases h <;> rfl) : Contract Tryd.prog fn_plain_firsts_api_Test_1 av r :=
  contract_of_wp (fn := Tryd.f179) (c := Tryd.f179.body.getD .skip) (by kernel_rfl) (by kernel_rfl) (by kernel_rfl) (by kernel_rfl) (by kernel_rfl) (by kernel_rfl) (by kernel_rfl) hfo hW hov
abbrev slices_IndexFunc_Path_r0 : HCode := .reg [⟨none, .val 4 (.mv (.c (iv 0)))⟩] false []
abbrev slices_IndexFunc_Path_r1 : HCode := .reg [⟨none, .val 6 (.mv (.t 0))⟩,
    ⟨none, .val 7 (.len false (.t 6))⟩,
    ⟨none, .val 8 (.mv (.c (iv 0)))⟩] false [.forget [6]]
abbrev slices_IndexFunc_Path_r2 : HCode := .reg [⟨none, .val 9 (.ints .lss (.t 8) (.t 7))⟩] false []
abbrev slices_IndexFunc_Path_r3 : HCode := .reg [⟨none, .val 10 (.mv (.t 8))⟩,
    ⟨none, .val 5 (.mv (.t 10))⟩] false [.forget [10]]
abbrev slices_IndexFunc_Path_r4 : HCode := .reg [⟨none, .val 11 (.mv (.t 1))⟩,
    ⟨none, .val 12 (.mv (.t 0))⟩,
    ⟨none, .val 13 (.mv (.t 5))⟩,
    ⟨none, .val 14 (.idxA 2 (.t 12) (.t 13))⟩,
    ⟨none, .val 15 (.ldR (.t 14) 2 true)⟩,
    ⟨none, .callv (some 16) (.t 11) [(.t 15, .v)]⟩] false [.forget [11, 12, 13, 14, 15]]
abbrev slices_IndexFunc_Path_r5 : HCode := .reg [⟨none, .val 17 (.mv (.t 5))⟩,
    ⟨none, .val 4 (.mv (.t 17))⟩] false [.forget [17]]
abbrev slices_IndexFunc_Path_r6 : HCode := .reg [⟨none, .val 18 (.ints .add (.t 8) (.c (iv 1)))⟩,
    ⟨none, .val 8 (.mv (.t 18))⟩] false [.forget [18]]
abbrev slices_IndexFunc_Path_r7 : HCode := .reg [⟨none, .val 4 (.mv (.c (iv (-1))))⟩] false []
abbrev slices_IndexFunc_Path : HCode := (.seq slices_IndexFunc_Path_r0 (.seq (.seq slices_IndexFunc_Path_r1 (.block 0 (.loop (.seq slices_IndexFunc_Path_r2 (.seq (.cond (.t 9) .skip (.exit 0)) (.seq (.block 1 (.seq slices_IndexFunc_Path_r3 (.seq slices_IndexFunc_Path_r4 (.cond (.t 16) (.seq slices_IndexFunc_Path_r5 .ret) .skip)))) slices_IndexFunc_Path_r6)))))) (.seq slices_IndexFunc_Path_r7 .ret)))
abbrev slices_IndexFunc_Path_E : Env := { N := 19, Γ := [], L := 19, nfix := 0 }
abbrev slices_IndexFunc_Path_R : List RSrc := [.tmp 4]
theorem mk_slices_IndexFunc_Path {base : Nat} {av : List AV} {r : RV} (hfo : formOk slices_IndexFunc_Path_E base av) (hW : AVs.fits av → hwp Tryd.prog slices_IndexFunc_Path (finQ slices_IndexFunc_Path_E base av slices_IndexFunc_Path_R r) (F0 slices_IndexFunc_Path_E base av)) (hov : ∀ x, r.res = .ov x → nOwn av = 0 := by intro x h; cases h <;> rfl) : Contract Tryd.prog fn_slices_IndexFunc_Path av r :=
  contract_of_wp (fn := Tryd.f180) (c := Tryd.f180.body.getD .skip) (by kernel_rfl) (by kernel_rfl) (by kernel_rfl) (by kernel_rfl) (by kernel_rfl) (by kernel_rfl) (by kernel_rfl) hfo hW hov
abbrev slices_IndexFunc_Test_r0 : HCode := .reg [⟨none, .val 4 (.mv (.c (iv 0)))⟩] false []
abbrev slices_IndexFunc_Test_r1 : HCode := .reg [⟨none, .val 6 (.mv (.t 0))⟩,
    ⟨none, .val 7 (.len false (.t 6))⟩,
    ⟨none, .val 8 (.mv (.c (iv 0)))⟩] false [.forget [6]]
abbrev slices_IndexFunc_Test_r2 : HCode := .reg [⟨none, .val 9 (.ints .lss (.t 8) (.t 7))⟩] false []
abbrev slices_IndexFunc_Test_r3 : HCode := .reg [⟨none, .val 10 (.mv (.t 8))⟩,
    ⟨none, .val 5 (.mv (.t 10))⟩] false [.forget [10]]
abbrev slices_IndexFunc_Test_r4 : HCode := .reg [⟨none, .val 11 (.mv (.t 1))⟩,
    ⟨none, .val 12 (.mv (.t 0))⟩,
    ⟨none, .val 13 (.mv (.t 5))⟩,
    ⟨none, .val 14 (.idxA 6 (.t 12) (.t 13))⟩,
    ⟨none, .val 15 (.ldR (.t 14) 6 true)⟩,
    ⟨none, .callv (some 16) (.t 11) [(.t 15, .v)]⟩] false [.forget [11, 12, 13, 14, 15]]
abbrev slices_IndexFunc_Test_r5 : HCode := .reg [⟨none, .val 17 (.mv (.t 5))⟩,
    ⟨none, .val 4 (.mv (.t 17))⟩] false [.forget [17]]
abbrev slices_IndexFunc_Test_r6 : HCode := .reg [⟨none, .val 18 (.ints .add (.t 8) (.c (iv 1)))⟩,
    ⟨none, .val 8 (.mv (.t 18))⟩] false [.forget [18]]
abbrev slices_IndexFunc_Test_r7 : HCode := .reg [⟨none, .val 4 (.mv (.c (iv (-1))))⟩] false []
abbrev slices_IndexFunc_Test : HCode := (.seq slices_IndexFunc_Test_r0 (.seq (.seq slices_IndexFunc_Test_r1 (.block 0 (.loop (.seq slices_IndexFunc_Test_r2 (.seq (.cond (.t 9) .skip (.exit 0)) (.seq (.block 1 (.seq slices_IndexFunc_Test_r3 (.seq slices_IndexFunc_Test_r4 (.cond (.t 16) (.seq slices_IndexFunc_Test_r5 .ret) .skip)))) slices_IndexFunc_Test_r6)))))) (.seq slices_IndexFunc_Test_r7 .ret)))
abbrev slices_IndexFunc_Test_E : Env := { N := 19, Γ := [], L := 19, nfix := 0 }
abbrev slices_IndexFunc_Test_R : List RSrc := [.tmp 4]
theorem mk_slices_IndexFunc_Test {base : Nat} {av : List AV} {r : RV} (hfo : formOk slices_IndexFunc_Test_E base av) (hW : AVs.fits av → hwp Tryd.prog slices_IndexFunc_Test (finQ slices_IndexFunc_Test_E base av slices_IndexFunc_Test_R r) (F0 slices_IndexFunc_Test_E base av)) (hov : ∀ x, r.res = .ov x → nOwn av = 0 := by intro x h; cases h <;> rfl) : Contract Tryd.prog fn_slices_IndexFunc_Test av r :=
  contract_of_wp (fn := Tryd.f198) (c := Tryd.f198.body.getD .skip) (by kernel_rfl) (by kernel_rfl) (by kernel_rfl) (by kernel_rfl) (by kernel_rfl) (by kernel_rfl) (by kernel_rfl) hfo hW hov
abbrev slices_ContainsFunc_Path_r0 : HCode := .reg [⟨none, .val 4 (.mv (.c (bv false)))⟩] false []
abbrev slices_ContainsFunc_Path_r1 : HCode := .reg [⟨none, .val 5 (.mv (.t 0))⟩,
    ⟨none, .val 6 (.mv (.t 1))⟩,
    ⟨none, .call (some 7) fn_slices_IndexFunc_Path [(.t 5, .v), (.t 6, .v)]⟩,
    ⟨none, .val 8 (.ints .geq (.t 7) (.c (iv 0)))⟩,
    ⟨none, .val 4 (.mv (.t 8))⟩] false [.forget [5, 6, 7, 8]]
abbrev slices_ContainsFunc_Path : HCode := (.seq slices_ContainsFunc_Path_r0 (.seq slices_ContainsFunc_Path_r1 .ret))
abbrev slices_ContainsFunc_Path_E : Env := { N := 9, Γ := [], L := 9, nfix := 0 }
abbrev slices_ContainsFunc_Path_R : List RSrc := [.tmp 4]
theorem mk_slices_ContainsFunc_Path {base : Nat} {av : List AV} {r : RV} (hfo : formOk slices_ContainsFunc_Path_E base av) (hW : AVs.fits av → hwp Tryd.prog slices_ContainsFunc_Path (finQ slices_ContainsFunc_Path_E base av slices_ContainsFunc_Path_R r) (F0 slices_ContainsFunc_Path_E base av)) (hov : ∀ x, r.res = .ov x → nOwn av = 0 := by intro x h; cases h <;> rfl) : Contract Tryd.prog fn_slices_ContainsFunc_Path av r :=
  contract_of_wp (fn := Tryd.f156) (c := Tryd.f156.body.getD .skip) (by kernel_rfl) (by kernel_rfl) (by kernel_rfl) (by kernel_rfl) (by kernel_rfl) (by kernel_rfl) (by kernel_rfl) hfo hW hov
abbrev slices_ContainsFunc_Test_r0 : HCode := .reg [⟨none, .val 4 (.mv (.c (bv false)))⟩] false []
abbrev slices_ContainsFunc_Test_r1 : HCode := .reg [⟨none, .val 5 (.mv (.t 0))⟩,
    ⟨none, .val 6 (.mv (.t 1))⟩,
    ⟨none, .call (some 7) fn_slices_IndexFunc_Test [(.t 5, .v), (.t 6, .v)]⟩,
    ⟨none, .val 8 (.ints .geq (.t 7) (.c (iv 0)))⟩,
    ⟨none, .val 4 (.mv (.t 8))⟩] false [.forget [5, 6, 7, 8]]
abbrev slices_ContainsFunc_Test : HCode := (.seq slices_ContainsFunc_Test_r0 (.seq slices_ContainsFunc_Test_r1 .ret))
abbrev slices_ContainsFunc_Test_E : Env := { N := 9, Γ := [], L := 9, nfix := 0 }
abbrev slices_ContainsFunc_Test_R : List RSrc := [.tmp 4]
theorem mk_slices_ContainsFunc_Test {base : Nat} {av : List AV} {r : RV} (hfo : formOk slices_ContainsFunc_Test_E base av) (hW : AVs.fits av → hwp Tryd.prog slices_ContainsFunc_Test (finQ slices_ContainsFunc_Test_E base av slices_ContainsFunc_Test_R r) (F0 slices_ContainsFunc_Test_E base av)) (hov : ∀ x, r.res = .ov x → nOwn av = 0 := by intro x h; cases h <;> rfl) : Contract Tryd.prog fn_slices_ContainsFunc_Test av r :=
  contract_of_wp (fn := Tryd.f178) (c := Tryd.f178.body.getD .skip) (by kernel_rfl) (by kernel_rfl) (by kernel_rfl) (by kernel_rfl) (by kernel_rfl) (by kernel_rfl) (by kernel_rfl) hfo hW hov
abbrev plain_inner_r0 : HCode := .reg [⟨none, .val 1 (.boxF (.t 0))⟩,
    ⟨none, .val 2 (.mv (.c (.one (.v (.pointer none)))))⟩] false []
abbrev plain_inner_r1 : HCode := .reg [⟨none, .val 3 (.fldR (.t 1) 5 1)⟩,
    ⟨none, .val 4 (.ldR (.t 3) 1 false)⟩,
    ⟨none, .val 5 (.len false (.t 4))⟩,
    ⟨none, .val 6 (.ints .neq (.t 5) (.c (iv 1)))⟩,
    ⟨none, .val 7 (.mv (.t 6))⟩,
    ⟨some (7, false), .val 8 (.fldR (.t 1) 5 1)⟩,
    ⟨some (7, false), .val 9 (.ldR (.t 8) 1 false)⟩,
    ⟨some (7, false), .val 10 (.idxA 2 (.t 9) (.c (iv 0)))⟩,
    ⟨some (7, false), .val 11 (.fldR (.t 10) 0 1)⟩,
    ⟨some (7, false), .val 12 (.ldR (.t 11) 1 false)⟩,
    ⟨some (7, false), .val 13 (.len false (.t 12))⟩,
    ⟨some (7, false), .val 14 (.ints .neq (.t 13) (.c (iv 1)))⟩,
    ⟨none, .val 15 (.pick (.t 7) (.c (bv true)) (.t 14))⟩] false [.forget [3, 4, 5, 6, 7, 8, 9, 10, 11, 12, 13, 14]]
abbrev plain_inner_r2 : HCode := .reg [⟨none, .val 2 (.mv (.c (.one (.v (.pointer none)))))⟩] false []
abbrev plain_inner_r3 : HCode := .reg [⟨none, .val 16 (.fldR (.t 1) 5 1)⟩,
    ⟨none, .val 17 (.ldR (.t 16) 1 false)⟩,
    ⟨none, .val 18 (.idxA 2 (.t 17) (.c (iv 0)))⟩,
    ⟨none, .val 19 (.fldR (.t 18) 0 1)⟩,
    ⟨none, .val 20 (.ldR (.t 19) 1 false)⟩,
    ⟨none, .val 21 (.idxA 2 (.t 20) (.c (iv 0)))⟩,
    ⟨none, .val 2 (.mv (.t 21))⟩] false [.forget [16, 17, 18, 19, 20, 21]]
abbrev plain_inner : HCode := (.seq plain_inner_r0 (.seq (.seq plain_inner_r1 (.cond (.t 15) (.seq plain_inner_r2 .ret) .skip)) (.seq plain_inner_r3 .ret)))
abbrev plain_inner_E : Env := { N := 22, Γ := [], L := 22, nfix := 0 }
abbrev plain_inner_R : List RSrc := [.tmp 2]
theorem mk_plain_inner {base : Nat} {av : List AV} {r : RV} (hfo : formOk plain_inner_E base av) (hW : AVs.fits av → hwp Tryd.prog plain_inner (finQ plain_inner_E base av plain_inner_R r) (F0 plain_inner_E base av)) (hov : ∀ x, r.res = .ov x → nOwn av = 0 := by intro x h; cases h <;> rfl) : Contract Tryd.prog fn_plain_inner av r :=
  contract_of_wp (fn := Tryd.f154) (c := Tryd.f154.body.getD .skip) (by kernel_rfl) (by kernel_rfl) (by kernel_rfl) (by kernel_rfl) (by kernel_rfl) (by kernel_rfl) (by kernel_rfl) hfo hW hov
abbrev plain_step_r0 : HCode := .reg [⟨none, .val 1 (.boxF (.t 0))⟩,
    ⟨none, .alloc 2 0 136 [.v (mkS []), .nl 6]⟩] false []
abbrev plain_step_r1 : HCode := .reg [⟨none, .val 7 (.fldR (.t 1) 0 1)⟩,
    ⟨none, .val 8 (.ldR (.t 7) 1 false)⟩,
    ⟨none, .val 9 (.bld [.v (mkS []), .nl 6] [(0, 1, .t 8)])⟩,
    ⟨none, .alloc 3 1 138 [.v (mkS []), .nl 6]⟩,
    ⟨none, .sto (.t 3) 1 138 0 2 (.t 9)⟩] false [.forget [7, 8, 9]]
abbrev plain_step_r2 : HCode := .reg [⟨none, .val 10 (.fldR (.t 1) 1 1)⟩,
    ⟨none, .val 11 (.ldR (.t 10) 1 false)⟩,
    ⟨none, .val 12 (.len false (.t 11))⟩,
    ⟨none, .val 13 (.mv (.c (iv 0)))⟩] false [.forget [10]]
abbrev plain_step_r3 : HCode := .reg [⟨none, .val 14 (.ints .lss (.t 13) (.t 12))⟩] false []
abbrev plain_step_r4 : HCode := .reg [⟨none, .val 15 (.mv (.t 13))⟩,
    ⟨none, .val 16 (.idxA 6 (.t 11) (.t 13))⟩,
    ⟨none, .val 17 (.ldR (.t 16) 6 true)⟩,
    ⟨none, .alloc 5 2 140 [.v (.int .i64 0), .v (mkS []), .v (mkS []), .v (.int .i64 0), .v (.int .i64 0), .nl 2]⟩,
    ⟨none, .val 4 (.mv (.t 15))⟩,
    ⟨none, .sto (.t 5) 2 140 0 6 (.t 17)⟩] false [.forget [15, 16, 17]]
abbrev plain_step_r5 : HCode := .reg [⟨none, .val 18 (.fldP (.t 5) 5)⟩,
    ⟨none, .val 19 (.ldB (.t 18) 2 140 5 1 false)⟩,
    ⟨none, .call (some 20) fn_plain_once [(.t 19, .v)]⟩,
    ⟨none, .val 21 (.fldP (.t 5) 5)⟩,
    ⟨none, .sto (.t 21) 2 140 5 1 (.t 20)⟩] false [.forget [18, 19, 20, 21]]
abbrev plain_step_r6 : HCode := .reg [⟨none, .val 22 (.ldB (.t 5) 2 140 0 6 true)⟩,
    ⟨none, .call (some 23) fn_plain_inner [(.t 22, .v)]⟩,
    ⟨none, .val 6 (.mv (.t 23))⟩] false [.forget [22, 23]]
abbrev plain_step_r7 : HCode := .reg [⟨none, .val 25 (.mv (.t 6))⟩,
    ⟨none, .val 26 (.pnl false true (.t 25))⟩,
    ⟨none, .val 24 (.mv (.t 26))⟩] false [.forget [25, 26]]
abbrev plain_step_r8 : HCode := .reg [⟨none, .val 28 (.fldP (.t 5) 0)⟩,
    ⟨none, .val 29 (.ldB (.t 28) 2 140 0 1 false)⟩,
    ⟨none, .val 30 (.ints .eql (.t 29) (.c (iv 13)))⟩,
    ⟨none, .val 31 (.mv (.t 30))⟩,
    ⟨some (31, true), .val 32 (.mv (.t 6))⟩,
    ⟨some (31, true), .val 33 (.nilck (.t 32))⟩,
    ⟨some (31, true), .val 34 (.fldR (.t 33) 0 1)⟩,
    ⟨some (31, true), .val 35 (.ldR (.t 34) 1 false)⟩,
    ⟨some (31, true), .val 36 (.strs .eql (.t 35) (.c (sv [])))⟩,
    ⟨none, .val 37 (.pick (.t 31) (.t 36) (.c (bv false)))⟩,
    ⟨none, .val 38 (.mv (.t 37))⟩,
    ⟨some (38, true), .val 39 (.mv (.t 6))⟩,
    ⟨some (38, true), .val 40 (.nilck (.t 39))⟩,
    ⟨some (38, true), .val 41 (.fldR (.t 40) 1 1)⟩,
    ⟨some (38, true), .val 42 (.ldR (.t 41) 1 false)⟩,
    ⟨some (38, true), .val 43 (.len false (.t 42))⟩,
    ⟨some (38, true), .val 44 (.ints .eql (.t 43) (.c (iv 1)))⟩,
    ⟨none, .val 45 (.pick (.t 38) (.t 44) (.c (bv false)))⟩,
    ⟨none, .val 46 (.mv (.t 45))⟩,
    ⟨some (46, true), .val 47 (.mv (.t 6))⟩,
    ⟨some (46, true), .val 48 (.nilck (.t 47))⟩,
    ⟨some (46, true), .val 49 (.fldR (.t 48) 1 1)⟩,
    ⟨some (46, true), .val 50 (.ldR (.t 49) 1 false)⟩,
    ⟨some (46, true), .val 51 (.idxA 6 (.t 50) (.c (iv 0)))⟩,
    ⟨some (46, true), .val 52 (.fldR (.t 51) 0 1)⟩,
    ⟨some (46, true), .val 53 (.ldR (.t 52) 1 false)⟩,
    ⟨some (46, true), .val 54 (.ints .eql (.t 53) (.c (iv 13)))⟩,
    ⟨none, .val 55 (.pick (.t 46) (.t 54) (.c (bv false)))⟩,
    ⟨none, .val 27 (.mv (.t 55))⟩] false [.forget [28, 29, 30, 31, 32, 33, 34, 35, 36, 37, 38, 39, 40, 41, 42, 43, 44, 45, 46, 47, 48, 49, 50, 51, 52, 53, 54, 55]]
abbrev plain_step_r9 : HCode := .reg [⟨none, .val 56 (.mv (.t 6))⟩,
    ⟨none, .val 57 (.nilck (.t 56))⟩,
    ⟨none, .val 58 (.fldR (.t 57) 1 1)⟩,
    ⟨none, .val 59 (.ldR (.t 58) 1 false)⟩,
    ⟨none, .val 60 (.idxA 6 (.t 59) (.c (iv 0)))⟩,
    ⟨none, .val 61 (.fldR (.t 60) 5 1)⟩,
    ⟨none, .val 62 (.ldR (.t 61) 1 false)⟩,
    ⟨none, .val 63 (.bld [.v (.int .i64 0), .v (mkS []), .v (mkS []), .v (.int .i64 0), .v (.int .i64 0), .nl 2] [(0, 1, .c (iv 14)), (5, 1, .t 62)])⟩,
    ⟨none, .sto (.t 5) 2 140 0 6 (.t 63)⟩] false [.forget [56, 57, 58, 59, 60, 61, 62, 63]]
abbrev plain_step_r10 : HCode := .drg [⟨0, false, ⟨none, .val 65 (.fldP (.t 5) 0)⟩⟩,
    ⟨1, false, ⟨none, .val 66 (.ldB (.t 65) 2 140 0 1 false)⟩⟩,
    ⟨2, false, ⟨none, .val 67 (.ints .eql (.t 66) (.c (iv 14)))⟩⟩,
    ⟨3, false, ⟨none, .val 68 (.mv (.t 67))⟩⟩,
    ⟨4, false, ⟨some (68, true), .val 69 (.mv (.t 6))⟩⟩,
    ⟨5, false, ⟨some (68, true), .val 70 (.nilck (.t 69))⟩⟩,
    ⟨6, false, ⟨some (68, true), .val 71 (.fldR (.t 70) 0 1)⟩⟩,
    ⟨7, false, ⟨some (68, true), .val 72 (.ldR (.t 71) 1 false)⟩⟩,
    ⟨8, false, ⟨some (68, true), .val 73 (.strs .eql (.t 72) (.c (sv [])))⟩⟩,
    ⟨9, false, ⟨some (68, true), .val 74 (.mv (.t 73))⟩⟩,
    ⟨10, false, ⟨some (74, false), .val 75 (.fldP (.t 3) 0)⟩⟩,
    ⟨11, false, ⟨some (74, false), .val 76 (.ldB (.t 75) 1 138 0 1 false)⟩⟩,
    ⟨12, false, ⟨some (74, false), .val 77 (.strs .eql (.t 76) (.c (sv [])))⟩⟩,
    ⟨13, false, ⟨some (68, true), .val 78 (.pick (.t 74) (.c (bv true)) (.t 77))⟩⟩,
    ⟨14, false, ⟨some (68, true), .val 79 (.mv (.t 78))⟩⟩,
    ⟨15, false, ⟨some (79, false), .val 80 (.mv (.t 6))⟩⟩,
    ⟨16, false, ⟨some (79, false), .val 81 (.nilck (.t 80))⟩⟩,
    ⟨17, false, ⟨some (79, false), .val 82 (.fldR (.t 81) 0 1)⟩⟩,
    ⟨18, false, ⟨some (79, false), .val 83 (.ldR (.t 82) 1 false)⟩⟩,
    ⟨19, false, ⟨some (79, false), .val 84 (.fldP (.t 3) 0)⟩⟩,
    ⟨20, false, ⟨some (79, false), .val 85 (.ldB (.t 84) 1 138 0 1 false)⟩⟩,
    ⟨21, false, ⟨some (79, false), .val 86 (.strs .eql (.t 83) (.t 85))⟩⟩,
    ⟨22, false, ⟨some (68, true), .val 87 (.pick (.t 79) (.c (bv true)) (.t 86))⟩⟩,
    ⟨23, false, ⟨none, .val 88 (.pick (.t 68) (.t 87) (.c (bv false)))⟩⟩,
    ⟨24, false, ⟨none, .val 89 (.mv (.t 88))⟩⟩,
    ⟨25, false, ⟨some (89, true), .val 90 (.fldP (.t 3) 1)⟩⟩,
    ⟨26, false, ⟨some (89, true), .val 91 (.ldB (.t 90) 1 138 1 1 false)⟩⟩,
    ⟨27, false, ⟨some (89, true), .val 92 (.len false (.t 91))⟩⟩,
    ⟨28, false, ⟨some (89, true), .val 93 (.mv (.t 6))⟩⟩,
    ⟨29, false, ⟨some (89, true), .val 94 (.nilck (.t 93))⟩⟩,
    ⟨30, false, ⟨some (89, true), .val 95 (.fldR (.t 94) 1 1)⟩⟩,
    ⟨31, false, ⟨some (89, true), .val 96 (.ldR (.t 95) 1 false)⟩⟩,
    ⟨32, false, ⟨some (89, true), .val 97 (.len false (.t 96))⟩⟩,
    ⟨33, false, ⟨some (89, true), .val 98 (.ints .add (.t 92) (.t 97))⟩⟩,
    ⟨34, false, ⟨some (89, true), .val 99 (.fldR (.t 1) 1 1)⟩⟩,
    ⟨35, false, ⟨some (89, true), .val 100 (.ldR (.t 99) 1 false)⟩⟩,
    ⟨36, false, ⟨some (89, true), .val 101 (.mv (.t 4))⟩⟩,
    ⟨37, false, ⟨some (89, true), .val 102 (.ints .add (.t 101) (.c (iv 1)))⟩⟩,
    ⟨38, false, ⟨some (89, true), .val 103 (.slr 6 (.t 100) (some (.t 102)) none)⟩⟩,
    ⟨39, false, ⟨some (89, true), .val 104 (.len false (.t 103))⟩⟩,
    ⟨40, false, ⟨some (89, true), .val 105 (.ints .add (.t 98) (.t 104))⟩⟩,
    ⟨41, false, ⟨some (89, true), .val 106 (.ints .leq (.t 105) (.c (iv 6)))⟩⟩,
    ⟨42, false, ⟨none, .val 107 (.pick (.t 89) (.t 106) (.c (bv false)))⟩⟩,
    ⟨43, false, ⟨none, .val 64 (.mv (.t 107))⟩⟩] [.forget [65, 66, 67, 68, 69, 70, 71, 72, 73, 74, 75, 76, 77, 78, 79, 80, 81, 82, 83, 84, 85, 86, 87, 88, 89, 90, 91, 92, 93, 94, 95, 96, 97, 98, 99, 100, 101, 102, 103, 104, 105, 106, 107]]
abbrev plain_step_r11 : HCode := .reg [⟨none, .val 108 (.fldP (.t 3) 0)⟩,
    ⟨none, .val 109 (.ldB (.t 108) 1 138 0 1 false)⟩,
    ⟨none, .val 110 (.strs .eql (.t 109) (.c (sv [])))⟩] false [.forget [108, 109]]
abbrev plain_step_r12 : HCode := .reg [⟨none, .val 111 (.mv (.t 6))⟩,
    ⟨none, .val 112 (.nilck (.t 111))⟩,
    ⟨none, .val 113 (.fldR (.t 112) 0 1)⟩,
    ⟨none, .val 114 (.ldR (.t 113) 1 false)⟩,
    ⟨none, .val 115 (.fldP (.t 3) 0)⟩,
    ⟨none, .sto (.t 115) 1 138 0 1 (.t 114)⟩] false [.forget [111, 112, 113, 114, 115]]
abbrev plain_step_r13 : HCode := .drg [⟨0, false, ⟨none, .val 116 (.fldP (.t 3) 1)⟩⟩,
    ⟨1, false, ⟨none, .ldo 117 (.t 116) 1 138 1 ty_api_Test 6⟩⟩,
    ⟨2, false, ⟨none, .val 118 (.mv (.t 6))⟩⟩,
    ⟨3, false, ⟨none, .val 119 (.nilck (.t 118))⟩⟩,
    ⟨4, false, ⟨none, .val 120 (.fldR (.t 119) 1 1)⟩⟩,
    ⟨5, false, ⟨none, .val 121 (.ldR (.t 120) 1 false)⟩⟩,
    ⟨6, false, ⟨none, .app 122 ty_api_Test 6 (.t 117) (.t 121)⟩⟩,
    ⟨7, false, ⟨none, .val 123 (.fldP (.t 3) 1)⟩⟩,
    ⟨8, false, ⟨none, .stw (.t 123) 1 138 1 122⟩⟩] [.forget [116, 117, 118, 119, 120, 121, 122, 123]]
abbrev plain_step_r14 : HCode := .reg [⟨none, .val 124 (.fldP (.t 3) 1)⟩,
    ⟨none, .ldo 125 (.t 124) 1 138 1 ty_api_Test 6⟩,
    ⟨none, .val 126 (.ldB (.t 5) 2 140 0 6 true)⟩,
    ⟨none, .val 127 (.bslF 6 [.t 126])⟩,
    ⟨none, .app 128 ty_api_Test 6 (.t 125) (.t 127)⟩,
    ⟨none, .val 129 (.fldP (.t 3) 1)⟩,
    ⟨none, .stw (.t 129) 1 138 1 128⟩] false [.forget [124, 125, 126, 127, 128, 129]]
abbrev plain_step_r15 : HCode := .reg [⟨none, .val 130 (.ints .add (.t 13) (.c (iv 1)))⟩,
    ⟨none, .val 13 (.mv (.t 130))⟩] false [.forget [130]]
abbrev plain_step_r16 : HCode := .reg [⟨none, .val 131 (.fldP (.t 3) 1)⟩,
    ⟨none, .val 132 (.ldB (.t 131) 1 138 1 1 false)⟩,
    ⟨none, .call (some 133) fn_plain_firsts_api_Test [(.t 132, .v), (.f fn_plain_sameTests, .v)]⟩,
    ⟨none, .val 134 (.fldP (.t 3) 1)⟩,
    ⟨none, .stw (.t 134) 1 138 1 133⟩] false [.frz 1 138 2, .forget [131, 132, 133, 134]]
abbrev plain_step_r17 : HCode := .reg [⟨none, .val 135 (.ldR (.t 3) 2 true)⟩,
    ⟨none, .sto (.t 2) 0 136 0 2 (.t 135)⟩] false [.forget [135]]
abbrev plain_step : HCode := (.seq plain_step_r0 (.seq plain_step_r1 (.seq (.seq plain_step_r2 (.block 0 (.loop (.seq plain_step_r3 (.seq (.cond (.t 14) .skip (.exit 0)) (.seq (.block 1 (.seq plain_step_r4 (.seq plain_step_r5 (.seq plain_step_r6 (.seq (.block 2 (.seq plain_step_r7 (.cond (.t 24) .skip (.seq plain_step_r8 (.cond (.t 27) plain_step_r9 (.seq plain_step_r10 (.cond (.t 64) (.seq (.seq plain_step_r11 (.cond (.t 110) plain_step_r12 .skip)) (.seq plain_step_r13 (.exit 1))) .skip))))))) plain_step_r14))))) plain_step_r15)))))) (.seq plain_step_r16 (.seq plain_step_r17 .ret)))))
abbrev plain_step_E : Env := { N := 136, Γ := [(136, 2), (138, 2), (140, 6)], L := 146, nfix := 0 }
abbrev plain_step_R : List RSrc := [.cellB 2 0 136 0 2 true]
theorem mk_plain_step {base : Nat} {av : List AV} {r : RV} (hfo : formOk plain_step_E base av) (hW : AVs.fits av → hwp Tryd.prog plain_step (finQ plain_step_E base av plain_step_R r) (F0 plain_step_E base av)) (hov : ∀ x, r.res = .ov x → nOwn av = 0 := by intro x h; cases h <;> rfl) : Contract Tryd.prog fn_plain_step av r :=
  contract_of_wp (fn := Tryd.f123) (c := Tryd.f123.body.getD .skip) (by kernel_rfl) (by kernel_rfl) (by kernel_rfl) (by kernel_rfl) (by kernel_rfl) (by kernel_rfl) (by kernel_rfl) hfo hW hov
abbrev plain_once_r0 : HCode := .reg [⟨none, .nlo 2 ty_api_Path 2⟩] false []
abbrev plain_once_r1 : HCode := .reg [⟨none, .nlo 3 ty_api_Path 2⟩] false []
abbrev plain_once_r2 : HCode := .reg [⟨none, .val 9 (.mv (.t 0))⟩,
    ⟨none, .val 10 (.len false (.t 9))⟩,
    ⟨none, .val 11 (.mv (.c (iv 0)))⟩] false []
abbrev plain_once_r3 : HCode := .reg [⟨none, .val 12 (.ints .lss (.t 11) (.t 10))⟩] false []
abbrev plain_once_r4 : HCode := .reg [⟨none, .val 13 (.idxA 2 (.t 9) (.t 11))⟩,
    ⟨none, .val 14 (.ldR (.t 13) 2 true)⟩,
    ⟨none, .alloc 5 0 41 [.nl 2, .nl 1]⟩,
    ⟨none, .sto (.t 5) 0 41 0 2 (.t 14)⟩] false [.forget [13, 14]]
abbrev plain_once_r5 : HCode := .reg [⟨none, .val 15 (.fldP (.t 5) 1)⟩,
    ⟨none, .val 16 (.ldB (.t 15) 0 41 1 1 false)⟩,
    ⟨none, .call (some 17) fn_slices_Clone_int [(.t 16, .v)]⟩,
    ⟨none, .val 18 (.bld [.nl 2, .nl 1] [(1, 1, .t 17)])⟩,
    ⟨none, .alloc 6 1 43 [.nl 2, .nl 1]⟩,
    ⟨none, .sto (.t 6) 1 43 0 2 (.t 18)⟩] false [.forget [15, 16, 17, 18]]
abbrev plain_once_r6 : HCode := .reg [⟨none, .val 19 (.fldP (.t 5) 0)⟩,
    ⟨none, .val 20 (.ldB (.t 19) 0 41 0 1 false)⟩,
    ⟨none, .val 21 (.len false (.t 20))⟩,
    ⟨none, .val 22 (.mv (.c (iv 0)))⟩] false [.forget [19]]
abbrev plain_once_r7 : HCode := .reg [⟨none, .val 23 (.ints .lss (.t 22) (.t 21))⟩] false []
abbrev plain_once_r8 : HCode := .reg [⟨none, .val 24 (.idxA 2 (.t 20) (.t 22))⟩,
    ⟨none, .val 25 (.ldR (.t 24) 2 true)⟩,
    ⟨none, .alloc 8 2 45 [.v (mkS []), .nl 6]⟩,
    ⟨none, .sto (.t 8) 2 45 0 2 (.t 25)⟩] false [.forget [24, 25]]
abbrev plain_once_r9 : HCode := .drg [⟨0, false, ⟨none, .val 26 (.fldP (.t 6) 0)⟩⟩,
    ⟨1, false, ⟨none, .ldo 27 (.t 26) 1 43 0 ty_api_Step 2⟩⟩,
    ⟨2, false, ⟨none, .val 28 (.ldB (.t 8) 2 45 0 2 true)⟩⟩,
    ⟨3, true, ⟨none, .call (some 29) fn_plain_step [(.t 28, .v)]⟩⟩,
    ⟨4, false, ⟨none, .val 30 (.bslF 2 [.t 29])⟩⟩,
    ⟨5, false, ⟨none, .app 31 ty_api_Step 2 (.t 27) (.t 30)⟩⟩,
    ⟨6, false, ⟨none, .val 32 (.fldP (.t 6) 0)⟩⟩,
    ⟨7, false, ⟨none, .stw (.t 32) 1 43 0 31⟩⟩] [.forget [26, 27, 28, 29, 30, 31, 32]]
abbrev plain_once_r10 : HCode := .reg [⟨none, .val 33 (.ints .add (.t 22) (.c (iv 1)))⟩,
    ⟨none, .val 22 (.mv (.t 33))⟩] false [.forget [33]]
abbrev plain_once_r11 : HCode := .reg [⟨none, .mvo 34 3⟩,
    ⟨none, .val 35 (.ldB (.t 6) 1 43 0 2 true)⟩,
    ⟨none, .val 36 (.bslF 2 [.t 35])⟩,
    ⟨none, .app 37 ty_api_Path 2 (.t 34) (.t 36)⟩,
    ⟨none, .mvo 3 37⟩] false [.forget [34, 35, 36, 37]]
abbrev plain_once_r12 : HCode := .reg [⟨none, .val 38 (.ints .add (.t 11) (.c (iv 1)))⟩,
    ⟨none, .val 11 (.mv (.t 38))⟩] false [.forget [38]]
abbrev plain_once_r13 : HCode := .reg [⟨none, .val 39 (.mv (.t 3))⟩,
    ⟨none, .call (some 40) fn_plain_firsts_api_Path [(.t 39, .v), (.f fn_plain_samePaths, .v)]⟩,
    ⟨none, .mvo 2 40⟩] false [.forget [39, 40]]
abbrev plain_once : HCode := (.seq plain_once_r0 (.seq plain_once_r1 (.seq (.seq plain_once_r2 (.block 0 (.loop (.seq plain_once_r3 (.seq (.cond (.t 12) .skip (.exit 0)) (.seq (.block 1 (.seq plain_once_r4 (.seq plain_once_r5 (.seq (.seq plain_once_r6 (.block 2 (.loop (.seq plain_once_r7 (.seq (.cond (.t 23) .skip (.exit 2)) (.seq (.block 3 (.seq plain_once_r8 plain_once_r9)) plain_once_r10)))))) plain_once_r11)))) plain_once_r12)))))) (.seq plain_once_r13 .ret))))
abbrev plain_once_E : Env := { N := 41, Γ := [(41, 2), (43, 2), (45, 2)], L := 47, nfix := 0 }
abbrev plain_once_R : List RSrc := [.tmp 2]
theorem mk_plain_once {base : Nat} {av : List AV} {r : RV} (hfo : formOk plain_once_E base av) (hW : AVs.fits av → hwp Tryd.prog plain_once (finQ plain_once_E base av plain_once_R r) (F0 plain_once_E base av)) (hov : ∀ x, r.res = .ov x → nOwn av = 0 := by intro x h; cases h <;> rfl) : Contract Tryd.prog fn_plain_once av r :=
  contract_of_wp (fn := Tryd.f83) (c := Tryd.f83.body.getD .skip) (by kernel_rfl) (by kernel_rfl) (by kernel_rfl) (by kernel_rfl) (by kernel_rfl) (by kernel_rfl) (by kernel_rfl) hfo hW hov
abbrev plain_Once_r0 : HCode := .reg [⟨none, .val 2 (.mv (.c (.one (.nl 2))))⟩,
    ⟨none, .val 3 (.mv (.c (iv 0)))⟩] false []
abbrev plain_Once_r1 : HCode := .reg [⟨none, .val 5 (.mv (.t 0))⟩,
    ⟨none, .call (some 6) fn_path_Check [(.t 5, .v)]⟩,
    ⟨none, .val 4 (.mv (.t 6))⟩] false [.forget [5, 6]]
abbrev plain_Once_r2 : HCode := .reg [⟨none, .val 7 (.mv (.t 4))⟩,
    ⟨none, .val 8 (.ints .neq (.t 7) (.c (iv 0)))⟩] false [.forget [7]]
abbrev plain_Once_r3 : HCode := .reg [⟨none, .val 9 (.mv (.t 4))⟩,
    ⟨none, .val 2 (.mv (.c (.one (.nl 2))))⟩,
    ⟨none, .val 3 (.mv (.t 9))⟩] false [.forget [9]]
abbrev plain_Once_r4 : HCode := .reg [⟨none, .val 10 (.mv (.t 0))⟩,
    ⟨none, .call (some 11) fn_plain_once [(.t 10, .v)]⟩,
    ⟨none, .val 2 (.mv (.t 11))⟩,
    ⟨none, .val 3 (.mv (.c (iv 0)))⟩] false [.forget [10, 11]]
abbrev plain_Once : HCode := (.seq plain_Once_r0 (.seq (.seq plain_Once_r1 (.seq plain_Once_r2 (.cond (.t 8) (.seq plain_Once_r3 .ret) .skip))) (.seq plain_Once_r4 .ret)))
abbrev plain_Once_E : Env := { N := 12, Γ := [], L := 12, nfix := 0 }
abbrev plain_Once_R : List RSrc := [.tmp 2, .tmp 3]
theorem mk_plain_Once {base : Nat} {av : List AV} {r : RV} (hfo : formOk plain_Once_E base av) (hW : AVs.fits av → hwp Tryd.prog plain_Once (finQ plain_Once_E base av plain_Once_R r) (F0 plain_Once_E base av)) (hov : ∀ x, r.res = .ov x → nOwn av = 0 := by intro x h; cases h <;> rfl) : Contract Tryd.prog fn_plain_Once av r :=
  contract_of_wp (fn := Tryd.f31) (c := Tryd.f31.body.getD .skip) (by kernel_rfl) (by kernel_rfl) (by kernel_rfl) (by kernel_rfl) (by kernel_rfl) (by kernel_rfl) (by kernel_rfl) hfo hW hov
abbrev plain_Plain_r0 : HCode := .reg [⟨none, .val 2 (.mv (.c (.one (.nl 2))))⟩,
    ⟨none, .val 3 (.mv (.c (iv 0)))⟩] false []
abbrev plain_Plain_r1 : HCode := .reg [⟨none, .val 6 (.mv (.t 0))⟩,
    ⟨none, .call (some 7) fn_path_Check [(.t 6, .v)]⟩,
    ⟨none, .val 4 (.mv (.t 7))⟩] false [.forget [6, 7]]
abbrev plain_Plain_r2 : HCode := .reg [⟨none, .val 8 (.mv (.t 4))⟩,
    ⟨none, .val 9 (.ints .neq (.t 8) (.c (iv 0)))⟩] false [.forget [8]]
abbrev plain_Plain_r3 : HCode := .reg [⟨none, .val 10 (.mv (.t 4))⟩,
    ⟨none, .val 2 (.mv (.c (.one (.nl 2))))⟩,
    ⟨none, .val 3 (.mv (.t 10))⟩] false [.forget [10]]
abbrev plain_Plain_r4 : HCode := .reg [⟨none, .val 11 (.mv (.t 0))⟩,
    ⟨none, .call (some 12) fn_plain_once [(.t 11, .v)]⟩,
    ⟨none, .val 5 (.mv (.t 12))⟩] false [.forget [11, 12]]
abbrev plain_Plain_r5 : HCode := .reg [⟨none, .val 13 (.mv (.t 0))⟩,
    ⟨none, .val 14 (.mv (.t 5))⟩,
    ⟨none, .call (some 15) fn_slices_EqualFunc_Path [(.t 13, .v), (.t 14, .v), (.f fn_plain_samePaths, .v)]⟩] false [.forget [13, 14]]
abbrev plain_Plain_r6 : HCode := .reg [⟨none, .val 16 (.mv (.t 5))⟩,
    ⟨none, .val 2 (.mv (.t 16))⟩,
    ⟨none, .val 3 (.mv (.c (iv 0)))⟩] false [.forget [16]]
abbrev plain_Plain_r7 : HCode := .reg [⟨none, .val 17 (.mv (.t 5))⟩,
    ⟨none, .val 0 (.mv (.t 17))⟩] false [.forget [17]]
abbrev plain_Plain : HCode := (.seq plain_Plain_r0 (.seq (.seq plain_Plain_r1 (.seq plain_Plain_r2 (.cond (.t 9) (.seq plain_Plain_r3 .ret) .skip))) (.block 0 (.loop (.block 1 (.seq plain_Plain_r4 (.seq (.seq plain_Plain_r5 (.cond (.t 15) (.seq plain_Plain_r6 .ret) .skip)) plain_Plain_r7)))))))
abbrev plain_Plain_E : Env := { N := 18, Γ := [], L := 18, nfix := 0 }
abbrev plain_Plain_R : List RSrc := [.tmp 2, .tmp 3]
theorem mk_plain_Plain {base : Nat} {av : List AV} {r : RV} (hfo : formOk plain_Plain_E base av) (hW : AVs.fits av → hwp Tryd.prog plain_Plain (finQ plain_Plain_E base av plain_Plain_R r) (F0 plain_Plain_E base av)) (hov : ∀ x, r.res = .ov x → nOwn av = 0 := by intro x h; cases h <;> rfl) : Contract Tryd.prog fn_plain_Plain av r :=
  contract_of_wp (fn := Tryd.f32) (c := Tryd.f32.body.getD .skip) (by kernel_rfl) (by kernel_rfl) (by kernel_rfl) (by kernel_rfl) (by kernel_rfl) (by kernel_rfl) (by kernel_rfl) hfo hW hov
abbrev plain_size_r0 : HCode := .reg [⟨none, .val 2 (.mv (.c (iv 0)))⟩] false []
abbrev plain_size_r1 : HCode := .reg [⟨none, .val 3 (.mv (.c (iv 0)))⟩] false []
abbrev plain_size_r2 : HCode := .reg [⟨none, .val 10 (.mv (.t 0))⟩,
    ⟨none, .val 11 (.len false (.t 10))⟩,
    ⟨none, .val 12 (.mv (.c (iv 0)))⟩] false []
abbrev plain_size_r3 : HCode := .reg [⟨none, .val 13 (.ints .lss (.t 12) (.t 11))⟩] false []
abbrev plain_size_r4 : HCode := .reg [⟨none, .val 14 (.idxA 2 (.t 10) (.t 12))⟩,
    ⟨none, .val 15 (.ldR (.t 14) 2 true)⟩,
    ⟨none, .alloc 5 0 42 [.nl 2, .nl 1]⟩,
    ⟨none, .sto (.t 5) 0 42 0 2 (.t 15)⟩] false [.forget [14, 15]]
abbrev plain_size_r5 : HCode := .reg [⟨none, .val 16 (.fldP (.t 5) 0)⟩,
    ⟨none, .val 17 (.ldB (.t 16) 0 42 0 1 false)⟩,
    ⟨none, .val 18 (.len false (.t 17))⟩,
    ⟨none, .val 19 (.mv (.c (iv 0)))⟩] false [.forget [16]]
abbrev plain_size_r6 : HCode := .reg [⟨none, .val 20 (.ints .lss (.t 19) (.t 18))⟩] false []
abbrev plain_size_r7 : HCode := .reg [⟨none, .val 21 (.idxA 2 (.t 17) (.t 19))⟩,
    ⟨none, .val 22 (.ldR (.t 21) 2 true)⟩,
    ⟨none, .alloc 7 1 44 [.v (mkS []), .nl 6]⟩,
    ⟨none, .sto (.t 7) 1 44 0 2 (.t 22)⟩] false [.forget [21, 22]]
abbrev plain_size_r8 : HCode := .reg [⟨none, .val 23 (.mv (.t 3))⟩,
    ⟨none, .val 24 (.ints .add (.t 23) (.c (iv 1)))⟩,
    ⟨none, .val 3 (.mv (.t 24))⟩] false [.forget [23, 24]]
abbrev plain_size_r9 : HCode := .reg [⟨none, .val 25 (.fldP (.t 7) 1)⟩,
    ⟨none, .val 26 (.ldB (.t 25) 1 44 1 1 false)⟩,
    ⟨none, .val 27 (.len false (.t 26))⟩,
    ⟨none, .val 28 (.mv (.c (iv 0)))⟩] false [.forget [25]]
abbrev plain_size_r10 : HCode := .reg [⟨none, .val 29 (.ints .lss (.t 28) (.t 27))⟩] false []
abbrev plain_size_r11 : HCode := .reg [⟨none, .val 30 (.idxA 6 (.t 26) (.t 28))⟩,
    ⟨none, .val 31 (.ldR (.t 30) 6 true)⟩,
    ⟨none, .alloc 9 2 46 [.v (.int .i64 0), .v (mkS []), .v (mkS []), .v (.int .i64 0), .v (.int .i64 0), .nl 2]⟩,
    ⟨none, .sto (.t 9) 2 46 0 6 (.t 31)⟩] false [.forget [30, 31]]
abbrev plain_size_r12 : HCode := .reg [⟨none, .val 32 (.mv (.t 3))⟩,
    ⟨none, .val 33 (.fldP (.t 9) 5)⟩,
    ⟨none, .val 34 (.ldB (.t 33) 2 46 5 1 false)⟩,
    ⟨none, .call (some 35) fn_plain_size [(.t 34, .v)]⟩,
    ⟨none, .val 36 (.ints .add (.c (iv 1)) (.t 35))⟩,
    ⟨none, .val 37 (.ints .add (.t 32) (.t 36))⟩,
    ⟨none, .val 3 (.mv (.t 37))⟩] false [.forget [32, 33, 34, 35, 36, 37]]
abbrev plain_size_r13 : HCode := .reg [⟨none, .val 38 (.ints .add (.t 28) (.c (iv 1)))⟩,
    ⟨none, .val 28 (.mv (.t 38))⟩] false [.forget [38]]
abbrev plain_size_r14 : HCode := .reg [⟨none, .val 39 (.ints .add (.t 19) (.c (iv 1)))⟩,
    ⟨none, .val 19 (.mv (.t 39))⟩] false [.forget [39]]
abbrev plain_size_r15 : HCode := .reg [⟨none, .val 40 (.ints .add (.t 12) (.c (iv 1)))⟩,
    ⟨none, .val 12 (.mv (.t 40))⟩] false [.forget [40]]
abbrev plain_size_r16 : HCode := .reg [⟨none, .val 41 (.mv (.t 3))⟩,
    ⟨none, .val 2 (.mv (.t 41))⟩] false [.forget [41]]
abbrev plain_size : HCode := (.seq plain_size_r0 (.seq plain_size_r1 (.seq (.seq plain_size_r2 (.block 0 (.loop (.seq plain_size_r3 (.seq (.cond (.t 13) .skip (.exit 0)) (.seq (.block 1 (.seq plain_size_r4 (.seq plain_size_r5 (.block 2 (.loop (.seq plain_size_r6 (.seq (.cond (.t 20) .skip (.exit 2)) (.seq (.block 3 (.seq plain_size_r7 (.seq plain_size_r8 (.seq plain_size_r9 (.block 4 (.loop (.seq plain_size_r10 (.seq (.cond (.t 29) .skip (.exit 4)) (.seq (.block 5 (.seq plain_size_r11 plain_size_r12)) plain_size_r13))))))))) plain_size_r14)))))))) plain_size_r15)))))) (.seq plain_size_r16 .ret))))
abbrev plain_size_E : Env := { N := 42, Γ := [(42, 2), (44, 2), (46, 6)], L := 52, nfix := 0 }
abbrev plain_size_R : List RSrc := [.tmp 2]
theorem mk_plain_size {base : Nat} {av : List AV} {r : RV} (hfo : formOk plain_size_E base av) (hW : AVs.fits av → hwp Tryd.prog plain_size (finQ plain_size_E base av plain_size_R r) (F0 plain_size_E base av)) (hov : ∀ x, r.res = .ov x → nOwn av = 0 := by intro x h; cases h <;> rfl) : Contract Tryd.prog fn_plain_size av r :=
  contract_of_wp (fn := Tryd.f82) (c := Tryd.f82.body.getD .skip) (by kernel_rfl) (by kernel_rfl) (by kernel_rfl) (by kernel_rfl) (by kernel_rfl) (by kernel_rfl) (by kernel_rfl) hfo hW hov
abbrev plain_Size_r0 : HCode := .reg [⟨none, .val 2 (.mv (.c (iv 0)))⟩,
    ⟨none, .val 3 (.mv (.c (iv 0)))⟩] false []
abbrev plain_Size_r1 : HCode := .reg [⟨none, .val 5 (.mv (.t 0))⟩,
    ⟨none, .call (some 6) fn_path_Check [(.t 5, .v)]⟩,
    ⟨none, .val 4 (.mv (.t 6))⟩] false [.forget [5, 6]]
abbrev plain_Size_r2 : HCode := .reg [⟨none, .val 7 (.mv (.t 4))⟩,
    ⟨none, .val 8 (.ints .neq (.t 7) (.c (iv 0)))⟩] false [.forget [7]]
abbrev plain_Size_r3 : HCode := .reg [⟨none, .val 9 (.mv (.t 4))⟩,
    ⟨none, .val 2 (.mv (.c (iv 0)))⟩,
    ⟨none, .val 3 (.mv (.t 9))⟩] false [.forget [9]]
abbrev plain_Size_r4 : HCode := .reg [⟨none, .val 10 (.mv (.t 0))⟩,
    ⟨none, .call (some 11) fn_plain_size [(.t 10, .v)]⟩,
    ⟨none, .val 2 (.mv (.t 11))⟩,
    ⟨none, .val 3 (.mv (.c (iv 0)))⟩] false [.forget [10, 11]]
abbrev plain_Size : HCode := (.seq plain_Size_r0 (.seq (.seq plain_Size_r1 (.seq plain_Size_r2 (.cond (.t 8) (.seq plain_Size_r3 .ret) .skip))) (.seq plain_Size_r4 .ret)))
abbrev plain_Size_E : Env := { N := 12, Γ := [], L := 12, nfix := 0 }
abbrev plain_Size_R : List RSrc := [.tmp 2, .tmp 3]
theorem mk_plain_Size {base : Nat} {av : List AV} {r : RV} (hfo : formOk plain_Size_E base av) (hW : AVs.fits av → hwp Tryd.prog plain_Size (finQ plain_Size_E base av plain_Size_R r) (F0 plain_Size_E base av)) (hov : ∀ x, r.res = .ov x → nOwn av = 0 := by intro x h; cases h <;> rfl) : Contract Tryd.prog fn_plain_Size av r :=
  contract_of_wp (fn := Tryd.f30) (c := Tryd.f30.body.getD .skip) (by kernel_rfl) (by kernel_rfl) (by kernel_rfl) (by kernel_rfl) (by kernel_rfl) (by kernel_rfl) (by kernel_rfl) hfo hW hov
end Go.Hx
