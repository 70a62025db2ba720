/-
  Walks of functions of the program over an abstract layer, and the laws that they use: each contract says what the function computes, for every input that its conditions let by. No other condition.
-/
import Derived.Test.YtjnagiaooecklaaDoorProg
import Derived.Test.YtjnagiaooecklaaDoorG8
import Derived.Test.YtjnagiaooecklaaDoorG12
import Derived.Test.YtjnagiaooecklaaDoorG13
import Derived.Test.YtjnagiaooecklaaDoorG14
import Derived.Test.YtjnagiaooecklaaDoorG15
import Derived.Test.YtjnagiaooecklaaDoorG16
set_option linter.all false
section
/-
  The abstract code of functions of the program, printed by gen.py; each stands for the given one. No condition.
-/
namespace Go.Hx
open Go.Proofs
variable [Glob]
abbrev fn_law_PlainTells : Nat := 7
abbrev fn_law_one : Nat := 134
abbrev fn_law_plainBegun : Nat := 37
abbrev fn_law_twice : Nat := 93
abbrev fn_ref_OnceOf : Nat := 35
abbrev fn_ref_OwnList : Nat := 90
abbrev fn_ref_PlainOf : Nat := 36
abbrev fn_ref_SameLists : Nat := 38
abbrev fn_ref_SamePaths : Nat := 92
abbrev fn_ref_SameSteps : Nat := 133
abbrev fn_ref_SameTests : Nat := 132
abbrev fn_ref_SizeOf : Nat := 34
abbrev fn_ref_onceStep : Nat := 91
abbrev fn_ref_single : Nat := 131
abbrev ref_SizeOf_r0 : HCode := .reg [⟨none, .val 2 (.mv (.c (iv 0)))⟩] false []
abbrev ref_SizeOf_r1 : HCode := .reg [⟨none, .val 3 (.mv (.c (iv 0)))⟩] false []
abbrev ref_SizeOf_r2 : HCode := .reg [⟨none, .val 4 (.mv (.c (iv 0)))⟩] false []
abbrev ref_SizeOf_r3 : HCode := .reg [⟨none, .val 7 (.mv (.t 4))⟩,
    ⟨none, .val 8 (.mv (.t 0))⟩,
    ⟨none, .val 9 (.len false (.t 8))⟩,
    ⟨none, .val 10 (.ints .lss (.t 7) (.t 9))⟩] false [.forget [7, 8, 9]]
abbrev ref_SizeOf_r4 : HCode := .reg [⟨none, .val 5 (.mv (.c (iv 0)))⟩] false []
abbrev ref_SizeOf_r5 : HCode := .reg [⟨none, .val 13 (.mv (.t 5))⟩,
    ⟨none, .val 14 (.mv (.t 0))⟩,
    ⟨none, .val 15 (.mv (.t 4))⟩,
    ⟨none, .val 16 (.idxA 2 (.t 14) (.t 15))⟩,
    ⟨none, .val 17 (.fldR (.t 16) 0 1)⟩,
    ⟨none, .val 18 (.ldR (.t 17) 1 false)⟩,
    ⟨none, .val 19 (.len false (.t 18))⟩,
    ⟨none, .val 20 (.ints .lss (.t 13) (.t 19))⟩] false [.forget [13, 14, 15, 16, 17, 18, 19]]
abbrev ref_SizeOf_r6 : HCode := .reg [⟨none, .val 23 (.mv (.t 3))⟩,
    ⟨none, .val 24 (.ints .add (.t 23) (.c (iv 1)))⟩,
    ⟨none, .val 3 (.mv (.t 24))⟩] false [.forget [23, 24]]
abbrev ref_SizeOf_r7 : HCode := .reg [⟨none, .val 6 (.mv (.c (iv 0)))⟩] false []
abbrev ref_SizeOf_r8 : HCode := .reg [⟨none, .val 25 (.mv (.t 6))⟩,
    ⟨none, .val 26 (.mv (.t 0))⟩,
    ⟨none, .val 27 (.mv (.t 4))⟩,
    ⟨none, .val 28 (.idxA 2 (.t 26) (.t 27))⟩,
    ⟨none, .val 29 (.fldR (.t 28) 0 1)⟩,
    ⟨none, .val 30 (.ldR (.t 29) 1 false)⟩,
    ⟨none, .val 31 (.mv (.t 5))⟩,
    ⟨none, .val 32 (.idxA 2 (.t 30) (.t 31))⟩,
    ⟨none, .val 33 (.fldR (.t 32) 1 1)⟩,
    ⟨none, .val 34 (.ldR (.t 33) 1 false)⟩,
    ⟨none, .val 35 (.len false (.t 34))⟩,
    ⟨none, .val 36 (.ints .lss (.t 25) (.t 35))⟩] false [.forget [25, 26, 27, 28, 29, 30, 31, 32, 33, 34, 35]]
abbrev ref_SizeOf_r9 : HCode := .reg [⟨none, .val 39 (.mv (.t 3))⟩,
    ⟨none, .val 40 (.ints .add (.t 39) (.c (iv 1)))⟩,
    ⟨none, .val 41 (.mv (.t 0))⟩,
    ⟨none, .val 42 (.mv (.t 4))⟩,
    ⟨none, .val 43 (.idxA 2 (.t 41) (.t 42))⟩,
    ⟨none, .val 44 (.fldR (.t 43) 0 1)⟩,
    ⟨none, .val 45 (.ldR (.t 44) 1 false)⟩,
    ⟨none, .val 46 (.mv (.t 5))⟩,
    ⟨none, .val 47 (.idxA 2 (.t 45) (.t 46))⟩,
    ⟨none, .val 48 (.fldR (.t 47) 1 1)⟩,
    ⟨none, .val 49 (.ldR (.t 48) 1 false)⟩,
    ⟨none, .val 50 (.mv (.t 6))⟩,
    ⟨none, .val 51 (.idxA 6 (.t 49) (.t 50))⟩,
    ⟨none, .val 52 (.fldR (.t 51) 5 1)⟩,
    ⟨none, .val 53 (.ldR (.t 52) 1 false)⟩,
    ⟨none, .call (some 54) fn_ref_SizeOf [(.t 53, .v)]⟩,
    ⟨none, .val 55 (.ints .add (.t 40) (.t 54))⟩,
    ⟨none, .val 3 (.mv (.t 55))⟩] false [.forget [39, 40, 41, 42, 43, 44, 45, 46, 47, 48, 49, 50, 51, 52, 53, 54, 55]]
abbrev ref_SizeOf_r10 : HCode := .reg [⟨none, .val 37 (.mv (.t 6))⟩,
    ⟨none, .val 38 (.ints .add (.t 37) (.c (iv 1)))⟩,
    ⟨none, .val 6 (.mv (.t 38))⟩] false [.forget [37, 38]]
abbrev ref_SizeOf_r11 : HCode := .reg [⟨none, .val 21 (.mv (.t 5))⟩,
    ⟨none, .val 22 (.ints .add (.t 21) (.c (iv 1)))⟩,
    ⟨none, .val 5 (.mv (.t 22))⟩] false [.forget [21, 22]]
abbrev ref_SizeOf_r12 : HCode := .reg [⟨none, .val 11 (.mv (.t 4))⟩,
    ⟨none, .val 12 (.ints .add (.t 11) (.c (iv 1)))⟩,
    ⟨none, .val 4 (.mv (.t 12))⟩] false [.forget [11, 12]]
abbrev ref_SizeOf_r13 : HCode := .reg [⟨none, .val 56 (.mv (.t 3))⟩,
    ⟨none, .val 2 (.mv (.t 56))⟩] false [.forget [56]]
abbrev ref_SizeOf : HCode := (.seq ref_SizeOf_r0 (.seq ref_SizeOf_r1 (.seq (.seq ref_SizeOf_r2 (.block 0 (.loop (.seq (.seq ref_SizeOf_r3 (.cond (.t 10) .skip (.exit 0))) (.seq (.block 1 (.seq ref_SizeOf_r4 (.block 2 (.loop (.seq (.seq ref_SizeOf_r5 (.cond (.t 20) .skip (.exit 2))) (.seq (.block 3 (.seq ref_SizeOf_r6 (.seq ref_SizeOf_r7 (.block 4 (.loop (.seq (.seq ref_SizeOf_r8 (.cond (.t 36) .skip (.exit 4))) (.seq (.block 5 ref_SizeOf_r9) ref_SizeOf_r10))))))) ref_SizeOf_r11)))))) ref_SizeOf_r12))))) (.seq ref_SizeOf_r13 .ret))))
abbrev ref_SizeOf_E : Env := { N := 57, Γ := [], L := 57, nfix := 0 }
abbrev ref_SizeOf_R : List RSrc := [.tmp 2]
theorem mk_ref_SizeOf {base : Nat} {av : List AV} {r : RV} (hfo : formOk ref_SizeOf_E base av) (hW : AVs.fits av → hwp Tryd.prog ref_SizeOf (finQ ref_SizeOf_E base av ref_SizeOf_R r) (F0 ref_SizeOf_E base av)) (hov : ∀ x, r.res = .ov x → nOwn av = 0 := by intro x h; cases h <;> rfl) : Contract Tryd.prog fn_ref_SizeOf av r :=
  contract_of_wp (fn := Tryd.f34) (c := Tryd.f34.body.getD .skip) (by kernel_rfl) (by kernel_rfl) (by kernel_rfl) (by kernel_rfl) (by kernel_rfl) (by kernel_rfl) (by kernel_rfl) hfo hW hov
abbrev ref_single_r0 : HCode := .reg [⟨none, .alloc 2 0 22 [.v (mkS []), .nl 6]⟩,
    ⟨none, .val 3 (.mv (.c (bv false)))⟩] false []
abbrev ref_single_r1 : HCode := .reg [⟨none, .val 4 (.mv (.t 0))⟩,
    ⟨none, .val 5 (.len false (.t 4))⟩,
    ⟨none, .val 6 (.ints .neq (.t 5) (.c (iv 1)))⟩,
    ⟨none, .val 7 (.mv (.t 6))⟩,
    ⟨some (7, false), .val 8 (.mv (.t 0))⟩,
    ⟨some (7, false), .val 9 (.idxA 2 (.t 8) (.c (iv 0)))⟩,
    ⟨some (7, false), .val 10 (.fldR (.t 9) 0 1)⟩,
    ⟨some (7, false), .val 11 (.ldR (.t 10) 1 false)⟩,
    ⟨some (7, false), .val 12 (.len false (.t 11))⟩,
    ⟨some (7, false), .val 13 (.ints .neq (.t 12) (.c (iv 1)))⟩,
    ⟨none, .val 14 (.pick (.t 7) (.c (bv true)) (.t 13))⟩] false [.forget [4, 5, 6, 7, 8, 9, 10, 11, 12, 13]]
abbrev ref_single_r2 : HCode := .reg [⟨none, .val 15 (.bld [.v (mkS []), .nl 6] [])⟩,
    ⟨none, .sto (.t 2) 0 22 0 2 (.t 15)⟩,
    ⟨none, .val 3 (.mv (.c (bv false)))⟩] false [.forget [15]]
abbrev ref_single_r3 : HCode := .reg [⟨none, .val 16 (.mv (.t 0))⟩,
    ⟨none, .val 17 (.idxA 2 (.t 16) (.c (iv 0)))⟩,
    ⟨none, .val 18 (.fldR (.t 17) 0 1)⟩,
    ⟨none, .val 19 (.ldR (.t 18) 1 false)⟩,
    ⟨none, .val 20 (.idxA 2 (.t 19) (.c (iv 0)))⟩,
    ⟨none, .val 21 (.ldR (.t 20) 2 true)⟩,
    ⟨none, .sto (.t 2) 0 22 0 2 (.t 21)⟩,
    ⟨none, .val 3 (.mv (.c (bv true)))⟩] false [.forget [16, 17, 18, 19, 20, 21]]
abbrev ref_single : HCode := (.seq ref_single_r0 (.seq (.seq ref_single_r1 (.cond (.t 14) (.seq ref_single_r2 .ret) .skip)) (.seq ref_single_r3 .ret)))
abbrev ref_single_E : Env := { N := 22, Γ := [(22, 2)], L := 24, nfix := 0 }
abbrev ref_single_R : List RSrc := [.cellB 2 0 22 0 2 true, .tmp 3]
theorem mk_ref_single {base : Nat} {av : List AV} {r : RV} (hfo : formOk ref_single_E base av) (hW : AVs.fits av → hwp Tryd.prog ref_single (finQ ref_single_E base av ref_single_R r) (F0 ref_single_E base av)) (hov : ∀ x, r.res = .ov x → nOwn av = 0 := by intro x h; cases h <;> rfl) : Contract Tryd.prog fn_ref_single av r :=
  contract_of_wp (fn := Tryd.f131) (c := Tryd.f131.body.getD .skip) (by kernel_rfl) (by kernel_rfl) (by kernel_rfl) (by kernel_rfl) (by kernel_rfl) (by kernel_rfl) (by kernel_rfl) hfo hW hov
abbrev ref_onceStep_r0 : HCode := .reg [⟨none, .val 1 (.boxF (.t 0))⟩,
    ⟨none, .alloc 2 0 170 [.v (mkS []), .nl 6]⟩] false []
abbrev ref_onceStep_r1 : HCode := .reg [⟨none, .val 13 (.fldR (.t 1) 0 1)⟩,
    ⟨none, .val 14 (.ldR (.t 13) 1 false)⟩,
    ⟨none, .val 15 (.bld [.v (mkS []), .nl 6] [(0, 1, .t 14)])⟩,
    ⟨none, .alloc 3 1 172 [.v (mkS []), .nl 6]⟩,
    ⟨none, .sto (.t 3) 1 172 0 2 (.t 15)⟩] false [.forget [13, 14, 15]]
abbrev ref_onceStep_r2 : HCode := .reg [⟨none, .val 4 (.mv (.c (iv 0)))⟩] false []
abbrev ref_onceStep_r3 : HCode := .reg [⟨none, .val 16 (.mv (.t 4))⟩,
    ⟨none, .val 17 (.fldR (.t 1) 1 1)⟩,
    ⟨none, .val 18 (.ldR (.t 17) 1 false)⟩,
    ⟨none, .val 19 (.len false (.t 18))⟩,
    ⟨none, .val 20 (.ints .lss (.t 16) (.t 19))⟩] false [.forget [16, 17, 18, 19]]
abbrev ref_onceStep_r4 : HCode := .reg [⟨none, .val 23 (.fldR (.t 1) 1 1)⟩,
    ⟨none, .val 24 (.ldR (.t 23) 1 false)⟩,
    ⟨none, .val 25 (.mv (.t 4))⟩,
    ⟨none, .val 26 (.idxA 6 (.t 24) (.t 25))⟩,
    ⟨none, .val 27 (.ldR (.t 26) 6 true)⟩,
    ⟨none, .alloc 5 2 174 [.v (.int .i64 0), .v (mkS []), .v (mkS []), .v (.int .i64 0), .v (.int .i64 0), .nl 2]⟩,
    ⟨none, .sto (.t 5) 2 174 0 6 (.t 27)⟩] false [.frz 2 174 6, .forget [23, 24, 25, 26, 27]]
abbrev ref_onceStep_r5 : HCode := .reg [⟨none, .val 29 (.fldR (.t 5) 5 1)⟩,
    ⟨none, .val 30 (.ldR (.t 29) 1 false)⟩,
    ⟨none, .call (some 31) fn_ref_single [(.t 30, .v)]⟩,
    ⟨none, .val 28 (.mv (.t 31))⟩,
    ⟨none, .val 32 (.ext 28 0)⟩,
    ⟨none, .val 33 (.ext 28 1)⟩,
    ⟨none, .alloc 6 3 180 [.v (mkS []), .nl 6]⟩,
    ⟨none, .sto (.t 6) 3 180 0 2 (.t 32)⟩,
    ⟨none, .val 7 (.mv (.t 33))⟩] false [.frz 3 180 2, .forget [28, 29, 30, 31, 32, 33]]
abbrev ref_onceStep_r6 : HCode := .reg [⟨none, .val 34 (.fldP (.t 3) 1)⟩,
    ⟨none, .val 35 (.ldB (.t 34) 1 172 1 1 false)⟩,
    ⟨none, .val 36 (.len false (.t 35))⟩,
    ⟨none, .val 37 (.fldR (.t 6) 1 1)⟩,
    ⟨none, .val 38 (.ldR (.t 37) 1 false)⟩,
    ⟨none, .val 39 (.len false (.t 38))⟩,
    ⟨none, .val 40 (.ints .add (.t 36) (.t 39))⟩,
    ⟨none, .val 41 (.fldR (.t 1) 1 1)⟩,
    ⟨none, .val 42 (.ldR (.t 41) 1 false)⟩,
    ⟨none, .val 43 (.len false (.t 42))⟩,
    ⟨none, .val 44 (.ints .add (.t 40) (.t 43))⟩,
    ⟨none, .val 45 (.mv (.t 4))⟩,
    ⟨none, .val 46 (.ints .sub (.t 44) (.t 45))⟩,
    ⟨none, .val 47 (.ints .sub (.t 46) (.c (iv 1)))⟩,
    ⟨none, .val 48 (.ints .leq (.t 47) (.c (iv 6)))⟩,
    ⟨none, .val 8 (.mv (.t 48))⟩] false [.forget [34, 35, 36, 37, 38, 39, 40, 41, 42, 43, 44, 45, 46, 47, 48]]
abbrev ref_onceStep_r7 : HCode := .reg [⟨none, .val 56 (.mv (.t 7))⟩,
    ⟨none, .val 57 (.mv (.t 56))⟩,
    ⟨some (57, true), .val 58 (.fldR (.t 5) 0 1)⟩,
    ⟨some (57, true), .val 59 (.ldR (.t 58) 1 false)⟩,
    ⟨some (57, true), .val 60 (.ints .eql (.t 59) (.c (iv 13)))⟩,
    ⟨none, .val 61 (.pick (.t 57) (.t 60) (.c (bv false)))⟩,
    ⟨none, .val 62 (.mv (.t 61))⟩,
    ⟨some (62, true), .val 63 (.fldR (.t 6) 0 1)⟩,
    ⟨some (62, true), .val 64 (.ldR (.t 63) 1 false)⟩,
    ⟨some (62, true), .val 65 (.strs .eql (.t 64) (.c (sv [])))⟩,
    ⟨none, .val 66 (.pick (.t 62) (.t 65) (.c (bv false)))⟩,
    ⟨none, .val 67 (.mv (.t 66))⟩,
    ⟨some (67, true), .val 68 (.fldR (.t 6) 1 1)⟩,
    ⟨some (67, true), .val 69 (.ldR (.t 68) 1 false)⟩,
    ⟨some (67, true), .val 70 (.len false (.t 69))⟩,
    ⟨some (67, true), .val 71 (.ints .eql (.t 70) (.c (iv 1)))⟩,
    ⟨none, .val 72 (.pick (.t 67) (.t 71) (.c (bv false)))⟩,
    ⟨none, .val 73 (.mv (.t 72))⟩,
    ⟨some (73, true), .val 74 (.fldR (.t 6) 1 1)⟩,
    ⟨some (73, true), .val 75 (.ldR (.t 74) 1 false)⟩,
    ⟨some (73, true), .val 76 (.idxA 6 (.t 75) (.c (iv 0)))⟩,
    ⟨some (73, true), .val 77 (.fldR (.t 76) 0 1)⟩,
    ⟨some (73, true), .val 78 (.ldR (.t 77) 1 false)⟩,
    ⟨some (73, true), .val 79 (.ints .eql (.t 78) (.c (iv 13)))⟩,
    ⟨none, .val 80 (.pick (.t 73) (.t 79) (.c (bv false)))⟩,
    ⟨none, .val 55 (.mv (.t 80))⟩] false [.forget [56, 57, 58, 59, 60, 61, 62, 63, 64, 65, 66, 67, 68, 69, 70, 71, 72, 73, 74, 75, 76, 77, 78, 79, 80]]
abbrev ref_onceStep_r8 : HCode := .drg [⟨0, false, ⟨none, .val 81 (.fldP (.t 3) 1)⟩⟩,
    ⟨1, false, ⟨none, .ldo 82 (.t 81) 1 172 1 ty_api_Test 6⟩⟩,
    ⟨2, false, ⟨none, .val 83 (.fldR (.t 6) 1 1)⟩⟩,
    ⟨3, false, ⟨none, .val 84 (.ldR (.t 83) 1 false)⟩⟩,
    ⟨4, false, ⟨none, .val 85 (.idxA 6 (.t 84) (.c (iv 0)))⟩⟩,
    ⟨5, false, ⟨none, .val 86 (.fldR (.t 85) 5 1)⟩⟩,
    ⟨6, false, ⟨none, .val 87 (.ldR (.t 86) 1 false)⟩⟩,
    ⟨7, false, ⟨none, .val 88 (.bld [.v (.int .i64 0), .v (mkS []), .v (mkS []), .v (.int .i64 0), .v (.int .i64 0), .nl 2] [(0, 1, .c (iv 14)), (5, 1, .t 87)])⟩⟩,
    ⟨8, false, ⟨none, .val 89 (.bslF 6 [.t 88])⟩⟩,
    ⟨9, false, ⟨none, .app 90 ty_api_Test 6 (.t 82) (.t 89)⟩⟩,
    ⟨10, false, ⟨none, .val 91 (.fldP (.t 3) 1)⟩⟩,
    ⟨11, false, ⟨none, .stw (.t 91) 1 172 1 90⟩⟩] [.forget [81, 82, 83, 84, 85, 86, 87, 88, 89, 90, 91]]
abbrev ref_onceStep_r9 : HCode := .reg [⟨none, .val 93 (.mv (.t 7))⟩,
    ⟨none, .val 94 (.mv (.t 93))⟩,
    ⟨some (94, true), .val 95 (.fldR (.t 5) 0 1)⟩,
    ⟨some (94, true), .val 96 (.ldR (.t 95) 1 false)⟩,
    ⟨some (94, true), .val 97 (.ints .eql (.t 96) (.c (iv 14)))⟩,
    ⟨none, .val 98 (.pick (.t 94) (.t 97) (.c (bv false)))⟩,
    ⟨none, .val 99 (.mv (.t 98))⟩,
    ⟨some (99, true), .val 100 (.fldR (.t 6) 0 1)⟩,
    ⟨some (99, true), .val 101 (.ldR (.t 100) 1 false)⟩,
    ⟨some (99, true), .val 102 (.strs .eql (.t 101) (.c (sv [])))⟩,
    ⟨some (99, true), .val 103 (.mv (.t 102))⟩,
    ⟨some (103, false), .val 104 (.fldP (.t 3) 0)⟩,
    ⟨some (103, false), .val 105 (.ldB (.t 104) 1 172 0 1 false)⟩,
    ⟨some (103, false), .val 106 (.strs .eql (.t 105) (.c (sv [])))⟩,
    ⟨some (99, true), .val 107 (.pick (.t 103) (.c (bv true)) (.t 106))⟩,
    ⟨some (99, true), .val 108 (.mv (.t 107))⟩,
    ⟨some (108, false), .val 109 (.fldR (.t 6) 0 1)⟩,
    ⟨some (108, false), .val 110 (.ldR (.t 109) 1 false)⟩,
    ⟨some (108, false), .val 111 (.fldP (.t 3) 0)⟩,
    ⟨some (108, false), .val 112 (.ldB (.t 111) 1 172 0 1 false)⟩,
    ⟨some (108, false), .val 113 (.strs .eql (.t 110) (.t 112))⟩,
    ⟨some (99, true), .val 114 (.pick (.t 108) (.c (bv true)) (.t 113))⟩,
    ⟨none, .val 115 (.pick (.t 99) (.t 114) (.c (bv false)))⟩,
    ⟨none, .val 116 (.mv (.t 115))⟩,
    ⟨some (116, true), .val 117 (.mv (.t 8))⟩,
    ⟨none, .val 118 (.pick (.t 116) (.t 117) (.c (bv false)))⟩,
    ⟨none, .val 92 (.mv (.t 118))⟩] false [.forget [93, 94, 95, 96, 97, 98, 99, 100, 101, 102, 103, 104, 105, 106, 107, 108, 109, 110, 111, 112, 113, 114, 115, 116, 117, 118]]
abbrev ref_onceStep_r10 : HCode := .reg [⟨none, .val 119 (.fldP (.t 3) 0)⟩,
    ⟨none, .val 120 (.ldB (.t 119) 1 172 0 1 false)⟩,
    ⟨none, .val 121 (.strs .eql (.t 120) (.c (sv [])))⟩] false [.forget [119, 120]]
abbrev ref_onceStep_r11 : HCode := .reg [⟨none, .val 122 (.fldR (.t 6) 0 1)⟩,
    ⟨none, .val 123 (.ldR (.t 122) 1 false)⟩,
    ⟨none, .val 124 (.fldP (.t 3) 0)⟩,
    ⟨none, .sto (.t 124) 1 172 0 1 (.t 123)⟩] false [.forget [122, 123, 124]]
abbrev ref_onceStep_r12 : HCode := .reg [⟨none, .val 125 (.fldP (.t 3) 1)⟩,
    ⟨none, .ldo 126 (.t 125) 1 172 1 ty_api_Test 6⟩,
    ⟨none, .val 127 (.fldR (.t 6) 1 1)⟩,
    ⟨none, .val 128 (.ldR (.t 127) 1 false)⟩,
    ⟨none, .app 129 ty_api_Test 6 (.t 126) (.t 128)⟩,
    ⟨none, .val 130 (.fldP (.t 3) 1)⟩,
    ⟨none, .stw (.t 130) 1 172 1 129⟩] false [.forget [125, 126, 127, 128, 129, 130]]
abbrev ref_onceStep_r13 : HCode := .reg [⟨none, .val 49 (.fldP (.t 3) 1)⟩,
    ⟨none, .ldo 50 (.t 49) 1 172 1 ty_api_Test 6⟩,
    ⟨none, .val 51 (.ldR (.t 5) 6 true)⟩,
    ⟨none, .val 52 (.bslF 6 [.t 51])⟩,
    ⟨none, .app 53 ty_api_Test 6 (.t 50) (.t 52)⟩,
    ⟨none, .val 54 (.fldP (.t 3) 1)⟩,
    ⟨none, .stw (.t 54) 1 172 1 53⟩] false [.forget [49, 50, 51, 52, 53, 54]]
abbrev ref_onceStep_r14 : HCode := .reg [⟨none, .val 21 (.mv (.t 4))⟩,
    ⟨none, .val 22 (.ints .add (.t 21) (.c (iv 1)))⟩,
    ⟨none, .val 4 (.mv (.t 22))⟩] false [.forget [21, 22]]
abbrev ref_onceStep_r15 : HCode := .reg [⟨none, .nlo 9 ty_api_Test 6⟩] false []
abbrev ref_onceStep_r16 : HCode := .reg [⟨none, .val 10 (.mv (.c (iv 0)))⟩] false []
abbrev ref_onceStep_r17 : HCode := .reg [⟨none, .val 131 (.mv (.t 10))⟩,
    ⟨none, .val 132 (.fldP (.t 3) 1)⟩,
    ⟨none, .val 133 (.ldB (.t 132) 1 172 1 1 false)⟩,
    ⟨none, .val 134 (.len false (.t 133))⟩,
    ⟨none, .val 135 (.ints .lss (.t 131) (.t 134))⟩] false [.forget [131, 132, 133, 134]]
abbrev ref_onceStep_r18 : HCode := .reg [⟨none, .val 11 (.mv (.c (bv false)))⟩] false []
abbrev ref_onceStep_r19 : HCode := .reg [⟨none, .val 12 (.mv (.c (iv 0)))⟩] false []
abbrev ref_onceStep_r20 : HCode := .reg [⟨none, .val 138 (.mv (.t 12))⟩,
    ⟨none, .val 139 (.mv (.t 10))⟩,
    ⟨none, .val 140 (.ints .lss (.t 138) (.t 139))⟩] false [.forget [138, 139]]
abbrev ref_onceStep_r21 : HCode := .drg [⟨0, false, ⟨none, .val 143 (.mv (.t 11))⟩⟩,
    ⟨1, false, ⟨none, .val 144 (.mv (.t 143))⟩⟩,
    ⟨2, false, ⟨some (144, false), .val 145 (.fldP (.t 3) 1)⟩⟩,
    ⟨3, false, ⟨some (144, false), .val 146 (.ldB (.t 145) 1 172 1 1 false)⟩⟩,
    ⟨4, false, ⟨some (144, false), .val 147 (.mv (.t 12))⟩⟩,
    ⟨5, false, ⟨some (144, false), .val 148 (.idxA 6 (.t 146) (.t 147))⟩⟩,
    ⟨6, false, ⟨some (144, false), .val 149 (.ldR (.t 148) 6 true)⟩⟩,
    ⟨7, false, ⟨some (144, false), .val 150 (.fldP (.t 3) 1)⟩⟩,
    ⟨8, false, ⟨some (144, false), .val 151 (.ldB (.t 150) 1 172 1 1 false)⟩⟩,
    ⟨9, false, ⟨some (144, false), .val 152 (.mv (.t 10))⟩⟩,
    ⟨10, false, ⟨some (144, false), .val 153 (.idxA 6 (.t 151) (.t 152))⟩⟩,
    ⟨11, false, ⟨some (144, false), .val 154 (.ldR (.t 153) 6 true)⟩⟩,
    ⟨12, true, ⟨some (144, false), .call (some 155) fn_ref_SameTests [(.t 149, .v), (.t 154, .v)]⟩⟩,
    ⟨13, false, ⟨none, .val 156 (.pick (.t 144) (.c (bv true)) (.t 155))⟩⟩,
    ⟨14, false, ⟨none, .val 11 (.mv (.t 156))⟩⟩] [.forget [143, 144, 145, 146, 147, 148, 149, 150, 151, 152, 153, 154, 155, 156]]
abbrev ref_onceStep_r22 : HCode := .reg [⟨none, .val 141 (.mv (.t 12))⟩,
    ⟨none, .val 142 (.ints .add (.t 141) (.c (iv 1)))⟩,
    ⟨none, .val 12 (.mv (.t 142))⟩] false [.forget [141, 142]]
abbrev ref_onceStep_r23 : HCode := .reg [⟨none, .val 157 (.mv (.t 11))⟩,
    ⟨none, .val 158 (.not (.t 157))⟩] false [.forget [157]]
abbrev ref_onceStep_r24 : HCode := .reg [⟨none, .mvo 159 9⟩,
    ⟨none, .val 160 (.fldP (.t 3) 1)⟩,
    ⟨none, .val 161 (.ldB (.t 160) 1 172 1 1 false)⟩,
    ⟨none, .val 162 (.mv (.t 10))⟩,
    ⟨none, .val 163 (.idxA 6 (.t 161) (.t 162))⟩,
    ⟨none, .val 164 (.ldR (.t 163) 6 true)⟩,
    ⟨none, .val 165 (.bslF 6 [.t 164])⟩,
    ⟨none, .app 166 ty_api_Test 6 (.t 159) (.t 165)⟩,
    ⟨none, .mvo 9 166⟩] false [.forget [159, 160, 161, 162, 163, 164, 165, 166]]
abbrev ref_onceStep_r25 : HCode := .reg [⟨none, .val 136 (.mv (.t 10))⟩,
    ⟨none, .val 137 (.ints .add (.t 136) (.c (iv 1)))⟩,
    ⟨none, .val 10 (.mv (.t 137))⟩] false [.forget [136, 137]]
abbrev ref_onceStep_r26 : HCode := .reg [⟨none, .mvo 167 9⟩,
    ⟨none, .val 168 (.fldP (.t 3) 1)⟩,
    ⟨none, .stw (.t 168) 1 172 1 167⟩] false [.frz 1 172 2, .forget [167, 168]]
abbrev ref_onceStep_r27 : HCode := .reg [⟨none, .val 169 (.ldR (.t 3) 2 true)⟩,
    ⟨none, .sto (.t 2) 0 170 0 2 (.t 169)⟩] false [.forget [169]]
abbrev ref_onceStep : HCode := (.seq ref_onceStep_r0 (.seq ref_onceStep_r1 (.seq (.seq ref_onceStep_r2 (.block 0 (.loop (.seq (.seq ref_onceStep_r3 (.cond (.t 20) .skip (.exit 0))) (.seq (.block 1 (.seq ref_onceStep_r4 (.seq ref_onceStep_r5 (.seq ref_onceStep_r6 (.block 2 (.seq ref_onceStep_r7 (.cond (.t 55) ref_onceStep_r8 (.seq ref_onceStep_r9 (.cond (.t 92) (.seq (.seq ref_onceStep_r10 (.cond (.t 121) ref_onceStep_r11 .skip)) ref_onceStep_r12) ref_onceStep_r13))))))))) ref_onceStep_r14))))) (.seq ref_onceStep_r15 (.seq (.seq ref_onceStep_r16 (.block 3 (.loop (.seq (.seq ref_onceStep_r17 (.cond (.t 135) .skip (.exit 3))) (.seq (.block 4 (.seq ref_onceStep_r18 (.seq (.seq ref_onceStep_r19 (.block 5 (.loop (.seq (.seq ref_onceStep_r20 (.cond (.t 140) .skip (.exit 5))) (.seq (.block 6 ref_onceStep_r21) ref_onceStep_r22))))) (.seq ref_onceStep_r23 (.cond (.t 158) ref_onceStep_r24 .skip))))) ref_onceStep_r25))))) (.seq ref_onceStep_r26 (.seq ref_onceStep_r27 .ret)))))))
abbrev ref_onceStep_E : Env := { N := 170, Γ := [(170, 2), (172, 2), (174, 6), (180, 2)], L := 182, nfix := 0 }
abbrev ref_onceStep_R : List RSrc := [.cellB 2 0 170 0 2 true]
theorem mk_ref_onceStep {base : Nat} {av : List AV} {r : RV} (hfo : formOk ref_onceStep_E base av) (hW : AVs.fits av → hwp Tryd.prog ref_onceStep (finQ ref_onceStep_E base av ref_onceStep_R r) (F0 ref_onceStep_E base av)) (hov : ∀ x, r.res = .ov x → nOwn av = 0 := by intro x h; cases h <;> rfl) : Contract Tryd.prog fn_ref_onceStep av r :=
  contract_of_wp (fn := Tryd.f91) (c := Tryd.f91.body.getD .skip) (by kernel_rfl) (by kernel_rfl) (by kernel_rfl) (by kernel_rfl) (by kernel_rfl) (by kernel_rfl) (by kernel_rfl) hfo hW hov
abbrev ref_OnceOfV_r0 : HCode := .reg [⟨none, .nlo 2 ty_api_Path 2⟩] false []
abbrev ref_OnceOfV_r1 : HCode := .reg [⟨none, .val 9 (.mv (.t 0))⟩,
    ⟨none, .call (some 10) fn_ref_OwnList [(.t 9, .v)]⟩,
    ⟨none, .vmv 0 10⟩] false [.forget [9, 10], .pin 0 0 0 []]
abbrev ref_OnceOfV_r2 : HCode := .reg [⟨none, .nlo 3 ty_api_Path 2⟩] false []
abbrev ref_OnceOfV_r3 : HCode := .reg [⟨none, .val 4 (.mv (.c (iv 0)))⟩] false []
abbrev ref_OnceOfV_r4 : HCode := .reg [⟨none, .val 11 (.mv (.t 4))⟩,
    ⟨none, .val 12 (.mv (.t 0))⟩,
    ⟨none, .val 13 (.len false (.t 12))⟩,
    ⟨none, .val 14 (.ints .lss (.t 11) (.t 13))⟩] false [.forget [11, 12, 13]]
abbrev ref_OnceOfV_r5 : HCode := .reg [⟨none, .val 5 (.mv (.c (iv 0)))⟩] false []
abbrev ref_OnceOfV_r6 : HCode := .reg [⟨none, .val 17 (.mv (.t 5))⟩,
    ⟨none, .val 18 (.mv (.t 0))⟩,
    ⟨none, .val 19 (.mv (.t 4))⟩,
    ⟨none, .val 20 (.idxA 2 (.t 18) (.t 19))⟩,
    ⟨none, .val 21 (.fldP (.t 20) 0)⟩,
    ⟨none, .vlh 22 (.t 21) 0 0 0 []⟩,
    ⟨none, .val 23 (.len false (.t 22))⟩,
    ⟨none, .val 24 (.ints .lss (.t 17) (.t 23))⟩] false [.forget [17, 18, 19, 20, 21, 22, 23]]
abbrev ref_OnceOfV_r7 : HCode := .reg [⟨none, .val 6 (.mv (.c (iv 0)))⟩] false [.pin 0 0 0 [(.t 4, 0)], .pin 0 0 0 [(.t 4, 0), (.t 5, 1)]]
abbrev ref_OnceOfV_r8 : HCode := .reg [⟨none, .val 27 (.mv (.t 6))⟩,
    ⟨none, .val 28 (.mv (.t 0))⟩,
    ⟨none, .val 29 (.mv (.t 4))⟩,
    ⟨none, .val 30 (.idxA 2 (.t 28) (.t 29))⟩,
    ⟨none, .val 31 (.fldP (.t 30) 0)⟩,
    ⟨none, .vlh 32 (.t 31) 0 0 0 []⟩,
    ⟨none, .val 33 (.mv (.t 5))⟩,
    ⟨none, .val 34 (.idxA 2 (.t 32) (.t 33))⟩,
    ⟨none, .val 35 (.fldP (.t 34) 1)⟩,
    ⟨none, .vlh 36 (.t 35) 0 0 0 [(.t 4, 0)]⟩,
    ⟨none, .val 37 (.len false (.t 36))⟩,
    ⟨none, .val 38 (.ints .lss (.t 27) (.t 37))⟩] false [.forget [27, 28, 29, 30, 31, 32, 33, 34, 35, 36, 37]]
abbrev ref_OnceOfV_r9 : HCode := .drg [⟨0, false, ⟨none, .val 41 (.mv (.t 0))⟩⟩,
    ⟨1, false, ⟨none, .val 42 (.mv (.t 4))⟩⟩,
    ⟨2, false, ⟨none, .val 43 (.idxA 2 (.t 41) (.t 42))⟩⟩,
    ⟨3, false, ⟨none, .val 44 (.fldP (.t 43) 0)⟩⟩,
    ⟨4, false, ⟨none, .vlh 45 (.t 44) 0 0 0 []⟩⟩,
    ⟨5, false, ⟨none, .val 46 (.mv (.t 5))⟩⟩,
    ⟨6, false, ⟨none, .val 47 (.idxA 2 (.t 45) (.t 46))⟩⟩,
    ⟨7, false, ⟨none, .val 48 (.fldP (.t 47) 1)⟩⟩,
    ⟨8, false, ⟨none, .vlh 49 (.t 48) 0 0 0 [(.t 4, 0)]⟩⟩,
    ⟨9, false, ⟨none, .val 50 (.mv (.t 6))⟩⟩,
    ⟨10, false, ⟨none, .val 51 (.mv (.t 0))⟩⟩,
    ⟨11, false, ⟨none, .val 52 (.mv (.t 4))⟩⟩,
    ⟨12, false, ⟨none, .val 53 (.idxA 2 (.t 51) (.t 52))⟩⟩,
    ⟨13, false, ⟨none, .val 54 (.fldP (.t 53) 0)⟩⟩,
    ⟨14, false, ⟨none, .vlh 55 (.t 54) 0 0 0 []⟩⟩,
    ⟨15, false, ⟨none, .val 56 (.mv (.t 5))⟩⟩,
    ⟨16, false, ⟨none, .val 57 (.idxA 2 (.t 55) (.t 56))⟩⟩,
    ⟨17, false, ⟨none, .val 58 (.fldP (.t 57) 1)⟩⟩,
    ⟨18, false, ⟨none, .vlh 59 (.t 58) 0 0 0 [(.t 4, 0)]⟩⟩,
    ⟨19, false, ⟨none, .val 60 (.mv (.t 6))⟩⟩,
    ⟨20, false, ⟨none, .val 61 (.idxA 6 (.t 59) (.t 60))⟩⟩,
    ⟨21, false, ⟨none, .val 62 (.fldP (.t 61) 5)⟩⟩,
    ⟨22, false, ⟨none, .vlp 63 (.t 62) 0 0 0 [(.t 4, 0), (.t 5, 1)] 1 false⟩⟩,
    ⟨23, true, ⟨none, .call (some 64) fn_ref_OnceOf [(.t 63, .v)]⟩⟩,
    ⟨24, false, ⟨none, .val 65 (.idxA 6 (.t 49) (.t 50))⟩⟩,
    ⟨25, false, ⟨none, .val 66 (.fldP (.t 65) 5)⟩⟩,
    ⟨26, false, ⟨none, .vse (.t 66) 0 0 0 [(.t 4, 0), (.t 5, 1)] 1 (.t 64)⟩⟩] [.forget [41, 42, 43, 44, 45, 46, 47, 48, 49, 50, 51, 52, 53, 54, 55, 56, 57, 58, 59, 60, 61, 62, 63, 64, 65, 66]]
abbrev ref_OnceOfV_r10 : HCode := .reg [⟨none, .val 39 (.mv (.t 6))⟩,
    ⟨none, .val 40 (.ints .add (.t 39) (.c (iv 1)))⟩,
    ⟨none, .val 6 (.mv (.t 40))⟩] false [.forget [39, 40]]
abbrev ref_OnceOfV_r11 : HCode := .drgG [.vfp 0 0 0 [(.t 4, 0), (.t 5, 1)]] [⟨0, false, ⟨none, .val 67 (.mv (.t 0))⟩⟩,
    ⟨1, false, ⟨none, .val 68 (.mv (.t 4))⟩⟩,
    ⟨2, false, ⟨none, .val 69 (.idxA 2 (.t 67) (.t 68))⟩⟩,
    ⟨3, false, ⟨none, .val 70 (.fldP (.t 69) 0)⟩⟩,
    ⟨4, false, ⟨none, .vlh 71 (.t 70) 0 0 0 []⟩⟩,
    ⟨5, false, ⟨none, .val 72 (.mv (.t 5))⟩⟩,
    ⟨6, false, ⟨none, .val 73 (.mv (.t 0))⟩⟩,
    ⟨7, false, ⟨none, .val 74 (.mv (.t 4))⟩⟩,
    ⟨8, false, ⟨none, .val 75 (.idxA 2 (.t 73) (.t 74))⟩⟩,
    ⟨9, false, ⟨none, .val 76 (.fldP (.t 75) 0)⟩⟩,
    ⟨10, false, ⟨none, .vlh 77 (.t 76) 0 0 0 []⟩⟩,
    ⟨11, false, ⟨none, .val 78 (.mv (.t 5))⟩⟩,
    ⟨12, false, ⟨none, .val 79 (.idxA 2 (.t 77) (.t 78))⟩⟩,
    ⟨13, false, ⟨none, .vlp 80 (.t 79) 0 0 0 [(.t 4, 0)] 2 true⟩⟩,
    ⟨14, true, ⟨none, .call (some 81) fn_ref_onceStep [(.t 80, .v)]⟩⟩,
    ⟨15, false, ⟨none, .val 82 (.idxA 2 (.t 71) (.t 72))⟩⟩,
    ⟨16, false, ⟨none, .vse (.t 82) 0 0 0 [(.t 4, 0)] 2 (.t 81)⟩⟩] [.forget [67, 68, 69, 70, 71, 72, 73, 74, 75, 76, 77, 78, 79, 80, 81, 82], .unp 0 0 0 [(.t 4, 0)]]
abbrev ref_OnceOfV_r12 : HCode := .reg [⟨none, .val 25 (.mv (.t 5))⟩,
    ⟨none, .val 26 (.ints .add (.t 25) (.c (iv 1)))⟩,
    ⟨none, .val 5 (.mv (.t 26))⟩] false [.forget [25, 26]]
abbrev ref_OnceOfV_r13 : HCode := .reg [⟨none, .val 7 (.mv (.c (bv false)))⟩] false [.vfp 0 0 0 [(.t 4, 0)]]
abbrev ref_OnceOfV_r14 : HCode := .reg [⟨none, .val 8 (.mv (.c (iv 0)))⟩] false []
abbrev ref_OnceOfV_r15 : HCode := .reg [⟨none, .val 83 (.mv (.t 8))⟩,
    ⟨none, .val 84 (.mv (.t 3))⟩,
    ⟨none, .val 85 (.len false (.t 84))⟩,
    ⟨none, .val 86 (.ints .lss (.t 83) (.t 85))⟩] false [.forget [83, 84, 85]]
abbrev ref_OnceOfV_r16 : HCode := .drg [⟨0, false, ⟨none, .val 89 (.mv (.t 7))⟩⟩,
    ⟨1, false, ⟨none, .val 90 (.mv (.t 89))⟩⟩,
    ⟨2, false, ⟨some (90, false), .val 91 (.mv (.t 3))⟩⟩,
    ⟨3, false, ⟨some (90, false), .val 92 (.mv (.t 8))⟩⟩,
    ⟨4, false, ⟨some (90, false), .val 93 (.idxA 2 (.t 91) (.t 92))⟩⟩,
    ⟨5, false, ⟨some (90, false), .val 94 (.ldR (.t 93) 2 true)⟩⟩,
    ⟨6, false, ⟨some (90, false), .val 95 (.mv (.t 0))⟩⟩,
    ⟨7, false, ⟨some (90, false), .val 96 (.mv (.t 4))⟩⟩,
    ⟨8, false, ⟨some (90, false), .val 97 (.idxA 2 (.t 95) (.t 96))⟩⟩,
    ⟨9, false, ⟨some (90, false), .vlp 98 (.t 97) 0 0 0 [] 2 true⟩⟩,
    ⟨10, true, ⟨some (90, false), .call (some 99) fn_ref_SamePaths [(.t 94, .v), (.t 98, .v)]⟩⟩,
    ⟨11, false, ⟨none, .val 100 (.pick (.t 90) (.c (bv true)) (.t 99))⟩⟩,
    ⟨12, false, ⟨none, .val 7 (.mv (.t 100))⟩⟩] [.forget [89, 90, 91, 92, 93, 94, 95, 96, 97, 98, 99, 100]]
abbrev ref_OnceOfV_r17 : HCode := .reg [⟨none, .val 87 (.mv (.t 8))⟩,
    ⟨none, .val 88 (.ints .add (.t 87) (.c (iv 1)))⟩,
    ⟨none, .val 8 (.mv (.t 88))⟩] false [.forget [87, 88]]
abbrev ref_OnceOfV_r18 : HCode := .reg [⟨none, .val 101 (.mv (.t 7))⟩,
    ⟨none, .val 102 (.not (.t 101))⟩] false [.forget [101]]
abbrev ref_OnceOfV_r19 : HCode := .reg [⟨none, .mvo 103 3⟩,
    ⟨none, .val 104 (.mv (.t 0))⟩,
    ⟨none, .val 105 (.mv (.t 4))⟩,
    ⟨none, .val 106 (.idxA 2 (.t 104) (.t 105))⟩,
    ⟨none, .vlp 107 (.t 106) 0 0 0 [] 2 true⟩,
    ⟨none, .val 108 (.bslF 2 [.t 107])⟩,
    ⟨none, .app 109 ty_api_Path 2 (.t 103) (.t 108)⟩,
    ⟨none, .mvo 3 109⟩] false [.forget [103, 104, 105, 106, 107, 108, 109]]
abbrev ref_OnceOfV_r20 : HCode := .reg [⟨none, .val 15 (.mv (.t 4))⟩,
    ⟨none, .val 16 (.ints .add (.t 15) (.c (iv 1)))⟩,
    ⟨none, .val 4 (.mv (.t 16))⟩] false [.forget [15, 16]]
abbrev ref_OnceOfV_r21 : HCode := .reg [⟨none, .val 110 (.mv (.t 3))⟩,
    ⟨none, .call (some 111) fn_ref_OwnList [(.t 110, .v)]⟩,
    ⟨none, .mvo 2 111⟩] false [.forget [110, 111]]
abbrev ref_OnceOfV : HCode := (.seq ref_OnceOfV_r0 (.seq ref_OnceOfV_r1 (.seq ref_OnceOfV_r2 (.seq (.seq ref_OnceOfV_r3 (.block 0 (.loop (.seq (.seq ref_OnceOfV_r4 (.cond (.t 14) .skip (.exit 0))) (.seq (.block 1 (.seq (.seq ref_OnceOfV_r5 (.block 2 (.loop (.seq (.seq ref_OnceOfV_r6 (.cond (.t 24) .skip (.exit 2))) (.seq (.block 3 (.seq (.seq ref_OnceOfV_r7 (.block 4 (.loop (.seq (.seq ref_OnceOfV_r8 (.cond (.t 38) .skip (.exit 4))) (.seq (.block 5 ref_OnceOfV_r9) ref_OnceOfV_r10))))) ref_OnceOfV_r11)) ref_OnceOfV_r12))))) (.seq ref_OnceOfV_r13 (.seq (.seq ref_OnceOfV_r14 (.block 6 (.loop (.seq (.seq ref_OnceOfV_r15 (.cond (.t 86) .skip (.exit 6))) (.seq (.block 7 ref_OnceOfV_r16) ref_OnceOfV_r17))))) (.seq ref_OnceOfV_r18 (.cond (.t 102) ref_OnceOfV_r19 .skip)))))) ref_OnceOfV_r20))))) (.seq ref_OnceOfV_r21 .ret)))))
abbrev ref_OnceOfV_E : Env := { N := 112, Γ := [], L := 112, nfix := 0 }
abbrev ref_OnceOfV_R : List RSrc := [.tmp 2]
theorem mk_ref_OnceOfV {base : Nat} {av : List AV} {r : RV} (hfo : formOk ref_OnceOfV_E base av) (hW : AVs.fits av → hwp Tryd.prog ref_OnceOfV (finQ ref_OnceOfV_E base av ref_OnceOfV_R r) (F0 ref_OnceOfV_E base av)) (hov : ∀ x, r.res = .ov x → nOwn av = 0 := by intro x h; cases h <;> rfl) : Contract Tryd.prog fn_ref_OnceOf av r :=
  contract_of_wp (fn := Tryd.f35) (c := Tryd.f35.body.getD .skip) (by kernel_rfl) (by kernel_rfl) (by kernel_rfl) (by kernel_rfl) (by kernel_rfl) (by kernel_rfl) (by kernel_rfl) hfo hW hov
abbrev ref_PlainOf_r0 : HCode := .reg [⟨none, .nlo 2 ty_api_Path 2⟩] false []
abbrev ref_PlainOf_r1 : HCode := .reg [⟨none, .val 4 (.mv (.t 0))⟩,
    ⟨none, .call (some 5) fn_ref_OnceOf [(.t 4, .v)]⟩,
    ⟨none, .mvo 3 5⟩] false [.forget [4, 5]]
abbrev ref_PlainOf_r2 : HCode := .reg [⟨none, .val 6 (.mv (.t 0))⟩,
    ⟨none, .val 7 (.mv (.t 3))⟩,
    ⟨none, .call (some 8) fn_ref_SameLists [(.t 6, .v), (.t 7, .v)]⟩] false [.forget [6, 7]]
abbrev ref_PlainOf_r3 : HCode := .reg [⟨none, .mvo 9 3⟩,
    ⟨none, .mvo 2 9⟩] false [.forget [9]]
abbrev ref_PlainOf_r4 : HCode := .reg [⟨none, .val 10 (.mv (.t 3))⟩,
    ⟨none, .val 0 (.mv (.t 10))⟩] false [.forget [10]]
abbrev ref_PlainOf : HCode := (.seq ref_PlainOf_r0 (.block 0 (.loop (.block 1 (.seq ref_PlainOf_r1 (.seq (.seq ref_PlainOf_r2 (.cond (.t 8) (.seq ref_PlainOf_r3 .ret) .skip)) ref_PlainOf_r4))))))
abbrev ref_PlainOf_E : Env := { N := 11, Γ := [], L := 11, nfix := 0 }
abbrev ref_PlainOf_R : List RSrc := [.tmp 2]
theorem mk_ref_PlainOf {base : Nat} {av : List AV} {r : RV} (hfo : formOk ref_PlainOf_E base av) (hW : AVs.fits av → hwp Tryd.prog ref_PlainOf (finQ ref_PlainOf_E base av ref_PlainOf_R r) (F0 ref_PlainOf_E base av)) (hov : ∀ x, r.res = .ov x → nOwn av = 0 := by intro x h; cases h <;> rfl) : Contract Tryd.prog fn_ref_PlainOf av r :=
  contract_of_wp (fn := Tryd.f36) (c := Tryd.f36.body.getD .skip) (by kernel_rfl) (by kernel_rfl) (by kernel_rfl) (by kernel_rfl) (by kernel_rfl) (by kernel_rfl) (by kernel_rfl) hfo hW hov
abbrev ref_SameTests_r0 : HCode := .reg [⟨none, .val 2 (.boxF (.t 0))⟩,
    ⟨none, .val 3 (.boxF (.t 1))⟩,
    ⟨none, .val 4 (.mv (.c (bv false)))⟩] false []
abbrev ref_SameTests_r1 : HCode := .reg [⟨none, .val 5 (.fldR (.t 2) 0 1)⟩,
    ⟨none, .val 6 (.ldR (.t 5) 1 false)⟩,
    ⟨none, .val 7 (.fldR (.t 3) 0 1)⟩,
    ⟨none, .val 8 (.ldR (.t 7) 1 false)⟩,
    ⟨none, .val 9 (.ints .eql (.t 6) (.t 8))⟩,
    ⟨none, .val 10 (.mv (.t 9))⟩,
    ⟨some (10, true), .val 11 (.fldR (.t 2) 1 1)⟩,
    ⟨some (10, true), .val 12 (.ldR (.t 11) 1 false)⟩,
    ⟨some (10, true), .val 13 (.fldR (.t 3) 1 1)⟩,
    ⟨some (10, true), .val 14 (.ldR (.t 13) 1 false)⟩,
    ⟨some (10, true), .val 15 (.strs .eql (.t 12) (.t 14))⟩,
    ⟨none, .val 16 (.pick (.t 10) (.t 15) (.c (bv false)))⟩,
    ⟨none, .val 17 (.mv (.t 16))⟩,
    ⟨some (17, true), .val 18 (.fldR (.t 2) 2 1)⟩,
    ⟨some (17, true), .val 19 (.ldR (.t 18) 1 false)⟩,
    ⟨some (17, true), .val 20 (.fldR (.t 3) 2 1)⟩,
    ⟨some (17, true), .val 21 (.ldR (.t 20) 1 false)⟩,
    ⟨some (17, true), .val 22 (.strs .eql (.t 19) (.t 21))⟩,
    ⟨none, .val 23 (.pick (.t 17) (.t 22) (.c (bv false)))⟩,
    ⟨none, .val 24 (.mv (.t 23))⟩,
    ⟨some (24, true), .val 25 (.fldR (.t 2) 3 2)⟩,
    ⟨some (24, true), .val 26 (.ldR (.t 25) 2 true)⟩,
    ⟨some (24, true), .val 27 (.fldR (.t 3) 3 2)⟩,
    ⟨some (24, true), .val 28 (.ldR (.t 27) 2 true)⟩,
    ⟨some (24, true), .val 29 (.steq false [0, 0] (.t 26) (.t 28))⟩,
    ⟨none, .val 30 (.pick (.t 24) (.t 29) (.c (bv false)))⟩,
    ⟨none, .val 31 (.mv (.t 30))⟩,
    ⟨some (31, true), .val 32 (.fldR (.t 2) 5 1)⟩,
    ⟨some (31, true), .val 33 (.ldR (.t 32) 1 false)⟩,
    ⟨some (31, true), .val 34 (.fldR (.t 3) 5 1)⟩,
    ⟨some (31, true), .val 35 (.ldR (.t 34) 1 false)⟩,
    ⟨some (31, true), .call (some 36) fn_ref_SameLists [(.t 33, .v), (.t 35, .v)]⟩,
    ⟨none, .val 37 (.pick (.t 31) (.t 36) (.c (bv false)))⟩,
    ⟨none, .val 4 (.mv (.t 37))⟩] false [.forget [5, 6, 7, 8, 9, 10, 11, 12, 13, 14, 15, 16, 17, 18, 19, 20, 21, 22, 23, 24, 25, 26, 27, 28, 29, 30, 31, 32, 33, 34, 35, 36, 37]]
abbrev ref_SameTests : HCode := (.seq ref_SameTests_r0 (.seq ref_SameTests_r1 .ret))
abbrev ref_SameTests_E : Env := { N := 38, Γ := [], L := 38, nfix := 0 }
abbrev ref_SameTests_R : List RSrc := [.tmp 4]
theorem mk_ref_SameTests {base : Nat} {av : List AV} {r : RV} (hfo : formOk ref_SameTests_E base av) (hW : AVs.fits av → hwp Tryd.prog ref_SameTests (finQ ref_SameTests_E base av ref_SameTests_R r) (F0 ref_SameTests_E base av)) (hov : ∀ x, r.res = .ov x → nOwn av = 0 := by intro x h; cases h <;> rfl) : Contract Tryd.prog fn_ref_SameTests av r :=
  contract_of_wp (fn := Tryd.f132) (c := Tryd.f132.body.getD .skip) (by kernel_rfl) (by kernel_rfl) (by kernel_rfl) (by kernel_rfl) (by kernel_rfl) (by kernel_rfl) (by kernel_rfl) hfo hW hov
abbrev ref_SameSteps_r0 : HCode := .reg [⟨none, .val 2 (.boxF (.t 0))⟩,
    ⟨none, .val 3 (.boxF (.t 1))⟩,
    ⟨none, .val 4 (.mv (.c (bv false)))⟩] false []
abbrev ref_SameSteps_r1 : HCode := .reg [⟨none, .val 6 (.fldR (.t 2) 0 1)⟩,
    ⟨none, .val 7 (.ldR (.t 6) 1 false)⟩,
    ⟨none, .val 8 (.fldR (.t 3) 0 1)⟩,
    ⟨none, .val 9 (.ldR (.t 8) 1 false)⟩,
    ⟨none, .val 10 (.strs .neq (.t 7) (.t 9))⟩,
    ⟨none, .val 11 (.mv (.t 10))⟩,
    ⟨some (11, false), .val 12 (.fldR (.t 2) 1 1)⟩,
    ⟨some (11, false), .val 13 (.ldR (.t 12) 1 false)⟩,
    ⟨some (11, false), .val 14 (.len false (.t 13))⟩,
    ⟨some (11, false), .val 15 (.fldR (.t 3) 1 1)⟩,
    ⟨some (11, false), .val 16 (.ldR (.t 15) 1 false)⟩,
    ⟨some (11, false), .val 17 (.len false (.t 16))⟩,
    ⟨some (11, false), .val 18 (.ints .neq (.t 14) (.t 17))⟩,
    ⟨none, .val 19 (.pick (.t 11) (.c (bv true)) (.t 18))⟩] false [.forget [6, 7, 8, 9, 10, 11, 12, 13, 14, 15, 16, 17, 18]]
abbrev ref_SameSteps_r2 : HCode := .reg [⟨none, .val 4 (.mv (.c (bv false)))⟩] false []
abbrev ref_SameSteps_r3 : HCode := .reg [⟨none, .val 5 (.mv (.c (iv 0)))⟩] false []
abbrev ref_SameSteps_r4 : HCode := .reg [⟨none, .val 20 (.mv (.t 5))⟩,
    ⟨none, .val 21 (.fldR (.t 2) 1 1)⟩,
    ⟨none, .val 22 (.ldR (.t 21) 1 false)⟩,
    ⟨none, .val 23 (.len false (.t 22))⟩,
    ⟨none, .val 24 (.ints .lss (.t 20) (.t 23))⟩] false [.forget [20, 21, 22, 23]]
abbrev ref_SameSteps_r5 : HCode := .drg [⟨0, false, ⟨none, .val 27 (.fldR (.t 2) 1 1)⟩⟩,
    ⟨1, false, ⟨none, .val 28 (.ldR (.t 27) 1 false)⟩⟩,
    ⟨2, false, ⟨none, .val 29 (.mv (.t 5))⟩⟩,
    ⟨3, false, ⟨none, .val 30 (.idxA 6 (.t 28) (.t 29))⟩⟩,
    ⟨4, false, ⟨none, .val 31 (.ldR (.t 30) 6 true)⟩⟩,
    ⟨5, false, ⟨none, .val 32 (.fldR (.t 3) 1 1)⟩⟩,
    ⟨6, false, ⟨none, .val 33 (.ldR (.t 32) 1 false)⟩⟩,
    ⟨7, false, ⟨none, .val 34 (.mv (.t 5))⟩⟩,
    ⟨8, false, ⟨none, .val 35 (.idxA 6 (.t 33) (.t 34))⟩⟩,
    ⟨9, false, ⟨none, .val 36 (.ldR (.t 35) 6 true)⟩⟩,
    ⟨10, true, ⟨none, .call (some 37) fn_ref_SameTests [(.t 31, .v), (.t 36, .v)]⟩⟩,
    ⟨11, false, ⟨none, .val 38 (.not (.t 37))⟩⟩] [.forget [27, 28, 29, 30, 31, 32, 33, 34, 35, 36, 37]]
abbrev ref_SameSteps_r6 : HCode := .reg [⟨none, .val 4 (.mv (.c (bv false)))⟩] false []
abbrev ref_SameSteps_r7 : HCode := .reg [⟨none, .val 25 (.mv (.t 5))⟩,
    ⟨none, .val 26 (.ints .add (.t 25) (.c (iv 1)))⟩,
    ⟨none, .val 5 (.mv (.t 26))⟩] false [.forget [25, 26]]
abbrev ref_SameSteps_r8 : HCode := .reg [⟨none, .val 4 (.mv (.c (bv true)))⟩] false []
abbrev ref_SameSteps : HCode := (.seq ref_SameSteps_r0 (.seq (.seq ref_SameSteps_r1 (.cond (.t 19) (.seq ref_SameSteps_r2 .ret) .skip)) (.seq (.seq ref_SameSteps_r3 (.block 0 (.loop (.seq (.seq ref_SameSteps_r4 (.cond (.t 24) .skip (.exit 0))) (.seq (.block 1 (.seq ref_SameSteps_r5 (.cond (.t 38) (.seq ref_SameSteps_r6 .ret) .skip))) ref_SameSteps_r7))))) (.seq ref_SameSteps_r8 .ret))))
abbrev ref_SameSteps_E : Env := { N := 39, Γ := [], L := 39, nfix := 0 }
abbrev ref_SameSteps_R : List RSrc := [.tmp 4]
theorem mk_ref_SameSteps {base : Nat} {av : List AV} {r : RV} (hfo : formOk ref_SameSteps_E base av) (hW : AVs.fits av → hwp Tryd.prog ref_SameSteps (finQ ref_SameSteps_E base av ref_SameSteps_R r) (F0 ref_SameSteps_E base av)) (hov : ∀ x, r.res = .ov x → nOwn av = 0 := by intro x h; cases h <;> rfl) : Contract Tryd.prog fn_ref_SameSteps av r :=
  contract_of_wp (fn := Tryd.f133) (c := Tryd.f133.body.getD .skip) (by kernel_rfl) (by kernel_rfl) (by kernel_rfl) (by kernel_rfl) (by kernel_rfl) (by kernel_rfl) (by kernel_rfl) hfo hW hov
abbrev ref_SamePaths_r0 : HCode := .reg [⟨none, .val 2 (.boxF (.t 0))⟩,
    ⟨none, .val 3 (.boxF (.t 1))⟩,
    ⟨none, .val 4 (.mv (.c (bv false)))⟩] false []
abbrev ref_SamePaths_r1 : HCode := .reg [⟨none, .val 6 (.fldR (.t 2) 0 1)⟩,
    ⟨none, .val 7 (.ldR (.t 6) 1 false)⟩,
    ⟨none, .val 8 (.len false (.t 7))⟩,
    ⟨none, .val 9 (.fldR (.t 3) 0 1)⟩,
    ⟨none, .val 10 (.ldR (.t 9) 1 false)⟩,
    ⟨none, .val 11 (.len false (.t 10))⟩,
    ⟨none, .val 12 (.ints .neq (.t 8) (.t 11))⟩,
    ⟨none, .val 13 (.mv (.t 12))⟩,
    ⟨some (13, false), .val 14 (.fldR (.t 2) 1 1)⟩,
    ⟨some (13, false), .val 15 (.ldR (.t 14) 1 false)⟩,
    ⟨some (13, false), .val 16 (.fldR (.t 3) 1 1)⟩,
    ⟨some (13, false), .val 17 (.ldR (.t 16) 1 false)⟩,
    ⟨some (13, false), .call (some 18) fn_ref_SameInts [(.t 15, .v), (.t 17, .v)]⟩,
    ⟨some (13, false), .val 19 (.not (.t 18))⟩,
    ⟨none, .val 20 (.pick (.t 13) (.c (bv true)) (.t 19))⟩] false [.forget [6, 7, 8, 9, 10, 11, 12, 13, 14, 15, 16, 17, 18, 19]]
abbrev ref_SamePaths_r2 : HCode := .reg [⟨none, .val 4 (.mv (.c (bv false)))⟩] false []
abbrev ref_SamePaths_r3 : HCode := .reg [⟨none, .val 5 (.mv (.c (iv 0)))⟩] false []
abbrev ref_SamePaths_r4 : HCode := .reg [⟨none, .val 21 (.mv (.t 5))⟩,
    ⟨none, .val 22 (.fldR (.t 2) 0 1)⟩,
    ⟨none, .val 23 (.ldR (.t 22) 1 false)⟩,
    ⟨none, .val 24 (.len false (.t 23))⟩,
    ⟨none, .val 25 (.ints .lss (.t 21) (.t 24))⟩] false [.forget [21, 22, 23, 24]]
abbrev ref_SamePaths_r5 : HCode := .drg [⟨0, false, ⟨none, .val 28 (.fldR (.t 2) 0 1)⟩⟩,
    ⟨1, false, ⟨none, .val 29 (.ldR (.t 28) 1 false)⟩⟩,
    ⟨2, false, ⟨none, .val 30 (.mv (.t 5))⟩⟩,
    ⟨3, false, ⟨none, .val 31 (.idxA 2 (.t 29) (.t 30))⟩⟩,
    ⟨4, false, ⟨none, .val 32 (.ldR (.t 31) 2 true)⟩⟩,
    ⟨5, false, ⟨none, .val 33 (.fldR (.t 3) 0 1)⟩⟩,
    ⟨6, false, ⟨none, .val 34 (.ldR (.t 33) 1 false)⟩⟩,
    ⟨7, false, ⟨none, .val 35 (.mv (.t 5))⟩⟩,
    ⟨8, false, ⟨none, .val 36 (.idxA 2 (.t 34) (.t 35))⟩⟩,
    ⟨9, false, ⟨none, .val 37 (.ldR (.t 36) 2 true)⟩⟩,
    ⟨10, true, ⟨none, .call (some 38) fn_ref_SameSteps [(.t 32, .v), (.t 37, .v)]⟩⟩,
    ⟨11, false, ⟨none, .val 39 (.not (.t 38))⟩⟩] [.forget [28, 29, 30, 31, 32, 33, 34, 35, 36, 37, 38]]
abbrev ref_SamePaths_r6 : HCode := .reg [⟨none, .val 4 (.mv (.c (bv false)))⟩] false []
abbrev ref_SamePaths_r7 : HCode := .reg [⟨none, .val 26 (.mv (.t 5))⟩,
    ⟨none, .val 27 (.ints .add (.t 26) (.c (iv 1)))⟩,
    ⟨none, .val 5 (.mv (.t 27))⟩] false [.forget [26, 27]]
abbrev ref_SamePaths_r8 : HCode := .reg [⟨none, .val 4 (.mv (.c (bv true)))⟩] false []
abbrev ref_SamePaths : HCode := (.seq ref_SamePaths_r0 (.seq (.seq ref_SamePaths_r1 (.cond (.t 20) (.seq ref_SamePaths_r2 .ret) .skip)) (.seq (.seq ref_SamePaths_r3 (.block 0 (.loop (.seq (.seq ref_SamePaths_r4 (.cond (.t 25) .skip (.exit 0))) (.seq (.block 1 (.seq ref_SamePaths_r5 (.cond (.t 39) (.seq ref_SamePaths_r6 .ret) .skip))) ref_SamePaths_r7))))) (.seq ref_SamePaths_r8 .ret))))
abbrev ref_SamePaths_E : Env := { N := 40, Γ := [], L := 40, nfix := 0 }
abbrev ref_SamePaths_R : List RSrc := [.tmp 4]
theorem mk_ref_SamePaths {base : Nat} {av : List AV} {r : RV} (hfo : formOk ref_SamePaths_E base av) (hW : AVs.fits av → hwp Tryd.prog ref_SamePaths (finQ ref_SamePaths_E base av ref_SamePaths_R r) (F0 ref_SamePaths_E base av)) (hov : ∀ x, r.res = .ov x → nOwn av = 0 := by intro x h; cases h <;> rfl) : Contract Tryd.prog fn_ref_SamePaths av r :=
  contract_of_wp (fn := Tryd.f92) (c := Tryd.f92.body.getD .skip) (by kernel_rfl) (by kernel_rfl) (by kernel_rfl) (by kernel_rfl) (by kernel_rfl) (by kernel_rfl) (by kernel_rfl) hfo hW hov
abbrev ref_SameLists_r0 : HCode := .reg [⟨none, .val 4 (.mv (.c (bv false)))⟩] false []
abbrev ref_SameLists_r1 : HCode := .reg [⟨none, .val 6 (.mv (.t 0))⟩,
    ⟨none, .val 7 (.len false (.t 6))⟩,
    ⟨none, .val 8 (.mv (.t 1))⟩,
    ⟨none, .val 9 (.len false (.t 8))⟩,
    ⟨none, .val 10 (.ints .neq (.t 7) (.t 9))⟩] false [.forget [6, 7, 8, 9]]
abbrev ref_SameLists_r2 : HCode := .reg [⟨none, .val 4 (.mv (.c (bv false)))⟩] false []
abbrev ref_SameLists_r3 : HCode := .reg [⟨none, .val 5 (.mv (.c (iv 0)))⟩] false []
abbrev ref_SameLists_r4 : HCode := .reg [⟨none, .val 11 (.mv (.t 5))⟩,
    ⟨none, .val 12 (.mv (.t 0))⟩,
    ⟨none, .val 13 (.len false (.t 12))⟩,
    ⟨none, .val 14 (.ints .lss (.t 11) (.t 13))⟩] false [.forget [11, 12, 13]]
abbrev ref_SameLists_r5 : HCode := .drg [⟨0, false, ⟨none, .val 17 (.mv (.t 0))⟩⟩,
    ⟨1, false, ⟨none, .val 18 (.mv (.t 5))⟩⟩,
    ⟨2, false, ⟨none, .val 19 (.idxA 2 (.t 17) (.t 18))⟩⟩,
    ⟨3, false, ⟨none, .val 20 (.ldR (.t 19) 2 true)⟩⟩,
    ⟨4, false, ⟨none, .val 21 (.mv (.t 1))⟩⟩,
    ⟨5, false, ⟨none, .val 22 (.mv (.t 5))⟩⟩,
    ⟨6, false, ⟨none, .val 23 (.idxA 2 (.t 21) (.t 22))⟩⟩,
    ⟨7, false, ⟨none, .val 24 (.ldR (.t 23) 2 true)⟩⟩,
    ⟨8, true, ⟨none, .call (some 25) fn_ref_SamePaths [(.t 20, .v), (.t 24, .v)]⟩⟩,
    ⟨9, false, ⟨none, .val 26 (.not (.t 25))⟩⟩] [.forget [17, 18, 19, 20, 21, 22, 23, 24, 25]]
abbrev ref_SameLists_r6 : HCode := .reg [⟨none, .val 4 (.mv (.c (bv false)))⟩] false []
abbrev ref_SameLists_r7 : HCode := .reg [⟨none, .val 15 (.mv (.t 5))⟩,
    ⟨none, .val 16 (.ints .add (.t 15) (.c (iv 1)))⟩,
    ⟨none, .val 5 (.mv (.t 16))⟩] false [.forget [15, 16]]
abbrev ref_SameLists_r8 : HCode := .reg [⟨none, .val 4 (.mv (.c (bv true)))⟩] false []
abbrev ref_SameLists : HCode := (.seq ref_SameLists_r0 (.seq (.seq ref_SameLists_r1 (.cond (.t 10) (.seq ref_SameLists_r2 .ret) .skip)) (.seq (.seq ref_SameLists_r3 (.block 0 (.loop (.seq (.seq ref_SameLists_r4 (.cond (.t 14) .skip (.exit 0))) (.seq (.block 1 (.seq ref_SameLists_r5 (.cond (.t 26) (.seq ref_SameLists_r6 .ret) .skip))) ref_SameLists_r7))))) (.seq ref_SameLists_r8 .ret))))
abbrev ref_SameLists_E : Env := { N := 27, Γ := [], L := 27, nfix := 0 }
abbrev ref_SameLists_R : List RSrc := [.tmp 4]
theorem mk_ref_SameLists {base : Nat} {av : List AV} {r : RV} (hfo : formOk ref_SameLists_E base av) (hW : AVs.fits av → hwp Tryd.prog ref_SameLists (finQ ref_SameLists_E base av ref_SameLists_R r) (F0 ref_SameLists_E base av)) (hov : ∀ x, r.res = .ov x → nOwn av = 0 := by intro x h; cases h <;> rfl) : Contract Tryd.prog fn_ref_SameLists av r :=
  contract_of_wp (fn := Tryd.f38) (c := Tryd.f38.body.getD .skip) (by kernel_rfl) (by kernel_rfl) (by kernel_rfl) (by kernel_rfl) (by kernel_rfl) (by kernel_rfl) (by kernel_rfl) hfo hW hov
abbrev ref_OwnList_r0 : HCode := .reg [⟨none, .nlo 2 ty_api_Path 2⟩] false []
abbrev ref_OwnList_r1 : HCode := .reg [⟨none, .nlo 3 ty_api_Path 2⟩] false []
abbrev ref_OwnList_r2 : HCode := .reg [⟨none, .val 4 (.mv (.c (iv 0)))⟩] false []
abbrev ref_OwnList_r3 : HCode := .reg [⟨none, .val 10 (.mv (.t 4))⟩,
    ⟨none, .val 11 (.mv (.t 0))⟩,
    ⟨none, .val 12 (.len false (.t 11))⟩,
    ⟨none, .val 13 (.ints .lss (.t 10) (.t 12))⟩] false [.forget [10, 11, 12]]
abbrev ref_OwnList_r4 : HCode := .reg [⟨none, .bsl 16 ty_int 1 []⟩,
    ⟨none, .val 17 (.mv (.t 0))⟩,
    ⟨none, .val 18 (.mv (.t 4))⟩,
    ⟨none, .val 19 (.idxA 2 (.t 17) (.t 18))⟩,
    ⟨none, .val 20 (.fldR (.t 19) 1 1)⟩,
    ⟨none, .val 21 (.ldR (.t 20) 1 false)⟩,
    ⟨none, .app 22 ty_int 1 (.t 16) (.t 21)⟩,
    ⟨none, .val 23 (.bld [.nl 2, .nl 1] [(1, 1, .t 22)])⟩,
    ⟨none, .alloc 5 0 91 [.nl 2, .nl 1]⟩,
    ⟨none, .sto (.t 5) 0 91 0 2 (.t 23)⟩] false [.forget [16, 17, 18, 19, 20, 21, 22, 23]]
abbrev ref_OwnList_r5 : HCode := .reg [⟨none, .val 6 (.mv (.c (iv 0)))⟩] false []
abbrev ref_OwnList_r6 : HCode := .reg [⟨none, .val 24 (.mv (.t 6))⟩,
    ⟨none, .val 25 (.mv (.t 0))⟩,
    ⟨none, .val 26 (.mv (.t 4))⟩,
    ⟨none, .val 27 (.idxA 2 (.t 25) (.t 26))⟩,
    ⟨none, .val 28 (.fldR (.t 27) 0 1)⟩,
    ⟨none, .val 29 (.ldR (.t 28) 1 false)⟩,
    ⟨none, .val 30 (.len false (.t 29))⟩,
    ⟨none, .val 31 (.ints .lss (.t 24) (.t 30))⟩] false [.forget [24, 25, 26, 27, 28, 29, 30]]
abbrev ref_OwnList_r7 : HCode := .reg [⟨none, .val 34 (.mv (.t 0))⟩,
    ⟨none, .val 35 (.mv (.t 4))⟩,
    ⟨none, .val 36 (.idxA 2 (.t 34) (.t 35))⟩,
    ⟨none, .val 37 (.fldR (.t 36) 0 1)⟩,
    ⟨none, .val 38 (.ldR (.t 37) 1 false)⟩,
    ⟨none, .val 39 (.mv (.t 6))⟩,
    ⟨none, .val 40 (.idxA 2 (.t 38) (.t 39))⟩,
    ⟨none, .val 41 (.fldR (.t 40) 0 1)⟩,
    ⟨none, .val 42 (.ldR (.t 41) 1 false)⟩,
    ⟨none, .val 43 (.bld [.v (mkS []), .nl 6] [(0, 1, .t 42)])⟩,
    ⟨none, .alloc 7 1 93 [.v (mkS []), .nl 6]⟩,
    ⟨none, .sto (.t 7) 1 93 0 2 (.t 43)⟩] false [.forget [34, 35, 36, 37, 38, 39, 40, 41, 42, 43]]
abbrev ref_OwnList_r8 : HCode := .reg [⟨none, .val 8 (.mv (.c (iv 0)))⟩] false []
abbrev ref_OwnList_r9 : HCode := .reg [⟨none, .val 44 (.mv (.t 8))⟩,
    ⟨none, .val 45 (.mv (.t 0))⟩,
    ⟨none, .val 46 (.mv (.t 4))⟩,
    ⟨none, .val 47 (.idxA 2 (.t 45) (.t 46))⟩,
    ⟨none, .val 48 (.fldR (.t 47) 0 1)⟩,
    ⟨none, .val 49 (.ldR (.t 48) 1 false)⟩,
    ⟨none, .val 50 (.mv (.t 6))⟩,
    ⟨none, .val 51 (.idxA 2 (.t 49) (.t 50))⟩,
    ⟨none, .val 52 (.fldR (.t 51) 1 1)⟩,
    ⟨none, .val 53 (.ldR (.t 52) 1 false)⟩,
    ⟨none, .val 54 (.len false (.t 53))⟩,
    ⟨none, .val 55 (.ints .lss (.t 44) (.t 54))⟩] false [.forget [44, 45, 46, 47, 48, 49, 50, 51, 52, 53, 54]]
abbrev ref_OwnList_r10 : HCode := .reg [⟨none, .val 58 (.mv (.t 0))⟩,
    ⟨none, .val 59 (.mv (.t 4))⟩,
    ⟨none, .val 60 (.idxA 2 (.t 58) (.t 59))⟩,
    ⟨none, .val 61 (.fldR (.t 60) 0 1)⟩,
    ⟨none, .val 62 (.ldR (.t 61) 1 false)⟩,
    ⟨none, .val 63 (.mv (.t 6))⟩,
    ⟨none, .val 64 (.idxA 2 (.t 62) (.t 63))⟩,
    ⟨none, .val 65 (.fldR (.t 64) 1 1)⟩,
    ⟨none, .val 66 (.ldR (.t 65) 1 false)⟩,
    ⟨none, .val 67 (.mv (.t 8))⟩,
    ⟨none, .val 68 (.idxA 6 (.t 66) (.t 67))⟩,
    ⟨none, .val 69 (.ldR (.t 68) 6 true)⟩,
    ⟨none, .alloc 9 2 95 [.v (.int .i64 0), .v (mkS []), .v (mkS []), .v (.int .i64 0), .v (.int .i64 0), .nl 2]⟩,
    ⟨none, .sto (.t 9) 2 95 0 6 (.t 69)⟩] false [.forget [58, 59, 60, 61, 62, 63, 64, 65, 66, 67, 68, 69]]
abbrev ref_OwnList_r11 : HCode := .reg [⟨none, .val 70 (.fldP (.t 9) 5)⟩,
    ⟨none, .val 71 (.ldB (.t 70) 2 95 5 1 false)⟩,
    ⟨none, .call (some 72) fn_ref_OwnList [(.t 71, .v)]⟩,
    ⟨none, .val 73 (.fldP (.t 9) 5)⟩,
    ⟨none, .sto (.t 73) 2 95 5 1 (.t 72)⟩] false [.forget [70, 71, 72, 73]]
abbrev ref_OwnList_r12 : HCode := .reg [⟨none, .val 74 (.fldP (.t 7) 1)⟩,
    ⟨none, .ldo 75 (.t 74) 1 93 1 ty_api_Test 6⟩,
    ⟨none, .val 76 (.ldB (.t 9) 2 95 0 6 true)⟩,
    ⟨none, .val 77 (.bslF 6 [.t 76])⟩,
    ⟨none, .app 78 ty_api_Test 6 (.t 75) (.t 77)⟩,
    ⟨none, .val 79 (.fldP (.t 7) 1)⟩,
    ⟨none, .stw (.t 79) 1 93 1 78⟩] false [.forget [74, 75, 76, 77, 78, 79]]
abbrev ref_OwnList_r13 : HCode := .reg [⟨none, .val 56 (.mv (.t 8))⟩,
    ⟨none, .val 57 (.ints .add (.t 56) (.c (iv 1)))⟩,
    ⟨none, .val 8 (.mv (.t 57))⟩] false [.forget [56, 57]]
abbrev ref_OwnList_r14 : HCode := .reg [⟨none, .val 80 (.fldP (.t 5) 0)⟩,
    ⟨none, .ldo 81 (.t 80) 0 91 0 ty_api_Step 2⟩,
    ⟨none, .val 82 (.ldB (.t 7) 1 93 0 2 true)⟩,
    ⟨none, .val 83 (.bslF 2 [.t 82])⟩,
    ⟨none, .app 84 ty_api_Step 2 (.t 81) (.t 83)⟩,
    ⟨none, .val 85 (.fldP (.t 5) 0)⟩,
    ⟨none, .stw (.t 85) 0 91 0 84⟩] false [.forget [80, 81, 82, 83, 84, 85]]
abbrev ref_OwnList_r15 : HCode := .reg [⟨none, .val 32 (.mv (.t 6))⟩,
    ⟨none, .val 33 (.ints .add (.t 32) (.c (iv 1)))⟩,
    ⟨none, .val 6 (.mv (.t 33))⟩] false [.forget [32, 33]]
abbrev ref_OwnList_r16 : HCode := .reg [⟨none, .mvo 86 3⟩,
    ⟨none, .val 87 (.ldB (.t 5) 0 91 0 2 true)⟩,
    ⟨none, .val 88 (.bslF 2 [.t 87])⟩,
    ⟨none, .app 89 ty_api_Path 2 (.t 86) (.t 88)⟩,
    ⟨none, .mvo 3 89⟩] false [.forget [86, 87, 88, 89]]
abbrev ref_OwnList_r17 : HCode := .reg [⟨none, .val 14 (.mv (.t 4))⟩,
    ⟨none, .val 15 (.ints .add (.t 14) (.c (iv 1)))⟩,
    ⟨none, .val 4 (.mv (.t 15))⟩] false [.forget [14, 15]]
abbrev ref_OwnList_r18 : HCode := .reg [⟨none, .mvo 90 3⟩,
    ⟨none, .mvo 2 90⟩] false [.forget [90]]
abbrev ref_OwnList : HCode := (.seq ref_OwnList_r0 (.seq ref_OwnList_r1 (.seq (.seq ref_OwnList_r2 (.block 0 (.loop (.seq (.seq ref_OwnList_r3 (.cond (.t 13) .skip (.exit 0))) (.seq (.block 1 (.seq ref_OwnList_r4 (.seq (.seq ref_OwnList_r5 (.block 2 (.loop (.seq (.seq ref_OwnList_r6 (.cond (.t 31) .skip (.exit 2))) (.seq (.block 3 (.seq ref_OwnList_r7 (.seq (.seq ref_OwnList_r8 (.block 4 (.loop (.seq (.seq ref_OwnList_r9 (.cond (.t 55) .skip (.exit 4))) (.seq (.block 5 (.seq ref_OwnList_r10 (.seq ref_OwnList_r11 ref_OwnList_r12))) ref_OwnList_r13))))) ref_OwnList_r14))) ref_OwnList_r15))))) ref_OwnList_r16))) ref_OwnList_r17))))) (.seq ref_OwnList_r18 .ret))))
abbrev ref_OwnList_E : Env := { N := 91, Γ := [(91, 2), (93, 2), (95, 6)], L := 101, nfix := 0 }
abbrev ref_OwnList_R : List RSrc := [.tmp 2]
theorem mk_ref_OwnList {base : Nat} {av : List AV} {r : RV} (hfo : formOk ref_OwnList_E base av) (hW : AVs.fits av → hwp Tryd.prog ref_OwnList (finQ ref_OwnList_E base av ref_OwnList_R r) (F0 ref_OwnList_E base av)) (hov : ∀ x, r.res = .ov x → nOwn av = 0 := by intro x h; cases h <;> rfl) : Contract Tryd.prog fn_ref_OwnList av r :=
  contract_of_wp (fn := Tryd.f90) (c := Tryd.f90.body.getD .skip) (by kernel_rfl) (by kernel_rfl) (by kernel_rfl) (by kernel_rfl) (by kernel_rfl) (by kernel_rfl) (by kernel_rfl) hfo hW hov
abbrev ref_OwnListV_r0 : HCode := .reg [⟨none, .vnl 2 ty_api_Path 2⟩] false []
abbrev ref_OwnListV_r1 : HCode := .reg [⟨none, .vnl 3 ty_api_Path 2⟩] false []
abbrev ref_OwnListV_r2 : HCode := .reg [⟨none, .val 4 (.mv (.c (iv 0)))⟩] false []
abbrev ref_OwnListV_r3 : HCode := .reg [⟨none, .val 10 (.mv (.t 4))⟩,
    ⟨none, .val 11 (.mv (.t 0))⟩,
    ⟨none, .val 12 (.len false (.t 11))⟩,
    ⟨none, .val 13 (.ints .lss (.t 10) (.t 12))⟩] false [.forget [10, 11, 12]]
abbrev ref_OwnListV_r4 : HCode := .reg [⟨none, .bsl 16 ty_int 1 []⟩,
    ⟨none, .val 17 (.mv (.t 0))⟩,
    ⟨none, .val 18 (.mv (.t 4))⟩,
    ⟨none, .val 19 (.idxA 2 (.t 17) (.t 18))⟩,
    ⟨none, .val 20 (.fldR (.t 19) 1 1)⟩,
    ⟨none, .val 21 (.ldR (.t 20) 1 false)⟩,
    ⟨none, .app 22 ty_int 1 (.t 16) (.t 21)⟩,
    ⟨none, .val 23 (.bld [.nl 2, .nl 1] [(1, 1, .t 22)])⟩,
    ⟨none, .alloc 5 0 91 [.nl 2, .nl 1]⟩,
    ⟨none, .sto (.t 5) 0 91 0 2 (.t 23)⟩] false [.forget [16, 17, 18, 19, 20, 21, 22, 23]]
abbrev ref_OwnListV_r5 : HCode := .reg [⟨none, .val 6 (.mv (.c (iv 0)))⟩] false []
abbrev ref_OwnListV_r6 : HCode := .reg [⟨none, .val 24 (.mv (.t 6))⟩,
    ⟨none, .val 25 (.mv (.t 0))⟩,
    ⟨none, .val 26 (.mv (.t 4))⟩,
    ⟨none, .val 27 (.idxA 2 (.t 25) (.t 26))⟩,
    ⟨none, .val 28 (.fldR (.t 27) 0 1)⟩,
    ⟨none, .val 29 (.ldR (.t 28) 1 false)⟩,
    ⟨none, .val 30 (.len false (.t 29))⟩,
    ⟨none, .val 31 (.ints .lss (.t 24) (.t 30))⟩] false [.forget [24, 25, 26, 27, 28, 29, 30]]
abbrev ref_OwnListV_r7 : HCode := .reg [⟨none, .val 34 (.mv (.t 0))⟩,
    ⟨none, .val 35 (.mv (.t 4))⟩,
    ⟨none, .val 36 (.idxA 2 (.t 34) (.t 35))⟩,
    ⟨none, .val 37 (.fldR (.t 36) 0 1)⟩,
    ⟨none, .val 38 (.ldR (.t 37) 1 false)⟩,
    ⟨none, .val 39 (.mv (.t 6))⟩,
    ⟨none, .val 40 (.idxA 2 (.t 38) (.t 39))⟩,
    ⟨none, .val 41 (.fldR (.t 40) 0 1)⟩,
    ⟨none, .val 42 (.ldR (.t 41) 1 false)⟩,
    ⟨none, .val 43 (.bld [.v (mkS []), .nl 6] [(0, 1, .t 42)])⟩,
    ⟨none, .alloc 7 1 93 [.v (mkS []), .nl 6]⟩,
    ⟨none, .sto (.t 7) 1 93 0 2 (.t 43)⟩] false [.forget [34, 35, 36, 37, 38, 39, 40, 41, 42, 43]]
abbrev ref_OwnListV_r8 : HCode := .reg [⟨none, .val 8 (.mv (.c (iv 0)))⟩] false []
abbrev ref_OwnListV_r9 : HCode := .reg [⟨none, .val 44 (.mv (.t 8))⟩,
    ⟨none, .val 45 (.mv (.t 0))⟩,
    ⟨none, .val 46 (.mv (.t 4))⟩,
    ⟨none, .val 47 (.idxA 2 (.t 45) (.t 46))⟩,
    ⟨none, .val 48 (.fldR (.t 47) 0 1)⟩,
    ⟨none, .val 49 (.ldR (.t 48) 1 false)⟩,
    ⟨none, .val 50 (.mv (.t 6))⟩,
    ⟨none, .val 51 (.idxA 2 (.t 49) (.t 50))⟩,
    ⟨none, .val 52 (.fldR (.t 51) 1 1)⟩,
    ⟨none, .val 53 (.ldR (.t 52) 1 false)⟩,
    ⟨none, .val 54 (.len false (.t 53))⟩,
    ⟨none, .val 55 (.ints .lss (.t 44) (.t 54))⟩] false [.forget [44, 45, 46, 47, 48, 49, 50, 51, 52, 53, 54]]
abbrev ref_OwnListV_r10 : HCode := .reg [⟨none, .val 58 (.mv (.t 0))⟩,
    ⟨none, .val 59 (.mv (.t 4))⟩,
    ⟨none, .val 60 (.idxA 2 (.t 58) (.t 59))⟩,
    ⟨none, .val 61 (.fldR (.t 60) 0 1)⟩,
    ⟨none, .val 62 (.ldR (.t 61) 1 false)⟩,
    ⟨none, .val 63 (.mv (.t 6))⟩,
    ⟨none, .val 64 (.idxA 2 (.t 62) (.t 63))⟩,
    ⟨none, .val 65 (.fldR (.t 64) 1 1)⟩,
    ⟨none, .val 66 (.ldR (.t 65) 1 false)⟩,
    ⟨none, .val 67 (.mv (.t 8))⟩,
    ⟨none, .val 68 (.idxA 6 (.t 66) (.t 67))⟩,
    ⟨none, .val 69 (.ldR (.t 68) 6 true)⟩,
    ⟨none, .alloc 9 2 95 [.v (.int .i64 0), .v (mkS []), .v (mkS []), .v (.int .i64 0), .v (.int .i64 0), .nl 2]⟩,
    ⟨none, .sto (.t 9) 2 95 0 6 (.t 69)⟩] false [.forget [58, 59, 60, 61, 62, 63, 64, 65, 66, 67, 68, 69]]
abbrev ref_OwnListV_r11 : HCode := .reg [⟨none, .val 70 (.fldP (.t 9) 5)⟩,
    ⟨none, .val 71 (.ldB (.t 70) 2 95 5 1 false)⟩,
    ⟨none, .call (some 72) fn_ref_OwnList [(.t 71, .v)]⟩,
    ⟨none, .val 73 (.fldP (.t 9) 5)⟩,
    ⟨none, .sto (.t 73) 2 95 5 1 (.t 72)⟩] false [.forget [70, 71, 72, 73]]
abbrev ref_OwnListV_r12 : HCode := .reg [⟨none, .val 74 (.fldP (.t 7) 1)⟩,
    ⟨none, .vld 75 (.t 74) 1 93 1 1 false⟩,
    ⟨none, .val 76 (.ldB (.t 9) 2 95 0 6 true)⟩,
    ⟨none, .val 77 (.bslF 6 [.t 76])⟩,
    ⟨none, .vap 78 ty_api_Test 6 75 (.t 77)⟩,
    ⟨none, .val 79 (.fldP (.t 7) 1)⟩,
    ⟨none, .vst (.t 79) 1 93 1 1 78⟩] false [.forget [74, 75, 76, 77, 78, 79]]
abbrev ref_OwnListV_r13 : HCode := .reg [⟨none, .val 56 (.mv (.t 8))⟩,
    ⟨none, .val 57 (.ints .add (.t 56) (.c (iv 1)))⟩,
    ⟨none, .val 8 (.mv (.t 57))⟩] false [.forget [56, 57]]
abbrev ref_OwnListV_r14 : HCode := .reg [⟨none, .val 80 (.fldP (.t 5) 0)⟩,
    ⟨none, .vld 81 (.t 80) 0 91 0 1 false⟩,
    ⟨none, .vld 82 (.t 7) 1 93 0 2 true⟩,
    ⟨none, .vbs 83 ty_api_Step 2 82⟩,
    ⟨none, .vap 84 ty_api_Step 2 81 (.t 83)⟩,
    ⟨none, .val 85 (.fldP (.t 5) 0)⟩,
    ⟨none, .vst (.t 85) 0 91 0 1 84⟩] false [.forget [80, 81, 82, 83, 84, 85]]
abbrev ref_OwnListV_r15 : HCode := .reg [⟨none, .val 32 (.mv (.t 6))⟩,
    ⟨none, .val 33 (.ints .add (.t 32) (.c (iv 1)))⟩,
    ⟨none, .val 6 (.mv (.t 33))⟩] false [.forget [32, 33]]
abbrev ref_OwnListV_r16 : HCode := .reg [⟨none, .vmv 86 3⟩,
    ⟨none, .vld 87 (.t 5) 0 91 0 2 true⟩,
    ⟨none, .vbs 88 ty_api_Path 2 87⟩,
    ⟨none, .vap 89 ty_api_Path 2 86 (.t 88)⟩,
    ⟨none, .vmv 3 89⟩] false [.forget [86, 87, 88, 89]]
abbrev ref_OwnListV_r17 : HCode := .reg [⟨none, .val 14 (.mv (.t 4))⟩,
    ⟨none, .val 15 (.ints .add (.t 14) (.c (iv 1)))⟩,
    ⟨none, .val 4 (.mv (.t 15))⟩] false [.forget [14, 15]]
abbrev ref_OwnListV_r18 : HCode := .reg [⟨none, .vmv 90 3⟩,
    ⟨none, .vmv 2 90⟩] false [.forget [90]]
abbrev ref_OwnListV : HCode := (.seq ref_OwnListV_r0 (.seq ref_OwnListV_r1 (.seq (.seq ref_OwnListV_r2 (.block 0 (.loop (.seq (.seq ref_OwnListV_r3 (.cond (.t 13) .skip (.exit 0))) (.seq (.block 1 (.seq ref_OwnListV_r4 (.seq (.seq ref_OwnListV_r5 (.block 2 (.loop (.seq (.seq ref_OwnListV_r6 (.cond (.t 31) .skip (.exit 2))) (.seq (.block 3 (.seq ref_OwnListV_r7 (.seq (.seq ref_OwnListV_r8 (.block 4 (.loop (.seq (.seq ref_OwnListV_r9 (.cond (.t 55) .skip (.exit 4))) (.seq (.block 5 (.seq ref_OwnListV_r10 (.seq ref_OwnListV_r11 ref_OwnListV_r12))) ref_OwnListV_r13))))) ref_OwnListV_r14))) ref_OwnListV_r15))))) ref_OwnListV_r16))) ref_OwnListV_r17))))) (.seq ref_OwnListV_r18 .ret))))
abbrev ref_OwnListV_E : Env := { N := 91, Γ := [(91, 2), (93, 2), (95, 6)], L := 101, nfix := 0 }
abbrev ref_OwnListV_R : List RSrc := [.tmp 2]
theorem mk_ref_OwnListV {base : Nat} {av : List AV} {r : RV} (hfo : formOk ref_OwnListV_E base av) (hW : AVs.fits av → hwp Tryd.prog ref_OwnListV (finQ ref_OwnListV_E base av ref_OwnListV_R r) (F0 ref_OwnListV_E base av)) (hov : ∀ x, r.res = .ov x → nOwn av = 0 := by intro x h; cases h <;> rfl) : Contract Tryd.prog fn_ref_OwnList av r :=
  contract_of_wp (fn := Tryd.f90) (c := Tryd.f90.body.getD .skip) (by kernel_rfl) (by kernel_rfl) (by kernel_rfl) (by kernel_rfl) (by kernel_rfl) (by kernel_rfl) (by kernel_rfl) hfo hW hov
abbrev law_one_r0 : HCode := .reg [⟨none, .val 1 (.boxF (.t 0))⟩,
    ⟨none, .val 2 (.mv (.c (.one (.nl 2))))⟩] false []
abbrev law_one_r1 : HCode := .reg [⟨none, .val 3 (.ldR (.t 1) 6 true)⟩,
    ⟨none, .val 4 (.bslF 6 [.t 3])⟩,
    ⟨none, .val 5 (.bld [.v (mkS []), .nl 6] [(1, 1, .t 4)])⟩,
    ⟨none, .val 6 (.bslF 2 [.t 5])⟩,
    ⟨none, .val 7 (.bld [.nl 2, .nl 1] [(0, 1, .t 6)])⟩,
    ⟨none, .val 8 (.bslF 2 [.t 7])⟩,
    ⟨none, .val 2 (.mv (.t 8))⟩] false [.forget [3, 4, 5, 6, 7, 8]]
abbrev law_one : HCode := (.seq law_one_r0 (.seq law_one_r1 .ret))
abbrev law_one_E : Env := { N := 9, Γ := [], L := 9, nfix := 0 }
abbrev law_one_R : List RSrc := [.tmp 2]
theorem mk_law_one {base : Nat} {av : List AV} {r : RV} (hfo : formOk law_one_E base av) (hW : AVs.fits av → hwp Tryd.prog law_one (finQ law_one_E base av law_one_R r) (F0 law_one_E base av)) (hov : ∀ x, r.res = .ov x → nOwn av = 0 := by intro x h; cases h <;> rfl) : Contract Tryd.prog fn_law_one av r :=
  contract_of_wp (fn := Tryd.f134) (c := Tryd.f134.body.getD .skip) (by kernel_rfl) (by kernel_rfl) (by kernel_rfl) (by kernel_rfl) (by kernel_rfl) (by kernel_rfl) (by kernel_rfl) hfo hW hov
abbrev law_twice_r0 : HCode := .reg [⟨none, .val 0 (.mv (.c (.one (.nl 2))))⟩] false []
abbrev law_twice_r1 : HCode := .reg [⟨none, .val 1 (.bld [.v (.int .i64 0), .v (mkS []), .v (mkS []), .v (.int .i64 0), .v (.int .i64 0), .nl 2] [(0, 1, .c (iv 11))])⟩,
    ⟨none, .val 2 (.bslF 6 [.t 1])⟩,
    ⟨none, .val 3 (.bld [.v (mkS []), .nl 6] [(0, 1, .c (sv [120])), (1, 1, .t 2)])⟩,
    ⟨none, .val 4 (.bslF 2 [.t 3])⟩,
    ⟨none, .val 5 (.bld [.nl 2, .nl 1] [(0, 1, .t 4)])⟩,
    ⟨none, .val 6 (.bslF 2 [.t 5])⟩,
    ⟨none, .val 7 (.bld [.v (.int .i64 0), .v (mkS []), .v (mkS []), .v (.int .i64 0), .v (.int .i64 0), .nl 2] [(0, 1, .c (iv 13)), (5, 1, .t 6)])⟩,
    ⟨none, .call (some 8) fn_law_one [(.t 7, .v)]⟩,
    ⟨none, .val 9 (.bld [.v (.int .i64 0), .v (mkS []), .v (mkS []), .v (.int .i64 0), .v (.int .i64 0), .nl 2] [(0, 1, .c (iv 13)), (5, 1, .t 8)])⟩,
    ⟨none, .call (some 10) fn_law_one [(.t 9, .v)]⟩,
    ⟨none, .val 0 (.mv (.t 10))⟩] false [.forget [1, 2, 3, 4, 5, 6, 7, 8, 9, 10]]
abbrev law_twice : HCode := (.seq law_twice_r0 (.seq law_twice_r1 .ret))
abbrev law_twice_E : Env := { N := 11, Γ := [], L := 11, nfix := 0 }
abbrev law_twice_R : List RSrc := [.tmp 0]
theorem mk_law_twice {base : Nat} {av : List AV} {r : RV} (hfo : formOk law_twice_E base av) (hW : AVs.fits av → hwp Tryd.prog law_twice (finQ law_twice_E base av law_twice_R r) (F0 law_twice_E base av)) (hov : ∀ x, r.res = .ov x → nOwn av = 0 := by intro x h; cases h <;> rfl) : Contract Tryd.prog fn_law_twice av r :=
  contract_of_wp (fn := Tryd.f93) (c := Tryd.f93.body.getD .skip) (by kernel_rfl) (by kernel_rfl) (by kernel_rfl) (by kernel_rfl) (by kernel_rfl) (by kernel_rfl) (by kernel_rfl) hfo hW hov
abbrev law_plainBegun_r0 : HCode := .reg [⟨none, .val 0 (.mv (.c (bv false)))⟩] false []
abbrev law_plainBegun_r1 : HCode := .reg [⟨none, .call (some 8) fn_law_twice []⟩,
    ⟨none, .call (some 9) fn_plain_Plain [(.t 8, .v)]⟩,
    ⟨none, .val 7 (.mv (.t 9))⟩,
    ⟨none, .val 10 (.ext 7 0)⟩,
    ⟨none, .val 11 (.ext 7 1)⟩,
    ⟨none, .val 1 (.mv (.t 10))⟩,
    ⟨none, .val 2 (.mv (.t 11))⟩] false [.forget [7, 8, 9, 10, 11]]
abbrev law_plainBegun_r2 : HCode := .reg [⟨none, .call (some 13) fn_law_twice []⟩,
    ⟨none, .call (some 14) fn_plain_Once [(.t 13, .v)]⟩,
    ⟨none, .val 12 (.mv (.t 14))⟩,
    ⟨none, .val 15 (.ext 12 0)⟩,
    ⟨none, .val 16 (.ext 12 1)⟩,
    ⟨none, .val 3 (.mv (.t 15))⟩,
    ⟨none, .val 4 (.mv (.t 16))⟩] false [.forget [12, 13, 14, 15, 16]]
abbrev law_plainBegun_r3 : HCode := .reg [⟨none, .call (some 18) fn_law_twice []⟩,
    ⟨none, .call (some 19) fn_plain_Size [(.t 18, .v)]⟩,
    ⟨none, .val 17 (.mv (.t 19))⟩,
    ⟨none, .val 20 (.ext 17 0)⟩,
    ⟨none, .val 21 (.ext 17 1)⟩,
    ⟨none, .val 5 (.mv (.t 20))⟩,
    ⟨none, .val 6 (.mv (.t 21))⟩] false [.forget [17, 18, 19, 20, 21]]
abbrev law_plainBegun_r4 : HCode := .reg [⟨none, .val 22 (.mv (.t 2))⟩,
    ⟨none, .val 23 (.ints .eql (.t 22) (.c (iv 0)))⟩,
    ⟨none, .val 24 (.mv (.t 23))⟩,
    ⟨some (24, true), .val 25 (.mv (.t 4))⟩,
    ⟨some (24, true), .val 26 (.ints .eql (.t 25) (.c (iv 0)))⟩,
    ⟨none, .val 27 (.pick (.t 24) (.t 26) (.c (bv false)))⟩,
    ⟨none, .val 28 (.mv (.t 27))⟩,
    ⟨some (28, true), .val 29 (.mv (.t 6))⟩,
    ⟨some (28, true), .val 30 (.ints .eql (.t 29) (.c (iv 0)))⟩,
    ⟨none, .val 31 (.pick (.t 28) (.t 30) (.c (bv false)))⟩,
    ⟨none, .val 32 (.mv (.t 31))⟩,
    ⟨some (32, true), .val 33 (.mv (.t 5))⟩,
    ⟨some (32, true), .val 34 (.ints .eql (.t 33) (.c (iv 6)))⟩,
    ⟨none, .val 35 (.pick (.t 32) (.t 34) (.c (bv false)))⟩,
    ⟨none, .val 36 (.mv (.t 35))⟩,
    ⟨some (36, true), .val 37 (.mv (.t 1))⟩,
    ⟨some (36, true), .val 38 (.bld [.v (.int .i64 0), .v (mkS []), .v (mkS []), .v (.int .i64 0), .v (.int .i64 0), .nl 2] [(0, 1, .c (iv 11))])⟩,
    ⟨some (36, true), .val 39 (.bslF 6 [.t 38])⟩,
    ⟨some (36, true), .val 40 (.bld [.v (mkS []), .nl 6] [(0, 1, .c (sv [120])), (1, 1, .t 39)])⟩,
    ⟨some (36, true), .val 41 (.bslF 2 [.t 40])⟩,
    ⟨some (36, true), .val 42 (.bld [.nl 2, .nl 1] [(0, 1, .t 41)])⟩,
    ⟨some (36, true), .val 43 (.bslF 2 [.t 42])⟩,
    ⟨some (36, true), .call (some 44) fn_ref_SameLists [(.t 37, .v), (.t 43, .v)]⟩,
    ⟨none, .val 45 (.pick (.t 36) (.t 44) (.c (bv false)))⟩,
    ⟨none, .val 46 (.mv (.t 45))⟩,
    ⟨some (46, true), .val 47 (.mv (.t 3))⟩,
    ⟨some (46, true), .val 48 (.len false (.t 47))⟩,
    ⟨some (46, true), .val 49 (.ints .eql (.t 48) (.c (iv 1)))⟩,
    ⟨none, .val 50 (.pick (.t 46) (.t 49) (.c (bv false)))⟩,
    ⟨none, .val 51 (.mv (.t 50))⟩,
    ⟨some (51, true), .val 52 (.mv (.t 3))⟩,
    ⟨some (51, true), .val 53 (.idxA 2 (.t 52) (.c (iv 0)))⟩,
    ⟨some (51, true), .val 54 (.fldR (.t 53) 0 1)⟩,
    ⟨some (51, true), .val 55 (.ldR (.t 54) 1 false)⟩,
    ⟨some (51, true), .val 56 (.len false (.t 55))⟩,
    ⟨some (51, true), .val 57 (.ints .eql (.t 56) (.c (iv 1)))⟩,
    ⟨none, .val 58 (.pick (.t 51) (.t 57) (.c (bv false)))⟩,
    ⟨none, .val 59 (.mv (.t 58))⟩,
    ⟨some (59, true), .val 60 (.mv (.t 3))⟩,
    ⟨some (59, true), .val 61 (.idxA 2 (.t 60) (.c (iv 0)))⟩,
    ⟨some (59, true), .val 62 (.fldR (.t 61) 0 1)⟩,
    ⟨some (59, true), .val 63 (.ldR (.t 62) 1 false)⟩,
    ⟨some (59, true), .val 64 (.idxA 2 (.t 63) (.c (iv 0)))⟩,
    ⟨some (59, true), .val 65 (.fldR (.t 64) 1 1)⟩,
    ⟨some (59, true), .val 66 (.ldR (.t 65) 1 false)⟩,
    ⟨some (59, true), .val 67 (.len false (.t 66))⟩,
    ⟨some (59, true), .val 68 (.ints .eql (.t 67) (.c (iv 1)))⟩,
    ⟨none, .val 69 (.pick (.t 59) (.t 68) (.c (bv false)))⟩,
    ⟨none, .val 70 (.mv (.t 69))⟩,
    ⟨some (70, true), .val 71 (.mv (.t 3))⟩,
    ⟨some (70, true), .val 72 (.idxA 2 (.t 71) (.c (iv 0)))⟩,
    ⟨some (70, true), .val 73 (.fldR (.t 72) 0 1)⟩,
    ⟨some (70, true), .val 74 (.ldR (.t 73) 1 false)⟩,
    ⟨some (70, true), .val 75 (.idxA 2 (.t 74) (.c (iv 0)))⟩,
    ⟨some (70, true), .val 76 (.fldR (.t 75) 1 1)⟩,
    ⟨some (70, true), .val 77 (.ldR (.t 76) 1 false)⟩,
    ⟨some (70, true), .val 78 (.idxA 6 (.t 77) (.c (iv 0)))⟩,
    ⟨some (70, true), .val 79 (.fldR (.t 78) 0 1)⟩,
    ⟨some (70, true), .val 80 (.ldR (.t 79) 1 false)⟩,
    ⟨some (70, true), .val 81 (.ints .eql (.t 80) (.c (iv 14)))⟩,
    ⟨none, .val 82 (.pick (.t 70) (.t 81) (.c (bv false)))⟩,
    ⟨none, .val 0 (.mv (.t 82))⟩] false [.forget [22, 23, 24, 25, 26, 27, 28, 29, 30, 31, 32, 33, 34, 35, 36, 37, 38, 39, 40, 41, 42, 43, 44, 45, 46, 47, 48, 49, 50, 51, 52, 53, 54, 55, 56, 57, 58, 59, 60, 61, 62, 63, 64, 65, 66, 67, 68, 69, 70, 71, 72, 73, 74, 75, 76, 77, 78, 79, 80, 81, 82]]
abbrev law_plainBegun : HCode := (.seq law_plainBegun_r0 (.seq law_plainBegun_r1 (.seq law_plainBegun_r2 (.seq law_plainBegun_r3 (.seq law_plainBegun_r4 .ret)))))
abbrev law_plainBegun_E : Env := { N := 83, Γ := [], L := 83, nfix := 0 }
abbrev law_plainBegun_R : List RSrc := [.tmp 0]
theorem mk_law_plainBegun {base : Nat} {av : List AV} {r : RV} (hfo : formOk law_plainBegun_E base av) (hW : AVs.fits av → hwp Tryd.prog law_plainBegun (finQ law_plainBegun_E base av law_plainBegun_R r) (F0 law_plainBegun_E base av)) (hov : ∀ x, r.res = .ov x → nOwn av = 0 := by intro x h; cases h <;> rfl) : Contract Tryd.prog fn_law_plainBegun av r :=
  contract_of_wp (fn := Tryd.f37) (c := Tryd.f37.body.getD .skip) (by kernel_rfl) (by kernel_rfl) (by kernel_rfl) (by kernel_rfl) (by kernel_rfl) (by kernel_rfl) (by kernel_rfl) hfo hW hov
abbrev law_PlainTells_r0 : HCode := .reg [⟨none, .val 2 (.mv (.c (bv false)))⟩] false []
abbrev law_PlainTells_r1 : HCode := .reg [⟨none, .val 14 (.mv (.t 0))⟩,
    ⟨none, .call (some 15) fn_plain_Size [(.t 14, .v)]⟩,
    ⟨none, .val 13 (.mv (.t 15))⟩,
    ⟨none, .val 16 (.ext 13 0)⟩,
    ⟨none, .val 17 (.ext 13 1)⟩,
    ⟨none, .val 3 (.mv (.t 16))⟩,
    ⟨none, .val 4 (.mv (.t 17))⟩] false [.forget [13, 14, 15, 16, 17]]
abbrev law_PlainTells_r2 : HCode := .reg [⟨none, .val 19 (.mv (.t 0))⟩,
    ⟨none, .call (some 20) fn_plain_Once [(.t 19, .v)]⟩,
    ⟨none, .val 18 (.mv (.t 20))⟩,
    ⟨none, .val 21 (.ext 18 0)⟩,
    ⟨none, .val 22 (.ext 18 1)⟩,
    ⟨none, .val 5 (.mv (.t 21))⟩,
    ⟨none, .val 6 (.mv (.t 22))⟩] false [.forget [18, 19, 20, 21, 22]]
abbrev law_PlainTells_r3 : HCode := .reg [⟨none, .val 24 (.mv (.t 0))⟩,
    ⟨none, .call (some 25) fn_plain_Plain [(.t 24, .v)]⟩,
    ⟨none, .val 23 (.mv (.t 25))⟩,
    ⟨none, .val 26 (.ext 23 0)⟩,
    ⟨none, .val 27 (.ext 23 1)⟩,
    ⟨none, .val 7 (.mv (.t 26))⟩,
    ⟨none, .val 8 (.mv (.t 27))⟩] false [.forget [23, 24, 25, 26, 27]]
abbrev law_PlainTells_r4 : HCode := .reg [⟨none, .val 28 (.mv (.t 0))⟩,
    ⟨none, .call (some 29) fn_ref_CheckList [(.t 28, .v)]⟩,
    ⟨none, .val 9 (.mv (.t 29))⟩] false [.forget [28, 29]]
abbrev law_PlainTells_r5 : HCode := .reg [⟨none, .val 10 (.mv (.c (iv 0)))⟩] false []
abbrev law_PlainTells_r6 : HCode := .reg [⟨none, .val 11 (.mv (.c (.one (.nl 2))))⟩,
    ⟨none, .val 12 (.mv (.c (.one (.nl 2))))⟩] false []
abbrev law_PlainTells_r7 : HCode := .reg [⟨none, .val 30 (.mv (.t 9))⟩,
    ⟨none, .val 31 (.ints .eql (.t 30) (.c (iv 0)))⟩] false [.forget [30]]
abbrev law_PlainTells_r8 : HCode := .reg [⟨none, .val 32 (.mv (.t 0))⟩,
    ⟨none, .call (some 33) fn_ref_SizeOf [(.t 32, .v)]⟩,
    ⟨none, .val 34 (.mv (.t 0))⟩,
    ⟨none, .call (some 35) fn_ref_OnceOf [(.t 34, .v)]⟩,
    ⟨none, .val 36 (.mv (.t 0))⟩,
    ⟨none, .call (some 37) fn_ref_PlainOf [(.t 36, .v)]⟩,
    ⟨none, .val 10 (.mv (.t 33))⟩,
    ⟨none, .val 11 (.mv (.t 35))⟩,
    ⟨none, .val 12 (.mv (.t 37))⟩] false [.forget [32, 33, 34, 35, 36, 37]]
abbrev law_PlainTells_r9 : HCode := .reg [⟨none, .call (some 38) fn_law_plainBegun []⟩,
    ⟨none, .val 39 (.mv (.t 38))⟩,
    ⟨some (39, true), .val 40 (.mv (.t 4))⟩,
    ⟨some (39, true), .val 41 (.mv (.t 9))⟩,
    ⟨some (39, true), .val 42 (.ints .eql (.t 40) (.t 41))⟩,
    ⟨none, .val 43 (.pick (.t 39) (.t 42) (.c (bv false)))⟩,
    ⟨none, .val 44 (.mv (.t 43))⟩,
    ⟨some (44, true), .val 45 (.mv (.t 6))⟩,
    ⟨some (44, true), .val 46 (.mv (.t 9))⟩,
    ⟨some (44, true), .val 47 (.ints .eql (.t 45) (.t 46))⟩,
    ⟨none, .val 48 (.pick (.t 44) (.t 47) (.c (bv false)))⟩,
    ⟨none, .val 49 (.mv (.t 48))⟩,
    ⟨some (49, true), .val 50 (.mv (.t 8))⟩,
    ⟨some (49, true), .val 51 (.mv (.t 9))⟩,
    ⟨some (49, true), .val 52 (.ints .eql (.t 50) (.t 51))⟩,
    ⟨none, .val 53 (.pick (.t 49) (.t 52) (.c (bv false)))⟩,
    ⟨none, .val 54 (.mv (.t 53))⟩,
    ⟨some (54, true), .val 55 (.mv (.t 3))⟩,
    ⟨some (54, true), .val 56 (.mv (.t 10))⟩,
    ⟨some (54, true), .val 57 (.ints .eql (.t 55) (.t 56))⟩,
    ⟨none, .val 58 (.pick (.t 54) (.t 57) (.c (bv false)))⟩,
    ⟨none, .val 59 (.mv (.t 58))⟩,
    ⟨some (59, true), .val 60 (.mv (.t 5))⟩,
    ⟨some (59, true), .val 61 (.mv (.t 11))⟩,
    ⟨some (59, true), .call (some 62) fn_ref_SameLists [(.t 60, .v), (.t 61, .v)]⟩,
    ⟨none, .val 63 (.pick (.t 59) (.t 62) (.c (bv false)))⟩,
    ⟨none, .val 64 (.mv (.t 63))⟩,
    ⟨some (64, true), .val 65 (.mv (.t 7))⟩,
    ⟨some (64, true), .val 66 (.mv (.t 12))⟩,
    ⟨some (64, true), .call (some 67) fn_ref_SameLists [(.t 65, .v), (.t 66, .v)]⟩,
    ⟨none, .val 68 (.pick (.t 64) (.t 67) (.c (bv false)))⟩,
    ⟨none, .val 2 (.mv (.t 68))⟩] false [.forget [38, 39, 40, 41, 42, 43, 44, 45, 46, 47, 48, 49, 50, 51, 52, 53, 54, 55, 56, 57, 58, 59, 60, 61, 62, 63, 64, 65, 66, 67, 68]]
abbrev law_PlainTells : HCode := (.seq law_PlainTells_r0 (.seq law_PlainTells_r1 (.seq law_PlainTells_r2 (.seq law_PlainTells_r3 (.seq law_PlainTells_r4 (.seq law_PlainTells_r5 (.seq law_PlainTells_r6 (.seq (.seq law_PlainTells_r7 (.cond (.t 31) law_PlainTells_r8 .skip)) (.seq law_PlainTells_r9 .ret)))))))))
abbrev law_PlainTells_E : Env := { N := 69, Γ := [], L := 69, nfix := 0 }
abbrev law_PlainTells_R : List RSrc := [.tmp 2]
theorem mk_law_PlainTells {base : Nat} {av : List AV} {r : RV} (hfo : formOk law_PlainTells_E base av) (hW : AVs.fits av → hwp Tryd.prog law_PlainTells (finQ law_PlainTells_E base av law_PlainTells_R r) (F0 law_PlainTells_E base av)) (hov : ∀ x, r.res = .ov x → nOwn av = 0 := by intro x h; cases h <;> rfl) : Contract Tryd.prog fn_law_PlainTells av r :=
  contract_of_wp (fn := Tryd.f7) (c := Tryd.f7.body.getD .skip) (by kernel_rfl) (by kernel_rfl) (by kernel_rfl) (by kernel_rfl) (by kernel_rfl) (by kernel_rfl) (by kernel_rfl) hfo hW hov
end Go.Hx
end

section
set_option maxRecDepth 100000
set_option linter.unusedSimpArgs false
namespace Go.Hx
open Go.Proofs
variable [Glob]

attribute [local go_sem] ndsV_len clsV_len attV_len intsR_len ndV cellsEq
theorem c_ref_SameInts (a b : List Int) : Contract Tryd.prog fn_ref_SameInts [.val (.one (.sl 1 (intsR a))), .val (.one (.sl 1 (intsR b)))] { res := .val (bv (decide (a = b))) } := by
  refine mk_ref_SameInts (base := 0) ⟨Nat.le_of_ble_eq_true rfl, Nat.le_of_ble_eq_true rfl, Nat.le_of_ble_eq_true rfl, rfl⟩ (fun hfit => ?_)
  unfold F0 ref_SameInts_E
  simp (config := { maxSteps := 2000000 }) only [markU, List.set_cons_succ, List.set_cons_zero, List.map_cons, List.map_nil, argCt, setCells, ioOf, List.length_cons, List.length_nil, Nat.reduceAdd, Nat.reduceSub, List.replicate, List.cons_append, List.nil_append]
  try simp (config := { maxSteps := 2000000 }) only [go_sem, reduceCtorEq, Nat.reduceAdd, Nat.reduceEqDiff, reduceIte, Nat.reduceLeDiff, Nat.reduceLT, Nat.reduceSub]
  all_goals (repeat (with_reducible refine sAnd ?_))
  have hm := fits_sl (k := 1) hfit.1
  rw [intsR_len] at hm
  refine cond_of (by rfl) trivial (fun h => ?_) (fun h => ?_)
  · try simp (config := { maxSteps := 2000000 }) only [go_sem, reduceCtorEq, Nat.reduceAdd, Nat.reduceEqDiff, reduceIte, Nat.reduceLeDiff, Nat.reduceLT, Nat.reduceSub]
    all_goals (repeat (with_reducible refine sAnd ?_))
    refine fin_val rfl trivial (.inl ?_)
    congr 3
    simp [intsR_len] at h
    exact decide_eq_false (fun e => h (by subst e; rfl))
  have hl : a.length = b.length := by simp [intsR_len] at h; omega
  try simp (config := { maxSteps := 2000000 }) only [go_sem, reduceCtorEq, Nat.reduceAdd, Nat.reduceEqDiff, reduceIte, Nat.reduceLeDiff, Nat.reduceLT, Nat.reduceSub]
  all_goals (repeat (with_reducible refine sAnd ?_))
  refine loop_sets (fun i : Nat => [(5, .pv (iv i)), (14, .un), (25, .un)]) (fun i => a.length - i) (fun i => i ≤ a.length ∧ a.take i = b.take i) 0 ?_ ⟨Nat.zero_le _, rfl⟩ ?_
  · simp (config := { maxSteps := 2000000 }) only [go_sem, reduceCtorEq, Nat.reduceAdd, Nat.reduceEqDiff, reduceIte, Nat.reduceLeDiff, Nat.reduceLT, Nat.reduceSub, le_cons, le_nil, le_un, le_same]
  intro i ⟨hi, heq⟩
  try simp (config := { maxSteps := 2000000 }) only [go_sem, reduceCtorEq, Nat.reduceAdd, Nat.reduceEqDiff, reduceIte, Nat.reduceLeDiff, Nat.reduceLT, Nat.reduceSub, intsR_len]
  all_goals (repeat (with_reducible refine sAnd ?_))
  refine cond_of (by rfl) trivial (fun h2 => ?_) (fun h2 => ?_)
  · have hlt : i < a.length := by simpa using h2
    have hltb : i < b.length := by omega
    try simp (config := { maxSteps := 2000000 }) only [go_sem, reduceCtorEq, Nat.reduceAdd, Nat.reduceEqDiff, reduceIte, Nat.reduceLeDiff, Nat.reduceLT, Nat.reduceSub, intsR_get _ _ hlt, intsR_get _ _ hltb, intsR_len]
    all_goals (repeat (with_reducible refine sAnd ?_))
    refine cond_of (by rfl) trivial (fun h3 => ?_) (fun h3 => ?_)
    · try simp (config := { maxSteps := 2000000 }) only [go_sem, reduceCtorEq, Nat.reduceAdd, Nat.reduceEqDiff, reduceIte, Nat.reduceLeDiff, Nat.reduceLT, Nat.reduceSub]
      all_goals (repeat (with_reducible refine sAnd ?_))
      refine fin_val rfl trivial (.inl ?_)
      congr 3
      simp only [bne_iff_ne, ne_eq] at h3
      exact (decide_eq_false (ne_of_getD 0 h3))
    · try simp (config := { maxSteps := 2000000 }) only [go_sem, reduceCtorEq, Nat.reduceAdd, Nat.reduceEqDiff, reduceIte, Nat.reduceLeDiff, Nat.reduceLT, Nat.reduceSub]
      all_goals (repeat (with_reducible refine sAnd ?_))
      refine ⟨i + 1, by omega, ⟨hlt, take_eq_succ 0 heq hlt hltb ?_⟩, ?_⟩
      · simpa only [bne_eq_false_iff_eq] using h3
      · simp (config := { maxSteps := 2000000 }) only [go_sem, reduceCtorEq, Nat.reduceAdd, Nat.reduceEqDiff, reduceIte, Nat.reduceLeDiff, Nat.reduceLT, Nat.reduceSub, le_cons, le_nil, le_un, le_same]
        exact le_int (by omega)
  · try simp (config := { maxSteps := 2000000 }) only [go_sem, reduceCtorEq, Nat.reduceAdd, Nat.reduceEqDiff, reduceIte, Nat.reduceLeDiff, Nat.reduceLT, Nat.reduceSub]
    all_goals (repeat (with_reducible refine sAnd ?_))
    refine fin_val rfl trivial (.inl ?_)
    congr 3
    have hi2 : i = a.length := by simp at h2; omega
    subst hi2
    exact decide_eq_true (eq_of_take hl heq)

end Go.Hx
end
