/-
  The abstract code of functions of the program, printed by gen.py; each stands for the given one. No condition.
-/
import Derived.Test.YtjnagiaooecklaaDoorProg
import Derived.Test.YtjnagiaooecklaaDoorHxM
set_option linter.all false
namespace Go.Hx
open Go.Proofs
variable [Glob]
abbrev fn_law_NthTells : Nat := 10
abbrev fn_law_NthTrue : Nat := 11
abbrev fn_law_choose : Nat := 53
abbrev fn_law_nthBegun : Nat := 49
abbrev fn_nth_Check : Nat := 50
abbrev fn_nth_Holds : Nat := 51
abbrev fn_nth_Read : Nat := 47
abbrev fn_nth_Show : Nat := 44
abbrev fn_ref_CheckNth : Nat := 45
abbrev fn_ref_Digits : Nat := 104
abbrev fn_ref_NthFrom : Nat := 48
abbrev fn_ref_NthHolds : Nat := 52
abbrev fn_ref_NthText : Nat := 46
abbrev fn_ref_reader_nth : Nat := 107
abbrev fn_ref_reader_number : Nat := 146
abbrev fn_ref_reader_sign : Nat := 140
abbrev fn_ref_within : Nat := 65
abbrev fn_strconv_Atoi : Nat := 106
abbrev fn_strconv_Itoa : Nat := 103
abbrev fn_strings_Cut : Nat := 105
abbrev ref_within_r0 : HCode := .reg [⟨none, .val 6 (.mv (.c (bv false)))⟩] false []
abbrev ref_within_r1 : HCode := .reg [⟨none, .val 7 (.mv (.t 0))⟩,
    ⟨none, .val 8 (.mv (.t 1))⟩,
    ⟨none, .val 9 (.ints .geq (.t 7) (.t 8))⟩,
    ⟨none, .val 10 (.mv (.t 9))⟩,
    ⟨some (10, true), .val 11 (.mv (.t 0))⟩,
    ⟨some (10, true), .val 12 (.mv (.t 2))⟩,
    ⟨some (10, true), .val 13 (.ints .leq (.t 11) (.t 12))⟩,
    ⟨none, .val 14 (.pick (.t 10) (.t 13) (.c (bv false)))⟩,
    ⟨none, .val 6 (.mv (.t 14))⟩] false [.forget [7, 8, 9, 10, 11, 12, 13, 14]]
abbrev ref_within : HCode := (.seq ref_within_r0 (.seq ref_within_r1 .ret))
abbrev ref_within_E : Env := { N := 15, Γ := [], L := 15, nfix := 0 }
abbrev ref_within_R : List RSrc := [.tmp 6]
theorem mk_ref_within {base : Nat} {av : List AV} {r : RV} (hfo : formOk ref_within_E base av) (hW : AVs.fits av → hwp Tryd.prog ref_within (finQ ref_within_E base av ref_within_R r) (F0 ref_within_E base av)) (hov : ∀ x, r.res = .ov x → nOwn av = 0 := by intro x h; cases h <;> rfl) : Contract Tryd.prog fn_ref_within av r :=
  contract_of_wp (fn := Tryd.f65) (c := Tryd.f65.body.getD .skip) (by kernel_rfl) (by kernel_rfl) (by kernel_rfl) (by kernel_rfl) (by kernel_rfl) (by kernel_rfl) (by kernel_rfl) hfo hW hov
abbrev nth_Check_r0 : HCode := .reg [⟨none, .val 1 (.boxF (.t 0))⟩,
    ⟨none, .val 2 (.mv (.c (iv 0)))⟩] false []
abbrev nth_Check_r1 : HCode := .reg [⟨none, .val 5 (.fldR (.t 1) 0 1)⟩,
    ⟨none, .val 6 (.ldR (.t 5) 1 false)⟩,
    ⟨none, .val 7 (.fldR (.t 1) 1 1)⟩,
    ⟨none, .val 8 (.ldR (.t 7) 1 false)⟩,
    ⟨none, .val 9 (.bld [.v (.int .i64 0), .v (.int .i64 0)] [(0, 1, .t 6), (1, 1, .t 8)])⟩,
    ⟨none, .val 10 (.mv (.c (iv 0)))⟩] false [.forget [5, 6, 7, 8]]
abbrev nth_Check_r2 : HCode := .reg [⟨none, .val 11 (.ints .lss (.t 10) (.c (iv 2)))⟩] false []
abbrev nth_Check_r3 : HCode := .reg [⟨none, .val 12 (.idxV 2 (.t 9) (.t 10))⟩,
    ⟨none, .val 4 (.mv (.t 12))⟩] false [.forget [12]]
abbrev nth_Check_r4 : HCode := .reg [⟨none, .val 13 (.mv (.t 4))⟩,
    ⟨none, .val 14 (.ints .lss (.t 13) (.c (iv (-1048576))))⟩,
    ⟨none, .val 15 (.mv (.t 14))⟩,
    ⟨some (15, false), .val 16 (.mv (.t 4))⟩,
    ⟨some (15, false), .val 17 (.ints .gtr (.t 16) (.c (iv 1048576)))⟩,
    ⟨none, .val 18 (.pick (.t 15) (.c (bv true)) (.t 17))⟩] false [.forget [13, 14, 15, 16, 17]]
abbrev nth_Check_r5 : HCode := .reg [⟨none, .val 2 (.mv (.c (iv 3)))⟩] false []
abbrev nth_Check_r6 : HCode := .reg [⟨none, .val 19 (.ints .add (.t 10) (.c (iv 1)))⟩,
    ⟨none, .val 10 (.mv (.t 19))⟩] false [.forget [19]]
abbrev nth_Check_r7 : HCode := .reg [⟨none, .val 2 (.mv (.c (iv 0)))⟩] false []
abbrev nth_Check : HCode := (.seq nth_Check_r0 (.seq (.seq nth_Check_r1 (.block 0 (.loop (.seq nth_Check_r2 (.seq (.cond (.t 11) .skip (.exit 0)) (.seq (.block 1 (.seq nth_Check_r3 (.seq nth_Check_r4 (.cond (.t 18) (.seq nth_Check_r5 .ret) .skip)))) nth_Check_r6)))))) (.seq nth_Check_r7 .ret)))
abbrev nth_Check_E : Env := { N := 20, Γ := [], L := 20, nfix := 0 }
abbrev nth_Check_R : List RSrc := [.tmp 2]
theorem mk_nth_Check {base : Nat} {av : List AV} {r : RV} (hfo : formOk nth_Check_E base av) (hW : AVs.fits av → hwp Tryd.prog nth_Check (finQ nth_Check_E base av nth_Check_R r) (F0 nth_Check_E base av)) (hov : ∀ x, r.res = .ov x → nOwn av = 0 := by intro x h; cases h <;> rfl) : Contract Tryd.prog fn_nth_Check av r :=
  contract_of_wp (fn := Tryd.f50) (c := Tryd.f50.body.getD .skip) (by kernel_rfl) (by kernel_rfl) (by kernel_rfl) (by kernel_rfl) (by kernel_rfl) (by kernel_rfl) (by kernel_rfl) hfo hW hov
abbrev nth_Holds_r0 : HCode := .reg [⟨none, .val 2 (.boxF (.t 0))⟩,
    ⟨none, .val 4 (.mv (.c (bv false)))⟩] false []
abbrev nth_Holds_r1 : HCode := .reg [⟨none, .val 6 (.ldR (.t 2) 2 true)⟩,
    ⟨none, .call (some 7) fn_nth_Check [(.t 6, .v)]⟩,
    ⟨none, .val 8 (.ints .neq (.t 7) (.c (iv 0)))⟩,
    ⟨none, .val 9 (.mv (.t 8))⟩,
    ⟨some (9, false), .val 10 (.mv (.t 1))⟩,
    ⟨some (9, false), .val 11 (.ints .lss (.t 10) (.c (iv 1)))⟩,
    ⟨none, .val 12 (.pick (.t 9) (.c (bv true)) (.t 11))⟩,
    ⟨none, .val 13 (.mv (.t 12))⟩,
    ⟨some (13, false), .val 14 (.mv (.t 1))⟩,
    ⟨some (13, false), .val 15 (.ints .gtr (.t 14) (.c (iv 1073741824)))⟩,
    ⟨none, .val 16 (.pick (.t 13) (.c (bv true)) (.t 15))⟩] false [.forget [6, 7, 8, 9, 10, 11, 12, 13, 14, 15]]
abbrev nth_Holds_r2 : HCode := .reg [⟨none, .val 4 (.mv (.c (bv false)))⟩] false []
abbrev nth_Holds_r3 : HCode := .reg [⟨none, .val 17 (.mv (.t 1))⟩,
    ⟨none, .val 18 (.fldR (.t 2) 1 1)⟩,
    ⟨none, .val 19 (.ldR (.t 18) 1 false)⟩,
    ⟨none, .val 20 (.ints .sub (.t 17) (.t 19))⟩,
    ⟨none, .val 5 (.mv (.t 20))⟩] false [.forget [17, 18, 19, 20]]
abbrev nth_Holds_r4 : HCode := .reg [⟨none, .val 21 (.fldR (.t 2) 0 1)⟩,
    ⟨none, .val 22 (.ldR (.t 21) 1 false)⟩,
    ⟨none, .val 23 (.ints .eql (.t 22) (.c (iv 0)))⟩] false [.forget [21, 22]]
abbrev nth_Holds_r5 : HCode := .reg [⟨none, .val 24 (.mv (.t 5))⟩,
    ⟨none, .val 25 (.ints .eql (.t 24) (.c (iv 0)))⟩,
    ⟨none, .val 4 (.mv (.t 25))⟩] false [.forget [24, 25]]
abbrev nth_Holds_r6 : HCode := .reg [⟨none, .val 26 (.mv (.t 5))⟩,
    ⟨none, .val 27 (.fldR (.t 2) 0 1)⟩,
    ⟨none, .val 28 (.ldR (.t 27) 1 false)⟩,
    ⟨none, .val 29 (.ints .rem (.t 26) (.t 28))⟩,
    ⟨none, .val 30 (.ints .eql (.t 29) (.c (iv 0)))⟩,
    ⟨none, .val 31 (.mv (.t 30))⟩,
    ⟨some (31, true), .val 32 (.mv (.t 5))⟩,
    ⟨some (31, true), .val 33 (.fldR (.t 2) 0 1)⟩,
    ⟨some (31, true), .val 34 (.ldR (.t 33) 1 false)⟩,
    ⟨some (31, true), .val 35 (.ints .quo (.t 32) (.t 34))⟩,
    ⟨some (31, true), .val 36 (.ints .geq (.t 35) (.c (iv 0)))⟩,
    ⟨none, .val 37 (.pick (.t 31) (.t 36) (.c (bv false)))⟩,
    ⟨none, .val 4 (.mv (.t 37))⟩] false [.forget [26, 27, 28, 29, 30, 31, 32, 33, 34, 35, 36, 37]]
abbrev nth_Holds : HCode := (.seq nth_Holds_r0 (.seq (.seq nth_Holds_r1 (.cond (.t 16) (.seq nth_Holds_r2 .ret) .skip)) (.seq nth_Holds_r3 (.seq (.seq nth_Holds_r4 (.cond (.t 23) (.seq nth_Holds_r5 .ret) .skip)) (.seq nth_Holds_r6 .ret)))))
abbrev nth_Holds_E : Env := { N := 38, Γ := [], L := 38, nfix := 0 }
abbrev nth_Holds_R : List RSrc := [.tmp 4]
theorem mk_nth_Holds {base : Nat} {av : List AV} {r : RV} (hfo : formOk nth_Holds_E base av) (hW : AVs.fits av → hwp Tryd.prog nth_Holds (finQ nth_Holds_E base av nth_Holds_R r) (F0 nth_Holds_E base av)) (hov : ∀ x, r.res = .ov x → nOwn av = 0 := by intro x h; cases h <;> rfl) : Contract Tryd.prog fn_nth_Holds av r :=
  contract_of_wp (fn := Tryd.f51) (c := Tryd.f51.body.getD .skip) (by kernel_rfl) (by kernel_rfl) (by kernel_rfl) (by kernel_rfl) (by kernel_rfl) (by kernel_rfl) (by kernel_rfl) hfo hW hov
abbrev nth_Show_r0 : HCode := .reg [⟨none, .val 1 (.boxF (.t 0))⟩,
    ⟨none, .val 2 (.mv (.c (sv [])))⟩,
    ⟨none, .val 3 (.mv (.c (iv 0)))⟩] false []
abbrev nth_Show_r1 : HCode := .reg [⟨none, .val 6 (.ldR (.t 1) 2 true)⟩,
    ⟨none, .call (some 7) fn_nth_Check [(.t 6, .v)]⟩,
    ⟨none, .val 4 (.mv (.t 7))⟩] false [.forget [6, 7]]
abbrev nth_Show_r2 : HCode := .reg [⟨none, .val 8 (.mv (.t 4))⟩,
    ⟨none, .val 9 (.ints .neq (.t 8) (.c (iv 0)))⟩] false [.forget [8]]
abbrev nth_Show_r3 : HCode := .reg [⟨none, .val 10 (.mv (.t 4))⟩,
    ⟨none, .val 2 (.mv (.c (sv [])))⟩,
    ⟨none, .val 3 (.mv (.t 10))⟩] false [.forget [10]]
abbrev nth_Show_r4 : HCode := .reg [⟨none, .val 11 (.fldR (.t 1) 1 1)⟩,
    ⟨none, .val 12 (.ldR (.t 11) 1 false)⟩,
    ⟨none, .call (some 13) fn_strconv_Itoa [(.t 12, .v)]⟩,
    ⟨none, .val 5 (.mv (.t 13))⟩] false [.forget [11, 12, 13]]
abbrev nth_Show_r5 : HCode := .reg [⟨none, .val 14 (.fldR (.t 1) 1 1)⟩,
    ⟨none, .val 15 (.ldR (.t 14) 1 false)⟩,
    ⟨none, .val 16 (.ints .geq (.t 15) (.c (iv 0)))⟩] false [.forget [14, 15]]
abbrev nth_Show_r6 : HCode := .reg [⟨none, .val 17 (.mv (.t 5))⟩,
    ⟨none, .val 18 (.strs .add (.c (sv [43])) (.t 17))⟩,
    ⟨none, .val 5 (.mv (.t 18))⟩] false [.forget [17, 18]]
abbrev nth_Show_r7 : HCode := .reg [⟨none, .val 19 (.fldR (.t 1) 0 1)⟩,
    ⟨none, .val 20 (.ldR (.t 19) 1 false)⟩,
    ⟨none, .call (some 21) fn_strconv_Itoa [(.t 20, .v)]⟩,
    ⟨none, .val 22 (.strs .add (.t 21) (.c (sv [110])))⟩,
    ⟨none, .val 23 (.mv (.t 5))⟩,
    ⟨none, .val 24 (.strs .add (.t 22) (.t 23))⟩,
    ⟨none, .val 2 (.mv (.t 24))⟩,
    ⟨none, .val 3 (.mv (.c (iv 0)))⟩] false [.forget [19, 20, 21, 22, 23, 24]]
abbrev nth_Show : HCode := (.seq nth_Show_r0 (.seq (.seq nth_Show_r1 (.seq nth_Show_r2 (.cond (.t 9) (.seq nth_Show_r3 .ret) .skip))) (.seq nth_Show_r4 (.seq (.seq nth_Show_r5 (.cond (.t 16) nth_Show_r6 .skip)) (.seq nth_Show_r7 .ret)))))
abbrev nth_Show_E : Env := { N := 25, Γ := [], L := 25, nfix := 0 }
abbrev nth_Show_R : List RSrc := [.tmp 2, .tmp 3]
theorem mk_nth_Show {base : Nat} {av : List AV} {r : RV} (hfo : formOk nth_Show_E base av) (hW : AVs.fits av → hwp Tryd.prog nth_Show (finQ nth_Show_E base av nth_Show_R r) (F0 nth_Show_E base av)) (hov : ∀ x, r.res = .ov x → nOwn av = 0 := by intro x h; cases h <;> rfl) : Contract Tryd.prog fn_nth_Show av r :=
  contract_of_wp (fn := Tryd.f44) (c := Tryd.f44.body.getD .skip) (by kernel_rfl) (by kernel_rfl) (by kernel_rfl) (by kernel_rfl) (by kernel_rfl) (by kernel_rfl) (by kernel_rfl) hfo hW hov
abbrev nth_Read_r0 : HCode := .reg [⟨none, .alloc 2 0 42 [.v (.int .i64 0), .v (.int .i64 0)]⟩,
    ⟨none, .val 3 (.mv (.c (iv 0)))⟩] false []
abbrev nth_Read_r1 : HCode := .reg [⟨none, .val 11 (.mv (.t 0))⟩,
    ⟨none, .call (some 12) fn_strings_Cut [(.t 11, .v), (.c (sv [110]), .v)]⟩,
    ⟨none, .val 10 (.mv (.t 12))⟩,
    ⟨none, .val 13 (.ext 10 0)⟩,
    ⟨none, .val 14 (.ext 10 1)⟩,
    ⟨none, .val 15 (.ext 10 2)⟩,
    ⟨none, .val 4 (.mv (.t 13))⟩,
    ⟨none, .val 5 (.mv (.t 14))⟩,
    ⟨none, .val 6 (.mv (.t 15))⟩] false [.forget [6, 10, 11, 12, 13, 14, 15]]
abbrev nth_Read_r2 : HCode := .reg [⟨none, .alloc 7 1 44 [.v (.int .i64 0), .v (.int .i64 0)]⟩] false []
abbrev nth_Read_r3 : HCode := .reg [⟨none, .val 17 (.mv (.t 4))⟩,
    ⟨none, .call (some 18) fn_strconv_Atoi [(.t 17, .v)]⟩,
    ⟨none, .val 16 (.mv (.t 18))⟩,
    ⟨none, .val 19 (.ext 16 0)⟩,
    ⟨none, .val 20 (.ext 16 1)⟩,
    ⟨none, .val 21 (.fldP (.t 7) 0)⟩,
    ⟨none, .sto (.t 21) 1 44 0 1 (.t 19)⟩] false [.forget [16, 17, 18, 19, 20, 21]]
abbrev nth_Read_r4 : HCode := .reg [⟨none, .val 23 (.mv (.t 5))⟩,
    ⟨none, .call (some 24) fn_strconv_Atoi [(.t 23, .v)]⟩,
    ⟨none, .val 22 (.mv (.t 24))⟩,
    ⟨none, .val 25 (.ext 22 0)⟩,
    ⟨none, .val 26 (.ext 22 1)⟩,
    ⟨none, .val 27 (.fldP (.t 7) 1)⟩,
    ⟨none, .sto (.t 27) 1 44 1 1 (.t 25)⟩] false [.forget [22, 23, 24, 25, 26, 27]]
abbrev nth_Read_r5 : HCode := .reg [⟨none, .val 29 (.ldB (.t 7) 1 44 0 2 true)⟩,
    ⟨none, .call (some 30) fn_nth_Show [(.t 29, .v)]⟩,
    ⟨none, .val 28 (.mv (.t 30))⟩,
    ⟨none, .val 31 (.ext 28 0)⟩,
    ⟨none, .val 32 (.ext 28 1)⟩,
    ⟨none, .val 8 (.mv (.t 31))⟩,
    ⟨none, .val 9 (.mv (.t 32))⟩] false [.forget [28, 29, 30, 31, 32]]
abbrev nth_Read_r6 : HCode := .reg [⟨none, .val 33 (.mv (.t 9))⟩,
    ⟨none, .val 34 (.ints .neq (.t 33) (.c (iv 0)))⟩,
    ⟨none, .val 35 (.mv (.t 34))⟩,
    ⟨some (35, false), .val 36 (.mv (.t 8))⟩,
    ⟨some (35, false), .val 37 (.mv (.t 0))⟩,
    ⟨some (35, false), .val 38 (.strs .neq (.t 36) (.t 37))⟩,
    ⟨none, .val 39 (.pick (.t 35) (.c (bv true)) (.t 38))⟩] false [.forget [33, 34, 35, 36, 37, 38]]
abbrev nth_Read_r7 : HCode := .reg [⟨none, .val 40 (.bld [.v (.int .i64 0), .v (.int .i64 0)] [])⟩,
    ⟨none, .sto (.t 2) 0 42 0 2 (.t 40)⟩,
    ⟨none, .val 3 (.mv (.c (iv 1)))⟩] false [.forget [40]]
abbrev nth_Read_r8 : HCode := .reg [⟨none, .val 41 (.ldB (.t 7) 1 44 0 2 true)⟩,
    ⟨none, .sto (.t 2) 0 42 0 2 (.t 41)⟩,
    ⟨none, .val 3 (.mv (.c (iv 0)))⟩] false [.forget [41]]
abbrev nth_Read : HCode := (.seq nth_Read_r0 (.seq nth_Read_r1 (.seq nth_Read_r2 (.seq nth_Read_r3 (.seq nth_Read_r4 (.seq (.seq nth_Read_r5 (.seq nth_Read_r6 (.cond (.t 39) (.seq nth_Read_r7 .ret) .skip))) (.seq nth_Read_r8 .ret)))))))
abbrev nth_Read_E : Env := { N := 42, Γ := [(42, 2), (44, 2)], L := 46, nfix := 0 }
abbrev nth_Read_R : List RSrc := [.cellB 2 0 42 0 2 true, .tmp 3]
theorem mk_nth_Read {base : Nat} {av : List AV} {r : RV} (hfo : formOk nth_Read_E base av) (hW : AVs.fits av → hwp Tryd.prog nth_Read (finQ nth_Read_E base av nth_Read_R r) (F0 nth_Read_E base av)) (hov : ∀ x, r.res = .ov x → nOwn av = 0 := by intro x h; cases h <;> rfl) : Contract Tryd.prog fn_nth_Read av r :=
  contract_of_wp (fn := Tryd.f47) (c := Tryd.f47.body.getD .skip) (by kernel_rfl) (by kernel_rfl) (by kernel_rfl) (by kernel_rfl) (by kernel_rfl) (by kernel_rfl) (by kernel_rfl) hfo hW hov
abbrev ref_CheckNth_r0 : HCode := .reg [⟨none, .val 1 (.boxF (.t 0))⟩,
    ⟨none, .val 2 (.mv (.c (iv 0)))⟩] false []
abbrev ref_CheckNth_r1 : HCode := .reg [⟨none, .val 3 (.fldR (.t 1) 0 1)⟩,
    ⟨none, .val 4 (.ldR (.t 3) 1 false)⟩,
    ⟨none, .call (some 5) fn_ref_within [(.t 4, .v), (.c (iv (-1048576)), .v), (.c (iv 1048576), .v)]⟩,
    ⟨none, .val 6 (.not (.t 5))⟩,
    ⟨none, .val 7 (.mv (.t 6))⟩,
    ⟨some (7, false), .val 8 (.fldR (.t 1) 1 1)⟩,
    ⟨some (7, false), .val 9 (.ldR (.t 8) 1 false)⟩,
    ⟨some (7, false), .call (some 10) fn_ref_within [(.t 9, .v), (.c (iv (-1048576)), .v), (.c (iv 1048576), .v)]⟩,
    ⟨some (7, false), .val 11 (.not (.t 10))⟩,
    ⟨none, .val 12 (.pick (.t 7) (.c (bv true)) (.t 11))⟩] false [.forget [3, 4, 5, 6, 7, 8, 9, 10, 11]]
abbrev ref_CheckNth_r2 : HCode := .reg [⟨none, .val 2 (.mv (.c (iv 3)))⟩] false []
abbrev ref_CheckNth_r3 : HCode := .reg [⟨none, .val 2 (.mv (.c (iv 0)))⟩] false []
abbrev ref_CheckNth : HCode := (.seq ref_CheckNth_r0 (.seq (.seq ref_CheckNth_r1 (.cond (.t 12) (.seq ref_CheckNth_r2 .ret) .skip)) (.seq ref_CheckNth_r3 .ret)))
abbrev ref_CheckNth_E : Env := { N := 13, Γ := [], L := 13, nfix := 0 }
abbrev ref_CheckNth_R : List RSrc := [.tmp 2]
theorem mk_ref_CheckNth {base : Nat} {av : List AV} {r : RV} (hfo : formOk ref_CheckNth_E base av) (hW : AVs.fits av → hwp Tryd.prog ref_CheckNth (finQ ref_CheckNth_E base av ref_CheckNth_R r) (F0 ref_CheckNth_E base av)) (hov : ∀ x, r.res = .ov x → nOwn av = 0 := by intro x h; cases h <;> rfl) : Contract Tryd.prog fn_ref_CheckNth av r :=
  contract_of_wp (fn := Tryd.f45) (c := Tryd.f45.body.getD .skip) (by kernel_rfl) (by kernel_rfl) (by kernel_rfl) (by kernel_rfl) (by kernel_rfl) (by kernel_rfl) (by kernel_rfl) hfo hW hov
abbrev ref_Digits_r0 : HCode := .reg [⟨none, .val 2 (.mv (.c (sv [])))⟩] false []
abbrev ref_Digits_r1 : HCode := .reg [⟨none, .val 3 (.mv (.t 0))⟩,
    ⟨none, .val 4 (.ints .lss (.t 3) (.c (iv 0)))⟩,
    ⟨none, .val 5 (.mv (.t 4))⟩,
    ⟨some (5, true), .val 6 (.mv (.t 0))⟩,
    ⟨some (5, true), .val 7 (.ints .gtr (.t 6) (.c (iv (-10))))⟩,
    ⟨none, .val 8 (.pick (.t 5) (.t 7) (.c (bv false)))⟩] false [.forget [3, 4, 5, 6, 7]]
abbrev ref_Digits_r2 : HCode := .reg [⟨none, .val 9 (.mv (.t 0))⟩,
    ⟨none, .val 10 (.neg (.t 9))⟩,
    ⟨none, .call (some 11) fn_ref_Digits [(.t 10, .v)]⟩,
    ⟨none, .val 12 (.strs .add (.c (sv [45])) (.t 11))⟩,
    ⟨none, .val 2 (.mv (.t 12))⟩] false [.forget [9, 10, 11, 12]]
abbrev ref_Digits_r3 : HCode := .reg [⟨none, .val 13 (.mv (.t 0))⟩,
    ⟨none, .val 14 (.ints .lss (.t 13) (.c (iv 0)))⟩] false [.forget [13]]
abbrev ref_Digits_r4 : HCode := .reg [⟨none, .val 15 (.mv (.t 0))⟩,
    ⟨none, .val 16 (.ints .quo (.t 15) (.c (iv 10)))⟩,
    ⟨none, .call (some 17) fn_ref_Digits [(.t 16, .v)]⟩,
    ⟨none, .val 18 (.mv (.t 0))⟩,
    ⟨none, .val 19 (.ints .rem (.t 18) (.c (iv 10)))⟩,
    ⟨none, .val 20 (.neg (.t 19))⟩,
    ⟨none, .call (some 21) fn_ref_Digits [(.t 20, .v)]⟩,
    ⟨none, .val 22 (.strs .add (.t 17) (.t 21))⟩,
    ⟨none, .val 2 (.mv (.t 22))⟩] false [.forget [15, 16, 17, 18, 19, 20, 21, 22]]
abbrev ref_Digits_r5 : HCode := .reg [⟨none, .val 23 (.mv (.t 0))⟩,
    ⟨none, .val 24 (.ints .lss (.t 23) (.c (iv 10)))⟩] false [.forget [23]]
abbrev ref_Digits_r6 : HCode := .reg [⟨none, .val 25 (.mv (.t 0))⟩,
    ⟨none, .val 26 (.ints .add (.c (iv 48)) (.t 25))⟩,
    ⟨none, .val 27 (.conv .u8 (.t 26))⟩,
    ⟨none, .val 28 (.bslF 1 [.t 27])⟩,
    ⟨none, .val 29 (.b2s (.t 28))⟩,
    ⟨none, .val 2 (.mv (.t 29))⟩] false [.forget [25, 26, 27, 28, 29]]
abbrev ref_Digits_r7 : HCode := .reg [⟨none, .val 30 (.mv (.t 0))⟩,
    ⟨none, .val 31 (.ints .quo (.t 30) (.c (iv 10)))⟩,
    ⟨none, .call (some 32) fn_ref_Digits [(.t 31, .v)]⟩,
    ⟨none, .val 33 (.mv (.t 0))⟩,
    ⟨none, .val 34 (.ints .rem (.t 33) (.c (iv 10)))⟩,
    ⟨none, .call (some 35) fn_ref_Digits [(.t 34, .v)]⟩,
    ⟨none, .val 36 (.strs .add (.t 32) (.t 35))⟩,
    ⟨none, .val 2 (.mv (.t 36))⟩] false [.forget [30, 31, 32, 33, 34, 35, 36]]
abbrev ref_Digits : HCode := (.seq ref_Digits_r0 (.seq (.seq ref_Digits_r1 (.cond (.t 8) (.seq ref_Digits_r2 .ret) .skip)) (.seq (.seq ref_Digits_r3 (.cond (.t 14) (.seq ref_Digits_r4 .ret) .skip)) (.seq (.seq ref_Digits_r5 (.cond (.t 24) (.seq ref_Digits_r6 .ret) .skip)) (.seq ref_Digits_r7 .ret)))))
abbrev ref_Digits_E : Env := { N := 37, Γ := [], L := 37, nfix := 0 }
abbrev ref_Digits_R : List RSrc := [.tmp 2]
theorem mk_ref_Digits {base : Nat} {av : List AV} {r : RV} (hfo : formOk ref_Digits_E base av) (hW : AVs.fits av → hwp Tryd.prog ref_Digits (finQ ref_Digits_E base av ref_Digits_R r) (F0 ref_Digits_E base av)) (hov : ∀ x, r.res = .ov x → nOwn av = 0 := by intro x h; cases h <;> rfl) : Contract Tryd.prog fn_ref_Digits av r :=
  contract_of_wp (fn := Tryd.f104) (c := Tryd.f104.body.getD .skip) (by kernel_rfl) (by kernel_rfl) (by kernel_rfl) (by kernel_rfl) (by kernel_rfl) (by kernel_rfl) (by kernel_rfl) hfo hW hov
abbrev ref_NthText_r0 : HCode := .reg [⟨none, .val 1 (.boxF (.t 0))⟩,
    ⟨none, .val 2 (.mv (.c (sv [])))⟩] false []
abbrev ref_NthText_r1 : HCode := .reg [⟨none, .val 3 (.fldR (.t 1) 1 1)⟩,
    ⟨none, .val 4 (.ldR (.t 3) 1 false)⟩,
    ⟨none, .val 5 (.ints .lss (.t 4) (.c (iv 0)))⟩] false [.forget [3, 4]]
abbrev ref_NthText_r2 : HCode := .drg [⟨0, false, ⟨none, .val 6 (.fldR (.t 1) 0 1)⟩⟩,
    ⟨1, false, ⟨none, .val 7 (.ldR (.t 6) 1 false)⟩⟩,
    ⟨2, false, ⟨none, .call (some 8) fn_ref_Digits [(.t 7, .v)]⟩⟩,
    ⟨3, false, ⟨none, .val 9 (.strs .add (.t 8) (.c (sv [110, 45])))⟩⟩,
    ⟨4, false, ⟨none, .val 10 (.fldR (.t 1) 1 1)⟩⟩,
    ⟨5, false, ⟨none, .val 11 (.ldR (.t 10) 1 false)⟩⟩,
    ⟨6, false, ⟨none, .val 12 (.neg (.t 11))⟩⟩,
    ⟨7, true, ⟨none, .call (some 13) fn_ref_Digits [(.t 12, .v)]⟩⟩,
    ⟨8, false, ⟨none, .val 14 (.strs .add (.t 9) (.t 13))⟩⟩,
    ⟨9, false, ⟨none, .val 2 (.mv (.t 14))⟩⟩] [.forget [6, 7, 8, 9, 10, 11, 12, 13, 14]]
abbrev ref_NthText_r3 : HCode := .drg [⟨0, false, ⟨none, .val 15 (.fldR (.t 1) 0 1)⟩⟩,
    ⟨1, false, ⟨none, .val 16 (.ldR (.t 15) 1 false)⟩⟩,
    ⟨2, false, ⟨none, .call (some 17) fn_ref_Digits [(.t 16, .v)]⟩⟩,
    ⟨3, false, ⟨none, .val 18 (.strs .add (.t 17) (.c (sv [110, 43])))⟩⟩,
    ⟨4, false, ⟨none, .val 19 (.fldR (.t 1) 1 1)⟩⟩,
    ⟨5, false, ⟨none, .val 20 (.ldR (.t 19) 1 false)⟩⟩,
    ⟨6, true, ⟨none, .call (some 21) fn_ref_Digits [(.t 20, .v)]⟩⟩,
    ⟨7, false, ⟨none, .val 22 (.strs .add (.t 18) (.t 21))⟩⟩,
    ⟨8, false, ⟨none, .val 2 (.mv (.t 22))⟩⟩] [.forget [15, 16, 17, 18, 19, 20, 21, 22]]
abbrev ref_NthText : HCode := (.seq ref_NthText_r0 (.seq (.seq ref_NthText_r1 (.cond (.t 5) (.seq ref_NthText_r2 .ret) .skip)) (.seq ref_NthText_r3 .ret)))
abbrev ref_NthText_E : Env := { N := 23, Γ := [], L := 23, nfix := 0 }
abbrev ref_NthText_R : List RSrc := [.tmp 2]
theorem mk_ref_NthText {base : Nat} {av : List AV} {r : RV} (hfo : formOk ref_NthText_E base av) (hW : AVs.fits av → hwp Tryd.prog ref_NthText (finQ ref_NthText_E base av ref_NthText_R r) (F0 ref_NthText_E base av)) (hov : ∀ x, r.res = .ov x → nOwn av = 0 := by intro x h; cases h <;> rfl) : Contract Tryd.prog fn_ref_NthText av r :=
  contract_of_wp (fn := Tryd.f46) (c := Tryd.f46.body.getD .skip) (by kernel_rfl) (by kernel_rfl) (by kernel_rfl) (by kernel_rfl) (by kernel_rfl) (by kernel_rfl) (by kernel_rfl) hfo hW hov
abbrev ref_NthFrom_r0 : HCode := .reg [⟨none, .alloc 2 0 22 [.v (.int .i64 0), .v (.int .i64 0)]⟩,
    ⟨none, .val 3 (.mv (.c (bv false)))⟩] false []
abbrev ref_NthFrom_r1 : HCode := .reg [⟨none, .val 6 (.mv (.t 0))⟩,
    ⟨none, .val 7 (.bld [.v (mkS [])] [(0, 1, .t 6)])⟩,
    ⟨none, .box 8 1 24 1 (.t 7)⟩,
    ⟨none, .val 4 (.mv (.t 8))⟩] false [.forget [6, 7, 8]]
abbrev ref_NthFrom_r2 : HCode := .reg [⟨none, .val 9 (.mv (.t 4))⟩,
    ⟨none, .call (some 10) fn_ref_reader_nth [(.t 9, .i 1 24 1)]⟩,
    ⟨none, .alloc 5 2 25 [.v (.int .i64 0), .v (.int .i64 0)]⟩,
    ⟨none, .sto (.t 5) 2 25 0 2 (.t 10)⟩] false [.forget [9, 10]]
abbrev ref_NthFrom_r3 : HCode := .reg [⟨none, .val 11 (.ldB (.t 5) 2 25 0 2 true)⟩,
    ⟨none, .call (some 12) fn_ref_CheckNth [(.t 11, .v)]⟩,
    ⟨none, .val 13 (.ints .neq (.t 12) (.c (iv 0)))⟩,
    ⟨none, .val 14 (.mv (.t 13))⟩,
    ⟨some (14, false), .val 15 (.ldB (.t 5) 2 25 0 2 true)⟩,
    ⟨some (14, false), .call (some 16) fn_ref_NthText [(.t 15, .v)]⟩,
    ⟨some (14, false), .val 17 (.mv (.t 0))⟩,
    ⟨some (14, false), .val 18 (.strs .neq (.t 16) (.t 17))⟩,
    ⟨none, .val 19 (.pick (.t 14) (.c (bv true)) (.t 18))⟩] false [.forget [11, 12, 13, 14, 15, 16, 17, 18]]
abbrev ref_NthFrom_r4 : HCode := .reg [⟨none, .val 20 (.bld [.v (.int .i64 0), .v (.int .i64 0)] [])⟩,
    ⟨none, .sto (.t 2) 0 22 0 2 (.t 20)⟩,
    ⟨none, .val 3 (.mv (.c (bv false)))⟩] false [.forget [20]]
abbrev ref_NthFrom_r5 : HCode := .reg [⟨none, .val 21 (.ldB (.t 5) 2 25 0 2 true)⟩,
    ⟨none, .sto (.t 2) 0 22 0 2 (.t 21)⟩,
    ⟨none, .val 3 (.mv (.c (bv true)))⟩] false [.forget [21]]
abbrev ref_NthFrom : HCode := (.seq ref_NthFrom_r0 (.seq ref_NthFrom_r1 (.seq ref_NthFrom_r2 (.seq (.seq ref_NthFrom_r3 (.cond (.t 19) (.seq ref_NthFrom_r4 .ret) .skip)) (.seq ref_NthFrom_r5 .ret)))))
abbrev ref_NthFrom_E : Env := { N := 22, Γ := [(22, 2), (24, 1), (25, 2)], L := 27, nfix := 0 }
abbrev ref_NthFrom_R : List RSrc := [.cellB 2 0 22 0 2 true, .tmp 3]
theorem mk_ref_NthFrom {base : Nat} {av : List AV} {r : RV} (hfo : formOk ref_NthFrom_E base av) (hW : AVs.fits av → hwp Tryd.prog ref_NthFrom (finQ ref_NthFrom_E base av ref_NthFrom_R r) (F0 ref_NthFrom_E base av)) (hov : ∀ x, r.res = .ov x → nOwn av = 0 := by intro x h; cases h <;> rfl) : Contract Tryd.prog fn_ref_NthFrom av r :=
  contract_of_wp (fn := Tryd.f48) (c := Tryd.f48.body.getD .skip) (by kernel_rfl) (by kernel_rfl) (by kernel_rfl) (by kernel_rfl) (by kernel_rfl) (by kernel_rfl) (by kernel_rfl) hfo hW hov
abbrev ref_NthHolds_r0 : HCode := .reg [⟨none, .val 2 (.boxF (.t 0))⟩,
    ⟨none, .val 4 (.mv (.c (bv false)))⟩] false []
abbrev ref_NthHolds_r1 : HCode := .reg [⟨none, .val 5 (.ldR (.t 2) 2 true)⟩,
    ⟨none, .call (some 6) fn_ref_CheckNth [(.t 5, .v)]⟩,
    ⟨none, .val 7 (.ints .neq (.t 6) (.c (iv 0)))⟩,
    ⟨none, .val 8 (.mv (.t 7))⟩,
    ⟨some (8, false), .val 9 (.mv (.t 1))⟩,
    ⟨some (8, false), .val 10 (.ints .lss (.t 9) (.c (iv 1)))⟩,
    ⟨none, .val 11 (.pick (.t 8) (.c (bv true)) (.t 10))⟩,
    ⟨none, .val 12 (.mv (.t 11))⟩,
    ⟨some (12, false), .val 13 (.mv (.t 1))⟩,
    ⟨some (12, false), .val 14 (.ints .gtr (.t 13) (.c (iv 1073741824)))⟩,
    ⟨none, .val 15 (.pick (.t 12) (.c (bv true)) (.t 14))⟩] false [.forget [5, 6, 7, 8, 9, 10, 11, 12, 13, 14]]
abbrev ref_NthHolds_r2 : HCode := .reg [⟨none, .val 4 (.mv (.c (bv false)))⟩] false []
abbrev ref_NthHolds_r3 : HCode := .reg [⟨none, .val 16 (.fldR (.t 2) 0 1)⟩,
    ⟨none, .val 17 (.ldR (.t 16) 1 false)⟩,
    ⟨none, .val 18 (.ints .eql (.t 17) (.c (iv 0)))⟩,
    ⟨none, .val 19 (.mv (.t 18))⟩,
    ⟨some (19, false), .val 20 (.mv (.t 1))⟩,
    ⟨some (19, false), .val 21 (.fldR (.t 2) 1 1)⟩,
    ⟨some (19, false), .val 22 (.ldR (.t 21) 1 false)⟩,
    ⟨some (19, false), .val 23 (.ints .eql (.t 20) (.t 22))⟩,
    ⟨none, .val 24 (.pick (.t 19) (.c (bv true)) (.t 23))⟩] false [.forget [16, 17, 18, 19, 20, 21, 22, 23]]
abbrev ref_NthHolds_r4 : HCode := .reg [⟨none, .val 25 (.mv (.t 1))⟩,
    ⟨none, .val 26 (.fldR (.t 2) 1 1)⟩,
    ⟨none, .val 27 (.ldR (.t 26) 1 false)⟩,
    ⟨none, .val 28 (.ints .eql (.t 25) (.t 27))⟩,
    ⟨none, .val 4 (.mv (.t 28))⟩] false [.forget [25, 26, 27, 28]]
abbrev ref_NthHolds_r5 : HCode := .reg [⟨none, .val 29 (.fldR (.t 2) 0 1)⟩,
    ⟨none, .val 30 (.ldR (.t 29) 1 false)⟩,
    ⟨none, .val 31 (.ints .gtr (.t 30) (.c (iv 0)))⟩] false [.forget [29, 30]]
abbrev ref_NthHolds_r6 : HCode := .reg [⟨none, .val 32 (.mv (.t 1))⟩,
    ⟨none, .val 33 (.fldR (.t 2) 1 1)⟩,
    ⟨none, .val 34 (.ldR (.t 33) 1 false)⟩,
    ⟨none, .val 35 (.ints .gtr (.t 32) (.t 34))⟩,
    ⟨none, .val 36 (.mv (.t 35))⟩,
    ⟨some (36, true), .val 37 (.mv (.t 1))⟩,
    ⟨some (36, true), .val 38 (.fldR (.t 2) 1 1)⟩,
    ⟨some (36, true), .val 39 (.ldR (.t 38) 1 false)⟩,
    ⟨some (36, true), .val 40 (.ints .sub (.t 37) (.t 39))⟩,
    ⟨some (36, true), .val 41 (.fldR (.t 2) 0 1)⟩,
    ⟨some (36, true), .val 42 (.ldR (.t 41) 1 false)⟩,
    ⟨some (36, true), .val 43 (.ints .rem (.t 40) (.t 42))⟩,
    ⟨some (36, true), .val 44 (.ints .eql (.t 43) (.c (iv 0)))⟩,
    ⟨none, .val 45 (.pick (.t 36) (.t 44) (.c (bv false)))⟩,
    ⟨none, .val 4 (.mv (.t 45))⟩] false [.forget [32, 33, 34, 35, 36, 37, 38, 39, 40, 41, 42, 43, 44, 45]]
abbrev ref_NthHolds_r7 : HCode := .reg [⟨none, .val 46 (.mv (.t 1))⟩,
    ⟨none, .val 47 (.fldR (.t 2) 1 1)⟩,
    ⟨none, .val 48 (.ldR (.t 47) 1 false)⟩,
    ⟨none, .val 49 (.ints .lss (.t 46) (.t 48))⟩,
    ⟨none, .val 50 (.mv (.t 49))⟩,
    ⟨some (50, true), .val 51 (.fldR (.t 2) 1 1)⟩,
    ⟨some (50, true), .val 52 (.ldR (.t 51) 1 false)⟩,
    ⟨some (50, true), .val 53 (.mv (.t 1))⟩,
    ⟨some (50, true), .val 54 (.ints .sub (.t 52) (.t 53))⟩,
    ⟨some (50, true), .val 55 (.fldR (.t 2) 0 1)⟩,
    ⟨some (50, true), .val 56 (.ldR (.t 55) 1 false)⟩,
    ⟨some (50, true), .val 57 (.neg (.t 56))⟩,
    ⟨some (50, true), .val 58 (.ints .rem (.t 54) (.t 57))⟩,
    ⟨some (50, true), .val 59 (.ints .eql (.t 58) (.c (iv 0)))⟩,
    ⟨none, .val 60 (.pick (.t 50) (.t 59) (.c (bv false)))⟩,
    ⟨none, .val 4 (.mv (.t 60))⟩] false [.forget [46, 47, 48, 49, 50, 51, 52, 53, 54, 55, 56, 57, 58, 59, 60]]
abbrev ref_NthHolds : HCode := (.seq ref_NthHolds_r0 (.seq (.seq ref_NthHolds_r1 (.cond (.t 15) (.seq ref_NthHolds_r2 .ret) .skip)) (.seq (.seq ref_NthHolds_r3 (.cond (.t 24) (.seq ref_NthHolds_r4 .ret) .skip)) (.seq (.seq ref_NthHolds_r5 (.cond (.t 31) (.seq ref_NthHolds_r6 .ret) .skip)) (.seq ref_NthHolds_r7 .ret)))))
abbrev ref_NthHolds_E : Env := { N := 61, Γ := [], L := 61, nfix := 0 }
abbrev ref_NthHolds_R : List RSrc := [.tmp 4]
theorem mk_ref_NthHolds {base : Nat} {av : List AV} {r : RV} (hfo : formOk ref_NthHolds_E base av) (hW : AVs.fits av → hwp Tryd.prog ref_NthHolds (finQ ref_NthHolds_E base av ref_NthHolds_R r) (F0 ref_NthHolds_E base av)) (hov : ∀ x, r.res = .ov x → nOwn av = 0 := by intro x h; cases h <;> rfl) : Contract Tryd.prog fn_ref_NthHolds av r :=
  contract_of_wp (fn := Tryd.f52) (c := Tryd.f52.body.getD .skip) (by kernel_rfl) (by kernel_rfl) (by kernel_rfl) (by kernel_rfl) (by kernel_rfl) (by kernel_rfl) (by kernel_rfl) hfo hW hov
abbrev ref_reader_nth_r0 : HCode := .reg [⟨none, .alloc 2 1 31 [.v (.int .i64 0), .v (.int .i64 0)]⟩] false []
abbrev ref_reader_nth_r1 : HCode := .reg [⟨none, .alloc 3 2 33 [.v (.int .i64 0), .v (.int .i64 0)]⟩] false []
abbrev ref_reader_nth_r2 : HCode := .reg [⟨none, .val 5 (.mv (.t 0))⟩,
    ⟨none, .call (some 6) fn_ref_reader_sign [(.t 5, .i 0 30 1), (.c (sv [45]), .v)]⟩,
    ⟨none, .val 4 (.mv (.t 6))⟩] false [.forget [5, 6]]
abbrev ref_reader_nth_r3 : HCode := .reg [⟨none, .val 7 (.mv (.t 0))⟩,
    ⟨none, .call (some 8) fn_ref_reader_number [(.t 7, .i 0 30 1)]⟩,
    ⟨none, .val 9 (.fldP (.t 3) 0)⟩,
    ⟨none, .sto (.t 9) 2 33 0 1 (.t 8)⟩] false [.forget [7, 8, 9]]
abbrev ref_reader_nth_r4 : HCode := .reg [⟨none, .val 10 (.mv (.t 4))⟩] false []
abbrev ref_reader_nth_r5 : HCode := .reg [⟨none, .val 11 (.fldP (.t 3) 0)⟩,
    ⟨none, .val 12 (.ldB (.t 11) 2 33 0 1 false)⟩,
    ⟨none, .val 13 (.neg (.t 12))⟩,
    ⟨none, .val 14 (.fldP (.t 3) 0)⟩,
    ⟨none, .sto (.t 14) 2 33 0 1 (.t 13)⟩] false [.forget [11, 12, 13, 14]]
abbrev ref_reader_nth_r6 : HCode := .reg [⟨none, .val 15 (.mv (.t 0))⟩,
    ⟨none, .call (some 16) fn_ref_reader_sign [(.t 15, .i 0 30 1), (.c (sv [110]), .v)]⟩] false [.forget [15, 16]]
abbrev ref_reader_nth_r7 : HCode := .reg [⟨none, .val 17 (.mv (.t 0))⟩,
    ⟨none, .call (some 18) fn_ref_reader_sign [(.t 17, .i 0 30 1), (.c (sv [45]), .v)]⟩,
    ⟨none, .val 4 (.mv (.t 18))⟩] false [.forget [17, 18]]
abbrev ref_reader_nth_r8 : HCode := .reg [⟨none, .val 19 (.mv (.t 0))⟩,
    ⟨none, .call (some 20) fn_ref_reader_sign [(.t 19, .i 0 30 1), (.c (sv [43]), .v)]⟩] false [.forget [19, 20]]
abbrev ref_reader_nth_r9 : HCode := .reg [⟨none, .val 21 (.mv (.t 0))⟩,
    ⟨none, .call (some 22) fn_ref_reader_number [(.t 21, .i 0 30 1)]⟩,
    ⟨none, .val 23 (.fldP (.t 3) 1)⟩,
    ⟨none, .sto (.t 23) 2 33 1 1 (.t 22)⟩] false [.forget [21, 22, 23]]
abbrev ref_reader_nth_r10 : HCode := .reg [⟨none, .val 24 (.mv (.t 4))⟩] false []
abbrev ref_reader_nth_r11 : HCode := .reg [⟨none, .val 25 (.fldP (.t 3) 1)⟩,
    ⟨none, .val 26 (.ldB (.t 25) 2 33 1 1 false)⟩,
    ⟨none, .val 27 (.neg (.t 26))⟩,
    ⟨none, .val 28 (.fldP (.t 3) 1)⟩,
    ⟨none, .sto (.t 28) 2 33 1 1 (.t 27)⟩] false [.forget [25, 26, 27, 28]]
abbrev ref_reader_nth_r12 : HCode := .reg [⟨none, .val 29 (.ldB (.t 3) 2 33 0 2 true)⟩,
    ⟨none, .sto (.t 2) 1 31 0 2 (.t 29)⟩] false [.forget [29]]
abbrev ref_reader_nth : HCode := (.seq ref_reader_nth_r0 (.seq ref_reader_nth_r1 (.seq ref_reader_nth_r2 (.seq ref_reader_nth_r3 (.seq (.seq ref_reader_nth_r4 (.cond (.t 10) ref_reader_nth_r5 .skip)) (.seq ref_reader_nth_r6 (.seq ref_reader_nth_r7 (.seq ref_reader_nth_r8 (.seq ref_reader_nth_r9 (.seq (.seq ref_reader_nth_r10 (.cond (.t 24) ref_reader_nth_r11 .skip)) (.seq ref_reader_nth_r12 .ret)))))))))))
abbrev ref_reader_nth_E : Env := { N := 30, Γ := [(30, 1), (31, 2), (33, 2)], L := 35, nfix := 1 }
abbrev ref_reader_nth_R : List RSrc := [.cellB 2 1 31 0 2 true]
theorem mk_ref_reader_nth {base : Nat} {av : List AV} {r : RV} (hfo : formOk ref_reader_nth_E base av) (hW : AVs.fits av → hwp Tryd.prog ref_reader_nth (finQ ref_reader_nth_E base av ref_reader_nth_R r) (F0 ref_reader_nth_E base av)) (hov : ∀ x, r.res = .ov x → nOwn av = 0 := by intro x h; cases h <;> rfl) : Contract Tryd.prog fn_ref_reader_nth av r :=
  contract_of_wp (fn := Tryd.f107) (c := Tryd.f107.body.getD .skip) (by kernel_rfl) (by kernel_rfl) (by kernel_rfl) (by kernel_rfl) (by kernel_rfl) (by kernel_rfl) (by kernel_rfl) hfo hW hov
abbrev ref_reader_number_r0 : HCode := .reg [⟨none, .val 2 (.mv (.c (iv 0)))⟩] false []
abbrev ref_reader_number_r1 : HCode := .reg [⟨none, .val 3 (.mv (.c (iv 0)))⟩] false []
abbrev ref_reader_number_r2 : HCode := .reg [⟨none, .val 4 (.mv (.c (iv 0)))⟩] false []
abbrev ref_reader_number_r3 : HCode := .reg [⟨none, .val 5 (.mv (.t 4))⟩,
    ⟨none, .val 6 (.ints .lss (.t 5) (.c (iv 8)))⟩,
    ⟨none, .val 7 (.mv (.t 6))⟩,
    ⟨some (7, true), .val 8 (.mv (.t 0))⟩,
    ⟨some (7, true), .val 9 (.nilck (.t 8))⟩,
    ⟨some (7, true), .val 10 (.fldP (.t 9) 0)⟩,
    ⟨some (7, true), .val 11 (.ldB (.t 10) 0 52 0 1 false)⟩,
    ⟨some (7, true), .val 12 (.len true (.t 11))⟩,
    ⟨some (7, true), .val 13 (.ints .gtr (.t 12) (.c (iv 0)))⟩,
    ⟨none, .val 14 (.pick (.t 7) (.t 13) (.c (bv false)))⟩,
    ⟨none, .val 15 (.mv (.t 14))⟩,
    ⟨some (15, true), .val 16 (.mv (.t 0))⟩,
    ⟨some (15, true), .val 17 (.nilck (.t 16))⟩,
    ⟨some (15, true), .val 18 (.fldP (.t 17) 0)⟩,
    ⟨some (15, true), .val 19 (.ldB (.t 18) 0 52 0 1 false)⟩,
    ⟨some (15, true), .val 20 (.idxS (.t 19) (.c (iv 0)))⟩,
    ⟨some (15, true), .val 21 (.ints .geq (.t 20) (.c (.one (.v (.int .u8 48)))))⟩,
    ⟨none, .val 22 (.pick (.t 15) (.t 21) (.c (bv false)))⟩,
    ⟨none, .val 23 (.mv (.t 22))⟩,
    ⟨some (23, true), .val 24 (.mv (.t 0))⟩,
    ⟨some (23, true), .val 25 (.nilck (.t 24))⟩,
    ⟨some (23, true), .val 26 (.fldP (.t 25) 0)⟩,
    ⟨some (23, true), .val 27 (.ldB (.t 26) 0 52 0 1 false)⟩,
    ⟨some (23, true), .val 28 (.idxS (.t 27) (.c (iv 0)))⟩,
    ⟨some (23, true), .val 29 (.ints .leq (.t 28) (.c (.one (.v (.int .u8 57)))))⟩,
    ⟨none, .val 30 (.pick (.t 23) (.t 29) (.c (bv false)))⟩] false [.forget [5, 6, 7, 8, 9, 10, 11, 12, 13, 14, 15, 16, 17, 18, 19, 20, 21, 22, 23, 24, 25, 26, 27, 28, 29]]
abbrev ref_reader_number_r4 : HCode := .reg [⟨none, .val 33 (.mv (.t 3))⟩,
    ⟨none, .val 34 (.ints .mul (.c (iv 10)) (.t 33))⟩,
    ⟨none, .val 35 (.mv (.t 0))⟩,
    ⟨none, .val 36 (.nilck (.t 35))⟩,
    ⟨none, .val 37 (.fldP (.t 36) 0)⟩,
    ⟨none, .val 38 (.ldB (.t 37) 0 52 0 1 false)⟩,
    ⟨none, .val 39 (.idxS (.t 38) (.c (iv 0)))⟩,
    ⟨none, .val 40 (.ints .sub (.t 39) (.c (.one (.v (.int .u8 48)))))⟩,
    ⟨none, .val 41 (.conv .i64 (.t 40))⟩,
    ⟨none, .val 42 (.ints .add (.t 34) (.t 41))⟩,
    ⟨none, .val 3 (.mv (.t 42))⟩] false [.forget [33, 34, 35, 36, 37, 38, 39, 40, 41, 42]]
abbrev ref_reader_number_r5 : HCode := .reg [⟨none, .val 43 (.mv (.t 0))⟩,
    ⟨none, .val 44 (.mv (.t 0))⟩,
    ⟨none, .val 45 (.nilck (.t 44))⟩,
    ⟨none, .val 46 (.fldP (.t 45) 0)⟩,
    ⟨none, .val 47 (.ldB (.t 46) 0 52 0 1 false)⟩,
    ⟨none, .val 48 (.sls (.t 47) (some (.c (iv 1))) none)⟩,
    ⟨none, .val 49 (.nilck (.t 43))⟩,
    ⟨none, .val 50 (.fldP (.t 49) 0)⟩,
    ⟨none, .sto (.t 50) 0 52 0 1 (.t 48)⟩] false [.forget [43, 44, 45, 46, 47, 48, 49, 50]]
abbrev ref_reader_number_r6 : HCode := .reg [⟨none, .val 31 (.mv (.t 4))⟩,
    ⟨none, .val 32 (.ints .add (.t 31) (.c (iv 1)))⟩,
    ⟨none, .val 4 (.mv (.t 32))⟩] false [.forget [31, 32]]
abbrev ref_reader_number_r7 : HCode := .reg [⟨none, .val 51 (.mv (.t 3))⟩,
    ⟨none, .val 2 (.mv (.t 51))⟩] false [.forget [51]]
abbrev ref_reader_number : HCode := (.seq ref_reader_number_r0 (.seq ref_reader_number_r1 (.seq (.seq ref_reader_number_r2 (.block 0 (.loop (.seq (.seq ref_reader_number_r3 (.cond (.t 30) .skip (.exit 0))) (.seq (.block 1 (.seq ref_reader_number_r4 ref_reader_number_r5)) ref_reader_number_r6))))) (.seq ref_reader_number_r7 .ret))))
abbrev ref_reader_number_E : Env := { N := 52, Γ := [(52, 1)], L := 53, nfix := 1 }
abbrev ref_reader_number_R : List RSrc := [.tmp 2]
theorem mk_ref_reader_number {base : Nat} {av : List AV} {r : RV} (hfo : formOk ref_reader_number_E base av) (hW : AVs.fits av → hwp Tryd.prog ref_reader_number (finQ ref_reader_number_E base av ref_reader_number_R r) (F0 ref_reader_number_E base av)) (hov : ∀ x, r.res = .ov x → nOwn av = 0 := by intro x h; cases h <;> rfl) : Contract Tryd.prog fn_ref_reader_number av r :=
  contract_of_wp (fn := Tryd.f146) (c := Tryd.f146.body.getD .skip) (by kernel_rfl) (by kernel_rfl) (by kernel_rfl) (by kernel_rfl) (by kernel_rfl) (by kernel_rfl) (by kernel_rfl) hfo hW hov
abbrev ref_reader_sign_r0 : HCode := .reg [⟨none, .val 4 (.mv (.c (bv false)))⟩] false []
abbrev ref_reader_sign_r1 : HCode := .reg [⟨none, .val 5 (.mv (.t 0))⟩,
    ⟨none, .val 6 (.nilck (.t 5))⟩,
    ⟨none, .val 7 (.fldP (.t 6) 0)⟩,
    ⟨none, .val 8 (.ldB (.t 7) 0 34 0 1 false)⟩,
    ⟨none, .val 9 (.len true (.t 8))⟩,
    ⟨none, .val 10 (.mv (.t 1))⟩,
    ⟨none, .val 11 (.len true (.t 10))⟩,
    ⟨none, .val 12 (.ints .lss (.t 9) (.t 11))⟩,
    ⟨none, .val 13 (.mv (.t 12))⟩,
    ⟨some (13, false), .val 14 (.mv (.t 0))⟩,
    ⟨some (13, false), .val 15 (.nilck (.t 14))⟩,
    ⟨some (13, false), .val 16 (.fldP (.t 15) 0)⟩,
    ⟨some (13, false), .val 17 (.ldB (.t 16) 0 34 0 1 false)⟩,
    ⟨some (13, false), .val 18 (.mv (.t 1))⟩,
    ⟨some (13, false), .val 19 (.len true (.t 18))⟩,
    ⟨some (13, false), .val 20 (.sls (.t 17) none (some (.t 19)))⟩,
    ⟨some (13, false), .val 21 (.mv (.t 1))⟩,
    ⟨some (13, false), .val 22 (.strs .neq (.t 20) (.t 21))⟩,
    ⟨none, .val 23 (.pick (.t 13) (.c (bv true)) (.t 22))⟩] false [.forget [5, 6, 7, 8, 9, 10, 11, 12, 13, 14, 15, 16, 17, 18, 19, 20, 21, 22]]
abbrev ref_reader_sign_r2 : HCode := .reg [⟨none, .val 4 (.mv (.c (bv false)))⟩] false []
abbrev ref_reader_sign_r3 : HCode := .reg [⟨none, .val 24 (.mv (.t 0))⟩,
    ⟨none, .val 25 (.mv (.t 0))⟩,
    ⟨none, .val 26 (.nilck (.t 25))⟩,
    ⟨none, .val 27 (.fldP (.t 26) 0)⟩,
    ⟨none, .val 28 (.ldB (.t 27) 0 34 0 1 false)⟩,
    ⟨none, .val 29 (.mv (.t 1))⟩,
    ⟨none, .val 30 (.len true (.t 29))⟩,
    ⟨none, .val 31 (.sls (.t 28) (some (.t 30)) none)⟩,
    ⟨none, .val 32 (.nilck (.t 24))⟩,
    ⟨none, .val 33 (.fldP (.t 32) 0)⟩,
    ⟨none, .sto (.t 33) 0 34 0 1 (.t 31)⟩] false [.forget [24, 25, 26, 27, 28, 29, 30, 31, 32, 33]]
abbrev ref_reader_sign_r4 : HCode := .reg [⟨none, .val 4 (.mv (.c (bv true)))⟩] false []
abbrev ref_reader_sign : HCode := (.seq ref_reader_sign_r0 (.seq (.seq ref_reader_sign_r1 (.cond (.t 23) (.seq ref_reader_sign_r2 .ret) .skip)) (.seq ref_reader_sign_r3 (.seq ref_reader_sign_r4 .ret))))
abbrev ref_reader_sign_E : Env := { N := 34, Γ := [(34, 1)], L := 35, nfix := 1 }
abbrev ref_reader_sign_R : List RSrc := [.tmp 4]
theorem mk_ref_reader_sign {base : Nat} {av : List AV} {r : RV} (hfo : formOk ref_reader_sign_E base av) (hW : AVs.fits av → hwp Tryd.prog ref_reader_sign (finQ ref_reader_sign_E base av ref_reader_sign_R r) (F0 ref_reader_sign_E base av)) (hov : ∀ x, r.res = .ov x → nOwn av = 0 := by intro x h; cases h <;> rfl) : Contract Tryd.prog fn_ref_reader_sign av r :=
  contract_of_wp (fn := Tryd.f140) (c := Tryd.f140.body.getD .skip) (by kernel_rfl) (by kernel_rfl) (by kernel_rfl) (by kernel_rfl) (by kernel_rfl) (by kernel_rfl) (by kernel_rfl) hfo hW hov
abbrev law_nthBegun_r0 : HCode := .reg [⟨none, .val 0 (.mv (.c (bv false)))⟩] false []
abbrev law_nthBegun_r1 : HCode := .reg [⟨none, .val 6 (.bld [.v (.int .i64 0), .v (.int .i64 0)] [(0, 1, .c (iv 2)), (1, 1, .c (iv (-1)))])⟩,
    ⟨none, .call (some 7) fn_nth_Show [(.t 6, .v)]⟩,
    ⟨none, .val 5 (.mv (.t 7))⟩,
    ⟨none, .val 8 (.ext 5 0)⟩,
    ⟨none, .val 9 (.ext 5 1)⟩,
    ⟨none, .val 1 (.mv (.t 8))⟩,
    ⟨none, .val 2 (.mv (.t 9))⟩] false [.forget [5, 6, 7, 8, 9]]
abbrev law_nthBegun_r2 : HCode := .reg [⟨none, .call (some 11) fn_nth_Read [(.c (sv [45, 49, 110, 43, 51]), .v)]⟩,
    ⟨none, .val 10 (.mv (.t 11))⟩,
    ⟨none, .val 12 (.ext 10 0)⟩,
    ⟨none, .val 13 (.ext 10 1)⟩,
    ⟨none, .alloc 3 0 42 [.v (.int .i64 0), .v (.int .i64 0)]⟩,
    ⟨none, .sto (.t 3) 0 42 0 2 (.t 12)⟩,
    ⟨none, .val 4 (.mv (.t 13))⟩] false [.forget [10, 11, 12, 13]]
abbrev law_nthBegun_r3 : HCode := .reg [⟨none, .val 14 (.mv (.t 2))⟩,
    ⟨none, .val 15 (.ints .eql (.t 14) (.c (iv 0)))⟩,
    ⟨none, .val 16 (.mv (.t 15))⟩,
    ⟨some (16, true), .val 17 (.mv (.t 4))⟩,
    ⟨some (16, true), .val 18 (.ints .eql (.t 17) (.c (iv 0)))⟩,
    ⟨none, .val 19 (.pick (.t 16) (.t 18) (.c (bv false)))⟩,
    ⟨none, .val 20 (.mv (.t 19))⟩,
    ⟨some (20, true), .val 21 (.mv (.t 1))⟩,
    ⟨some (20, true), .val 22 (.strs .eql (.t 21) (.c (sv [50, 110, 45, 49])))⟩,
    ⟨none, .val 23 (.pick (.t 20) (.t 22) (.c (bv false)))⟩,
    ⟨none, .val 24 (.mv (.t 23))⟩,
    ⟨some (24, true), .val 25 (.ldB (.t 3) 0 42 0 2 true)⟩,
    ⟨some (24, true), .val 26 (.bld [.v (.int .i64 0), .v (.int .i64 0)] [(0, 1, .c (iv (-1))), (1, 1, .c (iv 3))])⟩,
    ⟨some (24, true), .val 27 (.steq false [0, 0] (.t 25) (.t 26))⟩,
    ⟨none, .val 28 (.pick (.t 24) (.t 27) (.c (bv false)))⟩,
    ⟨none, .val 29 (.mv (.t 28))⟩,
    ⟨some (29, true), .val 30 (.ldB (.t 3) 0 42 0 2 true)⟩,
    ⟨some (29, true), .call (some 31) fn_nth_Holds [(.t 30, .v), (.c (iv 3), .v)]⟩,
    ⟨none, .val 32 (.pick (.t 29) (.t 31) (.c (bv false)))⟩,
    ⟨none, .val 33 (.mv (.t 32))⟩,
    ⟨some (33, true), .val 34 (.ldB (.t 3) 0 42 0 2 true)⟩,
    ⟨some (33, true), .call (some 35) fn_nth_Holds [(.t 34, .v), (.c (iv 4), .v)]⟩,
    ⟨some (33, true), .val 36 (.not (.t 35))⟩,
    ⟨none, .val 37 (.pick (.t 33) (.t 36) (.c (bv false)))⟩,
    ⟨none, .val 38 (.mv (.t 37))⟩,
    ⟨some (38, true), .val 39 (.bld [.v (.int .i64 0), .v (.int .i64 0)] [(0, 1, .c (iv 2)), (1, 1, .c (iv (-1)))])⟩,
    ⟨some (38, true), .call (some 40) fn_nth_Holds [(.t 39, .v), (.c (iv 5), .v)]⟩,
    ⟨none, .val 41 (.pick (.t 38) (.t 40) (.c (bv false)))⟩,
    ⟨none, .val 0 (.mv (.t 41))⟩] false [.forget [14, 15, 16, 17, 18, 19, 20, 21, 22, 23, 24, 25, 26, 27, 28, 29, 30, 31, 32, 33, 34, 35, 36, 37, 38, 39, 40, 41]]
abbrev law_nthBegun : HCode := (.seq law_nthBegun_r0 (.seq law_nthBegun_r1 (.seq law_nthBegun_r2 (.seq law_nthBegun_r3 .ret))))
abbrev law_nthBegun_E : Env := { N := 42, Γ := [(42, 2)], L := 44, nfix := 0 }
abbrev law_nthBegun_R : List RSrc := [.tmp 0]
theorem mk_law_nthBegun {base : Nat} {av : List AV} {r : RV} (hfo : formOk law_nthBegun_E base av) (hW : AVs.fits av → hwp Tryd.prog law_nthBegun (finQ law_nthBegun_E base av law_nthBegun_R r) (F0 law_nthBegun_E base av)) (hov : ∀ x, r.res = .ov x → nOwn av = 0 := by intro x h; cases h <;> rfl) : Contract Tryd.prog fn_law_nthBegun av r :=
  contract_of_wp (fn := Tryd.f49) (c := Tryd.f49.body.getD .skip) (by kernel_rfl) (by kernel_rfl) (by kernel_rfl) (by kernel_rfl) (by kernel_rfl) (by kernel_rfl) (by kernel_rfl) hfo hW hov
abbrev law_NthTells_r0 : HCode := .reg [⟨none, .val 3 (.boxF (.t 0))⟩,
    ⟨none, .val 6 (.mv (.c (bv false)))⟩] false []
abbrev law_NthTells_r1 : HCode := .reg [⟨none, .val 17 (.ldR (.t 3) 2 true)⟩,
    ⟨none, .call (some 18) fn_nth_Show [(.t 17, .v)]⟩,
    ⟨none, .val 16 (.mv (.t 18))⟩,
    ⟨none, .val 19 (.ext 16 0)⟩,
    ⟨none, .val 20 (.ext 16 1)⟩,
    ⟨none, .val 7 (.mv (.t 19))⟩,
    ⟨none, .val 8 (.mv (.t 20))⟩] false [.forget [16, 17, 18, 19, 20]]
abbrev law_NthTells_r2 : HCode := .reg [⟨none, .val 21 (.ldR (.t 3) 2 true)⟩,
    ⟨none, .call (some 22) fn_ref_CheckNth [(.t 21, .v)]⟩,
    ⟨none, .val 9 (.mv (.t 22))⟩] false [.forget [21, 22]]
abbrev law_NthTells_r3 : HCode := .reg [⟨none, .val 10 (.mv (.c (sv [])))⟩] false []
abbrev law_NthTells_r4 : HCode := .reg [⟨none, .val 23 (.mv (.t 9))⟩,
    ⟨none, .val 24 (.ints .eql (.t 23) (.c (iv 0)))⟩] false [.forget [23]]
abbrev law_NthTells_r5 : HCode := .reg [⟨none, .val 25 (.ldR (.t 3) 2 true)⟩,
    ⟨none, .call (some 26) fn_ref_NthText [(.t 25, .v)]⟩,
    ⟨none, .val 10 (.mv (.t 26))⟩] false [.forget [25, 26]]
abbrev law_NthTells_r6 : HCode := .reg [⟨none, .val 28 (.mv (.t 2))⟩,
    ⟨none, .call (some 29) fn_nth_Read [(.t 28, .v)]⟩,
    ⟨none, .val 27 (.mv (.t 29))⟩,
    ⟨none, .val 30 (.ext 27 0)⟩,
    ⟨none, .val 31 (.ext 27 1)⟩,
    ⟨none, .alloc 11 0 75 [.v (.int .i64 0), .v (.int .i64 0)]⟩,
    ⟨none, .sto (.t 11) 0 75 0 2 (.t 30)⟩,
    ⟨none, .val 12 (.mv (.t 31))⟩] false [.forget [27, 28, 29, 30, 31]]
abbrev law_NthTells_r7 : HCode := .reg [⟨none, .val 33 (.mv (.t 2))⟩,
    ⟨none, .call (some 34) fn_ref_NthFrom [(.t 33, .v)]⟩,
    ⟨none, .val 32 (.mv (.t 34))⟩,
    ⟨none, .val 35 (.ext 32 0)⟩,
    ⟨none, .val 36 (.ext 32 1)⟩,
    ⟨none, .alloc 13 1 77 [.v (.int .i64 0), .v (.int .i64 0)]⟩,
    ⟨none, .sto (.t 13) 1 77 0 2 (.t 35)⟩,
    ⟨none, .val 14 (.mv (.t 36))⟩] false [.forget [32, 33, 34, 35, 36]]
abbrev law_NthTells_r8 : HCode := .reg [⟨none, .val 15 (.mv (.c (iv 0)))⟩] false []
abbrev law_NthTells_r9 : HCode := .reg [⟨none, .val 37 (.mv (.t 14))⟩,
    ⟨none, .val 38 (.not (.t 37))⟩] false [.forget [37]]
abbrev law_NthTells_r10 : HCode := .reg [⟨none, .val 15 (.mv (.c (iv 1)))⟩] false []
abbrev law_NthTells_r11 : HCode := .drg [⟨0, true, ⟨none, .call (some 39) fn_law_nthBegun []⟩⟩,
    ⟨1, false, ⟨none, .val 40 (.mv (.t 39))⟩⟩,
    ⟨2, false, ⟨some (40, true), .val 41 (.ldR (.t 3) 2 true)⟩⟩,
    ⟨3, false, ⟨some (40, true), .call (some 42) fn_nth_Check [(.t 41, .v)]⟩⟩,
    ⟨4, false, ⟨some (40, true), .val 43 (.mv (.t 9))⟩⟩,
    ⟨5, false, ⟨some (40, true), .val 44 (.ints .eql (.t 42) (.t 43))⟩⟩,
    ⟨6, false, ⟨none, .val 45 (.pick (.t 40) (.t 44) (.c (bv false)))⟩⟩,
    ⟨7, false, ⟨none, .val 46 (.mv (.t 45))⟩⟩,
    ⟨8, false, ⟨some (46, true), .val 47 (.ldR (.t 3) 2 true)⟩⟩,
    ⟨9, false, ⟨some (46, true), .val 48 (.mv (.t 1))⟩⟩,
    ⟨10, false, ⟨some (46, true), .call (some 49) fn_nth_Holds [(.t 47, .v), (.t 48, .v)]⟩⟩,
    ⟨11, false, ⟨some (46, true), .val 50 (.ldR (.t 3) 2 true)⟩⟩,
    ⟨12, false, ⟨some (46, true), .val 51 (.mv (.t 1))⟩⟩,
    ⟨13, true, ⟨some (46, true), .call (some 52) fn_ref_NthHolds [(.t 50, .v), (.t 51, .v)]⟩⟩,
    ⟨14, false, ⟨some (46, true), .val 53 (.boo false (.t 49) (.t 52))⟩⟩,
    ⟨15, false, ⟨none, .val 54 (.pick (.t 46) (.t 53) (.c (bv false)))⟩⟩,
    ⟨16, false, ⟨none, .val 55 (.mv (.t 54))⟩⟩,
    ⟨17, false, ⟨some (55, true), .val 56 (.mv (.t 7))⟩⟩,
    ⟨18, false, ⟨some (55, true), .val 57 (.mv (.t 10))⟩⟩,
    ⟨19, false, ⟨some (55, true), .val 58 (.strs .eql (.t 56) (.t 57))⟩⟩,
    ⟨20, false, ⟨none, .val 59 (.pick (.t 55) (.t 58) (.c (bv false)))⟩⟩,
    ⟨21, false, ⟨none, .val 60 (.mv (.t 59))⟩⟩,
    ⟨22, false, ⟨some (60, true), .val 61 (.mv (.t 8))⟩⟩,
    ⟨23, false, ⟨some (60, true), .val 62 (.mv (.t 9))⟩⟩,
    ⟨24, false, ⟨some (60, true), .val 63 (.ints .eql (.t 61) (.t 62))⟩⟩,
    ⟨25, false, ⟨none, .val 64 (.pick (.t 60) (.t 63) (.c (bv false)))⟩⟩,
    ⟨26, false, ⟨none, .val 65 (.mv (.t 64))⟩⟩,
    ⟨27, false, ⟨some (65, true), .val 66 (.ldB (.t 11) 0 75 0 2 true)⟩⟩,
    ⟨28, false, ⟨some (65, true), .val 67 (.ldB (.t 13) 1 77 0 2 true)⟩⟩,
    ⟨29, false, ⟨some (65, true), .val 68 (.steq false [0, 0] (.t 66) (.t 67))⟩⟩,
    ⟨30, false, ⟨none, .val 69 (.pick (.t 65) (.t 68) (.c (bv false)))⟩⟩,
    ⟨31, false, ⟨none, .val 70 (.mv (.t 69))⟩⟩,
    ⟨32, false, ⟨some (70, true), .val 71 (.mv (.t 12))⟩⟩,
    ⟨33, false, ⟨some (70, true), .val 72 (.mv (.t 15))⟩⟩,
    ⟨34, false, ⟨some (70, true), .val 73 (.ints .eql (.t 71) (.t 72))⟩⟩,
    ⟨35, false, ⟨none, .val 74 (.pick (.t 70) (.t 73) (.c (bv false)))⟩⟩,
    ⟨36, false, ⟨none, .val 6 (.mv (.t 74))⟩⟩] [.forget [39, 40, 41, 42, 43, 44, 45, 46, 47, 48, 49, 50, 51, 52, 53, 54, 55, 56, 57, 58, 59, 60, 61, 62, 63, 64, 65, 66, 67, 68, 69, 70, 71, 72, 73, 74]]
abbrev law_NthTells : HCode := (.seq law_NthTells_r0 (.seq law_NthTells_r1 (.seq law_NthTells_r2 (.seq law_NthTells_r3 (.seq (.seq law_NthTells_r4 (.cond (.t 24) law_NthTells_r5 .skip)) (.seq law_NthTells_r6 (.seq law_NthTells_r7 (.seq law_NthTells_r8 (.seq (.seq law_NthTells_r9 (.cond (.t 38) law_NthTells_r10 .skip)) (.seq law_NthTells_r11 .ret))))))))))
abbrev law_NthTells_E : Env := { N := 75, Γ := [(75, 2), (77, 2)], L := 79, nfix := 0 }
abbrev law_NthTells_R : List RSrc := [.tmp 6]
theorem mk_law_NthTells {base : Nat} {av : List AV} {r : RV} (hfo : formOk law_NthTells_E base av) (hW : AVs.fits av → hwp Tryd.prog law_NthTells (finQ law_NthTells_E base av law_NthTells_R r) (F0 law_NthTells_E base av)) (hov : ∀ x, r.res = .ov x → nOwn av = 0 := by intro x h; cases h <;> rfl) : Contract Tryd.prog fn_law_NthTells av r :=
  contract_of_wp (fn := Tryd.f10) (c := Tryd.f10.body.getD .skip) (by kernel_rfl) (by kernel_rfl) (by kernel_rfl) (by kernel_rfl) (by kernel_rfl) (by kernel_rfl) (by kernel_rfl) hfo hW hov
abbrev law_NthTrue_r0 : HCode := .reg [⟨none, .val 3 (.boxF (.t 0))⟩,
    ⟨none, .val 6 (.mv (.c (bv false)))⟩] false []
abbrev law_NthTrue_r1 : HCode := .reg [⟨none, .val 16 (.ldR (.t 3) 2 true)⟩,
    ⟨none, .call (some 17) fn_nth_Check [(.t 16, .v)]⟩,
    ⟨none, .val 18 (.ints .eql (.t 17) (.c (iv 0)))⟩] false [.forget [16, 17]]
abbrev law_NthTrue_r2 : HCode := .reg [⟨none, .val 19 (.fldR (.t 3) 1 1)⟩,
    ⟨none, .val 20 (.ldR (.t 19) 1 false)⟩,
    ⟨none, .val 21 (.ints .geq (.t 20) (.c (iv 1)))⟩,
    ⟨none, .val 22 (.mv (.t 21))⟩,
    ⟨some (22, true), .val 23 (.ldR (.t 3) 2 true)⟩,
    ⟨some (22, true), .val 24 (.fldR (.t 3) 1 1)⟩,
    ⟨some (22, true), .val 25 (.ldR (.t 24) 1 false)⟩,
    ⟨some (22, true), .call (some 26) fn_nth_Holds [(.t 23, .v), (.t 25, .v)]⟩,
    ⟨some (22, true), .val 27 (.not (.t 26))⟩,
    ⟨none, .val 28 (.pick (.t 22) (.t 27) (.c (bv false)))⟩] false [.forget [19, 20, 21, 22, 23, 24, 25, 26, 27]]
abbrev law_NthTrue_r3 : HCode := .reg [⟨none, .val 6 (.mv (.c (bv false)))⟩] false []
abbrev law_NthTrue_r4 : HCode := .reg [⟨none, .val 29 (.mv (.t 1))⟩,
    ⟨none, .call (some 30) fn_law_choose [(.t 29, .v), (.c (iv 2097152), .v)]⟩,
    ⟨none, .val 31 (.ints .add (.c (iv 1)) (.t 30))⟩,
    ⟨none, .val 7 (.mv (.t 31))⟩] false [.forget [29, 30, 31]]
abbrev law_NthTrue_r5 : HCode := .reg [⟨none, .val 32 (.ldR (.t 3) 2 true)⟩,
    ⟨none, .val 33 (.mv (.t 7))⟩,
    ⟨none, .call (some 34) fn_nth_Holds [(.t 32, .v), (.t 33, .v)]⟩,
    ⟨none, .val 35 (.mv (.t 34))⟩,
    ⟨some (35, true), .val 36 (.mv (.t 7))⟩,
    ⟨some (35, true), .val 37 (.fldR (.t 3) 0 1)⟩,
    ⟨some (35, true), .val 38 (.ldR (.t 37) 1 false)⟩,
    ⟨some (35, true), .val 39 (.ints .add (.t 36) (.t 38))⟩,
    ⟨some (35, true), .val 40 (.ints .geq (.t 39) (.c (iv 1)))⟩,
    ⟨none, .val 41 (.pick (.t 35) (.t 40) (.c (bv false)))⟩,
    ⟨none, .val 42 (.mv (.t 41))⟩,
    ⟨some (42, true), .val 43 (.ldR (.t 3) 2 true)⟩,
    ⟨some (42, true), .val 44 (.mv (.t 7))⟩,
    ⟨some (42, true), .val 45 (.fldR (.t 3) 0 1)⟩,
    ⟨some (42, true), .val 46 (.ldR (.t 45) 1 false)⟩,
    ⟨some (42, true), .val 47 (.ints .add (.t 44) (.t 46))⟩,
    ⟨some (42, true), .call (some 48) fn_nth_Holds [(.t 43, .v), (.t 47, .v)]⟩,
    ⟨some (42, true), .val 49 (.not (.t 48))⟩,
    ⟨none, .val 50 (.pick (.t 42) (.t 49) (.c (bv false)))⟩] false [.forget [32, 33, 34, 35, 36, 37, 38, 39, 40, 41, 42, 43, 44, 45, 46, 47, 48, 49]]
abbrev law_NthTrue_r6 : HCode := .reg [⟨none, .val 6 (.mv (.c (bv false)))⟩] false []
abbrev law_NthTrue_r7 : HCode := .reg [⟨none, .val 51 (.ldR (.t 3) 2 true)⟩,
    ⟨none, .val 52 (.mv (.t 7))⟩,
    ⟨none, .call (some 53) fn_nth_Holds [(.t 51, .v), (.t 52, .v)]⟩,
    ⟨none, .val 54 (.not (.t 53))⟩,
    ⟨none, .val 55 (.mv (.t 54))⟩,
    ⟨some (55, true), .val 56 (.ldR (.t 3) 2 true)⟩,
    ⟨some (55, true), .val 57 (.mv (.t 7))⟩,
    ⟨some (55, true), .val 58 (.fldR (.t 3) 0 1)⟩,
    ⟨some (55, true), .val 59 (.ldR (.t 58) 1 false)⟩,
    ⟨some (55, true), .val 60 (.ints .add (.t 57) (.t 59))⟩,
    ⟨some (55, true), .call (some 61) fn_nth_Holds [(.t 56, .v), (.t 60, .v)]⟩,
    ⟨none, .val 62 (.pick (.t 55) (.t 61) (.c (bv false)))⟩,
    ⟨none, .val 63 (.mv (.t 62))⟩,
    ⟨some (63, true), .val 64 (.mv (.t 7))⟩,
    ⟨some (63, true), .val 65 (.fldR (.t 3) 0 1)⟩,
    ⟨some (63, true), .val 66 (.ldR (.t 65) 1 false)⟩,
    ⟨some (63, true), .val 67 (.ints .add (.t 64) (.t 66))⟩,
    ⟨some (63, true), .val 68 (.fldR (.t 3) 1 1)⟩,
    ⟨some (63, true), .val 69 (.ldR (.t 68) 1 false)⟩,
    ⟨some (63, true), .val 70 (.ints .neq (.t 67) (.t 69))⟩,
    ⟨none, .val 71 (.pick (.t 63) (.t 70) (.c (bv false)))⟩] false [.forget [51, 52, 53, 54, 55, 56, 57, 58, 59, 60, 61, 62, 63, 64, 65, 66, 67, 68, 69, 70]]
abbrev law_NthTrue_r8 : HCode := .reg [⟨none, .val 6 (.mv (.c (bv false)))⟩] false []
abbrev law_NthTrue_r9 : HCode := .reg [⟨none, .val 73 (.ldR (.t 3) 2 true)⟩,
    ⟨none, .call (some 74) fn_nth_Show [(.t 73, .v)]⟩,
    ⟨none, .val 72 (.mv (.t 74))⟩,
    ⟨none, .val 75 (.ext 72 0)⟩,
    ⟨none, .val 76 (.ext 72 1)⟩,
    ⟨none, .val 8 (.mv (.t 75))⟩,
    ⟨none, .val 9 (.mv (.t 76))⟩] false [.forget [72, 73, 74, 75, 76]]
abbrev law_NthTrue_r10 : HCode := .reg [⟨none, .val 78 (.mv (.t 8))⟩,
    ⟨none, .call (some 79) fn_nth_Read [(.t 78, .v)]⟩,
    ⟨none, .val 77 (.mv (.t 79))⟩,
    ⟨none, .val 80 (.ext 77 0)⟩,
    ⟨none, .val 81 (.ext 77 1)⟩,
    ⟨none, .alloc 10 0 116 [.v (.int .i64 0), .v (.int .i64 0)]⟩,
    ⟨none, .sto (.t 10) 0 116 0 2 (.t 80)⟩,
    ⟨none, .val 11 (.mv (.t 81))⟩] false [.forget [77, 78, 79, 80, 81]]
abbrev law_NthTrue_r11 : HCode := .reg [⟨none, .val 82 (.mv (.t 9))⟩,
    ⟨none, .val 83 (.ints .neq (.t 82) (.c (iv 0)))⟩,
    ⟨none, .val 84 (.mv (.t 83))⟩,
    ⟨some (84, false), .val 85 (.mv (.t 11))⟩,
    ⟨some (84, false), .val 86 (.ints .neq (.t 85) (.c (iv 0)))⟩,
    ⟨none, .val 87 (.pick (.t 84) (.c (bv true)) (.t 86))⟩,
    ⟨none, .val 88 (.mv (.t 87))⟩,
    ⟨some (88, false), .val 89 (.ldB (.t 10) 0 116 0 2 true)⟩,
    ⟨some (88, false), .val 90 (.ldR (.t 3) 2 true)⟩,
    ⟨some (88, false), .val 91 (.steq true [0, 0] (.t 89) (.t 90))⟩,
    ⟨none, .val 92 (.pick (.t 88) (.c (bv true)) (.t 91))⟩] false [.forget [82, 83, 84, 85, 86, 87, 88, 89, 90, 91]]
abbrev law_NthTrue_r12 : HCode := .reg [⟨none, .val 6 (.mv (.c (bv false)))⟩] false []
abbrev law_NthTrue_r13 : HCode := .reg [⟨none, .val 94 (.mv (.t 2))⟩,
    ⟨none, .call (some 95) fn_nth_Read [(.t 94, .v)]⟩,
    ⟨none, .val 93 (.mv (.t 95))⟩,
    ⟨none, .val 96 (.ext 93 0)⟩,
    ⟨none, .val 97 (.ext 93 1)⟩,
    ⟨none, .alloc 12 1 118 [.v (.int .i64 0), .v (.int .i64 0)]⟩,
    ⟨none, .sto (.t 12) 1 118 0 2 (.t 96)⟩,
    ⟨none, .val 13 (.mv (.t 97))⟩] false [.forget [93, 94, 95, 96, 97]]
abbrev law_NthTrue_r14 : HCode := .reg [⟨none, .val 98 (.mv (.t 13))⟩,
    ⟨none, .val 99 (.ints .neq (.t 98) (.c (iv 0)))⟩] false [.forget [98]]
abbrev law_NthTrue_r15 : HCode := .reg [⟨none, .call (some 100) fn_law_nthBegun []⟩,
    ⟨none, .val 6 (.mv (.t 100))⟩] false [.forget [100]]
abbrev law_NthTrue_r16 : HCode := .reg [⟨none, .val 102 (.ldB (.t 12) 1 118 0 2 true)⟩,
    ⟨none, .call (some 103) fn_nth_Show [(.t 102, .v)]⟩,
    ⟨none, .val 101 (.mv (.t 103))⟩,
    ⟨none, .val 104 (.ext 101 0)⟩,
    ⟨none, .val 105 (.ext 101 1)⟩,
    ⟨none, .val 14 (.mv (.t 104))⟩,
    ⟨none, .val 15 (.mv (.t 105))⟩] false [.forget [101, 102, 103, 104, 105]]
abbrev law_NthTrue_r17 : HCode := .reg [⟨none, .call (some 106) fn_law_nthBegun []⟩,
    ⟨none, .val 107 (.mv (.t 106))⟩,
    ⟨some (107, true), .val 108 (.mv (.t 15))⟩,
    ⟨some (107, true), .val 109 (.ints .eql (.t 108) (.c (iv 0)))⟩,
    ⟨none, .val 110 (.pick (.t 107) (.t 109) (.c (bv false)))⟩,
    ⟨none, .val 111 (.mv (.t 110))⟩,
    ⟨some (111, true), .val 112 (.mv (.t 14))⟩,
    ⟨some (111, true), .val 113 (.mv (.t 2))⟩,
    ⟨some (111, true), .val 114 (.strs .eql (.t 112) (.t 113))⟩,
    ⟨none, .val 115 (.pick (.t 111) (.t 114) (.c (bv false)))⟩,
    ⟨none, .val 6 (.mv (.t 115))⟩] false [.forget [106, 107, 108, 109, 110, 111, 112, 113, 114, 115]]
abbrev law_NthTrue : HCode := (.seq law_NthTrue_r0 (.seq (.seq law_NthTrue_r1 (.cond (.t 18) (.seq (.seq law_NthTrue_r2 (.cond (.t 28) (.seq law_NthTrue_r3 .ret) .skip)) (.seq law_NthTrue_r4 (.seq (.seq law_NthTrue_r5 (.cond (.t 50) (.seq law_NthTrue_r6 .ret) .skip)) (.seq (.seq law_NthTrue_r7 (.cond (.t 71) (.seq law_NthTrue_r8 .ret) .skip)) (.seq law_NthTrue_r9 (.seq law_NthTrue_r10 (.seq law_NthTrue_r11 (.cond (.t 92) (.seq law_NthTrue_r12 .ret) .skip)))))))) .skip)) (.seq law_NthTrue_r13 (.seq (.seq law_NthTrue_r14 (.cond (.t 99) (.seq law_NthTrue_r15 .ret) .skip)) (.seq law_NthTrue_r16 (.seq law_NthTrue_r17 .ret))))))
abbrev law_NthTrue_E : Env := { N := 116, Γ := [(116, 2), (118, 2)], L := 120, nfix := 0 }
abbrev law_NthTrue_R : List RSrc := [.tmp 6]
theorem mk_law_NthTrue {base : Nat} {av : List AV} {r : RV} (hfo : formOk law_NthTrue_E base av) (hW : AVs.fits av → hwp Tryd.prog law_NthTrue (finQ law_NthTrue_E base av law_NthTrue_R r) (F0 law_NthTrue_E base av)) (hov : ∀ x, r.res = .ov x → nOwn av = 0 := by intro x h; cases h <;> rfl) : Contract Tryd.prog fn_law_NthTrue av r :=
  contract_of_wp (fn := Tryd.f11) (c := Tryd.f11.body.getD .skip) (by kernel_rfl) (by kernel_rfl) (by kernel_rfl) (by kernel_rfl) (by kernel_rfl) (by kernel_rfl) (by kernel_rfl) hfo hW hov
abbrev law_choose_r0 : HCode := .reg [⟨none, .val 4 (.mv (.c (iv 0)))⟩] false []
abbrev law_choose_r1 : HCode := .reg [⟨none, .val 5 (.mv (.t 0))⟩,
    ⟨none, .val 6 (.ints .lss (.t 5) (.c (iv 0)))⟩] false [.forget [5]]
abbrev law_choose_r2 : HCode := .reg [⟨none, .val 7 (.mv (.t 0))⟩,
    ⟨none, .val 8 (.ints .add (.t 7) (.c (iv 1)))⟩,
    ⟨none, .val 9 (.neg (.t 8))⟩,
    ⟨none, .val 0 (.mv (.t 9))⟩] false [.forget [7, 8, 9]]
abbrev law_choose_r3 : HCode := .reg [⟨none, .val 10 (.mv (.t 0))⟩,
    ⟨none, .val 11 (.mv (.t 1))⟩,
    ⟨none, .val 12 (.ints .rem (.t 10) (.t 11))⟩,
    ⟨none, .val 4 (.mv (.t 12))⟩] false [.forget [10, 11, 12]]
abbrev law_choose : HCode := (.seq law_choose_r0 (.seq (.seq law_choose_r1 (.cond (.t 6) law_choose_r2 .skip)) (.seq law_choose_r3 .ret)))
abbrev law_choose_E : Env := { N := 13, Γ := [], L := 13, nfix := 0 }
abbrev law_choose_R : List RSrc := [.tmp 4]
theorem mk_law_choose {base : Nat} {av : List AV} {r : RV} (hfo : formOk law_choose_E base av) (hW : AVs.fits av → hwp Tryd.prog law_choose (finQ law_choose_E base av law_choose_R r) (F0 law_choose_E base av)) (hov : ∀ x, r.res = .ov x → nOwn av = 0 := by intro x h; cases h <;> rfl) : Contract Tryd.prog fn_law_choose av r :=
  contract_of_wp (fn := Tryd.f53) (c := Tryd.f53.body.getD .skip) (by kernel_rfl) (by kernel_rfl) (by kernel_rfl) (by kernel_rfl) (by kernel_rfl) (by kernel_rfl) (by kernel_rfl) hfo hW hov
end Go.Hx
