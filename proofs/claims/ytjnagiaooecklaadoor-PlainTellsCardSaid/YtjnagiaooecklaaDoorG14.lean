/-
  The abstract code of functions of the program, printed by gen.py; each stands for the given one. No condition.
-/
import Derived.Test.YtjnagiaooecklaaDoorProg
import Derived.Test.YtjnagiaooecklaaDoorG8
import Derived.Test.YtjnagiaooecklaaDoorG12
set_option linter.all false
namespace Go.Hx
open Go.Proofs
variable [Glob]
abbrev fn_law_NthTells : Nat := 10
abbrev fn_law_NthTrue : Nat := 11
abbrev fn_law_choose : Nat := 53
abbrev fn_law_nthBegun : Nat := 49
abbrev fn_nth_Check : Nat := 50
abbrev fn_nth_Holds : Nat := 51
abbrev fn_nth_Read : Nat := 47
abbrev fn_nth_Show : Nat := 44
abbrev fn_ref_CheckNth : Nat := 45
abbrev fn_ref_Digits : Nat := 104
abbrev fn_ref_NthFrom : Nat := 48
abbrev fn_ref_NthHolds : Nat := 52
abbrev fn_ref_NthText : Nat := 46
abbrev fn_ref_reader_nth : Nat := 107
abbrev fn_ref_reader_number : Nat := 146
abbrev fn_ref_reader_sign : Nat := 140
abbrev fn_strconv_Atoi : Nat := 106
abbrev fn_strconv_Itoa : Nat := 103
abbrev fn_strings_Cut : Nat := 105
abbrev nth_Check_r0 : HCode := .reg [⟨none, .val 1 (.boxF (.t 0))⟩,
    ⟨none, .val 2 (.mv (.c (iv 0)))⟩] false []
abbrev nth_Check_r1 : HCode := .reg [⟨none, .val 5 (.fldR (.t 1) 0 1)⟩,
    ⟨none, .val 6 (.ldR (.t 5) 1 false)⟩,
    ⟨none, .val 7 (.fldR (.t 1) 1 1)⟩,
    ⟨none, .val 8 (.ldR (.t 7) 1 false)⟩,
    ⟨none, .val 9 (.bld [.v (.int .i64 0), .v (.int .i64 0)] [(0, 1, .t 6), (1, 1, .t 8)])⟩,
    ⟨none, .val 10 (.mv (.c (iv 0)))⟩] false [.forget [5, 6, 7, 8]]
abbrev nth_Check_r2 : HCode := .reg [⟨none, .val 11 (.ints .lss (.t 10) (.c (iv 2)))⟩] false []
abbrev nth_Check_r3 : HCode := .reg [⟨none, .val 12 (.idxV 2 (.t 9) (.t 10))⟩,
    ⟨none, .val 4 (.mv (.t 12))⟩] false [.forget [12]]
abbrev nth_Check_r4 : HCode := .reg [⟨none, .val 13 (.mv (.t 4))⟩,
    ⟨none, .val 14 (.ints .lss (.t 13) (.c (iv (-1048576))))⟩,
    ⟨none, .val 15 (.mv (.t 14))⟩,
    ⟨some (15, false), .val 16 (.mv (.t 4))⟩,
    ⟨some (15, false), .val 17 (.ints .gtr (.t 16) (.c (iv 1048576)))⟩,
    ⟨none, .val 18 (.pick (.t 15) (.c (bv true)) (.t 17))⟩] false [.forget [13, 14, 15, 16, 17]]
abbrev nth_Check_r5 : HCode := .reg [⟨none, .val 2 (.mv (.c (iv 3)))⟩] false []
abbrev nth_Check_r6 : HCode := .reg [⟨none, .val 19 (.ints .add (.t 10) (.c (iv 1)))⟩,
    ⟨none, .val 10 (.mv (.t 19))⟩] false [.forget [19]]
abbrev nth_Check_r7 : HCode := .reg [⟨none, .val 2 (.mv (.c (iv 0)))⟩] false []
abbrev nth_Check : HCode := (.seq nth_Check_r0 (.seq (.seq nth_Check_r1 (.block 0 (.loop (.seq nth_Check_r2 (.seq (.cond (.t 11) .skip (.exit 0)) (.seq (.block 1 (.seq nth_Check_r3 (.seq nth_Check_r4 (.cond (.t 18) (.seq nth_Check_r5 .ret) .skip)))) nth_Check_r6)))))) (.seq nth_Check_r7 .ret)))
abbrev nth_Check_E : Env := { N := 20, Γ := [], L := 20, nfix := 0 }
abbrev nth_Check_R : List RSrc := [.tmp 2]
theorem mk_nth_Check {base : Nat} {av : List AV} {r : RV} (hfo : formOk nth_Check_E base av) (hW : AVs.fits av → hwp Tryd.prog nth_Check (finQ nth_Check_E base av nth_Check_R r) (F0 nth_Check_E base av)) (hov : ∀ x, r.res = .ov x → nOwn av = 0 := by intro x h; cases h <;> rfl) : Contract Tryd.prog fn_nth_Check av r :=
  contract_of_wp (fn := Tryd.f50) (c := Tryd.f50.body.getD .skip) (by kernel_rfl) (by kernel_rfl) (by kernel_rfl) (by kernel_rfl) (by kernel_rfl) (by kernel_rfl) (by kernel_rfl) hfo hW hov
abbrev nth_Holds_r0 : HCode := .reg [⟨none, .val 2 (.boxF (.t 0))⟩,
    ⟨none, .val 4 (.mv (.c (bv false)))⟩] false []
abbrev nth_Holds_r1 : HCode := .reg [⟨none, .val 6 (.ldR (.t 2) 2 true)⟩,
    ⟨none, .call (some 7) fn_nth_Check [(.t 6, .v)]⟩,
    ⟨none, .val 8 (.ints .neq (.t 7) (.c (iv 0)))⟩,
    ⟨none, .val 9 (.mv (.t 8))⟩,
    ⟨some (9, false), .val 10 (.mv (.t 1))⟩,
    ⟨some (9, false), .val 11 (.ints .lss (.t 10) (.c (iv 1)))⟩,
    ⟨none, .val 12 (.pick (.t 9) (.c (bv true)) (.t 11))⟩,
    ⟨none, .val 13 (.mv (.t 12))⟩,
    ⟨some (13, false), .val 14 (.mv (.t 1))⟩,
    ⟨some (13, false), .val 15 (.ints .gtr (.t 14) (.c (iv 1073741824)))⟩,
    ⟨none, .val 16 (.pick (.t 13) (.c (bv true)) (.t 15))⟩] false [.forget [6, 7, 8, 9, 10, 11, 12, 13, 14, 15]]
abbrev nth_Holds_r2 : HCode := .reg [⟨none, .val 4 (.mv (.c (bv false)))⟩] false []
abbrev nth_Holds_r3 : HCode := .reg [⟨none, .val 17 (.mv (.t 1))⟩,
    ⟨none, .val 18 (.fldR (.t 2) 1 1)⟩,
    ⟨none, .val 19 (.ldR (.t 18) 1 false)⟩,
    ⟨none, .val 20 (.ints .sub (.t 17) (.t 19))⟩,
    ⟨none, .val 5 (.mv (.t 20))⟩] false [.forget [17, 18, 19, 20]]
abbrev nth_Holds_r4 : HCode := .reg [⟨none, .val 21 (.fldR (.t 2) 0 1)⟩,
    ⟨none, .val 22 (.ldR (.t 21) 1 false)⟩,
    ⟨none, .val 23 (.ints .eql (.t 22) (.c (iv 0)))⟩] false [.forget [21, 22]]
abbrev nth_Holds_r5 : HCode := .reg [⟨none, .val 24 (.mv (.t 5))⟩,
    ⟨none, .val 25 (.ints .eql (.t 24) (.c (iv 0)))⟩,
    ⟨none, .val 4 (.mv (.t 25))⟩] false [.forget [24, 25]]
abbrev nth_Holds_r6 : HCode := .reg [⟨none, .val 26 (.mv (.t 5))⟩,
    ⟨none, .val 27 (.fldR (.t 2) 0 1)⟩,
    ⟨none, .val 28 (.ldR (.t 27) 1 false)⟩,
    ⟨none, .val 29 (.ints .rem (.t 26) (.t 28))⟩,
    ⟨none, .val 30 (.ints .eql (.t 29) (.c (iv 0)))⟩,
    ⟨none, .val 31 (.mv (.t 30))⟩,
    ⟨some (31, true), .val 32 (.mv (.t 5))⟩,
    ⟨some (31, true), .val 33 (.fldR (.t 2) 0 1)⟩,
    ⟨some (31, true), .val 34 (.ldR (.t 33) 1 false)⟩,
    ⟨some (31, true), .val 35 (.ints .quo (.t 32) (.t 34))⟩,
    ⟨some (31, true), .val 36 (.ints .geq (.t 35) (.c (iv 0)))⟩,
    ⟨none, .val 37 (.pick (.t 31) (.t 36) (.c (bv false)))⟩,
    ⟨none, .val 4 (.mv (.t 37))⟩] false [.forget [26, 27, 28, 29, 30, 31, 32, 33, 34, 35, 36, 37]]
abbrev nth_Holds : HCode := (.seq nth_Holds_r0 (.seq (.seq nth_Holds_r1 (.cond (.t 16) (.seq nth_Holds_r2 .ret) .skip)) (.seq nth_Holds_r3 (.seq (.seq nth_Holds_r4 (.cond (.t 23) (.seq nth_Holds_r5 .ret) .skip)) (.seq nth_Holds_r6 .ret)))))
abbrev nth_Holds_E : Env := { N := 38, Γ := [], L := 38, nfix := 0 }
abbrev nth_Holds_R : List RSrc := [.tmp 4]
theorem mk_nth_Holds {base : Nat} {av : List AV} {r : RV} (hfo : formOk nth_Holds_E base av) (hW : AVs.fits av → hwp Tryd.prog nth_Holds (finQ nth_Holds_E base av nth_Holds_R r) (F0 nth_Holds_E base av)) (hov : ∀ x, r.res = .ov x → nOwn av = 0 := by intro x h; cases h <;> rfl) : Contract Tryd.prog fn_nth_Holds av r :=
  contract_of_wp (fn := Tryd.f51) (c := Tryd.f51.body.getD .skip) (by kernel_rfl) (by kernel_rfl) (by kernel_rfl) (by kernel_rfl) (by kernel_rfl) (by kernel_rfl) (by kernel_rfl) hfo hW hov
abbrev ref_CheckNth_r0 : HCode := .reg [⟨none, .val 1 (.boxF (.t 0))⟩,
    ⟨none, .val 2 (.mv (.c (iv 0)))⟩] false []
abbrev ref_CheckNth_r1 : HCode := .reg [⟨none, .val 3 (.fldR (.t 1) 0 1)⟩,
    ⟨none, .val 4 (.ldR (.t 3) 1 false)⟩,
    ⟨none, .call (some 5) fn_ref_within [(.t 4, .v), (.c (iv (-1048576)), .v), (.c (iv 1048576), .v)]⟩,
    ⟨none, .val 6 (.not (.t 5))⟩,
    ⟨none, .val 7 (.mv (.t 6))⟩,
    ⟨some (7, false), .val 8 (.fldR (.t 1) 1 1)⟩,
    ⟨some (7, false), .val 9 (.ldR (.t 8) 1 false)⟩,
    ⟨some (7, false), .call (some 10) fn_ref_within [(.t 9, .v), (.c (iv (-1048576)), .v), (.c (iv 1048576), .v)]⟩,
    ⟨some (7, false), .val 11 (.not (.t 10))⟩,
    ⟨none, .val 12 (.pick (.t 7) (.c (bv true)) (.t 11))⟩] false [.forget [3, 4, 5, 6, 7, 8, 9, 10, 11]]
abbrev ref_CheckNth_r2 : HCode := .reg [⟨none, .val 2 (.mv (.c (iv 3)))⟩] false []
abbrev ref_CheckNth_r3 : HCode := .reg [⟨none, .val 2 (.mv (.c (iv 0)))⟩] false []
abbrev ref_CheckNth : HCode := (.seq ref_CheckNth_r0 (.seq (.seq ref_CheckNth_r1 (.cond (.t 12) (.seq ref_CheckNth_r2 .ret) .skip)) (.seq ref_CheckNth_r3 .ret)))
abbrev ref_CheckNth_E : Env := { N := 13, Γ := [], L := 13, nfix := 0 }
abbrev ref_CheckNth_R : List RSrc := [.tmp 2]
theorem mk_ref_CheckNth {base : Nat} {av : List AV} {r : RV} (hfo : formOk ref_CheckNth_E base av) (hW : AVs.fits av → hwp Tryd.prog ref_CheckNth (finQ ref_CheckNth_E base av ref_CheckNth_R r) (F0 ref_CheckNth_E base av)) (hov : ∀ x, r.res = .ov x → nOwn av = 0 := by intro x h; cases h <;> rfl) : Contract Tryd.prog fn_ref_CheckNth av r :=
  contract_of_wp (fn := Tryd.f45) (c := Tryd.f45.body.getD .skip) (by kernel_rfl) (by kernel_rfl) (by kernel_rfl) (by kernel_rfl) (by kernel_rfl) (by kernel_rfl) (by kernel_rfl) hfo hW hov
end Go.Hx
