/-
  Walks of functions of the program over an abstract layer, and the laws that they use: each contract says what the function computes, for every input that its conditions let by. No other condition.
-/
import Derived.Test.YtjnagiaooecklaaDoorProg
import Derived.Test.YtjnagiaooecklaaDoorG8
set_option linter.all false
section
/-
  The abstract code of functions of the program, printed by gen.py; each stands for the given one. No condition.
-/
namespace Go.Hx
open Go.Proofs
variable [Glob]
abbrev fn_ref_CheckDoc : Nat := 21
abbrev fn_ref_IsName : Nat := 116
abbrev fn_ref_IsValue : Nat := 117
abbrev fn_ref_KidsOf : Nat := 16
abbrev fn_ref_NodeFine : Nat := 66
abbrev fn_ref_SameDocs : Nat := 23
abbrev fn_ref_SameNodes : Nat := 67
abbrev fn_ref_SameTexts : Nat := 118
abbrev fn_ref_within : Nat := 65
abbrev ty_api_Attr : Nat := 97
abbrev ty_api_Node : Nat := 47
abbrev ty_int : Nat := 3
abbrev ty_string : Nat := 9
abbrev ref_within_r0 : HCode := .reg [⟨none, .val 6 (.mv (.c (bv false)))⟩] false []
abbrev ref_within_r1 : HCode := .reg [⟨none, .val 7 (.mv (.t 0))⟩,
    ⟨none, .val 8 (.mv (.t 1))⟩,
    ⟨none, .val 9 (.ints .geq (.t 7) (.t 8))⟩,
    ⟨none, .val 10 (.mv (.t 9))⟩,
    ⟨some (10, true), .val 11 (.mv (.t 0))⟩,
    ⟨some (10, true), .val 12 (.mv (.t 2))⟩,
    ⟨some (10, true), .val 13 (.ints .leq (.t 11) (.t 12))⟩,
    ⟨none, .val 14 (.pick (.t 10) (.t 13) (.c (bv false)))⟩,
    ⟨none, .val 6 (.mv (.t 14))⟩] false [.forget [7, 8, 9, 10, 11, 12, 13, 14]]
abbrev ref_within : HCode := (.seq ref_within_r0 (.seq ref_within_r1 .ret))
abbrev ref_within_E : Env := { N := 15, Γ := [], L := 15, nfix := 0 }
abbrev ref_within_R : List RSrc := [.tmp 6]
theorem mk_ref_within {base : Nat} {av : List AV} {r : RV} (hfo : formOk ref_within_E base av) (hW : AVs.fits av → hwp Tryd.prog ref_within (finQ ref_within_E base av ref_within_R r) (F0 ref_within_E base av)) (hov : ∀ x, r.res = .ov x → nOwn av = 0 := by intro x h; cases h <;> rfl) : Contract Tryd.prog fn_ref_within av r :=
  contract_of_wp (fn := Tryd.f65) (c := Tryd.f65.body.getD .skip) (by kernel_rfl) (by kernel_rfl) (by kernel_rfl) (by kernel_rfl) (by kernel_rfl) (by kernel_rfl) (by kernel_rfl) hfo hW hov
abbrev ref_IsName_r0 : HCode := .reg [⟨none, .val 2 (.mv (.c (bv false)))⟩] false []
abbrev ref_IsName_r1 : HCode := .reg [⟨none, .val 5 (.mv (.t 0))⟩,
    ⟨none, .val 6 (.len true (.t 5))⟩,
    ⟨none, .call (some 7) fn_ref_within [(.t 6, .v), (.c (iv 1), .v), (.c (iv 12), .v)]⟩,
    ⟨none, .val 8 (.not (.t 7))⟩,
    ⟨none, .val 9 (.mv (.t 8))⟩,
    ⟨some (9, false), .val 10 (.mv (.t 0))⟩,
    ⟨some (9, false), .val 11 (.idxS (.t 10) (.c (iv 0)))⟩,
    ⟨some (9, false), .val 12 (.ints .lss (.t 11) (.c (.one (.v (.int .u8 97)))))⟩,
    ⟨none, .val 13 (.pick (.t 9) (.c (bv true)) (.t 12))⟩,
    ⟨none, .val 14 (.mv (.t 13))⟩,
    ⟨some (14, false), .val 15 (.mv (.t 0))⟩,
    ⟨some (14, false), .val 16 (.idxS (.t 15) (.c (iv 0)))⟩,
    ⟨some (14, false), .val 17 (.ints .gtr (.t 16) (.c (.one (.v (.int .u8 122)))))⟩,
    ⟨none, .val 18 (.pick (.t 14) (.c (bv true)) (.t 17))⟩] false [.forget [5, 6, 7, 8, 9, 10, 11, 12, 13, 14, 15, 16, 17]]
abbrev ref_IsName_r2 : HCode := .reg [⟨none, .val 2 (.mv (.c (bv false)))⟩] false []
abbrev ref_IsName_r3 : HCode := .reg [⟨none, .val 3 (.mv (.c (iv 0)))⟩] false []
abbrev ref_IsName_r4 : HCode := .reg [⟨none, .val 19 (.mv (.t 3))⟩,
    ⟨none, .val 20 (.mv (.t 0))⟩,
    ⟨none, .val 21 (.len true (.t 20))⟩,
    ⟨none, .val 22 (.ints .lss (.t 19) (.t 21))⟩] false [.forget [19, 20, 21]]
abbrev ref_IsName_r5 : HCode := .reg [⟨none, .val 25 (.mv (.t 0))⟩,
    ⟨none, .val 26 (.mv (.t 3))⟩,
    ⟨none, .val 27 (.idxS (.t 25) (.t 26))⟩,
    ⟨none, .val 4 (.mv (.t 27))⟩] false [.forget [25, 26, 27]]
abbrev ref_IsName_r6 : HCode := .reg [⟨none, .val 28 (.mv (.t 4))⟩,
    ⟨none, .val 29 (.ints .geq (.t 28) (.c (.one (.v (.int .u8 97)))))⟩,
    ⟨none, .val 30 (.mv (.t 29))⟩,
    ⟨some (30, true), .val 31 (.mv (.t 4))⟩,
    ⟨some (30, true), .val 32 (.ints .leq (.t 31) (.c (.one (.v (.int .u8 122)))))⟩,
    ⟨none, .val 33 (.pick (.t 30) (.t 32) (.c (bv false)))⟩,
    ⟨none, .val 34 (.mv (.t 33))⟩,
    ⟨some (34, false), .val 35 (.mv (.t 4))⟩,
    ⟨some (34, false), .val 36 (.ints .geq (.t 35) (.c (.one (.v (.int .u8 48)))))⟩,
    ⟨some (34, false), .val 37 (.mv (.t 36))⟩,
    ⟨some (37, true), .val 38 (.mv (.t 4))⟩,
    ⟨some (37, true), .val 39 (.ints .leq (.t 38) (.c (.one (.v (.int .u8 57)))))⟩,
    ⟨some (34, false), .val 40 (.pick (.t 37) (.t 39) (.c (bv false)))⟩,
    ⟨none, .val 41 (.pick (.t 34) (.c (bv true)) (.t 40))⟩,
    ⟨none, .val 42 (.mv (.t 41))⟩,
    ⟨some (42, false), .val 43 (.mv (.t 4))⟩,
    ⟨some (42, false), .val 44 (.ints .eql (.t 43) (.c (.one (.v (.int .u8 45)))))⟩,
    ⟨none, .val 45 (.pick (.t 42) (.c (bv true)) (.t 44))⟩,
    ⟨none, .val 46 (.not (.t 45))⟩] false [.forget [28, 29, 30, 31, 32, 33, 34, 35, 36, 37, 38, 39, 40, 41, 42, 43, 44, 45]]
abbrev ref_IsName_r7 : HCode := .reg [⟨none, .val 2 (.mv (.c (bv false)))⟩] false []
abbrev ref_IsName_r8 : HCode := .reg [⟨none, .val 23 (.mv (.t 3))⟩,
    ⟨none, .val 24 (.ints .add (.t 23) (.c (iv 1)))⟩,
    ⟨none, .val 3 (.mv (.t 24))⟩] false [.forget [23, 24]]
abbrev ref_IsName_r9 : HCode := .reg [⟨none, .val 2 (.mv (.c (bv true)))⟩] false []
abbrev ref_IsName : HCode := (.seq ref_IsName_r0 (.seq (.seq ref_IsName_r1 (.cond (.t 18) (.seq ref_IsName_r2 .ret) .skip)) (.seq (.seq ref_IsName_r3 (.block 0 (.loop (.seq (.seq ref_IsName_r4 (.cond (.t 22) .skip (.exit 0))) (.seq (.block 1 (.seq ref_IsName_r5 (.seq ref_IsName_r6 (.cond (.t 46) (.seq ref_IsName_r7 .ret) .skip)))) ref_IsName_r8))))) (.seq ref_IsName_r9 .ret))))
abbrev ref_IsName_E : Env := { N := 47, Γ := [], L := 47, nfix := 0 }
abbrev ref_IsName_R : List RSrc := [.tmp 2]
theorem mk_ref_IsName {base : Nat} {av : List AV} {r : RV} (hfo : formOk ref_IsName_E base av) (hW : AVs.fits av → hwp Tryd.prog ref_IsName (finQ ref_IsName_E base av ref_IsName_R r) (F0 ref_IsName_E base av)) (hov : ∀ x, r.res = .ov x → nOwn av = 0 := by intro x h; cases h <;> rfl) : Contract Tryd.prog fn_ref_IsName av r :=
  contract_of_wp (fn := Tryd.f116) (c := Tryd.f116.body.getD .skip) (by kernel_rfl) (by kernel_rfl) (by kernel_rfl) (by kernel_rfl) (by kernel_rfl) (by kernel_rfl) (by kernel_rfl) hfo hW hov
abbrev ref_IsValue_r0 : HCode := .reg [⟨none, .val 2 (.mv (.c (bv false)))⟩] false []
abbrev ref_IsValue_r1 : HCode := .reg [⟨none, .val 4 (.mv (.t 0))⟩,
    ⟨none, .val 5 (.len true (.t 4))⟩,
    ⟨none, .val 6 (.ints .gtr (.t 5) (.c (iv 16)))⟩] false [.forget [4, 5]]
abbrev ref_IsValue_r2 : HCode := .reg [⟨none, .val 2 (.mv (.c (bv false)))⟩] false []
abbrev ref_IsValue_r3 : HCode := .reg [⟨none, .val 3 (.mv (.c (iv 0)))⟩] false []
abbrev ref_IsValue_r4 : HCode := .reg [⟨none, .val 7 (.mv (.t 3))⟩,
    ⟨none, .val 8 (.mv (.t 0))⟩,
    ⟨none, .val 9 (.len true (.t 8))⟩,
    ⟨none, .val 10 (.ints .lss (.t 7) (.t 9))⟩] false [.forget [7, 8, 9]]
abbrev ref_IsValue_r5 : HCode := .reg [⟨none, .val 13 (.mv (.t 0))⟩,
    ⟨none, .val 14 (.mv (.t 3))⟩,
    ⟨none, .val 15 (.idxS (.t 13) (.t 14))⟩,
    ⟨none, .val 16 (.ints .lss (.t 15) (.c (.one (.v (.int .u8 32)))))⟩,
    ⟨none, .val 17 (.mv (.t 16))⟩,
    ⟨some (17, false), .val 18 (.mv (.t 0))⟩,
    ⟨some (17, false), .val 19 (.mv (.t 3))⟩,
    ⟨some (17, false), .val 20 (.idxS (.t 18) (.t 19))⟩,
    ⟨some (17, false), .val 21 (.ints .gtr (.t 20) (.c (.one (.v (.int .u8 126)))))⟩,
    ⟨none, .val 22 (.pick (.t 17) (.c (bv true)) (.t 21))⟩,
    ⟨none, .val 23 (.mv (.t 22))⟩,
    ⟨some (23, false), .val 24 (.mv (.t 0))⟩,
    ⟨some (23, false), .val 25 (.mv (.t 3))⟩,
    ⟨some (23, false), .val 26 (.idxS (.t 24) (.t 25))⟩,
    ⟨some (23, false), .val 27 (.ints .eql (.t 26) (.c (.one (.v (.int .u8 34)))))⟩,
    ⟨none, .val 28 (.pick (.t 23) (.c (bv true)) (.t 27))⟩] false [.forget [13, 14, 15, 16, 17, 18, 19, 20, 21, 22, 23, 24, 25, 26, 27]]
abbrev ref_IsValue_r6 : HCode := .reg [⟨none, .val 2 (.mv (.c (bv false)))⟩] false []
abbrev ref_IsValue_r7 : HCode := .reg [⟨none, .val 11 (.mv (.t 3))⟩,
    ⟨none, .val 12 (.ints .add (.t 11) (.c (iv 1)))⟩,
    ⟨none, .val 3 (.mv (.t 12))⟩] false [.forget [11, 12]]
abbrev ref_IsValue_r8 : HCode := .reg [⟨none, .val 2 (.mv (.c (bv true)))⟩] false []
abbrev ref_IsValue : HCode := (.seq ref_IsValue_r0 (.seq (.seq ref_IsValue_r1 (.cond (.t 6) (.seq ref_IsValue_r2 .ret) .skip)) (.seq (.seq ref_IsValue_r3 (.block 0 (.loop (.seq (.seq ref_IsValue_r4 (.cond (.t 10) .skip (.exit 0))) (.seq (.block 1 (.seq ref_IsValue_r5 (.cond (.t 28) (.seq ref_IsValue_r6 .ret) .skip))) ref_IsValue_r7))))) (.seq ref_IsValue_r8 .ret))))
abbrev ref_IsValue_E : Env := { N := 29, Γ := [], L := 29, nfix := 0 }
abbrev ref_IsValue_R : List RSrc := [.tmp 2]
theorem mk_ref_IsValue {base : Nat} {av : List AV} {r : RV} (hfo : formOk ref_IsValue_E base av) (hW : AVs.fits av → hwp Tryd.prog ref_IsValue (finQ ref_IsValue_E base av ref_IsValue_R r) (F0 ref_IsValue_E base av)) (hov : ∀ x, r.res = .ov x → nOwn av = 0 := by intro x h; cases h <;> rfl) : Contract Tryd.prog fn_ref_IsValue av r :=
  contract_of_wp (fn := Tryd.f117) (c := Tryd.f117.body.getD .skip) (by kernel_rfl) (by kernel_rfl) (by kernel_rfl) (by kernel_rfl) (by kernel_rfl) (by kernel_rfl) (by kernel_rfl) hfo hW hov
abbrev ref_NodeFine_r0 : HCode := .reg [⟨none, .val 1 (.boxF (.t 0))⟩,
    ⟨none, .val 2 (.mv (.c (bv false)))⟩] false []
abbrev ref_NodeFine_r1 : HCode := .reg [⟨none, .val 5 (.fldR (.t 1) 1 1)⟩,
    ⟨none, .val 6 (.ldR (.t 5) 1 false)⟩,
    ⟨none, .call (some 7) fn_ref_IsName [(.t 6, .v)]⟩,
    ⟨none, .val 8 (.not (.t 7))⟩,
    ⟨none, .val 9 (.mv (.t 8))⟩,
    ⟨some (9, false), .val 10 (.fldR (.t 1) 2 1)⟩,
    ⟨some (9, false), .val 11 (.ldR (.t 10) 1 false)⟩,
    ⟨some (9, false), .val 12 (.strs .neq (.t 11) (.c (sv [])))⟩,
    ⟨some (9, false), .val 13 (.mv (.t 12))⟩,
    ⟨some (13, true), .val 14 (.fldR (.t 1) 2 1)⟩,
    ⟨some (13, true), .val 15 (.ldR (.t 14) 1 false)⟩,
    ⟨some (13, true), .call (some 16) fn_ref_IsName [(.t 15, .v)]⟩,
    ⟨some (13, true), .val 17 (.not (.t 16))⟩,
    ⟨some (9, false), .val 18 (.pick (.t 13) (.t 17) (.c (bv false)))⟩,
    ⟨none, .val 19 (.pick (.t 9) (.c (bv true)) (.t 18))⟩,
    ⟨none, .val 20 (.mv (.t 19))⟩,
    ⟨some (20, false), .val 21 (.fldR (.t 1) 3 1)⟩,
    ⟨some (20, false), .val 22 (.ldR (.t 21) 1 false)⟩,
    ⟨some (20, false), .val 23 (.len false (.t 22))⟩,
    ⟨some (20, false), .val 24 (.ints .gtr (.t 23) (.c (iv 6)))⟩,
    ⟨none, .val 25 (.pick (.t 20) (.c (bv true)) (.t 24))⟩,
    ⟨none, .val 26 (.mv (.t 25))⟩,
    ⟨some (26, false), .val 27 (.fldR (.t 1) 4 1)⟩,
    ⟨some (26, false), .val 28 (.ldR (.t 27) 1 false)⟩,
    ⟨some (26, false), .val 29 (.len false (.t 28))⟩,
    ⟨some (26, false), .val 30 (.ints .gtr (.t 29) (.c (iv 4)))⟩,
    ⟨none, .val 31 (.pick (.t 26) (.c (bv true)) (.t 30))⟩] false [.forget [5, 6, 7, 8, 9, 10, 11, 12, 13, 14, 15, 16, 17, 18, 19, 20, 21, 22, 23, 24, 25, 26, 27, 28, 29, 30]]
abbrev ref_NodeFine_r2 : HCode := .reg [⟨none, .val 2 (.mv (.c (bv false)))⟩] false []
abbrev ref_NodeFine_r3 : HCode := .reg [⟨none, .val 3 (.mv (.c (iv 0)))⟩] false []
abbrev ref_NodeFine_r4 : HCode := .reg [⟨none, .val 32 (.mv (.t 3))⟩,
    ⟨none, .val 33 (.fldR (.t 1) 3 1)⟩,
    ⟨none, .val 34 (.ldR (.t 33) 1 false)⟩,
    ⟨none, .val 35 (.len false (.t 34))⟩,
    ⟨none, .val 36 (.ints .lss (.t 32) (.t 35))⟩] false [.forget [32, 33, 34, 35]]
abbrev ref_NodeFine_r5 : HCode := .drg [⟨0, false, ⟨none, .val 39 (.fldR (.t 1) 3 1)⟩⟩,
    ⟨1, false, ⟨none, .val 40 (.ldR (.t 39) 1 false)⟩⟩,
    ⟨2, false, ⟨none, .val 41 (.mv (.t 3))⟩⟩,
    ⟨3, false, ⟨none, .val 42 (.idxA 1 (.t 40) (.t 41))⟩⟩,
    ⟨4, false, ⟨none, .val 43 (.ldR (.t 42) 1 false)⟩⟩,
    ⟨5, true, ⟨none, .call (some 44) fn_ref_IsName [(.t 43, .v)]⟩⟩,
    ⟨6, false, ⟨none, .val 45 (.not (.t 44))⟩⟩,
    ⟨7, false, ⟨none, .val 46 (.mv (.t 45))⟩⟩,
    ⟨8, false, ⟨some (46, false), .val 47 (.mv (.t 3))⟩⟩,
    ⟨9, false, ⟨some (46, false), .val 48 (.ints .gtr (.t 47) (.c (iv 0)))⟩⟩,
    ⟨10, false, ⟨some (46, false), .val 49 (.mv (.t 48))⟩⟩,
    ⟨11, false, ⟨some (49, true), .val 50 (.fldR (.t 1) 3 1)⟩⟩,
    ⟨12, false, ⟨some (49, true), .val 51 (.ldR (.t 50) 1 false)⟩⟩,
    ⟨13, false, ⟨some (49, true), .val 52 (.mv (.t 3))⟩⟩,
    ⟨14, false, ⟨some (49, true), .val 53 (.ints .sub (.t 52) (.c (iv 1)))⟩⟩,
    ⟨15, false, ⟨some (49, true), .val 54 (.idxA 1 (.t 51) (.t 53))⟩⟩,
    ⟨16, false, ⟨some (49, true), .val 55 (.ldR (.t 54) 1 false)⟩⟩,
    ⟨17, false, ⟨some (49, true), .val 56 (.fldR (.t 1) 3 1)⟩⟩,
    ⟨18, false, ⟨some (49, true), .val 57 (.ldR (.t 56) 1 false)⟩⟩,
    ⟨19, false, ⟨some (49, true), .val 58 (.mv (.t 3))⟩⟩,
    ⟨20, false, ⟨some (49, true), .val 59 (.idxA 1 (.t 57) (.t 58))⟩⟩,
    ⟨21, false, ⟨some (49, true), .val 60 (.ldR (.t 59) 1 false)⟩⟩,
    ⟨22, false, ⟨some (49, true), .val 61 (.strs .geq (.t 55) (.t 60))⟩⟩,
    ⟨23, false, ⟨some (46, false), .val 62 (.pick (.t 49) (.t 61) (.c (bv false)))⟩⟩,
    ⟨24, false, ⟨none, .val 63 (.pick (.t 46) (.c (bv true)) (.t 62))⟩⟩] [.forget [39, 40, 41, 42, 43, 44, 45, 46, 47, 48, 49, 50, 51, 52, 53, 54, 55, 56, 57, 58, 59, 60, 61, 62]]
abbrev ref_NodeFine_r6 : HCode := .reg [⟨none, .val 2 (.mv (.c (bv false)))⟩] false []
abbrev ref_NodeFine_r7 : HCode := .reg [⟨none, .val 37 (.mv (.t 3))⟩,
    ⟨none, .val 38 (.ints .add (.t 37) (.c (iv 1)))⟩,
    ⟨none, .val 3 (.mv (.t 38))⟩] false [.forget [37, 38]]
abbrev ref_NodeFine_r8 : HCode := .reg [⟨none, .val 4 (.mv (.c (iv 0)))⟩] false []
abbrev ref_NodeFine_r9 : HCode := .reg [⟨none, .val 64 (.mv (.t 4))⟩,
    ⟨none, .val 65 (.fldR (.t 1) 4 1)⟩,
    ⟨none, .val 66 (.ldR (.t 65) 1 false)⟩,
    ⟨none, .val 67 (.len false (.t 66))⟩,
    ⟨none, .val 68 (.ints .lss (.t 64) (.t 67))⟩] false [.forget [64, 65, 66, 67]]
abbrev ref_NodeFine_r10 : HCode := .drg [⟨0, false, ⟨none, .val 71 (.fldR (.t 1) 4 1)⟩⟩,
    ⟨1, false, ⟨none, .val 72 (.ldR (.t 71) 1 false)⟩⟩,
    ⟨2, false, ⟨none, .val 73 (.mv (.t 4))⟩⟩,
    ⟨3, false, ⟨none, .val 74 (.idxA 2 (.t 72) (.t 73))⟩⟩,
    ⟨4, false, ⟨none, .val 75 (.fldR (.t 74) 0 1)⟩⟩,
    ⟨5, false, ⟨none, .val 76 (.ldR (.t 75) 1 false)⟩⟩,
    ⟨6, true, ⟨none, .call (some 77) fn_ref_IsName [(.t 76, .v)]⟩⟩,
    ⟨7, false, ⟨none, .val 78 (.not (.t 77))⟩⟩,
    ⟨8, false, ⟨none, .val 79 (.mv (.t 78))⟩⟩,
    ⟨9, false, ⟨some (79, false), .val 80 (.fldR (.t 1) 4 1)⟩⟩,
    ⟨10, false, ⟨some (79, false), .val 81 (.ldR (.t 80) 1 false)⟩⟩,
    ⟨11, false, ⟨some (79, false), .val 82 (.mv (.t 4))⟩⟩,
    ⟨12, false, ⟨some (79, false), .val 83 (.idxA 2 (.t 81) (.t 82))⟩⟩,
    ⟨13, false, ⟨some (79, false), .val 84 (.fldR (.t 83) 1 1)⟩⟩,
    ⟨14, false, ⟨some (79, false), .val 85 (.ldR (.t 84) 1 false)⟩⟩,
    ⟨15, true, ⟨some (79, false), .call (some 86) fn_ref_IsValue [(.t 85, .v)]⟩⟩,
    ⟨16, false, ⟨some (79, false), .val 87 (.not (.t 86))⟩⟩,
    ⟨17, false, ⟨none, .val 88 (.pick (.t 79) (.c (bv true)) (.t 87))⟩⟩,
    ⟨18, false, ⟨none, .val 89 (.mv (.t 88))⟩⟩,
    ⟨19, false, ⟨some (89, false), .val 90 (.mv (.t 4))⟩⟩,
    ⟨20, false, ⟨some (89, false), .val 91 (.ints .gtr (.t 90) (.c (iv 0)))⟩⟩,
    ⟨21, false, ⟨some (89, false), .val 92 (.mv (.t 91))⟩⟩,
    ⟨22, false, ⟨some (92, true), .val 93 (.fldR (.t 1) 4 1)⟩⟩,
    ⟨23, false, ⟨some (92, true), .val 94 (.ldR (.t 93) 1 false)⟩⟩,
    ⟨24, false, ⟨some (92, true), .val 95 (.mv (.t 4))⟩⟩,
    ⟨25, false, ⟨some (92, true), .val 96 (.ints .sub (.t 95) (.c (iv 1)))⟩⟩,
    ⟨26, false, ⟨some (92, true), .val 97 (.idxA 2 (.t 94) (.t 96))⟩⟩,
    ⟨27, false, ⟨some (92, true), .val 98 (.fldR (.t 97) 0 1)⟩⟩,
    ⟨28, false, ⟨some (92, true), .val 99 (.ldR (.t 98) 1 false)⟩⟩,
    ⟨29, false, ⟨some (92, true), .val 100 (.fldR (.t 1) 4 1)⟩⟩,
    ⟨30, false, ⟨some (92, true), .val 101 (.ldR (.t 100) 1 false)⟩⟩,
    ⟨31, false, ⟨some (92, true), .val 102 (.mv (.t 4))⟩⟩,
    ⟨32, false, ⟨some (92, true), .val 103 (.idxA 2 (.t 101) (.t 102))⟩⟩,
    ⟨33, false, ⟨some (92, true), .val 104 (.fldR (.t 103) 0 1)⟩⟩,
    ⟨34, false, ⟨some (92, true), .val 105 (.ldR (.t 104) 1 false)⟩⟩,
    ⟨35, false, ⟨some (92, true), .val 106 (.strs .geq (.t 99) (.t 105))⟩⟩,
    ⟨36, false, ⟨some (89, false), .val 107 (.pick (.t 92) (.t 106) (.c (bv false)))⟩⟩,
    ⟨37, false, ⟨none, .val 108 (.pick (.t 89) (.c (bv true)) (.t 107))⟩⟩] [.forget [71, 72, 73, 74, 75, 76, 77, 78, 79, 80, 81, 82, 83, 84, 85, 86, 87, 88, 89, 90, 91, 92, 93, 94, 95, 96, 97, 98, 99, 100, 101, 102, 103, 104, 105, 106, 107]]
abbrev ref_NodeFine_r11 : HCode := .reg [⟨none, .val 2 (.mv (.c (bv false)))⟩] false []
abbrev ref_NodeFine_r12 : HCode := .reg [⟨none, .val 69 (.mv (.t 4))⟩,
    ⟨none, .val 70 (.ints .add (.t 69) (.c (iv 1)))⟩,
    ⟨none, .val 4 (.mv (.t 70))⟩] false [.forget [69, 70]]
abbrev ref_NodeFine_r13 : HCode := .reg [⟨none, .val 2 (.mv (.c (bv true)))⟩] false []
abbrev ref_NodeFine : HCode := (.seq ref_NodeFine_r0 (.seq (.seq ref_NodeFine_r1 (.cond (.t 31) (.seq ref_NodeFine_r2 .ret) .skip)) (.seq (.seq ref_NodeFine_r3 (.block 0 (.loop (.seq (.seq ref_NodeFine_r4 (.cond (.t 36) .skip (.exit 0))) (.seq (.block 1 (.seq ref_NodeFine_r5 (.cond (.t 63) (.seq ref_NodeFine_r6 .ret) .skip))) ref_NodeFine_r7))))) (.seq (.seq ref_NodeFine_r8 (.block 2 (.loop (.seq (.seq ref_NodeFine_r9 (.cond (.t 68) .skip (.exit 2))) (.seq (.block 3 (.seq ref_NodeFine_r10 (.cond (.t 108) (.seq ref_NodeFine_r11 .ret) .skip))) ref_NodeFine_r12))))) (.seq ref_NodeFine_r13 .ret)))))
abbrev ref_NodeFine_E : Env := { N := 109, Γ := [], L := 109, nfix := 0 }
abbrev ref_NodeFine_R : List RSrc := [.tmp 2]
theorem mk_ref_NodeFine {base : Nat} {av : List AV} {r : RV} (hfo : formOk ref_NodeFine_E base av) (hW : AVs.fits av → hwp Tryd.prog ref_NodeFine (finQ ref_NodeFine_E base av ref_NodeFine_R r) (F0 ref_NodeFine_E base av)) (hov : ∀ x, r.res = .ov x → nOwn av = 0 := by intro x h; cases h <;> rfl) : Contract Tryd.prog fn_ref_NodeFine av r :=
  contract_of_wp (fn := Tryd.f66) (c := Tryd.f66.body.getD .skip) (by kernel_rfl) (by kernel_rfl) (by kernel_rfl) (by kernel_rfl) (by kernel_rfl) (by kernel_rfl) (by kernel_rfl) hfo hW hov
abbrev ref_CheckDoc_r0 : HCode := .reg [⟨none, .val 1 (.boxF (.t 0))⟩,
    ⟨none, .val 2 (.mv (.c (iv 0)))⟩] false []
abbrev ref_CheckDoc_r1 : HCode := .reg [⟨none, .val 6 (.fldR (.t 1) 0 1)⟩,
    ⟨none, .val 7 (.ldR (.t 6) 1 false)⟩,
    ⟨none, .val 8 (.len false (.t 7))⟩,
    ⟨none, .call (some 9) fn_ref_within [(.t 8, .v), (.c (iv 1), .v), (.c (iv 64), .v)]⟩,
    ⟨none, .val 10 (.not (.t 9))⟩] false [.forget [6, 7, 8, 9]]
abbrev ref_CheckDoc_r2 : HCode := .reg [⟨none, .val 2 (.mv (.c (iv 2)))⟩] false []
abbrev ref_CheckDoc_r3 : HCode := .reg [⟨none, .val 3 (.mv (.c (iv 0)))⟩] false []
abbrev ref_CheckDoc_r4 : HCode := .reg [⟨none, .val 11 (.mv (.t 3))⟩,
    ⟨none, .val 12 (.fldR (.t 1) 0 1)⟩,
    ⟨none, .val 13 (.ldR (.t 12) 1 false)⟩,
    ⟨none, .val 14 (.len false (.t 13))⟩,
    ⟨none, .val 15 (.ints .lss (.t 11) (.t 14))⟩] false [.forget [11, 12, 13, 14]]
abbrev ref_CheckDoc_r5 : HCode := .reg [⟨none, .val 18 (.fldR (.t 1) 0 1)⟩,
    ⟨none, .val 19 (.ldR (.t 18) 1 false)⟩,
    ⟨none, .val 20 (.mv (.t 3))⟩,
    ⟨none, .val 21 (.idxA 5 (.t 19) (.t 20))⟩,
    ⟨none, .val 22 (.ldR (.t 21) 5 true)⟩,
    ⟨none, .call (some 23) fn_ref_NodeFine [(.t 22, .v)]⟩,
    ⟨none, .val 24 (.not (.t 23))⟩,
    ⟨none, .val 25 (.mv (.t 24))⟩,
    ⟨some (25, false), .val 26 (.mv (.t 3))⟩,
    ⟨some (25, false), .val 27 (.ints .eql (.t 26) (.c (iv 0)))⟩,
    ⟨some (25, false), .val 28 (.mv (.t 27))⟩,
    ⟨some (28, true), .val 29 (.fldR (.t 1) 0 1)⟩,
    ⟨some (28, true), .val 30 (.ldR (.t 29) 1 false)⟩,
    ⟨some (28, true), .val 31 (.mv (.t 3))⟩,
    ⟨some (28, true), .val 32 (.idxA 5 (.t 30) (.t 31))⟩,
    ⟨some (28, true), .val 33 (.fldR (.t 32) 0 1)⟩,
    ⟨some (28, true), .val 34 (.ldR (.t 33) 1 false)⟩,
    ⟨some (28, true), .val 35 (.ints .neq (.t 34) (.c (iv (-1))))⟩,
    ⟨some (25, false), .val 36 (.pick (.t 28) (.t 35) (.c (bv false)))⟩,
    ⟨none, .val 37 (.pick (.t 25) (.c (bv true)) (.t 36))⟩] false [.forget [18, 19, 20, 21, 22, 23, 24, 25, 26, 27, 28, 29, 30, 31, 32, 33, 34, 35, 36]]
abbrev ref_CheckDoc_r6 : HCode := .reg [⟨none, .val 2 (.mv (.c (iv 1)))⟩] false []
abbrev ref_CheckDoc_r7 : HCode := .reg [⟨none, .val 38 (.mv (.t 3))⟩,
    ⟨none, .val 39 (.ints .eql (.t 38) (.c (iv 0)))⟩,
    ⟨none, .val 4 (.mv (.t 39))⟩] false [.forget [38, 39]]
abbrev ref_CheckDoc_r8 : HCode := .reg [⟨none, .val 40 (.mv (.t 3))⟩,
    ⟨none, .val 41 (.ints .sub (.t 40) (.c (iv 1)))⟩,
    ⟨none, .val 5 (.mv (.t 41))⟩] false [.forget [40, 41]]
abbrev ref_CheckDoc_r9 : HCode := .reg [⟨none, .val 42 (.mv (.t 5))⟩,
    ⟨none, .val 43 (.ints .geq (.t 42) (.c (iv 0)))⟩,
    ⟨none, .val 44 (.mv (.t 43))⟩,
    ⟨some (44, true), .val 45 (.mv (.t 4))⟩,
    ⟨some (44, true), .val 46 (.not (.t 45))⟩,
    ⟨none, .val 47 (.pick (.t 44) (.t 46) (.c (bv false)))⟩] false [.forget [42, 43, 44, 45, 46]]
abbrev ref_CheckDoc_r10 : HCode := .reg [⟨none, .val 54 (.mv (.t 5))⟩,
    ⟨none, .val 55 (.fldR (.t 1) 0 1)⟩,
    ⟨none, .val 56 (.ldR (.t 55) 1 false)⟩,
    ⟨none, .val 57 (.mv (.t 3))⟩,
    ⟨none, .val 58 (.idxA 5 (.t 56) (.t 57))⟩,
    ⟨none, .val 59 (.fldR (.t 58) 0 1)⟩,
    ⟨none, .val 60 (.ldR (.t 59) 1 false)⟩,
    ⟨none, .val 61 (.ints .eql (.t 54) (.t 60))⟩,
    ⟨none, .val 4 (.mv (.t 61))⟩] false [.forget [54, 55, 56, 57, 58, 59, 60, 61]]
abbrev ref_CheckDoc_r11 : HCode := .reg [⟨none, .val 48 (.fldR (.t 1) 0 1)⟩,
    ⟨none, .val 49 (.ldR (.t 48) 1 false)⟩,
    ⟨none, .val 50 (.mv (.t 5))⟩,
    ⟨none, .val 51 (.idxA 5 (.t 49) (.t 50))⟩,
    ⟨none, .val 52 (.fldR (.t 51) 0 1)⟩,
    ⟨none, .val 53 (.ldR (.t 52) 1 false)⟩,
    ⟨none, .val 5 (.mv (.t 53))⟩] false [.forget [48, 49, 50, 51, 52, 53]]
abbrev ref_CheckDoc_r12 : HCode := .reg [⟨none, .val 62 (.mv (.t 4))⟩,
    ⟨none, .val 63 (.not (.t 62))⟩] false [.forget [62]]
abbrev ref_CheckDoc_r13 : HCode := .reg [⟨none, .val 2 (.mv (.c (iv 1)))⟩] false []
abbrev ref_CheckDoc_r14 : HCode := .reg [⟨none, .val 16 (.mv (.t 3))⟩,
    ⟨none, .val 17 (.ints .add (.t 16) (.c (iv 1)))⟩,
    ⟨none, .val 3 (.mv (.t 17))⟩] false [.forget [16, 17]]
abbrev ref_CheckDoc_r15 : HCode := .reg [⟨none, .val 2 (.mv (.c (iv 0)))⟩] false []
abbrev ref_CheckDoc : HCode := (.seq ref_CheckDoc_r0 (.seq (.seq ref_CheckDoc_r1 (.cond (.t 10) (.seq ref_CheckDoc_r2 .ret) .skip)) (.seq (.seq ref_CheckDoc_r3 (.block 0 (.loop (.seq (.seq ref_CheckDoc_r4 (.cond (.t 15) .skip (.exit 0))) (.seq (.block 1 (.seq (.seq ref_CheckDoc_r5 (.cond (.t 37) (.seq ref_CheckDoc_r6 .ret) .skip)) (.seq ref_CheckDoc_r7 (.seq (.seq ref_CheckDoc_r8 (.block 2 (.loop (.seq (.seq ref_CheckDoc_r9 (.cond (.t 47) .skip (.exit 2))) (.seq (.block 3 ref_CheckDoc_r10) ref_CheckDoc_r11))))) (.seq ref_CheckDoc_r12 (.cond (.t 63) (.seq ref_CheckDoc_r13 .ret) .skip)))))) ref_CheckDoc_r14))))) (.seq ref_CheckDoc_r15 .ret))))
abbrev ref_CheckDoc_E : Env := { N := 64, Γ := [], L := 64, nfix := 0 }
abbrev ref_CheckDoc_R : List RSrc := [.tmp 2]
theorem mk_ref_CheckDoc {base : Nat} {av : List AV} {r : RV} (hfo : formOk ref_CheckDoc_E base av) (hW : AVs.fits av → hwp Tryd.prog ref_CheckDoc (finQ ref_CheckDoc_E base av ref_CheckDoc_R r) (F0 ref_CheckDoc_E base av)) (hov : ∀ x, r.res = .ov x → nOwn av = 0 := by intro x h; cases h <;> rfl) : Contract Tryd.prog fn_ref_CheckDoc av r :=
  contract_of_wp (fn := Tryd.f21) (c := Tryd.f21.body.getD .skip) (by kernel_rfl) (by kernel_rfl) (by kernel_rfl) (by kernel_rfl) (by kernel_rfl) (by kernel_rfl) (by kernel_rfl) hfo hW hov
abbrev ref_KidsOf_r0 : HCode := .reg [⟨none, .val 2 (.boxF (.t 0))⟩,
    ⟨none, .nlo 4 ty_int 1⟩] false []
abbrev ref_KidsOf_r1 : HCode := .reg [⟨none, .nlo 5 ty_int 1⟩] false []
abbrev ref_KidsOf_r2 : HCode := .reg [⟨none, .val 6 (.mv (.c (iv 0)))⟩] false []
abbrev ref_KidsOf_r3 : HCode := .reg [⟨none, .val 7 (.mv (.t 6))⟩,
    ⟨none, .val 8 (.fldR (.t 2) 0 1)⟩,
    ⟨none, .val 9 (.ldR (.t 8) 1 false)⟩,
    ⟨none, .val 10 (.len false (.t 9))⟩,
    ⟨none, .val 11 (.ints .lss (.t 7) (.t 10))⟩] false [.forget [7, 8, 9, 10]]
abbrev ref_KidsOf_r4 : HCode := .reg [⟨none, .val 14 (.fldR (.t 2) 0 1)⟩,
    ⟨none, .val 15 (.ldR (.t 14) 1 false)⟩,
    ⟨none, .val 16 (.mv (.t 6))⟩,
    ⟨none, .val 17 (.idxA 5 (.t 15) (.t 16))⟩,
    ⟨none, .val 18 (.fldR (.t 17) 0 1)⟩,
    ⟨none, .val 19 (.ldR (.t 18) 1 false)⟩,
    ⟨none, .val 20 (.mv (.t 1))⟩,
    ⟨none, .val 21 (.ints .eql (.t 19) (.t 20))⟩] false [.forget [14, 15, 16, 17, 18, 19, 20]]
abbrev ref_KidsOf_r5 : HCode := .reg [⟨none, .mvo 22 5⟩,
    ⟨none, .val 23 (.mv (.t 6))⟩,
    ⟨none, .val 24 (.bslF 1 [.t 23])⟩,
    ⟨none, .app 25 ty_int 1 (.t 22) (.t 24)⟩,
    ⟨none, .mvo 5 25⟩] false [.forget [22, 23, 24, 25]]
abbrev ref_KidsOf_r6 : HCode := .reg [⟨none, .val 12 (.mv (.t 6))⟩,
    ⟨none, .val 13 (.ints .add (.t 12) (.c (iv 1)))⟩,
    ⟨none, .val 6 (.mv (.t 13))⟩] false [.forget [12, 13]]
abbrev ref_KidsOf_r7 : HCode := .reg [⟨none, .mvo 26 5⟩,
    ⟨none, .mvo 4 26⟩] false [.forget [26]]
abbrev ref_KidsOf : HCode := (.seq ref_KidsOf_r0 (.seq ref_KidsOf_r1 (.seq (.seq ref_KidsOf_r2 (.block 0 (.loop (.seq (.seq ref_KidsOf_r3 (.cond (.t 11) .skip (.exit 0))) (.seq (.block 1 (.seq ref_KidsOf_r4 (.cond (.t 21) ref_KidsOf_r5 .skip))) ref_KidsOf_r6))))) (.seq ref_KidsOf_r7 .ret))))
abbrev ref_KidsOf_E : Env := { N := 27, Γ := [], L := 27, nfix := 0 }
abbrev ref_KidsOf_R : List RSrc := [.tmp 4]
theorem mk_ref_KidsOf {base : Nat} {av : List AV} {r : RV} (hfo : formOk ref_KidsOf_E base av) (hW : AVs.fits av → hwp Tryd.prog ref_KidsOf (finQ ref_KidsOf_E base av ref_KidsOf_R r) (F0 ref_KidsOf_E base av)) (hov : ∀ x, r.res = .ov x → nOwn av = 0 := by intro x h; cases h <;> rfl) : Contract Tryd.prog fn_ref_KidsOf av r :=
  contract_of_wp (fn := Tryd.f16) (c := Tryd.f16.body.getD .skip) (by kernel_rfl) (by kernel_rfl) (by kernel_rfl) (by kernel_rfl) (by kernel_rfl) (by kernel_rfl) (by kernel_rfl) hfo hW hov
abbrev ref_SameTexts_r0 : HCode := .reg [⟨none, .val 4 (.mv (.c (bv false)))⟩] false []
abbrev ref_SameTexts_r1 : HCode := .reg [⟨none, .val 6 (.mv (.t 0))⟩,
    ⟨none, .val 7 (.len false (.t 6))⟩,
    ⟨none, .val 8 (.mv (.t 1))⟩,
    ⟨none, .val 9 (.len false (.t 8))⟩,
    ⟨none, .val 10 (.ints .neq (.t 7) (.t 9))⟩] false [.forget [6, 7, 8, 9]]
abbrev ref_SameTexts_r2 : HCode := .reg [⟨none, .val 4 (.mv (.c (bv false)))⟩] false []
abbrev ref_SameTexts_r3 : HCode := .reg [⟨none, .val 5 (.mv (.c (iv 0)))⟩] false []
abbrev ref_SameTexts_r4 : HCode := .reg [⟨none, .val 11 (.mv (.t 5))⟩,
    ⟨none, .val 12 (.mv (.t 0))⟩,
    ⟨none, .val 13 (.len false (.t 12))⟩,
    ⟨none, .val 14 (.ints .lss (.t 11) (.t 13))⟩] false [.forget [11, 12, 13]]
abbrev ref_SameTexts_r5 : HCode := .drg [⟨0, false, ⟨none, .val 17 (.mv (.t 0))⟩⟩,
    ⟨1, false, ⟨none, .val 18 (.mv (.t 5))⟩⟩,
    ⟨2, false, ⟨none, .val 19 (.idxA 1 (.t 17) (.t 18))⟩⟩,
    ⟨3, false, ⟨none, .val 20 (.ldR (.t 19) 1 false)⟩⟩,
    ⟨4, false, ⟨none, .val 21 (.mv (.t 1))⟩⟩,
    ⟨5, false, ⟨none, .val 22 (.mv (.t 5))⟩⟩,
    ⟨6, false, ⟨none, .val 23 (.idxA 1 (.t 21) (.t 22))⟩⟩,
    ⟨7, false, ⟨none, .val 24 (.ldR (.t 23) 1 false)⟩⟩,
    ⟨8, false, ⟨none, .val 25 (.strs .neq (.t 20) (.t 24))⟩⟩] [.forget [17, 18, 19, 20, 21, 22, 23, 24]]
abbrev ref_SameTexts_r6 : HCode := .reg [⟨none, .val 4 (.mv (.c (bv false)))⟩] false []
abbrev ref_SameTexts_r7 : HCode := .reg [⟨none, .val 15 (.mv (.t 5))⟩,
    ⟨none, .val 16 (.ints .add (.t 15) (.c (iv 1)))⟩,
    ⟨none, .val 5 (.mv (.t 16))⟩] false [.forget [15, 16]]
abbrev ref_SameTexts_r8 : HCode := .reg [⟨none, .val 4 (.mv (.c (bv true)))⟩] false []
abbrev ref_SameTexts : HCode := (.seq ref_SameTexts_r0 (.seq (.seq ref_SameTexts_r1 (.cond (.t 10) (.seq ref_SameTexts_r2 .ret) .skip)) (.seq (.seq ref_SameTexts_r3 (.block 0 (.loop (.seq (.seq ref_SameTexts_r4 (.cond (.t 14) .skip (.exit 0))) (.seq (.block 1 (.seq ref_SameTexts_r5 (.cond (.t 25) (.seq ref_SameTexts_r6 .ret) .skip))) ref_SameTexts_r7))))) (.seq ref_SameTexts_r8 .ret))))
abbrev ref_SameTexts_E : Env := { N := 26, Γ := [], L := 26, nfix := 0 }
abbrev ref_SameTexts_R : List RSrc := [.tmp 4]
theorem mk_ref_SameTexts {base : Nat} {av : List AV} {r : RV} (hfo : formOk ref_SameTexts_E base av) (hW : AVs.fits av → hwp Tryd.prog ref_SameTexts (finQ ref_SameTexts_E base av ref_SameTexts_R r) (F0 ref_SameTexts_E base av)) (hov : ∀ x, r.res = .ov x → nOwn av = 0 := by intro x h; cases h <;> rfl) : Contract Tryd.prog fn_ref_SameTexts av r :=
  contract_of_wp (fn := Tryd.f118) (c := Tryd.f118.body.getD .skip) (by kernel_rfl) (by kernel_rfl) (by kernel_rfl) (by kernel_rfl) (by kernel_rfl) (by kernel_rfl) (by kernel_rfl) hfo hW hov
abbrev ref_SameNodes_r0 : HCode := .reg [⟨none, .val 2 (.boxF (.t 0))⟩,
    ⟨none, .val 3 (.boxF (.t 1))⟩,
    ⟨none, .val 4 (.mv (.c (bv false)))⟩] false []
abbrev ref_SameNodes_r1 : HCode := .reg [⟨none, .val 6 (.fldR (.t 2) 0 1)⟩,
    ⟨none, .val 7 (.ldR (.t 6) 1 false)⟩,
    ⟨none, .val 8 (.fldR (.t 3) 0 1)⟩,
    ⟨none, .val 9 (.ldR (.t 8) 1 false)⟩,
    ⟨none, .val 10 (.ints .neq (.t 7) (.t 9))⟩,
    ⟨none, .val 11 (.mv (.t 10))⟩,
    ⟨some (11, false), .val 12 (.fldR (.t 2) 1 1)⟩,
    ⟨some (11, false), .val 13 (.ldR (.t 12) 1 false)⟩,
    ⟨some (11, false), .val 14 (.fldR (.t 3) 1 1)⟩,
    ⟨some (11, false), .val 15 (.ldR (.t 14) 1 false)⟩,
    ⟨some (11, false), .val 16 (.strs .neq (.t 13) (.t 15))⟩,
    ⟨none, .val 17 (.pick (.t 11) (.c (bv true)) (.t 16))⟩,
    ⟨none, .val 18 (.mv (.t 17))⟩,
    ⟨some (18, false), .val 19 (.fldR (.t 2) 2 1)⟩,
    ⟨some (18, false), .val 20 (.ldR (.t 19) 1 false)⟩,
    ⟨some (18, false), .val 21 (.fldR (.t 3) 2 1)⟩,
    ⟨some (18, false), .val 22 (.ldR (.t 21) 1 false)⟩,
    ⟨some (18, false), .val 23 (.strs .neq (.t 20) (.t 22))⟩,
    ⟨none, .val 24 (.pick (.t 18) (.c (bv true)) (.t 23))⟩,
    ⟨none, .val 25 (.mv (.t 24))⟩,
    ⟨some (25, false), .val 26 (.fldR (.t 2) 3 1)⟩,
    ⟨some (25, false), .val 27 (.ldR (.t 26) 1 false)⟩,
    ⟨some (25, false), .val 28 (.fldR (.t 3) 3 1)⟩,
    ⟨some (25, false), .val 29 (.ldR (.t 28) 1 false)⟩,
    ⟨some (25, false), .call (some 30) fn_ref_SameTexts [(.t 27, .v), (.t 29, .v)]⟩,
    ⟨some (25, false), .val 31 (.not (.t 30))⟩,
    ⟨none, .val 32 (.pick (.t 25) (.c (bv true)) (.t 31))⟩,
    ⟨none, .val 33 (.mv (.t 32))⟩,
    ⟨some (33, false), .val 34 (.fldR (.t 2) 4 1)⟩,
    ⟨some (33, false), .val 35 (.ldR (.t 34) 1 false)⟩,
    ⟨some (33, false), .val 36 (.len false (.t 35))⟩,
    ⟨some (33, false), .val 37 (.fldR (.t 3) 4 1)⟩,
    ⟨some (33, false), .val 38 (.ldR (.t 37) 1 false)⟩,
    ⟨some (33, false), .val 39 (.len false (.t 38))⟩,
    ⟨some (33, false), .val 40 (.ints .neq (.t 36) (.t 39))⟩,
    ⟨none, .val 41 (.pick (.t 33) (.c (bv true)) (.t 40))⟩] false [.forget [6, 7, 8, 9, 10, 11, 12, 13, 14, 15, 16, 17, 18, 19, 20, 21, 22, 23, 24, 25, 26, 27, 28, 29, 30, 31, 32, 33, 34, 35, 36, 37, 38, 39, 40]]
abbrev ref_SameNodes_r2 : HCode := .reg [⟨none, .val 4 (.mv (.c (bv false)))⟩] false []
abbrev ref_SameNodes_r3 : HCode := .reg [⟨none, .val 5 (.mv (.c (iv 0)))⟩] false []
abbrev ref_SameNodes_r4 : HCode := .reg [⟨none, .val 42 (.mv (.t 5))⟩,
    ⟨none, .val 43 (.fldR (.t 2) 4 1)⟩,
    ⟨none, .val 44 (.ldR (.t 43) 1 false)⟩,
    ⟨none, .val 45 (.len false (.t 44))⟩,
    ⟨none, .val 46 (.ints .lss (.t 42) (.t 45))⟩] false [.forget [42, 43, 44, 45]]
abbrev ref_SameNodes_r5 : HCode := .drg [⟨0, false, ⟨none, .val 49 (.fldR (.t 2) 4 1)⟩⟩,
    ⟨1, false, ⟨none, .val 50 (.ldR (.t 49) 1 false)⟩⟩,
    ⟨2, false, ⟨none, .val 51 (.mv (.t 5))⟩⟩,
    ⟨3, false, ⟨none, .val 52 (.idxA 2 (.t 50) (.t 51))⟩⟩,
    ⟨4, false, ⟨none, .val 53 (.ldR (.t 52) 2 true)⟩⟩,
    ⟨5, false, ⟨none, .val 54 (.fldR (.t 3) 4 1)⟩⟩,
    ⟨6, false, ⟨none, .val 55 (.ldR (.t 54) 1 false)⟩⟩,
    ⟨7, false, ⟨none, .val 56 (.mv (.t 5))⟩⟩,
    ⟨8, false, ⟨none, .val 57 (.idxA 2 (.t 55) (.t 56))⟩⟩,
    ⟨9, false, ⟨none, .val 58 (.ldR (.t 57) 2 true)⟩⟩,
    ⟨10, false, ⟨none, .val 59 (.steq true [2, 2] (.t 53) (.t 58))⟩⟩] [.forget [49, 50, 51, 52, 53, 54, 55, 56, 57, 58]]
abbrev ref_SameNodes_r6 : HCode := .reg [⟨none, .val 4 (.mv (.c (bv false)))⟩] false []
abbrev ref_SameNodes_r7 : HCode := .reg [⟨none, .val 47 (.mv (.t 5))⟩,
    ⟨none, .val 48 (.ints .add (.t 47) (.c (iv 1)))⟩,
    ⟨none, .val 5 (.mv (.t 48))⟩] false [.forget [47, 48]]
abbrev ref_SameNodes_r8 : HCode := .reg [⟨none, .val 4 (.mv (.c (bv true)))⟩] false []
abbrev ref_SameNodes : HCode := (.seq ref_SameNodes_r0 (.seq (.seq ref_SameNodes_r1 (.cond (.t 41) (.seq ref_SameNodes_r2 .ret) .skip)) (.seq (.seq ref_SameNodes_r3 (.block 0 (.loop (.seq (.seq ref_SameNodes_r4 (.cond (.t 46) .skip (.exit 0))) (.seq (.block 1 (.seq ref_SameNodes_r5 (.cond (.t 59) (.seq ref_SameNodes_r6 .ret) .skip))) ref_SameNodes_r7))))) (.seq ref_SameNodes_r8 .ret))))
abbrev ref_SameNodes_E : Env := { N := 60, Γ := [], L := 60, nfix := 0 }
abbrev ref_SameNodes_R : List RSrc := [.tmp 4]
theorem mk_ref_SameNodes {base : Nat} {av : List AV} {r : RV} (hfo : formOk ref_SameNodes_E base av) (hW : AVs.fits av → hwp Tryd.prog ref_SameNodes (finQ ref_SameNodes_E base av ref_SameNodes_R r) (F0 ref_SameNodes_E base av)) (hov : ∀ x, r.res = .ov x → nOwn av = 0 := by intro x h; cases h <;> rfl) : Contract Tryd.prog fn_ref_SameNodes av r :=
  contract_of_wp (fn := Tryd.f67) (c := Tryd.f67.body.getD .skip) (by kernel_rfl) (by kernel_rfl) (by kernel_rfl) (by kernel_rfl) (by kernel_rfl) (by kernel_rfl) (by kernel_rfl) hfo hW hov
abbrev ref_SameDocs_r0 : HCode := .reg [⟨none, .val 2 (.boxF (.t 0))⟩,
    ⟨none, .val 3 (.boxF (.t 1))⟩,
    ⟨none, .val 4 (.mv (.c (bv false)))⟩] false []
abbrev ref_SameDocs_r1 : HCode := .reg [⟨none, .val 6 (.fldR (.t 2) 0 1)⟩,
    ⟨none, .val 7 (.ldR (.t 6) 1 false)⟩,
    ⟨none, .val 8 (.len false (.t 7))⟩,
    ⟨none, .val 9 (.fldR (.t 3) 0 1)⟩,
    ⟨none, .val 10 (.ldR (.t 9) 1 false)⟩,
    ⟨none, .val 11 (.len false (.t 10))⟩,
    ⟨none, .val 12 (.ints .neq (.t 8) (.t 11))⟩] false [.forget [6, 7, 8, 9, 10, 11]]
abbrev ref_SameDocs_r2 : HCode := .reg [⟨none, .val 4 (.mv (.c (bv false)))⟩] false []
abbrev ref_SameDocs_r3 : HCode := .reg [⟨none, .val 5 (.mv (.c (iv 0)))⟩] false []
abbrev ref_SameDocs_r4 : HCode := .reg [⟨none, .val 13 (.mv (.t 5))⟩,
    ⟨none, .val 14 (.fldR (.t 2) 0 1)⟩,
    ⟨none, .val 15 (.ldR (.t 14) 1 false)⟩,
    ⟨none, .val 16 (.len false (.t 15))⟩,
    ⟨none, .val 17 (.ints .lss (.t 13) (.t 16))⟩] false [.forget [13, 14, 15, 16]]
abbrev ref_SameDocs_r5 : HCode := .drg [⟨0, false, ⟨none, .val 20 (.fldR (.t 2) 0 1)⟩⟩,
    ⟨1, false, ⟨none, .val 21 (.ldR (.t 20) 1 false)⟩⟩,
    ⟨2, false, ⟨none, .val 22 (.mv (.t 5))⟩⟩,
    ⟨3, false, ⟨none, .val 23 (.idxA 5 (.t 21) (.t 22))⟩⟩,
    ⟨4, false, ⟨none, .val 24 (.ldR (.t 23) 5 true)⟩⟩,
    ⟨5, false, ⟨none, .val 25 (.fldR (.t 3) 0 1)⟩⟩,
    ⟨6, false, ⟨none, .val 26 (.ldR (.t 25) 1 false)⟩⟩,
    ⟨7, false, ⟨none, .val 27 (.mv (.t 5))⟩⟩,
    ⟨8, false, ⟨none, .val 28 (.idxA 5 (.t 26) (.t 27))⟩⟩,
    ⟨9, false, ⟨none, .val 29 (.ldR (.t 28) 5 true)⟩⟩,
    ⟨10, true, ⟨none, .call (some 30) fn_ref_SameNodes [(.t 24, .v), (.t 29, .v)]⟩⟩,
    ⟨11, false, ⟨none, .val 31 (.not (.t 30))⟩⟩] [.forget [20, 21, 22, 23, 24, 25, 26, 27, 28, 29, 30]]
abbrev ref_SameDocs_r6 : HCode := .reg [⟨none, .val 4 (.mv (.c (bv false)))⟩] false []
abbrev ref_SameDocs_r7 : HCode := .reg [⟨none, .val 18 (.mv (.t 5))⟩,
    ⟨none, .val 19 (.ints .add (.t 18) (.c (iv 1)))⟩,
    ⟨none, .val 5 (.mv (.t 19))⟩] false [.forget [18, 19]]
abbrev ref_SameDocs_r8 : HCode := .reg [⟨none, .val 4 (.mv (.c (bv true)))⟩] false []
abbrev ref_SameDocs : HCode := (.seq ref_SameDocs_r0 (.seq (.seq ref_SameDocs_r1 (.cond (.t 12) (.seq ref_SameDocs_r2 .ret) .skip)) (.seq (.seq ref_SameDocs_r3 (.block 0 (.loop (.seq (.seq ref_SameDocs_r4 (.cond (.t 17) .skip (.exit 0))) (.seq (.block 1 (.seq ref_SameDocs_r5 (.cond (.t 31) (.seq ref_SameDocs_r6 .ret) .skip))) ref_SameDocs_r7))))) (.seq ref_SameDocs_r8 .ret))))
abbrev ref_SameDocs_E : Env := { N := 32, Γ := [], L := 32, nfix := 0 }
abbrev ref_SameDocs_R : List RSrc := [.tmp 4]
theorem mk_ref_SameDocs {base : Nat} {av : List AV} {r : RV} (hfo : formOk ref_SameDocs_E base av) (hW : AVs.fits av → hwp Tryd.prog ref_SameDocs (finQ ref_SameDocs_E base av ref_SameDocs_R r) (F0 ref_SameDocs_E base av)) (hov : ∀ x, r.res = .ov x → nOwn av = 0 := by intro x h; cases h <;> rfl) : Contract Tryd.prog fn_ref_SameDocs av r :=
  contract_of_wp (fn := Tryd.f23) (c := Tryd.f23.body.getD .skip) (by kernel_rfl) (by kernel_rfl) (by kernel_rfl) (by kernel_rfl) (by kernel_rfl) (by kernel_rfl) (by kernel_rfl) hfo hW hov
end Go.Hx
end

section
/-
  The abstract code of functions of the program, printed by gen.py; each stands for the given one. No condition.
-/
namespace Go.Hx
open Go.Proofs
variable [Glob]
abbrev fn_doc_Check : Nat := 20
abbrev fn_doc_Fine : Nat := 64
abbrev fn_doc_Fine_1 : Nat := 110
abbrev fn_doc_Fine_2 : Nat := 112
abbrev fn_doc_Fine_3 : Nat := 114
abbrev fn_doc_Name : Nat := 108
abbrev fn_doc_Value : Nat := 115
abbrev fn_doc_rises_api_Attr : Nat := 111
abbrev fn_doc_rises_string : Nat := 109
abbrev fn_law_small : Nat := 63
abbrev fn_slices_ContainsFunc_Attr : Nat := 113
abbrev fn_slices_IndexFunc_Attr : Nat := 150
abbrev slices_IndexFunc_Attr_r0 : HCode := .reg [⟨none, .val 4 (.mv (.c (iv 0)))⟩] false []
abbrev slices_IndexFunc_Attr_r1 : HCode := .reg [⟨none, .val 6 (.mv (.t 0))⟩,
    ⟨none, .val 7 (.len false (.t 6))⟩,
    ⟨none, .val 8 (.mv (.c (iv 0)))⟩] false [.forget [6]]
abbrev slices_IndexFunc_Attr_r2 : HCode := .reg [⟨none, .val 9 (.ints .lss (.t 8) (.t 7))⟩] false []
abbrev slices_IndexFunc_Attr_r3 : HCode := .reg [⟨none, .val 10 (.mv (.t 8))⟩,
    ⟨none, .val 5 (.mv (.t 10))⟩] false [.forget [10]]
abbrev slices_IndexFunc_Attr_r4 : HCode := .reg [⟨none, .val 11 (.mv (.t 1))⟩,
    ⟨none, .val 12 (.mv (.t 0))⟩,
    ⟨none, .val 13 (.mv (.t 5))⟩,
    ⟨none, .val 14 (.idxA 2 (.t 12) (.t 13))⟩,
    ⟨none, .val 15 (.ldR (.t 14) 2 true)⟩,
    ⟨none, .callv (some 16) (.t 11) [(.t 15, .v)]⟩] false [.forget [11, 12, 13, 14, 15]]
abbrev slices_IndexFunc_Attr_r5 : HCode := .reg [⟨none, .val 17 (.mv (.t 5))⟩,
    ⟨none, .val 4 (.mv (.t 17))⟩] false [.forget [17]]
abbrev slices_IndexFunc_Attr_r6 : HCode := .reg [⟨none, .val 18 (.ints .add (.t 8) (.c (iv 1)))⟩,
    ⟨none, .val 8 (.mv (.t 18))⟩] false [.forget [18]]
abbrev slices_IndexFunc_Attr_r7 : HCode := .reg [⟨none, .val 4 (.mv (.c (iv (-1))))⟩] false []
abbrev slices_IndexFunc_Attr : HCode := (.seq slices_IndexFunc_Attr_r0 (.seq (.seq slices_IndexFunc_Attr_r1 (.block 0 (.loop (.seq slices_IndexFunc_Attr_r2 (.seq (.cond (.t 9) .skip (.exit 0)) (.seq (.block 1 (.seq slices_IndexFunc_Attr_r3 (.seq slices_IndexFunc_Attr_r4 (.cond (.t 16) (.seq slices_IndexFunc_Attr_r5 .ret) .skip)))) slices_IndexFunc_Attr_r6)))))) (.seq slices_IndexFunc_Attr_r7 .ret)))
abbrev slices_IndexFunc_Attr_E : Env := { N := 19, Γ := [], L := 19, nfix := 0 }
abbrev slices_IndexFunc_Attr_R : List RSrc := [.tmp 4]
theorem mk_slices_IndexFunc_Attr {base : Nat} {av : List AV} {r : RV} (hfo : formOk slices_IndexFunc_Attr_E base av) (hW : AVs.fits av → hwp Tryd.prog slices_IndexFunc_Attr (finQ slices_IndexFunc_Attr_E base av slices_IndexFunc_Attr_R r) (F0 slices_IndexFunc_Attr_E base av)) (hov : ∀ x, r.res = .ov x → nOwn av = 0 := by intro x h; cases h <;> rfl) : Contract Tryd.prog fn_slices_IndexFunc_Attr av r :=
  contract_of_wp (fn := Tryd.f150) (c := Tryd.f150.body.getD .skip) (by kernel_rfl) (by kernel_rfl) (by kernel_rfl) (by kernel_rfl) (by kernel_rfl) (by kernel_rfl) (by kernel_rfl) hfo hW hov
abbrev slices_ContainsFunc_Attr_r0 : HCode := .reg [⟨none, .val 4 (.mv (.c (bv false)))⟩] false []
abbrev slices_ContainsFunc_Attr_r1 : HCode := .reg [⟨none, .val 5 (.mv (.t 0))⟩,
    ⟨none, .val 6 (.mv (.t 1))⟩,
    ⟨none, .call (some 7) fn_slices_IndexFunc_Attr [(.t 5, .v), (.t 6, .v)]⟩,
    ⟨none, .val 8 (.ints .geq (.t 7) (.c (iv 0)))⟩,
    ⟨none, .val 4 (.mv (.t 8))⟩] false [.forget [5, 6, 7, 8]]
abbrev slices_ContainsFunc_Attr : HCode := (.seq slices_ContainsFunc_Attr_r0 (.seq slices_ContainsFunc_Attr_r1 .ret))
abbrev slices_ContainsFunc_Attr_E : Env := { N := 9, Γ := [], L := 9, nfix := 0 }
abbrev slices_ContainsFunc_Attr_R : List RSrc := [.tmp 4]
theorem mk_slices_ContainsFunc_Attr {base : Nat} {av : List AV} {r : RV} (hfo : formOk slices_ContainsFunc_Attr_E base av) (hW : AVs.fits av → hwp Tryd.prog slices_ContainsFunc_Attr (finQ slices_ContainsFunc_Attr_E base av slices_ContainsFunc_Attr_R r) (F0 slices_ContainsFunc_Attr_E base av)) (hov : ∀ x, r.res = .ov x → nOwn av = 0 := by intro x h; cases h <;> rfl) : Contract Tryd.prog fn_slices_ContainsFunc_Attr av r :=
  contract_of_wp (fn := Tryd.f113) (c := Tryd.f113.body.getD .skip) (by kernel_rfl) (by kernel_rfl) (by kernel_rfl) (by kernel_rfl) (by kernel_rfl) (by kernel_rfl) (by kernel_rfl) hfo hW hov
abbrev doc_rises_string_r0 : HCode := .reg [⟨none, .val 4 (.mv (.c (bv false)))⟩] false []
abbrev doc_rises_string_r1 : HCode := .reg [⟨none, .val 5 (.mv (.c (sv [])))⟩] false []
abbrev doc_rises_string_r2 : HCode := .reg [⟨none, .val 8 (.mv (.t 0))⟩,
    ⟨none, .val 9 (.len false (.t 8))⟩,
    ⟨none, .val 10 (.mv (.c (iv 0)))⟩] false []
abbrev doc_rises_string_r3 : HCode := .reg [⟨none, .val 11 (.ints .lss (.t 10) (.t 9))⟩] false []
abbrev doc_rises_string_r4 : HCode := .reg [⟨none, .val 12 (.idxA 1 (.t 8) (.t 10))⟩,
    ⟨none, .val 13 (.ldR (.t 12) 1 false)⟩,
    ⟨none, .val 7 (.mv (.t 13))⟩] false [.forget [12, 13]]
abbrev doc_rises_string_r5 : HCode := .reg [⟨none, .val 14 (.mv (.t 1))⟩,
    ⟨none, .val 15 (.mv (.t 7))⟩,
    ⟨none, .callv (some 16) (.t 14) [(.t 15, .v)]⟩,
    ⟨none, .call (some 17) fn_doc_Name [(.t 16, .v)]⟩,
    ⟨none, .val 18 (.not (.t 17))⟩,
    ⟨none, .val 19 (.mv (.t 18))⟩,
    ⟨some (19, false), .val 20 (.mv (.t 1))⟩,
    ⟨some (19, false), .val 21 (.mv (.t 7))⟩,
    ⟨some (19, false), .callv (some 22) (.t 20) [(.t 21, .v)]⟩,
    ⟨some (19, false), .val 23 (.mv (.t 5))⟩,
    ⟨some (19, false), .val 24 (.strs .leq (.t 22) (.t 23))⟩,
    ⟨none, .val 25 (.pick (.t 19) (.c (bv true)) (.t 24))⟩] false [.forget [14, 15, 16, 17, 18, 19, 20, 21, 22, 23, 24]]
abbrev doc_rises_string_r6 : HCode := .reg [⟨none, .val 4 (.mv (.c (bv false)))⟩] false []
abbrev doc_rises_string_r7 : HCode := .reg [⟨none, .val 26 (.mv (.t 1))⟩,
    ⟨none, .val 27 (.mv (.t 7))⟩,
    ⟨none, .callv (some 28) (.t 26) [(.t 27, .v)]⟩,
    ⟨none, .val 5 (.mv (.t 28))⟩] false [.forget [26, 27, 28]]
abbrev doc_rises_string_r8 : HCode := .reg [⟨none, .val 29 (.ints .add (.t 10) (.c (iv 1)))⟩,
    ⟨none, .val 10 (.mv (.t 29))⟩] false [.forget [29]]
abbrev doc_rises_string_r9 : HCode := .reg [⟨none, .val 4 (.mv (.c (bv true)))⟩] false []
abbrev doc_rises_string : HCode := (.seq doc_rises_string_r0 (.seq doc_rises_string_r1 (.seq (.seq doc_rises_string_r2 (.block 0 (.loop (.seq doc_rises_string_r3 (.seq (.cond (.t 11) .skip (.exit 0)) (.seq (.block 1 (.seq doc_rises_string_r4 (.seq (.seq doc_rises_string_r5 (.cond (.t 25) (.seq doc_rises_string_r6 .ret) .skip)) doc_rises_string_r7))) doc_rises_string_r8)))))) (.seq doc_rises_string_r9 .ret))))
abbrev doc_rises_string_E : Env := { N := 30, Γ := [], L := 30, nfix := 0 }
abbrev doc_rises_string_R : List RSrc := [.tmp 4]
theorem mk_doc_rises_string {base : Nat} {av : List AV} {r : RV} (hfo : formOk doc_rises_string_E base av) (hW : AVs.fits av → hwp Tryd.prog doc_rises_string (finQ doc_rises_string_E base av doc_rises_string_R r) (F0 doc_rises_string_E base av)) (hov : ∀ x, r.res = .ov x → nOwn av = 0 := by intro x h; cases h <;> rfl) : Contract Tryd.prog fn_doc_rises_string av r :=
  contract_of_wp (fn := Tryd.f109) (c := Tryd.f109.body.getD .skip) (by kernel_rfl) (by kernel_rfl) (by kernel_rfl) (by kernel_rfl) (by kernel_rfl) (by kernel_rfl) (by kernel_rfl) hfo hW hov
abbrev doc_rises_api_Attr_r0 : HCode := .reg [⟨none, .val 4 (.mv (.c (bv false)))⟩] false []
abbrev doc_rises_api_Attr_r1 : HCode := .reg [⟨none, .val 5 (.mv (.c (sv [])))⟩] false []
abbrev doc_rises_api_Attr_r2 : HCode := .reg [⟨none, .val 8 (.mv (.t 0))⟩,
    ⟨none, .val 9 (.len false (.t 8))⟩,
    ⟨none, .val 10 (.mv (.c (iv 0)))⟩] false []
abbrev doc_rises_api_Attr_r3 : HCode := .reg [⟨none, .val 11 (.ints .lss (.t 10) (.t 9))⟩] false []
abbrev doc_rises_api_Attr_r4 : HCode := .reg [⟨none, .val 12 (.idxA 2 (.t 8) (.t 10))⟩,
    ⟨none, .val 13 (.ldR (.t 12) 2 true)⟩,
    ⟨none, .alloc 7 0 30 [.v (mkS []), .v (mkS [])]⟩,
    ⟨none, .sto (.t 7) 0 30 0 2 (.t 13)⟩] false [.forget [12, 13]]
abbrev doc_rises_api_Attr_r5 : HCode := .reg [⟨none, .val 14 (.mv (.t 1))⟩,
    ⟨none, .val 15 (.ldB (.t 7) 0 30 0 2 true)⟩,
    ⟨none, .callv (some 16) (.t 14) [(.t 15, .v)]⟩,
    ⟨none, .call (some 17) fn_doc_Name [(.t 16, .v)]⟩,
    ⟨none, .val 18 (.not (.t 17))⟩,
    ⟨none, .val 19 (.mv (.t 18))⟩,
    ⟨some (19, false), .val 20 (.mv (.t 1))⟩,
    ⟨some (19, false), .val 21 (.ldB (.t 7) 0 30 0 2 true)⟩,
    ⟨some (19, false), .callv (some 22) (.t 20) [(.t 21, .v)]⟩,
    ⟨some (19, false), .val 23 (.mv (.t 5))⟩,
    ⟨some (19, false), .val 24 (.strs .leq (.t 22) (.t 23))⟩,
    ⟨none, .val 25 (.pick (.t 19) (.c (bv true)) (.t 24))⟩] false [.forget [14, 15, 16, 17, 18, 19, 20, 21, 22, 23, 24]]
abbrev doc_rises_api_Attr_r6 : HCode := .reg [⟨none, .val 4 (.mv (.c (bv false)))⟩] false []
abbrev doc_rises_api_Attr_r7 : HCode := .reg [⟨none, .val 26 (.mv (.t 1))⟩,
    ⟨none, .val 27 (.ldB (.t 7) 0 30 0 2 true)⟩,
    ⟨none, .callv (some 28) (.t 26) [(.t 27, .v)]⟩,
    ⟨none, .val 5 (.mv (.t 28))⟩] false [.forget [26, 27, 28]]
abbrev doc_rises_api_Attr_r8 : HCode := .reg [⟨none, .val 29 (.ints .add (.t 10) (.c (iv 1)))⟩,
    ⟨none, .val 10 (.mv (.t 29))⟩] false [.forget [29]]
abbrev doc_rises_api_Attr_r9 : HCode := .reg [⟨none, .val 4 (.mv (.c (bv true)))⟩] false []
abbrev doc_rises_api_Attr : HCode := (.seq doc_rises_api_Attr_r0 (.seq doc_rises_api_Attr_r1 (.seq (.seq doc_rises_api_Attr_r2 (.block 0 (.loop (.seq doc_rises_api_Attr_r3 (.seq (.cond (.t 11) .skip (.exit 0)) (.seq (.block 1 (.seq doc_rises_api_Attr_r4 (.seq (.seq doc_rises_api_Attr_r5 (.cond (.t 25) (.seq doc_rises_api_Attr_r6 .ret) .skip)) doc_rises_api_Attr_r7))) doc_rises_api_Attr_r8)))))) (.seq doc_rises_api_Attr_r9 .ret))))
abbrev doc_rises_api_Attr_E : Env := { N := 30, Γ := [(30, 2)], L := 32, nfix := 0 }
abbrev doc_rises_api_Attr_R : List RSrc := [.tmp 4]
theorem mk_doc_rises_api_Attr {base : Nat} {av : List AV} {r : RV} (hfo : formOk doc_rises_api_Attr_E base av) (hW : AVs.fits av → hwp Tryd.prog doc_rises_api_Attr (finQ doc_rises_api_Attr_E base av doc_rises_api_Attr_R r) (F0 doc_rises_api_Attr_E base av)) (hov : ∀ x, r.res = .ov x → nOwn av = 0 := by intro x h; cases h <;> rfl) : Contract Tryd.prog fn_doc_rises_api_Attr av r :=
  contract_of_wp (fn := Tryd.f111) (c := Tryd.f111.body.getD .skip) (by kernel_rfl) (by kernel_rfl) (by kernel_rfl) (by kernel_rfl) (by kernel_rfl) (by kernel_rfl) (by kernel_rfl) hfo hW hov
abbrev doc_Fine_r0 : HCode := .reg [⟨none, .val 1 (.boxF (.t 0))⟩,
    ⟨none, .val 2 (.mv (.c (bv false)))⟩] false []
abbrev doc_Fine_r1 : HCode := .reg [⟨none, .val 3 (.fldR (.t 1) 1 1)⟩,
    ⟨none, .val 4 (.ldR (.t 3) 1 false)⟩,
    ⟨none, .call (some 5) fn_doc_Name [(.t 4, .v)]⟩,
    ⟨none, .val 6 (.mv (.t 5))⟩,
    ⟨some (6, true), .val 7 (.fldR (.t 1) 2 1)⟩,
    ⟨some (6, true), .val 8 (.ldR (.t 7) 1 false)⟩,
    ⟨some (6, true), .val 9 (.strs .eql (.t 8) (.c (sv [])))⟩,
    ⟨some (6, true), .val 10 (.mv (.t 9))⟩,
    ⟨some (10, false), .val 11 (.fldR (.t 1) 2 1)⟩,
    ⟨some (10, false), .val 12 (.ldR (.t 11) 1 false)⟩,
    ⟨some (10, false), .call (some 13) fn_doc_Name [(.t 12, .v)]⟩,
    ⟨some (6, true), .val 14 (.pick (.t 10) (.c (bv true)) (.t 13))⟩,
    ⟨none, .val 15 (.pick (.t 6) (.t 14) (.c (bv false)))⟩,
    ⟨none, .val 16 (.mv (.t 15))⟩,
    ⟨some (16, true), .val 17 (.fldR (.t 1) 3 1)⟩,
    ⟨some (16, true), .val 18 (.ldR (.t 17) 1 false)⟩,
    ⟨some (16, true), .val 19 (.len false (.t 18))⟩,
    ⟨some (16, true), .val 20 (.ints .leq (.t 19) (.c (iv 6)))⟩,
    ⟨none, .val 21 (.pick (.t 16) (.t 20) (.c (bv false)))⟩,
    ⟨none, .val 22 (.mv (.t 21))⟩,
    ⟨some (22, true), .val 23 (.fldR (.t 1) 4 1)⟩,
    ⟨some (22, true), .val 24 (.ldR (.t 23) 1 false)⟩,
    ⟨some (22, true), .val 25 (.len false (.t 24))⟩,
    ⟨some (22, true), .val 26 (.ints .leq (.t 25) (.c (iv 4)))⟩,
    ⟨none, .val 27 (.pick (.t 22) (.t 26) (.c (bv false)))⟩,
    ⟨none, .val 28 (.mv (.t 27))⟩,
    ⟨some (28, true), .val 29 (.fldR (.t 1) 3 1)⟩,
    ⟨some (28, true), .val 30 (.ldR (.t 29) 1 false)⟩,
    ⟨some (28, true), .call (some 31) fn_doc_rises_string [(.t 30, .v), (.f fn_doc_Fine_1, .v)]⟩,
    ⟨none, .val 32 (.pick (.t 28) (.t 31) (.c (bv false)))⟩,
    ⟨none, .val 33 (.mv (.t 32))⟩,
    ⟨some (33, true), .val 34 (.fldR (.t 1) 4 1)⟩,
    ⟨some (33, true), .val 35 (.ldR (.t 34) 1 false)⟩,
    ⟨some (33, true), .call (some 36) fn_doc_rises_api_Attr [(.t 35, .v), (.f fn_doc_Fine_2, .v)]⟩,
    ⟨none, .val 37 (.pick (.t 33) (.t 36) (.c (bv false)))⟩,
    ⟨none, .val 38 (.mv (.t 37))⟩,
    ⟨some (38, true), .val 39 (.fldR (.t 1) 4 1)⟩,
    ⟨some (38, true), .val 40 (.ldR (.t 39) 1 false)⟩,
    ⟨some (38, true), .call (some 41) fn_slices_ContainsFunc_Attr [(.t 40, .v), (.f fn_doc_Fine_3, .v)]⟩,
    ⟨some (38, true), .val 42 (.not (.t 41))⟩,
    ⟨none, .val 43 (.pick (.t 38) (.t 42) (.c (bv false)))⟩,
    ⟨none, .val 2 (.mv (.t 43))⟩] false [.forget [3, 4, 5, 6, 7, 8, 9, 10, 11, 12, 13, 14, 15, 16, 17, 18, 19, 20, 21, 22, 23, 24, 25, 26, 27, 28, 29, 30, 31, 32, 33, 34, 35, 36, 37, 38, 39, 40, 41, 42, 43]]
abbrev doc_Fine : HCode := (.seq doc_Fine_r0 (.seq doc_Fine_r1 .ret))
abbrev doc_Fine_E : Env := { N := 44, Γ := [], L := 44, nfix := 0 }
abbrev doc_Fine_R : List RSrc := [.tmp 2]
theorem mk_doc_Fine {base : Nat} {av : List AV} {r : RV} (hfo : formOk doc_Fine_E base av) (hW : AVs.fits av → hwp Tryd.prog doc_Fine (finQ doc_Fine_E base av doc_Fine_R r) (F0 doc_Fine_E base av)) (hov : ∀ x, r.res = .ov x → nOwn av = 0 := by intro x h; cases h <;> rfl) : Contract Tryd.prog fn_doc_Fine av r :=
  contract_of_wp (fn := Tryd.f64) (c := Tryd.f64.body.getD .skip) (by kernel_rfl) (by kernel_rfl) (by kernel_rfl) (by kernel_rfl) (by kernel_rfl) (by kernel_rfl) (by kernel_rfl) hfo hW hov
abbrev doc_Fine_1_r0 : HCode := .reg [⟨none, .val 2 (.mv (.c (sv [])))⟩] false []
abbrev doc_Fine_1_r1 : HCode := .reg [⟨none, .val 3 (.mv (.t 0))⟩,
    ⟨none, .val 2 (.mv (.t 3))⟩] false [.forget [3]]
abbrev doc_Fine_1 : HCode := (.seq doc_Fine_1_r0 (.seq doc_Fine_1_r1 .ret))
abbrev doc_Fine_1_E : Env := { N := 4, Γ := [], L := 4, nfix := 0 }
abbrev doc_Fine_1_R : List RSrc := [.tmp 2]
theorem mk_doc_Fine_1 {base : Nat} {av : List AV} {r : RV} (hfo : formOk doc_Fine_1_E base av) (hW : AVs.fits av → hwp Tryd.prog doc_Fine_1 (finQ doc_Fine_1_E base av doc_Fine_1_R r) (F0 doc_Fine_1_E base av)) (hov : ∀ x, r.res = .ov x → nOwn av = 0 := by intro x h; cases h <;> rfl) : Contract Tryd.prog fn_doc_Fine_1 av r :=
  contract_of_wp (fn := Tryd.f110) (c := Tryd.f110.body.getD .skip) (by kernel_rfl) (by kernel_rfl) (by kernel_rfl) (by kernel_rfl) (by kernel_rfl) (by kernel_rfl) (by kernel_rfl) hfo hW hov
abbrev doc_Fine_2_r0 : HCode := .reg [⟨none, .val 1 (.boxF (.t 0))⟩,
    ⟨none, .val 2 (.mv (.c (sv [])))⟩] false []
abbrev doc_Fine_2_r1 : HCode := .reg [⟨none, .val 3 (.fldR (.t 1) 0 1)⟩,
    ⟨none, .val 4 (.ldR (.t 3) 1 false)⟩,
    ⟨none, .val 2 (.mv (.t 4))⟩] false [.forget [3, 4]]
abbrev doc_Fine_2 : HCode := (.seq doc_Fine_2_r0 (.seq doc_Fine_2_r1 .ret))
abbrev doc_Fine_2_E : Env := { N := 5, Γ := [], L := 5, nfix := 0 }
abbrev doc_Fine_2_R : List RSrc := [.tmp 2]
theorem mk_doc_Fine_2 {base : Nat} {av : List AV} {r : RV} (hfo : formOk doc_Fine_2_E base av) (hW : AVs.fits av → hwp Tryd.prog doc_Fine_2 (finQ doc_Fine_2_E base av doc_Fine_2_R r) (F0 doc_Fine_2_E base av)) (hov : ∀ x, r.res = .ov x → nOwn av = 0 := by intro x h; cases h <;> rfl) : Contract Tryd.prog fn_doc_Fine_2 av r :=
  contract_of_wp (fn := Tryd.f112) (c := Tryd.f112.body.getD .skip) (by kernel_rfl) (by kernel_rfl) (by kernel_rfl) (by kernel_rfl) (by kernel_rfl) (by kernel_rfl) (by kernel_rfl) hfo hW hov
abbrev doc_Fine_3_r0 : HCode := .reg [⟨none, .val 1 (.boxF (.t 0))⟩,
    ⟨none, .val 2 (.mv (.c (bv false)))⟩] false []
abbrev doc_Fine_3_r1 : HCode := .reg [⟨none, .val 3 (.fldR (.t 1) 1 1)⟩,
    ⟨none, .val 4 (.ldR (.t 3) 1 false)⟩,
    ⟨none, .call (some 5) fn_doc_Value [(.t 4, .v)]⟩,
    ⟨none, .val 6 (.not (.t 5))⟩,
    ⟨none, .val 2 (.mv (.t 6))⟩] false [.forget [3, 4, 5, 6]]
abbrev doc_Fine_3 : HCode := (.seq doc_Fine_3_r0 (.seq doc_Fine_3_r1 .ret))
abbrev doc_Fine_3_E : Env := { N := 7, Γ := [], L := 7, nfix := 0 }
abbrev doc_Fine_3_R : List RSrc := [.tmp 2]
theorem mk_doc_Fine_3 {base : Nat} {av : List AV} {r : RV} (hfo : formOk doc_Fine_3_E base av) (hW : AVs.fits av → hwp Tryd.prog doc_Fine_3 (finQ doc_Fine_3_E base av doc_Fine_3_R r) (F0 doc_Fine_3_E base av)) (hov : ∀ x, r.res = .ov x → nOwn av = 0 := by intro x h; cases h <;> rfl) : Contract Tryd.prog fn_doc_Fine_3 av r :=
  contract_of_wp (fn := Tryd.f114) (c := Tryd.f114.body.getD .skip) (by kernel_rfl) (by kernel_rfl) (by kernel_rfl) (by kernel_rfl) (by kernel_rfl) (by kernel_rfl) (by kernel_rfl) hfo hW hov
abbrev doc_Check_r0 : HCode := .reg [⟨none, .val 1 (.boxF (.t 0))⟩,
    ⟨none, .val 2 (.mv (.c (iv 0)))⟩] false []
abbrev doc_Check_r1 : HCode := .reg [⟨none, .val 6 (.fldR (.t 1) 0 1)⟩,
    ⟨none, .val 7 (.ldR (.t 6) 1 false)⟩,
    ⟨none, .val 8 (.len false (.t 7))⟩,
    ⟨none, .val 9 (.ints .lss (.t 8) (.c (iv 1)))⟩,
    ⟨none, .val 10 (.mv (.t 9))⟩,
    ⟨some (10, false), .val 11 (.fldR (.t 1) 0 1)⟩,
    ⟨some (10, false), .val 12 (.ldR (.t 11) 1 false)⟩,
    ⟨some (10, false), .val 13 (.len false (.t 12))⟩,
    ⟨some (10, false), .val 14 (.ints .gtr (.t 13) (.c (iv 64)))⟩,
    ⟨none, .val 15 (.pick (.t 10) (.c (bv true)) (.t 14))⟩] false [.forget [6, 7, 8, 9, 10, 11, 12, 13, 14]]
abbrev doc_Check_r2 : HCode := .reg [⟨none, .val 2 (.mv (.c (iv 2)))⟩] false []
abbrev doc_Check_r3 : HCode := .reg [⟨none, .nlk 3 ty_int 1⟩] false []
abbrev doc_Check_r4 : HCode := .reg [⟨none, .val 16 (.fldR (.t 1) 0 1)⟩,
    ⟨none, .val 17 (.ldR (.t 16) 1 false)⟩,
    ⟨none, .val 18 (.len false (.t 17))⟩,
    ⟨none, .val 19 (.mv (.c (iv 0)))⟩] false [.forget [16]]
abbrev doc_Check_r5 : HCode := .reg [⟨none, .val 20 (.ints .lss (.t 19) (.t 18))⟩] false []
abbrev doc_Check_r6 : HCode := .reg [⟨none, .val 21 (.mv (.t 19))⟩,
    ⟨none, .val 22 (.idxA 5 (.t 17) (.t 19))⟩,
    ⟨none, .val 23 (.ldR (.t 22) 5 true)⟩,
    ⟨none, .alloc 5 0 69 [.v (.int .i64 0), .v (mkS []), .v (mkS []), .nl 1, .nl 2]⟩,
    ⟨none, .val 4 (.mv (.t 21))⟩,
    ⟨none, .sto (.t 5) 0 69 0 5 (.t 23)⟩] false [.frz 0 69 5, .forget [21, 22, 23]]
abbrev doc_Check_r7 : HCode := .rdr 3 [⟨none, .val 24 (.mv (.t 3))⟩,
    ⟨none, .val 25 (.len false (.t 24))⟩,
    ⟨none, .val 26 (.ints .gtr (.t 25) (.c (iv 0)))⟩,
    ⟨none, .val 27 (.mv (.t 26))⟩,
    ⟨some (27, true), .val 28 (.mv (.t 3))⟩,
    ⟨some (27, true), .val 29 (.mv (.t 3))⟩,
    ⟨some (27, true), .val 30 (.len false (.t 29))⟩,
    ⟨some (27, true), .val 31 (.ints .sub (.t 30) (.c (iv 1)))⟩,
    ⟨some (27, true), .val 32 (.idxA 1 (.t 28) (.t 31))⟩,
    ⟨some (27, true), .val 33 (.ldR (.t 32) 1 false)⟩,
    ⟨some (27, true), .val 34 (.fldR (.t 5) 0 1)⟩,
    ⟨some (27, true), .val 35 (.ldR (.t 34) 1 false)⟩,
    ⟨some (27, true), .val 36 (.ints .neq (.t 33) (.t 35))⟩,
    ⟨none, .val 37 (.pick (.t 27) (.t 36) (.c (bv false)))⟩] true [.forget [24, 25, 26, 27, 28, 29, 30, 31, 32, 33, 34, 35, 36]]
abbrev doc_Check_r8 : HCode := .reg [⟨none, .mvk 38 3⟩,
    ⟨none, .val 39 (.mv (.t 3))⟩,
    ⟨none, .val 40 (.len false (.t 39))⟩,
    ⟨none, .val 41 (.ints .sub (.t 40) (.c (iv 1)))⟩,
    ⟨none, .trk 42 38 (.t 41)⟩,
    ⟨none, .mvk 3 42⟩] false [.forget [38, 39, 40, 41, 42]]
abbrev doc_Check_r9 : HCode := .rdr 3 [⟨none, .val 43 (.ldR (.t 5) 5 true)⟩,
    ⟨none, .call (some 44) fn_doc_Fine [(.t 43, .v)]⟩,
    ⟨none, .val 45 (.not (.t 44))⟩,
    ⟨none, .val 46 (.mv (.t 45))⟩,
    ⟨some (46, false), .val 47 (.mv (.t 4))⟩,
    ⟨some (46, false), .val 48 (.ints .eql (.t 47) (.c (iv 0)))⟩,
    ⟨some (46, false), .val 49 (.mv (.t 48))⟩,
    ⟨some (49, true), .val 50 (.fldR (.t 5) 0 1)⟩,
    ⟨some (49, true), .val 51 (.ldR (.t 50) 1 false)⟩,
    ⟨some (49, true), .val 52 (.ints .neq (.t 51) (.c (iv (-1))))⟩,
    ⟨some (46, false), .val 53 (.pick (.t 49) (.t 52) (.c (bv false)))⟩,
    ⟨none, .val 54 (.pick (.t 46) (.c (bv true)) (.t 53))⟩,
    ⟨none, .val 55 (.mv (.t 54))⟩,
    ⟨some (55, false), .val 56 (.mv (.t 4))⟩,
    ⟨some (55, false), .val 57 (.ints .gtr (.t 56) (.c (iv 0)))⟩,
    ⟨some (55, false), .val 58 (.mv (.t 57))⟩,
    ⟨some (58, true), .val 59 (.mv (.t 3))⟩,
    ⟨some (58, true), .val 60 (.len false (.t 59))⟩,
    ⟨some (58, true), .val 61 (.ints .eql (.t 60) (.c (iv 0)))⟩,
    ⟨some (55, false), .val 62 (.pick (.t 58) (.t 61) (.c (bv false)))⟩,
    ⟨none, .val 63 (.pick (.t 55) (.c (bv true)) (.t 62))⟩] false [.forget [43, 44, 45, 46, 47, 48, 49, 50, 51, 52, 53, 54, 55, 56, 57, 58, 59, 60, 61, 62]]
abbrev doc_Check_r10 : HCode := .reg [⟨none, .val 2 (.mv (.c (iv 1)))⟩] false []
abbrev doc_Check_r11 : HCode := .reg [⟨none, .mvk 64 3⟩,
    ⟨none, .val 65 (.mv (.t 4))⟩,
    ⟨none, .val 66 (.bslF 1 [.t 65])⟩,
    ⟨none, .apk 67 ty_int 1 64 (.t 66)⟩,
    ⟨none, .mvk 3 67⟩] false [.forget [64, 65, 66, 67]]
abbrev doc_Check_r12 : HCode := .reg [⟨none, .val 68 (.ints .add (.t 19) (.c (iv 1)))⟩,
    ⟨none, .val 19 (.mv (.t 68))⟩] false [.forget [68]]
abbrev doc_Check_r13 : HCode := .reg [⟨none, .val 2 (.mv (.c (iv 0)))⟩] false []
abbrev doc_Check : HCode := (.seq doc_Check_r0 (.seq (.seq doc_Check_r1 (.cond (.t 15) (.seq doc_Check_r2 .ret) .skip)) (.seq doc_Check_r3 (.seq (.seq doc_Check_r4 (.block 0 (.loop (.seq doc_Check_r5 (.seq (.cond (.t 20) .skip (.exit 0)) (.seq (.block 1 (.seq doc_Check_r6 (.seq (.block 2 (.loop (.seq (.seq doc_Check_r7 (.cond (.t 37) .skip (.exit 2))) (.block 3 doc_Check_r8)))) (.seq (.seq doc_Check_r9 (.cond (.t 63) (.seq doc_Check_r10 .ret) .skip)) doc_Check_r11)))) doc_Check_r12)))))) (.seq doc_Check_r13 .ret)))))
abbrev doc_Check_E : Env := { N := 69, Γ := [(69, 5)], L := 74, nfix := 0 }
abbrev doc_Check_R : List RSrc := [.tmp 2]
theorem mk_doc_Check {base : Nat} {av : List AV} {r : RV} (hfo : formOk doc_Check_E base av) (hW : AVs.fits av → hwp Tryd.prog doc_Check (finQ doc_Check_E base av doc_Check_R r) (F0 doc_Check_E base av)) (hov : ∀ x, r.res = .ov x → nOwn av = 0 := by intro x h; cases h <;> rfl) : Contract Tryd.prog fn_doc_Check av r :=
  contract_of_wp (fn := Tryd.f20) (c := Tryd.f20.body.getD .skip) (by kernel_rfl) (by kernel_rfl) (by kernel_rfl) (by kernel_rfl) (by kernel_rfl) (by kernel_rfl) (by kernel_rfl) hfo hW hov
abbrev law_small_r0 : HCode := .reg [⟨none, .alloc 0 0 13 [.nl 5]⟩] false []
abbrev law_small_r1 : HCode := .reg [⟨none, .val 1 (.bld [.v (.int .i64 0), .v (mkS []), .v (mkS []), .nl 1, .nl 2] [(0, 1, .c (iv (-1))), (1, 1, .c (sv [108, 105, 115, 116])), (2, 1, .c (sv [116, 111, 112]))])⟩,
    ⟨none, .val 2 (.bslF 1 [.c (sv [97])])⟩,
    ⟨none, .val 3 (.bld [.v (.int .i64 0), .v (mkS []), .v (mkS []), .nl 1, .nl 2] [(0, 1, .c (iv 0)), (1, 1, .c (sv [105, 116, 101, 109])), (3, 1, .t 2)])⟩,
    ⟨none, .val 4 (.bslF 1 [.c (sv [98])])⟩,
    ⟨none, .val 5 (.bld [.v (.int .i64 0), .v (mkS []), .v (mkS []), .nl 1, .nl 2] [(0, 1, .c (iv 0)), (1, 1, .c (sv [105, 116, 101, 109])), (3, 1, .t 4)])⟩,
    ⟨none, .val 6 (.bld [.v (mkS []), .v (mkS [])] [(0, 1, .c (sv [116, 111])), (1, 1, .c (sv [111, 110, 101, 32, 116, 119, 111]))])⟩,
    ⟨none, .val 7 (.bslF 2 [.t 6])⟩,
    ⟨none, .val 8 (.bld [.v (.int .i64 0), .v (mkS []), .v (mkS []), .nl 1, .nl 2] [(0, 1, .c (iv 2)), (1, 1, .c (sv [108, 105, 110, 107])), (4, 1, .t 7)])⟩,
    ⟨none, .val 9 (.bslF 1 [.c (sv [97])])⟩,
    ⟨none, .val 10 (.bld [.v (.int .i64 0), .v (mkS []), .v (mkS []), .nl 1, .nl 2] [(0, 1, .c (iv 0)), (1, 1, .c (sv [105, 116, 101, 109])), (3, 1, .t 9)])⟩,
    ⟨none, .val 11 (.bslF 5 [.t 1, .t 3, .t 5, .t 8, .t 10])⟩,
    ⟨none, .val 12 (.bld [.nl 5] [(0, 1, .t 11)])⟩,
    ⟨none, .sto (.t 0) 0 13 0 1 (.t 12)⟩] false [.forget [1, 2, 3, 4, 5, 6, 7, 8, 9, 10, 11, 12]]
abbrev law_small : HCode := (.seq law_small_r0 (.seq law_small_r1 .ret))
abbrev law_small_E : Env := { N := 13, Γ := [(13, 1)], L := 14, nfix := 0 }
abbrev law_small_R : List RSrc := [.cellB 0 0 13 0 1 true]
theorem mk_law_small {base : Nat} {av : List AV} {r : RV} (hfo : formOk law_small_E base av) (hW : AVs.fits av → hwp Tryd.prog law_small (finQ law_small_E base av law_small_R r) (F0 law_small_E base av)) (hov : ∀ x, r.res = .ov x → nOwn av = 0 := by intro x h; cases h <;> rfl) : Contract Tryd.prog fn_law_small av r :=
  contract_of_wp (fn := Tryd.f63) (c := Tryd.f63.body.getD .skip) (by kernel_rfl) (by kernel_rfl) (by kernel_rfl) (by kernel_rfl) (by kernel_rfl) (by kernel_rfl) (by kernel_rfl) hfo hW hov
end Go.Hx
end

section
/-
  The abstract code of functions of the program, printed by gen.py; each stands for the given one. No condition.
-/
namespace Go.Hx
open Go.Proofs
variable [Glob]
abbrev fn_doc_Name_1 : Nat := 149
abbrev fn_doc_Value_1 : Nat := 151
abbrev fn_strings_ContainsFunc : Nat := 148
abbrev fn_strings_Trim : Nat := 147
abbrev doc_Name_r0 : HCode := .reg [⟨none, .val 2 (.mv (.c (bv false)))⟩] false []
abbrev doc_Name_r1 : HCode := .reg [⟨none, .val 3 (.mv (.t 0))⟩,
    ⟨none, .val 4 (.len true (.t 3))⟩,
    ⟨none, .val 5 (.ints .gtr (.t 4) (.c (iv 0)))⟩,
    ⟨none, .val 6 (.mv (.t 5))⟩,
    ⟨some (6, true), .val 7 (.mv (.t 0))⟩,
    ⟨some (6, true), .val 8 (.len true (.t 7))⟩,
    ⟨some (6, true), .val 9 (.ints .leq (.t 8) (.c (iv 12)))⟩,
    ⟨none, .val 10 (.pick (.t 6) (.t 9) (.c (bv false)))⟩,
    ⟨none, .val 11 (.mv (.t 10))⟩,
    ⟨some (11, true), .val 12 (.mv (.t 0))⟩,
    ⟨some (11, true), .val 13 (.idxS (.t 12) (.c (iv 0)))⟩,
    ⟨some (11, true), .val 14 (.ints .geq (.t 13) (.c (.one (.v (.int .u8 97)))))⟩,
    ⟨none, .val 15 (.pick (.t 11) (.t 14) (.c (bv false)))⟩,
    ⟨none, .val 16 (.mv (.t 15))⟩,
    ⟨some (16, true), .val 17 (.mv (.t 0))⟩,
    ⟨some (16, true), .val 18 (.idxS (.t 17) (.c (iv 0)))⟩,
    ⟨some (16, true), .val 19 (.ints .leq (.t 18) (.c (.one (.v (.int .u8 122)))))⟩,
    ⟨none, .val 20 (.pick (.t 16) (.t 19) (.c (bv false)))⟩,
    ⟨none, .val 21 (.mv (.t 20))⟩,
    ⟨some (21, true), .val 22 (.mv (.t 0))⟩,
    ⟨some (21, true), .call (some 23) fn_strings_Trim [(.t 22, .v), (.c (sv [97, 98, 99, 100, 101, 102, 103, 104, 105, 106, 107, 108, 109, 110, 111, 112, 113, 114, 115, 116, 117, 118, 119, 120, 121, 122, 48, 49, 50, 51, 52, 53, 54, 55, 56, 57, 45]), .v)]⟩,
    ⟨some (21, true), .val 24 (.strs .eql (.t 23) (.c (sv [])))⟩,
    ⟨none, .val 25 (.pick (.t 21) (.t 24) (.c (bv false)))⟩,
    ⟨none, .val 26 (.mv (.t 25))⟩,
    ⟨some (26, true), .val 27 (.mv (.t 0))⟩,
    ⟨some (26, true), .call (some 28) fn_strings_ContainsFunc [(.t 27, .v), (.f fn_doc_Name_1, .v)]⟩,
    ⟨some (26, true), .val 29 (.not (.t 28))⟩,
    ⟨none, .val 30 (.pick (.t 26) (.t 29) (.c (bv false)))⟩,
    ⟨none, .val 2 (.mv (.t 30))⟩] false [.forget [3, 4, 5, 6, 7, 8, 9, 10, 11, 12, 13, 14, 15, 16, 17, 18, 19, 20, 21, 22, 23, 24, 25, 26, 27, 28, 29, 30]]
abbrev doc_Name : HCode := (.seq doc_Name_r0 (.seq doc_Name_r1 .ret))
abbrev doc_Name_E : Env := { N := 31, Γ := [], L := 31, nfix := 0 }
abbrev doc_Name_R : List RSrc := [.tmp 2]
theorem mk_doc_Name {base : Nat} {av : List AV} {r : RV} (hfo : formOk doc_Name_E base av) (hW : AVs.fits av → hwp Tryd.prog doc_Name (finQ doc_Name_E base av doc_Name_R r) (F0 doc_Name_E base av)) (hov : ∀ x, r.res = .ov x → nOwn av = 0 := by intro x h; cases h <;> rfl) : Contract Tryd.prog fn_doc_Name av r :=
  contract_of_wp (fn := Tryd.f108) (c := Tryd.f108.body.getD .skip) (by kernel_rfl) (by kernel_rfl) (by kernel_rfl) (by kernel_rfl) (by kernel_rfl) (by kernel_rfl) (by kernel_rfl) hfo hW hov
abbrev doc_Name_1_r0 : HCode := .reg [⟨none, .val 2 (.mv (.c (bv false)))⟩] false []
abbrev doc_Name_1_r1 : HCode := .reg [⟨none, .val 3 (.mv (.t 0))⟩,
    ⟨none, .val 4 (.ints .lss (.t 3) (.c (.one (.v (.int .i32 97)))))⟩,
    ⟨none, .val 5 (.mv (.t 4))⟩,
    ⟨some (5, false), .val 6 (.mv (.t 0))⟩,
    ⟨some (5, false), .val 7 (.ints .gtr (.t 6) (.c (.one (.v (.int .i32 122)))))⟩,
    ⟨none, .val 8 (.pick (.t 5) (.c (bv true)) (.t 7))⟩,
    ⟨none, .val 9 (.mv (.t 8))⟩,
    ⟨some (9, true), .val 10 (.mv (.t 0))⟩,
    ⟨some (9, true), .val 11 (.ints .lss (.t 10) (.c (.one (.v (.int .i32 48)))))⟩,
    ⟨some (9, true), .val 12 (.mv (.t 11))⟩,
    ⟨some (12, false), .val 13 (.mv (.t 0))⟩,
    ⟨some (12, false), .val 14 (.ints .gtr (.t 13) (.c (.one (.v (.int .i32 57)))))⟩,
    ⟨some (9, true), .val 15 (.pick (.t 12) (.c (bv true)) (.t 14))⟩,
    ⟨none, .val 16 (.pick (.t 9) (.t 15) (.c (bv false)))⟩,
    ⟨none, .val 17 (.mv (.t 16))⟩,
    ⟨some (17, true), .val 18 (.mv (.t 0))⟩,
    ⟨some (17, true), .val 19 (.ints .neq (.t 18) (.c (.one (.v (.int .i32 45)))))⟩,
    ⟨none, .val 20 (.pick (.t 17) (.t 19) (.c (bv false)))⟩,
    ⟨none, .val 2 (.mv (.t 20))⟩] false [.forget [3, 4, 5, 6, 7, 8, 9, 10, 11, 12, 13, 14, 15, 16, 17, 18, 19, 20]]
abbrev doc_Name_1 : HCode := (.seq doc_Name_1_r0 (.seq doc_Name_1_r1 .ret))
abbrev doc_Name_1_E : Env := { N := 21, Γ := [], L := 21, nfix := 0 }
abbrev doc_Name_1_R : List RSrc := [.tmp 2]
theorem mk_doc_Name_1 {base : Nat} {av : List AV} {r : RV} (hfo : formOk doc_Name_1_E base av) (hW : AVs.fits av → hwp Tryd.prog doc_Name_1 (finQ doc_Name_1_E base av doc_Name_1_R r) (F0 doc_Name_1_E base av)) (hov : ∀ x, r.res = .ov x → nOwn av = 0 := by intro x h; cases h <;> rfl) : Contract Tryd.prog fn_doc_Name_1 av r :=
  contract_of_wp (fn := Tryd.f149) (c := Tryd.f149.body.getD .skip) (by kernel_rfl) (by kernel_rfl) (by kernel_rfl) (by kernel_rfl) (by kernel_rfl) (by kernel_rfl) (by kernel_rfl) hfo hW hov
abbrev doc_Value_r0 : HCode := .reg [⟨none, .val 2 (.mv (.c (bv false)))⟩] false []
abbrev doc_Value_r1 : HCode := .reg [⟨none, .val 3 (.mv (.t 0))⟩,
    ⟨none, .val 4 (.len true (.t 3))⟩,
    ⟨none, .val 5 (.ints .leq (.t 4) (.c (iv 16)))⟩,
    ⟨none, .val 6 (.mv (.t 5))⟩,
    ⟨some (6, true), .val 7 (.mv (.t 0))⟩,
    ⟨some (6, true), .call (some 8) fn_strings_ContainsFunc [(.t 7, .v), (.f fn_doc_Value_1, .v)]⟩,
    ⟨some (6, true), .val 9 (.not (.t 8))⟩,
    ⟨none, .val 10 (.pick (.t 6) (.t 9) (.c (bv false)))⟩,
    ⟨none, .val 2 (.mv (.t 10))⟩] false [.forget [3, 4, 5, 6, 7, 8, 9, 10]]
abbrev doc_Value : HCode := (.seq doc_Value_r0 (.seq doc_Value_r1 .ret))
abbrev doc_Value_E : Env := { N := 11, Γ := [], L := 11, nfix := 0 }
abbrev doc_Value_R : List RSrc := [.tmp 2]
theorem mk_doc_Value {base : Nat} {av : List AV} {r : RV} (hfo : formOk doc_Value_E base av) (hW : AVs.fits av → hwp Tryd.prog doc_Value (finQ doc_Value_E base av doc_Value_R r) (F0 doc_Value_E base av)) (hov : ∀ x, r.res = .ov x → nOwn av = 0 := by intro x h; cases h <;> rfl) : Contract Tryd.prog fn_doc_Value av r :=
  contract_of_wp (fn := Tryd.f115) (c := Tryd.f115.body.getD .skip) (by kernel_rfl) (by kernel_rfl) (by kernel_rfl) (by kernel_rfl) (by kernel_rfl) (by kernel_rfl) (by kernel_rfl) hfo hW hov
abbrev doc_Value_1_r0 : HCode := .reg [⟨none, .val 2 (.mv (.c (bv false)))⟩] false []
abbrev doc_Value_1_r1 : HCode := .reg [⟨none, .val 3 (.mv (.t 0))⟩,
    ⟨none, .val 4 (.ints .lss (.t 3) (.c (.one (.v (.int .i32 32)))))⟩,
    ⟨none, .val 5 (.mv (.t 4))⟩,
    ⟨some (5, false), .val 6 (.mv (.t 0))⟩,
    ⟨some (5, false), .val 7 (.ints .gtr (.t 6) (.c (.one (.v (.int .i32 126)))))⟩,
    ⟨none, .val 8 (.pick (.t 5) (.c (bv true)) (.t 7))⟩,
    ⟨none, .val 9 (.mv (.t 8))⟩,
    ⟨some (9, false), .val 10 (.mv (.t 0))⟩,
    ⟨some (9, false), .val 11 (.ints .eql (.t 10) (.c (.one (.v (.int .i32 34)))))⟩,
    ⟨none, .val 12 (.pick (.t 9) (.c (bv true)) (.t 11))⟩,
    ⟨none, .val 2 (.mv (.t 12))⟩] false [.forget [3, 4, 5, 6, 7, 8, 9, 10, 11, 12]]
abbrev doc_Value_1 : HCode := (.seq doc_Value_1_r0 (.seq doc_Value_1_r1 .ret))
abbrev doc_Value_1_E : Env := { N := 13, Γ := [], L := 13, nfix := 0 }
abbrev doc_Value_1_R : List RSrc := [.tmp 2]
theorem mk_doc_Value_1 {base : Nat} {av : List AV} {r : RV} (hfo : formOk doc_Value_1_E base av) (hW : AVs.fits av → hwp Tryd.prog doc_Value_1 (finQ doc_Value_1_E base av doc_Value_1_R r) (F0 doc_Value_1_E base av)) (hov : ∀ x, r.res = .ov x → nOwn av = 0 := by intro x h; cases h <;> rfl) : Contract Tryd.prog fn_doc_Value_1 av r :=
  contract_of_wp (fn := Tryd.f151) (c := Tryd.f151.body.getD .skip) (by kernel_rfl) (by kernel_rfl) (by kernel_rfl) (by kernel_rfl) (by kernel_rfl) (by kernel_rfl) (by kernel_rfl) hfo hW hov
end Go.Hx
end

section
/-
  The abstract code of functions of the program, printed by gen.py; each stands for the given one. No condition.
-/
namespace Go.Hx
open Go.Proofs
variable [Glob]
abbrev fn_ref_reader_sign : Nat := 140
abbrev fn_strings_Cut : Nat := 105
abbrev ref_reader_sign_r0 : HCode := .reg [⟨none, .val 4 (.mv (.c (bv false)))⟩] false []
abbrev ref_reader_sign_r1 : HCode := .reg [⟨none, .val 5 (.mv (.t 0))⟩,
    ⟨none, .val 6 (.nilck (.t 5))⟩,
    ⟨none, .val 7 (.fldP (.t 6) 0)⟩,
    ⟨none, .val 8 (.ldB (.t 7) 0 34 0 1 false)⟩,
    ⟨none, .val 9 (.len true (.t 8))⟩,
    ⟨none, .val 10 (.mv (.t 1))⟩,
    ⟨none, .val 11 (.len true (.t 10))⟩,
    ⟨none, .val 12 (.ints .lss (.t 9) (.t 11))⟩,
    ⟨none, .val 13 (.mv (.t 12))⟩,
    ⟨some (13, false), .val 14 (.mv (.t 0))⟩,
    ⟨some (13, false), .val 15 (.nilck (.t 14))⟩,
    ⟨some (13, false), .val 16 (.fldP (.t 15) 0)⟩,
    ⟨some (13, false), .val 17 (.ldB (.t 16) 0 34 0 1 false)⟩,
    ⟨some (13, false), .val 18 (.mv (.t 1))⟩,
    ⟨some (13, false), .val 19 (.len true (.t 18))⟩,
    ⟨some (13, false), .val 20 (.sls (.t 17) none (some (.t 19)))⟩,
    ⟨some (13, false), .val 21 (.mv (.t 1))⟩,
    ⟨some (13, false), .val 22 (.strs .neq (.t 20) (.t 21))⟩,
    ⟨none, .val 23 (.pick (.t 13) (.c (bv true)) (.t 22))⟩] false [.forget [5, 6, 7, 8, 9, 10, 11, 12, 13, 14, 15, 16, 17, 18, 19, 20, 21, 22]]
abbrev ref_reader_sign_r2 : HCode := .reg [⟨none, .val 4 (.mv (.c (bv false)))⟩] false []
abbrev ref_reader_sign_r3 : HCode := .reg [⟨none, .val 24 (.mv (.t 0))⟩,
    ⟨none, .val 25 (.mv (.t 0))⟩,
    ⟨none, .val 26 (.nilck (.t 25))⟩,
    ⟨none, .val 27 (.fldP (.t 26) 0)⟩,
    ⟨none, .val 28 (.ldB (.t 27) 0 34 0 1 false)⟩,
    ⟨none, .val 29 (.mv (.t 1))⟩,
    ⟨none, .val 30 (.len true (.t 29))⟩,
    ⟨none, .val 31 (.sls (.t 28) (some (.t 30)) none)⟩,
    ⟨none, .val 32 (.nilck (.t 24))⟩,
    ⟨none, .val 33 (.fldP (.t 32) 0)⟩,
    ⟨none, .sto (.t 33) 0 34 0 1 (.t 31)⟩] false [.forget [24, 25, 26, 27, 28, 29, 30, 31, 32, 33]]
abbrev ref_reader_sign_r4 : HCode := .reg [⟨none, .val 4 (.mv (.c (bv true)))⟩] false []
abbrev ref_reader_sign : HCode := (.seq ref_reader_sign_r0 (.seq (.seq ref_reader_sign_r1 (.cond (.t 23) (.seq ref_reader_sign_r2 .ret) .skip)) (.seq ref_reader_sign_r3 (.seq ref_reader_sign_r4 .ret))))
abbrev ref_reader_sign_E : Env := { N := 34, Γ := [(34, 1)], L := 35, nfix := 1 }
abbrev ref_reader_sign_R : List RSrc := [.tmp 4]
theorem mk_ref_reader_sign {base : Nat} {av : List AV} {r : RV} (hfo : formOk ref_reader_sign_E base av) (hW : AVs.fits av → hwp Tryd.prog ref_reader_sign (finQ ref_reader_sign_E base av ref_reader_sign_R r) (F0 ref_reader_sign_E base av)) (hov : ∀ x, r.res = .ov x → nOwn av = 0 := by intro x h; cases h <;> rfl) : Contract Tryd.prog fn_ref_reader_sign av r :=
  contract_of_wp (fn := Tryd.f140) (c := Tryd.f140.body.getD .skip) (by kernel_rfl) (by kernel_rfl) (by kernel_rfl) (by kernel_rfl) (by kernel_rfl) (by kernel_rfl) (by kernel_rfl) hfo hW hov
end Go.Hx
end

section
/-
  The abstract code of functions of the program, printed by gen.py; each stands for the given one. No condition.
-/
namespace Go.Hx
open Go.Proofs
variable [Glob]
abbrev fn_internal_stringslite_Cut : Nat := 143
abbrev strings_Cut_r0 : HCode := .reg [⟨none, .val 4 (.mv (.c (sv [])))⟩,
    ⟨none, .val 5 (.mv (.c (sv [])))⟩,
    ⟨none, .val 6 (.mv (.c (bv false)))⟩] false []
abbrev strings_Cut_r1 : HCode := .reg [⟨none, .val 7 (.mv (.t 0))⟩,
    ⟨none, .val 8 (.mv (.t 1))⟩,
    ⟨none, .call (some 9) fn_internal_stringslite_Cut [(.t 7, .v), (.t 8, .v)]⟩,
    ⟨none, .val 10 (.ext 9 0)⟩,
    ⟨none, .val 11 (.ext 9 1)⟩,
    ⟨none, .val 12 (.ext 9 2)⟩,
    ⟨none, .val 4 (.mv (.t 10))⟩,
    ⟨none, .val 5 (.mv (.t 11))⟩,
    ⟨none, .val 6 (.mv (.t 12))⟩] false [.forget [7, 8, 9, 10, 11, 12]]
abbrev strings_Cut : HCode := (.seq strings_Cut_r0 (.seq strings_Cut_r1 .ret))
end Go.Hx
end
