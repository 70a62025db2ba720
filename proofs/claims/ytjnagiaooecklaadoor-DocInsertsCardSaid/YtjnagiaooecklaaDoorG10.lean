/-
  The abstract code of functions of the program, printed by gen.py; each stands for the given one. No condition.
-/
import Derived.Test.YtjnagiaooecklaaDoorProg
import Derived.Test.YtjnagiaooecklaaDoorG8
set_option linter.all false
namespace Go.Hx
open Go.Proofs
variable [Glob]
abbrev fn_ref_Above : Nat := 60
abbrev fn_ref_CheckDoc : Nat := 21
abbrev fn_ref_IsName : Nat := 116
abbrev fn_ref_IsValue : Nat := 117
abbrev fn_ref_KidsOf : Nat := 16
abbrev fn_ref_NodeFine : Nat := 66
abbrev fn_ref_OwnDoc : Nat := 79
abbrev fn_ref_OwnNode : Nat := 80
abbrev fn_ref_PartOf : Nat := 18
abbrev fn_ref_RemoveDoc : Nat := 28
abbrev fn_ref_SameDocs : Nat := 23
abbrev fn_ref_SameInts : Nat := 22
abbrev fn_ref_SameNodes : Nat := 67
abbrev fn_ref_SameTexts : Nat := 118
abbrev fn_ref_There : Nat := 15
abbrev fn_ref_UnderOf : Nat := 17
abbrev fn_ref_lay : Nat := 61
abbrev fn_ref_marked : Nat := 72
abbrev fn_ref_there : Nat := 59
abbrev fn_ref_treeOf : Nat := 62
abbrev fn_ref_with : Nat := 71
abbrev fn_ref_within : Nat := 65
abbrev fn_ref_without : Nat := 78
abbrev ty_api_Attr : Nat := 97
abbrev ty_api_Node : Nat := 47
abbrev ty_int : Nat := 3
abbrev ty_pathfinderyref_tree : Nat := 85
abbrev ty_string : Nat := 9
abbrev ref_within_r0 : HCode := .reg [⟨none, .val 6 (.mv (.c (bv false)))⟩] false []
abbrev ref_within_r1 : HCode := .reg [⟨none, .val 7 (.mv (.t 0))⟩,
    ⟨none, .val 8 (.mv (.t 1))⟩,
    ⟨none, .val 9 (.ints .geq (.t 7) (.t 8))⟩,
    ⟨none, .val 10 (.mv (.t 9))⟩,
    ⟨some (10, true), .val 11 (.mv (.t 0))⟩,
    ⟨some (10, true), .val 12 (.mv (.t 2))⟩,
    ⟨some (10, true), .val 13 (.ints .leq (.t 11) (.t 12))⟩,
    ⟨none, .val 14 (.pick (.t 10) (.t 13) (.c (bv false)))⟩,
    ⟨none, .val 6 (.mv (.t 14))⟩] false [.forget [7, 8, 9, 10, 11, 12, 13, 14]]
abbrev ref_within : HCode := (.seq ref_within_r0 (.seq ref_within_r1 .ret))
abbrev ref_within_E : Env := { N := 15, Γ := [], L := 15, nfix := 0 }
abbrev ref_within_R : List RSrc := [.tmp 6]
theorem mk_ref_within {base : Nat} {av : List AV} {r : RV} (hfo : formOk ref_within_E base av) (hW : AVs.fits av → hwp Tryd.prog ref_within (finQ ref_within_E base av ref_within_R r) (F0 ref_within_E base av)) (hov : ∀ x, r.res = .ov x → nOwn av = 0 := by intro x h; cases h <;> rfl) : Contract Tryd.prog fn_ref_within av r :=
  contract_of_wp (fn := Tryd.f65) (c := Tryd.f65.body.getD .skip) (by kernel_rfl) (by kernel_rfl) (by kernel_rfl) (by kernel_rfl) (by kernel_rfl) (by kernel_rfl) (by kernel_rfl) hfo hW hov
abbrev ref_IsName_r0 : HCode := .reg [⟨none, .val 2 (.mv (.c (bv false)))⟩] false []
abbrev ref_IsName_r1 : HCode := .reg [⟨none, .val 5 (.mv (.t 0))⟩,
    ⟨none, .val 6 (.len true (.t 5))⟩,
    ⟨none, .call (some 7) fn_ref_within [(.t 6, .v), (.c (iv 1), .v), (.c (iv 12), .v)]⟩,
    ⟨none, .val 8 (.not (.t 7))⟩,
    ⟨none, .val 9 (.mv (.t 8))⟩,
    ⟨some (9, false), .val 10 (.mv (.t 0))⟩,
    ⟨some (9, false), .val 11 (.idxS (.t 10) (.c (iv 0)))⟩,
    ⟨some (9, false), .val 12 (.ints .lss (.t 11) (.c (.one (.v (.int .u8 97)))))⟩,
    ⟨none, .val 13 (.pick (.t 9) (.c (bv true)) (.t 12))⟩,
    ⟨none, .val 14 (.mv (.t 13))⟩,
    ⟨some (14, false), .val 15 (.mv (.t 0))⟩,
    ⟨some (14, false), .val 16 (.idxS (.t 15) (.c (iv 0)))⟩,
    ⟨some (14, false), .val 17 (.ints .gtr (.t 16) (.c (.one (.v (.int .u8 122)))))⟩,
    ⟨none, .val 18 (.pick (.t 14) (.c (bv true)) (.t 17))⟩] false [.forget [5, 6, 7, 8, 9, 10, 11, 12, 13, 14, 15, 16, 17]]
abbrev ref_IsName_r2 : HCode := .reg [⟨none, .val 2 (.mv (.c (bv false)))⟩] false []
abbrev ref_IsName_r3 : HCode := .reg [⟨none, .val 3 (.mv (.c (iv 0)))⟩] false []
abbrev ref_IsName_r4 : HCode := .reg [⟨none, .val 19 (.mv (.t 3))⟩,
    ⟨none, .val 20 (.mv (.t 0))⟩,
    ⟨none, .val 21 (.len true (.t 20))⟩,
    ⟨none, .val 22 (.ints .lss (.t 19) (.t 21))⟩] false [.forget [19, 20, 21]]
abbrev ref_IsName_r5 : HCode := .reg [⟨none, .val 25 (.mv (.t 0))⟩,
    ⟨none, .val 26 (.mv (.t 3))⟩,
    ⟨none, .val 27 (.idxS (.t 25) (.t 26))⟩,
    ⟨none, .val 4 (.mv (.t 27))⟩] false [.forget [25, 26, 27]]
abbrev ref_IsName_r6 : HCode := .reg [⟨none, .val 28 (.mv (.t 4))⟩,
    ⟨none, .val 29 (.ints .geq (.t 28) (.c (.one (.v (.int .u8 97)))))⟩,
    ⟨none, .val 30 (.mv (.t 29))⟩,
    ⟨some (30, true), .val 31 (.mv (.t 4))⟩,
    ⟨some (30, true), .val 32 (.ints .leq (.t 31) (.c (.one (.v (.int .u8 122)))))⟩,
    ⟨none, .val 33 (.pick (.t 30) (.t 32) (.c (bv false)))⟩,
    ⟨none, .val 34 (.mv (.t 33))⟩,
    ⟨some (34, false), .val 35 (.mv (.t 4))⟩,
    ⟨some (34, false), .val 36 (.ints .geq (.t 35) (.c (.one (.v (.int .u8 48)))))⟩,
    ⟨some (34, false), .val 37 (.mv (.t 36))⟩,
    ⟨some (37, true), .val 38 (.mv (.t 4))⟩,
    ⟨some (37, true), .val 39 (.ints .leq (.t 38) (.c (.one (.v (.int .u8 57)))))⟩,
    ⟨some (34, false), .val 40 (.pick (.t 37) (.t 39) (.c (bv false)))⟩,
    ⟨none, .val 41 (.pick (.t 34) (.c (bv true)) (.t 40))⟩,
    ⟨none, .val 42 (.mv (.t 41))⟩,
    ⟨some (42, false), .val 43 (.mv (.t 4))⟩,
    ⟨some (42, false), .val 44 (.ints .eql (.t 43) (.c (.one (.v (.int .u8 45)))))⟩,
    ⟨none, .val 45 (.pick (.t 42) (.c (bv true)) (.t 44))⟩,
    ⟨none, .val 46 (.not (.t 45))⟩] false [.forget [28, 29, 30, 31, 32, 33, 34, 35, 36, 37, 38, 39, 40, 41, 42, 43, 44, 45]]
abbrev ref_IsName_r7 : HCode := .reg [⟨none, .val 2 (.mv (.c (bv false)))⟩] false []
abbrev ref_IsName_r8 : HCode := .reg [⟨none, .val 23 (.mv (.t 3))⟩,
    ⟨none, .val 24 (.ints .add (.t 23) (.c (iv 1)))⟩,
    ⟨none, .val 3 (.mv (.t 24))⟩] false [.forget [23, 24]]
abbrev ref_IsName_r9 : HCode := .reg [⟨none, .val 2 (.mv (.c (bv true)))⟩] false []
abbrev ref_IsName : HCode := (.seq ref_IsName_r0 (.seq (.seq ref_IsName_r1 (.cond (.t 18) (.seq ref_IsName_r2 .ret) .skip)) (.seq (.seq ref_IsName_r3 (.block 0 (.loop (.seq (.seq ref_IsName_r4 (.cond (.t 22) .skip (.exit 0))) (.seq (.block 1 (.seq ref_IsName_r5 (.seq ref_IsName_r6 (.cond (.t 46) (.seq ref_IsName_r7 .ret) .skip)))) ref_IsName_r8))))) (.seq ref_IsName_r9 .ret))))
abbrev ref_IsName_E : Env := { N := 47, Γ := [], L := 47, nfix := 0 }
abbrev ref_IsName_R : List RSrc := [.tmp 2]
theorem mk_ref_IsName {base : Nat} {av : List AV} {r : RV} (hfo : formOk ref_IsName_E base av) (hW : AVs.fits av → hwp Tryd.prog ref_IsName (finQ ref_IsName_E base av ref_IsName_R r) (F0 ref_IsName_E base av)) (hov : ∀ x, r.res = .ov x → nOwn av = 0 := by intro x h; cases h <;> rfl) : Contract Tryd.prog fn_ref_IsName av r :=
  contract_of_wp (fn := Tryd.f116) (c := Tryd.f116.body.getD .skip) (by kernel_rfl) (by kernel_rfl) (by kernel_rfl) (by kernel_rfl) (by kernel_rfl) (by kernel_rfl) (by kernel_rfl) hfo hW hov
abbrev ref_IsValue_r0 : HCode := .reg [⟨none, .val 2 (.mv (.c (bv false)))⟩] false []
abbrev ref_IsValue_r1 : HCode := .reg [⟨none, .val 4 (.mv (.t 0))⟩,
    ⟨none, .val 5 (.len true (.t 4))⟩,
    ⟨none, .val 6 (.ints .gtr (.t 5) (.c (iv 16)))⟩] false [.forget [4, 5]]
abbrev ref_IsValue_r2 : HCode := .reg [⟨none, .val 2 (.mv (.c (bv false)))⟩] false []
abbrev ref_IsValue_r3 : HCode := .reg [⟨none, .val 3 (.mv (.c (iv 0)))⟩] false []
abbrev ref_IsValue_r4 : HCode := .reg [⟨none, .val 7 (.mv (.t 3))⟩,
    ⟨none, .val 8 (.mv (.t 0))⟩,
    ⟨none, .val 9 (.len true (.t 8))⟩,
    ⟨none, .val 10 (.ints .lss (.t 7) (.t 9))⟩] false [.forget [7, 8, 9]]
abbrev ref_IsValue_r5 : HCode := .reg [⟨none, .val 13 (.mv (.t 0))⟩,
    ⟨none, .val 14 (.mv (.t 3))⟩,
    ⟨none, .val 15 (.idxS (.t 13) (.t 14))⟩,
    ⟨none, .val 16 (.ints .lss (.t 15) (.c (.one (.v (.int .u8 32)))))⟩,
    ⟨none, .val 17 (.mv (.t 16))⟩,
    ⟨some (17, false), .val 18 (.mv (.t 0))⟩,
    ⟨some (17, false), .val 19 (.mv (.t 3))⟩,
    ⟨some (17, false), .val 20 (.idxS (.t 18) (.t 19))⟩,
    ⟨some (17, false), .val 21 (.ints .gtr (.t 20) (.c (.one (.v (.int .u8 126)))))⟩,
    ⟨none, .val 22 (.pick (.t 17) (.c (bv true)) (.t 21))⟩,
    ⟨none, .val 23 (.mv (.t 22))⟩,
    ⟨some (23, false), .val 24 (.mv (.t 0))⟩,
    ⟨some (23, false), .val 25 (.mv (.t 3))⟩,
    ⟨some (23, false), .val 26 (.idxS (.t 24) (.t 25))⟩,
    ⟨some (23, false), .val 27 (.ints .eql (.t 26) (.c (.one (.v (.int .u8 34)))))⟩,
    ⟨none, .val 28 (.pick (.t 23) (.c (bv true)) (.t 27))⟩] false [.forget [13, 14, 15, 16, 17, 18, 19, 20, 21, 22, 23, 24, 25, 26, 27]]
abbrev ref_IsValue_r6 : HCode := .reg [⟨none, .val 2 (.mv (.c (bv false)))⟩] false []
abbrev ref_IsValue_r7 : HCode := .reg [⟨none, .val 11 (.mv (.t 3))⟩,
    ⟨none, .val 12 (.ints .add (.t 11) (.c (iv 1)))⟩,
    ⟨none, .val 3 (.mv (.t 12))⟩] false [.forget [11, 12]]
abbrev ref_IsValue_r8 : HCode := .reg [⟨none, .val 2 (.mv (.c (bv true)))⟩] false []
abbrev ref_IsValue : HCode := (.seq ref_IsValue_r0 (.seq (.seq ref_IsValue_r1 (.cond (.t 6) (.seq ref_IsValue_r2 .ret) .skip)) (.seq (.seq ref_IsValue_r3 (.block 0 (.loop (.seq (.seq ref_IsValue_r4 (.cond (.t 10) .skip (.exit 0))) (.seq (.block 1 (.seq ref_IsValue_r5 (.cond (.t 28) (.seq ref_IsValue_r6 .ret) .skip))) ref_IsValue_r7))))) (.seq ref_IsValue_r8 .ret))))
abbrev ref_IsValue_E : Env := { N := 29, Γ := [], L := 29, nfix := 0 }
abbrev ref_IsValue_R : List RSrc := [.tmp 2]
theorem mk_ref_IsValue {base : Nat} {av : List AV} {r : RV} (hfo : formOk ref_IsValue_E base av) (hW : AVs.fits av → hwp Tryd.prog ref_IsValue (finQ ref_IsValue_E base av ref_IsValue_R r) (F0 ref_IsValue_E base av)) (hov : ∀ x, r.res = .ov x → nOwn av = 0 := by intro x h; cases h <;> rfl) : Contract Tryd.prog fn_ref_IsValue av r :=
  contract_of_wp (fn := Tryd.f117) (c := Tryd.f117.body.getD .skip) (by kernel_rfl) (by kernel_rfl) (by kernel_rfl) (by kernel_rfl) (by kernel_rfl) (by kernel_rfl) (by kernel_rfl) hfo hW hov
abbrev ref_NodeFine_r0 : HCode := .reg [⟨none, .val 1 (.boxF (.t 0))⟩,
    ⟨none, .val 2 (.mv (.c (bv false)))⟩] false []
abbrev ref_NodeFine_r1 : HCode := .reg [⟨none, .val 5 (.fldR (.t 1) 1 1)⟩,
    ⟨none, .val 6 (.ldR (.t 5) 1 false)⟩,
    ⟨none, .call (some 7) fn_ref_IsName [(.t 6, .v)]⟩,
    ⟨none, .val 8 (.not (.t 7))⟩,
    ⟨none, .val 9 (.mv (.t 8))⟩,
    ⟨some (9, false), .val 10 (.fldR (.t 1) 2 1)⟩,
    ⟨some (9, false), .val 11 (.ldR (.t 10) 1 false)⟩,
    ⟨some (9, false), .val 12 (.strs .neq (.t 11) (.c (sv [])))⟩,
    ⟨some (9, false), .val 13 (.mv (.t 12))⟩,
    ⟨some (13, true), .val 14 (.fldR (.t 1) 2 1)⟩,
    ⟨some (13, true), .val 15 (.ldR (.t 14) 1 false)⟩,
    ⟨some (13, true), .call (some 16) fn_ref_IsName [(.t 15, .v)]⟩,
    ⟨some (13, true), .val 17 (.not (.t 16))⟩,
    ⟨some (9, false), .val 18 (.pick (.t 13) (.t 17) (.c (bv false)))⟩,
    ⟨none, .val 19 (.pick (.t 9) (.c (bv true)) (.t 18))⟩,
    ⟨none, .val 20 (.mv (.t 19))⟩,
    ⟨some (20, false), .val 21 (.fldR (.t 1) 3 1)⟩,
    ⟨some (20, false), .val 22 (.ldR (.t 21) 1 false)⟩,
    ⟨some (20, false), .val 23 (.len false (.t 22))⟩,
    ⟨some (20, false), .val 24 (.ints .gtr (.t 23) (.c (iv 6)))⟩,
    ⟨none, .val 25 (.pick (.t 20) (.c (bv true)) (.t 24))⟩,
    ⟨none, .val 26 (.mv (.t 25))⟩,
    ⟨some (26, false), .val 27 (.fldR (.t 1) 4 1)⟩,
    ⟨some (26, false), .val 28 (.ldR (.t 27) 1 false)⟩,
    ⟨some (26, false), .val 29 (.len false (.t 28))⟩,
    ⟨some (26, false), .val 30 (.ints .gtr (.t 29) (.c (iv 4)))⟩,
    ⟨none, .val 31 (.pick (.t 26) (.c (bv true)) (.t 30))⟩] false [.forget [5, 6, 7, 8, 9, 10, 11, 12, 13, 14, 15, 16, 17, 18, 19, 20, 21, 22, 23, 24, 25, 26, 27, 28, 29, 30]]
abbrev ref_NodeFine_r2 : HCode := .reg [⟨none, .val 2 (.mv (.c (bv false)))⟩] false []
abbrev ref_NodeFine_r3 : HCode := .reg [⟨none, .val 3 (.mv (.c (iv 0)))⟩] false []
abbrev ref_NodeFine_r4 : HCode := .reg [⟨none, .val 32 (.mv (.t 3))⟩,
    ⟨none, .val 33 (.fldR (.t 1) 3 1)⟩,
    ⟨none, .val 34 (.ldR (.t 33) 1 false)⟩,
    ⟨none, .val 35 (.len false (.t 34))⟩,
    ⟨none, .val 36 (.ints .lss (.t 32) (.t 35))⟩] false [.forget [32, 33, 34, 35]]
abbrev ref_NodeFine_r5 : HCode := .drg [⟨0, false, ⟨none, .val 39 (.fldR (.t 1) 3 1)⟩⟩,
    ⟨1, false, ⟨none, .val 40 (.ldR (.t 39) 1 false)⟩⟩,
    ⟨2, false, ⟨none, .val 41 (.mv (.t 3))⟩⟩,
    ⟨3, false, ⟨none, .val 42 (.idxA 1 (.t 40) (.t 41))⟩⟩,
    ⟨4, false, ⟨none, .val 43 (.ldR (.t 42) 1 false)⟩⟩,
    ⟨5, true, ⟨none, .call (some 44) fn_ref_IsName [(.t 43, .v)]⟩⟩,
    ⟨6, false, ⟨none, .val 45 (.not (.t 44))⟩⟩,
    ⟨7, false, ⟨none, .val 46 (.mv (.t 45))⟩⟩,
    ⟨8, false, ⟨some (46, false), .val 47 (.mv (.t 3))⟩⟩,
    ⟨9, false, ⟨some (46, false), .val 48 (.ints .gtr (.t 47) (.c (iv 0)))⟩⟩,
    ⟨10, false, ⟨some (46, false), .val 49 (.mv (.t 48))⟩⟩,
    ⟨11, false, ⟨some (49, true), .val 50 (.fldR (.t 1) 3 1)⟩⟩,
    ⟨12, false, ⟨some (49, true), .val 51 (.ldR (.t 50) 1 false)⟩⟩,
    ⟨13, false, ⟨some (49, true), .val 52 (.mv (.t 3))⟩⟩,
    ⟨14, false, ⟨some (49, true), .val 53 (.ints .sub (.t 52) (.c (iv 1)))⟩⟩,
    ⟨15, false, ⟨some (49, true), .val 54 (.idxA 1 (.t 51) (.t 53))⟩⟩,
    ⟨16, false, ⟨some (49, true), .val 55 (.ldR (.t 54) 1 false)⟩⟩,
    ⟨17, false, ⟨some (49, true), .val 56 (.fldR (.t 1) 3 1)⟩⟩,
    ⟨18, false, ⟨some (49, true), .val 57 (.ldR (.t 56) 1 false)⟩⟩,
    ⟨19, false, ⟨some (49, true), .val 58 (.mv (.t 3))⟩⟩,
    ⟨20, false, ⟨some (49, true), .val 59 (.idxA 1 (.t 57) (.t 58))⟩⟩,
    ⟨21, false, ⟨some (49, true), .val 60 (.ldR (.t 59) 1 false)⟩⟩,
    ⟨22, false, ⟨some (49, true), .val 61 (.strs .geq (.t 55) (.t 60))⟩⟩,
    ⟨23, false, ⟨some (46, false), .val 62 (.pick (.t 49) (.t 61) (.c (bv false)))⟩⟩,
    ⟨24, false, ⟨none, .val 63 (.pick (.t 46) (.c (bv true)) (.t 62))⟩⟩] [.forget [39, 40, 41, 42, 43, 44, 45, 46, 47, 48, 49, 50, 51, 52, 53, 54, 55, 56, 57, 58, 59, 60, 61, 62]]
abbrev ref_NodeFine_r6 : HCode := .reg [⟨none, .val 2 (.mv (.c (bv false)))⟩] false []
abbrev ref_NodeFine_r7 : HCode := .reg [⟨none, .val 37 (.mv (.t 3))⟩,
    ⟨none, .val 38 (.ints .add (.t 37) (.c (iv 1)))⟩,
    ⟨none, .val 3 (.mv (.t 38))⟩] false [.forget [37, 38]]
abbrev ref_NodeFine_r8 : HCode := .reg [⟨none, .val 4 (.mv (.c (iv 0)))⟩] false []
abbrev ref_NodeFine_r9 : HCode := .reg [⟨none, .val 64 (.mv (.t 4))⟩,
    ⟨none, .val 65 (.fldR (.t 1) 4 1)⟩,
    ⟨none, .val 66 (.ldR (.t 65) 1 false)⟩,
    ⟨none, .val 67 (.len false (.t 66))⟩,
    ⟨none, .val 68 (.ints .lss (.t 64) (.t 67))⟩] false [.forget [64, 65, 66, 67]]
abbrev ref_NodeFine_r10 : HCode := .drg [⟨0, false, ⟨none, .val 71 (.fldR (.t 1) 4 1)⟩⟩,
    ⟨1, false, ⟨none, .val 72 (.ldR (.t 71) 1 false)⟩⟩,
    ⟨2, false, ⟨none, .val 73 (.mv (.t 4))⟩⟩,
    ⟨3, false, ⟨none, .val 74 (.idxA 2 (.t 72) (.t 73))⟩⟩,
    ⟨4, false, ⟨none, .val 75 (.fldR (.t 74) 0 1)⟩⟩,
    ⟨5, false, ⟨none, .val 76 (.ldR (.t 75) 1 false)⟩⟩,
    ⟨6, true, ⟨none, .call (some 77) fn_ref_IsName [(.t 76, .v)]⟩⟩,
    ⟨7, false, ⟨none, .val 78 (.not (.t 77))⟩⟩,
    ⟨8, false, ⟨none, .val 79 (.mv (.t 78))⟩⟩,
    ⟨9, false, ⟨some (79, false), .val 80 (.fldR (.t 1) 4 1)⟩⟩,
    ⟨10, false, ⟨some (79, false), .val 81 (.ldR (.t 80) 1 false)⟩⟩,
    ⟨11, false, ⟨some (79, false), .val 82 (.mv (.t 4))⟩⟩,
    ⟨12, false, ⟨some (79, false), .val 83 (.idxA 2 (.t 81) (.t 82))⟩⟩,
    ⟨13, false, ⟨some (79, false), .val 84 (.fldR (.t 83) 1 1)⟩⟩,
    ⟨14, false, ⟨some (79, false), .val 85 (.ldR (.t 84) 1 false)⟩⟩,
    ⟨15, true, ⟨some (79, false), .call (some 86) fn_ref_IsValue [(.t 85, .v)]⟩⟩,
    ⟨16, false, ⟨some (79, false), .val 87 (.not (.t 86))⟩⟩,
    ⟨17, false, ⟨none, .val 88 (.pick (.t 79) (.c (bv true)) (.t 87))⟩⟩,
    ⟨18, false, ⟨none, .val 89 (.mv (.t 88))⟩⟩,
    ⟨19, false, ⟨some (89, false), .val 90 (.mv (.t 4))⟩⟩,
    ⟨20, false, ⟨some (89, false), .val 91 (.ints .gtr (.t 90) (.c (iv 0)))⟩⟩,
    ⟨21, false, ⟨some (89, false), .val 92 (.mv (.t 91))⟩⟩,
    ⟨22, false, ⟨some (92, true), .val 93 (.fldR (.t 1) 4 1)⟩⟩,
    ⟨23, false, ⟨some (92, true), .val 94 (.ldR (.t 93) 1 false)⟩⟩,
    ⟨24, false, ⟨some (92, true), .val 95 (.mv (.t 4))⟩⟩,
    ⟨25, false, ⟨some (92, true), .val 96 (.ints .sub (.t 95) (.c (iv 1)))⟩⟩,
    ⟨26, false, ⟨some (92, true), .val 97 (.idxA 2 (.t 94) (.t 96))⟩⟩,
    ⟨27, false, ⟨some (92, true), .val 98 (.fldR (.t 97) 0 1)⟩⟩,
    ⟨28, false, ⟨some (92, true), .val 99 (.ldR (.t 98) 1 false)⟩⟩,
    ⟨29, false, ⟨some (92, true), .val 100 (.fldR (.t 1) 4 1)⟩⟩,
    ⟨30, false, ⟨some (92, true), .val 101 (.ldR (.t 100) 1 false)⟩⟩,
    ⟨31, false, ⟨some (92, true), .val 102 (.mv (.t 4))⟩⟩,
    ⟨32, false, ⟨some (92, true), .val 103 (.idxA 2 (.t 101) (.t 102))⟩⟩,
    ⟨33, false, ⟨some (92, true), .val 104 (.fldR (.t 103) 0 1)⟩⟩,
    ⟨34, false, ⟨some (92, true), .val 105 (.ldR (.t 104) 1 false)⟩⟩,
    ⟨35, false, ⟨some (92, true), .val 106 (.strs .geq (.t 99) (.t 105))⟩⟩,
    ⟨36, false, ⟨some (89, false), .val 107 (.pick (.t 92) (.t 106) (.c (bv false)))⟩⟩,
    ⟨37, false, ⟨none, .val 108 (.pick (.t 89) (.c (bv true)) (.t 107))⟩⟩] [.forget [71, 72, 73, 74, 75, 76, 77, 78, 79, 80, 81, 82, 83, 84, 85, 86, 87, 88, 89, 90, 91, 92, 93, 94, 95, 96, 97, 98, 99, 100, 101, 102, 103, 104, 105, 106, 107]]
abbrev ref_NodeFine_r11 : HCode := .reg [⟨none, .val 2 (.mv (.c (bv false)))⟩] false []
abbrev ref_NodeFine_r12 : HCode := .reg [⟨none, .val 69 (.mv (.t 4))⟩,
    ⟨none, .val 70 (.ints .add (.t 69) (.c (iv 1)))⟩,
    ⟨none, .val 4 (.mv (.t 70))⟩] false [.forget [69, 70]]
abbrev ref_NodeFine_r13 : HCode := .reg [⟨none, .val 2 (.mv (.c (bv true)))⟩] false []
abbrev ref_NodeFine : HCode := (.seq ref_NodeFine_r0 (.seq (.seq ref_NodeFine_r1 (.cond (.t 31) (.seq ref_NodeFine_r2 .ret) .skip)) (.seq (.seq ref_NodeFine_r3 (.block 0 (.loop (.seq (.seq ref_NodeFine_r4 (.cond (.t 36) .skip (.exit 0))) (.seq (.block 1 (.seq ref_NodeFine_r5 (.cond (.t 63) (.seq ref_NodeFine_r6 .ret) .skip))) ref_NodeFine_r7))))) (.seq (.seq ref_NodeFine_r8 (.block 2 (.loop (.seq (.seq ref_NodeFine_r9 (.cond (.t 68) .skip (.exit 2))) (.seq (.block 3 (.seq ref_NodeFine_r10 (.cond (.t 108) (.seq ref_NodeFine_r11 .ret) .skip))) ref_NodeFine_r12))))) (.seq ref_NodeFine_r13 .ret)))))
abbrev ref_NodeFine_E : Env := { N := 109, Γ := [], L := 109, nfix := 0 }
abbrev ref_NodeFine_R : List RSrc := [.tmp 2]
theorem mk_ref_NodeFine {base : Nat} {av : List AV} {r : RV} (hfo : formOk ref_NodeFine_E base av) (hW : AVs.fits av → hwp Tryd.prog ref_NodeFine (finQ ref_NodeFine_E base av ref_NodeFine_R r) (F0 ref_NodeFine_E base av)) (hov : ∀ x, r.res = .ov x → nOwn av = 0 := by intro x h; cases h <;> rfl) : Contract Tryd.prog fn_ref_NodeFine av r :=
  contract_of_wp (fn := Tryd.f66) (c := Tryd.f66.body.getD .skip) (by kernel_rfl) (by kernel_rfl) (by kernel_rfl) (by kernel_rfl) (by kernel_rfl) (by kernel_rfl) (by kernel_rfl) hfo hW hov
abbrev ref_CheckDoc_r0 : HCode := .reg [⟨none, .val 1 (.boxF (.t 0))⟩,
    ⟨none, .val 2 (.mv (.c (iv 0)))⟩] false []
abbrev ref_CheckDoc_r1 : HCode := .reg [⟨none, .val 6 (.fldR (.t 1) 0 1)⟩,
    ⟨none, .val 7 (.ldR (.t 6) 1 false)⟩,
    ⟨none, .val 8 (.len false (.t 7))⟩,
    ⟨none, .call (some 9) fn_ref_within [(.t 8, .v), (.c (iv 1), .v), (.c (iv 64), .v)]⟩,
    ⟨none, .val 10 (.not (.t 9))⟩] false [.forget [6, 7, 8, 9]]
abbrev ref_CheckDoc_r2 : HCode := .reg [⟨none, .val 2 (.mv (.c (iv 2)))⟩] false []
abbrev ref_CheckDoc_r3 : HCode := .reg [⟨none, .val 3 (.mv (.c (iv 0)))⟩] false []
abbrev ref_CheckDoc_r4 : HCode := .reg [⟨none, .val 11 (.mv (.t 3))⟩,
    ⟨none, .val 12 (.fldR (.t 1) 0 1)⟩,
    ⟨none, .val 13 (.ldR (.t 12) 1 false)⟩,
    ⟨none, .val 14 (.len false (.t 13))⟩,
    ⟨none, .val 15 (.ints .lss (.t 11) (.t 14))⟩] false [.forget [11, 12, 13, 14]]
abbrev ref_CheckDoc_r5 : HCode := .reg [⟨none, .val 18 (.fldR (.t 1) 0 1)⟩,
    ⟨none, .val 19 (.ldR (.t 18) 1 false)⟩,
    ⟨none, .val 20 (.mv (.t 3))⟩,
    ⟨none, .val 21 (.idxA 5 (.t 19) (.t 20))⟩,
    ⟨none, .val 22 (.ldR (.t 21) 5 true)⟩,
    ⟨none, .call (some 23) fn_ref_NodeFine [(.t 22, .v)]⟩,
    ⟨none, .val 24 (.not (.t 23))⟩,
    ⟨none, .val 25 (.mv (.t 24))⟩,
    ⟨some (25, false), .val 26 (.mv (.t 3))⟩,
    ⟨some (25, false), .val 27 (.ints .eql (.t 26) (.c (iv 0)))⟩,
    ⟨some (25, false), .val 28 (.mv (.t 27))⟩,
    ⟨some (28, true), .val 29 (.fldR (.t 1) 0 1)⟩,
    ⟨some (28, true), .val 30 (.ldR (.t 29) 1 false)⟩,
    ⟨some (28, true), .val 31 (.mv (.t 3))⟩,
    ⟨some (28, true), .val 32 (.idxA 5 (.t 30) (.t 31))⟩,
    ⟨some (28, true), .val 33 (.fldR (.t 32) 0 1)⟩,
    ⟨some (28, true), .val 34 (.ldR (.t 33) 1 false)⟩,
    ⟨some (28, true), .val 35 (.ints .neq (.t 34) (.c (iv (-1))))⟩,
    ⟨some (25, false), .val 36 (.pick (.t 28) (.t 35) (.c (bv false)))⟩,
    ⟨none, .val 37 (.pick (.t 25) (.c (bv true)) (.t 36))⟩] false [.forget [18, 19, 20, 21, 22, 23, 24, 25, 26, 27, 28, 29, 30, 31, 32, 33, 34, 35, 36]]
abbrev ref_CheckDoc_r6 : HCode := .reg [⟨none, .val 2 (.mv (.c (iv 1)))⟩] false []
abbrev ref_CheckDoc_r7 : HCode := .reg [⟨none, .val 38 (.mv (.t 3))⟩,
    ⟨none, .val 39 (.ints .eql (.t 38) (.c (iv 0)))⟩,
    ⟨none, .val 4 (.mv (.t 39))⟩] false [.forget [38, 39]]
abbrev ref_CheckDoc_r8 : HCode := .reg [⟨none, .val 40 (.mv (.t 3))⟩,
    ⟨none, .val 41 (.ints .sub (.t 40) (.c (iv 1)))⟩,
    ⟨none, .val 5 (.mv (.t 41))⟩] false [.forget [40, 41]]
abbrev ref_CheckDoc_r9 : HCode := .reg [⟨none, .val 42 (.mv (.t 5))⟩,
    ⟨none, .val 43 (.ints .geq (.t 42) (.c (iv 0)))⟩,
    ⟨none, .val 44 (.mv (.t 43))⟩,
    ⟨some (44, true), .val 45 (.mv (.t 4))⟩,
    ⟨some (44, true), .val 46 (.not (.t 45))⟩,
    ⟨none, .val 47 (.pick (.t 44) (.t 46) (.c (bv false)))⟩] false [.forget [42, 43, 44, 45, 46]]
abbrev ref_CheckDoc_r10 : HCode := .reg [⟨none, .val 54 (.mv (.t 5))⟩,
    ⟨none, .val 55 (.fldR (.t 1) 0 1)⟩,
    ⟨none, .val 56 (.ldR (.t 55) 1 false)⟩,
    ⟨none, .val 57 (.mv (.t 3))⟩,
    ⟨none, .val 58 (.idxA 5 (.t 56) (.t 57))⟩,
    ⟨none, .val 59 (.fldR (.t 58) 0 1)⟩,
    ⟨none, .val 60 (.ldR (.t 59) 1 false)⟩,
    ⟨none, .val 61 (.ints .eql (.t 54) (.t 60))⟩,
    ⟨none, .val 4 (.mv (.t 61))⟩] false [.forget [54, 55, 56, 57, 58, 59, 60, 61]]
abbrev ref_CheckDoc_r11 : HCode := .reg [⟨none, .val 48 (.fldR (.t 1) 0 1)⟩,
    ⟨none, .val 49 (.ldR (.t 48) 1 false)⟩,
    ⟨none, .val 50 (.mv (.t 5))⟩,
    ⟨none, .val 51 (.idxA 5 (.t 49) (.t 50))⟩,
    ⟨none, .val 52 (.fldR (.t 51) 0 1)⟩,
    ⟨none, .val 53 (.ldR (.t 52) 1 false)⟩,
    ⟨none, .val 5 (.mv (.t 53))⟩] false [.forget [48, 49, 50, 51, 52, 53]]
abbrev ref_CheckDoc_r12 : HCode := .reg [⟨none, .val 62 (.mv (.t 4))⟩,
    ⟨none, .val 63 (.not (.t 62))⟩] false [.forget [62]]
abbrev ref_CheckDoc_r13 : HCode := .reg [⟨none, .val 2 (.mv (.c (iv 1)))⟩] false []
abbrev ref_CheckDoc_r14 : HCode := .reg [⟨none, .val 16 (.mv (.t 3))⟩,
    ⟨none, .val 17 (.ints .add (.t 16) (.c (iv 1)))⟩,
    ⟨none, .val 3 (.mv (.t 17))⟩] false [.forget [16, 17]]
abbrev ref_CheckDoc_r15 : HCode := .reg [⟨none, .val 2 (.mv (.c (iv 0)))⟩] false []
abbrev ref_CheckDoc : HCode := (.seq ref_CheckDoc_r0 (.seq (.seq ref_CheckDoc_r1 (.cond (.t 10) (.seq ref_CheckDoc_r2 .ret) .skip)) (.seq (.seq ref_CheckDoc_r3 (.block 0 (.loop (.seq (.seq ref_CheckDoc_r4 (.cond (.t 15) .skip (.exit 0))) (.seq (.block 1 (.seq (.seq ref_CheckDoc_r5 (.cond (.t 37) (.seq ref_CheckDoc_r6 .ret) .skip)) (.seq ref_CheckDoc_r7 (.seq (.seq ref_CheckDoc_r8 (.block 2 (.loop (.seq (.seq ref_CheckDoc_r9 (.cond (.t 47) .skip (.exit 2))) (.seq (.block 3 ref_CheckDoc_r10) ref_CheckDoc_r11))))) (.seq ref_CheckDoc_r12 (.cond (.t 63) (.seq ref_CheckDoc_r13 .ret) .skip)))))) ref_CheckDoc_r14))))) (.seq ref_CheckDoc_r15 .ret))))
abbrev ref_CheckDoc_E : Env := { N := 64, Γ := [], L := 64, nfix := 0 }
abbrev ref_CheckDoc_R : List RSrc := [.tmp 2]
theorem mk_ref_CheckDoc {base : Nat} {av : List AV} {r : RV} (hfo : formOk ref_CheckDoc_E base av) (hW : AVs.fits av → hwp Tryd.prog ref_CheckDoc (finQ ref_CheckDoc_E base av ref_CheckDoc_R r) (F0 ref_CheckDoc_E base av)) (hov : ∀ x, r.res = .ov x → nOwn av = 0 := by intro x h; cases h <;> rfl) : Contract Tryd.prog fn_ref_CheckDoc av r :=
  contract_of_wp (fn := Tryd.f21) (c := Tryd.f21.body.getD .skip) (by kernel_rfl) (by kernel_rfl) (by kernel_rfl) (by kernel_rfl) (by kernel_rfl) (by kernel_rfl) (by kernel_rfl) hfo hW hov
abbrev ref_KidsOf_r0 : HCode := .reg [⟨none, .val 2 (.boxF (.t 0))⟩,
    ⟨none, .nlo 4 ty_int 1⟩] false []
abbrev ref_KidsOf_r1 : HCode := .reg [⟨none, .nlo 5 ty_int 1⟩] false []
abbrev ref_KidsOf_r2 : HCode := .reg [⟨none, .val 6 (.mv (.c (iv 0)))⟩] false []
abbrev ref_KidsOf_r3 : HCode := .reg [⟨none, .val 7 (.mv (.t 6))⟩,
    ⟨none, .val 8 (.fldR (.t 2) 0 1)⟩,
    ⟨none, .val 9 (.ldR (.t 8) 1 false)⟩,
    ⟨none, .val 10 (.len false (.t 9))⟩,
    ⟨none, .val 11 (.ints .lss (.t 7) (.t 10))⟩] false [.forget [7, 8, 9, 10]]
abbrev ref_KidsOf_r4 : HCode := .reg [⟨none, .val 14 (.fldR (.t 2) 0 1)⟩,
    ⟨none, .val 15 (.ldR (.t 14) 1 false)⟩,
    ⟨none, .val 16 (.mv (.t 6))⟩,
    ⟨none, .val 17 (.idxA 5 (.t 15) (.t 16))⟩,
    ⟨none, .val 18 (.fldR (.t 17) 0 1)⟩,
    ⟨none, .val 19 (.ldR (.t 18) 1 false)⟩,
    ⟨none, .val 20 (.mv (.t 1))⟩,
    ⟨none, .val 21 (.ints .eql (.t 19) (.t 20))⟩] false [.forget [14, 15, 16, 17, 18, 19, 20]]
abbrev ref_KidsOf_r5 : HCode := .reg [⟨none, .mvo 22 5⟩,
    ⟨none, .val 23 (.mv (.t 6))⟩,
    ⟨none, .val 24 (.bslF 1 [.t 23])⟩,
    ⟨none, .app 25 ty_int 1 (.t 22) (.t 24)⟩,
    ⟨none, .mvo 5 25⟩] false [.forget [22, 23, 24, 25]]
abbrev ref_KidsOf_r6 : HCode := .reg [⟨none, .val 12 (.mv (.t 6))⟩,
    ⟨none, .val 13 (.ints .add (.t 12) (.c (iv 1)))⟩,
    ⟨none, .val 6 (.mv (.t 13))⟩] false [.forget [12, 13]]
abbrev ref_KidsOf_r7 : HCode := .reg [⟨none, .mvo 26 5⟩,
    ⟨none, .mvo 4 26⟩] false [.forget [26]]
abbrev ref_KidsOf : HCode := (.seq ref_KidsOf_r0 (.seq ref_KidsOf_r1 (.seq (.seq ref_KidsOf_r2 (.block 0 (.loop (.seq (.seq ref_KidsOf_r3 (.cond (.t 11) .skip (.exit 0))) (.seq (.block 1 (.seq ref_KidsOf_r4 (.cond (.t 21) ref_KidsOf_r5 .skip))) ref_KidsOf_r6))))) (.seq ref_KidsOf_r7 .ret))))
abbrev ref_KidsOf_E : Env := { N := 27, Γ := [], L := 27, nfix := 0 }
abbrev ref_KidsOf_R : List RSrc := [.tmp 4]
theorem mk_ref_KidsOf {base : Nat} {av : List AV} {r : RV} (hfo : formOk ref_KidsOf_E base av) (hW : AVs.fits av → hwp Tryd.prog ref_KidsOf (finQ ref_KidsOf_E base av ref_KidsOf_R r) (F0 ref_KidsOf_E base av)) (hov : ∀ x, r.res = .ov x → nOwn av = 0 := by intro x h; cases h <;> rfl) : Contract Tryd.prog fn_ref_KidsOf av r :=
  contract_of_wp (fn := Tryd.f16) (c := Tryd.f16.body.getD .skip) (by kernel_rfl) (by kernel_rfl) (by kernel_rfl) (by kernel_rfl) (by kernel_rfl) (by kernel_rfl) (by kernel_rfl) hfo hW hov
abbrev ref_Above_r0 : HCode := .reg [⟨none, .val 3 (.boxF (.t 0))⟩,
    ⟨none, .val 6 (.mv (.c (bv false)))⟩] false []
abbrev ref_Above_r1 : HCode := .reg [⟨none, .val 8 (.fldR (.t 3) 0 1)⟩,
    ⟨none, .val 9 (.ldR (.t 8) 1 false)⟩,
    ⟨none, .val 10 (.mv (.t 2))⟩,
    ⟨none, .val 11 (.idxA 5 (.t 9) (.t 10))⟩,
    ⟨none, .val 12 (.fldR (.t 11) 0 1)⟩,
    ⟨none, .val 13 (.ldR (.t 12) 1 false)⟩,
    ⟨none, .val 7 (.mv (.t 13))⟩] false [.forget [8, 9, 10, 11, 12, 13]]
abbrev ref_Above_r2 : HCode := .reg [⟨none, .val 14 (.mv (.t 7))⟩,
    ⟨none, .val 15 (.ints .geq (.t 14) (.c (iv 0)))⟩] false [.forget [14]]
abbrev ref_Above_r3 : HCode := .reg [⟨none, .val 22 (.mv (.t 7))⟩,
    ⟨none, .val 23 (.mv (.t 1))⟩,
    ⟨none, .val 24 (.ints .eql (.t 22) (.t 23))⟩] false [.forget [22, 23]]
abbrev ref_Above_r4 : HCode := .reg [⟨none, .val 6 (.mv (.c (bv true)))⟩] false []
abbrev ref_Above_r5 : HCode := .reg [⟨none, .val 16 (.fldR (.t 3) 0 1)⟩,
    ⟨none, .val 17 (.ldR (.t 16) 1 false)⟩,
    ⟨none, .val 18 (.mv (.t 7))⟩,
    ⟨none, .val 19 (.idxA 5 (.t 17) (.t 18))⟩,
    ⟨none, .val 20 (.fldR (.t 19) 0 1)⟩,
    ⟨none, .val 21 (.ldR (.t 20) 1 false)⟩,
    ⟨none, .val 7 (.mv (.t 21))⟩] false [.forget [16, 17, 18, 19, 20, 21]]
abbrev ref_Above_r6 : HCode := .reg [⟨none, .val 6 (.mv (.c (bv false)))⟩] false []
abbrev ref_Above : HCode := (.seq ref_Above_r0 (.seq (.seq ref_Above_r1 (.block 0 (.loop (.seq (.seq ref_Above_r2 (.cond (.t 15) .skip (.exit 0))) (.seq (.block 1 (.seq ref_Above_r3 (.cond (.t 24) (.seq ref_Above_r4 .ret) .skip))) ref_Above_r5))))) (.seq ref_Above_r6 .ret)))
abbrev ref_Above_E : Env := { N := 25, Γ := [], L := 25, nfix := 0 }
abbrev ref_Above_R : List RSrc := [.tmp 6]
theorem mk_ref_Above {base : Nat} {av : List AV} {r : RV} (hfo : formOk ref_Above_E base av) (hW : AVs.fits av → hwp Tryd.prog ref_Above (finQ ref_Above_E base av ref_Above_R r) (F0 ref_Above_E base av)) (hov : ∀ x, r.res = .ov x → nOwn av = 0 := by intro x h; cases h <;> rfl) : Contract Tryd.prog fn_ref_Above av r :=
  contract_of_wp (fn := Tryd.f60) (c := Tryd.f60.body.getD .skip) (by kernel_rfl) (by kernel_rfl) (by kernel_rfl) (by kernel_rfl) (by kernel_rfl) (by kernel_rfl) (by kernel_rfl) hfo hW hov
abbrev ref_UnderOf_r0 : HCode := .reg [⟨none, .val 2 (.boxF (.t 0))⟩,
    ⟨none, .val 4 (.mv (.c (iv 0)))⟩] false []
abbrev ref_UnderOf_r1 : HCode := .reg [⟨none, .val 5 (.mv (.c (iv 0)))⟩] false []
abbrev ref_UnderOf_r2 : HCode := .reg [⟨none, .val 6 (.mv (.c (iv 0)))⟩] false []
abbrev ref_UnderOf_r3 : HCode := .reg [⟨none, .val 7 (.mv (.t 6))⟩,
    ⟨none, .val 8 (.fldR (.t 2) 0 1)⟩,
    ⟨none, .val 9 (.ldR (.t 8) 1 false)⟩,
    ⟨none, .val 10 (.len false (.t 9))⟩,
    ⟨none, .val 11 (.ints .lss (.t 7) (.t 10))⟩] false [.forget [7, 8, 9, 10]]
abbrev ref_UnderOf_r4 : HCode := .reg [⟨none, .val 14 (.ldR (.t 2) 1 true)⟩,
    ⟨none, .val 15 (.mv (.t 1))⟩,
    ⟨none, .val 16 (.mv (.t 6))⟩,
    ⟨none, .call (some 17) fn_ref_Above [(.t 14, .v), (.t 15, .v), (.t 16, .v)]⟩] false [.forget [14, 15, 16]]
abbrev ref_UnderOf_r5 : HCode := .reg [⟨none, .val 18 (.mv (.t 5))⟩,
    ⟨none, .val 19 (.ints .add (.t 18) (.c (iv 1)))⟩,
    ⟨none, .val 5 (.mv (.t 19))⟩] false [.forget [18, 19]]
abbrev ref_UnderOf_r6 : HCode := .reg [⟨none, .val 12 (.mv (.t 6))⟩,
    ⟨none, .val 13 (.ints .add (.t 12) (.c (iv 1)))⟩,
    ⟨none, .val 6 (.mv (.t 13))⟩] false [.forget [12, 13]]
abbrev ref_UnderOf_r7 : HCode := .reg [⟨none, .val 20 (.mv (.t 5))⟩,
    ⟨none, .val 4 (.mv (.t 20))⟩] false [.forget [20]]
abbrev ref_UnderOf : HCode := (.seq ref_UnderOf_r0 (.seq ref_UnderOf_r1 (.seq (.seq ref_UnderOf_r2 (.block 0 (.loop (.seq (.seq ref_UnderOf_r3 (.cond (.t 11) .skip (.exit 0))) (.seq (.block 1 (.seq ref_UnderOf_r4 (.cond (.t 17) ref_UnderOf_r5 .skip))) ref_UnderOf_r6))))) (.seq ref_UnderOf_r7 .ret))))
abbrev ref_UnderOf_E : Env := { N := 21, Γ := [], L := 21, nfix := 0 }
abbrev ref_UnderOf_R : List RSrc := [.tmp 4]
theorem mk_ref_UnderOf {base : Nat} {av : List AV} {r : RV} (hfo : formOk ref_UnderOf_E base av) (hW : AVs.fits av → hwp Tryd.prog ref_UnderOf (finQ ref_UnderOf_E base av ref_UnderOf_R r) (F0 ref_UnderOf_E base av)) (hov : ∀ x, r.res = .ov x → nOwn av = 0 := by intro x h; cases h <;> rfl) : Contract Tryd.prog fn_ref_UnderOf av r :=
  contract_of_wp (fn := Tryd.f17) (c := Tryd.f17.body.getD .skip) (by kernel_rfl) (by kernel_rfl) (by kernel_rfl) (by kernel_rfl) (by kernel_rfl) (by kernel_rfl) (by kernel_rfl) hfo hW hov
abbrev ref_OwnNode_r0 : HCode := .reg [⟨none, .box 1 0 14 5 (.t 0)⟩,
    ⟨none, .alloc 2 1 19 [.v (.int .i64 0), .v (mkS []), .v (mkS []), .nl 1, .nl 2]⟩] false []
abbrev ref_OwnNode_r1 : HCode := .reg [⟨none, .bsl 3 ty_string 1 []⟩,
    ⟨none, .val 4 (.fldP (.t 1) 3)⟩,
    ⟨none, .val 5 (.ldB (.t 4) 0 14 3 1 false)⟩,
    ⟨none, .app 6 ty_string 1 (.t 3) (.t 5)⟩,
    ⟨none, .val 7 (.fldP (.t 1) 3)⟩,
    ⟨none, .sto (.t 7) 0 14 3 1 (.t 6)⟩] false [.forget [3, 4, 5, 6, 7]]
abbrev ref_OwnNode_r2 : HCode := .reg [⟨none, .bsl 8 ty_api_Attr 2 []⟩,
    ⟨none, .val 9 (.fldP (.t 1) 4)⟩,
    ⟨none, .val 10 (.ldB (.t 9) 0 14 4 1 false)⟩,
    ⟨none, .app 11 ty_api_Attr 2 (.t 8) (.t 10)⟩,
    ⟨none, .val 12 (.fldP (.t 1) 4)⟩,
    ⟨none, .sto (.t 12) 0 14 4 1 (.t 11)⟩] false [.forget [8, 9, 10, 11, 12]]
abbrev ref_OwnNode_r3 : HCode := .reg [⟨none, .val 13 (.ldB (.t 1) 0 14 0 5 true)⟩,
    ⟨none, .sto (.t 2) 1 19 0 5 (.t 13)⟩] false [.forget [13]]
abbrev ref_OwnNode : HCode := (.seq ref_OwnNode_r0 (.seq ref_OwnNode_r1 (.seq ref_OwnNode_r2 (.seq ref_OwnNode_r3 .ret))))
abbrev ref_OwnNode_E : Env := { N := 14, Γ := [(14, 5), (19, 5)], L := 24, nfix := 0 }
abbrev ref_OwnNode_R : List RSrc := [.cellB 2 1 19 0 5 true]
theorem mk_ref_OwnNode {base : Nat} {av : List AV} {r : RV} (hfo : formOk ref_OwnNode_E base av) (hW : AVs.fits av → hwp Tryd.prog ref_OwnNode (finQ ref_OwnNode_E base av ref_OwnNode_R r) (F0 ref_OwnNode_E base av)) (hov : ∀ x, r.res = .ov x → nOwn av = 0 := by intro x h; cases h <;> rfl) : Contract Tryd.prog fn_ref_OwnNode av r :=
  contract_of_wp (fn := Tryd.f80) (c := Tryd.f80.body.getD .skip) (by kernel_rfl) (by kernel_rfl) (by kernel_rfl) (by kernel_rfl) (by kernel_rfl) (by kernel_rfl) (by kernel_rfl) hfo hW hov
abbrev ref_there_r0 : HCode := .reg [⟨none, .val 2 (.boxF (.t 0))⟩,
    ⟨none, .val 4 (.mv (.c (iv 0)))⟩] false []
abbrev ref_there_r1 : HCode := .reg [⟨none, .val 6 (.ldR (.t 2) 1 true)⟩,
    ⟨none, .call (some 7) fn_ref_CheckDoc [(.t 6, .v)]⟩,
    ⟨none, .val 5 (.mv (.t 7))⟩] false [.forget [6, 7]]
abbrev ref_there_r2 : HCode := .reg [⟨none, .val 8 (.mv (.t 5))⟩,
    ⟨none, .val 9 (.ints .neq (.t 8) (.c (iv 0)))⟩] false [.forget [8]]
abbrev ref_there_r3 : HCode := .reg [⟨none, .val 10 (.mv (.t 5))⟩,
    ⟨none, .val 4 (.mv (.t 10))⟩] false [.forget [10]]
abbrev ref_there_r4 : HCode := .reg [⟨none, .val 11 (.mv (.t 1))⟩,
    ⟨none, .val 12 (.fldR (.t 2) 0 1)⟩,
    ⟨none, .val 13 (.ldR (.t 12) 1 false)⟩,
    ⟨none, .val 14 (.len false (.t 13))⟩,
    ⟨none, .val 15 (.ints .sub (.t 14) (.c (iv 1)))⟩,
    ⟨none, .call (some 16) fn_ref_within [(.t 11, .v), (.c (iv 0), .v), (.t 15, .v)]⟩,
    ⟨none, .val 17 (.not (.t 16))⟩] false [.forget [11, 12, 13, 14, 15, 16]]
abbrev ref_there_r5 : HCode := .reg [⟨none, .val 4 (.mv (.c (iv 5)))⟩] false []
abbrev ref_there_r6 : HCode := .reg [⟨none, .val 4 (.mv (.c (iv 0)))⟩] false []
abbrev ref_there : HCode := (.seq ref_there_r0 (.seq (.seq ref_there_r1 (.seq ref_there_r2 (.cond (.t 9) (.seq ref_there_r3 .ret) .skip))) (.seq (.seq ref_there_r4 (.cond (.t 17) (.seq ref_there_r5 .ret) .skip)) (.seq ref_there_r6 .ret))))
abbrev ref_there_E : Env := { N := 18, Γ := [], L := 18, nfix := 0 }
abbrev ref_there_R : List RSrc := [.tmp 4]
theorem mk_ref_there {base : Nat} {av : List AV} {r : RV} (hfo : formOk ref_there_E base av) (hW : AVs.fits av → hwp Tryd.prog ref_there (finQ ref_there_E base av ref_there_R r) (F0 ref_there_E base av)) (hov : ∀ x, r.res = .ov x → nOwn av = 0 := by intro x h; cases h <;> rfl) : Contract Tryd.prog fn_ref_there av r :=
  contract_of_wp (fn := Tryd.f59) (c := Tryd.f59.body.getD .skip) (by kernel_rfl) (by kernel_rfl) (by kernel_rfl) (by kernel_rfl) (by kernel_rfl) (by kernel_rfl) (by kernel_rfl) hfo hW hov
abbrev ref_There_r0 : HCode := .reg [⟨none, .val 2 (.boxF (.t 0))⟩,
    ⟨none, .val 4 (.mv (.c (iv 0)))⟩] false []
abbrev ref_There_r1 : HCode := .reg [⟨none, .val 5 (.ldR (.t 2) 1 true)⟩,
    ⟨none, .val 6 (.mv (.t 1))⟩,
    ⟨none, .call (some 7) fn_ref_there [(.t 5, .v), (.t 6, .v)]⟩,
    ⟨none, .val 4 (.mv (.t 7))⟩] false [.forget [5, 6, 7]]
abbrev ref_There : HCode := (.seq ref_There_r0 (.seq ref_There_r1 .ret))
abbrev ref_There_E : Env := { N := 8, Γ := [], L := 8, nfix := 0 }
abbrev ref_There_R : List RSrc := [.tmp 4]
theorem mk_ref_There {base : Nat} {av : List AV} {r : RV} (hfo : formOk ref_There_E base av) (hW : AVs.fits av → hwp Tryd.prog ref_There (finQ ref_There_E base av ref_There_R r) (F0 ref_There_E base av)) (hov : ∀ x, r.res = .ov x → nOwn av = 0 := by intro x h; cases h <;> rfl) : Contract Tryd.prog fn_ref_There av r :=
  contract_of_wp (fn := Tryd.f15) (c := Tryd.f15.body.getD .skip) (by kernel_rfl) (by kernel_rfl) (by kernel_rfl) (by kernel_rfl) (by kernel_rfl) (by kernel_rfl) (by kernel_rfl) hfo hW hov
abbrev ref_lay_r0 : HCode := .reg [⟨none, .box 4 0 35 6 (.t 1)⟩,
    ⟨none, .nlo 6 ty_api_Node 5⟩] false []
abbrev ref_lay_r1 : HCode := .reg [⟨none, .val 9 (.mv (.t 0))⟩,
    ⟨none, .val 10 (.len false (.t 9))⟩,
    ⟨none, .val 7 (.mv (.t 10))⟩] false [.forget [9, 10]]
abbrev ref_lay_r2 : HCode := .reg [⟨none, .val 11 (.mv (.t 2))⟩,
    ⟨none, .val 12 (.fldP (.t 4) 0)⟩,
    ⟨none, .val 13 (.fldP (.t 12) 0)⟩,
    ⟨none, .sto (.t 13) 0 35 0 1 (.t 11)⟩] false [.forget [11, 12, 13]]
abbrev ref_lay_r3 : HCode := .reg [⟨none, .mvo 14 0⟩,
    ⟨none, .val 15 (.fldP (.t 4) 0)⟩,
    ⟨none, .val 16 (.ldB (.t 15) 0 35 0 5 true)⟩,
    ⟨none, .val 17 (.bslF 5 [.t 16])⟩,
    ⟨none, .app 18 ty_api_Node 5 (.t 14) (.t 17)⟩,
    ⟨none, .mvo 0 18⟩] false [.forget [14, 15, 16, 17, 18]]
abbrev ref_lay_r4 : HCode := .reg [⟨none, .val 8 (.mv (.c (iv 0)))⟩] false []
abbrev ref_lay_r5 : HCode := .reg [⟨none, .val 19 (.mv (.t 8))⟩,
    ⟨none, .val 20 (.fldP (.t 4) 5)⟩,
    ⟨none, .val 21 (.ldB (.t 20) 0 35 5 1 false)⟩,
    ⟨none, .val 22 (.len false (.t 21))⟩,
    ⟨none, .val 23 (.ints .lss (.t 19) (.t 22))⟩] false [.forget [19, 20, 21, 22]]
abbrev ref_lay_r6 : HCode := .reg [⟨none, .mvo 26 0⟩,
    ⟨none, .val 27 (.fldP (.t 4) 5)⟩,
    ⟨none, .val 28 (.ldB (.t 27) 0 35 5 1 false)⟩,
    ⟨none, .val 29 (.mv (.t 8))⟩,
    ⟨none, .val 30 (.idxA 6 (.t 28) (.t 29))⟩,
    ⟨none, .val 31 (.ldR (.t 30) 6 true)⟩,
    ⟨none, .val 32 (.mv (.t 7))⟩,
    ⟨none, .call (some 33) fn_ref_lay [(.t 26, .o), (.t 31, .v), (.t 32, .v)]⟩,
    ⟨none, .mvo 0 33⟩] false [.forget [26, 27, 28, 29, 30, 31, 32, 33]]
abbrev ref_lay_r7 : HCode := .reg [⟨none, .val 24 (.mv (.t 8))⟩,
    ⟨none, .val 25 (.ints .add (.t 24) (.c (iv 1)))⟩,
    ⟨none, .val 8 (.mv (.t 25))⟩] false [.forget [24, 25]]
abbrev ref_lay_r8 : HCode := .reg [⟨none, .mvo 34 0⟩,
    ⟨none, .mvo 6 34⟩] false [.forget [34]]
abbrev ref_lay : HCode := (.seq ref_lay_r0 (.seq ref_lay_r1 (.seq ref_lay_r2 (.seq ref_lay_r3 (.seq (.seq ref_lay_r4 (.block 0 (.loop (.seq (.seq ref_lay_r5 (.cond (.t 23) .skip (.exit 0))) (.seq (.block 1 ref_lay_r6) ref_lay_r7))))) (.seq ref_lay_r8 .ret))))))
abbrev ref_lay_E : Env := { N := 35, Γ := [(35, 6)], L := 41, nfix := 0 }
abbrev ref_lay_R : List RSrc := [.tmp 6]
theorem mk_ref_lay {base : Nat} {av : List AV} {r : RV} (hfo : formOk ref_lay_E base av) (hW : AVs.fits av → hwp Tryd.prog ref_lay (finQ ref_lay_E base av ref_lay_R r) (F0 ref_lay_E base av)) (hov : ∀ x, r.res = .ov x → nOwn av = 0 := by intro x h; cases h <;> rfl) : Contract Tryd.prog fn_ref_lay av r :=
  contract_of_wp (fn := Tryd.f61) (c := Tryd.f61.body.getD .skip) (by kernel_rfl) (by kernel_rfl) (by kernel_rfl) (by kernel_rfl) (by kernel_rfl) (by kernel_rfl) (by kernel_rfl) hfo hW hov
abbrev ref_treeOf_r0 : HCode := .reg [⟨none, .val 2 (.boxF (.t 0))⟩,
    ⟨none, .alloc 4 0 36 [.v (.int .i64 0), .v (mkS []), .v (mkS []), .nl 1, .nl 2, .nl 6]⟩] false []
abbrev ref_treeOf_r1 : HCode := .reg [⟨none, .val 8 (.fldR (.t 2) 0 1)⟩,
    ⟨none, .val 9 (.ldR (.t 8) 1 false)⟩,
    ⟨none, .val 10 (.mv (.t 1))⟩,
    ⟨none, .val 11 (.idxA 5 (.t 9) (.t 10))⟩,
    ⟨none, .val 12 (.ldR (.t 11) 5 true)⟩,
    ⟨none, .call (some 13) fn_ref_OwnNode [(.t 12, .v)]⟩,
    ⟨none, .val 14 (.bld [.v (.int .i64 0), .v (mkS []), .v (mkS []), .nl 1, .nl 2, .nl 6] [(0, 5, .t 13)])⟩,
    ⟨none, .alloc 5 1 42 [.v (.int .i64 0), .v (mkS []), .v (mkS []), .nl 1, .nl 2, .nl 6]⟩,
    ⟨none, .sto (.t 5) 1 42 0 6 (.t 14)⟩] false [.forget [8, 9, 10, 11, 12, 13, 14]]
abbrev ref_treeOf_r2 : HCode := .reg [⟨none, .val 15 (.ldR (.t 2) 1 true)⟩,
    ⟨none, .val 16 (.mv (.t 1))⟩,
    ⟨none, .call (some 17) fn_ref_KidsOf [(.t 15, .v), (.t 16, .v)]⟩,
    ⟨none, .val 6 (.mv (.t 17))⟩] false [.forget [15, 16, 17]]
abbrev ref_treeOf_r3 : HCode := .reg [⟨none, .val 7 (.mv (.c (iv 0)))⟩] false []
abbrev ref_treeOf_r4 : HCode := .reg [⟨none, .val 18 (.mv (.t 7))⟩,
    ⟨none, .val 19 (.mv (.t 6))⟩,
    ⟨none, .val 20 (.len false (.t 19))⟩,
    ⟨none, .val 21 (.ints .lss (.t 18) (.t 20))⟩] false [.forget [18, 19, 20]]
abbrev ref_treeOf_r5 : HCode := .drg [⟨0, false, ⟨none, .val 24 (.fldP (.t 5) 5)⟩⟩,
    ⟨1, false, ⟨none, .ldo 25 (.t 24) 1 42 5 ty_pathfinderyref_tree 6⟩⟩,
    ⟨2, false, ⟨none, .val 26 (.ldR (.t 2) 1 true)⟩⟩,
    ⟨3, false, ⟨none, .val 27 (.mv (.t 6))⟩⟩,
    ⟨4, false, ⟨none, .val 28 (.mv (.t 7))⟩⟩,
    ⟨5, false, ⟨none, .val 29 (.idxA 1 (.t 27) (.t 28))⟩⟩,
    ⟨6, false, ⟨none, .val 30 (.ldR (.t 29) 1 false)⟩⟩,
    ⟨7, true, ⟨none, .call (some 31) fn_ref_treeOf [(.t 26, .v), (.t 30, .v)]⟩⟩,
    ⟨8, false, ⟨none, .val 32 (.bslF 6 [.t 31])⟩⟩,
    ⟨9, false, ⟨none, .app 33 ty_pathfinderyref_tree 6 (.t 25) (.t 32)⟩⟩,
    ⟨10, false, ⟨none, .val 34 (.fldP (.t 5) 5)⟩⟩,
    ⟨11, false, ⟨none, .stw (.t 34) 1 42 5 33⟩⟩] [.forget [24, 25, 26, 27, 28, 29, 30, 31, 32, 33, 34]]
abbrev ref_treeOf_r6 : HCode := .reg [⟨none, .val 22 (.mv (.t 7))⟩,
    ⟨none, .val 23 (.ints .add (.t 22) (.c (iv 1)))⟩,
    ⟨none, .val 7 (.mv (.t 23))⟩] false [.forget [22, 23]]
abbrev ref_treeOf_r7 : HCode := .reg [⟨none, .val 35 (.ldB (.t 5) 1 42 0 6 true)⟩,
    ⟨none, .sto (.t 4) 0 36 0 6 (.t 35)⟩] false [.forget [35]]
abbrev ref_treeOf : HCode := (.seq ref_treeOf_r0 (.seq ref_treeOf_r1 (.seq ref_treeOf_r2 (.seq (.seq ref_treeOf_r3 (.block 0 (.loop (.seq (.seq ref_treeOf_r4 (.cond (.t 21) .skip (.exit 0))) (.seq (.block 1 ref_treeOf_r5) ref_treeOf_r6))))) (.seq ref_treeOf_r7 .ret)))))
abbrev ref_treeOf_E : Env := { N := 36, Γ := [(36, 6), (42, 6)], L := 48, nfix := 0 }
abbrev ref_treeOf_R : List RSrc := [.cellB 4 0 36 0 6 true]
theorem mk_ref_treeOf {base : Nat} {av : List AV} {r : RV} (hfo : formOk ref_treeOf_E base av) (hW : AVs.fits av → hwp Tryd.prog ref_treeOf (finQ ref_treeOf_E base av ref_treeOf_R r) (F0 ref_treeOf_E base av)) (hov : ∀ x, r.res = .ov x → nOwn av = 0 := by intro x h; cases h <;> rfl) : Contract Tryd.prog fn_ref_treeOf av r :=
  contract_of_wp (fn := Tryd.f62) (c := Tryd.f62.body.getD .skip) (by kernel_rfl) (by kernel_rfl) (by kernel_rfl) (by kernel_rfl) (by kernel_rfl) (by kernel_rfl) (by kernel_rfl) hfo hW hov
abbrev ref_PartOf_r0 : HCode := .reg [⟨none, .val 2 (.boxF (.t 0))⟩,
    ⟨none, .alloc 4 0 10 [.nl 5]⟩] false []
abbrev ref_PartOf_r1 : HCode := .reg [⟨none, .val 5 (.ldR (.t 2) 1 true)⟩,
    ⟨none, .val 6 (.mv (.t 1))⟩,
    ⟨none, .call (some 7) fn_ref_treeOf [(.t 5, .v), (.t 6, .v)]⟩,
    ⟨none, .call (some 8) fn_ref_lay [(.c (.one (.nl 0)), .n ty_api_Node 5), (.t 7, .v), (.c (iv (-1)), .v)]⟩,
    ⟨none, .val 9 (.bld [.nl 5] [(0, 1, .t 8)])⟩,
    ⟨none, .sto (.t 4) 0 10 0 1 (.t 9)⟩] false [.forget [5, 6, 7, 8, 9]]
abbrev ref_PartOf : HCode := (.seq ref_PartOf_r0 (.seq ref_PartOf_r1 .ret))
abbrev ref_PartOf_E : Env := { N := 10, Γ := [(10, 1)], L := 11, nfix := 0 }
abbrev ref_PartOf_R : List RSrc := [.cellB 4 0 10 0 1 true]
theorem mk_ref_PartOf {base : Nat} {av : List AV} {r : RV} (hfo : formOk ref_PartOf_E base av) (hW : AVs.fits av → hwp Tryd.prog ref_PartOf (finQ ref_PartOf_E base av ref_PartOf_R r) (F0 ref_PartOf_E base av)) (hov : ∀ x, r.res = .ov x → nOwn av = 0 := by intro x h; cases h <;> rfl) : Contract Tryd.prog fn_ref_PartOf av r :=
  contract_of_wp (fn := Tryd.f18) (c := Tryd.f18.body.getD .skip) (by kernel_rfl) (by kernel_rfl) (by kernel_rfl) (by kernel_rfl) (by kernel_rfl) (by kernel_rfl) (by kernel_rfl) hfo hW hov
abbrev ref_marked_r0 : HCode := .reg [⟨none, .val 2 (.boxF (.t 0))⟩,
    ⟨none, .alloc 4 0 36 [.v (.int .i64 0), .v (mkS []), .v (mkS []), .nl 1, .nl 2, .nl 6]⟩] false []
abbrev ref_marked_r1 : HCode := .reg [⟨none, .val 8 (.ldR (.t 2) 1 true)⟩,
    ⟨none, .val 9 (.mv (.t 1))⟩,
    ⟨none, .call (some 10) fn_ref_treeOf [(.t 8, .v), (.t 9, .v)]⟩,
    ⟨none, .alloc 5 1 42 [.v (.int .i64 0), .v (mkS []), .v (mkS []), .nl 1, .nl 2, .nl 6]⟩,
    ⟨none, .sto (.t 5) 1 42 0 6 (.t 10)⟩] false [.forget [8, 9, 10]]
abbrev ref_marked_r2 : HCode := .reg [⟨none, .val 11 (.mv (.t 1))⟩,
    ⟨none, .val 12 (.fldP (.t 5) 0)⟩,
    ⟨none, .val 13 (.fldP (.t 12) 0)⟩,
    ⟨none, .sto (.t 13) 1 42 0 1 (.t 11)⟩] false [.forget [11, 12, 13]]
abbrev ref_marked_r3 : HCode := .reg [⟨none, .val 14 (.ldR (.t 2) 1 true)⟩,
    ⟨none, .val 15 (.mv (.t 1))⟩,
    ⟨none, .call (some 16) fn_ref_KidsOf [(.t 14, .v), (.t 15, .v)]⟩,
    ⟨none, .val 6 (.mv (.t 16))⟩] false [.forget [14, 15, 16]]
abbrev ref_marked_r4 : HCode := .reg [⟨none, .val 17 (.fldP (.t 5) 5)⟩,
    ⟨none, .sto (.t 17) 1 42 5 1 (.c (.one (.nl 0)))⟩] false [.forget [17]]
abbrev ref_marked_r5 : HCode := .reg [⟨none, .val 7 (.mv (.c (iv 0)))⟩] false []
abbrev ref_marked_r6 : HCode := .reg [⟨none, .val 18 (.mv (.t 7))⟩,
    ⟨none, .val 19 (.mv (.t 6))⟩,
    ⟨none, .val 20 (.len false (.t 19))⟩,
    ⟨none, .val 21 (.ints .lss (.t 18) (.t 20))⟩] false [.forget [18, 19, 20]]
abbrev ref_marked_r7 : HCode := .drg [⟨0, false, ⟨none, .val 24 (.fldP (.t 5) 5)⟩⟩,
    ⟨1, false, ⟨none, .ldo 25 (.t 24) 1 42 5 ty_pathfinderyref_tree 6⟩⟩,
    ⟨2, false, ⟨none, .val 26 (.ldR (.t 2) 1 true)⟩⟩,
    ⟨3, false, ⟨none, .val 27 (.mv (.t 6))⟩⟩,
    ⟨4, false, ⟨none, .val 28 (.mv (.t 7))⟩⟩,
    ⟨5, false, ⟨none, .val 29 (.idxA 1 (.t 27) (.t 28))⟩⟩,
    ⟨6, false, ⟨none, .val 30 (.ldR (.t 29) 1 false)⟩⟩,
    ⟨7, true, ⟨none, .call (some 31) fn_ref_marked [(.t 26, .v), (.t 30, .v)]⟩⟩,
    ⟨8, false, ⟨none, .val 32 (.bslF 6 [.t 31])⟩⟩,
    ⟨9, false, ⟨none, .app 33 ty_pathfinderyref_tree 6 (.t 25) (.t 32)⟩⟩,
    ⟨10, false, ⟨none, .val 34 (.fldP (.t 5) 5)⟩⟩,
    ⟨11, false, ⟨none, .stw (.t 34) 1 42 5 33⟩⟩] [.forget [24, 25, 26, 27, 28, 29, 30, 31, 32, 33, 34]]
abbrev ref_marked_r8 : HCode := .reg [⟨none, .val 22 (.mv (.t 7))⟩,
    ⟨none, .val 23 (.ints .add (.t 22) (.c (iv 1)))⟩,
    ⟨none, .val 7 (.mv (.t 23))⟩] false [.forget [22, 23]]
abbrev ref_marked_r9 : HCode := .reg [⟨none, .val 35 (.ldB (.t 5) 1 42 0 6 true)⟩,
    ⟨none, .sto (.t 4) 0 36 0 6 (.t 35)⟩] false [.forget [35]]
abbrev ref_marked : HCode := (.seq ref_marked_r0 (.seq ref_marked_r1 (.seq ref_marked_r2 (.seq ref_marked_r3 (.seq ref_marked_r4 (.seq (.seq ref_marked_r5 (.block 0 (.loop (.seq (.seq ref_marked_r6 (.cond (.t 21) .skip (.exit 0))) (.seq (.block 1 ref_marked_r7) ref_marked_r8))))) (.seq ref_marked_r9 .ret)))))))
abbrev ref_marked_E : Env := { N := 36, Γ := [(36, 6), (42, 6)], L := 48, nfix := 0 }
abbrev ref_marked_R : List RSrc := [.cellB 4 0 36 0 6 true]
theorem mk_ref_marked {base : Nat} {av : List AV} {r : RV} (hfo : formOk ref_marked_E base av) (hW : AVs.fits av → hwp Tryd.prog ref_marked (finQ ref_marked_E base av ref_marked_R r) (F0 ref_marked_E base av)) (hov : ∀ x, r.res = .ov x → nOwn av = 0 := by intro x h; cases h <;> rfl) : Contract Tryd.prog fn_ref_marked av r :=
  contract_of_wp (fn := Tryd.f72) (c := Tryd.f72.body.getD .skip) (by kernel_rfl) (by kernel_rfl) (by kernel_rfl) (by kernel_rfl) (by kernel_rfl) (by kernel_rfl) (by kernel_rfl) hfo hW hov
abbrev ref_with_r0 : HCode := .reg [⟨none, .box 4 0 63 6 (.t 0)⟩,
    ⟨none, .val 7 (.boxF (.t 3))⟩,
    ⟨none, .alloc 8 1 69 [.v (.int .i64 0), .v (mkS []), .v (mkS []), .nl 1, .nl 2, .nl 6]⟩] false []
abbrev ref_with_r1 : HCode := .reg [⟨none, .nlo 9 ty_pathfinderyref_tree 6⟩] false []
abbrev ref_with_r2 : HCode := .reg [⟨none, .val 10 (.mv (.c (iv 0)))⟩] false []
abbrev ref_with_r3 : HCode := .reg [⟨none, .val 11 (.mv (.t 10))⟩,
    ⟨none, .val 12 (.fldP (.t 4) 5)⟩,
    ⟨none, .val 13 (.ldB (.t 12) 0 63 5 1 false)⟩,
    ⟨none, .val 14 (.len false (.t 13))⟩,
    ⟨none, .val 15 (.ints .lss (.t 11) (.t 14))⟩] false [.forget [11, 12, 13, 14]]
abbrev ref_with_r4 : HCode := .reg [⟨none, .val 18 (.fldP (.t 4) 0)⟩,
    ⟨none, .val 19 (.fldP (.t 18) 0)⟩,
    ⟨none, .val 20 (.ldB (.t 19) 0 63 0 1 false)⟩,
    ⟨none, .val 21 (.mv (.t 1))⟩,
    ⟨none, .val 22 (.ints .eql (.t 20) (.t 21))⟩,
    ⟨none, .val 23 (.mv (.t 22))⟩,
    ⟨some (23, true), .val 24 (.mv (.t 10))⟩,
    ⟨some (23, true), .val 25 (.mv (.t 2))⟩,
    ⟨some (23, true), .val 26 (.ints .eql (.t 24) (.t 25))⟩,
    ⟨none, .val 27 (.pick (.t 23) (.t 26) (.c (bv false)))⟩] false [.forget [18, 19, 20, 21, 22, 23, 24, 25, 26]]
abbrev ref_with_r5 : HCode := .reg [⟨none, .mvo 28 9⟩,
    ⟨none, .val 29 (.ldR (.t 7) 6 true)⟩,
    ⟨none, .val 30 (.bslF 6 [.t 29])⟩,
    ⟨none, .app 31 ty_pathfinderyref_tree 6 (.t 28) (.t 30)⟩,
    ⟨none, .mvo 9 31⟩] false [.forget [28, 29, 30, 31]]
abbrev ref_with_r6 : HCode := .drg [⟨0, false, ⟨none, .mvo 32 9⟩⟩,
    ⟨1, false, ⟨none, .val 33 (.fldP (.t 4) 5)⟩⟩,
    ⟨2, false, ⟨none, .val 34 (.ldB (.t 33) 0 63 5 1 false)⟩⟩,
    ⟨3, false, ⟨none, .val 35 (.mv (.t 10))⟩⟩,
    ⟨4, false, ⟨none, .val 36 (.idxA 6 (.t 34) (.t 35))⟩⟩,
    ⟨5, false, ⟨none, .val 37 (.ldR (.t 36) 6 true)⟩⟩,
    ⟨6, false, ⟨none, .val 38 (.mv (.t 1))⟩⟩,
    ⟨7, false, ⟨none, .val 39 (.mv (.t 2))⟩⟩,
    ⟨8, false, ⟨none, .val 40 (.ldR (.t 7) 6 true)⟩⟩,
    ⟨9, true, ⟨none, .call (some 41) fn_ref_with [(.t 37, .v), (.t 38, .v), (.t 39, .v), (.t 40, .v)]⟩⟩,
    ⟨10, false, ⟨none, .val 42 (.bslF 6 [.t 41])⟩⟩,
    ⟨11, false, ⟨none, .app 43 ty_pathfinderyref_tree 6 (.t 32) (.t 42)⟩⟩,
    ⟨12, false, ⟨none, .mvo 9 43⟩⟩] [.forget [32, 33, 34, 35, 36, 37, 38, 39, 40, 41, 42, 43]]
abbrev ref_with_r7 : HCode := .reg [⟨none, .val 16 (.mv (.t 10))⟩,
    ⟨none, .val 17 (.ints .add (.t 16) (.c (iv 1)))⟩,
    ⟨none, .val 10 (.mv (.t 17))⟩] false [.forget [16, 17]]
abbrev ref_with_r8 : HCode := .reg [⟨none, .val 44 (.fldP (.t 4) 0)⟩,
    ⟨none, .val 45 (.fldP (.t 44) 0)⟩,
    ⟨none, .val 46 (.ldB (.t 45) 0 63 0 1 false)⟩,
    ⟨none, .val 47 (.mv (.t 1))⟩,
    ⟨none, .val 48 (.ints .eql (.t 46) (.t 47))⟩,
    ⟨none, .val 49 (.mv (.t 48))⟩,
    ⟨some (49, true), .val 50 (.mv (.t 2))⟩,
    ⟨some (49, true), .val 51 (.fldP (.t 4) 5)⟩,
    ⟨some (49, true), .val 52 (.ldB (.t 51) 0 63 5 1 false)⟩,
    ⟨some (49, true), .val 53 (.len false (.t 52))⟩,
    ⟨some (49, true), .val 54 (.ints .eql (.t 50) (.t 53))⟩,
    ⟨none, .val 55 (.pick (.t 49) (.t 54) (.c (bv false)))⟩] false [.forget [44, 45, 46, 47, 48, 49, 50, 51, 52, 53, 54]]
abbrev ref_with_r9 : HCode := .reg [⟨none, .mvo 56 9⟩,
    ⟨none, .val 57 (.ldR (.t 7) 6 true)⟩,
    ⟨none, .val 58 (.bslF 6 [.t 57])⟩,
    ⟨none, .app 59 ty_pathfinderyref_tree 6 (.t 56) (.t 58)⟩,
    ⟨none, .mvo 9 59⟩] false [.forget [56, 57, 58, 59]]
abbrev ref_with_r10 : HCode := .reg [⟨none, .val 60 (.mv (.t 9))⟩,
    ⟨none, .val 61 (.fldP (.t 4) 5)⟩,
    ⟨none, .sto (.t 61) 0 63 5 1 (.t 60)⟩] false [.frz 0 63 6, .forget [60, 61]]
abbrev ref_with_r11 : HCode := .reg [⟨none, .val 62 (.ldR (.t 4) 6 true)⟩,
    ⟨none, .sto (.t 8) 1 69 0 6 (.t 62)⟩] false [.forget [62]]
abbrev ref_with : HCode := (.seq ref_with_r0 (.seq ref_with_r1 (.seq (.seq ref_with_r2 (.block 0 (.loop (.seq (.seq ref_with_r3 (.cond (.t 15) .skip (.exit 0))) (.seq (.block 1 (.seq (.seq ref_with_r4 (.cond (.t 27) ref_with_r5 .skip)) ref_with_r6)) ref_with_r7))))) (.seq (.seq ref_with_r8 (.cond (.t 55) ref_with_r9 .skip)) (.seq ref_with_r10 (.seq ref_with_r11 .ret))))))
abbrev ref_with_E : Env := { N := 63, Γ := [(63, 6), (69, 6)], L := 75, nfix := 0 }
abbrev ref_with_R : List RSrc := [.cellB 8 1 69 0 6 true]
theorem mk_ref_with {base : Nat} {av : List AV} {r : RV} (hfo : formOk ref_with_E base av) (hW : AVs.fits av → hwp Tryd.prog ref_with (finQ ref_with_E base av ref_with_R r) (F0 ref_with_E base av)) (hov : ∀ x, r.res = .ov x → nOwn av = 0 := by intro x h; cases h <;> rfl) : Contract Tryd.prog fn_ref_with av r :=
  contract_of_wp (fn := Tryd.f71) (c := Tryd.f71.body.getD .skip) (by kernel_rfl) (by kernel_rfl) (by kernel_rfl) (by kernel_rfl) (by kernel_rfl) (by kernel_rfl) (by kernel_rfl) hfo hW hov
abbrev ref_without_r0 : HCode := .reg [⟨none, .box 2 0 36 6 (.t 0)⟩,
    ⟨none, .alloc 4 1 42 [.v (.int .i64 0), .v (mkS []), .v (mkS []), .nl 1, .nl 2, .nl 6]⟩] false []
abbrev ref_without_r1 : HCode := .reg [⟨none, .nlo 5 ty_pathfinderyref_tree 6⟩] false []
abbrev ref_without_r2 : HCode := .reg [⟨none, .val 6 (.mv (.c (iv 0)))⟩] false []
abbrev ref_without_r3 : HCode := .reg [⟨none, .val 7 (.mv (.t 6))⟩,
    ⟨none, .val 8 (.fldP (.t 2) 5)⟩,
    ⟨none, .val 9 (.ldB (.t 8) 0 36 5 1 false)⟩,
    ⟨none, .val 10 (.len false (.t 9))⟩,
    ⟨none, .val 11 (.ints .lss (.t 7) (.t 10))⟩] false [.forget [7, 8, 9, 10]]
abbrev ref_without_r4 : HCode := .reg [⟨none, .val 14 (.fldP (.t 2) 5)⟩,
    ⟨none, .val 15 (.ldB (.t 14) 0 36 5 1 false)⟩,
    ⟨none, .val 16 (.mv (.t 6))⟩,
    ⟨none, .val 17 (.idxA 6 (.t 15) (.t 16))⟩,
    ⟨none, .val 18 (.fldR (.t 17) 0 5)⟩,
    ⟨none, .val 19 (.fldR (.t 18) 0 1)⟩,
    ⟨none, .val 20 (.ldR (.t 19) 1 false)⟩,
    ⟨none, .val 21 (.mv (.t 1))⟩,
    ⟨none, .val 22 (.ints .neq (.t 20) (.t 21))⟩] false [.forget [14, 15, 16, 17, 18, 19, 20, 21]]
abbrev ref_without_r5 : HCode := .reg [⟨none, .mvo 23 5⟩,
    ⟨none, .val 24 (.fldP (.t 2) 5)⟩,
    ⟨none, .val 25 (.ldB (.t 24) 0 36 5 1 false)⟩,
    ⟨none, .val 26 (.mv (.t 6))⟩,
    ⟨none, .val 27 (.idxA 6 (.t 25) (.t 26))⟩,
    ⟨none, .val 28 (.ldR (.t 27) 6 true)⟩,
    ⟨none, .val 29 (.mv (.t 1))⟩,
    ⟨none, .call (some 30) fn_ref_without [(.t 28, .v), (.t 29, .v)]⟩,
    ⟨none, .val 31 (.bslF 6 [.t 30])⟩,
    ⟨none, .app 32 ty_pathfinderyref_tree 6 (.t 23) (.t 31)⟩,
    ⟨none, .mvo 5 32⟩] false [.forget [23, 24, 25, 26, 27, 28, 29, 30, 31, 32]]
abbrev ref_without_r6 : HCode := .reg [⟨none, .val 12 (.mv (.t 6))⟩,
    ⟨none, .val 13 (.ints .add (.t 12) (.c (iv 1)))⟩,
    ⟨none, .val 6 (.mv (.t 13))⟩] false [.forget [12, 13]]
abbrev ref_without_r7 : HCode := .reg [⟨none, .val 33 (.mv (.t 5))⟩,
    ⟨none, .val 34 (.fldP (.t 2) 5)⟩,
    ⟨none, .sto (.t 34) 0 36 5 1 (.t 33)⟩] false [.forget [33, 34]]
abbrev ref_without_r8 : HCode := .reg [⟨none, .val 35 (.ldB (.t 2) 0 36 0 6 true)⟩,
    ⟨none, .sto (.t 4) 1 42 0 6 (.t 35)⟩] false [.forget [35]]
abbrev ref_without : HCode := (.seq ref_without_r0 (.seq ref_without_r1 (.seq (.seq ref_without_r2 (.block 0 (.loop (.seq (.seq ref_without_r3 (.cond (.t 11) .skip (.exit 0))) (.seq (.block 1 (.seq ref_without_r4 (.cond (.t 22) ref_without_r5 .skip))) ref_without_r6))))) (.seq ref_without_r7 (.seq ref_without_r8 .ret)))))
abbrev ref_without_E : Env := { N := 36, Γ := [(36, 6), (42, 6)], L := 48, nfix := 0 }
abbrev ref_without_R : List RSrc := [.cellB 4 1 42 0 6 true]
theorem mk_ref_without {base : Nat} {av : List AV} {r : RV} (hfo : formOk ref_without_E base av) (hW : AVs.fits av → hwp Tryd.prog ref_without (finQ ref_without_E base av ref_without_R r) (F0 ref_without_E base av)) (hov : ∀ x, r.res = .ov x → nOwn av = 0 := by intro x h; cases h <;> rfl) : Contract Tryd.prog fn_ref_without av r :=
  contract_of_wp (fn := Tryd.f78) (c := Tryd.f78.body.getD .skip) (by kernel_rfl) (by kernel_rfl) (by kernel_rfl) (by kernel_rfl) (by kernel_rfl) (by kernel_rfl) (by kernel_rfl) hfo hW hov
abbrev ref_RemoveDoc_r0 : HCode := .reg [⟨none, .val 2 (.boxF (.t 0))⟩,
    ⟨none, .alloc 4 0 23 [.nl 5]⟩,
    ⟨none, .val 5 (.mv (.c (iv 0)))⟩] false []
abbrev ref_RemoveDoc_r1 : HCode := .reg [⟨none, .val 7 (.ldR (.t 2) 1 true)⟩,
    ⟨none, .val 8 (.mv (.t 1))⟩,
    ⟨none, .call (some 9) fn_ref_there [(.t 7, .v), (.t 8, .v)]⟩,
    ⟨none, .val 6 (.mv (.t 9))⟩] false [.forget [7, 8, 9]]
abbrev ref_RemoveDoc_r2 : HCode := .reg [⟨none, .val 10 (.mv (.t 6))⟩,
    ⟨none, .val 11 (.ints .neq (.t 10) (.c (iv 0)))⟩] false [.forget [10]]
abbrev ref_RemoveDoc_r3 : HCode := .reg [⟨none, .val 12 (.bld [.nl 5] [])⟩,
    ⟨none, .val 13 (.mv (.t 6))⟩,
    ⟨none, .sto (.t 4) 0 23 0 1 (.t 12)⟩,
    ⟨none, .val 5 (.mv (.t 13))⟩] false [.forget [12, 13]]
abbrev ref_RemoveDoc_r4 : HCode := .reg [⟨none, .val 14 (.mv (.t 1))⟩,
    ⟨none, .val 15 (.ints .eql (.t 14) (.c (iv 0)))⟩] false [.forget [14]]
abbrev ref_RemoveDoc_r5 : HCode := .reg [⟨none, .val 16 (.bld [.nl 5] [])⟩,
    ⟨none, .sto (.t 4) 0 23 0 1 (.t 16)⟩,
    ⟨none, .val 5 (.mv (.c (iv 3)))⟩] false [.forget [16]]
abbrev ref_RemoveDoc_r6 : HCode := .reg [⟨none, .val 17 (.ldR (.t 2) 1 true)⟩,
    ⟨none, .call (some 18) fn_ref_marked [(.t 17, .v), (.c (iv 0), .v)]⟩,
    ⟨none, .val 19 (.mv (.t 1))⟩,
    ⟨none, .call (some 20) fn_ref_without [(.t 18, .v), (.t 19, .v)]⟩,
    ⟨none, .call (some 21) fn_ref_lay [(.c (.one (.nl 0)), .n ty_api_Node 5), (.t 20, .v), (.c (iv (-1)), .v)]⟩,
    ⟨none, .val 22 (.bld [.nl 5] [(0, 1, .t 21)])⟩,
    ⟨none, .sto (.t 4) 0 23 0 1 (.t 22)⟩,
    ⟨none, .val 5 (.mv (.c (iv 0)))⟩] false [.forget [17, 18, 19, 20, 21, 22]]
abbrev ref_RemoveDoc : HCode := (.seq ref_RemoveDoc_r0 (.seq (.seq ref_RemoveDoc_r1 (.seq ref_RemoveDoc_r2 (.cond (.t 11) (.seq ref_RemoveDoc_r3 .ret) .skip))) (.seq (.seq ref_RemoveDoc_r4 (.cond (.t 15) (.seq ref_RemoveDoc_r5 .ret) .skip)) (.seq ref_RemoveDoc_r6 .ret))))
abbrev ref_RemoveDoc_E : Env := { N := 23, Γ := [(23, 1)], L := 24, nfix := 0 }
abbrev ref_RemoveDoc_R : List RSrc := [.cellB 4 0 23 0 1 true, .tmp 5]
theorem mk_ref_RemoveDoc {base : Nat} {av : List AV} {r : RV} (hfo : formOk ref_RemoveDoc_E base av) (hW : AVs.fits av → hwp Tryd.prog ref_RemoveDoc (finQ ref_RemoveDoc_E base av ref_RemoveDoc_R r) (F0 ref_RemoveDoc_E base av)) (hov : ∀ x, r.res = .ov x → nOwn av = 0 := by intro x h; cases h <;> rfl) : Contract Tryd.prog fn_ref_RemoveDoc av r :=
  contract_of_wp (fn := Tryd.f28) (c := Tryd.f28.body.getD .skip) (by kernel_rfl) (by kernel_rfl) (by kernel_rfl) (by kernel_rfl) (by kernel_rfl) (by kernel_rfl) (by kernel_rfl) hfo hW hov
abbrev ref_OwnDoc_r0 : HCode := .reg [⟨none, .val 1 (.boxF (.t 0))⟩,
    ⟨none, .alloc 2 0 24 [.nl 5]⟩] false []
abbrev ref_OwnDoc_r1 : HCode := .reg [⟨none, .alloc 3 1 25 [.nl 5]⟩] false []
abbrev ref_OwnDoc_r2 : HCode := .reg [⟨none, .val 4 (.mv (.c (iv 0)))⟩] false []
abbrev ref_OwnDoc_r3 : HCode := .reg [⟨none, .val 5 (.mv (.t 4))⟩,
    ⟨none, .val 6 (.fldR (.t 1) 0 1)⟩,
    ⟨none, .val 7 (.ldR (.t 6) 1 false)⟩,
    ⟨none, .val 8 (.len false (.t 7))⟩,
    ⟨none, .val 9 (.ints .lss (.t 5) (.t 8))⟩] false [.forget [5, 6, 7, 8]]
abbrev ref_OwnDoc_r4 : HCode := .drg [⟨0, false, ⟨none, .val 12 (.fldP (.t 3) 0)⟩⟩,
    ⟨1, false, ⟨none, .ldo 13 (.t 12) 1 25 0 ty_api_Node 5⟩⟩,
    ⟨2, false, ⟨none, .val 14 (.fldR (.t 1) 0 1)⟩⟩,
    ⟨3, false, ⟨none, .val 15 (.ldR (.t 14) 1 false)⟩⟩,
    ⟨4, false, ⟨none, .val 16 (.mv (.t 4))⟩⟩,
    ⟨5, false, ⟨none, .val 17 (.idxA 5 (.t 15) (.t 16))⟩⟩,
    ⟨6, false, ⟨none, .val 18 (.ldR (.t 17) 5 true)⟩⟩,
    ⟨7, true, ⟨none, .call (some 19) fn_ref_OwnNode [(.t 18, .v)]⟩⟩,
    ⟨8, false, ⟨none, .val 20 (.bslF 5 [.t 19])⟩⟩,
    ⟨9, false, ⟨none, .app 21 ty_api_Node 5 (.t 13) (.t 20)⟩⟩,
    ⟨10, false, ⟨none, .val 22 (.fldP (.t 3) 0)⟩⟩,
    ⟨11, false, ⟨none, .stw (.t 22) 1 25 0 21⟩⟩] [.forget [12, 13, 14, 15, 16, 17, 18, 19, 20, 21, 22]]
abbrev ref_OwnDoc_r5 : HCode := .reg [⟨none, .val 10 (.mv (.t 4))⟩,
    ⟨none, .val 11 (.ints .add (.t 10) (.c (iv 1)))⟩,
    ⟨none, .val 4 (.mv (.t 11))⟩] false [.forget [10, 11]]
abbrev ref_OwnDoc_r6 : HCode := .reg [⟨none, .val 23 (.ldB (.t 3) 1 25 0 1 true)⟩,
    ⟨none, .sto (.t 2) 0 24 0 1 (.t 23)⟩] false [.forget [23]]
abbrev ref_OwnDoc : HCode := (.seq ref_OwnDoc_r0 (.seq ref_OwnDoc_r1 (.seq (.seq ref_OwnDoc_r2 (.block 0 (.loop (.seq (.seq ref_OwnDoc_r3 (.cond (.t 9) .skip (.exit 0))) (.seq (.block 1 ref_OwnDoc_r4) ref_OwnDoc_r5))))) (.seq ref_OwnDoc_r6 .ret))))
abbrev ref_OwnDoc_E : Env := { N := 24, Γ := [(24, 1), (25, 1)], L := 26, nfix := 0 }
abbrev ref_OwnDoc_R : List RSrc := [.cellB 2 0 24 0 1 true]
theorem mk_ref_OwnDoc {base : Nat} {av : List AV} {r : RV} (hfo : formOk ref_OwnDoc_E base av) (hW : AVs.fits av → hwp Tryd.prog ref_OwnDoc (finQ ref_OwnDoc_E base av ref_OwnDoc_R r) (F0 ref_OwnDoc_E base av)) (hov : ∀ x, r.res = .ov x → nOwn av = 0 := by intro x h; cases h <;> rfl) : Contract Tryd.prog fn_ref_OwnDoc av r :=
  contract_of_wp (fn := Tryd.f79) (c := Tryd.f79.body.getD .skip) (by kernel_rfl) (by kernel_rfl) (by kernel_rfl) (by kernel_rfl) (by kernel_rfl) (by kernel_rfl) (by kernel_rfl) hfo hW hov
abbrev ref_SameTexts_r0 : HCode := .reg [⟨none, .val 4 (.mv (.c (bv false)))⟩] false []
abbrev ref_SameTexts_r1 : HCode := .reg [⟨none, .val 6 (.mv (.t 0))⟩,
    ⟨none, .val 7 (.len false (.t 6))⟩,
    ⟨none, .val 8 (.mv (.t 1))⟩,
    ⟨none, .val 9 (.len false (.t 8))⟩,
    ⟨none, .val 10 (.ints .neq (.t 7) (.t 9))⟩] false [.forget [6, 7, 8, 9]]
abbrev ref_SameTexts_r2 : HCode := .reg [⟨none, .val 4 (.mv (.c (bv false)))⟩] false []
abbrev ref_SameTexts_r3 : HCode := .reg [⟨none, .val 5 (.mv (.c (iv 0)))⟩] false []
abbrev ref_SameTexts_r4 : HCode := .reg [⟨none, .val 11 (.mv (.t 5))⟩,
    ⟨none, .val 12 (.mv (.t 0))⟩,
    ⟨none, .val 13 (.len false (.t 12))⟩,
    ⟨none, .val 14 (.ints .lss (.t 11) (.t 13))⟩] false [.forget [11, 12, 13]]
abbrev ref_SameTexts_r5 : HCode := .drg [⟨0, false, ⟨none, .val 17 (.mv (.t 0))⟩⟩,
    ⟨1, false, ⟨none, .val 18 (.mv (.t 5))⟩⟩,
    ⟨2, false, ⟨none, .val 19 (.idxA 1 (.t 17) (.t 18))⟩⟩,
    ⟨3, false, ⟨none, .val 20 (.ldR (.t 19) 1 false)⟩⟩,
    ⟨4, false, ⟨none, .val 21 (.mv (.t 1))⟩⟩,
    ⟨5, false, ⟨none, .val 22 (.mv (.t 5))⟩⟩,
    ⟨6, false, ⟨none, .val 23 (.idxA 1 (.t 21) (.t 22))⟩⟩,
    ⟨7, false, ⟨none, .val 24 (.ldR (.t 23) 1 false)⟩⟩,
    ⟨8, false, ⟨none, .val 25 (.strs .neq (.t 20) (.t 24))⟩⟩] [.forget [17, 18, 19, 20, 21, 22, 23, 24]]
abbrev ref_SameTexts_r6 : HCode := .reg [⟨none, .val 4 (.mv (.c (bv false)))⟩] false []
abbrev ref_SameTexts_r7 : HCode := .reg [⟨none, .val 15 (.mv (.t 5))⟩,
    ⟨none, .val 16 (.ints .add (.t 15) (.c (iv 1)))⟩,
    ⟨none, .val 5 (.mv (.t 16))⟩] false [.forget [15, 16]]
abbrev ref_SameTexts_r8 : HCode := .reg [⟨none, .val 4 (.mv (.c (bv true)))⟩] false []
abbrev ref_SameTexts : HCode := (.seq ref_SameTexts_r0 (.seq (.seq ref_SameTexts_r1 (.cond (.t 10) (.seq ref_SameTexts_r2 .ret) .skip)) (.seq (.seq ref_SameTexts_r3 (.block 0 (.loop (.seq (.seq ref_SameTexts_r4 (.cond (.t 14) .skip (.exit 0))) (.seq (.block 1 (.seq ref_SameTexts_r5 (.cond (.t 25) (.seq ref_SameTexts_r6 .ret) .skip))) ref_SameTexts_r7))))) (.seq ref_SameTexts_r8 .ret))))
abbrev ref_SameTexts_E : Env := { N := 26, Γ := [], L := 26, nfix := 0 }
abbrev ref_SameTexts_R : List RSrc := [.tmp 4]
theorem mk_ref_SameTexts {base : Nat} {av : List AV} {r : RV} (hfo : formOk ref_SameTexts_E base av) (hW : AVs.fits av → hwp Tryd.prog ref_SameTexts (finQ ref_SameTexts_E base av ref_SameTexts_R r) (F0 ref_SameTexts_E base av)) (hov : ∀ x, r.res = .ov x → nOwn av = 0 := by intro x h; cases h <;> rfl) : Contract Tryd.prog fn_ref_SameTexts av r :=
  contract_of_wp (fn := Tryd.f118) (c := Tryd.f118.body.getD .skip) (by kernel_rfl) (by kernel_rfl) (by kernel_rfl) (by kernel_rfl) (by kernel_rfl) (by kernel_rfl) (by kernel_rfl) hfo hW hov
abbrev ref_SameInts_r0 : HCode := .reg [⟨none, .val 4 (.mv (.c (bv false)))⟩] false []
abbrev ref_SameInts_r1 : HCode := .reg [⟨none, .val 6 (.mv (.t 0))⟩,
    ⟨none, .val 7 (.len false (.t 6))⟩,
    ⟨none, .val 8 (.mv (.t 1))⟩,
    ⟨none, .val 9 (.len false (.t 8))⟩,
    ⟨none, .val 10 (.ints .neq (.t 7) (.t 9))⟩] false [.forget [6, 7, 8, 9]]
abbrev ref_SameInts_r2 : HCode := .reg [⟨none, .val 4 (.mv (.c (bv false)))⟩] false []
abbrev ref_SameInts_r3 : HCode := .reg [⟨none, .val 5 (.mv (.c (iv 0)))⟩] false []
abbrev ref_SameInts_r4 : HCode := .reg [⟨none, .val 11 (.mv (.t 5))⟩,
    ⟨none, .val 12 (.mv (.t 0))⟩,
    ⟨none, .val 13 (.len false (.t 12))⟩,
    ⟨none, .val 14 (.ints .lss (.t 11) (.t 13))⟩] false [.forget [11, 12, 13]]
abbrev ref_SameInts_r5 : HCode := .drg [⟨0, false, ⟨none, .val 17 (.mv (.t 0))⟩⟩,
    ⟨1, false, ⟨none, .val 18 (.mv (.t 5))⟩⟩,
    ⟨2, false, ⟨none, .val 19 (.idxA 1 (.t 17) (.t 18))⟩⟩,
    ⟨3, false, ⟨none, .val 20 (.ldR (.t 19) 1 false)⟩⟩,
    ⟨4, false, ⟨none, .val 21 (.mv (.t 1))⟩⟩,
    ⟨5, false, ⟨none, .val 22 (.mv (.t 5))⟩⟩,
    ⟨6, false, ⟨none, .val 23 (.idxA 1 (.t 21) (.t 22))⟩⟩,
    ⟨7, false, ⟨none, .val 24 (.ldR (.t 23) 1 false)⟩⟩,
    ⟨8, false, ⟨none, .val 25 (.ints .neq (.t 20) (.t 24))⟩⟩] [.forget [17, 18, 19, 20, 21, 22, 23, 24]]
abbrev ref_SameInts_r6 : HCode := .reg [⟨none, .val 4 (.mv (.c (bv false)))⟩] false []
abbrev ref_SameInts_r7 : HCode := .reg [⟨none, .val 15 (.mv (.t 5))⟩,
    ⟨none, .val 16 (.ints .add (.t 15) (.c (iv 1)))⟩,
    ⟨none, .val 5 (.mv (.t 16))⟩] false [.forget [15, 16]]
abbrev ref_SameInts_r8 : HCode := .reg [⟨none, .val 4 (.mv (.c (bv true)))⟩] false []
abbrev ref_SameInts : HCode := (.seq ref_SameInts_r0 (.seq (.seq ref_SameInts_r1 (.cond (.t 10) (.seq ref_SameInts_r2 .ret) .skip)) (.seq (.seq ref_SameInts_r3 (.block 0 (.loop (.seq (.seq ref_SameInts_r4 (.cond (.t 14) .skip (.exit 0))) (.seq (.block 1 (.seq ref_SameInts_r5 (.cond (.t 25) (.seq ref_SameInts_r6 .ret) .skip))) ref_SameInts_r7))))) (.seq ref_SameInts_r8 .ret))))
abbrev ref_SameInts_E : Env := { N := 26, Γ := [], L := 26, nfix := 0 }
abbrev ref_SameInts_R : List RSrc := [.tmp 4]
theorem mk_ref_SameInts {base : Nat} {av : List AV} {r : RV} (hfo : formOk ref_SameInts_E base av) (hW : AVs.fits av → hwp Tryd.prog ref_SameInts (finQ ref_SameInts_E base av ref_SameInts_R r) (F0 ref_SameInts_E base av)) (hov : ∀ x, r.res = .ov x → nOwn av = 0 := by intro x h; cases h <;> rfl) : Contract Tryd.prog fn_ref_SameInts av r :=
  contract_of_wp (fn := Tryd.f22) (c := Tryd.f22.body.getD .skip) (by kernel_rfl) (by kernel_rfl) (by kernel_rfl) (by kernel_rfl) (by kernel_rfl) (by kernel_rfl) (by kernel_rfl) hfo hW hov
abbrev ref_SameNodes_r0 : HCode := .reg [⟨none, .val 2 (.boxF (.t 0))⟩,
    ⟨none, .val 3 (.boxF (.t 1))⟩,
    ⟨none, .val 4 (.mv (.c (bv false)))⟩] false []
abbrev ref_SameNodes_r1 : HCode := .reg [⟨none, .val 6 (.fldR (.t 2) 0 1)⟩,
    ⟨none, .val 7 (.ldR (.t 6) 1 false)⟩,
    ⟨none, .val 8 (.fldR (.t 3) 0 1)⟩,
    ⟨none, .val 9 (.ldR (.t 8) 1 false)⟩,
    ⟨none, .val 10 (.ints .neq (.t 7) (.t 9))⟩,
    ⟨none, .val 11 (.mv (.t 10))⟩,
    ⟨some (11, false), .val 12 (.fldR (.t 2) 1 1)⟩,
    ⟨some (11, false), .val 13 (.ldR (.t 12) 1 false)⟩,
    ⟨some (11, false), .val 14 (.fldR (.t 3) 1 1)⟩,
    ⟨some (11, false), .val 15 (.ldR (.t 14) 1 false)⟩,
    ⟨some (11, false), .val 16 (.strs .neq (.t 13) (.t 15))⟩,
    ⟨none, .val 17 (.pick (.t 11) (.c (bv true)) (.t 16))⟩,
    ⟨none, .val 18 (.mv (.t 17))⟩,
    ⟨some (18, false), .val 19 (.fldR (.t 2) 2 1)⟩,
    ⟨some (18, false), .val 20 (.ldR (.t 19) 1 false)⟩,
    ⟨some (18, false), .val 21 (.fldR (.t 3) 2 1)⟩,
    ⟨some (18, false), .val 22 (.ldR (.t 21) 1 false)⟩,
    ⟨some (18, false), .val 23 (.strs .neq (.t 20) (.t 22))⟩,
    ⟨none, .val 24 (.pick (.t 18) (.c (bv true)) (.t 23))⟩,
    ⟨none, .val 25 (.mv (.t 24))⟩,
    ⟨some (25, false), .val 26 (.fldR (.t 2) 3 1)⟩,
    ⟨some (25, false), .val 27 (.ldR (.t 26) 1 false)⟩,
    ⟨some (25, false), .val 28 (.fldR (.t 3) 3 1)⟩,
    ⟨some (25, false), .val 29 (.ldR (.t 28) 1 false)⟩,
    ⟨some (25, false), .call (some 30) fn_ref_SameTexts [(.t 27, .v), (.t 29, .v)]⟩,
    ⟨some (25, false), .val 31 (.not (.t 30))⟩,
    ⟨none, .val 32 (.pick (.t 25) (.c (bv true)) (.t 31))⟩,
    ⟨none, .val 33 (.mv (.t 32))⟩,
    ⟨some (33, false), .val 34 (.fldR (.t 2) 4 1)⟩,
    ⟨some (33, false), .val 35 (.ldR (.t 34) 1 false)⟩,
    ⟨some (33, false), .val 36 (.len false (.t 35))⟩,
    ⟨some (33, false), .val 37 (.fldR (.t 3) 4 1)⟩,
    ⟨some (33, false), .val 38 (.ldR (.t 37) 1 false)⟩,
    ⟨some (33, false), .val 39 (.len false (.t 38))⟩,
    ⟨some (33, false), .val 40 (.ints .neq (.t 36) (.t 39))⟩,
    ⟨none, .val 41 (.pick (.t 33) (.c (bv true)) (.t 40))⟩] false [.forget [6, 7, 8, 9, 10, 11, 12, 13, 14, 15, 16, 17, 18, 19, 20, 21, 22, 23, 24, 25, 26, 27, 28, 29, 30, 31, 32, 33, 34, 35, 36, 37, 38, 39, 40]]
abbrev ref_SameNodes_r2 : HCode := .reg [⟨none, .val 4 (.mv (.c (bv false)))⟩] false []
abbrev ref_SameNodes_r3 : HCode := .reg [⟨none, .val 5 (.mv (.c (iv 0)))⟩] false []
abbrev ref_SameNodes_r4 : HCode := .reg [⟨none, .val 42 (.mv (.t 5))⟩,
    ⟨none, .val 43 (.fldR (.t 2) 4 1)⟩,
    ⟨none, .val 44 (.ldR (.t 43) 1 false)⟩,
    ⟨none, .val 45 (.len false (.t 44))⟩,
    ⟨none, .val 46 (.ints .lss (.t 42) (.t 45))⟩] false [.forget [42, 43, 44, 45]]
abbrev ref_SameNodes_r5 : HCode := .drg [⟨0, false, ⟨none, .val 49 (.fldR (.t 2) 4 1)⟩⟩,
    ⟨1, false, ⟨none, .val 50 (.ldR (.t 49) 1 false)⟩⟩,
    ⟨2, false, ⟨none, .val 51 (.mv (.t 5))⟩⟩,
    ⟨3, false, ⟨none, .val 52 (.idxA 2 (.t 50) (.t 51))⟩⟩,
    ⟨4, false, ⟨none, .val 53 (.ldR (.t 52) 2 true)⟩⟩,
    ⟨5, false, ⟨none, .val 54 (.fldR (.t 3) 4 1)⟩⟩,
    ⟨6, false, ⟨none, .val 55 (.ldR (.t 54) 1 false)⟩⟩,
    ⟨7, false, ⟨none, .val 56 (.mv (.t 5))⟩⟩,
    ⟨8, false, ⟨none, .val 57 (.idxA 2 (.t 55) (.t 56))⟩⟩,
    ⟨9, false, ⟨none, .val 58 (.ldR (.t 57) 2 true)⟩⟩,
    ⟨10, false, ⟨none, .val 59 (.steq true [2, 2] (.t 53) (.t 58))⟩⟩] [.forget [49, 50, 51, 52, 53, 54, 55, 56, 57, 58]]
abbrev ref_SameNodes_r6 : HCode := .reg [⟨none, .val 4 (.mv (.c (bv false)))⟩] false []
abbrev ref_SameNodes_r7 : HCode := .reg [⟨none, .val 47 (.mv (.t 5))⟩,
    ⟨none, .val 48 (.ints .add (.t 47) (.c (iv 1)))⟩,
    ⟨none, .val 5 (.mv (.t 48))⟩] false [.forget [47, 48]]
abbrev ref_SameNodes_r8 : HCode := .reg [⟨none, .val 4 (.mv (.c (bv true)))⟩] false []
abbrev ref_SameNodes : HCode := (.seq ref_SameNodes_r0 (.seq (.seq ref_SameNodes_r1 (.cond (.t 41) (.seq ref_SameNodes_r2 .ret) .skip)) (.seq (.seq ref_SameNodes_r3 (.block 0 (.loop (.seq (.seq ref_SameNodes_r4 (.cond (.t 46) .skip (.exit 0))) (.seq (.block 1 (.seq ref_SameNodes_r5 (.cond (.t 59) (.seq ref_SameNodes_r6 .ret) .skip))) ref_SameNodes_r7))))) (.seq ref_SameNodes_r8 .ret))))
abbrev ref_SameNodes_E : Env := { N := 60, Γ := [], L := 60, nfix := 0 }
abbrev ref_SameNodes_R : List RSrc := [.tmp 4]
theorem mk_ref_SameNodes {base : Nat} {av : List AV} {r : RV} (hfo : formOk ref_SameNodes_E base av) (hW : AVs.fits av → hwp Tryd.prog ref_SameNodes (finQ ref_SameNodes_E base av ref_SameNodes_R r) (F0 ref_SameNodes_E base av)) (hov : ∀ x, r.res = .ov x → nOwn av = 0 := by intro x h; cases h <;> rfl) : Contract Tryd.prog fn_ref_SameNodes av r :=
  contract_of_wp (fn := Tryd.f67) (c := Tryd.f67.body.getD .skip) (by kernel_rfl) (by kernel_rfl) (by kernel_rfl) (by kernel_rfl) (by kernel_rfl) (by kernel_rfl) (by kernel_rfl) hfo hW hov
abbrev ref_SameDocs_r0 : HCode := .reg [⟨none, .val 2 (.boxF (.t 0))⟩,
    ⟨none, .val 3 (.boxF (.t 1))⟩,
    ⟨none, .val 4 (.mv (.c (bv false)))⟩] false []
abbrev ref_SameDocs_r1 : HCode := .reg [⟨none, .val 6 (.fldR (.t 2) 0 1)⟩,
    ⟨none, .val 7 (.ldR (.t 6) 1 false)⟩,
    ⟨none, .val 8 (.len false (.t 7))⟩,
    ⟨none, .val 9 (.fldR (.t 3) 0 1)⟩,
    ⟨none, .val 10 (.ldR (.t 9) 1 false)⟩,
    ⟨none, .val 11 (.len false (.t 10))⟩,
    ⟨none, .val 12 (.ints .neq (.t 8) (.t 11))⟩] false [.forget [6, 7, 8, 9, 10, 11]]
abbrev ref_SameDocs_r2 : HCode := .reg [⟨none, .val 4 (.mv (.c (bv false)))⟩] false []
abbrev ref_SameDocs_r3 : HCode := .reg [⟨none, .val 5 (.mv (.c (iv 0)))⟩] false []
abbrev ref_SameDocs_r4 : HCode := .reg [⟨none, .val 13 (.mv (.t 5))⟩,
    ⟨none, .val 14 (.fldR (.t 2) 0 1)⟩,
    ⟨none, .val 15 (.ldR (.t 14) 1 false)⟩,
    ⟨none, .val 16 (.len false (.t 15))⟩,
    ⟨none, .val 17 (.ints .lss (.t 13) (.t 16))⟩] false [.forget [13, 14, 15, 16]]
abbrev ref_SameDocs_r5 : HCode := .drg [⟨0, false, ⟨none, .val 20 (.fldR (.t 2) 0 1)⟩⟩,
    ⟨1, false, ⟨none, .val 21 (.ldR (.t 20) 1 false)⟩⟩,
    ⟨2, false, ⟨none, .val 22 (.mv (.t 5))⟩⟩,
    ⟨3, false, ⟨none, .val 23 (.idxA 5 (.t 21) (.t 22))⟩⟩,
    ⟨4, false, ⟨none, .val 24 (.ldR (.t 23) 5 true)⟩⟩,
    ⟨5, false, ⟨none, .val 25 (.fldR (.t 3) 0 1)⟩⟩,
    ⟨6, false, ⟨none, .val 26 (.ldR (.t 25) 1 false)⟩⟩,
    ⟨7, false, ⟨none, .val 27 (.mv (.t 5))⟩⟩,
    ⟨8, false, ⟨none, .val 28 (.idxA 5 (.t 26) (.t 27))⟩⟩,
    ⟨9, false, ⟨none, .val 29 (.ldR (.t 28) 5 true)⟩⟩,
    ⟨10, true, ⟨none, .call (some 30) fn_ref_SameNodes [(.t 24, .v), (.t 29, .v)]⟩⟩,
    ⟨11, false, ⟨none, .val 31 (.not (.t 30))⟩⟩] [.forget [20, 21, 22, 23, 24, 25, 26, 27, 28, 29, 30]]
abbrev ref_SameDocs_r6 : HCode := .reg [⟨none, .val 4 (.mv (.c (bv false)))⟩] false []
abbrev ref_SameDocs_r7 : HCode := .reg [⟨none, .val 18 (.mv (.t 5))⟩,
    ⟨none, .val 19 (.ints .add (.t 18) (.c (iv 1)))⟩,
    ⟨none, .val 5 (.mv (.t 19))⟩] false [.forget [18, 19]]
abbrev ref_SameDocs_r8 : HCode := .reg [⟨none, .val 4 (.mv (.c (bv true)))⟩] false []
abbrev ref_SameDocs : HCode := (.seq ref_SameDocs_r0 (.seq (.seq ref_SameDocs_r1 (.cond (.t 12) (.seq ref_SameDocs_r2 .ret) .skip)) (.seq (.seq ref_SameDocs_r3 (.block 0 (.loop (.seq (.seq ref_SameDocs_r4 (.cond (.t 17) .skip (.exit 0))) (.seq (.block 1 (.seq ref_SameDocs_r5 (.cond (.t 31) (.seq ref_SameDocs_r6 .ret) .skip))) ref_SameDocs_r7))))) (.seq ref_SameDocs_r8 .ret))))
abbrev ref_SameDocs_E : Env := { N := 32, Γ := [], L := 32, nfix := 0 }
abbrev ref_SameDocs_R : List RSrc := [.tmp 4]
theorem mk_ref_SameDocs {base : Nat} {av : List AV} {r : RV} (hfo : formOk ref_SameDocs_E base av) (hW : AVs.fits av → hwp Tryd.prog ref_SameDocs (finQ ref_SameDocs_E base av ref_SameDocs_R r) (F0 ref_SameDocs_E base av)) (hov : ∀ x, r.res = .ov x → nOwn av = 0 := by intro x h; cases h <;> rfl) : Contract Tryd.prog fn_ref_SameDocs av r :=
  contract_of_wp (fn := Tryd.f23) (c := Tryd.f23.body.getD .skip) (by kernel_rfl) (by kernel_rfl) (by kernel_rfl) (by kernel_rfl) (by kernel_rfl) (by kernel_rfl) (by kernel_rfl) hfo hW hov
end Go.Hx
