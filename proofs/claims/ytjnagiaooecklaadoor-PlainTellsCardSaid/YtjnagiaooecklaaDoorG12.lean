/-
  The abstract code of functions of the program, printed by gen.py; each stands for the given one. No condition.
-/
import Derived.Test.YtjnagiaooecklaaDoorProg
import Derived.Test.YtjnagiaooecklaaDoorG8
set_option linter.all false
namespace Go.Hx
open Go.Proofs
variable [Glob]
abbrev fn_ref_Above : Nat := 60
abbrev fn_ref_CheckDoc : Nat := 21
abbrev fn_ref_IsName : Nat := 116
abbrev fn_ref_IsValue : Nat := 117
abbrev fn_ref_KidsOf : Nat := 16
abbrev fn_ref_NodeFine : Nat := 66
abbrev fn_ref_OwnDoc : Nat := 79
abbrev fn_ref_OwnNode : Nat := 80
abbrev fn_ref_PartOf : Nat := 18
abbrev fn_ref_RemoveDoc : Nat := 28
abbrev fn_ref_SameDocs : Nat := 23
abbrev fn_ref_SameInts : Nat := 22
abbrev fn_ref_SameNodes : Nat := 67
abbrev fn_ref_SameTexts : Nat := 118
abbrev fn_ref_There : Nat := 15
abbrev fn_ref_UnderOf : Nat := 17
abbrev fn_ref_lay : Nat := 61
abbrev fn_ref_marked : Nat := 72
abbrev fn_ref_there : Nat := 59
abbrev fn_ref_treeOf : Nat := 62
abbrev fn_ref_with : Nat := 71
abbrev fn_ref_within : Nat := 65
abbrev fn_ref_without : Nat := 78
abbrev ty_api_Attr : Nat := 97
abbrev ty_api_Node : Nat := 47
abbrev ty_int : Nat := 3
abbrev ty_pathfinderyref_tree : Nat := 85
abbrev ty_string : Nat := 9
abbrev ref_within_r0 : HCode := .reg [⟨none, .val 6 (.mv (.c (bv false)))⟩] false []
abbrev ref_within_r1 : HCode := .reg [⟨none, .val 7 (.mv (.t 0))⟩,
    ⟨none, .val 8 (.mv (.t 1))⟩,
    ⟨none, .val 9 (.ints .geq (.t 7) (.t 8))⟩,
    ⟨none, .val 10 (.mv (.t 9))⟩,
    ⟨some (10, true), .val 11 (.mv (.t 0))⟩,
    ⟨some (10, true), .val 12 (.mv (.t 2))⟩,
    ⟨some (10, true), .val 13 (.ints .leq (.t 11) (.t 12))⟩,
    ⟨none, .val 14 (.pick (.t 10) (.t 13) (.c (bv false)))⟩,
    ⟨none, .val 6 (.mv (.t 14))⟩] false [.forget [7, 8, 9, 10, 11, 12, 13, 14]]
abbrev ref_within : HCode := (.seq ref_within_r0 (.seq ref_within_r1 .ret))
abbrev ref_within_E : Env := { N := 15, Γ := [], L := 15, nfix := 0 }
abbrev ref_within_R : List RSrc := [.tmp 6]
theorem mk_ref_within {base : Nat} {av : List AV} {r : RV} (hfo : formOk ref_within_E base av) (hW : AVs.fits av → hwp Tryd.prog ref_within (finQ ref_within_E base av ref_within_R r) (F0 ref_within_E base av)) (hov : ∀ x, r.res = .ov x → nOwn av = 0 := by intro x h; cases h <;> rfl) : Contract Tryd.prog fn_ref_within av r :=
  contract_of_wp (fn := Tryd.f65) (c := Tryd.f65.body.getD .skip) (by kernel_rfl) (by kernel_rfl) (by kernel_rfl) (by kernel_rfl) (by kernel_rfl) (by kernel_rfl) (by kernel_rfl) hfo hW hov
abbrev ref_IsName_r0 : HCode := .reg [⟨none, .val 2 (.mv (.c (bv false)))⟩] false []
abbrev ref_IsName_r1 : HCode := .reg [⟨none, .val 5 (.mv (.t 0))⟩,
    ⟨none, .val 6 (.len true (.t 5))⟩,
    ⟨none, .call (some 7) fn_ref_within [(.t 6, .v), (.c (iv 1), .v), (.c (iv 12), .v)]⟩,
    ⟨none, .val 8 (.not (.t 7))⟩,
    ⟨none, .val 9 (.mv (.t 8))⟩,
    ⟨some (9, false), .val 10 (.mv (.t 0))⟩,
    ⟨some (9, false), .val 11 (.idxS (.t 10) (.c (iv 0)))⟩,
    ⟨some (9, false), .val 12 (.ints .lss (.t 11) (.c (.one (.v (.int .u8 97)))))⟩,
    ⟨none, .val 13 (.pick (.t 9) (.c (bv true)) (.t 12))⟩,
    ⟨none, .val 14 (.mv (.t 13))⟩,
    ⟨some (14, false), .val 15 (.mv (.t 0))⟩,
    ⟨some (14, false), .val 16 (.idxS (.t 15) (.c (iv 0)))⟩,
    ⟨some (14, false), .val 17 (.ints .gtr (.t 16) (.c (.one (.v (.int .u8 122)))))⟩,
    ⟨none, .val 18 (.pick (.t 14) (.c (bv true)) (.t 17))⟩] false [.forget [5, 6, 7, 8, 9, 10, 11, 12, 13, 14, 15, 16, 17]]
abbrev ref_IsName_r2 : HCode := .reg [⟨none, .val 2 (.mv (.c (bv false)))⟩] false []
abbrev ref_IsName_r3 : HCode := .reg [⟨none, .val 3 (.mv (.c (iv 0)))⟩] false []
abbrev ref_IsName_r4 : HCode := .reg [⟨none, .val 19 (.mv (.t 3))⟩,
    ⟨none, .val 20 (.mv (.t 0))⟩,
    ⟨none, .val 21 (.len true (.t 20))⟩,
    ⟨none, .val 22 (.ints .lss (.t 19) (.t 21))⟩] false [.forget [19, 20, 21]]
abbrev ref_IsName_r5 : HCode := .reg [⟨none, .val 25 (.mv (.t 0))⟩,
    ⟨none, .val 26 (.mv (.t 3))⟩,
    ⟨none, .val 27 (.idxS (.t 25) (.t 26))⟩,
    ⟨none, .val 4 (.mv (.t 27))⟩] false [.forget [25, 26, 27]]
abbrev ref_IsName_r6 : HCode := .reg [⟨none, .val 28 (.mv (.t 4))⟩,
    ⟨none, .val 29 (.ints .geq (.t 28) (.c (.one (.v (.int .u8 97)))))⟩,
    ⟨none, .val 30 (.mv (.t 29))⟩,
    ⟨some (30, true), .val 31 (.mv (.t 4))⟩,
    ⟨some (30, true), .val 32 (.ints .leq (.t 31) (.c (.one (.v (.int .u8 122)))))⟩,
    ⟨none, .val 33 (.pick (.t 30) (.t 32) (.c (bv false)))⟩,
    ⟨none, .val 34 (.mv (.t 33))⟩,
    ⟨some (34, false), .val 35 (.mv (.t 4))⟩,
    ⟨some (34, false), .val 36 (.ints .geq (.t 35) (.c (.one (.v (.int .u8 48)))))⟩,
    ⟨some (34, false), .val 37 (.mv (.t 36))⟩,
    ⟨some (37, true), .val 38 (.mv (.t 4))⟩,
    ⟨some (37, true), .val 39 (.ints .leq (.t 38) (.c (.one (.v (.int .u8 57)))))⟩,
    ⟨some (34, false), .val 40 (.pick (.t 37) (.t 39) (.c (bv false)))⟩,
    ⟨none, .val 41 (.pick (.t 34) (.c (bv true)) (.t 40))⟩,
    ⟨none, .val 42 (.mv (.t 41))⟩,
    ⟨some (42, false), .val 43 (.mv (.t 4))⟩,
    ⟨some (42, false), .val 44 (.ints .eql (.t 43) (.c (.one (.v (.int .u8 45)))))⟩,
    ⟨none, .val 45 (.pick (.t 42) (.c (bv true)) (.t 44))⟩,
    ⟨none, .val 46 (.not (.t 45))⟩] false [.forget [28, 29, 30, 31, 32, 33, 34, 35, 36, 37, 38, 39, 40, 41, 42, 43, 44, 45]]
abbrev ref_IsName_r7 : HCode := .reg [⟨none, .val 2 (.mv (.c (bv false)))⟩] false []
abbrev ref_IsName_r8 : HCode := .reg [⟨none, .val 23 (.mv (.t 3))⟩,
    ⟨none, .val 24 (.ints .add (.t 23) (.c (iv 1)))⟩,
    ⟨none, .val 3 (.mv (.t 24))⟩] false [.forget [23, 24]]
abbrev ref_IsName_r9 : HCode := .reg [⟨none, .val 2 (.mv (.c (bv true)))⟩] false []
abbrev ref_IsName : HCode := (.seq ref_IsName_r0 (.seq (.seq ref_IsName_r1 (.cond (.t 18) (.seq ref_IsName_r2 .ret) .skip)) (.seq (.seq ref_IsName_r3 (.block 0 (.loop (.seq (.seq ref_IsName_r4 (.cond (.t 22) .skip (.exit 0))) (.seq (.block 1 (.seq ref_IsName_r5 (.seq ref_IsName_r6 (.cond (.t 46) (.seq ref_IsName_r7 .ret) .skip)))) ref_IsName_r8))))) (.seq ref_IsName_r9 .ret))))
abbrev ref_IsName_E : Env := { N := 47, Γ := [], L := 47, nfix := 0 }
abbrev ref_IsName_R : List RSrc := [.tmp 2]
theorem mk_ref_IsName {base : Nat} {av : List AV} {r : RV} (hfo : formOk ref_IsName_E base av) (hW : AVs.fits av → hwp Tryd.prog ref_IsName (finQ ref_IsName_E base av ref_IsName_R r) (F0 ref_IsName_E base av)) (hov : ∀ x, r.res = .ov x → nOwn av = 0 := by intro x h; cases h <;> rfl) : Contract Tryd.prog fn_ref_IsName av r :=
  contract_of_wp (fn := Tryd.f116) (c := Tryd.f116.body.getD .skip) (by kernel_rfl) (by kernel_rfl) (by kernel_rfl) (by kernel_rfl) (by kernel_rfl) (by kernel_rfl) (by kernel_rfl) hfo hW hov
abbrev ref_IsValue_r0 : HCode := .reg [⟨none, .val 2 (.mv (.c (bv false)))⟩] false []
abbrev ref_IsValue_r1 : HCode := .reg [⟨none, .val 4 (.mv (.t 0))⟩,
    ⟨none, .val 5 (.len true (.t 4))⟩,
    ⟨none, .val 6 (.ints .gtr (.t 5) (.c (iv 16)))⟩] false [.forget [4, 5]]
abbrev ref_IsValue_r2 : HCode := .reg [⟨none, .val 2 (.mv (.c (bv false)))⟩] false []
abbrev ref_IsValue_r3 : HCode := .reg [⟨none, .val 3 (.mv (.c (iv 0)))⟩] false []
abbrev ref_IsValue_r4 : HCode := .reg [⟨none, .val 7 (.mv (.t 3))⟩,
    ⟨none, .val 8 (.mv (.t 0))⟩,
    ⟨none, .val 9 (.len true (.t 8))⟩,
    ⟨none, .val 10 (.ints .lss (.t 7) (.t 9))⟩] false [.forget [7, 8, 9]]
abbrev ref_IsValue_r5 : HCode := .reg [⟨none, .val 13 (.mv (.t 0))⟩,
    ⟨none, .val 14 (.mv (.t 3))⟩,
    ⟨none, .val 15 (.idxS (.t 13) (.t 14))⟩,
    ⟨none, .val 16 (.ints .lss (.t 15) (.c (.one (.v (.int .u8 32)))))⟩,
    ⟨none, .val 17 (.mv (.t 16))⟩,
    ⟨some (17, false), .val 18 (.mv (.t 0))⟩,
    ⟨some (17, false), .val 19 (.mv (.t 3))⟩,
    ⟨some (17, false), .val 20 (.idxS (.t 18) (.t 19))⟩,
    ⟨some (17, false), .val 21 (.ints .gtr (.t 20) (.c (.one (.v (.int .u8 126)))))⟩,
    ⟨none, .val 22 (.pick (.t 17) (.c (bv true)) (.t 21))⟩,
    ⟨none, .val 23 (.mv (.t 22))⟩,
    ⟨some (23, false), .val 24 (.mv (.t 0))⟩,
    ⟨some (23, false), .val 25 (.mv (.t 3))⟩,
    ⟨some (23, false), .val 26 (.idxS (.t 24) (.t 25))⟩,
    ⟨some (23, false), .val 27 (.ints .eql (.t 26) (.c (.one (.v (.int .u8 34)))))⟩,
    ⟨none, .val 28 (.pick (.t 23) (.c (bv true)) (.t 27))⟩] false [.forget [13, 14, 15, 16, 17, 18, 19, 20, 21, 22, 23, 24, 25, 26, 27]]
abbrev ref_IsValue_r6 : HCode := .reg [⟨none, .val 2 (.mv (.c (bv false)))⟩] false []
abbrev ref_IsValue_r7 : HCode := .reg [⟨none, .val 11 (.mv (.t 3))⟩,
    ⟨none, .val 12 (.ints .add (.t 11) (.c (iv 1)))⟩,
    ⟨none, .val 3 (.mv (.t 12))⟩] false [.forget [11, 12]]
abbrev ref_IsValue_r8 : HCode := .reg [⟨none, .val 2 (.mv (.c (bv true)))⟩] false []
abbrev ref_IsValue : HCode := (.seq ref_IsValue_r0 (.seq (.seq ref_IsValue_r1 (.cond (.t 6) (.seq ref_IsValue_r2 .ret) .skip)) (.seq (.seq ref_IsValue_r3 (.block 0 (.loop (.seq (.seq ref_IsValue_r4 (.cond (.t 10) .skip (.exit 0))) (.seq (.block 1 (.seq ref_IsValue_r5 (.cond (.t 28) (.seq ref_IsValue_r6 .ret) .skip))) ref_IsValue_r7))))) (.seq ref_IsValue_r8 .ret))))
abbrev ref_IsValue_E : Env := { N := 29, Γ := [], L := 29, nfix := 0 }
abbrev ref_IsValue_R : List RSrc := [.tmp 2]
theorem mk_ref_IsValue {base : Nat} {av : List AV} {r : RV} (hfo : formOk ref_IsValue_E base av) (hW : AVs.fits av → hwp Tryd.prog ref_IsValue (finQ ref_IsValue_E base av ref_IsValue_R r) (F0 ref_IsValue_E base av)) (hov : ∀ x, r.res = .ov x → nOwn av = 0 := by intro x h; cases h <;> rfl) : Contract Tryd.prog fn_ref_IsValue av r :=
  contract_of_wp (fn := Tryd.f117) (c := Tryd.f117.body.getD .skip) (by kernel_rfl) (by kernel_rfl) (by kernel_rfl) (by kernel_rfl) (by kernel_rfl) (by kernel_rfl) (by kernel_rfl) hfo hW hov
abbrev ref_SameInts_r0 : HCode := .reg [⟨none, .val 4 (.mv (.c (bv false)))⟩] false []
abbrev ref_SameInts_r1 : HCode := .reg [⟨none, .val 6 (.mv (.t 0))⟩,
    ⟨none, .val 7 (.len false (.t 6))⟩,
    ⟨none, .val 8 (.mv (.t 1))⟩,
    ⟨none, .val 9 (.len false (.t 8))⟩,
    ⟨none, .val 10 (.ints .neq (.t 7) (.t 9))⟩] false [.forget [6, 7, 8, 9]]
abbrev ref_SameInts_r2 : HCode := .reg [⟨none, .val 4 (.mv (.c (bv false)))⟩] false []
abbrev ref_SameInts_r3 : HCode := .reg [⟨none, .val 5 (.mv (.c (iv 0)))⟩] false []
abbrev ref_SameInts_r4 : HCode := .reg [⟨none, .val 11 (.mv (.t 5))⟩,
    ⟨none, .val 12 (.mv (.t 0))⟩,
    ⟨none, .val 13 (.len false (.t 12))⟩,
    ⟨none, .val 14 (.ints .lss (.t 11) (.t 13))⟩] false [.forget [11, 12, 13]]
abbrev ref_SameInts_r5 : HCode := .drg [⟨0, false, ⟨none, .val 17 (.mv (.t 0))⟩⟩,
    ⟨1, false, ⟨none, .val 18 (.mv (.t 5))⟩⟩,
    ⟨2, false, ⟨none, .val 19 (.idxA 1 (.t 17) (.t 18))⟩⟩,
    ⟨3, false, ⟨none, .val 20 (.ldR (.t 19) 1 false)⟩⟩,
    ⟨4, false, ⟨none, .val 21 (.mv (.t 1))⟩⟩,
    ⟨5, false, ⟨none, .val 22 (.mv (.t 5))⟩⟩,
    ⟨6, false, ⟨none, .val 23 (.idxA 1 (.t 21) (.t 22))⟩⟩,
    ⟨7, false, ⟨none, .val 24 (.ldR (.t 23) 1 false)⟩⟩,
    ⟨8, false, ⟨none, .val 25 (.ints .neq (.t 20) (.t 24))⟩⟩] [.forget [17, 18, 19, 20, 21, 22, 23, 24]]
abbrev ref_SameInts_r6 : HCode := .reg [⟨none, .val 4 (.mv (.c (bv false)))⟩] false []
abbrev ref_SameInts_r7 : HCode := .reg [⟨none, .val 15 (.mv (.t 5))⟩,
    ⟨none, .val 16 (.ints .add (.t 15) (.c (iv 1)))⟩,
    ⟨none, .val 5 (.mv (.t 16))⟩] false [.forget [15, 16]]
abbrev ref_SameInts_r8 : HCode := .reg [⟨none, .val 4 (.mv (.c (bv true)))⟩] false []
abbrev ref_SameInts : HCode := (.seq ref_SameInts_r0 (.seq (.seq ref_SameInts_r1 (.cond (.t 10) (.seq ref_SameInts_r2 .ret) .skip)) (.seq (.seq ref_SameInts_r3 (.block 0 (.loop (.seq (.seq ref_SameInts_r4 (.cond (.t 14) .skip (.exit 0))) (.seq (.block 1 (.seq ref_SameInts_r5 (.cond (.t 25) (.seq ref_SameInts_r6 .ret) .skip))) ref_SameInts_r7))))) (.seq ref_SameInts_r8 .ret))))
abbrev ref_SameInts_E : Env := { N := 26, Γ := [], L := 26, nfix := 0 }
abbrev ref_SameInts_R : List RSrc := [.tmp 4]
theorem mk_ref_SameInts {base : Nat} {av : List AV} {r : RV} (hfo : formOk ref_SameInts_E base av) (hW : AVs.fits av → hwp Tryd.prog ref_SameInts (finQ ref_SameInts_E base av ref_SameInts_R r) (F0 ref_SameInts_E base av)) (hov : ∀ x, r.res = .ov x → nOwn av = 0 := by intro x h; cases h <;> rfl) : Contract Tryd.prog fn_ref_SameInts av r :=
  contract_of_wp (fn := Tryd.f22) (c := Tryd.f22.body.getD .skip) (by kernel_rfl) (by kernel_rfl) (by kernel_rfl) (by kernel_rfl) (by kernel_rfl) (by kernel_rfl) (by kernel_rfl) hfo hW hov
end Go.Hx
