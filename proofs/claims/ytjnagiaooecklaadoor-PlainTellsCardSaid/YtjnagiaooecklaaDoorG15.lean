/-
  Walks of functions of the program over an abstract layer, and the laws that they use: each contract says what the function computes, for every input that its conditions let by. No other condition.
-/
import Derived.Test.YtjnagiaooecklaaDoorProg
import Derived.Test.YtjnagiaooecklaaDoorG8
import Derived.Test.YtjnagiaooecklaaDoorG12
import Derived.Test.YtjnagiaooecklaaDoorG13
import Derived.Test.YtjnagiaooecklaaDoorG14
set_option linter.all false
section
/-
  The abstract code of functions of the program, printed by gen.py; each stands for the given one. No condition.
-/
namespace Go.Hx
open Go.Proofs
variable [Glob]
abbrev fn_path_Check : Nat := 81
abbrev fn_path_look_list : Nat := 120
abbrev fn_path_look_note : Nat := 152
abbrev fn_path_look_step : Nat := 153
abbrev fn_path_of : Nat := 177
abbrev fn_path_order : Nat := 121
abbrev fn_ref_CheckList : Nat := 33
abbrev fn_ref_badForm : Nat := 88
abbrev fn_ref_badKind : Nat := 87
abbrev fn_ref_badNth : Nat := 89
abbrev fn_ref_has : Nat := 130
abbrev fn_ref_tooMany : Nat := 86
abbrev path_of_r0 : HCode := .reg [⟨none, .alloc 2 0 31 [.v (.bool false), .v (.bool false), .v (.bool false), .v (.bool false)]⟩,
    ⟨none, .val 3 (.mv (.c (bv false)))⟩] false []
abbrev path_of_r1 : HCode := .reg [⟨none, .val 4 (.mv (.t 0))⟩] false []
abbrev path_of_r2 : HCode := .reg [⟨none, .val 6 (.ints .eql (.t 4) (.c (iv 1)))⟩,
    ⟨none, .val 5 (.mv (.t 6))⟩] false [.forget [6]]
abbrev path_of_r3 : HCode := .reg [⟨none, .val 7 (.ints .eql (.t 4) (.c (iv 2)))⟩,
    ⟨none, .val 5 (.mv (.t 7))⟩] false [.forget [7]]
abbrev path_of_r4 : HCode := .reg [⟨none, .val 8 (.ints .eql (.t 4) (.c (iv 3)))⟩,
    ⟨none, .val 5 (.mv (.t 8))⟩] false [.forget [8]]
abbrev path_of_r5 : HCode := .reg [⟨none, .val 9 (.bld [.v (.bool false), .v (.bool false), .v (.bool false), .v (.bool false)] [(0, 1, .c (bv true))])⟩,
    ⟨none, .sto (.t 2) 0 31 0 4 (.t 9)⟩,
    ⟨none, .val 3 (.mv (.c (bv true)))⟩] false [.forget [9]]
abbrev path_of_r6 : HCode := .reg [⟨none, .val 11 (.ints .eql (.t 4) (.c (iv 4)))⟩,
    ⟨none, .val 10 (.mv (.t 11))⟩] false [.forget [11]]
abbrev path_of_r7 : HCode := .reg [⟨none, .val 12 (.ints .eql (.t 4) (.c (iv 5)))⟩,
    ⟨none, .val 10 (.mv (.t 12))⟩] false [.forget [12]]
abbrev path_of_r8 : HCode := .reg [⟨none, .val 13 (.ints .eql (.t 4) (.c (iv 6)))⟩,
    ⟨none, .val 10 (.mv (.t 13))⟩] false [.forget [13]]
abbrev path_of_r9 : HCode := .reg [⟨none, .val 14 (.ints .eql (.t 4) (.c (iv 7)))⟩,
    ⟨none, .val 10 (.mv (.t 14))⟩] false [.forget [14]]
abbrev path_of_r10 : HCode := .reg [⟨none, .val 15 (.ints .eql (.t 4) (.c (iv 8)))⟩,
    ⟨none, .val 10 (.mv (.t 15))⟩] false [.forget [15]]
abbrev path_of_r11 : HCode := .reg [⟨none, .val 16 (.bld [.v (.bool false), .v (.bool false), .v (.bool false), .v (.bool false)] [(0, 1, .c (bv true)), (1, 1, .c (bv true))])⟩,
    ⟨none, .sto (.t 2) 0 31 0 4 (.t 16)⟩,
    ⟨none, .val 3 (.mv (.c (bv true)))⟩] false [.forget [16]]
abbrev path_of_r12 : HCode := .reg [⟨none, .val 18 (.ints .eql (.t 4) (.c (iv 9)))⟩,
    ⟨none, .val 17 (.mv (.t 18))⟩] false [.forget [18]]
abbrev path_of_r13 : HCode := .reg [⟨none, .val 19 (.ints .eql (.t 4) (.c (iv 10)))⟩,
    ⟨none, .val 17 (.mv (.t 19))⟩] false [.forget [19]]
abbrev path_of_r14 : HCode := .reg [⟨none, .val 20 (.bld [.v (.bool false), .v (.bool false), .v (.bool false), .v (.bool false)] [(2, 1, .c (bv true))])⟩,
    ⟨none, .sto (.t 2) 0 31 0 4 (.t 20)⟩,
    ⟨none, .val 3 (.mv (.c (bv true)))⟩] false [.forget [20]]
abbrev path_of_r15 : HCode := .reg [⟨none, .val 22 (.ints .eql (.t 4) (.c (iv 11)))⟩,
    ⟨none, .val 21 (.mv (.t 22))⟩] false [.forget [22]]
abbrev path_of_r16 : HCode := .reg [⟨none, .val 23 (.ints .eql (.t 4) (.c (iv 12)))⟩,
    ⟨none, .val 21 (.mv (.t 23))⟩] false [.forget [23]]
abbrev path_of_r17 : HCode := .reg [⟨none, .val 24 (.bld [.v (.bool false), .v (.bool false), .v (.bool false), .v (.bool false)] [])⟩,
    ⟨none, .sto (.t 2) 0 31 0 4 (.t 24)⟩,
    ⟨none, .val 3 (.mv (.c (bv true)))⟩] false [.forget [24]]
abbrev path_of_r18 : HCode := .reg [⟨none, .val 26 (.ints .eql (.t 4) (.c (iv 13)))⟩,
    ⟨none, .val 25 (.mv (.t 26))⟩] false [.forget [26]]
abbrev path_of_r19 : HCode := .reg [⟨none, .val 27 (.ints .eql (.t 4) (.c (iv 14)))⟩,
    ⟨none, .val 25 (.mv (.t 27))⟩] false [.forget [27]]
abbrev path_of_r20 : HCode := .reg [⟨none, .val 28 (.ints .eql (.t 4) (.c (iv 15)))⟩,
    ⟨none, .val 25 (.mv (.t 28))⟩] false [.forget [28]]
abbrev path_of_r21 : HCode := .reg [⟨none, .val 29 (.bld [.v (.bool false), .v (.bool false), .v (.bool false), .v (.bool false)] [(3, 1, .c (bv true))])⟩,
    ⟨none, .sto (.t 2) 0 31 0 4 (.t 29)⟩,
    ⟨none, .val 3 (.mv (.c (bv true)))⟩] false [.forget [29]]
abbrev path_of_r22 : HCode := .reg [⟨none, .val 30 (.bld [.v (.bool false), .v (.bool false), .v (.bool false), .v (.bool false)] [])⟩,
    ⟨none, .sto (.t 2) 0 31 0 4 (.t 30)⟩,
    ⟨none, .val 3 (.mv (.c (bv false)))⟩] false [.forget [30]]
abbrev path_of : HCode := (.seq path_of_r0 (.seq (.seq path_of_r1 (.block 0 (.seq (.seq path_of_r2 (.cond (.t 5) .skip (.seq path_of_r3 (.cond (.t 5) .skip path_of_r4)))) (.cond (.t 5) (.seq path_of_r5 .ret) (.seq (.seq path_of_r6 (.cond (.t 10) .skip (.seq path_of_r7 (.cond (.t 10) .skip (.seq path_of_r8 (.cond (.t 10) .skip (.seq path_of_r9 (.cond (.t 10) .skip path_of_r10)))))))) (.cond (.t 10) (.seq path_of_r11 .ret) (.seq (.seq path_of_r12 (.cond (.t 17) .skip path_of_r13)) (.cond (.t 17) (.seq path_of_r14 .ret) (.seq (.seq path_of_r15 (.cond (.t 21) .skip path_of_r16)) (.cond (.t 21) (.seq path_of_r17 .ret) (.seq (.seq path_of_r18 (.cond (.t 25) .skip (.seq path_of_r19 (.cond (.t 25) .skip path_of_r20)))) (.cond (.t 25) (.seq path_of_r21 .ret) .skip)))))))))))) (.seq path_of_r22 .ret)))
abbrev path_of_E : Env := { N := 31, Γ := [(31, 4)], L := 35, nfix := 0 }
abbrev path_of_R : List RSrc := [.cellB 2 0 31 0 4 true, .tmp 3]
theorem mk_path_of {base : Nat} {av : List AV} {r : RV} (hfo : formOk path_of_E base av) (hW : AVs.fits av → hwp Tryd.prog path_of (finQ path_of_E base av path_of_R r) (F0 path_of_E base av)) (hov : ∀ x, r.res = .ov x → nOwn av = 0 := by intro x h; cases h <;> rfl) : Contract Tryd.prog fn_path_of av r :=
  contract_of_wp (fn := Tryd.f177) (c := Tryd.f177.body.getD .skip) (by kernel_rfl) (by kernel_rfl) (by kernel_rfl) (by kernel_rfl) (by kernel_rfl) (by kernel_rfl) (by kernel_rfl) hfo hW hov
abbrev path_order_r0 : HCode := .reg [⟨none, .alloc 0 0 2 [.v (.int .i64 0), .v (.int .i64 0), .v (.int .i64 0), .v (.int .i64 0)]⟩] false []
abbrev path_order_r1 : HCode := .reg [⟨none, .val 1 (.bld [.v (.int .i64 0), .v (.int .i64 0), .v (.int .i64 0), .v (.int .i64 0)] [(0, 1, .c (iv 2)), (1, 1, .c (iv 4)), (2, 1, .c (iv 1)), (3, 1, .c (iv 3))])⟩,
    ⟨none, .sto (.t 0) 0 2 0 4 (.t 1)⟩] false [.forget [1]]
abbrev path_order : HCode := (.seq path_order_r0 (.seq path_order_r1 .ret))
abbrev path_order_E : Env := { N := 2, Γ := [(2, 4)], L := 6, nfix := 0 }
abbrev path_order_R : List RSrc := [.cellB 0 0 2 0 4 true]
theorem mk_path_order {base : Nat} {av : List AV} {r : RV} (hfo : formOk path_order_E base av) (hW : AVs.fits av → hwp Tryd.prog path_order (finQ path_order_E base av path_order_R r) (F0 path_order_E base av)) (hov : ∀ x, r.res = .ov x → nOwn av = 0 := by intro x h; cases h <;> rfl) : Contract Tryd.prog fn_path_order av r :=
  contract_of_wp (fn := Tryd.f121) (c := Tryd.f121.body.getD .skip) (by kernel_rfl) (by kernel_rfl) (by kernel_rfl) (by kernel_rfl) (by kernel_rfl) (by kernel_rfl) (by kernel_rfl) hfo hW hov
abbrev path_look_note_r0 : HCode := .reg [⟨none, .val 6 (.mv (.t 1))⟩] false []
abbrev path_look_note_r1 : HCode := .drg [⟨0, false, ⟨none, .val 7 (.mv (.t 0))⟩⟩,
    ⟨1, false, ⟨none, .val 8 (.mv (.t 2))⟩⟩,
    ⟨2, false, ⟨none, .val 9 (.nilck (.t 7))⟩⟩,
    ⟨3, false, ⟨none, .val 10 (.fldP (.t 9) 0)⟩⟩,
    ⟨4, false, ⟨none, .val 11 (.ixB 5 (.t 10) (.t 8))⟩⟩,
    ⟨5, false, ⟨none, .val 12 (.ldD (.t 11) 0 17 5)⟩⟩,
    ⟨6, false, ⟨none, .val 13 (.ints .add (.t 12) (.c (iv 1)))⟩⟩,
    ⟨7, false, ⟨none, .val 14 (.nilck (.t 7))⟩⟩,
    ⟨8, false, ⟨none, .val 15 (.fldP (.t 14) 0)⟩⟩,
    ⟨9, false, ⟨none, .val 16 (.ixB 5 (.t 15) (.t 8))⟩⟩,
    ⟨10, false, ⟨none, .std (.t 16) 0 17 5 (.t 13)⟩⟩] [.forget [7, 8, 9, 10, 11, 12, 13, 14, 15, 16]]
abbrev path_look_note : HCode := (.seq path_look_note_r0 (.cond (.t 6) path_look_note_r1 .skip))
abbrev path_look_note_E : Env := { N := 17, Γ := [(17, 5)], L := 22, nfix := 1 }
abbrev path_look_note_R : List RSrc := []
theorem mk_path_look_note {base : Nat} {av : List AV} {r : RV} (hfo : formOk path_look_note_E base av) (hW : AVs.fits av → hwp Tryd.prog path_look_note (finQ path_look_note_E base av path_look_note_R r) (F0 path_look_note_E base av)) (hov : ∀ x, r.res = .ov x → nOwn av = 0 := by intro x h; cases h <;> rfl) : Contract Tryd.prog fn_path_look_note av r :=
  contract_of_wp (fn := Tryd.f152) (c := Tryd.f152.body.getD .skip) (by kernel_rfl) (by kernel_rfl) (by kernel_rfl) (by kernel_rfl) (by kernel_rfl) (by kernel_rfl) (by kernel_rfl) hfo hW hov
abbrev path_look_list_r0 : HCode := .reg [⟨none, .val 12 (.mv (.t 2))⟩,
    ⟨none, .val 13 (.ints .gtr (.t 12) (.c (iv 3)))⟩,
    ⟨none, .val 14 (.mv (.t 13))⟩,
    ⟨some (14, false), .val 15 (.mv (.t 1))⟩,
    ⟨some (14, false), .val 16 (.len false (.t 15))⟩,
    ⟨some (14, false), .val 17 (.ints .lss (.t 16) (.c (iv 1)))⟩,
    ⟨none, .val 18 (.pick (.t 14) (.c (bv true)) (.t 17))⟩,
    ⟨none, .val 19 (.mv (.t 18))⟩,
    ⟨some (19, false), .val 20 (.mv (.t 1))⟩,
    ⟨some (19, false), .val 21 (.len false (.t 20))⟩,
    ⟨some (19, false), .val 22 (.ints .gtr (.t 21) (.c (iv 5)))⟩,
    ⟨none, .val 23 (.pick (.t 19) (.c (bv true)) (.t 22))⟩] false [.forget [12, 13, 14, 15, 16, 17, 18, 19, 20, 21, 22]]
abbrev path_look_list_r1 : HCode := .reg [⟨none, .val 24 (.mv (.t 0))⟩,
    ⟨none, .call (some 25) fn_path_look_note [(.t 24, .i 0 83 5), (.c (bv true), .v), (.c (iv 2), .v)]⟩] false [.forget [24, 25]]
abbrev path_look_list_r2 : HCode := .reg [⟨none, .val 26 (.mv (.t 1))⟩,
    ⟨none, .val 27 (.len false (.t 26))⟩,
    ⟨none, .val 28 (.mv (.c (iv 0)))⟩] false []
abbrev path_look_list_r3 : HCode := .reg [⟨none, .val 29 (.ints .lss (.t 28) (.t 27))⟩] false []
abbrev path_look_list_r4 : HCode := .reg [⟨none, .val 30 (.idxA 2 (.t 26) (.t 28))⟩,
    ⟨none, .val 31 (.ldR (.t 30) 2 true)⟩,
    ⟨none, .alloc 7 1 88 [.nl 2, .nl 1]⟩,
    ⟨none, .sto (.t 7) 1 88 0 2 (.t 31)⟩] false [.frz 1 88 2, .forget [30, 31]]
abbrev path_look_list_r5 : HCode := .reg [⟨none, .val 32 (.fldR (.t 7) 0 1)⟩,
    ⟨none, .val 33 (.ldR (.t 32) 1 false)⟩,
    ⟨none, .val 34 (.len false (.t 33))⟩,
    ⟨none, .val 35 (.ints .lss (.t 34) (.c (iv 1)))⟩,
    ⟨none, .val 36 (.mv (.t 35))⟩,
    ⟨some (36, false), .val 37 (.fldR (.t 7) 0 1)⟩,
    ⟨some (36, false), .val 38 (.ldR (.t 37) 1 false)⟩,
    ⟨some (36, false), .val 39 (.len false (.t 38))⟩,
    ⟨some (36, false), .val 40 (.ints .gtr (.t 39) (.c (iv 5)))⟩,
    ⟨none, .val 41 (.pick (.t 36) (.c (bv true)) (.t 40))⟩,
    ⟨none, .val 42 (.mv (.t 41))⟩,
    ⟨some (42, false), .val 43 (.fldR (.t 7) 1 1)⟩,
    ⟨some (42, false), .val 44 (.ldR (.t 43) 1 false)⟩,
    ⟨some (42, false), .val 45 (.len false (.t 44))⟩,
    ⟨some (42, false), .val 46 (.fldR (.t 7) 0 1)⟩,
    ⟨some (42, false), .val 47 (.ldR (.t 46) 1 false)⟩,
    ⟨some (42, false), .val 48 (.len false (.t 47))⟩,
    ⟨some (42, false), .val 49 (.ints .sub (.t 48) (.c (iv 1)))⟩,
    ⟨some (42, false), .val 50 (.ints .neq (.t 45) (.t 49))⟩,
    ⟨none, .val 51 (.pick (.t 42) (.c (bv true)) (.t 50))⟩] false [.forget [32, 33, 34, 35, 36, 37, 38, 39, 40, 41, 42, 43, 44, 45, 46, 47, 48, 49, 50]]
abbrev path_look_list_r6 : HCode := .reg [⟨none, .val 52 (.mv (.t 0))⟩,
    ⟨none, .call (some 53) fn_path_look_note [(.t 52, .i 0 83 5), (.c (bv true), .v), (.c (iv 2), .v)]⟩] false [.forget [52, 53]]
abbrev path_look_list_r7 : HCode := .reg [⟨none, .val 54 (.fldR (.t 7) 1 1)⟩,
    ⟨none, .val 55 (.ldR (.t 54) 1 false)⟩,
    ⟨none, .val 56 (.len false (.t 55))⟩,
    ⟨none, .val 57 (.mv (.c (iv 0)))⟩] false [.forget [54]]
abbrev path_look_list_r8 : HCode := .reg [⟨none, .val 58 (.ints .lss (.t 57) (.t 56))⟩] false []
abbrev path_look_list_r9 : HCode := .reg [⟨none, .val 59 (.idxA 1 (.t 55) (.t 57))⟩,
    ⟨none, .val 60 (.ldR (.t 59) 1 false)⟩,
    ⟨none, .val 9 (.mv (.t 60))⟩] false [.forget [59, 60]]
abbrev path_look_list_r10 : HCode := .reg [⟨none, .val 61 (.mv (.t 0))⟩,
    ⟨none, .val 62 (.mv (.t 9))⟩,
    ⟨none, .val 63 (.ints .lss (.t 62) (.c (iv 1)))⟩,
    ⟨none, .val 64 (.mv (.t 63))⟩,
    ⟨some (64, false), .val 65 (.mv (.t 9))⟩,
    ⟨some (64, false), .val 66 (.ints .gtr (.t 65) (.c (iv 4)))⟩,
    ⟨none, .val 67 (.pick (.t 64) (.c (bv true)) (.t 66))⟩,
    ⟨none, .call (some 68) fn_path_look_note [(.t 61, .i 0 83 5), (.t 67, .v), (.c (iv 4), .v)]⟩] false [.forget [61, 62, 63, 64, 65, 66, 67, 68]]
abbrev path_look_list_r11 : HCode := .reg [⟨none, .val 69 (.ints .add (.t 57) (.c (iv 1)))⟩,
    ⟨none, .val 57 (.mv (.t 69))⟩] false [.forget [69]]
abbrev path_look_list_r12 : HCode := .reg [⟨none, .val 70 (.fldR (.t 7) 0 1)⟩,
    ⟨none, .val 71 (.ldR (.t 70) 1 false)⟩,
    ⟨none, .val 72 (.len false (.t 71))⟩,
    ⟨none, .val 73 (.mv (.c (iv 0)))⟩] false [.forget [70]]
abbrev path_look_list_r13 : HCode := .reg [⟨none, .val 74 (.ints .lss (.t 73) (.t 72))⟩] false []
abbrev path_look_list_r14 : HCode := .reg [⟨none, .val 75 (.idxA 2 (.t 71) (.t 73))⟩,
    ⟨none, .val 76 (.ldR (.t 75) 2 true)⟩,
    ⟨none, .alloc 11 2 90 [.v (mkS []), .nl 6]⟩,
    ⟨none, .sto (.t 11) 2 90 0 2 (.t 76)⟩] false [.forget [75, 76]]
abbrev path_look_list_r15 : HCode := .reg [⟨none, .val 77 (.mv (.t 0))⟩,
    ⟨none, .val 78 (.ldB (.t 11) 2 90 0 2 true)⟩,
    ⟨none, .val 79 (.mv (.t 2))⟩,
    ⟨none, .call (some 80) fn_path_look_step [(.t 77, .i 0 83 5), (.t 78, .v), (.t 79, .v)]⟩] false [.forget [77, 78, 79, 80]]
abbrev path_look_list_r16 : HCode := .reg [⟨none, .val 81 (.ints .add (.t 73) (.c (iv 1)))⟩,
    ⟨none, .val 73 (.mv (.t 81))⟩] false [.forget [81]]
abbrev path_look_list_r17 : HCode := .reg [⟨none, .val 82 (.ints .add (.t 28) (.c (iv 1)))⟩,
    ⟨none, .val 28 (.mv (.t 82))⟩] false [.forget [82]]
abbrev path_look_list : HCode := (.seq (.seq path_look_list_r0 (.cond (.t 23) (.seq path_look_list_r1 .ret) .skip)) (.seq path_look_list_r2 (.block 0 (.loop (.seq path_look_list_r3 (.seq (.cond (.t 29) .skip (.exit 0)) (.seq (.block 1 (.seq path_look_list_r4 (.seq (.seq path_look_list_r5 (.cond (.t 51) (.seq path_look_list_r6 .ret) .skip)) (.seq (.seq path_look_list_r7 (.block 2 (.loop (.seq path_look_list_r8 (.seq (.cond (.t 58) .skip (.exit 2)) (.seq (.block 3 (.seq path_look_list_r9 path_look_list_r10)) path_look_list_r11)))))) (.seq path_look_list_r12 (.block 4 (.loop (.seq path_look_list_r13 (.seq (.cond (.t 74) .skip (.exit 4)) (.seq (.block 5 (.seq path_look_list_r14 path_look_list_r15)) path_look_list_r16)))))))))) path_look_list_r17)))))))
abbrev path_look_list_E : Env := { N := 83, Γ := [(83, 5), (88, 2), (90, 2)], L := 92, nfix := 1 }
abbrev path_look_list_R : List RSrc := []
theorem mk_path_look_list {base : Nat} {av : List AV} {r : RV} (hfo : formOk path_look_list_E base av) (hW : AVs.fits av → hwp Tryd.prog path_look_list (finQ path_look_list_E base av path_look_list_R r) (F0 path_look_list_E base av)) (hov : ∀ x, r.res = .ov x → nOwn av = 0 := by intro x h; cases h <;> rfl) : Contract Tryd.prog fn_path_look_list av r :=
  contract_of_wp (fn := Tryd.f120) (c := Tryd.f120.body.getD .skip) (by kernel_rfl) (by kernel_rfl) (by kernel_rfl) (by kernel_rfl) (by kernel_rfl) (by kernel_rfl) (by kernel_rfl) hfo hW hov
abbrev path_look_step_r0 : HCode := .reg [⟨none, .val 4 (.boxF (.t 1))⟩] false []
abbrev path_look_step_r1 : HCode := .reg [⟨none, .val 10 (.fldR (.t 4) 1 1)⟩,
    ⟨none, .val 11 (.ldR (.t 10) 1 false)⟩,
    ⟨none, .val 12 (.len false (.t 11))⟩,
    ⟨none, .val 13 (.ints .gtr (.t 12) (.c (iv 6)))⟩] false [.forget [10, 11, 12]]
abbrev path_look_step_r2 : HCode := .reg [⟨none, .val 14 (.mv (.t 0))⟩,
    ⟨none, .call (some 15) fn_path_look_note [(.t 14, .i 0 121 5), (.c (bv true), .v), (.c (iv 2), .v)]⟩] false [.forget [14, 15]]
abbrev path_look_step_r3 : HCode := .reg [⟨none, .val 16 (.mv (.t 0))⟩,
    ⟨none, .val 17 (.fldR (.t 4) 0 1)⟩,
    ⟨none, .val 18 (.ldR (.t 17) 1 false)⟩,
    ⟨none, .val 19 (.strs .neq (.t 18) (.c (sv [])))⟩,
    ⟨none, .val 20 (.mv (.t 19))⟩,
    ⟨some (20, true), .val 21 (.fldR (.t 4) 0 1)⟩,
    ⟨some (20, true), .val 22 (.ldR (.t 21) 1 false)⟩,
    ⟨some (20, true), .call (some 23) fn_doc_Name [(.t 22, .v)]⟩,
    ⟨some (20, true), .val 24 (.not (.t 23))⟩,
    ⟨none, .val 25 (.pick (.t 20) (.t 24) (.c (bv false)))⟩,
    ⟨none, .call (some 26) fn_path_look_note [(.t 16, .i 0 121 5), (.t 25, .v), (.c (iv 1), .v)]⟩] false [.forget [16, 17, 18, 19, 20, 21, 22, 23, 24, 25, 26]]
abbrev path_look_step_r4 : HCode := .reg [⟨none, .val 27 (.fldR (.t 4) 1 1)⟩,
    ⟨none, .val 28 (.ldR (.t 27) 1 false)⟩,
    ⟨none, .val 29 (.len false (.t 28))⟩,
    ⟨none, .val 30 (.mv (.c (iv 0)))⟩] false [.forget [27]]
abbrev path_look_step_r5 : HCode := .reg [⟨none, .val 31 (.ints .lss (.t 30) (.t 29))⟩] false []
abbrev path_look_step_r6 : HCode := .reg [⟨none, .val 32 (.idxA 6 (.t 28) (.t 30))⟩,
    ⟨none, .val 33 (.ldR (.t 32) 6 true)⟩,
    ⟨none, .alloc 7 1 126 [.v (.int .i64 0), .v (mkS []), .v (mkS []), .v (.int .i64 0), .v (.int .i64 0), .nl 2]⟩,
    ⟨none, .sto (.t 7) 1 126 0 6 (.t 33)⟩] false [.frz 1 126 6, .forget [32, 33]]
abbrev path_look_step_r7 : HCode := .reg [⟨none, .val 35 (.fldR (.t 7) 0 1)⟩,
    ⟨none, .val 36 (.ldR (.t 35) 1 false)⟩,
    ⟨none, .call (some 37) fn_path_of [(.t 36, .v)]⟩,
    ⟨none, .val 34 (.mv (.t 37))⟩,
    ⟨none, .val 38 (.ext 34 0)⟩,
    ⟨none, .val 39 (.ext 34 1)⟩,
    ⟨none, .alloc 8 2 132 [.v (.bool false), .v (.bool false), .v (.bool false), .v (.bool false)]⟩,
    ⟨none, .sto (.t 8) 2 132 0 4 (.t 38)⟩,
    ⟨none, .val 9 (.mv (.t 39))⟩] false [.frz 2 132 4, .forget [34, 35, 36, 37, 38, 39]]
abbrev path_look_step_r8 : HCode := .reg [⟨none, .val 40 (.mv (.t 0))⟩,
    ⟨none, .val 41 (.mv (.t 9))⟩,
    ⟨none, .val 42 (.not (.t 41))⟩,
    ⟨none, .call (some 43) fn_path_look_note [(.t 40, .i 0 121 5), (.t 42, .v), (.c (iv 4), .v)]⟩] false [.forget [40, 41, 42, 43]]
abbrev path_look_step_r9 : HCode := .reg [⟨none, .val 44 (.mv (.t 0))⟩,
    ⟨none, .val 45 (.fldR (.t 8) 0 1)⟩,
    ⟨none, .val 46 (.ldR (.t 45) 1 false)⟩,
    ⟨none, .val 47 (.mv (.t 46))⟩,
    ⟨some (47, true), .val 48 (.fldR (.t 7) 1 1)⟩,
    ⟨some (47, true), .val 49 (.ldR (.t 48) 1 false)⟩,
    ⟨some (47, true), .call (some 50) fn_doc_Name [(.t 49, .v)]⟩,
    ⟨some (47, true), .val 51 (.not (.t 50))⟩,
    ⟨none, .val 52 (.pick (.t 47) (.t 51) (.c (bv false)))⟩,
    ⟨none, .val 53 (.mv (.t 52))⟩,
    ⟨some (53, false), .val 54 (.fldR (.t 8) 0 1)⟩,
    ⟨some (53, false), .val 55 (.ldR (.t 54) 1 false)⟩,
    ⟨some (53, false), .val 56 (.not (.t 55))⟩,
    ⟨some (53, false), .val 57 (.mv (.t 56))⟩,
    ⟨some (57, true), .val 58 (.fldR (.t 7) 1 1)⟩,
    ⟨some (57, true), .val 59 (.ldR (.t 58) 1 false)⟩,
    ⟨some (57, true), .val 60 (.strs .neq (.t 59) (.c (sv [])))⟩,
    ⟨some (53, false), .val 61 (.pick (.t 57) (.t 60) (.c (bv false)))⟩,
    ⟨none, .val 62 (.pick (.t 53) (.c (bv true)) (.t 61))⟩,
    ⟨none, .call (some 63) fn_path_look_note [(.t 44, .i 0 121 5), (.t 62, .v), (.c (iv 1), .v)]⟩] false [.forget [44, 45, 46, 47, 48, 49, 50, 51, 52, 53, 54, 55, 56, 57, 58, 59, 60, 61, 62, 63]]
abbrev path_look_step_r10 : HCode := .reg [⟨none, .val 64 (.mv (.t 0))⟩,
    ⟨none, .val 65 (.fldR (.t 8) 1 1)⟩,
    ⟨none, .val 66 (.ldR (.t 65) 1 false)⟩,
    ⟨none, .val 67 (.mv (.t 66))⟩,
    ⟨some (67, true), .val 68 (.fldR (.t 7) 2 1)⟩,
    ⟨some (67, true), .val 69 (.ldR (.t 68) 1 false)⟩,
    ⟨some (67, true), .call (some 70) fn_doc_Value [(.t 69, .v)]⟩,
    ⟨some (67, true), .val 71 (.not (.t 70))⟩,
    ⟨none, .val 72 (.pick (.t 67) (.t 71) (.c (bv false)))⟩,
    ⟨none, .val 73 (.mv (.t 72))⟩,
    ⟨some (73, false), .val 74 (.fldR (.t 8) 1 1)⟩,
    ⟨some (73, false), .val 75 (.ldR (.t 74) 1 false)⟩,
    ⟨some (73, false), .val 76 (.not (.t 75))⟩,
    ⟨some (73, false), .val 77 (.mv (.t 76))⟩,
    ⟨some (77, true), .val 78 (.fldR (.t 7) 2 1)⟩,
    ⟨some (77, true), .val 79 (.ldR (.t 78) 1 false)⟩,
    ⟨some (77, true), .val 80 (.strs .neq (.t 79) (.c (sv [])))⟩,
    ⟨some (73, false), .val 81 (.pick (.t 77) (.t 80) (.c (bv false)))⟩,
    ⟨none, .val 82 (.pick (.t 73) (.c (bv true)) (.t 81))⟩,
    ⟨none, .call (some 83) fn_path_look_note [(.t 64, .i 0 121 5), (.t 82, .v), (.c (iv 1), .v)]⟩] false [.forget [64, 65, 66, 67, 68, 69, 70, 71, 72, 73, 74, 75, 76, 77, 78, 79, 80, 81, 82, 83]]
abbrev path_look_step_r11 : HCode := .reg [⟨none, .val 84 (.mv (.t 0))⟩,
    ⟨none, .val 85 (.fldR (.t 8) 2 1)⟩,
    ⟨none, .val 86 (.ldR (.t 85) 1 false)⟩,
    ⟨none, .val 87 (.not (.t 86))⟩,
    ⟨none, .val 88 (.mv (.t 87))⟩,
    ⟨some (88, true), .val 89 (.fldR (.t 7) 3 2)⟩,
    ⟨some (88, true), .val 90 (.ldR (.t 89) 2 true)⟩,
    ⟨some (88, true), .val 91 (.bld [.v (.int .i64 0), .v (.int .i64 0)] [])⟩,
    ⟨some (88, true), .val 92 (.steq true [0, 0] (.t 90) (.t 91))⟩,
    ⟨none, .val 93 (.pick (.t 88) (.t 92) (.c (bv false)))⟩,
    ⟨none, .val 94 (.mv (.t 93))⟩,
    ⟨some (94, false), .val 95 (.fldR (.t 8) 3 1)⟩,
    ⟨some (94, false), .val 96 (.ldR (.t 95) 1 false)⟩,
    ⟨some (94, false), .val 97 (.not (.t 96))⟩,
    ⟨some (94, false), .val 98 (.mv (.t 97))⟩,
    ⟨some (98, true), .val 99 (.fldR (.t 7) 5 1)⟩,
    ⟨some (98, true), .val 100 (.ldR (.t 99) 1 false)⟩,
    ⟨some (98, true), .val 101 (.len false (.t 100))⟩,
    ⟨some (98, true), .val 102 (.ints .gtr (.t 101) (.c (iv 0)))⟩,
    ⟨some (94, false), .val 103 (.pick (.t 98) (.t 102) (.c (bv false)))⟩,
    ⟨none, .val 104 (.pick (.t 94) (.c (bv true)) (.t 103))⟩,
    ⟨none, .call (some 105) fn_path_look_note [(.t 84, .i 0 121 5), (.t 104, .v), (.c (iv 1), .v)]⟩] false [.forget [84, 85, 86, 87, 88, 89, 90, 91, 92, 93, 94, 95, 96, 97, 98, 99, 100, 101, 102, 103, 104, 105]]
abbrev path_look_step_r12 : HCode := .reg [⟨none, .val 106 (.mv (.t 0))⟩,
    ⟨none, .val 107 (.fldR (.t 7) 3 2)⟩,
    ⟨none, .val 108 (.ldR (.t 107) 2 true)⟩,
    ⟨none, .call (some 109) fn_nth_Check [(.t 108, .v)]⟩,
    ⟨none, .val 110 (.ints .neq (.t 109) (.c (iv 0)))⟩,
    ⟨none, .call (some 111) fn_path_look_note [(.t 106, .i 0 121 5), (.t 110, .v), (.c (iv 3), .v)]⟩] false [.forget [106, 107, 108, 109, 110, 111]]
abbrev path_look_step_r13 : HCode := .reg [⟨none, .val 112 (.fldR (.t 8) 3 1)⟩,
    ⟨none, .val 113 (.ldR (.t 112) 1 false)⟩] false [.forget [112]]
abbrev path_look_step_r14 : HCode := .reg [⟨none, .val 114 (.mv (.t 0))⟩,
    ⟨none, .val 115 (.fldR (.t 7) 5 1)⟩,
    ⟨none, .val 116 (.ldR (.t 115) 1 false)⟩,
    ⟨none, .val 117 (.mv (.t 2))⟩,
    ⟨none, .val 118 (.ints .add (.t 117) (.c (iv 1)))⟩,
    ⟨none, .call (some 119) fn_path_look_list [(.t 114, .i 0 121 5), (.t 116, .v), (.t 118, .v)]⟩] false [.forget [114, 115, 116, 117, 118, 119]]
abbrev path_look_step_r15 : HCode := .reg [⟨none, .val 120 (.ints .add (.t 30) (.c (iv 1)))⟩,
    ⟨none, .val 30 (.mv (.t 120))⟩] false [.forget [120]]
abbrev path_look_step : HCode := (.seq path_look_step_r0 (.seq (.seq path_look_step_r1 (.cond (.t 13) (.seq path_look_step_r2 .ret) .skip)) (.seq path_look_step_r3 (.seq path_look_step_r4 (.block 0 (.loop (.seq path_look_step_r5 (.seq (.cond (.t 31) .skip (.exit 0)) (.seq (.block 1 (.seq path_look_step_r6 (.seq path_look_step_r7 (.seq path_look_step_r8 (.seq path_look_step_r9 (.seq path_look_step_r10 (.seq path_look_step_r11 (.seq path_look_step_r12 (.seq path_look_step_r13 (.cond (.t 113) path_look_step_r14 .skip)))))))))) path_look_step_r15)))))))))
abbrev path_look_step_E : Env := { N := 121, Γ := [(121, 5), (126, 6), (132, 4)], L := 136, nfix := 1 }
abbrev path_look_step_R : List RSrc := []
theorem mk_path_look_step {base : Nat} {av : List AV} {r : RV} (hfo : formOk path_look_step_E base av) (hW : AVs.fits av → hwp Tryd.prog path_look_step (finQ path_look_step_E base av path_look_step_R r) (F0 path_look_step_E base av)) (hov : ∀ x, r.res = .ov x → nOwn av = 0 := by intro x h; cases h <;> rfl) : Contract Tryd.prog fn_path_look_step av r :=
  contract_of_wp (fn := Tryd.f153) (c := Tryd.f153.body.getD .skip) (by kernel_rfl) (by kernel_rfl) (by kernel_rfl) (by kernel_rfl) (by kernel_rfl) (by kernel_rfl) (by kernel_rfl) hfo hW hov
abbrev path_Check_r0 : HCode := .reg [⟨none, .val 2 (.mv (.c (iv 0)))⟩] false []
abbrev path_Check_r1 : HCode := .reg [⟨none, .val 6 (.bld [.v (.int .i64 0), .v (.int .i64 0), .v (.int .i64 0), .v (.int .i64 0), .v (.int .i64 0)] [])⟩,
    ⟨none, .box 7 0 24 5 (.t 6)⟩,
    ⟨none, .val 3 (.mv (.t 7))⟩] false [.forget [6, 7]]
abbrev path_Check_r2 : HCode := .reg [⟨none, .val 8 (.mv (.t 3))⟩,
    ⟨none, .val 9 (.mv (.t 0))⟩,
    ⟨none, .call (some 10) fn_path_look_list [(.t 8, .i 0 24 5), (.t 9, .v), (.c (iv 1), .v)]⟩] false [.forget [8, 9, 10]]
abbrev path_Check_r3 : HCode := .reg [⟨none, .call (some 11) fn_path_order []⟩,
    ⟨none, .val 12 (.mv (.c (iv 0)))⟩] false []
abbrev path_Check_r4 : HCode := .reg [⟨none, .val 13 (.ints .lss (.t 12) (.c (iv 4)))⟩] false []
abbrev path_Check_r5 : HCode := .reg [⟨none, .val 14 (.idxV 4 (.t 11) (.t 12))⟩,
    ⟨none, .val 5 (.mv (.t 14))⟩] false [.forget [14]]
abbrev path_Check_r6 : HCode := .reg [⟨none, .val 15 (.mv (.t 3))⟩,
    ⟨none, .val 16 (.mv (.t 5))⟩,
    ⟨none, .val 17 (.nilck (.t 15))⟩,
    ⟨none, .val 18 (.fldP (.t 17) 0)⟩,
    ⟨none, .val 19 (.ixB 5 (.t 18) (.t 16))⟩,
    ⟨none, .val 20 (.ldD (.t 19) 0 24 5)⟩,
    ⟨none, .val 21 (.ints .gtr (.t 20) (.c (iv 0)))⟩] false [.forget [15, 16, 17, 18, 19, 20]]
abbrev path_Check_r7 : HCode := .reg [⟨none, .val 22 (.mv (.t 5))⟩,
    ⟨none, .val 2 (.mv (.t 22))⟩] false [.forget [22]]
abbrev path_Check_r8 : HCode := .reg [⟨none, .val 23 (.ints .add (.t 12) (.c (iv 1)))⟩,
    ⟨none, .val 12 (.mv (.t 23))⟩] false [.forget [23]]
abbrev path_Check_r9 : HCode := .reg [⟨none, .val 2 (.mv (.c (iv 0)))⟩] false []
abbrev path_Check : HCode := (.seq path_Check_r0 (.seq path_Check_r1 (.seq path_Check_r2 (.seq (.seq path_Check_r3 (.block 0 (.loop (.seq path_Check_r4 (.seq (.cond (.t 13) .skip (.exit 0)) (.seq (.block 1 (.seq path_Check_r5 (.seq path_Check_r6 (.cond (.t 21) (.seq path_Check_r7 .ret) .skip)))) path_Check_r8)))))) (.seq path_Check_r9 .ret)))))
abbrev path_Check_E : Env := { N := 24, Γ := [(24, 5)], L := 29, nfix := 0 }
abbrev path_Check_R : List RSrc := [.tmp 2]
theorem mk_path_Check {base : Nat} {av : List AV} {r : RV} (hfo : formOk path_Check_E base av) (hW : AVs.fits av → hwp Tryd.prog path_Check (finQ path_Check_E base av path_Check_R r) (F0 path_Check_E base av)) (hov : ∀ x, r.res = .ov x → nOwn av = 0 := by intro x h; cases h <;> rfl) : Contract Tryd.prog fn_path_Check av r :=
  contract_of_wp (fn := Tryd.f81) (c := Tryd.f81.body.getD .skip) (by kernel_rfl) (by kernel_rfl) (by kernel_rfl) (by kernel_rfl) (by kernel_rfl) (by kernel_rfl) (by kernel_rfl) hfo hW hov
abbrev ref_has_r0 : HCode := .reg [⟨none, .val 2 (.mv (.c (bv false)))⟩,
    ⟨none, .val 3 (.mv (.c (bv false)))⟩,
    ⟨none, .val 4 (.mv (.c (bv false)))⟩,
    ⟨none, .val 5 (.mv (.c (bv false)))⟩] false []
abbrev ref_has_r1 : HCode := .reg [⟨none, .val 6 (.mv (.t 0))⟩,
    ⟨none, .call (some 7) fn_ref_within [(.t 6, .v), (.c (iv 1), .v), (.c (iv 8), .v)]⟩,
    ⟨none, .val 8 (.mv (.t 0))⟩,
    ⟨none, .call (some 9) fn_ref_within [(.t 8, .v), (.c (iv 4), .v), (.c (iv 8), .v)]⟩,
    ⟨none, .val 10 (.mv (.t 0))⟩,
    ⟨none, .val 11 (.ints .eql (.t 10) (.c (iv 9)))⟩,
    ⟨none, .val 12 (.mv (.t 11))⟩,
    ⟨some (12, false), .val 13 (.mv (.t 0))⟩,
    ⟨some (12, false), .val 14 (.ints .eql (.t 13) (.c (iv 10)))⟩,
    ⟨none, .val 15 (.pick (.t 12) (.c (bv true)) (.t 14))⟩,
    ⟨none, .val 16 (.mv (.t 0))⟩,
    ⟨none, .call (some 17) fn_ref_within [(.t 16, .v), (.c (iv 13), .v), (.c (iv 15), .v)]⟩,
    ⟨none, .val 2 (.mv (.t 7))⟩,
    ⟨none, .val 3 (.mv (.t 9))⟩,
    ⟨none, .val 4 (.mv (.t 15))⟩,
    ⟨none, .val 5 (.mv (.t 17))⟩] false [.forget [6, 7, 8, 9, 10, 11, 12, 13, 14, 15, 16, 17]]
abbrev ref_has : HCode := (.seq ref_has_r0 (.seq ref_has_r1 .ret))
abbrev ref_has_E : Env := { N := 18, Γ := [], L := 18, nfix := 0 }
abbrev ref_has_R : List RSrc := [.tmp 2, .tmp 3, .tmp 4, .tmp 5]
theorem mk_ref_has {base : Nat} {av : List AV} {r : RV} (hfo : formOk ref_has_E base av) (hW : AVs.fits av → hwp Tryd.prog ref_has (finQ ref_has_E base av ref_has_R r) (F0 ref_has_E base av)) (hov : ∀ x, r.res = .ov x → nOwn av = 0 := by intro x h; cases h <;> rfl) : Contract Tryd.prog fn_ref_has av r :=
  contract_of_wp (fn := Tryd.f130) (c := Tryd.f130.body.getD .skip) (by kernel_rfl) (by kernel_rfl) (by kernel_rfl) (by kernel_rfl) (by kernel_rfl) (by kernel_rfl) (by kernel_rfl) hfo hW hov
abbrev ref_tooMany_r0 : HCode := .reg [⟨none, .val 4 (.mv (.c (bv false)))⟩] false []
abbrev ref_tooMany_r1 : HCode := .reg [⟨none, .val 14 (.mv (.t 1))⟩,
    ⟨none, .val 15 (.ints .gtr (.t 14) (.c (iv 3)))⟩,
    ⟨none, .val 16 (.mv (.t 15))⟩,
    ⟨some (16, false), .val 17 (.mv (.t 0))⟩,
    ⟨some (16, false), .val 18 (.len false (.t 17))⟩,
    ⟨some (16, false), .call (some 19) fn_ref_within [(.t 18, .v), (.c (iv 1), .v), (.c (iv 5), .v)]⟩,
    ⟨some (16, false), .val 20 (.not (.t 19))⟩,
    ⟨none, .val 21 (.pick (.t 16) (.c (bv true)) (.t 20))⟩] false [.forget [14, 15, 16, 17, 18, 19, 20]]
abbrev ref_tooMany_r2 : HCode := .reg [⟨none, .val 4 (.mv (.c (bv true)))⟩] false []
abbrev ref_tooMany_r3 : HCode := .reg [⟨none, .val 5 (.mv (.c (iv 0)))⟩] false []
abbrev ref_tooMany_r4 : HCode := .reg [⟨none, .val 22 (.mv (.t 5))⟩,
    ⟨none, .val 23 (.mv (.t 0))⟩,
    ⟨none, .val 24 (.len false (.t 23))⟩,
    ⟨none, .val 25 (.ints .lss (.t 22) (.t 24))⟩] false [.forget [22, 23, 24]]
abbrev ref_tooMany_r5 : HCode := .reg [⟨none, .val 28 (.mv (.t 0))⟩,
    ⟨none, .val 29 (.mv (.t 5))⟩,
    ⟨none, .val 30 (.idxA 2 (.t 28) (.t 29))⟩,
    ⟨none, .val 31 (.ldR (.t 30) 2 true)⟩,
    ⟨none, .alloc 6 0 98 [.nl 2, .nl 1]⟩,
    ⟨none, .sto (.t 6) 0 98 0 2 (.t 31)⟩] false [.frz 0 98 2, .forget [28, 29, 30, 31]]
abbrev ref_tooMany_r6 : HCode := .reg [⟨none, .val 32 (.fldR (.t 6) 0 1)⟩,
    ⟨none, .val 33 (.ldR (.t 32) 1 false)⟩,
    ⟨none, .val 34 (.len false (.t 33))⟩,
    ⟨none, .call (some 35) fn_ref_within [(.t 34, .v), (.c (iv 1), .v), (.c (iv 5), .v)]⟩,
    ⟨none, .val 36 (.not (.t 35))⟩,
    ⟨none, .val 37 (.mv (.t 36))⟩,
    ⟨some (37, false), .val 38 (.fldR (.t 6) 1 1)⟩,
    ⟨some (37, false), .val 39 (.ldR (.t 38) 1 false)⟩,
    ⟨some (37, false), .val 40 (.len false (.t 39))⟩,
    ⟨some (37, false), .val 41 (.fldR (.t 6) 0 1)⟩,
    ⟨some (37, false), .val 42 (.ldR (.t 41) 1 false)⟩,
    ⟨some (37, false), .val 43 (.len false (.t 42))⟩,
    ⟨some (37, false), .val 44 (.ints .sub (.t 43) (.c (iv 1)))⟩,
    ⟨some (37, false), .val 45 (.ints .neq (.t 40) (.t 44))⟩,
    ⟨none, .val 46 (.pick (.t 37) (.c (bv true)) (.t 45))⟩] false [.forget [32, 33, 34, 35, 36, 37, 38, 39, 40, 41, 42, 43, 44, 45]]
abbrev ref_tooMany_r7 : HCode := .reg [⟨none, .val 4 (.mv (.c (bv true)))⟩] false []
abbrev ref_tooMany_r8 : HCode := .reg [⟨none, .val 7 (.mv (.c (iv 0)))⟩] false []
abbrev ref_tooMany_r9 : HCode := .reg [⟨none, .val 47 (.mv (.t 7))⟩,
    ⟨none, .val 48 (.fldR (.t 6) 0 1)⟩,
    ⟨none, .val 49 (.ldR (.t 48) 1 false)⟩,
    ⟨none, .val 50 (.len false (.t 49))⟩,
    ⟨none, .val 51 (.ints .lss (.t 47) (.t 50))⟩] false [.forget [47, 48, 49, 50]]
abbrev ref_tooMany_r10 : HCode := .reg [⟨none, .val 54 (.fldR (.t 6) 0 1)⟩,
    ⟨none, .val 55 (.ldR (.t 54) 1 false)⟩,
    ⟨none, .val 56 (.mv (.t 7))⟩,
    ⟨none, .val 57 (.idxA 2 (.t 55) (.t 56))⟩,
    ⟨none, .val 58 (.fldR (.t 57) 1 1)⟩,
    ⟨none, .val 59 (.ldR (.t 58) 1 false)⟩,
    ⟨none, .val 60 (.len false (.t 59))⟩,
    ⟨none, .val 61 (.ints .gtr (.t 60) (.c (iv 6)))⟩] false [.forget [54, 55, 56, 57, 58, 59, 60]]
abbrev ref_tooMany_r11 : HCode := .reg [⟨none, .val 4 (.mv (.c (bv true)))⟩] false []
abbrev ref_tooMany_r12 : HCode := .reg [⟨none, .val 8 (.mv (.c (iv 0)))⟩] false []
abbrev ref_tooMany_r13 : HCode := .reg [⟨none, .val 62 (.mv (.t 8))⟩,
    ⟨none, .val 63 (.fldR (.t 6) 0 1)⟩,
    ⟨none, .val 64 (.ldR (.t 63) 1 false)⟩,
    ⟨none, .val 65 (.mv (.t 7))⟩,
    ⟨none, .val 66 (.idxA 2 (.t 64) (.t 65))⟩,
    ⟨none, .val 67 (.fldR (.t 66) 1 1)⟩,
    ⟨none, .val 68 (.ldR (.t 67) 1 false)⟩,
    ⟨none, .val 69 (.len false (.t 68))⟩,
    ⟨none, .val 70 (.ints .lss (.t 62) (.t 69))⟩] false [.forget [62, 63, 64, 65, 66, 67, 68, 69]]
abbrev ref_tooMany_r14 : HCode := .reg [⟨none, .val 73 (.fldR (.t 6) 0 1)⟩,
    ⟨none, .val 74 (.ldR (.t 73) 1 false)⟩,
    ⟨none, .val 75 (.mv (.t 7))⟩,
    ⟨none, .val 76 (.idxA 2 (.t 74) (.t 75))⟩,
    ⟨none, .val 77 (.fldR (.t 76) 1 1)⟩,
    ⟨none, .val 78 (.ldR (.t 77) 1 false)⟩,
    ⟨none, .val 79 (.mv (.t 8))⟩,
    ⟨none, .val 80 (.idxA 6 (.t 78) (.t 79))⟩,
    ⟨none, .val 81 (.ldR (.t 80) 6 true)⟩,
    ⟨none, .alloc 9 1 100 [.v (.int .i64 0), .v (mkS []), .v (mkS []), .v (.int .i64 0), .v (.int .i64 0), .nl 2]⟩,
    ⟨none, .sto (.t 9) 1 100 0 6 (.t 81)⟩] false [.frz 1 100 6, .forget [73, 74, 75, 76, 77, 78, 79, 80, 81]]
abbrev ref_tooMany_r15 : HCode := .reg [⟨none, .val 83 (.fldR (.t 9) 0 1)⟩,
    ⟨none, .val 84 (.ldR (.t 83) 1 false)⟩,
    ⟨none, .call (some 85) fn_ref_has [(.t 84, .v)]⟩,
    ⟨none, .val 82 (.mv (.t 85))⟩,
    ⟨none, .val 86 (.ext 82 0)⟩,
    ⟨none, .val 87 (.ext 82 1)⟩,
    ⟨none, .val 88 (.ext 82 2)⟩,
    ⟨none, .val 89 (.ext 82 3)⟩,
    ⟨none, .val 10 (.mv (.t 86))⟩,
    ⟨none, .val 11 (.mv (.t 87))⟩,
    ⟨none, .val 12 (.mv (.t 88))⟩,
    ⟨none, .val 13 (.mv (.t 89))⟩] false [.forget [10, 11, 12, 82, 83, 84, 85, 86, 87, 88, 89]]
abbrev ref_tooMany_r16 : HCode := .reg [⟨none, .val 90 (.mv (.t 13))⟩,
    ⟨none, .val 91 (.mv (.t 90))⟩,
    ⟨some (91, true), .val 92 (.fldR (.t 9) 5 1)⟩,
    ⟨some (91, true), .val 93 (.ldR (.t 92) 1 false)⟩,
    ⟨some (91, true), .val 94 (.mv (.t 1))⟩,
    ⟨some (91, true), .val 95 (.ints .add (.t 94) (.c (iv 1)))⟩,
    ⟨some (91, true), .call (some 96) fn_ref_tooMany [(.t 93, .v), (.t 95, .v)]⟩,
    ⟨none, .val 97 (.pick (.t 91) (.t 96) (.c (bv false)))⟩] false [.forget [90, 91, 92, 93, 94, 95, 96]]
abbrev ref_tooMany_r17 : HCode := .reg [⟨none, .val 4 (.mv (.c (bv true)))⟩] false []
abbrev ref_tooMany_r18 : HCode := .reg [⟨none, .val 71 (.mv (.t 8))⟩,
    ⟨none, .val 72 (.ints .add (.t 71) (.c (iv 1)))⟩,
    ⟨none, .val 8 (.mv (.t 72))⟩] false [.forget [71, 72]]
abbrev ref_tooMany_r19 : HCode := .reg [⟨none, .val 52 (.mv (.t 7))⟩,
    ⟨none, .val 53 (.ints .add (.t 52) (.c (iv 1)))⟩,
    ⟨none, .val 7 (.mv (.t 53))⟩] false [.forget [52, 53]]
abbrev ref_tooMany_r20 : HCode := .reg [⟨none, .val 26 (.mv (.t 5))⟩,
    ⟨none, .val 27 (.ints .add (.t 26) (.c (iv 1)))⟩,
    ⟨none, .val 5 (.mv (.t 27))⟩] false [.forget [26, 27]]
abbrev ref_tooMany_r21 : HCode := .reg [⟨none, .val 4 (.mv (.c (bv false)))⟩] false []
abbrev ref_tooMany : HCode := (.seq ref_tooMany_r0 (.seq (.seq ref_tooMany_r1 (.cond (.t 21) (.seq ref_tooMany_r2 .ret) .skip)) (.seq (.seq ref_tooMany_r3 (.block 0 (.loop (.seq (.seq ref_tooMany_r4 (.cond (.t 25) .skip (.exit 0))) (.seq (.block 1 (.seq ref_tooMany_r5 (.seq (.seq ref_tooMany_r6 (.cond (.t 46) (.seq ref_tooMany_r7 .ret) .skip)) (.seq ref_tooMany_r8 (.block 2 (.loop (.seq (.seq ref_tooMany_r9 (.cond (.t 51) .skip (.exit 2))) (.seq (.block 3 (.seq (.seq ref_tooMany_r10 (.cond (.t 61) (.seq ref_tooMany_r11 .ret) .skip)) (.seq ref_tooMany_r12 (.block 4 (.loop (.seq (.seq ref_tooMany_r13 (.cond (.t 70) .skip (.exit 4))) (.seq (.block 5 (.seq ref_tooMany_r14 (.seq ref_tooMany_r15 (.seq ref_tooMany_r16 (.cond (.t 97) (.seq ref_tooMany_r17 .ret) .skip))))) ref_tooMany_r18))))))) ref_tooMany_r19)))))))) ref_tooMany_r20))))) (.seq ref_tooMany_r21 .ret))))
abbrev ref_tooMany_E : Env := { N := 98, Γ := [(98, 2), (100, 6)], L := 106, nfix := 0 }
abbrev ref_tooMany_R : List RSrc := [.tmp 4]
theorem mk_ref_tooMany {base : Nat} {av : List AV} {r : RV} (hfo : formOk ref_tooMany_E base av) (hW : AVs.fits av → hwp Tryd.prog ref_tooMany (finQ ref_tooMany_E base av ref_tooMany_R r) (F0 ref_tooMany_E base av)) (hov : ∀ x, r.res = .ov x → nOwn av = 0 := by intro x h; cases h <;> rfl) : Contract Tryd.prog fn_ref_tooMany av r :=
  contract_of_wp (fn := Tryd.f86) (c := Tryd.f86.body.getD .skip) (by kernel_rfl) (by kernel_rfl) (by kernel_rfl) (by kernel_rfl) (by kernel_rfl) (by kernel_rfl) (by kernel_rfl) hfo hW hov
abbrev ref_badKind_r0 : HCode := .reg [⟨none, .val 2 (.mv (.c (bv false)))⟩] false []
abbrev ref_badKind_r1 : HCode := .reg [⟨none, .val 3 (.mv (.c (iv 0)))⟩] false []
abbrev ref_badKind_r2 : HCode := .reg [⟨none, .val 12 (.mv (.t 3))⟩,
    ⟨none, .val 13 (.mv (.t 0))⟩,
    ⟨none, .val 14 (.len false (.t 13))⟩,
    ⟨none, .val 15 (.ints .lss (.t 12) (.t 14))⟩] false [.forget [12, 13, 14]]
abbrev ref_badKind_r3 : HCode := .reg [⟨none, .val 4 (.mv (.c (iv 0)))⟩] false []
abbrev ref_badKind_r4 : HCode := .reg [⟨none, .val 18 (.mv (.t 4))⟩,
    ⟨none, .val 19 (.mv (.t 0))⟩,
    ⟨none, .val 20 (.mv (.t 3))⟩,
    ⟨none, .val 21 (.idxA 2 (.t 19) (.t 20))⟩,
    ⟨none, .val 22 (.fldR (.t 21) 1 1)⟩,
    ⟨none, .val 23 (.ldR (.t 22) 1 false)⟩,
    ⟨none, .val 24 (.len false (.t 23))⟩,
    ⟨none, .val 25 (.ints .lss (.t 18) (.t 24))⟩] false [.forget [18, 19, 20, 21, 22, 23, 24]]
abbrev ref_badKind_r5 : HCode := .reg [⟨none, .val 28 (.mv (.t 0))⟩,
    ⟨none, .val 29 (.mv (.t 3))⟩,
    ⟨none, .val 30 (.idxA 2 (.t 28) (.t 29))⟩,
    ⟨none, .val 31 (.fldR (.t 30) 1 1)⟩,
    ⟨none, .val 32 (.ldR (.t 31) 1 false)⟩,
    ⟨none, .val 33 (.mv (.t 4))⟩,
    ⟨none, .val 34 (.idxA 1 (.t 32) (.t 33))⟩,
    ⟨none, .val 35 (.ldR (.t 34) 1 false)⟩,
    ⟨none, .call (some 36) fn_ref_within [(.t 35, .v), (.c (iv 1), .v), (.c (iv 4), .v)]⟩,
    ⟨none, .val 37 (.not (.t 36))⟩] false [.forget [28, 29, 30, 31, 32, 33, 34, 35, 36]]
abbrev ref_badKind_r6 : HCode := .reg [⟨none, .val 2 (.mv (.c (bv true)))⟩] false []
abbrev ref_badKind_r7 : HCode := .reg [⟨none, .val 26 (.mv (.t 4))⟩,
    ⟨none, .val 27 (.ints .add (.t 26) (.c (iv 1)))⟩,
    ⟨none, .val 4 (.mv (.t 27))⟩] false [.forget [26, 27]]
abbrev ref_badKind_r8 : HCode := .reg [⟨none, .val 5 (.mv (.c (iv 0)))⟩] false []
abbrev ref_badKind_r9 : HCode := .reg [⟨none, .val 38 (.mv (.t 5))⟩,
    ⟨none, .val 39 (.mv (.t 0))⟩,
    ⟨none, .val 40 (.mv (.t 3))⟩,
    ⟨none, .val 41 (.idxA 2 (.t 39) (.t 40))⟩,
    ⟨none, .val 42 (.fldR (.t 41) 0 1)⟩,
    ⟨none, .val 43 (.ldR (.t 42) 1 false)⟩,
    ⟨none, .val 44 (.len false (.t 43))⟩,
    ⟨none, .val 45 (.ints .lss (.t 38) (.t 44))⟩] false [.forget [38, 39, 40, 41, 42, 43, 44]]
abbrev ref_badKind_r10 : HCode := .reg [⟨none, .val 6 (.mv (.c (iv 0)))⟩] false []
abbrev ref_badKind_r11 : HCode := .reg [⟨none, .val 48 (.mv (.t 6))⟩,
    ⟨none, .val 49 (.mv (.t 0))⟩,
    ⟨none, .val 50 (.mv (.t 3))⟩,
    ⟨none, .val 51 (.idxA 2 (.t 49) (.t 50))⟩,
    ⟨none, .val 52 (.fldR (.t 51) 0 1)⟩,
    ⟨none, .val 53 (.ldR (.t 52) 1 false)⟩,
    ⟨none, .val 54 (.mv (.t 5))⟩,
    ⟨none, .val 55 (.idxA 2 (.t 53) (.t 54))⟩,
    ⟨none, .val 56 (.fldR (.t 55) 1 1)⟩,
    ⟨none, .val 57 (.ldR (.t 56) 1 false)⟩,
    ⟨none, .val 58 (.len false (.t 57))⟩,
    ⟨none, .val 59 (.ints .lss (.t 48) (.t 58))⟩] false [.forget [48, 49, 50, 51, 52, 53, 54, 55, 56, 57, 58]]
abbrev ref_badKind_r12 : HCode := .reg [⟨none, .val 62 (.mv (.t 0))⟩,
    ⟨none, .val 63 (.mv (.t 3))⟩,
    ⟨none, .val 64 (.idxA 2 (.t 62) (.t 63))⟩,
    ⟨none, .val 65 (.fldR (.t 64) 0 1)⟩,
    ⟨none, .val 66 (.ldR (.t 65) 1 false)⟩,
    ⟨none, .val 67 (.mv (.t 5))⟩,
    ⟨none, .val 68 (.idxA 2 (.t 66) (.t 67))⟩,
    ⟨none, .val 69 (.fldR (.t 68) 1 1)⟩,
    ⟨none, .val 70 (.ldR (.t 69) 1 false)⟩,
    ⟨none, .val 71 (.mv (.t 6))⟩,
    ⟨none, .val 72 (.idxA 6 (.t 70) (.t 71))⟩,
    ⟨none, .val 73 (.ldR (.t 72) 6 true)⟩,
    ⟨none, .alloc 7 0 94 [.v (.int .i64 0), .v (mkS []), .v (mkS []), .v (.int .i64 0), .v (.int .i64 0), .nl 2]⟩,
    ⟨none, .sto (.t 7) 0 94 0 6 (.t 73)⟩] false [.frz 0 94 6, .forget [62, 63, 64, 65, 66, 67, 68, 69, 70, 71, 72, 73]]
abbrev ref_badKind_r13 : HCode := .reg [⟨none, .val 75 (.fldR (.t 7) 0 1)⟩,
    ⟨none, .val 76 (.ldR (.t 75) 1 false)⟩,
    ⟨none, .call (some 77) fn_ref_has [(.t 76, .v)]⟩,
    ⟨none, .val 74 (.mv (.t 77))⟩,
    ⟨none, .val 78 (.ext 74 0)⟩,
    ⟨none, .val 79 (.ext 74 1)⟩,
    ⟨none, .val 80 (.ext 74 2)⟩,
    ⟨none, .val 81 (.ext 74 3)⟩,
    ⟨none, .val 8 (.mv (.t 78))⟩,
    ⟨none, .val 9 (.mv (.t 79))⟩,
    ⟨none, .val 10 (.mv (.t 80))⟩,
    ⟨none, .val 11 (.mv (.t 81))⟩] false [.forget [8, 9, 10, 74, 75, 76, 77, 78, 79, 80, 81]]
abbrev ref_badKind_r14 : HCode := .reg [⟨none, .val 82 (.fldR (.t 7) 0 1)⟩,
    ⟨none, .val 83 (.ldR (.t 82) 1 false)⟩,
    ⟨none, .call (some 84) fn_ref_within [(.t 83, .v), (.c (iv 1), .v), (.c (iv 15), .v)]⟩,
    ⟨none, .val 85 (.not (.t 84))⟩,
    ⟨none, .val 86 (.mv (.t 85))⟩,
    ⟨some (86, false), .val 87 (.mv (.t 11))⟩,
    ⟨some (86, false), .val 88 (.mv (.t 87))⟩,
    ⟨some (88, true), .val 89 (.fldR (.t 7) 5 1)⟩,
    ⟨some (88, true), .val 90 (.ldR (.t 89) 1 false)⟩,
    ⟨some (88, true), .call (some 91) fn_ref_badKind [(.t 90, .v)]⟩,
    ⟨some (86, false), .val 92 (.pick (.t 88) (.t 91) (.c (bv false)))⟩,
    ⟨none, .val 93 (.pick (.t 86) (.c (bv true)) (.t 92))⟩] false [.forget [82, 83, 84, 85, 86, 87, 88, 89, 90, 91, 92]]
abbrev ref_badKind_r15 : HCode := .reg [⟨none, .val 2 (.mv (.c (bv true)))⟩] false []
abbrev ref_badKind_r16 : HCode := .reg [⟨none, .val 60 (.mv (.t 6))⟩,
    ⟨none, .val 61 (.ints .add (.t 60) (.c (iv 1)))⟩,
    ⟨none, .val 6 (.mv (.t 61))⟩] false [.forget [60, 61]]
abbrev ref_badKind_r17 : HCode := .reg [⟨none, .val 46 (.mv (.t 5))⟩,
    ⟨none, .val 47 (.ints .add (.t 46) (.c (iv 1)))⟩,
    ⟨none, .val 5 (.mv (.t 47))⟩] false [.forget [46, 47]]
abbrev ref_badKind_r18 : HCode := .reg [⟨none, .val 16 (.mv (.t 3))⟩,
    ⟨none, .val 17 (.ints .add (.t 16) (.c (iv 1)))⟩,
    ⟨none, .val 3 (.mv (.t 17))⟩] false [.forget [16, 17]]
abbrev ref_badKind_r19 : HCode := .reg [⟨none, .val 2 (.mv (.c (bv false)))⟩] false []
abbrev ref_badKind : HCode := (.seq ref_badKind_r0 (.seq (.seq ref_badKind_r1 (.block 0 (.loop (.seq (.seq ref_badKind_r2 (.cond (.t 15) .skip (.exit 0))) (.seq (.block 1 (.seq (.seq ref_badKind_r3 (.block 2 (.loop (.seq (.seq ref_badKind_r4 (.cond (.t 25) .skip (.exit 2))) (.seq (.block 3 (.seq ref_badKind_r5 (.cond (.t 37) (.seq ref_badKind_r6 .ret) .skip))) ref_badKind_r7))))) (.seq ref_badKind_r8 (.block 4 (.loop (.seq (.seq ref_badKind_r9 (.cond (.t 45) .skip (.exit 4))) (.seq (.block 5 (.seq ref_badKind_r10 (.block 6 (.loop (.seq (.seq ref_badKind_r11 (.cond (.t 59) .skip (.exit 6))) (.seq (.block 7 (.seq ref_badKind_r12 (.seq ref_badKind_r13 (.seq ref_badKind_r14 (.cond (.t 93) (.seq ref_badKind_r15 .ret) .skip))))) ref_badKind_r16)))))) ref_badKind_r17))))))) ref_badKind_r18))))) (.seq ref_badKind_r19 .ret)))
abbrev ref_badKind_E : Env := { N := 94, Γ := [(94, 6)], L := 100, nfix := 0 }
abbrev ref_badKind_R : List RSrc := [.tmp 2]
theorem mk_ref_badKind {base : Nat} {av : List AV} {r : RV} (hfo : formOk ref_badKind_E base av) (hW : AVs.fits av → hwp Tryd.prog ref_badKind (finQ ref_badKind_E base av ref_badKind_R r) (F0 ref_badKind_E base av)) (hov : ∀ x, r.res = .ov x → nOwn av = 0 := by intro x h; cases h <;> rfl) : Contract Tryd.prog fn_ref_badKind av r :=
  contract_of_wp (fn := Tryd.f87) (c := Tryd.f87.body.getD .skip) (by kernel_rfl) (by kernel_rfl) (by kernel_rfl) (by kernel_rfl) (by kernel_rfl) (by kernel_rfl) (by kernel_rfl) hfo hW hov
abbrev ref_badForm_r0 : HCode := .reg [⟨none, .val 2 (.mv (.c (bv false)))⟩] false []
abbrev ref_badForm_r1 : HCode := .reg [⟨none, .val 3 (.mv (.c (iv 0)))⟩] false []
abbrev ref_badForm_r2 : HCode := .reg [⟨none, .val 12 (.mv (.t 3))⟩,
    ⟨none, .val 13 (.mv (.t 0))⟩,
    ⟨none, .val 14 (.len false (.t 13))⟩,
    ⟨none, .val 15 (.ints .lss (.t 12) (.t 14))⟩] false [.forget [12, 13, 14]]
abbrev ref_badForm_r3 : HCode := .reg [⟨none, .val 4 (.mv (.c (iv 0)))⟩] false []
abbrev ref_badForm_r4 : HCode := .reg [⟨none, .val 18 (.mv (.t 4))⟩,
    ⟨none, .val 19 (.mv (.t 0))⟩,
    ⟨none, .val 20 (.mv (.t 3))⟩,
    ⟨none, .val 21 (.idxA 2 (.t 19) (.t 20))⟩,
    ⟨none, .val 22 (.fldR (.t 21) 0 1)⟩,
    ⟨none, .val 23 (.ldR (.t 22) 1 false)⟩,
    ⟨none, .val 24 (.len false (.t 23))⟩,
    ⟨none, .val 25 (.ints .lss (.t 18) (.t 24))⟩] false [.forget [18, 19, 20, 21, 22, 23, 24]]
abbrev ref_badForm_r5 : HCode := .reg [⟨none, .val 28 (.mv (.t 0))⟩,
    ⟨none, .val 29 (.mv (.t 3))⟩,
    ⟨none, .val 30 (.idxA 2 (.t 28) (.t 29))⟩,
    ⟨none, .val 31 (.fldR (.t 30) 0 1)⟩,
    ⟨none, .val 32 (.ldR (.t 31) 1 false)⟩,
    ⟨none, .val 33 (.mv (.t 4))⟩,
    ⟨none, .val 34 (.idxA 2 (.t 32) (.t 33))⟩,
    ⟨none, .val 35 (.ldR (.t 34) 2 true)⟩,
    ⟨none, .alloc 5 0 127 [.v (mkS []), .nl 6]⟩,
    ⟨none, .sto (.t 5) 0 127 0 2 (.t 35)⟩] false [.frz 0 127 2, .forget [28, 29, 30, 31, 32, 33, 34, 35]]
abbrev ref_badForm_r6 : HCode := .reg [⟨none, .val 36 (.fldR (.t 5) 0 1)⟩,
    ⟨none, .val 37 (.ldR (.t 36) 1 false)⟩,
    ⟨none, .val 38 (.strs .neq (.t 37) (.c (sv [])))⟩,
    ⟨none, .val 39 (.mv (.t 38))⟩,
    ⟨some (39, true), .val 40 (.fldR (.t 5) 0 1)⟩,
    ⟨some (39, true), .val 41 (.ldR (.t 40) 1 false)⟩,
    ⟨some (39, true), .call (some 42) fn_ref_IsName [(.t 41, .v)]⟩,
    ⟨some (39, true), .val 43 (.not (.t 42))⟩,
    ⟨none, .val 44 (.pick (.t 39) (.t 43) (.c (bv false)))⟩] false [.forget [36, 37, 38, 39, 40, 41, 42, 43]]
abbrev ref_badForm_r7 : HCode := .reg [⟨none, .val 2 (.mv (.c (bv true)))⟩] false []
abbrev ref_badForm_r8 : HCode := .reg [⟨none, .val 6 (.mv (.c (iv 0)))⟩] false []
abbrev ref_badForm_r9 : HCode := .reg [⟨none, .val 45 (.mv (.t 6))⟩,
    ⟨none, .val 46 (.fldR (.t 5) 1 1)⟩,
    ⟨none, .val 47 (.ldR (.t 46) 1 false)⟩,
    ⟨none, .val 48 (.len false (.t 47))⟩,
    ⟨none, .val 49 (.ints .lss (.t 45) (.t 48))⟩] false [.forget [45, 46, 47, 48]]
abbrev ref_badForm_r10 : HCode := .reg [⟨none, .val 52 (.fldR (.t 5) 1 1)⟩,
    ⟨none, .val 53 (.ldR (.t 52) 1 false)⟩,
    ⟨none, .val 54 (.mv (.t 6))⟩,
    ⟨none, .val 55 (.idxA 6 (.t 53) (.t 54))⟩,
    ⟨none, .val 56 (.ldR (.t 55) 6 true)⟩,
    ⟨none, .alloc 7 1 129 [.v (.int .i64 0), .v (mkS []), .v (mkS []), .v (.int .i64 0), .v (.int .i64 0), .nl 2]⟩,
    ⟨none, .sto (.t 7) 1 129 0 6 (.t 56)⟩] false [.frz 1 129 6, .forget [52, 53, 54, 55, 56]]
abbrev ref_badForm_r11 : HCode := .reg [⟨none, .val 58 (.fldR (.t 7) 0 1)⟩,
    ⟨none, .val 59 (.ldR (.t 58) 1 false)⟩,
    ⟨none, .call (some 60) fn_ref_has [(.t 59, .v)]⟩,
    ⟨none, .val 57 (.mv (.t 60))⟩,
    ⟨none, .val 61 (.ext 57 0)⟩,
    ⟨none, .val 62 (.ext 57 1)⟩,
    ⟨none, .val 63 (.ext 57 2)⟩,
    ⟨none, .val 64 (.ext 57 3)⟩,
    ⟨none, .val 8 (.mv (.t 61))⟩,
    ⟨none, .val 9 (.mv (.t 62))⟩,
    ⟨none, .val 10 (.mv (.t 63))⟩,
    ⟨none, .val 11 (.mv (.t 64))⟩] false [.forget [57, 58, 59, 60, 61, 62, 63, 64]]
abbrev ref_badForm_r12 : HCode := .reg [⟨none, .val 65 (.mv (.t 8))⟩,
    ⟨none, .val 66 (.mv (.t 65))⟩,
    ⟨some (66, true), .val 67 (.fldR (.t 7) 1 1)⟩,
    ⟨some (66, true), .val 68 (.ldR (.t 67) 1 false)⟩,
    ⟨some (66, true), .call (some 69) fn_ref_IsName [(.t 68, .v)]⟩,
    ⟨some (66, true), .val 70 (.not (.t 69))⟩,
    ⟨none, .val 71 (.pick (.t 66) (.t 70) (.c (bv false)))⟩,
    ⟨none, .val 72 (.mv (.t 71))⟩,
    ⟨some (72, false), .val 73 (.mv (.t 8))⟩,
    ⟨some (72, false), .val 74 (.not (.t 73))⟩,
    ⟨some (72, false), .val 75 (.mv (.t 74))⟩,
    ⟨some (75, true), .val 76 (.fldR (.t 7) 1 1)⟩,
    ⟨some (75, true), .val 77 (.ldR (.t 76) 1 false)⟩,
    ⟨some (75, true), .val 78 (.strs .neq (.t 77) (.c (sv [])))⟩,
    ⟨some (72, false), .val 79 (.pick (.t 75) (.t 78) (.c (bv false)))⟩,
    ⟨none, .val 80 (.pick (.t 72) (.c (bv true)) (.t 79))⟩,
    ⟨none, .val 81 (.mv (.t 80))⟩,
    ⟨some (81, false), .val 82 (.mv (.t 9))⟩,
    ⟨some (81, false), .val 83 (.mv (.t 82))⟩,
    ⟨some (83, true), .val 84 (.fldR (.t 7) 2 1)⟩,
    ⟨some (83, true), .val 85 (.ldR (.t 84) 1 false)⟩,
    ⟨some (83, true), .call (some 86) fn_ref_IsValue [(.t 85, .v)]⟩,
    ⟨some (83, true), .val 87 (.not (.t 86))⟩,
    ⟨some (81, false), .val 88 (.pick (.t 83) (.t 87) (.c (bv false)))⟩,
    ⟨none, .val 89 (.pick (.t 81) (.c (bv true)) (.t 88))⟩,
    ⟨none, .val 90 (.mv (.t 89))⟩,
    ⟨some (90, false), .val 91 (.mv (.t 9))⟩,
    ⟨some (90, false), .val 92 (.not (.t 91))⟩,
    ⟨some (90, false), .val 93 (.mv (.t 92))⟩,
    ⟨some (93, true), .val 94 (.fldR (.t 7) 2 1)⟩,
    ⟨some (93, true), .val 95 (.ldR (.t 94) 1 false)⟩,
    ⟨some (93, true), .val 96 (.strs .neq (.t 95) (.c (sv [])))⟩,
    ⟨some (90, false), .val 97 (.pick (.t 93) (.t 96) (.c (bv false)))⟩,
    ⟨none, .val 98 (.pick (.t 90) (.c (bv true)) (.t 97))⟩,
    ⟨none, .val 99 (.mv (.t 98))⟩,
    ⟨some (99, false), .val 100 (.mv (.t 10))⟩,
    ⟨some (99, false), .val 101 (.not (.t 100))⟩,
    ⟨some (99, false), .val 102 (.mv (.t 101))⟩,
    ⟨some (102, true), .val 103 (.fldR (.t 7) 3 2)⟩,
    ⟨some (102, true), .val 104 (.ldR (.t 103) 2 true)⟩,
    ⟨some (102, true), .val 105 (.bld [.v (.int .i64 0), .v (.int .i64 0)] [])⟩,
    ⟨some (102, true), .val 106 (.steq true [0, 0] (.t 104) (.t 105))⟩,
    ⟨some (99, false), .val 107 (.pick (.t 102) (.t 106) (.c (bv false)))⟩,
    ⟨none, .val 108 (.pick (.t 99) (.c (bv true)) (.t 107))⟩,
    ⟨none, .val 109 (.mv (.t 108))⟩,
    ⟨some (109, false), .val 110 (.mv (.t 11))⟩,
    ⟨some (109, false), .val 111 (.not (.t 110))⟩,
    ⟨some (109, false), .val 112 (.mv (.t 111))⟩,
    ⟨some (112, true), .val 113 (.fldR (.t 7) 5 1)⟩,
    ⟨some (112, true), .val 114 (.ldR (.t 113) 1 false)⟩,
    ⟨some (112, true), .val 115 (.len false (.t 114))⟩,
    ⟨some (112, true), .val 116 (.ints .gtr (.t 115) (.c (iv 0)))⟩,
    ⟨some (109, false), .val 117 (.pick (.t 112) (.t 116) (.c (bv false)))⟩,
    ⟨none, .val 118 (.pick (.t 109) (.c (bv true)) (.t 117))⟩,
    ⟨none, .val 119 (.mv (.t 118))⟩,
    ⟨some (119, false), .val 120 (.mv (.t 11))⟩,
    ⟨some (119, false), .val 121 (.mv (.t 120))⟩,
    ⟨some (121, true), .val 122 (.fldR (.t 7) 5 1)⟩,
    ⟨some (121, true), .val 123 (.ldR (.t 122) 1 false)⟩,
    ⟨some (121, true), .call (some 124) fn_ref_badForm [(.t 123, .v)]⟩,
    ⟨some (119, false), .val 125 (.pick (.t 121) (.t 124) (.c (bv false)))⟩,
    ⟨none, .val 126 (.pick (.t 119) (.c (bv true)) (.t 125))⟩] false [.forget [65, 66, 67, 68, 69, 70, 71, 72, 73, 74, 75, 76, 77, 78, 79, 80, 81, 82, 83, 84, 85, 86, 87, 88, 89, 90, 91, 92, 93, 94, 95, 96, 97, 98, 99, 100, 101, 102, 103, 104, 105, 106, 107, 108, 109, 110, 111, 112, 113, 114, 115, 116, 117, 118, 119, 120, 121, 122, 123, 124, 125]]
abbrev ref_badForm_r13 : HCode := .reg [⟨none, .val 2 (.mv (.c (bv true)))⟩] false []
abbrev ref_badForm_r14 : HCode := .reg [⟨none, .val 50 (.mv (.t 6))⟩,
    ⟨none, .val 51 (.ints .add (.t 50) (.c (iv 1)))⟩,
    ⟨none, .val 6 (.mv (.t 51))⟩] false [.forget [50, 51]]
abbrev ref_badForm_r15 : HCode := .reg [⟨none, .val 26 (.mv (.t 4))⟩,
    ⟨none, .val 27 (.ints .add (.t 26) (.c (iv 1)))⟩,
    ⟨none, .val 4 (.mv (.t 27))⟩] false [.forget [26, 27]]
abbrev ref_badForm_r16 : HCode := .reg [⟨none, .val 16 (.mv (.t 3))⟩,
    ⟨none, .val 17 (.ints .add (.t 16) (.c (iv 1)))⟩,
    ⟨none, .val 3 (.mv (.t 17))⟩] false [.forget [16, 17]]
abbrev ref_badForm_r17 : HCode := .reg [⟨none, .val 2 (.mv (.c (bv false)))⟩] false []
abbrev ref_badForm : HCode := (.seq ref_badForm_r0 (.seq (.seq ref_badForm_r1 (.block 0 (.loop (.seq (.seq ref_badForm_r2 (.cond (.t 15) .skip (.exit 0))) (.seq (.block 1 (.seq ref_badForm_r3 (.block 2 (.loop (.seq (.seq ref_badForm_r4 (.cond (.t 25) .skip (.exit 2))) (.seq (.block 3 (.seq ref_badForm_r5 (.seq (.seq ref_badForm_r6 (.cond (.t 44) (.seq ref_badForm_r7 .ret) .skip)) (.seq ref_badForm_r8 (.block 4 (.loop (.seq (.seq ref_badForm_r9 (.cond (.t 49) .skip (.exit 4))) (.seq (.block 5 (.seq ref_badForm_r10 (.seq ref_badForm_r11 (.seq ref_badForm_r12 (.cond (.t 126) (.seq ref_badForm_r13 .ret) .skip))))) ref_badForm_r14)))))))) ref_badForm_r15)))))) ref_badForm_r16))))) (.seq ref_badForm_r17 .ret)))
abbrev ref_badForm_E : Env := { N := 127, Γ := [(127, 2), (129, 6)], L := 135, nfix := 0 }
abbrev ref_badForm_R : List RSrc := [.tmp 2]
theorem mk_ref_badForm {base : Nat} {av : List AV} {r : RV} (hfo : formOk ref_badForm_E base av) (hW : AVs.fits av → hwp Tryd.prog ref_badForm (finQ ref_badForm_E base av ref_badForm_R r) (F0 ref_badForm_E base av)) (hov : ∀ x, r.res = .ov x → nOwn av = 0 := by intro x h; cases h <;> rfl) : Contract Tryd.prog fn_ref_badForm av r :=
  contract_of_wp (fn := Tryd.f88) (c := Tryd.f88.body.getD .skip) (by kernel_rfl) (by kernel_rfl) (by kernel_rfl) (by kernel_rfl) (by kernel_rfl) (by kernel_rfl) (by kernel_rfl) hfo hW hov
abbrev ref_badNth_r0 : HCode := .reg [⟨none, .val 2 (.mv (.c (bv false)))⟩] false []
abbrev ref_badNth_r1 : HCode := .reg [⟨none, .val 3 (.mv (.c (iv 0)))⟩] false []
abbrev ref_badNth_r2 : HCode := .reg [⟨none, .val 7 (.mv (.t 3))⟩,
    ⟨none, .val 8 (.mv (.t 0))⟩,
    ⟨none, .val 9 (.len false (.t 8))⟩,
    ⟨none, .val 10 (.ints .lss (.t 7) (.t 9))⟩] false [.forget [7, 8, 9]]
abbrev ref_badNth_r3 : HCode := .reg [⟨none, .val 4 (.mv (.c (iv 0)))⟩] false []
abbrev ref_badNth_r4 : HCode := .reg [⟨none, .val 13 (.mv (.t 4))⟩,
    ⟨none, .val 14 (.mv (.t 0))⟩,
    ⟨none, .val 15 (.mv (.t 3))⟩,
    ⟨none, .val 16 (.idxA 2 (.t 14) (.t 15))⟩,
    ⟨none, .val 17 (.fldR (.t 16) 0 1)⟩,
    ⟨none, .val 18 (.ldR (.t 17) 1 false)⟩,
    ⟨none, .val 19 (.len false (.t 18))⟩,
    ⟨none, .val 20 (.ints .lss (.t 13) (.t 19))⟩] false [.forget [13, 14, 15, 16, 17, 18, 19]]
abbrev ref_badNth_r5 : HCode := .reg [⟨none, .val 5 (.mv (.c (iv 0)))⟩] false []
abbrev ref_badNth_r6 : HCode := .reg [⟨none, .val 23 (.mv (.t 5))⟩,
    ⟨none, .val 24 (.mv (.t 0))⟩,
    ⟨none, .val 25 (.mv (.t 3))⟩,
    ⟨none, .val 26 (.idxA 2 (.t 24) (.t 25))⟩,
    ⟨none, .val 27 (.fldR (.t 26) 0 1)⟩,
    ⟨none, .val 28 (.ldR (.t 27) 1 false)⟩,
    ⟨none, .val 29 (.mv (.t 4))⟩,
    ⟨none, .val 30 (.idxA 2 (.t 28) (.t 29))⟩,
    ⟨none, .val 31 (.fldR (.t 30) 1 1)⟩,
    ⟨none, .val 32 (.ldR (.t 31) 1 false)⟩,
    ⟨none, .val 33 (.len false (.t 32))⟩,
    ⟨none, .val 34 (.ints .lss (.t 23) (.t 33))⟩] false [.forget [23, 24, 25, 26, 27, 28, 29, 30, 31, 32, 33]]
abbrev ref_badNth_r7 : HCode := .reg [⟨none, .val 37 (.mv (.t 0))⟩,
    ⟨none, .val 38 (.mv (.t 3))⟩,
    ⟨none, .val 39 (.idxA 2 (.t 37) (.t 38))⟩,
    ⟨none, .val 40 (.fldR (.t 39) 0 1)⟩,
    ⟨none, .val 41 (.ldR (.t 40) 1 false)⟩,
    ⟨none, .val 42 (.mv (.t 4))⟩,
    ⟨none, .val 43 (.idxA 2 (.t 41) (.t 42))⟩,
    ⟨none, .val 44 (.fldR (.t 43) 1 1)⟩,
    ⟨none, .val 45 (.ldR (.t 44) 1 false)⟩,
    ⟨none, .val 46 (.mv (.t 5))⟩,
    ⟨none, .val 47 (.idxA 6 (.t 45) (.t 46))⟩,
    ⟨none, .val 48 (.ldR (.t 47) 6 true)⟩,
    ⟨none, .alloc 6 0 58 [.v (.int .i64 0), .v (mkS []), .v (mkS []), .v (.int .i64 0), .v (.int .i64 0), .nl 2]⟩,
    ⟨none, .sto (.t 6) 0 58 0 6 (.t 48)⟩] false [.frz 0 58 6, .forget [37, 38, 39, 40, 41, 42, 43, 44, 45, 46, 47, 48]]
abbrev ref_badNth_r8 : HCode := .reg [⟨none, .val 49 (.fldR (.t 6) 3 2)⟩,
    ⟨none, .val 50 (.ldR (.t 49) 2 true)⟩,
    ⟨none, .call (some 51) fn_ref_CheckNth [(.t 50, .v)]⟩,
    ⟨none, .val 52 (.ints .neq (.t 51) (.c (iv 0)))⟩,
    ⟨none, .val 53 (.mv (.t 52))⟩,
    ⟨some (53, false), .val 54 (.fldR (.t 6) 5 1)⟩,
    ⟨some (53, false), .val 55 (.ldR (.t 54) 1 false)⟩,
    ⟨some (53, false), .call (some 56) fn_ref_badNth [(.t 55, .v)]⟩,
    ⟨none, .val 57 (.pick (.t 53) (.c (bv true)) (.t 56))⟩] false [.forget [49, 50, 51, 52, 53, 54, 55, 56]]
abbrev ref_badNth_r9 : HCode := .reg [⟨none, .val 2 (.mv (.c (bv true)))⟩] false []
abbrev ref_badNth_r10 : HCode := .reg [⟨none, .val 35 (.mv (.t 5))⟩,
    ⟨none, .val 36 (.ints .add (.t 35) (.c (iv 1)))⟩,
    ⟨none, .val 5 (.mv (.t 36))⟩] false [.forget [35, 36]]
abbrev ref_badNth_r11 : HCode := .reg [⟨none, .val 21 (.mv (.t 4))⟩,
    ⟨none, .val 22 (.ints .add (.t 21) (.c (iv 1)))⟩,
    ⟨none, .val 4 (.mv (.t 22))⟩] false [.forget [21, 22]]
abbrev ref_badNth_r12 : HCode := .reg [⟨none, .val 11 (.mv (.t 3))⟩,
    ⟨none, .val 12 (.ints .add (.t 11) (.c (iv 1)))⟩,
    ⟨none, .val 3 (.mv (.t 12))⟩] false [.forget [11, 12]]
abbrev ref_badNth_r13 : HCode := .reg [⟨none, .val 2 (.mv (.c (bv false)))⟩] false []
abbrev ref_badNth : HCode := (.seq ref_badNth_r0 (.seq (.seq ref_badNth_r1 (.block 0 (.loop (.seq (.seq ref_badNth_r2 (.cond (.t 10) .skip (.exit 0))) (.seq (.block 1 (.seq ref_badNth_r3 (.block 2 (.loop (.seq (.seq ref_badNth_r4 (.cond (.t 20) .skip (.exit 2))) (.seq (.block 3 (.seq ref_badNth_r5 (.block 4 (.loop (.seq (.seq ref_badNth_r6 (.cond (.t 34) .skip (.exit 4))) (.seq (.block 5 (.seq ref_badNth_r7 (.seq ref_badNth_r8 (.cond (.t 57) (.seq ref_badNth_r9 .ret) .skip)))) ref_badNth_r10)))))) ref_badNth_r11)))))) ref_badNth_r12))))) (.seq ref_badNth_r13 .ret)))
abbrev ref_badNth_E : Env := { N := 58, Γ := [(58, 6)], L := 64, nfix := 0 }
abbrev ref_badNth_R : List RSrc := [.tmp 2]
theorem mk_ref_badNth {base : Nat} {av : List AV} {r : RV} (hfo : formOk ref_badNth_E base av) (hW : AVs.fits av → hwp Tryd.prog ref_badNth (finQ ref_badNth_E base av ref_badNth_R r) (F0 ref_badNth_E base av)) (hov : ∀ x, r.res = .ov x → nOwn av = 0 := by intro x h; cases h <;> rfl) : Contract Tryd.prog fn_ref_badNth av r :=
  contract_of_wp (fn := Tryd.f89) (c := Tryd.f89.body.getD .skip) (by kernel_rfl) (by kernel_rfl) (by kernel_rfl) (by kernel_rfl) (by kernel_rfl) (by kernel_rfl) (by kernel_rfl) hfo hW hov
abbrev ref_CheckList_r0 : HCode := .reg [⟨none, .val 2 (.mv (.c (iv 0)))⟩] false []
abbrev ref_CheckList_r1 : HCode := .reg [⟨none, .val 4 (.mv (.t 0))⟩,
    ⟨none, .call (some 5) fn_ref_tooMany [(.t 4, .v), (.c (iv 1), .v)]⟩,
    ⟨none, .val 3 (.mv (.t 5))⟩] false [.forget [4, 5]]
abbrev ref_CheckList_r2 : HCode := .reg [⟨none, .val 2 (.mv (.c (iv 2)))⟩] false []
abbrev ref_CheckList_r3 : HCode := .reg [⟨none, .val 7 (.mv (.t 0))⟩,
    ⟨none, .call (some 8) fn_ref_badKind [(.t 7, .v)]⟩,
    ⟨none, .val 6 (.mv (.t 8))⟩] false [.forget [7, 8]]
abbrev ref_CheckList_r4 : HCode := .reg [⟨none, .val 2 (.mv (.c (iv 4)))⟩] false []
abbrev ref_CheckList_r5 : HCode := .reg [⟨none, .val 10 (.mv (.t 0))⟩,
    ⟨none, .call (some 11) fn_ref_badForm [(.t 10, .v)]⟩,
    ⟨none, .val 9 (.mv (.t 11))⟩] false [.forget [10, 11]]
abbrev ref_CheckList_r6 : HCode := .reg [⟨none, .val 2 (.mv (.c (iv 1)))⟩] false []
abbrev ref_CheckList_r7 : HCode := .reg [⟨none, .val 13 (.mv (.t 0))⟩,
    ⟨none, .call (some 14) fn_ref_badNth [(.t 13, .v)]⟩,
    ⟨none, .val 12 (.mv (.t 14))⟩] false [.forget [13, 14]]
abbrev ref_CheckList_r8 : HCode := .reg [⟨none, .val 2 (.mv (.c (iv 3)))⟩] false []
abbrev ref_CheckList_r9 : HCode := .reg [⟨none, .val 2 (.mv (.c (iv 0)))⟩] false []
abbrev ref_CheckList : HCode := (.seq ref_CheckList_r0 (.seq (.block 0 (.seq ref_CheckList_r1 (.cond (.t 3) (.seq ref_CheckList_r2 .ret) (.seq ref_CheckList_r3 (.cond (.t 6) (.seq ref_CheckList_r4 .ret) (.seq ref_CheckList_r5 (.cond (.t 9) (.seq ref_CheckList_r6 .ret) (.seq ref_CheckList_r7 (.cond (.t 12) (.seq ref_CheckList_r8 .ret) .skip))))))))) (.seq ref_CheckList_r9 .ret)))
abbrev ref_CheckList_E : Env := { N := 15, Γ := [], L := 15, nfix := 0 }
abbrev ref_CheckList_R : List RSrc := [.tmp 2]
theorem mk_ref_CheckList {base : Nat} {av : List AV} {r : RV} (hfo : formOk ref_CheckList_E base av) (hW : AVs.fits av → hwp Tryd.prog ref_CheckList (finQ ref_CheckList_E base av ref_CheckList_R r) (F0 ref_CheckList_E base av)) (hov : ∀ x, r.res = .ov x → nOwn av = 0 := by intro x h; cases h <;> rfl) : Contract Tryd.prog fn_ref_CheckList av r :=
  contract_of_wp (fn := Tryd.f33) (c := Tryd.f33.body.getD .skip) (by kernel_rfl) (by kernel_rfl) (by kernel_rfl) (by kernel_rfl) (by kernel_rfl) (by kernel_rfl) (by kernel_rfl) hfo hW hov
end Go.Hx
end

section
-- DOM getO, fdV, Fd.add, fM, fF, fR, fK, Nat.add_zero
set_option maxRecDepth 100000
set_option linter.unusedSimpArgs false
namespace Go.Hx
open Go.Proofs
variable [Glob]

attribute [local go_sem] ndsV_len clsV_len attV_len intsR_len ndV cellsEq getO fdV Fd.add fM fF fR fK Nat.add_zero
theorem fin_unio_n {F : List Ct} {E : Env} {base : Nat} {av : List AV} {cells io : List PV} (hio : ioOf av = some cells) (hc : cellsPV F base cells.length = some io) : finQ E base av [] { res := .tup [], io := io } .normal F :=
  ⟨rfl, fun cs h => by rw [hio] at h; injection h with h; subst h; exact hc⟩

theorem c_note_m (c : Fd) (b : Bool) (h : c.m ≤ 1000000000) : Contract Tryd.prog fn_path_look_note [.io (fdV c), .val (bv b), .val (iv 2)] { res := .tup [], io := fdV (c.add (fM b)) } := by
  unfold fdV
  refine mk_path_look_note (base := 17) ⟨Nat.le_of_ble_eq_true rfl, Nat.le_of_ble_eq_true rfl, Nat.le_of_ble_eq_true rfl, ⟨rfl, rfl⟩⟩ (fun hfit => ?_)
  unfold F0 path_look_note_E
  simp (config := { maxSteps := 2000000 }) only [markU, List.set_cons_succ, List.set_cons_zero, List.map_cons, List.map_nil, argCt, setCells, ioOf, List.length_cons, List.length_nil, Nat.reduceAdd, Nat.reduceSub, List.replicate, List.cons_append, List.nil_append]
  try simp (config := { maxSteps := 2000000 }) only [go_sem, reduceCtorEq, Nat.reduceAdd, Nat.reduceEqDiff, reduceIte, Nat.reduceLeDiff, Nat.reduceLT, Nat.reduceSub]
  all_goals (repeat (with_reducible refine sAnd ?_))
  refine cond_of (by rfl) trivial (fun hb => ?_) (fun hb => ?_)
  · subst hb
    try simp (config := { maxSteps := 2000000 }) only [go_sem, reduceCtorEq, Nat.reduceAdd, Nat.reduceEqDiff, reduceIte, Nat.reduceLeDiff, Nat.reduceLT, Nat.reduceSub, Int.reduceToNat]
    all_goals (repeat (with_reducible refine sAnd ?_))
    exact fin_unio_n rfl rfl
  · subst hb
    try simp (config := { maxSteps := 2000000 }) only [go_sem, reduceCtorEq, Nat.reduceAdd, Nat.reduceEqDiff, reduceIte, Nat.reduceLeDiff, Nat.reduceLT, Nat.reduceSub]
    all_goals (repeat (with_reducible refine sAnd ?_))
    exact fin_unio_n rfl rfl
theorem c_note_f (c : Fd) (b : Bool) (h : c.f ≤ 1000000000) : Contract Tryd.prog fn_path_look_note [.io (fdV c), .val (bv b), .val (iv 1)] { res := .tup [], io := fdV (c.add (fF b)) } := by
  unfold fdV
  refine mk_path_look_note (base := 17) ⟨Nat.le_of_ble_eq_true rfl, Nat.le_of_ble_eq_true rfl, Nat.le_of_ble_eq_true rfl, ⟨rfl, rfl⟩⟩ (fun hfit => ?_)
  unfold F0 path_look_note_E
  simp (config := { maxSteps := 2000000 }) only [markU, List.set_cons_succ, List.set_cons_zero, List.map_cons, List.map_nil, argCt, setCells, ioOf, List.length_cons, List.length_nil, Nat.reduceAdd, Nat.reduceSub, List.replicate, List.cons_append, List.nil_append]
  try simp (config := { maxSteps := 2000000 }) only [go_sem, reduceCtorEq, Nat.reduceAdd, Nat.reduceEqDiff, reduceIte, Nat.reduceLeDiff, Nat.reduceLT, Nat.reduceSub]
  all_goals (repeat (with_reducible refine sAnd ?_))
  refine cond_of (by rfl) trivial (fun hb => ?_) (fun hb => ?_)
  · subst hb
    try simp (config := { maxSteps := 2000000 }) only [go_sem, reduceCtorEq, Nat.reduceAdd, Nat.reduceEqDiff, reduceIte, Nat.reduceLeDiff, Nat.reduceLT, Nat.reduceSub, Int.reduceToNat]
    all_goals (repeat (with_reducible refine sAnd ?_))
    exact fin_unio_n rfl rfl
  · subst hb
    try simp (config := { maxSteps := 2000000 }) only [go_sem, reduceCtorEq, Nat.reduceAdd, Nat.reduceEqDiff, reduceIte, Nat.reduceLeDiff, Nat.reduceLT, Nat.reduceSub]
    all_goals (repeat (with_reducible refine sAnd ?_))
    exact fin_unio_n rfl rfl
theorem c_note_r (c : Fd) (b : Bool) (h : c.r ≤ 1000000000) : Contract Tryd.prog fn_path_look_note [.io (fdV c), .val (bv b), .val (iv 3)] { res := .tup [], io := fdV (c.add (fR b)) } := by
  unfold fdV
  refine mk_path_look_note (base := 17) ⟨Nat.le_of_ble_eq_true rfl, Nat.le_of_ble_eq_true rfl, Nat.le_of_ble_eq_true rfl, ⟨rfl, rfl⟩⟩ (fun hfit => ?_)
  unfold F0 path_look_note_E
  simp (config := { maxSteps := 2000000 }) only [markU, List.set_cons_succ, List.set_cons_zero, List.map_cons, List.map_nil, argCt, setCells, ioOf, List.length_cons, List.length_nil, Nat.reduceAdd, Nat.reduceSub, List.replicate, List.cons_append, List.nil_append]
  try simp (config := { maxSteps := 2000000 }) only [go_sem, reduceCtorEq, Nat.reduceAdd, Nat.reduceEqDiff, reduceIte, Nat.reduceLeDiff, Nat.reduceLT, Nat.reduceSub]
  all_goals (repeat (with_reducible refine sAnd ?_))
  refine cond_of (by rfl) trivial (fun hb => ?_) (fun hb => ?_)
  · subst hb
    try simp (config := { maxSteps := 2000000 }) only [go_sem, reduceCtorEq, Nat.reduceAdd, Nat.reduceEqDiff, reduceIte, Nat.reduceLeDiff, Nat.reduceLT, Nat.reduceSub, Int.reduceToNat]
    all_goals (repeat (with_reducible refine sAnd ?_))
    exact fin_unio_n rfl rfl
  · subst hb
    try simp (config := { maxSteps := 2000000 }) only [go_sem, reduceCtorEq, Nat.reduceAdd, Nat.reduceEqDiff, reduceIte, Nat.reduceLeDiff, Nat.reduceLT, Nat.reduceSub]
    all_goals (repeat (with_reducible refine sAnd ?_))
    exact fin_unio_n rfl rfl
theorem c_note_k (c : Fd) (b : Bool) (h : c.k ≤ 1000000000) : Contract Tryd.prog fn_path_look_note [.io (fdV c), .val (bv b), .val (iv 4)] { res := .tup [], io := fdV (c.add (fK b)) } := by
  unfold fdV
  refine mk_path_look_note (base := 17) ⟨Nat.le_of_ble_eq_true rfl, Nat.le_of_ble_eq_true rfl, Nat.le_of_ble_eq_true rfl, ⟨rfl, rfl⟩⟩ (fun hfit => ?_)
  unfold F0 path_look_note_E
  simp (config := { maxSteps := 2000000 }) only [markU, List.set_cons_succ, List.set_cons_zero, List.map_cons, List.map_nil, argCt, setCells, ioOf, List.length_cons, List.length_nil, Nat.reduceAdd, Nat.reduceSub, List.replicate, List.cons_append, List.nil_append]
  try simp (config := { maxSteps := 2000000 }) only [go_sem, reduceCtorEq, Nat.reduceAdd, Nat.reduceEqDiff, reduceIte, Nat.reduceLeDiff, Nat.reduceLT, Nat.reduceSub]
  all_goals (repeat (with_reducible refine sAnd ?_))
  refine cond_of (by rfl) trivial (fun hb => ?_) (fun hb => ?_)
  · subst hb
    try simp (config := { maxSteps := 2000000 }) only [go_sem, reduceCtorEq, Nat.reduceAdd, Nat.reduceEqDiff, reduceIte, Nat.reduceLeDiff, Nat.reduceLT, Nat.reduceSub, Int.reduceToNat]
    all_goals (repeat (with_reducible refine sAnd ?_))
    exact fin_unio_n rfl rfl
  · subst hb
    try simp (config := { maxSteps := 2000000 }) only [go_sem, reduceCtorEq, Nat.reduceAdd, Nat.reduceEqDiff, reduceIte, Nat.reduceLeDiff, Nat.reduceLT, Nat.reduceSub]
    all_goals (repeat (with_reducible refine sAnd ?_))
    exact fin_unio_n rfl rfl

/-- Which fields a kind has. -/
def shV (k : Int) : PVal := .agg [bB (kName k), bB (kValue k), bB (kNth k), bB (kList k)]
def kOk (k : Int) : Bool := decide (1 ≤ k ∧ k ≤ 15)
theorem c_path_of (k : Int) : Contract Tryd.prog fn_path_of [.val (iv k)] { res := .tup [shV k, bv (kOk k)] } := by
  refine mk_path_of (base := 0) ⟨Nat.le_of_ble_eq_true rfl, Nat.le_of_ble_eq_true rfl, Nat.le_of_ble_eq_true rfl, rfl⟩ (fun hfit => ?_)
  unfold F0 path_of_E
  simp (config := { maxSteps := 2000000 }) only [markU, List.set_cons_succ, List.set_cons_zero, List.map_cons, List.map_nil, argCt, setCells, ioOf, List.length_cons, List.length_nil, Nat.reduceAdd, Nat.reduceSub, List.replicate, List.cons_append, List.nil_append]
  try simp (config := { maxSteps := 2000000 }) only [go_sem, reduceCtorEq, Nat.reduceAdd, Nat.reduceEqDiff, reduceIte, Nat.reduceLeDiff, Nat.reduceLT, Nat.reduceSub]
  all_goals (repeat (with_reducible refine sAnd ?_))
  by_cases hk : 1 ≤ k ∧ k ≤ 15
  · have hn : k = 1 ∨ k = 2 ∨ k = 3 ∨ k = 4 ∨ k = 5 ∨ k = 6 ∨ k = 7 ∨ k = 8 ∨ k = 9 ∨ k = 10 ∨ k = 11 ∨ k = 12 ∨ k = 13 ∨ k = 14 ∨ k = 15 := by omega
    rcases hn with rfl | rfl | rfl | rfl | rfl | rfl | rfl | rfl | rfl | rfl | rfl | rfl | rfl | rfl | rfl
    all_goals
      repeat (first | (refine cond_t (by rfl) trivial ?_; (try simp (config := { maxSteps := 2000000 }) only [go_sem, reduceCtorEq, Nat.reduceAdd, Nat.reduceEqDiff, reduceIte, Nat.reduceLeDiff, Nat.reduceLT, Nat.reduceSub])) | (refine cond_f (by rfl) trivial ?_; (try simp (config := { maxSteps := 2000000 }) only [go_sem, reduceCtorEq, Nat.reduceAdd, Nat.reduceEqDiff, reduceIte, Nat.reduceLeDiff, Nat.reduceLT, Nat.reduceSub])))
      exact fin_tup (by simp) ⟨rs_cellB rfl rfl (.inl rfl), rs_tmp rfl trivial (.inl rfl), rfl⟩
  · have e : ∀ n : Int, 1 ≤ n → n ≤ 15 → (k == n) = false := by intro n h1 h2; simp; omega
    have hs : shV k = .agg [bB false, bB false, bB false, bB false] := by
      unfold shV
      congr 2
      · unfold kName; congr 2; simp; omega
      · congr 1
        · unfold kValue; congr 2; simp; omega
        · congr 1
          · unfold kNth; congr 2; simp; omega
          · congr 1
            unfold kList; congr 2; simp; omega
    have ho : kOk k = false := by unfold kOk; simp; omega
    rw [hs, ho]
    try simp (config := { maxSteps := 2000000 }) only [go_sem, reduceCtorEq, Nat.reduceAdd, Nat.reduceEqDiff, reduceIte, Nat.reduceLeDiff, Nat.reduceLT, Nat.reduceSub, e 1 (by omega) (by omega), e 2 (by omega) (by omega), e 3 (by omega) (by omega), e 4 (by omega) (by omega), e 5 (by omega) (by omega), e 6 (by omega) (by omega), e 7 (by omega) (by omega), e 8 (by omega) (by omega), e 9 (by omega) (by omega), e 10 (by omega) (by omega), e 11 (by omega) (by omega), e 12 (by omega) (by omega), e 13 (by omega) (by omega), e 14 (by omega) (by omega), e 15 (by omega) (by omega)]
    repeat (refine cond_f (by rfl) trivial ?_; (try simp (config := { maxSteps := 2000000 }) only [go_sem, reduceCtorEq, Nat.reduceAdd, Nat.reduceEqDiff, reduceIte, Nat.reduceLeDiff, Nat.reduceLT, Nat.reduceSub, e 1 (by omega) (by omega), e 2 (by omega) (by omega), e 3 (by omega) (by omega), e 4 (by omega) (by omega), e 5 (by omega) (by omega), e 6 (by omega) (by omega), e 7 (by omega) (by omega), e 8 (by omega) (by omega), e 9 (by omega) (by omega), e 10 (by omega) (by omega), e 11 (by omega) (by omega), e 12 (by omega) (by omega), e 13 (by omega) (by omega), e 14 (by omega) (by omega), e 15 (by omega) (by omega)]))
    exact fin_tup (by simp) ⟨rs_cellB rfl rfl (.inl rfl), rs_tmp rfl trivial (.inl rfl), rfl⟩
theorem c_path_order : Contract Tryd.prog fn_path_order [] { res := .val (.agg [bI 2, bI 4, bI 1, bI 3]) } := by
  refine mk_path_order (base := 0) ⟨Nat.le_of_ble_eq_true rfl, Nat.le_of_ble_eq_true rfl, Nat.le_of_ble_eq_true rfl, rfl⟩ (fun hfit => ?_)
  unfold F0 path_order_E
  simp (config := { maxSteps := 2000000 }) only [markU, List.set_cons_succ, List.set_cons_zero, List.map_cons, List.map_nil, argCt, setCells, ioOf, List.length_cons, List.length_nil, Nat.reduceAdd, Nat.reduceSub, List.replicate, List.cons_append, List.nil_append]
  try simp (config := { maxSteps := 2000000 }) only [go_sem, reduceCtorEq, Nat.reduceAdd, Nat.reduceEqDiff, reduceIte, Nat.reduceLeDiff, Nat.reduceLT, Nat.reduceSub]
  all_goals (repeat (with_reducible refine sAnd ?_))
  exact fin_cellB rfl rfl rfl
end Go.Hx
end

section
-- DOM getO, fdV, listV, intsR_len, ptsV_len, stsV_len, tssV_len
set_option maxRecDepth 100000
set_option linter.unusedSimpArgs false
namespace Go.Hx
open Go.Proofs
variable [Glob]

attribute [local go_sem] ndsV_len clsV_len attV_len intsR_len ndV cellsEq getO fdV listV ptsV_len stsV_len tssV_len
theorem drop_get {α : Type} {d : α} {l : List α} {i : Nat} (h : i < l.length) : l.drop i = l.getD i d :: l.drop (i + 1) := by
  rw [List.drop_eq_getElem_cons h]
  simp [h]

def Good (P : Program) (N : Nat) : Prop :=
  (∀ (l : List Pt) (d K : Nat) (c : Fd), SizeOf.sizeOf l ≤ N → d ≤ 4 → c.le K → K + bd d ≤ 1000000000 → Contract P fn_path_look_list [.io (fdV c), .val (listV l), .val (iv d)] { res := .tup [], io := fdV (c.add (ntL l d)) }) ∧
  (∀ (s : St) (d K : Nat) (c : Fd), SizeOf.sizeOf s ≤ N → d ≤ 3 → c.le K → K + bdS d ≤ 1000000000 → Contract P fn_path_look_step [.io (fdV c), .val (.agg (stV s)), .val (iv d)] { res := .tup [], io := fdV (c.add (ntS s d)) })

theorem good_list (N : Nat) (ih : Good Tryd.prog N) (l : List Pt) (d K : Nat) (c : Fd) (hN : SizeOf.sizeOf l ≤ N + 1) (hd : d ≤ 4) (hc : c.le K) (hK : K + bd d ≤ 1000000000) : Contract Tryd.prog fn_path_look_list [.io (fdV c), .val (listV l), .val (iv d)] { res := .tup [], io := fdV (c.add (ntL l d)) } := by
  unfold fdV listV
  refine mk_path_look_list (base := 83) ⟨Nat.le_of_ble_eq_true rfl, Nat.le_of_ble_eq_true rfl, Nat.le_of_ble_eq_true rfl, ⟨rfl, rfl⟩⟩ (fun hfit => ?_)
  unfold F0 path_look_list_E
  simp (config := { maxSteps := 2000000 }) only [markU, List.set_cons_succ, List.set_cons_zero, List.map_cons, List.map_nil, argCt, setCells, ioOf, List.length_cons, List.length_nil, Nat.reduceAdd, Nat.reduceSub, List.replicate, List.cons_append, List.nil_append]
  try simp (config := { maxSteps := 2000000 }) only [go_sem, reduceCtorEq, Nat.reduceAdd, Nat.reduceEqDiff, reduceIte, Nat.reduceLeDiff, Nat.reduceLT, Nat.reduceSub]
  all_goals (repeat (with_reducible refine sAnd ?_))
  have hlb : (bif bif decide (3 < (d : Int)) then true else decide ((l.length : Int) < 1) then true else decide (5 < (l.length : Int))) = lenBad l d := by
    have e1 : decide (3 < (d : Int)) = decide (3 < d) := decide_eq_decide.2 (by omega)
    have e2 : decide ((l.length : Int) < 1) = decide (l.length < 1) := decide_eq_decide.2 (by omega)
    have e3 : decide (5 < (l.length : Int)) = decide (5 < l.length) := decide_eq_decide.2 (by omega)
    unfold lenBad
    rw [e1, e2, e3]
    cases decide (3 < d) <;> cases decide (l.length < 1) <;> rfl
  refine cond_of (by rfl) trivial (fun h => ?_) (fun h => ?_)
  · rw [hlb] at h
    have e : ntL l d = fM true := by unfold ntL; rw [if_pos h]
    try simp (config := { maxSteps := 2000000 }) only [go_sem, reduceCtorEq, Nat.reduceAdd, Nat.reduceEqDiff, reduceIte, Nat.reduceLeDiff, Nat.reduceLT, Nat.reduceSub]
    all_goals (repeat (with_reducible refine sAnd ?_))
    have hb1 := bdF_pos (4 - d)
    have hb2 : bd d = bdF (4 - d) := rfl
    have hm := hc.m
    refine call_un (by repeat' constructor) (c_note_m c true (by omega)) ?_
    try simp (config := { maxSteps := 2000000 }) only [go_sem, reduceCtorEq, Nat.reduceAdd, Nat.reduceEqDiff, reduceIte, Nat.reduceLeDiff, Nat.reduceLT, Nat.reduceSub]
    all_goals (repeat (with_reducible refine sAnd ?_))
    rw [e]
    exact fin_unio rfl rfl
  · rw [hlb] at h
    have e : ntL l d = ntPs l d := by unfold ntL; rw [if_neg (by rw [h]; simp)]
    rw [e]
    have hd3 : d ≤ 3 ∧ l.length ≤ 5 := by
      simp only [lenBad, Bool.or_eq_false_iff, decide_eq_false_iff_not] at h
      omega
    have hbd := bd_le hd3.1
    try simp (config := { maxSteps := 2000000 }) only [go_sem, reduceCtorEq, Nat.reduceAdd, Nat.reduceEqDiff, reduceIte, Nat.reduceLeDiff, Nat.reduceLT, Nat.reduceSub]
    all_goals (repeat (with_reducible refine sAnd ?_))
    have hK0 : K + (1 + (l.length - 0) * bdP d) ≤ 1000000000 := by
      have : (l.length - 0) * bdP d ≤ 5 * bdP d := Nat.mul_le_mul_right _ (by omega)
      omega
    refine loop_sets (fun x : Nat × Fd => [(7, .un), (9, .un), (11, .un), (28, .pv (iv x.1)), (29, .un), (51, .un), (55, .un), (56, .un), (57, .un), (58, .un), (71, .un), (72, .un), (73, .un), (74, .un), (84, .pv (.one (bI x.2.f))), (85, .pv (.one (bI x.2.m))), (86, .pv (.one (bI x.2.r))), (87, .pv (.one (bI x.2.k))), (90, .un), (91, .un)]) (fun x : Nat × Fd => l.length - x.1) (fun x : Nat × Fd => x.1 ≤ l.length ∧ (∃ K', x.2.le K' ∧ K' + (1 + (l.length - x.1) * bdP d) ≤ 1000000000) ∧ x.2.add (ntPs (l.drop x.1) d) = c.add (ntPs l d)) ((0, c)) ?_ ⟨Nat.zero_le _, ⟨K, hc, hK0⟩, by simp⟩ ?_
    focus (simp (config := { maxSteps := 2000000 }) only [go_sem, reduceCtorEq, Nat.reduceAdd, Nat.reduceEqDiff, reduceIte, Nat.reduceLeDiff, Nat.reduceLT, Nat.reduceSub, le_cons, le_nil, le_un, le_same]; all_goals (repeat' (first | exact trivial | exact le_int (by omega) | exact le_bool rfl | exact le_eq rfl | exact le_nlo | exact le_refl _ | refine And.intro ?_ ?_)))
    rintro ⟨i, a⟩ ⟨hi, ⟨K', ha, hK'⟩, hsum⟩
    simp only at hi ha hK' hsum
    try simp (config := { maxSteps := 2000000 }) only [go_sem, reduceCtorEq, Nat.reduceAdd, Nat.reduceEqDiff, reduceIte, Nat.reduceLeDiff, Nat.reduceLT, Nat.reduceSub]
    all_goals (repeat (with_reducible refine sAnd ?_))
    have hbx : bd d ≤ 1000000000 := by omega
    refine cond_of (by rfl) trivial (fun h2 => ?_) (fun h2 => ?_)
    · have hil : i < l.length := by simp at h2; omega
      rw [drop_get (d := default) hil] at hsum
      obtain ⟨p, hp⟩ : ∃ p, p = l.getD i default := ⟨_, rfl⟩
      rw [← hp] at hsum
      have hg : (ptsV l).getD i [] = [.sl 2 (stsV p.steps), .sl 1 (intsR p.links)] := by rw [ptsV_get l i hil, ← hp, ptV_eq]
      have hsz : SizeOf.sizeOf p.steps ≤ N := by
        have h3 := lt_steps p
        have h4 := lt_pt hil
        rw [← hp] at h4
        omega
      have hmul : (l.length - i) * bdP d = bdP d + (l.length - (i + 1)) * bdP d := by
        have : l.length - i = (l.length - (i + 1)) + 1 := by omega
        rw [this, Nat.add_mul]; omega
      have hbp : bdP d = 4 + 5 * bdS d := rfl
      have hin : (bif decide ((p.steps.length : Int) < 1) then true else decide (5 < (p.steps.length : Int))) = false → inR .i64 ((p.steps.length : Int) - 1) := by
        intro h5
        have : ¬ 5 < (p.steps.length : Int) := by
          intro h6
          rw [decide_eq_true h6] at h5
          cases hq : decide ((p.steps.length : Int) < 1) <;> rw [hq] at h5 <;> cases h5
        exact inR_small (by omega) (by omega)
      try simp (config := { maxSteps := 2000000 }) only [go_sem, reduceCtorEq, Nat.reduceAdd, Nat.reduceEqDiff, reduceIte, Nat.reduceLeDiff, Nat.reduceLT, Nat.reduceSub, hg]
      all_goals (repeat (with_reducible refine sAnd ?_))
      have hpb : (bif bif decide ((p.steps.length : Int) < 1) then true else decide (5 < (p.steps.length : Int)) then true else (p.links.length : Int) != (p.steps.length : Int) - 1) = ptBad p := by
        have e2 : decide ((p.steps.length : Int) < 1) = decide (p.steps.length < 1) := decide_eq_decide.2 (by omega)
        have e3 : decide (5 < (p.steps.length : Int)) = decide (5 < p.steps.length) := decide_eq_decide.2 (by omega)
        have e4 : ((p.links.length : Int) != (p.steps.length : Int) - 1) = decide ((p.links.length : Int) ≠ p.steps.length - 1) := by
          by_cases h5 : (p.links.length : Int) = (p.steps.length : Int) - 1 <;> simp [h5]
        unfold ptBad
        rw [e2, e3, e4]
        cases decide (p.steps.length < 1) <;> cases decide (5 < p.steps.length) <;> rfl
      simp only [ntPs] at hsum
      refine cond_of (by rfl) trivial (fun h3 => ?_) (fun h3 => ?_)
      · rw [hpb] at h3
        rw [if_pos h3] at hsum
        rw [← hsum]
        try simp (config := { maxSteps := 2000000 }) only [go_sem, reduceCtorEq, Nat.reduceAdd, Nat.reduceEqDiff, reduceIte, Nat.reduceLeDiff, Nat.reduceLT, Nat.reduceSub]
        all_goals (repeat (with_reducible refine sAnd ?_))
        have hm := ha.m
        refine call_un (by repeat' constructor) (c_note_m a true (by omega)) ?_
        try simp (config := { maxSteps := 2000000 }) only [go_sem, reduceCtorEq, Nat.reduceAdd, Nat.reduceEqDiff, reduceIte, Nat.reduceLeDiff, Nat.reduceLT, Nat.reduceSub]
        all_goals (repeat (with_reducible refine sAnd ?_))
        exact fin_unio rfl rfl
      · rw [hpb] at h3
        rw [if_neg (by rw [h3]; simp)] at hsum
        have hpl : p.steps.length ≤ 5 ∧ (p.links.length : Int) = p.steps.length - 1 := by
          simp only [ptBad, Bool.or_eq_false_iff, decide_eq_false_iff_not] at h3
          omega
        have hK1 : K' + (p.links.length - 0) ≤ K' + 4 := by omega
        try simp (config := { maxSteps := 2000000 }) only [go_sem, reduceCtorEq, Nat.reduceAdd, Nat.reduceEqDiff, reduceIte, Nat.reduceLeDiff, Nat.reduceLT, Nat.reduceSub]
        all_goals (repeat (with_reducible refine sAnd ?_))
        refine loop_sets (fun x : Nat × Fd => [(9, .un), (57, .pv (iv x.1)), (58, .un), (67, .un), (84, .pv (.one (bI x.2.f))), (85, .pv (.one (bI x.2.m))), (86, .pv (.one (bI x.2.r))), (87, .pv (.one (bI x.2.k)))]) (fun x : Nat × Fd => p.links.length - x.1) (fun x : Nat × Fd => x.1 ≤ p.links.length ∧ (∃ K2, x.2.le K2 ∧ K2 + (p.links.length - x.1) ≤ K' + 4) ∧ x.2.add (ntLk (p.links.drop x.1)) = a.add (ntLk p.links)) ((0, a)) ?_ ⟨Nat.zero_le _, ⟨K', ha, hK1⟩, by simp⟩ ?_
        focus (simp (config := { maxSteps := 2000000 }) only [go_sem, reduceCtorEq, Nat.reduceAdd, Nat.reduceEqDiff, reduceIte, Nat.reduceLeDiff, Nat.reduceLT, Nat.reduceSub, le_cons, le_nil, le_un, le_same]; all_goals (repeat' (first | exact trivial | exact le_int (by omega) | exact le_bool rfl | exact le_eq rfl | exact le_nlo | exact le_refl _ | refine And.intro ?_ ?_)))
        rintro ⟨j, b⟩ ⟨hj, ⟨K2, hb, hK2⟩, hsb⟩
        simp only at hj hb hK2 hsb
        try simp (config := { maxSteps := 2000000 }) only [go_sem, reduceCtorEq, Nat.reduceAdd, Nat.reduceEqDiff, reduceIte, Nat.reduceLeDiff, Nat.reduceLT, Nat.reduceSub]
        all_goals (repeat (with_reducible refine sAnd ?_))
        refine cond_of (by rfl) trivial (fun h4 => ?_) (fun h4 => ?_)
        · have hjl : j < p.links.length := by simp at h4; omega
          rw [drop_get (d := 0) hjl] at hsb
          have hg2 := intsR_get p.links j hjl
          obtain ⟨v, hv⟩ : ∃ v, v = p.links.getD j 0 := ⟨_, rfl⟩
          rw [← hv] at hg2 hsb
          have hvb : (bif decide (v < 1) then true else decide (4 < v)) = lkBad v := by
            unfold lkBad
            by_cases h5 : v < 1 <;> by_cases h6 : 4 < v <;> simp [h5, h6] <;> omega
          have hk := hb.k
          try simp (config := { maxSteps := 2000000 }) only [go_sem, reduceCtorEq, Nat.reduceAdd, Nat.reduceEqDiff, reduceIte, Nat.reduceLeDiff, Nat.reduceLT, Nat.reduceSub, hg2]
          all_goals (repeat (with_reducible refine sAnd ?_))
          refine call_un (by repeat' constructor) (c_note_k b (bif decide (v < 1) then true else decide (4 < v)) (by omega)) ?_
          try simp (config := { maxSteps := 2000000 }) only [go_sem, reduceCtorEq, Nat.reduceAdd, Nat.reduceEqDiff, reduceIte, Nat.reduceLeDiff, Nat.reduceLT, Nat.reduceSub, hvb]
          all_goals (repeat (with_reducible refine sAnd ?_))
          refine ⟨(j + 1, b.add (fK (lkBad v))), by simp only; omega, ⟨by simp only; omega, ⟨K2 + 1, hb.le_add (le_fK _), by simp only; omega⟩, ?_⟩, ?_⟩
          · simp only
            rw [← hsb, Fd.add_assoc]
            congr 1
            simp only [ntLk, Fd.add, fK, List.countP_cons, nB]
            congr 1
            split <;> omega
          · simp (config := { maxSteps := 2000000 }) only [go_sem, reduceCtorEq, Nat.reduceAdd, Nat.reduceEqDiff, reduceIte, Nat.reduceLeDiff, Nat.reduceLT, Nat.reduceSub, le_cons, le_nil, le_un, le_same]
            all_goals (repeat' (first | exact trivial | exact le_int (by omega) | exact le_bool rfl | exact le_eq rfl | exact le_nlo | exact le_refl _ | refine And.intro ?_ ?_))
        · have hjl : j = p.links.length := by simp at h4; omega
          subst hjl
          rw [List.drop_length] at hsb
          have e5 : b = a.add (ntLk p.links) := by
            rw [← hsb]
            simp [ntLk, Fd.add]
          have hK3 : K2 ≤ K' + 4 := by omega
          have hK4 : K2 + (p.steps.length - 0) * bdS d ≤ K' + bdP d := by
            have : (p.steps.length - 0) * bdS d ≤ 5 * bdS d := Nat.mul_le_mul_right _ (by omega)
            omega
          try simp (config := { maxSteps := 2000000 }) only [go_sem, reduceCtorEq, Nat.reduceAdd, Nat.reduceEqDiff, reduceIte, Nat.reduceLeDiff, Nat.reduceLT, Nat.reduceSub]
          all_goals (repeat (with_reducible refine sAnd ?_))
          refine loop_sets (fun x : Nat × Fd => [(11, .un), (73, .pv (iv x.1)), (74, .un), (84, .pv (.one (bI x.2.f))), (85, .pv (.one (bI x.2.m))), (86, .pv (.one (bI x.2.r))), (87, .pv (.one (bI x.2.k))), (90, .un), (91, .un)]) (fun x : Nat × Fd => p.steps.length - x.1) (fun x : Nat × Fd => x.1 ≤ p.steps.length ∧ (∃ K3, x.2.le K3 ∧ K3 + (p.steps.length - x.1) * bdS d ≤ K' + bdP d) ∧ x.2.add (ntSs (p.steps.drop x.1) d) = b.add (ntSs p.steps d)) ((0, b)) ?_ ⟨Nat.zero_le _, ⟨K2, hb, hK4⟩, by simp⟩ ?_
          focus (simp (config := { maxSteps := 2000000 }) only [go_sem, reduceCtorEq, Nat.reduceAdd, Nat.reduceEqDiff, reduceIte, Nat.reduceLeDiff, Nat.reduceLT, Nat.reduceSub, le_cons, le_nil, le_un, le_same]; all_goals (repeat' (first | exact trivial | exact le_int (by omega) | exact le_bool rfl | exact le_eq rfl | exact le_nlo | exact le_refl _ | refine And.intro ?_ ?_)))
          rintro ⟨k, e6⟩ ⟨hk, ⟨K3, he6, hK5⟩, hse⟩
          simp only at hk he6 hK5 hse
          try simp (config := { maxSteps := 2000000 }) only [go_sem, reduceCtorEq, Nat.reduceAdd, Nat.reduceEqDiff, reduceIte, Nat.reduceLeDiff, Nat.reduceLT, Nat.reduceSub]
          all_goals (repeat (with_reducible refine sAnd ?_))
          refine cond_of (by rfl) trivial (fun h6 => ?_) (fun h6 => ?_)
          · have hkl : k < p.steps.length := by simp at h6; omega
            rw [drop_get (d := default) hkl] at hse
            obtain ⟨q, hq⟩ : ∃ q, q = p.steps.getD k default := ⟨_, rfl⟩
            rw [← hq] at hse
            have hg3 : (stsV p.steps).getD k [] = [bS q.tag, .sl 6 (tssV q.tests)] := by rw [stsV_get _ k hkl, ← hq, stV_eq]
            have hqs : SizeOf.sizeOf q ≤ N := by
              have h7 := lt_st hkl
              rw [← hq] at h7
              omega
            have hmul2 : (p.steps.length - k) * bdS d = bdS d + (p.steps.length - (k + 1)) * bdS d := by
              have : p.steps.length - k = (p.steps.length - (k + 1)) + 1 := by omega
              rw [this, Nat.add_mul]; omega
            have hst := ih.2 q d K3 e6 hqs hd3.1 he6 (by omega)
            rw [stV_eq] at hst
            unfold fdV at hst
            try simp (config := { maxSteps := 2000000 }) only [go_sem, reduceCtorEq, Nat.reduceAdd, Nat.reduceEqDiff, reduceIte, Nat.reduceLeDiff, Nat.reduceLT, Nat.reduceSub, hg3]
            all_goals (repeat (with_reducible refine sAnd ?_))
            refine call_un (by repeat' constructor) (hst) ?_
            try simp (config := { maxSteps := 2000000 }) only [go_sem, reduceCtorEq, Nat.reduceAdd, Nat.reduceEqDiff, reduceIte, Nat.reduceLeDiff, Nat.reduceLT, Nat.reduceSub]
            all_goals (repeat (with_reducible refine sAnd ?_))
            refine ⟨(k + 1, e6.add (ntS q d)), by simp only; omega, ⟨by simp only; omega, ⟨K3 + bdS d, he6.le_add (b_S q d), by simp only; omega⟩, ?_⟩, ?_⟩
            · simp only [ntSs] at hse ⊢
              rw [← hse, Fd.add_assoc]
            · simp (config := { maxSteps := 2000000 }) only [go_sem, reduceCtorEq, Nat.reduceAdd, Nat.reduceEqDiff, reduceIte, Nat.reduceLeDiff, Nat.reduceLT, Nat.reduceSub, le_cons, le_nil, le_un, le_same]
              all_goals (repeat' (first | exact trivial | exact le_int (by omega) | exact le_bool rfl | exact le_eq rfl | exact le_nlo | exact le_refl _ | refine And.intro ?_ ?_))
          · have hkl : k = p.steps.length := by simp at h6; omega
            subst hkl
            rw [List.drop_length] at hse
            have e7 : e6 = b.add (ntSs p.steps d) := by rw [← hse]; rfl
            try simp (config := { maxSteps := 2000000 }) only [go_sem, reduceCtorEq, Nat.reduceAdd, Nat.reduceEqDiff, reduceIte, Nat.reduceLeDiff, Nat.reduceLT, Nat.reduceSub]
            all_goals (repeat (with_reducible refine sAnd ?_))
            refine ⟨(i + 1, e6), by simp only; omega, ⟨by simp only; omega, ⟨K3, he6, by simp only; omega⟩, ?_⟩, ?_⟩
            · simp only
              rw [← hsum, e7, e5, ntP_eq, Fd.add_assoc, Fd.add_assoc, Fd.add_assoc]
            · simp (config := { maxSteps := 2000000 }) only [go_sem, reduceCtorEq, Nat.reduceAdd, Nat.reduceEqDiff, reduceIte, Nat.reduceLeDiff, Nat.reduceLT, Nat.reduceSub, le_cons, le_nil, le_un, le_same]
              all_goals (repeat' (first | exact trivial | exact le_int (by omega) | exact le_bool rfl | exact le_eq rfl | exact le_nlo | exact le_refl _ | refine And.intro ?_ ?_))
    · have hil : i = l.length := by simp at h2; omega
      subst hil
      rw [List.drop_length] at hsum
      try simp (config := { maxSteps := 2000000 }) only [go_sem, reduceCtorEq, Nat.reduceAdd, Nat.reduceEqDiff, reduceIte, Nat.reduceLeDiff, Nat.reduceLT, Nat.reduceSub]
      all_goals (repeat (with_reducible refine sAnd ?_))
      rw [← hsum]
      exact fin_unio_n rfl rfl
end Go.Hx
end

section
-- DOM getO
set_option maxRecDepth 100000
set_option linter.unusedSimpArgs false
namespace Go.Hx
open Go.Proofs
variable [Glob]

attribute [local go_sem] ndsV_len clsV_len attV_len intsR_len ndV cellsEq getO
theorem q_ref_within (n lo hi : Int) : Contract Tryd.prog fn_ref_within [.val (iv n), .val (iv lo), .val (iv hi)] { res := .val (bv (decide (lo ≤ n ∧ n ≤ hi))) } := by
  refine mk_ref_within (base := 0) ⟨Nat.le_of_ble_eq_true rfl, Nat.le_of_ble_eq_true rfl, Nat.le_of_ble_eq_true rfl, rfl⟩ (fun hfit => ?_)
  unfold F0 ref_within_E
  simp (config := { maxSteps := 2000000 }) only [markU, List.set_cons_succ, List.set_cons_zero, List.map_cons, List.map_nil, argCt, setCells, ioOf, List.length_cons, List.length_nil, Nat.reduceAdd, Nat.reduceSub, List.replicate, List.cons_append, List.nil_append]
  try simp (config := { maxSteps := 2000000 }) only [go_sem, reduceCtorEq, Nat.reduceAdd, Nat.reduceEqDiff, reduceIte, Nat.reduceLeDiff, Nat.reduceLT, Nat.reduceSub]
  all_goals (repeat (with_reducible refine sAnd ?_))
  refine fin_val rfl trivial (.inl ?_)
  congr 3
  by_cases h1 : lo ≤ n <;> by_cases h2 : n ≤ hi <;> simp [h1, h2]

theorem nthE_ok {a b : Int} (h : nthE a b = 0) : (-1048576 ≤ a ∧ a ≤ 1048576) ∧ (-1048576 ≤ b ∧ b ≤ 1048576) := by
  unfold nthE at h
  split at h
  · rename_i h1; simpa [numOk] using h1
  · cases h
def nthV (a b : Int) : PVal := .agg [bI a, bI b]

theorem c_ref_CheckNth (a b : Int) : Contract Tryd.prog fn_ref_CheckNth [.val (nthV a b)] { res := .val (iv (nthE a b)) } := by
  unfold nthV
  refine mk_ref_CheckNth (base := 0) ⟨Nat.le_of_ble_eq_true rfl, Nat.le_of_ble_eq_true rfl, Nat.le_of_ble_eq_true rfl, rfl⟩ (fun hfit => ?_)
  unfold F0 ref_CheckNth_E
  simp (config := { maxSteps := 2000000 }) only [markU, List.set_cons_succ, List.set_cons_zero, List.map_cons, List.map_nil, argCt, setCells, ioOf, List.length_cons, List.length_nil, Nat.reduceAdd, Nat.reduceSub, List.replicate, List.cons_append, List.nil_append]
  try simp (config := { maxSteps := 2000000 }) only [go_sem, reduceCtorEq, Nat.reduceAdd, Nat.reduceEqDiff, reduceIte, Nat.reduceLeDiff, Nat.reduceLT, Nat.reduceSub]
  all_goals (repeat (with_reducible refine sAnd ?_))
  refine call_val (by repeat' constructor) (q_ref_within a (-1048576) 1048576) ?_
  try simp (config := { maxSteps := 2000000 }) only [go_sem, reduceCtorEq, Nat.reduceAdd, Nat.reduceEqDiff, reduceIte, Nat.reduceLeDiff, Nat.reduceLT, Nat.reduceSub]
  all_goals (repeat (with_reducible refine sAnd ?_))
  apply call_guard (h2 := fun _ => q_ref_within b (-1048576) 1048576)
  · (simp (config := { maxSteps := 2000000 }) only [go_sem, reduceCtorEq, Nat.reduceAdd, Nat.reduceEqDiff, reduceIte, Nat.reduceLeDiff, Nat.reduceLT, Nat.reduceSub]; rfl)
  · intro h; repeat' (first | exact trivial | exact h | refine And.intro ?_ ?_)
  try simp (config := { maxSteps := 2000000 }) only [go_sem, reduceCtorEq, Nat.reduceAdd, Nat.reduceEqDiff, reduceIte, Nat.reduceLeDiff, Nat.reduceLT, Nat.reduceSub]
  all_goals (repeat (with_reducible refine sAnd ?_))
  refine cond_of (by rfl) trivial (fun h => ?_) (fun h => ?_)
  · try simp (config := { maxSteps := 2000000 }) only [go_sem, reduceCtorEq, Nat.reduceAdd, Nat.reduceEqDiff, reduceIte, Nat.reduceLeDiff, Nat.reduceLT, Nat.reduceSub]
    all_goals (repeat (with_reducible refine sAnd ?_))
    refine fin_val rfl trivial (.inl ?_)
    congr 3
    unfold nthE numOk
    rw [if_neg]
    simp at h ⊢
    omega
  · try simp (config := { maxSteps := 2000000 }) only [go_sem, reduceCtorEq, Nat.reduceAdd, Nat.reduceEqDiff, reduceIte, Nat.reduceLeDiff, Nat.reduceLT, Nat.reduceSub]
    all_goals (repeat (with_reducible refine sAnd ?_))
    refine fin_val rfl trivial (.inl ?_)
    congr 3
    unfold nthE numOk
    rw [if_pos]
    simp at h ⊢
    omega

theorem c_nth_Check (a b : Int) : Contract Tryd.prog fn_nth_Check [.val (nthV a b)] { res := .val (iv (nthE a b)) } := by
  unfold nthV
  refine mk_nth_Check (base := 0) ⟨Nat.le_of_ble_eq_true rfl, Nat.le_of_ble_eq_true rfl, Nat.le_of_ble_eq_true rfl, rfl⟩ (fun hfit => ?_)
  unfold F0 nth_Check_E
  simp (config := { maxSteps := 2000000 }) only [markU, List.set_cons_succ, List.set_cons_zero, List.map_cons, List.map_nil, argCt, setCells, ioOf, List.length_cons, List.length_nil, Nat.reduceAdd, Nat.reduceSub, List.replicate, List.cons_append, List.nil_append]
  try simp (config := { maxSteps := 2000000 }) only [go_sem, reduceCtorEq, Nat.reduceAdd, Nat.reduceEqDiff, reduceIte, Nat.reduceLeDiff, Nat.reduceLT, Nat.reduceSub]
  all_goals (repeat (with_reducible refine sAnd ?_))
  refine loop_sets (fun i : Nat => [(4, .un), (10, .pv (iv i)), (11, .un), (18, .un)]) (fun i : Nat => 2 - i) (fun i : Nat => i ≤ 2 ∧ (1 ≤ i → numOk a = true) ∧ (2 ≤ i → numOk b = true)) (0) ?_ ⟨by omega, by omega, by omega⟩ ?_
  focus (simp (config := { maxSteps := 2000000 }) only [go_sem, reduceCtorEq, Nat.reduceAdd, Nat.reduceEqDiff, reduceIte, Nat.reduceLeDiff, Nat.reduceLT, Nat.reduceSub, le_cons, le_nil, le_un, le_same]; all_goals (repeat' (first | exact trivial | exact le_int (by omega) | exact le_bool rfl | exact le_eq rfl | exact le_nlo | exact le_refl _ | refine And.intro ?_ ?_)))
  intro i hi
  obtain ⟨h1, h2, h3⟩ := hi
  try simp (config := { maxSteps := 2000000 }) only [go_sem, reduceCtorEq, Nat.reduceAdd, Nat.reduceEqDiff, reduceIte, Nat.reduceLeDiff, Nat.reduceLT, Nat.reduceSub]
  all_goals (repeat (with_reducible refine sAnd ?_))
  refine cond_of (by rfl) trivial (fun h => ?_) (fun h => ?_)
  · have hlt : i < 2 := by simp at h; omega
    have hcase : i = 0 ∨ i = 1 := by omega
    rcases hcase with rfl | rfl
    · try simp (config := { maxSteps := 2000000 }) only [go_sem, reduceCtorEq, Nat.reduceAdd, Nat.reduceEqDiff, reduceIte, Nat.reduceLeDiff, Nat.reduceLT, Nat.reduceSub, List.getD_cons_zero, Int.toNat_natCast, Int.cast_ofNat_Int, Int.toNat_zero, PV.norm]
      all_goals (repeat (with_reducible refine sAnd ?_))
      refine cond_of (by rfl) trivial (fun h9 => ?_) (fun h9 => ?_)
      · try simp (config := { maxSteps := 2000000 }) only [go_sem, reduceCtorEq, Nat.reduceAdd, Nat.reduceEqDiff, reduceIte, Nat.reduceLeDiff, Nat.reduceLT, Nat.reduceSub]
        all_goals (repeat (with_reducible refine sAnd ?_))
        refine fin_val rfl trivial (.inl ?_)
        congr 3
        unfold nthE
        rw [if_neg]
        simp [numOk] at h9 ⊢
        omega
      · try simp (config := { maxSteps := 2000000 }) only [go_sem, reduceCtorEq, Nat.reduceAdd, Nat.reduceEqDiff, reduceIte, Nat.reduceLeDiff, Nat.reduceLT, Nat.reduceSub]
        all_goals (repeat (with_reducible refine sAnd ?_))
        refine ⟨1, by omega, ⟨by omega, fun _ => ?_, by omega⟩, ?_⟩
        · simp [numOk] at h9 ⊢; omega
        · simp (config := { maxSteps := 2000000 }) only [go_sem, reduceCtorEq, Nat.reduceAdd, Nat.reduceEqDiff, reduceIte, Nat.reduceLeDiff, Nat.reduceLT, Nat.reduceSub, le_cons, le_nil, le_un, le_same]
          all_goals (repeat' (first | exact trivial | exact le_int (by omega) | exact le_bool rfl | exact le_eq rfl | exact le_nlo | exact le_refl _ | refine And.intro ?_ ?_))
    · try simp (config := { maxSteps := 2000000 }) only [go_sem, reduceCtorEq, Nat.reduceAdd, Nat.reduceEqDiff, reduceIte, Nat.reduceLeDiff, Nat.reduceLT, Nat.reduceSub, List.getD_cons_zero, List.getD_cons_succ, Int.toNat_natCast, Int.cast_ofNat_Int, Int.toNat_one, PV.norm]
      all_goals (repeat (with_reducible refine sAnd ?_))
      refine cond_of (by rfl) trivial (fun h9 => ?_) (fun h9 => ?_)
      · try simp (config := { maxSteps := 2000000 }) only [go_sem, reduceCtorEq, Nat.reduceAdd, Nat.reduceEqDiff, reduceIte, Nat.reduceLeDiff, Nat.reduceLT, Nat.reduceSub]
        all_goals (repeat (with_reducible refine sAnd ?_))
        refine fin_val rfl trivial (.inl ?_)
        congr 3
        unfold nthE
        rw [if_neg]
        simp [numOk] at h9 ⊢
        omega
      · try simp (config := { maxSteps := 2000000 }) only [go_sem, reduceCtorEq, Nat.reduceAdd, Nat.reduceEqDiff, reduceIte, Nat.reduceLeDiff, Nat.reduceLT, Nat.reduceSub]
        all_goals (repeat (with_reducible refine sAnd ?_))
        refine ⟨2, by omega, ⟨by omega, fun _ => h2 (by omega), fun _ => ?_⟩, ?_⟩
        · simp [numOk] at h9 ⊢; omega
        · simp (config := { maxSteps := 2000000 }) only [go_sem, reduceCtorEq, Nat.reduceAdd, Nat.reduceEqDiff, reduceIte, Nat.reduceLeDiff, Nat.reduceLT, Nat.reduceSub, le_cons, le_nil, le_un, le_same]
          all_goals (repeat' (first | exact trivial | exact le_int (by omega) | exact le_bool rfl | exact le_eq rfl | exact le_nlo | exact le_refl _ | refine And.intro ?_ ?_))
  · try simp (config := { maxSteps := 2000000 }) only [go_sem, reduceCtorEq, Nat.reduceAdd, Nat.reduceEqDiff, reduceIte, Nat.reduceLeDiff, Nat.reduceLT, Nat.reduceSub]
    all_goals (repeat (with_reducible refine sAnd ?_))
    have : i = 2 := by simp at h; omega
    refine fin_val rfl trivial (.inl ?_)
    congr 3
    unfold nthE
    rw [h2 (by omega), h3 (by omega)]
    rfl

/-- Does the count hold? -/
def nthHolds (a b i : Int) : Bool := decide (nthE a b = 0 ∧ 1 ≤ i ∧ i ≤ 1073741824) && (if a = 0 then decide (i - b = 0) else decide ((i - b).tmod a = 0) && decide (0 ≤ (i - b).tdiv a))
theorem tdiv_small {x y : Int} (h1 : -2147483648 ≤ x) (h2 : x ≤ 2147483648) : -2147483648 ≤ x.tdiv y ∧ x.tdiv y ≤ 2147483648 := by
  have h := Int.natAbs_tdiv_le_natAbs x y
  omega
theorem c_nth_Holds (a b i : Int) : Contract Tryd.prog fn_nth_Holds [.val (nthV a b), .val (iv i)] { res := .val (bv (nthHolds a b i)) } := by
  unfold nthV
  refine mk_nth_Holds (base := 0) ⟨Nat.le_of_ble_eq_true rfl, Nat.le_of_ble_eq_true rfl, Nat.le_of_ble_eq_true rfl, rfl⟩ (fun hfit => ?_)
  unfold F0 nth_Holds_E
  simp (config := { maxSteps := 2000000 }) only [markU, List.set_cons_succ, List.set_cons_zero, List.map_cons, List.map_nil, argCt, setCells, ioOf, List.length_cons, List.length_nil, Nat.reduceAdd, Nat.reduceSub, List.replicate, List.cons_append, List.nil_append]
  try simp (config := { maxSteps := 2000000 }) only [go_sem, reduceCtorEq, Nat.reduceAdd, Nat.reduceEqDiff, reduceIte, Nat.reduceLeDiff, Nat.reduceLT, Nat.reduceSub]
  all_goals (repeat (with_reducible refine sAnd ?_))
  refine call_val (by repeat' constructor) (c_nth_Check a b) ?_
  try simp (config := { maxSteps := 2000000 }) only [go_sem, reduceCtorEq, Nat.reduceAdd, Nat.reduceEqDiff, reduceIte, Nat.reduceLeDiff, Nat.reduceLT, Nat.reduceSub]
  all_goals (repeat (with_reducible refine sAnd ?_))
  refine cond_of (by rfl) trivial (fun h => ?_) (fun h => ?_)
  · try simp (config := { maxSteps := 2000000 }) only [go_sem, reduceCtorEq, Nat.reduceAdd, Nat.reduceEqDiff, reduceIte, Nat.reduceLeDiff, Nat.reduceLT, Nat.reduceSub]
    all_goals (repeat (with_reducible refine sAnd ?_))
    refine fin_val rfl trivial (.inl ?_)
    congr 3
    unfold nthHolds
    rw [decide_eq_false]
    · rfl
    · simp at h; omega
  have h2 : nthE a b = 0 ∧ 1 ≤ i ∧ i ≤ 1073741824 := by simp at h; omega
  obtain ⟨h3, h4⟩ := nthE_ok h2.1
  try simp (config := { maxSteps := 2000000 }) only [go_sem, reduceCtorEq, Nat.reduceAdd, Nat.reduceEqDiff, reduceIte, Nat.reduceLeDiff, Nat.reduceLT, Nat.reduceSub]
  all_goals (repeat (with_reducible refine sAnd ?_))
  have hh : nthHolds a b i = (if a = 0 then decide (i - b = 0) else decide ((i - b).tmod a = 0) && decide (0 ≤ (i - b).tdiv a)) := by
    unfold nthHolds
    rw [decide_eq_true h2, Bool.true_and]
  refine cond_of (by rfl) trivial (fun h5 => ?_) (fun h5 => ?_)
  · try simp (config := { maxSteps := 2000000 }) only [go_sem, reduceCtorEq, Nat.reduceAdd, Nat.reduceEqDiff, reduceIte, Nat.reduceLeDiff, Nat.reduceLT, Nat.reduceSub]
    all_goals (repeat (with_reducible refine sAnd ?_))
    refine fin_val rfl trivial (.inl ?_)
    congr 3
    rw [hh, if_pos (by simpa using h5)]
    grind
  · have ha : a ≠ 0 := by simpa using h5
    have hd := tdiv_small (x := i - b) (y := a) (by omega) (by omega)
    try simp (config := { maxSteps := 2000000 }) only [go_sem, reduceCtorEq, Nat.reduceAdd, Nat.reduceEqDiff, reduceIte, Nat.reduceLeDiff, Nat.reduceLT, Nat.reduceSub, ha]
    all_goals (repeat (with_reducible refine sAnd ?_))
    refine fin_val rfl trivial (.inl ?_)
    congr 3
    rw [hh, if_neg ha]
    grind
end Go.Hx
end

section
namespace Go.Hx
open Go.Proofs
variable [Glob]

attribute [local go_sem] ndsV_len clsV_len attV_len intsR_len ndV cellsEq
theorem c_ref_within (n lo hi : Int) : Contract Tryd.prog fn_ref_within [.val (iv n), .val (iv lo), .val (iv hi)] { res := .val (bv (decide (lo ≤ n ∧ n ≤ hi))) } := by
  refine mk_ref_within (base := 0) ⟨Nat.le_of_ble_eq_true rfl, Nat.le_of_ble_eq_true rfl, Nat.le_of_ble_eq_true rfl, rfl⟩ (fun hfit => ?_)
  unfold F0 ref_within_E
  simp (config := { maxSteps := 2000000 }) only [markU, List.set_cons_succ, List.set_cons_zero, List.map_cons, List.map_nil, argCt, setCells, ioOf, List.length_cons, List.length_nil, Nat.reduceAdd, Nat.reduceSub, List.replicate, List.cons_append, List.nil_append]
  try simp (config := { maxSteps := 2000000 }) only [go_sem, reduceCtorEq, Nat.reduceAdd, Nat.reduceEqDiff, reduceIte, Nat.reduceLeDiff, Nat.reduceLT, Nat.reduceSub]
  all_goals (repeat (with_reducible refine sAnd ?_))
  refine fin_val rfl trivial (.inl ?_)
  congr 3
  by_cases h1 : lo ≤ n <;> by_cases h2 : n ≤ hi <;> simp [h1, h2]

theorem c_ref_IsName (s : Bys) : Contract Tryd.prog fn_ref_IsName [.val (sv s)] { res := .val (bv (isName s)) } := by
  refine mk_ref_IsName (base := 0) ⟨Nat.le_of_ble_eq_true rfl, Nat.le_of_ble_eq_true rfl, Nat.le_of_ble_eq_true rfl, rfl⟩ (fun hfit => ?_)
  unfold F0 ref_IsName_E
  simp (config := { maxSteps := 2000000 }) only [markU, List.set_cons_succ, List.set_cons_zero, List.map_cons, List.map_nil, argCt, setCells, ioOf, List.length_cons, List.length_nil, Nat.reduceAdd, Nat.reduceSub, List.replicate, List.cons_append, List.nil_append]
  try simp (config := { maxSteps := 2000000 }) only [go_sem, reduceCtorEq, Nat.reduceAdd, Nat.reduceEqDiff, reduceIte, Nat.reduceLeDiff, Nat.reduceLT, Nat.reduceSub]
  all_goals (repeat (with_reducible refine sAnd ?_))
  refine call_val (by repeat' constructor) (c_ref_within _ _ _) ?_
  try simp (config := { maxSteps := 2000000 }) only [go_sem, reduceCtorEq, Nat.reduceAdd, Nat.reduceEqDiff, reduceIte, Nat.reduceLeDiff, Nat.reduceLT, Nat.reduceSub]
  all_goals (repeat (with_reducible refine sAnd ?_))
  refine cond_of (by rfl) trivial (fun h => ?_) (fun h => ?_)
  · try simp (config := { maxSteps := 2000000 }) only [go_sem, reduceCtorEq, Nat.reduceAdd, Nat.reduceEqDiff, reduceIte, Nat.reduceLeDiff, Nat.reduceLT, Nat.reduceSub]
    all_goals (repeat (with_reducible refine sAnd ?_))
    refine fin_val rfl trivial (.inl ?_)
    congr 3
    cases hn : isName s with
    | false => rfl
    | true => exfalso; simp [isName] at hn h; omega
  have hl : s.length ≤ 12 := by simp at h; omega
  try simp (config := { maxSteps := 2000000 }) only [go_sem, reduceCtorEq, Nat.reduceAdd, Nat.reduceEqDiff, reduceIte, Nat.reduceLeDiff, Nat.reduceLT, Nat.reduceSub]
  all_goals (repeat (with_reducible refine sAnd ?_))
  refine loop_sets (fun i : Nat => [(3, .pv (iv i)), (4, .un), (22, .un), (46, .un)]) (fun i => s.length - i) (fun i => i ≤ s.length ∧ (s.take i).all nameCh = true) 0 ?_ ⟨Nat.zero_le _, rfl⟩ ?_
  · simp (config := { maxSteps := 2000000 }) only [go_sem, reduceCtorEq, Nat.reduceAdd, Nat.reduceEqDiff, reduceIte, Nat.reduceLeDiff, Nat.reduceLT, Nat.reduceSub, le_cons, le_nil, le_un, le_same]
  intro i ⟨hi, hall⟩
  try simp (config := { maxSteps := 2000000 }) only [go_sem, reduceCtorEq, Nat.reduceAdd, Nat.reduceEqDiff, reduceIte, Nat.reduceLeDiff, Nat.reduceLT, Nat.reduceSub]
  all_goals (repeat (with_reducible refine sAnd ?_))
  refine cond_of (by rfl) trivial (fun h2 => ?_) (fun h2 => ?_)
  · have hlt : i < s.length := by simpa using h2
    try simp (config := { maxSteps := 2000000 }) only [go_sem, reduceCtorEq, Nat.reduceAdd, Nat.reduceEqDiff, reduceIte, Nat.reduceLeDiff, Nat.reduceLT, Nat.reduceSub]
    all_goals (repeat (with_reducible refine sAnd ?_))
    refine cond_of (by rfl) trivial (fun h3 => ?_) (fun h3 => ?_)
    · try simp (config := { maxSteps := 2000000 }) only [go_sem, reduceCtorEq, Nat.reduceAdd, Nat.reduceEqDiff, reduceIte, Nat.reduceLeDiff, Nat.reduceLT, Nat.reduceSub]
      all_goals (repeat (with_reducible refine sAnd ?_))
      refine fin_val rfl trivial (.inl ?_)
      congr 3
      cases hn : isName s with
      | false => rfl
      | true =>
        exfalso
        simp only [isName, Bool.and_eq_true, List.all_eq_true] at hn
        have h4 := hn.2 (s.getD i 0) (by simp [hlt])
        simp [nameCh, hlt] at h3 h4
        omega
    · try simp (config := { maxSteps := 2000000 }) only [go_sem, reduceCtorEq, Nat.reduceAdd, Nat.reduceEqDiff, reduceIte, Nat.reduceLeDiff, Nat.reduceLT, Nat.reduceSub]
      all_goals (repeat (with_reducible refine sAnd ?_))
      refine ⟨i + 1, by omega, ⟨hlt, ?_⟩, ?_⟩
      · rw [all_take_succ hlt (d := 0), hall]
        simp [nameCh, hlt] at h3 ⊢
        omega
      · simp (config := { maxSteps := 2000000 }) only [go_sem, reduceCtorEq, Nat.reduceAdd, Nat.reduceEqDiff, reduceIte, Nat.reduceLeDiff, Nat.reduceLT, Nat.reduceSub, le_cons, le_nil, le_un, le_same]
        exact le_int (by omega)
  · try simp (config := { maxSteps := 2000000 }) only [go_sem, reduceCtorEq, Nat.reduceAdd, Nat.reduceEqDiff, reduceIte, Nat.reduceLeDiff, Nat.reduceLT, Nat.reduceSub]
    all_goals (repeat (with_reducible refine sAnd ?_))
    refine fin_val rfl trivial (.inl ?_)
    congr 3
    have hi2 : i = s.length := by simp at h2; omega
    subst hi2
    simp [isName] at hall h ⊢
    exact ⟨by omega, hall⟩

theorem c_ref_IsValue (s : Bys) : Contract Tryd.prog fn_ref_IsValue [.val (sv s)] { res := .val (bv (isValue s)) } := by
  refine mk_ref_IsValue (base := 0) ⟨Nat.le_of_ble_eq_true rfl, Nat.le_of_ble_eq_true rfl, Nat.le_of_ble_eq_true rfl, rfl⟩ (fun hfit => ?_)
  unfold F0 ref_IsValue_E
  simp (config := { maxSteps := 2000000 }) only [markU, List.set_cons_succ, List.set_cons_zero, List.map_cons, List.map_nil, argCt, setCells, ioOf, List.length_cons, List.length_nil, Nat.reduceAdd, Nat.reduceSub, List.replicate, List.cons_append, List.nil_append]
  try simp (config := { maxSteps := 2000000 }) only [go_sem, reduceCtorEq, Nat.reduceAdd, Nat.reduceEqDiff, reduceIte, Nat.reduceLeDiff, Nat.reduceLT, Nat.reduceSub]
  all_goals (repeat (with_reducible refine sAnd ?_))
  refine cond_of (by rfl) trivial (fun h => ?_) (fun h => ?_)
  · try simp (config := { maxSteps := 2000000 }) only [go_sem, reduceCtorEq, Nat.reduceAdd, Nat.reduceEqDiff, reduceIte, Nat.reduceLeDiff, Nat.reduceLT, Nat.reduceSub]
    all_goals (repeat (with_reducible refine sAnd ?_))
    refine fin_val rfl trivial (.inl ?_)
    simp [isValue] at h ⊢
    intro h'; omega
  have hl : s.length ≤ 16 := by simp at h; omega
  try simp (config := { maxSteps := 2000000 }) only [go_sem, reduceCtorEq, Nat.reduceAdd, Nat.reduceEqDiff, reduceIte, Nat.reduceLeDiff, Nat.reduceLT, Nat.reduceSub]
  all_goals (repeat (with_reducible refine sAnd ?_))
  refine loop_sets (fun i : Nat => [(3, .pv (iv i)), (10, .un), (28, .un)]) (fun i => s.length - i) (fun i => i ≤ s.length ∧ (s.take i).all valCh = true) 0 ?_ ⟨Nat.zero_le _, rfl⟩ ?_
  · simp (config := { maxSteps := 2000000 }) only [go_sem, reduceCtorEq, Nat.reduceAdd, Nat.reduceEqDiff, reduceIte, Nat.reduceLeDiff, Nat.reduceLT, Nat.reduceSub, le_cons, le_nil, le_un, le_same]
  intro i ⟨hi, hall⟩
  try simp (config := { maxSteps := 2000000 }) only [go_sem, reduceCtorEq, Nat.reduceAdd, Nat.reduceEqDiff, reduceIte, Nat.reduceLeDiff, Nat.reduceLT, Nat.reduceSub]
  all_goals (repeat (with_reducible refine sAnd ?_))
  refine cond_of (by rfl) trivial (fun h => ?_) (fun h => ?_)
  · have hlt : i < s.length := by simpa using h
    try simp (config := { maxSteps := 2000000 }) only [go_sem, reduceCtorEq, Nat.reduceAdd, Nat.reduceEqDiff, reduceIte, Nat.reduceLeDiff, Nat.reduceLT, Nat.reduceSub]
    all_goals (repeat (with_reducible refine sAnd ?_))
    refine cond_of (by rfl) trivial (fun h2 => ?_) (fun h2 => ?_)
    · try simp (config := { maxSteps := 2000000 }) only [go_sem, reduceCtorEq, Nat.reduceAdd, Nat.reduceEqDiff, reduceIte, Nat.reduceLeDiff, Nat.reduceLT, Nat.reduceSub]
      all_goals (repeat (with_reducible refine sAnd ?_))
      refine fin_val rfl trivial (.inl ?_)
      congr 3
      cases hn : isValue s with
      | false => rfl
      | true =>
        exfalso
        simp only [isValue, Bool.and_eq_true, List.all_eq_true] at hn
        have h4 := hn.2 (s.getD i 0) (by simp [hlt])
        simp [valCh, hlt] at h2 h4
        omega
    · try simp (config := { maxSteps := 2000000 }) only [go_sem, reduceCtorEq, Nat.reduceAdd, Nat.reduceEqDiff, reduceIte, Nat.reduceLeDiff, Nat.reduceLT, Nat.reduceSub]
      all_goals (repeat (with_reducible refine sAnd ?_))
      refine ⟨i + 1, by omega, ⟨hlt, ?_⟩, ?_⟩
      · rw [all_take_succ hlt (d := 0), hall]
        simp [valCh, hlt] at h2 ⊢
        omega
      · simp (config := { maxSteps := 2000000 }) only [go_sem, reduceCtorEq, Nat.reduceAdd, Nat.reduceEqDiff, reduceIte, Nat.reduceLeDiff, Nat.reduceLT, Nat.reduceSub, le_cons, le_nil, le_un, le_same]
        exact le_int (by omega)
  · try simp (config := { maxSteps := 2000000 }) only [go_sem, reduceCtorEq, Nat.reduceAdd, Nat.reduceEqDiff, reduceIte, Nat.reduceLeDiff, Nat.reduceLT, Nat.reduceSub]
    all_goals (repeat (with_reducible refine sAnd ?_))
    refine fin_val rfl trivial (.inl ?_)
    have hi2 : i = s.length := by simp at h; omega
    subst hi2
    simp [isValue, hl] at hall ⊢
    exact hall
end Go.Hx
end
