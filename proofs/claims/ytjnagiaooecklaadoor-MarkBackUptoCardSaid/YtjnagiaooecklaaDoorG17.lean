/-
  Walks of functions of the program over an abstract layer, and the laws that they use: each contract says what the function computes, for every input that its conditions let by. No other condition.
-/
import Derived.Test.YtjnagiaooecklaaDoorProg
import Derived.Test.YtjnagiaooecklaaDoorG8
import Derived.Test.YtjnagiaooecklaaDoorG15
import Derived.Test.YtjnagiaooecklaaDoorG9
set_option linter.all false
section
/-
  The abstract code of functions of the program, printed by gen.py; each stands for the given one. No condition.
-/
namespace Go.Hx
open Go.Proofs
variable [Glob]
abbrev fn_mark_Read : Nat := 41
abbrev fn_mark_Read_1 : Nat := 99
abbrev mark_Read_r0 : HCode := .reg [⟨none, .alloc 2 0 113 [.nl 5]⟩,
    ⟨none, .alloc 3 1 114 [.v (.int .i64 0)]⟩] false []
abbrev mark_Read_r2 : HCode := .reg [⟨none, .val 8 (.mv (.t 0))⟩,
    ⟨none, .val 9 (.bld [.v (mkS [])] [(0, 1, .t 8)])⟩,
    ⟨none, .box 10 2 115 1 (.t 9)⟩,
    ⟨none, .val 4 (.mv (.t 10))⟩] false [.forget [8, 9, 10]]
abbrev mark_Read_r3 : HCode := .drg [⟨0, false, ⟨none, .val 11 (.fldP (.t 2) 0)⟩⟩,
    ⟨1, false, ⟨none, .ldo 12 (.t 11) 0 113 0 ty_api_Node 5⟩⟩,
    ⟨2, false, ⟨none, .val 13 (.mv (.t 4))⟩⟩,
    ⟨3, true, ⟨none, .call (some 14) fn_mark_pen_node [(.t 13, .i 2 115 1), (.c (iv (-1)), .v)]⟩⟩,
    ⟨4, false, ⟨none, .val 15 (.bslF 5 [.t 14])⟩⟩,
    ⟨5, false, ⟨none, .app 16 ty_api_Node 5 (.t 12) (.t 15)⟩⟩,
    ⟨6, false, ⟨none, .val 17 (.fldP (.t 2) 0)⟩⟩,
    ⟨7, false, ⟨none, .stw (.t 17) 0 113 0 16⟩⟩] [.forget [11, 12, 13, 14, 15, 16, 17]]
abbrev mark_Read_r4 : HCode := .reg [⟨none, .vnl 5 ty_int 1⟩] false []
abbrev mark_Read_r5 : HCode := .reg [⟨none, .val 18 (.mv (.t 4))⟩,
    ⟨none, .val 19 (.nilck (.t 18))⟩,
    ⟨none, .val 20 (.fldP (.t 19) 0)⟩,
    ⟨none, .val 21 (.ldB (.t 20) 2 115 0 1 false)⟩,
    ⟨none, .val 22 (.strs .neq (.t 21) (.c (sv [])))⟩] false [.forget [18, 19, 20, 21]]
abbrev mark_Read_r6 : HCode := .reg [⟨none, .val 23 (.fldP (.t 2) 0)⟩,
    ⟨none, .val 24 (.ldB (.t 23) 0 113 0 1 false)⟩,
    ⟨none, .val 25 (.len false (.t 24))⟩,
    ⟨none, .val 6 (.mv (.t 25))⟩] false [.forget [23, 24, 25]]
abbrev mark_Read_r7 : HCode := .reg [⟨none, .val 29 (.mv (.t 6))⟩,
    ⟨none, .val 30 (.ints .gtr (.t 29) (.c (iv 64)))⟩,
    ⟨none, .val 28 (.mv (.t 30))⟩] false [.forget [29, 30]]
abbrev mark_Read_r8 : HCode := .reg [⟨none, .val 31 (.bld [] [])⟩,
    ⟨none, .val 32 (.mki ty_mark_broken (.t 31))⟩,
    ⟨none, .pan (.t 32)⟩] false [.forget [31, 32]]
abbrev mark_Read_r9 : HCode := .reg [⟨none, .val 34 (.mv (.t 4))⟩,
    ⟨none, .call (some 35) fn_mark_pen_has [(.t 34, .i 2 115 1), (.c (sv [40]), .v)]⟩,
    ⟨none, .val 33 (.mv (.t 35))⟩] false [.forget [34, 35]]
abbrev mark_Read_r10 : HCode := .reg [⟨none, .vmv 36 5⟩,
    ⟨none, .val 37 (.mv (.t 6))⟩,
    ⟨none, .val 38 (.ints .sub (.t 37) (.c (iv 1)))⟩,
    ⟨none, .val 39 (.bslF 1 [.t 38])⟩,
    ⟨none, .vap 40 ty_int 1 36 (.t 39)⟩,
    ⟨none, .vmv 5 40⟩] false [.forget [36, 37, 38, 39, 40]]
abbrev mark_Read_r11 : HCode := .drg [⟨0, false, ⟨none, .val 41 (.fldP (.t 2) 0)⟩⟩,
    ⟨1, false, ⟨none, .ldo 42 (.t 41) 0 113 0 ty_api_Node 5⟩⟩,
    ⟨2, false, ⟨none, .val 43 (.mv (.t 4))⟩⟩,
    ⟨3, false, ⟨none, .val 44 (.mv (.t 6))⟩⟩,
    ⟨4, false, ⟨none, .val 45 (.ints .sub (.t 44) (.c (iv 1)))⟩⟩,
    ⟨5, true, ⟨none, .call (some 46) fn_mark_pen_node [(.t 43, .i 2 115 1), (.t 45, .v)]⟩⟩,
    ⟨6, false, ⟨none, .val 47 (.bslF 5 [.t 46])⟩⟩,
    ⟨7, false, ⟨none, .app 48 ty_api_Node 5 (.t 42) (.t 47)⟩⟩,
    ⟨8, false, ⟨none, .val 49 (.fldP (.t 2) 0)⟩⟩,
    ⟨9, false, ⟨none, .stw (.t 49) 0 113 0 48⟩⟩] [.forget [41, 42, 43, 44, 45, 46, 47, 48, 49]]
abbrev mark_Read_r12 : HCode := .reg [⟨none, .val 51 (.mv (.t 5))⟩,
    ⟨none, .val 52 (.len false (.t 51))⟩,
    ⟨none, .val 53 (.ints .eql (.t 52) (.c (iv 0)))⟩,
    ⟨none, .val 50 (.mv (.t 53))⟩] false [.forget [51, 52, 53]]
abbrev mark_Read_r13 : HCode := .reg [⟨none, .val 54 (.bld [] [])⟩,
    ⟨none, .val 55 (.mki ty_mark_broken (.t 54))⟩,
    ⟨none, .pan (.t 55)⟩] false [.forget [54, 55]]
abbrev mark_Read_r14 : HCode := .reg [⟨none, .val 57 (.mv (.t 4))⟩,
    ⟨none, .call (some 58) fn_mark_pen_has [(.t 57, .i 2 115 1), (.c (sv [41]), .v)]⟩,
    ⟨none, .val 56 (.mv (.t 58))⟩] false [.forget [57, 58]]
abbrev mark_Read_r15 : HCode := .reg [⟨none, .vmv 59 5⟩,
    ⟨none, .val 60 (.mv (.t 5))⟩,
    ⟨none, .val 61 (.len false (.t 60))⟩,
    ⟨none, .val 62 (.ints .sub (.t 61) (.c (iv 1)))⟩,
    ⟨none, .vtr 63 59 (.t 62)⟩,
    ⟨none, .vmv 5 63⟩] false [.forget [59, 60, 61, 62, 63]]
abbrev mark_Read_r16 : HCode := .reg [⟨none, .val 65 (.mv (.t 4))⟩,
    ⟨none, .call (some 66) fn_mark_pen_has [(.t 65, .i 2 115 1), (.c (sv [32]), .v)]⟩,
    ⟨none, .val 64 (.mv (.t 66))⟩] false [.forget [65, 66]]
abbrev mark_Read_r17 : HCode := .drgG [.pin 5 0 0 []] [⟨0, false, ⟨none, .val 67 (.fldP (.t 2) 0)⟩⟩,
    ⟨1, false, ⟨none, .ldo 68 (.t 67) 0 113 0 ty_api_Node 5⟩⟩,
    ⟨2, false, ⟨none, .val 69 (.mv (.t 4))⟩⟩,
    ⟨3, false, ⟨none, .val 70 (.mv (.t 5))⟩⟩,
    ⟨4, false, ⟨none, .val 71 (.mv (.t 5))⟩⟩,
    ⟨5, false, ⟨none, .val 72 (.len false (.t 71))⟩⟩,
    ⟨6, false, ⟨none, .val 73 (.ints .sub (.t 72) (.c (iv 1)))⟩⟩,
    ⟨7, false, ⟨none, .val 74 (.idxA 1 (.t 70) (.t 73))⟩⟩,
    ⟨8, false, ⟨none, .vlp 75 (.t 74) 5 0 0 [] 1 false⟩⟩,
    ⟨9, true, ⟨none, .call (some 76) fn_mark_pen_node [(.t 69, .i 2 115 1), (.t 75, .v)]⟩⟩,
    ⟨10, false, ⟨none, .val 77 (.bslF 5 [.t 76])⟩⟩,
    ⟨11, false, ⟨none, .app 78 ty_api_Node 5 (.t 68) (.t 77)⟩⟩,
    ⟨12, false, ⟨none, .val 79 (.fldP (.t 2) 0)⟩⟩,
    ⟨13, false, ⟨none, .stw (.t 79) 0 113 0 78⟩⟩] [.forget [67, 68, 69, 70, 71, 72, 73, 74, 75, 76, 77, 78, 79], .unp 5 0 0 []]
abbrev mark_Read_r18 : HCode := .reg [⟨none, .val 26 (.bld [] [])⟩,
    ⟨none, .val 27 (.mki ty_mark_broken (.t 26))⟩,
    ⟨none, .pan (.t 27)⟩] false [.forget [26, 27]]
abbrev mark_Read_r19 : HCode := .reg [⟨none, .val 80 (.fldP (.t 2) 0)⟩,
    ⟨none, .val 81 (.ldB (.t 80) 0 113 0 1 false)⟩,
    ⟨none, .val 82 (.len false (.t 81))⟩,
    ⟨none, .val 83 (.mv (.t 6))⟩,
    ⟨none, .val 84 (.ints .eql (.t 82) (.t 83))⟩,
    ⟨none, .val 85 (.mv (.t 84))⟩,
    ⟨some (85, true), .val 86 (.mv (.t 4))⟩,
    ⟨some (85, true), .val 87 (.nilck (.t 86))⟩,
    ⟨some (85, true), .val 88 (.fldP (.t 87) 0)⟩,
    ⟨some (85, true), .val 89 (.ldB (.t 88) 2 115 0 1 false)⟩,
    ⟨some (85, true), .val 90 (.strs .neq (.t 89) (.c (sv [])))⟩,
    ⟨none, .val 91 (.pick (.t 85) (.t 90) (.c (bv false)))⟩,
    ⟨none, .val 92 (.mv (.t 91))⟩,
    ⟨some (92, true), .val 93 (.mv (.t 4))⟩,
    ⟨some (92, true), .val 94 (.nilck (.t 93))⟩,
    ⟨some (92, true), .val 95 (.fldP (.t 94) 0)⟩,
    ⟨some (92, true), .val 96 (.ldB (.t 95) 2 115 0 1 false)⟩,
    ⟨some (92, true), .val 97 (.idxS (.t 96) (.c (iv 0)))⟩,
    ⟨some (92, true), .val 98 (.ints .eql (.t 97) (.c (.one (.v (.int .u8 40)))))⟩,
    ⟨none, .val 99 (.pick (.t 92) (.t 98) (.c (bv false)))⟩] false [.forget [80, 81, 82, 83, 84, 85, 86, 87, 88, 89, 90, 91, 92, 93, 94, 95, 96, 97, 98]]
abbrev mark_Read_r20 : HCode := .reg [⟨none, .val 100 (.bld [] [])⟩,
    ⟨none, .val 101 (.mki ty_mark_broken (.t 100))⟩,
    ⟨none, .pan (.t 101)⟩] false [.forget [100, 101]]
abbrev mark_Read_r21 : HCode := .reg [⟨none, .val 102 (.mv (.t 5))⟩,
    ⟨none, .val 103 (.len false (.t 102))⟩,
    ⟨none, .val 104 (.ints .gtr (.t 103) (.c (iv 0)))⟩,
    ⟨none, .val 105 (.mv (.t 104))⟩,
    ⟨some (105, false), .val 106 (.ldB (.t 2) 0 113 0 1 true)⟩,
    ⟨some (105, false), .call (some 107) fn_doc_Check [(.t 106, .v)]⟩,
    ⟨some (105, false), .val 108 (.ints .neq (.t 107) (.c (iv 0)))⟩,
    ⟨none, .val 109 (.pick (.t 105) (.c (bv true)) (.t 108))⟩] false [.forget [102, 103, 104, 105, 106, 107, 108]]
abbrev mark_Read_r22 : HCode := .reg [⟨none, .val 110 (.bld [] [])⟩,
    ⟨none, .val 111 (.mki ty_mark_broken (.t 110))⟩,
    ⟨none, .pan (.t 111)⟩] false [.forget [110, 111]]
abbrev mark_Read_r23 : HCode := .reg [⟨none, .val 112 (.ldB (.t 2) 0 113 0 1 true)⟩,
    ⟨none, .sto (.t 2) 0 113 0 1 (.t 112)⟩,
    ⟨none, .sto (.t 3) 1 114 0 1 (.c (iv 0))⟩] false [.forget [112]]
abbrev mark_Read_h0 : HCode := mark_Read_r0
abbrev mark_Read_h1 : HCode := (.seq mark_Read_r2 (.seq mark_Read_r3 (.seq mark_Read_r4 (.seq (.block 0 (.loop (.seq (.seq mark_Read_r5 (.cond (.t 22) .skip (.exit 0))) (.block 1 (.seq mark_Read_r6 (.seq (.block 2 (.seq mark_Read_r7 (.cond (.t 28) mark_Read_r8 (.seq mark_Read_r9 (.cond (.t 33) (.seq mark_Read_r10 mark_Read_r11) (.seq mark_Read_r12 (.cond (.t 50) mark_Read_r13 (.seq mark_Read_r14 (.cond (.t 56) mark_Read_r15 (.seq mark_Read_r16 (.cond (.t 64) mark_Read_r17 mark_Read_r18))))))))))) (.seq mark_Read_r19 (.cond (.t 99) mark_Read_r20 .skip)))))))) (.seq (.seq mark_Read_r21 (.cond (.t 109) mark_Read_r22 .skip)) (.seq mark_Read_r23 .ret))))))
abbrev mark_Read_E : Env := { N := 113, Γ := [(113, 1), (114, 1), (115, 1)], L := 116, nfix := 0 }
abbrev mark_Read_R : List RSrc := [.cellB 2 0 113 0 1 true, .cellB 3 1 114 0 1 false]
abbrev mark_Read_l : List CapB := [⟨2, 0, 113, [.nl 5]⟩, ⟨3, 1, 114, [.v (.int .i64 1)]⟩]
theorem mk_mark_Read {base : Nat} {av : List AV} {r : RV} (hfo : formOk mark_Read_E base av) (hres : (∃ x, r.res = .val x) ∨ ∃ xs, r.res = .tup xs) (hret : DRet Tryd.prog fn_mark_Read_1 2)
    (hW : AVs.fits av → hwp Tryd.prog mark_Read_h0 (fun e F => e = .normal ∧ (∀ x ∈ mark_Read_l, F.getD x.i .un = .ptr x.j 0) ∧ hwp Tryd.prog mark_Read_h1 (finQD Tryd.prog base av mark_Read_R r fn_mark_Read_1 mark_Read_l) (F.set 7 .un)) (F0 mark_Read_E base av)) : Contract Tryd.prog fn_mark_Read av r :=
  contract_of_wpD (fn := Tryd.f41) (c0 := cdL (Tryd.f41.body.getD .skip)) (c1 := cdR (cdR (Tryd.f41.body.getD .skip))) (id := cdI (cdL (cdR (Tryd.f41.body.getD .skip)))) (ops := cdO (cdL (cdR (Tryd.f41.body.getD .skip)))) (by kernel_rfl) (by kernel_rfl) (by kernel_rfl) (by kernel_rfl) (by kernel_rfl) (by kernel_rfl) (g := fn_mark_Read_1) (k := 7) (l := mark_Read_l) (by kernel_rfl) (nf := 2) (by kernel_rfl) (by kernel_rfl) (by kernel_rfl) (by kernel_rfl) hfo hres hret hW
end Go.Hx
end

section
/-
  The abstract code of functions of the program, printed by gen.py; each stands for the given one. No condition.
-/
namespace Go.Hx
open Go.Proofs
variable [Glob]
abbrev fn_law_MarkBack : Nat := 9
abbrev fn_law_markBegun : Nat := 43
abbrev law_markBegun_r0 : HCode := .reg [⟨none, .val 0 (.mv (.c (bv false)))⟩] false []
abbrev law_markBegun_r1 : HCode := .reg [⟨none, .call (some 6) fn_law_small []⟩,
    ⟨none, .call (some 7) fn_mark_Show [(.t 6, .v)]⟩,
    ⟨none, .val 5 (.mv (.t 7))⟩,
    ⟨none, .val 8 (.ext 5 0)⟩,
    ⟨none, .val 9 (.ext 5 1)⟩,
    ⟨none, .val 1 (.mv (.t 8))⟩,
    ⟨none, .val 2 (.mv (.t 9))⟩] false [.forget [5, 6, 7, 8, 9]]
abbrev law_markBegun_r2 : HCode := .reg [⟨none, .val 11 (.mv (.t 1))⟩,
    ⟨none, .call (some 12) fn_mark_Read [(.t 11, .v)]⟩,
    ⟨none, .val 10 (.mv (.t 12))⟩,
    ⟨none, .val 13 (.ext 10 0)⟩,
    ⟨none, .val 14 (.ext 10 1)⟩,
    ⟨none, .alloc 3 0 30 [.nl 5]⟩,
    ⟨none, .sto (.t 3) 0 30 0 1 (.t 13)⟩,
    ⟨none, .val 4 (.mv (.t 14))⟩] false [.forget [10, 11, 12, 13, 14]]
abbrev law_markBegun_r3 : HCode := .drg [⟨0, false, ⟨none, .val 15 (.mv (.t 2))⟩⟩,
    ⟨1, false, ⟨none, .val 16 (.ints .eql (.t 15) (.c (iv 0)))⟩⟩,
    ⟨2, false, ⟨none, .val 17 (.mv (.t 16))⟩⟩,
    ⟨3, false, ⟨some (17, true), .val 18 (.mv (.t 4))⟩⟩,
    ⟨4, false, ⟨some (17, true), .val 19 (.ints .eql (.t 18) (.c (iv 0)))⟩⟩,
    ⟨5, false, ⟨none, .val 20 (.pick (.t 17) (.t 19) (.c (bv false)))⟩⟩,
    ⟨6, false, ⟨none, .val 21 (.mv (.t 20))⟩⟩,
    ⟨7, false, ⟨some (21, true), .val 22 (.mv (.t 1))⟩⟩,
    ⟨8, false, ⟨some (21, true), .val 23 (.strs .eql (.t 22) (.c (sv [108, 105, 115, 116, 35, 116, 111, 112, 40, 105, 116, 101, 109, 46, 97, 32, 105, 116, 101, 109, 46, 98, 40, 108, 105, 110, 107, 91, 116, 111, 61, 34, 111, 110, 101, 32, 116, 119, 111, 34, 93, 41, 32, 105, 116, 101, 109, 46, 97, 41])))⟩⟩,
    ⟨9, false, ⟨none, .val 24 (.pick (.t 21) (.t 23) (.c (bv false)))⟩⟩,
    ⟨10, false, ⟨none, .val 25 (.mv (.t 24))⟩⟩,
    ⟨11, false, ⟨some (25, true), .val 26 (.ldB (.t 3) 0 30 0 1 true)⟩⟩,
    ⟨12, true, ⟨some (25, true), .call (some 27) fn_law_small []⟩⟩,
    ⟨13, true, ⟨some (25, true), .call (some 28) fn_ref_SameDocs [(.t 26, .v), (.t 27, .v)]⟩⟩,
    ⟨14, false, ⟨none, .val 29 (.pick (.t 25) (.t 28) (.c (bv false)))⟩⟩,
    ⟨15, false, ⟨none, .val 0 (.mv (.t 29))⟩⟩] [.forget [15, 16, 17, 18, 19, 20, 21, 22, 23, 24, 25, 26, 27, 28, 29]]
abbrev law_markBegun : HCode := (.seq law_markBegun_r0 (.seq law_markBegun_r1 (.seq law_markBegun_r2 (.seq law_markBegun_r3 .ret))))
abbrev law_markBegun_E : Env := { N := 30, Γ := [(30, 1)], L := 31, nfix := 0 }
abbrev law_markBegun_R : List RSrc := [.tmp 0]
theorem mk_law_markBegun {base : Nat} {av : List AV} {r : RV} (hfo : formOk law_markBegun_E base av) (hW : AVs.fits av → hwp Tryd.prog law_markBegun (finQ law_markBegun_E base av law_markBegun_R r) (F0 law_markBegun_E base av)) (hov : ∀ x, r.res = .ov x → nOwn av = 0 := by intro x h; cases h <;> rfl) : Contract Tryd.prog fn_law_markBegun av r :=
  contract_of_wp (fn := Tryd.f43) (c := Tryd.f43.body.getD .skip) (by kernel_rfl) (by kernel_rfl) (by kernel_rfl) (by kernel_rfl) (by kernel_rfl) (by kernel_rfl) (by kernel_rfl) hfo hW hov
abbrev law_MarkBack_r0 : HCode := .reg [⟨none, .val 2 (.boxF (.t 0))⟩,
    ⟨none, .val 4 (.mv (.c (bv false)))⟩] false []
abbrev law_MarkBack_r1 : HCode := .reg [⟨none, .val 14 (.ldR (.t 2) 1 true)⟩,
    ⟨none, .call (some 15) fn_mark_Show [(.t 14, .v)]⟩,
    ⟨none, .val 13 (.mv (.t 15))⟩,
    ⟨none, .val 16 (.ext 13 0)⟩,
    ⟨none, .val 17 (.ext 13 1)⟩,
    ⟨none, .val 5 (.mv (.t 16))⟩,
    ⟨none, .val 6 (.mv (.t 17))⟩] false [.forget [13, 14, 15, 16, 17]]
abbrev law_MarkBack_r2 : HCode := .reg [⟨none, .val 18 (.mv (.t 6))⟩,
    ⟨none, .val 19 (.ints .eql (.t 18) (.c (iv 0)))⟩] false [.forget [18]]
abbrev law_MarkBack_r3 : HCode := .reg [⟨none, .val 21 (.mv (.t 5))⟩,
    ⟨none, .call (some 22) fn_mark_Read [(.t 21, .v)]⟩,
    ⟨none, .val 20 (.mv (.t 22))⟩,
    ⟨none, .val 23 (.ext 20 0)⟩,
    ⟨none, .val 24 (.ext 20 1)⟩,
    ⟨none, .alloc 7 0 56 [.nl 5]⟩,
    ⟨none, .sto (.t 7) 0 56 0 1 (.t 23)⟩,
    ⟨none, .val 8 (.mv (.t 24))⟩] false [.forget [20, 21, 22, 23, 24]]
abbrev law_MarkBack_r4 : HCode := .reg [⟨none, .val 25 (.mv (.t 8))⟩,
    ⟨none, .val 26 (.ints .neq (.t 25) (.c (iv 0)))⟩,
    ⟨none, .val 27 (.mv (.t 26))⟩,
    ⟨some (27, false), .val 28 (.ldB (.t 7) 0 56 0 1 true)⟩,
    ⟨some (27, false), .val 29 (.ldR (.t 2) 1 true)⟩,
    ⟨some (27, false), .call (some 30) fn_ref_SameDocs [(.t 28, .v), (.t 29, .v)]⟩,
    ⟨some (27, false), .val 31 (.not (.t 30))⟩,
    ⟨none, .val 32 (.pick (.t 27) (.c (bv true)) (.t 31))⟩] false [.forget [25, 26, 27, 28, 29, 30, 31]]
abbrev law_MarkBack_r5 : HCode := .reg [⟨none, .val 4 (.mv (.c (bv false)))⟩] false []
abbrev law_MarkBack_r6 : HCode := .reg [⟨none, .val 34 (.mv (.t 1))⟩,
    ⟨none, .call (some 35) fn_mark_Read [(.t 34, .v)]⟩,
    ⟨none, .val 33 (.mv (.t 35))⟩,
    ⟨none, .val 36 (.ext 33 0)⟩,
    ⟨none, .val 37 (.ext 33 1)⟩,
    ⟨none, .alloc 9 1 57 [.nl 5]⟩,
    ⟨none, .sto (.t 9) 1 57 0 1 (.t 36)⟩,
    ⟨none, .val 10 (.mv (.t 37))⟩] false [.forget [33, 34, 35, 36, 37]]
abbrev law_MarkBack_r7 : HCode := .reg [⟨none, .val 38 (.mv (.t 10))⟩,
    ⟨none, .val 39 (.ints .neq (.t 38) (.c (iv 0)))⟩] false [.forget [38]]
abbrev law_MarkBack_r8 : HCode := .reg [⟨none, .call (some 40) fn_law_markBegun []⟩,
    ⟨none, .val 4 (.mv (.t 40))⟩] false [.forget [40]]
abbrev law_MarkBack_r9 : HCode := .reg [⟨none, .val 42 (.ldB (.t 9) 1 57 0 1 true)⟩,
    ⟨none, .call (some 43) fn_mark_Show [(.t 42, .v)]⟩,
    ⟨none, .val 41 (.mv (.t 43))⟩,
    ⟨none, .val 44 (.ext 41 0)⟩,
    ⟨none, .val 45 (.ext 41 1)⟩,
    ⟨none, .val 11 (.mv (.t 44))⟩,
    ⟨none, .val 12 (.mv (.t 45))⟩] false [.forget [41, 42, 43, 44, 45]]
abbrev law_MarkBack_r10 : HCode := .reg [⟨none, .call (some 46) fn_law_markBegun []⟩,
    ⟨none, .val 47 (.mv (.t 46))⟩,
    ⟨some (47, true), .val 48 (.mv (.t 12))⟩,
    ⟨some (47, true), .val 49 (.ints .eql (.t 48) (.c (iv 0)))⟩,
    ⟨none, .val 50 (.pick (.t 47) (.t 49) (.c (bv false)))⟩,
    ⟨none, .val 51 (.mv (.t 50))⟩,
    ⟨some (51, true), .val 52 (.mv (.t 11))⟩,
    ⟨some (51, true), .val 53 (.mv (.t 1))⟩,
    ⟨some (51, true), .val 54 (.strs .eql (.t 52) (.t 53))⟩,
    ⟨none, .val 55 (.pick (.t 51) (.t 54) (.c (bv false)))⟩,
    ⟨none, .val 4 (.mv (.t 55))⟩] false [.forget [46, 47, 48, 49, 50, 51, 52, 53, 54, 55]]
abbrev law_MarkBack : HCode := (.seq law_MarkBack_r0 (.seq law_MarkBack_r1 (.seq (.seq law_MarkBack_r2 (.cond (.t 19) (.seq law_MarkBack_r3 (.seq law_MarkBack_r4 (.cond (.t 32) (.seq law_MarkBack_r5 .ret) .skip))) .skip)) (.seq law_MarkBack_r6 (.seq (.seq law_MarkBack_r7 (.cond (.t 39) (.seq law_MarkBack_r8 .ret) .skip)) (.seq law_MarkBack_r9 (.seq law_MarkBack_r10 .ret)))))))
abbrev law_MarkBack_E : Env := { N := 56, Γ := [(56, 1), (57, 1)], L := 58, nfix := 0 }
abbrev law_MarkBack_R : List RSrc := [.tmp 4]
theorem mk_law_MarkBack {base : Nat} {av : List AV} {r : RV} (hfo : formOk law_MarkBack_E base av) (hW : AVs.fits av → hwp Tryd.prog law_MarkBack (finQ law_MarkBack_E base av law_MarkBack_R r) (F0 law_MarkBack_E base av)) (hov : ∀ x, r.res = .ov x → nOwn av = 0 := by intro x h; cases h <;> rfl) : Contract Tryd.prog fn_law_MarkBack av r :=
  contract_of_wp (fn := Tryd.f9) (c := Tryd.f9.body.getD .skip) (by kernel_rfl) (by kernel_rfl) (by kernel_rfl) (by kernel_rfl) (by kernel_rfl) (by kernel_rfl) (by kernel_rfl) hfo hW hov
end Go.Hx
end
