/-
  The abstract code of functions of the program, printed by gen.py; each stands for the given one. No condition.
-/
import Derived.Test.YtjnagiaooecklaaDoorProg
import Derived.Test.YtjnagiaooecklaaDoorHxM
import Derived.Test.YtjnagiaooecklaaDoorC1
import Derived.Test.YtjnagiaooecklaaDoorC2
set_option linter.all false
namespace Go.Hx
open Go.Proofs
abbrev fn_doc_Put : Nat := 27
abbrev fn_law_DocChanges : Nat := 5
abbrev fn_law_DocInserts : Nat := 4
abbrev fn_law_DocTells : Nat := 3
abbrev fn_law_docBegun : Nat := 19
abbrev fn_ref_InsertDoc : Nat := 25
abbrev fn_ref_PutDoc : Nat := 29
abbrev fn_ref_foreign : Nat := 73
abbrev doc_ownV_r0 : HCode := .reg [⟨none, .vnl 4 ty_api_Node 5⟩] false []
abbrev doc_ownV_r1 : HCode := .reg [⟨none, .vnl 5 ty_api_Node 5⟩] false []
abbrev doc_ownV_r2 : HCode := .reg [⟨none, .val 8 (.mv (.t 0))⟩,
    ⟨none, .val 9 (.len false (.t 8))⟩,
    ⟨none, .val 10 (.mv (.c (iv 0)))⟩] false []
abbrev doc_ownV_r3 : HCode := .reg [⟨none, .val 11 (.ints .lss (.t 10) (.t 9))⟩] false []
abbrev doc_ownV_r4 : HCode := .reg [⟨none, .val 12 (.idxA 5 (.t 8) (.t 10))⟩,
    ⟨none, .val 13 (.ldR (.t 12) 5 true)⟩,
    ⟨none, .alloc 7 0 33 [.v (.int .i64 0), .v (mkS []), .v (mkS []), .nl 1, .nl 2]⟩,
    ⟨none, .sto (.t 7) 0 33 0 5 (.t 13)⟩] false [.forget [12, 13]]
abbrev doc_ownV_r5 : HCode := .drg [⟨0, false, ⟨none, .val 14 (.mv (.t 1))⟩⟩,
    ⟨1, false, ⟨none, .val 15 (.fldP (.t 7) 0)⟩⟩,
    ⟨2, false, ⟨none, .val 16 (.ldB (.t 15) 0 33 0 1 false)⟩⟩,
    ⟨3, false, ⟨none, .callv (some 17) (.t 14) [(.t 16, .v)]⟩⟩,
    ⟨4, false, ⟨none, .val 18 (.fldP (.t 7) 3)⟩⟩,
    ⟨5, false, ⟨none, .val 19 (.ldB (.t 18) 0 33 3 1 false)⟩⟩,
    ⟨6, false, ⟨none, .call (some 20) fn_slices_Clone_string [(.t 19, .v)]⟩⟩,
    ⟨7, false, ⟨none, .val 21 (.fldP (.t 7) 4)⟩⟩,
    ⟨8, false, ⟨none, .val 22 (.ldB (.t 21) 0 33 4 1 false)⟩⟩,
    ⟨9, false, ⟨none, .call (some 23) fn_slices_Clone_Attr [(.t 22, .v)]⟩⟩,
    ⟨10, false, ⟨none, .val 24 (.fldP (.t 7) 0)⟩⟩,
    ⟨11, false, ⟨none, .sto (.t 24) 0 33 0 1 (.t 17)⟩⟩,
    ⟨12, false, ⟨none, .val 25 (.fldP (.t 7) 3)⟩⟩,
    ⟨13, false, ⟨none, .sto (.t 25) 0 33 3 1 (.t 20)⟩⟩,
    ⟨14, false, ⟨none, .val 26 (.fldP (.t 7) 4)⟩⟩,
    ⟨15, false, ⟨none, .sto (.t 26) 0 33 4 1 (.t 23)⟩⟩] [.forget [14, 15, 16, 17, 18, 19, 20, 21, 22, 23, 24, 25, 26]]
abbrev doc_ownV_r6 : HCode := .reg [⟨none, .vmv 27 5⟩,
    ⟨none, .val 28 (.ldB (.t 7) 0 33 0 5 true)⟩,
    ⟨none, .val 29 (.bslF 5 [.t 28])⟩,
    ⟨none, .vap 30 ty_api_Node 5 27 (.t 29)⟩,
    ⟨none, .vmv 5 30⟩] false [.forget [27, 28, 29, 30]]
abbrev doc_ownV_r7 : HCode := .reg [⟨none, .val 31 (.ints .add (.t 10) (.c (iv 1)))⟩,
    ⟨none, .val 10 (.mv (.t 31))⟩] false [.forget [31]]
abbrev doc_ownV_r8 : HCode := .reg [⟨none, .vmv 32 5⟩,
    ⟨none, .vmv 4 32⟩] false [.forget [32]]
abbrev doc_ownV : HCode := (.seq doc_ownV_r0 (.seq doc_ownV_r1 (.seq (.seq doc_ownV_r2 (.block 0 (.loop (.seq doc_ownV_r3 (.seq (.cond (.t 11) .skip (.exit 0)) (.seq (.block 1 (.seq doc_ownV_r4 (.seq doc_ownV_r5 doc_ownV_r6))) doc_ownV_r7)))))) (.seq doc_ownV_r8 .ret))))
abbrev doc_ownV_E : Env := { N := 33, Γ := [(33, 5)], L := 38, nfix := 0 }
abbrev doc_ownV_R : List RSrc := [.tmp 4]
theorem mk_doc_ownV {base : Nat} {av : List AV} {r : RV} (hfo : formOk doc_ownV_E base av) (hW : AVs.fits av → hwp Tryd.prog doc_ownV (finQ doc_ownV_E base av doc_ownV_R r) (F0 doc_ownV_E base av)) (hov : ∀ x, r.res = .ov x → nOwn av = 0 := by intro x h; cases h <;> rfl) : Contract Tryd.prog fn_doc_own av r :=
  contract_of_wp (fn := Tryd.f57) (c := Tryd.f57.body.getD .skip) (by kernel_rfl) (by kernel_rfl) (by kernel_rfl) (by kernel_rfl) (by kernel_rfl) (by kernel_rfl) (by kernel_rfl) hfo hW hov
abbrev doc_PutV_r0 : HCode := .reg [⟨none, .val 3 (.boxF (.t 0))⟩,
    ⟨none, .box 5 0 44 5 (.t 2)⟩,
    ⟨none, .alloc 6 1 49 [.nl 5]⟩,
    ⟨none, .val 7 (.mv (.c (iv 0)))⟩] false []
abbrev doc_PutV_r1 : HCode := .reg [⟨none, .val 10 (.ldR (.t 3) 1 true)⟩,
    ⟨none, .val 11 (.mv (.t 1))⟩,
    ⟨none, .call (some 12) fn_doc_there [(.t 10, .v), (.t 11, .v)]⟩,
    ⟨none, .val 8 (.mv (.t 12))⟩] false [.forget [10, 11, 12]]
abbrev doc_PutV_r2 : HCode := .reg [⟨none, .val 13 (.mv (.t 8))⟩,
    ⟨none, .val 14 (.ints .neq (.t 13) (.c (iv 0)))⟩] false [.forget [13]]
abbrev doc_PutV_r3 : HCode := .reg [⟨none, .val 15 (.bld [.nl 5] [])⟩,
    ⟨none, .val 16 (.mv (.t 8))⟩,
    ⟨none, .sto (.t 6) 1 49 0 1 (.t 15)⟩,
    ⟨none, .val 7 (.mv (.t 16))⟩] false [.forget [15, 16]]
abbrev doc_PutV_r4 : HCode := .reg [⟨none, .val 17 (.ldB (.t 5) 0 44 0 5 true)⟩,
    ⟨none, .call (some 18) fn_doc_Fine [(.t 17, .v)]⟩,
    ⟨none, .val 19 (.not (.t 18))⟩] false [.forget [17, 18]]
abbrev doc_PutV_r5 : HCode := .reg [⟨none, .val 20 (.bld [.nl 5] [])⟩,
    ⟨none, .sto (.t 6) 1 49 0 1 (.t 20)⟩,
    ⟨none, .val 7 (.mv (.c (iv 1)))⟩] false [.forget [20]]
abbrev doc_PutV_r6 : HCode := .reg [⟨none, .val 21 (.fldR (.t 3) 0 1)⟩,
    ⟨none, .val 22 (.ldR (.t 21) 1 false)⟩,
    ⟨none, .call (some 23) fn_doc_own [(.t 22, .v), (.f fn_doc_Put_1, .v)]⟩,
    ⟨none, .vmv 9 23⟩] false [.forget [21, 22, 23], .pin 9 0 0 []]
abbrev doc_PutV_r7 : HCode := .drg [⟨0, false, ⟨none, .val 24 (.mv (.t 9))⟩⟩,
    ⟨1, false, ⟨none, .val 25 (.mv (.t 1))⟩⟩,
    ⟨2, false, ⟨none, .val 26 (.idxA 5 (.t 24) (.t 25))⟩⟩,
    ⟨3, false, ⟨none, .val 27 (.fldP (.t 26) 0)⟩⟩,
    ⟨4, false, ⟨none, .vlp 28 (.t 27) 9 0 0 [] 1 false⟩⟩,
    ⟨5, false, ⟨none, .val 29 (.fldP (.t 5) 3)⟩⟩,
    ⟨6, false, ⟨none, .val 30 (.ldB (.t 29) 0 44 3 1 false)⟩⟩,
    ⟨7, false, ⟨none, .call (some 31) fn_slices_Clone_string [(.t 30, .v)]⟩⟩,
    ⟨8, false, ⟨none, .val 32 (.fldP (.t 5) 4)⟩⟩,
    ⟨9, false, ⟨none, .val 33 (.ldB (.t 32) 0 44 4 1 false)⟩⟩,
    ⟨10, false, ⟨none, .call (some 34) fn_slices_Clone_Attr [(.t 33, .v)]⟩⟩,
    ⟨11, false, ⟨none, .val 35 (.fldP (.t 5) 0)⟩⟩,
    ⟨12, false, ⟨none, .sto (.t 35) 0 44 0 1 (.t 28)⟩⟩,
    ⟨13, false, ⟨none, .val 36 (.fldP (.t 5) 3)⟩⟩,
    ⟨14, false, ⟨none, .sto (.t 36) 0 44 3 1 (.t 31)⟩⟩,
    ⟨15, false, ⟨none, .val 37 (.fldP (.t 5) 4)⟩⟩,
    ⟨16, false, ⟨none, .sto (.t 37) 0 44 4 1 (.t 34)⟩⟩] [.forget [24, 25, 26, 27, 28, 29, 30, 31, 32, 33, 34, 35, 36, 37]]
abbrev doc_PutV_r8 : HCode := .reg [⟨none, .val 38 (.mv (.t 9))⟩,
    ⟨none, .val 39 (.mv (.t 1))⟩,
    ⟨none, .val 40 (.ldB (.t 5) 0 44 0 5 true)⟩,
    ⟨none, .val 41 (.idxA 5 (.t 38) (.t 39))⟩,
    ⟨none, .vse (.t 41) 9 0 0 [] 5 (.t 40)⟩] false [.forget [38, 39, 40, 41], .vfr 9 0 0]
abbrev doc_PutV_r9 : HCode := .reg [⟨none, .val 42 (.mv (.t 9))⟩,
    ⟨none, .val 43 (.bld [.nl 5] [(0, 1, .t 42)])⟩,
    ⟨none, .sto (.t 6) 1 49 0 1 (.t 43)⟩,
    ⟨none, .val 7 (.mv (.c (iv 0)))⟩] false [.forget [42, 43]]
abbrev doc_PutV : HCode := (.seq doc_PutV_r0 (.seq (.seq doc_PutV_r1 (.seq doc_PutV_r2 (.cond (.t 14) (.seq doc_PutV_r3 .ret) .skip))) (.seq (.seq doc_PutV_r4 (.cond (.t 19) (.seq doc_PutV_r5 .ret) .skip)) (.seq doc_PutV_r6 (.seq doc_PutV_r7 (.seq doc_PutV_r8 (.seq doc_PutV_r9 .ret)))))))
abbrev doc_PutV_E : Env := { N := 44, Γ := [(44, 5), (49, 1)], L := 50, nfix := 0 }
abbrev doc_PutV_R : List RSrc := [.cellB 6 1 49 0 1 true, .tmp 7]
theorem mk_doc_PutV {base : Nat} {av : List AV} {r : RV} (hfo : formOk doc_PutV_E base av) (hW : AVs.fits av → hwp Tryd.prog doc_PutV (finQ doc_PutV_E base av doc_PutV_R r) (F0 doc_PutV_E base av)) (hov : ∀ x, r.res = .ov x → nOwn av = 0 := by intro x h; cases h <;> rfl) : Contract Tryd.prog fn_doc_Put av r :=
  contract_of_wp (fn := Tryd.f27) (c := Tryd.f27.body.getD .skip) (by kernel_rfl) (by kernel_rfl) (by kernel_rfl) (by kernel_rfl) (by kernel_rfl) (by kernel_rfl) (by kernel_rfl) hfo hW hov
abbrev law_docBegun_r0 : HCode := .reg [⟨none, .val 0 (.mv (.c (bv false)))⟩] false []
abbrev law_docBegun_r1 : HCode := .reg [⟨none, .call (some 14) fn_law_small []⟩,
    ⟨none, .call (some 15) fn_doc_Kids [(.t 14, .v), (.c (iv 0), .v)]⟩,
    ⟨none, .val 13 (.mv (.t 15))⟩,
    ⟨none, .val 16 (.ext 13 0)⟩,
    ⟨none, .val 17 (.ext 13 1)⟩,
    ⟨none, .val 1 (.mv (.t 16))⟩,
    ⟨none, .val 2 (.mv (.t 17))⟩] false [.forget [13, 14, 15, 16, 17]]
abbrev law_docBegun_r2 : HCode := .reg [⟨none, .call (some 19) fn_law_small []⟩,
    ⟨none, .call (some 20) fn_doc_Under [(.t 19, .v), (.c (iv 2), .v)]⟩,
    ⟨none, .val 18 (.mv (.t 20))⟩,
    ⟨none, .val 21 (.ext 18 0)⟩,
    ⟨none, .val 22 (.ext 18 1)⟩,
    ⟨none, .val 3 (.mv (.t 21))⟩,
    ⟨none, .val 4 (.mv (.t 22))⟩] false [.forget [18, 19, 20, 21, 22]]
abbrev law_docBegun_r3 : HCode := .reg [⟨none, .call (some 24) fn_law_small []⟩,
    ⟨none, .call (some 25) fn_doc_Part [(.t 24, .v), (.c (iv 2), .v)]⟩,
    ⟨none, .val 23 (.mv (.t 25))⟩,
    ⟨none, .val 26 (.ext 23 0)⟩,
    ⟨none, .val 27 (.ext 23 1)⟩,
    ⟨none, .alloc 5 0 113 [.nl 5]⟩,
    ⟨none, .sto (.t 5) 0 113 0 1 (.t 26)⟩,
    ⟨none, .val 6 (.mv (.t 27))⟩] false [.forget [23, 24, 25, 26, 27]]
abbrev law_docBegun_r4 : HCode := .reg [⟨none, .call (some 29) fn_law_small []⟩,
    ⟨none, .call (some 30) fn_doc_Remove [(.t 29, .v), (.c (iv 2), .v)]⟩,
    ⟨none, .val 28 (.mv (.t 30))⟩,
    ⟨none, .val 31 (.ext 28 0)⟩,
    ⟨none, .val 32 (.ext 28 1)⟩,
    ⟨none, .alloc 7 1 114 [.nl 5]⟩,
    ⟨none, .sto (.t 7) 1 114 0 1 (.t 31)⟩,
    ⟨none, .val 8 (.mv (.t 32))⟩] false [.frz 1 114 1, .forget [28, 29, 30, 31, 32]]
abbrev law_docBegun_r5 : HCode := .reg [⟨none, .val 34 (.ldR (.t 7) 1 true)⟩,
    ⟨none, .val 35 (.ldB (.t 5) 0 113 0 1 true)⟩,
    ⟨none, .call (some 36) fn_doc_Insert [(.t 34, .v), (.c (iv 0), .v), (.c (iv 1), .v), (.t 35, .v)]⟩,
    ⟨none, .val 33 (.mv (.t 36))⟩,
    ⟨none, .val 37 (.ext 33 0)⟩,
    ⟨none, .val 38 (.ext 33 1)⟩,
    ⟨none, .alloc 9 2 115 [.nl 5]⟩,
    ⟨none, .sto (.t 9) 2 115 0 1 (.t 37)⟩,
    ⟨none, .val 10 (.mv (.t 38))⟩] false [.forget [33, 34, 35, 36, 37, 38]]
abbrev law_docBegun_r6 : HCode := .reg [⟨none, .call (some 40) fn_law_small []⟩,
    ⟨none, .val 41 (.bld [.v (.int .i64 0), .v (mkS []), .v (mkS []), .nl 1, .nl 2] [(1, 1, .c (sv [120]))])⟩,
    ⟨none, .call (some 42) fn_doc_Put [(.t 40, .v), (.c (iv 3), .v), (.t 41, .v)]⟩,
    ⟨none, .val 39 (.mv (.t 42))⟩,
    ⟨none, .val 43 (.ext 39 0)⟩,
    ⟨none, .val 44 (.ext 39 1)⟩,
    ⟨none, .alloc 11 3 116 [.nl 5]⟩,
    ⟨none, .sto (.t 11) 3 116 0 1 (.t 43)⟩,
    ⟨none, .val 12 (.mv (.t 44))⟩] false [.frz 3 116 1, .forget [39, 40, 41, 42, 43, 44]]
abbrev law_docBegun_r7 : HCode := .drg [⟨0, true, ⟨none, .call (some 45) fn_law_small []⟩⟩,
    ⟨1, true, ⟨none, .call (some 46) fn_doc_Check [(.t 45, .v)]⟩⟩,
    ⟨2, false, ⟨none, .val 47 (.ints .eql (.t 46) (.c (iv 0)))⟩⟩,
    ⟨3, false, ⟨none, .val 48 (.mv (.t 47))⟩⟩,
    ⟨4, false, ⟨some (48, true), .val 49 (.bld [.nl 5] [])⟩⟩,
    ⟨5, true, ⟨some (48, true), .call (some 50) fn_doc_Check [(.t 49, .v)]⟩⟩,
    ⟨6, false, ⟨some (48, true), .val 51 (.ints .eql (.t 50) (.c (iv 2)))⟩⟩,
    ⟨7, false, ⟨none, .val 52 (.pick (.t 48) (.t 51) (.c (bv false)))⟩⟩,
    ⟨8, false, ⟨none, .val 53 (.mv (.t 52))⟩⟩,
    ⟨9, false, ⟨some (53, true), .val 54 (.mv (.t 2))⟩⟩,
    ⟨10, false, ⟨some (53, true), .val 55 (.ints .eql (.t 54) (.c (iv 0)))⟩⟩,
    ⟨11, false, ⟨none, .val 56 (.pick (.t 53) (.t 55) (.c (bv false)))⟩⟩,
    ⟨12, false, ⟨none, .val 57 (.mv (.t 56))⟩⟩,
    ⟨13, false, ⟨some (57, true), .val 58 (.mv (.t 4))⟩⟩,
    ⟨14, false, ⟨some (57, true), .val 59 (.ints .eql (.t 58) (.c (iv 0)))⟩⟩,
    ⟨15, false, ⟨none, .val 60 (.pick (.t 57) (.t 59) (.c (bv false)))⟩⟩,
    ⟨16, false, ⟨none, .val 61 (.mv (.t 60))⟩⟩,
    ⟨17, false, ⟨some (61, true), .val 62 (.mv (.t 6))⟩⟩,
    ⟨18, false, ⟨some (61, true), .val 63 (.ints .eql (.t 62) (.c (iv 0)))⟩⟩,
    ⟨19, false, ⟨none, .val 64 (.pick (.t 61) (.t 63) (.c (bv false)))⟩⟩,
    ⟨20, false, ⟨none, .val 65 (.mv (.t 64))⟩⟩,
    ⟨21, false, ⟨some (65, true), .val 66 (.mv (.t 8))⟩⟩,
    ⟨22, false, ⟨some (65, true), .val 67 (.ints .eql (.t 66) (.c (iv 0)))⟩⟩,
    ⟨23, false, ⟨none, .val 68 (.pick (.t 65) (.t 67) (.c (bv false)))⟩⟩,
    ⟨24, false, ⟨none, .val 69 (.mv (.t 68))⟩⟩,
    ⟨25, false, ⟨some (69, true), .val 70 (.mv (.t 10))⟩⟩,
    ⟨26, false, ⟨some (69, true), .val 71 (.ints .eql (.t 70) (.c (iv 0)))⟩⟩,
    ⟨27, false, ⟨none, .val 72 (.pick (.t 69) (.t 71) (.c (bv false)))⟩⟩,
    ⟨28, false, ⟨none, .val 73 (.mv (.t 72))⟩⟩,
    ⟨29, false, ⟨some (73, true), .val 74 (.mv (.t 12))⟩⟩,
    ⟨30, false, ⟨some (73, true), .val 75 (.ints .eql (.t 74) (.c (iv 0)))⟩⟩,
    ⟨31, false, ⟨none, .val 76 (.pick (.t 73) (.t 75) (.c (bv false)))⟩⟩,
    ⟨32, false, ⟨none, .val 77 (.mv (.t 76))⟩⟩,
    ⟨33, false, ⟨some (77, true), .val 78 (.mv (.t 1))⟩⟩,
    ⟨34, false, ⟨some (77, true), .val 79 (.bslF 1 [.c (iv 1), .c (iv 2), .c (iv 4)])⟩⟩,
    ⟨35, true, ⟨some (77, true), .call (some 80) fn_ref_SameInts [(.t 78, .v), (.t 79, .v)]⟩⟩,
    ⟨36, false, ⟨none, .val 81 (.pick (.t 77) (.t 80) (.c (bv false)))⟩⟩,
    ⟨37, false, ⟨none, .val 82 (.mv (.t 81))⟩⟩,
    ⟨38, false, ⟨some (82, true), .val 83 (.mv (.t 3))⟩⟩,
    ⟨39, false, ⟨some (82, true), .val 84 (.ints .eql (.t 83) (.c (iv 1)))⟩⟩,
    ⟨40, false, ⟨none, .val 85 (.pick (.t 82) (.t 84) (.c (bv false)))⟩⟩,
    ⟨41, false, ⟨none, .val 86 (.mv (.t 85))⟩⟩,
    ⟨42, false, ⟨some (86, true), .val 87 (.fldR (.t 7) 0 1)⟩⟩,
    ⟨43, false, ⟨some (86, true), .val 88 (.ldR (.t 87) 1 false)⟩⟩,
    ⟨44, false, ⟨some (86, true), .val 89 (.len false (.t 88))⟩⟩,
    ⟨45, false, ⟨some (86, true), .val 90 (.ints .eql (.t 89) (.c (iv 3)))⟩⟩,
    ⟨46, false, ⟨none, .val 91 (.pick (.t 86) (.t 90) (.c (bv false)))⟩⟩,
    ⟨47, false, ⟨none, .val 92 (.mv (.t 91))⟩⟩,
    ⟨48, false, ⟨some (92, true), .val 93 (.ldB (.t 9) 2 115 0 1 true)⟩⟩,
    ⟨49, true, ⟨some (92, true), .call (some 94) fn_law_small []⟩⟩,
    ⟨50, true, ⟨some (92, true), .call (some 95) fn_ref_SameDocs [(.t 93, .v), (.t 94, .v)]⟩⟩,
    ⟨51, false, ⟨none, .val 96 (.pick (.t 92) (.t 95) (.c (bv false)))⟩⟩,
    ⟨52, false, ⟨none, .val 97 (.mv (.t 96))⟩⟩,
    ⟨53, false, ⟨some (97, true), .val 98 (.fldR (.t 11) 0 1)⟩⟩,
    ⟨54, false, ⟨some (97, true), .val 99 (.ldR (.t 98) 1 false)⟩⟩,
    ⟨55, false, ⟨some (97, true), .val 100 (.idxA 5 (.t 99) (.c (iv 3)))⟩⟩,
    ⟨56, false, ⟨some (97, true), .val 101 (.fldR (.t 100) 0 1)⟩⟩,
    ⟨57, false, ⟨some (97, true), .val 102 (.ldR (.t 101) 1 false)⟩⟩,
    ⟨58, false, ⟨some (97, true), .val 103 (.ints .eql (.t 102) (.c (iv 2)))⟩⟩,
    ⟨59, false, ⟨none, .val 104 (.pick (.t 97) (.t 103) (.c (bv false)))⟩⟩,
    ⟨60, false, ⟨none, .val 105 (.mv (.t 104))⟩⟩,
    ⟨61, false, ⟨some (105, true), .val 106 (.fldR (.t 11) 0 1)⟩⟩,
    ⟨62, false, ⟨some (105, true), .val 107 (.ldR (.t 106) 1 false)⟩⟩,
    ⟨63, false, ⟨some (105, true), .val 108 (.idxA 5 (.t 107) (.c (iv 3)))⟩⟩,
    ⟨64, false, ⟨some (105, true), .val 109 (.fldR (.t 108) 1 1)⟩⟩,
    ⟨65, false, ⟨some (105, true), .val 110 (.ldR (.t 109) 1 false)⟩⟩,
    ⟨66, false, ⟨some (105, true), .val 111 (.strs .eql (.t 110) (.c (sv [120])))⟩⟩,
    ⟨67, false, ⟨none, .val 112 (.pick (.t 105) (.t 111) (.c (bv false)))⟩⟩,
    ⟨68, false, ⟨none, .val 0 (.mv (.t 112))⟩⟩] [.forget [45, 46, 47, 48, 49, 50, 51, 52, 53, 54, 55, 56, 57, 58, 59, 60, 61, 62, 63, 64, 65, 66, 67, 68, 69, 70, 71, 72, 73, 74, 75, 76, 77, 78, 79, 80, 81, 82, 83, 84, 85, 86, 87, 88, 89, 90, 91, 92, 93, 94, 95, 96, 97, 98, 99, 100, 101, 102, 103, 104, 105, 106, 107, 108, 109, 110, 111, 112]]
abbrev law_docBegun : HCode := (.seq law_docBegun_r0 (.seq law_docBegun_r1 (.seq law_docBegun_r2 (.seq law_docBegun_r3 (.seq law_docBegun_r4 (.seq law_docBegun_r5 (.seq law_docBegun_r6 (.seq law_docBegun_r7 .ret))))))))
abbrev law_docBegun_E : Env := { N := 113, Γ := [(113, 1), (114, 1), (115, 1), (116, 1)], L := 117, nfix := 0 }
abbrev law_docBegun_R : List RSrc := [.tmp 0]
theorem mk_law_docBegun {base : Nat} {av : List AV} {r : RV} (hfo : formOk law_docBegun_E base av) (hW : AVs.fits av → hwp Tryd.prog law_docBegun (finQ law_docBegun_E base av law_docBegun_R r) (F0 law_docBegun_E base av)) (hov : ∀ x, r.res = .ov x → nOwn av = 0 := by intro x h; cases h <;> rfl) : Contract Tryd.prog fn_law_docBegun av r :=
  contract_of_wp (fn := Tryd.f19) (c := Tryd.f19.body.getD .skip) (by kernel_rfl) (by kernel_rfl) (by kernel_rfl) (by kernel_rfl) (by kernel_rfl) (by kernel_rfl) (by kernel_rfl) hfo hW hov
abbrev law_DocTells_r0 : HCode := .reg [⟨none, .val 2 (.boxF (.t 0))⟩,
    ⟨none, .val 4 (.mv (.c (bv false)))⟩] false []
abbrev law_DocTells_r1 : HCode := .reg [⟨none, .val 16 (.ldR (.t 2) 1 true)⟩,
    ⟨none, .val 17 (.mv (.t 1))⟩,
    ⟨none, .call (some 18) fn_doc_Kids [(.t 16, .v), (.t 17, .v)]⟩,
    ⟨none, .val 15 (.mv (.t 18))⟩,
    ⟨none, .val 19 (.ext 15 0)⟩,
    ⟨none, .val 20 (.ext 15 1)⟩,
    ⟨none, .val 5 (.mv (.t 19))⟩,
    ⟨none, .val 6 (.mv (.t 20))⟩] false [.forget [15, 16, 17, 18, 19, 20]]
abbrev law_DocTells_r2 : HCode := .reg [⟨none, .val 22 (.ldR (.t 2) 1 true)⟩,
    ⟨none, .val 23 (.mv (.t 1))⟩,
    ⟨none, .call (some 24) fn_doc_Under [(.t 22, .v), (.t 23, .v)]⟩,
    ⟨none, .val 21 (.mv (.t 24))⟩,
    ⟨none, .val 25 (.ext 21 0)⟩,
    ⟨none, .val 26 (.ext 21 1)⟩,
    ⟨none, .val 7 (.mv (.t 25))⟩,
    ⟨none, .val 8 (.mv (.t 26))⟩] false [.forget [21, 22, 23, 24, 25, 26]]
abbrev law_DocTells_r3 : HCode := .reg [⟨none, .val 28 (.ldR (.t 2) 1 true)⟩,
    ⟨none, .val 29 (.mv (.t 1))⟩,
    ⟨none, .call (some 30) fn_doc_Part [(.t 28, .v), (.t 29, .v)]⟩,
    ⟨none, .val 27 (.mv (.t 30))⟩,
    ⟨none, .val 31 (.ext 27 0)⟩,
    ⟨none, .val 32 (.ext 27 1)⟩,
    ⟨none, .alloc 9 0 85 [.nl 5]⟩,
    ⟨none, .sto (.t 9) 0 85 0 1 (.t 31)⟩,
    ⟨none, .val 10 (.mv (.t 32))⟩] false [.forget [27, 28, 29, 30, 31, 32]]
abbrev law_DocTells_r4 : HCode := .reg [⟨none, .val 33 (.ldR (.t 2) 1 true)⟩,
    ⟨none, .val 34 (.mv (.t 1))⟩,
    ⟨none, .call (some 35) fn_ref_There [(.t 33, .v), (.t 34, .v)]⟩,
    ⟨none, .val 11 (.mv (.t 35))⟩] false [.forget [33, 34, 35]]
abbrev law_DocTells_r5 : HCode := .reg [⟨none, .val 12 (.mv (.c (.one (.nl 1))))⟩] false []
abbrev law_DocTells_r6 : HCode := .reg [⟨none, .val 13 (.mv (.c (iv 0)))⟩] false []
abbrev law_DocTells_r7 : HCode := .reg [⟨none, .alloc 14 1 86 [.nl 5]⟩] false []
abbrev law_DocTells_r8 : HCode := .reg [⟨none, .val 36 (.mv (.t 11))⟩,
    ⟨none, .val 37 (.ints .eql (.t 36) (.c (iv 0)))⟩] false [.forget [36]]
abbrev law_DocTells_r9 : HCode := .drg [⟨0, false, ⟨none, .val 38 (.ldR (.t 2) 1 true)⟩⟩,
    ⟨1, false, ⟨none, .val 39 (.mv (.t 1))⟩⟩,
    ⟨2, false, ⟨none, .call (some 40) fn_ref_KidsOf [(.t 38, .v), (.t 39, .v)]⟩⟩,
    ⟨3, false, ⟨none, .val 41 (.ldR (.t 2) 1 true)⟩⟩,
    ⟨4, false, ⟨none, .val 42 (.mv (.t 1))⟩⟩,
    ⟨5, false, ⟨none, .call (some 43) fn_ref_UnderOf [(.t 41, .v), (.t 42, .v)]⟩⟩,
    ⟨6, false, ⟨none, .val 44 (.ldR (.t 2) 1 true)⟩⟩,
    ⟨7, false, ⟨none, .val 45 (.mv (.t 1))⟩⟩,
    ⟨8, true, ⟨none, .call (some 46) fn_ref_PartOf [(.t 44, .v), (.t 45, .v)]⟩⟩,
    ⟨9, false, ⟨none, .val 12 (.mv (.t 40))⟩⟩,
    ⟨10, false, ⟨none, .val 13 (.mv (.t 43))⟩⟩,
    ⟨11, false, ⟨none, .sto (.t 14) 1 86 0 1 (.t 46)⟩⟩] [.forget [38, 39, 40, 41, 42, 43, 44, 45, 46]]
abbrev law_DocTells_r10 : HCode := .drg [⟨0, true, ⟨none, .call (some 47) fn_law_docBegun []⟩⟩,
    ⟨1, false, ⟨none, .val 48 (.mv (.t 47))⟩⟩,
    ⟨2, false, ⟨some (48, true), .val 49 (.ldR (.t 2) 1 true)⟩⟩,
    ⟨3, false, ⟨some (48, true), .call (some 50) fn_doc_Check [(.t 49, .v)]⟩⟩,
    ⟨4, false, ⟨some (48, true), .val 51 (.ldR (.t 2) 1 true)⟩⟩,
    ⟨5, true, ⟨some (48, true), .call (some 52) fn_ref_CheckDoc [(.t 51, .v)]⟩⟩,
    ⟨6, false, ⟨some (48, true), .val 53 (.ints .eql (.t 50) (.t 52))⟩⟩,
    ⟨7, false, ⟨none, .val 54 (.pick (.t 48) (.t 53) (.c (bv false)))⟩⟩,
    ⟨8, false, ⟨none, .val 55 (.mv (.t 54))⟩⟩,
    ⟨9, false, ⟨some (55, true), .val 56 (.mv (.t 6))⟩⟩,
    ⟨10, false, ⟨some (55, true), .val 57 (.mv (.t 11))⟩⟩,
    ⟨11, false, ⟨some (55, true), .val 58 (.ints .eql (.t 56) (.t 57))⟩⟩,
    ⟨12, false, ⟨none, .val 59 (.pick (.t 55) (.t 58) (.c (bv false)))⟩⟩,
    ⟨13, false, ⟨none, .val 60 (.mv (.t 59))⟩⟩,
    ⟨14, false, ⟨some (60, true), .val 61 (.mv (.t 8))⟩⟩,
    ⟨15, false, ⟨some (60, true), .val 62 (.mv (.t 11))⟩⟩,
    ⟨16, false, ⟨some (60, true), .val 63 (.ints .eql (.t 61) (.t 62))⟩⟩,
    ⟨17, false, ⟨none, .val 64 (.pick (.t 60) (.t 63) (.c (bv false)))⟩⟩,
    ⟨18, false, ⟨none, .val 65 (.mv (.t 64))⟩⟩,
    ⟨19, false, ⟨some (65, true), .val 66 (.mv (.t 10))⟩⟩,
    ⟨20, false, ⟨some (65, true), .val 67 (.mv (.t 11))⟩⟩,
    ⟨21, false, ⟨some (65, true), .val 68 (.ints .eql (.t 66) (.t 67))⟩⟩,
    ⟨22, false, ⟨none, .val 69 (.pick (.t 65) (.t 68) (.c (bv false)))⟩⟩,
    ⟨23, false, ⟨none, .val 70 (.mv (.t 69))⟩⟩,
    ⟨24, false, ⟨some (70, true), .val 71 (.mv (.t 5))⟩⟩,
    ⟨25, false, ⟨some (70, true), .val 72 (.mv (.t 12))⟩⟩,
    ⟨26, true, ⟨some (70, true), .call (some 73) fn_ref_SameInts [(.t 71, .v), (.t 72, .v)]⟩⟩,
    ⟨27, false, ⟨none, .val 74 (.pick (.t 70) (.t 73) (.c (bv false)))⟩⟩,
    ⟨28, false, ⟨none, .val 75 (.mv (.t 74))⟩⟩,
    ⟨29, false, ⟨some (75, true), .val 76 (.mv (.t 7))⟩⟩,
    ⟨30, false, ⟨some (75, true), .val 77 (.mv (.t 13))⟩⟩,
    ⟨31, false, ⟨some (75, true), .val 78 (.ints .eql (.t 76) (.t 77))⟩⟩,
    ⟨32, false, ⟨none, .val 79 (.pick (.t 75) (.t 78) (.c (bv false)))⟩⟩,
    ⟨33, false, ⟨none, .val 80 (.mv (.t 79))⟩⟩,
    ⟨34, false, ⟨some (80, true), .val 81 (.ldB (.t 9) 0 85 0 1 true)⟩⟩,
    ⟨35, false, ⟨some (80, true), .val 82 (.ldB (.t 14) 1 86 0 1 true)⟩⟩,
    ⟨36, true, ⟨some (80, true), .call (some 83) fn_ref_SameDocs [(.t 81, .v), (.t 82, .v)]⟩⟩,
    ⟨37, false, ⟨none, .val 84 (.pick (.t 80) (.t 83) (.c (bv false)))⟩⟩,
    ⟨38, false, ⟨none, .val 4 (.mv (.t 84))⟩⟩] [.forget [47, 48, 49, 50, 51, 52, 53, 54, 55, 56, 57, 58, 59, 60, 61, 62, 63, 64, 65, 66, 67, 68, 69, 70, 71, 72, 73, 74, 75, 76, 77, 78, 79, 80, 81, 82, 83, 84]]
abbrev law_DocTells : HCode := (.seq law_DocTells_r0 (.seq law_DocTells_r1 (.seq law_DocTells_r2 (.seq law_DocTells_r3 (.seq law_DocTells_r4 (.seq law_DocTells_r5 (.seq law_DocTells_r6 (.seq law_DocTells_r7 (.seq (.seq law_DocTells_r8 (.cond (.t 37) law_DocTells_r9 .skip)) (.seq law_DocTells_r10 .ret))))))))))
abbrev law_DocTells_E : Env := { N := 85, Γ := [(85, 1), (86, 1)], L := 87, nfix := 0 }
abbrev law_DocTells_R : List RSrc := [.tmp 4]
theorem mk_law_DocTells {base : Nat} {av : List AV} {r : RV} (hfo : formOk law_DocTells_E base av) (hW : AVs.fits av → hwp Tryd.prog law_DocTells (finQ law_DocTells_E base av law_DocTells_R r) (F0 law_DocTells_E base av)) (hov : ∀ x, r.res = .ov x → nOwn av = 0 := by intro x h; cases h <;> rfl) : Contract Tryd.prog fn_law_DocTells av r :=
  contract_of_wp (fn := Tryd.f3) (c := Tryd.f3.body.getD .skip) (by kernel_rfl) (by kernel_rfl) (by kernel_rfl) (by kernel_rfl) (by kernel_rfl) (by kernel_rfl) (by kernel_rfl) hfo hW hov
abbrev law_DocInserts_r0 : HCode := .reg [⟨none, .val 4 (.boxF (.t 0))⟩,
    ⟨none, .val 7 (.boxF (.t 3))⟩,
    ⟨none, .val 8 (.mv (.c (bv false)))⟩] false []
abbrev law_DocInserts_r1 : HCode := .reg [⟨none, .val 14 (.ldR (.t 4) 1 true)⟩,
    ⟨none, .val 15 (.mv (.t 1))⟩,
    ⟨none, .val 16 (.mv (.t 2))⟩,
    ⟨none, .val 17 (.ldR (.t 7) 1 true)⟩,
    ⟨none, .call (some 18) fn_doc_Insert [(.t 14, .v), (.t 15, .v), (.t 16, .v), (.t 17, .v)]⟩,
    ⟨none, .val 13 (.mv (.t 18))⟩,
    ⟨none, .val 19 (.ext 13 0)⟩,
    ⟨none, .val 20 (.ext 13 1)⟩,
    ⟨none, .alloc 9 0 40 [.nl 5]⟩,
    ⟨none, .sto (.t 9) 0 40 0 1 (.t 19)⟩,
    ⟨none, .val 10 (.mv (.t 20))⟩] false [.forget [13, 14, 15, 16, 17, 18, 19, 20]]
abbrev law_DocInserts_r2 : HCode := .reg [⟨none, .val 22 (.ldR (.t 4) 1 true)⟩,
    ⟨none, .val 23 (.mv (.t 1))⟩,
    ⟨none, .val 24 (.mv (.t 2))⟩,
    ⟨none, .val 25 (.ldR (.t 7) 1 true)⟩,
    ⟨none, .call (some 26) fn_ref_InsertDoc [(.t 22, .v), (.t 23, .v), (.t 24, .v), (.t 25, .v)]⟩,
    ⟨none, .val 21 (.mv (.t 26))⟩,
    ⟨none, .val 27 (.ext 21 0)⟩,
    ⟨none, .val 28 (.ext 21 1)⟩,
    ⟨none, .alloc 11 1 41 [.nl 5]⟩,
    ⟨none, .sto (.t 11) 1 41 0 1 (.t 27)⟩,
    ⟨none, .val 12 (.mv (.t 28))⟩] false [.forget [21, 22, 23, 24, 25, 26, 27, 28]]
abbrev law_DocInserts_r3 : HCode := .reg [⟨none, .call (some 29) fn_law_docBegun []⟩,
    ⟨none, .val 30 (.mv (.t 29))⟩,
    ⟨some (30, true), .val 31 (.mv (.t 10))⟩,
    ⟨some (30, true), .val 32 (.mv (.t 12))⟩,
    ⟨some (30, true), .val 33 (.ints .eql (.t 31) (.t 32))⟩,
    ⟨none, .val 34 (.pick (.t 30) (.t 33) (.c (bv false)))⟩,
    ⟨none, .val 35 (.mv (.t 34))⟩,
    ⟨some (35, true), .val 36 (.ldB (.t 9) 0 40 0 1 true)⟩,
    ⟨some (35, true), .val 37 (.ldB (.t 11) 1 41 0 1 true)⟩,
    ⟨some (35, true), .call (some 38) fn_ref_SameDocs [(.t 36, .v), (.t 37, .v)]⟩,
    ⟨none, .val 39 (.pick (.t 35) (.t 38) (.c (bv false)))⟩,
    ⟨none, .val 8 (.mv (.t 39))⟩] false [.forget [29, 30, 31, 32, 33, 34, 35, 36, 37, 38, 39]]
abbrev law_DocInserts : HCode := (.seq law_DocInserts_r0 (.seq law_DocInserts_r1 (.seq law_DocInserts_r2 (.seq law_DocInserts_r3 .ret))))
abbrev law_DocInserts_E : Env := { N := 40, Γ := [(40, 1), (41, 1)], L := 42, nfix := 0 }
abbrev law_DocInserts_R : List RSrc := [.tmp 8]
theorem mk_law_DocInserts {base : Nat} {av : List AV} {r : RV} (hfo : formOk law_DocInserts_E base av) (hW : AVs.fits av → hwp Tryd.prog law_DocInserts (finQ law_DocInserts_E base av law_DocInserts_R r) (F0 law_DocInserts_E base av)) (hov : ∀ x, r.res = .ov x → nOwn av = 0 := by intro x h; cases h <;> rfl) : Contract Tryd.prog fn_law_DocInserts av r :=
  contract_of_wp (fn := Tryd.f4) (c := Tryd.f4.body.getD .skip) (by kernel_rfl) (by kernel_rfl) (by kernel_rfl) (by kernel_rfl) (by kernel_rfl) (by kernel_rfl) (by kernel_rfl) hfo hW hov
abbrev law_DocChanges_r0 : HCode := .reg [⟨none, .val 3 (.boxF (.t 0))⟩,
    ⟨none, .val 5 (.boxF (.t 2))⟩,
    ⟨none, .val 6 (.mv (.c (bv false)))⟩] false []
abbrev law_DocChanges_r1 : HCode := .reg [⟨none, .val 16 (.ldR (.t 3) 1 true)⟩,
    ⟨none, .val 17 (.mv (.t 1))⟩,
    ⟨none, .call (some 18) fn_doc_Remove [(.t 16, .v), (.t 17, .v)]⟩,
    ⟨none, .val 15 (.mv (.t 18))⟩,
    ⟨none, .val 19 (.ext 15 0)⟩,
    ⟨none, .val 20 (.ext 15 1)⟩,
    ⟨none, .alloc 7 0 62 [.nl 5]⟩,
    ⟨none, .sto (.t 7) 0 62 0 1 (.t 19)⟩,
    ⟨none, .val 8 (.mv (.t 20))⟩] false [.forget [15, 16, 17, 18, 19, 20]]
abbrev law_DocChanges_r2 : HCode := .reg [⟨none, .val 22 (.ldR (.t 3) 1 true)⟩,
    ⟨none, .val 23 (.mv (.t 1))⟩,
    ⟨none, .val 24 (.ldR (.t 5) 5 true)⟩,
    ⟨none, .call (some 25) fn_doc_Put [(.t 22, .v), (.t 23, .v), (.t 24, .v)]⟩,
    ⟨none, .val 21 (.mv (.t 25))⟩,
    ⟨none, .val 26 (.ext 21 0)⟩,
    ⟨none, .val 27 (.ext 21 1)⟩,
    ⟨none, .alloc 9 1 63 [.nl 5]⟩,
    ⟨none, .sto (.t 9) 1 63 0 1 (.t 26)⟩,
    ⟨none, .val 10 (.mv (.t 27))⟩] false [.forget [21, 22, 23, 24, 25, 26, 27]]
abbrev law_DocChanges_r3 : HCode := .reg [⟨none, .val 29 (.ldR (.t 3) 1 true)⟩,
    ⟨none, .val 30 (.mv (.t 1))⟩,
    ⟨none, .call (some 31) fn_ref_RemoveDoc [(.t 29, .v), (.t 30, .v)]⟩,
    ⟨none, .val 28 (.mv (.t 31))⟩,
    ⟨none, .val 32 (.ext 28 0)⟩,
    ⟨none, .val 33 (.ext 28 1)⟩,
    ⟨none, .alloc 11 2 64 [.nl 5]⟩,
    ⟨none, .sto (.t 11) 2 64 0 1 (.t 32)⟩,
    ⟨none, .val 12 (.mv (.t 33))⟩] false [.forget [28, 29, 30, 31, 32, 33]]
abbrev law_DocChanges_r4 : HCode := .reg [⟨none, .val 35 (.ldR (.t 3) 1 true)⟩,
    ⟨none, .val 36 (.mv (.t 1))⟩,
    ⟨none, .val 37 (.ldR (.t 5) 5 true)⟩,
    ⟨none, .call (some 38) fn_ref_PutDoc [(.t 35, .v), (.t 36, .v), (.t 37, .v)]⟩,
    ⟨none, .val 34 (.mv (.t 38))⟩,
    ⟨none, .val 39 (.ext 34 0)⟩,
    ⟨none, .val 40 (.ext 34 1)⟩,
    ⟨none, .alloc 13 3 65 [.nl 5]⟩,
    ⟨none, .sto (.t 13) 3 65 0 1 (.t 39)⟩,
    ⟨none, .val 14 (.mv (.t 40))⟩] false [.forget [34, 35, 36, 37, 38, 39, 40]]
abbrev law_DocChanges_r5 : HCode := .reg [⟨none, .call (some 41) fn_law_docBegun []⟩,
    ⟨none, .val 42 (.mv (.t 41))⟩,
    ⟨some (42, true), .val 43 (.mv (.t 8))⟩,
    ⟨some (42, true), .val 44 (.mv (.t 12))⟩,
    ⟨some (42, true), .val 45 (.ints .eql (.t 43) (.t 44))⟩,
    ⟨none, .val 46 (.pick (.t 42) (.t 45) (.c (bv false)))⟩,
    ⟨none, .val 47 (.mv (.t 46))⟩,
    ⟨some (47, true), .val 48 (.mv (.t 10))⟩,
    ⟨some (47, true), .val 49 (.mv (.t 14))⟩,
    ⟨some (47, true), .val 50 (.ints .eql (.t 48) (.t 49))⟩,
    ⟨none, .val 51 (.pick (.t 47) (.t 50) (.c (bv false)))⟩,
    ⟨none, .val 52 (.mv (.t 51))⟩,
    ⟨some (52, true), .val 53 (.ldB (.t 7) 0 62 0 1 true)⟩,
    ⟨some (52, true), .val 54 (.ldB (.t 11) 2 64 0 1 true)⟩,
    ⟨some (52, true), .call (some 55) fn_ref_SameDocs [(.t 53, .v), (.t 54, .v)]⟩,
    ⟨none, .val 56 (.pick (.t 52) (.t 55) (.c (bv false)))⟩,
    ⟨none, .val 57 (.mv (.t 56))⟩,
    ⟨some (57, true), .val 58 (.ldB (.t 9) 1 63 0 1 true)⟩,
    ⟨some (57, true), .val 59 (.ldB (.t 13) 3 65 0 1 true)⟩,
    ⟨some (57, true), .call (some 60) fn_ref_SameDocs [(.t 58, .v), (.t 59, .v)]⟩,
    ⟨none, .val 61 (.pick (.t 57) (.t 60) (.c (bv false)))⟩,
    ⟨none, .val 6 (.mv (.t 61))⟩] false [.forget [41, 42, 43, 44, 45, 46, 47, 48, 49, 50, 51, 52, 53, 54, 55, 56, 57, 58, 59, 60, 61]]
abbrev law_DocChanges : HCode := (.seq law_DocChanges_r0 (.seq law_DocChanges_r1 (.seq law_DocChanges_r2 (.seq law_DocChanges_r3 (.seq law_DocChanges_r4 (.seq law_DocChanges_r5 .ret))))))
abbrev law_DocChanges_E : Env := { N := 62, Γ := [(62, 1), (63, 1), (64, 1), (65, 1)], L := 66, nfix := 0 }
abbrev law_DocChanges_R : List RSrc := [.tmp 6]
theorem mk_law_DocChanges {base : Nat} {av : List AV} {r : RV} (hfo : formOk law_DocChanges_E base av) (hW : AVs.fits av → hwp Tryd.prog law_DocChanges (finQ law_DocChanges_E base av law_DocChanges_R r) (F0 law_DocChanges_E base av)) (hov : ∀ x, r.res = .ov x → nOwn av = 0 := by intro x h; cases h <;> rfl) : Contract Tryd.prog fn_law_DocChanges av r :=
  contract_of_wp (fn := Tryd.f5) (c := Tryd.f5.body.getD .skip) (by kernel_rfl) (by kernel_rfl) (by kernel_rfl) (by kernel_rfl) (by kernel_rfl) (by kernel_rfl) (by kernel_rfl) hfo hW hov
abbrev ref_InsertDoc_r0 : HCode := .reg [⟨none, .val 4 (.boxF (.t 0))⟩,
    ⟨none, .val 7 (.boxF (.t 3))⟩,
    ⟨none, .alloc 8 0 62 [.nl 5]⟩,
    ⟨none, .val 9 (.mv (.c (iv 0)))⟩] false []
abbrev ref_InsertDoc_r1 : HCode := .reg [⟨none, .val 12 (.ldR (.t 4) 1 true)⟩,
    ⟨none, .call (some 13) fn_ref_CheckDoc [(.t 12, .v)]⟩,
    ⟨none, .val 10 (.mv (.t 13))⟩] false [.forget [12, 13]]
abbrev ref_InsertDoc_r2 : HCode := .reg [⟨none, .val 14 (.mv (.t 10))⟩,
    ⟨none, .val 15 (.ints .neq (.t 14) (.c (iv 0)))⟩] false [.forget [14]]
abbrev ref_InsertDoc_r3 : HCode := .reg [⟨none, .val 16 (.bld [.nl 5] [])⟩,
    ⟨none, .val 17 (.mv (.t 10))⟩,
    ⟨none, .sto (.t 8) 0 62 0 1 (.t 16)⟩,
    ⟨none, .val 9 (.mv (.t 17))⟩] false [.forget [16, 17]]
abbrev ref_InsertDoc_r4 : HCode := .reg [⟨none, .val 18 (.ldR (.t 7) 1 true)⟩,
    ⟨none, .call (some 19) fn_ref_CheckDoc [(.t 18, .v)]⟩,
    ⟨none, .val 11 (.mv (.t 19))⟩] false [.forget [18, 19]]
abbrev ref_InsertDoc_r5 : HCode := .reg [⟨none, .val 20 (.mv (.t 11))⟩,
    ⟨none, .val 21 (.ints .neq (.t 20) (.c (iv 0)))⟩] false [.forget [20]]
abbrev ref_InsertDoc_r6 : HCode := .reg [⟨none, .val 22 (.bld [.nl 5] [])⟩,
    ⟨none, .val 23 (.mv (.t 11))⟩,
    ⟨none, .sto (.t 8) 0 62 0 1 (.t 22)⟩,
    ⟨none, .val 9 (.mv (.t 23))⟩] false [.forget [22, 23]]
abbrev ref_InsertDoc_r7 : HCode := .reg [⟨none, .val 25 (.mv (.t 1))⟩,
    ⟨none, .val 26 (.fldR (.t 4) 0 1)⟩,
    ⟨none, .val 27 (.ldR (.t 26) 1 false)⟩,
    ⟨none, .val 28 (.len false (.t 27))⟩,
    ⟨none, .val 29 (.ints .sub (.t 28) (.c (iv 1)))⟩,
    ⟨none, .call (some 30) fn_ref_within [(.t 25, .v), (.c (iv 0), .v), (.t 29, .v)]⟩,
    ⟨none, .val 31 (.not (.t 30))⟩,
    ⟨none, .val 24 (.mv (.t 31))⟩] false [.forget [25, 26, 27, 28, 29, 30, 31]]
abbrev ref_InsertDoc_r8 : HCode := .reg [⟨none, .val 32 (.bld [.nl 5] [])⟩,
    ⟨none, .sto (.t 8) 0 62 0 1 (.t 32)⟩,
    ⟨none, .val 9 (.mv (.c (iv 5)))⟩] false [.forget [32]]
abbrev ref_InsertDoc_r9 : HCode := .reg [⟨none, .val 34 (.mv (.t 2))⟩,
    ⟨none, .val 35 (.ldR (.t 4) 1 true)⟩,
    ⟨none, .val 36 (.mv (.t 1))⟩,
    ⟨none, .call (some 37) fn_ref_KidsOf [(.t 35, .v), (.t 36, .v)]⟩,
    ⟨none, .val 38 (.len false (.t 37))⟩,
    ⟨none, .call (some 39) fn_ref_within [(.t 34, .v), (.c (iv 0), .v), (.t 38, .v)]⟩,
    ⟨none, .val 40 (.not (.t 39))⟩,
    ⟨none, .val 33 (.mv (.t 40))⟩] false [.forget [34, 35, 36, 37, 38, 39, 40]]
abbrev ref_InsertDoc_r10 : HCode := .reg [⟨none, .val 41 (.bld [.nl 5] [])⟩,
    ⟨none, .sto (.t 8) 0 62 0 1 (.t 41)⟩,
    ⟨none, .val 9 (.mv (.c (iv 3)))⟩] false [.forget [41]]
abbrev ref_InsertDoc_r11 : HCode := .reg [⟨none, .val 43 (.fldR (.t 4) 0 1)⟩,
    ⟨none, .val 44 (.ldR (.t 43) 1 false)⟩,
    ⟨none, .val 45 (.len false (.t 44))⟩,
    ⟨none, .val 46 (.fldR (.t 7) 0 1)⟩,
    ⟨none, .val 47 (.ldR (.t 46) 1 false)⟩,
    ⟨none, .val 48 (.len false (.t 47))⟩,
    ⟨none, .val 49 (.ints .add (.t 45) (.t 48))⟩,
    ⟨none, .val 50 (.ints .gtr (.t 49) (.c (iv 64)))⟩,
    ⟨none, .val 42 (.mv (.t 50))⟩] false [.forget [43, 44, 45, 46, 47, 48, 49, 50]]
abbrev ref_InsertDoc_r12 : HCode := .reg [⟨none, .val 51 (.bld [.nl 5] [])⟩,
    ⟨none, .sto (.t 8) 0 62 0 1 (.t 51)⟩,
    ⟨none, .val 9 (.mv (.c (iv 2)))⟩] false [.forget [51]]
abbrev ref_InsertDoc_r13 : HCode := .drg [⟨0, false, ⟨none, .val 52 (.ldR (.t 4) 1 true)⟩⟩,
    ⟨1, false, ⟨none, .call (some 53) fn_ref_marked [(.t 52, .v), (.c (iv 0), .v)]⟩⟩,
    ⟨2, false, ⟨none, .val 54 (.mv (.t 1))⟩⟩,
    ⟨3, false, ⟨none, .val 55 (.mv (.t 2))⟩⟩,
    ⟨4, false, ⟨none, .val 56 (.ldR (.t 7) 1 true)⟩⟩,
    ⟨5, true, ⟨none, .call (some 57) fn_ref_treeOf [(.t 56, .v), (.c (iv 0), .v)]⟩⟩,
    ⟨6, true, ⟨none, .call (some 58) fn_ref_foreign [(.t 57, .v)]⟩⟩,
    ⟨7, true, ⟨none, .call (some 59) fn_ref_with [(.t 53, .v), (.t 54, .v), (.t 55, .v), (.t 58, .v)]⟩⟩,
    ⟨8, true, ⟨none, .call (some 60) fn_ref_lay [(.c (.one (.nl 0)), .n ty_api_Node 5), (.t 59, .v), (.c (iv (-1)), .v)]⟩⟩,
    ⟨9, false, ⟨none, .val 61 (.bld [.nl 5] [(0, 1, .t 60)])⟩⟩,
    ⟨10, false, ⟨none, .sto (.t 8) 0 62 0 1 (.t 61)⟩⟩,
    ⟨11, false, ⟨none, .val 9 (.mv (.c (iv 0)))⟩⟩] [.forget [52, 53, 54, 55, 56, 57, 58, 59, 60, 61]]
abbrev ref_InsertDoc : HCode := (.seq ref_InsertDoc_r0 (.seq (.seq ref_InsertDoc_r1 (.seq ref_InsertDoc_r2 (.cond (.t 15) (.seq ref_InsertDoc_r3 .ret) .skip))) (.seq (.seq ref_InsertDoc_r4 (.seq ref_InsertDoc_r5 (.cond (.t 21) (.seq ref_InsertDoc_r6 .ret) .skip))) (.seq (.block 0 (.seq ref_InsertDoc_r7 (.cond (.t 24) (.seq ref_InsertDoc_r8 .ret) (.seq ref_InsertDoc_r9 (.cond (.t 33) (.seq ref_InsertDoc_r10 .ret) (.seq ref_InsertDoc_r11 (.cond (.t 42) (.seq ref_InsertDoc_r12 .ret) .skip))))))) (.seq ref_InsertDoc_r13 .ret)))))
abbrev ref_InsertDoc_E : Env := { N := 62, Γ := [(62, 1)], L := 63, nfix := 0 }
abbrev ref_InsertDoc_R : List RSrc := [.cellB 8 0 62 0 1 true, .tmp 9]
theorem mk_ref_InsertDoc {base : Nat} {av : List AV} {r : RV} (hfo : formOk ref_InsertDoc_E base av) (hW : AVs.fits av → hwp Tryd.prog ref_InsertDoc (finQ ref_InsertDoc_E base av ref_InsertDoc_R r) (F0 ref_InsertDoc_E base av)) (hov : ∀ x, r.res = .ov x → nOwn av = 0 := by intro x h; cases h <;> rfl) : Contract Tryd.prog fn_ref_InsertDoc av r :=
  contract_of_wp (fn := Tryd.f25) (c := Tryd.f25.body.getD .skip) (by kernel_rfl) (by kernel_rfl) (by kernel_rfl) (by kernel_rfl) (by kernel_rfl) (by kernel_rfl) (by kernel_rfl) hfo hW hov
end Go.Hx
