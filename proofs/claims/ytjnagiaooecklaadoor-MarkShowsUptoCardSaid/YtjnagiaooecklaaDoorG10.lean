/-
  Walks of functions of the program over an abstract layer, and the laws that they use: each contract says what the function computes, for every input that its conditions let by. No other condition.
-/
import Derived.Test.YtjnagiaooecklaaDoorProg
import Derived.Test.YtjnagiaooecklaaDoorG8
import Derived.Test.YtjnagiaooecklaaDoorG9
set_option linter.all false
section
/-
  The abstract code of functions of the program, printed by gen.py; each stands for the given one. No condition.
-/
namespace Go.Hx
open Go.Proofs
variable [Glob]
abbrev fn_internal_stringslite_CutPrefix : Nat := 161
abbrev fn_mark_Show : Nat := 39
abbrev fn_mark_own : Nat := 96
abbrev fn_mark_pen_attr : Nat := 137
abbrev fn_mark_pen_has : Nat := 101
abbrev fn_mark_pen_must : Nat := 160
abbrev fn_mark_pen_name : Nat := 136
abbrev fn_mark_pen_node : Nat := 100
abbrev fn_ref_DocFrom : Nat := 42
abbrev fn_ref_DocText : Nat := 40
abbrev fn_ref_nodeText : Nat := 98
abbrev fn_ref_reader_name : Nat := 139
abbrev fn_ref_reader_node : Nat := 102
abbrev fn_ref_reader_value : Nat := 141
abbrev fn_strings_Builder_String : Nat := 97
abbrev fn_strings_Builder_WriteByte : Nat := 94
abbrev fn_strings_Builder_WriteString : Nat := 95
abbrev fn_strings_CutPrefix : Nat := 138
abbrev fn_strings_TrimLeft : Nat := 159
abbrev ty_mark_broken : Nat := 131
abbrev ty_strings_Builder : Nat := 117
abbrev ty_uint8 : Nat := 5
abbrev mark_own_r0 : HCode := .reg [⟨none, .val 1 (.boxF (.t 0))⟩,
    ⟨none, .val 2 (.mv (.c (sv [])))⟩] false []
abbrev mark_own_r1 : HCode := .reg [⟨none, .val 8 (.fldR (.t 1) 1 1)⟩,
    ⟨none, .val 9 (.ldR (.t 8) 1 false)⟩,
    ⟨none, .val 3 (.mv (.t 9))⟩] false [.forget [8, 9]]
abbrev mark_own_r2 : HCode := .reg [⟨none, .val 10 (.fldR (.t 1) 2 1)⟩,
    ⟨none, .val 11 (.ldR (.t 10) 1 false)⟩,
    ⟨none, .val 12 (.strs .neq (.t 11) (.c (sv [])))⟩] false [.forget [10, 11]]
abbrev mark_own_r3 : HCode := .reg [⟨none, .val 13 (.mv (.t 3))⟩,
    ⟨none, .val 14 (.fldR (.t 1) 2 1)⟩,
    ⟨none, .val 15 (.ldR (.t 14) 1 false)⟩,
    ⟨none, .val 16 (.strs .add (.c (sv [35])) (.t 15))⟩,
    ⟨none, .val 17 (.strs .add (.t 13) (.t 16))⟩,
    ⟨none, .val 3 (.mv (.t 17))⟩] false [.forget [13, 14, 15, 16, 17]]
abbrev mark_own_r4 : HCode := .reg [⟨none, .val 18 (.fldR (.t 1) 3 1)⟩,
    ⟨none, .val 19 (.ldR (.t 18) 1 false)⟩,
    ⟨none, .val 20 (.len false (.t 19))⟩,
    ⟨none, .val 21 (.mv (.c (iv 0)))⟩] false [.forget [18]]
abbrev mark_own_r5 : HCode := .reg [⟨none, .val 22 (.ints .lss (.t 21) (.t 20))⟩] false []
abbrev mark_own_r6 : HCode := .reg [⟨none, .val 23 (.idxA 1 (.t 19) (.t 21))⟩,
    ⟨none, .val 24 (.ldR (.t 23) 1 false)⟩,
    ⟨none, .val 5 (.mv (.t 24))⟩] false [.forget [23, 24]]
abbrev mark_own_r7 : HCode := .reg [⟨none, .val 25 (.mv (.t 3))⟩,
    ⟨none, .val 26 (.mv (.t 5))⟩,
    ⟨none, .val 27 (.strs .add (.c (sv [46])) (.t 26))⟩,
    ⟨none, .val 28 (.strs .add (.t 25) (.t 27))⟩,
    ⟨none, .val 3 (.mv (.t 28))⟩] false [.forget [25, 26, 27, 28]]
abbrev mark_own_r8 : HCode := .reg [⟨none, .val 29 (.ints .add (.t 21) (.c (iv 1)))⟩,
    ⟨none, .val 21 (.mv (.t 29))⟩] false [.forget [29]]
abbrev mark_own_r9 : HCode := .reg [⟨none, .val 30 (.fldR (.t 1) 4 1)⟩,
    ⟨none, .val 31 (.ldR (.t 30) 1 false)⟩,
    ⟨none, .val 32 (.len false (.t 31))⟩,
    ⟨none, .val 33 (.mv (.c (iv 0)))⟩] false [.forget [30]]
abbrev mark_own_r10 : HCode := .reg [⟨none, .val 34 (.ints .lss (.t 33) (.t 32))⟩] false []
abbrev mark_own_r11 : HCode := .reg [⟨none, .val 35 (.idxA 2 (.t 31) (.t 33))⟩,
    ⟨none, .val 36 (.ldR (.t 35) 2 true)⟩,
    ⟨none, .alloc 7 0 49 [.v (mkS []), .v (mkS [])]⟩,
    ⟨none, .sto (.t 7) 0 49 0 2 (.t 36)⟩] false [.forget [35, 36]]
abbrev mark_own_r12 : HCode := .reg [⟨none, .val 37 (.mv (.t 3))⟩,
    ⟨none, .val 38 (.fldP (.t 7) 0)⟩,
    ⟨none, .val 39 (.ldB (.t 38) 0 49 0 1 false)⟩,
    ⟨none, .val 40 (.strs .add (.c (sv [91])) (.t 39))⟩,
    ⟨none, .val 41 (.strs .add (.t 40) (.c (sv [61, 34])))⟩,
    ⟨none, .val 42 (.fldP (.t 7) 1)⟩,
    ⟨none, .val 43 (.ldB (.t 42) 0 49 1 1 false)⟩,
    ⟨none, .val 44 (.strs .add (.t 41) (.t 43))⟩,
    ⟨none, .val 45 (.strs .add (.t 44) (.c (sv [34, 93])))⟩,
    ⟨none, .val 46 (.strs .add (.t 37) (.t 45))⟩,
    ⟨none, .val 3 (.mv (.t 46))⟩] false [.forget [37, 38, 39, 40, 41, 42, 43, 44, 45, 46]]
abbrev mark_own_r13 : HCode := .reg [⟨none, .val 47 (.ints .add (.t 33) (.c (iv 1)))⟩,
    ⟨none, .val 33 (.mv (.t 47))⟩] false [.forget [47]]
abbrev mark_own_r14 : HCode := .reg [⟨none, .val 48 (.mv (.t 3))⟩,
    ⟨none, .val 2 (.mv (.t 48))⟩] false [.forget [48]]
abbrev mark_own : HCode := (.seq mark_own_r0 (.seq mark_own_r1 (.seq (.seq mark_own_r2 (.cond (.t 12) mark_own_r3 .skip)) (.seq (.seq mark_own_r4 (.block 0 (.loop (.seq mark_own_r5 (.seq (.cond (.t 22) .skip (.exit 0)) (.seq (.block 1 (.seq mark_own_r6 mark_own_r7)) mark_own_r8)))))) (.seq (.seq mark_own_r9 (.block 2 (.loop (.seq mark_own_r10 (.seq (.cond (.t 34) .skip (.exit 2)) (.seq (.block 3 (.seq mark_own_r11 mark_own_r12)) mark_own_r13)))))) (.seq mark_own_r14 .ret))))))
abbrev mark_own_E : Env := { N := 49, Γ := [(49, 2)], L := 51, nfix := 0 }
abbrev mark_own_R : List RSrc := [.tmp 2]
theorem mk_mark_own {base : Nat} {av : List AV} {r : RV} (hfo : formOk mark_own_E base av) (hW : AVs.fits av → hwp Tryd.prog mark_own (finQ mark_own_E base av mark_own_R r) (F0 mark_own_E base av)) (hov : ∀ x, r.res = .ov x → nOwn av = 0 := by intro x h; cases h <;> rfl) : Contract Tryd.prog fn_mark_own av r :=
  contract_of_wp (fn := Tryd.f96) (c := Tryd.f96.body.getD .skip) (by kernel_rfl) (by kernel_rfl) (by kernel_rfl) (by kernel_rfl) (by kernel_rfl) (by kernel_rfl) (by kernel_rfl) hfo hW hov
abbrev mark_pen_name_r0 : HCode := .reg [⟨none, .val 2 (.mv (.c (sv [])))⟩] false []
abbrev mark_pen_name_r1 : HCode := .drg [⟨0, false, ⟨none, .val 5 (.mv (.t 0))⟩⟩,
    ⟨1, false, ⟨none, .val 6 (.nilck (.t 5))⟩⟩,
    ⟨2, false, ⟨none, .val 7 (.fldP (.t 6) 0)⟩⟩,
    ⟨3, false, ⟨none, .val 8 (.ldB (.t 7) 0 38 0 1 false)⟩⟩,
    ⟨4, false, ⟨none, .val 9 (.len true (.t 8))⟩⟩,
    ⟨5, false, ⟨none, .val 10 (.mv (.t 0))⟩⟩,
    ⟨6, false, ⟨none, .val 11 (.nilck (.t 10))⟩⟩,
    ⟨7, false, ⟨none, .val 12 (.fldP (.t 11) 0)⟩⟩,
    ⟨8, false, ⟨none, .val 13 (.ldB (.t 12) 0 38 0 1 false)⟩⟩,
    ⟨9, true, ⟨none, .call (some 14) fn_strings_TrimLeft [(.t 13, .v), (.c (sv [97, 98, 99, 100, 101, 102, 103, 104, 105, 106, 107, 108, 109, 110, 111, 112, 113, 114, 115, 116, 117, 118, 119, 120, 121, 122, 48, 49, 50, 51, 52, 53, 54, 55, 56, 57, 45]), .v)]⟩⟩,
    ⟨10, false, ⟨none, .val 15 (.len true (.t 14))⟩⟩,
    ⟨11, false, ⟨none, .val 16 (.ints .sub (.t 9) (.t 15))⟩⟩,
    ⟨12, false, ⟨none, .val 3 (.mv (.t 16))⟩⟩] [.forget [5, 6, 7, 8, 9, 10, 11, 12, 13, 14, 15, 16]]
abbrev mark_pen_name_r2 : HCode := .reg [⟨none, .val 17 (.mv (.t 0))⟩,
    ⟨none, .val 18 (.nilck (.t 17))⟩,
    ⟨none, .val 19 (.fldP (.t 18) 0)⟩,
    ⟨none, .val 20 (.ldB (.t 19) 0 38 0 1 false)⟩,
    ⟨none, .val 21 (.mv (.t 3))⟩,
    ⟨none, .val 22 (.sls (.t 20) none (some (.t 21)))⟩,
    ⟨none, .val 4 (.mv (.t 22))⟩] false [.forget [17, 18, 19, 20, 21, 22]]
abbrev mark_pen_name_r3 : HCode := .reg [⟨none, .val 23 (.mv (.t 0))⟩,
    ⟨none, .val 24 (.mv (.t 0))⟩,
    ⟨none, .val 25 (.nilck (.t 24))⟩,
    ⟨none, .val 26 (.fldP (.t 25) 0)⟩,
    ⟨none, .val 27 (.ldB (.t 26) 0 38 0 1 false)⟩,
    ⟨none, .val 28 (.mv (.t 3))⟩,
    ⟨none, .val 29 (.sls (.t 27) (some (.t 28)) none)⟩,
    ⟨none, .val 30 (.nilck (.t 23))⟩,
    ⟨none, .val 31 (.fldP (.t 30) 0)⟩,
    ⟨none, .sto (.t 31) 0 38 0 1 (.t 29)⟩] false [.forget [23, 24, 25, 26, 27, 28, 29, 30, 31]]
abbrev mark_pen_name_r4 : HCode := .reg [⟨none, .val 32 (.mv (.t 4))⟩,
    ⟨none, .call (some 33) fn_doc_Name [(.t 32, .v)]⟩,
    ⟨none, .val 34 (.not (.t 33))⟩] false [.forget [32, 33]]
abbrev mark_pen_name_r5 : HCode := .reg [⟨none, .val 35 (.bld [] [])⟩,
    ⟨none, .val 36 (.mki ty_mark_broken (.t 35))⟩,
    ⟨none, .pan (.t 36)⟩] false [.forget [35, 36]]
abbrev mark_pen_name_r6 : HCode := .reg [⟨none, .val 37 (.mv (.t 4))⟩,
    ⟨none, .val 2 (.mv (.t 37))⟩] false [.forget [37]]
abbrev mark_pen_name : HCode := (.seq mark_pen_name_r0 (.seq mark_pen_name_r1 (.seq mark_pen_name_r2 (.seq mark_pen_name_r3 (.seq (.seq mark_pen_name_r4 (.cond (.t 34) mark_pen_name_r5 .skip)) (.seq mark_pen_name_r6 .ret))))))
abbrev mark_pen_name_E : Env := { N := 38, Γ := [(38, 1)], L := 39, nfix := 1 }
abbrev mark_pen_name_R : List RSrc := [.tmp 2]
theorem mk_mark_pen_name {base : Nat} {av : List AV} {r : RV} (hfo : formOk mark_pen_name_E base av) (hW : AVs.fits av → hwp Tryd.prog mark_pen_name (finQ mark_pen_name_E base av mark_pen_name_R r) (F0 mark_pen_name_E base av)) (hov : ∀ x, r.res = .ov x → nOwn av = 0 := by intro x h; cases h <;> rfl) : Contract Tryd.prog fn_mark_pen_name av r :=
  contract_of_wp (fn := Tryd.f136) (c := Tryd.f136.body.getD .skip) (by kernel_rfl) (by kernel_rfl) (by kernel_rfl) (by kernel_rfl) (by kernel_rfl) (by kernel_rfl) (by kernel_rfl) hfo hW hov
abbrev mark_pen_has_r0 : HCode := .reg [⟨none, .val 4 (.mv (.c (bv false)))⟩] false []
abbrev mark_pen_has_r1 : HCode := .reg [⟨none, .val 8 (.mv (.t 0))⟩,
    ⟨none, .val 9 (.nilck (.t 8))⟩,
    ⟨none, .val 10 (.fldP (.t 9) 0)⟩,
    ⟨none, .val 11 (.ldB (.t 10) 0 21 0 1 false)⟩,
    ⟨none, .val 12 (.mv (.t 1))⟩,
    ⟨none, .call (some 13) fn_strings_CutPrefix [(.t 11, .v), (.t 12, .v)]⟩,
    ⟨none, .val 7 (.mv (.t 13))⟩,
    ⟨none, .val 14 (.ext 7 0)⟩,
    ⟨none, .val 15 (.ext 7 1)⟩,
    ⟨none, .val 5 (.mv (.t 14))⟩,
    ⟨none, .val 6 (.mv (.t 15))⟩] false [.forget [7, 8, 9, 10, 11, 12, 13, 14, 15]]
abbrev mark_pen_has_r2 : HCode := .reg [⟨none, .val 16 (.mv (.t 0))⟩,
    ⟨none, .val 17 (.mv (.t 5))⟩,
    ⟨none, .val 18 (.nilck (.t 16))⟩,
    ⟨none, .val 19 (.fldP (.t 18) 0)⟩,
    ⟨none, .sto (.t 19) 0 21 0 1 (.t 17)⟩] false [.forget [16, 17, 18, 19]]
abbrev mark_pen_has_r3 : HCode := .reg [⟨none, .val 20 (.mv (.t 6))⟩,
    ⟨none, .val 4 (.mv (.t 20))⟩] false [.forget [20]]
abbrev mark_pen_has : HCode := (.seq mark_pen_has_r0 (.seq mark_pen_has_r1 (.seq mark_pen_has_r2 (.seq mark_pen_has_r3 .ret))))
abbrev mark_pen_has_E : Env := { N := 21, Γ := [(21, 1)], L := 22, nfix := 1 }
abbrev mark_pen_has_R : List RSrc := [.tmp 4]
theorem mk_mark_pen_has {base : Nat} {av : List AV} {r : RV} (hfo : formOk mark_pen_has_E base av) (hW : AVs.fits av → hwp Tryd.prog mark_pen_has (finQ mark_pen_has_E base av mark_pen_has_R r) (F0 mark_pen_has_E base av)) (hov : ∀ x, r.res = .ov x → nOwn av = 0 := by intro x h; cases h <;> rfl) : Contract Tryd.prog fn_mark_pen_has av r :=
  contract_of_wp (fn := Tryd.f101) (c := Tryd.f101.body.getD .skip) (by kernel_rfl) (by kernel_rfl) (by kernel_rfl) (by kernel_rfl) (by kernel_rfl) (by kernel_rfl) (by kernel_rfl) hfo hW hov
abbrev mark_pen_must_r0 : HCode := .reg [⟨none, .val 4 (.mv (.t 0))⟩,
    ⟨none, .val 5 (.mv (.t 1))⟩,
    ⟨none, .call (some 6) fn_mark_pen_has [(.t 4, .i 0 10 1), (.t 5, .v)]⟩,
    ⟨none, .val 7 (.not (.t 6))⟩] false [.forget [4, 5, 6]]
abbrev mark_pen_must_r1 : HCode := .reg [⟨none, .val 8 (.bld [] [])⟩,
    ⟨none, .val 9 (.mki ty_mark_broken (.t 8))⟩,
    ⟨none, .pan (.t 9)⟩] false [.forget [8, 9]]
abbrev mark_pen_must : HCode := (.seq mark_pen_must_r0 (.cond (.t 7) mark_pen_must_r1 .skip))
abbrev mark_pen_must_E : Env := { N := 10, Γ := [(10, 1)], L := 11, nfix := 1 }
abbrev mark_pen_must_R : List RSrc := []
theorem mk_mark_pen_must {base : Nat} {av : List AV} {r : RV} (hfo : formOk mark_pen_must_E base av) (hW : AVs.fits av → hwp Tryd.prog mark_pen_must (finQ mark_pen_must_E base av mark_pen_must_R r) (F0 mark_pen_must_E base av)) (hov : ∀ x, r.res = .ov x → nOwn av = 0 := by intro x h; cases h <;> rfl) : Contract Tryd.prog fn_mark_pen_must av r :=
  contract_of_wp (fn := Tryd.f160) (c := Tryd.f160.body.getD .skip) (by kernel_rfl) (by kernel_rfl) (by kernel_rfl) (by kernel_rfl) (by kernel_rfl) (by kernel_rfl) (by kernel_rfl) hfo hW hov
abbrev mark_pen_attr_r0 : HCode := .reg [⟨none, .alloc 2 1 38 [.v (mkS []), .v (mkS [])]⟩] false []
abbrev mark_pen_attr_r1 : HCode := .reg [⟨none, .val 7 (.mv (.t 0))⟩,
    ⟨none, .call (some 8) fn_mark_pen_name [(.t 7, .i 0 37 1)]⟩,
    ⟨none, .val 9 (.bld [.v (mkS []), .v (mkS [])] [(0, 1, .t 8)])⟩,
    ⟨none, .alloc 3 2 40 [.v (mkS []), .v (mkS [])]⟩,
    ⟨none, .sto (.t 3) 2 40 0 2 (.t 9)⟩] false [.forget [7, 8, 9]]
abbrev mark_pen_attr_r2 : HCode := .reg [⟨none, .val 10 (.mv (.t 0))⟩,
    ⟨none, .call (some 11) fn_mark_pen_must [(.t 10, .i 0 37 1), (.c (sv [61, 34]), .v)]⟩] false [.forget [10, 11]]
abbrev mark_pen_attr_r3 : HCode := .reg [⟨none, .val 13 (.mv (.t 0))⟩,
    ⟨none, .val 14 (.nilck (.t 13))⟩,
    ⟨none, .val 15 (.fldP (.t 14) 0)⟩,
    ⟨none, .val 16 (.ldB (.t 15) 0 37 0 1 false)⟩,
    ⟨none, .call (some 17) fn_strings_Cut [(.t 16, .v), (.c (sv [34, 93]), .v)]⟩,
    ⟨none, .val 12 (.mv (.t 17))⟩,
    ⟨none, .val 18 (.ext 12 0)⟩,
    ⟨none, .val 19 (.ext 12 1)⟩,
    ⟨none, .val 20 (.ext 12 2)⟩,
    ⟨none, .val 4 (.mv (.t 18))⟩,
    ⟨none, .val 5 (.mv (.t 19))⟩,
    ⟨none, .val 6 (.mv (.t 20))⟩] false [.forget [12, 13, 14, 15, 16, 17, 18, 19, 20]]
abbrev mark_pen_attr_r4 : HCode := .reg [⟨none, .val 21 (.mv (.t 6))⟩,
    ⟨none, .val 22 (.not (.t 21))⟩,
    ⟨none, .val 23 (.mv (.t 22))⟩,
    ⟨some (23, false), .val 24 (.mv (.t 4))⟩,
    ⟨some (23, false), .call (some 25) fn_doc_Value [(.t 24, .v)]⟩,
    ⟨some (23, false), .val 26 (.not (.t 25))⟩,
    ⟨none, .val 27 (.pick (.t 23) (.c (bv true)) (.t 26))⟩] false [.forget [21, 22, 23, 24, 25, 26]]
abbrev mark_pen_attr_r5 : HCode := .reg [⟨none, .val 28 (.bld [] [])⟩,
    ⟨none, .val 29 (.mki ty_mark_broken (.t 28))⟩,
    ⟨none, .pan (.t 29)⟩] false [.forget [28, 29]]
abbrev mark_pen_attr_r6 : HCode := .reg [⟨none, .val 30 (.mv (.t 0))⟩,
    ⟨none, .val 31 (.mv (.t 4))⟩,
    ⟨none, .val 32 (.mv (.t 5))⟩,
    ⟨none, .val 33 (.fldP (.t 3) 1)⟩,
    ⟨none, .sto (.t 33) 2 40 1 1 (.t 31)⟩,
    ⟨none, .val 34 (.nilck (.t 30))⟩,
    ⟨none, .val 35 (.fldP (.t 34) 0)⟩,
    ⟨none, .sto (.t 35) 0 37 0 1 (.t 32)⟩] false [.forget [30, 31, 32, 33, 34, 35]]
abbrev mark_pen_attr_r7 : HCode := .reg [⟨none, .val 36 (.ldB (.t 3) 2 40 0 2 true)⟩,
    ⟨none, .sto (.t 2) 1 38 0 2 (.t 36)⟩] false [.forget [36]]
abbrev mark_pen_attr : HCode := (.seq mark_pen_attr_r0 (.seq mark_pen_attr_r1 (.seq mark_pen_attr_r2 (.seq mark_pen_attr_r3 (.seq (.seq mark_pen_attr_r4 (.cond (.t 27) mark_pen_attr_r5 .skip)) (.seq mark_pen_attr_r6 (.seq mark_pen_attr_r7 .ret)))))))
abbrev mark_pen_attr_E : Env := { N := 37, Γ := [(37, 1), (38, 2), (40, 2)], L := 42, nfix := 1 }
abbrev mark_pen_attr_R : List RSrc := [.cellB 2 1 38 0 2 true]
theorem mk_mark_pen_attr {base : Nat} {av : List AV} {r : RV} (hfo : formOk mark_pen_attr_E base av) (hW : AVs.fits av → hwp Tryd.prog mark_pen_attr (finQ mark_pen_attr_E base av mark_pen_attr_R r) (F0 mark_pen_attr_E base av)) (hov : ∀ x, r.res = .ov x → nOwn av = 0 := by intro x h; cases h <;> rfl) : Contract Tryd.prog fn_mark_pen_attr av r :=
  contract_of_wp (fn := Tryd.f137) (c := Tryd.f137.body.getD .skip) (by kernel_rfl) (by kernel_rfl) (by kernel_rfl) (by kernel_rfl) (by kernel_rfl) (by kernel_rfl) (by kernel_rfl) hfo hW hov
abbrev mark_pen_node_r0 : HCode := .reg [⟨none, .alloc 4 1 35 [.v (.int .i64 0), .v (mkS []), .v (mkS []), .nl 1, .nl 2]⟩] false []
abbrev mark_pen_node_r1 : HCode := .reg [⟨none, .val 6 (.mv (.t 1))⟩,
    ⟨none, .val 7 (.mv (.t 0))⟩,
    ⟨none, .call (some 8) fn_mark_pen_name [(.t 7, .i 0 34 1)]⟩,
    ⟨none, .val 9 (.bld [.v (.int .i64 0), .v (mkS []), .v (mkS []), .nl 1, .nl 2] [(0, 1, .t 6), (1, 1, .t 8)])⟩,
    ⟨none, .alloc 5 2 40 [.v (.int .i64 0), .v (mkS []), .v (mkS []), .nl 1, .nl 2]⟩,
    ⟨none, .sto (.t 5) 2 40 0 5 (.t 9)⟩] false [.forget [6, 7, 8, 9]]
abbrev mark_pen_node_r2 : HCode := .reg [⟨none, .val 10 (.mv (.t 0))⟩,
    ⟨none, .call (some 11) fn_mark_pen_has [(.t 10, .i 0 34 1), (.c (sv [35]), .v)]⟩] false [.forget [10]]
abbrev mark_pen_node_r3 : HCode := .reg [⟨none, .val 12 (.mv (.t 0))⟩,
    ⟨none, .call (some 13) fn_mark_pen_name [(.t 12, .i 0 34 1)]⟩,
    ⟨none, .val 14 (.fldP (.t 5) 2)⟩,
    ⟨none, .sto (.t 14) 2 40 2 1 (.t 13)⟩] false [.forget [12, 13, 14]]
abbrev mark_pen_node_r4 : HCode := .reg [⟨none, .val 15 (.mv (.t 0))⟩,
    ⟨none, .call (some 16) fn_mark_pen_has [(.t 15, .i 0 34 1), (.c (sv [46]), .v)]⟩] false [.forget [15]]
abbrev mark_pen_node_r5 : HCode := .drg [⟨0, false, ⟨none, .val 17 (.fldP (.t 5) 3)⟩⟩,
    ⟨1, false, ⟨none, .ldo 18 (.t 17) 2 40 3 ty_string 1⟩⟩,
    ⟨2, false, ⟨none, .val 19 (.mv (.t 0))⟩⟩,
    ⟨3, true, ⟨none, .call (some 20) fn_mark_pen_name [(.t 19, .i 0 34 1)]⟩⟩,
    ⟨4, false, ⟨none, .val 21 (.bslF 1 [.t 20])⟩⟩,
    ⟨5, false, ⟨none, .app 22 ty_string 1 (.t 18) (.t 21)⟩⟩,
    ⟨6, false, ⟨none, .val 23 (.fldP (.t 5) 3)⟩⟩,
    ⟨7, false, ⟨none, .stw (.t 23) 2 40 3 22⟩⟩] [.forget [17, 18, 19, 20, 21, 22, 23]]
abbrev mark_pen_node_r6 : HCode := .reg [⟨none, .val 24 (.mv (.t 0))⟩,
    ⟨none, .call (some 25) fn_mark_pen_has [(.t 24, .i 0 34 1), (.c (sv [91]), .v)]⟩] false [.forget [24]]
abbrev mark_pen_node_r7 : HCode := .drg [⟨0, false, ⟨none, .val 26 (.fldP (.t 5) 4)⟩⟩,
    ⟨1, false, ⟨none, .ldo 27 (.t 26) 2 40 4 ty_api_Attr 2⟩⟩,
    ⟨2, false, ⟨none, .val 28 (.mv (.t 0))⟩⟩,
    ⟨3, true, ⟨none, .call (some 29) fn_mark_pen_attr [(.t 28, .i 0 34 1)]⟩⟩,
    ⟨4, false, ⟨none, .val 30 (.bslF 2 [.t 29])⟩⟩,
    ⟨5, false, ⟨none, .app 31 ty_api_Attr 2 (.t 27) (.t 30)⟩⟩,
    ⟨6, false, ⟨none, .val 32 (.fldP (.t 5) 4)⟩⟩,
    ⟨7, false, ⟨none, .stw (.t 32) 2 40 4 31⟩⟩] [.forget [26, 27, 28, 29, 30, 31, 32]]
abbrev mark_pen_node_r8 : HCode := .reg [⟨none, .val 33 (.ldB (.t 5) 2 40 0 5 true)⟩,
    ⟨none, .sto (.t 4) 1 35 0 5 (.t 33)⟩] false [.forget [33]]
abbrev mark_pen_node : HCode := (.seq mark_pen_node_r0 (.seq mark_pen_node_r1 (.seq (.seq mark_pen_node_r2 (.cond (.t 11) mark_pen_node_r3 .skip)) (.seq (.block 0 (.loop (.seq (.seq mark_pen_node_r4 (.cond (.t 16) .skip (.exit 0))) (.block 1 mark_pen_node_r5)))) (.seq (.block 2 (.loop (.seq (.seq mark_pen_node_r6 (.cond (.t 25) .skip (.exit 2))) (.block 3 mark_pen_node_r7)))) (.seq mark_pen_node_r8 .ret))))))
abbrev mark_pen_node_E : Env := { N := 34, Γ := [(34, 1), (35, 5), (40, 5)], L := 45, nfix := 1 }
abbrev mark_pen_node_R : List RSrc := [.cellB 4 1 35 0 5 true]
theorem mk_mark_pen_node {base : Nat} {av : List AV} {r : RV} (hfo : formOk mark_pen_node_E base av) (hW : AVs.fits av → hwp Tryd.prog mark_pen_node (finQ mark_pen_node_E base av mark_pen_node_R r) (F0 mark_pen_node_E base av)) (hov : ∀ x, r.res = .ov x → nOwn av = 0 := by intro x h; cases h <;> rfl) : Contract Tryd.prog fn_mark_pen_node av r :=
  contract_of_wp (fn := Tryd.f100) (c := Tryd.f100.body.getD .skip) (by kernel_rfl) (by kernel_rfl) (by kernel_rfl) (by kernel_rfl) (by kernel_rfl) (by kernel_rfl) (by kernel_rfl) hfo hW hov
abbrev ref_nodeText_r0 : HCode := .reg [⟨none, .val 2 (.boxF (.t 0))⟩,
    ⟨none, .val 4 (.mv (.c (sv [])))⟩] false []
abbrev ref_nodeText_r1 : HCode := .reg [⟨none, .val 11 (.fldR (.t 2) 0 1)⟩,
    ⟨none, .val 12 (.ldR (.t 11) 1 false)⟩,
    ⟨none, .val 13 (.mv (.t 1))⟩,
    ⟨none, .val 14 (.idxA 5 (.t 12) (.t 13))⟩,
    ⟨none, .val 15 (.ldR (.t 14) 5 true)⟩,
    ⟨none, .alloc 5 0 95 [.v (.int .i64 0), .v (mkS []), .v (mkS []), .nl 1, .nl 2]⟩,
    ⟨none, .sto (.t 5) 0 95 0 5 (.t 15)⟩] false [.forget [11, 12, 13, 14, 15]]
abbrev ref_nodeText_r2 : HCode := .reg [⟨none, .val 16 (.fldP (.t 5) 1)⟩,
    ⟨none, .val 17 (.ldB (.t 16) 0 95 1 1 false)⟩,
    ⟨none, .val 6 (.mv (.t 17))⟩] false [.forget [16, 17]]
abbrev ref_nodeText_r3 : HCode := .reg [⟨none, .val 18 (.fldP (.t 5) 2)⟩,
    ⟨none, .val 19 (.ldB (.t 18) 0 95 2 1 false)⟩,
    ⟨none, .val 20 (.strs .neq (.t 19) (.c (sv [])))⟩] false [.forget [18, 19]]
abbrev ref_nodeText_r4 : HCode := .reg [⟨none, .val 21 (.mv (.t 6))⟩,
    ⟨none, .val 22 (.strs .add (.t 21) (.c (sv [35])))⟩,
    ⟨none, .val 23 (.fldP (.t 5) 2)⟩,
    ⟨none, .val 24 (.ldB (.t 23) 0 95 2 1 false)⟩,
    ⟨none, .val 25 (.strs .add (.t 22) (.t 24))⟩,
    ⟨none, .val 6 (.mv (.t 25))⟩] false [.forget [21, 22, 23, 24, 25]]
abbrev ref_nodeText_r5 : HCode := .reg [⟨none, .val 7 (.mv (.c (iv 0)))⟩] false []
abbrev ref_nodeText_r6 : HCode := .reg [⟨none, .val 26 (.mv (.t 7))⟩,
    ⟨none, .val 27 (.fldP (.t 5) 3)⟩,
    ⟨none, .val 28 (.ldB (.t 27) 0 95 3 1 false)⟩,
    ⟨none, .val 29 (.len false (.t 28))⟩,
    ⟨none, .val 30 (.ints .lss (.t 26) (.t 29))⟩] false [.forget [26, 27, 28, 29]]
abbrev ref_nodeText_r7 : HCode := .reg [⟨none, .val 33 (.mv (.t 6))⟩,
    ⟨none, .val 34 (.strs .add (.t 33) (.c (sv [46])))⟩,
    ⟨none, .val 35 (.fldP (.t 5) 3)⟩,
    ⟨none, .val 36 (.ldB (.t 35) 0 95 3 1 false)⟩,
    ⟨none, .val 37 (.mv (.t 7))⟩,
    ⟨none, .val 38 (.idxA 1 (.t 36) (.t 37))⟩,
    ⟨none, .val 39 (.ldR (.t 38) 1 false)⟩,
    ⟨none, .val 40 (.strs .add (.t 34) (.t 39))⟩,
    ⟨none, .val 6 (.mv (.t 40))⟩] false [.forget [33, 34, 35, 36, 37, 38, 39, 40]]
abbrev ref_nodeText_r8 : HCode := .reg [⟨none, .val 31 (.mv (.t 7))⟩,
    ⟨none, .val 32 (.ints .add (.t 31) (.c (iv 1)))⟩,
    ⟨none, .val 7 (.mv (.t 32))⟩] false [.forget [31, 32]]
abbrev ref_nodeText_r9 : HCode := .reg [⟨none, .val 8 (.mv (.c (iv 0)))⟩] false []
abbrev ref_nodeText_r10 : HCode := .reg [⟨none, .val 41 (.mv (.t 8))⟩,
    ⟨none, .val 42 (.fldP (.t 5) 4)⟩,
    ⟨none, .val 43 (.ldB (.t 42) 0 95 4 1 false)⟩,
    ⟨none, .val 44 (.len false (.t 43))⟩,
    ⟨none, .val 45 (.ints .lss (.t 41) (.t 44))⟩] false [.forget [41, 42, 43, 44]]
abbrev ref_nodeText_r11 : HCode := .drg [⟨0, false, ⟨none, .val 48 (.mv (.t 6))⟩⟩,
    ⟨1, false, ⟨none, .val 49 (.strs .add (.t 48) (.c (sv [91])))⟩⟩,
    ⟨2, false, ⟨none, .val 50 (.fldP (.t 5) 4)⟩⟩,
    ⟨3, false, ⟨none, .val 51 (.ldB (.t 50) 0 95 4 1 false)⟩⟩,
    ⟨4, false, ⟨none, .val 52 (.mv (.t 8))⟩⟩,
    ⟨5, false, ⟨none, .val 53 (.idxA 2 (.t 51) (.t 52))⟩⟩,
    ⟨6, false, ⟨none, .val 54 (.fldR (.t 53) 0 1)⟩⟩,
    ⟨7, false, ⟨none, .val 55 (.ldR (.t 54) 1 false)⟩⟩,
    ⟨8, false, ⟨none, .val 56 (.strs .add (.t 49) (.t 55))⟩⟩,
    ⟨9, false, ⟨none, .val 57 (.strs .add (.t 56) (.c (sv [61, 34])))⟩⟩,
    ⟨10, false, ⟨none, .val 58 (.fldP (.t 5) 4)⟩⟩,
    ⟨11, false, ⟨none, .val 59 (.ldB (.t 58) 0 95 4 1 false)⟩⟩,
    ⟨12, false, ⟨none, .val 60 (.mv (.t 8))⟩⟩,
    ⟨13, false, ⟨none, .val 61 (.idxA 2 (.t 59) (.t 60))⟩⟩,
    ⟨14, false, ⟨none, .val 62 (.fldR (.t 61) 1 1)⟩⟩,
    ⟨15, false, ⟨none, .val 63 (.ldR (.t 62) 1 false)⟩⟩,
    ⟨16, false, ⟨none, .val 64 (.strs .add (.t 57) (.t 63))⟩⟩,
    ⟨17, false, ⟨none, .val 65 (.strs .add (.t 64) (.c (sv [34, 93])))⟩⟩,
    ⟨18, false, ⟨none, .val 6 (.mv (.t 65))⟩⟩] [.forget [48, 49, 50, 51, 52, 53, 54, 55, 56, 57, 58, 59, 60, 61, 62, 63, 64, 65]]
abbrev ref_nodeText_r12 : HCode := .reg [⟨none, .val 46 (.mv (.t 8))⟩,
    ⟨none, .val 47 (.ints .add (.t 46) (.c (iv 1)))⟩,
    ⟨none, .val 8 (.mv (.t 47))⟩] false [.forget [46, 47]]
abbrev ref_nodeText_r13 : HCode := .reg [⟨none, .val 66 (.ldR (.t 2) 1 true)⟩,
    ⟨none, .val 67 (.mv (.t 1))⟩,
    ⟨none, .call (some 68) fn_ref_KidsOf [(.t 66, .v), (.t 67, .v)]⟩,
    ⟨none, .val 9 (.mv (.t 68))⟩] false [.forget [66, 67, 68]]
abbrev ref_nodeText_r14 : HCode := .reg [⟨none, .val 10 (.mv (.c (iv 0)))⟩] false []
abbrev ref_nodeText_r15 : HCode := .reg [⟨none, .val 69 (.mv (.t 10))⟩,
    ⟨none, .val 70 (.mv (.t 9))⟩,
    ⟨none, .val 71 (.len false (.t 70))⟩,
    ⟨none, .val 72 (.ints .lss (.t 69) (.t 71))⟩] false [.forget [69, 70, 71]]
abbrev ref_nodeText_r16 : HCode := .reg [⟨none, .val 75 (.mv (.t 10))⟩,
    ⟨none, .val 76 (.ints .eql (.t 75) (.c (iv 0)))⟩] false [.forget [75]]
abbrev ref_nodeText_r17 : HCode := .reg [⟨none, .val 77 (.mv (.t 6))⟩,
    ⟨none, .val 78 (.strs .add (.t 77) (.c (sv [40])))⟩,
    ⟨none, .val 6 (.mv (.t 78))⟩] false [.forget [77, 78]]
abbrev ref_nodeText_r18 : HCode := .reg [⟨none, .val 79 (.mv (.t 6))⟩,
    ⟨none, .val 80 (.strs .add (.t 79) (.c (sv [32])))⟩,
    ⟨none, .val 6 (.mv (.t 80))⟩] false [.forget [79, 80]]
abbrev ref_nodeText_r19 : HCode := .drg [⟨0, false, ⟨none, .val 81 (.mv (.t 6))⟩⟩,
    ⟨1, false, ⟨none, .val 82 (.ldR (.t 2) 1 true)⟩⟩,
    ⟨2, false, ⟨none, .val 83 (.mv (.t 9))⟩⟩,
    ⟨3, false, ⟨none, .val 84 (.mv (.t 10))⟩⟩,
    ⟨4, false, ⟨none, .val 85 (.idxA 1 (.t 83) (.t 84))⟩⟩,
    ⟨5, false, ⟨none, .val 86 (.ldR (.t 85) 1 false)⟩⟩,
    ⟨6, true, ⟨none, .call (some 87) fn_ref_nodeText [(.t 82, .v), (.t 86, .v)]⟩⟩,
    ⟨7, false, ⟨none, .val 88 (.strs .add (.t 81) (.t 87))⟩⟩,
    ⟨8, false, ⟨none, .val 6 (.mv (.t 88))⟩⟩] [.forget [81, 82, 83, 84, 85, 86, 87, 88]]
abbrev ref_nodeText_r20 : HCode := .reg [⟨none, .val 73 (.mv (.t 10))⟩,
    ⟨none, .val 74 (.ints .add (.t 73) (.c (iv 1)))⟩,
    ⟨none, .val 10 (.mv (.t 74))⟩] false [.forget [73, 74]]
abbrev ref_nodeText_r21 : HCode := .reg [⟨none, .val 89 (.mv (.t 9))⟩,
    ⟨none, .val 90 (.len false (.t 89))⟩,
    ⟨none, .val 91 (.ints .gtr (.t 90) (.c (iv 0)))⟩] false [.forget [89, 90]]
abbrev ref_nodeText_r22 : HCode := .reg [⟨none, .val 92 (.mv (.t 6))⟩,
    ⟨none, .val 93 (.strs .add (.t 92) (.c (sv [41])))⟩,
    ⟨none, .val 6 (.mv (.t 93))⟩] false [.forget [92, 93]]
abbrev ref_nodeText_r23 : HCode := .reg [⟨none, .val 94 (.mv (.t 6))⟩,
    ⟨none, .val 4 (.mv (.t 94))⟩] false [.forget [94]]
abbrev ref_nodeText : HCode := (.seq ref_nodeText_r0 (.seq ref_nodeText_r1 (.seq ref_nodeText_r2 (.seq (.seq ref_nodeText_r3 (.cond (.t 20) ref_nodeText_r4 .skip)) (.seq (.seq ref_nodeText_r5 (.block 0 (.loop (.seq (.seq ref_nodeText_r6 (.cond (.t 30) .skip (.exit 0))) (.seq (.block 1 ref_nodeText_r7) ref_nodeText_r8))))) (.seq (.seq ref_nodeText_r9 (.block 2 (.loop (.seq (.seq ref_nodeText_r10 (.cond (.t 45) .skip (.exit 2))) (.seq (.block 3 ref_nodeText_r11) ref_nodeText_r12))))) (.seq ref_nodeText_r13 (.seq (.seq ref_nodeText_r14 (.block 4 (.loop (.seq (.seq ref_nodeText_r15 (.cond (.t 72) .skip (.exit 4))) (.seq (.block 5 (.seq (.seq ref_nodeText_r16 (.cond (.t 76) ref_nodeText_r17 ref_nodeText_r18)) ref_nodeText_r19)) ref_nodeText_r20))))) (.seq (.seq ref_nodeText_r21 (.cond (.t 91) ref_nodeText_r22 .skip)) (.seq ref_nodeText_r23 .ret))))))))))
abbrev ref_nodeText_E : Env := { N := 95, Γ := [(95, 5)], L := 100, nfix := 0 }
abbrev ref_nodeText_R : List RSrc := [.tmp 4]
theorem mk_ref_nodeText {base : Nat} {av : List AV} {r : RV} (hfo : formOk ref_nodeText_E base av) (hW : AVs.fits av → hwp Tryd.prog ref_nodeText (finQ ref_nodeText_E base av ref_nodeText_R r) (F0 ref_nodeText_E base av)) (hov : ∀ x, r.res = .ov x → nOwn av = 0 := by intro x h; cases h <;> rfl) : Contract Tryd.prog fn_ref_nodeText av r :=
  contract_of_wp (fn := Tryd.f98) (c := Tryd.f98.body.getD .skip) (by kernel_rfl) (by kernel_rfl) (by kernel_rfl) (by kernel_rfl) (by kernel_rfl) (by kernel_rfl) (by kernel_rfl) hfo hW hov
abbrev ref_DocText_r0 : HCode := .reg [⟨none, .val 1 (.boxF (.t 0))⟩,
    ⟨none, .val 2 (.mv (.c (sv [])))⟩] false []
abbrev ref_DocText_r1 : HCode := .reg [⟨none, .val 3 (.ldR (.t 1) 1 true)⟩,
    ⟨none, .call (some 4) fn_ref_nodeText [(.t 3, .v), (.c (iv 0), .v)]⟩,
    ⟨none, .val 2 (.mv (.t 4))⟩] false [.forget [3, 4]]
abbrev ref_DocText : HCode := (.seq ref_DocText_r0 (.seq ref_DocText_r1 .ret))
abbrev ref_DocText_E : Env := { N := 5, Γ := [], L := 5, nfix := 0 }
abbrev ref_DocText_R : List RSrc := [.tmp 2]
theorem mk_ref_DocText {base : Nat} {av : List AV} {r : RV} (hfo : formOk ref_DocText_E base av) (hW : AVs.fits av → hwp Tryd.prog ref_DocText (finQ ref_DocText_E base av ref_DocText_R r) (F0 ref_DocText_E base av)) (hov : ∀ x, r.res = .ov x → nOwn av = 0 := by intro x h; cases h <;> rfl) : Contract Tryd.prog fn_ref_DocText av r :=
  contract_of_wp (fn := Tryd.f40) (c := Tryd.f40.body.getD .skip) (by kernel_rfl) (by kernel_rfl) (by kernel_rfl) (by kernel_rfl) (by kernel_rfl) (by kernel_rfl) (by kernel_rfl) hfo hW hov
abbrev ref_reader_name_r0 : HCode := .reg [⟨none, .val 2 (.mv (.c (sv [])))⟩] false []
abbrev ref_reader_name_r1 : HCode := .reg [⟨none, .val 3 (.mv (.c (iv 0)))⟩] false []
abbrev ref_reader_name_r2 : HCode := .reg [⟨none, .val 5 (.mv (.t 3))⟩,
    ⟨none, .val 6 (.mv (.t 0))⟩,
    ⟨none, .val 7 (.nilck (.t 6))⟩,
    ⟨none, .val 8 (.fldP (.t 7) 0)⟩,
    ⟨none, .val 9 (.ldB (.t 8) 0 75 0 1 false)⟩,
    ⟨none, .val 10 (.len true (.t 9))⟩,
    ⟨none, .val 11 (.ints .lss (.t 5) (.t 10))⟩,
    ⟨none, .val 12 (.mv (.t 11))⟩,
    ⟨some (12, true), .val 13 (.mv (.t 0))⟩,
    ⟨some (12, true), .val 14 (.nilck (.t 13))⟩,
    ⟨some (12, true), .val 15 (.fldP (.t 14) 0)⟩,
    ⟨some (12, true), .val 16 (.ldB (.t 15) 0 75 0 1 false)⟩,
    ⟨some (12, true), .val 17 (.mv (.t 3))⟩,
    ⟨some (12, true), .val 18 (.idxS (.t 16) (.t 17))⟩,
    ⟨some (12, true), .val 19 (.ints .geq (.t 18) (.c (.one (.v (.int .u8 97)))))⟩,
    ⟨some (12, true), .val 20 (.mv (.t 19))⟩,
    ⟨some (20, true), .val 21 (.mv (.t 0))⟩,
    ⟨some (20, true), .val 22 (.nilck (.t 21))⟩,
    ⟨some (20, true), .val 23 (.fldP (.t 22) 0)⟩,
    ⟨some (20, true), .val 24 (.ldB (.t 23) 0 75 0 1 false)⟩,
    ⟨some (20, true), .val 25 (.mv (.t 3))⟩,
    ⟨some (20, true), .val 26 (.idxS (.t 24) (.t 25))⟩,
    ⟨some (20, true), .val 27 (.ints .leq (.t 26) (.c (.one (.v (.int .u8 122)))))⟩,
    ⟨some (12, true), .val 28 (.pick (.t 20) (.t 27) (.c (bv false)))⟩,
    ⟨some (12, true), .val 29 (.mv (.t 28))⟩,
    ⟨some (29, false), .val 30 (.mv (.t 0))⟩,
    ⟨some (29, false), .val 31 (.nilck (.t 30))⟩,
    ⟨some (29, false), .val 32 (.fldP (.t 31) 0)⟩,
    ⟨some (29, false), .val 33 (.ldB (.t 32) 0 75 0 1 false)⟩,
    ⟨some (29, false), .val 34 (.mv (.t 3))⟩,
    ⟨some (29, false), .val 35 (.idxS (.t 33) (.t 34))⟩,
    ⟨some (29, false), .val 36 (.ints .geq (.t 35) (.c (.one (.v (.int .u8 48)))))⟩,
    ⟨some (29, false), .val 37 (.mv (.t 36))⟩,
    ⟨some (37, true), .val 38 (.mv (.t 0))⟩,
    ⟨some (37, true), .val 39 (.nilck (.t 38))⟩,
    ⟨some (37, true), .val 40 (.fldP (.t 39) 0)⟩,
    ⟨some (37, true), .val 41 (.ldB (.t 40) 0 75 0 1 false)⟩,
    ⟨some (37, true), .val 42 (.mv (.t 3))⟩,
    ⟨some (37, true), .val 43 (.idxS (.t 41) (.t 42))⟩,
    ⟨some (37, true), .val 44 (.ints .leq (.t 43) (.c (.one (.v (.int .u8 57)))))⟩,
    ⟨some (29, false), .val 45 (.pick (.t 37) (.t 44) (.c (bv false)))⟩,
    ⟨some (12, true), .val 46 (.pick (.t 29) (.c (bv true)) (.t 45))⟩,
    ⟨some (12, true), .val 47 (.mv (.t 46))⟩,
    ⟨some (47, false), .val 48 (.mv (.t 0))⟩,
    ⟨some (47, false), .val 49 (.nilck (.t 48))⟩,
    ⟨some (47, false), .val 50 (.fldP (.t 49) 0)⟩,
    ⟨some (47, false), .val 51 (.ldB (.t 50) 0 75 0 1 false)⟩,
    ⟨some (47, false), .val 52 (.mv (.t 3))⟩,
    ⟨some (47, false), .val 53 (.idxS (.t 51) (.t 52))⟩,
    ⟨some (47, false), .val 54 (.ints .eql (.t 53) (.c (.one (.v (.int .u8 45)))))⟩,
    ⟨some (12, true), .val 55 (.pick (.t 47) (.c (bv true)) (.t 54))⟩,
    ⟨none, .val 56 (.pick (.t 12) (.t 55) (.c (bv false)))⟩] false [.forget [5, 6, 7, 8, 9, 10, 11, 12, 13, 14, 15, 16, 17, 18, 19, 20, 21, 22, 23, 24, 25, 26, 27, 28, 29, 30, 31, 32, 33, 34, 35, 36, 37, 38, 39, 40, 41, 42, 43, 44, 45, 46, 47, 48, 49, 50, 51, 52, 53, 54, 55]]
abbrev ref_reader_name_r3 : HCode := .reg [⟨none, .val 57 (.mv (.t 3))⟩,
    ⟨none, .val 58 (.ints .add (.t 57) (.c (iv 1)))⟩,
    ⟨none, .val 3 (.mv (.t 58))⟩] false [.forget [57, 58]]
abbrev ref_reader_name_r4 : HCode := .reg [⟨none, .val 59 (.mv (.t 0))⟩,
    ⟨none, .val 60 (.nilck (.t 59))⟩,
    ⟨none, .val 61 (.fldP (.t 60) 0)⟩,
    ⟨none, .val 62 (.ldB (.t 61) 0 75 0 1 false)⟩,
    ⟨none, .val 63 (.mv (.t 3))⟩,
    ⟨none, .val 64 (.sls (.t 62) none (some (.t 63)))⟩,
    ⟨none, .val 4 (.mv (.t 64))⟩] false [.forget [59, 60, 61, 62, 63, 64]]
abbrev ref_reader_name_r5 : HCode := .reg [⟨none, .val 65 (.mv (.t 0))⟩,
    ⟨none, .val 66 (.mv (.t 0))⟩,
    ⟨none, .val 67 (.nilck (.t 66))⟩,
    ⟨none, .val 68 (.fldP (.t 67) 0)⟩,
    ⟨none, .val 69 (.ldB (.t 68) 0 75 0 1 false)⟩,
    ⟨none, .val 70 (.mv (.t 3))⟩,
    ⟨none, .val 71 (.sls (.t 69) (some (.t 70)) none)⟩,
    ⟨none, .val 72 (.nilck (.t 65))⟩,
    ⟨none, .val 73 (.fldP (.t 72) 0)⟩,
    ⟨none, .sto (.t 73) 0 75 0 1 (.t 71)⟩] false [.forget [65, 66, 67, 68, 69, 70, 71, 72, 73]]
abbrev ref_reader_name_r6 : HCode := .reg [⟨none, .val 74 (.mv (.t 4))⟩,
    ⟨none, .val 2 (.mv (.t 74))⟩] false [.forget [74]]
abbrev ref_reader_name : HCode := (.seq ref_reader_name_r0 (.seq ref_reader_name_r1 (.seq (.block 0 (.loop (.seq (.seq ref_reader_name_r2 (.cond (.t 56) .skip (.exit 0))) (.block 1 ref_reader_name_r3)))) (.seq ref_reader_name_r4 (.seq ref_reader_name_r5 (.seq ref_reader_name_r6 .ret))))))
abbrev ref_reader_name_E : Env := { N := 75, Γ := [(75, 1)], L := 76, nfix := 1 }
abbrev ref_reader_name_R : List RSrc := [.tmp 2]
theorem mk_ref_reader_name {base : Nat} {av : List AV} {r : RV} (hfo : formOk ref_reader_name_E base av) (hW : AVs.fits av → hwp Tryd.prog ref_reader_name (finQ ref_reader_name_E base av ref_reader_name_R r) (F0 ref_reader_name_E base av)) (hov : ∀ x, r.res = .ov x → nOwn av = 0 := by intro x h; cases h <;> rfl) : Contract Tryd.prog fn_ref_reader_name av r :=
  contract_of_wp (fn := Tryd.f139) (c := Tryd.f139.body.getD .skip) (by kernel_rfl) (by kernel_rfl) (by kernel_rfl) (by kernel_rfl) (by kernel_rfl) (by kernel_rfl) (by kernel_rfl) hfo hW hov
abbrev ref_reader_value_r0 : HCode := .reg [⟨none, .val 2 (.mv (.c (sv [])))⟩] false []
abbrev ref_reader_value_r1 : HCode := .reg [⟨none, .val 3 (.mv (.c (iv 0)))⟩] false []
abbrev ref_reader_value_r2 : HCode := .reg [⟨none, .val 5 (.mv (.t 3))⟩,
    ⟨none, .val 6 (.mv (.t 0))⟩,
    ⟨none, .val 7 (.nilck (.t 6))⟩,
    ⟨none, .val 8 (.fldP (.t 7) 0)⟩,
    ⟨none, .val 9 (.ldB (.t 8) 0 39 0 1 false)⟩,
    ⟨none, .val 10 (.len true (.t 9))⟩,
    ⟨none, .val 11 (.ints .lss (.t 5) (.t 10))⟩,
    ⟨none, .val 12 (.mv (.t 11))⟩,
    ⟨some (12, true), .val 13 (.mv (.t 0))⟩,
    ⟨some (12, true), .val 14 (.nilck (.t 13))⟩,
    ⟨some (12, true), .val 15 (.fldP (.t 14) 0)⟩,
    ⟨some (12, true), .val 16 (.ldB (.t 15) 0 39 0 1 false)⟩,
    ⟨some (12, true), .val 17 (.mv (.t 3))⟩,
    ⟨some (12, true), .val 18 (.idxS (.t 16) (.t 17))⟩,
    ⟨some (12, true), .val 19 (.ints .neq (.t 18) (.c (.one (.v (.int .u8 34)))))⟩,
    ⟨none, .val 20 (.pick (.t 12) (.t 19) (.c (bv false)))⟩] false [.forget [5, 6, 7, 8, 9, 10, 11, 12, 13, 14, 15, 16, 17, 18, 19]]
abbrev ref_reader_value_r3 : HCode := .reg [⟨none, .val 21 (.mv (.t 3))⟩,
    ⟨none, .val 22 (.ints .add (.t 21) (.c (iv 1)))⟩,
    ⟨none, .val 3 (.mv (.t 22))⟩] false [.forget [21, 22]]
abbrev ref_reader_value_r4 : HCode := .reg [⟨none, .val 23 (.mv (.t 0))⟩,
    ⟨none, .val 24 (.nilck (.t 23))⟩,
    ⟨none, .val 25 (.fldP (.t 24) 0)⟩,
    ⟨none, .val 26 (.ldB (.t 25) 0 39 0 1 false)⟩,
    ⟨none, .val 27 (.mv (.t 3))⟩,
    ⟨none, .val 28 (.sls (.t 26) none (some (.t 27)))⟩,
    ⟨none, .val 4 (.mv (.t 28))⟩] false [.forget [23, 24, 25, 26, 27, 28]]
abbrev ref_reader_value_r5 : HCode := .reg [⟨none, .val 29 (.mv (.t 0))⟩,
    ⟨none, .val 30 (.mv (.t 0))⟩,
    ⟨none, .val 31 (.nilck (.t 30))⟩,
    ⟨none, .val 32 (.fldP (.t 31) 0)⟩,
    ⟨none, .val 33 (.ldB (.t 32) 0 39 0 1 false)⟩,
    ⟨none, .val 34 (.mv (.t 3))⟩,
    ⟨none, .val 35 (.sls (.t 33) (some (.t 34)) none)⟩,
    ⟨none, .val 36 (.nilck (.t 29))⟩,
    ⟨none, .val 37 (.fldP (.t 36) 0)⟩,
    ⟨none, .sto (.t 37) 0 39 0 1 (.t 35)⟩] false [.forget [29, 30, 31, 32, 33, 34, 35, 36, 37]]
abbrev ref_reader_value_r6 : HCode := .reg [⟨none, .val 38 (.mv (.t 4))⟩,
    ⟨none, .val 2 (.mv (.t 38))⟩] false [.forget [38]]
abbrev ref_reader_value : HCode := (.seq ref_reader_value_r0 (.seq ref_reader_value_r1 (.seq (.block 0 (.loop (.seq (.seq ref_reader_value_r2 (.cond (.t 20) .skip (.exit 0))) (.block 1 ref_reader_value_r3)))) (.seq ref_reader_value_r4 (.seq ref_reader_value_r5 (.seq ref_reader_value_r6 .ret))))))
abbrev ref_reader_value_E : Env := { N := 39, Γ := [(39, 1)], L := 40, nfix := 1 }
abbrev ref_reader_value_R : List RSrc := [.tmp 2]
theorem mk_ref_reader_value {base : Nat} {av : List AV} {r : RV} (hfo : formOk ref_reader_value_E base av) (hW : AVs.fits av → hwp Tryd.prog ref_reader_value (finQ ref_reader_value_E base av ref_reader_value_R r) (F0 ref_reader_value_E base av)) (hov : ∀ x, r.res = .ov x → nOwn av = 0 := by intro x h; cases h <;> rfl) : Contract Tryd.prog fn_ref_reader_value av r :=
  contract_of_wp (fn := Tryd.f141) (c := Tryd.f141.body.getD .skip) (by kernel_rfl) (by kernel_rfl) (by kernel_rfl) (by kernel_rfl) (by kernel_rfl) (by kernel_rfl) (by kernel_rfl) hfo hW hov
abbrev ref_reader_node_r0 : HCode := .reg [⟨none, .nlo 6 ty_api_Node 5⟩] false []
abbrev ref_reader_node_r1 : HCode := .reg [⟨none, .val 11 (.mv (.t 2))⟩,
    ⟨none, .val 12 (.mv (.t 0))⟩,
    ⟨none, .call (some 13) fn_ref_reader_name [(.t 12, .i 0 72 1)]⟩,
    ⟨none, .val 14 (.bld [.v (.int .i64 0), .v (mkS []), .v (mkS []), .nl 1, .nl 2] [(0, 1, .t 11), (1, 1, .t 13)])⟩,
    ⟨none, .alloc 7 1 73 [.v (.int .i64 0), .v (mkS []), .v (mkS []), .nl 1, .nl 2]⟩,
    ⟨none, .sto (.t 7) 1 73 0 5 (.t 14)⟩] false [.forget [11, 12, 13, 14]]
abbrev ref_reader_node_r2 : HCode := .reg [⟨none, .val 15 (.mv (.t 0))⟩,
    ⟨none, .call (some 16) fn_ref_reader_sign [(.t 15, .i 0 72 1), (.c (sv [35]), .v)]⟩] false [.forget [15]]
abbrev ref_reader_node_r3 : HCode := .reg [⟨none, .val 17 (.mv (.t 0))⟩,
    ⟨none, .call (some 18) fn_ref_reader_name [(.t 17, .i 0 72 1)]⟩,
    ⟨none, .val 19 (.fldP (.t 7) 2)⟩,
    ⟨none, .sto (.t 19) 1 73 2 1 (.t 18)⟩] false [.forget [17, 18, 19]]
abbrev ref_reader_node_r4 : HCode := .reg [⟨none, .val 20 (.mv (.t 0))⟩,
    ⟨none, .call (some 21) fn_ref_reader_sign [(.t 20, .i 0 72 1), (.c (sv [46]), .v)]⟩] false [.forget [20]]
abbrev ref_reader_node_r5 : HCode := .drg [⟨0, false, ⟨none, .val 22 (.fldP (.t 7) 3)⟩⟩,
    ⟨1, false, ⟨none, .ldo 23 (.t 22) 1 73 3 ty_string 1⟩⟩,
    ⟨2, false, ⟨none, .val 24 (.mv (.t 0))⟩⟩,
    ⟨3, true, ⟨none, .call (some 25) fn_ref_reader_name [(.t 24, .i 0 72 1)]⟩⟩,
    ⟨4, false, ⟨none, .val 26 (.bslF 1 [.t 25])⟩⟩,
    ⟨5, false, ⟨none, .app 27 ty_string 1 (.t 23) (.t 26)⟩⟩,
    ⟨6, false, ⟨none, .val 28 (.fldP (.t 7) 3)⟩⟩,
    ⟨7, false, ⟨none, .stw (.t 28) 1 73 3 27⟩⟩] [.forget [22, 23, 24, 25, 26, 27, 28]]
abbrev ref_reader_node_r6 : HCode := .reg [⟨none, .val 29 (.mv (.t 0))⟩,
    ⟨none, .call (some 30) fn_ref_reader_sign [(.t 29, .i 0 72 1), (.c (sv [91]), .v)]⟩] false [.forget [29]]
abbrev ref_reader_node_r7 : HCode := .reg [⟨none, .val 31 (.mv (.t 0))⟩,
    ⟨none, .call (some 32) fn_ref_reader_name [(.t 31, .i 0 72 1)]⟩,
    ⟨none, .val 33 (.bld [.v (mkS []), .v (mkS [])] [(0, 1, .t 32)])⟩,
    ⟨none, .alloc 8 2 78 [.v (mkS []), .v (mkS [])]⟩,
    ⟨none, .sto (.t 8) 2 78 0 2 (.t 33)⟩] false [.forget [31, 32, 33]]
abbrev ref_reader_node_r8 : HCode := .reg [⟨none, .val 34 (.mv (.t 0))⟩,
    ⟨none, .call (some 35) fn_ref_reader_sign [(.t 34, .i 0 72 1), (.c (sv [61, 34]), .v)]⟩] false [.forget [34, 35]]
abbrev ref_reader_node_r9 : HCode := .reg [⟨none, .val 36 (.mv (.t 0))⟩,
    ⟨none, .call (some 37) fn_ref_reader_value [(.t 36, .i 0 72 1)]⟩,
    ⟨none, .val 38 (.fldP (.t 8) 1)⟩,
    ⟨none, .sto (.t 38) 2 78 1 1 (.t 37)⟩] false [.forget [36, 37, 38]]
abbrev ref_reader_node_r10 : HCode := .reg [⟨none, .val 39 (.mv (.t 0))⟩,
    ⟨none, .call (some 40) fn_ref_reader_sign [(.t 39, .i 0 72 1), (.c (sv [34, 93]), .v)]⟩] false [.forget [39, 40]]
abbrev ref_reader_node_r11 : HCode := .reg [⟨none, .val 41 (.fldP (.t 7) 4)⟩,
    ⟨none, .ldo 42 (.t 41) 1 73 4 ty_api_Attr 2⟩,
    ⟨none, .val 43 (.ldB (.t 8) 2 78 0 2 true)⟩,
    ⟨none, .val 44 (.bslF 2 [.t 43])⟩,
    ⟨none, .app 45 ty_api_Attr 2 (.t 42) (.t 44)⟩,
    ⟨none, .val 46 (.fldP (.t 7) 4)⟩,
    ⟨none, .stw (.t 46) 1 73 4 45⟩] false [.forget [41, 42, 43, 44, 45, 46]]
abbrev ref_reader_node_r12 : HCode := .reg [⟨none, .val 47 (.mv (.t 1))⟩,
    ⟨none, .val 48 (.len false (.t 47))⟩,
    ⟨none, .val 9 (.mv (.t 48))⟩] false [.forget [47, 48]]
abbrev ref_reader_node_r13 : HCode := .reg [⟨none, .mvo 49 1⟩,
    ⟨none, .val 50 (.ldB (.t 7) 1 73 0 5 true)⟩,
    ⟨none, .val 51 (.bslF 5 [.t 50])⟩,
    ⟨none, .app 52 ty_api_Node 5 (.t 49) (.t 51)⟩,
    ⟨none, .mvo 1 52⟩] false [.forget [49, 50, 51, 52]]
abbrev ref_reader_node_r14 : HCode := .reg [⟨none, .val 53 (.mv (.t 0))⟩,
    ⟨none, .call (some 54) fn_ref_reader_sign [(.t 53, .i 0 72 1), (.c (sv [40]), .v)]⟩,
    ⟨none, .val 55 (.not (.t 54))⟩] false [.forget [53, 54]]
abbrev ref_reader_node_r15 : HCode := .reg [⟨none, .mvo 56 1⟩,
    ⟨none, .mvo 6 56⟩] false [.forget [56]]
abbrev ref_reader_node_r16 : HCode := .reg [⟨none, .val 10 (.mv (.c (bv true)))⟩] false []
abbrev ref_reader_node_r17 : HCode := .reg [⟨none, .val 57 (.mv (.t 10))⟩,
    ⟨none, .val 58 (.mv (.t 57))⟩,
    ⟨some (58, true), .val 59 (.mv (.t 1))⟩,
    ⟨some (58, true), .val 60 (.len false (.t 59))⟩,
    ⟨some (58, true), .val 61 (.ints .leq (.t 60) (.c (iv 64)))⟩,
    ⟨none, .val 62 (.pick (.t 58) (.t 61) (.c (bv false)))⟩] false [.forget [57, 58, 59, 60, 61]]
abbrev ref_reader_node_r18 : HCode := .reg [⟨none, .val 63 (.mv (.t 0))⟩,
    ⟨none, .mvo 64 1⟩,
    ⟨none, .val 65 (.mv (.t 9))⟩,
    ⟨none, .call (some 66) fn_ref_reader_node [(.t 63, .i 0 72 1), (.t 64, .o), (.t 65, .v)]⟩,
    ⟨none, .mvo 1 66⟩] false [.forget [63, 64, 65, 66]]
abbrev ref_reader_node_r19 : HCode := .reg [⟨none, .val 67 (.mv (.t 0))⟩,
    ⟨none, .call (some 68) fn_ref_reader_sign [(.t 67, .i 0 72 1), (.c (sv [32]), .v)]⟩,
    ⟨none, .val 10 (.mv (.t 68))⟩] false [.forget [67, 68]]
abbrev ref_reader_node_r20 : HCode := .reg [⟨none, .val 69 (.mv (.t 0))⟩,
    ⟨none, .call (some 70) fn_ref_reader_sign [(.t 69, .i 0 72 1), (.c (sv [41]), .v)]⟩] false [.forget [69, 70]]
abbrev ref_reader_node_r21 : HCode := .reg [⟨none, .mvo 71 1⟩,
    ⟨none, .mvo 6 71⟩] false [.forget [71]]
abbrev ref_reader_node : HCode := (.seq ref_reader_node_r0 (.seq ref_reader_node_r1 (.seq (.seq ref_reader_node_r2 (.cond (.t 16) ref_reader_node_r3 .skip)) (.seq (.block 0 (.loop (.seq (.seq ref_reader_node_r4 (.cond (.t 21) .skip (.exit 0))) (.block 1 ref_reader_node_r5)))) (.seq (.block 2 (.loop (.seq (.seq ref_reader_node_r6 (.cond (.t 30) .skip (.exit 2))) (.block 3 (.seq ref_reader_node_r7 (.seq ref_reader_node_r8 (.seq ref_reader_node_r9 (.seq ref_reader_node_r10 ref_reader_node_r11)))))))) (.seq ref_reader_node_r12 (.seq ref_reader_node_r13 (.seq (.seq ref_reader_node_r14 (.cond (.t 55) (.seq ref_reader_node_r15 .ret) .skip)) (.seq (.seq ref_reader_node_r16 (.block 4 (.loop (.seq (.seq ref_reader_node_r17 (.cond (.t 62) .skip (.exit 4))) (.block 5 (.seq ref_reader_node_r18 ref_reader_node_r19)))))) (.seq ref_reader_node_r20 (.seq ref_reader_node_r21 .ret)))))))))))
abbrev ref_reader_node_E : Env := { N := 72, Γ := [(72, 1), (73, 5), (78, 2)], L := 80, nfix := 1 }
abbrev ref_reader_node_R : List RSrc := [.tmp 6]
theorem mk_ref_reader_node {base : Nat} {av : List AV} {r : RV} (hfo : formOk ref_reader_node_E base av) (hW : AVs.fits av → hwp Tryd.prog ref_reader_node (finQ ref_reader_node_E base av ref_reader_node_R r) (F0 ref_reader_node_E base av)) (hov : ∀ x, r.res = .ov x → nOwn av = 0 := by intro x h; cases h <;> rfl) : Contract Tryd.prog fn_ref_reader_node av r :=
  contract_of_wp (fn := Tryd.f102) (c := Tryd.f102.body.getD .skip) (by kernel_rfl) (by kernel_rfl) (by kernel_rfl) (by kernel_rfl) (by kernel_rfl) (by kernel_rfl) (by kernel_rfl) hfo hW hov
abbrev ref_DocFrom_r0 : HCode := .reg [⟨none, .alloc 2 0 23 [.nl 5]⟩,
    ⟨none, .val 3 (.mv (.c (bv false)))⟩] false []
abbrev ref_DocFrom_r1 : HCode := .reg [⟨none, .val 6 (.mv (.t 0))⟩,
    ⟨none, .val 7 (.bld [.v (mkS [])] [(0, 1, .t 6)])⟩,
    ⟨none, .box 8 1 24 1 (.t 7)⟩,
    ⟨none, .val 4 (.mv (.t 8))⟩] false [.forget [6, 7, 8]]
abbrev ref_DocFrom_r2 : HCode := .reg [⟨none, .val 9 (.mv (.t 4))⟩,
    ⟨none, .call (some 10) fn_ref_reader_node [(.t 9, .i 1 24 1), (.c (.one (.nl 0)), .n ty_api_Node 5), (.c (iv (-1)), .v)]⟩,
    ⟨none, .val 11 (.bld [.nl 5] [(0, 1, .t 10)])⟩,
    ⟨none, .alloc 5 2 25 [.nl 5]⟩,
    ⟨none, .sto (.t 5) 2 25 0 1 (.t 11)⟩] false [.forget [9, 10, 11]]
abbrev ref_DocFrom_r3 : HCode := .reg [⟨none, .val 12 (.ldB (.t 5) 2 25 0 1 true)⟩,
    ⟨none, .call (some 13) fn_ref_CheckDoc [(.t 12, .v)]⟩,
    ⟨none, .val 14 (.ints .neq (.t 13) (.c (iv 0)))⟩,
    ⟨none, .val 15 (.mv (.t 14))⟩,
    ⟨some (15, false), .val 16 (.ldB (.t 5) 2 25 0 1 true)⟩,
    ⟨some (15, false), .call (some 17) fn_ref_DocText [(.t 16, .v)]⟩,
    ⟨some (15, false), .val 18 (.mv (.t 0))⟩,
    ⟨some (15, false), .val 19 (.strs .neq (.t 17) (.t 18))⟩,
    ⟨none, .val 20 (.pick (.t 15) (.c (bv true)) (.t 19))⟩] false [.forget [12, 13, 14, 15, 16, 17, 18, 19]]
abbrev ref_DocFrom_r4 : HCode := .reg [⟨none, .val 21 (.bld [.nl 5] [])⟩,
    ⟨none, .sto (.t 2) 0 23 0 1 (.t 21)⟩,
    ⟨none, .val 3 (.mv (.c (bv false)))⟩] false [.forget [21]]
abbrev ref_DocFrom_r5 : HCode := .reg [⟨none, .val 22 (.ldB (.t 5) 2 25 0 1 true)⟩,
    ⟨none, .sto (.t 2) 0 23 0 1 (.t 22)⟩,
    ⟨none, .val 3 (.mv (.c (bv true)))⟩] false [.forget [22]]
abbrev ref_DocFrom : HCode := (.seq ref_DocFrom_r0 (.seq ref_DocFrom_r1 (.seq ref_DocFrom_r2 (.seq (.seq ref_DocFrom_r3 (.cond (.t 20) (.seq ref_DocFrom_r4 .ret) .skip)) (.seq ref_DocFrom_r5 .ret)))))
abbrev ref_DocFrom_E : Env := { N := 23, Γ := [(23, 1), (24, 1), (25, 1)], L := 26, nfix := 0 }
abbrev ref_DocFrom_R : List RSrc := [.cellB 2 0 23 0 1 true, .tmp 3]
theorem mk_ref_DocFrom {base : Nat} {av : List AV} {r : RV} (hfo : formOk ref_DocFrom_E base av) (hW : AVs.fits av → hwp Tryd.prog ref_DocFrom (finQ ref_DocFrom_E base av ref_DocFrom_R r) (F0 ref_DocFrom_E base av)) (hov : ∀ x, r.res = .ov x → nOwn av = 0 := by intro x h; cases h <;> rfl) : Contract Tryd.prog fn_ref_DocFrom av r :=
  contract_of_wp (fn := Tryd.f42) (c := Tryd.f42.body.getD .skip) (by kernel_rfl) (by kernel_rfl) (by kernel_rfl) (by kernel_rfl) (by kernel_rfl) (by kernel_rfl) (by kernel_rfl) hfo hW hov
abbrev strings_CutPrefix_r0 : HCode := .reg [⟨none, .val 4 (.mv (.c (sv [])))⟩,
    ⟨none, .val 5 (.mv (.c (bv false)))⟩] false []
abbrev strings_CutPrefix_r1 : HCode := .reg [⟨none, .val 6 (.mv (.t 0))⟩,
    ⟨none, .val 7 (.mv (.t 1))⟩,
    ⟨none, .call (some 8) fn_internal_stringslite_CutPrefix [(.t 6, .v), (.t 7, .v)]⟩,
    ⟨none, .val 9 (.ext 8 0)⟩,
    ⟨none, .val 10 (.ext 8 1)⟩,
    ⟨none, .val 4 (.mv (.t 9))⟩,
    ⟨none, .val 5 (.mv (.t 10))⟩] false [.forget [6, 7, 8, 9, 10]]
abbrev strings_CutPrefix : HCode := (.seq strings_CutPrefix_r0 (.seq strings_CutPrefix_r1 .ret))
abbrev mark_Show_r0 : HCode := .reg [⟨none, .val 1 (.boxF (.t 0))⟩,
    ⟨none, .val 2 (.mv (.c (sv [])))⟩,
    ⟨none, .val 3 (.mv (.c (iv 0)))⟩] false []
abbrev mark_Show_r1 : HCode := .reg [⟨none, .val 9 (.ldR (.t 1) 1 true)⟩,
    ⟨none, .call (some 10) fn_doc_Check [(.t 9, .v)]⟩,
    ⟨none, .val 4 (.mv (.t 10))⟩] false [.forget [9, 10]]
abbrev mark_Show_r2 : HCode := .reg [⟨none, .val 11 (.mv (.t 4))⟩,
    ⟨none, .val 12 (.ints .neq (.t 11) (.c (iv 0)))⟩] false [.forget [11]]
abbrev mark_Show_r3 : HCode := .reg [⟨none, .val 13 (.mv (.t 4))⟩,
    ⟨none, .val 2 (.mv (.c (sv [])))⟩,
    ⟨none, .val 3 (.mv (.t 13))⟩] false [.forget [13]]
abbrev mark_Show_r4 : HCode := .reg [⟨none, .bmk 5 ty_strings_Builder ty_uint8⟩] false []
abbrev mark_Show_r5 : HCode := .reg [⟨none, .nlk 6 ty_int 1⟩] false []
abbrev mark_Show_r6 : HCode := .reg [⟨none, .val 14 (.fldR (.t 1) 0 1)⟩,
    ⟨none, .val 15 (.ldR (.t 14) 1 false)⟩,
    ⟨none, .val 16 (.len false (.t 15))⟩,
    ⟨none, .val 17 (.mv (.c (iv 0)))⟩] false [.forget [14]]
abbrev mark_Show_r7 : HCode := .reg [⟨none, .val 18 (.ints .lss (.t 17) (.t 16))⟩] false []
abbrev mark_Show_r8 : HCode := .reg [⟨none, .val 19 (.mv (.t 17))⟩,
    ⟨none, .val 20 (.idxA 5 (.t 15) (.t 17))⟩,
    ⟨none, .val 21 (.ldR (.t 20) 5 true)⟩,
    ⟨none, .alloc 8 0 87 [.v (.int .i64 0), .v (mkS []), .v (mkS []), .nl 1, .nl 2]⟩,
    ⟨none, .val 7 (.mv (.t 19))⟩,
    ⟨none, .sto (.t 8) 0 87 0 5 (.t 21)⟩] false [.frz 0 87 5, .forget [19, 20, 21]]
abbrev mark_Show_r9 : HCode := .rdr 6 [⟨none, .val 22 (.mv (.t 6))⟩,
    ⟨none, .val 23 (.len false (.t 22))⟩,
    ⟨none, .val 24 (.ints .gtr (.t 23) (.c (iv 0)))⟩,
    ⟨none, .val 25 (.mv (.t 24))⟩,
    ⟨some (25, true), .val 26 (.mv (.t 6))⟩,
    ⟨some (25, true), .val 27 (.mv (.t 6))⟩,
    ⟨some (25, true), .val 28 (.len false (.t 27))⟩,
    ⟨some (25, true), .val 29 (.ints .sub (.t 28) (.c (iv 1)))⟩,
    ⟨some (25, true), .val 30 (.idxA 1 (.t 26) (.t 29))⟩,
    ⟨some (25, true), .val 31 (.ldR (.t 30) 1 false)⟩,
    ⟨some (25, true), .val 32 (.fldR (.t 8) 0 1)⟩,
    ⟨some (25, true), .val 33 (.ldR (.t 32) 1 false)⟩,
    ⟨some (25, true), .val 34 (.ints .neq (.t 31) (.t 33))⟩,
    ⟨none, .val 35 (.pick (.t 25) (.t 34) (.c (bv false)))⟩] true [.forget [22, 23, 24, 25, 26, 27, 28, 29, 30, 31, 32, 33, 34]]
abbrev mark_Show_r10 : HCode := .reg [⟨none, .callm (some 36) fn_strings_Builder_WriteByte 5 [(.c (.one (.v (.int .u8 41))), .v)]⟩] false [.forget [36]]
abbrev mark_Show_r11 : HCode := .reg [⟨none, .mvk 37 6⟩,
    ⟨none, .val 38 (.mv (.t 6))⟩,
    ⟨none, .val 39 (.len false (.t 38))⟩,
    ⟨none, .val 40 (.ints .sub (.t 39) (.c (iv 1)))⟩,
    ⟨none, .trk 41 37 (.t 40)⟩,
    ⟨none, .mvk 6 41⟩] false [.forget [37, 38, 39, 40, 41]]
abbrev mark_Show_r12 : HCode := .reg [⟨none, .val 42 (.mv (.t 7))⟩,
    ⟨none, .val 43 (.ints .gtr (.t 42) (.c (iv 0)))⟩,
    ⟨none, .val 44 (.mv (.t 43))⟩,
    ⟨some (44, true), .val 45 (.fldR (.t 8) 0 1)⟩,
    ⟨some (44, true), .val 46 (.ldR (.t 45) 1 false)⟩,
    ⟨some (44, true), .val 47 (.mv (.t 7))⟩,
    ⟨some (44, true), .val 48 (.ints .sub (.t 47) (.c (iv 1)))⟩,
    ⟨some (44, true), .val 49 (.ints .eql (.t 46) (.t 48))⟩,
    ⟨none, .val 50 (.pick (.t 44) (.t 49) (.c (bv false)))⟩] false [.forget [42, 43, 44, 45, 46, 47, 48, 49]]
abbrev mark_Show_r13 : HCode := .reg [⟨none, .callm (some 51) fn_strings_Builder_WriteByte 5 [(.c (.one (.v (.int .u8 40))), .v)]⟩] false [.forget [51]]
abbrev mark_Show_r14 : HCode := .reg [⟨none, .val 52 (.mv (.t 7))⟩,
    ⟨none, .val 53 (.ints .gtr (.t 52) (.c (iv 0)))⟩] false [.forget [52]]
abbrev mark_Show_r15 : HCode := .reg [⟨none, .callm (some 54) fn_strings_Builder_WriteByte 5 [(.c (.one (.v (.int .u8 32))), .v)]⟩] false [.forget [54]]
abbrev mark_Show_r16 : HCode := .reg [⟨none, .val 55 (.ldR (.t 8) 5 true)⟩,
    ⟨none, .call (some 56) fn_mark_own [(.t 55, .v)]⟩,
    ⟨none, .callm (some 57) fn_strings_Builder_WriteString 5 [(.t 56, .v)]⟩] false [.forget [55, 56, 57]]
abbrev mark_Show_r17 : HCode := .reg [⟨none, .val 58 (.mv (.t 7))⟩,
    ⟨none, .val 59 (.ints .add (.t 58) (.c (iv 1)))⟩,
    ⟨none, .val 60 (.fldR (.t 1) 0 1)⟩,
    ⟨none, .val 61 (.ldR (.t 60) 1 false)⟩,
    ⟨none, .val 62 (.len false (.t 61))⟩,
    ⟨none, .val 63 (.ints .lss (.t 59) (.t 62))⟩,
    ⟨none, .val 64 (.mv (.t 63))⟩,
    ⟨some (64, true), .val 65 (.fldR (.t 1) 0 1)⟩,
    ⟨some (64, true), .val 66 (.ldR (.t 65) 1 false)⟩,
    ⟨some (64, true), .val 67 (.mv (.t 7))⟩,
    ⟨some (64, true), .val 68 (.ints .add (.t 67) (.c (iv 1)))⟩,
    ⟨some (64, true), .val 69 (.idxA 5 (.t 66) (.t 68))⟩,
    ⟨some (64, true), .val 70 (.fldR (.t 69) 0 1)⟩,
    ⟨some (64, true), .val 71 (.ldR (.t 70) 1 false)⟩,
    ⟨some (64, true), .val 72 (.mv (.t 7))⟩,
    ⟨some (64, true), .val 73 (.ints .eql (.t 71) (.t 72))⟩,
    ⟨none, .val 74 (.pick (.t 64) (.t 73) (.c (bv false)))⟩] false [.forget [58, 59, 60, 61, 62, 63, 64, 65, 66, 67, 68, 69, 70, 71, 72, 73]]
abbrev mark_Show_r18 : HCode := .reg [⟨none, .mvk 75 6⟩,
    ⟨none, .val 76 (.mv (.t 7))⟩,
    ⟨none, .val 77 (.bslF 1 [.t 76])⟩,
    ⟨none, .apk 78 ty_int 1 75 (.t 77)⟩,
    ⟨none, .mvk 6 78⟩] false [.forget [75, 76, 77, 78]]
abbrev mark_Show_r19 : HCode := .reg [⟨none, .val 79 (.ints .add (.t 17) (.c (iv 1)))⟩,
    ⟨none, .val 17 (.mv (.t 79))⟩] false [.forget [79]]
abbrev mark_Show_r20 : HCode := .reg [⟨none, .val 80 (.mv (.t 6))⟩,
    ⟨none, .val 81 (.len false (.t 80))⟩,
    ⟨none, .val 82 (.mv (.c (iv 0)))⟩] false [.forget [80]]
abbrev mark_Show_r21 : HCode := .reg [⟨none, .val 83 (.ints .lss (.t 82) (.t 81))⟩] false []
abbrev mark_Show_r22 : HCode := .reg [⟨none, .callm (some 84) fn_strings_Builder_WriteByte 5 [(.c (.one (.v (.int .u8 41))), .v)]⟩] false [.forget [84]]
abbrev mark_Show_r23 : HCode := .reg [⟨none, .val 85 (.ints .add (.t 82) (.c (iv 1)))⟩,
    ⟨none, .val 82 (.mv (.t 85))⟩] false [.forget [85]]
abbrev mark_Show_r24 : HCode := .reg [⟨none, .callm (some 86) fn_strings_Builder_String 5 []⟩,
    ⟨none, .val 2 (.mv (.t 86))⟩,
    ⟨none, .val 3 (.mv (.c (iv 0)))⟩] false [.forget [86]]
abbrev mark_Show : HCode := (.seq mark_Show_r0 (.seq (.seq mark_Show_r1 (.seq mark_Show_r2 (.cond (.t 12) (.seq mark_Show_r3 .ret) .skip))) (.seq mark_Show_r4 (.seq mark_Show_r5 (.seq (.seq mark_Show_r6 (.block 0 (.loop (.seq mark_Show_r7 (.seq (.cond (.t 18) .skip (.exit 0)) (.seq (.block 1 (.seq mark_Show_r8 (.seq (.block 2 (.loop (.seq (.seq mark_Show_r9 (.cond (.t 35) .skip (.exit 2))) (.block 3 (.seq mark_Show_r10 mark_Show_r11))))) (.seq (.seq mark_Show_r12 (.cond (.t 50) mark_Show_r13 (.seq mark_Show_r14 (.cond (.t 53) mark_Show_r15 .skip)))) (.seq mark_Show_r16 (.seq mark_Show_r17 (.cond (.t 74) mark_Show_r18 .skip))))))) mark_Show_r19)))))) (.seq (.seq mark_Show_r20 (.block 4 (.loop (.seq mark_Show_r21 (.seq (.cond (.t 83) .skip (.exit 4)) (.seq (.block 5 mark_Show_r22) mark_Show_r23)))))) (.seq mark_Show_r24 .ret)))))))
abbrev mark_Show_E : Env := { N := 87, Γ := [(87, 5)], L := 92, nfix := 0 }
abbrev mark_Show_R : List RSrc := [.tmp 2, .tmp 3]
theorem mk_mark_Show {base : Nat} {av : List AV} {r : RV} (hfo : formOk mark_Show_E base av) (hW : AVs.fits av → hwp Tryd.prog mark_Show (finQ mark_Show_E base av mark_Show_R r) (F0 mark_Show_E base av)) (hov : ∀ x, r.res = .ov x → nOwn av = 0 := by intro x h; cases h <;> rfl) : Contract Tryd.prog fn_mark_Show av r :=
  contract_of_wp (fn := Tryd.f39) (c := Tryd.f39.body.getD .skip) (by kernel_rfl) (by kernel_rfl) (by kernel_rfl) (by kernel_rfl) (by kernel_rfl) (by kernel_rfl) (by kernel_rfl) hfo hW hov
end Go.Hx
end

section
-- DOM getO
set_option maxRecDepth 100000
set_option linter.unusedSimpArgs false
namespace Go.Hx
open Go.Proofs
variable [Glob]

attribute [local go_sem] ndsV_len clsV_len attV_len intsR_len ndV cellsEq getO
/-! ### The document's reader: signs -/

def signOk (s t : Bys) : Bool := decide (t.length ≤ s.length) && (s.take t.length == t)
def signR (s t : Bys) : Bys := if signOk s t then s.drop t.length else s
theorem c_ref_reader_sign (s t : Bys) : Contract Tryd.prog fn_ref_reader_sign [.io [bS s], .val (sv t)] { res := .val (bv (signOk s t)), io := [bS (signR s t)] } := by
  refine mk_ref_reader_sign (base := 34) ⟨Nat.le_of_ble_eq_true rfl, Nat.le_of_ble_eq_true rfl, Nat.le_of_ble_eq_true rfl, ⟨rfl, rfl⟩⟩ (fun hfit => ?_)
  unfold F0 ref_reader_sign_E
  simp (config := { maxSteps := 2000000 }) only [markU, List.set_cons_succ, List.set_cons_zero, List.map_cons, List.map_nil, argCt, setCells, ioOf, List.length_cons, List.length_nil, Nat.reduceAdd, Nat.reduceSub, List.replicate, List.cons_append, List.nil_append]
  try simp (config := { maxSteps := 2000000 }) only [go_sem, reduceCtorEq, Nat.reduceAdd, Nat.reduceEqDiff, reduceIte, Nat.reduceLeDiff, Nat.reduceLT, Nat.reduceSub]
  all_goals (repeat (with_reducible refine sAnd ?_))
  cases hd : decide ((s.length : Int) < (t.length : Int)) with
  | true =>
    try simp (config := { maxSteps := 2000000 }) only [go_sem, reduceCtorEq, Nat.reduceAdd, Nat.reduceEqDiff, reduceIte, Nat.reduceLeDiff, Nat.reduceLT, Nat.reduceSub, Bool.not_true, Bool.not_false]
    all_goals (repeat (with_reducible refine sAnd ?_))
    refine cond_of (by rfl) trivial (fun h => ?_) (fun h => ?_)
    · try simp (config := { maxSteps := 2000000 }) only [go_sem, reduceCtorEq, Nat.reduceAdd, Nat.reduceEqDiff, reduceIte, Nat.reduceLeDiff, Nat.reduceLT, Nat.reduceSub]
      all_goals (repeat (with_reducible refine sAnd ?_))
      have h2 : signOk s t = false := by
        have : s.length < t.length := by simpa using hd
        unfold signOk
        rw [decide_eq_false (by omega)]; rfl
      unfold signR
      rw [h2]
      exact fin_valio rfl trivial (.inl rfl) rfl rfl
    · simp at h
  | false =>
    have h1 : t.length ≤ s.length := by simpa using hd
    try simp (config := { maxSteps := 2000000 }) only [go_sem, reduceCtorEq, Nat.reduceAdd, Nat.reduceEqDiff, reduceIte, Nat.reduceLeDiff, Nat.reduceLT, Nat.reduceSub, Bool.not_true, Bool.not_false, Int.toNat_natCast, Int.toNat_zero, List.drop_zero, Int.cast_ofNat_Int]
    all_goals (repeat (with_reducible refine sAnd ?_))
    refine cond_of (by rfl) trivial (fun h => ?_) (fun h => ?_)
    · try simp (config := { maxSteps := 2000000 }) only [go_sem, reduceCtorEq, Nat.reduceAdd, Nat.reduceEqDiff, reduceIte, Nat.reduceLeDiff, Nat.reduceLT, Nat.reduceSub]
      all_goals (repeat (with_reducible refine sAnd ?_))
      have h2 : signOk s t = false := by
        unfold signOk
        rw [decide_eq_true h1]
        simpa using h
      unfold signR
      rw [h2]
      exact fin_valio rfl trivial (.inl rfl) rfl rfl
    · try simp (config := { maxSteps := 2000000 }) only [go_sem, reduceCtorEq, Nat.reduceAdd, Nat.reduceEqDiff, reduceIte, Nat.reduceLeDiff, Nat.reduceLT, Nat.reduceSub, Int.toNat_natCast, List.take_length]
      all_goals (repeat (with_reducible refine sAnd ?_))
      have h2 : signOk s t = true := by
        unfold signOk
        rw [decide_eq_true h1]
        simpa using h
      unfold signR
      rw [h2]
      exact fin_valio rfl trivial (.inl rfl) rfl rfl
end Go.Hx
end

section
-- DOM getO
set_option maxRecDepth 100000
set_option linter.unusedSimpArgs false
namespace Go.Hx
open Go.Proofs
variable [Glob]

attribute [local go_sem] ndsV_len clsV_len attV_len intsR_len ndV cellsEq getO
/-! ### An element's text -/

def clsT (l : List Bys) : Bys := (l.map fun c => 46 :: c).flatten
def attT1 (a : Bys × Bys) : Bys := 91 :: a.1 ++ [61, 34] ++ a.2 ++ [34, 93]
def attT (l : List (Bys × Bys)) : Bys := (l.map attT1).flatten
def idT (i : Bys) : Bys := if i == [] then [] else 35 :: i
def nodeT0 (x : Nd) : Bys := x.tag ++ idT x.id ++ clsT x.cls ++ attT x.att
theorem clsT_succ {l : List Bys} {i : Nat} (h : i < l.length) : clsT (l.take (i + 1)) = clsT (l.take i) ++ 46 :: l.getD i [] := by
  unfold clsT
  rw [List.take_succ_eq_append_getElem h, List.map_append, List.flatten_append, List.getD_eq_getElem?_getD, List.getElem?_eq_getElem h]
  simp only [List.map_cons, List.map_nil, List.flatten_cons, List.flatten_nil, List.append_nil, Option.getD_some]
theorem attT_succ {l : List (Bys × Bys)} {i : Nat} (h : i < l.length) : attT (l.take (i + 1)) = attT (l.take i) ++ attT1 (l.getD i default) := by
  unfold attT
  rw [List.take_succ_eq_append_getElem h, List.map_append, List.flatten_append, List.getD_eq_getElem?_getD, List.getElem?_eq_getElem h]
  simp only [List.map_cons, List.map_nil, List.flatten_cons, List.flatten_nil, List.append_nil, Option.getD_some]
theorem cat_le {α : Type} (f : α → Bys) (l : List α) (m : Nat) (h : ∀ x ∈ l, (f x).length ≤ m) : ((l.map f).flatten).length ≤ l.length * m := by
  induction l with
  | nil => simp
  | cons x l ih =>
    have h1 := h x List.mem_cons_self
    have h2 := ih fun y hy => h y (List.mem_cons_of_mem _ hy)
    simp only [List.map_cons, List.flatten_cons, List.length_append, List.length_cons, Nat.succ_mul]
    omega
/-- Nothing in it is long. -/
structure ShortNd (x : Nd) : Prop where
  tag : x.tag.length ≤ 12
  id : x.id.length ≤ 12
  cls : x.cls.length ≤ 6
  att : x.att.length ≤ 4
  c : ∀ i, i < x.cls.length → (x.cls.getD i []).length ≤ 12
  a : ∀ i, i < x.att.length → (x.att.getD i default).1.length ≤ 12 ∧ (x.att.getD i default).2.length ≤ 16
theorem clsT_le {x : Nd} (h : ShortNd x) (i : Nat) : (clsT (x.cls.take i)).length ≤ 78 := by
  have h1 := cat_le (fun c : Bys => 46 :: c) (x.cls.take i) 13 (by
    intro c hc
    obtain ⟨j, hj, e⟩ := List.getElem_of_mem (List.mem_of_mem_take hc)
    have := h.c j hj
    simp [hj, e] at this
    simp only [List.length_cons]
    omega)
  have h2 : (x.cls.take i).length ≤ 6 := by rw [List.length_take]; have := h.cls; omega
  exact Nat.le_trans h1 (by omega)
theorem attT_le {x : Nd} (h : ShortNd x) (i : Nat) : (attT (x.att.take i)).length ≤ 132 := by
  have h1 := cat_le attT1 (x.att.take i) 33 (by
    intro c hc
    obtain ⟨j, hj, e⟩ := List.getElem_of_mem (List.mem_of_mem_take hc)
    have := h.a j hj
    simp [hj, e] at this
    simp only [attT1, List.length_cons, List.length_append, List.length_nil]
    omega)
  have h2 : (x.att.take i).length ≤ 4 := by rw [List.length_take]; have := h.att; omega
  exact Nat.le_trans h1 (by omega)
theorem idT_le {x : Nd} (h : ShortNd x) : (idT x.id).length ≤ 13 := by
  unfold idT
  have := h.id
  split <;> simp <;> omega

theorem c_mark_own (x : Nd) (hx : ShortNd x) : Contract Tryd.prog fn_mark_own [.val (.agg (ndV x))] { res := .val (sv (nodeT0 x)) } := by
  have hm0 : maxLen = 9223372036854775807 := rfl
  have b1 := hx.tag
  have b2 := hx.id
  have b3 := idT_le hx
  have b4 := hx.cls
  have b5 := hx.att
  refine mk_mark_own (base := 0) ⟨Nat.le_of_ble_eq_true rfl, Nat.le_of_ble_eq_true rfl, Nat.le_of_ble_eq_true rfl, rfl⟩ (fun hfit => ?_)
  unfold F0 mark_own_E
  simp (config := { maxSteps := 2000000 }) only [markU, List.set_cons_succ, List.set_cons_zero, List.map_cons, List.map_nil, argCt, setCells, ioOf, List.length_cons, List.length_nil, Nat.reduceAdd, Nat.reduceSub, List.replicate, List.cons_append, List.nil_append]
  try simp (config := { maxSteps := 2000000 }) only [go_sem, reduceCtorEq, Nat.reduceAdd, Nat.reduceEqDiff, reduceIte, Nat.reduceLeDiff, Nat.reduceLT, Nat.reduceSub]
  all_goals (repeat (with_reducible refine sAnd ?_))
  refine cond_of (by rfl) trivial (fun h => ?_) (fun h => ?_)
  · have e0 : x.tag ++ 35 :: x.id = x.tag ++ idT x.id := by
      unfold idT
      rw [if_neg (by simpa using h)]
    try simp (config := { maxSteps := 2000000 }) only [go_sem, reduceCtorEq, Nat.reduceAdd, Nat.reduceEqDiff, reduceIte, Nat.reduceLeDiff, Nat.reduceLT, Nat.reduceSub, List.cons_append, List.nil_append, e0, List.length_cons]
    all_goals (repeat (with_reducible refine sAnd ?_))
    refine loop_sets (fun i : Nat => [(3, .pv (sv (x.tag ++ idT x.id ++ clsT (x.cls.take i)))), (21, .pv (iv i)), (5, .un), (22, .un)]) (fun i : Nat => x.cls.length - i) (fun i : Nat => i ≤ x.cls.length) (0) ?_ (Nat.zero_le _) ?_
    focus (simp (config := { maxSteps := 2000000 }) only [go_sem, reduceCtorEq, Nat.reduceAdd, Nat.reduceEqDiff, reduceIte, Nat.reduceLeDiff, Nat.reduceLT, Nat.reduceSub, le_cons, le_nil, le_un, le_same]; all_goals (repeat' (first | exact trivial | exact le_int (by omega) | exact le_bool rfl | exact le_eq rfl | exact le_nlo | exact le_refl _ | refine And.intro ?_ ?_)))
    · exact le_str (by simp [clsT])
    intro i hi
    have hc1 := clsT_le hx i
    have hc2 := clsT_le hx (i + 1)
    try simp (config := { maxSteps := 2000000 }) only [go_sem, reduceCtorEq, Nat.reduceAdd, Nat.reduceEqDiff, reduceIte, Nat.reduceLeDiff, Nat.reduceLT, Nat.reduceSub, clsV_len]
    all_goals (repeat (with_reducible refine sAnd ?_))
    refine cond_of (by rfl) trivial (fun g1 => ?_) (fun g1 => ?_)
    · have hlt : i < x.cls.length := by simpa using g1
      have hs := clsT_succ hlt
      have hcl := hx.c i hlt
      rw [hs, List.length_append, List.length_cons] at hc2
      try simp (config := { maxSteps := 2000000 }) only [go_sem, reduceCtorEq, Nat.reduceAdd, Nat.reduceEqDiff, reduceIte, Nat.reduceLeDiff, Nat.reduceLT, Nat.reduceSub, clsV_get _ _ hlt, clsV_len, List.cons_append, List.nil_append, List.length_append, List.length_cons]
      all_goals (repeat (with_reducible refine sAnd ?_))
      refine ⟨i + 1, by omega, hlt, ?_⟩
      simp (config := { maxSteps := 2000000 }) only [go_sem, reduceCtorEq, Nat.reduceAdd, Nat.reduceEqDiff, reduceIte, Nat.reduceLeDiff, Nat.reduceLT, Nat.reduceSub, le_cons, le_nil, le_un, le_same]
      all_goals (repeat' (first | exact trivial | exact le_int (by omega) | exact le_bool rfl | exact le_eq rfl | exact le_nlo | exact le_refl _ | refine And.intro ?_ ?_))
      all_goals first | exact le_str (by rw [hs]; simp) | exact le_int (by omega) | exact le_same
    · have hie : i = x.cls.length := by have : ¬ i < x.cls.length := by simpa using g1
                                        omega
      subst hie
      rw [List.take_length] at hc1
      try simp (config := { maxSteps := 2000000 }) only [go_sem, reduceCtorEq, Nat.reduceAdd, Nat.reduceEqDiff, reduceIte, Nat.reduceLeDiff, Nat.reduceLT, Nat.reduceSub, List.take_length, attV_len]
      all_goals (repeat (with_reducible refine sAnd ?_))
      refine loop_sets (fun i : Nat => [(3, .pv (sv (x.tag ++ idT x.id ++ clsT x.cls ++ attT (x.att.take i)))), (33, .pv (iv i)), (7, .un), (34, .un), (49, .un), (50, .un)]) (fun i : Nat => x.att.length - i) (fun i : Nat => i ≤ x.att.length) (0) ?_ (Nat.zero_le _) ?_
      focus (simp (config := { maxSteps := 2000000 }) only [go_sem, reduceCtorEq, Nat.reduceAdd, Nat.reduceEqDiff, reduceIte, Nat.reduceLeDiff, Nat.reduceLT, Nat.reduceSub, le_cons, le_nil, le_un, le_same]; all_goals (repeat' (first | exact trivial | exact le_int (by omega) | exact le_bool rfl | exact le_eq rfl | exact le_nlo | exact le_refl _ | refine And.intro ?_ ?_)))
      · exact le_str (by simp [attT])
      intro i hi
      have ha1 := attT_le hx i
      have ha2 := attT_le hx (i + 1)
      try simp (config := { maxSteps := 2000000 }) only [go_sem, reduceCtorEq, Nat.reduceAdd, Nat.reduceEqDiff, reduceIte, Nat.reduceLeDiff, Nat.reduceLT, Nat.reduceSub, attV_len]
      all_goals (repeat (with_reducible refine sAnd ?_))
      refine cond_of (by rfl) trivial (fun g2 => ?_) (fun g2 => ?_)
      · have hlt : i < x.att.length := by simpa using g2
        have hs := attT_succ hlt
        have hal := hx.a i hlt
        rw [hs, List.length_append] at ha2
        simp only [attT1, List.length_append, List.length_cons, List.length_nil] at ha2
        try simp (config := { maxSteps := 2000000 }) only [go_sem, reduceCtorEq, Nat.reduceAdd, Nat.reduceEqDiff, reduceIte, Nat.reduceLeDiff, Nat.reduceLT, Nat.reduceSub, attV_get _ _ hlt, attV_len, List.cons_append, List.nil_append, List.length_append, List.length_cons, List.length_nil]
        all_goals (repeat (with_reducible refine sAnd ?_))
        refine ⟨i + 1, by omega, hlt, ?_⟩
        simp (config := { maxSteps := 2000000 }) only [go_sem, reduceCtorEq, Nat.reduceAdd, Nat.reduceEqDiff, reduceIte, Nat.reduceLeDiff, Nat.reduceLT, Nat.reduceSub, le_cons, le_nil, le_un, le_same]
        all_goals (repeat' (first | exact trivial | exact le_int (by omega) | exact le_bool rfl | exact le_eq rfl | exact le_nlo | exact le_refl _ | refine And.intro ?_ ?_))
        all_goals first | exact le_str (by rw [hs]; simp [attT1]) | exact le_int (by omega) | exact le_same
      · have hie : i = x.att.length := by have : ¬ i < x.att.length := by simpa using g2
                                          omega
        subst hie
        try simp (config := { maxSteps := 2000000 }) only [go_sem, reduceCtorEq, Nat.reduceAdd, Nat.reduceEqDiff, reduceIte, Nat.reduceLeDiff, Nat.reduceLT, Nat.reduceSub, List.take_length]
        all_goals (repeat (with_reducible refine sAnd ?_))
        refine fin_val rfl trivial (.inl ?_)
        unfold nodeT0
        simp
  · have e0 : idT x.id = [] := by
      unfold idT
      rw [if_pos (by simpa using h)]
    try simp (config := { maxSteps := 2000000 }) only [go_sem, reduceCtorEq, Nat.reduceAdd, Nat.reduceEqDiff, reduceIte, Nat.reduceLeDiff, Nat.reduceLT, Nat.reduceSub]
    all_goals (repeat (with_reducible refine sAnd ?_))
    refine loop_sets (fun i : Nat => [(3, .pv (sv (x.tag ++ clsT (x.cls.take i)))), (21, .pv (iv i)), (5, .un), (22, .un)]) (fun i : Nat => x.cls.length - i) (fun i : Nat => i ≤ x.cls.length) (0) ?_ (Nat.zero_le _) ?_
    focus (simp (config := { maxSteps := 2000000 }) only [go_sem, reduceCtorEq, Nat.reduceAdd, Nat.reduceEqDiff, reduceIte, Nat.reduceLeDiff, Nat.reduceLT, Nat.reduceSub, le_cons, le_nil, le_un, le_same]; all_goals (repeat' (first | exact trivial | exact le_int (by omega) | exact le_bool rfl | exact le_eq rfl | exact le_nlo | exact le_refl _ | refine And.intro ?_ ?_)))
    · exact le_str (by simp [clsT])
    intro i hi
    have hc1 := clsT_le hx i
    have hc2 := clsT_le hx (i + 1)
    try simp (config := { maxSteps := 2000000 }) only [go_sem, reduceCtorEq, Nat.reduceAdd, Nat.reduceEqDiff, reduceIte, Nat.reduceLeDiff, Nat.reduceLT, Nat.reduceSub, clsV_len]
    all_goals (repeat (with_reducible refine sAnd ?_))
    refine cond_of (by rfl) trivial (fun g1 => ?_) (fun g1 => ?_)
    · have hlt : i < x.cls.length := by simpa using g1
      have hs := clsT_succ hlt
      have hcl := hx.c i hlt
      rw [hs, List.length_append, List.length_cons] at hc2
      try simp (config := { maxSteps := 2000000 }) only [go_sem, reduceCtorEq, Nat.reduceAdd, Nat.reduceEqDiff, reduceIte, Nat.reduceLeDiff, Nat.reduceLT, Nat.reduceSub, clsV_get _ _ hlt, clsV_len, List.cons_append, List.nil_append, List.length_append, List.length_cons]
      all_goals (repeat (with_reducible refine sAnd ?_))
      refine ⟨i + 1, by omega, hlt, ?_⟩
      simp (config := { maxSteps := 2000000 }) only [go_sem, reduceCtorEq, Nat.reduceAdd, Nat.reduceEqDiff, reduceIte, Nat.reduceLeDiff, Nat.reduceLT, Nat.reduceSub, le_cons, le_nil, le_un, le_same]
      all_goals (repeat' (first | exact trivial | exact le_int (by omega) | exact le_bool rfl | exact le_eq rfl | exact le_nlo | exact le_refl _ | refine And.intro ?_ ?_))
      all_goals first | exact le_str (by rw [hs]; simp) | exact le_int (by omega) | exact le_same
    · have hie : i = x.cls.length := by have : ¬ i < x.cls.length := by simpa using g1
                                        omega
      subst hie
      rw [List.take_length] at hc1
      try simp (config := { maxSteps := 2000000 }) only [go_sem, reduceCtorEq, Nat.reduceAdd, Nat.reduceEqDiff, reduceIte, Nat.reduceLeDiff, Nat.reduceLT, Nat.reduceSub, List.take_length, attV_len]
      all_goals (repeat (with_reducible refine sAnd ?_))
      refine loop_sets (fun i : Nat => [(3, .pv (sv (x.tag ++ clsT x.cls ++ attT (x.att.take i)))), (33, .pv (iv i)), (7, .un), (34, .un), (49, .un), (50, .un)]) (fun i : Nat => x.att.length - i) (fun i : Nat => i ≤ x.att.length) (0) ?_ (Nat.zero_le _) ?_
      focus (simp (config := { maxSteps := 2000000 }) only [go_sem, reduceCtorEq, Nat.reduceAdd, Nat.reduceEqDiff, reduceIte, Nat.reduceLeDiff, Nat.reduceLT, Nat.reduceSub, le_cons, le_nil, le_un, le_same]; all_goals (repeat' (first | exact trivial | exact le_int (by omega) | exact le_bool rfl | exact le_eq rfl | exact le_nlo | exact le_refl _ | refine And.intro ?_ ?_)))
      · exact le_str (by simp [attT])
      intro i hi
      have ha1 := attT_le hx i
      have ha2 := attT_le hx (i + 1)
      try simp (config := { maxSteps := 2000000 }) only [go_sem, reduceCtorEq, Nat.reduceAdd, Nat.reduceEqDiff, reduceIte, Nat.reduceLeDiff, Nat.reduceLT, Nat.reduceSub, attV_len]
      all_goals (repeat (with_reducible refine sAnd ?_))
      refine cond_of (by rfl) trivial (fun g2 => ?_) (fun g2 => ?_)
      · have hlt : i < x.att.length := by simpa using g2
        have hs := attT_succ hlt
        have hal := hx.a i hlt
        rw [hs, List.length_append] at ha2
        simp only [attT1, List.length_append, List.length_cons, List.length_nil] at ha2
        try simp (config := { maxSteps := 2000000 }) only [go_sem, reduceCtorEq, Nat.reduceAdd, Nat.reduceEqDiff, reduceIte, Nat.reduceLeDiff, Nat.reduceLT, Nat.reduceSub, attV_get _ _ hlt, attV_len, List.cons_append, List.nil_append, List.length_append, List.length_cons, List.length_nil]
        all_goals (repeat (with_reducible refine sAnd ?_))
        refine ⟨i + 1, by omega, hlt, ?_⟩
        simp (config := { maxSteps := 2000000 }) only [go_sem, reduceCtorEq, Nat.reduceAdd, Nat.reduceEqDiff, reduceIte, Nat.reduceLeDiff, Nat.reduceLT, Nat.reduceSub, le_cons, le_nil, le_un, le_same]
        all_goals (repeat' (first | exact trivial | exact le_int (by omega) | exact le_bool rfl | exact le_eq rfl | exact le_nlo | exact le_refl _ | refine And.intro ?_ ?_))
        all_goals first | exact le_str (by rw [hs]; simp [attT1]) | exact le_int (by omega) | exact le_same
      · have hie : i = x.att.length := by have : ¬ i < x.att.length := by simpa using g2
                                          omega
        subst hie
        try simp (config := { maxSteps := 2000000 }) only [go_sem, reduceCtorEq, Nat.reduceAdd, Nat.reduceEqDiff, reduceIte, Nat.reduceLeDiff, Nat.reduceLT, Nat.reduceSub, List.take_length]
        all_goals (repeat (with_reducible refine sAnd ?_))
        refine fin_val rfl trivial (.inl ?_)
        unfold nodeT0
        simp [e0]
end Go.Hx
end

section
namespace Go.Hx
open Go.Proofs
variable [Glob]

attribute [local go_sem] ndsV_len clsV_len attV_len intsR_len ndV cellsEq
theorem c_ref_within (n lo hi : Int) : Contract Tryd.prog fn_ref_within [.val (iv n), .val (iv lo), .val (iv hi)] { res := .val (bv (decide (lo ≤ n ∧ n ≤ hi))) } := by
  refine mk_ref_within (base := 0) ⟨Nat.le_of_ble_eq_true rfl, Nat.le_of_ble_eq_true rfl, Nat.le_of_ble_eq_true rfl, rfl⟩ (fun hfit => ?_)
  unfold F0 ref_within_E
  simp (config := { maxSteps := 2000000 }) only [markU, List.set_cons_succ, List.set_cons_zero, List.map_cons, List.map_nil, argCt, setCells, ioOf, List.length_cons, List.length_nil, Nat.reduceAdd, Nat.reduceSub, List.replicate, List.cons_append, List.nil_append]
  try simp (config := { maxSteps := 2000000 }) only [go_sem, reduceCtorEq, Nat.reduceAdd, Nat.reduceEqDiff, reduceIte, Nat.reduceLeDiff, Nat.reduceLT, Nat.reduceSub]
  all_goals (repeat (with_reducible refine sAnd ?_))
  refine fin_val rfl trivial (.inl ?_)
  congr 3
  by_cases h1 : lo ≤ n <;> by_cases h2 : n ≤ hi <;> simp [h1, h2]

theorem c_ref_IsName (s : Bys) : Contract Tryd.prog fn_ref_IsName [.val (sv s)] { res := .val (bv (isName s)) } := by
  refine mk_ref_IsName (base := 0) ⟨Nat.le_of_ble_eq_true rfl, Nat.le_of_ble_eq_true rfl, Nat.le_of_ble_eq_true rfl, rfl⟩ (fun hfit => ?_)
  unfold F0 ref_IsName_E
  simp (config := { maxSteps := 2000000 }) only [markU, List.set_cons_succ, List.set_cons_zero, List.map_cons, List.map_nil, argCt, setCells, ioOf, List.length_cons, List.length_nil, Nat.reduceAdd, Nat.reduceSub, List.replicate, List.cons_append, List.nil_append]
  try simp (config := { maxSteps := 2000000 }) only [go_sem, reduceCtorEq, Nat.reduceAdd, Nat.reduceEqDiff, reduceIte, Nat.reduceLeDiff, Nat.reduceLT, Nat.reduceSub]
  all_goals (repeat (with_reducible refine sAnd ?_))
  refine call_val (by repeat' constructor) (c_ref_within _ _ _) ?_
  try simp (config := { maxSteps := 2000000 }) only [go_sem, reduceCtorEq, Nat.reduceAdd, Nat.reduceEqDiff, reduceIte, Nat.reduceLeDiff, Nat.reduceLT, Nat.reduceSub]
  all_goals (repeat (with_reducible refine sAnd ?_))
  refine cond_of (by rfl) trivial (fun h => ?_) (fun h => ?_)
  · try simp (config := { maxSteps := 2000000 }) only [go_sem, reduceCtorEq, Nat.reduceAdd, Nat.reduceEqDiff, reduceIte, Nat.reduceLeDiff, Nat.reduceLT, Nat.reduceSub]
    all_goals (repeat (with_reducible refine sAnd ?_))
    refine fin_val rfl trivial (.inl ?_)
    congr 3
    cases hn : isName s with
    | false => rfl
    | true => exfalso; simp [isName] at hn h; omega
  have hl : s.length ≤ 12 := by simp at h; omega
  try simp (config := { maxSteps := 2000000 }) only [go_sem, reduceCtorEq, Nat.reduceAdd, Nat.reduceEqDiff, reduceIte, Nat.reduceLeDiff, Nat.reduceLT, Nat.reduceSub]
  all_goals (repeat (with_reducible refine sAnd ?_))
  refine loop_sets (fun i : Nat => [(3, .pv (iv i)), (4, .un), (22, .un), (46, .un)]) (fun i => s.length - i) (fun i => i ≤ s.length ∧ (s.take i).all nameCh = true) 0 ?_ ⟨Nat.zero_le _, rfl⟩ ?_
  · simp (config := { maxSteps := 2000000 }) only [go_sem, reduceCtorEq, Nat.reduceAdd, Nat.reduceEqDiff, reduceIte, Nat.reduceLeDiff, Nat.reduceLT, Nat.reduceSub, le_cons, le_nil, le_un, le_same]
  intro i ⟨hi, hall⟩
  try simp (config := { maxSteps := 2000000 }) only [go_sem, reduceCtorEq, Nat.reduceAdd, Nat.reduceEqDiff, reduceIte, Nat.reduceLeDiff, Nat.reduceLT, Nat.reduceSub]
  all_goals (repeat (with_reducible refine sAnd ?_))
  refine cond_of (by rfl) trivial (fun h2 => ?_) (fun h2 => ?_)
  · have hlt : i < s.length := by simpa using h2
    try simp (config := { maxSteps := 2000000 }) only [go_sem, reduceCtorEq, Nat.reduceAdd, Nat.reduceEqDiff, reduceIte, Nat.reduceLeDiff, Nat.reduceLT, Nat.reduceSub]
    all_goals (repeat (with_reducible refine sAnd ?_))
    refine cond_of (by rfl) trivial (fun h3 => ?_) (fun h3 => ?_)
    · try simp (config := { maxSteps := 2000000 }) only [go_sem, reduceCtorEq, Nat.reduceAdd, Nat.reduceEqDiff, reduceIte, Nat.reduceLeDiff, Nat.reduceLT, Nat.reduceSub]
      all_goals (repeat (with_reducible refine sAnd ?_))
      refine fin_val rfl trivial (.inl ?_)
      congr 3
      cases hn : isName s with
      | false => rfl
      | true =>
        exfalso
        simp only [isName, Bool.and_eq_true, List.all_eq_true] at hn
        have h4 := hn.2 (s.getD i 0) (by simp [hlt])
        simp [nameCh, hlt] at h3 h4
        omega
    · try simp (config := { maxSteps := 2000000 }) only [go_sem, reduceCtorEq, Nat.reduceAdd, Nat.reduceEqDiff, reduceIte, Nat.reduceLeDiff, Nat.reduceLT, Nat.reduceSub]
      all_goals (repeat (with_reducible refine sAnd ?_))
      refine ⟨i + 1, by omega, ⟨hlt, ?_⟩, ?_⟩
      · rw [all_take_succ hlt (d := 0), hall]
        simp [nameCh, hlt] at h3 ⊢
        omega
      · simp (config := { maxSteps := 2000000 }) only [go_sem, reduceCtorEq, Nat.reduceAdd, Nat.reduceEqDiff, reduceIte, Nat.reduceLeDiff, Nat.reduceLT, Nat.reduceSub, le_cons, le_nil, le_un, le_same]
        exact le_int (by omega)
  · try simp (config := { maxSteps := 2000000 }) only [go_sem, reduceCtorEq, Nat.reduceAdd, Nat.reduceEqDiff, reduceIte, Nat.reduceLeDiff, Nat.reduceLT, Nat.reduceSub]
    all_goals (repeat (with_reducible refine sAnd ?_))
    refine fin_val rfl trivial (.inl ?_)
    congr 3
    have hi2 : i = s.length := by simp at h2; omega
    subst hi2
    simp [isName] at hall h ⊢
    exact ⟨by omega, hall⟩

theorem c_ref_IsValue (s : Bys) : Contract Tryd.prog fn_ref_IsValue [.val (sv s)] { res := .val (bv (isValue s)) } := by
  refine mk_ref_IsValue (base := 0) ⟨Nat.le_of_ble_eq_true rfl, Nat.le_of_ble_eq_true rfl, Nat.le_of_ble_eq_true rfl, rfl⟩ (fun hfit => ?_)
  unfold F0 ref_IsValue_E
  simp (config := { maxSteps := 2000000 }) only [markU, List.set_cons_succ, List.set_cons_zero, List.map_cons, List.map_nil, argCt, setCells, ioOf, List.length_cons, List.length_nil, Nat.reduceAdd, Nat.reduceSub, List.replicate, List.cons_append, List.nil_append]
  try simp (config := { maxSteps := 2000000 }) only [go_sem, reduceCtorEq, Nat.reduceAdd, Nat.reduceEqDiff, reduceIte, Nat.reduceLeDiff, Nat.reduceLT, Nat.reduceSub]
  all_goals (repeat (with_reducible refine sAnd ?_))
  refine cond_of (by rfl) trivial (fun h => ?_) (fun h => ?_)
  · try simp (config := { maxSteps := 2000000 }) only [go_sem, reduceCtorEq, Nat.reduceAdd, Nat.reduceEqDiff, reduceIte, Nat.reduceLeDiff, Nat.reduceLT, Nat.reduceSub]
    all_goals (repeat (with_reducible refine sAnd ?_))
    refine fin_val rfl trivial (.inl ?_)
    simp [isValue] at h ⊢
    intro h'; omega
  have hl : s.length ≤ 16 := by simp at h; omega
  try simp (config := { maxSteps := 2000000 }) only [go_sem, reduceCtorEq, Nat.reduceAdd, Nat.reduceEqDiff, reduceIte, Nat.reduceLeDiff, Nat.reduceLT, Nat.reduceSub]
  all_goals (repeat (with_reducible refine sAnd ?_))
  refine loop_sets (fun i : Nat => [(3, .pv (iv i)), (10, .un), (28, .un)]) (fun i => s.length - i) (fun i => i ≤ s.length ∧ (s.take i).all valCh = true) 0 ?_ ⟨Nat.zero_le _, rfl⟩ ?_
  · simp (config := { maxSteps := 2000000 }) only [go_sem, reduceCtorEq, Nat.reduceAdd, Nat.reduceEqDiff, reduceIte, Nat.reduceLeDiff, Nat.reduceLT, Nat.reduceSub, le_cons, le_nil, le_un, le_same]
  intro i ⟨hi, hall⟩
  try simp (config := { maxSteps := 2000000 }) only [go_sem, reduceCtorEq, Nat.reduceAdd, Nat.reduceEqDiff, reduceIte, Nat.reduceLeDiff, Nat.reduceLT, Nat.reduceSub]
  all_goals (repeat (with_reducible refine sAnd ?_))
  refine cond_of (by rfl) trivial (fun h => ?_) (fun h => ?_)
  · have hlt : i < s.length := by simpa using h
    try simp (config := { maxSteps := 2000000 }) only [go_sem, reduceCtorEq, Nat.reduceAdd, Nat.reduceEqDiff, reduceIte, Nat.reduceLeDiff, Nat.reduceLT, Nat.reduceSub]
    all_goals (repeat (with_reducible refine sAnd ?_))
    refine cond_of (by rfl) trivial (fun h2 => ?_) (fun h2 => ?_)
    · try simp (config := { maxSteps := 2000000 }) only [go_sem, reduceCtorEq, Nat.reduceAdd, Nat.reduceEqDiff, reduceIte, Nat.reduceLeDiff, Nat.reduceLT, Nat.reduceSub]
      all_goals (repeat (with_reducible refine sAnd ?_))
      refine fin_val rfl trivial (.inl ?_)
      congr 3
      cases hn : isValue s with
      | false => rfl
      | true =>
        exfalso
        simp only [isValue, Bool.and_eq_true, List.all_eq_true] at hn
        have h4 := hn.2 (s.getD i 0) (by simp [hlt])
        simp [valCh, hlt] at h2 h4
        omega
    · try simp (config := { maxSteps := 2000000 }) only [go_sem, reduceCtorEq, Nat.reduceAdd, Nat.reduceEqDiff, reduceIte, Nat.reduceLeDiff, Nat.reduceLT, Nat.reduceSub]
      all_goals (repeat (with_reducible refine sAnd ?_))
      refine ⟨i + 1, by omega, ⟨hlt, ?_⟩, ?_⟩
      · rw [all_take_succ hlt (d := 0), hall]
        simp [valCh, hlt] at h2 ⊢
        omega
      · simp (config := { maxSteps := 2000000 }) only [go_sem, reduceCtorEq, Nat.reduceAdd, Nat.reduceEqDiff, reduceIte, Nat.reduceLeDiff, Nat.reduceLT, Nat.reduceSub, le_cons, le_nil, le_un, le_same]
        exact le_int (by omega)
  · try simp (config := { maxSteps := 2000000 }) only [go_sem, reduceCtorEq, Nat.reduceAdd, Nat.reduceEqDiff, reduceIte, Nat.reduceLeDiff, Nat.reduceLT, Nat.reduceSub]
    all_goals (repeat (with_reducible refine sAnd ?_))
    refine fin_val rfl trivial (.inl ?_)
    have hi2 : i = s.length := by simp at h; omega
    subst hi2
    simp [isValue, hl] at hall ⊢
    exact hall
end Go.Hx
end

section
set_option maxRecDepth 100000
set_option linter.unusedSimpArgs false
namespace Go.Hx
open Go.Proofs
variable [Glob]

attribute [local go_sem] ndsV_len clsV_len attV_len intsR_len ndV cellsEq
theorem c_ref_NodeFine (x : Nd) : Contract Tryd.prog fn_ref_NodeFine [.val (.agg (ndV x))] { res := .val (bv (nodeFine x)) } := by
  unfold ndV
  refine mk_ref_NodeFine (base := 0) ⟨Nat.le_of_ble_eq_true rfl, Nat.le_of_ble_eq_true rfl, Nat.le_of_ble_eq_true rfl, rfl⟩ (fun hfit => ?_)
  unfold F0 ref_NodeFine_E
  simp (config := { maxSteps := 2000000 }) only [markU, List.set_cons_succ, List.set_cons_zero, List.map_cons, List.map_nil, argCt, setCells, ioOf, List.length_cons, List.length_nil, Nat.reduceAdd, Nat.reduceSub, List.replicate, List.cons_append, List.nil_append]
  try simp (config := { maxSteps := 2000000 }) only [go_sem, reduceCtorEq, Nat.reduceAdd, Nat.reduceEqDiff, reduceIte, Nat.reduceLeDiff, Nat.reduceLT, Nat.reduceSub]
  all_goals (repeat (with_reducible refine sAnd ?_))
  refine call_val (by repeat' constructor) (c_ref_IsName _) ?_
  try simp (config := { maxSteps := 2000000 }) only [go_sem, reduceCtorEq, Nat.reduceAdd, Nat.reduceEqDiff, reduceIte, Nat.reduceLeDiff, Nat.reduceLT, Nat.reduceSub]
  all_goals (repeat (with_reducible refine sAnd ?_))
  apply call_guard (h2 := fun _ => c_ref_IsName _)
  · (simp (config := { maxSteps := 2000000 }) only [go_sem, reduceCtorEq, Nat.reduceAdd, Nat.reduceEqDiff, reduceIte, Nat.reduceLeDiff, Nat.reduceLT, Nat.reduceSub]; rfl)
  · intro h; repeat' (first | exact trivial | exact h | refine And.intro ?_ ?_)
  try simp (config := { maxSteps := 2000000 }) only [go_sem, reduceCtorEq, Nat.reduceAdd, Nat.reduceEqDiff, reduceIte, Nat.reduceLeDiff, Nat.reduceLT, Nat.reduceSub, clsV_len, attV_len]
  all_goals (repeat (with_reducible refine sAnd ?_))
  refine cond_of (by rfl) trivial (fun h => ?_) (fun h => ?_)
  · try simp (config := { maxSteps := 2000000 }) only [go_sem, reduceCtorEq, Nat.reduceAdd, Nat.reduceEqDiff, reduceIte, Nat.reduceLeDiff, Nat.reduceLT, Nat.reduceSub]
    all_goals (repeat (with_reducible refine sAnd ?_))
    refine fin_val rfl trivial (.inl ?_)
    congr 3
    cases hn : nodeFine x with
    | false => rfl
    | true =>
      exfalso
      simp only [nodeFine, Bool.and_eq_true, Bool.or_eq_true, decide_eq_true_eq, beq_iff_eq] at hn
      obtain ⟨⟨⟨⟨⟨h1, h2⟩, h3⟩, h4⟩, _⟩, _⟩ := hn
      rcases h2 with h2 | h2
      · simp [h1, h2] at h; omega
      · simp [h1, h2] at h; omega
  have hh : isName x.tag = true ∧ (x.id = [] ∨ isName x.id = true) ∧ x.cls.length ≤ 6 ∧ x.att.length ≤ 4 := by
    simp at h
    refine ⟨h.1.1.1, ?_, by omega, by omega⟩
    by_cases h0 : x.id = []
    · exact .inl h0
    · exact .inr (h.1.1.2 h0)
  obtain ⟨hh1, hh2, hh3, hh4⟩ := hh
  try simp (config := { maxSteps := 2000000 }) only [go_sem, reduceCtorEq, Nat.reduceAdd, Nat.reduceEqDiff, reduceIte, Nat.reduceLeDiff, Nat.reduceLT, Nat.reduceSub]
  all_goals (repeat (with_reducible refine sAnd ?_))
  refine loop_sets (fun i : Nat => [(3, .pv (iv i)), (36, .un), (63, .un)]) (fun i => x.cls.length - i) (fun i => i ≤ x.cls.length ∧ okC x.cls i = true) 0 ?_ ⟨Nat.zero_le _, rfl⟩ ?_
  · simp (config := { maxSteps := 2000000 }) only [go_sem, reduceCtorEq, Nat.reduceAdd, Nat.reduceEqDiff, reduceIte, Nat.reduceLeDiff, Nat.reduceLT, Nat.reduceSub, le_cons, le_nil, le_un, le_same]
  intro i ⟨hi, hok⟩
  try simp (config := { maxSteps := 2000000 }) only [go_sem, reduceCtorEq, Nat.reduceAdd, Nat.reduceEqDiff, reduceIte, Nat.reduceLeDiff, Nat.reduceLT, Nat.reduceSub, clsV_len]
  all_goals (repeat (with_reducible refine sAnd ?_))
  refine cond_of (by rfl) trivial (fun h2 => ?_) (fun h2 => ?_)
  · have hlt : i < x.cls.length := by simpa using h2
    have e1 : ((i : Int) - 1).toNat = i - 1 := by omega
    try simp (config := { maxSteps := 2000000 }) only [go_sem, reduceCtorEq, Nat.reduceAdd, Nat.reduceEqDiff, reduceIte, Nat.reduceLeDiff, Nat.reduceLT, Nat.reduceSub, clsV_get _ _ hlt, clsV_len]
    all_goals (repeat (with_reducible refine sAnd ?_))
    refine call_val (by repeat' constructor) (c_ref_IsName _) ?_
    try simp (config := { maxSteps := 2000000 }) only [go_sem, reduceCtorEq, Nat.reduceAdd, Nat.reduceEqDiff, reduceIte, Nat.reduceLeDiff, Nat.reduceLT, Nat.reduceSub, clsV_get _ _ hlt, clsV_len, e1, clsV_get _ _ (show i - 1 < x.cls.length by omega)]
    all_goals (repeat (with_reducible refine sAnd ?_))
    refine cond_of (by rfl) trivial (fun h3 => ?_) (fun h3 => ?_)
    · try simp (config := { maxSteps := 2000000 }) only [go_sem, reduceCtorEq, Nat.reduceAdd, Nat.reduceEqDiff, reduceIte, Nat.reduceLeDiff, Nat.reduceLT, Nat.reduceSub]
      all_goals (repeat (with_reducible refine sAnd ?_))
      refine fin_val rfl trivial (.inl ?_)
      congr 3
      cases hn : nodeFine x with
      | false => rfl
      | true =>
        exfalso
        simp only [nodeFine, Bool.and_eq_true] at hn
        have h4 := range_all_get hn.1.2 hlt
        simp [cOk, hlt] at h3 h4
        grind
    · try simp (config := { maxSteps := 2000000 }) only [go_sem, reduceCtorEq, Nat.reduceAdd, Nat.reduceEqDiff, reduceIte, Nat.reduceLeDiff, Nat.reduceLT, Nat.reduceSub]
      all_goals (repeat (with_reducible refine sAnd ?_))
      refine ⟨i + 1, by omega, ⟨hlt, ?_⟩, ?_⟩
      · show (List.range (i + 1)).all (cOk x.cls) = true
        rw [range_all_succ]
        have hok' : (List.range i).all (cOk x.cls) = true := hok
        rw [hok']
        simp [cOk, hlt] at h3 ⊢
        refine ⟨h3.1, ?_⟩
        rcases Nat.eq_zero_or_pos i with h5 | h5
        · exact .inl h5
        · exact .inr (h3.2 h5)
      · simp (config := { maxSteps := 2000000 }) only [go_sem, reduceCtorEq, Nat.reduceAdd, Nat.reduceEqDiff, reduceIte, Nat.reduceLeDiff, Nat.reduceLT, Nat.reduceSub, le_cons, le_nil, le_un, le_same]
        exact le_int (by omega)
  try simp (config := { maxSteps := 2000000 }) only [go_sem, reduceCtorEq, Nat.reduceAdd, Nat.reduceEqDiff, reduceIte, Nat.reduceLeDiff, Nat.reduceLT, Nat.reduceSub]
  all_goals (repeat (with_reducible refine sAnd ?_))
  have hi2 : i = x.cls.length := by simp at h2; omega
  refine loop_sets (fun i : Nat => [(4, .pv (iv i)), (68, .un), (108, .un)]) (fun i => x.att.length - i) (fun i => i ≤ x.att.length ∧ okA x.att i = true) 0 ?_ ⟨Nat.zero_le _, rfl⟩ ?_
  · simp (config := { maxSteps := 2000000 }) only [go_sem, reduceCtorEq, Nat.reduceAdd, Nat.reduceEqDiff, reduceIte, Nat.reduceLeDiff, Nat.reduceLT, Nat.reduceSub, le_cons, le_nil, le_un, le_same]
  intro k ⟨hk, hokA⟩
  try simp (config := { maxSteps := 2000000 }) only [go_sem, reduceCtorEq, Nat.reduceAdd, Nat.reduceEqDiff, reduceIte, Nat.reduceLeDiff, Nat.reduceLT, Nat.reduceSub, attV_len]
  all_goals (repeat (with_reducible refine sAnd ?_))
  refine cond_of (by rfl) trivial (fun h3 => ?_) (fun h3 => ?_)
  · have hlt : k < x.att.length := by simpa using h3
    have e1 : ((k : Int) - 1).toNat = k - 1 := by omega
    try simp (config := { maxSteps := 2000000 }) only [go_sem, reduceCtorEq, Nat.reduceAdd, Nat.reduceEqDiff, reduceIte, Nat.reduceLeDiff, Nat.reduceLT, Nat.reduceSub, attV_get _ _ hlt, attV_len]
    all_goals (repeat (with_reducible refine sAnd ?_))
    refine call_val (by repeat' constructor) (c_ref_IsName _) ?_
    try simp (config := { maxSteps := 2000000 }) only [go_sem, reduceCtorEq, Nat.reduceAdd, Nat.reduceEqDiff, reduceIte, Nat.reduceLeDiff, Nat.reduceLT, Nat.reduceSub, attV_get _ _ hlt, attV_len]
    all_goals (repeat (with_reducible refine sAnd ?_))
    apply call_guard (h2 := fun _ => c_ref_IsValue _)
    · (simp (config := { maxSteps := 2000000 }) only [go_sem, reduceCtorEq, Nat.reduceAdd, Nat.reduceEqDiff, reduceIte, Nat.reduceLeDiff, Nat.reduceLT, Nat.reduceSub]; rfl)
    · intro h; repeat' (first | exact trivial | exact h | refine And.intro ?_ ?_)
    try simp (config := { maxSteps := 2000000 }) only [go_sem, reduceCtorEq, Nat.reduceAdd, Nat.reduceEqDiff, reduceIte, Nat.reduceLeDiff, Nat.reduceLT, Nat.reduceSub, attV_get _ _ hlt, attV_len, e1, attV_get _ _ (show k - 1 < x.att.length by omega)]
    all_goals (repeat (with_reducible refine sAnd ?_))
    refine cond_of (by rfl) trivial (fun h4 => ?_) (fun h4 => ?_)
    · try simp (config := { maxSteps := 2000000 }) only [go_sem, reduceCtorEq, Nat.reduceAdd, Nat.reduceEqDiff, reduceIte, Nat.reduceLeDiff, Nat.reduceLT, Nat.reduceSub]
      all_goals (repeat (with_reducible refine sAnd ?_))
      refine fin_val rfl trivial (.inl ?_)
      congr 3
      cases hn : nodeFine x with
      | false => rfl
      | true =>
        exfalso
        simp only [nodeFine, Bool.and_eq_true] at hn
        have h5 := range_all_get hn.2 hlt
        simp [aOk, hlt] at h4 h5
        grind
    · try simp (config := { maxSteps := 2000000 }) only [go_sem, reduceCtorEq, Nat.reduceAdd, Nat.reduceEqDiff, reduceIte, Nat.reduceLeDiff, Nat.reduceLT, Nat.reduceSub]
      all_goals (repeat (with_reducible refine sAnd ?_))
      refine ⟨k + 1, by omega, ⟨hlt, ?_⟩, ?_⟩
      · show (List.range (k + 1)).all (aOk x.att) = true
        rw [range_all_succ]
        have hok' : (List.range k).all (aOk x.att) = true := hokA
        rw [hok']
        simp [aOk, hlt] at h4 ⊢
        refine ⟨h4.1, ?_⟩
        rcases Nat.eq_zero_or_pos k with h5 | h5
        · exact .inl h5
        · exact .inr (h4.2 h5)
      · simp (config := { maxSteps := 2000000 }) only [go_sem, reduceCtorEq, Nat.reduceAdd, Nat.reduceEqDiff, reduceIte, Nat.reduceLeDiff, Nat.reduceLT, Nat.reduceSub, le_cons, le_nil, le_un, le_same]
        exact le_int (by omega)
  · try simp (config := { maxSteps := 2000000 }) only [go_sem, reduceCtorEq, Nat.reduceAdd, Nat.reduceEqDiff, reduceIte, Nat.reduceLeDiff, Nat.reduceLT, Nat.reduceSub]
    all_goals (repeat (with_reducible refine sAnd ?_))
    refine fin_val rfl trivial (.inl ?_)
    congr 3
    have hk2 : k = x.att.length := by simp at h3; omega
    subst hk2 hi2
    simp only [nodeFine, hh1, hok, hokA, hh3, hh4, decide_true, Bool.and_true, Bool.true_and]
    rcases hh2 with h | h <;> simp [h]

end Go.Hx
end

section
set_option maxRecDepth 100000
set_option linter.unusedSimpArgs false
namespace Go.Hx
open Go.Proofs
variable [Glob]

attribute [local go_sem] ndsV_len clsV_len attV_len intsR_len ndV cellsEq
end Go.Hx
end

section
set_option maxRecDepth 100000
set_option linter.unusedSimpArgs false
namespace Go.Hx
open Go.Proofs
variable [Glob]

attribute [local go_sem] ndsV_len clsV_len attV_len intsR_len ndV cellsEq
theorem c_ref_SameTexts (a b : List Bys) : Contract Tryd.prog fn_ref_SameTexts [.val (.one (.sl 1 (clsV a))), .val (.one (.sl 1 (clsV b)))] { res := .val (bv (decide (a = b))) } := by
  refine mk_ref_SameTexts (base := 0) ⟨Nat.le_of_ble_eq_true rfl, Nat.le_of_ble_eq_true rfl, Nat.le_of_ble_eq_true rfl, rfl⟩ (fun hfit => ?_)
  unfold F0 ref_SameTexts_E
  simp (config := { maxSteps := 2000000 }) only [markU, List.set_cons_succ, List.set_cons_zero, List.map_cons, List.map_nil, argCt, setCells, ioOf, List.length_cons, List.length_nil, Nat.reduceAdd, Nat.reduceSub, List.replicate, List.cons_append, List.nil_append]
  try simp (config := { maxSteps := 2000000 }) only [go_sem, reduceCtorEq, Nat.reduceAdd, Nat.reduceEqDiff, reduceIte, Nat.reduceLeDiff, Nat.reduceLT, Nat.reduceSub]
  all_goals (repeat (with_reducible refine sAnd ?_))
  have hm := fits_sl (k := 1) hfit.1
  rw [clsV_len] at hm
  refine cond_of (by rfl) trivial (fun h => ?_) (fun h => ?_)
  · try simp (config := { maxSteps := 2000000 }) only [go_sem, reduceCtorEq, Nat.reduceAdd, Nat.reduceEqDiff, reduceIte, Nat.reduceLeDiff, Nat.reduceLT, Nat.reduceSub]
    all_goals (repeat (with_reducible refine sAnd ?_))
    refine fin_val rfl trivial (.inl ?_)
    congr 3
    simp [clsV_len] at h
    exact decide_eq_false (fun e => h (by subst e; rfl))
  have hl : a.length = b.length := by simp [clsV_len] at h; omega
  try simp (config := { maxSteps := 2000000 }) only [go_sem, reduceCtorEq, Nat.reduceAdd, Nat.reduceEqDiff, reduceIte, Nat.reduceLeDiff, Nat.reduceLT, Nat.reduceSub]
  all_goals (repeat (with_reducible refine sAnd ?_))
  refine loop_sets (fun i : Nat => [(5, .pv (iv i)), (14, .un), (25, .un)]) (fun i => a.length - i) (fun i => i ≤ a.length ∧ a.take i = b.take i) 0 ?_ ⟨Nat.zero_le _, rfl⟩ ?_
  · simp (config := { maxSteps := 2000000 }) only [go_sem, reduceCtorEq, Nat.reduceAdd, Nat.reduceEqDiff, reduceIte, Nat.reduceLeDiff, Nat.reduceLT, Nat.reduceSub, le_cons, le_nil, le_un, le_same]
  intro i ⟨hi, heq⟩
  try simp (config := { maxSteps := 2000000 }) only [go_sem, reduceCtorEq, Nat.reduceAdd, Nat.reduceEqDiff, reduceIte, Nat.reduceLeDiff, Nat.reduceLT, Nat.reduceSub, clsV_len]
  all_goals (repeat (with_reducible refine sAnd ?_))
  refine cond_of (by rfl) trivial (fun h2 => ?_) (fun h2 => ?_)
  · have hlt : i < a.length := by simpa using h2
    have hltb : i < b.length := by omega
    try simp (config := { maxSteps := 2000000 }) only [go_sem, reduceCtorEq, Nat.reduceAdd, Nat.reduceEqDiff, reduceIte, Nat.reduceLeDiff, Nat.reduceLT, Nat.reduceSub, clsV_get _ _ hlt, clsV_get _ _ hltb, clsV_len]
    all_goals (repeat (with_reducible refine sAnd ?_))
    refine cond_of (by rfl) trivial (fun h3 => ?_) (fun h3 => ?_)
    · try simp (config := { maxSteps := 2000000 }) only [go_sem, reduceCtorEq, Nat.reduceAdd, Nat.reduceEqDiff, reduceIte, Nat.reduceLeDiff, Nat.reduceLT, Nat.reduceSub]
      all_goals (repeat (with_reducible refine sAnd ?_))
      refine fin_val rfl trivial (.inl ?_)
      congr 3
      simp only [Bool.not_eq_true', beq_eq_false_iff_ne] at h3
      exact (decide_eq_false (ne_of_getD [] h3))
    · try simp (config := { maxSteps := 2000000 }) only [go_sem, reduceCtorEq, Nat.reduceAdd, Nat.reduceEqDiff, reduceIte, Nat.reduceLeDiff, Nat.reduceLT, Nat.reduceSub]
      all_goals (repeat (with_reducible refine sAnd ?_))
      refine ⟨i + 1, by omega, ⟨hlt, take_eq_succ [] heq hlt hltb ?_⟩, ?_⟩
      · simpa only [Bool.not_eq_false', beq_iff_eq] using h3
      · simp (config := { maxSteps := 2000000 }) only [go_sem, reduceCtorEq, Nat.reduceAdd, Nat.reduceEqDiff, reduceIte, Nat.reduceLeDiff, Nat.reduceLT, Nat.reduceSub, le_cons, le_nil, le_un, le_same]
        exact le_int (by omega)
  · try simp (config := { maxSteps := 2000000 }) only [go_sem, reduceCtorEq, Nat.reduceAdd, Nat.reduceEqDiff, reduceIte, Nat.reduceLeDiff, Nat.reduceLT, Nat.reduceSub]
    all_goals (repeat (with_reducible refine sAnd ?_))
    refine fin_val rfl trivial (.inl ?_)
    congr 3
    have hi2 : i = a.length := by simp at h2; omega
    subst hi2
    exact decide_eq_true (eq_of_take hl heq)

theorem c_ref_SameNodes (x y : Nd) : Contract Tryd.prog fn_ref_SameNodes [.val (.agg (ndV x)), .val (.agg (ndV y))] { res := .val (bv (decide (x = y))) } := by
  unfold ndV
  refine mk_ref_SameNodes (base := 0) ⟨Nat.le_of_ble_eq_true rfl, Nat.le_of_ble_eq_true rfl, Nat.le_of_ble_eq_true rfl, rfl⟩ (fun hfit => ?_)
  unfold F0 ref_SameNodes_E
  simp (config := { maxSteps := 2000000 }) only [markU, List.set_cons_succ, List.set_cons_zero, List.map_cons, List.map_nil, argCt, setCells, ioOf, List.length_cons, List.length_nil, Nat.reduceAdd, Nat.reduceSub, List.replicate, List.cons_append, List.nil_append]
  try simp (config := { maxSteps := 2000000 }) only [go_sem, reduceCtorEq, Nat.reduceAdd, Nat.reduceEqDiff, reduceIte, Nat.reduceLeDiff, Nat.reduceLT, Nat.reduceSub]
  all_goals (repeat (with_reducible refine sAnd ?_))
  apply call_guard (h2 := fun _ => c_ref_SameTexts _ _)
  · (simp (config := { maxSteps := 2000000 }) only [go_sem, reduceCtorEq, Nat.reduceAdd, Nat.reduceEqDiff, reduceIte, Nat.reduceLeDiff, Nat.reduceLT, Nat.reduceSub]; rfl)
  · intro h; repeat' (first | exact trivial | exact h | refine And.intro ?_ ?_)
  try simp (config := { maxSteps := 2000000 }) only [go_sem, reduceCtorEq, Nat.reduceAdd, Nat.reduceEqDiff, reduceIte, Nat.reduceLeDiff, Nat.reduceLT, Nat.reduceSub, attV_len]
  all_goals (repeat (with_reducible refine sAnd ?_))
  have hm := fits_sl (k := 2) (hfit.1.2.2.2.2.1)
  rw [attV_len] at hm
  refine cond_of (by rfl) trivial (fun h => ?_) (fun h => ?_)
  · try simp (config := { maxSteps := 2000000 }) only [go_sem, reduceCtorEq, Nat.reduceAdd, Nat.reduceEqDiff, reduceIte, Nat.reduceLeDiff, Nat.reduceLT, Nat.reduceSub]
    all_goals (repeat (with_reducible refine sAnd ?_))
    refine fin_val rfl trivial (.inl ?_)
    congr 3
    refine decide_eq_false (fun e => ?_)
    subst e
    simp at h
  have hh : x.up = y.up ∧ x.tag = y.tag ∧ x.id = y.id ∧ x.cls = y.cls ∧ x.att.length = y.att.length := by
    simp at h
    grind
  obtain ⟨e1, e2, e3, e4, hl⟩ := hh
  try simp (config := { maxSteps := 2000000 }) only [go_sem, reduceCtorEq, Nat.reduceAdd, Nat.reduceEqDiff, reduceIte, Nat.reduceLeDiff, Nat.reduceLT, Nat.reduceSub]
  all_goals (repeat (with_reducible refine sAnd ?_))
  refine loop_sets (fun i : Nat => [(5, .pv (iv i)), (46, .un), (59, .un)]) (fun i => x.att.length - i) (fun i => i ≤ x.att.length ∧ x.att.take i = y.att.take i) 0 ?_ ⟨Nat.zero_le _, rfl⟩ ?_
  · simp (config := { maxSteps := 2000000 }) only [go_sem, reduceCtorEq, Nat.reduceAdd, Nat.reduceEqDiff, reduceIte, Nat.reduceLeDiff, Nat.reduceLT, Nat.reduceSub, le_cons, le_nil, le_un, le_same]
  intro i ⟨hi, heq⟩
  try simp (config := { maxSteps := 2000000 }) only [go_sem, reduceCtorEq, Nat.reduceAdd, Nat.reduceEqDiff, reduceIte, Nat.reduceLeDiff, Nat.reduceLT, Nat.reduceSub, attV_len]
  all_goals (repeat (with_reducible refine sAnd ?_))
  refine cond_of (by rfl) trivial (fun h2 => ?_) (fun h2 => ?_)
  · have hlt : i < x.att.length := by simpa using h2
    have hltb : i < y.att.length := by omega
    try simp (config := { maxSteps := 2000000 }) only [go_sem, reduceCtorEq, Nat.reduceAdd, Nat.reduceEqDiff, reduceIte, Nat.reduceLeDiff, Nat.reduceLT, Nat.reduceSub, attV_get _ _ hlt, attV_get _ _ hltb, attV_len, cellsEq]
    all_goals (repeat (with_reducible refine sAnd ?_))
    refine cond_of (by rfl) trivial (fun h3 => ?_) (fun h3 => ?_)
    · try simp (config := { maxSteps := 2000000 }) only [go_sem, reduceCtorEq, Nat.reduceAdd, Nat.reduceEqDiff, reduceIte, Nat.reduceLeDiff, Nat.reduceLT, Nat.reduceSub]
      all_goals (repeat (with_reducible refine sAnd ?_))
      refine fin_val rfl trivial (.inl ?_)
      congr 3
      refine decide_eq_false (fun e => ?_)
      subst e
      simp at h3
    · try simp (config := { maxSteps := 2000000 }) only [go_sem, reduceCtorEq, Nat.reduceAdd, Nat.reduceEqDiff, reduceIte, Nat.reduceLeDiff, Nat.reduceLT, Nat.reduceSub]
      all_goals (repeat (with_reducible refine sAnd ?_))
      refine ⟨i + 1, by omega, ⟨hlt, take_eq_succ default heq hlt hltb ?_⟩, ?_⟩
      · simp at h3
        exact Prod.ext h3.1 h3.2
      · simp (config := { maxSteps := 2000000 }) only [go_sem, reduceCtorEq, Nat.reduceAdd, Nat.reduceEqDiff, reduceIte, Nat.reduceLeDiff, Nat.reduceLT, Nat.reduceSub, le_cons, le_nil, le_un, le_same]
        exact le_int (by omega)
  · try simp (config := { maxSteps := 2000000 }) only [go_sem, reduceCtorEq, Nat.reduceAdd, Nat.reduceEqDiff, reduceIte, Nat.reduceLeDiff, Nat.reduceLT, Nat.reduceSub]
    all_goals (repeat (with_reducible refine sAnd ?_))
    refine fin_val rfl trivial (.inl ?_)
    congr 3
    have hi2 : i = x.att.length := by simp at h2; omega
    subst hi2
    have e5 := eq_of_take hl heq
    refine decide_eq_true ?_
    cases x; cases y
    simp_all

theorem c_ref_SameDocs (a b : List Nd) : Contract Tryd.prog fn_ref_SameDocs [.val (docV a), .val (docV b)] { res := .val (bv (decide (a = b))) } := by
  unfold docV
  refine mk_ref_SameDocs (base := 0) ⟨Nat.le_of_ble_eq_true rfl, Nat.le_of_ble_eq_true rfl, Nat.le_of_ble_eq_true rfl, rfl⟩ (fun hfit => ?_)
  unfold F0 ref_SameDocs_E
  simp (config := { maxSteps := 2000000 }) only [markU, List.set_cons_succ, List.set_cons_zero, List.map_cons, List.map_nil, argCt, setCells, ioOf, List.length_cons, List.length_nil, Nat.reduceAdd, Nat.reduceSub, List.replicate, List.cons_append, List.nil_append]
  try simp (config := { maxSteps := 2000000 }) only [go_sem, reduceCtorEq, Nat.reduceAdd, Nat.reduceEqDiff, reduceIte, Nat.reduceLeDiff, Nat.reduceLT, Nat.reduceSub]
  all_goals (repeat (with_reducible refine sAnd ?_))
  have hm := fits_sl (k := 5) (hfit.1.1)
  rw [ndsV_len] at hm
  refine cond_of (by rfl) trivial (fun h => ?_) (fun h => ?_)
  · try simp (config := { maxSteps := 2000000 }) only [go_sem, reduceCtorEq, Nat.reduceAdd, Nat.reduceEqDiff, reduceIte, Nat.reduceLeDiff, Nat.reduceLT, Nat.reduceSub]
    all_goals (repeat (with_reducible refine sAnd ?_))
    refine fin_val rfl trivial (.inl ?_)
    congr 3
    simp [ndsV_len] at h
    exact decide_eq_false (fun e => h (by rw [e]))
  have hl : a.length = b.length := by simp [ndsV_len] at h; omega
  try simp (config := { maxSteps := 2000000 }) only [go_sem, reduceCtorEq, Nat.reduceAdd, Nat.reduceEqDiff, reduceIte, Nat.reduceLeDiff, Nat.reduceLT, Nat.reduceSub]
  all_goals (repeat (with_reducible refine sAnd ?_))
  refine loop_sets (fun i : Nat => [(5, .pv (iv i)), (17, .un), (31, .un)]) (fun i => a.length - i) (fun i => i ≤ a.length ∧ a.take i = b.take i) 0 ?_ ⟨Nat.zero_le _, rfl⟩ ?_
  · simp (config := { maxSteps := 2000000 }) only [go_sem, reduceCtorEq, Nat.reduceAdd, Nat.reduceEqDiff, reduceIte, Nat.reduceLeDiff, Nat.reduceLT, Nat.reduceSub, le_cons, le_nil, le_un, le_same]
  intro i ⟨hi, heq⟩
  try simp (config := { maxSteps := 2000000 }) only [go_sem, reduceCtorEq, Nat.reduceAdd, Nat.reduceEqDiff, reduceIte, Nat.reduceLeDiff, Nat.reduceLT, Nat.reduceSub, ndsV_len]
  all_goals (repeat (with_reducible refine sAnd ?_))
  refine cond_of (by rfl) trivial (fun h2 => ?_) (fun h2 => ?_)
  · have hlt : i < a.length := by simpa using h2
    have hltb : i < b.length := by omega
    try simp (config := { maxSteps := 2000000 }) only [go_sem, reduceCtorEq, Nat.reduceAdd, Nat.reduceEqDiff, reduceIte, Nat.reduceLeDiff, Nat.reduceLT, Nat.reduceSub, ndsV_get _ _ hlt, ndsV_get _ _ hltb, ndsV_len, ndV]
    all_goals (repeat (with_reducible refine sAnd ?_))
    refine call_val (by repeat' constructor) (c_ref_SameNodes _ _) ?_
    try simp (config := { maxSteps := 2000000 }) only [go_sem, reduceCtorEq, Nat.reduceAdd, Nat.reduceEqDiff, reduceIte, Nat.reduceLeDiff, Nat.reduceLT, Nat.reduceSub]
    all_goals (repeat (with_reducible refine sAnd ?_))
    refine cond_of (by rfl) trivial (fun h3 => ?_) (fun h3 => ?_)
    · try simp (config := { maxSteps := 2000000 }) only [go_sem, reduceCtorEq, Nat.reduceAdd, Nat.reduceEqDiff, reduceIte, Nat.reduceLeDiff, Nat.reduceLT, Nat.reduceSub]
      all_goals (repeat (with_reducible refine sAnd ?_))
      refine fin_val rfl trivial (.inl ?_)
      congr 3
      simp only [Bool.not_eq_true', decide_eq_false_iff_not] at h3
      exact decide_eq_false (ne_of_getD default h3)
    · try simp (config := { maxSteps := 2000000 }) only [go_sem, reduceCtorEq, Nat.reduceAdd, Nat.reduceEqDiff, reduceIte, Nat.reduceLeDiff, Nat.reduceLT, Nat.reduceSub]
      all_goals (repeat (with_reducible refine sAnd ?_))
      refine ⟨i + 1, by omega, ⟨hlt, take_eq_succ default heq hlt hltb ?_⟩, ?_⟩
      · simpa only [Bool.not_eq_false', decide_eq_true_eq] using h3
      · simp (config := { maxSteps := 2000000 }) only [go_sem, reduceCtorEq, Nat.reduceAdd, Nat.reduceEqDiff, reduceIte, Nat.reduceLeDiff, Nat.reduceLT, Nat.reduceSub, le_cons, le_nil, le_un, le_same]
        exact le_int (by omega)
  · try simp (config := { maxSteps := 2000000 }) only [go_sem, reduceCtorEq, Nat.reduceAdd, Nat.reduceEqDiff, reduceIte, Nat.reduceLeDiff, Nat.reduceLT, Nat.reduceSub]
    all_goals (repeat (with_reducible refine sAnd ?_))
    refine fin_val rfl trivial (.inl ?_)
    congr 3
    have hi2 : i = a.length := by simp at h2; omega
    subst hi2
    exact decide_eq_true (eq_of_take hl heq)
end Go.Hx
end

section
set_option maxRecDepth 100000
set_option linter.unusedSimpArgs false
namespace Go.Hx
open Go.Proofs
variable [Glob]

attribute [local go_sem] ndsV_len clsV_len attV_len intsR_len ndV cellsEq
theorem docOk_succ {d : List Nd} {i : Nat} : docOk d (i + 1) = (docOk d i && okAt d i) := range_all_succ
theorem c_ref_CheckDoc (d : List Nd) : Contract Tryd.prog fn_ref_CheckDoc [.val (docV d)] { res := .val (iv (checkDoc d)) } := by
  unfold docV
  refine mk_ref_CheckDoc (base := 0) ⟨Nat.le_of_ble_eq_true rfl, Nat.le_of_ble_eq_true rfl, Nat.le_of_ble_eq_true rfl, rfl⟩ (fun hfit => ?_)
  unfold F0 ref_CheckDoc_E
  simp (config := { maxSteps := 2000000 }) only [markU, List.set_cons_succ, List.set_cons_zero, List.map_cons, List.map_nil, argCt, setCells, ioOf, List.length_cons, List.length_nil, Nat.reduceAdd, Nat.reduceSub, List.replicate, List.cons_append, List.nil_append]
  try simp (config := { maxSteps := 2000000 }) only [go_sem, reduceCtorEq, Nat.reduceAdd, Nat.reduceEqDiff, reduceIte, Nat.reduceLeDiff, Nat.reduceLT, Nat.reduceSub]
  all_goals (repeat (with_reducible refine sAnd ?_))
  try simp (config := { maxSteps := 2000000 }) only [go_sem, reduceCtorEq, Nat.reduceAdd, Nat.reduceEqDiff, reduceIte, Nat.reduceLeDiff, Nat.reduceLT, Nat.reduceSub, ndsV_len]
  all_goals (repeat (with_reducible refine sAnd ?_))
  refine call_val (by repeat' constructor) (c_ref_within _ _ _) ?_
  try simp (config := { maxSteps := 2000000 }) only [go_sem, reduceCtorEq, Nat.reduceAdd, Nat.reduceEqDiff, reduceIte, Nat.reduceLeDiff, Nat.reduceLT, Nat.reduceSub]
  all_goals (repeat (with_reducible refine sAnd ?_))
  refine cond_of (by rfl) trivial (fun h => ?_) (fun h => ?_)
  · try simp (config := { maxSteps := 2000000 }) only [go_sem, reduceCtorEq, Nat.reduceAdd, Nat.reduceEqDiff, reduceIte, Nat.reduceLeDiff, Nat.reduceLT, Nat.reduceSub]
    all_goals (repeat (with_reducible refine sAnd ?_))
    refine fin_val rfl trivial (.inl ?_)
    congr 3
    have h2 : ¬ (1 ≤ d.length ∧ d.length ≤ 64) := by simp at h; omega
    simp [checkDoc, h2]
  have hr : 1 ≤ d.length ∧ d.length ≤ 64 := by simp at h; omega
  obtain ⟨hr1, hr2⟩ := hr
  try simp (config := { maxSteps := 2000000 }) only [go_sem, reduceCtorEq, Nat.reduceAdd, Nat.reduceEqDiff, reduceIte, Nat.reduceLeDiff, Nat.reduceLT, Nat.reduceSub]
  all_goals (repeat (with_reducible refine sAnd ?_))
  refine loop_sets (fun i : Nat => [(3, .pv (iv i)), (4, .un), (5, .un), (15, .un), (37, .un), (47, .un), (63, .un)]) (fun i : Nat => d.length - i) (fun i : Nat => i ≤ d.length ∧ docOk d i = true) (0) ?_ ⟨Nat.zero_le _, rfl⟩ ?_
  focus (simp (config := { maxSteps := 2000000 }) only [go_sem, reduceCtorEq, Nat.reduceAdd, Nat.reduceEqDiff, reduceIte, Nat.reduceLeDiff, Nat.reduceLT, Nat.reduceSub, le_cons, le_nil, le_un, le_same]; all_goals (repeat' (first | exact trivial | exact le_int (by omega) | exact le_bool rfl | exact le_eq rfl | exact le_nlo | exact le_refl _ | refine And.intro ?_ ?_)))
  intro i ⟨hi, hok⟩
  try simp (config := { maxSteps := 2000000 }) only [go_sem, reduceCtorEq, Nat.reduceAdd, Nat.reduceEqDiff, reduceIte, Nat.reduceLeDiff, Nat.reduceLT, Nat.reduceSub, ndsV_len]
  all_goals (repeat (with_reducible refine sAnd ?_))
  refine cond_of (by rfl) trivial (fun h2 => ?_) (fun h2 => ?_)
  · have hlt : i < d.length := by simpa using h2
    try simp (config := { maxSteps := 2000000 }) only [go_sem, reduceCtorEq, Nat.reduceAdd, Nat.reduceEqDiff, reduceIte, Nat.reduceLeDiff, Nat.reduceLT, Nat.reduceSub, ndsV_len, ndsV_get _ _ hlt]
    all_goals (repeat (with_reducible refine sAnd ?_))
    refine call_val (by repeat' constructor) (c_ref_NodeFine _) ?_
    try simp (config := { maxSteps := 2000000 }) only [go_sem, reduceCtorEq, Nat.reduceAdd, Nat.reduceEqDiff, reduceIte, Nat.reduceLeDiff, Nat.reduceLT, Nat.reduceSub, ndsV_len, ndsV_get _ _ hlt, ndV]
    all_goals (repeat (with_reducible refine sAnd ?_))
    refine cond_of (by rfl) trivial (fun h3 => ?_) (fun h3 => ?_)
    · try simp (config := { maxSteps := 2000000 }) only [go_sem, reduceCtorEq, Nat.reduceAdd, Nat.reduceEqDiff, reduceIte, Nat.reduceLeDiff, Nat.reduceLT, Nat.reduceSub]
      all_goals (repeat (with_reducible refine sAnd ?_))
      refine fin_val rfl trivial (.inl ?_)
      congr 3
      have : docOk d d.length = false := by
        cases hn : docOk d d.length with
        | false => rfl
        | true =>
          exfalso
          have h4 := range_all_get hn hlt
          simp only [okAt, okUp, upOf, Bool.and_eq_true] at h4
          rw [h4.1] at h3
          by_cases h5 : i = 0
          · subst h5; simp at h3 h4; omega
          · simp at h3; omega
      simp [checkDoc, hr1, hr2, this]
    have hn : nodeFine (d.getD i default) = true := by
      cases hn : nodeFine (d.getD i default) with
      | true => rfl
      | false => rw [hn] at h3; simp at h3
    rw [hn] at h3
    have h4 : i = 0 → upOf d i = -1 := by
      intro h5; subst h5; simpa [upOf] using h3
    have hup := docOk_up hok
    try simp (config := { maxSteps := 2000000 }) only [go_sem, reduceCtorEq, Nat.reduceAdd, Nat.reduceEqDiff, reduceIte, Nat.reduceLeDiff, Nat.reduceLT, Nat.reduceSub]
    all_goals (repeat (with_reducible refine sAnd ?_))
    refine loop_sets (fun x : Int × Bool => [(4, .pv (bv x.2)), (5, .pv (iv x.1)), (47, .un)]) (fun x : Int × Bool => (x.1 + 1).toNat) (fun x : Int × Bool => -1 ≤ x.1 ∧ x.1 < i ∧ (x.2 = true → okUp d i = true) ∧ (x.2 = false → okUp d i = (chain d (x.1 + 1).toNat x.1).contains (upOf d i))) (((i : Int) - 1, (i : Int) == 0)) ?_ ⟨by show -1 ≤ (i : Int) - 1; omega, by show (i : Int) - 1 < i; omega, fun h => by simp at h; subst h; simp [okUp, h4], fun h => by simp at h; simp [okUp, h]⟩ ?_
    focus (simp (config := { maxSteps := 2000000 }) only [go_sem, reduceCtorEq, Nat.reduceAdd, Nat.reduceEqDiff, reduceIte, Nat.reduceLeDiff, Nat.reduceLT, Nat.reduceSub, le_cons, le_nil, le_un, le_same]; all_goals (repeat' (first | exact trivial | exact le_int (by omega) | exact le_bool rfl | exact le_eq rfl | exact le_nlo | exact le_refl _ | refine And.intro ?_ ?_)))
    intro ⟨k, fine⟩ ⟨hk1, hk2, hk3, hk4⟩
    simp only at hk1 hk2 hk3 hk4
    try simp (config := { maxSteps := 2000000 }) only [go_sem, reduceCtorEq, Nat.reduceAdd, Nat.reduceEqDiff, reduceIte, Nat.reduceLeDiff, Nat.reduceLT, Nat.reduceSub]
    all_goals (repeat (with_reducible refine sAnd ?_))
    refine cond_of (by rfl) trivial (fun h5 => ?_) (fun h5 => ?_)
    · have hk5 : 0 ≤ k ∧ fine = false := by simp at h5; exact h5
      obtain ⟨hk5, rfl⟩ := hk5
      have hkn : k.toNat < d.length := by omega
      try simp (config := { maxSteps := 2000000 }) only [go_sem, reduceCtorEq, Nat.reduceAdd, Nat.reduceEqDiff, reduceIte, Nat.reduceLeDiff, Nat.reduceLT, Nat.reduceSub, ndsV_get _ _ hlt, ndsV_get _ _ hkn]
      all_goals (repeat (with_reducible refine sAnd ?_))
      have h6 := hup k.toNat (by omega)
      refine ⟨(upOf d k.toNat, k == upOf d i), ?_, ⟨h6.1, ?_, ?_, ?_⟩, ?_⟩
      · simp only; omega
      · simp only; omega
      · simp only
        intro h7
        have h8 : k = upOf d i := by simpa using h7
        rw [hk4 rfl, show (k + 1).toNat = k.toNat + 1 by omega, chain, if_neg (by omega), h8]
        simp
      · simp only
        intro h7
        have h8 : ¬ k = upOf d i := by simpa using h7
        rw [hk4 rfl, show (k + 1).toNat = k.toNat + 1 by omega, chain, if_neg (by omega), List.contains_cons]
        rw [chain_fuel k.toNat (upOf d k.toNat + 1).toNat _ (fun j hj => (hup j (by omega)).2) (by omega) (by omega)]
        simp [Ne.symm h8]
      · simp (config := { maxSteps := 2000000 }) only [go_sem, reduceCtorEq, Nat.reduceAdd, Nat.reduceEqDiff, reduceIte, Nat.reduceLeDiff, Nat.reduceLT, Nat.reduceSub, le_cons, le_nil, le_un, le_same]
        all_goals (repeat' (first | exact trivial | exact le_int (by omega) | exact le_bool rfl | exact le_eq rfl | exact le_nlo | exact le_refl _ | refine And.intro ?_ ?_))
    · try simp (config := { maxSteps := 2000000 }) only [go_sem, reduceCtorEq, Nat.reduceAdd, Nat.reduceEqDiff, reduceIte, Nat.reduceLeDiff, Nat.reduceLT, Nat.reduceSub]
      all_goals (repeat (with_reducible refine sAnd ?_))
      refine cond_of (by rfl) trivial (fun h6 => ?_) (fun h6 => ?_)
      · try simp (config := { maxSteps := 2000000 }) only [go_sem, reduceCtorEq, Nat.reduceAdd, Nat.reduceEqDiff, reduceIte, Nat.reduceLeDiff, Nat.reduceLT, Nat.reduceSub]
        all_goals (repeat (with_reducible refine sAnd ?_))
        refine fin_val rfl trivial (.inl ?_)
        congr 3
        have hf : fine = false := by simpa using h6
        subst hf
        have hk : k = -1 := by simp at h5; omega
        subst hk
        have : docOk d d.length = false := by
          cases hn : docOk d d.length with
          | false => rfl
          | true =>
            exfalso
            have h7 := range_all_get hn hlt
            simp only [okAt, Bool.and_eq_true] at h7
            rw [hk4 rfl] at h7
            simp [chain] at h7
        simp [checkDoc, hr1, hr2, this]
      · have hf : fine = true := by simpa using h6
        subst hf
        try simp (config := { maxSteps := 2000000 }) only [go_sem, reduceCtorEq, Nat.reduceAdd, Nat.reduceEqDiff, reduceIte, Nat.reduceLeDiff, Nat.reduceLT, Nat.reduceSub]
        all_goals (repeat (with_reducible refine sAnd ?_))
        refine ⟨i + 1, by omega, ⟨hlt, ?_⟩, ?_⟩
        · rw [docOk_succ, hok, okAt, hn, hk3 rfl]; rfl
        · simp (config := { maxSteps := 2000000 }) only [go_sem, reduceCtorEq, Nat.reduceAdd, Nat.reduceEqDiff, reduceIte, Nat.reduceLeDiff, Nat.reduceLT, Nat.reduceSub, le_cons, le_nil, le_un, le_same]
          all_goals (repeat' (first | exact trivial | exact le_int (by omega) | exact le_bool rfl | exact le_eq rfl | exact le_nlo | exact le_refl _ | refine And.intro ?_ ?_))
  · try simp (config := { maxSteps := 2000000 }) only [go_sem, reduceCtorEq, Nat.reduceAdd, Nat.reduceEqDiff, reduceIte, Nat.reduceLeDiff, Nat.reduceLT, Nat.reduceSub]
    all_goals (repeat (with_reducible refine sAnd ?_))
    refine fin_val rfl trivial (.inl ?_)
    congr 3
    have : i = d.length := by simp at h2; omega
    subst this
    simp [checkDoc, hr1, hr2, hok]
end Go.Hx
end
