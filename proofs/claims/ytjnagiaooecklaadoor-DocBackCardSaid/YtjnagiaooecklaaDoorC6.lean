/-
  The abstract code of functions of the program, printed by gen.py; each stands for the given one. No condition.
-/
import Derived.Test.YtjnagiaooecklaaDoorProg
import Derived.Test.YtjnagiaooecklaaDoorHxM
import Derived.Test.YtjnagiaooecklaaDoorC1
import Derived.Test.YtjnagiaooecklaaDoorC2
import Derived.Test.YtjnagiaooecklaaDoorC3
set_option linter.all false
namespace Go.Hx
open Go.Proofs
abbrev fn_law_DocBack : Nat := 6
abbrev law_DocBack_r0 : HCode := .reg [⟨none, .val 5 (.boxF (.t 0))⟩,
    ⟨none, .val 8 (.boxF (.t 3))⟩,
    ⟨none, .val 10 (.mv (.c (bv false)))⟩] false []
abbrev law_DocBack_r1 : HCode := .reg [⟨none, .val 30 (.ldR (.t 5) 1 true)⟩,
    ⟨none, .val 31 (.mv (.t 1))⟩,
    ⟨none, .val 32 (.mv (.t 2))⟩,
    ⟨none, .val 33 (.ldR (.t 8) 1 true)⟩,
    ⟨none, .call (some 34) fn_doc_Insert [(.t 30, .v), (.t 31, .v), (.t 32, .v), (.t 33, .v)]⟩,
    ⟨none, .val 29 (.mv (.t 34))⟩,
    ⟨none, .val 35 (.ext 29 0)⟩,
    ⟨none, .val 36 (.ext 29 1)⟩,
    ⟨none, .alloc 11 0 161 [.nl 5]⟩,
    ⟨none, .sto (.t 11) 0 161 0 1 (.t 35)⟩,
    ⟨none, .val 12 (.mv (.t 36))⟩] false [.forget [29, 30, 31, 32, 33, 34, 35, 36]]
abbrev law_DocBack_r2 : HCode := .reg [⟨none, .val 37 (.mv (.t 12))⟩,
    ⟨none, .val 38 (.ints .eql (.t 37) (.c (iv 0)))⟩] false [.forget [37]]
abbrev law_DocBack_r3 : HCode := .reg [⟨none, .val 40 (.ldB (.t 11) 0 161 0 1 true)⟩,
    ⟨none, .val 41 (.mv (.t 1))⟩,
    ⟨none, .call (some 42) fn_doc_Kids [(.t 40, .v), (.t 41, .v)]⟩,
    ⟨none, .val 39 (.mv (.t 42))⟩,
    ⟨none, .val 43 (.ext 39 0)⟩,
    ⟨none, .val 44 (.ext 39 1)⟩,
    ⟨none, .val 13 (.mv (.t 43))⟩,
    ⟨none, .val 14 (.mv (.t 44))⟩] false [.forget [39, 40, 41, 42, 43, 44]]
abbrev law_DocBack_r4 : HCode := .reg [⟨none, .val 45 (.mv (.t 14))⟩,
    ⟨none, .val 46 (.ints .neq (.t 45) (.c (iv 0)))⟩,
    ⟨none, .val 47 (.mv (.t 46))⟩,
    ⟨some (47, false), .val 48 (.ldB (.t 11) 0 161 0 1 true)⟩,
    ⟨some (47, false), .call (some 49) fn_doc_Check [(.t 48, .v)]⟩,
    ⟨some (47, false), .val 50 (.ints .neq (.t 49) (.c (iv 0)))⟩,
    ⟨none, .val 51 (.pick (.t 47) (.c (bv true)) (.t 50))⟩,
    ⟨none, .val 52 (.mv (.t 51))⟩,
    ⟨some (52, false), .val 53 (.mv (.t 2))⟩,
    ⟨some (52, false), .val 54 (.mv (.t 13))⟩,
    ⟨some (52, false), .val 55 (.len false (.t 54))⟩,
    ⟨some (52, false), .val 56 (.ints .geq (.t 53) (.t 55))⟩,
    ⟨none, .val 57 (.pick (.t 52) (.c (bv true)) (.t 56))⟩] false [.forget [45, 46, 47, 48, 49, 50, 51, 52, 53, 54, 55, 56]]
abbrev law_DocBack_r5 : HCode := .reg [⟨none, .val 10 (.mv (.c (bv false)))⟩] false []
abbrev law_DocBack_r6 : HCode := .drg [⟨0, false, ⟨none, .val 59 (.ldB (.t 11) 0 161 0 1 true)⟩⟩,
    ⟨1, false, ⟨none, .val 60 (.mv (.t 13))⟩⟩,
    ⟨2, false, ⟨none, .val 61 (.mv (.t 2))⟩⟩,
    ⟨3, false, ⟨none, .val 62 (.idxA 1 (.t 60) (.t 61))⟩⟩,
    ⟨4, false, ⟨none, .val 63 (.ldR (.t 62) 1 false)⟩⟩,
    ⟨5, false, ⟨none, .call (some 64) fn_doc_Part [(.t 59, .v), (.t 63, .v)]⟩⟩,
    ⟨6, false, ⟨none, .val 58 (.mv (.t 64))⟩⟩,
    ⟨7, false, ⟨none, .val 65 (.ext 58 0)⟩⟩,
    ⟨8, false, ⟨none, .val 66 (.ext 58 1)⟩⟩,
    ⟨9, false, ⟨none, .alo 15 1 162 [.nl 5]⟩⟩,
    ⟨10, false, ⟨none, .sto (.t 15) 1 162 0 1 (.t 65)⟩⟩,
    ⟨11, false, ⟨none, .val 16 (.mv (.t 66))⟩⟩] [.forget [58, 59, 60, 61, 62, 63, 64, 65, 66]]
abbrev law_DocBack_r7 : HCode := .drg [⟨0, false, ⟨none, .val 68 (.ldB (.t 11) 0 161 0 1 true)⟩⟩,
    ⟨1, false, ⟨none, .val 69 (.mv (.t 13))⟩⟩,
    ⟨2, false, ⟨none, .val 70 (.mv (.t 2))⟩⟩,
    ⟨3, false, ⟨none, .val 71 (.idxA 1 (.t 69) (.t 70))⟩⟩,
    ⟨4, false, ⟨none, .val 72 (.ldR (.t 71) 1 false)⟩⟩,
    ⟨5, false, ⟨none, .call (some 73) fn_doc_Remove [(.t 68, .v), (.t 72, .v)]⟩⟩,
    ⟨6, false, ⟨none, .val 67 (.mv (.t 73))⟩⟩,
    ⟨7, false, ⟨none, .val 74 (.ext 67 0)⟩⟩,
    ⟨8, false, ⟨none, .val 75 (.ext 67 1)⟩⟩,
    ⟨9, false, ⟨none, .alo 17 2 163 [.nl 5]⟩⟩,
    ⟨10, false, ⟨none, .sto (.t 17) 2 163 0 1 (.t 74)⟩⟩,
    ⟨11, false, ⟨none, .val 18 (.mv (.t 75))⟩⟩] [.forget [67, 68, 69, 70, 71, 72, 73, 74, 75]]
abbrev law_DocBack_r8 : HCode := .reg [⟨none, .val 76 (.mv (.t 16))⟩,
    ⟨none, .val 77 (.ints .neq (.t 76) (.c (iv 0)))⟩,
    ⟨none, .val 78 (.mv (.t 77))⟩,
    ⟨some (78, false), .val 79 (.mv (.t 18))⟩,
    ⟨some (78, false), .val 80 (.ints .neq (.t 79) (.c (iv 0)))⟩,
    ⟨none, .val 81 (.pick (.t 78) (.c (bv true)) (.t 80))⟩,
    ⟨none, .val 82 (.mv (.t 81))⟩,
    ⟨some (82, false), .val 83 (.ldB (.t 15) 1 162 0 1 true)⟩,
    ⟨some (82, false), .val 84 (.ldR (.t 8) 1 true)⟩,
    ⟨some (82, false), .call (some 85) fn_ref_SameDocs [(.t 83, .v), (.t 84, .v)]⟩,
    ⟨some (82, false), .val 86 (.not (.t 85))⟩,
    ⟨none, .val 87 (.pick (.t 82) (.c (bv true)) (.t 86))⟩,
    ⟨none, .val 88 (.mv (.t 87))⟩,
    ⟨some (88, false), .val 89 (.ldB (.t 17) 2 163 0 1 true)⟩,
    ⟨some (88, false), .val 90 (.ldR (.t 5) 1 true)⟩,
    ⟨some (88, false), .call (some 91) fn_ref_SameDocs [(.t 89, .v), (.t 90, .v)]⟩,
    ⟨some (88, false), .val 92 (.not (.t 91))⟩,
    ⟨none, .val 93 (.pick (.t 88) (.c (bv true)) (.t 92))⟩] false [.forget [76, 77, 78, 79, 80, 81, 82, 83, 84, 85, 86, 87, 88, 89, 90, 91, 92]]
abbrev law_DocBack_r9 : HCode := .reg [⟨none, .val 10 (.mv (.c (bv false)))⟩] false []
abbrev law_DocBack_r10 : HCode := .reg [⟨none, .val 95 (.ldR (.t 5) 1 true)⟩,
    ⟨none, .val 96 (.mv (.t 4))⟩,
    ⟨none, .call (some 97) fn_doc_Part [(.t 95, .v), (.t 96, .v)]⟩,
    ⟨none, .val 94 (.mv (.t 97))⟩,
    ⟨none, .val 98 (.ext 94 0)⟩,
    ⟨none, .val 99 (.ext 94 1)⟩,
    ⟨none, .alloc 19 3 164 [.nl 5]⟩,
    ⟨none, .sto (.t 19) 3 164 0 1 (.t 98)⟩,
    ⟨none, .val 20 (.mv (.t 99))⟩] false [.forget [94, 95, 96, 97, 98, 99]]
abbrev law_DocBack_r11 : HCode := .reg [⟨none, .val 101 (.ldR (.t 5) 1 true)⟩,
    ⟨none, .val 102 (.mv (.t 4))⟩,
    ⟨none, .call (some 103) fn_doc_Remove [(.t 101, .v), (.t 102, .v)]⟩,
    ⟨none, .val 100 (.mv (.t 103))⟩,
    ⟨none, .val 104 (.ext 100 0)⟩,
    ⟨none, .val 105 (.ext 100 1)⟩,
    ⟨none, .alloc 21 4 165 [.nl 5]⟩,
    ⟨none, .sto (.t 21) 4 165 0 1 (.t 104)⟩,
    ⟨none, .val 22 (.mv (.t 105))⟩] false [.forget [100, 101, 102, 103, 104, 105]]
abbrev law_DocBack_r12 : HCode := .reg [⟨none, .val 106 (.mv (.t 20))⟩,
    ⟨none, .val 107 (.ints .neq (.t 106) (.c (iv 0)))⟩,
    ⟨none, .val 108 (.mv (.t 107))⟩,
    ⟨some (108, false), .val 109 (.mv (.t 22))⟩,
    ⟨some (108, false), .val 110 (.ints .neq (.t 109) (.c (iv 0)))⟩,
    ⟨none, .val 111 (.pick (.t 108) (.c (bv true)) (.t 110))⟩] false [.forget [106, 107, 108, 109, 110]]
abbrev law_DocBack_r13 : HCode := .reg [⟨none, .call (some 112) fn_law_docBegun []⟩,
    ⟨none, .val 10 (.mv (.t 112))⟩] false [.forget [112]]
abbrev law_DocBack_r14 : HCode := .reg [⟨none, .val 113 (.fldR (.t 5) 0 1)⟩,
    ⟨none, .val 114 (.ldR (.t 113) 1 false)⟩,
    ⟨none, .val 115 (.mv (.t 4))⟩,
    ⟨none, .val 116 (.idxA 5 (.t 114) (.t 115))⟩,
    ⟨none, .val 117 (.fldR (.t 116) 0 1)⟩,
    ⟨none, .val 118 (.ldR (.t 117) 1 false)⟩,
    ⟨none, .val 23 (.mv (.t 118))⟩] false [.forget [113, 114, 115, 116, 117, 118]]
abbrev law_DocBack_r15 : HCode := .reg [⟨none, .val 120 (.ldR (.t 5) 1 true)⟩,
    ⟨none, .val 121 (.mv (.t 23))⟩,
    ⟨none, .call (some 122) fn_doc_Kids [(.t 120, .v), (.t 121, .v)]⟩,
    ⟨none, .val 119 (.mv (.t 122))⟩,
    ⟨none, .val 123 (.ext 119 0)⟩,
    ⟨none, .val 124 (.ext 119 1)⟩,
    ⟨none, .val 24 (.mv (.t 123))⟩,
    ⟨none, .val 25 (.mv (.t 124))⟩] false [.forget [119, 120, 121, 122, 123, 124]]
abbrev law_DocBack_r16 : HCode := .reg [⟨none, .val 26 (.mv (.c (iv 0)))⟩] false []
abbrev law_DocBack_r17 : HCode := .reg [⟨none, .val 125 (.mv (.t 26))⟩,
    ⟨none, .val 126 (.mv (.t 24))⟩,
    ⟨none, .val 127 (.len false (.t 126))⟩,
    ⟨none, .val 128 (.ints .lss (.t 125) (.t 127))⟩,
    ⟨none, .val 129 (.mv (.t 128))⟩,
    ⟨some (129, true), .val 130 (.mv (.t 24))⟩,
    ⟨some (129, true), .val 131 (.mv (.t 26))⟩,
    ⟨some (129, true), .val 132 (.idxA 1 (.t 130) (.t 131))⟩,
    ⟨some (129, true), .val 133 (.ldR (.t 132) 1 false)⟩,
    ⟨some (129, true), .val 134 (.mv (.t 4))⟩,
    ⟨some (129, true), .val 135 (.ints .neq (.t 133) (.t 134))⟩,
    ⟨none, .val 136 (.pick (.t 129) (.t 135) (.c (bv false)))⟩] false [.forget [125, 126, 127, 128, 129, 130, 131, 132, 133, 134, 135]]
abbrev law_DocBack_r18 : HCode := .reg [⟨none, .val 137 (.mv (.t 26))⟩,
    ⟨none, .val 138 (.ints .add (.t 137) (.c (iv 1)))⟩,
    ⟨none, .val 26 (.mv (.t 138))⟩] false [.forget [137, 138]]
abbrev law_DocBack_r19 : HCode := .reg [⟨none, .val 140 (.ldB (.t 21) 4 165 0 1 true)⟩,
    ⟨none, .val 141 (.mv (.t 23))⟩,
    ⟨none, .val 142 (.mv (.t 26))⟩,
    ⟨none, .val 143 (.ldB (.t 19) 3 164 0 1 true)⟩,
    ⟨none, .call (some 144) fn_doc_Insert [(.t 140, .v), (.t 141, .v), (.t 142, .v), (.t 143, .v)]⟩,
    ⟨none, .val 139 (.mv (.t 144))⟩,
    ⟨none, .val 145 (.ext 139 0)⟩,
    ⟨none, .val 146 (.ext 139 1)⟩,
    ⟨none, .alloc 27 5 166 [.nl 5]⟩,
    ⟨none, .sto (.t 27) 5 166 0 1 (.t 145)⟩,
    ⟨none, .val 28 (.mv (.t 146))⟩] false [.forget [139, 140, 141, 142, 143, 144, 145, 146]]
abbrev law_DocBack_r20 : HCode := .reg [⟨none, .call (some 147) fn_law_docBegun []⟩,
    ⟨none, .val 148 (.mv (.t 147))⟩,
    ⟨some (148, true), .val 149 (.mv (.t 25))⟩,
    ⟨some (148, true), .val 150 (.ints .eql (.t 149) (.c (iv 0)))⟩,
    ⟨none, .val 151 (.pick (.t 148) (.t 150) (.c (bv false)))⟩,
    ⟨none, .val 152 (.mv (.t 151))⟩,
    ⟨some (152, true), .val 153 (.mv (.t 28))⟩,
    ⟨some (152, true), .val 154 (.ints .eql (.t 153) (.c (iv 0)))⟩,
    ⟨none, .val 155 (.pick (.t 152) (.t 154) (.c (bv false)))⟩,
    ⟨none, .val 156 (.mv (.t 155))⟩,
    ⟨some (156, true), .val 157 (.ldB (.t 27) 5 166 0 1 true)⟩,
    ⟨some (156, true), .val 158 (.ldR (.t 5) 1 true)⟩,
    ⟨some (156, true), .call (some 159) fn_ref_SameDocs [(.t 157, .v), (.t 158, .v)]⟩,
    ⟨none, .val 160 (.pick (.t 156) (.t 159) (.c (bv false)))⟩,
    ⟨none, .val 10 (.mv (.t 160))⟩] false [.forget [147, 148, 149, 150, 151, 152, 153, 154, 155, 156, 157, 158, 159, 160]]
abbrev law_DocBack : HCode := (.seq law_DocBack_r0 (.seq law_DocBack_r1 (.seq (.seq law_DocBack_r2 (.cond (.t 38) (.seq law_DocBack_r3 (.seq (.seq law_DocBack_r4 (.cond (.t 57) (.seq law_DocBack_r5 .ret) .skip)) (.seq law_DocBack_r6 (.seq law_DocBack_r7 (.seq law_DocBack_r8 (.cond (.t 93) (.seq law_DocBack_r9 .ret) .skip)))))) .skip)) (.seq law_DocBack_r10 (.seq law_DocBack_r11 (.seq (.seq law_DocBack_r12 (.cond (.t 111) (.seq law_DocBack_r13 .ret) .skip)) (.seq law_DocBack_r14 (.seq law_DocBack_r15 (.seq law_DocBack_r16 (.seq (.block 0 (.loop (.seq (.seq law_DocBack_r17 (.cond (.t 136) .skip (.exit 0))) (.block 1 law_DocBack_r18)))) (.seq law_DocBack_r19 (.seq law_DocBack_r20 .ret))))))))))))
abbrev law_DocBack_E : Env := { N := 161, Γ := [(161, 1), (162, 1), (163, 1), (164, 1), (165, 1), (166, 1)], L := 167, nfix := 0, una := [162, 163] }
abbrev law_DocBack_R : List RSrc := [.tmp 10]
theorem mk_law_DocBack {base : Nat} {av : List AV} {r : RV} (hfo : formOk law_DocBack_E base av) (hW : AVs.fits av → hwp Tryd.prog law_DocBack (finQ law_DocBack_E base av law_DocBack_R r) (F0 law_DocBack_E base av)) (hov : ∀ x, r.res = .ov x → nOwn av = 0 := by intro x h; cases h <;> rfl) : Contract Tryd.prog fn_law_DocBack av r :=
  contract_of_wp (fn := Tryd.f6) (c := Tryd.f6.body.getD .skip) (by kernel_rfl) (by kernel_rfl) (by kernel_rfl) (by kernel_rfl) (by kernel_rfl) (by kernel_rfl) (by kernel_rfl) hfo hW hov
end Go.Hx
