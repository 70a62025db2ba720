/-
  Walks of functions of the program over an abstract layer, and the laws that they use: each contract says what the function computes, for every input that its conditions let by. No other condition.
-/
import Derived.Test.YtjnagiaooecklaaDoorProg
import Derived.Test.YtjnagiaooecklaaDoorG8
import Derived.Test.YtjnagiaooecklaaDoorG12
set_option linter.all false
section
/-
  The abstract code of functions of the program, printed by gen.py; each stands for the given one. No condition.
-/
namespace Go.Hx
open Go.Proofs
variable [Glob]
abbrev fn_doc_Check : Nat := 20
abbrev fn_doc_Fine : Nat := 64
abbrev fn_doc_Fine_1 : Nat := 110
abbrev fn_doc_Fine_2 : Nat := 112
abbrev fn_doc_Fine_3 : Nat := 114
abbrev fn_doc_Insert : Nat := 24
abbrev fn_doc_Insert_1 : Nat := 68
abbrev fn_doc_Insert_2 : Nat := 69
abbrev fn_doc_Kids : Nat := 12
abbrev fn_doc_Name : Nat := 108
abbrev fn_doc_Part : Nat := 14
abbrev fn_doc_Part_1 : Nat := 58
abbrev fn_doc_Put_1 : Nat := 75
abbrev fn_doc_Remove : Nat := 26
abbrev fn_doc_Remove_1 : Nat := 74
abbrev fn_doc_Under : Nat := 13
abbrev fn_doc_Value : Nat := 115
abbrev fn_doc_behind : Nat := 56
abbrev fn_doc_kids : Nat := 55
abbrev fn_doc_own : Nat := 57
abbrev fn_doc_rises_api_Attr : Nat := 111
abbrev fn_doc_rises_string : Nat := 109
abbrev fn_doc_there : Nat := 54
abbrev fn_law_small : Nat := 63
abbrev fn_slices_Clone_Attr : Nat := 77
abbrev fn_slices_Clone_string : Nat := 76
abbrev fn_slices_Concat_Node : Nat := 70
abbrev fn_slices_ContainsFunc_Attr : Nat := 113
abbrev fn_slices_Grow_Node : Nat := 119
abbrev fn_slices_IndexFunc_Attr : Nat := 150
end Go.Hx
end

section
/-
  The abstract code of functions of the program, printed by gen.py; each stands for the given one. No condition.
-/
namespace Go.Hx
open Go.Proofs
variable [Glob]
abbrev fn_doc_Name_1 : Nat := 149
abbrev fn_doc_Value_1 : Nat := 151
abbrev fn_strings_ContainsFunc : Nat := 148
abbrev fn_strings_Trim : Nat := 147
abbrev doc_Name_r0 : HCode := .reg [⟨none, .val 2 (.mv (.c (bv false)))⟩] false []
abbrev doc_Name_r1 : HCode := .reg [⟨none, .val 3 (.mv (.t 0))⟩,
    ⟨none, .val 4 (.len true (.t 3))⟩,
    ⟨none, .val 5 (.ints .gtr (.t 4) (.c (iv 0)))⟩,
    ⟨none, .val 6 (.mv (.t 5))⟩,
    ⟨some (6, true), .val 7 (.mv (.t 0))⟩,
    ⟨some (6, true), .val 8 (.len true (.t 7))⟩,
    ⟨some (6, true), .val 9 (.ints .leq (.t 8) (.c (iv 12)))⟩,
    ⟨none, .val 10 (.pick (.t 6) (.t 9) (.c (bv false)))⟩,
    ⟨none, .val 11 (.mv (.t 10))⟩,
    ⟨some (11, true), .val 12 (.mv (.t 0))⟩,
    ⟨some (11, true), .val 13 (.idxS (.t 12) (.c (iv 0)))⟩,
    ⟨some (11, true), .val 14 (.ints .geq (.t 13) (.c (.one (.v (.int .u8 97)))))⟩,
    ⟨none, .val 15 (.pick (.t 11) (.t 14) (.c (bv false)))⟩,
    ⟨none, .val 16 (.mv (.t 15))⟩,
    ⟨some (16, true), .val 17 (.mv (.t 0))⟩,
    ⟨some (16, true), .val 18 (.idxS (.t 17) (.c (iv 0)))⟩,
    ⟨some (16, true), .val 19 (.ints .leq (.t 18) (.c (.one (.v (.int .u8 122)))))⟩,
    ⟨none, .val 20 (.pick (.t 16) (.t 19) (.c (bv false)))⟩,
    ⟨none, .val 21 (.mv (.t 20))⟩,
    ⟨some (21, true), .val 22 (.mv (.t 0))⟩,
    ⟨some (21, true), .call (some 23) fn_strings_Trim [(.t 22, .v), (.c (sv [97, 98, 99, 100, 101, 102, 103, 104, 105, 106, 107, 108, 109, 110, 111, 112, 113, 114, 115, 116, 117, 118, 119, 120, 121, 122, 48, 49, 50, 51, 52, 53, 54, 55, 56, 57, 45]), .v)]⟩,
    ⟨some (21, true), .val 24 (.strs .eql (.t 23) (.c (sv [])))⟩,
    ⟨none, .val 25 (.pick (.t 21) (.t 24) (.c (bv false)))⟩,
    ⟨none, .val 26 (.mv (.t 25))⟩,
    ⟨some (26, true), .val 27 (.mv (.t 0))⟩,
    ⟨some (26, true), .call (some 28) fn_strings_ContainsFunc [(.t 27, .v), (.f fn_doc_Name_1, .v)]⟩,
    ⟨some (26, true), .val 29 (.not (.t 28))⟩,
    ⟨none, .val 30 (.pick (.t 26) (.t 29) (.c (bv false)))⟩,
    ⟨none, .val 2 (.mv (.t 30))⟩] false [.forget [3, 4, 5, 6, 7, 8, 9, 10, 11, 12, 13, 14, 15, 16, 17, 18, 19, 20, 21, 22, 23, 24, 25, 26, 27, 28, 29, 30]]
abbrev doc_Name : HCode := (.seq doc_Name_r0 (.seq doc_Name_r1 .ret))
abbrev doc_Name_E : Env := { N := 31, Γ := [], L := 31, nfix := 0 }
abbrev doc_Name_R : List RSrc := [.tmp 2]
theorem mk_doc_Name {base : Nat} {av : List AV} {r : RV} (hfo : formOk doc_Name_E base av) (hW : AVs.fits av → hwp Tryd.prog doc_Name (finQ doc_Name_E base av doc_Name_R r) (F0 doc_Name_E base av)) (hov : ∀ x, r.res = .ov x → nOwn av = 0 := by intro x h; cases h <;> rfl) : Contract Tryd.prog fn_doc_Name av r :=
  contract_of_wp (fn := Tryd.f108) (c := Tryd.f108.body.getD .skip) (by kernel_rfl) (by kernel_rfl) (by kernel_rfl) (by kernel_rfl) (by kernel_rfl) (by kernel_rfl) (by kernel_rfl) hfo hW hov
abbrev doc_Name_1_r0 : HCode := .reg [⟨none, .val 2 (.mv (.c (bv false)))⟩] false []
abbrev doc_Name_1_r1 : HCode := .reg [⟨none, .val 3 (.mv (.t 0))⟩,
    ⟨none, .val 4 (.ints .lss (.t 3) (.c (.one (.v (.int .i32 97)))))⟩,
    ⟨none, .val 5 (.mv (.t 4))⟩,
    ⟨some (5, false), .val 6 (.mv (.t 0))⟩,
    ⟨some (5, false), .val 7 (.ints .gtr (.t 6) (.c (.one (.v (.int .i32 122)))))⟩,
    ⟨none, .val 8 (.pick (.t 5) (.c (bv true)) (.t 7))⟩,
    ⟨none, .val 9 (.mv (.t 8))⟩,
    ⟨some (9, true), .val 10 (.mv (.t 0))⟩,
    ⟨some (9, true), .val 11 (.ints .lss (.t 10) (.c (.one (.v (.int .i32 48)))))⟩,
    ⟨some (9, true), .val 12 (.mv (.t 11))⟩,
    ⟨some (12, false), .val 13 (.mv (.t 0))⟩,
    ⟨some (12, false), .val 14 (.ints .gtr (.t 13) (.c (.one (.v (.int .i32 57)))))⟩,
    ⟨some (9, true), .val 15 (.pick (.t 12) (.c (bv true)) (.t 14))⟩,
    ⟨none, .val 16 (.pick (.t 9) (.t 15) (.c (bv false)))⟩,
    ⟨none, .val 17 (.mv (.t 16))⟩,
    ⟨some (17, true), .val 18 (.mv (.t 0))⟩,
    ⟨some (17, true), .val 19 (.ints .neq (.t 18) (.c (.one (.v (.int .i32 45)))))⟩,
    ⟨none, .val 20 (.pick (.t 17) (.t 19) (.c (bv false)))⟩,
    ⟨none, .val 2 (.mv (.t 20))⟩] false [.forget [3, 4, 5, 6, 7, 8, 9, 10, 11, 12, 13, 14, 15, 16, 17, 18, 19, 20]]
abbrev doc_Name_1 : HCode := (.seq doc_Name_1_r0 (.seq doc_Name_1_r1 .ret))
abbrev doc_Name_1_E : Env := { N := 21, Γ := [], L := 21, nfix := 0 }
abbrev doc_Name_1_R : List RSrc := [.tmp 2]
theorem mk_doc_Name_1 {base : Nat} {av : List AV} {r : RV} (hfo : formOk doc_Name_1_E base av) (hW : AVs.fits av → hwp Tryd.prog doc_Name_1 (finQ doc_Name_1_E base av doc_Name_1_R r) (F0 doc_Name_1_E base av)) (hov : ∀ x, r.res = .ov x → nOwn av = 0 := by intro x h; cases h <;> rfl) : Contract Tryd.prog fn_doc_Name_1 av r :=
  contract_of_wp (fn := Tryd.f149) (c := Tryd.f149.body.getD .skip) (by kernel_rfl) (by kernel_rfl) (by kernel_rfl) (by kernel_rfl) (by kernel_rfl) (by kernel_rfl) (by kernel_rfl) hfo hW hov
abbrev doc_Value_r0 : HCode := .reg [⟨none, .val 2 (.mv (.c (bv false)))⟩] false []
abbrev doc_Value_r1 : HCode := .reg [⟨none, .val 3 (.mv (.t 0))⟩,
    ⟨none, .val 4 (.len true (.t 3))⟩,
    ⟨none, .val 5 (.ints .leq (.t 4) (.c (iv 16)))⟩,
    ⟨none, .val 6 (.mv (.t 5))⟩,
    ⟨some (6, true), .val 7 (.mv (.t 0))⟩,
    ⟨some (6, true), .call (some 8) fn_strings_ContainsFunc [(.t 7, .v), (.f fn_doc_Value_1, .v)]⟩,
    ⟨some (6, true), .val 9 (.not (.t 8))⟩,
    ⟨none, .val 10 (.pick (.t 6) (.t 9) (.c (bv false)))⟩,
    ⟨none, .val 2 (.mv (.t 10))⟩] false [.forget [3, 4, 5, 6, 7, 8, 9, 10]]
abbrev doc_Value : HCode := (.seq doc_Value_r0 (.seq doc_Value_r1 .ret))
abbrev doc_Value_E : Env := { N := 11, Γ := [], L := 11, nfix := 0 }
abbrev doc_Value_R : List RSrc := [.tmp 2]
theorem mk_doc_Value {base : Nat} {av : List AV} {r : RV} (hfo : formOk doc_Value_E base av) (hW : AVs.fits av → hwp Tryd.prog doc_Value (finQ doc_Value_E base av doc_Value_R r) (F0 doc_Value_E base av)) (hov : ∀ x, r.res = .ov x → nOwn av = 0 := by intro x h; cases h <;> rfl) : Contract Tryd.prog fn_doc_Value av r :=
  contract_of_wp (fn := Tryd.f115) (c := Tryd.f115.body.getD .skip) (by kernel_rfl) (by kernel_rfl) (by kernel_rfl) (by kernel_rfl) (by kernel_rfl) (by kernel_rfl) (by kernel_rfl) hfo hW hov
abbrev doc_Value_1_r0 : HCode := .reg [⟨none, .val 2 (.mv (.c (bv false)))⟩] false []
abbrev doc_Value_1_r1 : HCode := .reg [⟨none, .val 3 (.mv (.t 0))⟩,
    ⟨none, .val 4 (.ints .lss (.t 3) (.c (.one (.v (.int .i32 32)))))⟩,
    ⟨none, .val 5 (.mv (.t 4))⟩,
    ⟨some (5, false), .val 6 (.mv (.t 0))⟩,
    ⟨some (5, false), .val 7 (.ints .gtr (.t 6) (.c (.one (.v (.int .i32 126)))))⟩,
    ⟨none, .val 8 (.pick (.t 5) (.c (bv true)) (.t 7))⟩,
    ⟨none, .val 9 (.mv (.t 8))⟩,
    ⟨some (9, false), .val 10 (.mv (.t 0))⟩,
    ⟨some (9, false), .val 11 (.ints .eql (.t 10) (.c (.one (.v (.int .i32 34)))))⟩,
    ⟨none, .val 12 (.pick (.t 9) (.c (bv true)) (.t 11))⟩,
    ⟨none, .val 2 (.mv (.t 12))⟩] false [.forget [3, 4, 5, 6, 7, 8, 9, 10, 11, 12]]
abbrev doc_Value_1 : HCode := (.seq doc_Value_1_r0 (.seq doc_Value_1_r1 .ret))
abbrev doc_Value_1_E : Env := { N := 13, Γ := [], L := 13, nfix := 0 }
abbrev doc_Value_1_R : List RSrc := [.tmp 2]
theorem mk_doc_Value_1 {base : Nat} {av : List AV} {r : RV} (hfo : formOk doc_Value_1_E base av) (hW : AVs.fits av → hwp Tryd.prog doc_Value_1 (finQ doc_Value_1_E base av doc_Value_1_R r) (F0 doc_Value_1_E base av)) (hov : ∀ x, r.res = .ov x → nOwn av = 0 := by intro x h; cases h <;> rfl) : Contract Tryd.prog fn_doc_Value_1 av r :=
  contract_of_wp (fn := Tryd.f151) (c := Tryd.f151.body.getD .skip) (by kernel_rfl) (by kernel_rfl) (by kernel_rfl) (by kernel_rfl) (by kernel_rfl) (by kernel_rfl) (by kernel_rfl) hfo hW hov
end Go.Hx
end
