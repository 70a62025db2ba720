/-
  The abstract code of functions of the program, printed by gen.py; each stands for the given one. No condition.
-/
import Derived.Test.YtjnagiaooecklaaDoorProg
import Derived.Test.YtjnagiaooecklaaDoorHxM
import Derived.Test.YtjnagiaooecklaaDoorC7
set_option linter.all false
namespace Go.Hx
open Go.Proofs
variable [Glob]
abbrev fn_internal_stringslite_Cut : Nat := 143
abbrev fn_internal_stringslite_Index : Nat := 163
abbrev strings_Cut_r0 : HCode := .reg [⟨none, .val 4 (.mv (.c (sv [])))⟩,
    ⟨none, .val 5 (.mv (.c (sv [])))⟩,
    ⟨none, .val 6 (.mv (.c (bv false)))⟩] false []
abbrev strings_Cut_r1 : HCode := .reg [⟨none, .val 7 (.mv (.t 0))⟩,
    ⟨none, .val 8 (.mv (.t 1))⟩,
    ⟨none, .call (some 9) fn_internal_stringslite_Cut [(.t 7, .v), (.t 8, .v)]⟩,
    ⟨none, .val 10 (.ext 9 0)⟩,
    ⟨none, .val 11 (.ext 9 1)⟩,
    ⟨none, .val 12 (.ext 9 2)⟩,
    ⟨none, .val 4 (.mv (.t 10))⟩,
    ⟨none, .val 5 (.mv (.t 11))⟩,
    ⟨none, .val 6 (.mv (.t 12))⟩] false [.forget [7, 8, 9, 10, 11, 12]]
abbrev strings_Cut : HCode := (.seq strings_Cut_r0 (.seq strings_Cut_r1 .ret))
abbrev strings_Cut_E : Env := { N := 13, Γ := [], L := 13, nfix := 0 }
abbrev strings_Cut_R : List RSrc := [.tmp 4, .tmp 5, .tmp 6]
theorem mk_strings_Cut {base : Nat} {av : List AV} {r : RV} (hfo : formOk strings_Cut_E base av) (hW : AVs.fits av → hwp Tryd.prog strings_Cut (finQ strings_Cut_E base av strings_Cut_R r) (F0 strings_Cut_E base av)) (hov : ∀ x, r.res = .ov x → nOwn av = 0 := by intro x h; cases h <;> rfl) : Contract Tryd.prog fn_strings_Cut av r :=
  contract_of_wp (fn := Tryd.f105) (c := Tryd.f105.body.getD .skip) (by kernel_rfl) (by kernel_rfl) (by kernel_rfl) (by kernel_rfl) (by kernel_rfl) (by kernel_rfl) (by kernel_rfl) hfo hW hov
abbrev internal_stringslite_Cut_r0 : HCode := .reg [⟨none, .val 4 (.mv (.c (sv [])))⟩,
    ⟨none, .val 5 (.mv (.c (sv [])))⟩,
    ⟨none, .val 6 (.mv (.c (bv false)))⟩] false []
abbrev internal_stringslite_Cut_r1 : HCode := .reg [⟨none, .val 8 (.mv (.t 0))⟩,
    ⟨none, .val 9 (.mv (.t 1))⟩,
    ⟨none, .call (some 10) fn_internal_stringslite_Index [(.t 8, .v), (.t 9, .v)]⟩,
    ⟨none, .val 7 (.mv (.t 10))⟩] false [.forget [8, 9, 10]]
abbrev internal_stringslite_Cut_r2 : HCode := .reg [⟨none, .val 11 (.mv (.t 7))⟩,
    ⟨none, .val 12 (.ints .geq (.t 11) (.c (iv 0)))⟩] false [.forget [11]]
abbrev internal_stringslite_Cut_r3 : HCode := .drg [⟨0, false, ⟨none, .val 13 (.mv (.t 0))⟩⟩,
    ⟨1, false, ⟨none, .val 14 (.mv (.t 7))⟩⟩,
    ⟨2, false, ⟨none, .val 15 (.sls (.t 13) none (some (.t 14)))⟩⟩,
    ⟨3, false, ⟨none, .val 16 (.mv (.t 0))⟩⟩,
    ⟨4, false, ⟨none, .val 17 (.mv (.t 7))⟩⟩,
    ⟨5, false, ⟨none, .val 18 (.mv (.t 1))⟩⟩,
    ⟨6, false, ⟨none, .val 19 (.len true (.t 18))⟩⟩,
    ⟨7, false, ⟨none, .val 20 (.ints .add (.t 17) (.t 19))⟩⟩,
    ⟨8, false, ⟨none, .val 21 (.sls (.t 16) (some (.t 20)) none)⟩⟩,
    ⟨9, false, ⟨none, .val 4 (.mv (.t 15))⟩⟩,
    ⟨10, false, ⟨none, .val 5 (.mv (.t 21))⟩⟩,
    ⟨11, false, ⟨none, .val 6 (.mv (.c (bv true)))⟩⟩] [.forget [13, 14, 15, 16, 17, 18, 19, 20, 21]]
abbrev internal_stringslite_Cut_r4 : HCode := .reg [⟨none, .val 22 (.mv (.t 0))⟩,
    ⟨none, .val 4 (.mv (.t 22))⟩,
    ⟨none, .val 5 (.mv (.c (sv [])))⟩,
    ⟨none, .val 6 (.mv (.c (bv false)))⟩] false [.forget [22]]
abbrev internal_stringslite_Cut : HCode := (.seq internal_stringslite_Cut_r0 (.seq (.seq internal_stringslite_Cut_r1 (.seq internal_stringslite_Cut_r2 (.cond (.t 12) (.seq internal_stringslite_Cut_r3 .ret) .skip))) (.seq internal_stringslite_Cut_r4 .ret)))
abbrev internal_stringslite_Cut_E : Env := { N := 23, Γ := [], L := 23, nfix := 0 }
abbrev internal_stringslite_Cut_R : List RSrc := [.tmp 4, .tmp 5, .tmp 6]
theorem mk_internal_stringslite_Cut {base : Nat} {av : List AV} {r : RV} (hfo : formOk internal_stringslite_Cut_E base av) (hW : AVs.fits av → hwp Tryd.prog internal_stringslite_Cut (finQ internal_stringslite_Cut_E base av internal_stringslite_Cut_R r) (F0 internal_stringslite_Cut_E base av)) (hov : ∀ x, r.res = .ov x → nOwn av = 0 := by intro x h; cases h <;> rfl) : Contract Tryd.prog fn_internal_stringslite_Cut av r :=
  contract_of_wp (fn := Tryd.f143) (c := Tryd.f143.body.getD .skip) (by kernel_rfl) (by kernel_rfl) (by kernel_rfl) (by kernel_rfl) (by kernel_rfl) (by kernel_rfl) (by kernel_rfl) hfo hW hov
end Go.Hx
