/-
  The abstract code of functions of the program, printed by gen.py; each stands for the given one. No condition.
-/
import Derived.Test.YtjnagiaooecklaaDoorProg
import Derived.Test.YtjnagiaooecklaaDoorHxM
import Derived.Test.YtjnagiaooecklaaDoorC1
import Derived.Test.YtjnagiaooecklaaDoorC2
import Derived.Test.YtjnagiaooecklaaDoorC3
set_option linter.all false
namespace Go.Hx
open Go.Proofs
abbrev ref_OwnDocV_r0 : HCode := .reg [⟨none, .val 1 (.boxF (.t 0))⟩,
    ⟨none, .alloc 2 0 24 [.nl 5]⟩] false []
abbrev ref_OwnDocV_r1 : HCode := .reg [⟨none, .alloc 3 1 25 [.nl 5]⟩] false []
abbrev ref_OwnDocV_r2 : HCode := .reg [⟨none, .val 4 (.mv (.c (iv 0)))⟩] false []
abbrev ref_OwnDocV_r3 : HCode := .reg [⟨none, .val 5 (.mv (.t 4))⟩,
    ⟨none, .val 6 (.fldR (.t 1) 0 1)⟩,
    ⟨none, .val 7 (.ldR (.t 6) 1 false)⟩,
    ⟨none, .val 8 (.len false (.t 7))⟩,
    ⟨none, .val 9 (.ints .lss (.t 5) (.t 8))⟩] false [.forget [5, 6, 7, 8]]
abbrev ref_OwnDocV_r4 : HCode := .drg [⟨0, false, ⟨none, .val 12 (.fldP (.t 3) 0)⟩⟩,
    ⟨1, false, ⟨none, .vld 13 (.t 12) 1 25 0 1 false⟩⟩,
    ⟨2, false, ⟨none, .val 14 (.fldR (.t 1) 0 1)⟩⟩,
    ⟨3, false, ⟨none, .val 15 (.ldR (.t 14) 1 false)⟩⟩,
    ⟨4, false, ⟨none, .val 16 (.mv (.t 4))⟩⟩,
    ⟨5, false, ⟨none, .val 17 (.idxA 5 (.t 15) (.t 16))⟩⟩,
    ⟨6, false, ⟨none, .val 18 (.ldR (.t 17) 5 true)⟩⟩,
    ⟨7, true, ⟨none, .call (some 19) fn_ref_OwnNode [(.t 18, .v)]⟩⟩,
    ⟨8, false, ⟨none, .val 20 (.bslF 5 [.t 19])⟩⟩,
    ⟨9, false, ⟨none, .vap 21 ty_api_Node 5 13 (.t 20)⟩⟩,
    ⟨10, false, ⟨none, .val 22 (.fldP (.t 3) 0)⟩⟩,
    ⟨11, false, ⟨none, .vst (.t 22) 1 25 0 1 21⟩⟩] [.forget [12, 13, 14, 15, 16, 17, 18, 19, 20, 21, 22]]
abbrev ref_OwnDocV_r5 : HCode := .reg [⟨none, .val 10 (.mv (.t 4))⟩,
    ⟨none, .val 11 (.ints .add (.t 10) (.c (iv 1)))⟩,
    ⟨none, .val 4 (.mv (.t 11))⟩] false [.forget [10, 11]]
abbrev ref_OwnDocV_r6 : HCode := .reg [⟨none, .vld 23 (.t 3) 1 25 0 1 true⟩,
    ⟨none, .vst (.t 2) 0 24 0 1 23⟩] false [.forget [23]]
abbrev ref_OwnDocV : HCode := (.seq ref_OwnDocV_r0 (.seq ref_OwnDocV_r1 (.seq (.seq ref_OwnDocV_r2 (.block 0 (.loop (.seq (.seq ref_OwnDocV_r3 (.cond (.t 9) .skip (.exit 0))) (.seq (.block 1 ref_OwnDocV_r4) ref_OwnDocV_r5))))) (.seq ref_OwnDocV_r6 .ret))))
abbrev ref_OwnDocV_E : Env := { N := 24, Γ := [(24, 1), (25, 1)], L := 26, nfix := 0 }
abbrev ref_OwnDocV_R : List RSrc := [.cellB 2 0 24 0 1 true]
theorem mk_ref_OwnDocV {base : Nat} {av : List AV} {r : RV} (hfo : formOk ref_OwnDocV_E base av) (hW : AVs.fits av → hwp Tryd.prog ref_OwnDocV (finQ ref_OwnDocV_E base av ref_OwnDocV_R r) (F0 ref_OwnDocV_E base av)) (hov : ∀ x, r.res = .ov x → nOwn av = 0 := by intro x h; cases h <;> rfl) : Contract Tryd.prog fn_ref_OwnDoc av r :=
  contract_of_wp (fn := Tryd.f79) (c := Tryd.f79.body.getD .skip) (by kernel_rfl) (by kernel_rfl) (by kernel_rfl) (by kernel_rfl) (by kernel_rfl) (by kernel_rfl) (by kernel_rfl) hfo hW hov
abbrev ref_PutDocV_r0 : HCode := .reg [⟨none, .val 3 (.boxF (.t 0))⟩,
    ⟨none, .val 5 (.boxF (.t 2))⟩,
    ⟨none, .alloc 6 0 43 [.nl 5]⟩,
    ⟨none, .val 7 (.mv (.c (iv 0)))⟩] false []
abbrev ref_PutDocV_r1 : HCode := .reg [⟨none, .val 11 (.ldR (.t 3) 1 true)⟩,
    ⟨none, .val 12 (.mv (.t 1))⟩,
    ⟨none, .call (some 13) fn_ref_there [(.t 11, .v), (.t 12, .v)]⟩,
    ⟨none, .val 8 (.mv (.t 13))⟩] false [.forget [11, 12, 13]]
abbrev ref_PutDocV_r2 : HCode := .reg [⟨none, .val 14 (.mv (.t 8))⟩,
    ⟨none, .val 15 (.ints .neq (.t 14) (.c (iv 0)))⟩] false [.forget [14]]
abbrev ref_PutDocV_r3 : HCode := .reg [⟨none, .val 16 (.bld [.nl 5] [])⟩,
    ⟨none, .val 17 (.mv (.t 8))⟩,
    ⟨none, .sto (.t 6) 0 43 0 1 (.t 16)⟩,
    ⟨none, .val 7 (.mv (.t 17))⟩] false [.forget [16, 17]]
abbrev ref_PutDocV_r4 : HCode := .reg [⟨none, .val 18 (.ldR (.t 5) 5 true)⟩,
    ⟨none, .call (some 19) fn_ref_NodeFine [(.t 18, .v)]⟩,
    ⟨none, .val 20 (.not (.t 19))⟩] false [.forget [18, 19]]
abbrev ref_PutDocV_r5 : HCode := .reg [⟨none, .val 21 (.bld [.nl 5] [])⟩,
    ⟨none, .sto (.t 6) 0 43 0 1 (.t 21)⟩,
    ⟨none, .val 7 (.mv (.c (iv 1)))⟩] false [.forget [21]]
abbrev ref_PutDocV_r6 : HCode := .reg [⟨none, .val 22 (.ldR (.t 3) 1 true)⟩,
    ⟨none, .call (some 23) fn_ref_OwnDoc [(.t 22, .v)]⟩,
    ⟨none, .alloc 9 1 44 [.nl 5]⟩,
    ⟨none, .vst (.t 9) 1 44 0 1 23⟩] false [.forget [22, 23], .pin 44 1 44 []]
abbrev ref_PutDocV_r7 : HCode := .reg [⟨none, .val 24 (.fldP (.t 9) 0)⟩,
    ⟨none, .val 25 (.ldh (.t 24) 1 44 0)⟩,
    ⟨none, .val 26 (.mv (.t 1))⟩,
    ⟨none, .val 27 (.idxA 5 (.t 25) (.t 26))⟩,
    ⟨none, .val 28 (.fldP (.t 27) 0)⟩,
    ⟨none, .vlp 29 (.t 28) 44 1 44 [] 1 false⟩,
    ⟨none, .val 10 (.mv (.t 29))⟩] false [.forget [24, 25, 26, 27, 28, 29]]
abbrev ref_PutDocV_r8 : HCode := .drg [⟨0, false, ⟨none, .val 30 (.fldP (.t 9) 0)⟩⟩,
    ⟨1, false, ⟨none, .val 31 (.ldh (.t 30) 1 44 0)⟩⟩,
    ⟨2, false, ⟨none, .val 32 (.mv (.t 1))⟩⟩,
    ⟨3, false, ⟨none, .val 33 (.ldR (.t 5) 5 true)⟩⟩,
    ⟨4, true, ⟨none, .call (some 34) fn_ref_OwnNode [(.t 33, .v)]⟩⟩,
    ⟨5, false, ⟨none, .val 35 (.idxA 5 (.t 31) (.t 32))⟩⟩,
    ⟨6, false, ⟨none, .vse (.t 35) 44 1 44 [] 5 (.t 34)⟩⟩] [.forget [30, 31, 32, 33, 34, 35]]
abbrev ref_PutDocV_r9 : HCode := .reg [⟨none, .val 36 (.fldP (.t 9) 0)⟩,
    ⟨none, .val 37 (.ldh (.t 36) 1 44 0)⟩,
    ⟨none, .val 38 (.mv (.t 1))⟩,
    ⟨none, .val 39 (.mv (.t 10))⟩,
    ⟨none, .val 40 (.idxA 5 (.t 37) (.t 38))⟩,
    ⟨none, .val 41 (.fldP (.t 40) 0)⟩,
    ⟨none, .vse (.t 41) 44 1 44 [] 1 (.t 39)⟩] false [.forget [36, 37, 38, 39, 40, 41], .vfr 44 1 44]
abbrev ref_PutDocV_r10 : HCode := .reg [⟨none, .val 42 (.ldB (.t 9) 1 44 0 1 true)⟩,
    ⟨none, .sto (.t 6) 0 43 0 1 (.t 42)⟩,
    ⟨none, .val 7 (.mv (.c (iv 0)))⟩] false [.forget [42]]
abbrev ref_PutDocV : HCode := (.seq ref_PutDocV_r0 (.seq (.seq ref_PutDocV_r1 (.seq ref_PutDocV_r2 (.cond (.t 15) (.seq ref_PutDocV_r3 .ret) .skip))) (.seq (.seq ref_PutDocV_r4 (.cond (.t 20) (.seq ref_PutDocV_r5 .ret) .skip)) (.seq ref_PutDocV_r6 (.seq ref_PutDocV_r7 (.seq ref_PutDocV_r8 (.seq ref_PutDocV_r9 (.seq ref_PutDocV_r10 .ret))))))))
abbrev ref_PutDocV_E : Env := { N := 43, Γ := [(43, 1), (44, 1)], L := 45, nfix := 0 }
abbrev ref_PutDocV_R : List RSrc := [.cellB 6 0 43 0 1 true, .tmp 7]
theorem mk_ref_PutDocV {base : Nat} {av : List AV} {r : RV} (hfo : formOk ref_PutDocV_E base av) (hW : AVs.fits av → hwp Tryd.prog ref_PutDocV (finQ ref_PutDocV_E base av ref_PutDocV_R r) (F0 ref_PutDocV_E base av)) (hov : ∀ x, r.res = .ov x → nOwn av = 0 := by intro x h; cases h <;> rfl) : Contract Tryd.prog fn_ref_PutDoc av r :=
  contract_of_wp (fn := Tryd.f29) (c := Tryd.f29.body.getD .skip) (by kernel_rfl) (by kernel_rfl) (by kernel_rfl) (by kernel_rfl) (by kernel_rfl) (by kernel_rfl) (by kernel_rfl) hfo hW hov
end Go.Hx
