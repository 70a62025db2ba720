/-
  Walks of functions of the program over an abstract layer, and the laws that they use: each contract says what the function computes, for every input that its conditions let by. No other condition.
-/
import Derived.Test.YtjnagiaooecklabGreatDoorProg
import Derived.Test.YtjnagiaooecklabGreatDoorG8
set_option linter.all false
section
/-
 The abstract code of functions of the program, printed by gen.py; each stands for the given one. No condition.
-/
namespace Go.Hx
open Go.Proofs
variable [Glob]
abbrev zDY : Nat := 21
abbrev zUz : Nat := 3
abbrev zEN : Nat := 9
abbrev zLJ : HCode := .reg [⟨none, .val 4 (.mv (.c (bv false)))⟩] false []
abbrev zLK : HCode := .reg [⟨none, .val 6 (.mv (.t 0))⟩,
  ⟨none, .val 7 (.len false (.t 6))⟩,
  ⟨none, .val 8 (.mv (.t 1))⟩,
  ⟨none, .val 9 (.len false (.t 8))⟩,
  ⟨none, .val 10 (.ints .neq (.t 7) (.t 9))⟩] false [.forget [6, 7, 8, 9]]
abbrev zLL : HCode := .reg [⟨none, .val 4 (.mv (.c (bv false)))⟩] false []
abbrev zLM : HCode := .reg [⟨none, .val 5 (.mv (.c (iv 0)))⟩] false []
abbrev zLN : HCode := .reg [⟨none, .val 11 (.mv (.t 5))⟩,
  ⟨none, .val 12 (.mv (.t 0))⟩,
  ⟨none, .val 13 (.len false (.t 12))⟩,
  ⟨none, .val 14 (.ints .lss (.t 11) (.t 13))⟩] false [.forget [11, 12, 13]]
abbrev zLO : HCode := .drg [⟨0, false, ⟨none, .val 17 (.mv (.t 0))⟩⟩,
  ⟨1, false, ⟨none, .val 18 (.mv (.t 5))⟩⟩,
  ⟨2, false, ⟨none, .val 19 (.idxA 1 (.t 17) (.t 18))⟩⟩,
  ⟨3, false, ⟨none, .val 20 (.ldR (.t 19) 1 false)⟩⟩,
  ⟨4, false, ⟨none, .val 21 (.mv (.t 1))⟩⟩,
  ⟨5, false, ⟨none, .val 22 (.mv (.t 5))⟩⟩,
  ⟨6, false, ⟨none, .val 23 (.idxA 1 (.t 21) (.t 22))⟩⟩,
  ⟨7, false, ⟨none, .val 24 (.ldR (.t 23) 1 false)⟩⟩,
  ⟨8, false, ⟨none, .val 25 (.ints .neq (.t 20) (.t 24))⟩⟩] [.forget [17, 18, 19, 20, 21, 22, 23, 24]]
abbrev zLP : HCode := .reg [⟨none, .val 4 (.mv (.c (bv false)))⟩] false []
abbrev zLQ : HCode := .reg [⟨none, .val 15 (.mv (.t 5))⟩,
  ⟨none, .val 16 (.ints .add (.t 15) (.c (iv 1)))⟩,
  ⟨none, .val 5 (.mv (.t 16))⟩] false [.forget [15, 16]]
abbrev zLR : HCode := .reg [⟨none, .val 4 (.mv (.c (bv true)))⟩] false []
abbrev zQZ : HCode := (.seq zLJ (.seq (.seq zLK (.cond (.t 10) (.seq zLL .ret) .skip)) (.seq (.seq zLM (.block 0 (.loop (.seq (.seq zLN (.cond (.t 14) .skip (.exit 0))) (.seq (.block 1 (.seq zLO (.cond (.t 25) (.seq zLP .ret) .skip))) zLQ))))) (.seq zLR .ret))))
abbrev zDn : Env := { N := 26, Γ := [], L := 26, nfix := 0 }
abbrev zM7 : List RSrc := [.tmp 4]
theorem zLS {base : Nat} {av : List AV} {r : RV} (hfo : zAL zDn base av) (hW : AVs.fits av → hwp Tryz.prog zQZ (zDb zDn base av zM7 r) (F0 zDn base av)) (hov : ∀ x, r.res = .ov x → zCC av = 0 := by intro x h; cases h <;> rfl) : Contract Tryz.prog zDY av r :=
 contract_of_wp (fn := Tryz.f21) (c := Tryz.f21.body.getD .skip) (by kernel_rfl) (by kernel_rfl) (by kernel_rfl) (by kernel_rfl) (by kernel_rfl) (by kernel_rfl) (by kernel_rfl) hfo hW hov
end Go.Hx
end

section
/-
 The abstract code of functions of the program, printed by gen.py; each stands for the given one. No condition.
-/
namespace Go.Hx
open Go.Proofs
variable [Glob]
abbrev zEn : Nat := 221
abbrev zGu : Nat := 251
abbrev zFd : Nat := 207
abbrev zBE : Nat := 274
abbrev zCT : Nat := 246
abbrev zBR : Nat := 273
abbrev zQ0 : HCode := .reg [⟨none, .val 1 (.boxF (.t 0))⟩,
  ⟨none, .val 2 (.mv (.c (iv 0)))⟩] false []
abbrev zQ1 : HCode := .reg [⟨none, .val 5 (.fldR (.t 1) 0 1)⟩,
  ⟨none, .val 6 (.ldR (.t 5) 1 false)⟩,
  ⟨none, .val 7 (.fldR (.t 1) 1 1)⟩,
  ⟨none, .val 8 (.ldR (.t 7) 1 false)⟩,
  ⟨none, .val 9 (.bld [.v (.int .i64 0), .v (.int .i64 0)] [(0, 1, .t 6), (1, 1, .t 8)])⟩,
  ⟨none, .val 10 (.mv (.c (iv 0)))⟩] false [.forget [5, 6, 7, 8]]
abbrev zQ2 : HCode := .reg [⟨none, .val 11 (.ints .lss (.t 10) (.c (iv 2)))⟩] false []
abbrev zQ3 : HCode := .reg [⟨none, .val 12 (.idxV 2 (.t 9) (.t 10))⟩,
  ⟨none, .val 4 (.mv (.t 12))⟩] false [.forget [12]]
abbrev zQ4 : HCode := .reg [⟨none, .val 13 (.mv (.t 4))⟩,
  ⟨none, .val 14 (.ints .lss (.t 13) (.c (iv (-1048576))))⟩,
  ⟨none, .val 15 (.mv (.t 14))⟩,
  ⟨some (15, false), .val 16 (.mv (.t 4))⟩,
  ⟨some (15, false), .val 17 (.ints .gtr (.t 16) (.c (iv 1048576)))⟩,
  ⟨none, .val 18 (.pick (.t 15) (.c (bv true)) (.t 17))⟩] false [.forget [13, 14, 15, 16, 17]]
abbrev zQ5 : HCode := .reg [⟨none, .val 2 (.mv (.c (iv 3)))⟩] false []
abbrev zQ6 : HCode := .reg [⟨none, .val 19 (.ints .add (.t 10) (.c (iv 1)))⟩,
  ⟨none, .val 10 (.mv (.t 19))⟩] false [.forget [19]]
abbrev zQ7 : HCode := .reg [⟨none, .val 2 (.mv (.c (iv 0)))⟩] false []
abbrev zWz : HCode := (.seq zQ0 (.seq (.seq zQ1 (.block 0 (.loop (.seq zQ2 (.seq (.cond (.t 11) .skip (.exit 0)) (.seq (.block 1 (.seq zQ3 (.seq zQ4 (.cond (.t 18) (.seq zQ5 .ret) .skip)))) zQ6)))))) (.seq zQ7 .ret)))
abbrev zFe : Env := { N := 20, Γ := [], L := 20, nfix := 0 }
abbrev zSZ : List RSrc := [.tmp 2]
theorem zQ8 {base : Nat} {av : List AV} {r : RV} (hfo : zAL zFe base av) (hW : AVs.fits av → hwp Tryz.prog zWz (zDb zFe base av zSZ r) (F0 zFe base av)) (hov : ∀ x, r.res = .ov x → zCC av = 0 := by intro x h; cases h <;> rfl) : Contract Tryz.prog zEn av r :=
 contract_of_wp (fn := Tryz.f221) (c := Tryz.f221.body.getD .skip) (by kernel_rfl) (by kernel_rfl) (by kernel_rfl) (by kernel_rfl) (by kernel_rfl) (by kernel_rfl) (by kernel_rfl) hfo hW hov
abbrev zS0 : HCode := .reg [⟨none, .val 1 (.boxF (.t 0))⟩,
  ⟨none, .val 2 (.mv (.c (sv [])))⟩,
  ⟨none, .val 3 (.mv (.c (iv 0)))⟩] false []
abbrev zS1 : HCode := .reg [⟨none, .val 6 (.ldR (.t 1) 2 true)⟩,
  ⟨none, .call (some 7) zEn [(.t 6, .v)]⟩,
  ⟨none, .val 4 (.mv (.t 7))⟩] false [.forget [6, 7]]
abbrev zS2 : HCode := .reg [⟨none, .val 8 (.mv (.t 4))⟩,
  ⟨none, .val 9 (.ints .neq (.t 8) (.c (iv 0)))⟩] false [.forget [8]]
abbrev zS3 : HCode := .reg [⟨none, .val 10 (.mv (.t 4))⟩,
  ⟨none, .val 2 (.mv (.c (sv [])))⟩,
  ⟨none, .val 3 (.mv (.t 10))⟩] false [.forget [10]]
abbrev zS4 : HCode := .reg [⟨none, .val 11 (.fldR (.t 1) 1 1)⟩,
  ⟨none, .val 12 (.ldR (.t 11) 1 false)⟩,
  ⟨none, .call (some 13) zCT [(.t 12, .v)]⟩,
  ⟨none, .val 5 (.mv (.t 13))⟩] false [.forget [11, 12, 13]]
abbrev zS5 : HCode := .reg [⟨none, .val 14 (.fldR (.t 1) 1 1)⟩,
  ⟨none, .val 15 (.ldR (.t 14) 1 false)⟩,
  ⟨none, .val 16 (.ints .geq (.t 15) (.c (iv 0)))⟩] false [.forget [14, 15]]
abbrev zS6 : HCode := .reg [⟨none, .val 17 (.mv (.t 5))⟩,
  ⟨none, .val 18 (.strs .add (.c (sv [43])) (.t 17))⟩,
  ⟨none, .val 5 (.mv (.t 18))⟩] false [.forget [17, 18]]
abbrev zS7 : HCode := .reg [⟨none, .val 19 (.fldR (.t 1) 0 1)⟩,
  ⟨none, .val 20 (.ldR (.t 19) 1 false)⟩,
  ⟨none, .call (some 21) zCT [(.t 20, .v)]⟩,
  ⟨none, .val 22 (.strs .add (.t 21) (.c (sv [110])))⟩,
  ⟨none, .val 23 (.mv (.t 5))⟩,
  ⟨none, .val 24 (.strs .add (.t 22) (.t 23))⟩,
  ⟨none, .val 2 (.mv (.t 24))⟩,
  ⟨none, .val 3 (.mv (.c (iv 0)))⟩] false [.forget [19, 20, 21, 22, 23, 24]]
abbrev zYc : HCode := (.seq zS0 (.seq (.seq zS1 (.seq zS2 (.cond (.t 9) (.seq zS3 .ret) .skip))) (.seq zS4 (.seq (.seq zS5 (.cond (.t 16) zS6 .skip)) (.seq zS7 .ret)))))
abbrev zF4 : Env := { N := 25, Γ := [], L := 25, nfix := 0 }
abbrev zVk : List RSrc := [.tmp 2, .tmp 3]
theorem zS8 {base : Nat} {av : List AV} {r : RV} (hfo : zAL zF4 base av) (hW : AVs.fits av → hwp Tryz.prog zYc (zDb zF4 base av zVk r) (F0 zF4 base av)) (hov : ∀ x, r.res = .ov x → zCC av = 0 := by intro x h; cases h <;> rfl) : Contract Tryz.prog zFd av r :=
 contract_of_wp (fn := Tryz.f207) (c := Tryz.f207.body.getD .skip) (by kernel_rfl) (by kernel_rfl) (by kernel_rfl) (by kernel_rfl) (by kernel_rfl) (by kernel_rfl) (by kernel_rfl) hfo hW hov
abbrev zS9 : HCode := .reg [⟨none, .alloc 2 0 42 [.v (.int .i64 0), .v (.int .i64 0)]⟩,
  ⟨none, .val 3 (.mv (.c (iv 0)))⟩] false []
abbrev zTa : HCode := .reg [⟨none, .val 11 (.mv (.t 0))⟩,
  ⟨none, .call (some 12) zBR [(.t 11, .v), (.c (sv [110]), .v)]⟩,
  ⟨none, .val 10 (.mv (.t 12))⟩,
  ⟨none, .val 13 (.ext 10 0)⟩,
  ⟨none, .val 14 (.ext 10 1)⟩,
  ⟨none, .val 15 (.ext 10 2)⟩,
  ⟨none, .val 4 (.mv (.t 13))⟩,
  ⟨none, .val 5 (.mv (.t 14))⟩,
  ⟨none, .val 6 (.mv (.t 15))⟩] false [.forget [6, 10, 11, 12, 13, 14, 15]]
abbrev zTb : HCode := .reg [⟨none, .alloc 7 1 44 [.v (.int .i64 0), .v (.int .i64 0)]⟩] false []
abbrev zTc : HCode := .reg [⟨none, .val 17 (.mv (.t 4))⟩,
  ⟨none, .call (some 18) zBE [(.t 17, .v)]⟩,
  ⟨none, .val 16 (.mv (.t 18))⟩,
  ⟨none, .val 19 (.ext 16 0)⟩,
  ⟨none, .val 20 (.ext 16 1)⟩,
  ⟨none, .val 21 (.fldP (.t 7) 0)⟩,
  ⟨none, .sto (.t 21) 1 44 0 1 (.t 19)⟩] false [.forget [16, 17, 18, 19, 20, 21]]
abbrev zTd : HCode := .reg [⟨none, .val 23 (.mv (.t 5))⟩,
  ⟨none, .call (some 24) zBE [(.t 23, .v)]⟩,
  ⟨none, .val 22 (.mv (.t 24))⟩,
  ⟨none, .val 25 (.ext 22 0)⟩,
  ⟨none, .val 26 (.ext 22 1)⟩,
  ⟨none, .val 27 (.fldP (.t 7) 1)⟩,
  ⟨none, .sto (.t 27) 1 44 1 1 (.t 25)⟩] false [.forget [22, 23, 24, 25, 26, 27]]
abbrev zTe : HCode := .reg [⟨none, .val 29 (.ldB (.t 7) 1 44 0 2 true)⟩,
  ⟨none, .call (some 30) zFd [(.t 29, .v)]⟩,
  ⟨none, .val 28 (.mv (.t 30))⟩,
  ⟨none, .val 31 (.ext 28 0)⟩,
  ⟨none, .val 32 (.ext 28 1)⟩,
  ⟨none, .val 8 (.mv (.t 31))⟩,
  ⟨none, .val 9 (.mv (.t 32))⟩] false [.forget [28, 29, 30, 31, 32]]
abbrev zTf : HCode := .reg [⟨none, .val 33 (.mv (.t 9))⟩,
  ⟨none, .val 34 (.ints .neq (.t 33) (.c (iv 0)))⟩,
  ⟨none, .val 35 (.mv (.t 34))⟩,
  ⟨some (35, false), .val 36 (.mv (.t 8))⟩,
  ⟨some (35, false), .val 37 (.mv (.t 0))⟩,
  ⟨some (35, false), .val 38 (.strs .neq (.t 36) (.t 37))⟩,
  ⟨none, .val 39 (.pick (.t 35) (.c (bv true)) (.t 38))⟩] false [.forget [33, 34, 35, 36, 37, 38]]
abbrev zTg : HCode := .reg [⟨none, .val 40 (.bld [.v (.int .i64 0), .v (.int .i64 0)] [])⟩,
  ⟨none, .sto (.t 2) 0 42 0 2 (.t 40)⟩,
  ⟨none, .val 3 (.mv (.c (iv 1)))⟩] false [.forget [40]]
abbrev zTh : HCode := .reg [⟨none, .val 41 (.ldB (.t 7) 1 44 0 2 true)⟩,
  ⟨none, .sto (.t 2) 0 42 0 2 (.t 41)⟩,
  ⟨none, .val 3 (.mv (.c (iv 0)))⟩] false [.forget [41]]
abbrev zYd : HCode := (.seq zS9 (.seq zTa (.seq zTb (.seq zTc (.seq zTd (.seq (.seq zTe (.seq zTf (.cond (.t 39) (.seq zTg .ret) .skip))) (.seq zTh .ret)))))))
abbrev zF5 : Env := { N := 42, Γ := [(42, 2), (44, 2)], L := 46, nfix := 0 }
abbrev zVl : List RSrc := [.cellB 2 0 42 0 2 true, .tmp 3]
theorem zTi {base : Nat} {av : List AV} {r : RV} (hfo : zAL zF5 base av) (hW : AVs.fits av → hwp Tryz.prog zYd (zDb zF5 base av zVl r) (F0 zF5 base av)) (hov : ∀ x, r.res = .ov x → zCC av = 0 := by intro x h; cases h <;> rfl) : Contract Tryz.prog zGu av r :=
 contract_of_wp (fn := Tryz.f251) (c := Tryz.f251.body.getD .skip) (by kernel_rfl) (by kernel_rfl) (by kernel_rfl) (by kernel_rfl) (by kernel_rfl) (by kernel_rfl) (by kernel_rfl) hfo hW hov
end Go.Hx
end

section
/-
 The abstract code of functions of the program, printed by gen.py; each stands for the given one. No condition.
-/
namespace Go.Hx
open Go.Proofs
variable [Glob]
abbrev zBj : Nat := 286
abbrev zA5 : Nat := 277
abbrev zM8 : HCode := .reg [⟨none, .val 4 (.mv (.c (sv [])))⟩,
  ⟨none, .val 5 (.mv (.c (sv [])))⟩,
  ⟨none, .val 6 (.mv (.c (bv false)))⟩] false []
abbrev zM9 : HCode := .reg [⟨none, .val 7 (.mv (.t 0))⟩,
  ⟨none, .val 8 (.mv (.t 1))⟩,
  ⟨none, .call (some 9) zBj [(.t 7, .v), (.t 8, .v)]⟩,
  ⟨none, .val 10 (.ext 9 0)⟩,
  ⟨none, .val 11 (.ext 9 1)⟩,
  ⟨none, .val 12 (.ext 9 2)⟩,
  ⟨none, .val 4 (.mv (.t 10))⟩,
  ⟨none, .val 5 (.mv (.t 11))⟩,
  ⟨none, .val 6 (.mv (.t 12))⟩] false [.forget [7, 8, 9, 10, 11, 12]]
abbrev strings_Cut : HCode := (.seq zM8 (.seq zM9 .ret))
abbrev zDO : Env := { N := 13, Γ := [], L := 13, nfix := 0 }
abbrev zOS : List RSrc := [.tmp 4, .tmp 5, .tmp 6]
theorem zNa {base : Nat} {av : List AV} {r : RV} (hfo : zAL zDO base av) (hW : AVs.fits av → hwp Tryz.prog strings_Cut (zDb zDO base av zOS r) (F0 zDO base av)) (hov : ∀ x, r.res = .ov x → zCC av = 0 := by intro x h; cases h <;> rfl) : Contract Tryz.prog zBR av r :=
 contract_of_wp (fn := Tryz.f273) (c := Tryz.f273.body.getD .skip) (by kernel_rfl) (by kernel_rfl) (by kernel_rfl) (by kernel_rfl) (by kernel_rfl) (by kernel_rfl) (by kernel_rfl) hfo hW hov
abbrev zDZ : HCode := .reg [⟨none, .val 4 (.mv (.c (sv [])))⟩,
  ⟨none, .val 5 (.mv (.c (sv [])))⟩,
  ⟨none, .val 6 (.mv (.c (bv false)))⟩] false []
abbrev zD0 : HCode := .reg [⟨none, .val 8 (.mv (.t 0))⟩,
  ⟨none, .val 9 (.mv (.t 1))⟩,
  ⟨none, .call (some 10) zA5 [(.t 8, .v), (.t 9, .v)]⟩,
  ⟨none, .val 7 (.mv (.t 10))⟩] false [.forget [8, 9, 10]]
abbrev zD1 : HCode := .reg [⟨none, .val 11 (.mv (.t 7))⟩,
  ⟨none, .val 12 (.ints .geq (.t 11) (.c (iv 0)))⟩] false [.forget [11]]
abbrev zD2 : HCode := .drg [⟨0, false, ⟨none, .val 13 (.mv (.t 0))⟩⟩,
  ⟨1, false, ⟨none, .val 14 (.mv (.t 7))⟩⟩,
  ⟨2, false, ⟨none, .val 15 (.sls (.t 13) none (some (.t 14)))⟩⟩,
  ⟨3, false, ⟨none, .val 16 (.mv (.t 0))⟩⟩,
  ⟨4, false, ⟨none, .val 17 (.mv (.t 7))⟩⟩,
  ⟨5, false, ⟨none, .val 18 (.mv (.t 1))⟩⟩,
  ⟨6, false, ⟨none, .val 19 (.len true (.t 18))⟩⟩,
  ⟨7, false, ⟨none, .val 20 (.ints .add (.t 17) (.t 19))⟩⟩,
  ⟨8, false, ⟨none, .val 21 (.sls (.t 16) (some (.t 20)) none)⟩⟩,
  ⟨9, false, ⟨none, .val 4 (.mv (.t 15))⟩⟩,
  ⟨10, false, ⟨none, .val 5 (.mv (.t 21))⟩⟩,
  ⟨11, false, ⟨none, .val 6 (.mv (.c (bv true)))⟩⟩] [.forget [13, 14, 15, 16, 17, 18, 19, 20, 21]]
abbrev zD3 : HCode := .reg [⟨none, .val 22 (.mv (.t 0))⟩,
  ⟨none, .val 4 (.mv (.t 22))⟩,
  ⟨none, .val 5 (.mv (.c (sv [])))⟩,
  ⟨none, .val 6 (.mv (.c (bv false)))⟩] false [.forget [22]]
abbrev zEO : HCode := (.seq zDZ (.seq (.seq zD0 (.seq zD1 (.cond (.t 12) (.seq zD2 .ret) .skip))) (.seq zD3 .ret)))
abbrev zAX : Env := { N := 23, Γ := [], L := 23, nfix := 0 }
abbrev zEg : List RSrc := [.tmp 4, .tmp 5, .tmp 6]
theorem zD4 {base : Nat} {av : List AV} {r : RV} (hfo : zAL zAX base av) (hW : AVs.fits av → hwp Tryz.prog zEO (zDb zAX base av zEg r) (F0 zAX base av)) (hov : ∀ x, r.res = .ov x → zCC av = 0 := by intro x h; cases h <;> rfl) : Contract Tryz.prog zBj av r :=
 contract_of_wp (fn := Tryz.f286) (c := Tryz.f286.body.getD .skip) (by kernel_rfl) (by kernel_rfl) (by kernel_rfl) (by kernel_rfl) (by kernel_rfl) (by kernel_rfl) (by kernel_rfl) hfo hW hov
end Go.Hx
end

section
/-
 The abstract code of functions of the program, printed by gen.py; each stands for the given one. No condition.
-/
namespace Go.Hx
open Go.Proofs
variable [Glob]
abbrev zFf : Nat := 185
abbrev zFP : Nat := 192
end Go.Hx
end

section
/-
 The abstract code of functions of the program, printed by gen.py; each stands for the given one. No condition.
-/
namespace Go.Hx
open Go.Proofs
variable [Glob]
abbrev zCb : Nat := 239
abbrev zBS : Nat := 240
abbrev zBd : Nat := 238
abbrev zD5 : Nat := 237
abbrev zTn : HCode := .reg [⟨none, .val 2 (.mv (.c (bv false)))⟩] false []
abbrev zTo : HCode := .reg [⟨none, .val 3 (.mv (.t 0))⟩,
  ⟨none, .val 4 (.len true (.t 3))⟩,
  ⟨none, .val 5 (.ints .gtr (.t 4) (.c (iv 0)))⟩,
  ⟨none, .val 6 (.mv (.t 5))⟩,
  ⟨some (6, true), .val 7 (.mv (.t 0))⟩,
  ⟨some (6, true), .val 8 (.len true (.t 7))⟩,
  ⟨some (6, true), .val 9 (.ints .leq (.t 8) (.c (iv 12)))⟩,
  ⟨none, .val 10 (.pick (.t 6) (.t 9) (.c (bv false)))⟩,
  ⟨none, .val 11 (.mv (.t 10))⟩,
  ⟨some (11, true), .val 12 (.mv (.t 0))⟩,
  ⟨some (11, true), .val 13 (.idxS (.t 12) (.c (iv 0)))⟩,
  ⟨some (11, true), .val 14 (.ints .geq (.t 13) (.c (.one (.v (.int .u8 97)))))⟩,
  ⟨none, .val 15 (.pick (.t 11) (.t 14) (.c (bv false)))⟩,
  ⟨none, .val 16 (.mv (.t 15))⟩,
  ⟨some (16, true), .val 17 (.mv (.t 0))⟩,
  ⟨some (16, true), .val 18 (.idxS (.t 17) (.c (iv 0)))⟩,
  ⟨some (16, true), .val 19 (.ints .leq (.t 18) (.c (.one (.v (.int .u8 122)))))⟩,
  ⟨none, .val 20 (.pick (.t 16) (.t 19) (.c (bv false)))⟩,
  ⟨none, .val 21 (.mv (.t 20))⟩,
  ⟨some (21, true), .val 22 (.mv (.t 0))⟩,
  ⟨some (21, true), .call (some 23) zD5 [(.t 22, .v), (.c (sv [97, 98, 99, 100, 101, 102, 103, 104, 105, 106, 107, 108, 109, 110, 111, 112, 113, 114, 115, 116, 117, 118, 119, 120, 121, 122, 48, 49, 50, 51, 52, 53, 54, 55, 56, 57, 45]), .v)]⟩,
  ⟨some (21, true), .val 24 (.strs .eql (.t 23) (.c (sv [])))⟩,
  ⟨none, .val 25 (.pick (.t 21) (.t 24) (.c (bv false)))⟩,
  ⟨none, .val 26 (.mv (.t 25))⟩,
  ⟨some (26, true), .val 27 (.mv (.t 0))⟩,
  ⟨some (26, true), .call (some 28) zBd [(.t 27, .v), (.f zCb, .v)]⟩,
  ⟨some (26, true), .val 29 (.not (.t 28))⟩,
  ⟨none, .val 30 (.pick (.t 26) (.t 29) (.c (bv false)))⟩,
  ⟨none, .val 2 (.mv (.t 30))⟩] false [.forget [3, 4, 5, 6, 7, 8, 9, 10, 11, 12, 13, 14, 15, 16, 17, 18, 19, 20, 21, 22, 23, 24, 25, 26, 27, 28, 29, 30]]
abbrev zYh : HCode := (.seq zTn (.seq zTo .ret))
abbrev zF6 : Env := { N := 31, Γ := [], L := 31, nfix := 0 }
abbrev zVn : List RSrc := [.tmp 2]
theorem zTp {base : Nat} {av : List AV} {r : RV} (hfo : zAL zF6 base av) (hW : AVs.fits av → hwp Tryz.prog zYh (zDb zF6 base av zVn r) (F0 zF6 base av)) (hov : ∀ x, r.res = .ov x → zCC av = 0 := by intro x h; cases h <;> rfl) : Contract Tryz.prog zFf av r :=
 contract_of_wp (fn := Tryz.f185) (c := Tryz.f185.body.getD .skip) (by kernel_rfl) (by kernel_rfl) (by kernel_rfl) (by kernel_rfl) (by kernel_rfl) (by kernel_rfl) (by kernel_rfl) hfo hW hov
abbrev zOV : HCode := .reg [⟨none, .val 2 (.mv (.c (bv false)))⟩] false []
abbrev zOW : HCode := .reg [⟨none, .val 3 (.mv (.t 0))⟩,
  ⟨none, .val 4 (.ints .lss (.t 3) (.c (.one (.v (.int .i32 97)))))⟩,
  ⟨none, .val 5 (.mv (.t 4))⟩,
  ⟨some (5, false), .val 6 (.mv (.t 0))⟩,
  ⟨some (5, false), .val 7 (.ints .gtr (.t 6) (.c (.one (.v (.int .i32 122)))))⟩,
  ⟨none, .val 8 (.pick (.t 5) (.c (bv true)) (.t 7))⟩,
  ⟨none, .val 9 (.mv (.t 8))⟩,
  ⟨some (9, true), .val 10 (.mv (.t 0))⟩,
  ⟨some (9, true), .val 11 (.ints .lss (.t 10) (.c (.one (.v (.int .i32 48)))))⟩,
  ⟨some (9, true), .val 12 (.mv (.t 11))⟩,
  ⟨some (12, false), .val 13 (.mv (.t 0))⟩,
  ⟨some (12, false), .val 14 (.ints .gtr (.t 13) (.c (.one (.v (.int .i32 57)))))⟩,
  ⟨some (9, true), .val 15 (.pick (.t 12) (.c (bv true)) (.t 14))⟩,
  ⟨none, .val 16 (.pick (.t 9) (.t 15) (.c (bv false)))⟩,
  ⟨none, .val 17 (.mv (.t 16))⟩,
  ⟨some (17, true), .val 18 (.mv (.t 0))⟩,
  ⟨some (17, true), .val 19 (.ints .neq (.t 18) (.c (.one (.v (.int .i32 45)))))⟩,
  ⟨none, .val 20 (.pick (.t 17) (.t 19) (.c (bv false)))⟩,
  ⟨none, .val 2 (.mv (.t 20))⟩] false [.forget [3, 4, 5, 6, 7, 8, 9, 10, 11, 12, 13, 14, 15, 16, 17, 18, 19, 20]]
abbrev zVo : HCode := (.seq zOV (.seq zOW .ret))
abbrev zEo : Env := { N := 21, Γ := [], L := 21, nfix := 0 }
abbrev zRa : List RSrc := [.tmp 2]
theorem zOX {base : Nat} {av : List AV} {r : RV} (hfo : zAL zEo base av) (hW : AVs.fits av → hwp Tryz.prog zVo (zDb zEo base av zRa r) (F0 zEo base av)) (hov : ∀ x, r.res = .ov x → zCC av = 0 := by intro x h; cases h <;> rfl) : Contract Tryz.prog zCb av r :=
 contract_of_wp (fn := Tryz.f239) (c := Tryz.f239.body.getD .skip) (by kernel_rfl) (by kernel_rfl) (by kernel_rfl) (by kernel_rfl) (by kernel_rfl) (by kernel_rfl) (by kernel_rfl) hfo hW hov
abbrev zRb : HCode := .reg [⟨none, .val 2 (.mv (.c (bv false)))⟩] false []
abbrev zRc : HCode := .reg [⟨none, .val 3 (.mv (.t 0))⟩,
  ⟨none, .val 4 (.len true (.t 3))⟩,
  ⟨none, .val 5 (.ints .leq (.t 4) (.c (iv 16)))⟩,
  ⟨none, .val 6 (.mv (.t 5))⟩,
  ⟨some (6, true), .val 7 (.mv (.t 0))⟩,
  ⟨some (6, true), .call (some 8) zBd [(.t 7, .v), (.f zBS, .v)]⟩,
  ⟨some (6, true), .val 9 (.not (.t 8))⟩,
  ⟨none, .val 10 (.pick (.t 6) (.t 9) (.c (bv false)))⟩,
  ⟨none, .val 2 (.mv (.t 10))⟩] false [.forget [3, 4, 5, 6, 7, 8, 9, 10]]
abbrev zWE : HCode := (.seq zRb (.seq zRc .ret))
abbrev zFg : Env := { N := 11, Γ := [], L := 11, nfix := 0 }
abbrev zTq : List RSrc := [.tmp 2]
theorem zRd {base : Nat} {av : List AV} {r : RV} (hfo : zAL zFg base av) (hW : AVs.fits av → hwp Tryz.prog zWE (zDb zFg base av zTq r) (F0 zFg base av)) (hov : ∀ x, r.res = .ov x → zCC av = 0 := by intro x h; cases h <;> rfl) : Contract Tryz.prog zFP av r :=
 contract_of_wp (fn := Tryz.f192) (c := Tryz.f192.body.getD .skip) (by kernel_rfl) (by kernel_rfl) (by kernel_rfl) (by kernel_rfl) (by kernel_rfl) (by kernel_rfl) (by kernel_rfl) hfo hW hov
abbrev zNf : HCode := .reg [⟨none, .val 2 (.mv (.c (bv false)))⟩] false []
abbrev zNg : HCode := .reg [⟨none, .val 3 (.mv (.t 0))⟩,
  ⟨none, .val 4 (.ints .lss (.t 3) (.c (.one (.v (.int .i32 32)))))⟩,
  ⟨none, .val 5 (.mv (.t 4))⟩,
  ⟨some (5, false), .val 6 (.mv (.t 0))⟩,
  ⟨some (5, false), .val 7 (.ints .gtr (.t 6) (.c (.one (.v (.int .i32 126)))))⟩,
  ⟨none, .val 8 (.pick (.t 5) (.c (bv true)) (.t 7))⟩,
  ⟨none, .val 9 (.mv (.t 8))⟩,
  ⟨some (9, false), .val 10 (.mv (.t 0))⟩,
  ⟨some (9, false), .val 11 (.ints .eql (.t 10) (.c (.one (.v (.int .i32 34)))))⟩,
  ⟨none, .val 12 (.pick (.t 9) (.c (bv true)) (.t 11))⟩,
  ⟨none, .val 2 (.mv (.t 12))⟩] false [.forget [3, 4, 5, 6, 7, 8, 9, 10, 11, 12]]
abbrev zTr : HCode := (.seq zNf (.seq zNg .ret))
abbrev zDP : Env := { N := 13, Γ := [], L := 13, nfix := 0 }
abbrev zOY : List RSrc := [.tmp 2]
theorem zNh {base : Nat} {av : List AV} {r : RV} (hfo : zAL zDP base av) (hW : AVs.fits av → hwp Tryz.prog zTr (zDb zDP base av zOY r) (F0 zDP base av)) (hov : ∀ x, r.res = .ov x → zCC av = 0 := by intro x h; cases h <;> rfl) : Contract Tryz.prog zBS av r :=
 contract_of_wp (fn := Tryz.f240) (c := Tryz.f240.body.getD .skip) (by kernel_rfl) (by kernel_rfl) (by kernel_rfl) (by kernel_rfl) (by kernel_rfl) (by kernel_rfl) (by kernel_rfl) hfo hW hov
end Go.Hx
end

section
/-
 The abstract code of functions of the program, printed by gen.py; each stands for the given one. No condition.
-/
namespace Go.Hx
open Go.Proofs
variable [Glob]
abbrev zBJ : Nat := 54
abbrev zBf : Nat := 110
abbrev zAy : Nat := 163
abbrev zCc : Nat := 164
abbrev zF7 : Nat := 220
abbrev zFh : Nat := 111
abbrev zVp : HCode := .reg [⟨none, .alloc 2 0 31 [.v (.bool false), .v (.bool false), .v (.bool false), .v (.bool false)]⟩,
  ⟨none, .val 3 (.mv (.c (bv false)))⟩] false []
abbrev zVq : HCode := .reg [⟨none, .val 4 (.mv (.t 0))⟩] false []
abbrev zVr : HCode := .reg [⟨none, .val 6 (.ints .eql (.t 4) (.c (iv 1)))⟩,
  ⟨none, .val 5 (.mv (.t 6))⟩] false [.forget [6]]
abbrev zVs : HCode := .reg [⟨none, .val 7 (.ints .eql (.t 4) (.c (iv 2)))⟩,
  ⟨none, .val 5 (.mv (.t 7))⟩] false [.forget [7]]
abbrev zVt : HCode := .reg [⟨none, .val 8 (.ints .eql (.t 4) (.c (iv 3)))⟩,
  ⟨none, .val 5 (.mv (.t 8))⟩] false [.forget [8]]
abbrev zVu : HCode := .reg [⟨none, .val 9 (.bld [.v (.bool false), .v (.bool false), .v (.bool false), .v (.bool false)] [(0, 1, .c (bv true))])⟩,
  ⟨none, .sto (.t 2) 0 31 0 4 (.t 9)⟩,
  ⟨none, .val 3 (.mv (.c (bv true)))⟩] false [.forget [9]]
abbrev zVv : HCode := .reg [⟨none, .val 11 (.ints .eql (.t 4) (.c (iv 4)))⟩,
  ⟨none, .val 10 (.mv (.t 11))⟩] false [.forget [11]]
abbrev zVw : HCode := .reg [⟨none, .val 12 (.ints .eql (.t 4) (.c (iv 5)))⟩,
  ⟨none, .val 10 (.mv (.t 12))⟩] false [.forget [12]]
abbrev zVx : HCode := .reg [⟨none, .val 13 (.ints .eql (.t 4) (.c (iv 6)))⟩,
  ⟨none, .val 10 (.mv (.t 13))⟩] false [.forget [13]]
abbrev zVy : HCode := .reg [⟨none, .val 14 (.ints .eql (.t 4) (.c (iv 7)))⟩,
  ⟨none, .val 10 (.mv (.t 14))⟩] false [.forget [14]]
abbrev zTs : HCode := .reg [⟨none, .val 15 (.ints .eql (.t 4) (.c (iv 8)))⟩,
  ⟨none, .val 10 (.mv (.t 15))⟩] false [.forget [15]]
abbrev zTt : HCode := .reg [⟨none, .val 16 (.bld [.v (.bool false), .v (.bool false), .v (.bool false), .v (.bool false)] [(0, 1, .c (bv true)), (1, 1, .c (bv true))])⟩,
  ⟨none, .sto (.t 2) 0 31 0 4 (.t 16)⟩,
  ⟨none, .val 3 (.mv (.c (bv true)))⟩] false [.forget [16]]
abbrev zTu : HCode := .reg [⟨none, .val 18 (.ints .eql (.t 4) (.c (iv 9)))⟩,
  ⟨none, .val 17 (.mv (.t 18))⟩] false [.forget [18]]
abbrev zTv : HCode := .reg [⟨none, .val 19 (.ints .eql (.t 4) (.c (iv 10)))⟩,
  ⟨none, .val 17 (.mv (.t 19))⟩] false [.forget [19]]
abbrev zTw : HCode := .reg [⟨none, .val 20 (.bld [.v (.bool false), .v (.bool false), .v (.bool false), .v (.bool false)] [(2, 1, .c (bv true))])⟩,
  ⟨none, .sto (.t 2) 0 31 0 4 (.t 20)⟩,
  ⟨none, .val 3 (.mv (.c (bv true)))⟩] false [.forget [20]]
abbrev zTx : HCode := .reg [⟨none, .val 22 (.ints .eql (.t 4) (.c (iv 11)))⟩,
  ⟨none, .val 21 (.mv (.t 22))⟩] false [.forget [22]]
abbrev zTy : HCode := .reg [⟨none, .val 23 (.ints .eql (.t 4) (.c (iv 12)))⟩,
  ⟨none, .val 21 (.mv (.t 23))⟩] false [.forget [23]]
abbrev zTz : HCode := .reg [⟨none, .val 24 (.bld [.v (.bool false), .v (.bool false), .v (.bool false), .v (.bool false)] [])⟩,
  ⟨none, .sto (.t 2) 0 31 0 4 (.t 24)⟩,
  ⟨none, .val 3 (.mv (.c (bv true)))⟩] false [.forget [24]]
abbrev zTA : HCode := .reg [⟨none, .val 26 (.ints .eql (.t 4) (.c (iv 13)))⟩,
  ⟨none, .val 25 (.mv (.t 26))⟩] false [.forget [26]]
abbrev zTB : HCode := .reg [⟨none, .val 27 (.ints .eql (.t 4) (.c (iv 14)))⟩,
  ⟨none, .val 25 (.mv (.t 27))⟩] false [.forget [27]]
abbrev zTC : HCode := .reg [⟨none, .val 28 (.ints .eql (.t 4) (.c (iv 15)))⟩,
  ⟨none, .val 25 (.mv (.t 28))⟩] false [.forget [28]]
abbrev zTD : HCode := .reg [⟨none, .val 29 (.bld [.v (.bool false), .v (.bool false), .v (.bool false), .v (.bool false)] [(3, 1, .c (bv true))])⟩,
  ⟨none, .sto (.t 2) 0 31 0 4 (.t 29)⟩,
  ⟨none, .val 3 (.mv (.c (bv true)))⟩] false [.forget [29]]
abbrev zTE : HCode := .reg [⟨none, .val 30 (.bld [.v (.bool false), .v (.bool false), .v (.bool false), .v (.bool false)] [])⟩,
  ⟨none, .sto (.t 2) 0 31 0 4 (.t 30)⟩,
  ⟨none, .val 3 (.mv (.c (bv false)))⟩] false [.forget [30]]
abbrev yAq : HCode := (.seq zVp (.seq (.seq zVq (.block 0 (.seq (.seq zVr (.cond (.t 5) .skip (.seq zVs (.cond (.t 5) .skip zVt)))) (.cond (.t 5) (.seq zVu .ret) (.seq (.seq zVv (.cond (.t 10) .skip (.seq zVw (.cond (.t 10) .skip (.seq zVx (.cond (.t 10) .skip (.seq zVy (.cond (.t 10) .skip zTs)))))))) (.cond (.t 10) (.seq zTt .ret) (.seq (.seq zTu (.cond (.t 17) .skip zTv)) (.cond (.t 17) (.seq zTw .ret) (.seq (.seq zTx (.cond (.t 21) .skip zTy)) (.cond (.t 21) (.seq zTz .ret) (.seq (.seq zTA (.cond (.t 25) .skip (.seq zTB (.cond (.t 25) .skip zTC)))) (.cond (.t 25) (.seq zTD .ret) .skip)))))))))))) (.seq zTE .ret)))
abbrev zG3 : Env := { N := 31, Γ := [(31, 4)], L := 35, nfix := 0 }
abbrev zWF : List RSrc := [.cellB 2 0 31 0 4 true, .tmp 3]
theorem zVz {base : Nat} {av : List AV} {r : RV} (hfo : zAL zG3 base av) (hW : AVs.fits av → hwp Tryz.prog yAq (zDb zG3 base av zWF r) (F0 zG3 base av)) (hov : ∀ x, r.res = .ov x → zCC av = 0 := by intro x h; cases h <;> rfl) : Contract Tryz.prog zF7 av r :=
 contract_of_wp (fn := Tryz.f220) (c := Tryz.f220.body.getD .skip) (by kernel_rfl) (by kernel_rfl) (by kernel_rfl) (by kernel_rfl) (by kernel_rfl) (by kernel_rfl) (by kernel_rfl) hfo hW hov
abbrev zOZ : HCode := .reg [⟨none, .alloc 0 0 2 [.v (.int .i64 0), .v (.int .i64 0), .v (.int .i64 0), .v (.int .i64 0)]⟩] false []
abbrev zO0 : HCode := .reg [⟨none, .val 1 (.bld [.v (.int .i64 0), .v (.int .i64 0), .v (.int .i64 0), .v (.int .i64 0)] [(0, 1, .c (iv 2)), (1, 1, .c (iv 4)), (2, 1, .c (iv 1)), (3, 1, .c (iv 3))])⟩,
  ⟨none, .sto (.t 0) 0 2 0 4 (.t 1)⟩] false [.forget [1]]
abbrev zVA : HCode := (.seq zOZ (.seq zO0 .ret))
abbrev zEp : Env := { N := 2, Γ := [(2, 4)], L := 6, nfix := 0 }
abbrev zRe : List RSrc := [.cellB 0 0 2 0 4 true]
theorem zO1 {base : Nat} {av : List AV} {r : RV} (hfo : zAL zEp base av) (hW : AVs.fits av → hwp Tryz.prog zVA (zDb zEp base av zRe r) (F0 zEp base av)) (hov : ∀ x, r.res = .ov x → zCC av = 0 := by intro x h; cases h <;> rfl) : Contract Tryz.prog zFh av r :=
 contract_of_wp (fn := Tryz.f111) (c := Tryz.f111.body.getD .skip) (by kernel_rfl) (by kernel_rfl) (by kernel_rfl) (by kernel_rfl) (by kernel_rfl) (by kernel_rfl) (by kernel_rfl) hfo hW hov
abbrev zHS : HCode := .reg [⟨none, .val 6 (.mv (.t 1))⟩] false []
abbrev zHT : HCode := .drg [⟨0, false, ⟨none, .val 7 (.mv (.t 0))⟩⟩,
  ⟨1, false, ⟨none, .val 8 (.mv (.t 2))⟩⟩,
  ⟨2, false, ⟨none, .val 9 (.nilck (.t 7))⟩⟩,
  ⟨3, false, ⟨none, .val 10 (.fldP (.t 9) 0)⟩⟩,
  ⟨4, false, ⟨none, .val 11 (.ixB 5 (.t 10) (.t 8))⟩⟩,
  ⟨5, false, ⟨none, .val 12 (.ldD (.t 11) 0 17 5)⟩⟩,
  ⟨6, false, ⟨none, .val 13 (.ints .add (.t 12) (.c (iv 1)))⟩⟩,
  ⟨7, false, ⟨none, .val 14 (.nilck (.t 7))⟩⟩,
  ⟨8, false, ⟨none, .val 15 (.fldP (.t 14) 0)⟩⟩,
  ⟨9, false, ⟨none, .val 16 (.ixB 5 (.t 15) (.t 8))⟩⟩,
  ⟨10, false, ⟨none, .std (.t 16) 0 17 5 (.t 13)⟩⟩] [.forget [7, 8, 9, 10, 11, 12, 13, 14, 15, 16]]
abbrev zNi : HCode := (.seq zHS (.cond (.t 6) zHT .skip))
abbrev zA6 : Env := { N := 17, Γ := [(17, 5)], L := 22, nfix := 1 }
abbrev zI2 : List RSrc := []
theorem zCd {base : Nat} {av : List AV} {r : RV} (hfo : zAL zA6 base av) (hW : AVs.fits av → hwp Tryz.prog zNi (zDb zA6 base av zI2 r) (F0 zA6 base av)) (hov : ∀ x, r.res = .ov x → zCC av = 0 := by intro x h; cases h <;> rfl) : Contract Tryz.prog zAy av r :=
 contract_of_wp (fn := Tryz.f163) (c := Tryz.f163.body.getD .skip) (by kernel_rfl) (by kernel_rfl) (by kernel_rfl) (by kernel_rfl) (by kernel_rfl) (by kernel_rfl) (by kernel_rfl) hfo hW hov
abbrev zHU : HCode := .reg [⟨none, .val 12 (.mv (.t 2))⟩,
  ⟨none, .val 13 (.ints .gtr (.t 12) (.c (iv 3)))⟩,
  ⟨none, .val 14 (.mv (.t 13))⟩,
  ⟨some (14, false), .val 15 (.mv (.t 1))⟩,
  ⟨some (14, false), .val 16 (.len false (.t 15))⟩,
  ⟨some (14, false), .val 17 (.ints .lss (.t 16) (.c (iv 1)))⟩,
  ⟨none, .val 18 (.pick (.t 14) (.c (bv true)) (.t 17))⟩,
  ⟨none, .val 19 (.mv (.t 18))⟩,
  ⟨some (19, false), .val 20 (.mv (.t 1))⟩,
  ⟨some (19, false), .val 21 (.len false (.t 20))⟩,
  ⟨some (19, false), .val 22 (.ints .gtr (.t 21) (.c (iv 5)))⟩,
  ⟨none, .val 23 (.pick (.t 19) (.c (bv true)) (.t 22))⟩] false [.forget [12, 13, 14, 15, 16, 17, 18, 19, 20, 21, 22]]
abbrev zHV : HCode := .reg [⟨none, .val 24 (.mv (.t 0))⟩,
  ⟨none, .call (some 25) zAy [(.t 24, .i 0 83 5), (.c (bv true), .v), (.c (iv 2), .v)]⟩] false [.forget [24, 25]]
abbrev zHW : HCode := .reg [⟨none, .val 26 (.mv (.t 1))⟩,
  ⟨none, .val 27 (.len false (.t 26))⟩,
  ⟨none, .val 28 (.mv (.c (iv 0)))⟩] false []
abbrev zHX : HCode := .reg [⟨none, .val 29 (.ints .lss (.t 28) (.t 27))⟩] false []
abbrev zHY : HCode := .reg [⟨none, .val 30 (.idxA 2 (.t 26) (.t 28))⟩,
  ⟨none, .val 31 (.ldR (.t 30) 2 true)⟩,
  ⟨none, .alloc 7 1 88 [.nl 2, .nl 1]⟩,
  ⟨none, .sto (.t 7) 1 88 0 2 (.t 31)⟩] false [.frz 1 88 2, .forget [30, 31]]
abbrev zHZ : HCode := .reg [⟨none, .val 32 (.fldR (.t 7) 0 1)⟩,
  ⟨none, .val 33 (.ldR (.t 32) 1 false)⟩,
  ⟨none, .val 34 (.len false (.t 33))⟩,
  ⟨none, .val 35 (.ints .lss (.t 34) (.c (iv 1)))⟩,
  ⟨none, .val 36 (.mv (.t 35))⟩,
  ⟨some (36, false), .val 37 (.fldR (.t 7) 0 1)⟩,
  ⟨some (36, false), .val 38 (.ldR (.t 37) 1 false)⟩,
  ⟨some (36, false), .val 39 (.len false (.t 38))⟩,
  ⟨some (36, false), .val 40 (.ints .gtr (.t 39) (.c (iv 5)))⟩,
  ⟨none, .val 41 (.pick (.t 36) (.c (bv true)) (.t 40))⟩,
  ⟨none, .val 42 (.mv (.t 41))⟩,
  ⟨some (42, false), .val 43 (.fldR (.t 7) 1 1)⟩,
  ⟨some (42, false), .val 44 (.ldR (.t 43) 1 false)⟩,
  ⟨some (42, false), .val 45 (.len false (.t 44))⟩,
  ⟨some (42, false), .val 46 (.fldR (.t 7) 0 1)⟩,
  ⟨some (42, false), .val 47 (.ldR (.t 46) 1 false)⟩,
  ⟨some (42, false), .val 48 (.len false (.t 47))⟩,
  ⟨some (42, false), .val 49 (.ints .sub (.t 48) (.c (iv 1)))⟩,
  ⟨some (42, false), .val 50 (.ints .neq (.t 45) (.t 49))⟩,
  ⟨none, .val 51 (.pick (.t 42) (.c (bv true)) (.t 50))⟩] false [.forget [32, 33, 34, 35, 36, 37, 38, 39, 40, 41, 42, 43, 44, 45, 46, 47, 48, 49, 50]]
abbrev zH0 : HCode := .reg [⟨none, .val 52 (.mv (.t 0))⟩,
  ⟨none, .call (some 53) zAy [(.t 52, .i 0 83 5), (.c (bv true), .v), (.c (iv 2), .v)]⟩] false [.forget [52, 53]]
abbrev zH1 : HCode := .reg [⟨none, .val 54 (.fldR (.t 7) 1 1)⟩,
  ⟨none, .val 55 (.ldR (.t 54) 1 false)⟩,
  ⟨none, .val 56 (.len false (.t 55))⟩,
  ⟨none, .val 57 (.mv (.c (iv 0)))⟩] false [.forget [54]]
abbrev zH2 : HCode := .reg [⟨none, .val 58 (.ints .lss (.t 57) (.t 56))⟩] false []
abbrev zH3 : HCode := .reg [⟨none, .val 59 (.idxA 1 (.t 55) (.t 57))⟩,
  ⟨none, .val 60 (.ldR (.t 59) 1 false)⟩,
  ⟨none, .val 9 (.mv (.t 60))⟩] false [.forget [59, 60]]
abbrev zG4 : HCode := .reg [⟨none, .val 61 (.mv (.t 0))⟩,
  ⟨none, .val 62 (.mv (.t 9))⟩,
  ⟨none, .val 63 (.ints .lss (.t 62) (.c (iv 1)))⟩,
  ⟨none, .val 64 (.mv (.t 63))⟩,
  ⟨some (64, false), .val 65 (.mv (.t 9))⟩,
  ⟨some (64, false), .val 66 (.ints .gtr (.t 65) (.c (iv 4)))⟩,
  ⟨none, .val 67 (.pick (.t 64) (.c (bv true)) (.t 66))⟩,
  ⟨none, .call (some 68) zAy [(.t 61, .i 0 83 5), (.t 67, .v), (.c (iv 4), .v)]⟩] false [.forget [61, 62, 63, 64, 65, 66, 67, 68]]
abbrev zG5 : HCode := .reg [⟨none, .val 69 (.ints .add (.t 57) (.c (iv 1)))⟩,
  ⟨none, .val 57 (.mv (.t 69))⟩] false [.forget [69]]
abbrev zG6 : HCode := .reg [⟨none, .val 70 (.fldR (.t 7) 0 1)⟩,
  ⟨none, .val 71 (.ldR (.t 70) 1 false)⟩,
  ⟨none, .val 72 (.len false (.t 71))⟩,
  ⟨none, .val 73 (.mv (.c (iv 0)))⟩] false [.forget [70]]
abbrev zG7 : HCode := .reg [⟨none, .val 74 (.ints .lss (.t 73) (.t 72))⟩] false []
abbrev zG8 : HCode := .reg [⟨none, .val 75 (.idxA 2 (.t 71) (.t 73))⟩,
  ⟨none, .val 76 (.ldR (.t 75) 2 true)⟩,
  ⟨none, .alloc 11 2 90 [.v (mkS []), .nl 6]⟩,
  ⟨none, .sto (.t 11) 2 90 0 2 (.t 76)⟩] false [.forget [75, 76]]
abbrev zG9 : HCode := .reg [⟨none, .val 77 (.mv (.t 0))⟩,
  ⟨none, .val 78 (.ldB (.t 11) 2 90 0 2 true)⟩,
  ⟨none, .val 79 (.mv (.t 2))⟩,
  ⟨none, .call (some 80) zCc [(.t 77, .i 0 83 5), (.t 78, .v), (.t 79, .v)]⟩] false [.forget [77, 78, 79, 80]]
abbrev zHa : HCode := .reg [⟨none, .val 81 (.ints .add (.t 73) (.c (iv 1)))⟩,
  ⟨none, .val 73 (.mv (.t 81))⟩] false [.forget [81]]
abbrev zHb : HCode := .reg [⟨none, .val 82 (.ints .add (.t 28) (.c (iv 1)))⟩,
  ⟨none, .val 28 (.mv (.t 82))⟩] false [.forget [82]]
abbrev zNj : HCode := (.seq (.seq zHU (.cond (.t 23) (.seq zHV .ret) .skip)) (.seq zHW (.block 0 (.loop (.seq zHX (.seq (.cond (.t 29) .skip (.exit 0)) (.seq (.block 1 (.seq zHY (.seq (.seq zHZ (.cond (.t 51) (.seq zH0 .ret) .skip)) (.seq (.seq zH1 (.block 2 (.loop (.seq zH2 (.seq (.cond (.t 58) .skip (.exit 2)) (.seq (.block 3 (.seq zH3 zG4)) zG5)))))) (.seq zG6 (.block 4 (.loop (.seq zG7 (.seq (.cond (.t 74) .skip (.exit 4)) (.seq (.block 5 (.seq zG8 zG9)) zHa)))))))))) zHb)))))))
abbrev zCu : Env := { N := 83, Γ := [(83, 5), (88, 2), (90, 2)], L := 92, nfix := 1 }
abbrev zI3 : List RSrc := []
theorem zH4 {base : Nat} {av : List AV} {r : RV} (hfo : zAL zCu base av) (hW : AVs.fits av → hwp Tryz.prog zNj (zDb zCu base av zI3 r) (F0 zCu base av)) (hov : ∀ x, r.res = .ov x → zCC av = 0 := by intro x h; cases h <;> rfl) : Contract Tryz.prog zBf av r :=
 contract_of_wp (fn := Tryz.f110) (c := Tryz.f110.body.getD .skip) (by kernel_rfl) (by kernel_rfl) (by kernel_rfl) (by kernel_rfl) (by kernel_rfl) (by kernel_rfl) (by kernel_rfl) hfo hW hov
abbrev zH5 : HCode := .reg [⟨none, .val 4 (.boxF (.t 1))⟩] false []
abbrev zH6 : HCode := .reg [⟨none, .val 10 (.fldR (.t 4) 1 1)⟩,
  ⟨none, .val 11 (.ldR (.t 10) 1 false)⟩,
  ⟨none, .val 12 (.len false (.t 11))⟩,
  ⟨none, .val 13 (.ints .gtr (.t 12) (.c (iv 6)))⟩] false [.forget [10, 11, 12]]
abbrev zH7 : HCode := .reg [⟨none, .val 14 (.mv (.t 0))⟩,
  ⟨none, .call (some 15) zAy [(.t 14, .i 0 121 5), (.c (bv true), .v), (.c (iv 2), .v)]⟩] false [.forget [14, 15]]
abbrev zH8 : HCode := .reg [⟨none, .val 16 (.mv (.t 0))⟩,
  ⟨none, .val 17 (.fldR (.t 4) 0 1)⟩,
  ⟨none, .val 18 (.ldR (.t 17) 1 false)⟩,
  ⟨none, .val 19 (.strs .neq (.t 18) (.c (sv [])))⟩,
  ⟨none, .val 20 (.mv (.t 19))⟩,
  ⟨some (20, true), .val 21 (.fldR (.t 4) 0 1)⟩,
  ⟨some (20, true), .val 22 (.ldR (.t 21) 1 false)⟩,
  ⟨some (20, true), .call (some 23) zFf [(.t 22, .v)]⟩,
  ⟨some (20, true), .val 24 (.not (.t 23))⟩,
  ⟨none, .val 25 (.pick (.t 20) (.t 24) (.c (bv false)))⟩,
  ⟨none, .call (some 26) zAy [(.t 16, .i 0 121 5), (.t 25, .v), (.c (iv 1), .v)]⟩] false [.forget [16, 17, 18, 19, 20, 21, 22, 23, 24, 25, 26]]
abbrev zH9 : HCode := .reg [⟨none, .val 27 (.fldR (.t 4) 1 1)⟩,
  ⟨none, .val 28 (.ldR (.t 27) 1 false)⟩,
  ⟨none, .val 29 (.len false (.t 28))⟩,
  ⟨none, .val 30 (.mv (.c (iv 0)))⟩] false [.forget [27]]
abbrev zIa : HCode := .reg [⟨none, .val 31 (.ints .lss (.t 30) (.t 29))⟩] false []
abbrev zIb : HCode := .reg [⟨none, .val 32 (.idxA 6 (.t 28) (.t 30))⟩,
  ⟨none, .val 33 (.ldR (.t 32) 6 true)⟩,
  ⟨none, .alloc 7 1 126 [.v (.int .i64 0), .v (mkS []), .v (mkS []), .v (.int .i64 0), .v (.int .i64 0), .nl 2]⟩,
  ⟨none, .sto (.t 7) 1 126 0 6 (.t 33)⟩] false [.frz 1 126 6, .forget [32, 33]]
abbrev zIc : HCode := .reg [⟨none, .val 35 (.fldR (.t 7) 0 1)⟩,
  ⟨none, .val 36 (.ldR (.t 35) 1 false)⟩,
  ⟨none, .call (some 37) zF7 [(.t 36, .v)]⟩,
  ⟨none, .val 34 (.mv (.t 37))⟩,
  ⟨none, .val 38 (.ext 34 0)⟩,
  ⟨none, .val 39 (.ext 34 1)⟩,
  ⟨none, .alloc 8 2 132 [.v (.bool false), .v (.bool false), .v (.bool false), .v (.bool false)]⟩,
  ⟨none, .sto (.t 8) 2 132 0 4 (.t 38)⟩,
  ⟨none, .val 9 (.mv (.t 39))⟩] false [.frz 2 132 4, .forget [34, 35, 36, 37, 38, 39]]
abbrev zId : HCode := .reg [⟨none, .val 40 (.mv (.t 0))⟩,
  ⟨none, .val 41 (.mv (.t 9))⟩,
  ⟨none, .val 42 (.not (.t 41))⟩,
  ⟨none, .call (some 43) zAy [(.t 40, .i 0 121 5), (.t 42, .v), (.c (iv 4), .v)]⟩] false [.forget [40, 41, 42, 43]]
abbrev zIe : HCode := .reg [⟨none, .val 44 (.mv (.t 0))⟩,
  ⟨none, .val 45 (.fldR (.t 8) 0 1)⟩,
  ⟨none, .val 46 (.ldR (.t 45) 1 false)⟩,
  ⟨none, .val 47 (.mv (.t 46))⟩,
  ⟨some (47, true), .val 48 (.fldR (.t 7) 1 1)⟩,
  ⟨some (47, true), .val 49 (.ldR (.t 48) 1 false)⟩,
  ⟨some (47, true), .call (some 50) zFf [(.t 49, .v)]⟩,
  ⟨some (47, true), .val 51 (.not (.t 50))⟩,
  ⟨none, .val 52 (.pick (.t 47) (.t 51) (.c (bv false)))⟩,
  ⟨none, .val 53 (.mv (.t 52))⟩,
  ⟨some (53, false), .val 54 (.fldR (.t 8) 0 1)⟩,
  ⟨some (53, false), .val 55 (.ldR (.t 54) 1 false)⟩,
  ⟨some (53, false), .val 56 (.not (.t 55))⟩,
  ⟨some (53, false), .val 57 (.mv (.t 56))⟩,
  ⟨some (57, true), .val 58 (.fldR (.t 7) 1 1)⟩,
  ⟨some (57, true), .val 59 (.ldR (.t 58) 1 false)⟩,
  ⟨some (57, true), .val 60 (.strs .neq (.t 59) (.c (sv [])))⟩,
  ⟨some (53, false), .val 61 (.pick (.t 57) (.t 60) (.c (bv false)))⟩,
  ⟨none, .val 62 (.pick (.t 53) (.c (bv true)) (.t 61))⟩,
  ⟨none, .call (some 63) zAy [(.t 44, .i 0 121 5), (.t 62, .v), (.c (iv 1), .v)]⟩] false [.forget [44, 45, 46, 47, 48, 49, 50, 51, 52, 53, 54, 55, 56, 57, 58, 59, 60, 61, 62, 63]]
abbrev zHc : HCode := .reg [⟨none, .val 64 (.mv (.t 0))⟩,
  ⟨none, .val 65 (.fldR (.t 8) 1 1)⟩,
  ⟨none, .val 66 (.ldR (.t 65) 1 false)⟩,
  ⟨none, .val 67 (.mv (.t 66))⟩,
  ⟨some (67, true), .val 68 (.fldR (.t 7) 2 1)⟩,
  ⟨some (67, true), .val 69 (.ldR (.t 68) 1 false)⟩,
  ⟨some (67, true), .call (some 70) zFP [(.t 69, .v)]⟩,
  ⟨some (67, true), .val 71 (.not (.t 70))⟩,
  ⟨none, .val 72 (.pick (.t 67) (.t 71) (.c (bv false)))⟩,
  ⟨none, .val 73 (.mv (.t 72))⟩,
  ⟨some (73, false), .val 74 (.fldR (.t 8) 1 1)⟩,
  ⟨some (73, false), .val 75 (.ldR (.t 74) 1 false)⟩,
  ⟨some (73, false), .val 76 (.not (.t 75))⟩,
  ⟨some (73, false), .val 77 (.mv (.t 76))⟩,
  ⟨some (77, true), .val 78 (.fldR (.t 7) 2 1)⟩,
  ⟨some (77, true), .val 79 (.ldR (.t 78) 1 false)⟩,
  ⟨some (77, true), .val 80 (.strs .neq (.t 79) (.c (sv [])))⟩,
  ⟨some (73, false), .val 81 (.pick (.t 77) (.t 80) (.c (bv false)))⟩,
  ⟨none, .val 82 (.pick (.t 73) (.c (bv true)) (.t 81))⟩,
  ⟨none, .call (some 83) zAy [(.t 64, .i 0 121 5), (.t 82, .v), (.c (iv 1), .v)]⟩] false [.forget [64, 65, 66, 67, 68, 69, 70, 71, 72, 73, 74, 75, 76, 77, 78, 79, 80, 81, 82, 83]]
abbrev zHd : HCode := .reg [⟨none, .val 84 (.mv (.t 0))⟩,
  ⟨none, .val 85 (.fldR (.t 8) 2 1)⟩,
  ⟨none, .val 86 (.ldR (.t 85) 1 false)⟩,
  ⟨none, .val 87 (.not (.t 86))⟩,
  ⟨none, .val 88 (.mv (.t 87))⟩,
  ⟨some (88, true), .val 89 (.fldR (.t 7) 3 2)⟩,
  ⟨some (88, true), .val 90 (.ldR (.t 89) 2 true)⟩,
  ⟨some (88, true), .val 91 (.bld [.v (.int .i64 0), .v (.int .i64 0)] [])⟩,
  ⟨some (88, true), .val 92 (.steq true [0, 0] (.t 90) (.t 91))⟩,
  ⟨none, .val 93 (.pick (.t 88) (.t 92) (.c (bv false)))⟩,
  ⟨none, .val 94 (.mv (.t 93))⟩,
  ⟨some (94, false), .val 95 (.fldR (.t 8) 3 1)⟩,
  ⟨some (94, false), .val 96 (.ldR (.t 95) 1 false)⟩,
  ⟨some (94, false), .val 97 (.not (.t 96))⟩,
  ⟨some (94, false), .val 98 (.mv (.t 97))⟩,
  ⟨some (98, true), .val 99 (.fldR (.t 7) 5 1)⟩,
  ⟨some (98, true), .val 100 (.ldR (.t 99) 1 false)⟩,
  ⟨some (98, true), .val 101 (.len false (.t 100))⟩,
  ⟨some (98, true), .val 102 (.ints .gtr (.t 101) (.c (iv 0)))⟩,
  ⟨some (94, false), .val 103 (.pick (.t 98) (.t 102) (.c (bv false)))⟩,
  ⟨none, .val 104 (.pick (.t 94) (.c (bv true)) (.t 103))⟩,
  ⟨none, .call (some 105) zAy [(.t 84, .i 0 121 5), (.t 104, .v), (.c (iv 1), .v)]⟩] false [.forget [84, 85, 86, 87, 88, 89, 90, 91, 92, 93, 94, 95, 96, 97, 98, 99, 100, 101, 102, 103, 104, 105]]
abbrev zHe : HCode := .reg [⟨none, .val 106 (.mv (.t 0))⟩,
  ⟨none, .val 107 (.fldR (.t 7) 3 2)⟩,
  ⟨none, .val 108 (.ldR (.t 107) 2 true)⟩,
  ⟨none, .call (some 109) zEn [(.t 108, .v)]⟩,
  ⟨none, .val 110 (.ints .neq (.t 109) (.c (iv 0)))⟩,
  ⟨none, .call (some 111) zAy [(.t 106, .i 0 121 5), (.t 110, .v), (.c (iv 3), .v)]⟩] false [.forget [106, 107, 108, 109, 110, 111]]
abbrev zHf : HCode := .reg [⟨none, .val 112 (.fldR (.t 8) 3 1)⟩,
  ⟨none, .val 113 (.ldR (.t 112) 1 false)⟩] false [.forget [112]]
abbrev zHg : HCode := .reg [⟨none, .val 114 (.mv (.t 0))⟩,
  ⟨none, .val 115 (.fldR (.t 7) 5 1)⟩,
  ⟨none, .val 116 (.ldR (.t 115) 1 false)⟩,
  ⟨none, .val 117 (.mv (.t 2))⟩,
  ⟨none, .val 118 (.ints .add (.t 117) (.c (iv 1)))⟩,
  ⟨none, .call (some 119) zBf [(.t 114, .i 0 121 5), (.t 116, .v), (.t 118, .v)]⟩] false [.forget [114, 115, 116, 117, 118, 119]]
abbrev zHh : HCode := .reg [⟨none, .val 120 (.ints .add (.t 30) (.c (iv 1)))⟩,
  ⟨none, .val 30 (.mv (.t 120))⟩] false [.forget [120]]
abbrev zNk : HCode := (.seq zH5 (.seq (.seq zH6 (.cond (.t 13) (.seq zH7 .ret) .skip)) (.seq zH8 (.seq zH9 (.block 0 (.loop (.seq zIa (.seq (.cond (.t 31) .skip (.exit 0)) (.seq (.block 1 (.seq zIb (.seq zIc (.seq zId (.seq zIe (.seq zHc (.seq zHd (.seq zHe (.seq zHf (.cond (.t 113) zHg .skip)))))))))) zHh)))))))))
abbrev zCv : Env := { N := 121, Γ := [(121, 5), (126, 6), (132, 4)], L := 136, nfix := 1 }
abbrev zI4 : List RSrc := []
theorem zIf {base : Nat} {av : List AV} {r : RV} (hfo : zAL zCv base av) (hW : AVs.fits av → hwp Tryz.prog zNk (zDb zCv base av zI4 r) (F0 zCv base av)) (hov : ∀ x, r.res = .ov x → zCC av = 0 := by intro x h; cases h <;> rfl) : Contract Tryz.prog zCc av r :=
 contract_of_wp (fn := Tryz.f164) (c := Tryz.f164.body.getD .skip) (by kernel_rfl) (by kernel_rfl) (by kernel_rfl) (by kernel_rfl) (by kernel_rfl) (by kernel_rfl) (by kernel_rfl) hfo hW hov
abbrev zO2 : HCode := .reg [⟨none, .val 2 (.mv (.c (iv 0)))⟩] false []
abbrev zO3 : HCode := .reg [⟨none, .val 6 (.bld [.v (.int .i64 0), .v (.int .i64 0), .v (.int .i64 0), .v (.int .i64 0), .v (.int .i64 0)] [])⟩,
  ⟨none, .box 7 0 24 5 (.t 6)⟩,
  ⟨none, .val 3 (.mv (.t 7))⟩] false [.forget [6, 7]]
abbrev zO4 : HCode := .reg [⟨none, .val 8 (.mv (.t 3))⟩,
  ⟨none, .val 9 (.mv (.t 0))⟩,
  ⟨none, .call (some 10) zBf [(.t 8, .i 0 24 5), (.t 9, .v), (.c (iv 1), .v)]⟩] false [.forget [8, 9, 10]]
abbrev zO5 : HCode := .reg [⟨none, .call (some 11) zFh []⟩,
  ⟨none, .val 12 (.mv (.c (iv 0)))⟩] false []
abbrev zO6 : HCode := .reg [⟨none, .val 13 (.ints .lss (.t 12) (.c (iv 4)))⟩] false []
abbrev zO7 : HCode := .reg [⟨none, .val 14 (.idxV 4 (.t 11) (.t 12))⟩,
  ⟨none, .val 5 (.mv (.t 14))⟩] false [.forget [14]]
abbrev zO8 : HCode := .reg [⟨none, .val 15 (.mv (.t 3))⟩,
  ⟨none, .val 16 (.mv (.t 5))⟩,
  ⟨none, .val 17 (.nilck (.t 15))⟩,
  ⟨none, .val 18 (.fldP (.t 17) 0)⟩,
  ⟨none, .val 19 (.ixB 5 (.t 18) (.t 16))⟩,
  ⟨none, .val 20 (.ldD (.t 19) 0 24 5)⟩,
  ⟨none, .val 21 (.ints .gtr (.t 20) (.c (iv 0)))⟩] false [.forget [15, 16, 17, 18, 19, 20]]
abbrev zO9 : HCode := .reg [⟨none, .val 22 (.mv (.t 5))⟩,
  ⟨none, .val 2 (.mv (.t 22))⟩] false [.forget [22]]
abbrev zPa : HCode := .reg [⟨none, .val 23 (.ints .add (.t 12) (.c (iv 1)))⟩,
  ⟨none, .val 12 (.mv (.t 23))⟩] false [.forget [23]]
abbrev zPb : HCode := .reg [⟨none, .val 2 (.mv (.c (iv 0)))⟩] false []
abbrev zVB : HCode := (.seq zO2 (.seq zO3 (.seq zO4 (.seq (.seq zO5 (.block 0 (.loop (.seq zO6 (.seq (.cond (.t 13) .skip (.exit 0)) (.seq (.block 1 (.seq zO7 (.seq zO8 (.cond (.t 21) (.seq zO9 .ret) .skip)))) zPa)))))) (.seq zPb .ret)))))
abbrev zEq : Env := { N := 24, Γ := [(24, 5)], L := 29, nfix := 0 }
abbrev zRf : List RSrc := [.tmp 2]
theorem zPc {base : Nat} {av : List AV} {r : RV} (hfo : zAL zEq base av) (hW : AVs.fits av → hwp Tryz.prog zVB (zDb zEq base av zRf r) (F0 zEq base av)) (hov : ∀ x, r.res = .ov x → zCC av = 0 := by intro x h; cases h <;> rfl) : Contract Tryz.prog zBJ av r :=
 contract_of_wp (fn := Tryz.f54) (c := Tryz.f54.body.getD .skip) (by kernel_rfl) (by kernel_rfl) (by kernel_rfl) (by kernel_rfl) (by kernel_rfl) (by kernel_rfl) (by kernel_rfl) hfo hW hov
end Go.Hx
end

section
/-
 The abstract code of functions of the program, printed by gen.py; each stands for the given one. No condition.
-/
namespace Go.Hx
open Go.Proofs
variable [Glob]
abbrev zDE : Nat := 155
abbrev zCU : Nat := 253
abbrev zDx : Nat := 49
abbrev zDQ : Nat := 154
abbrev zB1 : Nat := 105
abbrev zDo : Nat := 208
abbrev zDF : Nat := 250
abbrev zAP : Nat := 160
abbrev zAR : Nat := 214
abbrev zA7 : Nat := 108
abbrev zA8 : Nat := 215
abbrev zBo : Nat := 159
abbrev zBN : Nat := 216
abbrev zBO : Nat := 252
abbrev zEr : Nat := 209
abbrev zEs : Nat := 156
abbrev zCV : Nat := 210
abbrev zCn : Nat := 212
abbrev zAO : Nat := 211
abbrev zCl : Nat := 217
abbrev zD6 : Nat := 157
abbrev zCD : Nat := 249
abbrev zB2 : Nat := 78
abbrev zFi : Nat := 81
abbrev zFj : Nat := 85
abbrev zBy : Nat := 155
abbrev zAT : Nat := 258
abbrev zFk : Nat := 5
abbrev zLT : HCode := .reg [⟨none, .val 4 (.mv (.c (bv false)))⟩] false []
abbrev zLU : HCode := .reg [⟨none, .val 8 (.mv (.t 0))⟩,
  ⟨none, .val 9 (.nilck (.t 8))⟩,
  ⟨none, .val 10 (.fldP (.t 9) 0)⟩,
  ⟨none, .val 11 (.ldB (.t 10) 0 21 0 1 false)⟩,
  ⟨none, .val 12 (.mv (.t 1))⟩,
  ⟨none, .call (some 13) zCl [(.t 11, .v), (.t 12, .v)]⟩,
  ⟨none, .val 7 (.mv (.t 13))⟩,
  ⟨none, .val 14 (.ext 7 0)⟩,
  ⟨none, .val 15 (.ext 7 1)⟩,
  ⟨none, .val 5 (.mv (.t 14))⟩,
  ⟨none, .val 6 (.mv (.t 15))⟩] false [.forget [7, 8, 9, 10, 11, 12, 13, 14, 15]]
abbrev zLV : HCode := .reg [⟨none, .val 16 (.mv (.t 0))⟩,
  ⟨none, .val 17 (.mv (.t 5))⟩,
  ⟨none, .val 18 (.nilck (.t 16))⟩,
  ⟨none, .val 19 (.fldP (.t 18) 0)⟩,
  ⟨none, .sto (.t 19) 0 21 0 1 (.t 17)⟩] false [.forget [16, 17, 18, 19]]
abbrev zLW : HCode := .reg [⟨none, .val 20 (.mv (.t 6))⟩,
  ⟨none, .val 4 (.mv (.t 20))⟩] false [.forget [20]]
abbrev zRg : HCode := (.seq zLT (.seq zLU (.seq zLV (.seq zLW .ret))))
abbrev zDp : Env := { N := 21, Γ := [(21, 1)], L := 22, nfix := 1 }
abbrev zNl : List RSrc := [.tmp 4]
theorem zLX {base : Nat} {av : List AV} {r : RV} (hfo : zAL zDp base av) (hW : AVs.fits av → hwp Tryz.prog zRg (zDb zDp base av zNl r) (F0 zDp base av)) (hov : ∀ x, r.res = .ov x → zCC av = 0 := by intro x h; cases h <;> rfl) : Contract Tryz.prog zAP av r :=
 contract_of_wp (fn := Tryz.f160) (c := Tryz.f160.body.getD .skip) (by kernel_rfl) (by kernel_rfl) (by kernel_rfl) (by kernel_rfl) (by kernel_rfl) (by kernel_rfl) (by kernel_rfl) hfo hW hov
abbrev zI5 : HCode := .reg [⟨none, .val 4 (.mv (.t 0))⟩,
  ⟨none, .val 5 (.mv (.t 1))⟩,
  ⟨none, .call (some 6) zAP [(.t 4, .i 0 10 1), (.t 5, .v)]⟩,
  ⟨none, .val 7 (.not (.t 6))⟩] false [.forget [4, 5, 6]]
abbrev zI6 : HCode := .reg [⟨none, .val 8 (.bld [] [])⟩,
  ⟨none, .val 9 (.mki zBy (.t 8))⟩,
  ⟨none, .pan (.t 9)⟩] false [.forget [8, 9]]
abbrev zPd : HCode := (.seq zI5 (.cond (.t 7) zI6 .skip))
abbrev zB3 : Env := { N := 10, Γ := [(10, 1)], L := 11, nfix := 1 }
abbrev zLY : List RSrc := []
theorem zFC {base : Nat} {av : List AV} {r : RV} (hfo : zAL zB3 base av) (hW : AVs.fits av → hwp Tryz.prog zPd (zDb zB3 base av zLY r) (F0 zB3 base av)) (hov : ∀ x, r.res = .ov x → zCC av = 0 := by intro x h; cases h <;> rfl) : Contract Tryz.prog zA8 av r :=
 contract_of_wp (fn := Tryz.f215) (c := Tryz.f215.body.getD .skip) (by kernel_rfl) (by kernel_rfl) (by kernel_rfl) (by kernel_rfl) (by kernel_rfl) (by kernel_rfl) (by kernel_rfl) hfo hW hov
abbrev zI7 : HCode := .reg [⟨none, .val 4 (.mv (.c (sv [])))⟩] false []
abbrev zI8 : HCode := .reg [⟨none, .val 9 (.mv (.t 0))⟩,
  ⟨none, .val 10 (.nilck (.t 9))⟩,
  ⟨none, .val 11 (.fldP (.t 10) 0)⟩,
  ⟨none, .val 12 (.ldB (.t 11) 0 27 0 1 false)⟩,
  ⟨none, .val 13 (.mv (.t 1))⟩,
  ⟨none, .call (some 14) zBR [(.t 12, .v), (.t 13, .v)]⟩,
  ⟨none, .val 8 (.mv (.t 14))⟩,
  ⟨none, .val 15 (.ext 8 0)⟩,
  ⟨none, .val 16 (.ext 8 1)⟩,
  ⟨none, .val 17 (.ext 8 2)⟩,
  ⟨none, .val 5 (.mv (.t 15))⟩,
  ⟨none, .val 6 (.mv (.t 16))⟩,
  ⟨none, .val 7 (.mv (.t 17))⟩] false [.forget [8, 9, 10, 11, 12, 13, 14, 15, 16, 17]]
abbrev zI9 : HCode := .reg [⟨none, .val 18 (.mv (.t 7))⟩,
  ⟨none, .val 19 (.not (.t 18))⟩] false [.forget [18]]
abbrev zJa : HCode := .reg [⟨none, .val 20 (.bld [] [])⟩,
  ⟨none, .val 21 (.mki zBy (.t 20))⟩,
  ⟨none, .pan (.t 21)⟩] false [.forget [20, 21]]
abbrev zJb : HCode := .reg [⟨none, .val 22 (.mv (.t 0))⟩,
  ⟨none, .val 23 (.mv (.t 6))⟩,
  ⟨none, .val 24 (.nilck (.t 22))⟩,
  ⟨none, .val 25 (.fldP (.t 24) 0)⟩,
  ⟨none, .sto (.t 25) 0 27 0 1 (.t 23)⟩] false [.forget [22, 23, 24, 25]]
abbrev zJc : HCode := .reg [⟨none, .val 26 (.mv (.t 5))⟩,
  ⟨none, .val 4 (.mv (.t 26))⟩] false [.forget [26]]
abbrev zPe : HCode := (.seq zI7 (.seq zI8 (.seq (.seq zI9 (.cond (.t 19) zJa .skip)) (.seq zJb (.seq zJc .ret)))))
abbrev zB4 : Env := { N := 27, Γ := [(27, 1)], L := 28, nfix := 1 }
abbrev zLZ : List RSrc := [.tmp 4]
theorem zFD {base : Nat} {av : List AV} {r : RV} (hfo : zAL zB4 base av) (hW : AVs.fits av → hwp Tryz.prog zPe (zDb zB4 base av zLZ r) (F0 zB4 base av)) (hov : ∀ x, r.res = .ov x → zCC av = 0 := by intro x h; cases h <;> rfl) : Contract Tryz.prog zBO av r :=
 contract_of_wp (fn := Tryz.f252) (c := Tryz.f252.body.getD .skip) (by kernel_rfl) (by kernel_rfl) (by kernel_rfl) (by kernel_rfl) (by kernel_rfl) (by kernel_rfl) (by kernel_rfl) hfo hW hov
abbrev zGv : HCode := .reg [⟨none, .val 2 (.mv (.c (sv [])))⟩] false []
abbrev zGw : HCode := .drg [⟨0, false, ⟨none, .val 5 (.mv (.t 0))⟩⟩,
  ⟨1, false, ⟨none, .val 6 (.nilck (.t 5))⟩⟩,
  ⟨2, false, ⟨none, .val 7 (.fldP (.t 6) 0)⟩⟩,
  ⟨3, false, ⟨none, .val 8 (.ldB (.t 7) 0 33 0 1 false)⟩⟩,
  ⟨4, false, ⟨none, .val 9 (.len true (.t 8))⟩⟩,
  ⟨5, false, ⟨none, .val 10 (.mv (.t 0))⟩⟩,
  ⟨6, false, ⟨none, .val 11 (.nilck (.t 10))⟩⟩,
  ⟨7, false, ⟨none, .val 12 (.fldP (.t 11) 0)⟩⟩,
  ⟨8, false, ⟨none, .val 13 (.ldB (.t 12) 0 33 0 1 false)⟩⟩,
  ⟨9, true, ⟨none, .call (some 14) zCD [(.t 13, .v), (.c (sv [97, 98, 99, 100, 101, 102, 103, 104, 105, 106, 107, 108, 109, 110, 111, 112, 113, 114, 115, 116, 117, 118, 119, 120, 121, 122, 48, 49, 50, 51, 52, 53, 54, 55, 56, 57, 45]), .v)]⟩⟩,
  ⟨10, false, ⟨none, .val 15 (.len true (.t 14))⟩⟩,
  ⟨11, false, ⟨none, .val 16 (.ints .sub (.t 9) (.t 15))⟩⟩,
  ⟨12, false, ⟨none, .val 3 (.mv (.t 16))⟩⟩] [.forget [5, 6, 7, 8, 9, 10, 11, 12, 13, 14, 15, 16]]
abbrev zGx : HCode := .reg [⟨none, .val 17 (.mv (.t 0))⟩,
  ⟨none, .val 18 (.nilck (.t 17))⟩,
  ⟨none, .val 19 (.fldP (.t 18) 0)⟩,
  ⟨none, .val 20 (.ldB (.t 19) 0 33 0 1 false)⟩,
  ⟨none, .val 21 (.mv (.t 3))⟩,
  ⟨none, .val 22 (.sls (.t 20) none (some (.t 21)))⟩,
  ⟨none, .val 4 (.mv (.t 22))⟩] false [.forget [17, 18, 19, 20, 21, 22]]
abbrev zGy : HCode := .reg [⟨none, .val 23 (.mv (.t 0))⟩,
  ⟨none, .val 24 (.mv (.t 0))⟩,
  ⟨none, .val 25 (.nilck (.t 24))⟩,
  ⟨none, .val 26 (.fldP (.t 25) 0)⟩,
  ⟨none, .val 27 (.ldB (.t 26) 0 33 0 1 false)⟩,
  ⟨none, .val 28 (.mv (.t 3))⟩,
  ⟨none, .val 29 (.sls (.t 27) (some (.t 28)) none)⟩,
  ⟨none, .val 30 (.nilck (.t 23))⟩,
  ⟨none, .val 31 (.fldP (.t 30) 0)⟩,
  ⟨none, .sto (.t 31) 0 33 0 1 (.t 29)⟩] false [.forget [23, 24, 25, 26, 27, 28, 29, 30, 31]]
abbrev zGz : HCode := .reg [⟨none, .val 32 (.mv (.t 4))⟩,
  ⟨none, .val 2 (.mv (.t 32))⟩] false [.forget [32]]
abbrev zJd : HCode := (.seq zGv (.seq zGw (.seq zGx (.seq zGy (.seq zGz .ret)))))
abbrev zBX : Env := { N := 33, Γ := [(33, 1)], L := 34, nfix := 1 }
abbrev zHi : List RSrc := [.tmp 2]
theorem zGA {base : Nat} {av : List AV} {r : RV} (hfo : zAL zBX base av) (hW : AVs.fits av → hwp Tryz.prog zJd (zDb zBX base av zHi r) (F0 zBX base av)) (hov : ∀ x, r.res = .ov x → zCC av = 0 := by intro x h; cases h <;> rfl) : Contract Tryz.prog zAR av r :=
 contract_of_wp (fn := Tryz.f214) (c := Tryz.f214.body.getD .skip) (by kernel_rfl) (by kernel_rfl) (by kernel_rfl) (by kernel_rfl) (by kernel_rfl) (by kernel_rfl) (by kernel_rfl) hfo hW hov
abbrev zRh : HCode := .reg [⟨none, .val 2 (.mv (.c (sv [])))⟩] false []
abbrev zRi : HCode := .reg [⟨none, .val 3 (.bld [.v (mkS []), .v (mkS []), .v (mkS []), .v (mkS []), .v (mkS [])] [(0, 1, .c (sv [61])), (1, 1, .c (sv [94, 61])), (2, 1, .c (sv [36, 61])), (3, 1, .c (sv [42, 61])), (4, 1, .c (sv [126, 61]))])⟩,
  ⟨none, .val 4 (.mv (.t 0))⟩,
  ⟨none, .val 5 (.ints .sub (.t 4) (.c (iv 4)))⟩,
  ⟨none, .val 6 (.idxV 5 (.t 3) (.t 5))⟩,
  ⟨none, .val 2 (.mv (.t 6))⟩] false [.forget [3, 4, 5, 6]]
abbrev zWG : HCode := (.seq zRh (.seq zRi .ret))
abbrev zFl : Env := { N := 7, Γ := [], L := 7, nfix := 0 }
abbrev zTF : List RSrc := [.tmp 2]
theorem zRj {base : Nat} {av : List AV} {r : RV} (hfo : zAL zFl base av) (hW : AVs.fits av → hwp Tryz.prog zWG (zDb zFl base av zTF r) (F0 zFl base av)) (hov : ∀ x, r.res = .ov x → zCC av = 0 := by intro x h; cases h <;> rfl) : Contract Tryz.prog zEr av r :=
 contract_of_wp (fn := Tryz.f209) (c := Tryz.f209.body.getD .skip) (by kernel_rfl) (by kernel_rfl) (by kernel_rfl) (by kernel_rfl) (by kernel_rfl) (by kernel_rfl) (by kernel_rfl) hfo hW hov
abbrev zPf : HCode := .reg [⟨none, .alloc 0 0 2 [.v (mkS []), .v (mkS []), .v (mkS []), .v (mkS []), .v (mkS [])]⟩] false []
abbrev zPg : HCode := .reg [⟨none, .val 1 (.bld [.v (mkS []), .v (mkS []), .v (mkS []), .v (mkS []), .v (mkS [])] [(0, 1, .c (sv [])), (1, 1, .c (sv [32])), (2, 1, .c (sv [32, 62, 32])), (3, 1, .c (sv [32, 43, 32])), (4, 1, .c (sv [32, 126, 32]))])⟩,
  ⟨none, .sto (.t 0) 0 2 0 5 (.t 1)⟩] false [.forget [1]]
abbrev zVC : HCode := (.seq zPf (.seq zPg .ret))
abbrev zEt : Env := { N := 2, Γ := [(2, 5)], L := 7, nfix := 0 }
abbrev zRk : List RSrc := [.cellB 0 0 2 0 5 true]
theorem zPh {base : Nat} {av : List AV} {r : RV} (hfo : zAL zEt base av) (hW : AVs.fits av → hwp Tryz.prog zVC (zDb zEt base av zRk r) (F0 zEt base av)) (hov : ∀ x, r.res = .ov x → zCC av = 0 := by intro x h; cases h <;> rfl) : Contract Tryz.prog zDQ av r :=
 contract_of_wp (fn := Tryz.f154) (c := Tryz.f154.body.getD .skip) (by kernel_rfl) (by kernel_rfl) (by kernel_rfl) (by kernel_rfl) (by kernel_rfl) (by kernel_rfl) (by kernel_rfl) hfo hW hov
abbrev zNm : HCode := .reg [⟨none, .val 2 (.mv (.c (sv [])))⟩] false []
abbrev zNn : HCode := .reg [⟨none, .val 3 (.mv (.t 0))⟩] false []
abbrev zNo : HCode := .reg [⟨none, .val 5 (.ints .eql (.t 3) (.c (iv 9)))⟩,
  ⟨none, .val 4 (.mv (.t 5))⟩] false [.forget [5]]
abbrev zNp : HCode := .reg [⟨none, .val 2 (.mv (.c (sv [58, 110, 116, 104, 40])))⟩] false []
abbrev zNq : HCode := .reg [⟨none, .val 7 (.ints .eql (.t 3) (.c (iv 10)))⟩,
  ⟨none, .val 6 (.mv (.t 7))⟩] false [.forget [7]]
abbrev zNr : HCode := .reg [⟨none, .val 2 (.mv (.c (sv [58, 108, 97, 115, 116, 40])))⟩] false []
abbrev zNs : HCode := .reg [⟨none, .val 9 (.ints .eql (.t 3) (.c (iv 13)))⟩,
  ⟨none, .val 8 (.mv (.t 9))⟩] false [.forget [9]]
abbrev zNt : HCode := .reg [⟨none, .val 2 (.mv (.c (sv [58, 110, 111, 116, 40])))⟩] false []
abbrev zNu : HCode := .reg [⟨none, .val 11 (.ints .eql (.t 3) (.c (iv 14)))⟩,
  ⟨none, .val 10 (.mv (.t 11))⟩] false [.forget [11]]
abbrev zNv : HCode := .reg [⟨none, .val 2 (.mv (.c (sv [58, 105, 115, 40])))⟩] false []
abbrev zL0 : HCode := .reg [⟨none, .val 2 (.mv (.c (sv [58, 104, 97, 115, 40])))⟩] false []
abbrev zTG : HCode := (.seq zNm (.seq (.seq zNn (.block 0 (.seq zNo (.cond (.t 4) (.seq zNp .ret) (.seq zNq (.cond (.t 6) (.seq zNr .ret) (.seq zNs (.cond (.t 8) (.seq zNt .ret) (.seq zNu (.cond (.t 10) (.seq zNv .ret) .skip)))))))))) (.seq zL0 .ret)))
abbrev zBt : Env := { N := 12, Γ := [], L := 12, nfix := 0 }
abbrev zPi : List RSrc := [.tmp 2]
theorem zCo {base : Nat} {av : List AV} {r : RV} (hfo : zAL zBt base av) (hW : AVs.fits av → hwp Tryz.prog zTG (zDb zBt base av zPi r) (F0 zBt base av)) (hov : ∀ x, r.res = .ov x → zCC av = 0 := by intro x h; cases h <;> rfl) : Contract Tryz.prog zDo av r :=
 contract_of_wp (fn := Tryz.f208) (c := Tryz.f208.body.getD .skip) (by kernel_rfl) (by kernel_rfl) (by kernel_rfl) (by kernel_rfl) (by kernel_rfl) (by kernel_rfl) (by kernel_rfl) hfo hW hov
abbrev zJe : HCode := .reg [⟨none, .alloc 2 1 26 [.v (.int .i64 0), .v (mkS []), .v (mkS []), .v (.int .i64 0), .v (.int .i64 0), .nl 2]⟩] false []
abbrev zJf : HCode := .reg [⟨none, .val 5 (.mv (.t 0))⟩,
  ⟨none, .call (some 6) zAR [(.t 5, .i 0 25 1)]⟩,
  ⟨none, .val 7 (.bld [.v (.int .i64 0), .v (mkS []), .v (mkS []), .v (.int .i64 0), .v (.int .i64 0), .nl 2] [(0, 1, .c (iv 3)), (1, 1, .t 6)])⟩,
  ⟨none, .alloc 3 2 32 [.v (.int .i64 0), .v (mkS []), .v (mkS []), .v (.int .i64 0), .v (.int .i64 0), .nl 2]⟩,
  ⟨none, .sto (.t 3) 2 32 0 6 (.t 7)⟩] false [.forget [5, 6, 7]]
abbrev zJg : HCode := .reg [⟨none, .val 4 (.mv (.c (iv 4)))⟩] false []
abbrev zJh : HCode := .reg [⟨none, .val 8 (.mv (.t 4))⟩,
  ⟨none, .val 9 (.ints .leq (.t 8) (.c (iv 8)))⟩] false [.forget [8]]
abbrev zJi : HCode := .reg [⟨none, .val 12 (.mv (.t 0))⟩,
  ⟨none, .val 13 (.mv (.t 4))⟩,
  ⟨none, .call (some 14) zEr [(.t 13, .v)]⟩,
  ⟨none, .val 15 (.strs .add (.t 14) (.c (sv [34])))⟩,
  ⟨none, .call (some 16) zAP [(.t 12, .i 0 25 1), (.t 15, .v)]⟩] false [.forget [12, 13, 14, 15]]
abbrev zJj : HCode := .reg [⟨none, .val 17 (.mv (.t 4))⟩,
  ⟨none, .val 18 (.mv (.t 0))⟩,
  ⟨none, .call (some 19) zBO [(.t 18, .i 0 25 1), (.c (sv [34]), .v)]⟩,
  ⟨none, .val 20 (.fldP (.t 3) 0)⟩,
  ⟨none, .sto (.t 20) 2 32 0 1 (.t 17)⟩,
  ⟨none, .val 21 (.fldP (.t 3) 2)⟩,
  ⟨none, .sto (.t 21) 2 32 2 1 (.t 19)⟩] false [.forget [17, 18, 19, 20, 21]]
abbrev zJk : HCode := .reg [⟨none, .val 10 (.mv (.t 4))⟩,
  ⟨none, .val 11 (.ints .add (.t 10) (.c (iv 1)))⟩,
  ⟨none, .val 4 (.mv (.t 11))⟩] false [.forget [10, 11]]
abbrev zJl : HCode := .reg [⟨none, .val 22 (.mv (.t 0))⟩,
  ⟨none, .call (some 23) zA8 [(.t 22, .i 0 25 1), (.c (sv [93]), .v)]⟩] false [.forget [22, 23]]
abbrev zJm : HCode := .reg [⟨none, .val 24 (.ldB (.t 3) 2 32 0 6 true)⟩,
  ⟨none, .sto (.t 2) 1 26 0 6 (.t 24)⟩] false [.forget [24]]
abbrev zPj : HCode := (.seq zJe (.seq zJf (.seq (.seq zJg (.block 0 (.loop (.seq (.seq zJh (.cond (.t 9) .skip (.exit 0))) (.seq (.block 1 (.seq zJi (.cond (.t 16) (.seq zJj (.exit 0)) .skip))) zJk))))) (.seq zJl (.seq zJm .ret)))))
abbrev zCW : Env := { N := 25, Γ := [(25, 1), (26, 6), (32, 6)], L := 38, nfix := 1 }
abbrev zL1 : List RSrc := [.cellB 2 1 26 0 6 true]
theorem zJn {base : Nat} {av : List AV} {r : RV} (hfo : zAL zCW base av) (hW : AVs.fits av → hwp Tryz.prog zPj (zDb zCW base av zL1 r) (F0 zCW base av)) (hov : ∀ x, r.res = .ov x → zCC av = 0 := by intro x h; cases h <;> rfl) : Contract Tryz.prog zDF av r :=
 contract_of_wp (fn := Tryz.f250) (c := Tryz.f250.body.getD .skip) (by kernel_rfl) (by kernel_rfl) (by kernel_rfl) (by kernel_rfl) (by kernel_rfl) (by kernel_rfl) (by kernel_rfl) hfo hW hov
abbrev zJo : HCode := .reg [⟨none, .alloc 4 1 88 [.v (.int .i64 0), .v (mkS []), .v (mkS []), .v (.int .i64 0), .v (.int .i64 0), .nl 2]⟩,
  ⟨none, .val 5 (.mv (.c (bv false)))⟩] false []
abbrev zJp : HCode := .reg [⟨none, .val 14 (.mv (.t 0))⟩,
  ⟨none, .call (some 15) zAP [(.t 14, .i 0 87 1), (.c (sv [46]), .v)]⟩,
  ⟨none, .val 13 (.mv (.t 15))⟩] false [.forget [14, 15]]
abbrev zJq : HCode := .reg [⟨none, .val 16 (.mv (.t 0))⟩,
  ⟨none, .call (some 17) zAR [(.t 16, .i 0 87 1)]⟩,
  ⟨none, .val 18 (.bld [.v (.int .i64 0), .v (mkS []), .v (mkS []), .v (.int .i64 0), .v (.int .i64 0), .nl 2] [(0, 1, .c (iv 1)), (1, 1, .t 17)])⟩,
  ⟨none, .sto (.t 4) 1 88 0 6 (.t 18)⟩,
  ⟨none, .val 5 (.mv (.c (bv true)))⟩] false [.forget [16, 17, 18]]
abbrev zJr : HCode := .reg [⟨none, .val 20 (.mv (.t 0))⟩,
  ⟨none, .call (some 21) zAP [(.t 20, .i 0 87 1), (.c (sv [35]), .v)]⟩,
  ⟨none, .val 19 (.mv (.t 21))⟩] false [.forget [20, 21]]
abbrev zJs : HCode := .reg [⟨none, .val 22 (.mv (.t 0))⟩,
  ⟨none, .call (some 23) zAR [(.t 22, .i 0 87 1)]⟩,
  ⟨none, .val 24 (.bld [.v (.int .i64 0), .v (mkS []), .v (mkS []), .v (.int .i64 0), .v (.int .i64 0), .nl 2] [(0, 1, .c (iv 2)), (1, 1, .t 23)])⟩,
  ⟨none, .sto (.t 4) 1 88 0 6 (.t 24)⟩,
  ⟨none, .val 5 (.mv (.c (bv true)))⟩] false [.forget [22, 23, 24]]
abbrev zJt : HCode := .reg [⟨none, .val 26 (.mv (.t 0))⟩,
  ⟨none, .call (some 27) zAP [(.t 26, .i 0 87 1), (.c (sv [91]), .v)]⟩,
  ⟨none, .val 25 (.mv (.t 27))⟩] false [.forget [26, 27]]
abbrev zJu : HCode := .reg [⟨none, .val 28 (.mv (.t 0))⟩,
  ⟨none, .call (some 29) zDF [(.t 28, .i 0 87 1)]⟩,
  ⟨none, .sto (.t 4) 1 88 0 6 (.t 29)⟩,
  ⟨none, .val 5 (.mv (.c (bv true)))⟩] false [.forget [28, 29]]
abbrev zJv : HCode := .reg [⟨none, .val 31 (.mv (.t 0))⟩,
  ⟨none, .call (some 32) zAP [(.t 31, .i 0 87 1), (.c (sv [58]), .v)]⟩,
  ⟨none, .val 33 (.not (.t 32))⟩,
  ⟨none, .val 30 (.mv (.t 33))⟩] false [.forget [31, 32, 33]]
abbrev zJw : HCode := .reg [⟨none, .val 34 (.bld [.v (.int .i64 0), .v (mkS []), .v (mkS []), .v (.int .i64 0), .v (.int .i64 0), .nl 2] [])⟩,
  ⟨none, .sto (.t 4) 1 88 0 6 (.t 34)⟩,
  ⟨none, .val 5 (.mv (.c (bv false)))⟩] false [.forget [34]]
abbrev zJx : HCode := .reg [⟨none, .val 35 (.mv (.t 0))⟩,
  ⟨none, .call (some 36) zAR [(.t 35, .i 0 87 1)]⟩,
  ⟨none, .val 6 (.mv (.t 36))⟩] false [.forget [35, 36]]
abbrev zIg : HCode := .reg [⟨none, .mmk 38⟩,
  ⟨none, .mps (.t 38) 38 2 (.c (sv [101, 109, 112, 116, 121])) (.c (iv 11))⟩,
  ⟨none, .mps (.t 38) 38 2 (.c (sv [114, 111, 111, 116])) (.c (iv 12))⟩,
  ⟨none, .val 39 (.mv (.t 38))⟩,
  ⟨none, .val 40 (.mv (.t 6))⟩,
  ⟨none, .mpl 41 (.t 39) 38 2 (.t 40) (.v (.int .i64 0)) true⟩,
  ⟨none, .val 37 (.mv (.t 41))⟩,
  ⟨none, .val 42 (.ext 37 0)⟩,
  ⟨none, .val 43 (.ext 37 1)⟩,
  ⟨none, .val 7 (.mv (.t 42))⟩,
  ⟨none, .val 8 (.mv (.t 43))⟩] false [.forget [37, 38, 39, 40, 41, 42, 43]]
abbrev zIh : HCode := .reg [⟨none, .val 44 (.mv (.t 8))⟩] false []
abbrev zIi : HCode := .reg [⟨none, .val 45 (.mv (.t 7))⟩,
  ⟨none, .val 46 (.bld [.v (.int .i64 0), .v (mkS []), .v (mkS []), .v (.int .i64 0), .v (.int .i64 0), .nl 2] [(0, 1, .t 45)])⟩,
  ⟨none, .sto (.t 4) 1 88 0 6 (.t 46)⟩,
  ⟨none, .val 5 (.mv (.c (bv true)))⟩] false [.forget [45, 46]]
abbrev zIj : HCode := .reg [⟨none, .val 47 (.mv (.t 0))⟩,
  ⟨none, .call (some 48) zA8 [(.t 47, .i 0 87 1), (.c (sv [40]), .v)]⟩] false [.forget [47, 48]]
abbrev zIk : HCode := .reg [⟨none, .mmk 49⟩,
  ⟨none, .mps (.t 49) 49 2 (.c (sv [110, 116, 104])) (.c (iv 9))⟩,
  ⟨none, .mps (.t 49) 49 2 (.c (sv [108, 97, 115, 116])) (.c (iv 10))⟩,
  ⟨none, .mps (.t 49) 49 2 (.c (sv [110, 111, 116])) (.c (iv 13))⟩,
  ⟨none, .mps (.t 49) 49 2 (.c (sv [105, 115])) (.c (iv 14))⟩,
  ⟨none, .mps (.t 49) 49 2 (.c (sv [104, 97, 115])) (.c (iv 15))⟩,
  ⟨none, .val 50 (.mv (.t 49))⟩,
  ⟨none, .val 51 (.mv (.t 6))⟩,
  ⟨none, .mpl 52 (.t 50) 49 2 (.t 51) (.v (.int .i64 0)) false⟩,
  ⟨none, .val 53 (.bld [.v (.int .i64 0), .v (mkS []), .v (mkS []), .v (.int .i64 0), .v (.int .i64 0), .nl 2] [(0, 1, .t 52)])⟩,
  ⟨none, .alloc 9 2 94 [.v (.int .i64 0), .v (mkS []), .v (mkS []), .v (.int .i64 0), .v (.int .i64 0), .nl 2]⟩,
  ⟨none, .sto (.t 9) 2 94 0 6 (.t 53)⟩] false [.forget [49, 50, 51, 52, 53]]
abbrev zIl : HCode := .reg [⟨none, .val 55 (.fldP (.t 9) 0)⟩,
  ⟨none, .val 56 (.ldB (.t 55) 2 94 0 1 false)⟩,
  ⟨none, .call (some 57) zF7 [(.t 56, .v)]⟩,
  ⟨none, .val 54 (.mv (.t 57))⟩,
  ⟨none, .val 58 (.ext 54 0)⟩,
  ⟨none, .val 59 (.ext 54 1)⟩,
  ⟨none, .alloc 10 3 100 [.v (.bool false), .v (.bool false), .v (.bool false), .v (.bool false)]⟩,
  ⟨none, .sto (.t 10) 3 100 0 4 (.t 58)⟩,
  ⟨none, .val 11 (.mv (.t 59))⟩] false [.forget [54, 55, 56, 57, 58, 59]]
abbrev zIm : HCode := .reg [⟨none, .val 72 (.mv (.t 11))⟩,
  ⟨none, .val 73 (.not (.t 72))⟩,
  ⟨none, .val 71 (.mv (.t 73))⟩] false [.forget [72, 73]]
abbrev zIn : HCode := .reg [⟨none, .val 74 (.bld [] [])⟩,
  ⟨none, .val 75 (.mki zBy (.t 74))⟩,
  ⟨none, .pan (.t 75)⟩] false [.forget [74, 75]]
abbrev zIo : HCode := .reg [⟨none, .val 77 (.fldP (.t 10) 3)⟩,
  ⟨none, .val 78 (.ldB (.t 77) 3 100 3 1 false)⟩,
  ⟨none, .val 76 (.mv (.t 78))⟩] false [.forget [77, 78]]
abbrev zIp : HCode := .reg [⟨none, .val 79 (.mv (.t 0))⟩,
  ⟨none, .val 80 (.mv (.t 1))⟩,
  ⟨none, .val 81 (.ints .add (.t 80) (.c (iv 1)))⟩,
  ⟨none, .call (some 82) zA7 [(.t 79, .i 0 87 1), (.t 81, .v)]⟩,
  ⟨none, .val 83 (.fldP (.t 9) 5)⟩,
  ⟨none, .sto (.t 83) 2 94 5 1 (.t 82)⟩] false [.forget [79, 80, 81, 82, 83]]
abbrev zIq : HCode := .reg [⟨none, .val 84 (.mv (.t 0))⟩,
  ⟨none, .call (some 85) zA8 [(.t 84, .i 0 87 1), (.c (sv [41]), .v)]⟩] false [.forget [84, 85]]
abbrev zIr : HCode := .reg [⟨none, .val 12 (.mv (.c (iv 0)))⟩] false []
abbrev zIs : HCode := .reg [⟨none, .val 61 (.mv (.t 0))⟩,
  ⟨none, .call (some 62) zBO [(.t 61, .i 0 87 1), (.c (sv [41]), .v)]⟩,
  ⟨none, .call (some 63) zGu [(.t 62, .v)]⟩,
  ⟨none, .val 60 (.mv (.t 63))⟩,
  ⟨none, .val 64 (.ext 60 0)⟩,
  ⟨none, .val 65 (.ext 60 1)⟩,
  ⟨none, .val 66 (.fldP (.t 9) 3)⟩,
  ⟨none, .sto (.t 66) 2 94 3 2 (.t 64)⟩,
  ⟨none, .val 12 (.mv (.t 65))⟩] false [.forget [60, 61, 62, 63, 64, 65, 66]]
abbrev zIt : HCode := .reg [⟨none, .val 67 (.mv (.t 12))⟩,
  ⟨none, .val 68 (.ints .neq (.t 67) (.c (iv 0)))⟩] false [.forget [67]]
abbrev zIu : HCode := .reg [⟨none, .val 69 (.bld [] [])⟩,
  ⟨none, .val 70 (.mki zBy (.t 69))⟩,
  ⟨none, .pan (.t 70)⟩] false [.forget [69, 70]]
abbrev zIv : HCode := .reg [⟨none, .val 86 (.ldB (.t 9) 2 94 0 6 true)⟩,
  ⟨none, .sto (.t 4) 1 88 0 6 (.t 86)⟩,
  ⟨none, .val 5 (.mv (.c (bv true)))⟩] false [.forget [86]]
abbrev zPk : HCode := (.seq zJo (.seq (.block 0 (.seq zJp (.cond (.t 13) (.seq zJq .ret) (.seq zJr (.cond (.t 19) (.seq zJs .ret) (.seq zJt (.cond (.t 25) (.seq zJu .ret) (.seq zJv (.cond (.t 30) (.seq zJw .ret) .skip))))))))) (.seq zJx (.seq (.seq zIg (.seq zIh (.cond (.t 44) (.seq zIi .ret) .skip))) (.seq zIj (.seq zIk (.seq zIl (.seq (.block 1 (.seq zIm (.cond (.t 71) zIn (.seq zIo (.cond (.t 76) (.seq zIp zIq) (.seq zIr (.seq zIs (.seq zIt (.cond (.t 68) zIu .skip))))))))) (.seq zIv .ret)))))))))
abbrev zCX : Env := { N := 87, Γ := [(87, 1), (88, 6), (94, 6), (100, 4)], L := 104, nfix := 1 }
abbrev zL2 : List RSrc := [.cellB 4 1 88 0 6 true, .tmp 5]
theorem zJy {base : Nat} {av : List AV} {r : RV} (hfo : zAL zCX base av) (hW : AVs.fits av → hwp Tryz.prog zPk (zDb zCX base av zL2 r) (F0 zCX base av)) (hov : ∀ x, r.res = .ov x → zCC av = 0 := by intro x h; cases h <;> rfl) : Contract Tryz.prog zBN av r :=
 contract_of_wp (fn := Tryz.f216) (c := Tryz.f216.body.getD .skip) (by kernel_rfl) (by kernel_rfl) (by kernel_rfl) (by kernel_rfl) (by kernel_rfl) (by kernel_rfl) (by kernel_rfl) hfo hW hov
abbrev zJz : HCode := .reg [⟨none, .alloc 4 1 32 [.v (mkS []), .nl 6]⟩] false []
abbrev zJA : HCode := .reg [⟨none, .val 8 (.mv (.t 0))⟩,
  ⟨none, .call (some 9) zAR [(.t 8, .i 0 31 1)]⟩,
  ⟨none, .val 10 (.bld [.v (mkS []), .nl 6] [(0, 1, .t 9)])⟩,
  ⟨none, .alloc 5 2 34 [.v (mkS []), .nl 6]⟩,
  ⟨none, .sto (.t 5) 2 34 0 2 (.t 10)⟩] false [.forget [8, 9, 10]]
abbrev zJB : HCode := .reg [⟨none, .val 11 (.fldP (.t 5) 0)⟩,
  ⟨none, .val 12 (.ldB (.t 11) 2 34 0 1 false)⟩,
  ⟨none, .val 13 (.strs .eql (.t 12) (.c (sv [])))⟩] false [.forget [11, 12]]
abbrev zJC : HCode := .reg [⟨none, .val 14 (.mv (.t 0))⟩,
  ⟨none, .call (some 15) zA8 [(.t 14, .i 0 31 1), (.c (sv [42]), .v)]⟩] false [.forget [14, 15]]
abbrev zJD : HCode := .reg [⟨none, .val 17 (.mv (.t 0))⟩,
  ⟨none, .val 18 (.mv (.t 1))⟩,
  ⟨none, .call (some 19) zBN [(.t 17, .i 0 31 1), (.t 18, .v)]⟩,
  ⟨none, .val 16 (.mv (.t 19))⟩,
  ⟨none, .val 20 (.ext 16 0)⟩,
  ⟨none, .val 21 (.ext 16 1)⟩,
  ⟨none, .alloc 6 3 36 [.v (.int .i64 0), .v (mkS []), .v (mkS []), .v (.int .i64 0), .v (.int .i64 0), .nl 2]⟩,
  ⟨none, .sto (.t 6) 3 36 0 6 (.t 20)⟩,
  ⟨none, .val 7 (.mv (.t 21))⟩] false [.forget [16, 17, 18, 19, 20, 21]]
abbrev zJE : HCode := .reg [⟨none, .val 22 (.mv (.t 7))⟩,
  ⟨none, .val 23 (.not (.t 22))⟩] false [.forget [22]]
abbrev zJF : HCode := .reg [⟨none, .val 24 (.ldB (.t 5) 2 34 0 2 true)⟩,
  ⟨none, .sto (.t 4) 1 32 0 2 (.t 24)⟩] false [.forget [24]]
abbrev zJG : HCode := .reg [⟨none, .val 25 (.fldP (.t 5) 1)⟩,
  ⟨none, .ldo 26 (.t 25) 2 34 1 zFj 6⟩,
  ⟨none, .val 27 (.ldB (.t 6) 3 36 0 6 true)⟩,
  ⟨none, .val 28 (.bslF 6 [.t 27])⟩,
  ⟨none, .app 29 zFj 6 (.t 26) (.t 28)⟩,
  ⟨none, .val 30 (.fldP (.t 5) 1)⟩,
  ⟨none, .stw (.t 30) 2 34 1 29⟩] false [.forget [25, 26, 27, 28, 29, 30]]
abbrev zPl : HCode := (.seq zJz (.seq zJA (.seq (.seq zJB (.cond (.t 13) zJC .skip)) (.block 0 (.loop (.block 1 (.seq zJD (.seq (.seq zJE (.cond (.t 23) (.seq zJF .ret) .skip)) zJG))))))))
abbrev zCY : Env := { N := 31, Γ := [(31, 1), (32, 2), (34, 2), (36, 6)], L := 42, nfix := 1 }
abbrev zL3 : List RSrc := [.cellB 4 1 32 0 2 true]
theorem zJH {base : Nat} {av : List AV} {r : RV} (hfo : zAL zCY base av) (hW : AVs.fits av → hwp Tryz.prog zPl (zDb zCY base av zL3 r) (F0 zCY base av)) (hov : ∀ x, r.res = .ov x → zCC av = 0 := by intro x h; cases h <;> rfl) : Contract Tryz.prog zBo av r :=
 contract_of_wp (fn := Tryz.f159) (c := Tryz.f159.body.getD .skip) (by kernel_rfl) (by kernel_rfl) (by kernel_rfl) (by kernel_rfl) (by kernel_rfl) (by kernel_rfl) (by kernel_rfl) hfo hW hov
abbrev zJI : HCode := .reg [⟨none, .nlo 4 zB2 2⟩] false []
abbrev zJJ : HCode := .reg [⟨none, .val 9 (.mv (.t 1))⟩,
  ⟨none, .val 10 (.ints .gtr (.t 9) (.c (iv 3)))⟩] false [.forget [9]]
abbrev zJK : HCode := .reg [⟨none, .val 11 (.bld [] [])⟩,
  ⟨none, .val 12 (.mki zBy (.t 11))⟩,
  ⟨none, .pan (.t 12)⟩] false [.forget [11, 12]]
abbrev zJL : HCode := .reg [⟨none, .nlo 5 zB2 2⟩] false []
abbrev zJM : HCode := .reg [⟨none, .val 13 (.mv (.t 0))⟩,
  ⟨none, .val 14 (.mv (.t 1))⟩,
  ⟨none, .call (some 15) zBo [(.t 13, .i 0 50 1), (.t 14, .v)]⟩,
  ⟨none, .vbp 16 zFi 2 (.t 15)⟩,
  ⟨none, .vbd 17 [.nl 2, .nl 1] 0 1 (.t 16)⟩,
  ⟨none, .alloc 6 1 51 [.nl 2, .nl 1]⟩,
  ⟨none, .vst (.t 6) 1 51 0 2 17⟩] false [.forget [13, 14, 15, 16, 17]]
abbrev zJN : HCode := .reg [⟨none, .val 18 (.bld [.v (.int .i64 0), .v (.int .i64 0), .v (.int .i64 0), .v (.int .i64 0)] [(0, 1, .c (iv 2)), (1, 1, .c (iv 3)), (2, 1, .c (iv 4)), (3, 1, .c (iv 1))])⟩,
  ⟨none, .val 19 (.mv (.c (iv 0)))⟩] false []
abbrev zJO : HCode := .reg [⟨none, .val 20 (.ints .lss (.t 19) (.c (iv 4)))⟩] false []
abbrev zJP : HCode := .reg [⟨none, .val 21 (.idxV 4 (.t 18) (.t 19))⟩,
  ⟨none, .val 8 (.mv (.t 21))⟩] false [.forget [21]]
abbrev zJQ : HCode := .reg [⟨none, .val 22 (.mv (.t 0))⟩,
  ⟨none, .call (some 23) zDQ []⟩,
  ⟨none, .val 24 (.mv (.t 8))⟩,
  ⟨none, .val 25 (.idxV 5 (.t 23) (.t 24))⟩,
  ⟨none, .call (some 26) zAP [(.t 22, .i 0 50 1), (.t 25, .v)]⟩] false [.forget [22, 23, 24, 25]]
abbrev zJR : HCode := .reg [⟨none, .val 27 (.fldP (.t 6) 1)⟩,
  ⟨none, .ldo 28 (.t 27) 1 51 1 zUz 1⟩,
  ⟨none, .val 29 (.mv (.t 8))⟩,
  ⟨none, .val 30 (.bslF 1 [.t 29])⟩,
  ⟨none, .app 31 zUz 1 (.t 28) (.t 30)⟩,
  ⟨none, .val 32 (.fldP (.t 6) 1)⟩,
  ⟨none, .stw (.t 32) 1 51 1 31⟩] false [.forget [27, 28, 29, 30, 31, 32]]
abbrev zIw : HCode := .drg [⟨0, false, ⟨none, .val 33 (.fldP (.t 6) 0)⟩⟩,
  ⟨1, false, ⟨none, .vld 34 (.t 33) 1 51 0 1 false⟩⟩,
  ⟨2, false, ⟨none, .val 35 (.mv (.t 0))⟩⟩,
  ⟨3, false, ⟨none, .val 36 (.mv (.t 1))⟩⟩,
  ⟨4, true, ⟨none, .call (some 37) zBo [(.t 35, .i 0 50 1), (.t 36, .v)]⟩⟩,
  ⟨5, false, ⟨none, .val 38 (.bslF 2 [.t 37])⟩⟩,
  ⟨6, false, ⟨none, .vap 39 zFi 2 34 (.t 38)⟩⟩,
  ⟨7, false, ⟨none, .val 40 (.fldP (.t 6) 0)⟩⟩,
  ⟨8, false, ⟨none, .vst (.t 40) 1 51 0 1 39⟩⟩] [.forget [33, 34, 35, 36, 37, 38, 39, 40]]
abbrev zIx : HCode := .reg [⟨none, .val 41 (.ints .add (.t 19) (.c (iv 1)))⟩,
  ⟨none, .val 19 (.mv (.t 41))⟩] false [.forget [41]]
abbrev zIy : HCode := .regG [.vfr 51 1 51] [⟨none, .mvo 42 5⟩,
  ⟨none, .val 43 (.ldB (.t 6) 1 51 0 2 true)⟩,
  ⟨none, .val 44 (.bslF 2 [.t 43])⟩,
  ⟨none, .app 45 zB2 2 (.t 42) (.t 44)⟩,
  ⟨none, .mvo 5 45⟩] [.forget [42, 43, 44, 45]]
abbrev zIz : HCode := .reg [⟨none, .val 46 (.mv (.t 0))⟩,
  ⟨none, .call (some 47) zAP [(.t 46, .i 0 50 1), (.c (sv [44, 32]), .v)]⟩,
  ⟨none, .val 48 (.not (.t 47))⟩] false [.forget [46, 47]]
abbrev zIA : HCode := .reg [⟨none, .mvo 49 5⟩,
  ⟨none, .mvo 4 49⟩] false [.forget [49]]
abbrev zPm : HCode := (.seq zJI (.seq (.seq zJJ (.cond (.t 10) zJK .skip)) (.seq zJL (.block 0 (.loop (.block 1 (.scope (.seq zJM (.seq .label (.seq (.block 2 (.loop (.block 3 (.seq (.seq zJN (.block 4 (.loop (.seq zJO (.seq (.cond (.t 20) .skip (.exit 4)) (.seq (.block 5 (.seq zJP (.seq zJQ (.cond (.t 26) (.seq zJR (.seq zIw (.exit 3))) .skip)))) zIx)))))) (.exit 2))))) (.seq zIy (.seq zIz (.cond (.t 48) (.seq zIA .ret) .skip)))))))))))))
abbrev zCZ : Env := { N := 50, Γ := [(50, 1), (51, 2)], L := 53, nfix := 1 }
abbrev zL4 : List RSrc := [.tmp 4]
theorem zJS {base : Nat} {av : List AV} {r : RV} (hfo : zAL zCZ base av) (hW : AVs.fits av → hwp Tryz.prog zPm (zDb zCZ base av zL4 r) (F0 zCZ base av)) (hov : ∀ x, r.res = .ov x → zCC av = 0 := by intro x h; cases h <;> rfl) : Contract Tryz.prog zA7 av r :=
 contract_of_wp (fn := Tryz.f108) (c := Tryz.f108.body.getD .skip) (by kernel_rfl) (by kernel_rfl) (by kernel_rfl) (by kernel_rfl) (by kernel_rfl) (by kernel_rfl) (by kernel_rfl) hfo hW hov
abbrev zRl : HCode := .reg [⟨none, .val 1 (.boxF (.t 0))⟩,
  ⟨none, .val 2 (.mv (.c (sv [])))⟩] false []
abbrev zRm : HCode := .reg [⟨none, .val 5 (.fldR (.t 1) 0 1)⟩,
  ⟨none, .val 6 (.ldR (.t 5) 1 false)⟩] false [.forget [5]]
abbrev zRn : HCode := .reg [⟨none, .val 8 (.ints .eql (.t 6) (.c (iv 1)))⟩,
  ⟨none, .val 7 (.mv (.t 8))⟩] false [.forget [8]]
abbrev zRo : HCode := .reg [⟨none, .val 9 (.fldR (.t 1) 1 1)⟩,
  ⟨none, .val 10 (.ldR (.t 9) 1 false)⟩,
  ⟨none, .val 11 (.strs .add (.c (sv [46])) (.t 10))⟩,
  ⟨none, .val 2 (.mv (.t 11))⟩] false [.forget [9, 10, 11]]
abbrev zRp : HCode := .reg [⟨none, .val 13 (.ints .eql (.t 6) (.c (iv 2)))⟩,
  ⟨none, .val 12 (.mv (.t 13))⟩] false [.forget [13]]
abbrev zRq : HCode := .reg [⟨none, .val 14 (.fldR (.t 1) 1 1)⟩,
  ⟨none, .val 15 (.ldR (.t 14) 1 false)⟩,
  ⟨none, .val 16 (.strs .add (.c (sv [35])) (.t 15))⟩,
  ⟨none, .val 2 (.mv (.t 16))⟩] false [.forget [14, 15, 16]]
abbrev zRr : HCode := .reg [⟨none, .val 18 (.ints .eql (.t 6) (.c (iv 3)))⟩,
  ⟨none, .val 17 (.mv (.t 18))⟩] false [.forget [18]]
abbrev zRs : HCode := .reg [⟨none, .val 19 (.fldR (.t 1) 1 1)⟩,
  ⟨none, .val 20 (.ldR (.t 19) 1 false)⟩,
  ⟨none, .val 21 (.strs .add (.c (sv [91])) (.t 20))⟩,
  ⟨none, .val 22 (.strs .add (.t 21) (.c (sv [93])))⟩,
  ⟨none, .val 2 (.mv (.t 22))⟩] false [.forget [19, 20, 21, 22]]
abbrev zRt : HCode := .reg [⟨none, .val 24 (.ints .eql (.t 6) (.c (iv 9)))⟩,
  ⟨none, .val 23 (.mv (.t 24))⟩] false [.forget [24]]
abbrev zRu : HCode := .reg [⟨none, .val 25 (.ints .eql (.t 6) (.c (iv 10)))⟩,
  ⟨none, .val 23 (.mv (.t 25))⟩] false [.forget [25]]
abbrev zPn : HCode := .reg [⟨none, .val 27 (.fldR (.t 1) 3 2)⟩,
  ⟨none, .val 28 (.ldR (.t 27) 2 true)⟩,
  ⟨none, .call (some 29) zFd [(.t 28, .v)]⟩,
  ⟨none, .val 26 (.mv (.t 29))⟩,
  ⟨none, .val 30 (.ext 26 0)⟩,
  ⟨none, .val 31 (.ext 26 1)⟩,
  ⟨none, .val 3 (.mv (.t 30))⟩,
  ⟨none, .val 4 (.mv (.t 31))⟩] false [.forget [4, 26, 27, 28, 29, 30, 31]]
abbrev zPo : HCode := .reg [⟨none, .val 32 (.fldR (.t 1) 0 1)⟩,
  ⟨none, .val 33 (.ldR (.t 32) 1 false)⟩,
  ⟨none, .call (some 34) zDo [(.t 33, .v)]⟩,
  ⟨none, .val 35 (.mv (.t 3))⟩,
  ⟨none, .val 36 (.strs .add (.t 34) (.t 35))⟩,
  ⟨none, .val 37 (.strs .add (.t 36) (.c (sv [41])))⟩,
  ⟨none, .val 2 (.mv (.t 37))⟩] false [.forget [32, 33, 34, 35, 36, 37]]
abbrev zPp : HCode := .reg [⟨none, .val 39 (.ints .eql (.t 6) (.c (iv 11)))⟩,
  ⟨none, .val 38 (.mv (.t 39))⟩] false [.forget [39]]
abbrev zPq : HCode := .reg [⟨none, .val 2 (.mv (.c (sv [58, 101, 109, 112, 116, 121])))⟩] false []
abbrev zPr : HCode := .reg [⟨none, .val 41 (.ints .eql (.t 6) (.c (iv 12)))⟩,
  ⟨none, .val 40 (.mv (.t 41))⟩] false [.forget [41]]
abbrev zPs : HCode := .reg [⟨none, .val 2 (.mv (.c (sv [58, 114, 111, 111, 116])))⟩] false []
abbrev zPt : HCode := .reg [⟨none, .val 43 (.ints .eql (.t 6) (.c (iv 13)))⟩,
  ⟨none, .val 42 (.mv (.t 43))⟩] false [.forget [43]]
abbrev zPu : HCode := .reg [⟨none, .val 44 (.ints .eql (.t 6) (.c (iv 14)))⟩,
  ⟨none, .val 42 (.mv (.t 44))⟩] false [.forget [44]]
abbrev zPv : HCode := .reg [⟨none, .val 45 (.ints .eql (.t 6) (.c (iv 15)))⟩,
  ⟨none, .val 42 (.mv (.t 45))⟩] false [.forget [45]]
abbrev zPw : HCode := .drg [⟨0, false, ⟨none, .val 46 (.fldR (.t 1) 0 1)⟩⟩,
  ⟨1, false, ⟨none, .val 47 (.ldR (.t 46) 1 false)⟩⟩,
  ⟨2, false, ⟨none, .call (some 48) zDo [(.t 47, .v)]⟩⟩,
  ⟨3, false, ⟨none, .val 49 (.fldR (.t 1) 5 1)⟩⟩,
  ⟨4, false, ⟨none, .val 50 (.ldR (.t 49) 1 false)⟩⟩,
  ⟨5, true, ⟨none, .call (some 51) zB1 [(.t 50, .v)]⟩⟩,
  ⟨6, false, ⟨none, .val 52 (.strs .add (.t 48) (.t 51))⟩⟩,
  ⟨7, false, ⟨none, .val 53 (.strs .add (.t 52) (.c (sv [41])))⟩⟩,
  ⟨8, false, ⟨none, .val 2 (.mv (.t 53))⟩⟩] [.forget [46, 47, 48, 49, 50, 51, 52, 53]]
abbrev zPx : HCode := .drg [⟨0, false, ⟨none, .val 54 (.fldR (.t 1) 1 1)⟩⟩,
  ⟨1, false, ⟨none, .val 55 (.ldR (.t 54) 1 false)⟩⟩,
  ⟨2, false, ⟨none, .val 56 (.strs .add (.c (sv [91])) (.t 55))⟩⟩,
  ⟨3, false, ⟨none, .val 57 (.fldR (.t 1) 0 1)⟩⟩,
  ⟨4, false, ⟨none, .val 58 (.ldR (.t 57) 1 false)⟩⟩,
  ⟨5, false, ⟨none, .call (some 59) zEr [(.t 58, .v)]⟩⟩,
  ⟨6, false, ⟨none, .val 60 (.strs .add (.t 56) (.t 59))⟩⟩,
  ⟨7, false, ⟨none, .val 61 (.strs .add (.t 60) (.c (sv [34])))⟩⟩,
  ⟨8, false, ⟨none, .val 62 (.fldR (.t 1) 2 1)⟩⟩,
  ⟨9, false, ⟨none, .val 63 (.ldR (.t 62) 1 false)⟩⟩,
  ⟨10, false, ⟨none, .val 64 (.strs .add (.t 61) (.t 63))⟩⟩,
  ⟨11, false, ⟨none, .val 65 (.strs .add (.t 64) (.c (sv [34, 93])))⟩⟩,
  ⟨12, false, ⟨none, .val 2 (.mv (.t 65))⟩⟩] [.forget [54, 55, 56, 57, 58, 59, 60, 61, 62, 63, 64, 65]]
abbrev zWH : HCode := (.seq zRl (.seq (.seq zRm (.block 0 (.seq zRn (.cond (.t 7) (.seq zRo .ret) (.seq zRp (.cond (.t 12) (.seq zRq .ret) (.seq zRr (.cond (.t 17) (.seq zRs .ret) (.seq (.seq zRt (.cond (.t 23) .skip zRu)) (.cond (.t 23) (.seq zPn (.seq zPo .ret)) (.seq zPp (.cond (.t 38) (.seq zPq .ret) (.seq zPr (.cond (.t 40) (.seq zPs .ret) (.seq (.seq zPt (.cond (.t 42) .skip (.seq zPu (.cond (.t 42) .skip zPv)))) (.cond (.t 42) (.seq zPw .ret) .skip)))))))))))))))) (.seq zPx .ret)))
abbrev zFm : Env := { N := 66, Γ := [], L := 66, nfix := 0 }
abbrev zTH : List RSrc := [.tmp 2]
theorem zRv {base : Nat} {av : List AV} {r : RV} (hfo : zAL zFm base av) (hW : AVs.fits av → hwp Tryz.prog zWH (zDb zFm base av zTH r) (F0 zFm base av)) (hov : ∀ x, r.res = .ov x → zCC av = 0 := by intro x h; cases h <;> rfl) : Contract Tryz.prog zEs av r :=
 contract_of_wp (fn := Tryz.f156) (c := Tryz.f156.body.getD .skip) (by kernel_rfl) (by kernel_rfl) (by kernel_rfl) (by kernel_rfl) (by kernel_rfl) (by kernel_rfl) (by kernel_rfl) hfo hW hov
abbrev zRw : HCode := .reg [⟨none, .val 2 (.mv (.c (sv [])))⟩] false []
abbrev zRx : HCode := .reg [⟨none, .nlo 3 zEN 1⟩] false []
abbrev zRy : HCode := .reg [⟨none, .val 11 (.mv (.t 0))⟩,
  ⟨none, .val 12 (.len false (.t 11))⟩,
  ⟨none, .val 13 (.mv (.c (iv 0)))⟩] false []
abbrev zRz : HCode := .reg [⟨none, .val 14 (.ints .lss (.t 13) (.t 12))⟩] false []
abbrev zRA : HCode := .reg [⟨none, .val 15 (.idxA 2 (.t 11) (.t 13))⟩,
  ⟨none, .val 16 (.ldR (.t 15) 2 true)⟩,
  ⟨none, .alloc 5 0 63 [.nl 2, .nl 1]⟩,
  ⟨none, .sto (.t 5) 0 63 0 2 (.t 16)⟩] false [.forget [15, 16]]
abbrev zRB : HCode := .reg [⟨none, .val 6 (.mv (.c (sv [])))⟩] false []
abbrev zRC : HCode := .reg [⟨none, .val 17 (.fldP (.t 5) 0)⟩,
  ⟨none, .val 18 (.ldB (.t 17) 0 63 0 1 false)⟩,
  ⟨none, .val 19 (.len false (.t 18))⟩,
  ⟨none, .val 20 (.mv (.c (iv 0)))⟩] false [.forget [17]]
abbrev zRD : HCode := .reg [⟨none, .val 21 (.ints .lss (.t 20) (.t 19))⟩] false []
abbrev zRE : HCode := .reg [⟨none, .val 22 (.mv (.t 20))⟩,
  ⟨none, .val 23 (.idxA 2 (.t 18) (.t 20))⟩,
  ⟨none, .val 24 (.ldR (.t 23) 2 true)⟩,
  ⟨none, .alloc 8 1 65 [.v (mkS []), .nl 6]⟩,
  ⟨none, .val 7 (.mv (.t 22))⟩,
  ⟨none, .sto (.t 8) 1 65 0 2 (.t 24)⟩] false [.forget [22, 23, 24]]
abbrev zRF : HCode := .reg [⟨none, .val 25 (.mv (.t 7))⟩,
  ⟨none, .val 26 (.ints .gtr (.t 25) (.c (iv 0)))⟩] false [.forget [25]]
abbrev zPy : HCode := .drg [⟨0, false, ⟨none, .val 27 (.mv (.t 6))⟩⟩,
  ⟨1, false, ⟨none, .call (some 28) zDQ []⟩⟩,
  ⟨2, false, ⟨none, .val 29 (.fldP (.t 5) 1)⟩⟩,
  ⟨3, false, ⟨none, .val 30 (.ldB (.t 29) 0 63 1 1 false)⟩⟩,
  ⟨4, false, ⟨none, .val 31 (.mv (.t 7))⟩⟩,
  ⟨5, false, ⟨none, .val 32 (.ints .sub (.t 31) (.c (iv 1)))⟩⟩,
  ⟨6, false, ⟨none, .val 33 (.idxA 1 (.t 30) (.t 32))⟩⟩,
  ⟨7, false, ⟨none, .val 34 (.ldR (.t 33) 1 false)⟩⟩,
  ⟨8, false, ⟨none, .val 35 (.idxV 5 (.t 28) (.t 34))⟩⟩,
  ⟨9, false, ⟨none, .val 36 (.strs .add (.t 27) (.t 35))⟩⟩,
  ⟨10, false, ⟨none, .val 6 (.mv (.t 36))⟩⟩] [.forget [27, 28, 29, 30, 31, 32, 33, 34, 35, 36]]
abbrev zPz : HCode := .reg [⟨none, .val 37 (.mv (.t 6))⟩,
  ⟨none, .val 38 (.fldP (.t 8) 0)⟩,
  ⟨none, .val 39 (.ldB (.t 38) 1 65 0 1 false)⟩,
  ⟨none, .val 40 (.bslF 1 [.t 39, .c (sv [42])])⟩,
  ⟨none, .call (some 41) zDE [(.t 40, .v)]⟩,
  ⟨none, .val 42 (.strs .add (.t 37) (.t 41))⟩,
  ⟨none, .val 6 (.mv (.t 42))⟩] false [.forget [37, 38, 39, 40, 41, 42]]
abbrev zPA : HCode := .reg [⟨none, .val 43 (.fldP (.t 8) 1)⟩,
  ⟨none, .val 44 (.ldB (.t 43) 1 65 1 1 false)⟩,
  ⟨none, .val 45 (.len false (.t 44))⟩,
  ⟨none, .val 46 (.mv (.c (iv 0)))⟩] false [.forget [43]]
abbrev zPB : HCode := .reg [⟨none, .val 47 (.ints .lss (.t 46) (.t 45))⟩] false []
abbrev zPC : HCode := .reg [⟨none, .val 48 (.idxA 6 (.t 44) (.t 46))⟩,
  ⟨none, .val 49 (.ldR (.t 48) 6 true)⟩,
  ⟨none, .alloc 10 2 67 [.v (.int .i64 0), .v (mkS []), .v (mkS []), .v (.int .i64 0), .v (.int .i64 0), .nl 2]⟩,
  ⟨none, .sto (.t 10) 2 67 0 6 (.t 49)⟩] false [.forget [48, 49]]
abbrev zPD : HCode := .reg [⟨none, .val 50 (.mv (.t 6))⟩,
  ⟨none, .val 51 (.ldB (.t 10) 2 67 0 6 true)⟩,
  ⟨none, .call (some 52) zEs [(.t 51, .v)]⟩,
  ⟨none, .val 53 (.strs .add (.t 50) (.t 52))⟩,
  ⟨none, .val 6 (.mv (.t 53))⟩] false [.forget [50, 51, 52, 53]]
abbrev zPE : HCode := .reg [⟨none, .val 54 (.ints .add (.t 46) (.c (iv 1)))⟩,
  ⟨none, .val 46 (.mv (.t 54))⟩] false [.forget [54]]
abbrev zPF : HCode := .reg [⟨none, .val 55 (.ints .add (.t 20) (.c (iv 1)))⟩,
  ⟨none, .val 20 (.mv (.t 55))⟩] false [.forget [55]]
abbrev zPG : HCode := .reg [⟨none, .mvo 56 3⟩,
  ⟨none, .val 57 (.mv (.t 6))⟩,
  ⟨none, .val 58 (.bslF 1 [.t 57])⟩,
  ⟨none, .app 59 zEN 1 (.t 56) (.t 58)⟩,
  ⟨none, .mvo 3 59⟩] false [.forget [56, 57, 58, 59]]
abbrev zPH : HCode := .reg [⟨none, .val 60 (.ints .add (.t 13) (.c (iv 1)))⟩,
  ⟨none, .val 13 (.mv (.t 60))⟩] false [.forget [60]]
abbrev zPI : HCode := .reg [⟨none, .val 61 (.mv (.t 3))⟩,
  ⟨none, .call (some 62) zD6 [(.t 61, .v), (.c (sv [44, 32]), .v)]⟩,
  ⟨none, .val 2 (.mv (.t 62))⟩] false [.forget [61, 62]]
abbrev zWI : HCode := (.seq zRw (.seq zRx (.seq (.seq zRy (.block 0 (.loop (.seq zRz (.seq (.cond (.t 14) .skip (.exit 0)) (.seq (.block 1 (.seq zRA (.seq zRB (.seq (.seq zRC (.block 2 (.loop (.seq zRD (.seq (.cond (.t 21) .skip (.exit 2)) (.seq (.block 3 (.seq zRE (.seq (.seq zRF (.cond (.t 26) zPy .skip)) (.seq zPz (.seq zPA (.block 4 (.loop (.seq zPB (.seq (.cond (.t 47) .skip (.exit 4)) (.seq (.block 5 (.seq zPC zPD)) zPE)))))))))) zPF)))))) zPG)))) zPH)))))) (.seq zPI .ret))))
abbrev zFn : Env := { N := 63, Γ := [(63, 2), (65, 2), (67, 6)], L := 73, nfix := 0 }
abbrev zTI : List RSrc := [.tmp 2]
theorem zRG {base : Nat} {av : List AV} {r : RV} (hfo : zAL zFn base av) (hW : AVs.fits av → hwp Tryz.prog zWI (zDb zFn base av zTI r) (F0 zFn base av)) (hov : ∀ x, r.res = .ov x → zCC av = 0 := by intro x h; cases h <;> rfl) : Contract Tryz.prog zB1 av r :=
 contract_of_wp (fn := Tryz.f105) (c := Tryz.f105.body.getD .skip) (by kernel_rfl) (by kernel_rfl) (by kernel_rfl) (by kernel_rfl) (by kernel_rfl) (by kernel_rfl) (by kernel_rfl) hfo hW hov
abbrev zRH : HCode := .reg [⟨none, .val 2 (.mv (.c (sv [])))⟩,
  ⟨none, .val 3 (.mv (.c (iv 0)))⟩] false []
abbrev zRI : HCode := .reg [⟨none, .val 5 (.mv (.t 0))⟩,
  ⟨none, .call (some 6) zBJ [(.t 5, .v)]⟩,
  ⟨none, .val 4 (.mv (.t 6))⟩] false [.forget [5, 6]]
abbrev zRJ : HCode := .reg [⟨none, .val 7 (.mv (.t 4))⟩,
  ⟨none, .val 8 (.ints .neq (.t 7) (.c (iv 0)))⟩] false [.forget [7]]
abbrev zRK : HCode := .reg [⟨none, .val 9 (.mv (.t 4))⟩,
  ⟨none, .val 2 (.mv (.c (sv [])))⟩,
  ⟨none, .val 3 (.mv (.t 9))⟩] false [.forget [9]]
abbrev zRL : HCode := .reg [⟨none, .val 10 (.mv (.t 0))⟩,
  ⟨none, .call (some 11) zB1 [(.t 10, .v)]⟩,
  ⟨none, .val 2 (.mv (.t 11))⟩,
  ⟨none, .val 3 (.mv (.c (iv 0)))⟩] false [.forget [10, 11]]
abbrev zWJ : HCode := (.seq zRH (.seq (.seq zRI (.seq zRJ (.cond (.t 8) (.seq zRK .ret) .skip))) (.seq zRL .ret)))
abbrev zFo : Env := { N := 12, Γ := [], L := 12, nfix := 0 }
abbrev zTJ : List RSrc := [.tmp 2, .tmp 3]
theorem zRM {base : Nat} {av : List AV} {r : RV} (hfo : zAL zFo base av) (hW : AVs.fits av → hwp Tryz.prog zWJ (zDb zFo base av zTJ r) (F0 zFo base av)) (hov : ∀ x, r.res = .ov x → zCC av = 0 := by intro x h; cases h <;> rfl) : Contract Tryz.prog zDx av r :=
 contract_of_wp (fn := Tryz.f49) (c := Tryz.f49.body.getD .skip) (by kernel_rfl) (by kernel_rfl) (by kernel_rfl) (by kernel_rfl) (by kernel_rfl) (by kernel_rfl) (by kernel_rfl) hfo hW hov
abbrev zJT : HCode := .reg [⟨none, .val 2 (.mv (.c (sv [])))⟩] false []
abbrev zJU : HCode := .reg [⟨none, .val 3 (.mv (.c (sv [])))⟩] false []
abbrev zJV : HCode := .reg [⟨none, .val 6 (.mv (.t 0))⟩,
  ⟨none, .val 7 (.len false (.t 6))⟩,
  ⟨none, .val 8 (.mv (.c (iv 0)))⟩] false []
abbrev zJW : HCode := .reg [⟨none, .val 9 (.ints .lss (.t 8) (.t 7))⟩] false []
abbrev zJX : HCode := .reg [⟨none, .val 10 (.idxA 1 (.t 6) (.t 8))⟩,
  ⟨none, .val 11 (.ldR (.t 10) 1 false)⟩,
  ⟨none, .val 5 (.mv (.t 11))⟩] false [.forget [10, 11]]
abbrev zJY : HCode := .reg [⟨none, .val 12 (.mv (.t 5))⟩,
  ⟨none, .val 13 (.mv (.t 3))⟩,
  ⟨none, .val 14 (.strs .neq (.t 12) (.t 13))⟩] false [.forget [12, 13]]
abbrev zJZ : HCode := .reg [⟨none, .val 15 (.mv (.t 5))⟩,
  ⟨none, .val 2 (.mv (.t 15))⟩] false [.forget [15]]
abbrev zJ0 : HCode := .reg [⟨none, .val 16 (.ints .add (.t 8) (.c (iv 1)))⟩,
  ⟨none, .val 8 (.mv (.t 16))⟩] false [.forget [16]]
abbrev zJ1 : HCode := .reg [⟨none, .val 17 (.mv (.t 3))⟩,
  ⟨none, .val 2 (.mv (.t 17))⟩] false [.forget [17]]
abbrev zPJ : HCode := (.seq zJT (.seq zJU (.seq (.seq zJV (.block 0 (.loop (.seq zJW (.seq (.cond (.t 9) .skip (.exit 0)) (.seq (.block 1 (.seq zJX (.seq zJY (.cond (.t 14) (.seq zJZ .ret) .skip)))) zJ0)))))) (.seq zJ1 .ret))))
abbrev zC0 : Env := { N := 18, Γ := [], L := 18, nfix := 0 }
abbrev zL5 : List RSrc := [.tmp 2]
theorem zJ2 {base : Nat} {av : List AV} {r : RV} (hfo : zAL zC0 base av) (hW : AVs.fits av → hwp Tryz.prog zPJ (zDb zC0 base av zL5 r) (F0 zC0 base av)) (hov : ∀ x, r.res = .ov x → zCC av = 0 := by intro x h; cases h <;> rfl) : Contract Tryz.prog zDE av r :=
 contract_of_wp (fn := Tryz.f155) (c := Tryz.f155.body.getD .skip) (by kernel_rfl) (by kernel_rfl) (by kernel_rfl) (by kernel_rfl) (by kernel_rfl) (by kernel_rfl) (by kernel_rfl) hfo hW hov
abbrev zGe : HCode := .reg [⟨none, .val 4 (.mv (.c (sv [])))⟩,
  ⟨none, .val 5 (.mv (.c (bv false)))⟩] false []
abbrev zGf : HCode := .reg [⟨none, .val 6 (.mv (.t 0))⟩,
  ⟨none, .val 7 (.mv (.t 1))⟩,
  ⟨none, .call (some 8) zCU [(.t 6, .v), (.t 7, .v)]⟩,
  ⟨none, .val 9 (.ext 8 0)⟩,
  ⟨none, .val 10 (.ext 8 1)⟩,
  ⟨none, .val 4 (.mv (.t 9))⟩,
  ⟨none, .val 5 (.mv (.t 10))⟩] false [.forget [6, 7, 8, 9, 10]]
abbrev strings_CutPrefix : HCode := (.seq zGe (.seq zGf .ret))
abbrev zL6 : HCode := .reg [⟨none, .val 4 (.mv (.c (sv [])))⟩] false []
abbrev zL7 : HCode := .reg [⟨none, .val 11 (.mv (.t 0))⟩,
  ⟨none, .val 12 (.len false (.t 11))⟩] false [.forget [11]]
abbrev zL8 : HCode := .reg [⟨none, .val 14 (.ints .eql (.t 12) (.c (iv 0)))⟩,
  ⟨none, .val 13 (.mv (.t 14))⟩] false [.forget [14]]
abbrev zL9 : HCode := .reg [⟨none, .val 4 (.mv (.c (sv [])))⟩] false []
abbrev zMa : HCode := .reg [⟨none, .val 16 (.ints .eql (.t 12) (.c (iv 1)))⟩,
  ⟨none, .val 15 (.mv (.t 16))⟩] false [.forget [16]]
abbrev zMb : HCode := .reg [⟨none, .val 17 (.mv (.t 0))⟩,
  ⟨none, .val 18 (.idxA 1 (.t 17) (.c (iv 0)))⟩,
  ⟨none, .val 19 (.ldR (.t 18) 1 false)⟩,
  ⟨none, .val 4 (.mv (.t 19))⟩] false [.forget [17, 18, 19]]
abbrev zMc : HCode := .reg [⟨none, .val 5 (.mv (.c (iv 0)))⟩] false []
abbrev zMd : HCode := .reg [⟨none, .val 20 (.mv (.t 1))⟩,
  ⟨none, .val 21 (.len true (.t 20))⟩,
  ⟨none, .val 22 (.ints .gtr (.t 21) (.c (iv 0)))⟩] false [.forget [20, 21]]
abbrev zMe : HCode := .reg [⟨none, .val 23 (.mv (.t 1))⟩,
  ⟨none, .val 24 (.len true (.t 23))⟩,
  ⟨none, .val 25 (.mv (.t 0))⟩,
  ⟨none, .val 26 (.len false (.t 25))⟩,
  ⟨none, .val 27 (.ints .sub (.t 26) (.c (iv 1)))⟩,
  ⟨none, .val 28 (.ints .quo (.c (iv 9223372036854775807)) (.t 27))⟩,
  ⟨none, .val 29 (.ints .geq (.t 24) (.t 28))⟩] false [.forget [23, 24, 25, 26, 27, 28]]
abbrev zMf : HCode := .reg [⟨none, .val 30 (.mki zEN (.c (sv [115, 116, 114, 105, 110, 103, 115, 58, 32, 74, 111, 105, 110, 32, 111, 117, 116, 112, 117, 116, 32, 108, 101, 110, 103, 116, 104, 32, 111, 118, 101, 114, 102, 108, 111, 119])))⟩,
  ⟨none, .pan (.t 30)⟩] false [.forget [30]]
abbrev zJ3 : HCode := .reg [⟨none, .val 31 (.mv (.t 5))⟩,
  ⟨none, .val 32 (.mv (.t 1))⟩,
  ⟨none, .val 33 (.len true (.t 32))⟩,
  ⟨none, .val 34 (.mv (.t 0))⟩,
  ⟨none, .val 35 (.len false (.t 34))⟩,
  ⟨none, .val 36 (.ints .sub (.t 35) (.c (iv 1)))⟩,
  ⟨none, .val 37 (.ints .mul (.t 33) (.t 36))⟩,
  ⟨none, .val 38 (.ints .add (.t 31) (.t 37))⟩,
  ⟨none, .val 5 (.mv (.t 38))⟩] false [.forget [31, 32, 33, 34, 35, 36, 37, 38]]
abbrev zJ4 : HCode := .reg [⟨none, .val 39 (.mv (.t 0))⟩,
  ⟨none, .val 40 (.len false (.t 39))⟩,
  ⟨none, .val 41 (.mv (.c (iv 0)))⟩] false []
abbrev zJ5 : HCode := .reg [⟨none, .val 42 (.ints .lss (.t 41) (.t 40))⟩] false []
abbrev zJ6 : HCode := .reg [⟨none, .val 43 (.idxA 1 (.t 39) (.t 41))⟩,
  ⟨none, .val 44 (.ldR (.t 43) 1 false)⟩,
  ⟨none, .val 7 (.mv (.t 44))⟩] false [.forget [43, 44]]
abbrev zJ7 : HCode := .reg [⟨none, .val 45 (.mv (.t 7))⟩,
  ⟨none, .val 46 (.len true (.t 45))⟩,
  ⟨none, .val 47 (.mv (.t 5))⟩,
  ⟨none, .val 48 (.ints .sub (.c (iv 9223372036854775807)) (.t 47))⟩,
  ⟨none, .val 49 (.ints .gtr (.t 46) (.t 48))⟩] false [.forget [45, 46, 47, 48]]
abbrev zJ8 : HCode := .reg [⟨none, .val 50 (.mki zEN (.c (sv [115, 116, 114, 105, 110, 103, 115, 58, 32, 74, 111, 105, 110, 32, 111, 117, 116, 112, 117, 116, 32, 108, 101, 110, 103, 116, 104, 32, 111, 118, 101, 114, 102, 108, 111, 119])))⟩,
  ⟨none, .pan (.t 50)⟩] false [.forget [50]]
abbrev zJ9 : HCode := .reg [⟨none, .val 51 (.mv (.t 5))⟩,
  ⟨none, .val 52 (.mv (.t 7))⟩,
  ⟨none, .val 53 (.len true (.t 52))⟩,
  ⟨none, .val 54 (.ints .add (.t 51) (.t 53))⟩,
  ⟨none, .val 5 (.mv (.t 54))⟩] false [.forget [51, 52, 53, 54]]
abbrev zKa : HCode := .reg [⟨none, .val 55 (.ints .add (.t 41) (.c (iv 1)))⟩,
  ⟨none, .val 41 (.mv (.t 55))⟩] false [.forget [55]]
abbrev zKb : HCode := .reg [⟨none, .bmk 8 zAT zFk⟩] false []
abbrev zKc : HCode := .reg [⟨none, .val 56 (.mv (.t 5))⟩,
  ⟨none, .callm (some 57) zCV 8 [(.t 56, .v)]⟩] false [.forget [56, 57]]
abbrev zKd : HCode := .reg [⟨none, .val 58 (.mv (.t 0))⟩,
  ⟨none, .val 59 (.idxA 1 (.t 58) (.c (iv 0)))⟩,
  ⟨none, .val 60 (.ldR (.t 59) 1 false)⟩,
  ⟨none, .callm (some 61) zAO 8 [(.t 60, .v)]⟩] false [.forget [58, 59, 60, 61]]
abbrev zKe : HCode := .reg [⟨none, .val 62 (.mv (.t 0))⟩,
  ⟨none, .val 63 (.slr 1 (.t 62) (some (.c (iv 1))) none)⟩,
  ⟨none, .val 64 (.len false (.t 63))⟩,
  ⟨none, .val 65 (.mv (.c (iv 0)))⟩] false [.forget [62]]
abbrev zKf : HCode := .reg [⟨none, .val 66 (.ints .lss (.t 65) (.t 64))⟩] false []
abbrev zKg : HCode := .reg [⟨none, .val 67 (.idxA 1 (.t 63) (.t 65))⟩,
  ⟨none, .val 68 (.ldR (.t 67) 1 false)⟩,
  ⟨none, .val 10 (.mv (.t 68))⟩] false [.forget [67, 68]]
abbrev zKh : HCode := .reg [⟨none, .val 69 (.mv (.t 1))⟩,
  ⟨none, .callm (some 70) zAO 8 [(.t 69, .v)]⟩] false [.forget [69, 70]]
abbrev zKi : HCode := .reg [⟨none, .val 71 (.mv (.t 10))⟩,
  ⟨none, .callm (some 72) zAO 8 [(.t 71, .v)]⟩] false [.forget [71, 72]]
abbrev zKj : HCode := .reg [⟨none, .val 73 (.ints .add (.t 65) (.c (iv 1)))⟩,
  ⟨none, .val 65 (.mv (.t 73))⟩] false [.forget [73]]
abbrev zKk : HCode := .reg [⟨none, .callm (some 74) zCn 8 []⟩,
  ⟨none, .val 4 (.mv (.t 74))⟩] false [.forget [74]]
abbrev zRN : HCode := (.seq zL6 (.seq (.seq zL7 (.block 0 (.seq zL8 (.cond (.t 13) (.seq zL9 .ret) (.seq zMa (.cond (.t 15) (.seq zMb .ret) .skip)))))) (.seq zMc (.seq (.seq zMd (.cond (.t 22) (.seq (.seq zMe (.cond (.t 29) zMf .skip)) zJ3) .skip)) (.seq (.seq zJ4 (.block 1 (.loop (.seq zJ5 (.seq (.cond (.t 42) .skip (.exit 1)) (.seq (.block 2 (.seq zJ6 (.seq (.seq zJ7 (.cond (.t 49) zJ8 .skip)) zJ9))) zKa)))))) (.seq zKb (.seq zKc (.seq zKd (.seq (.seq zKe (.block 3 (.loop (.seq zKf (.seq (.cond (.t 66) .skip (.exit 3)) (.seq (.block 4 (.seq zKg (.seq zKh zKi))) zKj)))))) (.seq zKk .ret))))))))))
abbrev zDq : Env := { N := 75, Γ := [], L := 75, nfix := 0 }
abbrev zNw : List RSrc := [.tmp 4]
theorem zMg {base : Nat} {av : List AV} {r : RV} (hfo : zAL zDq base av) (hW : AVs.fits av → hwp Tryz.prog zRN (zDb zDq base av zNw r) (F0 zDq base av)) (hov : ∀ x, r.res = .ov x → zCC av = 0 := by intro x h; cases h <;> rfl) : Contract Tryz.prog zD6 av r :=
 contract_of_wp (fn := Tryz.f157) (c := Tryz.f157.body.getD .skip) (by kernel_rfl) (by kernel_rfl) (by kernel_rfl) (by kernel_rfl) (by kernel_rfl) (by kernel_rfl) (by kernel_rfl) hfo hW hov
end Go.Hx
end

section
set_option maxRecDepth 100000
set_option linter.unusedSimpArgs false
namespace Go.Hx
open Go.Proofs
variable [Glob]
attribute [local go_sem] zAw zAu zAv zAm ndV zAq zAl
def zAn (s t : Bys) : Bool := decide (t.length ≤ s.length) && (s.take t.length == t)
def zAs (s t : Bys) : Bys := if zAn s t then s.drop t.length else s
end Go.Hx
end

section
set_option maxRecDepth 100000
set_option linter.unusedSimpArgs false
namespace Go.Hx
open Go.Proofs
variable [Glob]
attribute [local go_sem] zAw zAu zAv zAm ndV zAq zAl
attribute [local go_sem] reduceCtorEq Nat.reduceAdd Nat.reduceEqDiff reduceIte Nat.reduceLeDiff Nat.reduceLT Nat.reduceSub
theorem zWU {a b : Int} (h : zM0 a b = 0) : (-1048576 ≤ a ∧ a ≤ 1048576) ∧ (-1048576 ≤ b ∧ b ≤ 1048576) := by
 unfold zM0 at h
 split at h
 ·rename_i h1; simpa [zNy] using h1
 ·cases h
def zYr (a b : Int) : PVal := .agg [bI a, bI b]
theorem zMn (a b : Int) : Contract Tryz.prog zEn [.val (zYr a b)] { res := .val (iv (zM0 a b)) } := by
 unfold zYr
 refine zQ8 (base := 0) ⟨Nat.le_of_ble_eq_true rfl, Nat.le_of_ble_eq_true rfl, Nat.le_of_ble_eq_true rfl, rfl⟩ (fun hfit => ?_)
 unfold F0 zFe
 simp (maxSteps := 2000000) only [zAS, List.set_cons_succ, List.set_cons_zero, List.map_cons, List.map_nil, zAQ, zAb, ioOf, List.length_cons, List.length_nil, Nat.reduceAdd, Nat.reduceSub, List.replicate, List.cons_append, List.nil_append]
 try simp (maxSteps := 2000000) only [go_sem]
 repeat with_reducible refine zAc ?_
 refine zAz (fun i : Nat => [(4, .un), (10, .pv (iv i)), (11, .un), (18, .un)]) (fun i : Nat => 2 - i) (fun i : Nat => i ≤ 2 ∧ (1 ≤ i → zNy a = true) ∧ (2 ≤ i → zNy b = true)) (0) ?_ ⟨by omega, by omega, by omega⟩ ?_
 focus (simp (maxSteps := 2000000) only [go_sem, zAg, zAo, zAB, zAd]; all_goals (repeat' (first | exact trivial | exact zAj (by omega) | exact zAi rfl | exact zAx rfl | exact zAp | exact le_refl _ | refine And.intro ?_ ?_)))
 intro i hi
 obtain ⟨h1, h2, h3⟩ := hi
 try simp (maxSteps := 2000000) only [go_sem]
 repeat with_reducible refine zAc ?_
 refine zAa (by rfl) trivial (fun h => ?_) (fun h => ?_)
 ·have hlt : i < 2 := by simp at h; omega
  have hcase : i = 0 ∨ i = 1 := by omega
  rcases hcase with rfl | rfl
  ·try simp (maxSteps := 2000000) only [go_sem, List.getD_cons_zero, Int.toNat_natCast, Int.cast_ofNat_Int, Int.toNat_zero, PV.norm]
   repeat with_reducible refine zAc ?_
   refine zAa (by rfl) trivial (fun h9 => ?_) (fun h9 => ?_)
   ·try simp (maxSteps := 2000000) only [go_sem]
    repeat with_reducible refine zAc ?_
    refine zAt rfl trivial (.inl ?_)
    congr 3
    unfold zM0
    rw [if_neg]
    simp [zNy] at h9 ⊢
    omega
   ·try simp (maxSteps := 2000000) only [go_sem]
    repeat with_reducible refine zAc ?_
    refine ⟨1, by omega, ⟨by omega, fun _ => ?_, by omega⟩, ?_⟩
    ·simp [zNy] at h9 ⊢; omega
    ·simp (maxSteps := 2000000) only [go_sem, zAg, zAo, zAB, zAd]
     all_goals (repeat' (first | exact trivial | exact zAj (by omega) | exact zAi rfl | exact zAx rfl | exact zAp | exact le_refl _ | refine And.intro ?_ ?_))
  ·try simp (maxSteps := 2000000) only [go_sem, List.getD_cons_zero, List.getD_cons_succ, Int.toNat_natCast, Int.cast_ofNat_Int, Int.toNat_one, PV.norm]
   repeat with_reducible refine zAc ?_
   refine zAa (by rfl) trivial (fun h9 => ?_) (fun h9 => ?_)
   ·try simp (maxSteps := 2000000) only [go_sem]
    repeat with_reducible refine zAc ?_
    refine zAt rfl trivial (.inl ?_)
    congr 3
    unfold zM0
    rw [if_neg]
    simp [zNy] at h9 ⊢
    omega
   ·try simp (maxSteps := 2000000) only [go_sem]
    repeat with_reducible refine zAc ?_
    refine ⟨2, by omega, ⟨by omega, fun _ => h2 (by omega), fun _ => ?_⟩, ?_⟩
    ·simp [zNy] at h9 ⊢; omega
    ·simp (maxSteps := 2000000) only [go_sem, zAg, zAo, zAB, zAd]
     all_goals (repeat' (first | exact trivial | exact zAj (by omega) | exact zAi rfl | exact zAx rfl | exact zAp | exact le_refl _ | refine And.intro ?_ ?_))
 ·try simp (maxSteps := 2000000) only [go_sem]
  repeat with_reducible refine zAc ?_
  have : i = 2 := by simp at h; omega
  refine zAt rfl trivial (.inl ?_)
  congr 3
  unfold zM0
  rw [h2 (by omega), h3 (by omega)]
  rfl
end Go.Hx
end

section
set_option maxRecDepth 100000
set_option linter.unusedSimpArgs false
namespace Go.Hx
open Go.Proofs
variable [Glob]
attribute [local go_sem] zAw zAu zAv zAm ndV zAq zAl fdV Fd.add fM fF fR fK Nat.add_zero
attribute [local go_sem] reduceCtorEq Nat.reduceAdd Nat.reduceEqDiff reduceIte Nat.reduceLeDiff Nat.reduceLT Nat.reduceSub
theorem zBT {F : List Ct} {E : Env} {base : Nat} {av : List AV} {cells io : List PV} (hio : ioOf av = some cells) (hc : zAD F base cells.length = some io) : zDb E base av [] { res := .tup [], io := io } .normal F :=
 ⟨rfl, fun cs h => by rw [hio] at h; injection h with h; subst h; exact hc⟩
theorem zPW (c : Fd) (b : Bool) (h : c.m ≤ 1000000000) : Contract Tryz.prog zAy [.io (fdV c), .val (bv b), .val (iv 2)] { res := .tup [], io := fdV (c.add (fM b)) } := by
 unfold fdV
 refine zCd (base := 17) ⟨Nat.le_of_ble_eq_true rfl, Nat.le_of_ble_eq_true rfl, Nat.le_of_ble_eq_true rfl, ⟨rfl, rfl⟩⟩ (fun hfit => ?_)
 unfold F0 zA6
 simp (maxSteps := 2000000) only [zAS, List.set_cons_succ, List.set_cons_zero, List.map_cons, List.map_nil, zAQ, zAb, ioOf, List.length_cons, List.length_nil, Nat.reduceAdd, Nat.reduceSub, List.replicate, List.cons_append, List.nil_append]
 try simp (maxSteps := 2000000) only [go_sem]
 repeat with_reducible refine zAc ?_
 refine zAa (by rfl) trivial (fun hb => ?_) (fun hb => ?_)
 ·subst hb
  try simp (maxSteps := 2000000) only [go_sem, Int.reduceToNat]
  repeat with_reducible refine zAc ?_
  exact zBT rfl rfl
 ·subst hb
  try simp (maxSteps := 2000000) only [go_sem]
  repeat with_reducible refine zAc ?_
  exact zBT rfl rfl
theorem zLb (c : Fd) (b : Bool) (h : c.f ≤ 1000000000) : Contract Tryz.prog zAy [.io (fdV c), .val (bv b), .val (iv 1)] { res := .tup [], io := fdV (c.add (fF b)) } := by
 unfold fdV
 refine zCd (base := 17) ⟨Nat.le_of_ble_eq_true rfl, Nat.le_of_ble_eq_true rfl, Nat.le_of_ble_eq_true rfl, ⟨rfl, rfl⟩⟩ (fun hfit => ?_)
 unfold F0 zA6
 simp (maxSteps := 2000000) only [zAS, List.set_cons_succ, List.set_cons_zero, List.map_cons, List.map_nil, zAQ, zAb, ioOf, List.length_cons, List.length_nil, Nat.reduceAdd, Nat.reduceSub, List.replicate, List.cons_append, List.nil_append]
 try simp (maxSteps := 2000000) only [go_sem]
 repeat with_reducible refine zAc ?_
 refine zAa (by rfl) trivial (fun hb => ?_) (fun hb => ?_)
 ·subst hb
  try simp (maxSteps := 2000000) only [go_sem, Int.reduceToNat]
  repeat with_reducible refine zAc ?_
  exact zBT rfl rfl
 ·subst hb
  try simp (maxSteps := 2000000) only [go_sem]
  repeat with_reducible refine zAc ?_
  exact zBT rfl rfl
theorem zYD (c : Fd) (b : Bool) (h : c.r ≤ 1000000000) : Contract Tryz.prog zAy [.io (fdV c), .val (bv b), .val (iv 3)] { res := .tup [], io := fdV (c.add (fR b)) } := by
 unfold fdV
 refine zCd (base := 17) ⟨Nat.le_of_ble_eq_true rfl, Nat.le_of_ble_eq_true rfl, Nat.le_of_ble_eq_true rfl, ⟨rfl, rfl⟩⟩ (fun hfit => ?_)
 unfold F0 zA6
 simp (maxSteps := 2000000) only [zAS, List.set_cons_succ, List.set_cons_zero, List.map_cons, List.map_nil, zAQ, zAb, ioOf, List.length_cons, List.length_nil, Nat.reduceAdd, Nat.reduceSub, List.replicate, List.cons_append, List.nil_append]
 try simp (maxSteps := 2000000) only [go_sem]
 repeat with_reducible refine zAc ?_
 refine zAa (by rfl) trivial (fun hb => ?_) (fun hb => ?_)
 ·subst hb
  try simp (maxSteps := 2000000) only [go_sem, Int.reduceToNat]
  repeat with_reducible refine zAc ?_
  exact zBT rfl rfl
 ·subst hb
  try simp (maxSteps := 2000000) only [go_sem]
  repeat with_reducible refine zAc ?_
  exact zBT rfl rfl
theorem zUR (c : Fd) (b : Bool) (h : c.k ≤ 1000000000) : Contract Tryz.prog zAy [.io (fdV c), .val (bv b), .val (iv 4)] { res := .tup [], io := fdV (c.add (fK b)) } := by
 unfold fdV
 refine zCd (base := 17) ⟨Nat.le_of_ble_eq_true rfl, Nat.le_of_ble_eq_true rfl, Nat.le_of_ble_eq_true rfl, ⟨rfl, rfl⟩⟩ (fun hfit => ?_)
 unfold F0 zA6
 simp (maxSteps := 2000000) only [zAS, List.set_cons_succ, List.set_cons_zero, List.map_cons, List.map_nil, zAQ, zAb, ioOf, List.length_cons, List.length_nil, Nat.reduceAdd, Nat.reduceSub, List.replicate, List.cons_append, List.nil_append]
 try simp (maxSteps := 2000000) only [go_sem]
 repeat with_reducible refine zAc ?_
 refine zAa (by rfl) trivial (fun hb => ?_) (fun hb => ?_)
 ·subst hb
  try simp (maxSteps := 2000000) only [go_sem, Int.reduceToNat]
  repeat with_reducible refine zAc ?_
  exact zBT rfl rfl
 ·subst hb
  try simp (maxSteps := 2000000) only [go_sem]
  repeat with_reducible refine zAc ?_
  exact zBT rfl rfl
def shV (k : Int) : PVal := .agg [bB (zWS k), bB (zRR k), bB (yCP k), bB (zFr k)]
def kOk (k : Int) : Bool := decide (1 ≤ k ∧ k ≤ 15)
theorem zR2 (k : Int) : Contract Tryz.prog zF7 [.val (iv k)] { res := .tup [shV k, bv (kOk k)] } := by
 refine zVz (base := 0) ⟨Nat.le_of_ble_eq_true rfl, Nat.le_of_ble_eq_true rfl, Nat.le_of_ble_eq_true rfl, rfl⟩ (fun hfit => ?_)
 unfold F0 zG3
 simp (maxSteps := 2000000) only [zAS, List.set_cons_succ, List.set_cons_zero, List.map_cons, List.map_nil, zAQ, zAb, ioOf, List.length_cons, List.length_nil, Nat.reduceAdd, Nat.reduceSub, List.replicate, List.cons_append, List.nil_append]
 try simp (maxSteps := 2000000) only [go_sem]
 repeat with_reducible refine zAc ?_
 by_cases hk : 1 ≤ k ∧ k ≤ 15
 ·have hn : k = 1 ∨ k = 2 ∨ k = 3 ∨ k = 4 ∨ k = 5 ∨ k = 6 ∨ k = 7 ∨ k = 8 ∨ k = 9 ∨ k = 10 ∨ k = 11 ∨ k = 12 ∨ k = 13 ∨ k = 14 ∨ k = 15 := by omega
  rcases hn with rfl | rfl | rfl | rfl | rfl | rfl | rfl | rfl | rfl | rfl | rfl | rfl | rfl | rfl | rfl
  all_goals
   repeat (first | (refine yB6 (by rfl) trivial ?_; (try simp (maxSteps := 2000000) only [go_sem])) | (refine zZb (by rfl) trivial ?_; (try simp (maxSteps := 2000000) only [go_sem])))
   exact zCS (by simp) ⟨zBc rfl rfl (.inl rfl), zBa rfl trivial (.inl rfl), rfl⟩
 ·have e : ∀ n : Int, 1 ≤ n → n ≤ 15 → (k == n) = false := by intro n h1 h2; simp; omega
  have hs : shV k = .agg [bB false, bB false, bB false, bB false] := by
   unfold shV
   congr 2
   ·unfold zWS; congr 2; simp; omega
   ·congr 1
    ·unfold zRR; congr 2; simp; omega
    ·congr 1
     ·unfold yCP; congr 2; simp; omega
     ·congr 1
      unfold zFr; congr 2; simp; omega
  have ho : kOk k = false := by unfold kOk; simp; omega
  rw [hs, ho]
  try simp (maxSteps := 2000000) only [go_sem, e 1 (by omega) (by omega), e 2 (by omega) (by omega), e 3 (by omega) (by omega), e 4 (by omega) (by omega), e 5 (by omega) (by omega), e 6 (by omega) (by omega), e 7 (by omega) (by omega), e 8 (by omega) (by omega), e 9 (by omega) (by omega), e 10 (by omega) (by omega), e 11 (by omega) (by omega), e 12 (by omega) (by omega), e 13 (by omega) (by omega), e 14 (by omega) (by omega), e 15 (by omega) (by omega)]
  repeat (refine zZb (by rfl) trivial ?_; (try simp (maxSteps := 2000000) only [go_sem, e 1 (by omega) (by omega), e 2 (by omega) (by omega), e 3 (by omega) (by omega), e 4 (by omega) (by omega), e 5 (by omega) (by omega), e 6 (by omega) (by omega), e 7 (by omega) (by omega), e 8 (by omega) (by omega), e 9 (by omega) (by omega), e 10 (by omega) (by omega), e 11 (by omega) (by omega), e 12 (by omega) (by omega), e 13 (by omega) (by omega), e 14 (by omega) (by omega), e 15 (by omega) (by omega)]))
  exact zCS (by simp) ⟨zBc rfl rfl (.inl rfl), zBa rfl trivial (.inl rfl), rfl⟩
theorem zR3 : Contract Tryz.prog zFh [] { res := .val (.agg [bI 2, bI 4, bI 1, bI 3]) } := by
 refine zO1 (base := 0) ⟨Nat.le_of_ble_eq_true rfl, Nat.le_of_ble_eq_true rfl, Nat.le_of_ble_eq_true rfl, rfl⟩ (fun hfit => ?_)
 unfold F0 zEp
 simp (maxSteps := 2000000) only [zAS, List.set_cons_succ, List.set_cons_zero, List.map_cons, List.map_nil, zAQ, zAb, ioOf, List.length_cons, List.length_nil, Nat.reduceAdd, Nat.reduceSub, List.replicate, List.cons_append, List.nil_append]
 try simp (maxSteps := 2000000) only [go_sem]
 repeat with_reducible refine zAc ?_
 exact zGZ rfl rfl rfl
end Go.Hx
end
