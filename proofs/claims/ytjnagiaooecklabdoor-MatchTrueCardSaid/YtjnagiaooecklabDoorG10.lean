/-
  Walks of functions of the program over an abstract layer, and the laws that they use: each contract says what the function computes, for every input that its conditions let by. No other condition.
-/
import Derived.Test.YtjnagiaooecklabDoorProg
import Derived.Test.YtjnagiaooecklabDoorG8
import Derived.Test.YtjnagiaooecklabDoorG9
set_option linter.all false
section
/-
 The abstract code of functions of the program, printed by gen.py; each stands for the given one. No condition.
-/
namespace Go.Hx
open Go.Proofs
variable [Glob]
abbrev zD6 : Nat := 13
abbrev zMz : HCode := .reg [⟨none, .val 4 (.mv (.c (bv false)))⟩] false []
abbrev zMA : HCode := .reg [⟨none, .val 6 (.mv (.t 0))⟩,
  ⟨none, .val 7 (.len false (.t 6))⟩,
  ⟨none, .val 8 (.mv (.t 1))⟩,
  ⟨none, .val 9 (.len false (.t 8))⟩,
  ⟨none, .val 10 (.ints .neq (.t 7) (.t 9))⟩] false [.forget [6, 7, 8, 9]]
abbrev zMB : HCode := .reg [⟨none, .val 4 (.mv (.c (bv false)))⟩] false []
abbrev zMC : HCode := .reg [⟨none, .val 5 (.mv (.c (iv 0)))⟩] false []
abbrev zMD : HCode := .reg [⟨none, .val 11 (.mv (.t 5))⟩,
  ⟨none, .val 12 (.mv (.t 0))⟩,
  ⟨none, .val 13 (.len false (.t 12))⟩,
  ⟨none, .val 14 (.ints .lss (.t 11) (.t 13))⟩] false [.forget [11, 12, 13]]
abbrev zME : HCode := .drg [⟨0, false, ⟨none, .val 17 (.mv (.t 0))⟩⟩,
  ⟨1, false, ⟨none, .val 18 (.mv (.t 5))⟩⟩,
  ⟨2, false, ⟨none, .val 19 (.idxA 1 (.t 17) (.t 18))⟩⟩,
  ⟨3, false, ⟨none, .val 20 (.ldR (.t 19) 1 false)⟩⟩,
  ⟨4, false, ⟨none, .val 21 (.mv (.t 1))⟩⟩,
  ⟨5, false, ⟨none, .val 22 (.mv (.t 5))⟩⟩,
  ⟨6, false, ⟨none, .val 23 (.idxA 1 (.t 21) (.t 22))⟩⟩,
  ⟨7, false, ⟨none, .val 24 (.ldR (.t 23) 1 false)⟩⟩,
  ⟨8, false, ⟨none, .val 25 (.ints .neq (.t 20) (.t 24))⟩⟩] [.forget [17, 18, 19, 20, 21, 22, 23, 24]]
abbrev zMF : HCode := .reg [⟨none, .val 4 (.mv (.c (bv false)))⟩] false []
abbrev zMG : HCode := .reg [⟨none, .val 15 (.mv (.t 5))⟩,
  ⟨none, .val 16 (.ints .add (.t 15) (.c (iv 1)))⟩,
  ⟨none, .val 5 (.mv (.t 16))⟩] false [.forget [15, 16]]
abbrev zMH : HCode := .reg [⟨none, .val 4 (.mv (.c (bv true)))⟩] false []
abbrev zQf : HCode := (.seq zMz (.seq (.seq zMA (.cond (.t 10) (.seq zMB .ret) .skip)) (.seq (.seq zMC (.block 0 (.loop (.seq (.seq zMD (.cond (.t 14) .skip (.exit 0))) (.seq (.block 1 (.seq zME (.cond (.t 25) (.seq zMF .ret) .skip))) zMG))))) (.seq zMH .ret))))
abbrev zDx : Env := { N := 26, Γ := [], L := 26, nfix := 0 }
abbrev zNa : List RSrc := [.tmp 4]
theorem zMI {base : Nat} {av : List AV} {r : RV} (hfo : zAB zDx base av) (hW : AVs.fits av → hwp Tryd.prog zQf (zCH zDx base av zNa r) (F0 zDx base av)) (hov : ∀ x, r.res = .ov x → zCj av = 0 := by intro x h; cases h <;> rfl) : Contract Tryd.prog zD6 av r :=
 zAb (fn := Tryd.f13) (c := Tryd.f13.body.getD .skip) (by kernel_rfl) (by kernel_rfl) (by kernel_rfl) (by kernel_rfl) (by kernel_rfl) (by kernel_rfl) (by kernel_rfl) hfo hW hov
end Go.Hx
end

section
/-
 The abstract code of functions of the program, printed by gen.py; each stands for the given one. No condition.
-/
namespace Go.Hx
open Go.Proofs
variable [Glob]
abbrev zGt : Nat := 23
abbrev zIe : Nat := 37
abbrev zDS : Nat := 51
abbrev zDT : Nat := 53
abbrev zC8 : Nat := 55
abbrev zCk : Nat := 49
abbrev zEx : Nat := 56
abbrev zCl : Nat := 52
abbrev zCO : Nat := 50
abbrev zCU : Nat := 11
abbrev zBy : Nat := 54
abbrev zAX : Nat := 31
abbrev zMJ : Nat := 3
abbrev zE1 : HCode := .reg [⟨none, .val 4 (.mv (.c (iv 0)))⟩] false []
abbrev zE2 : HCode := .reg [⟨none, .val 6 (.mv (.t 0))⟩,
  ⟨none, .val 7 (.len false (.t 6))⟩,
  ⟨none, .val 8 (.mv (.c (iv 0)))⟩] false [.forget [6]]
abbrev zE3 : HCode := .reg [⟨none, .val 9 (.ints .lss (.t 8) (.t 7))⟩] false []
abbrev zE4 : HCode := .reg [⟨none, .val 10 (.mv (.t 8))⟩,
  ⟨none, .val 5 (.mv (.t 10))⟩] false [.forget [10]]
abbrev zE5 : HCode := .reg [⟨none, .val 11 (.mv (.t 1))⟩,
  ⟨none, .val 12 (.mv (.t 0))⟩,
  ⟨none, .val 13 (.mv (.t 5))⟩,
  ⟨none, .val 14 (.idxA 2 (.t 12) (.t 13))⟩,
  ⟨none, .val 15 (.ldR (.t 14) 2 true)⟩,
  ⟨none, .callv (some 16) (.t 11) [(.t 15, .v)]⟩] false [.forget [11, 12, 13, 14, 15]]
abbrev zE6 : HCode := .reg [⟨none, .val 17 (.mv (.t 5))⟩,
  ⟨none, .val 4 (.mv (.t 17))⟩] false [.forget [17]]
abbrev zE7 : HCode := .reg [⟨none, .val 18 (.ints .add (.t 8) (.c (iv 1)))⟩,
  ⟨none, .val 8 (.mv (.t 18))⟩] false [.forget [18]]
abbrev zE8 : HCode := .reg [⟨none, .val 4 (.mv (.c (iv (-1))))⟩] false []
abbrev zGu : HCode := (.seq zE1 (.seq (.seq zE2 (.block 0 (.loop (.seq zE3 (.seq (.cond (.t 9) .skip (.exit 0)) (.seq (.block 1 (.seq zE4 (.seq zE5 (.cond (.t 16) (.seq zE6 .ret) .skip)))) zE7)))))) (.seq zE8 .ret)))
abbrev zA1 : Env := { N := 19, Γ := [], L := 19, nfix := 0 }
abbrev zFI : List RSrc := [.tmp 4]
theorem zCV {base : Nat} {av : List AV} {r : RV} (hfo : zAB zA1 base av) (hW : AVs.fits av → hwp Tryd.prog zGu (zCH zA1 base av zFI r) (F0 zA1 base av)) (hov : ∀ x, r.res = .ov x → zCj av = 0 := by intro x h; cases h <;> rfl) : Contract Tryd.prog zAX av r :=
 zAb (fn := Tryd.f31) (c := Tryd.f31.body.getD .skip) (by kernel_rfl) (by kernel_rfl) (by kernel_rfl) (by kernel_rfl) (by kernel_rfl) (by kernel_rfl) (by kernel_rfl) hfo hW hov
abbrev zD7 : HCode := .reg [⟨none, .val 4 (.mv (.c (bv false)))⟩] false []
abbrev zD8 : HCode := .reg [⟨none, .val 5 (.mv (.t 0))⟩,
  ⟨none, .val 6 (.mv (.t 1))⟩,
  ⟨none, .call (some 7) zAX [(.t 5, .v), (.t 6, .v)]⟩,
  ⟨none, .val 8 (.ints .geq (.t 7) (.c (iv 0)))⟩,
  ⟨none, .val 4 (.mv (.t 8))⟩] false [.forget [5, 6, 7, 8]]
abbrev zE9 : HCode := (.seq zD7 (.seq zD8 .ret))
abbrev zA6 : Env := { N := 9, Γ := [], L := 9, nfix := 0 }
abbrev zEm : List RSrc := [.tmp 4]
theorem zD9 {base : Nat} {av : List AV} {r : RV} (hfo : zAB zA6 base av) (hW : AVs.fits av → hwp Tryd.prog zE9 (zCH zA6 base av zEm r) (F0 zA6 base av)) (hov : ∀ x, r.res = .ov x → zCj av = 0 := by intro x h; cases h <;> rfl) : Contract Tryd.prog zBy av r :=
 zAb (fn := Tryd.f54) (c := Tryd.f54.body.getD .skip) (by kernel_rfl) (by kernel_rfl) (by kernel_rfl) (by kernel_rfl) (by kernel_rfl) (by kernel_rfl) (by kernel_rfl) hfo hW hov
abbrev zIf : HCode := .reg [⟨none, .val 4 (.mv (.c (bv false)))⟩] false []
abbrev zIg : HCode := .reg [⟨none, .val 5 (.mv (.c (sv [])))⟩] false []
abbrev zIh : HCode := .reg [⟨none, .val 8 (.mv (.t 0))⟩,
  ⟨none, .val 9 (.len false (.t 8))⟩,
  ⟨none, .val 10 (.mv (.c (iv 0)))⟩] false []
abbrev zIi : HCode := .reg [⟨none, .val 11 (.ints .lss (.t 10) (.t 9))⟩] false []
abbrev zIj : HCode := .reg [⟨none, .val 12 (.idxA 1 (.t 8) (.t 10))⟩,
  ⟨none, .val 13 (.ldR (.t 12) 1 false)⟩,
  ⟨none, .val 7 (.mv (.t 13))⟩] false [.forget [12, 13]]
abbrev zIk : HCode := .reg [⟨none, .val 14 (.mv (.t 1))⟩,
  ⟨none, .val 15 (.mv (.t 7))⟩,
  ⟨none, .callv (some 16) (.t 14) [(.t 15, .v)]⟩,
  ⟨none, .call (some 17) zCk [(.t 16, .v)]⟩,
  ⟨none, .val 18 (.not (.t 17))⟩,
  ⟨none, .val 19 (.mv (.t 18))⟩,
  ⟨some (19, false), .val 20 (.mv (.t 1))⟩,
  ⟨some (19, false), .val 21 (.mv (.t 7))⟩,
  ⟨some (19, false), .callv (some 22) (.t 20) [(.t 21, .v)]⟩,
  ⟨some (19, false), .val 23 (.mv (.t 5))⟩,
  ⟨some (19, false), .val 24 (.strs .leq (.t 22) (.t 23))⟩,
  ⟨none, .val 25 (.pick (.t 19) (.c (bv true)) (.t 24))⟩] false [.forget [14, 15, 16, 17, 18, 19, 20, 21, 22, 23, 24]]
abbrev zIl : HCode := .reg [⟨none, .val 4 (.mv (.c (bv false)))⟩] false []
abbrev zIm : HCode := .reg [⟨none, .val 26 (.mv (.t 1))⟩,
  ⟨none, .val 27 (.mv (.t 7))⟩,
  ⟨none, .callv (some 28) (.t 26) [(.t 27, .v)]⟩,
  ⟨none, .val 5 (.mv (.t 28))⟩] false [.forget [26, 27, 28]]
abbrev zIn : HCode := .reg [⟨none, .val 29 (.ints .add (.t 10) (.c (iv 1)))⟩,
  ⟨none, .val 10 (.mv (.t 29))⟩] false [.forget [29]]
abbrev zIo : HCode := .reg [⟨none, .val 4 (.mv (.c (bv true)))⟩] false []
abbrev zLg : HCode := (.seq zIf (.seq zIg (.seq (.seq zIh (.block 0 (.loop (.seq zIi (.seq (.cond (.t 11) .skip (.exit 0)) (.seq (.block 1 (.seq zIj (.seq (.seq zIk (.cond (.t 25) (.seq zIl .ret) .skip)) zIm))) zIn)))))) (.seq zIo .ret))))
abbrev zCe : Env := { N := 30, Γ := [], L := 30, nfix := 0 }
abbrev zI2 : List RSrc := [.tmp 4]
theorem zIp {base : Nat} {av : List AV} {r : RV} (hfo : zAB zCe base av) (hW : AVs.fits av → hwp Tryd.prog zLg (zCH zCe base av zI2 r) (F0 zCe base av)) (hov : ∀ x, r.res = .ov x → zCj av = 0 := by intro x h; cases h <;> rfl) : Contract Tryd.prog zCO av r :=
 zAb (fn := Tryd.f50) (c := Tryd.f50.body.getD .skip) (by kernel_rfl) (by kernel_rfl) (by kernel_rfl) (by kernel_rfl) (by kernel_rfl) (by kernel_rfl) (by kernel_rfl) hfo hW hov
abbrev zGv : HCode := .reg [⟨none, .val 4 (.mv (.c (bv false)))⟩] false []
abbrev zGw : HCode := .reg [⟨none, .val 5 (.mv (.c (sv [])))⟩] false []
abbrev zGx : HCode := .reg [⟨none, .val 8 (.mv (.t 0))⟩,
  ⟨none, .val 9 (.len false (.t 8))⟩,
  ⟨none, .val 10 (.mv (.c (iv 0)))⟩] false []
abbrev zGy : HCode := .reg [⟨none, .val 11 (.ints .lss (.t 10) (.t 9))⟩] false []
abbrev zGz : HCode := .reg [⟨none, .val 12 (.idxA 2 (.t 8) (.t 10))⟩,
  ⟨none, .val 13 (.ldR (.t 12) 2 true)⟩,
  ⟨none, .alloc 7 0 30 [.v (mkS []), .v (mkS [])]⟩,
  ⟨none, .sto (.t 7) 0 30 0 2 (.t 13)⟩] false [.forget [12, 13]]
abbrev zGA : HCode := .reg [⟨none, .val 14 (.mv (.t 1))⟩,
  ⟨none, .val 15 (.ldB (.t 7) 0 30 0 2 true)⟩,
  ⟨none, .callv (some 16) (.t 14) [(.t 15, .v)]⟩,
  ⟨none, .call (some 17) zCk [(.t 16, .v)]⟩,
  ⟨none, .val 18 (.not (.t 17))⟩,
  ⟨none, .val 19 (.mv (.t 18))⟩,
  ⟨some (19, false), .val 20 (.mv (.t 1))⟩,
  ⟨some (19, false), .val 21 (.ldB (.t 7) 0 30 0 2 true)⟩,
  ⟨some (19, false), .callv (some 22) (.t 20) [(.t 21, .v)]⟩,
  ⟨some (19, false), .val 23 (.mv (.t 5))⟩,
  ⟨some (19, false), .val 24 (.strs .leq (.t 22) (.t 23))⟩,
  ⟨none, .val 25 (.pick (.t 19) (.c (bv true)) (.t 24))⟩] false [.forget [14, 15, 16, 17, 18, 19, 20, 21, 22, 23, 24]]
abbrev zGB : HCode := .reg [⟨none, .val 4 (.mv (.c (bv false)))⟩] false []
abbrev zGC : HCode := .reg [⟨none, .val 26 (.mv (.t 1))⟩,
  ⟨none, .val 27 (.ldB (.t 7) 0 30 0 2 true)⟩,
  ⟨none, .callv (some 28) (.t 26) [(.t 27, .v)]⟩,
  ⟨none, .val 5 (.mv (.t 28))⟩] false [.forget [26, 27, 28]]
abbrev zGD : HCode := .reg [⟨none, .val 29 (.ints .add (.t 10) (.c (iv 1)))⟩,
  ⟨none, .val 10 (.mv (.t 29))⟩] false [.forget [29]]
abbrev zGE : HCode := .reg [⟨none, .val 4 (.mv (.c (bv true)))⟩] false []
abbrev zI3 : HCode := (.seq zGv (.seq zGw (.seq (.seq zGx (.block 0 (.loop (.seq zGy (.seq (.cond (.t 11) .skip (.exit 0)) (.seq (.block 1 (.seq zGz (.seq (.seq zGA (.cond (.t 25) (.seq zGB .ret) .skip)) zGC))) zGD)))))) (.seq zGE .ret))))
abbrev zBO : Env := { N := 30, Γ := [(30, 2)], L := 32, nfix := 0 }
abbrev zHx : List RSrc := [.tmp 4]
theorem zGF {base : Nat} {av : List AV} {r : RV} (hfo : zAB zBO base av) (hW : AVs.fits av → hwp Tryd.prog zI3 (zCH zBO base av zHx r) (F0 zBO base av)) (hov : ∀ x, r.res = .ov x → zCj av = 0 := by intro x h; cases h <;> rfl) : Contract Tryd.prog zCl av r :=
 zAb (fn := Tryd.f52) (c := Tryd.f52.body.getD .skip) (by kernel_rfl) (by kernel_rfl) (by kernel_rfl) (by kernel_rfl) (by kernel_rfl) (by kernel_rfl) (by kernel_rfl) hfo hW hov
abbrev zSh : HCode := .reg [⟨none, .val 1 (.boxF (.t 0))⟩,
  ⟨none, .val 2 (.mv (.c (bv false)))⟩] false []
abbrev zSi : HCode := .reg [⟨none, .val 3 (.fldR (.t 1) 1 1)⟩,
  ⟨none, .val 4 (.ldR (.t 3) 1 false)⟩,
  ⟨none, .call (some 5) zCk [(.t 4, .v)]⟩,
  ⟨none, .val 6 (.mv (.t 5))⟩,
  ⟨some (6, true), .val 7 (.fldR (.t 1) 2 1)⟩,
  ⟨some (6, true), .val 8 (.ldR (.t 7) 1 false)⟩,
  ⟨some (6, true), .val 9 (.strs .eql (.t 8) (.c (sv [])))⟩,
  ⟨some (6, true), .val 10 (.mv (.t 9))⟩,
  ⟨some (10, false), .val 11 (.fldR (.t 1) 2 1)⟩,
  ⟨some (10, false), .val 12 (.ldR (.t 11) 1 false)⟩,
  ⟨some (10, false), .call (some 13) zCk [(.t 12, .v)]⟩,
  ⟨some (6, true), .val 14 (.pick (.t 10) (.c (bv true)) (.t 13))⟩,
  ⟨none, .val 15 (.pick (.t 6) (.t 14) (.c (bv false)))⟩,
  ⟨none, .val 16 (.mv (.t 15))⟩,
  ⟨some (16, true), .val 17 (.fldR (.t 1) 3 1)⟩,
  ⟨some (16, true), .val 18 (.ldR (.t 17) 1 false)⟩,
  ⟨some (16, true), .val 19 (.len false (.t 18))⟩,
  ⟨some (16, true), .val 20 (.ints .leq (.t 19) (.c (iv 6)))⟩,
  ⟨none, .val 21 (.pick (.t 16) (.t 20) (.c (bv false)))⟩,
  ⟨none, .val 22 (.mv (.t 21))⟩,
  ⟨some (22, true), .val 23 (.fldR (.t 1) 4 1)⟩,
  ⟨some (22, true), .val 24 (.ldR (.t 23) 1 false)⟩,
  ⟨some (22, true), .val 25 (.len false (.t 24))⟩,
  ⟨some (22, true), .val 26 (.ints .leq (.t 25) (.c (iv 4)))⟩,
  ⟨none, .val 27 (.pick (.t 22) (.t 26) (.c (bv false)))⟩,
  ⟨none, .val 28 (.mv (.t 27))⟩,
  ⟨some (28, true), .val 29 (.fldR (.t 1) 3 1)⟩,
  ⟨some (28, true), .val 30 (.ldR (.t 29) 1 false)⟩,
  ⟨some (28, true), .call (some 31) zCO [(.t 30, .v), (.f zDS, .v)]⟩,
  ⟨none, .val 32 (.pick (.t 28) (.t 31) (.c (bv false)))⟩,
  ⟨none, .val 33 (.mv (.t 32))⟩,
  ⟨some (33, true), .val 34 (.fldR (.t 1) 4 1)⟩,
  ⟨some (33, true), .val 35 (.ldR (.t 34) 1 false)⟩,
  ⟨some (33, true), .call (some 36) zCl [(.t 35, .v), (.f zDT, .v)]⟩,
  ⟨none, .val 37 (.pick (.t 33) (.t 36) (.c (bv false)))⟩,
  ⟨none, .val 38 (.mv (.t 37))⟩,
  ⟨some (38, true), .val 39 (.fldR (.t 1) 4 1)⟩,
  ⟨some (38, true), .val 40 (.ldR (.t 39) 1 false)⟩,
  ⟨some (38, true), .call (some 41) zBy [(.t 40, .v), (.f zC8, .v)]⟩,
  ⟨some (38, true), .val 42 (.not (.t 41))⟩,
  ⟨none, .val 43 (.pick (.t 38) (.t 42) (.c (bv false)))⟩,
  ⟨none, .val 2 (.mv (.t 43))⟩] false [.forget [3, 4, 5, 6, 7, 8, 9, 10, 11, 12, 13, 14, 15, 16, 17, 18, 19, 20, 21, 22, 23, 24, 25, 26, 27, 28, 29, 30, 31, 32, 33, 34, 35, 36, 37, 38, 39, 40, 41, 42, 43]]
abbrev zW0 : HCode := (.seq zSh (.seq zSi .ret))
abbrev zHs : Env := { N := 44, Γ := [], L := 44, nfix := 0 }
abbrev zUn : List RSrc := [.tmp 2]
theorem zSj {base : Nat} {av : List AV} {r : RV} (hfo : zAB zHs base av) (hW : AVs.fits av → hwp Tryd.prog zW0 (zCH zHs base av zUn r) (F0 zHs base av)) (hov : ∀ x, r.res = .ov x → zCj av = 0 := by intro x h; cases h <;> rfl) : Contract Tryd.prog zIe av r :=
 zAb (fn := Tryd.f37) (c := Tryd.f37.body.getD .skip) (by kernel_rfl) (by kernel_rfl) (by kernel_rfl) (by kernel_rfl) (by kernel_rfl) (by kernel_rfl) (by kernel_rfl) hfo hW hov
abbrev zOA : HCode := .reg [⟨none, .val 2 (.mv (.c (sv [])))⟩] false []
abbrev zOB : HCode := .reg [⟨none, .val 3 (.mv (.t 0))⟩,
  ⟨none, .val 2 (.mv (.t 3))⟩] false [.forget [3]]
abbrev zUo : HCode := (.seq zOA (.seq zOB .ret))
abbrev zEy : Env := { N := 4, Γ := [], L := 4, nfix := 0 }
abbrev zQg : List RSrc := [.tmp 2]
theorem zOC {base : Nat} {av : List AV} {r : RV} (hfo : zAB zEy base av) (hW : AVs.fits av → hwp Tryd.prog zUo (zCH zEy base av zQg r) (F0 zEy base av)) (hov : ∀ x, r.res = .ov x → zCj av = 0 := by intro x h; cases h <;> rfl) : Contract Tryd.prog zDS av r :=
 zAb (fn := Tryd.f51) (c := Tryd.f51.body.getD .skip) (by kernel_rfl) (by kernel_rfl) (by kernel_rfl) (by kernel_rfl) (by kernel_rfl) (by kernel_rfl) (by kernel_rfl) hfo hW hov
abbrev zOD : HCode := .reg [⟨none, .val 1 (.boxF (.t 0))⟩,
  ⟨none, .val 2 (.mv (.c (sv [])))⟩] false []
abbrev zOE : HCode := .reg [⟨none, .val 3 (.fldR (.t 1) 0 1)⟩,
  ⟨none, .val 4 (.ldR (.t 3) 1 false)⟩,
  ⟨none, .val 2 (.mv (.t 4))⟩] false [.forget [3, 4]]
abbrev zUp : HCode := (.seq zOD (.seq zOE .ret))
abbrev zEz : Env := { N := 5, Γ := [], L := 5, nfix := 0 }
abbrev zQh : List RSrc := [.tmp 2]
theorem zOF {base : Nat} {av : List AV} {r : RV} (hfo : zAB zEz base av) (hW : AVs.fits av → hwp Tryd.prog zUp (zCH zEz base av zQh r) (F0 zEz base av)) (hov : ∀ x, r.res = .ov x → zCj av = 0 := by intro x h; cases h <;> rfl) : Contract Tryd.prog zDT av r :=
 zAb (fn := Tryd.f53) (c := Tryd.f53.body.getD .skip) (by kernel_rfl) (by kernel_rfl) (by kernel_rfl) (by kernel_rfl) (by kernel_rfl) (by kernel_rfl) (by kernel_rfl) hfo hW hov
abbrev zOG : HCode := .reg [⟨none, .val 1 (.boxF (.t 0))⟩,
  ⟨none, .val 2 (.mv (.c (bv false)))⟩] false []
abbrev zOH : HCode := .reg [⟨none, .val 3 (.fldR (.t 1) 1 1)⟩,
  ⟨none, .val 4 (.ldR (.t 3) 1 false)⟩,
  ⟨none, .call (some 5) zEx [(.t 4, .v)]⟩,
  ⟨none, .val 6 (.not (.t 5))⟩,
  ⟨none, .val 2 (.mv (.t 6))⟩] false [.forget [3, 4, 5, 6]]
abbrev zUq : HCode := (.seq zOG (.seq zOH .ret))
abbrev zEA : Env := { N := 7, Γ := [], L := 7, nfix := 0 }
abbrev zQi : List RSrc := [.tmp 2]
theorem zOI {base : Nat} {av : List AV} {r : RV} (hfo : zAB zEA base av) (hW : AVs.fits av → hwp Tryd.prog zUq (zCH zEA base av zQi r) (F0 zEA base av)) (hov : ∀ x, r.res = .ov x → zCj av = 0 := by intro x h; cases h <;> rfl) : Contract Tryd.prog zC8 av r :=
 zAb (fn := Tryd.f55) (c := Tryd.f55.body.getD .skip) (by kernel_rfl) (by kernel_rfl) (by kernel_rfl) (by kernel_rfl) (by kernel_rfl) (by kernel_rfl) (by kernel_rfl) hfo hW hov
abbrev zQj : HCode := .reg [⟨none, .val 1 (.boxF (.t 0))⟩,
  ⟨none, .val 2 (.mv (.c (iv 0)))⟩] false []
abbrev zQk : HCode := .reg [⟨none, .val 6 (.fldR (.t 1) 0 1)⟩,
  ⟨none, .val 7 (.ldR (.t 6) 1 false)⟩,
  ⟨none, .val 8 (.len false (.t 7))⟩,
  ⟨none, .val 9 (.ints .lss (.t 8) (.c (iv 1)))⟩,
  ⟨none, .val 10 (.mv (.t 9))⟩,
  ⟨some (10, false), .val 11 (.fldR (.t 1) 0 1)⟩,
  ⟨some (10, false), .val 12 (.ldR (.t 11) 1 false)⟩,
  ⟨some (10, false), .val 13 (.len false (.t 12))⟩,
  ⟨some (10, false), .val 14 (.ints .gtr (.t 13) (.c (iv 64)))⟩,
  ⟨none, .val 15 (.pick (.t 10) (.c (bv true)) (.t 14))⟩] false [.forget [6, 7, 8, 9, 10, 11, 12, 13, 14]]
abbrev zQl : HCode := .reg [⟨none, .val 2 (.mv (.c (iv 2)))⟩] false []
abbrev zQm : HCode := .reg [⟨none, .nlk 3 zMJ 1⟩] false []
abbrev zQn : HCode := .reg [⟨none, .val 16 (.fldR (.t 1) 0 1)⟩,
  ⟨none, .val 17 (.ldR (.t 16) 1 false)⟩,
  ⟨none, .val 18 (.len false (.t 17))⟩,
  ⟨none, .val 19 (.mv (.c (iv 0)))⟩] false [.forget [16]]
abbrev zQo : HCode := .reg [⟨none, .val 20 (.ints .lss (.t 19) (.t 18))⟩] false []
abbrev zQp : HCode := .reg [⟨none, .val 21 (.mv (.t 19))⟩,
  ⟨none, .val 22 (.idxA 5 (.t 17) (.t 19))⟩,
  ⟨none, .val 23 (.ldR (.t 22) 5 true)⟩,
  ⟨none, .alloc 5 0 69 [.v (.int .i64 0), .v (mkS []), .v (mkS []), .nl 1, .nl 2]⟩,
  ⟨none, .val 4 (.mv (.t 21))⟩,
  ⟨none, .sto (.t 5) 0 69 0 5 (.t 23)⟩] false [.frz 0 69 5, .forget [21, 22, 23]]
abbrev zQq : HCode := .rdr 3 [⟨none, .val 24 (.mv (.t 3))⟩,
  ⟨none, .val 25 (.len false (.t 24))⟩,
  ⟨none, .val 26 (.ints .gtr (.t 25) (.c (iv 0)))⟩,
  ⟨none, .val 27 (.mv (.t 26))⟩,
  ⟨some (27, true), .val 28 (.mv (.t 3))⟩,
  ⟨some (27, true), .val 29 (.mv (.t 3))⟩,
  ⟨some (27, true), .val 30 (.len false (.t 29))⟩,
  ⟨some (27, true), .val 31 (.ints .sub (.t 30) (.c (iv 1)))⟩,
  ⟨some (27, true), .val 32 (.idxA 1 (.t 28) (.t 31))⟩,
  ⟨some (27, true), .val 33 (.ldR (.t 32) 1 false)⟩,
  ⟨some (27, true), .val 34 (.fldR (.t 5) 0 1)⟩,
  ⟨some (27, true), .val 35 (.ldR (.t 34) 1 false)⟩,
  ⟨some (27, true), .val 36 (.ints .neq (.t 33) (.t 35))⟩,
  ⟨none, .val 37 (.pick (.t 27) (.t 36) (.c (bv false)))⟩] true [.forget [24, 25, 26, 27, 28, 29, 30, 31, 32, 33, 34, 35, 36]]
abbrev zQr : HCode := .reg [⟨none, .mvk 38 3⟩,
  ⟨none, .val 39 (.mv (.t 3))⟩,
  ⟨none, .val 40 (.len false (.t 39))⟩,
  ⟨none, .val 41 (.ints .sub (.t 40) (.c (iv 1)))⟩,
  ⟨none, .trk 42 38 (.t 41)⟩,
  ⟨none, .mvk 3 42⟩] false [.forget [38, 39, 40, 41, 42]]
abbrev zQs : HCode := .rdr 3 [⟨none, .val 43 (.ldR (.t 5) 5 true)⟩,
  ⟨none, .call (some 44) zIe [(.t 43, .v)]⟩,
  ⟨none, .val 45 (.not (.t 44))⟩,
  ⟨none, .val 46 (.mv (.t 45))⟩,
  ⟨some (46, false), .val 47 (.mv (.t 4))⟩,
  ⟨some (46, false), .val 48 (.ints .eql (.t 47) (.c (iv 0)))⟩,
  ⟨some (46, false), .val 49 (.mv (.t 48))⟩,
  ⟨some (49, true), .val 50 (.fldR (.t 5) 0 1)⟩,
  ⟨some (49, true), .val 51 (.ldR (.t 50) 1 false)⟩,
  ⟨some (49, true), .val 52 (.ints .neq (.t 51) (.c (iv (-1))))⟩,
  ⟨some (46, false), .val 53 (.pick (.t 49) (.t 52) (.c (bv false)))⟩,
  ⟨none, .val 54 (.pick (.t 46) (.c (bv true)) (.t 53))⟩,
  ⟨none, .val 55 (.mv (.t 54))⟩,
  ⟨some (55, false), .val 56 (.mv (.t 4))⟩,
  ⟨some (55, false), .val 57 (.ints .gtr (.t 56) (.c (iv 0)))⟩,
  ⟨some (55, false), .val 58 (.mv (.t 57))⟩,
  ⟨some (58, true), .val 59 (.mv (.t 3))⟩,
  ⟨some (58, true), .val 60 (.len false (.t 59))⟩,
  ⟨some (58, true), .val 61 (.ints .eql (.t 60) (.c (iv 0)))⟩,
  ⟨some (55, false), .val 62 (.pick (.t 58) (.t 61) (.c (bv false)))⟩,
  ⟨none, .val 63 (.pick (.t 55) (.c (bv true)) (.t 62))⟩] false [.forget [43, 44, 45, 46, 47, 48, 49, 50, 51, 52, 53, 54, 55, 56, 57, 58, 59, 60, 61, 62]]
abbrev zOJ : HCode := .reg [⟨none, .val 2 (.mv (.c (iv 1)))⟩] false []
abbrev zOK : HCode := .reg [⟨none, .mvk 64 3⟩,
  ⟨none, .val 65 (.mv (.t 4))⟩,
  ⟨none, .val 66 (.bslF 1 [.t 65])⟩,
  ⟨none, .apk 67 zMJ 1 64 (.t 66)⟩,
  ⟨none, .mvk 3 67⟩] false [.forget [64, 65, 66, 67]]
abbrev zOL : HCode := .reg [⟨none, .val 68 (.ints .add (.t 19) (.c (iv 1)))⟩,
  ⟨none, .val 19 (.mv (.t 68))⟩] false [.forget [68]]
abbrev zOM : HCode := .reg [⟨none, .val 2 (.mv (.c (iv 0)))⟩] false []
abbrev zVH : HCode := (.seq zQj (.seq (.seq zQk (.cond (.t 15) (.seq zQl .ret) .skip)) (.seq zQm (.seq (.seq zQn (.block 0 (.loop (.seq zQo (.seq (.cond (.t 20) .skip (.exit 0)) (.seq (.block 1 (.seq zQp (.seq (.block 2 (.loop (.seq (.seq zQq (.cond (.t 37) .skip (.exit 2))) (.block 3 zQr)))) (.seq (.seq zQs (.cond (.t 63) (.seq zOJ .ret) .skip)) zOK)))) zOL)))))) (.seq zOM .ret)))))
abbrev zFJ : Env := { N := 69, Γ := [(69, 5)], L := 74, nfix := 0 }
abbrev zSk : List RSrc := [.tmp 2]
theorem zQt {base : Nat} {av : List AV} {r : RV} (hfo : zAB zFJ base av) (hW : AVs.fits av → hwp Tryd.prog zVH (zCH zFJ base av zSk r) (F0 zFJ base av)) (hov : ∀ x, r.res = .ov x → zCj av = 0 := by intro x h; cases h <;> rfl) : Contract Tryd.prog zGt av r :=
 zAb (fn := Tryd.f23) (c := Tryd.f23.body.getD .skip) (by kernel_rfl) (by kernel_rfl) (by kernel_rfl) (by kernel_rfl) (by kernel_rfl) (by kernel_rfl) (by kernel_rfl) hfo hW hov
abbrev zQu : HCode := .reg [⟨none, .alloc 0 0 13 [.nl 5]⟩] false []
abbrev zQv : HCode := .reg [⟨none, .val 1 (.bld [.v (.int .i64 0), .v (mkS []), .v (mkS []), .nl 1, .nl 2] [(0, 1, .c (iv (-1))), (1, 1, .c (sv [108, 105, 115, 116])), (2, 1, .c (sv [116, 111, 112]))])⟩,
  ⟨none, .val 2 (.bslF 1 [.c (sv [97])])⟩,
  ⟨none, .val 3 (.bld [.v (.int .i64 0), .v (mkS []), .v (mkS []), .nl 1, .nl 2] [(0, 1, .c (iv 0)), (1, 1, .c (sv [105, 116, 101, 109])), (3, 1, .t 2)])⟩,
  ⟨none, .val 4 (.bslF 1 [.c (sv [98])])⟩,
  ⟨none, .val 5 (.bld [.v (.int .i64 0), .v (mkS []), .v (mkS []), .nl 1, .nl 2] [(0, 1, .c (iv 0)), (1, 1, .c (sv [105, 116, 101, 109])), (3, 1, .t 4)])⟩,
  ⟨none, .val 6 (.bld [.v (mkS []), .v (mkS [])] [(0, 1, .c (sv [116, 111])), (1, 1, .c (sv [111, 110, 101, 32, 116, 119, 111]))])⟩,
  ⟨none, .val 7 (.bslF 2 [.t 6])⟩,
  ⟨none, .val 8 (.bld [.v (.int .i64 0), .v (mkS []), .v (mkS []), .nl 1, .nl 2] [(0, 1, .c (iv 2)), (1, 1, .c (sv [108, 105, 110, 107])), (4, 1, .t 7)])⟩,
  ⟨none, .val 9 (.bslF 1 [.c (sv [97])])⟩,
  ⟨none, .val 10 (.bld [.v (.int .i64 0), .v (mkS []), .v (mkS []), .nl 1, .nl 2] [(0, 1, .c (iv 0)), (1, 1, .c (sv [105, 116, 101, 109])), (3, 1, .t 9)])⟩,
  ⟨none, .val 11 (.bslF 5 [.t 1, .t 3, .t 5, .t 8, .t 10])⟩,
  ⟨none, .val 12 (.bld [.nl 5] [(0, 1, .t 11)])⟩,
  ⟨none, .sto (.t 0) 0 13 0 1 (.t 12)⟩] false [.forget [1, 2, 3, 4, 5, 6, 7, 8, 9, 10, 11, 12]]
abbrev zVI : HCode := (.seq zQu (.seq zQv .ret))
abbrev zFK : Env := { N := 13, Γ := [(13, 1)], L := 14, nfix := 0 }
abbrev zSl : List RSrc := [.cellB 0 0 13 0 1 true]
theorem zQw {base : Nat} {av : List AV} {r : RV} (hfo : zAB zFK base av) (hW : AVs.fits av → hwp Tryd.prog zVI (zCH zFK base av zSl r) (F0 zFK base av)) (hov : ∀ x, r.res = .ov x → zCj av = 0 := by intro x h; cases h <;> rfl) : Contract Tryd.prog zCU av r :=
 zAb (fn := Tryd.f11) (c := Tryd.f11.body.getD .skip) (by kernel_rfl) (by kernel_rfl) (by kernel_rfl) (by kernel_rfl) (by kernel_rfl) (by kernel_rfl) (by kernel_rfl) hfo hW hov
end Go.Hx
end

section
/-
 The abstract code of functions of the program, printed by gen.py; each stands for the given one. No condition.
-/
namespace Go.Hx
open Go.Proofs
variable [Glob]
abbrev zCs : Nat := 65
abbrev zB9 : Nat := 66
abbrev zBr : Nat := 64
abbrev zEa : Nat := 63
abbrev zSm : HCode := .reg [⟨none, .val 2 (.mv (.c (bv false)))⟩] false []
abbrev zSn : HCode := .reg [⟨none, .val 3 (.mv (.t 0))⟩,
  ⟨none, .val 4 (.len true (.t 3))⟩,
  ⟨none, .val 5 (.ints .gtr (.t 4) (.c (iv 0)))⟩,
  ⟨none, .val 6 (.mv (.t 5))⟩,
  ⟨some (6, true), .val 7 (.mv (.t 0))⟩,
  ⟨some (6, true), .val 8 (.len true (.t 7))⟩,
  ⟨some (6, true), .val 9 (.ints .leq (.t 8) (.c (iv 12)))⟩,
  ⟨none, .val 10 (.pick (.t 6) (.t 9) (.c (bv false)))⟩,
  ⟨none, .val 11 (.mv (.t 10))⟩,
  ⟨some (11, true), .val 12 (.mv (.t 0))⟩,
  ⟨some (11, true), .val 13 (.idxS (.t 12) (.c (iv 0)))⟩,
  ⟨some (11, true), .val 14 (.ints .geq (.t 13) (.c (.one (.v (.int .u8 97)))))⟩,
  ⟨none, .val 15 (.pick (.t 11) (.t 14) (.c (bv false)))⟩,
  ⟨none, .val 16 (.mv (.t 15))⟩,
  ⟨some (16, true), .val 17 (.mv (.t 0))⟩,
  ⟨some (16, true), .val 18 (.idxS (.t 17) (.c (iv 0)))⟩,
  ⟨some (16, true), .val 19 (.ints .leq (.t 18) (.c (.one (.v (.int .u8 122)))))⟩,
  ⟨none, .val 20 (.pick (.t 16) (.t 19) (.c (bv false)))⟩,
  ⟨none, .val 21 (.mv (.t 20))⟩,
  ⟨some (21, true), .val 22 (.mv (.t 0))⟩,
  ⟨some (21, true), .call (some 23) zEa [(.t 22, .v), (.c (sv [97, 98, 99, 100, 101, 102, 103, 104, 105, 106, 107, 108, 109, 110, 111, 112, 113, 114, 115, 116, 117, 118, 119, 120, 121, 122, 48, 49, 50, 51, 52, 53, 54, 55, 56, 57, 45]), .v)]⟩,
  ⟨some (21, true), .val 24 (.strs .eql (.t 23) (.c (sv [])))⟩,
  ⟨none, .val 25 (.pick (.t 21) (.t 24) (.c (bv false)))⟩,
  ⟨none, .val 26 (.mv (.t 25))⟩,
  ⟨some (26, true), .val 27 (.mv (.t 0))⟩,
  ⟨some (26, true), .call (some 28) zBr [(.t 27, .v), (.f zCs, .v)]⟩,
  ⟨some (26, true), .val 29 (.not (.t 28))⟩,
  ⟨none, .val 30 (.pick (.t 26) (.t 29) (.c (bv false)))⟩,
  ⟨none, .val 2 (.mv (.t 30))⟩] false [.forget [3, 4, 5, 6, 7, 8, 9, 10, 11, 12, 13, 14, 15, 16, 17, 18, 19, 20, 21, 22, 23, 24, 25, 26, 27, 28, 29, 30]]
abbrev zW1 : HCode := (.seq zSm (.seq zSn .ret))
abbrev zHt : Env := { N := 31, Γ := [], L := 31, nfix := 0 }
abbrev zUr : List RSrc := [.tmp 2]
theorem zSo {base : Nat} {av : List AV} {r : RV} (hfo : zAB zHt base av) (hW : AVs.fits av → hwp Tryd.prog zW1 (zCH zHt base av zUr r) (F0 zHt base av)) (hov : ∀ x, r.res = .ov x → zCj av = 0 := by intro x h; cases h <;> rfl) : Contract Tryd.prog zCk av r :=
 zAb (fn := Tryd.f49) (c := Tryd.f49.body.getD .skip) (by kernel_rfl) (by kernel_rfl) (by kernel_rfl) (by kernel_rfl) (by kernel_rfl) (by kernel_rfl) (by kernel_rfl) hfo hW hov
abbrev zON : HCode := .reg [⟨none, .val 2 (.mv (.c (bv false)))⟩] false []
abbrev zOO : HCode := .reg [⟨none, .val 3 (.mv (.t 0))⟩,
  ⟨none, .val 4 (.ints .lss (.t 3) (.c (.one (.v (.int .i32 97)))))⟩,
  ⟨none, .val 5 (.mv (.t 4))⟩,
  ⟨some (5, false), .val 6 (.mv (.t 0))⟩,
  ⟨some (5, false), .val 7 (.ints .gtr (.t 6) (.c (.one (.v (.int .i32 122)))))⟩,
  ⟨none, .val 8 (.pick (.t 5) (.c (bv true)) (.t 7))⟩,
  ⟨none, .val 9 (.mv (.t 8))⟩,
  ⟨some (9, true), .val 10 (.mv (.t 0))⟩,
  ⟨some (9, true), .val 11 (.ints .lss (.t 10) (.c (.one (.v (.int .i32 48)))))⟩,
  ⟨some (9, true), .val 12 (.mv (.t 11))⟩,
  ⟨some (12, false), .val 13 (.mv (.t 0))⟩,
  ⟨some (12, false), .val 14 (.ints .gtr (.t 13) (.c (.one (.v (.int .i32 57)))))⟩,
  ⟨some (9, true), .val 15 (.pick (.t 12) (.c (bv true)) (.t 14))⟩,
  ⟨none, .val 16 (.pick (.t 9) (.t 15) (.c (bv false)))⟩,
  ⟨none, .val 17 (.mv (.t 16))⟩,
  ⟨some (17, true), .val 18 (.mv (.t 0))⟩,
  ⟨some (17, true), .val 19 (.ints .neq (.t 18) (.c (.one (.v (.int .i32 45)))))⟩,
  ⟨none, .val 20 (.pick (.t 17) (.t 19) (.c (bv false)))⟩,
  ⟨none, .val 2 (.mv (.t 20))⟩] false [.forget [3, 4, 5, 6, 7, 8, 9, 10, 11, 12, 13, 14, 15, 16, 17, 18, 19, 20]]
abbrev zUs : HCode := (.seq zON (.seq zOO .ret))
abbrev zEB : Env := { N := 21, Γ := [], L := 21, nfix := 0 }
abbrev zQx : List RSrc := [.tmp 2]
theorem zOP {base : Nat} {av : List AV} {r : RV} (hfo : zAB zEB base av) (hW : AVs.fits av → hwp Tryd.prog zUs (zCH zEB base av zQx r) (F0 zEB base av)) (hov : ∀ x, r.res = .ov x → zCj av = 0 := by intro x h; cases h <;> rfl) : Contract Tryd.prog zCs av r :=
 zAb (fn := Tryd.f65) (c := Tryd.f65.body.getD .skip) (by kernel_rfl) (by kernel_rfl) (by kernel_rfl) (by kernel_rfl) (by kernel_rfl) (by kernel_rfl) (by kernel_rfl) hfo hW hov
abbrev zQy : HCode := .reg [⟨none, .val 2 (.mv (.c (bv false)))⟩] false []
abbrev zQz : HCode := .reg [⟨none, .val 3 (.mv (.t 0))⟩,
  ⟨none, .val 4 (.len true (.t 3))⟩,
  ⟨none, .val 5 (.ints .leq (.t 4) (.c (iv 16)))⟩,
  ⟨none, .val 6 (.mv (.t 5))⟩,
  ⟨some (6, true), .val 7 (.mv (.t 0))⟩,
  ⟨some (6, true), .call (some 8) zBr [(.t 7, .v), (.f zB9, .v)]⟩,
  ⟨some (6, true), .val 9 (.not (.t 8))⟩,
  ⟨none, .val 10 (.pick (.t 6) (.t 9) (.c (bv false)))⟩,
  ⟨none, .val 2 (.mv (.t 10))⟩] false [.forget [3, 4, 5, 6, 7, 8, 9, 10]]
abbrev zVJ : HCode := (.seq zQy (.seq zQz .ret))
abbrev zFL : Env := { N := 11, Γ := [], L := 11, nfix := 0 }
abbrev zSp : List RSrc := [.tmp 2]
theorem zQA {base : Nat} {av : List AV} {r : RV} (hfo : zAB zFL base av) (hW : AVs.fits av → hwp Tryd.prog zVJ (zCH zFL base av zSp r) (F0 zFL base av)) (hov : ∀ x, r.res = .ov x → zCj av = 0 := by intro x h; cases h <;> rfl) : Contract Tryd.prog zEx av r :=
 zAb (fn := Tryd.f56) (c := Tryd.f56.body.getD .skip) (by kernel_rfl) (by kernel_rfl) (by kernel_rfl) (by kernel_rfl) (by kernel_rfl) (by kernel_rfl) (by kernel_rfl) hfo hW hov
abbrev zNb : HCode := .reg [⟨none, .val 2 (.mv (.c (bv false)))⟩] false []
abbrev zNc : HCode := .reg [⟨none, .val 3 (.mv (.t 0))⟩,
  ⟨none, .val 4 (.ints .lss (.t 3) (.c (.one (.v (.int .i32 32)))))⟩,
  ⟨none, .val 5 (.mv (.t 4))⟩,
  ⟨some (5, false), .val 6 (.mv (.t 0))⟩,
  ⟨some (5, false), .val 7 (.ints .gtr (.t 6) (.c (.one (.v (.int .i32 126)))))⟩,
  ⟨none, .val 8 (.pick (.t 5) (.c (bv true)) (.t 7))⟩,
  ⟨none, .val 9 (.mv (.t 8))⟩,
  ⟨some (9, false), .val 10 (.mv (.t 0))⟩,
  ⟨some (9, false), .val 11 (.ints .eql (.t 10) (.c (.one (.v (.int .i32 34)))))⟩,
  ⟨none, .val 12 (.pick (.t 9) (.c (bv true)) (.t 11))⟩,
  ⟨none, .val 2 (.mv (.t 12))⟩] false [.forget [3, 4, 5, 6, 7, 8, 9, 10, 11, 12]]
abbrev zSq : HCode := (.seq zNb (.seq zNc .ret))
abbrev zDU : Env := { N := 13, Γ := [], L := 13, nfix := 0 }
abbrev zOQ : List RSrc := [.tmp 2]
theorem zNd {base : Nat} {av : List AV} {r : RV} (hfo : zAB zDU base av) (hW : AVs.fits av → hwp Tryd.prog zSq (zCH zDU base av zOQ r) (F0 zDU base av)) (hov : ∀ x, r.res = .ov x → zCj av = 0 := by intro x h; cases h <;> rfl) : Contract Tryd.prog zB9 av r :=
 zAb (fn := Tryd.f66) (c := Tryd.f66.body.getD .skip) (by kernel_rfl) (by kernel_rfl) (by kernel_rfl) (by kernel_rfl) (by kernel_rfl) (by kernel_rfl) (by kernel_rfl) hfo hW hov
end Go.Hx
end

section
/-
 The abstract code of functions of the program, printed by gen.py; each stands for the given one. No condition.
-/
namespace Go.Hx
open Go.Proofs
variable [Glob]
abbrev zEC : Nat := 30
abbrev zED : Nat := 20
abbrev zQB : HCode := .reg [⟨none, .val 1 (.boxF (.t 0))⟩,
  ⟨none, .val 2 (.mv (.c (iv 0)))⟩] false []
abbrev zQC : HCode := .reg [⟨none, .val 5 (.fldR (.t 1) 0 1)⟩,
  ⟨none, .val 6 (.ldR (.t 5) 1 false)⟩,
  ⟨none, .val 7 (.fldR (.t 1) 1 1)⟩,
  ⟨none, .val 8 (.ldR (.t 7) 1 false)⟩,
  ⟨none, .val 9 (.bld [.v (.int .i64 0), .v (.int .i64 0)] [(0, 1, .t 6), (1, 1, .t 8)])⟩,
  ⟨none, .val 10 (.mv (.c (iv 0)))⟩] false [.forget [5, 6, 7, 8]]
abbrev zQD : HCode := .reg [⟨none, .val 11 (.ints .lss (.t 10) (.c (iv 2)))⟩] false []
abbrev zQE : HCode := .reg [⟨none, .val 12 (.idxV 2 (.t 9) (.t 10))⟩,
  ⟨none, .val 4 (.mv (.t 12))⟩] false [.forget [12]]
abbrev zQF : HCode := .reg [⟨none, .val 13 (.mv (.t 4))⟩,
  ⟨none, .val 14 (.ints .lss (.t 13) (.c (iv (-1048576))))⟩,
  ⟨none, .val 15 (.mv (.t 14))⟩,
  ⟨some (15, false), .val 16 (.mv (.t 4))⟩,
  ⟨some (15, false), .val 17 (.ints .gtr (.t 16) (.c (iv 1048576)))⟩,
  ⟨none, .val 18 (.pick (.t 15) (.c (bv true)) (.t 17))⟩] false [.forget [13, 14, 15, 16, 17]]
abbrev zQG : HCode := .reg [⟨none, .val 2 (.mv (.c (iv 3)))⟩] false []
abbrev zQH : HCode := .reg [⟨none, .val 19 (.ints .add (.t 10) (.c (iv 1)))⟩,
  ⟨none, .val 10 (.mv (.t 19))⟩] false [.forget [19]]
abbrev zQI : HCode := .reg [⟨none, .val 2 (.mv (.c (iv 0)))⟩] false []
abbrev zVK : HCode := (.seq zQB (.seq (.seq zQC (.block 0 (.loop (.seq zQD (.seq (.cond (.t 11) .skip (.exit 0)) (.seq (.block 1 (.seq zQE (.seq zQF (.cond (.t 18) (.seq zQG .ret) .skip)))) zQH)))))) (.seq zQI .ret)))
abbrev zFM : Env := { N := 20, Γ := [], L := 20, nfix := 0 }
abbrev zSr : List RSrc := [.tmp 2]
theorem zQJ {base : Nat} {av : List AV} {r : RV} (hfo : zAB zFM base av) (hW : AVs.fits av → hwp Tryd.prog zVK (zCH zFM base av zSr r) (F0 zFM base av)) (hov : ∀ x, r.res = .ov x → zCj av = 0 := by intro x h; cases h <;> rfl) : Contract Tryd.prog zEC av r :=
 zAb (fn := Tryd.f30) (c := Tryd.f30.body.getD .skip) (by kernel_rfl) (by kernel_rfl) (by kernel_rfl) (by kernel_rfl) (by kernel_rfl) (by kernel_rfl) (by kernel_rfl) hfo hW hov
abbrev zQK : HCode := .reg [⟨none, .val 2 (.boxF (.t 0))⟩,
  ⟨none, .val 4 (.mv (.c (bv false)))⟩] false []
abbrev zQL : HCode := .reg [⟨none, .val 6 (.ldR (.t 2) 2 true)⟩,
  ⟨none, .call (some 7) zEC [(.t 6, .v)]⟩,
  ⟨none, .val 8 (.ints .neq (.t 7) (.c (iv 0)))⟩,
  ⟨none, .val 9 (.mv (.t 8))⟩,
  ⟨some (9, false), .val 10 (.mv (.t 1))⟩,
  ⟨some (9, false), .val 11 (.ints .lss (.t 10) (.c (iv 1)))⟩,
  ⟨none, .val 12 (.pick (.t 9) (.c (bv true)) (.t 11))⟩,
  ⟨none, .val 13 (.mv (.t 12))⟩,
  ⟨some (13, false), .val 14 (.mv (.t 1))⟩,
  ⟨some (13, false), .val 15 (.ints .gtr (.t 14) (.c (iv 1073741824)))⟩,
  ⟨none, .val 16 (.pick (.t 13) (.c (bv true)) (.t 15))⟩] false [.forget [6, 7, 8, 9, 10, 11, 12, 13, 14, 15]]
abbrev zQM : HCode := .reg [⟨none, .val 4 (.mv (.c (bv false)))⟩] false []
abbrev zQN : HCode := .reg [⟨none, .val 17 (.mv (.t 1))⟩,
  ⟨none, .val 18 (.fldR (.t 2) 1 1)⟩,
  ⟨none, .val 19 (.ldR (.t 18) 1 false)⟩,
  ⟨none, .val 20 (.ints .sub (.t 17) (.t 19))⟩,
  ⟨none, .val 5 (.mv (.t 20))⟩] false [.forget [17, 18, 19, 20]]
abbrev zQO : HCode := .reg [⟨none, .val 21 (.fldR (.t 2) 0 1)⟩,
  ⟨none, .val 22 (.ldR (.t 21) 1 false)⟩,
  ⟨none, .val 23 (.ints .eql (.t 22) (.c (iv 0)))⟩] false [.forget [21, 22]]
abbrev zQP : HCode := .reg [⟨none, .val 24 (.mv (.t 5))⟩,
  ⟨none, .val 25 (.ints .eql (.t 24) (.c (iv 0)))⟩,
  ⟨none, .val 4 (.mv (.t 25))⟩] false [.forget [24, 25]]
abbrev zQQ : HCode := .reg [⟨none, .val 26 (.mv (.t 5))⟩,
  ⟨none, .val 27 (.fldR (.t 2) 0 1)⟩,
  ⟨none, .val 28 (.ldR (.t 27) 1 false)⟩,
  ⟨none, .val 29 (.ints .rem (.t 26) (.t 28))⟩,
  ⟨none, .val 30 (.ints .eql (.t 29) (.c (iv 0)))⟩,
  ⟨none, .val 31 (.mv (.t 30))⟩,
  ⟨some (31, true), .val 32 (.mv (.t 5))⟩,
  ⟨some (31, true), .val 33 (.fldR (.t 2) 0 1)⟩,
  ⟨some (31, true), .val 34 (.ldR (.t 33) 1 false)⟩,
  ⟨some (31, true), .val 35 (.ints .quo (.t 32) (.t 34))⟩,
  ⟨some (31, true), .val 36 (.ints .geq (.t 35) (.c (iv 0)))⟩,
  ⟨none, .val 37 (.pick (.t 31) (.t 36) (.c (bv false)))⟩,
  ⟨none, .val 4 (.mv (.t 37))⟩] false [.forget [26, 27, 28, 29, 30, 31, 32, 33, 34, 35, 36, 37]]
abbrev zVL : HCode := (.seq zQK (.seq (.seq zQL (.cond (.t 16) (.seq zQM .ret) .skip)) (.seq zQN (.seq (.seq zQO (.cond (.t 23) (.seq zQP .ret) .skip)) (.seq zQQ .ret)))))
abbrev zFN : Env := { N := 38, Γ := [], L := 38, nfix := 0 }
abbrev zSs : List RSrc := [.tmp 4]
theorem zQR {base : Nat} {av : List AV} {r : RV} (hfo : zAB zFN base av) (hW : AVs.fits av → hwp Tryd.prog zVL (zCH zFN base av zSs r) (F0 zFN base av)) (hov : ∀ x, r.res = .ov x → zCj av = 0 := by intro x h; cases h <;> rfl) : Contract Tryd.prog zED av r :=
 zAb (fn := Tryd.f20) (c := Tryd.f20.body.getD .skip) (by kernel_rfl) (by kernel_rfl) (by kernel_rfl) (by kernel_rfl) (by kernel_rfl) (by kernel_rfl) (by kernel_rfl) hfo hW hov
end Go.Hx
end

section
/-
 The abstract code of functions of the program, printed by gen.py; each stands for the given one. No condition.
-/
namespace Go.Hx
open Go.Proofs
variable [Glob]
abbrev zFO : Nat := 24
abbrev zBu : Nat := 38
abbrev zAp : Nat := 57
abbrev zCt : Nat := 58
abbrev zJ1 : Nat := 67
abbrev zFP : Nat := 39
abbrev zUt : HCode := .reg [⟨none, .alloc 2 0 31 [.v (.bool false), .v (.bool false), .v (.bool false), .v (.bool false)]⟩,
  ⟨none, .val 3 (.mv (.c (bv false)))⟩] false []
abbrev zUu : HCode := .reg [⟨none, .val 4 (.mv (.t 0))⟩] false []
abbrev zUv : HCode := .reg [⟨none, .val 6 (.ints .eql (.t 4) (.c (iv 1)))⟩,
  ⟨none, .val 5 (.mv (.t 6))⟩] false [.forget [6]]
abbrev zUw : HCode := .reg [⟨none, .val 7 (.ints .eql (.t 4) (.c (iv 2)))⟩,
  ⟨none, .val 5 (.mv (.t 7))⟩] false [.forget [7]]
abbrev zUx : HCode := .reg [⟨none, .val 8 (.ints .eql (.t 4) (.c (iv 3)))⟩,
  ⟨none, .val 5 (.mv (.t 8))⟩] false [.forget [8]]
abbrev zUy : HCode := .reg [⟨none, .val 9 (.bld [.v (.bool false), .v (.bool false), .v (.bool false), .v (.bool false)] [(0, 1, .c (bv true))])⟩,
  ⟨none, .sto (.t 2) 0 31 0 4 (.t 9)⟩,
  ⟨none, .val 3 (.mv (.c (bv true)))⟩] false [.forget [9]]
abbrev zUz : HCode := .reg [⟨none, .val 11 (.ints .eql (.t 4) (.c (iv 4)))⟩,
  ⟨none, .val 10 (.mv (.t 11))⟩] false [.forget [11]]
abbrev zUA : HCode := .reg [⟨none, .val 12 (.ints .eql (.t 4) (.c (iv 5)))⟩,
  ⟨none, .val 10 (.mv (.t 12))⟩] false [.forget [12]]
abbrev zUB : HCode := .reg [⟨none, .val 13 (.ints .eql (.t 4) (.c (iv 6)))⟩,
  ⟨none, .val 10 (.mv (.t 13))⟩] false [.forget [13]]
abbrev zUC : HCode := .reg [⟨none, .val 14 (.ints .eql (.t 4) (.c (iv 7)))⟩,
  ⟨none, .val 10 (.mv (.t 14))⟩] false [.forget [14]]
abbrev zSt : HCode := .reg [⟨none, .val 15 (.ints .eql (.t 4) (.c (iv 8)))⟩,
  ⟨none, .val 10 (.mv (.t 15))⟩] false [.forget [15]]
abbrev zSu : HCode := .reg [⟨none, .val 16 (.bld [.v (.bool false), .v (.bool false), .v (.bool false), .v (.bool false)] [(0, 1, .c (bv true)), (1, 1, .c (bv true))])⟩,
  ⟨none, .sto (.t 2) 0 31 0 4 (.t 16)⟩,
  ⟨none, .val 3 (.mv (.c (bv true)))⟩] false [.forget [16]]
abbrev zSv : HCode := .reg [⟨none, .val 18 (.ints .eql (.t 4) (.c (iv 9)))⟩,
  ⟨none, .val 17 (.mv (.t 18))⟩] false [.forget [18]]
abbrev zSw : HCode := .reg [⟨none, .val 19 (.ints .eql (.t 4) (.c (iv 10)))⟩,
  ⟨none, .val 17 (.mv (.t 19))⟩] false [.forget [19]]
abbrev zSx : HCode := .reg [⟨none, .val 20 (.bld [.v (.bool false), .v (.bool false), .v (.bool false), .v (.bool false)] [(2, 1, .c (bv true))])⟩,
  ⟨none, .sto (.t 2) 0 31 0 4 (.t 20)⟩,
  ⟨none, .val 3 (.mv (.c (bv true)))⟩] false [.forget [20]]
abbrev zSy : HCode := .reg [⟨none, .val 22 (.ints .eql (.t 4) (.c (iv 11)))⟩,
  ⟨none, .val 21 (.mv (.t 22))⟩] false [.forget [22]]
abbrev zSz : HCode := .reg [⟨none, .val 23 (.ints .eql (.t 4) (.c (iv 12)))⟩,
  ⟨none, .val 21 (.mv (.t 23))⟩] false [.forget [23]]
abbrev zSA : HCode := .reg [⟨none, .val 24 (.bld [.v (.bool false), .v (.bool false), .v (.bool false), .v (.bool false)] [])⟩,
  ⟨none, .sto (.t 2) 0 31 0 4 (.t 24)⟩,
  ⟨none, .val 3 (.mv (.c (bv true)))⟩] false [.forget [24]]
abbrev zSB : HCode := .reg [⟨none, .val 26 (.ints .eql (.t 4) (.c (iv 13)))⟩,
  ⟨none, .val 25 (.mv (.t 26))⟩] false [.forget [26]]
abbrev zSC : HCode := .reg [⟨none, .val 27 (.ints .eql (.t 4) (.c (iv 14)))⟩,
  ⟨none, .val 25 (.mv (.t 27))⟩] false [.forget [27]]
abbrev zSD : HCode := .reg [⟨none, .val 28 (.ints .eql (.t 4) (.c (iv 15)))⟩,
  ⟨none, .val 25 (.mv (.t 28))⟩] false [.forget [28]]
abbrev zSE : HCode := .reg [⟨none, .val 29 (.bld [.v (.bool false), .v (.bool false), .v (.bool false), .v (.bool false)] [(3, 1, .c (bv true))])⟩,
  ⟨none, .sto (.t 2) 0 31 0 4 (.t 29)⟩,
  ⟨none, .val 3 (.mv (.c (bv true)))⟩] false [.forget [29]]
abbrev zSF : HCode := .reg [⟨none, .val 30 (.bld [.v (.bool false), .v (.bool false), .v (.bool false), .v (.bool false)] [])⟩,
  ⟨none, .sto (.t 2) 0 31 0 4 (.t 30)⟩,
  ⟨none, .val 3 (.mv (.c (bv false)))⟩] false [.forget [30]]
abbrev zY2 : HCode := (.seq zUt (.seq (.seq zUu (.block 0 (.seq (.seq zUv (.cond (.t 5) .skip (.seq zUw (.cond (.t 5) .skip zUx)))) (.cond (.t 5) (.seq zUy .ret) (.seq (.seq zUz (.cond (.t 10) .skip (.seq zUA (.cond (.t 10) .skip (.seq zUB (.cond (.t 10) .skip (.seq zUC (.cond (.t 10) .skip zSt)))))))) (.cond (.t 10) (.seq zSu .ret) (.seq (.seq zSv (.cond (.t 17) .skip zSw)) (.cond (.t 17) (.seq zSx .ret) (.seq (.seq zSy (.cond (.t 21) .skip zSz)) (.cond (.t 21) (.seq zSA .ret) (.seq (.seq zSB (.cond (.t 25) .skip (.seq zSC (.cond (.t 25) .skip zSD)))) (.cond (.t 25) (.seq zSE .ret) .skip)))))))))))) (.seq zSF .ret)))
abbrev zI4 : Env := { N := 31, Γ := [(31, 4)], L := 35, nfix := 0 }
abbrev zVM : List RSrc := [.cellB 2 0 31 0 4 true, .tmp 3]
theorem zUD {base : Nat} {av : List AV} {r : RV} (hfo : zAB zI4 base av) (hW : AVs.fits av → hwp Tryd.prog zY2 (zCH zI4 base av zVM r) (F0 zI4 base av)) (hov : ∀ x, r.res = .ov x → zCj av = 0 := by intro x h; cases h <;> rfl) : Contract Tryd.prog zJ1 av r :=
 zAb (fn := Tryd.f67) (c := Tryd.f67.body.getD .skip) (by kernel_rfl) (by kernel_rfl) (by kernel_rfl) (by kernel_rfl) (by kernel_rfl) (by kernel_rfl) (by kernel_rfl) hfo hW hov
abbrev zOR : HCode := .reg [⟨none, .alloc 0 0 2 [.v (.int .i64 0), .v (.int .i64 0), .v (.int .i64 0), .v (.int .i64 0)]⟩] false []
abbrev zOS : HCode := .reg [⟨none, .val 1 (.bld [.v (.int .i64 0), .v (.int .i64 0), .v (.int .i64 0), .v (.int .i64 0)] [(0, 1, .c (iv 2)), (1, 1, .c (iv 4)), (2, 1, .c (iv 1)), (3, 1, .c (iv 3))])⟩,
  ⟨none, .sto (.t 0) 0 2 0 4 (.t 1)⟩] false [.forget [1]]
abbrev zUE : HCode := (.seq zOR (.seq zOS .ret))
abbrev zEE : Env := { N := 2, Γ := [(2, 4)], L := 6, nfix := 0 }
abbrev zQS : List RSrc := [.cellB 0 0 2 0 4 true]
theorem zOT {base : Nat} {av : List AV} {r : RV} (hfo : zAB zEE base av) (hW : AVs.fits av → hwp Tryd.prog zUE (zCH zEE base av zQS r) (F0 zEE base av)) (hov : ∀ x, r.res = .ov x → zCj av = 0 := by intro x h; cases h <;> rfl) : Contract Tryd.prog zFP av r :=
 zAb (fn := Tryd.f39) (c := Tryd.f39.body.getD .skip) (by kernel_rfl) (by kernel_rfl) (by kernel_rfl) (by kernel_rfl) (by kernel_rfl) (by kernel_rfl) (by kernel_rfl) hfo hW hov
abbrev zJ2 : HCode := .reg [⟨none, .val 6 (.mv (.t 1))⟩] false []
abbrev zJ3 : HCode := .drg [⟨0, false, ⟨none, .val 7 (.mv (.t 0))⟩⟩,
  ⟨1, false, ⟨none, .val 8 (.mv (.t 2))⟩⟩,
  ⟨2, false, ⟨none, .val 9 (.nilck (.t 7))⟩⟩,
  ⟨3, false, ⟨none, .val 10 (.fldP (.t 9) 0)⟩⟩,
  ⟨4, false, ⟨none, .val 11 (.ixB 5 (.t 10) (.t 8))⟩⟩,
  ⟨5, false, ⟨none, .val 12 (.ldD (.t 11) 0 17 5)⟩⟩,
  ⟨6, false, ⟨none, .val 13 (.ints .add (.t 12) (.c (iv 1)))⟩⟩,
  ⟨7, false, ⟨none, .val 14 (.nilck (.t 7))⟩⟩,
  ⟨8, false, ⟨none, .val 15 (.fldP (.t 14) 0)⟩⟩,
  ⟨9, false, ⟨none, .val 16 (.ixB 5 (.t 15) (.t 8))⟩⟩,
  ⟨10, false, ⟨none, .std (.t 16) 0 17 5 (.t 13)⟩⟩] [.forget [7, 8, 9, 10, 11, 12, 13, 14, 15, 16]]
abbrev zNe : HCode := (.seq zJ2 (.cond (.t 6) zJ3 .skip))
abbrev zBm : Env := { N := 17, Γ := [(17, 5)], L := 22, nfix := 1 }
abbrev zLh : List RSrc := []
theorem zCu {base : Nat} {av : List AV} {r : RV} (hfo : zAB zBm base av) (hW : AVs.fits av → hwp Tryd.prog zNe (zCH zBm base av zLh r) (F0 zBm base av)) (hov : ∀ x, r.res = .ov x → zCj av = 0 := by intro x h; cases h <;> rfl) : Contract Tryd.prog zAp av r :=
 zAb (fn := Tryd.f57) (c := Tryd.f57.body.getD .skip) (by kernel_rfl) (by kernel_rfl) (by kernel_rfl) (by kernel_rfl) (by kernel_rfl) (by kernel_rfl) (by kernel_rfl) hfo hW hov
abbrev zJ4 : HCode := .reg [⟨none, .val 12 (.mv (.t 2))⟩,
  ⟨none, .val 13 (.ints .gtr (.t 12) (.c (iv 3)))⟩,
  ⟨none, .val 14 (.mv (.t 13))⟩,
  ⟨some (14, false), .val 15 (.mv (.t 1))⟩,
  ⟨some (14, false), .val 16 (.len false (.t 15))⟩,
  ⟨some (14, false), .val 17 (.ints .lss (.t 16) (.c (iv 1)))⟩,
  ⟨none, .val 18 (.pick (.t 14) (.c (bv true)) (.t 17))⟩,
  ⟨none, .val 19 (.mv (.t 18))⟩,
  ⟨some (19, false), .val 20 (.mv (.t 1))⟩,
  ⟨some (19, false), .val 21 (.len false (.t 20))⟩,
  ⟨some (19, false), .val 22 (.ints .gtr (.t 21) (.c (iv 5)))⟩,
  ⟨none, .val 23 (.pick (.t 19) (.c (bv true)) (.t 22))⟩] false [.forget [12, 13, 14, 15, 16, 17, 18, 19, 20, 21, 22]]
abbrev zJ5 : HCode := .reg [⟨none, .val 24 (.mv (.t 0))⟩,
  ⟨none, .call (some 25) zAp [(.t 24, .i 0 83 5), (.c (bv true), .v), (.c (iv 2), .v)]⟩] false [.forget [24, 25]]
abbrev zJ6 : HCode := .reg [⟨none, .val 26 (.mv (.t 1))⟩,
  ⟨none, .val 27 (.len false (.t 26))⟩,
  ⟨none, .val 28 (.mv (.c (iv 0)))⟩] false []
abbrev zJ7 : HCode := .reg [⟨none, .val 29 (.ints .lss (.t 28) (.t 27))⟩] false []
abbrev zJ8 : HCode := .reg [⟨none, .val 30 (.idxA 2 (.t 26) (.t 28))⟩,
  ⟨none, .val 31 (.ldR (.t 30) 2 true)⟩,
  ⟨none, .alloc 7 1 88 [.nl 2, .nl 1]⟩,
  ⟨none, .sto (.t 7) 1 88 0 2 (.t 31)⟩] false [.frz 1 88 2, .forget [30, 31]]
abbrev zJ9 : HCode := .reg [⟨none, .val 32 (.fldR (.t 7) 0 1)⟩,
  ⟨none, .val 33 (.ldR (.t 32) 1 false)⟩,
  ⟨none, .val 34 (.len false (.t 33))⟩,
  ⟨none, .val 35 (.ints .lss (.t 34) (.c (iv 1)))⟩,
  ⟨none, .val 36 (.mv (.t 35))⟩,
  ⟨some (36, false), .val 37 (.fldR (.t 7) 0 1)⟩,
  ⟨some (36, false), .val 38 (.ldR (.t 37) 1 false)⟩,
  ⟨some (36, false), .val 39 (.len false (.t 38))⟩,
  ⟨some (36, false), .val 40 (.ints .gtr (.t 39) (.c (iv 5)))⟩,
  ⟨none, .val 41 (.pick (.t 36) (.c (bv true)) (.t 40))⟩,
  ⟨none, .val 42 (.mv (.t 41))⟩,
  ⟨some (42, false), .val 43 (.fldR (.t 7) 1 1)⟩,
  ⟨some (42, false), .val 44 (.ldR (.t 43) 1 false)⟩,
  ⟨some (42, false), .val 45 (.len false (.t 44))⟩,
  ⟨some (42, false), .val 46 (.fldR (.t 7) 0 1)⟩,
  ⟨some (42, false), .val 47 (.ldR (.t 46) 1 false)⟩,
  ⟨some (42, false), .val 48 (.len false (.t 47))⟩,
  ⟨some (42, false), .val 49 (.ints .sub (.t 48) (.c (iv 1)))⟩,
  ⟨some (42, false), .val 50 (.ints .neq (.t 45) (.t 49))⟩,
  ⟨none, .val 51 (.pick (.t 42) (.c (bv true)) (.t 50))⟩] false [.forget [32, 33, 34, 35, 36, 37, 38, 39, 40, 41, 42, 43, 44, 45, 46, 47, 48, 49, 50]]
abbrev zKa : HCode := .reg [⟨none, .val 52 (.mv (.t 0))⟩,
  ⟨none, .call (some 53) zAp [(.t 52, .i 0 83 5), (.c (bv true), .v), (.c (iv 2), .v)]⟩] false [.forget [52, 53]]
abbrev zKb : HCode := .reg [⟨none, .val 54 (.fldR (.t 7) 1 1)⟩,
  ⟨none, .val 55 (.ldR (.t 54) 1 false)⟩,
  ⟨none, .val 56 (.len false (.t 55))⟩,
  ⟨none, .val 57 (.mv (.c (iv 0)))⟩] false [.forget [54]]
abbrev zKc : HCode := .reg [⟨none, .val 58 (.ints .lss (.t 57) (.t 56))⟩] false []
abbrev zKd : HCode := .reg [⟨none, .val 59 (.idxA 1 (.t 55) (.t 57))⟩,
  ⟨none, .val 60 (.ldR (.t 59) 1 false)⟩,
  ⟨none, .val 9 (.mv (.t 60))⟩] false [.forget [59, 60]]
abbrev zI5 : HCode := .reg [⟨none, .val 61 (.mv (.t 0))⟩,
  ⟨none, .val 62 (.mv (.t 9))⟩,
  ⟨none, .val 63 (.ints .lss (.t 62) (.c (iv 1)))⟩,
  ⟨none, .val 64 (.mv (.t 63))⟩,
  ⟨some (64, false), .val 65 (.mv (.t 9))⟩,
  ⟨some (64, false), .val 66 (.ints .gtr (.t 65) (.c (iv 4)))⟩,
  ⟨none, .val 67 (.pick (.t 64) (.c (bv true)) (.t 66))⟩,
  ⟨none, .call (some 68) zAp [(.t 61, .i 0 83 5), (.t 67, .v), (.c (iv 4), .v)]⟩] false [.forget [61, 62, 63, 64, 65, 66, 67, 68]]
abbrev zI6 : HCode := .reg [⟨none, .val 69 (.ints .add (.t 57) (.c (iv 1)))⟩,
  ⟨none, .val 57 (.mv (.t 69))⟩] false [.forget [69]]
abbrev zI7 : HCode := .reg [⟨none, .val 70 (.fldR (.t 7) 0 1)⟩,
  ⟨none, .val 71 (.ldR (.t 70) 1 false)⟩,
  ⟨none, .val 72 (.len false (.t 71))⟩,
  ⟨none, .val 73 (.mv (.c (iv 0)))⟩] false [.forget [70]]
abbrev zI8 : HCode := .reg [⟨none, .val 74 (.ints .lss (.t 73) (.t 72))⟩] false []
abbrev zI9 : HCode := .reg [⟨none, .val 75 (.idxA 2 (.t 71) (.t 73))⟩,
  ⟨none, .val 76 (.ldR (.t 75) 2 true)⟩,
  ⟨none, .alloc 11 2 90 [.v (mkS []), .nl 6]⟩,
  ⟨none, .sto (.t 11) 2 90 0 2 (.t 76)⟩] false [.forget [75, 76]]
abbrev zJa : HCode := .reg [⟨none, .val 77 (.mv (.t 0))⟩,
  ⟨none, .val 78 (.ldB (.t 11) 2 90 0 2 true)⟩,
  ⟨none, .val 79 (.mv (.t 2))⟩,
  ⟨none, .call (some 80) zCt [(.t 77, .i 0 83 5), (.t 78, .v), (.t 79, .v)]⟩] false [.forget [77, 78, 79, 80]]
abbrev zJb : HCode := .reg [⟨none, .val 81 (.ints .add (.t 73) (.c (iv 1)))⟩,
  ⟨none, .val 73 (.mv (.t 81))⟩] false [.forget [81]]
abbrev zJc : HCode := .reg [⟨none, .val 82 (.ints .add (.t 28) (.c (iv 1)))⟩,
  ⟨none, .val 28 (.mv (.t 82))⟩] false [.forget [82]]
abbrev zNf : HCode := (.seq (.seq zJ4 (.cond (.t 23) (.seq zJ5 .ret) .skip)) (.seq zJ6 (.block 0 (.loop (.seq zJ7 (.seq (.cond (.t 29) .skip (.exit 0)) (.seq (.block 1 (.seq zJ8 (.seq (.seq zJ9 (.cond (.t 51) (.seq zKa .ret) .skip)) (.seq (.seq zKb (.block 2 (.loop (.seq zKc (.seq (.cond (.t 58) .skip (.exit 2)) (.seq (.block 3 (.seq zKd zI5)) zI6)))))) (.seq zI7 (.block 4 (.loop (.seq zI8 (.seq (.cond (.t 74) .skip (.exit 4)) (.seq (.block 5 (.seq zI9 zJa)) zJb)))))))))) zJc)))))))
abbrev zCI : Env := { N := 83, Γ := [(83, 5), (88, 2), (90, 2)], L := 92, nfix := 1 }
abbrev zLi : List RSrc := []
theorem zKe {base : Nat} {av : List AV} {r : RV} (hfo : zAB zCI base av) (hW : AVs.fits av → hwp Tryd.prog zNf (zCH zCI base av zLi r) (F0 zCI base av)) (hov : ∀ x, r.res = .ov x → zCj av = 0 := by intro x h; cases h <;> rfl) : Contract Tryd.prog zBu av r :=
 zAb (fn := Tryd.f38) (c := Tryd.f38.body.getD .skip) (by kernel_rfl) (by kernel_rfl) (by kernel_rfl) (by kernel_rfl) (by kernel_rfl) (by kernel_rfl) (by kernel_rfl) hfo hW hov
abbrev zKf : HCode := .reg [⟨none, .val 4 (.boxF (.t 1))⟩] false []
abbrev zKg : HCode := .reg [⟨none, .val 10 (.fldR (.t 4) 1 1)⟩,
  ⟨none, .val 11 (.ldR (.t 10) 1 false)⟩,
  ⟨none, .val 12 (.len false (.t 11))⟩,
  ⟨none, .val 13 (.ints .gtr (.t 12) (.c (iv 6)))⟩] false [.forget [10, 11, 12]]
abbrev zKh : HCode := .reg [⟨none, .val 14 (.mv (.t 0))⟩,
  ⟨none, .call (some 15) zAp [(.t 14, .i 0 121 5), (.c (bv true), .v), (.c (iv 2), .v)]⟩] false [.forget [14, 15]]
abbrev zKi : HCode := .reg [⟨none, .val 16 (.mv (.t 0))⟩,
  ⟨none, .val 17 (.fldR (.t 4) 0 1)⟩,
  ⟨none, .val 18 (.ldR (.t 17) 1 false)⟩,
  ⟨none, .val 19 (.strs .neq (.t 18) (.c (sv [])))⟩,
  ⟨none, .val 20 (.mv (.t 19))⟩,
  ⟨some (20, true), .val 21 (.fldR (.t 4) 0 1)⟩,
  ⟨some (20, true), .val 22 (.ldR (.t 21) 1 false)⟩,
  ⟨some (20, true), .call (some 23) zCk [(.t 22, .v)]⟩,
  ⟨some (20, true), .val 24 (.not (.t 23))⟩,
  ⟨none, .val 25 (.pick (.t 20) (.t 24) (.c (bv false)))⟩,
  ⟨none, .call (some 26) zAp [(.t 16, .i 0 121 5), (.t 25, .v), (.c (iv 1), .v)]⟩] false [.forget [16, 17, 18, 19, 20, 21, 22, 23, 24, 25, 26]]
abbrev zKj : HCode := .reg [⟨none, .val 27 (.fldR (.t 4) 1 1)⟩,
  ⟨none, .val 28 (.ldR (.t 27) 1 false)⟩,
  ⟨none, .val 29 (.len false (.t 28))⟩,
  ⟨none, .val 30 (.mv (.c (iv 0)))⟩] false [.forget [27]]
abbrev zKk : HCode := .reg [⟨none, .val 31 (.ints .lss (.t 30) (.t 29))⟩] false []
abbrev zKl : HCode := .reg [⟨none, .val 32 (.idxA 6 (.t 28) (.t 30))⟩,
  ⟨none, .val 33 (.ldR (.t 32) 6 true)⟩,
  ⟨none, .alloc 7 1 126 [.v (.int .i64 0), .v (mkS []), .v (mkS []), .v (.int .i64 0), .v (.int .i64 0), .nl 2]⟩,
  ⟨none, .sto (.t 7) 1 126 0 6 (.t 33)⟩] false [.frz 1 126 6, .forget [32, 33]]
abbrev zKm : HCode := .reg [⟨none, .val 35 (.fldR (.t 7) 0 1)⟩,
  ⟨none, .val 36 (.ldR (.t 35) 1 false)⟩,
  ⟨none, .call (some 37) zJ1 [(.t 36, .v)]⟩,
  ⟨none, .val 34 (.mv (.t 37))⟩,
  ⟨none, .val 38 (.ext 34 0)⟩,
  ⟨none, .val 39 (.ext 34 1)⟩,
  ⟨none, .alloc 8 2 132 [.v (.bool false), .v (.bool false), .v (.bool false), .v (.bool false)]⟩,
  ⟨none, .sto (.t 8) 2 132 0 4 (.t 38)⟩,
  ⟨none, .val 9 (.mv (.t 39))⟩] false [.frz 2 132 4, .forget [34, 35, 36, 37, 38, 39]]
abbrev zKn : HCode := .reg [⟨none, .val 40 (.mv (.t 0))⟩,
  ⟨none, .val 41 (.mv (.t 9))⟩,
  ⟨none, .val 42 (.not (.t 41))⟩,
  ⟨none, .call (some 43) zAp [(.t 40, .i 0 121 5), (.t 42, .v), (.c (iv 4), .v)]⟩] false [.forget [40, 41, 42, 43]]
abbrev zKo : HCode := .reg [⟨none, .val 44 (.mv (.t 0))⟩,
  ⟨none, .val 45 (.fldR (.t 8) 0 1)⟩,
  ⟨none, .val 46 (.ldR (.t 45) 1 false)⟩,
  ⟨none, .val 47 (.mv (.t 46))⟩,
  ⟨some (47, true), .val 48 (.fldR (.t 7) 1 1)⟩,
  ⟨some (47, true), .val 49 (.ldR (.t 48) 1 false)⟩,
  ⟨some (47, true), .call (some 50) zCk [(.t 49, .v)]⟩,
  ⟨some (47, true), .val 51 (.not (.t 50))⟩,
  ⟨none, .val 52 (.pick (.t 47) (.t 51) (.c (bv false)))⟩,
  ⟨none, .val 53 (.mv (.t 52))⟩,
  ⟨some (53, false), .val 54 (.fldR (.t 8) 0 1)⟩,
  ⟨some (53, false), .val 55 (.ldR (.t 54) 1 false)⟩,
  ⟨some (53, false), .val 56 (.not (.t 55))⟩,
  ⟨some (53, false), .val 57 (.mv (.t 56))⟩,
  ⟨some (57, true), .val 58 (.fldR (.t 7) 1 1)⟩,
  ⟨some (57, true), .val 59 (.ldR (.t 58) 1 false)⟩,
  ⟨some (57, true), .val 60 (.strs .neq (.t 59) (.c (sv [])))⟩,
  ⟨some (53, false), .val 61 (.pick (.t 57) (.t 60) (.c (bv false)))⟩,
  ⟨none, .val 62 (.pick (.t 53) (.c (bv true)) (.t 61))⟩,
  ⟨none, .call (some 63) zAp [(.t 44, .i 0 121 5), (.t 62, .v), (.c (iv 1), .v)]⟩] false [.forget [44, 45, 46, 47, 48, 49, 50, 51, 52, 53, 54, 55, 56, 57, 58, 59, 60, 61, 62, 63]]
abbrev zJd : HCode := .reg [⟨none, .val 64 (.mv (.t 0))⟩,
  ⟨none, .val 65 (.fldR (.t 8) 1 1)⟩,
  ⟨none, .val 66 (.ldR (.t 65) 1 false)⟩,
  ⟨none, .val 67 (.mv (.t 66))⟩,
  ⟨some (67, true), .val 68 (.fldR (.t 7) 2 1)⟩,
  ⟨some (67, true), .val 69 (.ldR (.t 68) 1 false)⟩,
  ⟨some (67, true), .call (some 70) zEx [(.t 69, .v)]⟩,
  ⟨some (67, true), .val 71 (.not (.t 70))⟩,
  ⟨none, .val 72 (.pick (.t 67) (.t 71) (.c (bv false)))⟩,
  ⟨none, .val 73 (.mv (.t 72))⟩,
  ⟨some (73, false), .val 74 (.fldR (.t 8) 1 1)⟩,
  ⟨some (73, false), .val 75 (.ldR (.t 74) 1 false)⟩,
  ⟨some (73, false), .val 76 (.not (.t 75))⟩,
  ⟨some (73, false), .val 77 (.mv (.t 76))⟩,
  ⟨some (77, true), .val 78 (.fldR (.t 7) 2 1)⟩,
  ⟨some (77, true), .val 79 (.ldR (.t 78) 1 false)⟩,
  ⟨some (77, true), .val 80 (.strs .neq (.t 79) (.c (sv [])))⟩,
  ⟨some (73, false), .val 81 (.pick (.t 77) (.t 80) (.c (bv false)))⟩,
  ⟨none, .val 82 (.pick (.t 73) (.c (bv true)) (.t 81))⟩,
  ⟨none, .call (some 83) zAp [(.t 64, .i 0 121 5), (.t 82, .v), (.c (iv 1), .v)]⟩] false [.forget [64, 65, 66, 67, 68, 69, 70, 71, 72, 73, 74, 75, 76, 77, 78, 79, 80, 81, 82, 83]]
abbrev zJe : HCode := .reg [⟨none, .val 84 (.mv (.t 0))⟩,
  ⟨none, .val 85 (.fldR (.t 8) 2 1)⟩,
  ⟨none, .val 86 (.ldR (.t 85) 1 false)⟩,
  ⟨none, .val 87 (.not (.t 86))⟩,
  ⟨none, .val 88 (.mv (.t 87))⟩,
  ⟨some (88, true), .val 89 (.fldR (.t 7) 3 2)⟩,
  ⟨some (88, true), .val 90 (.ldR (.t 89) 2 true)⟩,
  ⟨some (88, true), .val 91 (.bld [.v (.int .i64 0), .v (.int .i64 0)] [])⟩,
  ⟨some (88, true), .val 92 (.steq true [0, 0] (.t 90) (.t 91))⟩,
  ⟨none, .val 93 (.pick (.t 88) (.t 92) (.c (bv false)))⟩,
  ⟨none, .val 94 (.mv (.t 93))⟩,
  ⟨some (94, false), .val 95 (.fldR (.t 8) 3 1)⟩,
  ⟨some (94, false), .val 96 (.ldR (.t 95) 1 false)⟩,
  ⟨some (94, false), .val 97 (.not (.t 96))⟩,
  ⟨some (94, false), .val 98 (.mv (.t 97))⟩,
  ⟨some (98, true), .val 99 (.fldR (.t 7) 5 1)⟩,
  ⟨some (98, true), .val 100 (.ldR (.t 99) 1 false)⟩,
  ⟨some (98, true), .val 101 (.len false (.t 100))⟩,
  ⟨some (98, true), .val 102 (.ints .gtr (.t 101) (.c (iv 0)))⟩,
  ⟨some (94, false), .val 103 (.pick (.t 98) (.t 102) (.c (bv false)))⟩,
  ⟨none, .val 104 (.pick (.t 94) (.c (bv true)) (.t 103))⟩,
  ⟨none, .call (some 105) zAp [(.t 84, .i 0 121 5), (.t 104, .v), (.c (iv 1), .v)]⟩] false [.forget [84, 85, 86, 87, 88, 89, 90, 91, 92, 93, 94, 95, 96, 97, 98, 99, 100, 101, 102, 103, 104, 105]]
abbrev zJf : HCode := .reg [⟨none, .val 106 (.mv (.t 0))⟩,
  ⟨none, .val 107 (.fldR (.t 7) 3 2)⟩,
  ⟨none, .val 108 (.ldR (.t 107) 2 true)⟩,
  ⟨none, .call (some 109) zEC [(.t 108, .v)]⟩,
  ⟨none, .val 110 (.ints .neq (.t 109) (.c (iv 0)))⟩,
  ⟨none, .call (some 111) zAp [(.t 106, .i 0 121 5), (.t 110, .v), (.c (iv 3), .v)]⟩] false [.forget [106, 107, 108, 109, 110, 111]]
abbrev zJg : HCode := .reg [⟨none, .val 112 (.fldR (.t 8) 3 1)⟩,
  ⟨none, .val 113 (.ldR (.t 112) 1 false)⟩] false [.forget [112]]
abbrev zJh : HCode := .reg [⟨none, .val 114 (.mv (.t 0))⟩,
  ⟨none, .val 115 (.fldR (.t 7) 5 1)⟩,
  ⟨none, .val 116 (.ldR (.t 115) 1 false)⟩,
  ⟨none, .val 117 (.mv (.t 2))⟩,
  ⟨none, .val 118 (.ints .add (.t 117) (.c (iv 1)))⟩,
  ⟨none, .call (some 119) zBu [(.t 114, .i 0 121 5), (.t 116, .v), (.t 118, .v)]⟩] false [.forget [114, 115, 116, 117, 118, 119]]
abbrev zJi : HCode := .reg [⟨none, .val 120 (.ints .add (.t 30) (.c (iv 1)))⟩,
  ⟨none, .val 30 (.mv (.t 120))⟩] false [.forget [120]]
abbrev zNg : HCode := (.seq zKf (.seq (.seq zKg (.cond (.t 13) (.seq zKh .ret) .skip)) (.seq zKi (.seq zKj (.block 0 (.loop (.seq zKk (.seq (.cond (.t 31) .skip (.exit 0)) (.seq (.block 1 (.seq zKl (.seq zKm (.seq zKn (.seq zKo (.seq zJd (.seq zJe (.seq zJf (.seq zJg (.cond (.t 113) zJh .skip)))))))))) zJi)))))))))
abbrev zCJ : Env := { N := 121, Γ := [(121, 5), (126, 6), (132, 4)], L := 136, nfix := 1 }
abbrev zLj : List RSrc := []
theorem zKp {base : Nat} {av : List AV} {r : RV} (hfo : zAB zCJ base av) (hW : AVs.fits av → hwp Tryd.prog zNg (zCH zCJ base av zLj r) (F0 zCJ base av)) (hov : ∀ x, r.res = .ov x → zCj av = 0 := by intro x h; cases h <;> rfl) : Contract Tryd.prog zCt av r :=
 zAb (fn := Tryd.f58) (c := Tryd.f58.body.getD .skip) (by kernel_rfl) (by kernel_rfl) (by kernel_rfl) (by kernel_rfl) (by kernel_rfl) (by kernel_rfl) (by kernel_rfl) hfo hW hov
abbrev zOU : HCode := .reg [⟨none, .val 2 (.mv (.c (iv 0)))⟩] false []
abbrev zOV : HCode := .reg [⟨none, .val 6 (.bld [.v (.int .i64 0), .v (.int .i64 0), .v (.int .i64 0), .v (.int .i64 0), .v (.int .i64 0)] [])⟩,
  ⟨none, .box 7 0 24 5 (.t 6)⟩,
  ⟨none, .val 3 (.mv (.t 7))⟩] false [.forget [6, 7]]
abbrev zOW : HCode := .reg [⟨none, .val 8 (.mv (.t 3))⟩,
  ⟨none, .val 9 (.mv (.t 0))⟩,
  ⟨none, .call (some 10) zBu [(.t 8, .i 0 24 5), (.t 9, .v), (.c (iv 1), .v)]⟩] false [.forget [8, 9, 10]]
abbrev zOX : HCode := .reg [⟨none, .call (some 11) zFP []⟩,
  ⟨none, .val 12 (.mv (.c (iv 0)))⟩] false []
abbrev zOY : HCode := .reg [⟨none, .val 13 (.ints .lss (.t 12) (.c (iv 4)))⟩] false []
abbrev zOZ : HCode := .reg [⟨none, .val 14 (.idxV 4 (.t 11) (.t 12))⟩,
  ⟨none, .val 5 (.mv (.t 14))⟩] false [.forget [14]]
abbrev zO0 : HCode := .reg [⟨none, .val 15 (.mv (.t 3))⟩,
  ⟨none, .val 16 (.mv (.t 5))⟩,
  ⟨none, .val 17 (.nilck (.t 15))⟩,
  ⟨none, .val 18 (.fldP (.t 17) 0)⟩,
  ⟨none, .val 19 (.ixB 5 (.t 18) (.t 16))⟩,
  ⟨none, .val 20 (.ldD (.t 19) 0 24 5)⟩,
  ⟨none, .val 21 (.ints .gtr (.t 20) (.c (iv 0)))⟩] false [.forget [15, 16, 17, 18, 19, 20]]
abbrev zO1 : HCode := .reg [⟨none, .val 22 (.mv (.t 5))⟩,
  ⟨none, .val 2 (.mv (.t 22))⟩] false [.forget [22]]
abbrev zO2 : HCode := .reg [⟨none, .val 23 (.ints .add (.t 12) (.c (iv 1)))⟩,
  ⟨none, .val 12 (.mv (.t 23))⟩] false [.forget [23]]
abbrev zO3 : HCode := .reg [⟨none, .val 2 (.mv (.c (iv 0)))⟩] false []
abbrev zUF : HCode := (.seq zOU (.seq zOV (.seq zOW (.seq (.seq zOX (.block 0 (.loop (.seq zOY (.seq (.cond (.t 13) .skip (.exit 0)) (.seq (.block 1 (.seq zOZ (.seq zO0 (.cond (.t 21) (.seq zO1 .ret) .skip)))) zO2)))))) (.seq zO3 .ret)))))
abbrev zEF : Env := { N := 24, Γ := [(24, 5)], L := 29, nfix := 0 }
abbrev zQT : List RSrc := [.tmp 2]
theorem zO4 {base : Nat} {av : List AV} {r : RV} (hfo : zAB zEF base av) (hW : AVs.fits av → hwp Tryd.prog zUF (zCH zEF base av zQT r) (F0 zEF base av)) (hov : ∀ x, r.res = .ov x → zCj av = 0 := by intro x h; cases h <;> rfl) : Contract Tryd.prog zFO av r :=
 zAb (fn := Tryd.f24) (c := Tryd.f24.body.getD .skip) (by kernel_rfl) (by kernel_rfl) (by kernel_rfl) (by kernel_rfl) (by kernel_rfl) (by kernel_rfl) (by kernel_rfl) hfo hW hov
end Go.Hx
end

section
/-
 The abstract code of functions of the program, printed by gen.py; each stands for the given one. No condition.
-/
namespace Go.Hx
open Go.Proofs
variable [Glob]
end Go.Hx
end

section
namespace Go.Hx
open Go.Proofs
variable [Glob]
end Go.Hx
end

section
set_option maxRecDepth 100000
set_option linter.unusedSimpArgs false
namespace Go.Hx
open Go.Proofs
variable [Glob]
end Go.Hx
end

section
set_option maxRecDepth 100000
set_option linter.unusedSimpArgs false
namespace Go.Hx
open Go.Proofs
variable [Glob]
attribute [local go_sem] zAw zAq zAr zAk ndV zAo
attribute [local go_sem] reduceCtorEq Nat.reduceAdd Nat.reduceEqDiff reduceIte Nat.reduceLeDiff Nat.reduceLT Nat.reduceSub
theorem zNh (a b : List Int) : Contract Tryd.prog zD6 [.val (.one (.sl 1 (zDJ a))), .val (.one (.sl 1 (zDJ b)))] { res := .val (bv (decide (a = b))) } := by
 refine zMI (base := 0) ⟨Nat.le_of_ble_eq_true rfl, Nat.le_of_ble_eq_true rfl, Nat.le_of_ble_eq_true rfl, rfl⟩ (fun hfit => ?_)
 unfold F0 zDx
 simp (maxSteps := 2000000) only [zAV, List.set_cons_succ, List.set_cons_zero, List.map_cons, List.map_nil, zAU, zAa, ioOf, List.length_cons, List.length_nil, Nat.reduceAdd, Nat.reduceSub, List.replicate, List.cons_append, List.nil_append]
 try simp (maxSteps := 2000000) only [go_sem]
 repeat with_reducible refine zAd ?_
 have hm := zGp (k := 1) hfit.1
 rw [zAk] at hm
 refine zAe (by rfl) trivial (fun h => ?_) (fun h => ?_)
 ·try simp (maxSteps := 2000000) only [go_sem]
  repeat with_reducible refine zAd ?_
  refine zAg rfl trivial (.inl ?_)
  congr 3
  simp [zAk] at h
  exact decide_eq_false (fun e => h (by subst e; rfl))
 have hl : a.length = b.length := by simp [zAk] at h; omega
 try simp (maxSteps := 2000000) only [go_sem]
 repeat with_reducible refine zAd ?_
 refine zAE (fun i : Nat => [(5, .pv (iv i)), (14, .un), (25, .un)]) (fun i => a.length - i) (fun i => i ≤ a.length ∧ a.take i = b.take i) 0 ?_ ⟨Nat.zero_le _, rfl⟩ ?_
 ·simp (maxSteps := 2000000) only [go_sem, zAl, zAu, zAT, zAm]
 intro i ⟨hi, heq⟩
 try simp (maxSteps := 2000000) only [go_sem, zAk]
 repeat with_reducible refine zAd ?_
 refine zAe (by rfl) trivial (fun h2 => ?_) (fun h2 => ?_)
 ·have hlt : i < a.length := by simpa using h2
  have hltb : i < b.length := by omega
  try simp (maxSteps := 2000000) only [go_sem, zGn _ _ hlt, zGn _ _ hltb, zAk]
  repeat with_reducible refine zAd ?_
  refine zAe (by rfl) trivial (fun h3 => ?_) (fun h3 => ?_)
  ·try simp (maxSteps := 2000000) only [go_sem]
   repeat with_reducible refine zAd ?_
   refine zAg rfl trivial (.inl ?_)
   congr 3
   simp only [bne_iff_ne, ne_eq] at h3
   exact (decide_eq_false (zUk 0 h3))
  ·try simp (maxSteps := 2000000) only [go_sem]
   repeat with_reducible refine zAd ?_
   refine ⟨i + 1, by omega, ⟨hlt, zP6 0 heq hlt hltb ?_⟩, ?_⟩
   ·simpa only [bne_eq_false_iff_eq] using h3
   ·simp (maxSteps := 2000000) only [go_sem, zAl, zAu, zAT, zAm]
    exact zAs (by omega)
 ·try simp (maxSteps := 2000000) only [go_sem]
  repeat with_reducible refine zAd ?_
  refine zAg rfl trivial (.inl ?_)
  congr 3
  have hi2 : i = a.length := by simp at h2; omega
  subst hi2
  exact decide_eq_true (zUl hl heq)
end Go.Hx
end

section
set_option maxRecDepth 100000
set_option linter.unusedSimpArgs false
namespace Go.Hx
open Go.Proofs
variable [Glob]
end Go.Hx
end

section
set_option maxRecDepth 100000
set_option linter.unusedSimpArgs false
namespace Go.Hx
open Go.Proofs
variable [Glob]
attribute [local go_sem] zAw zAq zAr zAk ndV zAo
theorem zNN {d : List Nd} {i : Nat} : zD4 d (i + 1) = (zD4 d i && zUm d i) := zEP
end Go.Hx
end

section
set_option maxRecDepth 100000
set_option linter.unusedSimpArgs false
namespace Go.Hx
open Go.Proofs
variable [Glob]
attribute [local go_sem] zAw zAq zAr zAk ndV zAo
def zXM (d : List Nd) (k : Int) : Int := if zAS d = 0 then (if 0 ≤ k ∧ k ≤ (d.length : Int) - 1 then 0 else 5) else zAS d
def zAP (d : List Nd) (n : Int) (k : Nat) : Int := ((List.range k).filter fun i => (zBD d d.length (zBb d i)).contains n).length
def zCB (d : List Nd) (n : Int) : Int := zAP d n d.length
theorem zGG {d : List Nd} {n : Int} {k : Nat} : zAP d n (k + 1) = zAP d n k + (if (zBD d d.length (zBb d k)).contains n then 1 else 0) := by
 unfold zAP
 rw [List.range_succ, List.filter_append, List.length_append, List.filter_cons, List.filter_nil]
 split <;> simp
theorem zDX {d : List Nd} {n : Int} : ∀ k : Nat, 0 ≤ zAP d n k ∧ zAP d n k ≤ k
 |0 => by simp [zAP]
 |k + 1 => by have := zDX (d := d) (n := n) k; rw [zGG]; split <;> omega
def zAG (d : List Nd) (n : Int) (k : Nat) : List Int := ((List.range k).filter fun i => decide (zBb d i = n)).map Int.ofNat
def zGH (d : List Nd) (n : Int) : List Int := zAG d n d.length
theorem zAQ {d : List Nd} {n : Int} {k : Nat} : zAG d n (k + 1) = if zBb d k = n then zAG d n k ++ [(k : Int)] else zAG d n k := by
 unfold zAG
 rw [List.range_succ, List.filter_append, List.map_append]
 by_cases h : zBb d k = n <;> simp [List.filter, h]
theorem zFa {d : List Nd} {n : Int} (k : Nat) : (zAG d n k).length ≤ k := by
 unfold zAG
 rw [List.length_map]
 exact Nat.le_trans (List.length_filter_le _ _) (by simp)
end Go.Hx
end

section
set_option maxRecDepth 100000
set_option linter.unusedSimpArgs false
namespace Go.Hx
open Go.Proofs
variable [Glob]
attribute [local go_sem] zAw zAq zAr zAk ndV zAo zAh
attribute [local go_sem] reduceCtorEq Nat.reduceAdd Nat.reduceEqDiff reduceIte Nat.reduceLeDiff Nat.reduceLT Nat.reduceSub
theorem zY3 {a b : Int} (h : zOy a b = 0) : (-1048576 ≤ a ∧ a ≤ 1048576) ∧ (-1048576 ≤ b ∧ b ≤ 1048576) := by
 unfold zOy at h
 split at h
 ·rename_i h1; simpa [zOx] using h1
 ·cases h
def yAY (a b : Int) : PVal := .agg [bI a, bI b]
theorem zMK (a b : Int) : Contract Tryd.prog zEC [.val (yAY a b)] { res := .val (iv (zOy a b)) } := by
 unfold yAY
 refine zQJ (base := 0) ⟨Nat.le_of_ble_eq_true rfl, Nat.le_of_ble_eq_true rfl, Nat.le_of_ble_eq_true rfl, rfl⟩ (fun hfit => ?_)
 unfold F0 zFM
 simp (maxSteps := 2000000) only [zAV, List.set_cons_succ, List.set_cons_zero, List.map_cons, List.map_nil, zAU, zAa, ioOf, List.length_cons, List.length_nil, Nat.reduceAdd, Nat.reduceSub, List.replicate, List.cons_append, List.nil_append]
 try simp (maxSteps := 2000000) only [go_sem]
 repeat with_reducible refine zAd ?_
 refine zAE (fun i : Nat => [(4, .un), (10, .pv (iv i)), (11, .un), (18, .un)]) (fun i : Nat => 2 - i) (fun i : Nat => i ≤ 2 ∧ (1 ≤ i → zOx a = true) ∧ (2 ≤ i → zOx b = true)) (0) ?_ ⟨by omega, by omega, by omega⟩ ?_
 focus (simp (maxSteps := 2000000) only [go_sem, zAl, zAu, zAT, zAm]; all_goals (repeat' (first | exact trivial | exact zAs (by omega) | exact zAn rfl | exact zAD rfl | exact zAx | exact le_refl _ | refine And.intro ?_ ?_)))
 intro i hi
 obtain ⟨h1, h2, h3⟩ := hi
 try simp (maxSteps := 2000000) only [go_sem]
 repeat with_reducible refine zAd ?_
 refine zAe (by rfl) trivial (fun h => ?_) (fun h => ?_)
 ·have hlt : i < 2 := by simp at h; omega
  have hcase : i = 0 ∨ i = 1 := by omega
  rcases hcase with rfl | rfl
  ·try simp (maxSteps := 2000000) only [go_sem, List.getD_cons_zero, Int.toNat_natCast, Int.cast_ofNat_Int, Int.toNat_zero, PV.norm]
   repeat with_reducible refine zAd ?_
   refine zAe (by rfl) trivial (fun h9 => ?_) (fun h9 => ?_)
   ·try simp (maxSteps := 2000000) only [go_sem]
    repeat with_reducible refine zAd ?_
    refine zAg rfl trivial (.inl ?_)
    congr 3
    unfold zOy
    rw [if_neg]
    simp [zOx] at h9 ⊢
    omega
   ·try simp (maxSteps := 2000000) only [go_sem]
    repeat with_reducible refine zAd ?_
    refine ⟨1, by omega, ⟨by omega, fun _ => ?_, by omega⟩, ?_⟩
    ·simp [zOx] at h9 ⊢; omega
    ·simp (maxSteps := 2000000) only [go_sem, zAl, zAu, zAT, zAm]
     all_goals (repeat' (first | exact trivial | exact zAs (by omega) | exact zAn rfl | exact zAD rfl | exact zAx | exact le_refl _ | refine And.intro ?_ ?_))
  ·try simp (maxSteps := 2000000) only [go_sem, List.getD_cons_zero, List.getD_cons_succ, Int.toNat_natCast, Int.cast_ofNat_Int, Int.toNat_one, PV.norm]
   repeat with_reducible refine zAd ?_
   refine zAe (by rfl) trivial (fun h9 => ?_) (fun h9 => ?_)
   ·try simp (maxSteps := 2000000) only [go_sem]
    repeat with_reducible refine zAd ?_
    refine zAg rfl trivial (.inl ?_)
    congr 3
    unfold zOy
    rw [if_neg]
    simp [zOx] at h9 ⊢
    omega
   ·try simp (maxSteps := 2000000) only [go_sem]
    repeat with_reducible refine zAd ?_
    refine ⟨2, by omega, ⟨by omega, fun _ => h2 (by omega), fun _ => ?_⟩, ?_⟩
    ·simp [zOx] at h9 ⊢; omega
    ·simp (maxSteps := 2000000) only [go_sem, zAl, zAu, zAT, zAm]
     all_goals (repeat' (first | exact trivial | exact zAs (by omega) | exact zAn rfl | exact zAD rfl | exact zAx | exact le_refl _ | refine And.intro ?_ ?_))
 ·try simp (maxSteps := 2000000) only [go_sem]
  repeat with_reducible refine zAd ?_
  have : i = 2 := by simp at h; omega
  refine zAg rfl trivial (.inl ?_)
  congr 3
  unfold zOy
  rw [h2 (by omega), h3 (by omega)]
  rfl
def zEG (a b i : Int) : Bool := decide (zOy a b = 0 ∧ 1 ≤ i ∧ i ≤ 1073741824) && (if a = 0 then decide (i - b = 0) else decide ((i - b).tmod a = 0) && decide (0 ≤ (i - b).tdiv a))
theorem zUG {x y : Int} (h1 : -2147483648 ≤ x) (h2 : x ≤ 2147483648) : -2147483648 ≤ x.tdiv y ∧ x.tdiv y ≤ 2147483648 := by
 have h := Int.natAbs_tdiv_le_natAbs x y
 omega
theorem zML (a b i : Int) : Contract Tryd.prog zED [.val (yAY a b), .val (iv i)] { res := .val (bv (zEG a b i)) } := by
 unfold yAY
 refine zQR (base := 0) ⟨Nat.le_of_ble_eq_true rfl, Nat.le_of_ble_eq_true rfl, Nat.le_of_ble_eq_true rfl, rfl⟩ (fun hfit => ?_)
 unfold F0 zFN
 simp (maxSteps := 2000000) only [zAV, List.set_cons_succ, List.set_cons_zero, List.map_cons, List.map_nil, zAU, zAa, ioOf, List.length_cons, List.length_nil, Nat.reduceAdd, Nat.reduceSub, List.replicate, List.cons_append, List.nil_append]
 try simp (maxSteps := 2000000) only [go_sem]
 repeat with_reducible refine zAd ?_
 refine zAv (by repeat' constructor) (zMK a b) ?_
 try simp (maxSteps := 2000000) only [go_sem]
 repeat with_reducible refine zAd ?_
 refine zAe (by rfl) trivial (fun h => ?_) (fun h => ?_)
 ·try simp (maxSteps := 2000000) only [go_sem]
  repeat with_reducible refine zAd ?_
  refine zAg rfl trivial (.inl ?_)
  congr 3
  unfold zEG
  rw [decide_eq_false]
  ·rfl
  ·simp at h; omega
 have h2 : zOy a b = 0 ∧ 1 ≤ i ∧ i ≤ 1073741824 := by simp at h; omega
 obtain ⟨h3, h4⟩ := zY3 h2.1
 try simp (maxSteps := 2000000) only [go_sem]
 repeat with_reducible refine zAd ?_
 have hh : zEG a b i = (if a = 0 then decide (i - b = 0) else decide ((i - b).tmod a = 0) && decide (0 ≤ (i - b).tdiv a)) := by
  unfold zEG
  rw [decide_eq_true h2, Bool.true_and]
 refine zAe (by rfl) trivial (fun h5 => ?_) (fun h5 => ?_)
 ·try simp (maxSteps := 2000000) only [go_sem]
  repeat with_reducible refine zAd ?_
  refine zAg rfl trivial (.inl ?_)
  congr 3
  rw [hh, if_pos (by simpa using h5)]
  grind
 ·have ha : a ≠ 0 := by simpa using h5
  have hd := zUG (x := i - b) (y := a) (by omega) (by omega)
  try simp (maxSteps := 2000000) only [go_sem, ha]
  repeat with_reducible refine zAd ?_
  refine zAg rfl trivial (.inl ?_)
  congr 3
  rw [hh, if_neg ha]
  grind
def zLX (a b i : Int) : Bool := if zOy a b = 0 ∧ 1 ≤ i ∧ i ≤ 1073741824 then (if a = 0 ∨ i = b then decide (i = b) else if 0 < a then decide (b < i) && decide ((i - b).tmod a = 0) else decide (i < b) && decide ((b - i).tmod (-a) = 0)) else false
end Go.Hx
end

section
set_option maxRecDepth 100000
set_option linter.unusedSimpArgs false
namespace Go.Hx
open Go.Proofs
variable [Glob]
attribute [local go_sem] zAw zAq zAr zAk ndV zAo zAh zHq
end Go.Hx
end

section
set_option maxRecDepth 100000
set_option linter.unusedSimpArgs false
namespace Go.Hx
open Go.Proofs
variable [Glob]
attribute [local go_sem] zAw zAq zAr zAk ndV zAo zAh zHq
end Go.Hx
end

section
set_option maxRecDepth 100000
set_option linter.unusedSimpArgs false
namespace Go.Hx
open Go.Proofs
variable [Glob]
attribute [local go_sem] zAw zAq zAr zAk ndV zAo zAh zHq List.take_nil
end Go.Hx
end

section
set_option maxRecDepth 100000
set_option linter.unusedSimpArgs false
namespace Go.Hx
open Go.Proofs
variable [Glob]
attribute [local go_sem] zAw zAq zAr zAk ndV zAo zAh zHq List.take_nil
end Go.Hx
end

section
set_option maxRecDepth 100000
set_option linter.unusedSimpArgs false
namespace Go.Hx
open Go.Proofs
variable [Glob]
attribute [local go_sem] zAw zAq zAr zAk ndV zAo zAh zHq List.take_nil zBM zBH
end Go.Hx
end

section
set_option maxRecDepth 100000
set_option linter.unusedSimpArgs false
namespace Go.Hx
open Go.Proofs
variable [Glob]
attribute [local go_sem] zAw zAq zAr zAk ndV zAo zAh zHq List.take_nil zA0
theorem zY4 : ∀ {l : List Pt} {e : Nat}, GPs l e → ∀ p ∈ l, GP p e := fun h p hp => by
 obtain ⟨i, hi, rfl⟩ := List.getElem_of_mem hp
 have := h.get i hi
 simpa [hi] using this
theorem zY5 : ∀ {l : List St} {e : Nat}, GSs l e → ∀ p ∈ l, GS p e := fun h p hp => by
 obtain ⟨i, hi, rfl⟩ := List.getElem_of_mem hp
 have := h.get i hi
 simpa [hi] using this
theorem zY6 : ∀ {l : List Ts} {e : Nat}, GTs l e → ∀ p ∈ l, GT p e := fun h p hp => by
 obtain ⟨i, hi, rfl⟩ := List.getElem_of_mem hp
 have := h.get i hi
 simpa [hi] using this
end Go.Hx
end

section
set_option maxRecDepth 100000
set_option linter.unusedSimpArgs false
namespace Go.Hx
open Go.Proofs
variable [Glob]
attribute [local go_sem] zAw zAq zAr zAk ndV zAo zAh fdV Fd.add fM fF fR fK Nat.add_zero
attribute [local go_sem] reduceCtorEq Nat.reduceAdd Nat.reduceEqDiff reduceIte Nat.reduceLeDiff Nat.reduceLT Nat.reduceSub
theorem zCa {F : List Ct} {E : Env} {base : Nat} {av : List AV} {cells io : List PV} (hio : ioOf av = some cells) (hc : zAZ F base cells.length = some io) : zCH E base av [] { res := .tup [], io := io } .normal F :=
 ⟨rfl, fun cs h => by rw [hio] at h; injection h with h; subst h; exact hc⟩
theorem zO5 (c : Fd) (b : Bool) (h : c.m ≤ 1000000000) : Contract Tryd.prog zAp [.io (fdV c), .val (bv b), .val (iv 2)] { res := .tup [], io := fdV (c.add (fM b)) } := by
 unfold fdV
 refine zCu (base := 17) ⟨Nat.le_of_ble_eq_true rfl, Nat.le_of_ble_eq_true rfl, Nat.le_of_ble_eq_true rfl, ⟨rfl, rfl⟩⟩ (fun hfit => ?_)
 unfold F0 zBm
 simp (maxSteps := 2000000) only [zAV, List.set_cons_succ, List.set_cons_zero, List.map_cons, List.map_nil, zAU, zAa, ioOf, List.length_cons, List.length_nil, Nat.reduceAdd, Nat.reduceSub, List.replicate, List.cons_append, List.nil_append]
 try simp (maxSteps := 2000000) only [go_sem]
 repeat with_reducible refine zAd ?_
 refine zAe (by rfl) trivial (fun hb => ?_) (fun hb => ?_)
 ·subst hb
  try simp (maxSteps := 2000000) only [go_sem, Int.reduceToNat]
  repeat with_reducible refine zAd ?_
  exact zCa rfl rfl
 ·subst hb
  try simp (maxSteps := 2000000) only [go_sem]
  repeat with_reducible refine zAd ?_
  exact zCa rfl rfl
theorem zLY (c : Fd) (b : Bool) (h : c.f ≤ 1000000000) : Contract Tryd.prog zAp [.io (fdV c), .val (bv b), .val (iv 1)] { res := .tup [], io := fdV (c.add (fF b)) } := by
 unfold fdV
 refine zCu (base := 17) ⟨Nat.le_of_ble_eq_true rfl, Nat.le_of_ble_eq_true rfl, Nat.le_of_ble_eq_true rfl, ⟨rfl, rfl⟩⟩ (fun hfit => ?_)
 unfold F0 zBm
 simp (maxSteps := 2000000) only [zAV, List.set_cons_succ, List.set_cons_zero, List.map_cons, List.map_nil, zAU, zAa, ioOf, List.length_cons, List.length_nil, Nat.reduceAdd, Nat.reduceSub, List.replicate, List.cons_append, List.nil_append]
 try simp (maxSteps := 2000000) only [go_sem]
 repeat with_reducible refine zAd ?_
 refine zAe (by rfl) trivial (fun hb => ?_) (fun hb => ?_)
 ·subst hb
  try simp (maxSteps := 2000000) only [go_sem, Int.reduceToNat]
  repeat with_reducible refine zAd ?_
  exact zCa rfl rfl
 ·subst hb
  try simp (maxSteps := 2000000) only [go_sem]
  repeat with_reducible refine zAd ?_
  exact zCa rfl rfl
theorem zW2 (c : Fd) (b : Bool) (h : c.r ≤ 1000000000) : Contract Tryd.prog zAp [.io (fdV c), .val (bv b), .val (iv 3)] { res := .tup [], io := fdV (c.add (fR b)) } := by
 unfold fdV
 refine zCu (base := 17) ⟨Nat.le_of_ble_eq_true rfl, Nat.le_of_ble_eq_true rfl, Nat.le_of_ble_eq_true rfl, ⟨rfl, rfl⟩⟩ (fun hfit => ?_)
 unfold F0 zBm
 simp (maxSteps := 2000000) only [zAV, List.set_cons_succ, List.set_cons_zero, List.map_cons, List.map_nil, zAU, zAa, ioOf, List.length_cons, List.length_nil, Nat.reduceAdd, Nat.reduceSub, List.replicate, List.cons_append, List.nil_append]
 try simp (maxSteps := 2000000) only [go_sem]
 repeat with_reducible refine zAd ?_
 refine zAe (by rfl) trivial (fun hb => ?_) (fun hb => ?_)
 ·subst hb
  try simp (maxSteps := 2000000) only [go_sem, Int.reduceToNat]
  repeat with_reducible refine zAd ?_
  exact zCa rfl rfl
 ·subst hb
  try simp (maxSteps := 2000000) only [go_sem]
  repeat with_reducible refine zAd ?_
  exact zCa rfl rfl
theorem zTU (c : Fd) (b : Bool) (h : c.k ≤ 1000000000) : Contract Tryd.prog zAp [.io (fdV c), .val (bv b), .val (iv 4)] { res := .tup [], io := fdV (c.add (fK b)) } := by
 unfold fdV
 refine zCu (base := 17) ⟨Nat.le_of_ble_eq_true rfl, Nat.le_of_ble_eq_true rfl, Nat.le_of_ble_eq_true rfl, ⟨rfl, rfl⟩⟩ (fun hfit => ?_)
 unfold F0 zBm
 simp (maxSteps := 2000000) only [zAV, List.set_cons_succ, List.set_cons_zero, List.map_cons, List.map_nil, zAU, zAa, ioOf, List.length_cons, List.length_nil, Nat.reduceAdd, Nat.reduceSub, List.replicate, List.cons_append, List.nil_append]
 try simp (maxSteps := 2000000) only [go_sem]
 repeat with_reducible refine zAd ?_
 refine zAe (by rfl) trivial (fun hb => ?_) (fun hb => ?_)
 ·subst hb
  try simp (maxSteps := 2000000) only [go_sem, Int.reduceToNat]
  repeat with_reducible refine zAd ?_
  exact zCa rfl rfl
 ·subst hb
  try simp (maxSteps := 2000000) only [go_sem]
  repeat with_reducible refine zAd ?_
  exact zCa rfl rfl
def shV (k : Int) : PVal := .agg [bB (zVC k), bB (zQa k), bB (yBd k), bB (zJ0 k)]
def kOk (k : Int) : Bool := decide (1 ≤ k ∧ k ≤ 15)
theorem zVN (k : Int) : Contract Tryd.prog zJ1 [.val (iv k)] { res := .tup [shV k, bv (kOk k)] } := by
 refine zUD (base := 0) ⟨Nat.le_of_ble_eq_true rfl, Nat.le_of_ble_eq_true rfl, Nat.le_of_ble_eq_true rfl, rfl⟩ (fun hfit => ?_)
 unfold F0 zI4
 simp (maxSteps := 2000000) only [zAV, List.set_cons_succ, List.set_cons_zero, List.map_cons, List.map_nil, zAU, zAa, ioOf, List.length_cons, List.length_nil, Nat.reduceAdd, Nat.reduceSub, List.replicate, List.cons_append, List.nil_append]
 try simp (maxSteps := 2000000) only [go_sem]
 repeat with_reducible refine zAd ?_
 by_cases hk : 1 ≤ k ∧ k ≤ 15
 ·have hn : k = 1 ∨ k = 2 ∨ k = 3 ∨ k = 4 ∨ k = 5 ∨ k = 6 ∨ k = 7 ∨ k = 8 ∨ k = 9 ∨ k = 10 ∨ k = 11 ∨ k = 12 ∨ k = 13 ∨ k = 14 ∨ k = 15 := by omega
  rcases hn with rfl | rfl | rfl | rfl | rfl | rfl | rfl | rfl | rfl | rfl | rfl | rfl | rfl | rfl | rfl
  all_goals
   repeat (first | (refine yAy (by rfl) trivial ?_; (try simp (maxSteps := 2000000) only [go_sem])) | (refine zVt (by rfl) trivial ?_; (try simp (maxSteps := 2000000) only [go_sem])))
   exact zBU (by simp) ⟨zTK rfl rfl (.inl rfl), zAW rfl trivial (.inl rfl), rfl⟩
 ·have e : ∀ n : Int, 1 ≤ n → n ≤ 15 → (k == n) = false := by intro n h1 h2; simp; omega
  have hs : shV k = .agg [bB false, bB false, bB false, bB false] := by
   unfold shV
   congr 2
   ·unfold zVC; congr 2; simp; omega
   ·congr 1
    ·unfold zQa; congr 2; simp; omega
    ·congr 1
     ·unfold yBd; congr 2; simp; omega
     ·congr 1
      unfold zJ0; congr 2; simp; omega
  have ho : kOk k = false := by unfold kOk; simp; omega
  rw [hs, ho]
  try simp (maxSteps := 2000000) only [go_sem, e 1 (by omega) (by omega), e 2 (by omega) (by omega), e 3 (by omega) (by omega), e 4 (by omega) (by omega), e 5 (by omega) (by omega), e 6 (by omega) (by omega), e 7 (by omega) (by omega), e 8 (by omega) (by omega), e 9 (by omega) (by omega), e 10 (by omega) (by omega), e 11 (by omega) (by omega), e 12 (by omega) (by omega), e 13 (by omega) (by omega), e 14 (by omega) (by omega), e 15 (by omega) (by omega)]
  repeat (refine zVt (by rfl) trivial ?_; (try simp (maxSteps := 2000000) only [go_sem, e 1 (by omega) (by omega), e 2 (by omega) (by omega), e 3 (by omega) (by omega), e 4 (by omega) (by omega), e 5 (by omega) (by omega), e 6 (by omega) (by omega), e 7 (by omega) (by omega), e 8 (by omega) (by omega), e 9 (by omega) (by omega), e 10 (by omega) (by omega), e 11 (by omega) (by omega), e 12 (by omega) (by omega), e 13 (by omega) (by omega), e 14 (by omega) (by omega), e 15 (by omega) (by omega)]))
  exact zBU (by simp) ⟨zTK rfl rfl (.inl rfl), zAW rfl trivial (.inl rfl), rfl⟩
theorem zQU : Contract Tryd.prog zFP [] { res := .val (.agg [bI 2, bI 4, bI 1, bI 3]) } := by
 refine zOT (base := 0) ⟨Nat.le_of_ble_eq_true rfl, Nat.le_of_ble_eq_true rfl, Nat.le_of_ble_eq_true rfl, rfl⟩ (fun hfit => ?_)
 unfold F0 zEE
 simp (maxSteps := 2000000) only [zAV, List.set_cons_succ, List.set_cons_zero, List.map_cons, List.map_nil, zAU, zAa, ioOf, List.length_cons, List.length_nil, Nat.reduceAdd, Nat.reduceSub, List.replicate, List.cons_append, List.nil_append]
 try simp (maxSteps := 2000000) only [go_sem]
 repeat with_reducible refine zAd ?_
 exact zP5 rfl rfl rfl
end Go.Hx
end

section
set_option maxRecDepth 100000
set_option linter.unusedSimpArgs false
namespace Go.Hx
open Go.Proofs
variable [Glob]
attribute [local go_sem] zAw zAq zAr zAk ndV zAo zAh fdV zBd zA0 zBM zBH
attribute [local go_sem] reduceCtorEq Nat.reduceAdd Nat.reduceEqDiff reduceIte Nat.reduceLeDiff Nat.reduceLT Nat.reduceSub
theorem zLZ {α : Type} {d : α} {l : List α} {i : Nat} (h : i < l.length) : l.drop i = l.getD i d :: l.drop (i + 1) := by
 rw [List.drop_eq_getElem_cons h]
 simp [h]
def yCq (P : Program) (N : Nat) : Prop :=
 (∀ (l : List Pt) (d K : Nat) (c : Fd), SizeOf.sizeOf l ≤ N → d ≤ 4 → c.le K → K + bd d ≤ 1000000000 → Contract P zBu [.io (fdV c), .val (zBd l), .val (iv d)] { res := .tup [], io := fdV (c.add (ntL l d)) }) ∧
 (∀ (s : St) (d K : Nat) (c : Fd), SizeOf.sizeOf s ≤ N → d ≤ 3 → c.le K → K + bdS d ≤ 1000000000 → Contract P zCt [.io (fdV c), .val (.agg (stV s)), .val (iv d)] { res := .tup [], io := fdV (c.add (ntS s d)) })
theorem zVO (N : Nat) (ih : yCq Tryd.prog N) (l : List Pt) (d K : Nat) (c : Fd) (hN : SizeOf.sizeOf l ≤ N + 1) (hd : d ≤ 4) (hc : c.le K) (hK : K + bd d ≤ 1000000000) : Contract Tryd.prog zBu [.io (fdV c), .val (zBd l), .val (iv d)] { res := .tup [], io := fdV (c.add (ntL l d)) } := by
 unfold fdV zBd
 refine zKe (base := 83) ⟨Nat.le_of_ble_eq_true rfl, Nat.le_of_ble_eq_true rfl, Nat.le_of_ble_eq_true rfl, ⟨rfl, rfl⟩⟩ (fun hfit => ?_)
 unfold F0 zCI
 simp (maxSteps := 2000000) only [zAV, List.set_cons_succ, List.set_cons_zero, List.map_cons, List.map_nil, zAU, zAa, ioOf, List.length_cons, List.length_nil, Nat.reduceAdd, Nat.reduceSub, List.replicate, List.cons_append, List.nil_append]
 try simp (maxSteps := 2000000) only [go_sem]
 repeat with_reducible refine zAd ?_
 have hlb : (bif bif decide (3 < (d : Int)) then true else decide ((l.length : Int) < 1) then true else decide (5 < (l.length : Int))) = zGr l d := by
  have e1 : decide (3 < (d : Int)) = decide (3 < d) := decide_eq_decide.2 (by omega)
  have e2 : decide ((l.length : Int) < 1) = decide (l.length < 1) := decide_eq_decide.2 (by omega)
  have e3 : decide (5 < (l.length : Int)) = decide (5 < l.length) := decide_eq_decide.2 (by omega)
  unfold zGr
  rw [e1, e2, e3]
  cases decide (3 < d) <;> cases decide (l.length < 1) <;> rfl
 refine zAe (by rfl) trivial (fun h => ?_) (fun h => ?_)
 ·rw [hlb] at h
  have e : ntL l d = fM true := by unfold ntL; rw [if_pos h]
  try simp (maxSteps := 2000000) only [go_sem]
  repeat with_reducible refine zAd ?_
  have hb1 := zOz (4 - d)
  have hb2 : bd d = bdF (4 - d) := rfl
  have hm := hc.m
  refine zDu (by repeat' constructor) (zO5 c true (by omega)) ?_
  try simp (maxSteps := 2000000) only [go_sem]
  repeat with_reducible refine zAd ?_
  rw [e]
  exact zOv rfl rfl
 ·rw [hlb] at h
  have e : ntL l d = zRU l d := by unfold ntL; rw [if_neg (by rw [h]; simp)]
  rw [e]
  have hd3 : d ≤ 3 ∧ l.length ≤ 5 := by
   simp only [zGr, Bool.or_eq_false_iff, decide_eq_false_iff_not] at h
   omega
  have hbd := zYX hd3.1
  try simp (maxSteps := 2000000) only [go_sem]
  repeat with_reducible refine zAd ?_
  have hK0 : K + (1 + (l.length - 0) * bdP d) ≤ 1000000000 := by
   have : (l.length - 0) * bdP d ≤ 5 * bdP d := Nat.mul_le_mul_right _ (by omega)
   omega
  refine zAE (fun x : Nat × Fd => [(7, .un), (9, .un), (11, .un), (28, .pv (iv x.1)), (29, .un), (51, .un), (55, .un), (56, .un), (57, .un), (58, .un), (71, .un), (72, .un), (73, .un), (74, .un), (84, .pv (.one (bI x.2.f))), (85, .pv (.one (bI x.2.m))), (86, .pv (.one (bI x.2.r))), (87, .pv (.one (bI x.2.k))), (90, .un), (91, .un)]) (fun x : Nat × Fd => l.length - x.1) (fun x : Nat × Fd => x.1 ≤ l.length ∧ (∃ K', x.2.le K' ∧ K' + (1 + (l.length - x.1) * bdP d) ≤ 1000000000) ∧ x.2.add (zRU (l.drop x.1) d) = c.add (zRU l d)) ((0, c)) ?_ ⟨Nat.zero_le _, ⟨K, hc, hK0⟩, by simp⟩ ?_
  focus (simp (maxSteps := 2000000) only [go_sem, zAl, zAu, zAT, zAm]; all_goals (repeat' (first | exact trivial | exact zAs (by omega) | exact zAn rfl | exact zAD rfl | exact zAx | exact le_refl _ | refine And.intro ?_ ?_)))
  rintro ⟨i, a⟩ ⟨hi, ⟨K', ha, hK'⟩, hsum⟩
  simp only at hi ha hK' hsum
  try simp (maxSteps := 2000000) only [go_sem]
  repeat with_reducible refine zAd ?_
  have hbx : bd d ≤ 1000000000 := by omega
  refine zAe (by rfl) trivial (fun h2 => ?_) (fun h2 => ?_)
  ·have hil : i < l.length := by simp at h2; omega
   rw [zLZ (d := default) hil] at hsum
   obtain ⟨p, hp⟩ : ∃ p, p = l.getD i default := ⟨_, rfl⟩
   rw [← hp] at hsum
   have hg : (zLc l).getD i [] = [.sl 2 (zU3 p.steps), .sl 1 (zDJ p.links)] := by rw [zTO l i hil, ← hp, zI0]
   have hsz : SizeOf.sizeOf p.steps ≤ N := by
    have h3 := zWU p
    have h4 := yCh hil
    rw [← hp] at h4
    omega
   have hmul : (l.length - i) * bdP d = bdP d + (l.length - (i + 1)) * bdP d := by
    have : l.length - i = (l.length - (i + 1)) + 1 := by omega
    rw [this, Nat.add_mul]; omega
   have hbp : bdP d = 4 + 5 * bdS d := rfl
   have hin : (bif decide ((p.steps.length : Int) < 1) then true else decide (5 < (p.steps.length : Int))) = false → inR .i64 ((p.steps.length : Int) - 1) := by
    intro h5
    have : ¬ 5 < (p.steps.length : Int) := by
     intro h6
     rw [decide_eq_true h6] at h5
     cases hq : decide ((p.steps.length : Int) < 1) <;> rw [hq] at h5 <;> cases h5
    exact zGo (by omega) (by omega)
   try simp (maxSteps := 2000000) only [go_sem, hg]
   repeat with_reducible refine zAd ?_
   have hpb : (bif bif decide ((p.steps.length : Int) < 1) then true else decide (5 < (p.steps.length : Int)) then true else (p.links.length : Int) != (p.steps.length : Int) - 1) = zSg p := by
    have e2 : decide ((p.steps.length : Int) < 1) = decide (p.steps.length < 1) := decide_eq_decide.2 (by omega)
    have e3 : decide (5 < (p.steps.length : Int)) = decide (5 < p.steps.length) := decide_eq_decide.2 (by omega)
    have e4 : ((p.links.length : Int) != (p.steps.length : Int) - 1) = decide ((p.links.length : Int) ≠ p.steps.length - 1) := by
     by_cases h5 : (p.links.length : Int) = (p.steps.length : Int) - 1 <;> simp [h5]
    unfold zSg
    rw [e2, e3, e4]
    cases decide (p.steps.length < 1) <;> cases decide (5 < p.steps.length) <;> rfl
   simp only [zRU] at hsum
   refine zAe (by rfl) trivial (fun h3 => ?_) (fun h3 => ?_)
   ·rw [hpb] at h3
    rw [if_pos h3] at hsum
    rw [← hsum]
    try simp (maxSteps := 2000000) only [go_sem]
    repeat with_reducible refine zAd ?_
    have hm := ha.m
    refine zDu (by repeat' constructor) (zO5 a true (by omega)) ?_
    try simp (maxSteps := 2000000) only [go_sem]
    repeat with_reducible refine zAd ?_
    exact zOv rfl rfl
   ·rw [hpb] at h3
    rw [if_neg (by rw [h3]; simp)] at hsum
    have hpl : p.steps.length ≤ 5 ∧ (p.links.length : Int) = p.steps.length - 1 := by
     simp only [zSg, Bool.or_eq_false_iff, decide_eq_false_iff_not] at h3
     omega
    have hK1 : K' + (p.links.length - 0) ≤ K' + 4 := by omega
    try simp (maxSteps := 2000000) only [go_sem]
    repeat with_reducible refine zAd ?_
    refine zAE (fun x : Nat × Fd => [(9, .un), (57, .pv (iv x.1)), (58, .un), (67, .un), (84, .pv (.one (bI x.2.f))), (85, .pv (.one (bI x.2.m))), (86, .pv (.one (bI x.2.r))), (87, .pv (.one (bI x.2.k)))]) (fun x : Nat × Fd => p.links.length - x.1) (fun x : Nat × Fd => x.1 ≤ p.links.length ∧ (∃ K2, x.2.le K2 ∧ K2 + (p.links.length - x.1) ≤ K' + 4) ∧ x.2.add (zTP (p.links.drop x.1)) = a.add (zTP p.links)) ((0, a)) ?_ ⟨Nat.zero_le _, ⟨K', ha, hK1⟩, by simp⟩ ?_
    focus (simp (maxSteps := 2000000) only [go_sem, zAl, zAu, zAT, zAm]; all_goals (repeat' (first | exact trivial | exact zAs (by omega) | exact zAn rfl | exact zAD rfl | exact zAx | exact le_refl _ | refine And.intro ?_ ?_)))
    rintro ⟨j, b⟩ ⟨hj, ⟨K2, hb, hK2⟩, hsb⟩
    simp only at hj hb hK2 hsb
    try simp (maxSteps := 2000000) only [go_sem]
    repeat with_reducible refine zAd ?_
    refine zAe (by rfl) trivial (fun h4 => ?_) (fun h4 => ?_)
    ·have hjl : j < p.links.length := by simp at h4; omega
     rw [zLZ (d := 0) hjl] at hsb
     have hg2 := zGn p.links j hjl
     obtain ⟨v, hv⟩ : ∃ v, v = p.links.getD j 0 := ⟨_, rfl⟩
     rw [← hv] at hg2 hsb
     have hvb : (bif decide (v < 1) then true else decide (4 < v)) = zSf v := by
      unfold zSf
      by_cases h5 : v < 1 <;> by_cases h6 : 4 < v <;> simp [h5, h6] <;> omega
     have hk := hb.k
     try simp (maxSteps := 2000000) only [go_sem, hg2]
     repeat with_reducible refine zAd ?_
     refine zDu (by repeat' constructor) (zTU b (bif decide (v < 1) then true else decide (4 < v)) (by omega)) ?_
     try simp (maxSteps := 2000000) only [go_sem, hvb]
     repeat with_reducible refine zAd ?_
     refine ⟨(j + 1, b.add (fK (zSf v))), by simp only; omega, ⟨by simp only; omega, ⟨K2 + 1, hb.le_add (zYY _), by simp only; omega⟩, ?_⟩, ?_⟩
     ·simp only
      rw [← hsb, Fd.add_assoc]
      congr 1
      simp only [zTP, Fd.add, fK, List.countP_cons, nB]
      congr 1
      split <;> omega
     ·simp (maxSteps := 2000000) only [go_sem, zAl, zAu, zAT, zAm]
      all_goals (repeat' (first | exact trivial | exact zAs (by omega) | exact zAn rfl | exact zAD rfl | exact zAx | exact le_refl _ | refine And.intro ?_ ?_))
    ·have hjl : j = p.links.length := by simp at h4; omega
     subst hjl
     rw [List.drop_length] at hsb
     have e5 : b = a.add (zTP p.links) := by
      rw [← hsb]
      simp [zTP, Fd.add]
     have hK3 : K2 ≤ K' + 4 := by omega
     have hK4 : K2 + (p.steps.length - 0) * bdS d ≤ K' + bdP d := by
      have : (p.steps.length - 0) * bdS d ≤ 5 * bdS d := Nat.mul_le_mul_right _ (by omega)
      omega
     try simp (maxSteps := 2000000) only [go_sem]
     repeat with_reducible refine zAd ?_
     refine zAE (fun x : Nat × Fd => [(11, .un), (73, .pv (iv x.1)), (74, .un), (84, .pv (.one (bI x.2.f))), (85, .pv (.one (bI x.2.m))), (86, .pv (.one (bI x.2.r))), (87, .pv (.one (bI x.2.k))), (90, .un), (91, .un)]) (fun x : Nat × Fd => p.steps.length - x.1) (fun x : Nat × Fd => x.1 ≤ p.steps.length ∧ (∃ K3, x.2.le K3 ∧ K3 + (p.steps.length - x.1) * bdS d ≤ K' + bdP d) ∧ x.2.add (zTQ (p.steps.drop x.1) d) = b.add (zTQ p.steps d)) ((0, b)) ?_ ⟨Nat.zero_le _, ⟨K2, hb, hK4⟩, by simp⟩ ?_
     focus (simp (maxSteps := 2000000) only [go_sem, zAl, zAu, zAT, zAm]; all_goals (repeat' (first | exact trivial | exact zAs (by omega) | exact zAn rfl | exact zAD rfl | exact zAx | exact le_refl _ | refine And.intro ?_ ?_)))
     rintro ⟨k, e6⟩ ⟨hk, ⟨K3, he6, hK5⟩, hse⟩
     simp only at hk he6 hK5 hse
     try simp (maxSteps := 2000000) only [go_sem]
     repeat with_reducible refine zAd ?_
     refine zAe (by rfl) trivial (fun h6 => ?_) (fun h6 => ?_)
     ·have hkl : k < p.steps.length := by simp at h6; omega
      rw [zLZ (d := default) hkl] at hse
      obtain ⟨q, hq⟩ : ∃ q, q = p.steps.getD k default := ⟨_, rfl⟩
      rw [← hq] at hse
      have hg3 : (zU3 p.steps).getD k [] = [bS q.tag, .sl 6 (zVB q.tests)] := by rw [zTN _ k hkl, ← hq, zP9]
      have hqs : SizeOf.sizeOf q ≤ N := by
       have h7 := yCg hkl
       rw [← hq] at h7
       omega
      have hmul2 : (p.steps.length - k) * bdS d = bdS d + (p.steps.length - (k + 1)) * bdS d := by
       have : p.steps.length - k = (p.steps.length - (k + 1)) + 1 := by omega
       rw [this, Nat.add_mul]; omega
      have hst := ih.2 q d K3 e6 hqs hd3.1 he6 (by omega)
      rw [zP9] at hst
      unfold fdV at hst
      try simp (maxSteps := 2000000) only [go_sem, hg3]
      repeat with_reducible refine zAd ?_
      refine zDu (by repeat' constructor) (hst) ?_
      try simp (maxSteps := 2000000) only [go_sem]
      repeat with_reducible refine zAd ?_
      refine ⟨(k + 1, e6.add (ntS q d)), by simp only; omega, ⟨by simp only; omega, ⟨K3 + bdS d, he6.le_add (b_S q d), by simp only; omega⟩, ?_⟩, ?_⟩
      ·simp only [zTQ] at hse ⊢
       rw [← hse, Fd.add_assoc]
      ·simp (maxSteps := 2000000) only [go_sem, zAl, zAu, zAT, zAm]
       all_goals (repeat' (first | exact trivial | exact zAs (by omega) | exact zAn rfl | exact zAD rfl | exact zAx | exact le_refl _ | refine And.intro ?_ ?_))
     ·have hkl : k = p.steps.length := by simp at h6; omega
      subst hkl
      rw [List.drop_length] at hse
      have e7 : e6 = b.add (zTQ p.steps d) := by rw [← hse]; rfl
      try simp (maxSteps := 2000000) only [go_sem]
      repeat with_reducible refine zAd ?_
      refine ⟨(i + 1, e6), by simp only; omega, ⟨by simp only; omega, ⟨K3, he6, by simp only; omega⟩, ?_⟩, ?_⟩
      ·simp only
       rw [← hsum, e7, e5, yAU, Fd.add_assoc, Fd.add_assoc, Fd.add_assoc]
      ·simp (maxSteps := 2000000) only [go_sem, zAl, zAu, zAT, zAm]
       all_goals (repeat' (first | exact trivial | exact zAs (by omega) | exact zAn rfl | exact zAD rfl | exact zAx | exact le_refl _ | refine And.intro ?_ ?_))
  ·have hil : i = l.length := by simp at h2; omega
   subst hil
   rw [List.drop_length] at hsum
   try simp (maxSteps := 2000000) only [go_sem]
   repeat with_reducible refine zAd ?_
   rw [← hsum]
   exact zCa rfl rfl
end Go.Hx
end

section
/-
 The abstract code of functions of the program, printed by gen.py; each stands for the given one. No condition.
-/
namespace Go.Hx
open Go.Proofs
variable [Glob]
end Go.Hx
end
