/-
  Walks of functions of the program over an abstract layer, and the laws that they use: each contract says what the function computes, for every input that its conditions let by. No other condition.
-/
import Derived.Test.YtjnagiaooecklaaGreatDoorProg
import Derived.Test.YtjnagiaooecklaaGreatDoorG8
import Derived.Test.YtjnagiaooecklaaGreatDoorG10
set_option linter.all false
section
/-
 The abstract code of functions of the program, printed by gen.py; each stands for the given one. No condition.
-/
namespace Go.Hx
open Go.Proofs
variable [Glob]
abbrev zG1 : Nat := 37
abbrev zBE : Nat := 84
abbrev zAB : Nat := 139
abbrev zCK : Nat := 140
abbrev zL4 : Nat := 200
abbrev zG2 : Nat := 85
abbrev zEr : Nat := 54
abbrev zEb : Nat := 127
abbrev zEc : Nat := 126
abbrev zEK : Nat := 128
abbrev zGl : Nat := 186
abbrev zEd : Nat := 125
abbrev yB1 : HCode := .reg [⟨none, .alloc 2 0 31 [.v (.bool false), .v (.bool false), .v (.bool false), .v (.bool false)]⟩,
  ⟨none, .val 3 (.mv (.c (bv false)))⟩] false []
abbrev yB2 : HCode := .reg [⟨none, .val 4 (.mv (.t 0))⟩] false []
abbrev yB3 : HCode := .reg [⟨none, .val 6 (.ints .eql (.t 4) (.c (iv 1)))⟩,
  ⟨none, .val 5 (.mv (.t 6))⟩] false [.forget [6]]
abbrev yB4 : HCode := .reg [⟨none, .val 7 (.ints .eql (.t 4) (.c (iv 2)))⟩,
  ⟨none, .val 5 (.mv (.t 7))⟩] false [.forget [7]]
abbrev yB5 : HCode := .reg [⟨none, .val 8 (.ints .eql (.t 4) (.c (iv 3)))⟩,
  ⟨none, .val 5 (.mv (.t 8))⟩] false [.forget [8]]
abbrev yB6 : HCode := .reg [⟨none, .val 9 (.bld [.v (.bool false), .v (.bool false), .v (.bool false), .v (.bool false)] [(0, 1, .c (bv true))])⟩,
  ⟨none, .sto (.t 2) 0 31 0 4 (.t 9)⟩,
  ⟨none, .val 3 (.mv (.c (bv true)))⟩] false [.forget [9]]
abbrev yB7 : HCode := .reg [⟨none, .val 11 (.ints .eql (.t 4) (.c (iv 4)))⟩,
  ⟨none, .val 10 (.mv (.t 11))⟩] false [.forget [11]]
abbrev yB8 : HCode := .reg [⟨none, .val 12 (.ints .eql (.t 4) (.c (iv 5)))⟩,
  ⟨none, .val 10 (.mv (.t 12))⟩] false [.forget [12]]
abbrev yB9 : HCode := .reg [⟨none, .val 13 (.ints .eql (.t 4) (.c (iv 6)))⟩,
  ⟨none, .val 10 (.mv (.t 13))⟩] false [.forget [13]]
abbrev yCa : HCode := .reg [⟨none, .val 14 (.ints .eql (.t 4) (.c (iv 7)))⟩,
  ⟨none, .val 10 (.mv (.t 14))⟩] false [.forget [14]]
abbrev zZB : HCode := .reg [⟨none, .val 15 (.ints .eql (.t 4) (.c (iv 8)))⟩,
  ⟨none, .val 10 (.mv (.t 15))⟩] false [.forget [15]]
abbrev zZC : HCode := .reg [⟨none, .val 16 (.bld [.v (.bool false), .v (.bool false), .v (.bool false), .v (.bool false)] [(0, 1, .c (bv true)), (1, 1, .c (bv true))])⟩,
  ⟨none, .sto (.t 2) 0 31 0 4 (.t 16)⟩,
  ⟨none, .val 3 (.mv (.c (bv true)))⟩] false [.forget [16]]
abbrev zZD : HCode := .reg [⟨none, .val 18 (.ints .eql (.t 4) (.c (iv 9)))⟩,
  ⟨none, .val 17 (.mv (.t 18))⟩] false [.forget [18]]
abbrev zZE : HCode := .reg [⟨none, .val 19 (.ints .eql (.t 4) (.c (iv 10)))⟩,
  ⟨none, .val 17 (.mv (.t 19))⟩] false [.forget [19]]
abbrev zZF : HCode := .reg [⟨none, .val 20 (.bld [.v (.bool false), .v (.bool false), .v (.bool false), .v (.bool false)] [(2, 1, .c (bv true))])⟩,
  ⟨none, .sto (.t 2) 0 31 0 4 (.t 20)⟩,
  ⟨none, .val 3 (.mv (.c (bv true)))⟩] false [.forget [20]]
abbrev zZG : HCode := .reg [⟨none, .val 22 (.ints .eql (.t 4) (.c (iv 11)))⟩,
  ⟨none, .val 21 (.mv (.t 22))⟩] false [.forget [22]]
abbrev zZH : HCode := .reg [⟨none, .val 23 (.ints .eql (.t 4) (.c (iv 12)))⟩,
  ⟨none, .val 21 (.mv (.t 23))⟩] false [.forget [23]]
abbrev zZI : HCode := .reg [⟨none, .val 24 (.bld [.v (.bool false), .v (.bool false), .v (.bool false), .v (.bool false)] [])⟩,
  ⟨none, .sto (.t 2) 0 31 0 4 (.t 24)⟩,
  ⟨none, .val 3 (.mv (.c (bv true)))⟩] false [.forget [24]]
abbrev zZJ : HCode := .reg [⟨none, .val 26 (.ints .eql (.t 4) (.c (iv 13)))⟩,
  ⟨none, .val 25 (.mv (.t 26))⟩] false [.forget [26]]
abbrev zZK : HCode := .reg [⟨none, .val 27 (.ints .eql (.t 4) (.c (iv 14)))⟩,
  ⟨none, .val 25 (.mv (.t 27))⟩] false [.forget [27]]
abbrev zZL : HCode := .reg [⟨none, .val 28 (.ints .eql (.t 4) (.c (iv 15)))⟩,
  ⟨none, .val 25 (.mv (.t 28))⟩] false [.forget [28]]
abbrev zZM : HCode := .reg [⟨none, .val 29 (.bld [.v (.bool false), .v (.bool false), .v (.bool false), .v (.bool false)] [(3, 1, .c (bv true))])⟩,
  ⟨none, .sto (.t 2) 0 31 0 4 (.t 29)⟩,
  ⟨none, .val 3 (.mv (.c (bv true)))⟩] false [.forget [29]]
abbrev zZN : HCode := .reg [⟨none, .val 30 (.bld [.v (.bool false), .v (.bool false), .v (.bool false), .v (.bool false)] [])⟩,
  ⟨none, .sto (.t 2) 0 31 0 4 (.t 30)⟩,
  ⟨none, .val 3 (.mv (.c (bv false)))⟩] false [.forget [30]]
abbrev yG1 : HCode := (.seq yB1 (.seq (.seq yB2 (.block 0 (.seq (.seq yB3 (.cond (.t 5) .skip (.seq yB4 (.cond (.t 5) .skip yB5)))) (.cond (.t 5) (.seq yB6 .ret) (.seq (.seq yB7 (.cond (.t 10) .skip (.seq yB8 (.cond (.t 10) .skip (.seq yB9 (.cond (.t 10) .skip (.seq yCa (.cond (.t 10) .skip zZB)))))))) (.cond (.t 10) (.seq zZC .ret) (.seq (.seq zZD (.cond (.t 17) .skip zZE)) (.cond (.t 17) (.seq zZF .ret) (.seq (.seq zZG (.cond (.t 21) .skip zZH)) (.cond (.t 21) (.seq zZI .ret) (.seq (.seq zZJ (.cond (.t 25) .skip (.seq zZK (.cond (.t 25) .skip zZL)))) (.cond (.t 25) (.seq zZM .ret) .skip)))))))))))) (.seq zZN .ret)))
abbrev zKG : Env := { N := 31, Γ := [(31, 4)], L := 35, nfix := 0 }
abbrev yDG : List RSrc := [.cellB 2 0 31 0 4 true, .tmp 3]
theorem yCb {base : Nat} {av : List AV} {r : RV} (hfo : zAx zKG base av) (hW : AVs.fits av → hwp Tryz.prog yG1 (zBO zKG base av yDG r) (F0 zKG base av)) (hov : ∀ x, r.res = .ov x → zBx av = 0 := by intro x h; cases h <;> rfl) : Contract Tryz.prog zL4 av r :=
 zAa (fn := Tryz.f200) (c := Tryz.f200.body.getD .skip) (by kernel_rfl) (by kernel_rfl) (by kernel_rfl) (by kernel_rfl) (by kernel_rfl) (by kernel_rfl) (by kernel_rfl) hfo hW hov
abbrev zUA : HCode := .reg [⟨none, .alloc 0 0 2 [.v (.int .i64 0), .v (.int .i64 0), .v (.int .i64 0), .v (.int .i64 0)]⟩] false []
abbrev zUB : HCode := .reg [⟨none, .val 1 (.bld [.v (.int .i64 0), .v (.int .i64 0), .v (.int .i64 0), .v (.int .i64 0)] [(0, 1, .c (iv 2)), (1, 1, .c (iv 4)), (2, 1, .c (iv 1)), (3, 1, .c (iv 3))])⟩,
  ⟨none, .sto (.t 0) 0 2 0 4 (.t 1)⟩] false [.forget [1]]
abbrev yCc : HCode := (.seq zUA (.seq zUB .ret))
abbrev zFL : Env := { N := 2, Γ := [(2, 4)], L := 6, nfix := 0 }
abbrev zXG : List RSrc := [.cellB 0 0 2 0 4 true]
theorem zUC {base : Nat} {av : List AV} {r : RV} (hfo : zAx zFL base av) (hW : AVs.fits av → hwp Tryz.prog yCc (zBO zFL base av zXG r) (F0 zFL base av)) (hov : ∀ x, r.res = .ov x → zBx av = 0 := by intro x h; cases h <;> rfl) : Contract Tryz.prog zG2 av r :=
 zAa (fn := Tryz.f85) (c := Tryz.f85.body.getD .skip) (by kernel_rfl) (by kernel_rfl) (by kernel_rfl) (by kernel_rfl) (by kernel_rfl) (by kernel_rfl) (by kernel_rfl) hfo hW hov
abbrev zL5 : HCode := .reg [⟨none, .val 6 (.mv (.t 1))⟩] false []
abbrev zL6 : HCode := .drg [⟨0, false, ⟨none, .val 7 (.mv (.t 0))⟩⟩,
  ⟨1, false, ⟨none, .val 8 (.mv (.t 2))⟩⟩,
  ⟨2, false, ⟨none, .val 9 (.nilck (.t 7))⟩⟩,
  ⟨3, false, ⟨none, .val 10 (.fldP (.t 9) 0)⟩⟩,
  ⟨4, false, ⟨none, .val 11 (.ixB 5 (.t 10) (.t 8))⟩⟩,
  ⟨5, false, ⟨none, .val 12 (.ldD (.t 11) 0 17 5)⟩⟩,
  ⟨6, false, ⟨none, .val 13 (.ints .add (.t 12) (.c (iv 1)))⟩⟩,
  ⟨7, false, ⟨none, .val 14 (.nilck (.t 7))⟩⟩,
  ⟨8, false, ⟨none, .val 15 (.fldP (.t 14) 0)⟩⟩,
  ⟨9, false, ⟨none, .val 16 (.ixB 5 (.t 15) (.t 8))⟩⟩,
  ⟨10, false, ⟨none, .std (.t 16) 0 17 5 (.t 13)⟩⟩] [.forget [7, 8, 9, 10, 11, 12, 13, 14, 15, 16]]
abbrev zRe : HCode := (.seq zL5 (.cond (.t 6) zL6 .skip))
abbrev zBu : Env := { N := 17, Γ := [(17, 5)], L := 22, nfix := 1 }
abbrev zNz : List RSrc := []
theorem zCL {base : Nat} {av : List AV} {r : RV} (hfo : zAx zBu base av) (hW : AVs.fits av → hwp Tryz.prog zRe (zBO zBu base av zNz r) (F0 zBu base av)) (hov : ∀ x, r.res = .ov x → zBx av = 0 := by intro x h; cases h <;> rfl) : Contract Tryz.prog zAB av r :=
 zAa (fn := Tryz.f139) (c := Tryz.f139.body.getD .skip) (by kernel_rfl) (by kernel_rfl) (by kernel_rfl) (by kernel_rfl) (by kernel_rfl) (by kernel_rfl) (by kernel_rfl) hfo hW hov
abbrev zL7 : HCode := .reg [⟨none, .val 12 (.mv (.t 2))⟩,
  ⟨none, .val 13 (.ints .gtr (.t 12) (.c (iv 3)))⟩,
  ⟨none, .val 14 (.mv (.t 13))⟩,
  ⟨some (14, false), .val 15 (.mv (.t 1))⟩,
  ⟨some (14, false), .val 16 (.len false (.t 15))⟩,
  ⟨some (14, false), .val 17 (.ints .lss (.t 16) (.c (iv 1)))⟩,
  ⟨none, .val 18 (.pick (.t 14) (.c (bv true)) (.t 17))⟩,
  ⟨none, .val 19 (.mv (.t 18))⟩,
  ⟨some (19, false), .val 20 (.mv (.t 1))⟩,
  ⟨some (19, false), .val 21 (.len false (.t 20))⟩,
  ⟨some (19, false), .val 22 (.ints .gtr (.t 21) (.c (iv 5)))⟩,
  ⟨none, .val 23 (.pick (.t 19) (.c (bv true)) (.t 22))⟩] false [.forget [12, 13, 14, 15, 16, 17, 18, 19, 20, 21, 22]]
abbrev zL8 : HCode := .reg [⟨none, .val 24 (.mv (.t 0))⟩,
  ⟨none, .call (some 25) zAB [(.t 24, .i 0 83 5), (.c (bv true), .v), (.c (iv 2), .v)]⟩] false [.forget [24, 25]]
abbrev zL9 : HCode := .reg [⟨none, .val 26 (.mv (.t 1))⟩,
  ⟨none, .val 27 (.len false (.t 26))⟩,
  ⟨none, .val 28 (.mv (.c (iv 0)))⟩] false []
abbrev zMa : HCode := .reg [⟨none, .val 29 (.ints .lss (.t 28) (.t 27))⟩] false []
abbrev zMb : HCode := .reg [⟨none, .val 30 (.idxA 2 (.t 26) (.t 28))⟩,
  ⟨none, .val 31 (.ldR (.t 30) 2 true)⟩,
  ⟨none, .alloc 7 1 88 [.nl 2, .nl 1]⟩,
  ⟨none, .sto (.t 7) 1 88 0 2 (.t 31)⟩] false [.frz 1 88 2, .forget [30, 31]]
abbrev zMc : HCode := .reg [⟨none, .val 32 (.fldR (.t 7) 0 1)⟩,
  ⟨none, .val 33 (.ldR (.t 32) 1 false)⟩,
  ⟨none, .val 34 (.len false (.t 33))⟩,
  ⟨none, .val 35 (.ints .lss (.t 34) (.c (iv 1)))⟩,
  ⟨none, .val 36 (.mv (.t 35))⟩,
  ⟨some (36, false), .val 37 (.fldR (.t 7) 0 1)⟩,
  ⟨some (36, false), .val 38 (.ldR (.t 37) 1 false)⟩,
  ⟨some (36, false), .val 39 (.len false (.t 38))⟩,
  ⟨some (36, false), .val 40 (.ints .gtr (.t 39) (.c (iv 5)))⟩,
  ⟨none, .val 41 (.pick (.t 36) (.c (bv true)) (.t 40))⟩,
  ⟨none, .val 42 (.mv (.t 41))⟩,
  ⟨some (42, false), .val 43 (.fldR (.t 7) 1 1)⟩,
  ⟨some (42, false), .val 44 (.ldR (.t 43) 1 false)⟩,
  ⟨some (42, false), .val 45 (.len false (.t 44))⟩,
  ⟨some (42, false), .val 46 (.fldR (.t 7) 0 1)⟩,
  ⟨some (42, false), .val 47 (.ldR (.t 46) 1 false)⟩,
  ⟨some (42, false), .val 48 (.len false (.t 47))⟩,
  ⟨some (42, false), .val 49 (.ints .sub (.t 48) (.c (iv 1)))⟩,
  ⟨some (42, false), .val 50 (.ints .neq (.t 45) (.t 49))⟩,
  ⟨none, .val 51 (.pick (.t 42) (.c (bv true)) (.t 50))⟩] false [.forget [32, 33, 34, 35, 36, 37, 38, 39, 40, 41, 42, 43, 44, 45, 46, 47, 48, 49, 50]]
abbrev zMd : HCode := .reg [⟨none, .val 52 (.mv (.t 0))⟩,
  ⟨none, .call (some 53) zAB [(.t 52, .i 0 83 5), (.c (bv true), .v), (.c (iv 2), .v)]⟩] false [.forget [52, 53]]
abbrev zMe : HCode := .reg [⟨none, .val 54 (.fldR (.t 7) 1 1)⟩,
  ⟨none, .val 55 (.ldR (.t 54) 1 false)⟩,
  ⟨none, .val 56 (.len false (.t 55))⟩,
  ⟨none, .val 57 (.mv (.c (iv 0)))⟩] false [.forget [54]]
abbrev zMf : HCode := .reg [⟨none, .val 58 (.ints .lss (.t 57) (.t 56))⟩] false []
abbrev zMg : HCode := .reg [⟨none, .val 59 (.idxA 1 (.t 55) (.t 57))⟩,
  ⟨none, .val 60 (.ldR (.t 59) 1 false)⟩,
  ⟨none, .val 9 (.mv (.t 60))⟩] false [.forget [59, 60]]
abbrev zKH : HCode := .reg [⟨none, .val 61 (.mv (.t 0))⟩,
  ⟨none, .val 62 (.mv (.t 9))⟩,
  ⟨none, .val 63 (.ints .lss (.t 62) (.c (iv 1)))⟩,
  ⟨none, .val 64 (.mv (.t 63))⟩,
  ⟨some (64, false), .val 65 (.mv (.t 9))⟩,
  ⟨some (64, false), .val 66 (.ints .gtr (.t 65) (.c (iv 4)))⟩,
  ⟨none, .val 67 (.pick (.t 64) (.c (bv true)) (.t 66))⟩,
  ⟨none, .call (some 68) zAB [(.t 61, .i 0 83 5), (.t 67, .v), (.c (iv 4), .v)]⟩] false [.forget [61, 62, 63, 64, 65, 66, 67, 68]]
abbrev zKI : HCode := .reg [⟨none, .val 69 (.ints .add (.t 57) (.c (iv 1)))⟩,
  ⟨none, .val 57 (.mv (.t 69))⟩] false [.forget [69]]
abbrev zKJ : HCode := .reg [⟨none, .val 70 (.fldR (.t 7) 0 1)⟩,
  ⟨none, .val 71 (.ldR (.t 70) 1 false)⟩,
  ⟨none, .val 72 (.len false (.t 71))⟩,
  ⟨none, .val 73 (.mv (.c (iv 0)))⟩] false [.forget [70]]
abbrev zKK : HCode := .reg [⟨none, .val 74 (.ints .lss (.t 73) (.t 72))⟩] false []
abbrev zKL : HCode := .reg [⟨none, .val 75 (.idxA 2 (.t 71) (.t 73))⟩,
  ⟨none, .val 76 (.ldR (.t 75) 2 true)⟩,
  ⟨none, .alloc 11 2 90 [.v (mkS []), .nl 6]⟩,
  ⟨none, .sto (.t 11) 2 90 0 2 (.t 76)⟩] false [.forget [75, 76]]
abbrev zKM : HCode := .reg [⟨none, .val 77 (.mv (.t 0))⟩,
  ⟨none, .val 78 (.ldB (.t 11) 2 90 0 2 true)⟩,
  ⟨none, .val 79 (.mv (.t 2))⟩,
  ⟨none, .call (some 80) zCK [(.t 77, .i 0 83 5), (.t 78, .v), (.t 79, .v)]⟩] false [.forget [77, 78, 79, 80]]
abbrev zKN : HCode := .reg [⟨none, .val 81 (.ints .add (.t 73) (.c (iv 1)))⟩,
  ⟨none, .val 73 (.mv (.t 81))⟩] false [.forget [81]]
abbrev zKO : HCode := .reg [⟨none, .val 82 (.ints .add (.t 28) (.c (iv 1)))⟩,
  ⟨none, .val 28 (.mv (.t 82))⟩] false [.forget [82]]
abbrev zRf : HCode := (.seq (.seq zL7 (.cond (.t 23) (.seq zL8 .ret) .skip)) (.seq zL9 (.block 0 (.loop (.seq zMa (.seq (.cond (.t 29) .skip (.exit 0)) (.seq (.block 1 (.seq zMb (.seq (.seq zMc (.cond (.t 51) (.seq zMd .ret) .skip)) (.seq (.seq zMe (.block 2 (.loop (.seq zMf (.seq (.cond (.t 58) .skip (.exit 2)) (.seq (.block 3 (.seq zMg zKH)) zKI)))))) (.seq zKJ (.block 4 (.loop (.seq zKK (.seq (.cond (.t 74) .skip (.exit 4)) (.seq (.block 5 (.seq zKL zKM)) zKN)))))))))) zKO)))))))
abbrev zC4 : Env := { N := 83, Γ := [(83, 5), (88, 2), (90, 2)], L := 92, nfix := 1 }
abbrev zNA : List RSrc := []
theorem zMh {base : Nat} {av : List AV} {r : RV} (hfo : zAx zC4 base av) (hW : AVs.fits av → hwp Tryz.prog zRf (zBO zC4 base av zNA r) (F0 zC4 base av)) (hov : ∀ x, r.res = .ov x → zBx av = 0 := by intro x h; cases h <;> rfl) : Contract Tryz.prog zBE av r :=
 zAa (fn := Tryz.f84) (c := Tryz.f84.body.getD .skip) (by kernel_rfl) (by kernel_rfl) (by kernel_rfl) (by kernel_rfl) (by kernel_rfl) (by kernel_rfl) (by kernel_rfl) hfo hW hov
abbrev zMi : HCode := .reg [⟨none, .val 4 (.boxF (.t 1))⟩] false []
abbrev zMj : HCode := .reg [⟨none, .val 10 (.fldR (.t 4) 1 1)⟩,
  ⟨none, .val 11 (.ldR (.t 10) 1 false)⟩,
  ⟨none, .val 12 (.len false (.t 11))⟩,
  ⟨none, .val 13 (.ints .gtr (.t 12) (.c (iv 6)))⟩] false [.forget [10, 11, 12]]
abbrev zMk : HCode := .reg [⟨none, .val 14 (.mv (.t 0))⟩,
  ⟨none, .call (some 15) zAB [(.t 14, .i 0 121 5), (.c (bv true), .v), (.c (iv 2), .v)]⟩] false [.forget [14, 15]]
abbrev zMl : HCode := .reg [⟨none, .val 16 (.mv (.t 0))⟩,
  ⟨none, .val 17 (.fldR (.t 4) 0 1)⟩,
  ⟨none, .val 18 (.ldR (.t 17) 1 false)⟩,
  ⟨none, .val 19 (.strs .neq (.t 18) (.c (sv [])))⟩,
  ⟨none, .val 20 (.mv (.t 19))⟩,
  ⟨some (20, true), .val 21 (.fldR (.t 4) 0 1)⟩,
  ⟨some (20, true), .val 22 (.ldR (.t 21) 1 false)⟩,
  ⟨some (20, true), .call (some 23) zCE [(.t 22, .v)]⟩,
  ⟨some (20, true), .val 24 (.not (.t 23))⟩,
  ⟨none, .val 25 (.pick (.t 20) (.t 24) (.c (bv false)))⟩,
  ⟨none, .call (some 26) zAB [(.t 16, .i 0 121 5), (.t 25, .v), (.c (iv 1), .v)]⟩] false [.forget [16, 17, 18, 19, 20, 21, 22, 23, 24, 25, 26]]
abbrev zMm : HCode := .reg [⟨none, .val 27 (.fldR (.t 4) 1 1)⟩,
  ⟨none, .val 28 (.ldR (.t 27) 1 false)⟩,
  ⟨none, .val 29 (.len false (.t 28))⟩,
  ⟨none, .val 30 (.mv (.c (iv 0)))⟩] false [.forget [27]]
abbrev zMn : HCode := .reg [⟨none, .val 31 (.ints .lss (.t 30) (.t 29))⟩] false []
abbrev zMo : HCode := .reg [⟨none, .val 32 (.idxA 6 (.t 28) (.t 30))⟩,
  ⟨none, .val 33 (.ldR (.t 32) 6 true)⟩,
  ⟨none, .alloc 7 1 126 [.v (.int .i64 0), .v (mkS []), .v (mkS []), .v (.int .i64 0), .v (.int .i64 0), .nl 2]⟩,
  ⟨none, .sto (.t 7) 1 126 0 6 (.t 33)⟩] false [.frz 1 126 6, .forget [32, 33]]
abbrev zMp : HCode := .reg [⟨none, .val 35 (.fldR (.t 7) 0 1)⟩,
  ⟨none, .val 36 (.ldR (.t 35) 1 false)⟩,
  ⟨none, .call (some 37) zL4 [(.t 36, .v)]⟩,
  ⟨none, .val 34 (.mv (.t 37))⟩,
  ⟨none, .val 38 (.ext 34 0)⟩,
  ⟨none, .val 39 (.ext 34 1)⟩,
  ⟨none, .alloc 8 2 132 [.v (.bool false), .v (.bool false), .v (.bool false), .v (.bool false)]⟩,
  ⟨none, .sto (.t 8) 2 132 0 4 (.t 38)⟩,
  ⟨none, .val 9 (.mv (.t 39))⟩] false [.frz 2 132 4, .forget [34, 35, 36, 37, 38, 39]]
abbrev zMq : HCode := .reg [⟨none, .val 40 (.mv (.t 0))⟩,
  ⟨none, .val 41 (.mv (.t 9))⟩,
  ⟨none, .val 42 (.not (.t 41))⟩,
  ⟨none, .call (some 43) zAB [(.t 40, .i 0 121 5), (.t 42, .v), (.c (iv 4), .v)]⟩] false [.forget [40, 41, 42, 43]]
abbrev zMr : HCode := .reg [⟨none, .val 44 (.mv (.t 0))⟩,
  ⟨none, .val 45 (.fldR (.t 8) 0 1)⟩,
  ⟨none, .val 46 (.ldR (.t 45) 1 false)⟩,
  ⟨none, .val 47 (.mv (.t 46))⟩,
  ⟨some (47, true), .val 48 (.fldR (.t 7) 1 1)⟩,
  ⟨some (47, true), .val 49 (.ldR (.t 48) 1 false)⟩,
  ⟨some (47, true), .call (some 50) zCE [(.t 49, .v)]⟩,
  ⟨some (47, true), .val 51 (.not (.t 50))⟩,
  ⟨none, .val 52 (.pick (.t 47) (.t 51) (.c (bv false)))⟩,
  ⟨none, .val 53 (.mv (.t 52))⟩,
  ⟨some (53, false), .val 54 (.fldR (.t 8) 0 1)⟩,
  ⟨some (53, false), .val 55 (.ldR (.t 54) 1 false)⟩,
  ⟨some (53, false), .val 56 (.not (.t 55))⟩,
  ⟨some (53, false), .val 57 (.mv (.t 56))⟩,
  ⟨some (57, true), .val 58 (.fldR (.t 7) 1 1)⟩,
  ⟨some (57, true), .val 59 (.ldR (.t 58) 1 false)⟩,
  ⟨some (57, true), .val 60 (.strs .neq (.t 59) (.c (sv [])))⟩,
  ⟨some (53, false), .val 61 (.pick (.t 57) (.t 60) (.c (bv false)))⟩,
  ⟨none, .val 62 (.pick (.t 53) (.c (bv true)) (.t 61))⟩,
  ⟨none, .call (some 63) zAB [(.t 44, .i 0 121 5), (.t 62, .v), (.c (iv 1), .v)]⟩] false [.forget [44, 45, 46, 47, 48, 49, 50, 51, 52, 53, 54, 55, 56, 57, 58, 59, 60, 61, 62, 63]]
abbrev zKP : HCode := .reg [⟨none, .val 64 (.mv (.t 0))⟩,
  ⟨none, .val 65 (.fldR (.t 8) 1 1)⟩,
  ⟨none, .val 66 (.ldR (.t 65) 1 false)⟩,
  ⟨none, .val 67 (.mv (.t 66))⟩,
  ⟨some (67, true), .val 68 (.fldR (.t 7) 2 1)⟩,
  ⟨some (67, true), .val 69 (.ldR (.t 68) 1 false)⟩,
  ⟨some (67, true), .call (some 70) zFE [(.t 69, .v)]⟩,
  ⟨some (67, true), .val 71 (.not (.t 70))⟩,
  ⟨none, .val 72 (.pick (.t 67) (.t 71) (.c (bv false)))⟩,
  ⟨none, .val 73 (.mv (.t 72))⟩,
  ⟨some (73, false), .val 74 (.fldR (.t 8) 1 1)⟩,
  ⟨some (73, false), .val 75 (.ldR (.t 74) 1 false)⟩,
  ⟨some (73, false), .val 76 (.not (.t 75))⟩,
  ⟨some (73, false), .val 77 (.mv (.t 76))⟩,
  ⟨some (77, true), .val 78 (.fldR (.t 7) 2 1)⟩,
  ⟨some (77, true), .val 79 (.ldR (.t 78) 1 false)⟩,
  ⟨some (77, true), .val 80 (.strs .neq (.t 79) (.c (sv [])))⟩,
  ⟨some (73, false), .val 81 (.pick (.t 77) (.t 80) (.c (bv false)))⟩,
  ⟨none, .val 82 (.pick (.t 73) (.c (bv true)) (.t 81))⟩,
  ⟨none, .call (some 83) zAB [(.t 64, .i 0 121 5), (.t 82, .v), (.c (iv 1), .v)]⟩] false [.forget [64, 65, 66, 67, 68, 69, 70, 71, 72, 73, 74, 75, 76, 77, 78, 79, 80, 81, 82, 83]]
abbrev zKQ : HCode := .reg [⟨none, .val 84 (.mv (.t 0))⟩,
  ⟨none, .val 85 (.fldR (.t 8) 2 1)⟩,
  ⟨none, .val 86 (.ldR (.t 85) 1 false)⟩,
  ⟨none, .val 87 (.not (.t 86))⟩,
  ⟨none, .val 88 (.mv (.t 87))⟩,
  ⟨some (88, true), .val 89 (.fldR (.t 7) 3 2)⟩,
  ⟨some (88, true), .val 90 (.ldR (.t 89) 2 true)⟩,
  ⟨some (88, true), .val 91 (.bld [.v (.int .i64 0), .v (.int .i64 0)] [])⟩,
  ⟨some (88, true), .val 92 (.steq true [0, 0] (.t 90) (.t 91))⟩,
  ⟨none, .val 93 (.pick (.t 88) (.t 92) (.c (bv false)))⟩,
  ⟨none, .val 94 (.mv (.t 93))⟩,
  ⟨some (94, false), .val 95 (.fldR (.t 8) 3 1)⟩,
  ⟨some (94, false), .val 96 (.ldR (.t 95) 1 false)⟩,
  ⟨some (94, false), .val 97 (.not (.t 96))⟩,
  ⟨some (94, false), .val 98 (.mv (.t 97))⟩,
  ⟨some (98, true), .val 99 (.fldR (.t 7) 5 1)⟩,
  ⟨some (98, true), .val 100 (.ldR (.t 99) 1 false)⟩,
  ⟨some (98, true), .val 101 (.len false (.t 100))⟩,
  ⟨some (98, true), .val 102 (.ints .gtr (.t 101) (.c (iv 0)))⟩,
  ⟨some (94, false), .val 103 (.pick (.t 98) (.t 102) (.c (bv false)))⟩,
  ⟨none, .val 104 (.pick (.t 94) (.c (bv true)) (.t 103))⟩,
  ⟨none, .call (some 105) zAB [(.t 84, .i 0 121 5), (.t 104, .v), (.c (iv 1), .v)]⟩] false [.forget [84, 85, 86, 87, 88, 89, 90, 91, 92, 93, 94, 95, 96, 97, 98, 99, 100, 101, 102, 103, 104, 105]]
abbrev zKR : HCode := .reg [⟨none, .val 106 (.mv (.t 0))⟩,
  ⟨none, .val 107 (.fldR (.t 7) 3 2)⟩,
  ⟨none, .val 108 (.ldR (.t 107) 2 true)⟩,
  ⟨none, .call (some 109) zFJ [(.t 108, .v)]⟩,
  ⟨none, .val 110 (.ints .neq (.t 109) (.c (iv 0)))⟩,
  ⟨none, .call (some 111) zAB [(.t 106, .i 0 121 5), (.t 110, .v), (.c (iv 3), .v)]⟩] false [.forget [106, 107, 108, 109, 110, 111]]
abbrev zKS : HCode := .reg [⟨none, .val 112 (.fldR (.t 8) 3 1)⟩,
  ⟨none, .val 113 (.ldR (.t 112) 1 false)⟩] false [.forget [112]]
abbrev zKT : HCode := .reg [⟨none, .val 114 (.mv (.t 0))⟩,
  ⟨none, .val 115 (.fldR (.t 7) 5 1)⟩,
  ⟨none, .val 116 (.ldR (.t 115) 1 false)⟩,
  ⟨none, .val 117 (.mv (.t 2))⟩,
  ⟨none, .val 118 (.ints .add (.t 117) (.c (iv 1)))⟩,
  ⟨none, .call (some 119) zBE [(.t 114, .i 0 121 5), (.t 116, .v), (.t 118, .v)]⟩] false [.forget [114, 115, 116, 117, 118, 119]]
abbrev zKU : HCode := .reg [⟨none, .val 120 (.ints .add (.t 30) (.c (iv 1)))⟩,
  ⟨none, .val 30 (.mv (.t 120))⟩] false [.forget [120]]
abbrev zRg : HCode := (.seq zMi (.seq (.seq zMj (.cond (.t 13) (.seq zMk .ret) .skip)) (.seq zMl (.seq zMm (.block 0 (.loop (.seq zMn (.seq (.cond (.t 31) .skip (.exit 0)) (.seq (.block 1 (.seq zMo (.seq zMp (.seq zMq (.seq zMr (.seq zKP (.seq zKQ (.seq zKR (.seq zKS (.cond (.t 113) zKT .skip)))))))))) zKU)))))))))
abbrev zC5 : Env := { N := 121, Γ := [(121, 5), (126, 6), (132, 4)], L := 136, nfix := 1 }
abbrev zNB : List RSrc := []
theorem zMs {base : Nat} {av : List AV} {r : RV} (hfo : zAx zC5 base av) (hW : AVs.fits av → hwp Tryz.prog zRg (zBO zC5 base av zNB r) (F0 zC5 base av)) (hov : ∀ x, r.res = .ov x → zBx av = 0 := by intro x h; cases h <;> rfl) : Contract Tryz.prog zCK av r :=
 zAa (fn := Tryz.f140) (c := Tryz.f140.body.getD .skip) (by kernel_rfl) (by kernel_rfl) (by kernel_rfl) (by kernel_rfl) (by kernel_rfl) (by kernel_rfl) (by kernel_rfl) hfo hW hov
abbrev zUD : HCode := .reg [⟨none, .val 2 (.mv (.c (iv 0)))⟩] false []
abbrev zUE : HCode := .reg [⟨none, .val 6 (.bld [.v (.int .i64 0), .v (.int .i64 0), .v (.int .i64 0), .v (.int .i64 0), .v (.int .i64 0)] [])⟩,
  ⟨none, .box 7 0 24 5 (.t 6)⟩,
  ⟨none, .val 3 (.mv (.t 7))⟩] false [.forget [6, 7]]
abbrev zUF : HCode := .reg [⟨none, .val 8 (.mv (.t 3))⟩,
  ⟨none, .val 9 (.mv (.t 0))⟩,
  ⟨none, .call (some 10) zBE [(.t 8, .i 0 24 5), (.t 9, .v), (.c (iv 1), .v)]⟩] false [.forget [8, 9, 10]]
abbrev zUG : HCode := .reg [⟨none, .call (some 11) zG2 []⟩,
  ⟨none, .val 12 (.mv (.c (iv 0)))⟩] false []
abbrev zUH : HCode := .reg [⟨none, .val 13 (.ints .lss (.t 12) (.c (iv 4)))⟩] false []
abbrev zUI : HCode := .reg [⟨none, .val 14 (.idxV 4 (.t 11) (.t 12))⟩,
  ⟨none, .val 5 (.mv (.t 14))⟩] false [.forget [14]]
abbrev zUJ : HCode := .reg [⟨none, .val 15 (.mv (.t 3))⟩,
  ⟨none, .val 16 (.mv (.t 5))⟩,
  ⟨none, .val 17 (.nilck (.t 15))⟩,
  ⟨none, .val 18 (.fldP (.t 17) 0)⟩,
  ⟨none, .val 19 (.ixB 5 (.t 18) (.t 16))⟩,
  ⟨none, .val 20 (.ldD (.t 19) 0 24 5)⟩,
  ⟨none, .val 21 (.ints .gtr (.t 20) (.c (iv 0)))⟩] false [.forget [15, 16, 17, 18, 19, 20]]
abbrev zUK : HCode := .reg [⟨none, .val 22 (.mv (.t 5))⟩,
  ⟨none, .val 2 (.mv (.t 22))⟩] false [.forget [22]]
abbrev zUL : HCode := .reg [⟨none, .val 23 (.ints .add (.t 12) (.c (iv 1)))⟩,
  ⟨none, .val 12 (.mv (.t 23))⟩] false [.forget [23]]
abbrev zUM : HCode := .reg [⟨none, .val 2 (.mv (.c (iv 0)))⟩] false []
abbrev yCd : HCode := (.seq zUD (.seq zUE (.seq zUF (.seq (.seq zUG (.block 0 (.loop (.seq zUH (.seq (.cond (.t 13) .skip (.exit 0)) (.seq (.block 1 (.seq zUI (.seq zUJ (.cond (.t 21) (.seq zUK .ret) .skip)))) zUL)))))) (.seq zUM .ret)))))
abbrev zFM : Env := { N := 24, Γ := [(24, 5)], L := 29, nfix := 0 }
abbrev zXH : List RSrc := [.tmp 2]
theorem zUN {base : Nat} {av : List AV} {r : RV} (hfo : zAx zFM base av) (hW : AVs.fits av → hwp Tryz.prog yCd (zBO zFM base av zXH r) (F0 zFM base av)) (hov : ∀ x, r.res = .ov x → zBx av = 0 := by intro x h; cases h <;> rfl) : Contract Tryz.prog zG1 av r :=
 zAa (fn := Tryz.f37) (c := Tryz.f37.body.getD .skip) (by kernel_rfl) (by kernel_rfl) (by kernel_rfl) (by kernel_rfl) (by kernel_rfl) (by kernel_rfl) (by kernel_rfl) hfo hW hov
abbrev yCe : HCode := .reg [⟨none, .val 2 (.mv (.c (bv false)))⟩,
  ⟨none, .val 3 (.mv (.c (bv false)))⟩,
  ⟨none, .val 4 (.mv (.c (bv false)))⟩,
  ⟨none, .val 5 (.mv (.c (bv false)))⟩] false []
abbrev yCf : HCode := .reg [⟨none, .val 6 (.mv (.t 0))⟩,
  ⟨none, .call (some 7) zAJ [(.t 6, .v), (.c (iv 1), .v), (.c (iv 8), .v)]⟩,
  ⟨none, .val 8 (.mv (.t 0))⟩,
  ⟨none, .call (some 9) zAJ [(.t 8, .v), (.c (iv 4), .v), (.c (iv 8), .v)]⟩,
  ⟨none, .val 10 (.mv (.t 0))⟩,
  ⟨none, .val 11 (.ints .eql (.t 10) (.c (iv 9)))⟩,
  ⟨none, .val 12 (.mv (.t 11))⟩,
  ⟨some (12, false), .val 13 (.mv (.t 0))⟩,
  ⟨some (12, false), .val 14 (.ints .eql (.t 13) (.c (iv 10)))⟩,
  ⟨none, .val 15 (.pick (.t 12) (.c (bv true)) (.t 14))⟩,
  ⟨none, .val 16 (.mv (.t 0))⟩,
  ⟨none, .call (some 17) zAJ [(.t 16, .v), (.c (iv 13), .v), (.c (iv 15), .v)]⟩,
  ⟨none, .val 2 (.mv (.t 7))⟩,
  ⟨none, .val 3 (.mv (.t 9))⟩,
  ⟨none, .val 4 (.mv (.t 15))⟩,
  ⟨none, .val 5 (.mv (.t 17))⟩] false [.forget [6, 7, 8, 9, 10, 11, 12, 13, 14, 15, 16, 17]]
abbrev yG2 : HCode := (.seq yCe (.seq yCf .ret))
abbrev zKV : Env := { N := 18, Γ := [], L := 18, nfix := 0 }
abbrev yDH : List RSrc := [.tmp 2, .tmp 3, .tmp 4, .tmp 5]
theorem yCg {base : Nat} {av : List AV} {r : RV} (hfo : zAx zKV base av) (hW : AVs.fits av → hwp Tryz.prog yG2 (zBO zKV base av yDH r) (F0 zKV base av)) (hov : ∀ x, r.res = .ov x → zBx av = 0 := by intro x h; cases h <;> rfl) : Contract Tryz.prog zGl av r :=
 zAa (fn := Tryz.f186) (c := Tryz.f186.body.getD .skip) (by kernel_rfl) (by kernel_rfl) (by kernel_rfl) (by kernel_rfl) (by kernel_rfl) (by kernel_rfl) (by kernel_rfl) hfo hW hov
abbrev zRh : HCode := .reg [⟨none, .val 4 (.mv (.c (bv false)))⟩] false []
abbrev zRi : HCode := .reg [⟨none, .val 14 (.mv (.t 1))⟩,
  ⟨none, .val 15 (.ints .gtr (.t 14) (.c (iv 3)))⟩,
  ⟨none, .val 16 (.mv (.t 15))⟩,
  ⟨some (16, false), .val 17 (.mv (.t 0))⟩,
  ⟨some (16, false), .val 18 (.len false (.t 17))⟩,
  ⟨some (16, false), .call (some 19) zAJ [(.t 18, .v), (.c (iv 1), .v), (.c (iv 5), .v)]⟩,
  ⟨some (16, false), .val 20 (.not (.t 19))⟩,
  ⟨none, .val 21 (.pick (.t 16) (.c (bv true)) (.t 20))⟩] false [.forget [14, 15, 16, 17, 18, 19, 20]]
abbrev zRj : HCode := .reg [⟨none, .val 4 (.mv (.c (bv true)))⟩] false []
abbrev zRk : HCode := .reg [⟨none, .val 5 (.mv (.c (iv 0)))⟩] false []
abbrev zRl : HCode := .reg [⟨none, .val 22 (.mv (.t 5))⟩,
  ⟨none, .val 23 (.mv (.t 0))⟩,
  ⟨none, .val 24 (.len false (.t 23))⟩,
  ⟨none, .val 25 (.ints .lss (.t 22) (.t 24))⟩] false [.forget [22, 23, 24]]
abbrev zRm : HCode := .reg [⟨none, .val 28 (.mv (.t 0))⟩,
  ⟨none, .val 29 (.mv (.t 5))⟩,
  ⟨none, .val 30 (.idxA 2 (.t 28) (.t 29))⟩,
  ⟨none, .val 31 (.ldR (.t 30) 2 true)⟩,
  ⟨none, .alloc 6 0 98 [.nl 2, .nl 1]⟩,
  ⟨none, .sto (.t 6) 0 98 0 2 (.t 31)⟩] false [.frz 0 98 2, .forget [28, 29, 30, 31]]
abbrev zRn : HCode := .reg [⟨none, .val 32 (.fldR (.t 6) 0 1)⟩,
  ⟨none, .val 33 (.ldR (.t 32) 1 false)⟩,
  ⟨none, .val 34 (.len false (.t 33))⟩,
  ⟨none, .call (some 35) zAJ [(.t 34, .v), (.c (iv 1), .v), (.c (iv 5), .v)]⟩,
  ⟨none, .val 36 (.not (.t 35))⟩,
  ⟨none, .val 37 (.mv (.t 36))⟩,
  ⟨some (37, false), .val 38 (.fldR (.t 6) 1 1)⟩,
  ⟨some (37, false), .val 39 (.ldR (.t 38) 1 false)⟩,
  ⟨some (37, false), .val 40 (.len false (.t 39))⟩,
  ⟨some (37, false), .val 41 (.fldR (.t 6) 0 1)⟩,
  ⟨some (37, false), .val 42 (.ldR (.t 41) 1 false)⟩,
  ⟨some (37, false), .val 43 (.len false (.t 42))⟩,
  ⟨some (37, false), .val 44 (.ints .sub (.t 43) (.c (iv 1)))⟩,
  ⟨some (37, false), .val 45 (.ints .neq (.t 40) (.t 44))⟩,
  ⟨none, .val 46 (.pick (.t 37) (.c (bv true)) (.t 45))⟩] false [.forget [32, 33, 34, 35, 36, 37, 38, 39, 40, 41, 42, 43, 44, 45]]
abbrev zRo : HCode := .reg [⟨none, .val 4 (.mv (.c (bv true)))⟩] false []
abbrev zRp : HCode := .reg [⟨none, .val 7 (.mv (.c (iv 0)))⟩] false []
abbrev zRq : HCode := .reg [⟨none, .val 47 (.mv (.t 7))⟩,
  ⟨none, .val 48 (.fldR (.t 6) 0 1)⟩,
  ⟨none, .val 49 (.ldR (.t 48) 1 false)⟩,
  ⟨none, .val 50 (.len false (.t 49))⟩,
  ⟨none, .val 51 (.ints .lss (.t 47) (.t 50))⟩] false [.forget [47, 48, 49, 50]]
abbrev zPO : HCode := .reg [⟨none, .val 54 (.fldR (.t 6) 0 1)⟩,
  ⟨none, .val 55 (.ldR (.t 54) 1 false)⟩,
  ⟨none, .val 56 (.mv (.t 7))⟩,
  ⟨none, .val 57 (.idxA 2 (.t 55) (.t 56))⟩,
  ⟨none, .val 58 (.fldR (.t 57) 1 1)⟩,
  ⟨none, .val 59 (.ldR (.t 58) 1 false)⟩,
  ⟨none, .val 60 (.len false (.t 59))⟩,
  ⟨none, .val 61 (.ints .gtr (.t 60) (.c (iv 6)))⟩] false [.forget [54, 55, 56, 57, 58, 59, 60]]
abbrev zPP : HCode := .reg [⟨none, .val 4 (.mv (.c (bv true)))⟩] false []
abbrev zPQ : HCode := .reg [⟨none, .val 8 (.mv (.c (iv 0)))⟩] false []
abbrev zPR : HCode := .reg [⟨none, .val 62 (.mv (.t 8))⟩,
  ⟨none, .val 63 (.fldR (.t 6) 0 1)⟩,
  ⟨none, .val 64 (.ldR (.t 63) 1 false)⟩,
  ⟨none, .val 65 (.mv (.t 7))⟩,
  ⟨none, .val 66 (.idxA 2 (.t 64) (.t 65))⟩,
  ⟨none, .val 67 (.fldR (.t 66) 1 1)⟩,
  ⟨none, .val 68 (.ldR (.t 67) 1 false)⟩,
  ⟨none, .val 69 (.len false (.t 68))⟩,
  ⟨none, .val 70 (.ints .lss (.t 62) (.t 69))⟩] false [.forget [62, 63, 64, 65, 66, 67, 68, 69]]
abbrev zPS : HCode := .reg [⟨none, .val 73 (.fldR (.t 6) 0 1)⟩,
  ⟨none, .val 74 (.ldR (.t 73) 1 false)⟩,
  ⟨none, .val 75 (.mv (.t 7))⟩,
  ⟨none, .val 76 (.idxA 2 (.t 74) (.t 75))⟩,
  ⟨none, .val 77 (.fldR (.t 76) 1 1)⟩,
  ⟨none, .val 78 (.ldR (.t 77) 1 false)⟩,
  ⟨none, .val 79 (.mv (.t 8))⟩,
  ⟨none, .val 80 (.idxA 6 (.t 78) (.t 79))⟩,
  ⟨none, .val 81 (.ldR (.t 80) 6 true)⟩,
  ⟨none, .alloc 9 1 100 [.v (.int .i64 0), .v (mkS []), .v (mkS []), .v (.int .i64 0), .v (.int .i64 0), .nl 2]⟩,
  ⟨none, .sto (.t 9) 1 100 0 6 (.t 81)⟩] false [.frz 1 100 6, .forget [73, 74, 75, 76, 77, 78, 79, 80, 81]]
abbrev zPT : HCode := .reg [⟨none, .val 83 (.fldR (.t 9) 0 1)⟩,
  ⟨none, .val 84 (.ldR (.t 83) 1 false)⟩,
  ⟨none, .call (some 85) zGl [(.t 84, .v)]⟩,
  ⟨none, .val 82 (.mv (.t 85))⟩,
  ⟨none, .val 86 (.ext 82 0)⟩,
  ⟨none, .val 87 (.ext 82 1)⟩,
  ⟨none, .val 88 (.ext 82 2)⟩,
  ⟨none, .val 89 (.ext 82 3)⟩,
  ⟨none, .val 10 (.mv (.t 86))⟩,
  ⟨none, .val 11 (.mv (.t 87))⟩,
  ⟨none, .val 12 (.mv (.t 88))⟩,
  ⟨none, .val 13 (.mv (.t 89))⟩] false [.forget [10, 11, 12, 82, 83, 84, 85, 86, 87, 88, 89]]
abbrev zPU : HCode := .reg [⟨none, .val 90 (.mv (.t 13))⟩,
  ⟨none, .val 91 (.mv (.t 90))⟩,
  ⟨some (91, true), .val 92 (.fldR (.t 9) 5 1)⟩,
  ⟨some (91, true), .val 93 (.ldR (.t 92) 1 false)⟩,
  ⟨some (91, true), .val 94 (.mv (.t 1))⟩,
  ⟨some (91, true), .val 95 (.ints .add (.t 94) (.c (iv 1)))⟩,
  ⟨some (91, true), .call (some 96) zEd [(.t 93, .v), (.t 95, .v)]⟩,
  ⟨none, .val 97 (.pick (.t 91) (.t 96) (.c (bv false)))⟩] false [.forget [90, 91, 92, 93, 94, 95, 96]]
abbrev zPV : HCode := .reg [⟨none, .val 4 (.mv (.c (bv true)))⟩] false []
abbrev zPW : HCode := .reg [⟨none, .val 71 (.mv (.t 8))⟩,
  ⟨none, .val 72 (.ints .add (.t 71) (.c (iv 1)))⟩,
  ⟨none, .val 8 (.mv (.t 72))⟩] false [.forget [71, 72]]
abbrev zPX : HCode := .reg [⟨none, .val 52 (.mv (.t 7))⟩,
  ⟨none, .val 53 (.ints .add (.t 52) (.c (iv 1)))⟩,
  ⟨none, .val 7 (.mv (.t 53))⟩] false [.forget [52, 53]]
abbrev zPY : HCode := .reg [⟨none, .val 26 (.mv (.t 5))⟩,
  ⟨none, .val 27 (.ints .add (.t 26) (.c (iv 1)))⟩,
  ⟨none, .val 5 (.mv (.t 27))⟩] false [.forget [26, 27]]
abbrev zPZ : HCode := .reg [⟨none, .val 4 (.mv (.c (bv false)))⟩] false []
abbrev zZO : HCode := (.seq zRh (.seq (.seq zRi (.cond (.t 21) (.seq zRj .ret) .skip)) (.seq (.seq zRk (.block 0 (.loop (.seq (.seq zRl (.cond (.t 25) .skip (.exit 0))) (.seq (.block 1 (.seq zRm (.seq (.seq zRn (.cond (.t 46) (.seq zRo .ret) .skip)) (.seq zRp (.block 2 (.loop (.seq (.seq zRq (.cond (.t 51) .skip (.exit 2))) (.seq (.block 3 (.seq (.seq zPO (.cond (.t 61) (.seq zPP .ret) .skip)) (.seq zPQ (.block 4 (.loop (.seq (.seq zPR (.cond (.t 70) .skip (.exit 4))) (.seq (.block 5 (.seq zPS (.seq zPT (.seq zPU (.cond (.t 97) (.seq zPV .ret) .skip))))) zPW))))))) zPX)))))))) zPY))))) (.seq zPZ .ret))))
abbrev zEL : Env := { N := 98, Γ := [(98, 2), (100, 6)], L := 106, nfix := 0 }
abbrev zUO : List RSrc := [.tmp 4]
theorem zRr {base : Nat} {av : List AV} {r : RV} (hfo : zAx zEL base av) (hW : AVs.fits av → hwp Tryz.prog zZO (zBO zEL base av zUO r) (F0 zEL base av)) (hov : ∀ x, r.res = .ov x → zBx av = 0 := by intro x h; cases h <;> rfl) : Contract Tryz.prog zEd av r :=
 zAa (fn := Tryz.f125) (c := Tryz.f125.body.getD .skip) (by kernel_rfl) (by kernel_rfl) (by kernel_rfl) (by kernel_rfl) (by kernel_rfl) (by kernel_rfl) (by kernel_rfl) hfo hW hov
abbrev zRs : HCode := .reg [⟨none, .val 2 (.mv (.c (bv false)))⟩] false []
abbrev zRt : HCode := .reg [⟨none, .val 3 (.mv (.c (iv 0)))⟩] false []
abbrev zRu : HCode := .reg [⟨none, .val 12 (.mv (.t 3))⟩,
  ⟨none, .val 13 (.mv (.t 0))⟩,
  ⟨none, .val 14 (.len false (.t 13))⟩,
  ⟨none, .val 15 (.ints .lss (.t 12) (.t 14))⟩] false [.forget [12, 13, 14]]
abbrev zRv : HCode := .reg [⟨none, .val 4 (.mv (.c (iv 0)))⟩] false []
abbrev zRw : HCode := .reg [⟨none, .val 18 (.mv (.t 4))⟩,
  ⟨none, .val 19 (.mv (.t 0))⟩,
  ⟨none, .val 20 (.mv (.t 3))⟩,
  ⟨none, .val 21 (.idxA 2 (.t 19) (.t 20))⟩,
  ⟨none, .val 22 (.fldR (.t 21) 1 1)⟩,
  ⟨none, .val 23 (.ldR (.t 22) 1 false)⟩,
  ⟨none, .val 24 (.len false (.t 23))⟩,
  ⟨none, .val 25 (.ints .lss (.t 18) (.t 24))⟩] false [.forget [18, 19, 20, 21, 22, 23, 24]]
abbrev zRx : HCode := .reg [⟨none, .val 28 (.mv (.t 0))⟩,
  ⟨none, .val 29 (.mv (.t 3))⟩,
  ⟨none, .val 30 (.idxA 2 (.t 28) (.t 29))⟩,
  ⟨none, .val 31 (.fldR (.t 30) 1 1)⟩,
  ⟨none, .val 32 (.ldR (.t 31) 1 false)⟩,
  ⟨none, .val 33 (.mv (.t 4))⟩,
  ⟨none, .val 34 (.idxA 1 (.t 32) (.t 33))⟩,
  ⟨none, .val 35 (.ldR (.t 34) 1 false)⟩,
  ⟨none, .call (some 36) zAJ [(.t 35, .v), (.c (iv 1), .v), (.c (iv 4), .v)]⟩,
  ⟨none, .val 37 (.not (.t 36))⟩] false [.forget [28, 29, 30, 31, 32, 33, 34, 35, 36]]
abbrev zRy : HCode := .reg [⟨none, .val 2 (.mv (.c (bv true)))⟩] false []
abbrev zRz : HCode := .reg [⟨none, .val 26 (.mv (.t 4))⟩,
  ⟨none, .val 27 (.ints .add (.t 26) (.c (iv 1)))⟩,
  ⟨none, .val 4 (.mv (.t 27))⟩] false [.forget [26, 27]]
abbrev zRA : HCode := .reg [⟨none, .val 5 (.mv (.c (iv 0)))⟩] false []
abbrev zRB : HCode := .reg [⟨none, .val 38 (.mv (.t 5))⟩,
  ⟨none, .val 39 (.mv (.t 0))⟩,
  ⟨none, .val 40 (.mv (.t 3))⟩,
  ⟨none, .val 41 (.idxA 2 (.t 39) (.t 40))⟩,
  ⟨none, .val 42 (.fldR (.t 41) 0 1)⟩,
  ⟨none, .val 43 (.ldR (.t 42) 1 false)⟩,
  ⟨none, .val 44 (.len false (.t 43))⟩,
  ⟨none, .val 45 (.ints .lss (.t 38) (.t 44))⟩] false [.forget [38, 39, 40, 41, 42, 43, 44]]
abbrev zP0 : HCode := .reg [⟨none, .val 6 (.mv (.c (iv 0)))⟩] false []
abbrev zP1 : HCode := .reg [⟨none, .val 48 (.mv (.t 6))⟩,
  ⟨none, .val 49 (.mv (.t 0))⟩,
  ⟨none, .val 50 (.mv (.t 3))⟩,
  ⟨none, .val 51 (.idxA 2 (.t 49) (.t 50))⟩,
  ⟨none, .val 52 (.fldR (.t 51) 0 1)⟩,
  ⟨none, .val 53 (.ldR (.t 52) 1 false)⟩,
  ⟨none, .val 54 (.mv (.t 5))⟩,
  ⟨none, .val 55 (.idxA 2 (.t 53) (.t 54))⟩,
  ⟨none, .val 56 (.fldR (.t 55) 1 1)⟩,
  ⟨none, .val 57 (.ldR (.t 56) 1 false)⟩,
  ⟨none, .val 58 (.len false (.t 57))⟩,
  ⟨none, .val 59 (.ints .lss (.t 48) (.t 58))⟩] false [.forget [48, 49, 50, 51, 52, 53, 54, 55, 56, 57, 58]]
abbrev zP2 : HCode := .reg [⟨none, .val 62 (.mv (.t 0))⟩,
  ⟨none, .val 63 (.mv (.t 3))⟩,
  ⟨none, .val 64 (.idxA 2 (.t 62) (.t 63))⟩,
  ⟨none, .val 65 (.fldR (.t 64) 0 1)⟩,
  ⟨none, .val 66 (.ldR (.t 65) 1 false)⟩,
  ⟨none, .val 67 (.mv (.t 5))⟩,
  ⟨none, .val 68 (.idxA 2 (.t 66) (.t 67))⟩,
  ⟨none, .val 69 (.fldR (.t 68) 1 1)⟩,
  ⟨none, .val 70 (.ldR (.t 69) 1 false)⟩,
  ⟨none, .val 71 (.mv (.t 6))⟩,
  ⟨none, .val 72 (.idxA 6 (.t 70) (.t 71))⟩,
  ⟨none, .val 73 (.ldR (.t 72) 6 true)⟩,
  ⟨none, .alloc 7 0 94 [.v (.int .i64 0), .v (mkS []), .v (mkS []), .v (.int .i64 0), .v (.int .i64 0), .nl 2]⟩,
  ⟨none, .sto (.t 7) 0 94 0 6 (.t 73)⟩] false [.frz 0 94 6, .forget [62, 63, 64, 65, 66, 67, 68, 69, 70, 71, 72, 73]]
abbrev zP3 : HCode := .reg [⟨none, .val 75 (.fldR (.t 7) 0 1)⟩,
  ⟨none, .val 76 (.ldR (.t 75) 1 false)⟩,
  ⟨none, .call (some 77) zGl [(.t 76, .v)]⟩,
  ⟨none, .val 74 (.mv (.t 77))⟩,
  ⟨none, .val 78 (.ext 74 0)⟩,
  ⟨none, .val 79 (.ext 74 1)⟩,
  ⟨none, .val 80 (.ext 74 2)⟩,
  ⟨none, .val 81 (.ext 74 3)⟩,
  ⟨none, .val 8 (.mv (.t 78))⟩,
  ⟨none, .val 9 (.mv (.t 79))⟩,
  ⟨none, .val 10 (.mv (.t 80))⟩,
  ⟨none, .val 11 (.mv (.t 81))⟩] false [.forget [8, 9, 10, 74, 75, 76, 77, 78, 79, 80, 81]]
abbrev zP4 : HCode := .reg [⟨none, .val 82 (.fldR (.t 7) 0 1)⟩,
  ⟨none, .val 83 (.ldR (.t 82) 1 false)⟩,
  ⟨none, .call (some 84) zAJ [(.t 83, .v), (.c (iv 1), .v), (.c (iv 15), .v)]⟩,
  ⟨none, .val 85 (.not (.t 84))⟩,
  ⟨none, .val 86 (.mv (.t 85))⟩,
  ⟨some (86, false), .val 87 (.mv (.t 11))⟩,
  ⟨some (86, false), .val 88 (.mv (.t 87))⟩,
  ⟨some (88, true), .val 89 (.fldR (.t 7) 5 1)⟩,
  ⟨some (88, true), .val 90 (.ldR (.t 89) 1 false)⟩,
  ⟨some (88, true), .call (some 91) zEc [(.t 90, .v)]⟩,
  ⟨some (86, false), .val 92 (.pick (.t 88) (.t 91) (.c (bv false)))⟩,
  ⟨none, .val 93 (.pick (.t 86) (.c (bv true)) (.t 92))⟩] false [.forget [82, 83, 84, 85, 86, 87, 88, 89, 90, 91, 92]]
abbrev zP5 : HCode := .reg [⟨none, .val 2 (.mv (.c (bv true)))⟩] false []
abbrev zP6 : HCode := .reg [⟨none, .val 60 (.mv (.t 6))⟩,
  ⟨none, .val 61 (.ints .add (.t 60) (.c (iv 1)))⟩,
  ⟨none, .val 6 (.mv (.t 61))⟩] false [.forget [60, 61]]
abbrev zP7 : HCode := .reg [⟨none, .val 46 (.mv (.t 5))⟩,
  ⟨none, .val 47 (.ints .add (.t 46) (.c (iv 1)))⟩,
  ⟨none, .val 5 (.mv (.t 47))⟩] false [.forget [46, 47]]
abbrev zP8 : HCode := .reg [⟨none, .val 16 (.mv (.t 3))⟩,
  ⟨none, .val 17 (.ints .add (.t 16) (.c (iv 1)))⟩,
  ⟨none, .val 3 (.mv (.t 17))⟩] false [.forget [16, 17]]
abbrev zP9 : HCode := .reg [⟨none, .val 2 (.mv (.c (bv false)))⟩] false []
abbrev zZP : HCode := (.seq zRs (.seq (.seq zRt (.block 0 (.loop (.seq (.seq zRu (.cond (.t 15) .skip (.exit 0))) (.seq (.block 1 (.seq (.seq zRv (.block 2 (.loop (.seq (.seq zRw (.cond (.t 25) .skip (.exit 2))) (.seq (.block 3 (.seq zRx (.cond (.t 37) (.seq zRy .ret) .skip))) zRz))))) (.seq zRA (.block 4 (.loop (.seq (.seq zRB (.cond (.t 45) .skip (.exit 4))) (.seq (.block 5 (.seq zP0 (.block 6 (.loop (.seq (.seq zP1 (.cond (.t 59) .skip (.exit 6))) (.seq (.block 7 (.seq zP2 (.seq zP3 (.seq zP4 (.cond (.t 93) (.seq zP5 .ret) .skip))))) zP6)))))) zP7))))))) zP8))))) (.seq zP9 .ret)))
abbrev zEM : Env := { N := 94, Γ := [(94, 6)], L := 100, nfix := 0 }
abbrev zUP : List RSrc := [.tmp 2]
theorem zRC {base : Nat} {av : List AV} {r : RV} (hfo : zAx zEM base av) (hW : AVs.fits av → hwp Tryz.prog zZP (zBO zEM base av zUP r) (F0 zEM base av)) (hov : ∀ x, r.res = .ov x → zBx av = 0 := by intro x h; cases h <;> rfl) : Contract Tryz.prog zEc av r :=
 zAa (fn := Tryz.f126) (c := Tryz.f126.body.getD .skip) (by kernel_rfl) (by kernel_rfl) (by kernel_rfl) (by kernel_rfl) (by kernel_rfl) (by kernel_rfl) (by kernel_rfl) hfo hW hov
abbrev zRD : HCode := .reg [⟨none, .val 2 (.mv (.c (bv false)))⟩] false []
abbrev zRE : HCode := .reg [⟨none, .val 3 (.mv (.c (iv 0)))⟩] false []
abbrev zRF : HCode := .reg [⟨none, .val 12 (.mv (.t 3))⟩,
  ⟨none, .val 13 (.mv (.t 0))⟩,
  ⟨none, .val 14 (.len false (.t 13))⟩,
  ⟨none, .val 15 (.ints .lss (.t 12) (.t 14))⟩] false [.forget [12, 13, 14]]
abbrev zRG : HCode := .reg [⟨none, .val 4 (.mv (.c (iv 0)))⟩] false []
abbrev zRH : HCode := .reg [⟨none, .val 18 (.mv (.t 4))⟩,
  ⟨none, .val 19 (.mv (.t 0))⟩,
  ⟨none, .val 20 (.mv (.t 3))⟩,
  ⟨none, .val 21 (.idxA 2 (.t 19) (.t 20))⟩,
  ⟨none, .val 22 (.fldR (.t 21) 0 1)⟩,
  ⟨none, .val 23 (.ldR (.t 22) 1 false)⟩,
  ⟨none, .val 24 (.len false (.t 23))⟩,
  ⟨none, .val 25 (.ints .lss (.t 18) (.t 24))⟩] false [.forget [18, 19, 20, 21, 22, 23, 24]]
abbrev zRI : HCode := .reg [⟨none, .val 28 (.mv (.t 0))⟩,
  ⟨none, .val 29 (.mv (.t 3))⟩,
  ⟨none, .val 30 (.idxA 2 (.t 28) (.t 29))⟩,
  ⟨none, .val 31 (.fldR (.t 30) 0 1)⟩,
  ⟨none, .val 32 (.ldR (.t 31) 1 false)⟩,
  ⟨none, .val 33 (.mv (.t 4))⟩,
  ⟨none, .val 34 (.idxA 2 (.t 32) (.t 33))⟩,
  ⟨none, .val 35 (.ldR (.t 34) 2 true)⟩,
  ⟨none, .alloc 5 0 127 [.v (mkS []), .nl 6]⟩,
  ⟨none, .sto (.t 5) 0 127 0 2 (.t 35)⟩] false [.frz 0 127 2, .forget [28, 29, 30, 31, 32, 33, 34, 35]]
abbrev zRJ : HCode := .reg [⟨none, .val 36 (.fldR (.t 5) 0 1)⟩,
  ⟨none, .val 37 (.ldR (.t 36) 1 false)⟩,
  ⟨none, .val 38 (.strs .neq (.t 37) (.c (sv [])))⟩,
  ⟨none, .val 39 (.mv (.t 38))⟩,
  ⟨some (39, true), .val 40 (.fldR (.t 5) 0 1)⟩,
  ⟨some (39, true), .val 41 (.ldR (.t 40) 1 false)⟩,
  ⟨some (39, true), .call (some 42) zBT [(.t 41, .v)]⟩,
  ⟨some (39, true), .val 43 (.not (.t 42))⟩,
  ⟨none, .val 44 (.pick (.t 39) (.t 43) (.c (bv false)))⟩] false [.forget [36, 37, 38, 39, 40, 41, 42, 43]]
abbrev zRK : HCode := .reg [⟨none, .val 2 (.mv (.c (bv true)))⟩] false []
abbrev zRL : HCode := .reg [⟨none, .val 6 (.mv (.c (iv 0)))⟩] false []
abbrev zRM : HCode := .reg [⟨none, .val 45 (.mv (.t 6))⟩,
  ⟨none, .val 46 (.fldR (.t 5) 1 1)⟩,
  ⟨none, .val 47 (.ldR (.t 46) 1 false)⟩,
  ⟨none, .val 48 (.len false (.t 47))⟩,
  ⟨none, .val 49 (.ints .lss (.t 45) (.t 48))⟩] false [.forget [45, 46, 47, 48]]
abbrev zQa : HCode := .reg [⟨none, .val 52 (.fldR (.t 5) 1 1)⟩,
  ⟨none, .val 53 (.ldR (.t 52) 1 false)⟩,
  ⟨none, .val 54 (.mv (.t 6))⟩,
  ⟨none, .val 55 (.idxA 6 (.t 53) (.t 54))⟩,
  ⟨none, .val 56 (.ldR (.t 55) 6 true)⟩,
  ⟨none, .alloc 7 1 129 [.v (.int .i64 0), .v (mkS []), .v (mkS []), .v (.int .i64 0), .v (.int .i64 0), .nl 2]⟩,
  ⟨none, .sto (.t 7) 1 129 0 6 (.t 56)⟩] false [.frz 1 129 6, .forget [52, 53, 54, 55, 56]]
abbrev zQb : HCode := .reg [⟨none, .val 58 (.fldR (.t 7) 0 1)⟩,
  ⟨none, .val 59 (.ldR (.t 58) 1 false)⟩,
  ⟨none, .call (some 60) zGl [(.t 59, .v)]⟩,
  ⟨none, .val 57 (.mv (.t 60))⟩,
  ⟨none, .val 61 (.ext 57 0)⟩,
  ⟨none, .val 62 (.ext 57 1)⟩,
  ⟨none, .val 63 (.ext 57 2)⟩,
  ⟨none, .val 64 (.ext 57 3)⟩,
  ⟨none, .val 8 (.mv (.t 61))⟩,
  ⟨none, .val 9 (.mv (.t 62))⟩,
  ⟨none, .val 10 (.mv (.t 63))⟩,
  ⟨none, .val 11 (.mv (.t 64))⟩] false [.forget [57, 58, 59, 60, 61, 62, 63, 64]]
abbrev zQc : HCode := .reg [⟨none, .val 65 (.mv (.t 8))⟩,
  ⟨none, .val 66 (.mv (.t 65))⟩,
  ⟨some (66, true), .val 67 (.fldR (.t 7) 1 1)⟩,
  ⟨some (66, true), .val 68 (.ldR (.t 67) 1 false)⟩,
  ⟨some (66, true), .call (some 69) zBT [(.t 68, .v)]⟩,
  ⟨some (66, true), .val 70 (.not (.t 69))⟩,
  ⟨none, .val 71 (.pick (.t 66) (.t 70) (.c (bv false)))⟩,
  ⟨none, .val 72 (.mv (.t 71))⟩,
  ⟨some (72, false), .val 73 (.mv (.t 8))⟩,
  ⟨some (72, false), .val 74 (.not (.t 73))⟩,
  ⟨some (72, false), .val 75 (.mv (.t 74))⟩,
  ⟨some (75, true), .val 76 (.fldR (.t 7) 1 1)⟩,
  ⟨some (75, true), .val 77 (.ldR (.t 76) 1 false)⟩,
  ⟨some (75, true), .val 78 (.strs .neq (.t 77) (.c (sv [])))⟩,
  ⟨some (72, false), .val 79 (.pick (.t 75) (.t 78) (.c (bv false)))⟩,
  ⟨none, .val 80 (.pick (.t 72) (.c (bv true)) (.t 79))⟩,
  ⟨none, .val 81 (.mv (.t 80))⟩,
  ⟨some (81, false), .val 82 (.mv (.t 9))⟩,
  ⟨some (81, false), .val 83 (.mv (.t 82))⟩,
  ⟨some (83, true), .val 84 (.fldR (.t 7) 2 1)⟩,
  ⟨some (83, true), .val 85 (.ldR (.t 84) 1 false)⟩,
  ⟨some (83, true), .call (some 86) zD5 [(.t 85, .v)]⟩,
  ⟨some (83, true), .val 87 (.not (.t 86))⟩,
  ⟨some (81, false), .val 88 (.pick (.t 83) (.t 87) (.c (bv false)))⟩,
  ⟨none, .val 89 (.pick (.t 81) (.c (bv true)) (.t 88))⟩,
  ⟨none, .val 90 (.mv (.t 89))⟩,
  ⟨some (90, false), .val 91 (.mv (.t 9))⟩,
  ⟨some (90, false), .val 92 (.not (.t 91))⟩,
  ⟨some (90, false), .val 93 (.mv (.t 92))⟩,
  ⟨some (93, true), .val 94 (.fldR (.t 7) 2 1)⟩,
  ⟨some (93, true), .val 95 (.ldR (.t 94) 1 false)⟩,
  ⟨some (93, true), .val 96 (.strs .neq (.t 95) (.c (sv [])))⟩,
  ⟨some (90, false), .val 97 (.pick (.t 93) (.t 96) (.c (bv false)))⟩,
  ⟨none, .val 98 (.pick (.t 90) (.c (bv true)) (.t 97))⟩,
  ⟨none, .val 99 (.mv (.t 98))⟩,
  ⟨some (99, false), .val 100 (.mv (.t 10))⟩,
  ⟨some (99, false), .val 101 (.not (.t 100))⟩,
  ⟨some (99, false), .val 102 (.mv (.t 101))⟩,
  ⟨some (102, true), .val 103 (.fldR (.t 7) 3 2)⟩,
  ⟨some (102, true), .val 104 (.ldR (.t 103) 2 true)⟩,
  ⟨some (102, true), .val 105 (.bld [.v (.int .i64 0), .v (.int .i64 0)] [])⟩,
  ⟨some (102, true), .val 106 (.steq true [0, 0] (.t 104) (.t 105))⟩,
  ⟨some (99, false), .val 107 (.pick (.t 102) (.t 106) (.c (bv false)))⟩,
  ⟨none, .val 108 (.pick (.t 99) (.c (bv true)) (.t 107))⟩,
  ⟨none, .val 109 (.mv (.t 108))⟩,
  ⟨some (109, false), .val 110 (.mv (.t 11))⟩,
  ⟨some (109, false), .val 111 (.not (.t 110))⟩,
  ⟨some (109, false), .val 112 (.mv (.t 111))⟩,
  ⟨some (112, true), .val 113 (.fldR (.t 7) 5 1)⟩,
  ⟨some (112, true), .val 114 (.ldR (.t 113) 1 false)⟩,
  ⟨some (112, true), .val 115 (.len false (.t 114))⟩,
  ⟨some (112, true), .val 116 (.ints .gtr (.t 115) (.c (iv 0)))⟩,
  ⟨some (109, false), .val 117 (.pick (.t 112) (.t 116) (.c (bv false)))⟩,
  ⟨none, .val 118 (.pick (.t 109) (.c (bv true)) (.t 117))⟩,
  ⟨none, .val 119 (.mv (.t 118))⟩,
  ⟨some (119, false), .val 120 (.mv (.t 11))⟩,
  ⟨some (119, false), .val 121 (.mv (.t 120))⟩,
  ⟨some (121, true), .val 122 (.fldR (.t 7) 5 1)⟩,
  ⟨some (121, true), .val 123 (.ldR (.t 122) 1 false)⟩,
  ⟨some (121, true), .call (some 124) zEb [(.t 123, .v)]⟩,
  ⟨some (119, false), .val 125 (.pick (.t 121) (.t 124) (.c (bv false)))⟩,
  ⟨none, .val 126 (.pick (.t 119) (.c (bv true)) (.t 125))⟩] false [.forget [65, 66, 67, 68, 69, 70, 71, 72, 73, 74, 75, 76, 77, 78, 79, 80, 81, 82, 83, 84, 85, 86, 87, 88, 89, 90, 91, 92, 93, 94, 95, 96, 97, 98, 99, 100, 101, 102, 103, 104, 105, 106, 107, 108, 109, 110, 111, 112, 113, 114, 115, 116, 117, 118, 119, 120, 121, 122, 123, 124, 125]]
abbrev zQd : HCode := .reg [⟨none, .val 2 (.mv (.c (bv true)))⟩] false []
abbrev zQe : HCode := .reg [⟨none, .val 50 (.mv (.t 6))⟩,
  ⟨none, .val 51 (.ints .add (.t 50) (.c (iv 1)))⟩,
  ⟨none, .val 6 (.mv (.t 51))⟩] false [.forget [50, 51]]
abbrev zQf : HCode := .reg [⟨none, .val 26 (.mv (.t 4))⟩,
  ⟨none, .val 27 (.ints .add (.t 26) (.c (iv 1)))⟩,
  ⟨none, .val 4 (.mv (.t 27))⟩] false [.forget [26, 27]]
abbrev zQg : HCode := .reg [⟨none, .val 16 (.mv (.t 3))⟩,
  ⟨none, .val 17 (.ints .add (.t 16) (.c (iv 1)))⟩,
  ⟨none, .val 3 (.mv (.t 17))⟩] false [.forget [16, 17]]
abbrev zQh : HCode := .reg [⟨none, .val 2 (.mv (.c (bv false)))⟩] false []
abbrev zZQ : HCode := (.seq zRD (.seq (.seq zRE (.block 0 (.loop (.seq (.seq zRF (.cond (.t 15) .skip (.exit 0))) (.seq (.block 1 (.seq zRG (.block 2 (.loop (.seq (.seq zRH (.cond (.t 25) .skip (.exit 2))) (.seq (.block 3 (.seq zRI (.seq (.seq zRJ (.cond (.t 44) (.seq zRK .ret) .skip)) (.seq zRL (.block 4 (.loop (.seq (.seq zRM (.cond (.t 49) .skip (.exit 4))) (.seq (.block 5 (.seq zQa (.seq zQb (.seq zQc (.cond (.t 126) (.seq zQd .ret) .skip))))) zQe)))))))) zQf)))))) zQg))))) (.seq zQh .ret)))
abbrev zEN : Env := { N := 127, Γ := [(127, 2), (129, 6)], L := 135, nfix := 0 }
abbrev zUQ : List RSrc := [.tmp 2]
theorem zRN {base : Nat} {av : List AV} {r : RV} (hfo : zAx zEN base av) (hW : AVs.fits av → hwp Tryz.prog zZQ (zBO zEN base av zUQ r) (F0 zEN base av)) (hov : ∀ x, r.res = .ov x → zBx av = 0 := by intro x h; cases h <;> rfl) : Contract Tryz.prog zEb av r :=
 zAa (fn := Tryz.f127) (c := Tryz.f127.body.getD .skip) (by kernel_rfl) (by kernel_rfl) (by kernel_rfl) (by kernel_rfl) (by kernel_rfl) (by kernel_rfl) (by kernel_rfl) hfo hW hov
abbrev zUR : HCode := .reg [⟨none, .val 2 (.mv (.c (bv false)))⟩] false []
abbrev zUS : HCode := .reg [⟨none, .val 3 (.mv (.c (iv 0)))⟩] false []
abbrev zUT : HCode := .reg [⟨none, .val 7 (.mv (.t 3))⟩,
  ⟨none, .val 8 (.mv (.t 0))⟩,
  ⟨none, .val 9 (.len false (.t 8))⟩,
  ⟨none, .val 10 (.ints .lss (.t 7) (.t 9))⟩] false [.forget [7, 8, 9]]
abbrev zUU : HCode := .reg [⟨none, .val 4 (.mv (.c (iv 0)))⟩] false []
abbrev zUV : HCode := .reg [⟨none, .val 13 (.mv (.t 4))⟩,
  ⟨none, .val 14 (.mv (.t 0))⟩,
  ⟨none, .val 15 (.mv (.t 3))⟩,
  ⟨none, .val 16 (.idxA 2 (.t 14) (.t 15))⟩,
  ⟨none, .val 17 (.fldR (.t 16) 0 1)⟩,
  ⟨none, .val 18 (.ldR (.t 17) 1 false)⟩,
  ⟨none, .val 19 (.len false (.t 18))⟩,
  ⟨none, .val 20 (.ints .lss (.t 13) (.t 19))⟩] false [.forget [13, 14, 15, 16, 17, 18, 19]]
abbrev zUW : HCode := .reg [⟨none, .val 5 (.mv (.c (iv 0)))⟩] false []
abbrev zUX : HCode := .reg [⟨none, .val 23 (.mv (.t 5))⟩,
  ⟨none, .val 24 (.mv (.t 0))⟩,
  ⟨none, .val 25 (.mv (.t 3))⟩,
  ⟨none, .val 26 (.idxA 2 (.t 24) (.t 25))⟩,
  ⟨none, .val 27 (.fldR (.t 26) 0 1)⟩,
  ⟨none, .val 28 (.ldR (.t 27) 1 false)⟩,
  ⟨none, .val 29 (.mv (.t 4))⟩,
  ⟨none, .val 30 (.idxA 2 (.t 28) (.t 29))⟩,
  ⟨none, .val 31 (.fldR (.t 30) 1 1)⟩,
  ⟨none, .val 32 (.ldR (.t 31) 1 false)⟩,
  ⟨none, .val 33 (.len false (.t 32))⟩,
  ⟨none, .val 34 (.ints .lss (.t 23) (.t 33))⟩] false [.forget [23, 24, 25, 26, 27, 28, 29, 30, 31, 32, 33]]
abbrev zUY : HCode := .reg [⟨none, .val 37 (.mv (.t 0))⟩,
  ⟨none, .val 38 (.mv (.t 3))⟩,
  ⟨none, .val 39 (.idxA 2 (.t 37) (.t 38))⟩,
  ⟨none, .val 40 (.fldR (.t 39) 0 1)⟩,
  ⟨none, .val 41 (.ldR (.t 40) 1 false)⟩,
  ⟨none, .val 42 (.mv (.t 4))⟩,
  ⟨none, .val 43 (.idxA 2 (.t 41) (.t 42))⟩,
  ⟨none, .val 44 (.fldR (.t 43) 1 1)⟩,
  ⟨none, .val 45 (.ldR (.t 44) 1 false)⟩,
  ⟨none, .val 46 (.mv (.t 5))⟩,
  ⟨none, .val 47 (.idxA 6 (.t 45) (.t 46))⟩,
  ⟨none, .val 48 (.ldR (.t 47) 6 true)⟩,
  ⟨none, .alloc 6 0 58 [.v (.int .i64 0), .v (mkS []), .v (mkS []), .v (.int .i64 0), .v (.int .i64 0), .nl 2]⟩,
  ⟨none, .sto (.t 6) 0 58 0 6 (.t 48)⟩] false [.frz 0 58 6, .forget [37, 38, 39, 40, 41, 42, 43, 44, 45, 46, 47, 48]]
abbrev zUZ : HCode := .reg [⟨none, .val 49 (.fldR (.t 6) 3 2)⟩,
  ⟨none, .val 50 (.ldR (.t 49) 2 true)⟩,
  ⟨none, .call (some 51) zDA [(.t 50, .v)]⟩,
  ⟨none, .val 52 (.ints .neq (.t 51) (.c (iv 0)))⟩,
  ⟨none, .val 53 (.mv (.t 52))⟩,
  ⟨some (53, false), .val 54 (.fldR (.t 6) 5 1)⟩,
  ⟨some (53, false), .val 55 (.ldR (.t 54) 1 false)⟩,
  ⟨some (53, false), .call (some 56) zEK [(.t 55, .v)]⟩,
  ⟨none, .val 57 (.pick (.t 53) (.c (bv true)) (.t 56))⟩] false [.forget [49, 50, 51, 52, 53, 54, 55, 56]]
abbrev zU0 : HCode := .reg [⟨none, .val 2 (.mv (.c (bv true)))⟩] false []
abbrev zRO : HCode := .reg [⟨none, .val 35 (.mv (.t 5))⟩,
  ⟨none, .val 36 (.ints .add (.t 35) (.c (iv 1)))⟩,
  ⟨none, .val 5 (.mv (.t 36))⟩] false [.forget [35, 36]]
abbrev zRP : HCode := .reg [⟨none, .val 21 (.mv (.t 4))⟩,
  ⟨none, .val 22 (.ints .add (.t 21) (.c (iv 1)))⟩,
  ⟨none, .val 4 (.mv (.t 22))⟩] false [.forget [21, 22]]
abbrev zRQ : HCode := .reg [⟨none, .val 11 (.mv (.t 3))⟩,
  ⟨none, .val 12 (.ints .add (.t 11) (.c (iv 1)))⟩,
  ⟨none, .val 3 (.mv (.t 12))⟩] false [.forget [11, 12]]
abbrev zRR : HCode := .reg [⟨none, .val 2 (.mv (.c (bv false)))⟩] false []
abbrev yCh : HCode := (.seq zUR (.seq (.seq zUS (.block 0 (.loop (.seq (.seq zUT (.cond (.t 10) .skip (.exit 0))) (.seq (.block 1 (.seq zUU (.block 2 (.loop (.seq (.seq zUV (.cond (.t 20) .skip (.exit 2))) (.seq (.block 3 (.seq zUW (.block 4 (.loop (.seq (.seq zUX (.cond (.t 34) .skip (.exit 4))) (.seq (.block 5 (.seq zUY (.seq zUZ (.cond (.t 57) (.seq zU0 .ret) .skip)))) zRO)))))) zRP)))))) zRQ))))) (.seq zRR .ret)))
abbrev zFN : Env := { N := 58, Γ := [(58, 6)], L := 64, nfix := 0 }
abbrev zXI : List RSrc := [.tmp 2]
theorem zU1 {base : Nat} {av : List AV} {r : RV} (hfo : zAx zFN base av) (hW : AVs.fits av → hwp Tryz.prog yCh (zBO zFN base av zXI r) (F0 zFN base av)) (hov : ∀ x, r.res = .ov x → zBx av = 0 := by intro x h; cases h <;> rfl) : Contract Tryz.prog zEK av r :=
 zAa (fn := Tryz.f128) (c := Tryz.f128.body.getD .skip) (by kernel_rfl) (by kernel_rfl) (by kernel_rfl) (by kernel_rfl) (by kernel_rfl) (by kernel_rfl) (by kernel_rfl) hfo hW hov
abbrev zNC : HCode := .reg [⟨none, .val 2 (.mv (.c (iv 0)))⟩] false []
abbrev zND : HCode := .reg [⟨none, .val 4 (.mv (.t 0))⟩,
  ⟨none, .call (some 5) zEd [(.t 4, .v), (.c (iv 1), .v)]⟩,
  ⟨none, .val 3 (.mv (.t 5))⟩] false [.forget [4, 5]]
abbrev zNE : HCode := .reg [⟨none, .val 2 (.mv (.c (iv 2)))⟩] false []
abbrev zNF : HCode := .reg [⟨none, .val 7 (.mv (.t 0))⟩,
  ⟨none, .call (some 8) zEc [(.t 7, .v)]⟩,
  ⟨none, .val 6 (.mv (.t 8))⟩] false [.forget [7, 8]]
abbrev zNG : HCode := .reg [⟨none, .val 2 (.mv (.c (iv 4)))⟩] false []
abbrev zNH : HCode := .reg [⟨none, .val 10 (.mv (.t 0))⟩,
  ⟨none, .call (some 11) zEb [(.t 10, .v)]⟩,
  ⟨none, .val 9 (.mv (.t 11))⟩] false [.forget [10, 11]]
abbrev zNI : HCode := .reg [⟨none, .val 2 (.mv (.c (iv 1)))⟩] false []
abbrev zNJ : HCode := .reg [⟨none, .val 13 (.mv (.t 0))⟩,
  ⟨none, .call (some 14) zEK [(.t 13, .v)]⟩,
  ⟨none, .val 12 (.mv (.t 14))⟩] false [.forget [13, 14]]
abbrev zNK : HCode := .reg [⟨none, .val 2 (.mv (.c (iv 3)))⟩] false []
abbrev zNL : HCode := .reg [⟨none, .val 2 (.mv (.c (iv 0)))⟩] false []
abbrev zU2 : HCode := (.seq zNC (.seq (.block 0 (.seq zND (.cond (.t 3) (.seq zNE .ret) (.seq zNF (.cond (.t 6) (.seq zNG .ret) (.seq zNH (.cond (.t 9) (.seq zNI .ret) (.seq zNJ (.cond (.t 12) (.seq zNK .ret) .skip))))))))) (.seq zNL .ret)))
abbrev zDC : Env := { N := 15, Γ := [], L := 15, nfix := 0 }
abbrev zQi : List RSrc := [.tmp 2]
theorem zNM {base : Nat} {av : List AV} {r : RV} (hfo : zAx zDC base av) (hW : AVs.fits av → hwp Tryz.prog zU2 (zBO zDC base av zQi r) (F0 zDC base av)) (hov : ∀ x, r.res = .ov x → zBx av = 0 := by intro x h; cases h <;> rfl) : Contract Tryz.prog zEr av r :=
 zAa (fn := Tryz.f54) (c := Tryz.f54.body.getD .skip) (by kernel_rfl) (by kernel_rfl) (by kernel_rfl) (by kernel_rfl) (by kernel_rfl) (by kernel_rfl) (by kernel_rfl) hfo hW hov
end Go.Hx
end

section
/-
 The abstract code of functions of the program, printed by gen.py; each stands for the given one. No condition.
-/
namespace Go.Hx
open Go.Proofs
variable [Glob]
abbrev zD0 : Nat := 19
abbrev zBd : Nat := 66
abbrev zCM : Nat := 22
abbrev zG3 : Nat := 61
abbrev zEO : Nat := 59
abbrev zBU : Nat := 132
abbrev zCq : Nat := 64
abbrev zF0 : Nat := 187
abbrev zB9 : Nat := 130
abbrev zDD : Nat := 62
abbrev zJF : Nat := 129
abbrev zU3 : HCode := .reg [⟨none, .val 2 (.boxF (.t 0))⟩,
  ⟨none, .val 4 (.mv (.c (sv [])))⟩,
  ⟨none, .val 5 (.mv (.c (bv false)))⟩] false []
abbrev zU4 : HCode := .reg [⟨none, .val 6 (.mv (.c (iv 0)))⟩] false []
abbrev zU5 : HCode := .reg [⟨none, .val 7 (.mv (.t 6))⟩,
  ⟨none, .val 8 (.fldR (.t 2) 4 1)⟩,
  ⟨none, .val 9 (.ldR (.t 8) 1 false)⟩,
  ⟨none, .val 10 (.len false (.t 9))⟩,
  ⟨none, .val 11 (.ints .lss (.t 7) (.t 10))⟩] false [.forget [7, 8, 9, 10]]
abbrev zU6 : HCode := .reg [⟨none, .val 14 (.fldR (.t 2) 4 1)⟩,
  ⟨none, .val 15 (.ldR (.t 14) 1 false)⟩,
  ⟨none, .val 16 (.mv (.t 6))⟩,
  ⟨none, .val 17 (.idxA 2 (.t 15) (.t 16))⟩,
  ⟨none, .val 18 (.fldR (.t 17) 0 1)⟩,
  ⟨none, .val 19 (.ldR (.t 18) 1 false)⟩,
  ⟨none, .val 20 (.mv (.t 1))⟩,
  ⟨none, .val 21 (.strs .eql (.t 19) (.t 20))⟩] false [.forget [14, 15, 16, 17, 18, 19, 20]]
abbrev zU7 : HCode := .reg [⟨none, .val 22 (.fldR (.t 2) 4 1)⟩,
  ⟨none, .val 23 (.ldR (.t 22) 1 false)⟩,
  ⟨none, .val 24 (.mv (.t 6))⟩,
  ⟨none, .val 25 (.idxA 2 (.t 23) (.t 24))⟩,
  ⟨none, .val 26 (.fldR (.t 25) 1 1)⟩,
  ⟨none, .val 27 (.ldR (.t 26) 1 false)⟩,
  ⟨none, .val 4 (.mv (.t 27))⟩,
  ⟨none, .val 5 (.mv (.c (bv true)))⟩] false [.forget [22, 23, 24, 25, 26, 27]]
abbrev zU8 : HCode := .reg [⟨none, .val 12 (.mv (.t 6))⟩,
  ⟨none, .val 13 (.ints .add (.t 12) (.c (iv 1)))⟩,
  ⟨none, .val 6 (.mv (.t 13))⟩] false [.forget [12, 13]]
abbrev zU9 : HCode := .reg [⟨none, .val 4 (.mv (.c (sv [])))⟩,
  ⟨none, .val 5 (.mv (.c (bv false)))⟩] false []
abbrev yCi : HCode := (.seq zU3 (.seq (.seq zU4 (.block 0 (.loop (.seq (.seq zU5 (.cond (.t 11) .skip (.exit 0))) (.seq (.block 1 (.seq zU6 (.cond (.t 21) (.seq zU7 .ret) .skip))) zU8))))) (.seq zU9 .ret)))
abbrev zFO : Env := { N := 28, Γ := [], L := 28, nfix := 0 }
abbrev zXJ : List RSrc := [.tmp 4, .tmp 5]
theorem zVa {base : Nat} {av : List AV} {r : RV} (hfo : zAx zFO base av) (hW : AVs.fits av → hwp Tryz.prog yCi (zBO zFO base av zXJ r) (F0 zFO base av)) (hov : ∀ x, r.res = .ov x → zBx av = 0 := by intro x h; cases h <;> rfl) : Contract Tryz.prog zG3 av r :=
 zAa (fn := Tryz.f61) (c := Tryz.f61.body.getD .skip) (by kernel_rfl) (by kernel_rfl) (by kernel_rfl) (by kernel_rfl) (by kernel_rfl) (by kernel_rfl) (by kernel_rfl) hfo hW hov
abbrev zQj : HCode := .reg [⟨none, .val 6 (.mv (.c (bv false)))⟩] false []
abbrev zQk : HCode := .reg [⟨none, .val 7 (.mv (.t 2))⟩,
  ⟨none, .val 8 (.ints .geq (.t 7) (.c (iv 0)))⟩,
  ⟨none, .val 9 (.mv (.t 8))⟩,
  ⟨some (9, true), .val 10 (.mv (.t 2))⟩,
  ⟨some (9, true), .val 11 (.mv (.t 1))⟩,
  ⟨some (9, true), .val 12 (.len true (.t 11))⟩,
  ⟨some (9, true), .val 13 (.ints .add (.t 10) (.t 12))⟩,
  ⟨some (9, true), .val 14 (.mv (.t 0))⟩,
  ⟨some (9, true), .val 15 (.len true (.t 14))⟩,
  ⟨some (9, true), .val 16 (.ints .leq (.t 13) (.t 15))⟩,
  ⟨none, .val 17 (.pick (.t 9) (.t 16) (.c (bv false)))⟩,
  ⟨none, .val 18 (.mv (.t 17))⟩,
  ⟨some (18, true), .val 19 (.mv (.t 0))⟩,
  ⟨some (18, true), .val 20 (.mv (.t 2))⟩,
  ⟨some (18, true), .val 21 (.mv (.t 2))⟩,
  ⟨some (18, true), .val 22 (.mv (.t 1))⟩,
  ⟨some (18, true), .val 23 (.len true (.t 22))⟩,
  ⟨some (18, true), .val 24 (.ints .add (.t 21) (.t 23))⟩,
  ⟨some (18, true), .val 25 (.sls (.t 19) (some (.t 20)) (some (.t 24)))⟩,
  ⟨some (18, true), .val 26 (.mv (.t 1))⟩,
  ⟨some (18, true), .val 27 (.strs .eql (.t 25) (.t 26))⟩,
  ⟨none, .val 28 (.pick (.t 18) (.t 27) (.c (bv false)))⟩,
  ⟨none, .val 6 (.mv (.t 28))⟩] false [.forget [7, 8, 9, 10, 11, 12, 13, 14, 15, 16, 17, 18, 19, 20, 21, 22, 23, 24, 25, 26, 27, 28]]
abbrev zXK : HCode := (.seq zQj (.seq zQk .ret))
abbrev zCr : Env := { N := 29, Γ := [], L := 29, nfix := 0 }
abbrev zRS : List RSrc := [.tmp 6]
theorem zFd {base : Nat} {av : List AV} {r : RV} (hfo : zAx zCr base av) (hW : AVs.fits av → hwp Tryz.prog zXK (zBO zCr base av zRS r) (F0 zCr base av)) (hov : ∀ x, r.res = .ov x → zBx av = 0 := by intro x h; cases h <;> rfl) : Contract Tryz.prog zB9 av r :=
 zAa (fn := Tryz.f130) (c := Tryz.f130.body.getD .skip) (by kernel_rfl) (by kernel_rfl) (by kernel_rfl) (by kernel_rfl) (by kernel_rfl) (by kernel_rfl) (by kernel_rfl) hfo hW hov
abbrev zZR : HCode := .reg [⟨none, .val 4 (.mv (.c (bv false)))⟩] false []
abbrev zZS : HCode := .reg [⟨none, .val 7 (.mv (.t 1))⟩,
  ⟨none, .val 8 (.strs .eql (.t 7) (.c (sv [])))⟩] false [.forget [7]]
abbrev zZT : HCode := .reg [⟨none, .val 4 (.mv (.c (bv false)))⟩] false []
abbrev zZU : HCode := .reg [⟨none, .val 5 (.mv (.c (iv 0)))⟩] false []
abbrev zZV : HCode := .reg [⟨none, .val 9 (.mv (.t 5))⟩,
  ⟨none, .val 10 (.mv (.t 1))⟩,
  ⟨none, .val 11 (.len true (.t 10))⟩,
  ⟨none, .val 12 (.ints .lss (.t 9) (.t 11))⟩] false [.forget [9, 10, 11]]
abbrev zZW : HCode := .reg [⟨none, .val 15 (.mv (.t 1))⟩,
  ⟨none, .val 16 (.mv (.t 5))⟩,
  ⟨none, .val 17 (.idxS (.t 15) (.t 16))⟩,
  ⟨none, .val 18 (.ints .eql (.t 17) (.c (.one (.v (.int .u8 32)))))⟩] false [.forget [15, 16, 17]]
abbrev zZX : HCode := .reg [⟨none, .val 4 (.mv (.c (bv false)))⟩] false []
abbrev zZY : HCode := .reg [⟨none, .val 13 (.mv (.t 5))⟩,
  ⟨none, .val 14 (.ints .add (.t 13) (.c (iv 1)))⟩,
  ⟨none, .val 5 (.mv (.t 14))⟩] false [.forget [13, 14]]
abbrev zZZ : HCode := .reg [⟨none, .val 6 (.mv (.c (iv 0)))⟩] false []
abbrev zZ0 : HCode := .reg [⟨none, .val 19 (.mv (.t 6))⟩,
  ⟨none, .val 20 (.mv (.t 0))⟩,
  ⟨none, .val 21 (.len true (.t 20))⟩,
  ⟨none, .val 22 (.ints .leq (.t 19) (.t 21))⟩] false [.forget [19, 20, 21]]
abbrev zXL : HCode := .reg [⟨none, .val 25 (.mv (.t 0))⟩,
  ⟨none, .val 26 (.mv (.t 1))⟩,
  ⟨none, .val 27 (.mv (.t 6))⟩,
  ⟨none, .call (some 28) zB9 [(.t 25, .v), (.t 26, .v), (.t 27, .v)]⟩,
  ⟨none, .val 29 (.mv (.t 28))⟩,
  ⟨some (29, true), .val 30 (.mv (.t 6))⟩,
  ⟨some (29, true), .val 31 (.ints .eql (.t 30) (.c (iv 0)))⟩,
  ⟨some (29, true), .val 32 (.mv (.t 31))⟩,
  ⟨some (32, false), .val 33 (.mv (.t 0))⟩,
  ⟨some (32, false), .val 34 (.mv (.t 6))⟩,
  ⟨some (32, false), .val 35 (.ints .sub (.t 34) (.c (iv 1)))⟩,
  ⟨some (32, false), .val 36 (.idxS (.t 33) (.t 35))⟩,
  ⟨some (32, false), .val 37 (.ints .eql (.t 36) (.c (.one (.v (.int .u8 32)))))⟩,
  ⟨some (29, true), .val 38 (.pick (.t 32) (.c (bv true)) (.t 37))⟩,
  ⟨none, .val 39 (.pick (.t 29) (.t 38) (.c (bv false)))⟩,
  ⟨none, .val 40 (.mv (.t 39))⟩,
  ⟨some (40, true), .val 41 (.mv (.t 6))⟩,
  ⟨some (40, true), .val 42 (.mv (.t 1))⟩,
  ⟨some (40, true), .val 43 (.len true (.t 42))⟩,
  ⟨some (40, true), .val 44 (.ints .add (.t 41) (.t 43))⟩,
  ⟨some (40, true), .val 45 (.mv (.t 0))⟩,
  ⟨some (40, true), .val 46 (.len true (.t 45))⟩,
  ⟨some (40, true), .val 47 (.ints .eql (.t 44) (.t 46))⟩,
  ⟨some (40, true), .val 48 (.mv (.t 47))⟩,
  ⟨some (48, false), .val 49 (.mv (.t 0))⟩,
  ⟨some (48, false), .val 50 (.mv (.t 6))⟩,
  ⟨some (48, false), .val 51 (.mv (.t 1))⟩,
  ⟨some (48, false), .val 52 (.len true (.t 51))⟩,
  ⟨some (48, false), .val 53 (.ints .add (.t 50) (.t 52))⟩,
  ⟨some (48, false), .val 54 (.idxS (.t 49) (.t 53))⟩,
  ⟨some (48, false), .val 55 (.ints .eql (.t 54) (.c (.one (.v (.int .u8 32)))))⟩,
  ⟨some (40, true), .val 56 (.pick (.t 48) (.c (bv true)) (.t 55))⟩,
  ⟨none, .val 57 (.pick (.t 40) (.t 56) (.c (bv false)))⟩] false [.forget [25, 26, 27, 28, 29, 30, 31, 32, 33, 34, 35, 36, 37, 38, 39, 40, 41, 42, 43, 44, 45, 46, 47, 48, 49, 50, 51, 52, 53, 54, 55, 56]]
abbrev zXM : HCode := .reg [⟨none, .val 4 (.mv (.c (bv true)))⟩] false []
abbrev zXN : HCode := .reg [⟨none, .val 23 (.mv (.t 6))⟩,
  ⟨none, .val 24 (.ints .add (.t 23) (.c (iv 1)))⟩,
  ⟨none, .val 6 (.mv (.t 24))⟩] false [.forget [23, 24]]
abbrev zXO : HCode := .reg [⟨none, .val 4 (.mv (.c (bv false)))⟩] false []
abbrev yE9 : HCode := (.seq zZR (.seq (.seq zZS (.cond (.t 8) (.seq zZT .ret) .skip)) (.seq (.seq zZU (.block 0 (.loop (.seq (.seq zZV (.cond (.t 12) .skip (.exit 0))) (.seq (.block 1 (.seq zZW (.cond (.t 18) (.seq zZX .ret) .skip))) zZY))))) (.seq (.seq zZZ (.block 2 (.loop (.seq (.seq zZ0 (.cond (.t 22) .skip (.exit 2))) (.seq (.block 3 (.seq zXL (.cond (.t 57) (.seq zXM .ret) .skip))) zXN))))) (.seq zXO .ret)))))
abbrev zIE : Env := { N := 58, Γ := [], L := 58, nfix := 0 }
abbrev yCj : List RSrc := [.tmp 4]
theorem zZ1 {base : Nat} {av : List AV} {r : RV} (hfo : zAx zIE base av) (hW : AVs.fits av → hwp Tryz.prog yE9 (zBO zIE base av yCj r) (F0 zIE base av)) (hov : ∀ x, r.res = .ov x → zBx av = 0 := by intro x h; cases h <;> rfl) : Contract Tryz.prog zJF av r :=
 zAa (fn := Tryz.f129) (c := Tryz.f129.body.getD .skip) (by kernel_rfl) (by kernel_rfl) (by kernel_rfl) (by kernel_rfl) (by kernel_rfl) (by kernel_rfl) (by kernel_rfl) hfo hW hov
abbrev zKW : HCode := .reg [⟨none, .val 6 (.mv (.c (bv false)))⟩] false []
abbrev zKX : HCode := .reg [⟨none, .val 8 (.mv (.t 0))⟩] false []
abbrev zKY : HCode := .reg [⟨none, .val 10 (.ints .eql (.t 8) (.c (iv 3)))⟩,
  ⟨none, .val 9 (.mv (.t 10))⟩] false [.forget [10]]
abbrev zKZ : HCode := .reg [⟨none, .val 6 (.mv (.c (bv true)))⟩] false []
abbrev zK0 : HCode := .reg [⟨none, .val 12 (.ints .eql (.t 8) (.c (iv 4)))⟩,
  ⟨none, .val 11 (.mv (.t 12))⟩] false [.forget [12]]
abbrev zK1 : HCode := .reg [⟨none, .val 13 (.mv (.t 1))⟩,
  ⟨none, .val 14 (.mv (.t 2))⟩,
  ⟨none, .val 15 (.strs .eql (.t 13) (.t 14))⟩,
  ⟨none, .val 6 (.mv (.t 15))⟩] false [.forget [13, 14, 15]]
abbrev zK2 : HCode := .reg [⟨none, .val 17 (.ints .eql (.t 8) (.c (iv 8)))⟩,
  ⟨none, .val 16 (.mv (.t 17))⟩] false [.forget [17]]
abbrev zK3 : HCode := .reg [⟨none, .val 18 (.mv (.t 1))⟩,
  ⟨none, .val 19 (.mv (.t 2))⟩,
  ⟨none, .call (some 20) zJF [(.t 18, .v), (.t 19, .v)]⟩,
  ⟨none, .val 6 (.mv (.t 20))⟩] false [.forget [18, 19, 20]]
abbrev zK4 : HCode := .reg [⟨none, .val 21 (.mv (.t 2))⟩,
  ⟨none, .val 22 (.strs .eql (.t 21) (.c (sv [])))⟩] false [.forget [21]]
abbrev zK5 : HCode := .reg [⟨none, .val 6 (.mv (.c (bv false)))⟩] false []
abbrev zJG : HCode := .reg [⟨none, .val 23 (.mv (.t 0))⟩] false []
abbrev zJH : HCode := .reg [⟨none, .val 25 (.ints .eql (.t 23) (.c (iv 5)))⟩,
  ⟨none, .val 24 (.mv (.t 25))⟩] false [.forget [25]]
abbrev zJI : HCode := .reg [⟨none, .val 26 (.mv (.t 1))⟩,
  ⟨none, .val 27 (.mv (.t 2))⟩,
  ⟨none, .call (some 28) zB9 [(.t 26, .v), (.t 27, .v), (.c (iv 0), .v)]⟩,
  ⟨none, .val 6 (.mv (.t 28))⟩] false [.forget [26, 27, 28]]
abbrev zJJ : HCode := .reg [⟨none, .val 30 (.ints .eql (.t 23) (.c (iv 6)))⟩,
  ⟨none, .val 29 (.mv (.t 30))⟩] false [.forget [30]]
abbrev zJK : HCode := .reg [⟨none, .val 31 (.mv (.t 1))⟩,
  ⟨none, .val 32 (.mv (.t 2))⟩,
  ⟨none, .val 33 (.mv (.t 1))⟩,
  ⟨none, .val 34 (.len true (.t 33))⟩,
  ⟨none, .val 35 (.mv (.t 2))⟩,
  ⟨none, .val 36 (.len true (.t 35))⟩,
  ⟨none, .val 37 (.ints .sub (.t 34) (.t 36))⟩,
  ⟨none, .call (some 38) zB9 [(.t 31, .v), (.t 32, .v), (.t 37, .v)]⟩,
  ⟨none, .val 6 (.mv (.t 38))⟩] false [.forget [31, 32, 33, 34, 35, 36, 37, 38]]
abbrev zJL : HCode := .reg [⟨none, .val 7 (.mv (.c (iv 0)))⟩] false []
abbrev zJM : HCode := .reg [⟨none, .val 39 (.mv (.t 7))⟩,
  ⟨none, .val 40 (.mv (.t 1))⟩,
  ⟨none, .val 41 (.len true (.t 40))⟩,
  ⟨none, .val 42 (.ints .lss (.t 39) (.t 41))⟩] false [.forget [39, 40, 41]]
abbrev zJN : HCode := .reg [⟨none, .val 45 (.mv (.t 1))⟩,
  ⟨none, .val 46 (.mv (.t 2))⟩,
  ⟨none, .val 47 (.mv (.t 7))⟩,
  ⟨none, .call (some 48) zB9 [(.t 45, .v), (.t 46, .v), (.t 47, .v)]⟩] false [.forget [45, 46, 47]]
abbrev zJO : HCode := .reg [⟨none, .val 6 (.mv (.c (bv true)))⟩] false []
abbrev zJP : HCode := .reg [⟨none, .val 43 (.mv (.t 7))⟩,
  ⟨none, .val 44 (.ints .add (.t 43) (.c (iv 1)))⟩,
  ⟨none, .val 7 (.mv (.t 44))⟩] false [.forget [43, 44]]
abbrev zJQ : HCode := .reg [⟨none, .val 6 (.mv (.c (bv false)))⟩] false []
abbrev zQl : HCode := (.seq zKW (.seq (.seq zKX (.block 0 (.seq zKY (.cond (.t 9) (.seq zKZ .ret) (.seq zK0 (.cond (.t 11) (.seq zK1 .ret) (.seq zK2 (.cond (.t 16) (.seq zK3 .ret) .skip)))))))) (.seq (.seq zK4 (.cond (.t 22) (.seq zK5 .ret) .skip)) (.seq (.seq zJG (.block 1 (.seq zJH (.cond (.t 24) (.seq zJI .ret) (.seq zJJ (.cond (.t 29) (.seq zJK .ret) .skip)))))) (.seq (.seq zJL (.block 2 (.loop (.seq (.seq zJM (.cond (.t 42) .skip (.exit 2))) (.seq (.block 3 (.seq zJN (.cond (.t 48) (.seq zJO .ret) .skip))) zJP))))) (.seq zJQ .ret))))))
abbrev zCN : Env := { N := 49, Γ := [], L := 49, nfix := 0 }
abbrev zMt : List RSrc := [.tmp 6]
theorem zK6 {base : Nat} {av : List AV} {r : RV} (hfo : zAx zCN base av) (hW : AVs.fits av → hwp Tryz.prog zQl (zBO zCN base av zMt r) (F0 zCN base av)) (hov : ∀ x, r.res = .ov x → zBx av = 0 := by intro x h; cases h <;> rfl) : Contract Tryz.prog zDD av r :=
 zAa (fn := Tryz.f62) (c := Tryz.f62.body.getD .skip) (by kernel_rfl) (by kernel_rfl) (by kernel_rfl) (by kernel_rfl) (by kernel_rfl) (by kernel_rfl) (by kernel_rfl) hfo hW hov
abbrev zVb : HCode := .reg [⟨none, .val 2 (.boxF (.t 0))⟩,
  ⟨none, .nlo 4 zE8 1⟩] false []
abbrev zVc : HCode := .reg [⟨none, .val 5 (.mv (.t 1))⟩,
  ⟨none, .val 6 (.ints .eql (.t 5) (.c (iv 0)))⟩] false [.forget [5]]
abbrev zVd : HCode := .reg [⟨none, .bsl 7 zE8 1 [.c (iv 0)]⟩,
  ⟨none, .mvo 4 7⟩] false [.forget [7]]
abbrev zVe : HCode := .drg [⟨0, false, ⟨none, .val 8 (.ldR (.t 2) 1 true)⟩⟩,
  ⟨1, false, ⟨none, .val 9 (.fldR (.t 2) 0 1)⟩⟩,
  ⟨2, false, ⟨none, .val 10 (.ldR (.t 9) 1 false)⟩⟩,
  ⟨3, false, ⟨none, .val 11 (.mv (.t 1))⟩⟩,
  ⟨4, false, ⟨none, .val 12 (.idxA 5 (.t 10) (.t 11))⟩⟩,
  ⟨5, false, ⟨none, .val 13 (.fldR (.t 12) 0 1)⟩⟩,
  ⟨6, false, ⟨none, .val 14 (.ldR (.t 13) 1 false)⟩⟩,
  ⟨7, true, ⟨none, .call (some 15) zEF [(.t 8, .v), (.t 14, .v)]⟩⟩,
  ⟨8, false, ⟨none, .mvo 4 15⟩⟩] [.forget [8, 9, 10, 11, 12, 13, 14, 15]]
abbrev yCk : HCode := (.seq zVb (.seq (.seq zVc (.cond (.t 6) (.seq zVd .ret) .skip)) (.seq zVe .ret)))
abbrev zFP : Env := { N := 16, Γ := [], L := 16, nfix := 0 }
abbrev zXP : List RSrc := [.tmp 4]
theorem zVf {base : Nat} {av : List AV} {r : RV} (hfo : zAx zFP base av) (hW : AVs.fits av → hwp Tryz.prog yCk (zBO zFP base av zXP r) (F0 zFP base av)) (hov : ∀ x, r.res = .ov x → zBx av = 0 := by intro x h; cases h <;> rfl) : Contract Tryz.prog zEO av r :=
 zAa (fn := Tryz.f59) (c := Tryz.f59.body.getD .skip) (by kernel_rfl) (by kernel_rfl) (by kernel_rfl) (by kernel_rfl) (by kernel_rfl) (by kernel_rfl) (by kernel_rfl) hfo hW hov
abbrev zRT : HCode := .reg [⟨none, .val 4 (.mv (.c (iv 0)))⟩] false []
abbrev zRU : HCode := .reg [⟨none, .val 5 (.mv (.c (iv 0)))⟩] false []
abbrev zRV : HCode := .reg [⟨none, .val 6 (.mv (.t 5))⟩,
  ⟨none, .val 7 (.mv (.t 0))⟩,
  ⟨none, .val 8 (.len false (.t 7))⟩,
  ⟨none, .val 9 (.ints .lss (.t 6) (.t 8))⟩] false [.forget [6, 7, 8]]
abbrev zRW : HCode := .reg [⟨none, .val 12 (.mv (.t 0))⟩,
  ⟨none, .val 13 (.mv (.t 5))⟩,
  ⟨none, .val 14 (.idxA 1 (.t 12) (.t 13))⟩,
  ⟨none, .val 15 (.ldR (.t 14) 1 false)⟩,
  ⟨none, .val 16 (.mv (.t 1))⟩,
  ⟨none, .val 17 (.ints .eql (.t 15) (.t 16))⟩] false [.forget [12, 13, 14, 15, 16]]
abbrev zRX : HCode := .reg [⟨none, .val 18 (.mv (.t 5))⟩,
  ⟨none, .val 4 (.mv (.t 18))⟩] false [.forget [18]]
abbrev zRY : HCode := .reg [⟨none, .val 10 (.mv (.t 5))⟩,
  ⟨none, .val 11 (.ints .add (.t 10) (.c (iv 1)))⟩,
  ⟨none, .val 5 (.mv (.t 11))⟩] false [.forget [10, 11]]
abbrev zRZ : HCode := .reg [⟨none, .val 4 (.mv (.c (iv (-1))))⟩] false []
abbrev zZ2 : HCode := (.seq zRT (.seq (.seq zRU (.block 0 (.loop (.seq (.seq zRV (.cond (.t 9) .skip (.exit 0))) (.seq (.block 1 (.seq zRW (.cond (.t 17) (.seq zRX .ret) .skip))) zRY))))) (.seq zRZ .ret)))
abbrev zEP : Env := { N := 19, Γ := [], L := 19, nfix := 0 }
abbrev zVg : List RSrc := [.tmp 4]
theorem zR0 {base : Nat} {av : List AV} {r : RV} (hfo : zAx zEP base av) (hW : AVs.fits av → hwp Tryz.prog zZ2 (zBO zEP base av zVg r) (F0 zEP base av)) (hov : ∀ x, r.res = .ov x → zBx av = 0 := by intro x h; cases h <;> rfl) : Contract Tryz.prog zCq av r :=
 zAa (fn := Tryz.f64) (c := Tryz.f64.body.getD .skip) (by kernel_rfl) (by kernel_rfl) (by kernel_rfl) (by kernel_rfl) (by kernel_rfl) (by kernel_rfl) (by kernel_rfl) hfo hW hov
abbrev zVh : HCode := .reg [⟨none, .val 3 (.boxF (.t 0))⟩,
  ⟨none, .val 4 (.boxF (.t 1))⟩,
  ⟨none, .val 6 (.mv (.c (bv false)))⟩] false []
abbrev zVi : HCode := .reg [⟨none, .val 13 (.fldR (.t 3) 0 1)⟩,
  ⟨none, .val 14 (.ldR (.t 13) 1 false)⟩,
  ⟨none, .val 15 (.mv (.t 2))⟩,
  ⟨none, .val 16 (.idxA 5 (.t 14) (.t 15))⟩,
  ⟨none, .val 17 (.ldR (.t 16) 5 true)⟩,
  ⟨none, .alloc 7 0 145 [.v (.int .i64 0), .v (mkS []), .v (mkS []), .nl 1, .nl 2]⟩,
  ⟨none, .sto (.t 7) 0 145 0 5 (.t 17)⟩] false [.forget [13, 14, 15, 16, 17]]
abbrev zVj : HCode := .reg [⟨none, .val 18 (.ldR (.t 3) 1 true)⟩,
  ⟨none, .val 19 (.mv (.t 2))⟩,
  ⟨none, .call (some 20) zEO [(.t 18, .v), (.t 19, .v)]⟩,
  ⟨none, .val 8 (.mv (.t 20))⟩] false [.forget [18, 19, 20]]
abbrev zVk : HCode := .reg [⟨none, .val 22 (.fldR (.t 4) 0 1)⟩,
  ⟨none, .val 23 (.ldR (.t 22) 1 false)⟩,
  ⟨none, .val 24 (.ints .eql (.t 23) (.c (iv 1)))⟩,
  ⟨none, .val 21 (.mv (.t 24))⟩] false [.forget [22, 23, 24]]
abbrev zVl : HCode := .reg [⟨none, .val 9 (.mv (.c (iv 0)))⟩] false []
abbrev zVm : HCode := .reg [⟨none, .val 25 (.mv (.t 9))⟩,
  ⟨none, .val 26 (.fldP (.t 7) 3)⟩,
  ⟨none, .val 27 (.ldB (.t 26) 0 145 3 1 false)⟩,
  ⟨none, .val 28 (.len false (.t 27))⟩,
  ⟨none, .val 29 (.ints .lss (.t 25) (.t 28))⟩] false [.forget [25, 26, 27, 28]]
abbrev zVn : HCode := .drg [⟨0, false, ⟨none, .val 32 (.fldP (.t 7) 3)⟩⟩,
  ⟨1, false, ⟨none, .val 33 (.ldB (.t 32) 0 145 3 1 false)⟩⟩,
  ⟨2, false, ⟨none, .val 34 (.mv (.t 9))⟩⟩,
  ⟨3, false, ⟨none, .val 35 (.idxA 1 (.t 33) (.t 34))⟩⟩,
  ⟨4, false, ⟨none, .val 36 (.ldR (.t 35) 1 false)⟩⟩,
  ⟨5, false, ⟨none, .val 37 (.fldR (.t 4) 1 1)⟩⟩,
  ⟨6, false, ⟨none, .val 38 (.ldR (.t 37) 1 false)⟩⟩,
  ⟨7, false, ⟨none, .val 39 (.strs .eql (.t 36) (.t 38))⟩⟩] [.forget [32, 33, 34, 35, 36, 37, 38]]
abbrev zVo : HCode := .reg [⟨none, .val 6 (.mv (.c (bv true)))⟩] false []
abbrev zVp : HCode := .reg [⟨none, .val 30 (.mv (.t 9))⟩,
  ⟨none, .val 31 (.ints .add (.t 30) (.c (iv 1)))⟩,
  ⟨none, .val 9 (.mv (.t 31))⟩] false [.forget [30, 31]]
abbrev zVq : HCode := .reg [⟨none, .val 6 (.mv (.c (bv false)))⟩] false []
abbrev zR1 : HCode := .reg [⟨none, .val 41 (.fldR (.t 4) 0 1)⟩,
  ⟨none, .val 42 (.ldR (.t 41) 1 false)⟩,
  ⟨none, .val 43 (.ints .eql (.t 42) (.c (iv 2)))⟩,
  ⟨none, .val 40 (.mv (.t 43))⟩] false [.forget [41, 42, 43]]
abbrev zR2 : HCode := .reg [⟨none, .val 44 (.fldP (.t 7) 2)⟩,
  ⟨none, .val 45 (.ldB (.t 44) 0 145 2 1 false)⟩,
  ⟨none, .val 46 (.fldR (.t 4) 1 1)⟩,
  ⟨none, .val 47 (.ldR (.t 46) 1 false)⟩,
  ⟨none, .val 48 (.strs .eql (.t 45) (.t 47))⟩,
  ⟨none, .val 6 (.mv (.t 48))⟩] false [.forget [44, 45, 46, 47, 48]]
abbrev zR3 : HCode := .reg [⟨none, .val 50 (.fldR (.t 4) 0 1)⟩,
  ⟨none, .val 51 (.ldR (.t 50) 1 false)⟩,
  ⟨none, .call (some 52) zAJ [(.t 51, .v), (.c (iv 3), .v), (.c (iv 8), .v)]⟩,
  ⟨none, .val 49 (.mv (.t 52))⟩] false [.forget [50, 51, 52]]
abbrev zR4 : HCode := .reg [⟨none, .val 54 (.ldB (.t 7) 0 145 0 5 true)⟩,
  ⟨none, .val 55 (.fldR (.t 4) 1 1)⟩,
  ⟨none, .val 56 (.ldR (.t 55) 1 false)⟩,
  ⟨none, .call (some 57) zG3 [(.t 54, .v), (.t 56, .v)]⟩,
  ⟨none, .val 53 (.mv (.t 57))⟩,
  ⟨none, .val 58 (.ext 53 0)⟩,
  ⟨none, .val 59 (.ext 53 1)⟩,
  ⟨none, .val 10 (.mv (.t 58))⟩,
  ⟨none, .val 11 (.mv (.t 59))⟩] false [.forget [53, 54, 55, 56, 57, 58, 59]]
abbrev zR5 : HCode := .reg [⟨none, .val 60 (.mv (.t 11))⟩,
  ⟨none, .val 61 (.mv (.t 60))⟩,
  ⟨some (61, true), .val 62 (.fldR (.t 4) 0 1)⟩,
  ⟨some (61, true), .val 63 (.ldR (.t 62) 1 false)⟩,
  ⟨some (61, true), .val 64 (.mv (.t 10))⟩,
  ⟨some (61, true), .val 65 (.fldR (.t 4) 2 1)⟩,
  ⟨some (61, true), .val 66 (.ldR (.t 65) 1 false)⟩,
  ⟨some (61, true), .call (some 67) zDD [(.t 63, .v), (.t 64, .v), (.t 66, .v)]⟩,
  ⟨none, .val 68 (.pick (.t 61) (.t 67) (.c (bv false)))⟩,
  ⟨none, .val 6 (.mv (.t 68))⟩] false [.forget [60, 61, 62, 63, 64, 65, 66, 67, 68]]
abbrev zR6 : HCode := .reg [⟨none, .val 70 (.fldR (.t 4) 0 1)⟩,
  ⟨none, .val 71 (.ldR (.t 70) 1 false)⟩,
  ⟨none, .val 72 (.ints .eql (.t 71) (.c (iv 9)))⟩,
  ⟨none, .val 69 (.mv (.t 72))⟩] false [.forget [70, 71, 72]]
abbrev zR7 : HCode := .drg [⟨0, false, ⟨none, .val 73 (.fldR (.t 4) 3 2)⟩⟩,
  ⟨1, false, ⟨none, .val 74 (.ldR (.t 73) 2 true)⟩⟩,
  ⟨2, false, ⟨none, .val 75 (.mv (.t 8))⟩⟩,
  ⟨3, false, ⟨none, .val 76 (.mv (.t 2))⟩⟩,
  ⟨4, true, ⟨none, .call (some 77) zCq [(.t 75, .v), (.t 76, .v)]⟩⟩,
  ⟨5, false, ⟨none, .val 78 (.ints .add (.t 77) (.c (iv 1)))⟩⟩,
  ⟨6, true, ⟨none, .call (some 79) zDB [(.t 74, .v), (.t 78, .v)]⟩⟩,
  ⟨7, false, ⟨none, .val 6 (.mv (.t 79))⟩⟩] [.forget [73, 74, 75, 76, 77, 78, 79]]
abbrev zR8 : HCode := .reg [⟨none, .val 81 (.fldR (.t 4) 0 1)⟩,
  ⟨none, .val 82 (.ldR (.t 81) 1 false)⟩,
  ⟨none, .val 83 (.ints .eql (.t 82) (.c (iv 10)))⟩,
  ⟨none, .val 80 (.mv (.t 83))⟩] false [.forget [81, 82, 83]]
abbrev zR9 : HCode := .drg [⟨0, false, ⟨none, .val 84 (.fldR (.t 4) 3 2)⟩⟩,
  ⟨1, false, ⟨none, .val 85 (.ldR (.t 84) 2 true)⟩⟩,
  ⟨2, false, ⟨none, .val 86 (.mv (.t 8))⟩⟩,
  ⟨3, false, ⟨none, .val 87 (.len false (.t 86))⟩⟩,
  ⟨4, false, ⟨none, .val 88 (.mv (.t 8))⟩⟩,
  ⟨5, false, ⟨none, .val 89 (.mv (.t 2))⟩⟩,
  ⟨6, true, ⟨none, .call (some 90) zCq [(.t 88, .v), (.t 89, .v)]⟩⟩,
  ⟨7, false, ⟨none, .val 91 (.ints .sub (.t 87) (.t 90))⟩⟩,
  ⟨8, true, ⟨none, .call (some 92) zDB [(.t 85, .v), (.t 91, .v)]⟩⟩,
  ⟨9, false, ⟨none, .val 6 (.mv (.t 92))⟩⟩] [.forget [84, 85, 86, 87, 88, 89, 90, 91, 92]]
abbrev zSa : HCode := .reg [⟨none, .val 94 (.fldR (.t 4) 0 1)⟩,
  ⟨none, .val 95 (.ldR (.t 94) 1 false)⟩,
  ⟨none, .val 96 (.ints .eql (.t 95) (.c (iv 11)))⟩,
  ⟨none, .val 93 (.mv (.t 96))⟩] false [.forget [94, 95, 96]]
abbrev zSb : HCode := .reg [⟨none, .val 97 (.ldR (.t 3) 1 true)⟩,
  ⟨none, .val 98 (.mv (.t 2))⟩,
  ⟨none, .call (some 99) zEF [(.t 97, .v), (.t 98, .v)]⟩,
  ⟨none, .val 100 (.len false (.t 99))⟩,
  ⟨none, .val 101 (.ints .eql (.t 100) (.c (iv 0)))⟩,
  ⟨none, .val 6 (.mv (.t 101))⟩] false [.forget [97, 98, 99, 100, 101]]
abbrev zSc : HCode := .reg [⟨none, .val 103 (.fldR (.t 4) 0 1)⟩,
  ⟨none, .val 104 (.ldR (.t 103) 1 false)⟩,
  ⟨none, .val 105 (.ints .eql (.t 104) (.c (iv 12)))⟩,
  ⟨none, .val 102 (.mv (.t 105))⟩] false [.forget [103, 104, 105]]
abbrev zSd : HCode := .reg [⟨none, .val 106 (.mv (.t 2))⟩,
  ⟨none, .val 107 (.ints .eql (.t 106) (.c (iv 0)))⟩,
  ⟨none, .val 6 (.mv (.t 107))⟩] false [.forget [106, 107]]
abbrev zSe : HCode := .reg [⟨none, .val 109 (.fldR (.t 4) 0 1)⟩,
  ⟨none, .val 110 (.ldR (.t 109) 1 false)⟩,
  ⟨none, .val 111 (.ints .eql (.t 110) (.c (iv 13)))⟩,
  ⟨none, .val 108 (.mv (.t 111))⟩] false [.forget [109, 110, 111]]
abbrev zSf : HCode := .reg [⟨none, .val 112 (.ldR (.t 3) 1 true)⟩,
  ⟨none, .val 113 (.fldR (.t 4) 5 1)⟩,
  ⟨none, .val 114 (.ldR (.t 113) 1 false)⟩,
  ⟨none, .val 115 (.mv (.t 2))⟩,
  ⟨none, .call (some 116) zBd [(.t 112, .v), (.t 114, .v), (.t 115, .v)]⟩,
  ⟨none, .val 117 (.not (.t 116))⟩,
  ⟨none, .val 6 (.mv (.t 117))⟩] false [.forget [112, 113, 114, 115, 116, 117]]
abbrev zSg : HCode := .reg [⟨none, .val 119 (.fldR (.t 4) 0 1)⟩,
  ⟨none, .val 120 (.ldR (.t 119) 1 false)⟩,
  ⟨none, .val 121 (.ints .eql (.t 120) (.c (iv 14)))⟩,
  ⟨none, .val 118 (.mv (.t 121))⟩] false [.forget [119, 120, 121]]
abbrev zSh : HCode := .reg [⟨none, .val 122 (.ldR (.t 3) 1 true)⟩,
  ⟨none, .val 123 (.fldR (.t 4) 5 1)⟩,
  ⟨none, .val 124 (.ldR (.t 123) 1 false)⟩,
  ⟨none, .val 125 (.mv (.t 2))⟩,
  ⟨none, .call (some 126) zBd [(.t 122, .v), (.t 124, .v), (.t 125, .v)]⟩,
  ⟨none, .val 6 (.mv (.t 126))⟩] false [.forget [122, 123, 124, 125, 126]]
abbrev zSi : HCode := .reg [⟨none, .val 12 (.mv (.c (iv 0)))⟩] false []
abbrev zSj : HCode := .reg [⟨none, .val 127 (.mv (.t 12))⟩,
  ⟨none, .val 128 (.fldR (.t 3) 0 1)⟩,
  ⟨none, .val 129 (.ldR (.t 128) 1 false)⟩,
  ⟨none, .val 130 (.len false (.t 129))⟩,
  ⟨none, .val 131 (.ints .lss (.t 127) (.t 130))⟩] false [.forget [127, 128, 129, 130]]
abbrev zSk : HCode := .reg [⟨none, .val 134 (.ldR (.t 3) 1 true)⟩,
  ⟨none, .val 135 (.mv (.t 2))⟩,
  ⟨none, .val 136 (.mv (.t 12))⟩,
  ⟨none, .call (some 137) zFB [(.t 134, .v), (.t 135, .v), (.t 136, .v)]⟩,
  ⟨none, .val 138 (.mv (.t 137))⟩,
  ⟨some (138, true), .val 139 (.ldR (.t 3) 1 true)⟩,
  ⟨some (138, true), .val 140 (.fldR (.t 4) 5 1)⟩,
  ⟨some (138, true), .val 141 (.ldR (.t 140) 1 false)⟩,
  ⟨some (138, true), .val 142 (.mv (.t 12))⟩,
  ⟨some (138, true), .call (some 143) zBd [(.t 139, .v), (.t 141, .v), (.t 142, .v)]⟩,
  ⟨none, .val 144 (.pick (.t 138) (.t 143) (.c (bv false)))⟩] false [.forget [134, 135, 136, 137, 138, 139, 140, 141, 142, 143]]
abbrev zSl : HCode := .reg [⟨none, .val 6 (.mv (.c (bv true)))⟩] false []
abbrev zSm : HCode := .reg [⟨none, .val 132 (.mv (.t 12))⟩,
  ⟨none, .val 133 (.ints .add (.t 132) (.c (iv 1)))⟩,
  ⟨none, .val 12 (.mv (.t 133))⟩] false [.forget [132, 133]]
abbrev zSn : HCode := .reg [⟨none, .val 6 (.mv (.c (bv false)))⟩] false []
abbrev yCl : HCode := (.seq zVh (.seq zVi (.seq zVj (.seq (.block 0 (.seq zVk (.cond (.t 21) (.seq (.seq zVl (.block 1 (.loop (.seq (.seq zVm (.cond (.t 29) .skip (.exit 1))) (.seq (.block 2 (.seq zVn (.cond (.t 39) (.seq zVo .ret) .skip))) zVp))))) (.seq zVq .ret)) (.seq zR1 (.cond (.t 40) (.seq zR2 .ret) (.seq zR3 (.cond (.t 49) (.seq zR4 (.seq zR5 .ret)) (.seq zR6 (.cond (.t 69) (.seq zR7 .ret) (.seq zR8 (.cond (.t 80) (.seq zR9 .ret) (.seq zSa (.cond (.t 93) (.seq zSb .ret) (.seq zSc (.cond (.t 102) (.seq zSd .ret) (.seq zSe (.cond (.t 108) (.seq zSf .ret) (.seq zSg (.cond (.t 118) (.seq zSh .ret) .skip))))))))))))))))))) (.seq (.seq zSi (.block 3 (.loop (.seq (.seq zSj (.cond (.t 131) .skip (.exit 3))) (.seq (.block 4 (.seq zSk (.cond (.t 144) (.seq zSl .ret) .skip))) zSm))))) (.seq zSn .ret))))))
abbrev zFQ : Env := { N := 145, Γ := [(145, 5)], L := 150, nfix := 0 }
abbrev zXQ : List RSrc := [.tmp 6]
theorem zVr {base : Nat} {av : List AV} {r : RV} (hfo : zAx zFQ base av) (hW : AVs.fits av → hwp Tryz.prog yCl (zBO zFQ base av zXQ r) (F0 zFQ base av)) (hov : ∀ x, r.res = .ov x → zBx av = 0 := by intro x h; cases h <;> rfl) : Contract Tryz.prog zCM av r :=
 zAa (fn := Tryz.f22) (c := Tryz.f22.body.getD .skip) (by kernel_rfl) (by kernel_rfl) (by kernel_rfl) (by kernel_rfl) (by kernel_rfl) (by kernel_rfl) (by kernel_rfl) hfo hW hov
abbrev zSo : HCode := .reg [⟨none, .val 4 (.boxF (.t 0))⟩,
  ⟨none, .val 8 (.mv (.c (bv false)))⟩] false []
abbrev zSp : HCode := .reg [⟨none, .val 12 (.mv (.t 1))⟩] false []
abbrev zSq : HCode := .reg [⟨none, .val 14 (.ints .eql (.t 12) (.c (iv 1)))⟩,
  ⟨none, .val 13 (.mv (.t 14))⟩] false [.forget [14]]
abbrev zSr : HCode := .reg [⟨none, .val 15 (.ldR (.t 4) 1 true)⟩,
  ⟨none, .val 16 (.mv (.t 2))⟩,
  ⟨none, .val 17 (.mv (.t 3))⟩,
  ⟨none, .call (some 18) zFB [(.t 15, .v), (.t 16, .v), (.t 17, .v)]⟩,
  ⟨none, .val 8 (.mv (.t 18))⟩] false [.forget [15, 16, 17, 18]]
abbrev zSs : HCode := .reg [⟨none, .val 20 (.ints .eql (.t 12) (.c (iv 2)))⟩,
  ⟨none, .val 19 (.mv (.t 20))⟩] false [.forget [20]]
abbrev zSt : HCode := .reg [⟨none, .val 21 (.fldR (.t 4) 0 1)⟩,
  ⟨none, .val 22 (.ldR (.t 21) 1 false)⟩,
  ⟨none, .val 23 (.mv (.t 3))⟩,
  ⟨none, .val 24 (.idxA 5 (.t 22) (.t 23))⟩,
  ⟨none, .val 25 (.fldR (.t 24) 0 1)⟩,
  ⟨none, .val 26 (.ldR (.t 25) 1 false)⟩,
  ⟨none, .val 27 (.mv (.t 2))⟩,
  ⟨none, .val 28 (.ints .eql (.t 26) (.t 27))⟩,
  ⟨none, .val 8 (.mv (.t 28))⟩] false [.forget [21, 22, 23, 24, 25, 26, 27, 28]]
abbrev zSu : HCode := .reg [⟨none, .val 29 (.ldR (.t 4) 1 true)⟩,
  ⟨none, .val 30 (.mv (.t 3))⟩,
  ⟨none, .call (some 31) zEO [(.t 29, .v), (.t 30, .v)]⟩,
  ⟨none, .val 9 (.mv (.t 31))⟩] false [.forget [29, 30, 31]]
abbrev zSv : HCode := .reg [⟨none, .val 32 (.mv (.t 9))⟩,
  ⟨none, .val 33 (.mv (.t 2))⟩,
  ⟨none, .call (some 34) zCq [(.t 32, .v), (.t 33, .v)]⟩,
  ⟨none, .val 35 (.mv (.t 9))⟩,
  ⟨none, .val 36 (.mv (.t 3))⟩,
  ⟨none, .call (some 37) zCq [(.t 35, .v), (.t 36, .v)]⟩,
  ⟨none, .val 10 (.mv (.t 34))⟩,
  ⟨none, .val 11 (.mv (.t 37))⟩] false [.forget [32, 33, 34, 35, 36, 37]]
abbrev zSw : HCode := .reg [⟨none, .val 38 (.mv (.t 1))⟩,
  ⟨none, .val 39 (.ints .eql (.t 38) (.c (iv 3)))⟩] false [.forget [38]]
abbrev zSx : HCode := .reg [⟨none, .val 40 (.mv (.t 10))⟩,
  ⟨none, .val 41 (.ints .geq (.t 40) (.c (iv 0)))⟩,
  ⟨none, .val 42 (.mv (.t 41))⟩,
  ⟨some (42, true), .val 43 (.mv (.t 10))⟩,
  ⟨some (42, true), .val 44 (.ints .add (.t 43) (.c (iv 1)))⟩,
  ⟨some (42, true), .val 45 (.mv (.t 11))⟩,
  ⟨some (42, true), .val 46 (.ints .eql (.t 44) (.t 45))⟩,
  ⟨none, .val 47 (.pick (.t 42) (.t 46) (.c (bv false)))⟩,
  ⟨none, .val 8 (.mv (.t 47))⟩] false [.forget [40, 41, 42, 43, 44, 45, 46, 47]]
abbrev zQm : HCode := .reg [⟨none, .val 48 (.mv (.t 10))⟩,
  ⟨none, .val 49 (.ints .geq (.t 48) (.c (iv 0)))⟩,
  ⟨none, .val 50 (.mv (.t 49))⟩,
  ⟨some (50, true), .val 51 (.mv (.t 10))⟩,
  ⟨some (50, true), .val 52 (.mv (.t 11))⟩,
  ⟨some (50, true), .val 53 (.ints .lss (.t 51) (.t 52))⟩,
  ⟨none, .val 54 (.pick (.t 50) (.t 53) (.c (bv false)))⟩,
  ⟨none, .val 8 (.mv (.t 54))⟩] false [.forget [48, 49, 50, 51, 52, 53, 54]]
abbrev zZ3 : HCode := (.seq zSo (.seq (.seq zSp (.block 0 (.seq zSq (.cond (.t 13) (.seq zSr .ret) (.seq zSs (.cond (.t 19) (.seq zSt .ret) .skip)))))) (.seq zSu (.seq zSv (.seq (.seq zSw (.cond (.t 39) (.seq zSx .ret) .skip)) (.seq zQm .ret))))))
abbrev zEQ : Env := { N := 55, Γ := [], L := 55, nfix := 0 }
abbrev zVs : List RSrc := [.tmp 8]
theorem zSy {base : Nat} {av : List AV} {r : RV} (hfo : zAx zEQ base av) (hW : AVs.fits av → hwp Tryz.prog zZ3 (zBO zEQ base av zVs r) (F0 zEQ base av)) (hov : ∀ x, r.res = .ov x → zBx av = 0 := by intro x h; cases h <;> rfl) : Contract Tryz.prog zF0 av r :=
 zAa (fn := Tryz.f187) (c := Tryz.f187.body.getD .skip) (by kernel_rfl) (by kernel_rfl) (by kernel_rfl) (by kernel_rfl) (by kernel_rfl) (by kernel_rfl) (by kernel_rfl) hfo hW hov
abbrev zK7 : HCode := .reg [⟨none, .val 3 (.boxF (.t 0))⟩,
  ⟨none, .val 4 (.boxF (.t 1))⟩,
  ⟨none, .val 6 (.mv (.c (bv false)))⟩] false []
abbrev zK8 : HCode := .reg [⟨none, .val 12 (.fldR (.t 4) 0 1)⟩,
  ⟨none, .val 13 (.ldR (.t 12) 1 false)⟩,
  ⟨none, .val 14 (.len false (.t 13))⟩,
  ⟨none, .val 15 (.ints .sub (.t 14) (.c (iv 1)))⟩,
  ⟨none, .val 7 (.mv (.t 15))⟩] false [.forget [12, 13, 14, 15]]
abbrev zK9 : HCode := .reg [⟨none, .val 16 (.fldR (.t 4) 0 1)⟩,
  ⟨none, .val 17 (.ldR (.t 16) 1 false)⟩,
  ⟨none, .val 18 (.mv (.t 7))⟩,
  ⟨none, .val 19 (.idxA 2 (.t 17) (.t 18))⟩,
  ⟨none, .val 20 (.ldR (.t 19) 2 true)⟩,
  ⟨none, .alloc 8 0 84 [.v (mkS []), .nl 6]⟩,
  ⟨none, .sto (.t 8) 0 84 0 2 (.t 20)⟩] false [.frz 0 84 2, .forget [16, 17, 18, 19, 20]]
abbrev zLa : HCode := .drg [⟨0, false, ⟨none, .val 21 (.fldR (.t 8) 0 1)⟩⟩,
  ⟨1, false, ⟨none, .val 22 (.ldR (.t 21) 1 false)⟩⟩,
  ⟨2, false, ⟨none, .val 23 (.strs .neq (.t 22) (.c (sv [])))⟩⟩,
  ⟨3, false, ⟨none, .val 24 (.mv (.t 23))⟩⟩,
  ⟨4, false, ⟨some (24, true), .val 25 (.fldR (.t 8) 0 1)⟩⟩,
  ⟨5, false, ⟨some (24, true), .val 26 (.ldR (.t 25) 1 false)⟩⟩,
  ⟨6, false, ⟨some (24, true), .val 27 (.fldR (.t 3) 0 1)⟩⟩,
  ⟨7, false, ⟨some (24, true), .val 28 (.ldR (.t 27) 1 false)⟩⟩,
  ⟨8, false, ⟨some (24, true), .val 29 (.mv (.t 2))⟩⟩,
  ⟨9, false, ⟨some (24, true), .val 30 (.idxA 5 (.t 28) (.t 29))⟩⟩,
  ⟨10, false, ⟨some (24, true), .val 31 (.fldR (.t 30) 1 1)⟩⟩,
  ⟨11, false, ⟨some (24, true), .val 32 (.ldR (.t 31) 1 false)⟩⟩,
  ⟨12, false, ⟨some (24, true), .val 33 (.strs .neq (.t 26) (.t 32))⟩⟩,
  ⟨13, false, ⟨none, .val 34 (.pick (.t 24) (.t 33) (.c (bv false)))⟩⟩] [.forget [21, 22, 23, 24, 25, 26, 27, 28, 29, 30, 31, 32, 33]]
abbrev zLb : HCode := .reg [⟨none, .val 6 (.mv (.c (bv false)))⟩] false []
abbrev zLc : HCode := .reg [⟨none, .val 9 (.mv (.c (iv 0)))⟩] false []
abbrev zLd : HCode := .reg [⟨none, .val 35 (.mv (.t 9))⟩,
  ⟨none, .val 36 (.fldR (.t 8) 1 1)⟩,
  ⟨none, .val 37 (.ldR (.t 36) 1 false)⟩,
  ⟨none, .val 38 (.len false (.t 37))⟩,
  ⟨none, .val 39 (.ints .lss (.t 35) (.t 38))⟩] false [.forget [35, 36, 37, 38]]
abbrev zLe : HCode := .drg [⟨0, false, ⟨none, .val 42 (.ldR (.t 3) 1 true)⟩⟩,
  ⟨1, false, ⟨none, .val 43 (.fldR (.t 8) 1 1)⟩⟩,
  ⟨2, false, ⟨none, .val 44 (.ldR (.t 43) 1 false)⟩⟩,
  ⟨3, false, ⟨none, .val 45 (.mv (.t 9))⟩⟩,
  ⟨4, false, ⟨none, .val 46 (.idxA 6 (.t 44) (.t 45))⟩⟩,
  ⟨5, false, ⟨none, .val 47 (.ldR (.t 46) 6 true)⟩⟩,
  ⟨6, false, ⟨none, .val 48 (.mv (.t 2))⟩⟩,
  ⟨7, true, ⟨none, .call (some 49) zCM [(.t 42, .v), (.t 47, .v), (.t 48, .v)]⟩⟩,
  ⟨8, false, ⟨none, .val 50 (.not (.t 49))⟩⟩] [.forget [42, 43, 44, 45, 46, 47, 48, 49]]
abbrev zLf : HCode := .reg [⟨none, .val 6 (.mv (.c (bv false)))⟩] false []
abbrev zLg : HCode := .reg [⟨none, .val 40 (.mv (.t 9))⟩,
  ⟨none, .val 41 (.ints .add (.t 40) (.c (iv 1)))⟩,
  ⟨none, .val 9 (.mv (.t 41))⟩] false [.forget [40, 41]]
abbrev zJR : HCode := .reg [⟨none, .val 51 (.mv (.t 7))⟩,
  ⟨none, .val 52 (.ints .eql (.t 51) (.c (iv 0)))⟩] false [.forget [51]]
abbrev zJS : HCode := .reg [⟨none, .val 6 (.mv (.c (bv true)))⟩] false []
abbrev zJT : HCode := .drg [⟨0, false, ⟨none, .val 53 (.fldR (.t 4) 0 1)⟩⟩,
  ⟨1, false, ⟨none, .val 54 (.ldR (.t 53) 1 false)⟩⟩,
  ⟨2, false, ⟨none, .val 55 (.mv (.t 7))⟩⟩,
  ⟨3, false, ⟨none, .val 56 (.slr 2 (.t 54) none (some (.t 55)))⟩⟩,
  ⟨4, false, ⟨none, .val 57 (.fldR (.t 4) 1 1)⟩⟩,
  ⟨5, false, ⟨none, .val 58 (.ldR (.t 57) 1 false)⟩⟩,
  ⟨6, false, ⟨none, .val 59 (.mv (.t 7))⟩⟩,
  ⟨7, false, ⟨none, .val 60 (.ints .sub (.t 59) (.c (iv 1)))⟩⟩,
  ⟨8, false, ⟨none, .val 61 (.slr 1 (.t 58) none (some (.t 60)))⟩⟩,
  ⟨9, false, ⟨none, .val 62 (.bld [.nl 2, .nl 1] [(0, 1, .t 56), (1, 1, .t 61)])⟩⟩,
  ⟨10, false, ⟨none, .alo 10 1 86 [.nl 2, .nl 1]⟩⟩,
  ⟨11, false, ⟨none, .sto (.t 10) 1 86 0 2 (.t 62)⟩⟩] [.forget [53, 54, 55, 56, 57, 58, 59, 60, 61, 62]]
abbrev zJU : HCode := .reg [⟨none, .val 11 (.mv (.c (iv 0)))⟩] false []
abbrev zJV : HCode := .reg [⟨none, .val 63 (.mv (.t 11))⟩,
  ⟨none, .val 64 (.mv (.t 2))⟩,
  ⟨none, .val 65 (.ints .lss (.t 63) (.t 64))⟩] false [.forget [63, 64]]
abbrev zJW : HCode := .drg [⟨0, false, ⟨none, .val 68 (.ldR (.t 3) 1 true)⟩⟩,
  ⟨1, false, ⟨none, .val 69 (.fldR (.t 4) 1 1)⟩⟩,
  ⟨2, false, ⟨none, .val 70 (.ldR (.t 69) 1 false)⟩⟩,
  ⟨3, false, ⟨none, .val 71 (.mv (.t 7))⟩⟩,
  ⟨4, false, ⟨none, .val 72 (.ints .sub (.t 71) (.c (iv 1)))⟩⟩,
  ⟨5, false, ⟨none, .val 73 (.idxA 1 (.t 70) (.t 72))⟩⟩,
  ⟨6, false, ⟨none, .val 74 (.ldR (.t 73) 1 false)⟩⟩,
  ⟨7, false, ⟨none, .val 75 (.mv (.t 11))⟩⟩,
  ⟨8, false, ⟨none, .val 76 (.mv (.t 2))⟩⟩,
  ⟨9, true, ⟨none, .call (some 77) zF0 [(.t 68, .v), (.t 74, .v), (.t 75, .v), (.t 76, .v)]⟩⟩,
  ⟨10, false, ⟨none, .val 78 (.mv (.t 77))⟩⟩,
  ⟨11, false, ⟨some (78, true), .val 79 (.ldR (.t 3) 1 true)⟩⟩,
  ⟨12, false, ⟨some (78, true), .val 80 (.ldB (.t 10) 1 86 0 2 true)⟩⟩,
  ⟨13, false, ⟨some (78, true), .val 81 (.mv (.t 11))⟩⟩,
  ⟨14, true, ⟨some (78, true), .call (some 82) zBU [(.t 79, .v), (.t 80, .v), (.t 81, .v)]⟩⟩,
  ⟨15, false, ⟨none, .val 83 (.pick (.t 78) (.t 82) (.c (bv false)))⟩⟩] [.forget [68, 69, 70, 71, 72, 73, 74, 75, 76, 77, 78, 79, 80, 81, 82]]
abbrev zJX : HCode := .reg [⟨none, .val 6 (.mv (.c (bv true)))⟩] false []
abbrev zJY : HCode := .reg [⟨none, .val 66 (.mv (.t 11))⟩,
  ⟨none, .val 67 (.ints .add (.t 66) (.c (iv 1)))⟩,
  ⟨none, .val 11 (.mv (.t 67))⟩] false [.forget [66, 67]]
abbrev zJZ : HCode := .reg [⟨none, .val 6 (.mv (.c (bv false)))⟩] false []
abbrev zQn : HCode := (.seq zK7 (.seq zK8 (.seq zK9 (.seq (.seq zLa (.cond (.t 34) (.seq zLb .ret) .skip)) (.seq (.seq zLc (.block 0 (.loop (.seq (.seq zLd (.cond (.t 39) .skip (.exit 0))) (.seq (.block 1 (.seq zLe (.cond (.t 50) (.seq zLf .ret) .skip))) zLg))))) (.seq (.seq zJR (.cond (.t 52) (.seq zJS .ret) .skip)) (.seq zJT (.seq (.seq zJU (.block 2 (.loop (.seq (.seq zJV (.cond (.t 65) .skip (.exit 2))) (.seq (.block 3 (.seq zJW (.cond (.t 83) (.seq zJX .ret) .skip))) zJY))))) (.seq zJZ .ret)))))))))
abbrev zBj : Env := { N := 84, Γ := [(84, 2), (86, 2)], L := 88, nfix := 0, una := [86] }
abbrev zMu : List RSrc := [.tmp 6]
theorem zCx {base : Nat} {av : List AV} {r : RV} (hfo : zAx zBj base av) (hW : AVs.fits av → hwp Tryz.prog zQn (zBO zBj base av zMu r) (F0 zBj base av)) (hov : ∀ x, r.res = .ov x → zBx av = 0 := by intro x h; cases h <;> rfl) : Contract Tryz.prog zBU av r :=
 zAa (fn := Tryz.f132) (c := Tryz.f132.body.getD .skip) (by kernel_rfl) (by kernel_rfl) (by kernel_rfl) (by kernel_rfl) (by kernel_rfl) (by kernel_rfl) (by kernel_rfl) hfo hW hov
abbrev zNN : HCode := .reg [⟨none, .val 3 (.boxF (.t 0))⟩,
  ⟨none, .val 6 (.mv (.c (bv false)))⟩] false []
abbrev zNO : HCode := .reg [⟨none, .val 7 (.mv (.c (iv 0)))⟩] false []
abbrev zNP : HCode := .reg [⟨none, .val 8 (.mv (.t 7))⟩,
  ⟨none, .val 9 (.mv (.t 1))⟩,
  ⟨none, .val 10 (.len false (.t 9))⟩,
  ⟨none, .val 11 (.ints .lss (.t 8) (.t 10))⟩] false [.forget [8, 9, 10]]
abbrev zNQ : HCode := .drg [⟨0, false, ⟨none, .val 14 (.ldR (.t 3) 1 true)⟩⟩,
  ⟨1, false, ⟨none, .val 15 (.mv (.t 1))⟩⟩,
  ⟨2, false, ⟨none, .val 16 (.mv (.t 7))⟩⟩,
  ⟨3, false, ⟨none, .val 17 (.idxA 2 (.t 15) (.t 16))⟩⟩,
  ⟨4, false, ⟨none, .val 18 (.ldR (.t 17) 2 true)⟩⟩,
  ⟨5, false, ⟨none, .val 19 (.mv (.t 2))⟩⟩,
  ⟨6, true, ⟨none, .call (some 20) zBU [(.t 14, .v), (.t 18, .v), (.t 19, .v)]⟩⟩] [.forget [14, 15, 16, 17, 18, 19]]
abbrev zNR : HCode := .reg [⟨none, .val 6 (.mv (.c (bv true)))⟩] false []
abbrev zNS : HCode := .reg [⟨none, .val 12 (.mv (.t 7))⟩,
  ⟨none, .val 13 (.ints .add (.t 12) (.c (iv 1)))⟩,
  ⟨none, .val 7 (.mv (.t 13))⟩] false [.forget [12, 13]]
abbrev zNT : HCode := .reg [⟨none, .val 6 (.mv (.c (bv false)))⟩] false []
abbrev zVt : HCode := (.seq zNN (.seq (.seq zNO (.block 0 (.loop (.seq (.seq zNP (.cond (.t 11) .skip (.exit 0))) (.seq (.block 1 (.seq zNQ (.cond (.t 20) (.seq zNR .ret) .skip))) zNS))))) (.seq zNT .ret)))
abbrev zDE : Env := { N := 21, Γ := [], L := 21, nfix := 0 }
abbrev zQo : List RSrc := [.tmp 6]
theorem zNU {base : Nat} {av : List AV} {r : RV} (hfo : zAx zDE base av) (hW : AVs.fits av → hwp Tryz.prog zVt (zBO zDE base av zQo r) (F0 zDE base av)) (hov : ∀ x, r.res = .ov x → zBx av = 0 := by intro x h; cases h <;> rfl) : Contract Tryz.prog zBd av r :=
 zAa (fn := Tryz.f66) (c := Tryz.f66.body.getD .skip) (by kernel_rfl) (by kernel_rfl) (by kernel_rfl) (by kernel_rfl) (by kernel_rfl) (by kernel_rfl) (by kernel_rfl) hfo hW hov
abbrev zMv : HCode := .reg [⟨none, .val 3 (.boxF (.t 0))⟩,
  ⟨none, .val 6 (.mv (.c (iv 0)))⟩] false []
abbrev zMw : HCode := .reg [⟨none, .val 9 (.ldR (.t 3) 1 true)⟩,
  ⟨none, .call (some 10) zDy [(.t 9, .v)]⟩,
  ⟨none, .val 7 (.mv (.t 10))⟩] false [.forget [9, 10]]
abbrev zMx : HCode := .reg [⟨none, .val 11 (.mv (.t 7))⟩,
  ⟨none, .val 12 (.ints .neq (.t 11) (.c (iv 0)))⟩] false [.forget [11]]
abbrev zMy : HCode := .reg [⟨none, .val 13 (.mv (.t 7))⟩,
  ⟨none, .val 6 (.mv (.t 13))⟩] false [.forget [13]]
abbrev zMz : HCode := .reg [⟨none, .val 14 (.mv (.t 1))⟩,
  ⟨none, .call (some 15) zEr [(.t 14, .v)]⟩,
  ⟨none, .val 8 (.mv (.t 15))⟩] false [.forget [14, 15]]
abbrev zMA : HCode := .reg [⟨none, .val 16 (.mv (.t 8))⟩,
  ⟨none, .val 17 (.ints .neq (.t 16) (.c (iv 0)))⟩] false [.forget [16]]
abbrev zMB : HCode := .reg [⟨none, .val 18 (.mv (.t 8))⟩,
  ⟨none, .val 6 (.mv (.t 18))⟩] false [.forget [18]]
abbrev zMC : HCode := .reg [⟨none, .val 19 (.ldR (.t 3) 1 true)⟩,
  ⟨none, .val 20 (.mv (.t 2))⟩,
  ⟨none, .call (some 21) zHC [(.t 19, .v), (.t 20, .v)]⟩,
  ⟨none, .val 6 (.mv (.t 21))⟩] false [.forget [19, 20, 21]]
abbrev zSz : HCode := (.seq zMv (.seq (.seq zMw (.seq zMx (.cond (.t 12) (.seq zMy .ret) .skip))) (.seq (.seq zMz (.seq zMA (.cond (.t 17) (.seq zMB .ret) .skip))) (.seq zMC .ret))))
abbrev zC6 : Env := { N := 22, Γ := [], L := 22, nfix := 0 }
abbrev zNV : List RSrc := [.tmp 6]
theorem zMD {base : Nat} {av : List AV} {r : RV} (hfo : zAx zC6 base av) (hW : AVs.fits av → hwp Tryz.prog zSz (zBO zC6 base av zNV r) (F0 zC6 base av)) (hov : ∀ x, r.res = .ov x → zBx av = 0 := by intro x h; cases h <;> rfl) : Contract Tryz.prog zD0 av r :=
 zAa (fn := Tryz.f19) (c := Tryz.f19.body.getD .skip) (by kernel_rfl) (by kernel_rfl) (by kernel_rfl) (by kernel_rfl) (by kernel_rfl) (by kernel_rfl) (by kernel_rfl) hfo hW hov
end Go.Hx
end

section
namespace Go.Hx
open Go.Proofs
variable [Glob]
attribute [local go_sem] zAz zAA zAy zAt ndV zAw
attribute [local go_sem] reduceCtorEq Nat.reduceAdd Nat.reduceEqDiff reduceIte Nat.reduceLeDiff Nat.reduceLT Nat.reduceSub
theorem zBo (n lo hi : Int) : Contract Tryz.prog zAJ [.val (iv n), .val (iv lo), .val (iv hi)] { res := .val (bv (decide (lo ≤ n ∧ n ≤ hi))) } := by
 refine zKD (base := 0) ⟨Nat.le_of_ble_eq_true rfl, Nat.le_of_ble_eq_true rfl, Nat.le_of_ble_eq_true rfl, rfl⟩ (fun hfit => ?_)
 unfold F0 zEi
 simp (maxSteps := 2000000) only [zAE, List.set_cons_succ, List.set_cons_zero, List.map_cons, List.map_nil, zAD, zAb, ioOf, List.length_cons, List.length_nil, Nat.reduceAdd, Nat.reduceSub, List.replicate, List.cons_append, List.nil_append]
 try simp (maxSteps := 2000000) only [go_sem]
 repeat with_reducible refine zAd ?_
 refine zAe rfl trivial (.inl ?_)
 congr 3
 by_cases h1 : lo ≤ n <;> by_cases h2 : n ≤ hi <;> simp [h1, h2]
theorem zDj (s : Bys) : Contract Tryz.prog zBT [.val (sv s)] { res := .val (bv (zBP s)) } := by
 refine zT8 (base := 0) ⟨Nat.le_of_ble_eq_true rfl, Nat.le_of_ble_eq_true rfl, Nat.le_of_ble_eq_true rfl, rfl⟩ (fun hfit => ?_)
 unfold F0 zFC
 simp (maxSteps := 2000000) only [zAE, List.set_cons_succ, List.set_cons_zero, List.map_cons, List.map_nil, zAD, zAb, ioOf, List.length_cons, List.length_nil, Nat.reduceAdd, Nat.reduceSub, List.replicate, List.cons_append, List.nil_append]
 try simp (maxSteps := 2000000) only [go_sem]
 repeat with_reducible refine zAd ?_
 refine zAi (by repeat' constructor) (zBo _ _ _) ?_
 try simp (maxSteps := 2000000) only [go_sem]
 repeat with_reducible refine zAd ?_
 refine zAc (by rfl) trivial (fun h => ?_) (fun h => ?_)
 ·try simp (maxSteps := 2000000) only [go_sem]
  repeat with_reducible refine zAd ?_
  refine zAe rfl trivial (.inl ?_)
  congr 3
  cases hn : zBP s with
  | false => rfl
  | true => exfalso; simp [zBP] at hn h; omega
 have hl : s.length ≤ 12 := by simp at h; omega
 try simp (maxSteps := 2000000) only [go_sem]
 repeat with_reducible refine zAd ?_
 refine zAn (fun i : Nat => [(3, .pv (iv i)), (4, .un), (22, .un), (46, .un)]) (fun i => s.length - i) (fun i => i ≤ s.length ∧ (s.take i).all zNe = true) 0 ?_ ⟨Nat.zero_le _, rfl⟩ ?_
 ·simp (maxSteps := 2000000) only [go_sem, zAf, zAk, zAu, zAg]
 intro i ⟨hi, hall⟩
 try simp (maxSteps := 2000000) only [go_sem]
 repeat with_reducible refine zAd ?_
 refine zAc (by rfl) trivial (fun h2 => ?_) (fun h2 => ?_)
 ·have hlt : i < s.length := by simpa using h2
  try simp (maxSteps := 2000000) only [go_sem]
  repeat with_reducible refine zAd ?_
  refine zAc (by rfl) trivial (fun h3 => ?_) (fun h3 => ?_)
  ·try simp (maxSteps := 2000000) only [go_sem]
   repeat with_reducible refine zAd ?_
   refine zAe rfl trivial (.inl ?_)
   congr 3
   cases hn : zBP s with
   | false => rfl
   | true =>
    exfalso
    simp only [zBP, Bool.and_eq_true, List.all_eq_true] at hn
    have h4 := hn.2 (s.getD i 0) (by simp [hlt])
    simp [zNe, hlt] at h3 h4
    omega
  ·try simp (maxSteps := 2000000) only [go_sem]
   repeat with_reducible refine zAd ?_
   refine ⟨i + 1, by omega, ⟨hlt, ?_⟩, ?_⟩
   ·rw [zGR hlt (d := 0), hall]
    simp [zNe, hlt] at h3 ⊢
    omega
   ·simp (maxSteps := 2000000) only [go_sem, zAf, zAk, zAu, zAg]
    exact zAl (by omega)
 ·try simp (maxSteps := 2000000) only [go_sem]
  repeat with_reducible refine zAd ?_
  refine zAe rfl trivial (.inl ?_)
  congr 3
  have hi2 : i = s.length := by simp at h2; omega
  subst hi2
  simp [zBP] at hall h ⊢
  exact ⟨by omega, hall⟩
theorem zLh (s : Bys) : Contract Tryz.prog zD5 [.val (sv s)] { res := .val (bv (zCB s)) } := by
 refine zQ5 (base := 0) ⟨Nat.le_of_ble_eq_true rfl, Nat.le_of_ble_eq_true rfl, Nat.le_of_ble_eq_true rfl, rfl⟩ (fun hfit => ?_)
 unfold F0 zEG
 simp (maxSteps := 2000000) only [zAE, List.set_cons_succ, List.set_cons_zero, List.map_cons, List.map_nil, zAD, zAb, ioOf, List.length_cons, List.length_nil, Nat.reduceAdd, Nat.reduceSub, List.replicate, List.cons_append, List.nil_append]
 try simp (maxSteps := 2000000) only [go_sem]
 repeat with_reducible refine zAd ?_
 refine zAc (by rfl) trivial (fun h => ?_) (fun h => ?_)
 ·try simp (maxSteps := 2000000) only [go_sem]
  repeat with_reducible refine zAd ?_
  refine zAe rfl trivial (.inl ?_)
  simp [zCB] at h ⊢
  intro h'; omega
 have hl : s.length ≤ 16 := by simp at h; omega
 try simp (maxSteps := 2000000) only [go_sem]
 repeat with_reducible refine zAd ?_
 refine zAn (fun i : Nat => [(3, .pv (iv i)), (10, .un), (28, .un)]) (fun i => s.length - i) (fun i => i ≤ s.length ∧ (s.take i).all yBO = true) 0 ?_ ⟨Nat.zero_le _, rfl⟩ ?_
 ·simp (maxSteps := 2000000) only [go_sem, zAf, zAk, zAu, zAg]
 intro i ⟨hi, hall⟩
 try simp (maxSteps := 2000000) only [go_sem]
 repeat with_reducible refine zAd ?_
 refine zAc (by rfl) trivial (fun h => ?_) (fun h => ?_)
 ·have hlt : i < s.length := by simpa using h
  try simp (maxSteps := 2000000) only [go_sem]
  repeat with_reducible refine zAd ?_
  refine zAc (by rfl) trivial (fun h2 => ?_) (fun h2 => ?_)
  ·try simp (maxSteps := 2000000) only [go_sem]
   repeat with_reducible refine zAd ?_
   refine zAe rfl trivial (.inl ?_)
   congr 3
   cases hn : zCB s with
   | false => rfl
   | true =>
    exfalso
    simp only [zCB, Bool.and_eq_true, List.all_eq_true] at hn
    have h4 := hn.2 (s.getD i 0) (by simp [hlt])
    simp [yBO, hlt] at h2 h4
    omega
  ·try simp (maxSteps := 2000000) only [go_sem]
   repeat with_reducible refine zAd ?_
   refine ⟨i + 1, by omega, ⟨hlt, ?_⟩, ?_⟩
   ·rw [zGR hlt (d := 0), hall]
    simp [yBO, hlt] at h2 ⊢
    omega
   ·simp (maxSteps := 2000000) only [go_sem, zAf, zAk, zAu, zAg]
    exact zAl (by omega)
 ·try simp (maxSteps := 2000000) only [go_sem]
  repeat with_reducible refine zAd ?_
  refine zAe rfl trivial (.inl ?_)
  have hi2 : i = s.length := by simp at h; omega
  subst hi2
  simp [zCB, hl] at hall ⊢
  exact hall
end Go.Hx
end

section
set_option maxRecDepth 100000
set_option linter.unusedSimpArgs false
namespace Go.Hx
open Go.Proofs
variable [Glob]
attribute [local go_sem] zAz zAA zAy zAt ndV zAw
attribute [local go_sem] reduceCtorEq Nat.reduceAdd Nat.reduceEqDiff reduceIte Nat.reduceLeDiff Nat.reduceLT Nat.reduceSub
theorem zSA (x : Nd) : Contract Tryz.prog zE6 [.val (.agg (ndV x))] { res := .val (bv (zBS x)) } := by
 unfold ndV
 refine zPe (base := 0) ⟨Nat.le_of_ble_eq_true rfl, Nat.le_of_ble_eq_true rfl, Nat.le_of_ble_eq_true rfl, rfl⟩ (fun hfit => ?_)
 unfold F0 zD6
 simp (maxSteps := 2000000) only [zAE, List.set_cons_succ, List.set_cons_zero, List.map_cons, List.map_nil, zAD, zAb, ioOf, List.length_cons, List.length_nil, Nat.reduceAdd, Nat.reduceSub, List.replicate, List.cons_append, List.nil_append]
 try simp (maxSteps := 2000000) only [go_sem]
 repeat with_reducible refine zAd ?_
 refine zAi (by repeat' constructor) (zDj _) ?_
 try simp (maxSteps := 2000000) only [go_sem]
 repeat with_reducible refine zAd ?_
 apply zAq (h2 := fun _ => zDj _)
 ·(simp (maxSteps := 2000000) only [go_sem]; rfl)
 ·intro h; repeat' (first | exact trivial | exact h | refine And.intro ?_ ?_)
 try simp (maxSteps := 2000000) only [go_sem, zAA, zAy]
 repeat with_reducible refine zAd ?_
 refine zAc (by rfl) trivial (fun h => ?_) (fun h => ?_)
 ·try simp (maxSteps := 2000000) only [go_sem]
  repeat with_reducible refine zAd ?_
  refine zAe rfl trivial (.inl ?_)
  congr 3
  cases hn : zBS x with
  | false => rfl
  | true =>
   exfalso
   simp only [zBS, Bool.and_eq_true, Bool.or_eq_true, decide_eq_true_eq, beq_iff_eq] at hn
   obtain ⟨⟨⟨⟨⟨h1, h2⟩, h3⟩, h4⟩, _⟩, _⟩ := hn
   rcases h2 with h2 | h2
   ·simp [h1, h2] at h; omega
   ·simp [h1, h2] at h; omega
 have hh : zBP x.tag = true ∧ (x.id = [] ∨ zBP x.id = true) ∧ x.cls.length ≤ 6 ∧ x.att.length ≤ 4 := by
  simp at h
  refine ⟨h.1.1.1, ?_, by omega, by omega⟩
  by_cases h0 : x.id = []
  ·exact .inl h0
  ·exact .inr (h.1.1.2 h0)
 obtain ⟨hh1, hh2, hh3, hh4⟩ := hh
 try simp (maxSteps := 2000000) only [go_sem]
 repeat with_reducible refine zAd ?_
 refine zAn (fun i : Nat => [(3, .pv (iv i)), (36, .un), (63, .un)]) (fun i => x.cls.length - i) (fun i => i ≤ x.cls.length ∧ okC x.cls i = true) 0 ?_ ⟨Nat.zero_le _, rfl⟩ ?_
 ·simp (maxSteps := 2000000) only [go_sem, zAf, zAk, zAu, zAg]
 intro i ⟨hi, hok⟩
 try simp (maxSteps := 2000000) only [go_sem, zAA]
 repeat with_reducible refine zAd ?_
 refine zAc (by rfl) trivial (fun h2 => ?_) (fun h2 => ?_)
 ·have hlt : i < x.cls.length := by simpa using h2
  have e1 : ((i : Int) - 1).toNat = i - 1 := by omega
  try simp (maxSteps := 2000000) only [go_sem, zIA _ _ hlt, zAA]
  repeat with_reducible refine zAd ?_
  refine zAi (by repeat' constructor) (zDj _) ?_
  try simp (maxSteps := 2000000) only [go_sem, zIA _ _ hlt, zAA, e1, zIA _ _ (show i - 1 < x.cls.length by omega)]
  repeat with_reducible refine zAd ?_
  refine zAc (by rfl) trivial (fun h3 => ?_) (fun h3 => ?_)
  ·try simp (maxSteps := 2000000) only [go_sem]
   repeat with_reducible refine zAd ?_
   refine zAe rfl trivial (.inl ?_)
   congr 3
   cases hn : zBS x with
   | false => rfl
   | true =>
    exfalso
    simp only [zBS, Bool.and_eq_true] at hn
    have h4 := zAS hn.1.2 hlt
    simp [cOk, hlt] at h3 h4
    grind
  ·try simp (maxSteps := 2000000) only [go_sem]
   repeat with_reducible refine zAd ?_
   refine ⟨i + 1, by omega, ⟨hlt, ?_⟩, ?_⟩
   ·show (List.range (i + 1)).all (cOk x.cls) = true
    rw [zCZ]
    have hok' : (List.range i).all (cOk x.cls) = true := hok
    rw [hok']
    simp [cOk, hlt] at h3 ⊢
    refine ⟨h3.1, ?_⟩
    rcases Nat.eq_zero_or_pos i with h5 | h5
    ·exact .inl h5
    ·exact .inr (h3.2 h5)
   ·simp (maxSteps := 2000000) only [go_sem, zAf, zAk, zAu, zAg]
    exact zAl (by omega)
 try simp (maxSteps := 2000000) only [go_sem]
 repeat with_reducible refine zAd ?_
 have hi2 : i = x.cls.length := by simp at h2; omega
 refine zAn (fun i : Nat => [(4, .pv (iv i)), (68, .un), (108, .un)]) (fun i => x.att.length - i) (fun i => i ≤ x.att.length ∧ okA x.att i = true) 0 ?_ ⟨Nat.zero_le _, rfl⟩ ?_
 ·simp (maxSteps := 2000000) only [go_sem, zAf, zAk, zAu, zAg]
 intro k ⟨hk, hokA⟩
 try simp (maxSteps := 2000000) only [go_sem, zAy]
 repeat with_reducible refine zAd ?_
 refine zAc (by rfl) trivial (fun h3 => ?_) (fun h3 => ?_)
 ·have hlt : k < x.att.length := by simpa using h3
  have e1 : ((k : Int) - 1).toNat = k - 1 := by omega
  try simp (maxSteps := 2000000) only [go_sem, zED _ _ hlt, zAy]
  repeat with_reducible refine zAd ?_
  refine zAi (by repeat' constructor) (zDj _) ?_
  try simp (maxSteps := 2000000) only [go_sem, zED _ _ hlt, zAy]
  repeat with_reducible refine zAd ?_
  apply zAq (h2 := fun _ => zLh _)
  ·(simp (maxSteps := 2000000) only [go_sem]; rfl)
  ·intro h; repeat' (first | exact trivial | exact h | refine And.intro ?_ ?_)
  try simp (maxSteps := 2000000) only [go_sem, zED _ _ hlt, zAy, e1, zED _ _ (show k - 1 < x.att.length by omega)]
  repeat with_reducible refine zAd ?_
  refine zAc (by rfl) trivial (fun h4 => ?_) (fun h4 => ?_)
  ·try simp (maxSteps := 2000000) only [go_sem]
   repeat with_reducible refine zAd ?_
   refine zAe rfl trivial (.inl ?_)
   congr 3
   cases hn : zBS x with
   | false => rfl
   | true =>
    exfalso
    simp only [zBS, Bool.and_eq_true] at hn
    have h5 := zAS hn.2 hlt
    simp [aOk, hlt] at h4 h5
    grind
  ·try simp (maxSteps := 2000000) only [go_sem]
   repeat with_reducible refine zAd ?_
   refine ⟨k + 1, by omega, ⟨hlt, ?_⟩, ?_⟩
   ·show (List.range (k + 1)).all (aOk x.att) = true
    rw [zCZ]
    have hok' : (List.range k).all (aOk x.att) = true := hokA
    rw [hok']
    simp [aOk, hlt] at h4 ⊢
    refine ⟨h4.1, ?_⟩
    rcases Nat.eq_zero_or_pos k with h5 | h5
    ·exact .inl h5
    ·exact .inr (h4.2 h5)
   ·simp (maxSteps := 2000000) only [go_sem, zAf, zAk, zAu, zAg]
    exact zAl (by omega)
 ·try simp (maxSteps := 2000000) only [go_sem]
  repeat with_reducible refine zAd ?_
  refine zAe rfl trivial (.inl ?_)
  congr 3
  have hk2 : k = x.att.length := by simp at h3; omega
  subst hk2 hi2
  simp only [zBS, hh1, hok, hokA, hh3, hh4, decide_true, Bool.and_true, Bool.true_and]
  rcases hh2 with h | h <;> simp [h]
theorem zQp (d : List Nd) (hd : zCC d d.length = true) (a : Int) (n : Nat) (hn : n < d.length) : Contract Tryz.prog zFB [.val (zDb d), .val (iv a), .val (iv n)] { res := .val (bv ((zA7 d d.length (zA2 d n)).contains a)) } := by
 unfold zDb
 refine zWS (base := 0) ⟨Nat.le_of_ble_eq_true rfl, Nat.le_of_ble_eq_true rfl, Nat.le_of_ble_eq_true rfl, rfl⟩ (fun hfit => ?_)
 unfold F0 zGT
 simp (maxSteps := 2000000) only [zAE, List.set_cons_succ, List.set_cons_zero, List.map_cons, List.map_nil, zAD, zAb, ioOf, List.length_cons, List.length_nil, Nat.reduceAdd, Nat.reduceSub, List.replicate, List.cons_append, List.nil_append]
 try simp (maxSteps := 2000000) only [go_sem]
 repeat with_reducible refine zAd ?_
 try simp (maxSteps := 2000000) only [go_sem, zAz, zA5 _ _ hn, ndV]
 repeat with_reducible refine zAd ?_
 have hup := zBe hd
 refine zAn (fun k : Int => [(7, .pv (iv k)), (15, .un), (24, .un)]) (fun k => (k + 1).toNat) (fun k => -1 ≤ k ∧ k < d.length ∧ (zA7 d d.length (zA2 d n)).contains a = (zA7 d d.length k).contains a) (zA2 d n) ?_ ⟨(hup n hn).1, by have := (hup n hn).2; omega, rfl⟩ ?_
 ·simp (maxSteps := 2000000) only [go_sem, zAf, zAk, zAu, zAg]
  exact zAl rfl
 intro k ⟨h1, h2, h3⟩
 try simp (maxSteps := 2000000) only [go_sem]
 repeat with_reducible refine zAd ?_
 refine zAc (by rfl) trivial (fun h4 => ?_) (fun h4 => ?_)
 ·have hk : 0 ≤ k := by simpa using h4
  have hkn : k.toNat < d.length := by omega
  have hk2 : k = (k.toNat : Int) := by omega
  try simp (maxSteps := 2000000) only [go_sem]
  repeat with_reducible refine zAd ?_
  refine zAc (by rfl) trivial (fun h5 => ?_) (fun h5 => ?_)
  ·try simp (maxSteps := 2000000) only [go_sem]
   repeat with_reducible refine zAd ?_
   refine zAe rfl trivial (.inl ?_)
   congr 3
   rw [h3]
   have h6 : k = a := by simpa using h5
   subst h6
   cases hl : d.length with
   | zero => omega
   | succ f => simp [zA7, show ¬ k < 0 by omega]
  ·have h6 : ¬ k = a := by simpa using h5
   try simp (maxSteps := 2000000) only [go_sem, zAz, zA5 _ _ hkn, ndV]
   repeat with_reducible refine zAd ?_
   refine ⟨zA2 d k.toNat, ?_, ⟨(hup _ hkn).1, ?_, ?_⟩, ?_⟩
   ·have := (hup _ hkn); omega
   ·have := (hup _ hkn); omega
   ·rw [h3]
    cases hl : d.length with
    | zero => omega
    | succ f =>
     have e : zA7 d (f + 1) k = k :: zA7 d f (zA2 d k.toNat) := by simp [zA7, show ¬ k < 0 by omega]
     rw [e, zEW f (f + 1) (zA2 d k.toNat) (fun j hj => (hup j (by have := hup _ hkn; omega)).2) (by have := hup _ hkn; omega) (by have := hup _ hkn; omega)]
     rw [List.contains_cons]
     simp [Ne.symm h6]
   ·simp (maxSteps := 2000000) only [go_sem, zAf, zAk, zAu, zAg]
    exact zAl rfl
 ·try simp (maxSteps := 2000000) only [go_sem]
  repeat with_reducible refine zAd ?_
  refine zAe rfl trivial (.inl ?_)
  congr 3
  rw [h3]
  have : k < 0 := by simp at h4; omega
  cases hl : d.length with
  | zero => simp [zA7]
  | succ f => simp [zA7, this]
end Go.Hx
end

section
set_option maxRecDepth 100000
set_option linter.unusedSimpArgs false
namespace Go.Hx
open Go.Proofs
variable [Glob]
attribute [local go_sem] zAz zAA zAy zAt ndV zAw
attribute [local go_sem] reduceCtorEq Nat.reduceAdd Nat.reduceEqDiff reduceIte Nat.reduceLeDiff Nat.reduceLT Nat.reduceSub
theorem zSB (a b : List Int) : Contract Tryz.prog zE7 [.val (.one (.sl 1 (zB0 a))), .val (.one (.sl 1 (zB0 b)))] { res := .val (bv (decide (a = b))) } := by
 refine zPz (base := 0) ⟨Nat.le_of_ble_eq_true rfl, Nat.le_of_ble_eq_true rfl, Nat.le_of_ble_eq_true rfl, rfl⟩ (fun hfit => ?_)
 unfold F0 zD8
 simp (maxSteps := 2000000) only [zAE, List.set_cons_succ, List.set_cons_zero, List.map_cons, List.map_nil, zAD, zAb, ioOf, List.length_cons, List.length_nil, Nat.reduceAdd, Nat.reduceSub, List.replicate, List.cons_append, List.nil_append]
 try simp (maxSteps := 2000000) only [go_sem]
 repeat with_reducible refine zAd ?_
 have hm := zFZ (k := 1) hfit.1
 rw [zAt] at hm
 refine zAc (by rfl) trivial (fun h => ?_) (fun h => ?_)
 ·try simp (maxSteps := 2000000) only [go_sem]
  repeat with_reducible refine zAd ?_
  refine zAe rfl trivial (.inl ?_)
  congr 3
  simp [zAt] at h
  exact decide_eq_false (fun e => h (by subst e; rfl))
 have hl : a.length = b.length := by simp [zAt] at h; omega
 try simp (maxSteps := 2000000) only [go_sem]
 repeat with_reducible refine zAd ?_
 refine zAn (fun i : Nat => [(5, .pv (iv i)), (14, .un), (25, .un)]) (fun i => a.length - i) (fun i => i ≤ a.length ∧ a.take i = b.take i) 0 ?_ ⟨Nat.zero_le _, rfl⟩ ?_
 ·simp (maxSteps := 2000000) only [go_sem, zAf, zAk, zAu, zAg]
 intro i ⟨hi, heq⟩
 try simp (maxSteps := 2000000) only [go_sem, zAt]
 repeat with_reducible refine zAd ?_
 refine zAc (by rfl) trivial (fun h2 => ?_) (fun h2 => ?_)
 ·have hlt : i < a.length := by simpa using h2
  have hltb : i < b.length := by omega
  try simp (maxSteps := 2000000) only [go_sem, zE4 _ _ hlt, zE4 _ _ hltb, zAt]
  repeat with_reducible refine zAd ?_
  refine zAc (by rfl) trivial (fun h3 => ?_) (fun h3 => ?_)
  ·try simp (maxSteps := 2000000) only [go_sem]
   repeat with_reducible refine zAd ?_
   refine zAe rfl trivial (.inl ?_)
   congr 3
   simp only [bne_iff_ne, ne_eq] at h3
   exact (decide_eq_false (yBM 0 h3))
  ·try simp (maxSteps := 2000000) only [go_sem]
   repeat with_reducible refine zAd ?_
   refine ⟨i + 1, by omega, ⟨hlt, zWx 0 heq hlt hltb ?_⟩, ?_⟩
   ·simpa only [bne_eq_false_iff_eq] using h3
   ·simp (maxSteps := 2000000) only [go_sem, zAf, zAk, zAu, zAg]
    exact zAl (by omega)
 ·try simp (maxSteps := 2000000) only [go_sem]
  repeat with_reducible refine zAd ?_
  refine zAe rfl trivial (.inl ?_)
  congr 3
  have hi2 : i = a.length := by simp at h2; omega
  subst hi2
  exact decide_eq_true (yBN hl heq)
end Go.Hx
end

section
set_option maxRecDepth 100000
set_option linter.unusedSimpArgs false
namespace Go.Hx
open Go.Proofs
variable [Glob]
end Go.Hx
end
