/-
  Walks of functions of the program over an abstract layer, and the laws that they use: each contract says what the function computes, for every input that its conditions let by. No other condition.
-/
import Derived.Test.YtjnagiaooecklaaGreatDoorProg
import Derived.Test.YtjnagiaooecklaaGreatDoorG8
set_option linter.all false
section
/-
 The abstract code of functions of the program, printed by gen.py; each stands for the given one. No condition.
-/
namespace Go.Hx
open Go.Proofs
variable [Glob]
abbrev zFB : Nat := 67
abbrev zDy : Nat := 53
abbrev zBT : Nat := 184
abbrev zD5 : Nat := 185
abbrev zEF : Nat := 65
abbrev zE6 : Nat := 124
abbrev zE7 : Nat := 13
abbrev zHC : Nat := 55
abbrev zAJ : Nat := 60
abbrev zE8 : Nat := 3
abbrev zTW : HCode := .reg [⟨none, .val 6 (.mv (.c (bv false)))⟩] false []
abbrev zTX : HCode := .reg [⟨none, .val 7 (.mv (.t 0))⟩,
  ⟨none, .val 8 (.mv (.t 1))⟩,
  ⟨none, .val 9 (.ints .geq (.t 7) (.t 8))⟩,
  ⟨none, .val 10 (.mv (.t 9))⟩,
  ⟨some (10, true), .val 11 (.mv (.t 0))⟩,
  ⟨some (10, true), .val 12 (.mv (.t 2))⟩,
  ⟨some (10, true), .val 13 (.ints .leq (.t 11) (.t 12))⟩,
  ⟨none, .val 14 (.pick (.t 10) (.t 13) (.c (bv false)))⟩,
  ⟨none, .val 6 (.mv (.t 14))⟩] false [.forget [7, 8, 9, 10, 11, 12, 13, 14]]
abbrev yBS : HCode := (.seq zTW (.seq zTX .ret))
abbrev zEi : Env := { N := 15, Γ := [], L := 15, nfix := 0 }
abbrev zWG : List RSrc := [.tmp 6]
theorem zKD {base : Nat} {av : List AV} {r : RV} (hfo : zAx zEi base av) (hW : AVs.fits av → hwp Tryz.prog yBS (zBO zEi base av zWG r) (F0 zEi base av)) (hov : ∀ x, r.res = .ov x → zBx av = 0 := by intro x h; cases h <;> rfl) : Contract Tryz.prog zAJ av r :=
 zAa (fn := Tryz.f60) (c := Tryz.f60.body.getD .skip) (by kernel_rfl) (by kernel_rfl) (by kernel_rfl) (by kernel_rfl) (by kernel_rfl) (by kernel_rfl) (by kernel_rfl) hfo hW hov
abbrev zTY : HCode := .reg [⟨none, .val 2 (.mv (.c (bv false)))⟩] false []
abbrev zTZ : HCode := .reg [⟨none, .val 5 (.mv (.t 0))⟩,
  ⟨none, .val 6 (.len true (.t 5))⟩,
  ⟨none, .call (some 7) zAJ [(.t 6, .v), (.c (iv 1), .v), (.c (iv 12), .v)]⟩,
  ⟨none, .val 8 (.not (.t 7))⟩,
  ⟨none, .val 9 (.mv (.t 8))⟩,
  ⟨some (9, false), .val 10 (.mv (.t 0))⟩,
  ⟨some (9, false), .val 11 (.idxS (.t 10) (.c (iv 0)))⟩,
  ⟨some (9, false), .val 12 (.ints .lss (.t 11) (.c (.one (.v (.int .u8 97)))))⟩,
  ⟨none, .val 13 (.pick (.t 9) (.c (bv true)) (.t 12))⟩,
  ⟨none, .val 14 (.mv (.t 13))⟩,
  ⟨some (14, false), .val 15 (.mv (.t 0))⟩,
  ⟨some (14, false), .val 16 (.idxS (.t 15) (.c (iv 0)))⟩,
  ⟨some (14, false), .val 17 (.ints .gtr (.t 16) (.c (.one (.v (.int .u8 122)))))⟩,
  ⟨none, .val 18 (.pick (.t 14) (.c (bv true)) (.t 17))⟩] false [.forget [5, 6, 7, 8, 9, 10, 11, 12, 13, 14, 15, 16, 17]]
abbrev zT0 : HCode := .reg [⟨none, .val 2 (.mv (.c (bv false)))⟩] false []
abbrev zT1 : HCode := .reg [⟨none, .val 3 (.mv (.c (iv 0)))⟩] false []
abbrev zT2 : HCode := .reg [⟨none, .val 19 (.mv (.t 3))⟩,
  ⟨none, .val 20 (.mv (.t 0))⟩,
  ⟨none, .val 21 (.len true (.t 20))⟩,
  ⟨none, .val 22 (.ints .lss (.t 19) (.t 21))⟩] false [.forget [19, 20, 21]]
abbrev zT3 : HCode := .reg [⟨none, .val 25 (.mv (.t 0))⟩,
  ⟨none, .val 26 (.mv (.t 3))⟩,
  ⟨none, .val 27 (.idxS (.t 25) (.t 26))⟩,
  ⟨none, .val 4 (.mv (.t 27))⟩] false [.forget [25, 26, 27]]
abbrev zT4 : HCode := .reg [⟨none, .val 28 (.mv (.t 4))⟩,
  ⟨none, .val 29 (.ints .geq (.t 28) (.c (.one (.v (.int .u8 97)))))⟩,
  ⟨none, .val 30 (.mv (.t 29))⟩,
  ⟨some (30, true), .val 31 (.mv (.t 4))⟩,
  ⟨some (30, true), .val 32 (.ints .leq (.t 31) (.c (.one (.v (.int .u8 122)))))⟩,
  ⟨none, .val 33 (.pick (.t 30) (.t 32) (.c (bv false)))⟩,
  ⟨none, .val 34 (.mv (.t 33))⟩,
  ⟨some (34, false), .val 35 (.mv (.t 4))⟩,
  ⟨some (34, false), .val 36 (.ints .geq (.t 35) (.c (.one (.v (.int .u8 48)))))⟩,
  ⟨some (34, false), .val 37 (.mv (.t 36))⟩,
  ⟨some (37, true), .val 38 (.mv (.t 4))⟩,
  ⟨some (37, true), .val 39 (.ints .leq (.t 38) (.c (.one (.v (.int .u8 57)))))⟩,
  ⟨some (34, false), .val 40 (.pick (.t 37) (.t 39) (.c (bv false)))⟩,
  ⟨none, .val 41 (.pick (.t 34) (.c (bv true)) (.t 40))⟩,
  ⟨none, .val 42 (.mv (.t 41))⟩,
  ⟨some (42, false), .val 43 (.mv (.t 4))⟩,
  ⟨some (42, false), .val 44 (.ints .eql (.t 43) (.c (.one (.v (.int .u8 45)))))⟩,
  ⟨none, .val 45 (.pick (.t 42) (.c (bv true)) (.t 44))⟩,
  ⟨none, .val 46 (.not (.t 45))⟩] false [.forget [28, 29, 30, 31, 32, 33, 34, 35, 36, 37, 38, 39, 40, 41, 42, 43, 44, 45]]
abbrev zT5 : HCode := .reg [⟨none, .val 2 (.mv (.c (bv false)))⟩] false []
abbrev zT6 : HCode := .reg [⟨none, .val 23 (.mv (.t 3))⟩,
  ⟨none, .val 24 (.ints .add (.t 23) (.c (iv 1)))⟩,
  ⟨none, .val 3 (.mv (.t 24))⟩] false [.forget [23, 24]]
abbrev zT7 : HCode := .reg [⟨none, .val 2 (.mv (.c (bv true)))⟩] false []
abbrev yBT : HCode := (.seq zTY (.seq (.seq zTZ (.cond (.t 18) (.seq zT0 .ret) .skip)) (.seq (.seq zT1 (.block 0 (.loop (.seq (.seq zT2 (.cond (.t 22) .skip (.exit 0))) (.seq (.block 1 (.seq zT3 (.seq zT4 (.cond (.t 46) (.seq zT5 .ret) .skip)))) zT6))))) (.seq zT7 .ret))))
abbrev zFC : Env := { N := 47, Γ := [], L := 47, nfix := 0 }
abbrev zWH : List RSrc := [.tmp 2]
theorem zT8 {base : Nat} {av : List AV} {r : RV} (hfo : zAx zFC base av) (hW : AVs.fits av → hwp Tryz.prog yBT (zBO zFC base av zWH r) (F0 zFC base av)) (hov : ∀ x, r.res = .ov x → zBx av = 0 := by intro x h; cases h <;> rfl) : Contract Tryz.prog zBT av r :=
 zAa (fn := Tryz.f184) (c := Tryz.f184.body.getD .skip) (by kernel_rfl) (by kernel_rfl) (by kernel_rfl) (by kernel_rfl) (by kernel_rfl) (by kernel_rfl) (by kernel_rfl) hfo hW hov
abbrev zQW : HCode := .reg [⟨none, .val 2 (.mv (.c (bv false)))⟩] false []
abbrev zQX : HCode := .reg [⟨none, .val 4 (.mv (.t 0))⟩,
  ⟨none, .val 5 (.len true (.t 4))⟩,
  ⟨none, .val 6 (.ints .gtr (.t 5) (.c (iv 16)))⟩] false [.forget [4, 5]]
abbrev zQY : HCode := .reg [⟨none, .val 2 (.mv (.c (bv false)))⟩] false []
abbrev zQZ : HCode := .reg [⟨none, .val 3 (.mv (.c (iv 0)))⟩] false []
abbrev zQ0 : HCode := .reg [⟨none, .val 7 (.mv (.t 3))⟩,
  ⟨none, .val 8 (.mv (.t 0))⟩,
  ⟨none, .val 9 (.len true (.t 8))⟩,
  ⟨none, .val 10 (.ints .lss (.t 7) (.t 9))⟩] false [.forget [7, 8, 9]]
abbrev zQ1 : HCode := .reg [⟨none, .val 13 (.mv (.t 0))⟩,
  ⟨none, .val 14 (.mv (.t 3))⟩,
  ⟨none, .val 15 (.idxS (.t 13) (.t 14))⟩,
  ⟨none, .val 16 (.ints .lss (.t 15) (.c (.one (.v (.int .u8 32)))))⟩,
  ⟨none, .val 17 (.mv (.t 16))⟩,
  ⟨some (17, false), .val 18 (.mv (.t 0))⟩,
  ⟨some (17, false), .val 19 (.mv (.t 3))⟩,
  ⟨some (17, false), .val 20 (.idxS (.t 18) (.t 19))⟩,
  ⟨some (17, false), .val 21 (.ints .gtr (.t 20) (.c (.one (.v (.int .u8 126)))))⟩,
  ⟨none, .val 22 (.pick (.t 17) (.c (bv true)) (.t 21))⟩,
  ⟨none, .val 23 (.mv (.t 22))⟩,
  ⟨some (23, false), .val 24 (.mv (.t 0))⟩,
  ⟨some (23, false), .val 25 (.mv (.t 3))⟩,
  ⟨some (23, false), .val 26 (.idxS (.t 24) (.t 25))⟩,
  ⟨some (23, false), .val 27 (.ints .eql (.t 26) (.c (.one (.v (.int .u8 34)))))⟩,
  ⟨none, .val 28 (.pick (.t 23) (.c (bv true)) (.t 27))⟩] false [.forget [13, 14, 15, 16, 17, 18, 19, 20, 21, 22, 23, 24, 25, 26, 27]]
abbrev zQ2 : HCode := .reg [⟨none, .val 2 (.mv (.c (bv false)))⟩] false []
abbrev zQ3 : HCode := .reg [⟨none, .val 11 (.mv (.t 3))⟩,
  ⟨none, .val 12 (.ints .add (.t 11) (.c (iv 1)))⟩,
  ⟨none, .val 3 (.mv (.t 12))⟩] false [.forget [11, 12]]
abbrev zQ4 : HCode := .reg [⟨none, .val 2 (.mv (.c (bv true)))⟩] false []
abbrev zZm : HCode := (.seq zQW (.seq (.seq zQX (.cond (.t 6) (.seq zQY .ret) .skip)) (.seq (.seq zQZ (.block 0 (.loop (.seq (.seq zQ0 (.cond (.t 10) .skip (.exit 0))) (.seq (.block 1 (.seq zQ1 (.cond (.t 28) (.seq zQ2 .ret) .skip))) zQ3))))) (.seq zQ4 .ret))))
abbrev zEG : Env := { N := 29, Γ := [], L := 29, nfix := 0 }
abbrev zT9 : List RSrc := [.tmp 2]
theorem zQ5 {base : Nat} {av : List AV} {r : RV} (hfo : zAx zEG base av) (hW : AVs.fits av → hwp Tryz.prog zZm (zBO zEG base av zT9 r) (F0 zEG base av)) (hov : ∀ x, r.res = .ov x → zBx av = 0 := by intro x h; cases h <;> rfl) : Contract Tryz.prog zD5 av r :=
 zAa (fn := Tryz.f185) (c := Tryz.f185.body.getD .skip) (by kernel_rfl) (by kernel_rfl) (by kernel_rfl) (by kernel_rfl) (by kernel_rfl) (by kernel_rfl) (by kernel_rfl) hfo hW hov
abbrev zO4 : HCode := .reg [⟨none, .val 1 (.boxF (.t 0))⟩,
  ⟨none, .val 2 (.mv (.c (bv false)))⟩] false []
abbrev zO5 : HCode := .reg [⟨none, .val 5 (.fldR (.t 1) 1 1)⟩,
  ⟨none, .val 6 (.ldR (.t 5) 1 false)⟩,
  ⟨none, .call (some 7) zBT [(.t 6, .v)]⟩,
  ⟨none, .val 8 (.not (.t 7))⟩,
  ⟨none, .val 9 (.mv (.t 8))⟩,
  ⟨some (9, false), .val 10 (.fldR (.t 1) 2 1)⟩,
  ⟨some (9, false), .val 11 (.ldR (.t 10) 1 false)⟩,
  ⟨some (9, false), .val 12 (.strs .neq (.t 11) (.c (sv [])))⟩,
  ⟨some (9, false), .val 13 (.mv (.t 12))⟩,
  ⟨some (13, true), .val 14 (.fldR (.t 1) 2 1)⟩,
  ⟨some (13, true), .val 15 (.ldR (.t 14) 1 false)⟩,
  ⟨some (13, true), .call (some 16) zBT [(.t 15, .v)]⟩,
  ⟨some (13, true), .val 17 (.not (.t 16))⟩,
  ⟨some (9, false), .val 18 (.pick (.t 13) (.t 17) (.c (bv false)))⟩,
  ⟨none, .val 19 (.pick (.t 9) (.c (bv true)) (.t 18))⟩,
  ⟨none, .val 20 (.mv (.t 19))⟩,
  ⟨some (20, false), .val 21 (.fldR (.t 1) 3 1)⟩,
  ⟨some (20, false), .val 22 (.ldR (.t 21) 1 false)⟩,
  ⟨some (20, false), .val 23 (.len false (.t 22))⟩,
  ⟨some (20, false), .val 24 (.ints .gtr (.t 23) (.c (iv 6)))⟩,
  ⟨none, .val 25 (.pick (.t 20) (.c (bv true)) (.t 24))⟩,
  ⟨none, .val 26 (.mv (.t 25))⟩,
  ⟨some (26, false), .val 27 (.fldR (.t 1) 4 1)⟩,
  ⟨some (26, false), .val 28 (.ldR (.t 27) 1 false)⟩,
  ⟨some (26, false), .val 29 (.len false (.t 28))⟩,
  ⟨some (26, false), .val 30 (.ints .gtr (.t 29) (.c (iv 4)))⟩,
  ⟨none, .val 31 (.pick (.t 26) (.c (bv true)) (.t 30))⟩] false [.forget [5, 6, 7, 8, 9, 10, 11, 12, 13, 14, 15, 16, 17, 18, 19, 20, 21, 22, 23, 24, 25, 26, 27, 28, 29, 30]]
abbrev zO6 : HCode := .reg [⟨none, .val 2 (.mv (.c (bv false)))⟩] false []
abbrev zO7 : HCode := .reg [⟨none, .val 3 (.mv (.c (iv 0)))⟩] false []
abbrev zO8 : HCode := .reg [⟨none, .val 32 (.mv (.t 3))⟩,
  ⟨none, .val 33 (.fldR (.t 1) 3 1)⟩,
  ⟨none, .val 34 (.ldR (.t 33) 1 false)⟩,
  ⟨none, .val 35 (.len false (.t 34))⟩,
  ⟨none, .val 36 (.ints .lss (.t 32) (.t 35))⟩] false [.forget [32, 33, 34, 35]]
abbrev zO9 : HCode := .drg [⟨0, false, ⟨none, .val 39 (.fldR (.t 1) 3 1)⟩⟩,
  ⟨1, false, ⟨none, .val 40 (.ldR (.t 39) 1 false)⟩⟩,
  ⟨2, false, ⟨none, .val 41 (.mv (.t 3))⟩⟩,
  ⟨3, false, ⟨none, .val 42 (.idxA 1 (.t 40) (.t 41))⟩⟩,
  ⟨4, false, ⟨none, .val 43 (.ldR (.t 42) 1 false)⟩⟩,
  ⟨5, true, ⟨none, .call (some 44) zBT [(.t 43, .v)]⟩⟩,
  ⟨6, false, ⟨none, .val 45 (.not (.t 44))⟩⟩,
  ⟨7, false, ⟨none, .val 46 (.mv (.t 45))⟩⟩,
  ⟨8, false, ⟨some (46, false), .val 47 (.mv (.t 3))⟩⟩,
  ⟨9, false, ⟨some (46, false), .val 48 (.ints .gtr (.t 47) (.c (iv 0)))⟩⟩,
  ⟨10, false, ⟨some (46, false), .val 49 (.mv (.t 48))⟩⟩,
  ⟨11, false, ⟨some (49, true), .val 50 (.fldR (.t 1) 3 1)⟩⟩,
  ⟨12, false, ⟨some (49, true), .val 51 (.ldR (.t 50) 1 false)⟩⟩,
  ⟨13, false, ⟨some (49, true), .val 52 (.mv (.t 3))⟩⟩,
  ⟨14, false, ⟨some (49, true), .val 53 (.ints .sub (.t 52) (.c (iv 1)))⟩⟩,
  ⟨15, false, ⟨some (49, true), .val 54 (.idxA 1 (.t 51) (.t 53))⟩⟩,
  ⟨16, false, ⟨some (49, true), .val 55 (.ldR (.t 54) 1 false)⟩⟩,
  ⟨17, false, ⟨some (49, true), .val 56 (.fldR (.t 1) 3 1)⟩⟩,
  ⟨18, false, ⟨some (49, true), .val 57 (.ldR (.t 56) 1 false)⟩⟩,
  ⟨19, false, ⟨some (49, true), .val 58 (.mv (.t 3))⟩⟩,
  ⟨20, false, ⟨some (49, true), .val 59 (.idxA 1 (.t 57) (.t 58))⟩⟩,
  ⟨21, false, ⟨some (49, true), .val 60 (.ldR (.t 59) 1 false)⟩⟩,
  ⟨22, false, ⟨some (49, true), .val 61 (.strs .geq (.t 55) (.t 60))⟩⟩,
  ⟨23, false, ⟨some (46, false), .val 62 (.pick (.t 49) (.t 61) (.c (bv false)))⟩⟩,
  ⟨24, false, ⟨none, .val 63 (.pick (.t 46) (.c (bv true)) (.t 62))⟩⟩] [.forget [39, 40, 41, 42, 43, 44, 45, 46, 47, 48, 49, 50, 51, 52, 53, 54, 55, 56, 57, 58, 59, 60, 61, 62]]
abbrev zPa : HCode := .reg [⟨none, .val 2 (.mv (.c (bv false)))⟩] false []
abbrev zPb : HCode := .reg [⟨none, .val 37 (.mv (.t 3))⟩,
  ⟨none, .val 38 (.ints .add (.t 37) (.c (iv 1)))⟩,
  ⟨none, .val 3 (.mv (.t 38))⟩] false [.forget [37, 38]]
abbrev zPc : HCode := .reg [⟨none, .val 4 (.mv (.c (iv 0)))⟩] false []
abbrev zPd : HCode := .reg [⟨none, .val 64 (.mv (.t 4))⟩,
  ⟨none, .val 65 (.fldR (.t 1) 4 1)⟩,
  ⟨none, .val 66 (.ldR (.t 65) 1 false)⟩,
  ⟨none, .val 67 (.len false (.t 66))⟩,
  ⟨none, .val 68 (.ints .lss (.t 64) (.t 67))⟩] false [.forget [64, 65, 66, 67]]
abbrev zNo : HCode := .drg [⟨0, false, ⟨none, .val 71 (.fldR (.t 1) 4 1)⟩⟩,
  ⟨1, false, ⟨none, .val 72 (.ldR (.t 71) 1 false)⟩⟩,
  ⟨2, false, ⟨none, .val 73 (.mv (.t 4))⟩⟩,
  ⟨3, false, ⟨none, .val 74 (.idxA 2 (.t 72) (.t 73))⟩⟩,
  ⟨4, false, ⟨none, .val 75 (.fldR (.t 74) 0 1)⟩⟩,
  ⟨5, false, ⟨none, .val 76 (.ldR (.t 75) 1 false)⟩⟩,
  ⟨6, true, ⟨none, .call (some 77) zBT [(.t 76, .v)]⟩⟩,
  ⟨7, false, ⟨none, .val 78 (.not (.t 77))⟩⟩,
  ⟨8, false, ⟨none, .val 79 (.mv (.t 78))⟩⟩,
  ⟨9, false, ⟨some (79, false), .val 80 (.fldR (.t 1) 4 1)⟩⟩,
  ⟨10, false, ⟨some (79, false), .val 81 (.ldR (.t 80) 1 false)⟩⟩,
  ⟨11, false, ⟨some (79, false), .val 82 (.mv (.t 4))⟩⟩,
  ⟨12, false, ⟨some (79, false), .val 83 (.idxA 2 (.t 81) (.t 82))⟩⟩,
  ⟨13, false, ⟨some (79, false), .val 84 (.fldR (.t 83) 1 1)⟩⟩,
  ⟨14, false, ⟨some (79, false), .val 85 (.ldR (.t 84) 1 false)⟩⟩,
  ⟨15, true, ⟨some (79, false), .call (some 86) zD5 [(.t 85, .v)]⟩⟩,
  ⟨16, false, ⟨some (79, false), .val 87 (.not (.t 86))⟩⟩,
  ⟨17, false, ⟨none, .val 88 (.pick (.t 79) (.c (bv true)) (.t 87))⟩⟩,
  ⟨18, false, ⟨none, .val 89 (.mv (.t 88))⟩⟩,
  ⟨19, false, ⟨some (89, false), .val 90 (.mv (.t 4))⟩⟩,
  ⟨20, false, ⟨some (89, false), .val 91 (.ints .gtr (.t 90) (.c (iv 0)))⟩⟩,
  ⟨21, false, ⟨some (89, false), .val 92 (.mv (.t 91))⟩⟩,
  ⟨22, false, ⟨some (92, true), .val 93 (.fldR (.t 1) 4 1)⟩⟩,
  ⟨23, false, ⟨some (92, true), .val 94 (.ldR (.t 93) 1 false)⟩⟩,
  ⟨24, false, ⟨some (92, true), .val 95 (.mv (.t 4))⟩⟩,
  ⟨25, false, ⟨some (92, true), .val 96 (.ints .sub (.t 95) (.c (iv 1)))⟩⟩,
  ⟨26, false, ⟨some (92, true), .val 97 (.idxA 2 (.t 94) (.t 96))⟩⟩,
  ⟨27, false, ⟨some (92, true), .val 98 (.fldR (.t 97) 0 1)⟩⟩,
  ⟨28, false, ⟨some (92, true), .val 99 (.ldR (.t 98) 1 false)⟩⟩,
  ⟨29, false, ⟨some (92, true), .val 100 (.fldR (.t 1) 4 1)⟩⟩,
  ⟨30, false, ⟨some (92, true), .val 101 (.ldR (.t 100) 1 false)⟩⟩,
  ⟨31, false, ⟨some (92, true), .val 102 (.mv (.t 4))⟩⟩,
  ⟨32, false, ⟨some (92, true), .val 103 (.idxA 2 (.t 101) (.t 102))⟩⟩,
  ⟨33, false, ⟨some (92, true), .val 104 (.fldR (.t 103) 0 1)⟩⟩,
  ⟨34, false, ⟨some (92, true), .val 105 (.ldR (.t 104) 1 false)⟩⟩,
  ⟨35, false, ⟨some (92, true), .val 106 (.strs .geq (.t 99) (.t 105))⟩⟩,
  ⟨36, false, ⟨some (89, false), .val 107 (.pick (.t 92) (.t 106) (.c (bv false)))⟩⟩,
  ⟨37, false, ⟨none, .val 108 (.pick (.t 89) (.c (bv true)) (.t 107))⟩⟩] [.forget [71, 72, 73, 74, 75, 76, 77, 78, 79, 80, 81, 82, 83, 84, 85, 86, 87, 88, 89, 90, 91, 92, 93, 94, 95, 96, 97, 98, 99, 100, 101, 102, 103, 104, 105, 106, 107]]
abbrev zNp : HCode := .reg [⟨none, .val 2 (.mv (.c (bv false)))⟩] false []
abbrev zNq : HCode := .reg [⟨none, .val 69 (.mv (.t 4))⟩,
  ⟨none, .val 70 (.ints .add (.t 69) (.c (iv 1)))⟩,
  ⟨none, .val 4 (.mv (.t 70))⟩] false [.forget [69, 70]]
abbrev zNr : HCode := .reg [⟨none, .val 2 (.mv (.c (bv true)))⟩] false []
abbrev zWI : HCode := (.seq zO4 (.seq (.seq zO5 (.cond (.t 31) (.seq zO6 .ret) .skip)) (.seq (.seq zO7 (.block 0 (.loop (.seq (.seq zO8 (.cond (.t 36) .skip (.exit 0))) (.seq (.block 1 (.seq zO9 (.cond (.t 63) (.seq zPa .ret) .skip))) zPb))))) (.seq (.seq zPc (.block 2 (.loop (.seq (.seq zPd (.cond (.t 68) .skip (.exit 2))) (.seq (.block 3 (.seq zNo (.cond (.t 108) (.seq zNp .ret) .skip))) zNq))))) (.seq zNr .ret)))))
abbrev zD6 : Env := { N := 109, Γ := [], L := 109, nfix := 0 }
abbrev zQ6 : List RSrc := [.tmp 2]
theorem zPe {base : Nat} {av : List AV} {r : RV} (hfo : zAx zD6 base av) (hW : AVs.fits av → hwp Tryz.prog zWI (zBO zD6 base av zQ6 r) (F0 zD6 base av)) (hov : ∀ x, r.res = .ov x → zBx av = 0 := by intro x h; cases h <;> rfl) : Contract Tryz.prog zE6 av r :=
 zAa (fn := Tryz.f124) (c := Tryz.f124.body.getD .skip) (by kernel_rfl) (by kernel_rfl) (by kernel_rfl) (by kernel_rfl) (by kernel_rfl) (by kernel_rfl) (by kernel_rfl) hfo hW hov
abbrev zPf : HCode := .reg [⟨none, .val 1 (.boxF (.t 0))⟩,
  ⟨none, .val 2 (.mv (.c (iv 0)))⟩] false []
abbrev zPg : HCode := .reg [⟨none, .val 6 (.fldR (.t 1) 0 1)⟩,
  ⟨none, .val 7 (.ldR (.t 6) 1 false)⟩,
  ⟨none, .val 8 (.len false (.t 7))⟩,
  ⟨none, .call (some 9) zAJ [(.t 8, .v), (.c (iv 1), .v), (.c (iv 64), .v)]⟩,
  ⟨none, .val 10 (.not (.t 9))⟩] false [.forget [6, 7, 8, 9]]
abbrev zPh : HCode := .reg [⟨none, .val 2 (.mv (.c (iv 2)))⟩] false []
abbrev zPi : HCode := .reg [⟨none, .val 3 (.mv (.c (iv 0)))⟩] false []
abbrev zPj : HCode := .reg [⟨none, .val 11 (.mv (.t 3))⟩,
  ⟨none, .val 12 (.fldR (.t 1) 0 1)⟩,
  ⟨none, .val 13 (.ldR (.t 12) 1 false)⟩,
  ⟨none, .val 14 (.len false (.t 13))⟩,
  ⟨none, .val 15 (.ints .lss (.t 11) (.t 14))⟩] false [.forget [11, 12, 13, 14]]
abbrev zPk : HCode := .reg [⟨none, .val 18 (.fldR (.t 1) 0 1)⟩,
  ⟨none, .val 19 (.ldR (.t 18) 1 false)⟩,
  ⟨none, .val 20 (.mv (.t 3))⟩,
  ⟨none, .val 21 (.idxA 5 (.t 19) (.t 20))⟩,
  ⟨none, .val 22 (.ldR (.t 21) 5 true)⟩,
  ⟨none, .call (some 23) zE6 [(.t 22, .v)]⟩,
  ⟨none, .val 24 (.not (.t 23))⟩,
  ⟨none, .val 25 (.mv (.t 24))⟩,
  ⟨some (25, false), .val 26 (.mv (.t 3))⟩,
  ⟨some (25, false), .val 27 (.ints .eql (.t 26) (.c (iv 0)))⟩,
  ⟨some (25, false), .val 28 (.mv (.t 27))⟩,
  ⟨some (28, true), .val 29 (.fldR (.t 1) 0 1)⟩,
  ⟨some (28, true), .val 30 (.ldR (.t 29) 1 false)⟩,
  ⟨some (28, true), .val 31 (.mv (.t 3))⟩,
  ⟨some (28, true), .val 32 (.idxA 5 (.t 30) (.t 31))⟩,
  ⟨some (28, true), .val 33 (.fldR (.t 32) 0 1)⟩,
  ⟨some (28, true), .val 34 (.ldR (.t 33) 1 false)⟩,
  ⟨some (28, true), .val 35 (.ints .neq (.t 34) (.c (iv (-1))))⟩,
  ⟨some (25, false), .val 36 (.pick (.t 28) (.t 35) (.c (bv false)))⟩,
  ⟨none, .val 37 (.pick (.t 25) (.c (bv true)) (.t 36))⟩] false [.forget [18, 19, 20, 21, 22, 23, 24, 25, 26, 27, 28, 29, 30, 31, 32, 33, 34, 35, 36]]
abbrev zPl : HCode := .reg [⟨none, .val 2 (.mv (.c (iv 1)))⟩] false []
abbrev zPm : HCode := .reg [⟨none, .val 38 (.mv (.t 3))⟩,
  ⟨none, .val 39 (.ints .eql (.t 38) (.c (iv 0)))⟩,
  ⟨none, .val 4 (.mv (.t 39))⟩] false [.forget [38, 39]]
abbrev zPn : HCode := .reg [⟨none, .val 40 (.mv (.t 3))⟩,
  ⟨none, .val 41 (.ints .sub (.t 40) (.c (iv 1)))⟩,
  ⟨none, .val 5 (.mv (.t 41))⟩] false [.forget [40, 41]]
abbrev zPo : HCode := .reg [⟨none, .val 42 (.mv (.t 5))⟩,
  ⟨none, .val 43 (.ints .geq (.t 42) (.c (iv 0)))⟩,
  ⟨none, .val 44 (.mv (.t 43))⟩,
  ⟨some (44, true), .val 45 (.mv (.t 4))⟩,
  ⟨some (44, true), .val 46 (.not (.t 45))⟩,
  ⟨none, .val 47 (.pick (.t 44) (.t 46) (.c (bv false)))⟩] false [.forget [42, 43, 44, 45, 46]]
abbrev zNs : HCode := .reg [⟨none, .val 54 (.mv (.t 5))⟩,
  ⟨none, .val 55 (.fldR (.t 1) 0 1)⟩,
  ⟨none, .val 56 (.ldR (.t 55) 1 false)⟩,
  ⟨none, .val 57 (.mv (.t 3))⟩,
  ⟨none, .val 58 (.idxA 5 (.t 56) (.t 57))⟩,
  ⟨none, .val 59 (.fldR (.t 58) 0 1)⟩,
  ⟨none, .val 60 (.ldR (.t 59) 1 false)⟩,
  ⟨none, .val 61 (.ints .eql (.t 54) (.t 60))⟩,
  ⟨none, .val 4 (.mv (.t 61))⟩] false [.forget [54, 55, 56, 57, 58, 59, 60, 61]]
abbrev zNt : HCode := .reg [⟨none, .val 48 (.fldR (.t 1) 0 1)⟩,
  ⟨none, .val 49 (.ldR (.t 48) 1 false)⟩,
  ⟨none, .val 50 (.mv (.t 5))⟩,
  ⟨none, .val 51 (.idxA 5 (.t 49) (.t 50))⟩,
  ⟨none, .val 52 (.fldR (.t 51) 0 1)⟩,
  ⟨none, .val 53 (.ldR (.t 52) 1 false)⟩,
  ⟨none, .val 5 (.mv (.t 53))⟩] false [.forget [48, 49, 50, 51, 52, 53]]
abbrev zNu : HCode := .reg [⟨none, .val 62 (.mv (.t 4))⟩,
  ⟨none, .val 63 (.not (.t 62))⟩] false [.forget [62]]
abbrev zNv : HCode := .reg [⟨none, .val 2 (.mv (.c (iv 1)))⟩] false []
abbrev zNw : HCode := .reg [⟨none, .val 16 (.mv (.t 3))⟩,
  ⟨none, .val 17 (.ints .add (.t 16) (.c (iv 1)))⟩,
  ⟨none, .val 3 (.mv (.t 17))⟩] false [.forget [16, 17]]
abbrev zNx : HCode := .reg [⟨none, .val 2 (.mv (.c (iv 0)))⟩] false []
abbrev zWJ : HCode := (.seq zPf (.seq (.seq zPg (.cond (.t 10) (.seq zPh .ret) .skip)) (.seq (.seq zPi (.block 0 (.loop (.seq (.seq zPj (.cond (.t 15) .skip (.exit 0))) (.seq (.block 1 (.seq (.seq zPk (.cond (.t 37) (.seq zPl .ret) .skip)) (.seq zPm (.seq (.seq zPn (.block 2 (.loop (.seq (.seq zPo (.cond (.t 47) .skip (.exit 2))) (.seq (.block 3 zNs) zNt))))) (.seq zNu (.cond (.t 63) (.seq zNv .ret) .skip)))))) zNw))))) (.seq zNx .ret))))
abbrev zD7 : Env := { N := 64, Γ := [], L := 64, nfix := 0 }
abbrev zQ7 : List RSrc := [.tmp 2]
theorem zPp {base : Nat} {av : List AV} {r : RV} (hfo : zAx zD7 base av) (hW : AVs.fits av → hwp Tryz.prog zWJ (zBO zD7 base av zQ7 r) (F0 zD7 base av)) (hov : ∀ x, r.res = .ov x → zBx av = 0 := by intro x h; cases h <;> rfl) : Contract Tryz.prog zDy av r :=
 zAa (fn := Tryz.f53) (c := Tryz.f53.body.getD .skip) (by kernel_rfl) (by kernel_rfl) (by kernel_rfl) (by kernel_rfl) (by kernel_rfl) (by kernel_rfl) (by kernel_rfl) hfo hW hov
abbrev zUa : HCode := .reg [⟨none, .val 2 (.boxF (.t 0))⟩,
  ⟨none, .nlo 4 zE8 1⟩] false []
abbrev zUb : HCode := .reg [⟨none, .nlo 5 zE8 1⟩] false []
abbrev zUc : HCode := .reg [⟨none, .val 6 (.mv (.c (iv 0)))⟩] false []
abbrev zUd : HCode := .reg [⟨none, .val 7 (.mv (.t 6))⟩,
  ⟨none, .val 8 (.fldR (.t 2) 0 1)⟩,
  ⟨none, .val 9 (.ldR (.t 8) 1 false)⟩,
  ⟨none, .val 10 (.len false (.t 9))⟩,
  ⟨none, .val 11 (.ints .lss (.t 7) (.t 10))⟩] false [.forget [7, 8, 9, 10]]
abbrev zUe : HCode := .reg [⟨none, .val 14 (.fldR (.t 2) 0 1)⟩,
  ⟨none, .val 15 (.ldR (.t 14) 1 false)⟩,
  ⟨none, .val 16 (.mv (.t 6))⟩,
  ⟨none, .val 17 (.idxA 5 (.t 15) (.t 16))⟩,
  ⟨none, .val 18 (.fldR (.t 17) 0 1)⟩,
  ⟨none, .val 19 (.ldR (.t 18) 1 false)⟩,
  ⟨none, .val 20 (.mv (.t 1))⟩,
  ⟨none, .val 21 (.ints .eql (.t 19) (.t 20))⟩] false [.forget [14, 15, 16, 17, 18, 19, 20]]
abbrev zUf : HCode := .reg [⟨none, .mvo 22 5⟩,
  ⟨none, .val 23 (.mv (.t 6))⟩,
  ⟨none, .val 24 (.bslF 1 [.t 23])⟩,
  ⟨none, .app 25 zE8 1 (.t 22) (.t 24)⟩,
  ⟨none, .mvo 5 25⟩] false [.forget [22, 23, 24, 25]]
abbrev zUg : HCode := .reg [⟨none, .val 12 (.mv (.t 6))⟩,
  ⟨none, .val 13 (.ints .add (.t 12) (.c (iv 1)))⟩,
  ⟨none, .val 6 (.mv (.t 13))⟩] false [.forget [12, 13]]
abbrev zUh : HCode := .reg [⟨none, .mvo 26 5⟩,
  ⟨none, .mvo 4 26⟩] false [.forget [26]]
abbrev yBU : HCode := (.seq zUa (.seq zUb (.seq (.seq zUc (.block 0 (.loop (.seq (.seq zUd (.cond (.t 11) .skip (.exit 0))) (.seq (.block 1 (.seq zUe (.cond (.t 21) zUf .skip))) zUg))))) (.seq zUh .ret))))
abbrev zFD : Env := { N := 27, Γ := [], L := 27, nfix := 0 }
abbrev zWK : List RSrc := [.tmp 4]
theorem zUi {base : Nat} {av : List AV} {r : RV} (hfo : zAx zFD base av) (hW : AVs.fits av → hwp Tryz.prog yBU (zBO zFD base av zWK r) (F0 zFD base av)) (hov : ∀ x, r.res = .ov x → zBx av = 0 := by intro x h; cases h <;> rfl) : Contract Tryz.prog zEF av r :=
 zAa (fn := Tryz.f65) (c := Tryz.f65.body.getD .skip) (by kernel_rfl) (by kernel_rfl) (by kernel_rfl) (by kernel_rfl) (by kernel_rfl) (by kernel_rfl) (by kernel_rfl) hfo hW hov
abbrev zWL : HCode := .reg [⟨none, .val 3 (.boxF (.t 0))⟩,
  ⟨none, .val 6 (.mv (.c (bv false)))⟩] false []
abbrev zWM : HCode := .reg [⟨none, .val 8 (.fldR (.t 3) 0 1)⟩,
  ⟨none, .val 9 (.ldR (.t 8) 1 false)⟩,
  ⟨none, .val 10 (.mv (.t 2))⟩,
  ⟨none, .val 11 (.idxA 5 (.t 9) (.t 10))⟩,
  ⟨none, .val 12 (.fldR (.t 11) 0 1)⟩,
  ⟨none, .val 13 (.ldR (.t 12) 1 false)⟩,
  ⟨none, .val 7 (.mv (.t 13))⟩] false [.forget [8, 9, 10, 11, 12, 13]]
abbrev zWN : HCode := .reg [⟨none, .val 14 (.mv (.t 7))⟩,
  ⟨none, .val 15 (.ints .geq (.t 14) (.c (iv 0)))⟩] false [.forget [14]]
abbrev zWO : HCode := .reg [⟨none, .val 22 (.mv (.t 7))⟩,
  ⟨none, .val 23 (.mv (.t 1))⟩,
  ⟨none, .val 24 (.ints .eql (.t 22) (.t 23))⟩] false [.forget [22, 23]]
abbrev zWP : HCode := .reg [⟨none, .val 6 (.mv (.c (bv true)))⟩] false []
abbrev zWQ : HCode := .reg [⟨none, .val 16 (.fldR (.t 3) 0 1)⟩,
  ⟨none, .val 17 (.ldR (.t 16) 1 false)⟩,
  ⟨none, .val 18 (.mv (.t 7))⟩,
  ⟨none, .val 19 (.idxA 5 (.t 17) (.t 18))⟩,
  ⟨none, .val 20 (.fldR (.t 19) 0 1)⟩,
  ⟨none, .val 21 (.ldR (.t 20) 1 false)⟩,
  ⟨none, .val 7 (.mv (.t 21))⟩] false [.forget [16, 17, 18, 19, 20, 21]]
abbrev zWR : HCode := .reg [⟨none, .val 6 (.mv (.c (bv false)))⟩] false []
abbrev yDz : HCode := (.seq zWL (.seq (.seq zWM (.block 0 (.loop (.seq (.seq zWN (.cond (.t 15) .skip (.exit 0))) (.seq (.block 1 (.seq zWO (.cond (.t 24) (.seq zWP .ret) .skip))) zWQ))))) (.seq zWR .ret)))
abbrev zGT : Env := { N := 25, Γ := [], L := 25, nfix := 0 }
abbrev zZn : List RSrc := [.tmp 6]
theorem zWS {base : Nat} {av : List AV} {r : RV} (hfo : zAx zGT base av) (hW : AVs.fits av → hwp Tryz.prog yDz (zBO zGT base av zZn r) (F0 zGT base av)) (hov : ∀ x, r.res = .ov x → zBx av = 0 := by intro x h; cases h <;> rfl) : Contract Tryz.prog zFB av r :=
 zAa (fn := Tryz.f67) (c := Tryz.f67.body.getD .skip) (by kernel_rfl) (by kernel_rfl) (by kernel_rfl) (by kernel_rfl) (by kernel_rfl) (by kernel_rfl) (by kernel_rfl) hfo hW hov
abbrev zWT : HCode := .reg [⟨none, .val 2 (.boxF (.t 0))⟩,
  ⟨none, .val 4 (.mv (.c (iv 0)))⟩] false []
abbrev zWU : HCode := .reg [⟨none, .val 6 (.ldR (.t 2) 1 true)⟩,
  ⟨none, .call (some 7) zDy [(.t 6, .v)]⟩,
  ⟨none, .val 5 (.mv (.t 7))⟩] false [.forget [6, 7]]
abbrev zWV : HCode := .reg [⟨none, .val 8 (.mv (.t 5))⟩,
  ⟨none, .val 9 (.ints .neq (.t 8) (.c (iv 0)))⟩] false [.forget [8]]
abbrev zWW : HCode := .reg [⟨none, .val 10 (.mv (.t 5))⟩,
  ⟨none, .val 4 (.mv (.t 10))⟩] false [.forget [10]]
abbrev zWX : HCode := .reg [⟨none, .val 11 (.mv (.t 1))⟩,
  ⟨none, .val 12 (.fldR (.t 2) 0 1)⟩,
  ⟨none, .val 13 (.ldR (.t 12) 1 false)⟩,
  ⟨none, .val 14 (.len false (.t 13))⟩,
  ⟨none, .val 15 (.ints .sub (.t 14) (.c (iv 1)))⟩,
  ⟨none, .call (some 16) zAJ [(.t 11, .v), (.c (iv 0), .v), (.t 15, .v)]⟩,
  ⟨none, .val 17 (.not (.t 16))⟩] false [.forget [11, 12, 13, 14, 15, 16]]
abbrev zWY : HCode := .reg [⟨none, .val 4 (.mv (.c (iv 5)))⟩] false []
abbrev zWZ : HCode := .reg [⟨none, .val 4 (.mv (.c (iv 0)))⟩] false []
abbrev yDA : HCode := (.seq zWT (.seq (.seq zWU (.seq zWV (.cond (.t 9) (.seq zWW .ret) .skip))) (.seq (.seq zWX (.cond (.t 17) (.seq zWY .ret) .skip)) (.seq zWZ .ret))))
abbrev zGU : Env := { N := 18, Γ := [], L := 18, nfix := 0 }
abbrev zZo : List RSrc := [.tmp 4]
theorem zW0 {base : Nat} {av : List AV} {r : RV} (hfo : zAx zGU base av) (hW : AVs.fits av → hwp Tryz.prog yDA (zBO zGU base av zZo r) (F0 zGU base av)) (hov : ∀ x, r.res = .ov x → zBx av = 0 := by intro x h; cases h <;> rfl) : Contract Tryz.prog zHC av r :=
 zAa (fn := Tryz.f55) (c := Tryz.f55.body.getD .skip) (by kernel_rfl) (by kernel_rfl) (by kernel_rfl) (by kernel_rfl) (by kernel_rfl) (by kernel_rfl) (by kernel_rfl) hfo hW hov
abbrev zPq : HCode := .reg [⟨none, .val 4 (.mv (.c (bv false)))⟩] false []
abbrev zPr : HCode := .reg [⟨none, .val 6 (.mv (.t 0))⟩,
  ⟨none, .val 7 (.len false (.t 6))⟩,
  ⟨none, .val 8 (.mv (.t 1))⟩,
  ⟨none, .val 9 (.len false (.t 8))⟩,
  ⟨none, .val 10 (.ints .neq (.t 7) (.t 9))⟩] false [.forget [6, 7, 8, 9]]
abbrev zPs : HCode := .reg [⟨none, .val 4 (.mv (.c (bv false)))⟩] false []
abbrev zPt : HCode := .reg [⟨none, .val 5 (.mv (.c (iv 0)))⟩] false []
abbrev zPu : HCode := .reg [⟨none, .val 11 (.mv (.t 5))⟩,
  ⟨none, .val 12 (.mv (.t 0))⟩,
  ⟨none, .val 13 (.len false (.t 12))⟩,
  ⟨none, .val 14 (.ints .lss (.t 11) (.t 13))⟩] false [.forget [11, 12, 13]]
abbrev zPv : HCode := .drg [⟨0, false, ⟨none, .val 17 (.mv (.t 0))⟩⟩,
  ⟨1, false, ⟨none, .val 18 (.mv (.t 5))⟩⟩,
  ⟨2, false, ⟨none, .val 19 (.idxA 1 (.t 17) (.t 18))⟩⟩,
  ⟨3, false, ⟨none, .val 20 (.ldR (.t 19) 1 false)⟩⟩,
  ⟨4, false, ⟨none, .val 21 (.mv (.t 1))⟩⟩,
  ⟨5, false, ⟨none, .val 22 (.mv (.t 5))⟩⟩,
  ⟨6, false, ⟨none, .val 23 (.idxA 1 (.t 21) (.t 22))⟩⟩,
  ⟨7, false, ⟨none, .val 24 (.ldR (.t 23) 1 false)⟩⟩,
  ⟨8, false, ⟨none, .val 25 (.ints .neq (.t 20) (.t 24))⟩⟩] [.forget [17, 18, 19, 20, 21, 22, 23, 24]]
abbrev zPw : HCode := .reg [⟨none, .val 4 (.mv (.c (bv false)))⟩] false []
abbrev zPx : HCode := .reg [⟨none, .val 15 (.mv (.t 5))⟩,
  ⟨none, .val 16 (.ints .add (.t 15) (.c (iv 1)))⟩,
  ⟨none, .val 5 (.mv (.t 16))⟩] false [.forget [15, 16]]
abbrev zPy : HCode := .reg [⟨none, .val 4 (.mv (.c (bv true)))⟩] false []
abbrev zW1 : HCode := (.seq zPq (.seq (.seq zPr (.cond (.t 10) (.seq zPs .ret) .skip)) (.seq (.seq zPt (.block 0 (.loop (.seq (.seq zPu (.cond (.t 14) .skip (.exit 0))) (.seq (.block 1 (.seq zPv (.cond (.t 25) (.seq zPw .ret) .skip))) zPx))))) (.seq zPy .ret))))
abbrev zD8 : Env := { N := 26, Γ := [], L := 26, nfix := 0 }
abbrev zQ8 : List RSrc := [.tmp 4]
theorem zPz {base : Nat} {av : List AV} {r : RV} (hfo : zAx zD8 base av) (hW : AVs.fits av → hwp Tryz.prog zW1 (zBO zD8 base av zQ8 r) (F0 zD8 base av)) (hov : ∀ x, r.res = .ov x → zBx av = 0 := by intro x h; cases h <;> rfl) : Contract Tryz.prog zE7 av r :=
 zAa (fn := Tryz.f13) (c := Tryz.f13.body.getD .skip) (by kernel_rfl) (by kernel_rfl) (by kernel_rfl) (by kernel_rfl) (by kernel_rfl) (by kernel_rfl) (by kernel_rfl) hfo hW hov
end Go.Hx
end

section
/-
 The abstract code of functions of the program, printed by gen.py; each stands for the given one. No condition.
-/
namespace Go.Hx
open Go.Proofs
variable [Glob]
abbrev zHD : Nat := 14
abbrev zJt : Nat := 42
abbrev zEH : Nat := 94
abbrev zEI : Nat := 96
abbrev zDz : Nat := 98
abbrev zCE : Nat := 92
abbrev zFE : Nat := 99
abbrev zCF : Nat := 95
abbrev zDc : Nat := 93
abbrev zDh : Nat := 56
abbrev zBJ : Nat := 97
abbrev zA3 : Nat := 148
abbrev zGc : HCode := .reg [⟨none, .val 4 (.mv (.c (iv 0)))⟩] false []
abbrev zGd : HCode := .reg [⟨none, .val 6 (.mv (.t 0))⟩,
  ⟨none, .val 7 (.len false (.t 6))⟩,
  ⟨none, .val 8 (.mv (.c (iv 0)))⟩] false [.forget [6]]
abbrev zGe : HCode := .reg [⟨none, .val 9 (.ints .lss (.t 8) (.t 7))⟩] false []
abbrev zGf : HCode := .reg [⟨none, .val 10 (.mv (.t 8))⟩,
  ⟨none, .val 5 (.mv (.t 10))⟩] false [.forget [10]]
abbrev zGg : HCode := .reg [⟨none, .val 11 (.mv (.t 1))⟩,
  ⟨none, .val 12 (.mv (.t 0))⟩,
  ⟨none, .val 13 (.mv (.t 5))⟩,
  ⟨none, .val 14 (.idxA 2 (.t 12) (.t 13))⟩,
  ⟨none, .val 15 (.ldR (.t 14) 2 true)⟩,
  ⟨none, .callv (some 16) (.t 11) [(.t 15, .v)]⟩] false [.forget [11, 12, 13, 14, 15]]
abbrev zGh : HCode := .reg [⟨none, .val 17 (.mv (.t 5))⟩,
  ⟨none, .val 4 (.mv (.t 17))⟩] false [.forget [17]]
abbrev zGi : HCode := .reg [⟨none, .val 18 (.ints .add (.t 8) (.c (iv 1)))⟩,
  ⟨none, .val 8 (.mv (.t 18))⟩] false [.forget [18]]
abbrev zGj : HCode := .reg [⟨none, .val 4 (.mv (.c (iv (-1))))⟩] false []
abbrev zHE : HCode := (.seq zGc (.seq (.seq zGd (.block 0 (.loop (.seq zGe (.seq (.cond (.t 9) .skip (.exit 0)) (.seq (.block 1 (.seq zGf (.seq zGg (.cond (.t 16) (.seq zGh .ret) .skip)))) zGi)))))) (.seq zGj .ret)))
abbrev zA8 : Env := { N := 19, Γ := [], L := 19, nfix := 0 }
abbrev zGV : List RSrc := [.tmp 4]
theorem zDi {base : Nat} {av : List AV} {r : RV} (hfo : zAx zA8 base av) (hW : AVs.fits av → hwp Tryz.prog zHE (zBO zA8 base av zGV r) (F0 zA8 base av)) (hov : ∀ x, r.res = .ov x → zBx av = 0 := by intro x h; cases h <;> rfl) : Contract Tryz.prog zA3 av r :=
 zAa (fn := Tryz.f148) (c := Tryz.f148.body.getD .skip) (by kernel_rfl) (by kernel_rfl) (by kernel_rfl) (by kernel_rfl) (by kernel_rfl) (by kernel_rfl) (by kernel_rfl) hfo hW hov
abbrev zE9 : HCode := .reg [⟨none, .val 4 (.mv (.c (bv false)))⟩] false []
abbrev zFa : HCode := .reg [⟨none, .val 5 (.mv (.t 0))⟩,
  ⟨none, .val 6 (.mv (.t 1))⟩,
  ⟨none, .call (some 7) zA3 [(.t 5, .v), (.t 6, .v)]⟩,
  ⟨none, .val 8 (.ints .geq (.t 7) (.c (iv 0)))⟩,
  ⟨none, .val 4 (.mv (.t 8))⟩] false [.forget [5, 6, 7, 8]]
abbrev zGk : HCode := (.seq zE9 (.seq zFa .ret))
abbrev zBf : Env := { N := 9, Γ := [], L := 9, nfix := 0 }
abbrev zFp : List RSrc := [.tmp 4]
theorem zFb {base : Nat} {av : List AV} {r : RV} (hfo : zAx zBf base av) (hW : AVs.fits av → hwp Tryz.prog zGk (zBO zBf base av zFp r) (F0 zBf base av)) (hov : ∀ x, r.res = .ov x → zBx av = 0 := by intro x h; cases h <;> rfl) : Contract Tryz.prog zBJ av r :=
 zAa (fn := Tryz.f97) (c := Tryz.f97.body.getD .skip) (by kernel_rfl) (by kernel_rfl) (by kernel_rfl) (by kernel_rfl) (by kernel_rfl) (by kernel_rfl) (by kernel_rfl) hfo hW hov
abbrev zJu : HCode := .reg [⟨none, .val 4 (.mv (.c (bv false)))⟩] false []
abbrev zJv : HCode := .reg [⟨none, .val 5 (.mv (.c (sv [])))⟩] false []
abbrev zJw : HCode := .reg [⟨none, .val 8 (.mv (.t 0))⟩,
  ⟨none, .val 9 (.len false (.t 8))⟩,
  ⟨none, .val 10 (.mv (.c (iv 0)))⟩] false []
abbrev zJx : HCode := .reg [⟨none, .val 11 (.ints .lss (.t 10) (.t 9))⟩] false []
abbrev zJy : HCode := .reg [⟨none, .val 12 (.idxA 1 (.t 8) (.t 10))⟩,
  ⟨none, .val 13 (.ldR (.t 12) 1 false)⟩,
  ⟨none, .val 7 (.mv (.t 13))⟩] false [.forget [12, 13]]
abbrev zJz : HCode := .reg [⟨none, .val 14 (.mv (.t 1))⟩,
  ⟨none, .val 15 (.mv (.t 7))⟩,
  ⟨none, .callv (some 16) (.t 14) [(.t 15, .v)]⟩,
  ⟨none, .call (some 17) zCE [(.t 16, .v)]⟩,
  ⟨none, .val 18 (.not (.t 17))⟩,
  ⟨none, .val 19 (.mv (.t 18))⟩,
  ⟨some (19, false), .val 20 (.mv (.t 1))⟩,
  ⟨some (19, false), .val 21 (.mv (.t 7))⟩,
  ⟨some (19, false), .callv (some 22) (.t 20) [(.t 21, .v)]⟩,
  ⟨some (19, false), .val 23 (.mv (.t 5))⟩,
  ⟨some (19, false), .val 24 (.strs .leq (.t 22) (.t 23))⟩,
  ⟨none, .val 25 (.pick (.t 19) (.c (bv true)) (.t 24))⟩] false [.forget [14, 15, 16, 17, 18, 19, 20, 21, 22, 23, 24]]
abbrev zJA : HCode := .reg [⟨none, .val 4 (.mv (.c (bv false)))⟩] false []
abbrev zJB : HCode := .reg [⟨none, .val 26 (.mv (.t 1))⟩,
  ⟨none, .val 27 (.mv (.t 7))⟩,
  ⟨none, .callv (some 28) (.t 26) [(.t 27, .v)]⟩,
  ⟨none, .val 5 (.mv (.t 28))⟩] false [.forget [26, 27, 28]]
abbrev zJC : HCode := .reg [⟨none, .val 29 (.ints .add (.t 10) (.c (iv 1)))⟩,
  ⟨none, .val 10 (.mv (.t 29))⟩] false [.forget [29]]
abbrev zJD : HCode := .reg [⟨none, .val 4 (.mv (.c (bv true)))⟩] false []
abbrev zNy : HCode := (.seq zJu (.seq zJv (.seq (.seq zJw (.block 0 (.loop (.seq zJx (.seq (.cond (.t 11) .skip (.exit 0)) (.seq (.block 1 (.seq zJy (.seq (.seq zJz (.cond (.t 25) (.seq zJA .ret) .skip)) zJB))) zJC)))))) (.seq zJD .ret))))
abbrev zCw : Env := { N := 30, Γ := [], L := 30, nfix := 0 }
abbrev zKE : List RSrc := [.tmp 4]
theorem zJE {base : Nat} {av : List AV} {r : RV} (hfo : zAx zCw base av) (hW : AVs.fits av → hwp Tryz.prog zNy (zBO zCw base av zKE r) (F0 zCw base av)) (hov : ∀ x, r.res = .ov x → zBx av = 0 := by intro x h; cases h <;> rfl) : Contract Tryz.prog zDc av r :=
 zAa (fn := Tryz.f93) (c := Tryz.f93.body.getD .skip) (by kernel_rfl) (by kernel_rfl) (by kernel_rfl) (by kernel_rfl) (by kernel_rfl) (by kernel_rfl) (by kernel_rfl) hfo hW hov
abbrev zHF : HCode := .reg [⟨none, .val 4 (.mv (.c (bv false)))⟩] false []
abbrev zHG : HCode := .reg [⟨none, .val 5 (.mv (.c (sv [])))⟩] false []
abbrev zHH : HCode := .reg [⟨none, .val 8 (.mv (.t 0))⟩,
  ⟨none, .val 9 (.len false (.t 8))⟩,
  ⟨none, .val 10 (.mv (.c (iv 0)))⟩] false []
abbrev zHI : HCode := .reg [⟨none, .val 11 (.ints .lss (.t 10) (.t 9))⟩] false []
abbrev zHJ : HCode := .reg [⟨none, .val 12 (.idxA 2 (.t 8) (.t 10))⟩,
  ⟨none, .val 13 (.ldR (.t 12) 2 true)⟩,
  ⟨none, .alloc 7 0 30 [.v (mkS []), .v (mkS [])]⟩,
  ⟨none, .sto (.t 7) 0 30 0 2 (.t 13)⟩] false [.forget [12, 13]]
abbrev zHK : HCode := .reg [⟨none, .val 14 (.mv (.t 1))⟩,
  ⟨none, .val 15 (.ldB (.t 7) 0 30 0 2 true)⟩,
  ⟨none, .callv (some 16) (.t 14) [(.t 15, .v)]⟩,
  ⟨none, .call (some 17) zCE [(.t 16, .v)]⟩,
  ⟨none, .val 18 (.not (.t 17))⟩,
  ⟨none, .val 19 (.mv (.t 18))⟩,
  ⟨some (19, false), .val 20 (.mv (.t 1))⟩,
  ⟨some (19, false), .val 21 (.ldB (.t 7) 0 30 0 2 true)⟩,
  ⟨some (19, false), .callv (some 22) (.t 20) [(.t 21, .v)]⟩,
  ⟨some (19, false), .val 23 (.mv (.t 5))⟩,
  ⟨some (19, false), .val 24 (.strs .leq (.t 22) (.t 23))⟩,
  ⟨none, .val 25 (.pick (.t 19) (.c (bv true)) (.t 24))⟩] false [.forget [14, 15, 16, 17, 18, 19, 20, 21, 22, 23, 24]]
abbrev zHL : HCode := .reg [⟨none, .val 4 (.mv (.c (bv false)))⟩] false []
abbrev zHM : HCode := .reg [⟨none, .val 26 (.mv (.t 1))⟩,
  ⟨none, .val 27 (.ldB (.t 7) 0 30 0 2 true)⟩,
  ⟨none, .callv (some 28) (.t 26) [(.t 27, .v)]⟩,
  ⟨none, .val 5 (.mv (.t 28))⟩] false [.forget [26, 27, 28]]
abbrev zHN : HCode := .reg [⟨none, .val 29 (.ints .add (.t 10) (.c (iv 1)))⟩,
  ⟨none, .val 10 (.mv (.t 29))⟩] false [.forget [29]]
abbrev zHO : HCode := .reg [⟨none, .val 4 (.mv (.c (bv true)))⟩] false []
abbrev zKF : HCode := (.seq zHF (.seq zHG (.seq (.seq zHH (.block 0 (.loop (.seq zHI (.seq (.cond (.t 11) .skip (.exit 0)) (.seq (.block 1 (.seq zHJ (.seq (.seq zHK (.cond (.t 25) (.seq zHL .ret) .skip)) zHM))) zHN)))))) (.seq zHO .ret))))
abbrev zB3 : Env := { N := 30, Γ := [(30, 2)], L := 32, nfix := 0 }
abbrev zIK : List RSrc := [.tmp 4]
theorem zHP {base : Nat} {av : List AV} {r : RV} (hfo : zAx zB3 base av) (hW : AVs.fits av → hwp Tryz.prog zKF (zBO zB3 base av zIK r) (F0 zB3 base av)) (hov : ∀ x, r.res = .ov x → zBx av = 0 := by intro x h; cases h <;> rfl) : Contract Tryz.prog zCF av r :=
 zAa (fn := Tryz.f95) (c := Tryz.f95.body.getD .skip) (by kernel_rfl) (by kernel_rfl) (by kernel_rfl) (by kernel_rfl) (by kernel_rfl) (by kernel_rfl) (by kernel_rfl) hfo hW hov
abbrev zZp : HCode := .reg [⟨none, .val 1 (.boxF (.t 0))⟩,
  ⟨none, .val 2 (.mv (.c (bv false)))⟩] false []
abbrev zZq : HCode := .reg [⟨none, .val 3 (.fldR (.t 1) 1 1)⟩,
  ⟨none, .val 4 (.ldR (.t 3) 1 false)⟩,
  ⟨none, .call (some 5) zCE [(.t 4, .v)]⟩,
  ⟨none, .val 6 (.mv (.t 5))⟩,
  ⟨some (6, true), .val 7 (.fldR (.t 1) 2 1)⟩,
  ⟨some (6, true), .val 8 (.ldR (.t 7) 1 false)⟩,
  ⟨some (6, true), .val 9 (.strs .eql (.t 8) (.c (sv [])))⟩,
  ⟨some (6, true), .val 10 (.mv (.t 9))⟩,
  ⟨some (10, false), .val 11 (.fldR (.t 1) 2 1)⟩,
  ⟨some (10, false), .val 12 (.ldR (.t 11) 1 false)⟩,
  ⟨some (10, false), .call (some 13) zCE [(.t 12, .v)]⟩,
  ⟨some (6, true), .val 14 (.pick (.t 10) (.c (bv true)) (.t 13))⟩,
  ⟨none, .val 15 (.pick (.t 6) (.t 14) (.c (bv false)))⟩,
  ⟨none, .val 16 (.mv (.t 15))⟩,
  ⟨some (16, true), .val 17 (.fldR (.t 1) 3 1)⟩,
  ⟨some (16, true), .val 18 (.ldR (.t 17) 1 false)⟩,
  ⟨some (16, true), .val 19 (.len false (.t 18))⟩,
  ⟨some (16, true), .val 20 (.ints .leq (.t 19) (.c (iv 6)))⟩,
  ⟨none, .val 21 (.pick (.t 16) (.t 20) (.c (bv false)))⟩,
  ⟨none, .val 22 (.mv (.t 21))⟩,
  ⟨some (22, true), .val 23 (.fldR (.t 1) 4 1)⟩,
  ⟨some (22, true), .val 24 (.ldR (.t 23) 1 false)⟩,
  ⟨some (22, true), .val 25 (.len false (.t 24))⟩,
  ⟨some (22, true), .val 26 (.ints .leq (.t 25) (.c (iv 4)))⟩,
  ⟨none, .val 27 (.pick (.t 22) (.t 26) (.c (bv false)))⟩,
  ⟨none, .val 28 (.mv (.t 27))⟩,
  ⟨some (28, true), .val 29 (.fldR (.t 1) 3 1)⟩,
  ⟨some (28, true), .val 30 (.ldR (.t 29) 1 false)⟩,
  ⟨some (28, true), .call (some 31) zDc [(.t 30, .v), (.f zEH, .v)]⟩,
  ⟨none, .val 32 (.pick (.t 28) (.t 31) (.c (bv false)))⟩,
  ⟨none, .val 33 (.mv (.t 32))⟩,
  ⟨some (33, true), .val 34 (.fldR (.t 1) 4 1)⟩,
  ⟨some (33, true), .val 35 (.ldR (.t 34) 1 false)⟩,
  ⟨some (33, true), .call (some 36) zCF [(.t 35, .v), (.f zEI, .v)]⟩,
  ⟨none, .val 37 (.pick (.t 33) (.t 36) (.c (bv false)))⟩,
  ⟨none, .val 38 (.mv (.t 37))⟩,
  ⟨some (38, true), .val 39 (.fldR (.t 1) 4 1)⟩,
  ⟨some (38, true), .val 40 (.ldR (.t 39) 1 false)⟩,
  ⟨some (38, true), .call (some 41) zBJ [(.t 40, .v), (.f zDz, .v)]⟩,
  ⟨some (38, true), .val 42 (.not (.t 41))⟩,
  ⟨none, .val 43 (.pick (.t 38) (.t 42) (.c (bv false)))⟩,
  ⟨none, .val 2 (.mv (.t 43))⟩] false [.forget [3, 4, 5, 6, 7, 8, 9, 10, 11, 12, 13, 14, 15, 16, 17, 18, 19, 20, 21, 22, 23, 24, 25, 26, 27, 28, 29, 30, 31, 32, 33, 34, 35, 36, 37, 38, 39, 40, 41, 42, 43]]
abbrev yE7 : HCode := (.seq zZp (.seq zZq .ret))
abbrev zIC : Env := { N := 44, Γ := [], L := 44, nfix := 0 }
abbrev yBV : List RSrc := [.tmp 2]
theorem zZr {base : Nat} {av : List AV} {r : RV} (hfo : zAx zIC base av) (hW : AVs.fits av → hwp Tryz.prog yE7 (zBO zIC base av yBV r) (F0 zIC base av)) (hov : ∀ x, r.res = .ov x → zBx av = 0 := by intro x h; cases h <;> rfl) : Contract Tryz.prog zJt av r :=
 zAa (fn := Tryz.f42) (c := Tryz.f42.body.getD .skip) (by kernel_rfl) (by kernel_rfl) (by kernel_rfl) (by kernel_rfl) (by kernel_rfl) (by kernel_rfl) (by kernel_rfl) hfo hW hov
abbrev zUj : HCode := .reg [⟨none, .val 2 (.mv (.c (sv [])))⟩] false []
abbrev zUk : HCode := .reg [⟨none, .val 3 (.mv (.t 0))⟩,
  ⟨none, .val 2 (.mv (.t 3))⟩] false [.forget [3]]
abbrev yBW : HCode := (.seq zUj (.seq zUk .ret))
abbrev zFF : Env := { N := 4, Γ := [], L := 4, nfix := 0 }
abbrev zW2 : List RSrc := [.tmp 2]
theorem zUl {base : Nat} {av : List AV} {r : RV} (hfo : zAx zFF base av) (hW : AVs.fits av → hwp Tryz.prog yBW (zBO zFF base av zW2 r) (F0 zFF base av)) (hov : ∀ x, r.res = .ov x → zBx av = 0 := by intro x h; cases h <;> rfl) : Contract Tryz.prog zEH av r :=
 zAa (fn := Tryz.f94) (c := Tryz.f94.body.getD .skip) (by kernel_rfl) (by kernel_rfl) (by kernel_rfl) (by kernel_rfl) (by kernel_rfl) (by kernel_rfl) (by kernel_rfl) hfo hW hov
abbrev zUm : HCode := .reg [⟨none, .val 1 (.boxF (.t 0))⟩,
  ⟨none, .val 2 (.mv (.c (sv [])))⟩] false []
abbrev zUn : HCode := .reg [⟨none, .val 3 (.fldR (.t 1) 0 1)⟩,
  ⟨none, .val 4 (.ldR (.t 3) 1 false)⟩,
  ⟨none, .val 2 (.mv (.t 4))⟩] false [.forget [3, 4]]
abbrev yBX : HCode := (.seq zUm (.seq zUn .ret))
abbrev zFG : Env := { N := 5, Γ := [], L := 5, nfix := 0 }
abbrev zW3 : List RSrc := [.tmp 2]
theorem zUo {base : Nat} {av : List AV} {r : RV} (hfo : zAx zFG base av) (hW : AVs.fits av → hwp Tryz.prog yBX (zBO zFG base av zW3 r) (F0 zFG base av)) (hov : ∀ x, r.res = .ov x → zBx av = 0 := by intro x h; cases h <;> rfl) : Contract Tryz.prog zEI av r :=
 zAa (fn := Tryz.f96) (c := Tryz.f96.body.getD .skip) (by kernel_rfl) (by kernel_rfl) (by kernel_rfl) (by kernel_rfl) (by kernel_rfl) (by kernel_rfl) (by kernel_rfl) hfo hW hov
abbrev zUp : HCode := .reg [⟨none, .val 1 (.boxF (.t 0))⟩,
  ⟨none, .val 2 (.mv (.c (bv false)))⟩] false []
abbrev zUq : HCode := .reg [⟨none, .val 3 (.fldR (.t 1) 1 1)⟩,
  ⟨none, .val 4 (.ldR (.t 3) 1 false)⟩,
  ⟨none, .call (some 5) zFE [(.t 4, .v)]⟩,
  ⟨none, .val 6 (.not (.t 5))⟩,
  ⟨none, .val 2 (.mv (.t 6))⟩] false [.forget [3, 4, 5, 6]]
abbrev yBY : HCode := (.seq zUp (.seq zUq .ret))
abbrev zFH : Env := { N := 7, Γ := [], L := 7, nfix := 0 }
abbrev zW4 : List RSrc := [.tmp 2]
theorem zUr {base : Nat} {av : List AV} {r : RV} (hfo : zAx zFH base av) (hW : AVs.fits av → hwp Tryz.prog yBY (zBO zFH base av zW4 r) (F0 zFH base av)) (hov : ∀ x, r.res = .ov x → zBx av = 0 := by intro x h; cases h <;> rfl) : Contract Tryz.prog zDz av r :=
 zAa (fn := Tryz.f98) (c := Tryz.f98.body.getD .skip) (by kernel_rfl) (by kernel_rfl) (by kernel_rfl) (by kernel_rfl) (by kernel_rfl) (by kernel_rfl) (by kernel_rfl) hfo hW hov
abbrev zW5 : HCode := .reg [⟨none, .val 1 (.boxF (.t 0))⟩,
  ⟨none, .val 2 (.mv (.c (iv 0)))⟩] false []
abbrev zW6 : HCode := .reg [⟨none, .val 6 (.fldR (.t 1) 0 1)⟩,
  ⟨none, .val 7 (.ldR (.t 6) 1 false)⟩,
  ⟨none, .val 8 (.len false (.t 7))⟩,
  ⟨none, .val 9 (.ints .lss (.t 8) (.c (iv 1)))⟩,
  ⟨none, .val 10 (.mv (.t 9))⟩,
  ⟨some (10, false), .val 11 (.fldR (.t 1) 0 1)⟩,
  ⟨some (10, false), .val 12 (.ldR (.t 11) 1 false)⟩,
  ⟨some (10, false), .val 13 (.len false (.t 12))⟩,
  ⟨some (10, false), .val 14 (.ints .gtr (.t 13) (.c (iv 64)))⟩,
  ⟨none, .val 15 (.pick (.t 10) (.c (bv true)) (.t 14))⟩] false [.forget [6, 7, 8, 9, 10, 11, 12, 13, 14]]
abbrev zW7 : HCode := .reg [⟨none, .val 2 (.mv (.c (iv 2)))⟩] false []
abbrev zW8 : HCode := .reg [⟨none, .nlk 3 zE8 1⟩] false []
abbrev zW9 : HCode := .reg [⟨none, .val 16 (.fldR (.t 1) 0 1)⟩,
  ⟨none, .val 17 (.ldR (.t 16) 1 false)⟩,
  ⟨none, .val 18 (.len false (.t 17))⟩,
  ⟨none, .val 19 (.mv (.c (iv 0)))⟩] false [.forget [16]]
abbrev zXa : HCode := .reg [⟨none, .val 20 (.ints .lss (.t 19) (.t 18))⟩] false []
abbrev zXb : HCode := .reg [⟨none, .val 21 (.mv (.t 19))⟩,
  ⟨none, .val 22 (.idxA 5 (.t 17) (.t 19))⟩,
  ⟨none, .val 23 (.ldR (.t 22) 5 true)⟩,
  ⟨none, .alloc 5 0 69 [.v (.int .i64 0), .v (mkS []), .v (mkS []), .nl 1, .nl 2]⟩,
  ⟨none, .val 4 (.mv (.t 21))⟩,
  ⟨none, .sto (.t 5) 0 69 0 5 (.t 23)⟩] false [.frz 0 69 5, .forget [21, 22, 23]]
abbrev zXc : HCode := .rdr 3 [⟨none, .val 24 (.mv (.t 3))⟩,
  ⟨none, .val 25 (.len false (.t 24))⟩,
  ⟨none, .val 26 (.ints .gtr (.t 25) (.c (iv 0)))⟩,
  ⟨none, .val 27 (.mv (.t 26))⟩,
  ⟨some (27, true), .val 28 (.mv (.t 3))⟩,
  ⟨some (27, true), .val 29 (.mv (.t 3))⟩,
  ⟨some (27, true), .val 30 (.len false (.t 29))⟩,
  ⟨some (27, true), .val 31 (.ints .sub (.t 30) (.c (iv 1)))⟩,
  ⟨some (27, true), .val 32 (.idxA 1 (.t 28) (.t 31))⟩,
  ⟨some (27, true), .val 33 (.ldR (.t 32) 1 false)⟩,
  ⟨some (27, true), .val 34 (.fldR (.t 5) 0 1)⟩,
  ⟨some (27, true), .val 35 (.ldR (.t 34) 1 false)⟩,
  ⟨some (27, true), .val 36 (.ints .neq (.t 33) (.t 35))⟩,
  ⟨none, .val 37 (.pick (.t 27) (.t 36) (.c (bv false)))⟩] true [.forget [24, 25, 26, 27, 28, 29, 30, 31, 32, 33, 34, 35, 36]]
abbrev zXd : HCode := .reg [⟨none, .mvk 38 3⟩,
  ⟨none, .val 39 (.mv (.t 3))⟩,
  ⟨none, .val 40 (.len false (.t 39))⟩,
  ⟨none, .val 41 (.ints .sub (.t 40) (.c (iv 1)))⟩,
  ⟨none, .trk 42 38 (.t 41)⟩,
  ⟨none, .mvk 3 42⟩] false [.forget [38, 39, 40, 41, 42]]
abbrev zXe : HCode := .rdr 3 [⟨none, .val 43 (.ldR (.t 5) 5 true)⟩,
  ⟨none, .call (some 44) zJt [(.t 43, .v)]⟩,
  ⟨none, .val 45 (.not (.t 44))⟩,
  ⟨none, .val 46 (.mv (.t 45))⟩,
  ⟨some (46, false), .val 47 (.mv (.t 4))⟩,
  ⟨some (46, false), .val 48 (.ints .eql (.t 47) (.c (iv 0)))⟩,
  ⟨some (46, false), .val 49 (.mv (.t 48))⟩,
  ⟨some (49, true), .val 50 (.fldR (.t 5) 0 1)⟩,
  ⟨some (49, true), .val 51 (.ldR (.t 50) 1 false)⟩,
  ⟨some (49, true), .val 52 (.ints .neq (.t 51) (.c (iv (-1))))⟩,
  ⟨some (46, false), .val 53 (.pick (.t 49) (.t 52) (.c (bv false)))⟩,
  ⟨none, .val 54 (.pick (.t 46) (.c (bv true)) (.t 53))⟩,
  ⟨none, .val 55 (.mv (.t 54))⟩,
  ⟨some (55, false), .val 56 (.mv (.t 4))⟩,
  ⟨some (55, false), .val 57 (.ints .gtr (.t 56) (.c (iv 0)))⟩,
  ⟨some (55, false), .val 58 (.mv (.t 57))⟩,
  ⟨some (58, true), .val 59 (.mv (.t 3))⟩,
  ⟨some (58, true), .val 60 (.len false (.t 59))⟩,
  ⟨some (58, true), .val 61 (.ints .eql (.t 60) (.c (iv 0)))⟩,
  ⟨some (55, false), .val 62 (.pick (.t 58) (.t 61) (.c (bv false)))⟩,
  ⟨none, .val 63 (.pick (.t 55) (.c (bv true)) (.t 62))⟩] false [.forget [43, 44, 45, 46, 47, 48, 49, 50, 51, 52, 53, 54, 55, 56, 57, 58, 59, 60, 61, 62]]
abbrev zUs : HCode := .reg [⟨none, .val 2 (.mv (.c (iv 1)))⟩] false []
abbrev zUt : HCode := .reg [⟨none, .mvk 64 3⟩,
  ⟨none, .val 65 (.mv (.t 4))⟩,
  ⟨none, .val 66 (.bslF 1 [.t 65])⟩,
  ⟨none, .apk 67 zE8 1 64 (.t 66)⟩,
  ⟨none, .mvk 3 67⟩] false [.forget [64, 65, 66, 67]]
abbrev zUu : HCode := .reg [⟨none, .val 68 (.ints .add (.t 19) (.c (iv 1)))⟩,
  ⟨none, .val 19 (.mv (.t 68))⟩] false [.forget [68]]
abbrev zUv : HCode := .reg [⟨none, .val 2 (.mv (.c (iv 0)))⟩] false []
abbrev yDB : HCode := (.seq zW5 (.seq (.seq zW6 (.cond (.t 15) (.seq zW7 .ret) .skip)) (.seq zW8 (.seq (.seq zW9 (.block 0 (.loop (.seq zXa (.seq (.cond (.t 20) .skip (.exit 0)) (.seq (.block 1 (.seq zXb (.seq (.block 2 (.loop (.seq (.seq zXc (.cond (.t 37) .skip (.exit 2))) (.block 3 zXd)))) (.seq (.seq zXe (.cond (.t 63) (.seq zUs .ret) .skip)) zUt)))) zUu)))))) (.seq zUv .ret)))))
abbrev zGW : Env := { N := 69, Γ := [(69, 5)], L := 74, nfix := 0 }
abbrev zZs : List RSrc := [.tmp 2]
theorem zXf {base : Nat} {av : List AV} {r : RV} (hfo : zAx zGW base av) (hW : AVs.fits av → hwp Tryz.prog yDB (zBO zGW base av zZs r) (F0 zGW base av)) (hov : ∀ x, r.res = .ov x → zBx av = 0 := by intro x h; cases h <;> rfl) : Contract Tryz.prog zHD av r :=
 zAa (fn := Tryz.f14) (c := Tryz.f14.body.getD .skip) (by kernel_rfl) (by kernel_rfl) (by kernel_rfl) (by kernel_rfl) (by kernel_rfl) (by kernel_rfl) (by kernel_rfl) hfo hW hov
abbrev zXg : HCode := .reg [⟨none, .alloc 0 0 13 [.nl 5]⟩] false []
abbrev zXh : HCode := .reg [⟨none, .val 1 (.bld [.v (.int .i64 0), .v (mkS []), .v (mkS []), .nl 1, .nl 2] [(0, 1, .c (iv (-1))), (1, 1, .c (sv [108, 105, 115, 116])), (2, 1, .c (sv [116, 111, 112]))])⟩,
  ⟨none, .val 2 (.bslF 1 [.c (sv [97])])⟩,
  ⟨none, .val 3 (.bld [.v (.int .i64 0), .v (mkS []), .v (mkS []), .nl 1, .nl 2] [(0, 1, .c (iv 0)), (1, 1, .c (sv [105, 116, 101, 109])), (3, 1, .t 2)])⟩,
  ⟨none, .val 4 (.bslF 1 [.c (sv [98])])⟩,
  ⟨none, .val 5 (.bld [.v (.int .i64 0), .v (mkS []), .v (mkS []), .nl 1, .nl 2] [(0, 1, .c (iv 0)), (1, 1, .c (sv [105, 116, 101, 109])), (3, 1, .t 4)])⟩,
  ⟨none, .val 6 (.bld [.v (mkS []), .v (mkS [])] [(0, 1, .c (sv [116, 111])), (1, 1, .c (sv [111, 110, 101, 32, 116, 119, 111]))])⟩,
  ⟨none, .val 7 (.bslF 2 [.t 6])⟩,
  ⟨none, .val 8 (.bld [.v (.int .i64 0), .v (mkS []), .v (mkS []), .nl 1, .nl 2] [(0, 1, .c (iv 2)), (1, 1, .c (sv [108, 105, 110, 107])), (4, 1, .t 7)])⟩,
  ⟨none, .val 9 (.bslF 1 [.c (sv [97])])⟩,
  ⟨none, .val 10 (.bld [.v (.int .i64 0), .v (mkS []), .v (mkS []), .nl 1, .nl 2] [(0, 1, .c (iv 0)), (1, 1, .c (sv [105, 116, 101, 109])), (3, 1, .t 9)])⟩,
  ⟨none, .val 11 (.bslF 5 [.t 1, .t 3, .t 5, .t 8, .t 10])⟩,
  ⟨none, .val 12 (.bld [.nl 5] [(0, 1, .t 11)])⟩,
  ⟨none, .sto (.t 0) 0 13 0 1 (.t 12)⟩] false [.forget [1, 2, 3, 4, 5, 6, 7, 8, 9, 10, 11, 12]]
abbrev yDC : HCode := (.seq zXg (.seq zXh .ret))
abbrev zGX : Env := { N := 13, Γ := [(13, 1)], L := 14, nfix := 0 }
abbrev zZt : List RSrc := [.cellB 0 0 13 0 1 true]
theorem zXi {base : Nat} {av : List AV} {r : RV} (hfo : zAx zGX base av) (hW : AVs.fits av → hwp Tryz.prog yDC (zBO zGX base av zZt r) (F0 zGX base av)) (hov : ∀ x, r.res = .ov x → zBx av = 0 := by intro x h; cases h <;> rfl) : Contract Tryz.prog zDh av r :=
 zAa (fn := Tryz.f56) (c := Tryz.f56.body.getD .skip) (by kernel_rfl) (by kernel_rfl) (by kernel_rfl) (by kernel_rfl) (by kernel_rfl) (by kernel_rfl) (by kernel_rfl) hfo hW hov
end Go.Hx
end

section
/-
 The abstract code of functions of the program, printed by gen.py; each stands for the given one. No condition.
-/
namespace Go.Hx
open Go.Proofs
variable [Glob]
abbrev zCJ : Nat := 147
abbrev zCp : Nat := 149
abbrev zBA : Nat := 146
abbrev zFc : Nat := 145
abbrev zZu : HCode := .reg [⟨none, .val 2 (.mv (.c (bv false)))⟩] false []
abbrev zZv : HCode := .reg [⟨none, .val 3 (.mv (.t 0))⟩,
  ⟨none, .val 4 (.len true (.t 3))⟩,
  ⟨none, .val 5 (.ints .gtr (.t 4) (.c (iv 0)))⟩,
  ⟨none, .val 6 (.mv (.t 5))⟩,
  ⟨some (6, true), .val 7 (.mv (.t 0))⟩,
  ⟨some (6, true), .val 8 (.len true (.t 7))⟩,
  ⟨some (6, true), .val 9 (.ints .leq (.t 8) (.c (iv 12)))⟩,
  ⟨none, .val 10 (.pick (.t 6) (.t 9) (.c (bv false)))⟩,
  ⟨none, .val 11 (.mv (.t 10))⟩,
  ⟨some (11, true), .val 12 (.mv (.t 0))⟩,
  ⟨some (11, true), .val 13 (.idxS (.t 12) (.c (iv 0)))⟩,
  ⟨some (11, true), .val 14 (.ints .geq (.t 13) (.c (.one (.v (.int .u8 97)))))⟩,
  ⟨none, .val 15 (.pick (.t 11) (.t 14) (.c (bv false)))⟩,
  ⟨none, .val 16 (.mv (.t 15))⟩,
  ⟨some (16, true), .val 17 (.mv (.t 0))⟩,
  ⟨some (16, true), .val 18 (.idxS (.t 17) (.c (iv 0)))⟩,
  ⟨some (16, true), .val 19 (.ints .leq (.t 18) (.c (.one (.v (.int .u8 122)))))⟩,
  ⟨none, .val 20 (.pick (.t 16) (.t 19) (.c (bv false)))⟩,
  ⟨none, .val 21 (.mv (.t 20))⟩,
  ⟨some (21, true), .val 22 (.mv (.t 0))⟩,
  ⟨some (21, true), .call (some 23) zFc [(.t 22, .v), (.c (sv [97, 98, 99, 100, 101, 102, 103, 104, 105, 106, 107, 108, 109, 110, 111, 112, 113, 114, 115, 116, 117, 118, 119, 120, 121, 122, 48, 49, 50, 51, 52, 53, 54, 55, 56, 57, 45]), .v)]⟩,
  ⟨some (21, true), .val 24 (.strs .eql (.t 23) (.c (sv [])))⟩,
  ⟨none, .val 25 (.pick (.t 21) (.t 24) (.c (bv false)))⟩,
  ⟨none, .val 26 (.mv (.t 25))⟩,
  ⟨some (26, true), .val 27 (.mv (.t 0))⟩,
  ⟨some (26, true), .call (some 28) zBA [(.t 27, .v), (.f zCJ, .v)]⟩,
  ⟨some (26, true), .val 29 (.not (.t 28))⟩,
  ⟨none, .val 30 (.pick (.t 26) (.t 29) (.c (bv false)))⟩,
  ⟨none, .val 2 (.mv (.t 30))⟩] false [.forget [3, 4, 5, 6, 7, 8, 9, 10, 11, 12, 13, 14, 15, 16, 17, 18, 19, 20, 21, 22, 23, 24, 25, 26, 27, 28, 29, 30]]
abbrev yE8 : HCode := (.seq zZu (.seq zZv .ret))
abbrev zID : Env := { N := 31, Γ := [], L := 31, nfix := 0 }
abbrev yBZ : List RSrc := [.tmp 2]
theorem zZw {base : Nat} {av : List AV} {r : RV} (hfo : zAx zID base av) (hW : AVs.fits av → hwp Tryz.prog yE8 (zBO zID base av yBZ r) (F0 zID base av)) (hov : ∀ x, r.res = .ov x → zBx av = 0 := by intro x h; cases h <;> rfl) : Contract Tryz.prog zCE av r :=
 zAa (fn := Tryz.f92) (c := Tryz.f92.body.getD .skip) (by kernel_rfl) (by kernel_rfl) (by kernel_rfl) (by kernel_rfl) (by kernel_rfl) (by kernel_rfl) (by kernel_rfl) hfo hW hov
abbrev zUw : HCode := .reg [⟨none, .val 2 (.mv (.c (bv false)))⟩] false []
abbrev zUx : HCode := .reg [⟨none, .val 3 (.mv (.t 0))⟩,
  ⟨none, .val 4 (.ints .lss (.t 3) (.c (.one (.v (.int .i32 97)))))⟩,
  ⟨none, .val 5 (.mv (.t 4))⟩,
  ⟨some (5, false), .val 6 (.mv (.t 0))⟩,
  ⟨some (5, false), .val 7 (.ints .gtr (.t 6) (.c (.one (.v (.int .i32 122)))))⟩,
  ⟨none, .val 8 (.pick (.t 5) (.c (bv true)) (.t 7))⟩,
  ⟨none, .val 9 (.mv (.t 8))⟩,
  ⟨some (9, true), .val 10 (.mv (.t 0))⟩,
  ⟨some (9, true), .val 11 (.ints .lss (.t 10) (.c (.one (.v (.int .i32 48)))))⟩,
  ⟨some (9, true), .val 12 (.mv (.t 11))⟩,
  ⟨some (12, false), .val 13 (.mv (.t 0))⟩,
  ⟨some (12, false), .val 14 (.ints .gtr (.t 13) (.c (.one (.v (.int .i32 57)))))⟩,
  ⟨some (9, true), .val 15 (.pick (.t 12) (.c (bv true)) (.t 14))⟩,
  ⟨none, .val 16 (.pick (.t 9) (.t 15) (.c (bv false)))⟩,
  ⟨none, .val 17 (.mv (.t 16))⟩,
  ⟨some (17, true), .val 18 (.mv (.t 0))⟩,
  ⟨some (17, true), .val 19 (.ints .neq (.t 18) (.c (.one (.v (.int .i32 45)))))⟩,
  ⟨none, .val 20 (.pick (.t 17) (.t 19) (.c (bv false)))⟩,
  ⟨none, .val 2 (.mv (.t 20))⟩] false [.forget [3, 4, 5, 6, 7, 8, 9, 10, 11, 12, 13, 14, 15, 16, 17, 18, 19, 20]]
abbrev yB0 : HCode := (.seq zUw (.seq zUx .ret))
abbrev zFI : Env := { N := 21, Γ := [], L := 21, nfix := 0 }
abbrev zXj : List RSrc := [.tmp 2]
theorem zUy {base : Nat} {av : List AV} {r : RV} (hfo : zAx zFI base av) (hW : AVs.fits av → hwp Tryz.prog yB0 (zBO zFI base av zXj r) (F0 zFI base av)) (hov : ∀ x, r.res = .ov x → zBx av = 0 := by intro x h; cases h <;> rfl) : Contract Tryz.prog zCJ av r :=
 zAa (fn := Tryz.f147) (c := Tryz.f147.body.getD .skip) (by kernel_rfl) (by kernel_rfl) (by kernel_rfl) (by kernel_rfl) (by kernel_rfl) (by kernel_rfl) (by kernel_rfl) hfo hW hov
abbrev zXk : HCode := .reg [⟨none, .val 2 (.mv (.c (bv false)))⟩] false []
abbrev zXl : HCode := .reg [⟨none, .val 3 (.mv (.t 0))⟩,
  ⟨none, .val 4 (.len true (.t 3))⟩,
  ⟨none, .val 5 (.ints .leq (.t 4) (.c (iv 16)))⟩,
  ⟨none, .val 6 (.mv (.t 5))⟩,
  ⟨some (6, true), .val 7 (.mv (.t 0))⟩,
  ⟨some (6, true), .call (some 8) zBA [(.t 7, .v), (.f zCp, .v)]⟩,
  ⟨some (6, true), .val 9 (.not (.t 8))⟩,
  ⟨none, .val 10 (.pick (.t 6) (.t 9) (.c (bv false)))⟩,
  ⟨none, .val 2 (.mv (.t 10))⟩] false [.forget [3, 4, 5, 6, 7, 8, 9, 10]]
abbrev yDD : HCode := (.seq zXk (.seq zXl .ret))
abbrev zGY : Env := { N := 11, Γ := [], L := 11, nfix := 0 }
abbrev zZx : List RSrc := [.tmp 2]
theorem zXm {base : Nat} {av : List AV} {r : RV} (hfo : zAx zGY base av) (hW : AVs.fits av → hwp Tryz.prog yDD (zBO zGY base av zZx r) (F0 zGY base av)) (hov : ∀ x, r.res = .ov x → zBx av = 0 := by intro x h; cases h <;> rfl) : Contract Tryz.prog zFE av r :=
 zAa (fn := Tryz.f99) (c := Tryz.f99.body.getD .skip) (by kernel_rfl) (by kernel_rfl) (by kernel_rfl) (by kernel_rfl) (by kernel_rfl) (by kernel_rfl) (by kernel_rfl) hfo hW hov
abbrev zQ9 : HCode := .reg [⟨none, .val 2 (.mv (.c (bv false)))⟩] false []
abbrev zRa : HCode := .reg [⟨none, .val 3 (.mv (.t 0))⟩,
  ⟨none, .val 4 (.ints .lss (.t 3) (.c (.one (.v (.int .i32 32)))))⟩,
  ⟨none, .val 5 (.mv (.t 4))⟩,
  ⟨some (5, false), .val 6 (.mv (.t 0))⟩,
  ⟨some (5, false), .val 7 (.ints .gtr (.t 6) (.c (.one (.v (.int .i32 126)))))⟩,
  ⟨none, .val 8 (.pick (.t 5) (.c (bv true)) (.t 7))⟩,
  ⟨none, .val 9 (.mv (.t 8))⟩,
  ⟨some (9, false), .val 10 (.mv (.t 0))⟩,
  ⟨some (9, false), .val 11 (.ints .eql (.t 10) (.c (.one (.v (.int .i32 34)))))⟩,
  ⟨none, .val 12 (.pick (.t 9) (.c (bv true)) (.t 11))⟩,
  ⟨none, .val 2 (.mv (.t 12))⟩] false [.forget [3, 4, 5, 6, 7, 8, 9, 10, 11, 12]]
abbrev zZy : HCode := (.seq zQ9 (.seq zRa .ret))
abbrev zEJ : Env := { N := 13, Γ := [], L := 13, nfix := 0 }
abbrev zUz : List RSrc := [.tmp 2]
theorem zRb {base : Nat} {av : List AV} {r : RV} (hfo : zAx zEJ base av) (hW : AVs.fits av → hwp Tryz.prog zZy (zBO zEJ base av zUz r) (F0 zEJ base av)) (hov : ∀ x, r.res = .ov x → zBx av = 0 := by intro x h; cases h <;> rfl) : Contract Tryz.prog zCp av r :=
 zAa (fn := Tryz.f149) (c := Tryz.f149.body.getD .skip) (by kernel_rfl) (by kernel_rfl) (by kernel_rfl) (by kernel_rfl) (by kernel_rfl) (by kernel_rfl) (by kernel_rfl) hfo hW hov
end Go.Hx
end

section
/-
 The abstract code of functions of the program, printed by gen.py; each stands for the given one. No condition.
-/
namespace Go.Hx
open Go.Proofs
variable [Glob]
abbrev zFJ : Nat := 179
abbrev zFK : Nat := 121
abbrev zDA : Nat := 131
abbrev zDB : Nat := 63
abbrev zXn : HCode := .reg [⟨none, .val 1 (.boxF (.t 0))⟩,
  ⟨none, .val 2 (.mv (.c (iv 0)))⟩] false []
abbrev zXo : HCode := .reg [⟨none, .val 5 (.fldR (.t 1) 0 1)⟩,
  ⟨none, .val 6 (.ldR (.t 5) 1 false)⟩,
  ⟨none, .val 7 (.fldR (.t 1) 1 1)⟩,
  ⟨none, .val 8 (.ldR (.t 7) 1 false)⟩,
  ⟨none, .val 9 (.bld [.v (.int .i64 0), .v (.int .i64 0)] [(0, 1, .t 6), (1, 1, .t 8)])⟩,
  ⟨none, .val 10 (.mv (.c (iv 0)))⟩] false [.forget [5, 6, 7, 8]]
abbrev zXp : HCode := .reg [⟨none, .val 11 (.ints .lss (.t 10) (.c (iv 2)))⟩] false []
abbrev zXq : HCode := .reg [⟨none, .val 12 (.idxV 2 (.t 9) (.t 10))⟩,
  ⟨none, .val 4 (.mv (.t 12))⟩] false [.forget [12]]
abbrev zXr : HCode := .reg [⟨none, .val 13 (.mv (.t 4))⟩,
  ⟨none, .val 14 (.ints .lss (.t 13) (.c (iv (-1048576))))⟩,
  ⟨none, .val 15 (.mv (.t 14))⟩,
  ⟨some (15, false), .val 16 (.mv (.t 4))⟩,
  ⟨some (15, false), .val 17 (.ints .gtr (.t 16) (.c (iv 1048576)))⟩,
  ⟨none, .val 18 (.pick (.t 15) (.c (bv true)) (.t 17))⟩] false [.forget [13, 14, 15, 16, 17]]
abbrev zXs : HCode := .reg [⟨none, .val 2 (.mv (.c (iv 3)))⟩] false []
abbrev zXt : HCode := .reg [⟨none, .val 19 (.ints .add (.t 10) (.c (iv 1)))⟩,
  ⟨none, .val 10 (.mv (.t 19))⟩] false [.forget [19]]
abbrev zXu : HCode := .reg [⟨none, .val 2 (.mv (.c (iv 0)))⟩] false []
abbrev yDE : HCode := (.seq zXn (.seq (.seq zXo (.block 0 (.loop (.seq zXp (.seq (.cond (.t 11) .skip (.exit 0)) (.seq (.block 1 (.seq zXq (.seq zXr (.cond (.t 18) (.seq zXs .ret) .skip)))) zXt)))))) (.seq zXu .ret)))
abbrev zGZ : Env := { N := 20, Γ := [], L := 20, nfix := 0 }
abbrev zZz : List RSrc := [.tmp 2]
theorem zXv {base : Nat} {av : List AV} {r : RV} (hfo : zAx zGZ base av) (hW : AVs.fits av → hwp Tryz.prog yDE (zBO zGZ base av zZz r) (F0 zGZ base av)) (hov : ∀ x, r.res = .ov x → zBx av = 0 := by intro x h; cases h <;> rfl) : Contract Tryz.prog zFJ av r :=
 zAa (fn := Tryz.f179) (c := Tryz.f179.body.getD .skip) (by kernel_rfl) (by kernel_rfl) (by kernel_rfl) (by kernel_rfl) (by kernel_rfl) (by kernel_rfl) (by kernel_rfl) hfo hW hov
abbrev zXw : HCode := .reg [⟨none, .val 2 (.boxF (.t 0))⟩,
  ⟨none, .val 4 (.mv (.c (bv false)))⟩] false []
abbrev zXx : HCode := .reg [⟨none, .val 6 (.ldR (.t 2) 2 true)⟩,
  ⟨none, .call (some 7) zFJ [(.t 6, .v)]⟩,
  ⟨none, .val 8 (.ints .neq (.t 7) (.c (iv 0)))⟩,
  ⟨none, .val 9 (.mv (.t 8))⟩,
  ⟨some (9, false), .val 10 (.mv (.t 1))⟩,
  ⟨some (9, false), .val 11 (.ints .lss (.t 10) (.c (iv 1)))⟩,
  ⟨none, .val 12 (.pick (.t 9) (.c (bv true)) (.t 11))⟩,
  ⟨none, .val 13 (.mv (.t 12))⟩,
  ⟨some (13, false), .val 14 (.mv (.t 1))⟩,
  ⟨some (13, false), .val 15 (.ints .gtr (.t 14) (.c (iv 1073741824)))⟩,
  ⟨none, .val 16 (.pick (.t 13) (.c (bv true)) (.t 15))⟩] false [.forget [6, 7, 8, 9, 10, 11, 12, 13, 14, 15]]
abbrev zXy : HCode := .reg [⟨none, .val 4 (.mv (.c (bv false)))⟩] false []
abbrev zXz : HCode := .reg [⟨none, .val 17 (.mv (.t 1))⟩,
  ⟨none, .val 18 (.fldR (.t 2) 1 1)⟩,
  ⟨none, .val 19 (.ldR (.t 18) 1 false)⟩,
  ⟨none, .val 20 (.ints .sub (.t 17) (.t 19))⟩,
  ⟨none, .val 5 (.mv (.t 20))⟩] false [.forget [17, 18, 19, 20]]
abbrev zXA : HCode := .reg [⟨none, .val 21 (.fldR (.t 2) 0 1)⟩,
  ⟨none, .val 22 (.ldR (.t 21) 1 false)⟩,
  ⟨none, .val 23 (.ints .eql (.t 22) (.c (iv 0)))⟩] false [.forget [21, 22]]
abbrev zXB : HCode := .reg [⟨none, .val 24 (.mv (.t 5))⟩,
  ⟨none, .val 25 (.ints .eql (.t 24) (.c (iv 0)))⟩,
  ⟨none, .val 4 (.mv (.t 25))⟩] false [.forget [24, 25]]
abbrev zXC : HCode := .reg [⟨none, .val 26 (.mv (.t 5))⟩,
  ⟨none, .val 27 (.fldR (.t 2) 0 1)⟩,
  ⟨none, .val 28 (.ldR (.t 27) 1 false)⟩,
  ⟨none, .val 29 (.ints .rem (.t 26) (.t 28))⟩,
  ⟨none, .val 30 (.ints .eql (.t 29) (.c (iv 0)))⟩,
  ⟨none, .val 31 (.mv (.t 30))⟩,
  ⟨some (31, true), .val 32 (.mv (.t 5))⟩,
  ⟨some (31, true), .val 33 (.fldR (.t 2) 0 1)⟩,
  ⟨some (31, true), .val 34 (.ldR (.t 33) 1 false)⟩,
  ⟨some (31, true), .val 35 (.ints .quo (.t 32) (.t 34))⟩,
  ⟨some (31, true), .val 36 (.ints .geq (.t 35) (.c (iv 0)))⟩,
  ⟨none, .val 37 (.pick (.t 31) (.t 36) (.c (bv false)))⟩,
  ⟨none, .val 4 (.mv (.t 37))⟩] false [.forget [26, 27, 28, 29, 30, 31, 32, 33, 34, 35, 36, 37]]
abbrev yDF : HCode := (.seq zXw (.seq (.seq zXx (.cond (.t 16) (.seq zXy .ret) .skip)) (.seq zXz (.seq (.seq zXA (.cond (.t 23) (.seq zXB .ret) .skip)) (.seq zXC .ret)))))
abbrev zG0 : Env := { N := 38, Γ := [], L := 38, nfix := 0 }
abbrev zZA : List RSrc := [.tmp 4]
theorem zXD {base : Nat} {av : List AV} {r : RV} (hfo : zAx zG0 base av) (hW : AVs.fits av → hwp Tryz.prog yDF (zBO zG0 base av zZA r) (F0 zG0 base av)) (hov : ∀ x, r.res = .ov x → zBx av = 0 := by intro x h; cases h <;> rfl) : Contract Tryz.prog zFK av r :=
 zAa (fn := Tryz.f121) (c := Tryz.f121.body.getD .skip) (by kernel_rfl) (by kernel_rfl) (by kernel_rfl) (by kernel_rfl) (by kernel_rfl) (by kernel_rfl) (by kernel_rfl) hfo hW hov
abbrev zPA : HCode := .reg [⟨none, .val 1 (.boxF (.t 0))⟩,
  ⟨none, .val 2 (.mv (.c (iv 0)))⟩] false []
abbrev zPB : HCode := .reg [⟨none, .val 3 (.fldR (.t 1) 0 1)⟩,
  ⟨none, .val 4 (.ldR (.t 3) 1 false)⟩,
  ⟨none, .call (some 5) zAJ [(.t 4, .v), (.c (iv (-1048576)), .v), (.c (iv 1048576), .v)]⟩,
  ⟨none, .val 6 (.not (.t 5))⟩,
  ⟨none, .val 7 (.mv (.t 6))⟩,
  ⟨some (7, false), .val 8 (.fldR (.t 1) 1 1)⟩,
  ⟨some (7, false), .val 9 (.ldR (.t 8) 1 false)⟩,
  ⟨some (7, false), .call (some 10) zAJ [(.t 9, .v), (.c (iv (-1048576)), .v), (.c (iv 1048576), .v)]⟩,
  ⟨some (7, false), .val 11 (.not (.t 10))⟩,
  ⟨none, .val 12 (.pick (.t 7) (.c (bv true)) (.t 11))⟩] false [.forget [3, 4, 5, 6, 7, 8, 9, 10, 11]]
abbrev zPC : HCode := .reg [⟨none, .val 2 (.mv (.c (iv 3)))⟩] false []
abbrev zPD : HCode := .reg [⟨none, .val 2 (.mv (.c (iv 0)))⟩] false []
abbrev zXE : HCode := (.seq zPA (.seq (.seq zPB (.cond (.t 12) (.seq zPC .ret) .skip)) (.seq zPD .ret)))
abbrev zD9 : Env := { N := 13, Γ := [], L := 13, nfix := 0 }
abbrev zRc : List RSrc := [.tmp 2]
theorem zPE {base : Nat} {av : List AV} {r : RV} (hfo : zAx zD9 base av) (hW : AVs.fits av → hwp Tryz.prog zXE (zBO zD9 base av zRc r) (F0 zD9 base av)) (hov : ∀ x, r.res = .ov x → zBx av = 0 := by intro x h; cases h <;> rfl) : Contract Tryz.prog zDA av r :=
 zAa (fn := Tryz.f131) (c := Tryz.f131.body.getD .skip) (by kernel_rfl) (by kernel_rfl) (by kernel_rfl) (by kernel_rfl) (by kernel_rfl) (by kernel_rfl) (by kernel_rfl) hfo hW hov
abbrev zPF : HCode := .reg [⟨none, .val 2 (.boxF (.t 0))⟩,
  ⟨none, .val 4 (.mv (.c (bv false)))⟩] false []
abbrev zPG : HCode := .reg [⟨none, .val 5 (.ldR (.t 2) 2 true)⟩,
  ⟨none, .call (some 6) zDA [(.t 5, .v)]⟩,
  ⟨none, .val 7 (.ints .neq (.t 6) (.c (iv 0)))⟩,
  ⟨none, .val 8 (.mv (.t 7))⟩,
  ⟨some (8, false), .val 9 (.mv (.t 1))⟩,
  ⟨some (8, false), .val 10 (.ints .lss (.t 9) (.c (iv 1)))⟩,
  ⟨none, .val 11 (.pick (.t 8) (.c (bv true)) (.t 10))⟩,
  ⟨none, .val 12 (.mv (.t 11))⟩,
  ⟨some (12, false), .val 13 (.mv (.t 1))⟩,
  ⟨some (12, false), .val 14 (.ints .gtr (.t 13) (.c (iv 1073741824)))⟩,
  ⟨none, .val 15 (.pick (.t 12) (.c (bv true)) (.t 14))⟩] false [.forget [5, 6, 7, 8, 9, 10, 11, 12, 13, 14]]
abbrev zPH : HCode := .reg [⟨none, .val 4 (.mv (.c (bv false)))⟩] false []
abbrev zPI : HCode := .reg [⟨none, .val 16 (.fldR (.t 2) 0 1)⟩,
  ⟨none, .val 17 (.ldR (.t 16) 1 false)⟩,
  ⟨none, .val 18 (.ints .eql (.t 17) (.c (iv 0)))⟩,
  ⟨none, .val 19 (.mv (.t 18))⟩,
  ⟨some (19, false), .val 20 (.mv (.t 1))⟩,
  ⟨some (19, false), .val 21 (.fldR (.t 2) 1 1)⟩,
  ⟨some (19, false), .val 22 (.ldR (.t 21) 1 false)⟩,
  ⟨some (19, false), .val 23 (.ints .eql (.t 20) (.t 22))⟩,
  ⟨none, .val 24 (.pick (.t 19) (.c (bv true)) (.t 23))⟩] false [.forget [16, 17, 18, 19, 20, 21, 22, 23]]
abbrev zPJ : HCode := .reg [⟨none, .val 25 (.mv (.t 1))⟩,
  ⟨none, .val 26 (.fldR (.t 2) 1 1)⟩,
  ⟨none, .val 27 (.ldR (.t 26) 1 false)⟩,
  ⟨none, .val 28 (.ints .eql (.t 25) (.t 27))⟩,
  ⟨none, .val 4 (.mv (.t 28))⟩] false [.forget [25, 26, 27, 28]]
abbrev zPK : HCode := .reg [⟨none, .val 29 (.fldR (.t 2) 0 1)⟩,
  ⟨none, .val 30 (.ldR (.t 29) 1 false)⟩,
  ⟨none, .val 31 (.ints .gtr (.t 30) (.c (iv 0)))⟩] false [.forget [29, 30]]
abbrev zPL : HCode := .reg [⟨none, .val 32 (.mv (.t 1))⟩,
  ⟨none, .val 33 (.fldR (.t 2) 1 1)⟩,
  ⟨none, .val 34 (.ldR (.t 33) 1 false)⟩,
  ⟨none, .val 35 (.ints .gtr (.t 32) (.t 34))⟩,
  ⟨none, .val 36 (.mv (.t 35))⟩,
  ⟨some (36, true), .val 37 (.mv (.t 1))⟩,
  ⟨some (36, true), .val 38 (.fldR (.t 2) 1 1)⟩,
  ⟨some (36, true), .val 39 (.ldR (.t 38) 1 false)⟩,
  ⟨some (36, true), .val 40 (.ints .sub (.t 37) (.t 39))⟩,
  ⟨some (36, true), .val 41 (.fldR (.t 2) 0 1)⟩,
  ⟨some (36, true), .val 42 (.ldR (.t 41) 1 false)⟩,
  ⟨some (36, true), .val 43 (.ints .rem (.t 40) (.t 42))⟩,
  ⟨some (36, true), .val 44 (.ints .eql (.t 43) (.c (iv 0)))⟩,
  ⟨none, .val 45 (.pick (.t 36) (.t 44) (.c (bv false)))⟩,
  ⟨none, .val 4 (.mv (.t 45))⟩] false [.forget [32, 33, 34, 35, 36, 37, 38, 39, 40, 41, 42, 43, 44, 45]]
abbrev zPM : HCode := .reg [⟨none, .val 46 (.mv (.t 1))⟩,
  ⟨none, .val 47 (.fldR (.t 2) 1 1)⟩,
  ⟨none, .val 48 (.ldR (.t 47) 1 false)⟩,
  ⟨none, .val 49 (.ints .lss (.t 46) (.t 48))⟩,
  ⟨none, .val 50 (.mv (.t 49))⟩,
  ⟨some (50, true), .val 51 (.fldR (.t 2) 1 1)⟩,
  ⟨some (50, true), .val 52 (.ldR (.t 51) 1 false)⟩,
  ⟨some (50, true), .val 53 (.mv (.t 1))⟩,
  ⟨some (50, true), .val 54 (.ints .sub (.t 52) (.t 53))⟩,
  ⟨some (50, true), .val 55 (.fldR (.t 2) 0 1)⟩,
  ⟨some (50, true), .val 56 (.ldR (.t 55) 1 false)⟩,
  ⟨some (50, true), .val 57 (.neg (.t 56))⟩,
  ⟨some (50, true), .val 58 (.ints .rem (.t 54) (.t 57))⟩,
  ⟨some (50, true), .val 59 (.ints .eql (.t 58) (.c (iv 0)))⟩,
  ⟨none, .val 60 (.pick (.t 50) (.t 59) (.c (bv false)))⟩,
  ⟨none, .val 4 (.mv (.t 60))⟩] false [.forget [46, 47, 48, 49, 50, 51, 52, 53, 54, 55, 56, 57, 58, 59, 60]]
abbrev zXF : HCode := (.seq zPF (.seq (.seq zPG (.cond (.t 15) (.seq zPH .ret) .skip)) (.seq (.seq zPI (.cond (.t 24) (.seq zPJ .ret) .skip)) (.seq (.seq zPK (.cond (.t 31) (.seq zPL .ret) .skip)) (.seq zPM .ret)))))
abbrev zEa : Env := { N := 61, Γ := [], L := 61, nfix := 0 }
abbrev zRd : List RSrc := [.tmp 4]
theorem zPN {base : Nat} {av : List AV} {r : RV} (hfo : zAx zEa base av) (hW : AVs.fits av → hwp Tryz.prog zXF (zBO zEa base av zRd r) (F0 zEa base av)) (hov : ∀ x, r.res = .ov x → zBx av = 0 := by intro x h; cases h <;> rfl) : Contract Tryz.prog zDB av r :=
 zAa (fn := Tryz.f63) (c := Tryz.f63.body.getD .skip) (by kernel_rfl) (by kernel_rfl) (by kernel_rfl) (by kernel_rfl) (by kernel_rfl) (by kernel_rfl) (by kernel_rfl) hfo hW hov
end Go.Hx
end
