/-
  Walks of functions of the program over an abstract layer, and the laws that they use: each contract says what the function computes, for every input that its conditions let by. No other condition.
-/
import Derived.Test.YtjnagiaooecklabGreatDoorProg
import Derived.Test.YtjnagiaooecklabGreatDoorG8
set_option linter.all false
section
/-
 The abstract code of functions of the program, printed by gen.py; each stands for the given one. No condition.
-/
namespace Go.Hx
open Go.Proofs
variable [Glob]
abbrev zD2 : Nat := 140
abbrev zE0 : Nat := 141
abbrev zEl : Nat := 21
abbrev zAP : Nat := 80
abbrev zXZ : Nat := 3
abbrev zFf : Nat := 9
abbrev zRx : HCode := .reg [⟨none, .val 6 (.mv (.c (bv false)))⟩] false []
abbrev zRy : HCode := .reg [⟨none, .val 7 (.mv (.t 0))⟩,
  ⟨none, .val 8 (.mv (.t 1))⟩,
  ⟨none, .val 9 (.ints .geq (.t 7) (.t 8))⟩,
  ⟨none, .val 10 (.mv (.t 9))⟩,
  ⟨some (10, true), .val 11 (.mv (.t 0))⟩,
  ⟨some (10, true), .val 12 (.mv (.t 2))⟩,
  ⟨some (10, true), .val 13 (.ints .leq (.t 11) (.t 12))⟩,
  ⟨none, .val 14 (.pick (.t 10) (.t 13) (.c (bv false)))⟩,
  ⟨none, .val 6 (.mv (.t 14))⟩] false [.forget [7, 8, 9, 10, 11, 12, 13, 14]]
abbrev zYK : HCode := (.seq zRx (.seq zRy .ret))
abbrev zDI : Env := { N := 15, Γ := [], L := 15, nfix := 0 }
abbrev zUc : List RSrc := [.tmp 6]
theorem zHr {base : Nat} {av : List AV} {r : RV} (hfo : zAC zDI base av) (hW : AVs.fits av → hwp Tryz.prog zYK (zCj zDI base av zUc r) (F0 zDI base av)) (hov : ∀ x, r.res = .ov x → zB5 av = 0 := by intro x h; cases h <;> rfl) : Contract Tryz.prog zAP av r :=
 contract_of_wp (fn := Tryz.f80) (c := Tryz.f80.body.getD .skip) (by kernel_rfl) (by kernel_rfl) (by kernel_rfl) (by kernel_rfl) (by kernel_rfl) (by kernel_rfl) (by kernel_rfl) hfo hW hov
abbrev zRz : HCode := .reg [⟨none, .val 2 (.mv (.c (bv false)))⟩] false []
abbrev zRA : HCode := .reg [⟨none, .val 5 (.mv (.t 0))⟩,
  ⟨none, .val 6 (.len true (.t 5))⟩,
  ⟨none, .call (some 7) zAP [(.t 6, .v), (.c (iv 1), .v), (.c (iv 12), .v)]⟩,
  ⟨none, .val 8 (.not (.t 7))⟩,
  ⟨none, .val 9 (.mv (.t 8))⟩,
  ⟨some (9, false), .val 10 (.mv (.t 0))⟩,
  ⟨some (9, false), .val 11 (.idxS (.t 10) (.c (iv 0)))⟩,
  ⟨some (9, false), .val 12 (.ints .lss (.t 11) (.c (.one (.v (.int .u8 97)))))⟩,
  ⟨none, .val 13 (.pick (.t 9) (.c (bv true)) (.t 12))⟩,
  ⟨none, .val 14 (.mv (.t 13))⟩,
  ⟨some (14, false), .val 15 (.mv (.t 0))⟩,
  ⟨some (14, false), .val 16 (.idxS (.t 15) (.c (iv 0)))⟩,
  ⟨some (14, false), .val 17 (.ints .gtr (.t 16) (.c (.one (.v (.int .u8 122)))))⟩,
  ⟨none, .val 18 (.pick (.t 14) (.c (bv true)) (.t 17))⟩] false [.forget [5, 6, 7, 8, 9, 10, 11, 12, 13, 14, 15, 16, 17]]
abbrev zRB : HCode := .reg [⟨none, .val 2 (.mv (.c (bv false)))⟩] false []
abbrev zRC : HCode := .reg [⟨none, .val 3 (.mv (.c (iv 0)))⟩] false []
abbrev zRD : HCode := .reg [⟨none, .val 19 (.mv (.t 3))⟩,
  ⟨none, .val 20 (.mv (.t 0))⟩,
  ⟨none, .val 21 (.len true (.t 20))⟩,
  ⟨none, .val 22 (.ints .lss (.t 19) (.t 21))⟩] false [.forget [19, 20, 21]]
abbrev zRE : HCode := .reg [⟨none, .val 25 (.mv (.t 0))⟩,
  ⟨none, .val 26 (.mv (.t 3))⟩,
  ⟨none, .val 27 (.idxS (.t 25) (.t 26))⟩,
  ⟨none, .val 4 (.mv (.t 27))⟩] false [.forget [25, 26, 27]]
abbrev zRF : HCode := .reg [⟨none, .val 28 (.mv (.t 4))⟩,
  ⟨none, .val 29 (.ints .geq (.t 28) (.c (.one (.v (.int .u8 97)))))⟩,
  ⟨none, .val 30 (.mv (.t 29))⟩,
  ⟨some (30, true), .val 31 (.mv (.t 4))⟩,
  ⟨some (30, true), .val 32 (.ints .leq (.t 31) (.c (.one (.v (.int .u8 122)))))⟩,
  ⟨none, .val 33 (.pick (.t 30) (.t 32) (.c (bv false)))⟩,
  ⟨none, .val 34 (.mv (.t 33))⟩,
  ⟨some (34, false), .val 35 (.mv (.t 4))⟩,
  ⟨some (34, false), .val 36 (.ints .geq (.t 35) (.c (.one (.v (.int .u8 48)))))⟩,
  ⟨some (34, false), .val 37 (.mv (.t 36))⟩,
  ⟨some (37, true), .val 38 (.mv (.t 4))⟩,
  ⟨some (37, true), .val 39 (.ints .leq (.t 38) (.c (.one (.v (.int .u8 57)))))⟩,
  ⟨some (34, false), .val 40 (.pick (.t 37) (.t 39) (.c (bv false)))⟩,
  ⟨none, .val 41 (.pick (.t 34) (.c (bv true)) (.t 40))⟩,
  ⟨none, .val 42 (.mv (.t 41))⟩,
  ⟨some (42, false), .val 43 (.mv (.t 4))⟩,
  ⟨some (42, false), .val 44 (.ints .eql (.t 43) (.c (.one (.v (.int .u8 45)))))⟩,
  ⟨none, .val 45 (.pick (.t 42) (.c (bv true)) (.t 44))⟩,
  ⟨none, .val 46 (.not (.t 45))⟩] false [.forget [28, 29, 30, 31, 32, 33, 34, 35, 36, 37, 38, 39, 40, 41, 42, 43, 44, 45]]
abbrev zRG : HCode := .reg [⟨none, .val 2 (.mv (.c (bv false)))⟩] false []
abbrev zRH : HCode := .reg [⟨none, .val 23 (.mv (.t 3))⟩,
  ⟨none, .val 24 (.ints .add (.t 23) (.c (iv 1)))⟩,
  ⟨none, .val 3 (.mv (.t 24))⟩] false [.forget [23, 24]]
abbrev zRI : HCode := .reg [⟨none, .val 2 (.mv (.c (bv true)))⟩] false []
abbrev zYL : HCode := (.seq zRz (.seq (.seq zRA (.cond (.t 18) (.seq zRB .ret) .skip)) (.seq (.seq zRC (.block 0 (.loop (.seq (.seq zRD (.cond (.t 22) .skip (.exit 0))) (.seq (.block 1 (.seq zRE (.seq zRF (.cond (.t 46) (.seq zRG .ret) .skip)))) zRH))))) (.seq zRI .ret))))
abbrev zEL : Env := { N := 47, Γ := [], L := 47, nfix := 0 }
abbrev zUd : List RSrc := [.tmp 2]
theorem zRJ {base : Nat} {av : List AV} {r : RV} (hfo : zAC zEL base av) (hW : AVs.fits av → hwp Tryz.prog zYL (zCj zEL base av zUd r) (F0 zEL base av)) (hov : ∀ x, r.res = .ov x → zB5 av = 0 := by intro x h; cases h <;> rfl) : Contract Tryz.prog zD2 av r :=
 contract_of_wp (fn := Tryz.f140) (c := Tryz.f140.body.getD .skip) (by kernel_rfl) (by kernel_rfl) (by kernel_rfl) (by kernel_rfl) (by kernel_rfl) (by kernel_rfl) (by kernel_rfl) hfo hW hov
abbrev zOT : HCode := .reg [⟨none, .val 2 (.mv (.c (bv false)))⟩] false []
abbrev zOU : HCode := .reg [⟨none, .val 4 (.mv (.t 0))⟩,
  ⟨none, .val 5 (.len true (.t 4))⟩,
  ⟨none, .val 6 (.ints .gtr (.t 5) (.c (iv 16)))⟩] false [.forget [4, 5]]
abbrev zOV : HCode := .reg [⟨none, .val 2 (.mv (.c (bv false)))⟩] false []
abbrev zOW : HCode := .reg [⟨none, .val 3 (.mv (.c (iv 0)))⟩] false []
abbrev zOX : HCode := .reg [⟨none, .val 7 (.mv (.t 3))⟩,
  ⟨none, .val 8 (.mv (.t 0))⟩,
  ⟨none, .val 9 (.len true (.t 8))⟩,
  ⟨none, .val 10 (.ints .lss (.t 7) (.t 9))⟩] false [.forget [7, 8, 9]]
abbrev zOY : HCode := .reg [⟨none, .val 13 (.mv (.t 0))⟩,
  ⟨none, .val 14 (.mv (.t 3))⟩,
  ⟨none, .val 15 (.idxS (.t 13) (.t 14))⟩,
  ⟨none, .val 16 (.ints .lss (.t 15) (.c (.one (.v (.int .u8 32)))))⟩,
  ⟨none, .val 17 (.mv (.t 16))⟩,
  ⟨some (17, false), .val 18 (.mv (.t 0))⟩,
  ⟨some (17, false), .val 19 (.mv (.t 3))⟩,
  ⟨some (17, false), .val 20 (.idxS (.t 18) (.t 19))⟩,
  ⟨some (17, false), .val 21 (.ints .gtr (.t 20) (.c (.one (.v (.int .u8 126)))))⟩,
  ⟨none, .val 22 (.pick (.t 17) (.c (bv true)) (.t 21))⟩,
  ⟨none, .val 23 (.mv (.t 22))⟩,
  ⟨some (23, false), .val 24 (.mv (.t 0))⟩,
  ⟨some (23, false), .val 25 (.mv (.t 3))⟩,
  ⟨some (23, false), .val 26 (.idxS (.t 24) (.t 25))⟩,
  ⟨some (23, false), .val 27 (.ints .eql (.t 26) (.c (.one (.v (.int .u8 34)))))⟩,
  ⟨none, .val 28 (.pick (.t 23) (.c (bv true)) (.t 27))⟩] false [.forget [13, 14, 15, 16, 17, 18, 19, 20, 21, 22, 23, 24, 25, 26, 27]]
abbrev zOZ : HCode := .reg [⟨none, .val 2 (.mv (.c (bv false)))⟩] false []
abbrev zO0 : HCode := .reg [⟨none, .val 11 (.mv (.t 3))⟩,
  ⟨none, .val 12 (.ints .add (.t 11) (.c (iv 1)))⟩,
  ⟨none, .val 3 (.mv (.t 12))⟩] false [.forget [11, 12]]
abbrev zO1 : HCode := .reg [⟨none, .val 2 (.mv (.c (bv true)))⟩] false []
abbrev zWh : HCode := (.seq zOT (.seq (.seq zOU (.cond (.t 6) (.seq zOV .ret) .skip)) (.seq (.seq zOW (.block 0 (.loop (.seq (.seq zOX (.cond (.t 10) .skip (.exit 0))) (.seq (.block 1 (.seq zOY (.cond (.t 28) (.seq zOZ .ret) .skip))) zO0))))) (.seq zO1 .ret))))
abbrev zD3 : Env := { N := 29, Γ := [], L := 29, nfix := 0 }
abbrev zRK : List RSrc := [.tmp 2]
theorem zO2 {base : Nat} {av : List AV} {r : RV} (hfo : zAC zD3 base av) (hW : AVs.fits av → hwp Tryz.prog zWh (zCj zD3 base av zRK r) (F0 zD3 base av)) (hov : ∀ x, r.res = .ov x → zB5 av = 0 := by intro x h; cases h <;> rfl) : Contract Tryz.prog zE0 av r :=
 contract_of_wp (fn := Tryz.f141) (c := Tryz.f141.body.getD .skip) (by kernel_rfl) (by kernel_rfl) (by kernel_rfl) (by kernel_rfl) (by kernel_rfl) (by kernel_rfl) (by kernel_rfl) hfo hW hov
abbrev zMR : HCode := .reg [⟨none, .val 4 (.mv (.c (bv false)))⟩] false []
abbrev zMS : HCode := .reg [⟨none, .val 6 (.mv (.t 0))⟩,
  ⟨none, .val 7 (.len false (.t 6))⟩,
  ⟨none, .val 8 (.mv (.t 1))⟩,
  ⟨none, .val 9 (.len false (.t 8))⟩,
  ⟨none, .val 10 (.ints .neq (.t 7) (.t 9))⟩] false [.forget [6, 7, 8, 9]]
abbrev zMT : HCode := .reg [⟨none, .val 4 (.mv (.c (bv false)))⟩] false []
abbrev zMU : HCode := .reg [⟨none, .val 5 (.mv (.c (iv 0)))⟩] false []
abbrev zMV : HCode := .reg [⟨none, .val 11 (.mv (.t 5))⟩,
  ⟨none, .val 12 (.mv (.t 0))⟩,
  ⟨none, .val 13 (.len false (.t 12))⟩,
  ⟨none, .val 14 (.ints .lss (.t 11) (.t 13))⟩] false [.forget [11, 12, 13]]
abbrev zMW : HCode := .drg [⟨0, false, ⟨none, .val 17 (.mv (.t 0))⟩⟩,
  ⟨1, false, ⟨none, .val 18 (.mv (.t 5))⟩⟩,
  ⟨2, false, ⟨none, .val 19 (.idxA 1 (.t 17) (.t 18))⟩⟩,
  ⟨3, false, ⟨none, .val 20 (.ldR (.t 19) 1 false)⟩⟩,
  ⟨4, false, ⟨none, .val 21 (.mv (.t 1))⟩⟩,
  ⟨5, false, ⟨none, .val 22 (.mv (.t 5))⟩⟩,
  ⟨6, false, ⟨none, .val 23 (.idxA 1 (.t 21) (.t 22))⟩⟩,
  ⟨7, false, ⟨none, .val 24 (.ldR (.t 23) 1 false)⟩⟩,
  ⟨8, false, ⟨none, .val 25 (.ints .neq (.t 20) (.t 24))⟩⟩] [.forget [17, 18, 19, 20, 21, 22, 23, 24]]
abbrev zMX : HCode := .reg [⟨none, .val 4 (.mv (.c (bv false)))⟩] false []
abbrev zMY : HCode := .reg [⟨none, .val 15 (.mv (.t 5))⟩,
  ⟨none, .val 16 (.ints .add (.t 15) (.c (iv 1)))⟩,
  ⟨none, .val 5 (.mv (.t 16))⟩] false [.forget [15, 16]]
abbrev zMZ : HCode := .reg [⟨none, .val 4 (.mv (.c (bv true)))⟩] false []
abbrev zUe : HCode := (.seq zMR (.seq (.seq zMS (.cond (.t 10) (.seq zMT .ret) .skip)) (.seq (.seq zMU (.block 0 (.loop (.seq (.seq zMV (.cond (.t 14) .skip (.exit 0))) (.seq (.block 1 (.seq zMW (.cond (.t 25) (.seq zMX .ret) .skip))) zMY))))) (.seq zMZ .ret))))
abbrev zDu : Env := { N := 26, Γ := [], L := 26, nfix := 0 }
abbrev zO3 : List RSrc := [.tmp 4]
theorem zM0 {base : Nat} {av : List AV} {r : RV} (hfo : zAC zDu base av) (hW : AVs.fits av → hwp Tryz.prog zUe (zCj zDu base av zO3 r) (F0 zDu base av)) (hov : ∀ x, r.res = .ov x → zB5 av = 0 := by intro x h; cases h <;> rfl) : Contract Tryz.prog zEl av r :=
 contract_of_wp (fn := Tryz.f21) (c := Tryz.f21.body.getD .skip) (by kernel_rfl) (by kernel_rfl) (by kernel_rfl) (by kernel_rfl) (by kernel_rfl) (by kernel_rfl) (by kernel_rfl) hfo hW hov
end Go.Hx
end

section
/-
 The abstract code of functions of the program, printed by gen.py; each stands for the given one. No condition.
-/
namespace Go.Hx
open Go.Proofs
variable [Glob]
abbrev zEM : Nat := 221
abbrev zGY : Nat := 251
abbrev zFF : Nat := 207
abbrev zEm : Nat := 144
abbrev zBJ : Nat := 274
abbrev zC3 : Nat := 246
abbrev zB1 : Nat := 273
abbrev zUf : HCode := .reg [⟨none, .val 1 (.boxF (.t 0))⟩,
  ⟨none, .val 2 (.mv (.c (iv 0)))⟩] false []
abbrev zUg : HCode := .reg [⟨none, .val 5 (.fldR (.t 1) 0 1)⟩,
  ⟨none, .val 6 (.ldR (.t 5) 1 false)⟩,
  ⟨none, .val 7 (.fldR (.t 1) 1 1)⟩,
  ⟨none, .val 8 (.ldR (.t 7) 1 false)⟩,
  ⟨none, .val 9 (.bld [.v (.int .i64 0), .v (.int .i64 0)] [(0, 1, .t 6), (1, 1, .t 8)])⟩,
  ⟨none, .val 10 (.mv (.c (iv 0)))⟩] false [.forget [5, 6, 7, 8]]
abbrev zUh : HCode := .reg [⟨none, .val 11 (.ints .lss (.t 10) (.c (iv 2)))⟩] false []
abbrev zUi : HCode := .reg [⟨none, .val 12 (.idxV 2 (.t 9) (.t 10))⟩,
  ⟨none, .val 4 (.mv (.t 12))⟩] false [.forget [12]]
abbrev zUj : HCode := .reg [⟨none, .val 13 (.mv (.t 4))⟩,
  ⟨none, .val 14 (.ints .lss (.t 13) (.c (iv (-1048576))))⟩,
  ⟨none, .val 15 (.mv (.t 14))⟩,
  ⟨some (15, false), .val 16 (.mv (.t 4))⟩,
  ⟨some (15, false), .val 17 (.ints .gtr (.t 16) (.c (iv 1048576)))⟩,
  ⟨none, .val 18 (.pick (.t 15) (.c (bv true)) (.t 17))⟩] false [.forget [13, 14, 15, 16, 17]]
abbrev zUk : HCode := .reg [⟨none, .val 2 (.mv (.c (iv 3)))⟩] false []
abbrev zUl : HCode := .reg [⟨none, .val 19 (.ints .add (.t 10) (.c (iv 1)))⟩,
  ⟨none, .val 10 (.mv (.t 19))⟩] false [.forget [19]]
abbrev zUm : HCode := .reg [⟨none, .val 2 (.mv (.c (iv 0)))⟩] false []
abbrev yAb : HCode := (.seq zUf (.seq (.seq zUg (.block 0 (.loop (.seq zUh (.seq (.cond (.t 11) .skip (.exit 0)) (.seq (.block 1 (.seq zUi (.seq zUj (.cond (.t 18) (.seq zUk .ret) .skip)))) zUl)))))) (.seq zUm .ret)))
abbrev zFG : Env := { N := 20, Γ := [], L := 20, nfix := 0 }
abbrev zWi : List RSrc := [.tmp 2]
theorem zUn {base : Nat} {av : List AV} {r : RV} (hfo : zAC zFG base av) (hW : AVs.fits av → hwp Tryz.prog yAb (zCj zFG base av zWi r) (F0 zFG base av)) (hov : ∀ x, r.res = .ov x → zB5 av = 0 := by intro x h; cases h <;> rfl) : Contract Tryz.prog zEM av r :=
 contract_of_wp (fn := Tryz.f221) (c := Tryz.f221.body.getD .skip) (by kernel_rfl) (by kernel_rfl) (by kernel_rfl) (by kernel_rfl) (by kernel_rfl) (by kernel_rfl) (by kernel_rfl) hfo hW hov
abbrev zWj : HCode := .reg [⟨none, .val 1 (.boxF (.t 0))⟩,
  ⟨none, .val 2 (.mv (.c (sv [])))⟩,
  ⟨none, .val 3 (.mv (.c (iv 0)))⟩] false []
abbrev zWk : HCode := .reg [⟨none, .val 6 (.ldR (.t 1) 2 true)⟩,
  ⟨none, .call (some 7) zEM [(.t 6, .v)]⟩,
  ⟨none, .val 4 (.mv (.t 7))⟩] false [.forget [6, 7]]
abbrev zWl : HCode := .reg [⟨none, .val 8 (.mv (.t 4))⟩,
  ⟨none, .val 9 (.ints .neq (.t 8) (.c (iv 0)))⟩] false [.forget [8]]
abbrev zWm : HCode := .reg [⟨none, .val 10 (.mv (.t 4))⟩,
  ⟨none, .val 2 (.mv (.c (sv [])))⟩,
  ⟨none, .val 3 (.mv (.t 10))⟩] false [.forget [10]]
abbrev zWn : HCode := .reg [⟨none, .val 11 (.fldR (.t 1) 1 1)⟩,
  ⟨none, .val 12 (.ldR (.t 11) 1 false)⟩,
  ⟨none, .call (some 13) zC3 [(.t 12, .v)]⟩,
  ⟨none, .val 5 (.mv (.t 13))⟩] false [.forget [11, 12, 13]]
abbrev zWo : HCode := .reg [⟨none, .val 14 (.fldR (.t 1) 1 1)⟩,
  ⟨none, .val 15 (.ldR (.t 14) 1 false)⟩,
  ⟨none, .val 16 (.ints .geq (.t 15) (.c (iv 0)))⟩] false [.forget [14, 15]]
abbrev zWp : HCode := .reg [⟨none, .val 17 (.mv (.t 5))⟩,
  ⟨none, .val 18 (.strs .add (.c (sv [43])) (.t 17))⟩,
  ⟨none, .val 5 (.mv (.t 18))⟩] false [.forget [17, 18]]
abbrev zWq : HCode := .reg [⟨none, .val 19 (.fldR (.t 1) 0 1)⟩,
  ⟨none, .val 20 (.ldR (.t 19) 1 false)⟩,
  ⟨none, .call (some 21) zC3 [(.t 20, .v)]⟩,
  ⟨none, .val 22 (.strs .add (.t 21) (.c (sv [110])))⟩,
  ⟨none, .val 23 (.mv (.t 5))⟩,
  ⟨none, .val 24 (.strs .add (.t 22) (.t 23))⟩,
  ⟨none, .val 2 (.mv (.t 24))⟩,
  ⟨none, .val 3 (.mv (.c (iv 0)))⟩] false [.forget [19, 20, 21, 22, 23, 24]]
abbrev yBS : HCode := (.seq zWj (.seq (.seq zWk (.seq zWl (.cond (.t 9) (.seq zWm .ret) .skip))) (.seq zWn (.seq (.seq zWo (.cond (.t 16) zWp .skip)) (.seq zWq .ret)))))
abbrev zGz : Env := { N := 25, Γ := [], L := 25, nfix := 0 }
abbrev zYM : List RSrc := [.tmp 2, .tmp 3]
theorem zWr {base : Nat} {av : List AV} {r : RV} (hfo : zAC zGz base av) (hW : AVs.fits av → hwp Tryz.prog yBS (zCj zGz base av zYM r) (F0 zGz base av)) (hov : ∀ x, r.res = .ov x → zB5 av = 0 := by intro x h; cases h <;> rfl) : Contract Tryz.prog zFF av r :=
 contract_of_wp (fn := Tryz.f207) (c := Tryz.f207.body.getD .skip) (by kernel_rfl) (by kernel_rfl) (by kernel_rfl) (by kernel_rfl) (by kernel_rfl) (by kernel_rfl) (by kernel_rfl) hfo hW hov
abbrev zWs : HCode := .reg [⟨none, .alloc 2 0 42 [.v (.int .i64 0), .v (.int .i64 0)]⟩,
  ⟨none, .val 3 (.mv (.c (iv 0)))⟩] false []
abbrev zWt : HCode := .reg [⟨none, .val 11 (.mv (.t 0))⟩,
  ⟨none, .call (some 12) zB1 [(.t 11, .v), (.c (sv [110]), .v)]⟩,
  ⟨none, .val 10 (.mv (.t 12))⟩,
  ⟨none, .val 13 (.ext 10 0)⟩,
  ⟨none, .val 14 (.ext 10 1)⟩,
  ⟨none, .val 15 (.ext 10 2)⟩,
  ⟨none, .val 4 (.mv (.t 13))⟩,
  ⟨none, .val 5 (.mv (.t 14))⟩,
  ⟨none, .val 6 (.mv (.t 15))⟩] false [.forget [6, 10, 11, 12, 13, 14, 15]]
abbrev zWu : HCode := .reg [⟨none, .alloc 7 1 44 [.v (.int .i64 0), .v (.int .i64 0)]⟩] false []
abbrev zWv : HCode := .reg [⟨none, .val 17 (.mv (.t 4))⟩,
  ⟨none, .call (some 18) zBJ [(.t 17, .v)]⟩,
  ⟨none, .val 16 (.mv (.t 18))⟩,
  ⟨none, .val 19 (.ext 16 0)⟩,
  ⟨none, .val 20 (.ext 16 1)⟩,
  ⟨none, .val 21 (.fldP (.t 7) 0)⟩,
  ⟨none, .sto (.t 21) 1 44 0 1 (.t 19)⟩] false [.forget [16, 17, 18, 19, 20, 21]]
abbrev zWw : HCode := .reg [⟨none, .val 23 (.mv (.t 5))⟩,
  ⟨none, .call (some 24) zBJ [(.t 23, .v)]⟩,
  ⟨none, .val 22 (.mv (.t 24))⟩,
  ⟨none, .val 25 (.ext 22 0)⟩,
  ⟨none, .val 26 (.ext 22 1)⟩,
  ⟨none, .val 27 (.fldP (.t 7) 1)⟩,
  ⟨none, .sto (.t 27) 1 44 1 1 (.t 25)⟩] false [.forget [22, 23, 24, 25, 26, 27]]
abbrev zWx : HCode := .reg [⟨none, .val 29 (.ldB (.t 7) 1 44 0 2 true)⟩,
  ⟨none, .call (some 30) zFF [(.t 29, .v)]⟩,
  ⟨none, .val 28 (.mv (.t 30))⟩,
  ⟨none, .val 31 (.ext 28 0)⟩,
  ⟨none, .val 32 (.ext 28 1)⟩,
  ⟨none, .val 8 (.mv (.t 31))⟩,
  ⟨none, .val 9 (.mv (.t 32))⟩] false [.forget [28, 29, 30, 31, 32]]
abbrev zWy : HCode := .reg [⟨none, .val 33 (.mv (.t 9))⟩,
  ⟨none, .val 34 (.ints .neq (.t 33) (.c (iv 0)))⟩,
  ⟨none, .val 35 (.mv (.t 34))⟩,
  ⟨some (35, false), .val 36 (.mv (.t 8))⟩,
  ⟨some (35, false), .val 37 (.mv (.t 0))⟩,
  ⟨some (35, false), .val 38 (.strs .neq (.t 36) (.t 37))⟩,
  ⟨none, .val 39 (.pick (.t 35) (.c (bv true)) (.t 38))⟩] false [.forget [33, 34, 35, 36, 37, 38]]
abbrev zWz : HCode := .reg [⟨none, .val 40 (.bld [.v (.int .i64 0), .v (.int .i64 0)] [])⟩,
  ⟨none, .sto (.t 2) 0 42 0 2 (.t 40)⟩,
  ⟨none, .val 3 (.mv (.c (iv 1)))⟩] false [.forget [40]]
abbrev zWA : HCode := .reg [⟨none, .val 41 (.ldB (.t 7) 1 44 0 2 true)⟩,
  ⟨none, .sto (.t 2) 0 42 0 2 (.t 41)⟩,
  ⟨none, .val 3 (.mv (.c (iv 0)))⟩] false [.forget [41]]
abbrev yBT : HCode := (.seq zWs (.seq zWt (.seq zWu (.seq zWv (.seq zWw (.seq (.seq zWx (.seq zWy (.cond (.t 39) (.seq zWz .ret) .skip))) (.seq zWA .ret)))))))
abbrev zGA : Env := { N := 42, Γ := [(42, 2), (44, 2)], L := 46, nfix := 0 }
abbrev zYN : List RSrc := [.cellB 2 0 42 0 2 true, .tmp 3]
theorem zWB {base : Nat} {av : List AV} {r : RV} (hfo : zAC zGA base av) (hW : AVs.fits av → hwp Tryz.prog yBT (zCj zGA base av zYN r) (F0 zGA base av)) (hov : ∀ x, r.res = .ov x → zB5 av = 0 := by intro x h; cases h <;> rfl) : Contract Tryz.prog zGY av r :=
 contract_of_wp (fn := Tryz.f251) (c := Tryz.f251.body.getD .skip) (by kernel_rfl) (by kernel_rfl) (by kernel_rfl) (by kernel_rfl) (by kernel_rfl) (by kernel_rfl) (by kernel_rfl) hfo hW hov
abbrev zM1 : HCode := .reg [⟨none, .val 1 (.boxF (.t 0))⟩,
  ⟨none, .val 2 (.mv (.c (iv 0)))⟩] false []
abbrev zM2 : HCode := .reg [⟨none, .val 3 (.fldR (.t 1) 0 1)⟩,
  ⟨none, .val 4 (.ldR (.t 3) 1 false)⟩,
  ⟨none, .call (some 5) zAP [(.t 4, .v), (.c (iv (-1048576)), .v), (.c (iv 1048576), .v)]⟩,
  ⟨none, .val 6 (.not (.t 5))⟩,
  ⟨none, .val 7 (.mv (.t 6))⟩,
  ⟨some (7, false), .val 8 (.fldR (.t 1) 1 1)⟩,
  ⟨some (7, false), .val 9 (.ldR (.t 8) 1 false)⟩,
  ⟨some (7, false), .call (some 10) zAP [(.t 9, .v), (.c (iv (-1048576)), .v), (.c (iv 1048576), .v)]⟩,
  ⟨some (7, false), .val 11 (.not (.t 10))⟩,
  ⟨none, .val 12 (.pick (.t 7) (.c (bv true)) (.t 11))⟩] false [.forget [3, 4, 5, 6, 7, 8, 9, 10, 11]]
abbrev zM3 : HCode := .reg [⟨none, .val 2 (.mv (.c (iv 3)))⟩] false []
abbrev zM4 : HCode := .reg [⟨none, .val 2 (.mv (.c (iv 0)))⟩] false []
abbrev zUo : HCode := (.seq zM1 (.seq (.seq zM2 (.cond (.t 12) (.seq zM3 .ret) .skip)) (.seq zM4 .ret)))
abbrev zDv : Env := { N := 13, Γ := [], L := 13, nfix := 0 }
abbrev zO4 : List RSrc := [.tmp 2]
theorem zM5 {base : Nat} {av : List AV} {r : RV} (hfo : zAC zDv base av) (hW : AVs.fits av → hwp Tryz.prog zUo (zCj zDv base av zO4 r) (F0 zDv base av)) (hov : ∀ x, r.res = .ov x → zB5 av = 0 := by intro x h; cases h <;> rfl) : Contract Tryz.prog zEm av r :=
 contract_of_wp (fn := Tryz.f144) (c := Tryz.f144.body.getD .skip) (by kernel_rfl) (by kernel_rfl) (by kernel_rfl) (by kernel_rfl) (by kernel_rfl) (by kernel_rfl) (by kernel_rfl) hfo hW hov
end Go.Hx
end

section
/-
 The abstract code of functions of the program, printed by gen.py; each stands for the given one. No condition.
-/
namespace Go.Hx
open Go.Proofs
variable [Glob]
abbrev zBo : Nat := 286
abbrev zA9 : Nat := 277
abbrev zO5 : HCode := .reg [⟨none, .val 4 (.mv (.c (sv [])))⟩,
  ⟨none, .val 5 (.mv (.c (sv [])))⟩,
  ⟨none, .val 6 (.mv (.c (bv false)))⟩] false []
abbrev zO6 : HCode := .reg [⟨none, .val 7 (.mv (.t 0))⟩,
  ⟨none, .val 8 (.mv (.t 1))⟩,
  ⟨none, .call (some 9) zBo [(.t 7, .v), (.t 8, .v)]⟩,
  ⟨none, .val 10 (.ext 9 0)⟩,
  ⟨none, .val 11 (.ext 9 1)⟩,
  ⟨none, .val 12 (.ext 9 2)⟩,
  ⟨none, .val 4 (.mv (.t 10))⟩,
  ⟨none, .val 5 (.mv (.t 11))⟩,
  ⟨none, .val 6 (.mv (.t 12))⟩] false [.forget [7, 8, 9, 10, 11, 12]]
abbrev strings_Cut : HCode := (.seq zO5 (.seq zO6 .ret))
abbrev zD4 : Env := { N := 13, Γ := [], L := 13, nfix := 0 }
abbrev zRL : List RSrc := [.tmp 4, .tmp 5, .tmp 6]
theorem zO7 {base : Nat} {av : List AV} {r : RV} (hfo : zAC zD4 base av) (hW : AVs.fits av → hwp Tryz.prog strings_Cut (zCj zD4 base av zRL r) (F0 zD4 base av)) (hov : ∀ x, r.res = .ov x → zB5 av = 0 := by intro x h; cases h <;> rfl) : Contract Tryz.prog zB1 av r :=
 contract_of_wp (fn := Tryz.f273) (c := Tryz.f273.body.getD .skip) (by kernel_rfl) (by kernel_rfl) (by kernel_rfl) (by kernel_rfl) (by kernel_rfl) (by kernel_rfl) (by kernel_rfl) hfo hW hov
abbrev zEn : HCode := .reg [⟨none, .val 4 (.mv (.c (sv [])))⟩,
  ⟨none, .val 5 (.mv (.c (sv [])))⟩,
  ⟨none, .val 6 (.mv (.c (bv false)))⟩] false []
abbrev zEo : HCode := .reg [⟨none, .val 8 (.mv (.t 0))⟩,
  ⟨none, .val 9 (.mv (.t 1))⟩,
  ⟨none, .call (some 10) zA9 [(.t 8, .v), (.t 9, .v)]⟩,
  ⟨none, .val 7 (.mv (.t 10))⟩] false [.forget [8, 9, 10]]
abbrev zEp : HCode := .reg [⟨none, .val 11 (.mv (.t 7))⟩,
  ⟨none, .val 12 (.ints .geq (.t 11) (.c (iv 0)))⟩] false [.forget [11]]
abbrev zEq : HCode := .drg [⟨0, false, ⟨none, .val 13 (.mv (.t 0))⟩⟩,
  ⟨1, false, ⟨none, .val 14 (.mv (.t 7))⟩⟩,
  ⟨2, false, ⟨none, .val 15 (.sls (.t 13) none (some (.t 14)))⟩⟩,
  ⟨3, false, ⟨none, .val 16 (.mv (.t 0))⟩⟩,
  ⟨4, false, ⟨none, .val 17 (.mv (.t 7))⟩⟩,
  ⟨5, false, ⟨none, .val 18 (.mv (.t 1))⟩⟩,
  ⟨6, false, ⟨none, .val 19 (.len true (.t 18))⟩⟩,
  ⟨7, false, ⟨none, .val 20 (.ints .add (.t 17) (.t 19))⟩⟩,
  ⟨8, false, ⟨none, .val 21 (.sls (.t 16) (some (.t 20)) none)⟩⟩,
  ⟨9, false, ⟨none, .val 4 (.mv (.t 15))⟩⟩,
  ⟨10, false, ⟨none, .val 5 (.mv (.t 21))⟩⟩,
  ⟨11, false, ⟨none, .val 6 (.mv (.c (bv true)))⟩⟩] [.forget [13, 14, 15, 16, 17, 18, 19, 20, 21]]
abbrev zEr : HCode := .reg [⟨none, .val 22 (.mv (.t 0))⟩,
  ⟨none, .val 4 (.mv (.t 22))⟩,
  ⟨none, .val 5 (.mv (.c (sv [])))⟩,
  ⟨none, .val 6 (.mv (.c (bv false)))⟩] false [.forget [22]]
abbrev zFg : HCode := (.seq zEn (.seq (.seq zEo (.seq zEp (.cond (.t 12) (.seq zEq .ret) .skip))) (.seq zEr .ret)))
abbrev zAZ : Env := { N := 23, Γ := [], L := 23, nfix := 0 }
abbrev zEE : List RSrc := [.tmp 4, .tmp 5, .tmp 6]
theorem zEs {base : Nat} {av : List AV} {r : RV} (hfo : zAC zAZ base av) (hW : AVs.fits av → hwp Tryz.prog zFg (zCj zAZ base av zEE r) (F0 zAZ base av)) (hov : ∀ x, r.res = .ov x → zB5 av = 0 := by intro x h; cases h <;> rfl) : Contract Tryz.prog zBo av r :=
 contract_of_wp (fn := Tryz.f286) (c := Tryz.f286.body.getD .skip) (by kernel_rfl) (by kernel_rfl) (by kernel_rfl) (by kernel_rfl) (by kernel_rfl) (by kernel_rfl) (by kernel_rfl) hfo hW hov
end Go.Hx
end

section
/-
 The abstract code of functions of the program, printed by gen.py; each stands for the given one. No condition.
-/
namespace Go.Hx
open Go.Proofs
variable [Glob]
abbrev zFH : Nat := 185
abbrev zGh : Nat := 192
end Go.Hx
end

section
/-
 The abstract code of functions of the program, printed by gen.py; each stands for the given one. No condition.
-/
namespace Go.Hx
open Go.Proofs
variable [Glob]
abbrev zCn : Nat := 239
abbrev zB2 : Nat := 240
abbrev zBh : Nat := 238
abbrev zEt : Nat := 237
abbrev zWG : HCode := .reg [⟨none, .val 2 (.mv (.c (bv false)))⟩] false []
abbrev zWH : HCode := .reg [⟨none, .val 3 (.mv (.t 0))⟩,
  ⟨none, .val 4 (.len true (.t 3))⟩,
  ⟨none, .val 5 (.ints .gtr (.t 4) (.c (iv 0)))⟩,
  ⟨none, .val 6 (.mv (.t 5))⟩,
  ⟨some (6, true), .val 7 (.mv (.t 0))⟩,
  ⟨some (6, true), .val 8 (.len true (.t 7))⟩,
  ⟨some (6, true), .val 9 (.ints .leq (.t 8) (.c (iv 12)))⟩,
  ⟨none, .val 10 (.pick (.t 6) (.t 9) (.c (bv false)))⟩,
  ⟨none, .val 11 (.mv (.t 10))⟩,
  ⟨some (11, true), .val 12 (.mv (.t 0))⟩,
  ⟨some (11, true), .val 13 (.idxS (.t 12) (.c (iv 0)))⟩,
  ⟨some (11, true), .val 14 (.ints .geq (.t 13) (.c (.one (.v (.int .u8 97)))))⟩,
  ⟨none, .val 15 (.pick (.t 11) (.t 14) (.c (bv false)))⟩,
  ⟨none, .val 16 (.mv (.t 15))⟩,
  ⟨some (16, true), .val 17 (.mv (.t 0))⟩,
  ⟨some (16, true), .val 18 (.idxS (.t 17) (.c (iv 0)))⟩,
  ⟨some (16, true), .val 19 (.ints .leq (.t 18) (.c (.one (.v (.int .u8 122)))))⟩,
  ⟨none, .val 20 (.pick (.t 16) (.t 19) (.c (bv false)))⟩,
  ⟨none, .val 21 (.mv (.t 20))⟩,
  ⟨some (21, true), .val 22 (.mv (.t 0))⟩,
  ⟨some (21, true), .call (some 23) zEt [(.t 22, .v), (.c (sv [97, 98, 99, 100, 101, 102, 103, 104, 105, 106, 107, 108, 109, 110, 111, 112, 113, 114, 115, 116, 117, 118, 119, 120, 121, 122, 48, 49, 50, 51, 52, 53, 54, 55, 56, 57, 45]), .v)]⟩,
  ⟨some (21, true), .val 24 (.strs .eql (.t 23) (.c (sv [])))⟩,
  ⟨none, .val 25 (.pick (.t 21) (.t 24) (.c (bv false)))⟩,
  ⟨none, .val 26 (.mv (.t 25))⟩,
  ⟨some (26, true), .val 27 (.mv (.t 0))⟩,
  ⟨some (26, true), .call (some 28) zBh [(.t 27, .v), (.f zCn, .v)]⟩,
  ⟨some (26, true), .val 29 (.not (.t 28))⟩,
  ⟨none, .val 30 (.pick (.t 26) (.t 29) (.c (bv false)))⟩,
  ⟨none, .val 2 (.mv (.t 30))⟩] false [.forget [3, 4, 5, 6, 7, 8, 9, 10, 11, 12, 13, 14, 15, 16, 17, 18, 19, 20, 21, 22, 23, 24, 25, 26, 27, 28, 29, 30]]
abbrev yBX : HCode := (.seq zWG (.seq zWH .ret))
abbrev zGB : Env := { N := 31, Γ := [], L := 31, nfix := 0 }
abbrev zYP : List RSrc := [.tmp 2]
theorem zWI {base : Nat} {av : List AV} {r : RV} (hfo : zAC zGB base av) (hW : AVs.fits av → hwp Tryz.prog yBX (zCj zGB base av zYP r) (F0 zGB base av)) (hov : ∀ x, r.res = .ov x → zB5 av = 0 := by intro x h; cases h <;> rfl) : Contract Tryz.prog zFH av r :=
 contract_of_wp (fn := Tryz.f185) (c := Tryz.f185.body.getD .skip) (by kernel_rfl) (by kernel_rfl) (by kernel_rfl) (by kernel_rfl) (by kernel_rfl) (by kernel_rfl) (by kernel_rfl) hfo hW hov
abbrev zRO : HCode := .reg [⟨none, .val 2 (.mv (.c (bv false)))⟩] false []
abbrev zRP : HCode := .reg [⟨none, .val 3 (.mv (.t 0))⟩,
  ⟨none, .val 4 (.ints .lss (.t 3) (.c (.one (.v (.int .i32 97)))))⟩,
  ⟨none, .val 5 (.mv (.t 4))⟩,
  ⟨some (5, false), .val 6 (.mv (.t 0))⟩,
  ⟨some (5, false), .val 7 (.ints .gtr (.t 6) (.c (.one (.v (.int .i32 122)))))⟩,
  ⟨none, .val 8 (.pick (.t 5) (.c (bv true)) (.t 7))⟩,
  ⟨none, .val 9 (.mv (.t 8))⟩,
  ⟨some (9, true), .val 10 (.mv (.t 0))⟩,
  ⟨some (9, true), .val 11 (.ints .lss (.t 10) (.c (.one (.v (.int .i32 48)))))⟩,
  ⟨some (9, true), .val 12 (.mv (.t 11))⟩,
  ⟨some (12, false), .val 13 (.mv (.t 0))⟩,
  ⟨some (12, false), .val 14 (.ints .gtr (.t 13) (.c (.one (.v (.int .i32 57)))))⟩,
  ⟨some (9, true), .val 15 (.pick (.t 12) (.c (bv true)) (.t 14))⟩,
  ⟨none, .val 16 (.pick (.t 9) (.t 15) (.c (bv false)))⟩,
  ⟨none, .val 17 (.mv (.t 16))⟩,
  ⟨some (17, true), .val 18 (.mv (.t 0))⟩,
  ⟨some (17, true), .val 19 (.ints .neq (.t 18) (.c (.one (.v (.int .i32 45)))))⟩,
  ⟨none, .val 20 (.pick (.t 17) (.t 19) (.c (bv false)))⟩,
  ⟨none, .val 2 (.mv (.t 20))⟩] false [.forget [3, 4, 5, 6, 7, 8, 9, 10, 11, 12, 13, 14, 15, 16, 17, 18, 19, 20]]
abbrev zYQ : HCode := (.seq zRO (.seq zRP .ret))
abbrev zEN : Env := { N := 21, Γ := [], L := 21, nfix := 0 }
abbrev zUq : List RSrc := [.tmp 2]
theorem zRQ {base : Nat} {av : List AV} {r : RV} (hfo : zAC zEN base av) (hW : AVs.fits av → hwp Tryz.prog zYQ (zCj zEN base av zUq r) (F0 zEN base av)) (hov : ∀ x, r.res = .ov x → zB5 av = 0 := by intro x h; cases h <;> rfl) : Contract Tryz.prog zCn av r :=
 contract_of_wp (fn := Tryz.f239) (c := Tryz.f239.body.getD .skip) (by kernel_rfl) (by kernel_rfl) (by kernel_rfl) (by kernel_rfl) (by kernel_rfl) (by kernel_rfl) (by kernel_rfl) hfo hW hov
abbrev zUr : HCode := .reg [⟨none, .val 2 (.mv (.c (bv false)))⟩] false []
abbrev zUs : HCode := .reg [⟨none, .val 3 (.mv (.t 0))⟩,
  ⟨none, .val 4 (.len true (.t 3))⟩,
  ⟨none, .val 5 (.ints .leq (.t 4) (.c (iv 16)))⟩,
  ⟨none, .val 6 (.mv (.t 5))⟩,
  ⟨some (6, true), .val 7 (.mv (.t 0))⟩,
  ⟨some (6, true), .call (some 8) zBh [(.t 7, .v), (.f zB2, .v)]⟩,
  ⟨some (6, true), .val 9 (.not (.t 8))⟩,
  ⟨none, .val 10 (.pick (.t 6) (.t 9) (.c (bv false)))⟩,
  ⟨none, .val 2 (.mv (.t 10))⟩] false [.forget [3, 4, 5, 6, 7, 8, 9, 10]]
abbrev yAg : HCode := (.seq zUr (.seq zUs .ret))
abbrev zFI : Env := { N := 11, Γ := [], L := 11, nfix := 0 }
abbrev zWJ : List RSrc := [.tmp 2]
theorem zUt {base : Nat} {av : List AV} {r : RV} (hfo : zAC zFI base av) (hW : AVs.fits av → hwp Tryz.prog yAg (zCj zFI base av zWJ r) (F0 zFI base av)) (hov : ∀ x, r.res = .ov x → zB5 av = 0 := by intro x h; cases h <;> rfl) : Contract Tryz.prog zGh av r :=
 contract_of_wp (fn := Tryz.f192) (c := Tryz.f192.body.getD .skip) (by kernel_rfl) (by kernel_rfl) (by kernel_rfl) (by kernel_rfl) (by kernel_rfl) (by kernel_rfl) (by kernel_rfl) hfo hW hov
abbrev zPc : HCode := .reg [⟨none, .val 2 (.mv (.c (bv false)))⟩] false []
abbrev zPd : HCode := .reg [⟨none, .val 3 (.mv (.t 0))⟩,
  ⟨none, .val 4 (.ints .lss (.t 3) (.c (.one (.v (.int .i32 32)))))⟩,
  ⟨none, .val 5 (.mv (.t 4))⟩,
  ⟨some (5, false), .val 6 (.mv (.t 0))⟩,
  ⟨some (5, false), .val 7 (.ints .gtr (.t 6) (.c (.one (.v (.int .i32 126)))))⟩,
  ⟨none, .val 8 (.pick (.t 5) (.c (bv true)) (.t 7))⟩,
  ⟨none, .val 9 (.mv (.t 8))⟩,
  ⟨some (9, false), .val 10 (.mv (.t 0))⟩,
  ⟨some (9, false), .val 11 (.ints .eql (.t 10) (.c (.one (.v (.int .i32 34)))))⟩,
  ⟨none, .val 12 (.pick (.t 9) (.c (bv true)) (.t 11))⟩,
  ⟨none, .val 2 (.mv (.t 12))⟩] false [.forget [3, 4, 5, 6, 7, 8, 9, 10, 11, 12]]
abbrev zWK : HCode := (.seq zPc (.seq zPd .ret))
abbrev zD5 : Env := { N := 13, Γ := [], L := 13, nfix := 0 }
abbrev zRR : List RSrc := [.tmp 2]
theorem zPe {base : Nat} {av : List AV} {r : RV} (hfo : zAC zD5 base av) (hW : AVs.fits av → hwp Tryz.prog zWK (zCj zD5 base av zRR r) (F0 zD5 base av)) (hov : ∀ x, r.res = .ov x → zB5 av = 0 := by intro x h; cases h <;> rfl) : Contract Tryz.prog zB2 av r :=
 contract_of_wp (fn := Tryz.f240) (c := Tryz.f240.body.getD .skip) (by kernel_rfl) (by kernel_rfl) (by kernel_rfl) (by kernel_rfl) (by kernel_rfl) (by kernel_rfl) (by kernel_rfl) hfo hW hov
end Go.Hx
end

section
/-
 The abstract code of functions of the program, printed by gen.py; each stands for the given one. No condition.
-/
namespace Go.Hx
open Go.Proofs
variable [Glob]
abbrev zBQ : Nat := 54
abbrev zBj : Nat := 110
abbrev zAA : Nat := 163
abbrev zCo : Nat := 164
abbrev zGC : Nat := 220
abbrev zFJ : Nat := 111
abbrev zDP : Nat := 39
abbrev zDw : Nat := 94
abbrev zDx : Nat := 93
abbrev zD6 : Nat := 95
abbrev zFh : Nat := 143
abbrev zDy : Nat := 92
abbrev zYR : HCode := .reg [⟨none, .alloc 2 0 31 [.v (.bool false), .v (.bool false), .v (.bool false), .v (.bool false)]⟩,
  ⟨none, .val 3 (.mv (.c (bv false)))⟩] false []
abbrev zYS : HCode := .reg [⟨none, .val 4 (.mv (.t 0))⟩] false []
abbrev zYT : HCode := .reg [⟨none, .val 6 (.ints .eql (.t 4) (.c (iv 1)))⟩,
  ⟨none, .val 5 (.mv (.t 6))⟩] false [.forget [6]]
abbrev zYU : HCode := .reg [⟨none, .val 7 (.ints .eql (.t 4) (.c (iv 2)))⟩,
  ⟨none, .val 5 (.mv (.t 7))⟩] false [.forget [7]]
abbrev zYV : HCode := .reg [⟨none, .val 8 (.ints .eql (.t 4) (.c (iv 3)))⟩,
  ⟨none, .val 5 (.mv (.t 8))⟩] false [.forget [8]]
abbrev zYW : HCode := .reg [⟨none, .val 9 (.bld [.v (.bool false), .v (.bool false), .v (.bool false), .v (.bool false)] [(0, 1, .c (bv true))])⟩,
  ⟨none, .sto (.t 2) 0 31 0 4 (.t 9)⟩,
  ⟨none, .val 3 (.mv (.c (bv true)))⟩] false [.forget [9]]
abbrev zYX : HCode := .reg [⟨none, .val 11 (.ints .eql (.t 4) (.c (iv 4)))⟩,
  ⟨none, .val 10 (.mv (.t 11))⟩] false [.forget [11]]
abbrev zYY : HCode := .reg [⟨none, .val 12 (.ints .eql (.t 4) (.c (iv 5)))⟩,
  ⟨none, .val 10 (.mv (.t 12))⟩] false [.forget [12]]
abbrev zYZ : HCode := .reg [⟨none, .val 13 (.ints .eql (.t 4) (.c (iv 6)))⟩,
  ⟨none, .val 10 (.mv (.t 13))⟩] false [.forget [13]]
abbrev zY0 : HCode := .reg [⟨none, .val 14 (.ints .eql (.t 4) (.c (iv 7)))⟩,
  ⟨none, .val 10 (.mv (.t 14))⟩] false [.forget [14]]
abbrev zWL : HCode := .reg [⟨none, .val 15 (.ints .eql (.t 4) (.c (iv 8)))⟩,
  ⟨none, .val 10 (.mv (.t 15))⟩] false [.forget [15]]
abbrev zWM : HCode := .reg [⟨none, .val 16 (.bld [.v (.bool false), .v (.bool false), .v (.bool false), .v (.bool false)] [(0, 1, .c (bv true)), (1, 1, .c (bv true))])⟩,
  ⟨none, .sto (.t 2) 0 31 0 4 (.t 16)⟩,
  ⟨none, .val 3 (.mv (.c (bv true)))⟩] false [.forget [16]]
abbrev zWN : HCode := .reg [⟨none, .val 18 (.ints .eql (.t 4) (.c (iv 9)))⟩,
  ⟨none, .val 17 (.mv (.t 18))⟩] false [.forget [18]]
abbrev zWO : HCode := .reg [⟨none, .val 19 (.ints .eql (.t 4) (.c (iv 10)))⟩,
  ⟨none, .val 17 (.mv (.t 19))⟩] false [.forget [19]]
abbrev zWP : HCode := .reg [⟨none, .val 20 (.bld [.v (.bool false), .v (.bool false), .v (.bool false), .v (.bool false)] [(2, 1, .c (bv true))])⟩,
  ⟨none, .sto (.t 2) 0 31 0 4 (.t 20)⟩,
  ⟨none, .val 3 (.mv (.c (bv true)))⟩] false [.forget [20]]
abbrev zWQ : HCode := .reg [⟨none, .val 22 (.ints .eql (.t 4) (.c (iv 11)))⟩,
  ⟨none, .val 21 (.mv (.t 22))⟩] false [.forget [22]]
abbrev zWR : HCode := .reg [⟨none, .val 23 (.ints .eql (.t 4) (.c (iv 12)))⟩,
  ⟨none, .val 21 (.mv (.t 23))⟩] false [.forget [23]]
abbrev zWS : HCode := .reg [⟨none, .val 24 (.bld [.v (.bool false), .v (.bool false), .v (.bool false), .v (.bool false)] [])⟩,
  ⟨none, .sto (.t 2) 0 31 0 4 (.t 24)⟩,
  ⟨none, .val 3 (.mv (.c (bv true)))⟩] false [.forget [24]]
abbrev zWT : HCode := .reg [⟨none, .val 26 (.ints .eql (.t 4) (.c (iv 13)))⟩,
  ⟨none, .val 25 (.mv (.t 26))⟩] false [.forget [26]]
abbrev zWU : HCode := .reg [⟨none, .val 27 (.ints .eql (.t 4) (.c (iv 14)))⟩,
  ⟨none, .val 25 (.mv (.t 27))⟩] false [.forget [27]]
abbrev zWV : HCode := .reg [⟨none, .val 28 (.ints .eql (.t 4) (.c (iv 15)))⟩,
  ⟨none, .val 25 (.mv (.t 28))⟩] false [.forget [28]]
abbrev zWW : HCode := .reg [⟨none, .val 29 (.bld [.v (.bool false), .v (.bool false), .v (.bool false), .v (.bool false)] [(3, 1, .c (bv true))])⟩,
  ⟨none, .sto (.t 2) 0 31 0 4 (.t 29)⟩,
  ⟨none, .val 3 (.mv (.c (bv true)))⟩] false [.forget [29]]
abbrev zWX : HCode := .reg [⟨none, .val 30 (.bld [.v (.bool false), .v (.bool false), .v (.bool false), .v (.bool false)] [])⟩,
  ⟨none, .sto (.t 2) 0 31 0 4 (.t 30)⟩,
  ⟨none, .val 3 (.mv (.c (bv false)))⟩] false [.forget [30]]
abbrev yD2 : HCode := (.seq zYR (.seq (.seq zYS (.block 0 (.seq (.seq zYT (.cond (.t 5) .skip (.seq zYU (.cond (.t 5) .skip zYV)))) (.cond (.t 5) (.seq zYW .ret) (.seq (.seq zYX (.cond (.t 10) .skip (.seq zYY (.cond (.t 10) .skip (.seq zYZ (.cond (.t 10) .skip (.seq zY0 (.cond (.t 10) .skip zWL)))))))) (.cond (.t 10) (.seq zWM .ret) (.seq (.seq zWN (.cond (.t 17) .skip zWO)) (.cond (.t 17) (.seq zWP .ret) (.seq (.seq zWQ (.cond (.t 21) .skip zWR)) (.cond (.t 21) (.seq zWS .ret) (.seq (.seq zWT (.cond (.t 25) .skip (.seq zWU (.cond (.t 25) .skip zWV)))) (.cond (.t 25) (.seq zWW .ret) .skip)))))))))))) (.seq zWX .ret)))
abbrev zHt : Env := { N := 31, Γ := [(31, 4)], L := 35, nfix := 0 }
abbrev yAh : List RSrc := [.cellB 2 0 31 0 4 true, .tmp 3]
theorem zY1 {base : Nat} {av : List AV} {r : RV} (hfo : zAC zHt base av) (hW : AVs.fits av → hwp Tryz.prog yD2 (zCj zHt base av yAh r) (F0 zHt base av)) (hov : ∀ x, r.res = .ov x → zB5 av = 0 := by intro x h; cases h <;> rfl) : Contract Tryz.prog zGC av r :=
 contract_of_wp (fn := Tryz.f220) (c := Tryz.f220.body.getD .skip) (by kernel_rfl) (by kernel_rfl) (by kernel_rfl) (by kernel_rfl) (by kernel_rfl) (by kernel_rfl) (by kernel_rfl) hfo hW hov
abbrev zRS : HCode := .reg [⟨none, .alloc 0 0 2 [.v (.int .i64 0), .v (.int .i64 0), .v (.int .i64 0), .v (.int .i64 0)]⟩] false []
abbrev zRT : HCode := .reg [⟨none, .val 1 (.bld [.v (.int .i64 0), .v (.int .i64 0), .v (.int .i64 0), .v (.int .i64 0)] [(0, 1, .c (iv 2)), (1, 1, .c (iv 4)), (2, 1, .c (iv 1)), (3, 1, .c (iv 3))])⟩,
  ⟨none, .sto (.t 0) 0 2 0 4 (.t 1)⟩] false [.forget [1]]
abbrev zY2 : HCode := (.seq zRS (.seq zRT .ret))
abbrev zEO : Env := { N := 2, Γ := [(2, 4)], L := 6, nfix := 0 }
abbrev zUu : List RSrc := [.cellB 0 0 2 0 4 true]
theorem zRU {base : Nat} {av : List AV} {r : RV} (hfo : zAC zEO base av) (hW : AVs.fits av → hwp Tryz.prog zY2 (zCj zEO base av zUu r) (F0 zEO base av)) (hov : ∀ x, r.res = .ov x → zB5 av = 0 := by intro x h; cases h <;> rfl) : Contract Tryz.prog zFJ av r :=
 contract_of_wp (fn := Tryz.f111) (c := Tryz.f111.body.getD .skip) (by kernel_rfl) (by kernel_rfl) (by kernel_rfl) (by kernel_rfl) (by kernel_rfl) (by kernel_rfl) (by kernel_rfl) hfo hW hov
abbrev zIl : HCode := .reg [⟨none, .val 6 (.mv (.t 1))⟩] false []
abbrev zIm : HCode := .drg [⟨0, false, ⟨none, .val 7 (.mv (.t 0))⟩⟩,
  ⟨1, false, ⟨none, .val 8 (.mv (.t 2))⟩⟩,
  ⟨2, false, ⟨none, .val 9 (.nilck (.t 7))⟩⟩,
  ⟨3, false, ⟨none, .val 10 (.fldP (.t 9) 0)⟩⟩,
  ⟨4, false, ⟨none, .val 11 (.ixB 5 (.t 10) (.t 8))⟩⟩,
  ⟨5, false, ⟨none, .val 12 (.ldD (.t 11) 0 17 5)⟩⟩,
  ⟨6, false, ⟨none, .val 13 (.ints .add (.t 12) (.c (iv 1)))⟩⟩,
  ⟨7, false, ⟨none, .val 14 (.nilck (.t 7))⟩⟩,
  ⟨8, false, ⟨none, .val 15 (.fldP (.t 14) 0)⟩⟩,
  ⟨9, false, ⟨none, .val 16 (.ixB 5 (.t 15) (.t 8))⟩⟩,
  ⟨10, false, ⟨none, .std (.t 16) 0 17 5 (.t 13)⟩⟩] [.forget [7, 8, 9, 10, 11, 12, 13, 14, 15, 16]]
abbrev zPf : HCode := (.seq zIl (.cond (.t 6) zIm .skip))
abbrev zBa : Env := { N := 17, Γ := [(17, 5)], L := 22, nfix := 1 }
abbrev zJF : List RSrc := []
theorem zCp {base : Nat} {av : List AV} {r : RV} (hfo : zAC zBa base av) (hW : AVs.fits av → hwp Tryz.prog zPf (zCj zBa base av zJF r) (F0 zBa base av)) (hov : ∀ x, r.res = .ov x → zB5 av = 0 := by intro x h; cases h <;> rfl) : Contract Tryz.prog zAA av r :=
 contract_of_wp (fn := Tryz.f163) (c := Tryz.f163.body.getD .skip) (by kernel_rfl) (by kernel_rfl) (by kernel_rfl) (by kernel_rfl) (by kernel_rfl) (by kernel_rfl) (by kernel_rfl) hfo hW hov
abbrev zIn : HCode := .reg [⟨none, .val 12 (.mv (.t 2))⟩,
  ⟨none, .val 13 (.ints .gtr (.t 12) (.c (iv 3)))⟩,
  ⟨none, .val 14 (.mv (.t 13))⟩,
  ⟨some (14, false), .val 15 (.mv (.t 1))⟩,
  ⟨some (14, false), .val 16 (.len false (.t 15))⟩,
  ⟨some (14, false), .val 17 (.ints .lss (.t 16) (.c (iv 1)))⟩,
  ⟨none, .val 18 (.pick (.t 14) (.c (bv true)) (.t 17))⟩,
  ⟨none, .val 19 (.mv (.t 18))⟩,
  ⟨some (19, false), .val 20 (.mv (.t 1))⟩,
  ⟨some (19, false), .val 21 (.len false (.t 20))⟩,
  ⟨some (19, false), .val 22 (.ints .gtr (.t 21) (.c (iv 5)))⟩,
  ⟨none, .val 23 (.pick (.t 19) (.c (bv true)) (.t 22))⟩] false [.forget [12, 13, 14, 15, 16, 17, 18, 19, 20, 21, 22]]
abbrev zIo : HCode := .reg [⟨none, .val 24 (.mv (.t 0))⟩,
  ⟨none, .call (some 25) zAA [(.t 24, .i 0 83 5), (.c (bv true), .v), (.c (iv 2), .v)]⟩] false [.forget [24, 25]]
abbrev zIp : HCode := .reg [⟨none, .val 26 (.mv (.t 1))⟩,
  ⟨none, .val 27 (.len false (.t 26))⟩,
  ⟨none, .val 28 (.mv (.c (iv 0)))⟩] false []
abbrev zIq : HCode := .reg [⟨none, .val 29 (.ints .lss (.t 28) (.t 27))⟩] false []
abbrev zIr : HCode := .reg [⟨none, .val 30 (.idxA 2 (.t 26) (.t 28))⟩,
  ⟨none, .val 31 (.ldR (.t 30) 2 true)⟩,
  ⟨none, .alloc 7 1 88 [.nl 2, .nl 1]⟩,
  ⟨none, .sto (.t 7) 1 88 0 2 (.t 31)⟩] false [.frz 1 88 2, .forget [30, 31]]
abbrev zIs : HCode := .reg [⟨none, .val 32 (.fldR (.t 7) 0 1)⟩,
  ⟨none, .val 33 (.ldR (.t 32) 1 false)⟩,
  ⟨none, .val 34 (.len false (.t 33))⟩,
  ⟨none, .val 35 (.ints .lss (.t 34) (.c (iv 1)))⟩,
  ⟨none, .val 36 (.mv (.t 35))⟩,
  ⟨some (36, false), .val 37 (.fldR (.t 7) 0 1)⟩,
  ⟨some (36, false), .val 38 (.ldR (.t 37) 1 false)⟩,
  ⟨some (36, false), .val 39 (.len false (.t 38))⟩,
  ⟨some (36, false), .val 40 (.ints .gtr (.t 39) (.c (iv 5)))⟩,
  ⟨none, .val 41 (.pick (.t 36) (.c (bv true)) (.t 40))⟩,
  ⟨none, .val 42 (.mv (.t 41))⟩,
  ⟨some (42, false), .val 43 (.fldR (.t 7) 1 1)⟩,
  ⟨some (42, false), .val 44 (.ldR (.t 43) 1 false)⟩,
  ⟨some (42, false), .val 45 (.len false (.t 44))⟩,
  ⟨some (42, false), .val 46 (.fldR (.t 7) 0 1)⟩,
  ⟨some (42, false), .val 47 (.ldR (.t 46) 1 false)⟩,
  ⟨some (42, false), .val 48 (.len false (.t 47))⟩,
  ⟨some (42, false), .val 49 (.ints .sub (.t 48) (.c (iv 1)))⟩,
  ⟨some (42, false), .val 50 (.ints .neq (.t 45) (.t 49))⟩,
  ⟨none, .val 51 (.pick (.t 42) (.c (bv true)) (.t 50))⟩] false [.forget [32, 33, 34, 35, 36, 37, 38, 39, 40, 41, 42, 43, 44, 45, 46, 47, 48, 49, 50]]
abbrev zIt : HCode := .reg [⟨none, .val 52 (.mv (.t 0))⟩,
  ⟨none, .call (some 53) zAA [(.t 52, .i 0 83 5), (.c (bv true), .v), (.c (iv 2), .v)]⟩] false [.forget [52, 53]]
abbrev zIu : HCode := .reg [⟨none, .val 54 (.fldR (.t 7) 1 1)⟩,
  ⟨none, .val 55 (.ldR (.t 54) 1 false)⟩,
  ⟨none, .val 56 (.len false (.t 55))⟩,
  ⟨none, .val 57 (.mv (.c (iv 0)))⟩] false [.forget [54]]
abbrev zIv : HCode := .reg [⟨none, .val 58 (.ints .lss (.t 57) (.t 56))⟩] false []
abbrev zIw : HCode := .reg [⟨none, .val 59 (.idxA 1 (.t 55) (.t 57))⟩,
  ⟨none, .val 60 (.ldR (.t 59) 1 false)⟩,
  ⟨none, .val 9 (.mv (.t 60))⟩] false [.forget [59, 60]]
abbrev zHu : HCode := .reg [⟨none, .val 61 (.mv (.t 0))⟩,
  ⟨none, .val 62 (.mv (.t 9))⟩,
  ⟨none, .val 63 (.ints .lss (.t 62) (.c (iv 1)))⟩,
  ⟨none, .val 64 (.mv (.t 63))⟩,
  ⟨some (64, false), .val 65 (.mv (.t 9))⟩,
  ⟨some (64, false), .val 66 (.ints .gtr (.t 65) (.c (iv 4)))⟩,
  ⟨none, .val 67 (.pick (.t 64) (.c (bv true)) (.t 66))⟩,
  ⟨none, .call (some 68) zAA [(.t 61, .i 0 83 5), (.t 67, .v), (.c (iv 4), .v)]⟩] false [.forget [61, 62, 63, 64, 65, 66, 67, 68]]
abbrev zHv : HCode := .reg [⟨none, .val 69 (.ints .add (.t 57) (.c (iv 1)))⟩,
  ⟨none, .val 57 (.mv (.t 69))⟩] false [.forget [69]]
abbrev zHw : HCode := .reg [⟨none, .val 70 (.fldR (.t 7) 0 1)⟩,
  ⟨none, .val 71 (.ldR (.t 70) 1 false)⟩,
  ⟨none, .val 72 (.len false (.t 71))⟩,
  ⟨none, .val 73 (.mv (.c (iv 0)))⟩] false [.forget [70]]
abbrev zHx : HCode := .reg [⟨none, .val 74 (.ints .lss (.t 73) (.t 72))⟩] false []
abbrev zHy : HCode := .reg [⟨none, .val 75 (.idxA 2 (.t 71) (.t 73))⟩,
  ⟨none, .val 76 (.ldR (.t 75) 2 true)⟩,
  ⟨none, .alloc 11 2 90 [.v (mkS []), .nl 6]⟩,
  ⟨none, .sto (.t 11) 2 90 0 2 (.t 76)⟩] false [.forget [75, 76]]
abbrev zHz : HCode := .reg [⟨none, .val 77 (.mv (.t 0))⟩,
  ⟨none, .val 78 (.ldB (.t 11) 2 90 0 2 true)⟩,
  ⟨none, .val 79 (.mv (.t 2))⟩,
  ⟨none, .call (some 80) zCo [(.t 77, .i 0 83 5), (.t 78, .v), (.t 79, .v)]⟩] false [.forget [77, 78, 79, 80]]
abbrev zHA : HCode := .reg [⟨none, .val 81 (.ints .add (.t 73) (.c (iv 1)))⟩,
  ⟨none, .val 73 (.mv (.t 81))⟩] false [.forget [81]]
abbrev zHB : HCode := .reg [⟨none, .val 82 (.ints .add (.t 28) (.c (iv 1)))⟩,
  ⟨none, .val 28 (.mv (.t 82))⟩] false [.forget [82]]
abbrev zPg : HCode := (.seq (.seq zIn (.cond (.t 23) (.seq zIo .ret) .skip)) (.seq zIp (.block 0 (.loop (.seq zIq (.seq (.cond (.t 29) .skip (.exit 0)) (.seq (.block 1 (.seq zIr (.seq (.seq zIs (.cond (.t 51) (.seq zIt .ret) .skip)) (.seq (.seq zIu (.block 2 (.loop (.seq zIv (.seq (.cond (.t 58) .skip (.exit 2)) (.seq (.block 3 (.seq zIw zHu)) zHv)))))) (.seq zHw (.block 4 (.loop (.seq zHx (.seq (.cond (.t 74) .skip (.exit 4)) (.seq (.block 5 (.seq zHy zHz)) zHA)))))))))) zHB)))))))
abbrev zCF : Env := { N := 83, Γ := [(83, 5), (88, 2), (90, 2)], L := 92, nfix := 1 }
abbrev zJG : List RSrc := []
theorem zIx {base : Nat} {av : List AV} {r : RV} (hfo : zAC zCF base av) (hW : AVs.fits av → hwp Tryz.prog zPg (zCj zCF base av zJG r) (F0 zCF base av)) (hov : ∀ x, r.res = .ov x → zB5 av = 0 := by intro x h; cases h <;> rfl) : Contract Tryz.prog zBj av r :=
 contract_of_wp (fn := Tryz.f110) (c := Tryz.f110.body.getD .skip) (by kernel_rfl) (by kernel_rfl) (by kernel_rfl) (by kernel_rfl) (by kernel_rfl) (by kernel_rfl) (by kernel_rfl) hfo hW hov
abbrev zIy : HCode := .reg [⟨none, .val 4 (.boxF (.t 1))⟩] false []
abbrev zIz : HCode := .reg [⟨none, .val 10 (.fldR (.t 4) 1 1)⟩,
  ⟨none, .val 11 (.ldR (.t 10) 1 false)⟩,
  ⟨none, .val 12 (.len false (.t 11))⟩,
  ⟨none, .val 13 (.ints .gtr (.t 12) (.c (iv 6)))⟩] false [.forget [10, 11, 12]]
abbrev zIA : HCode := .reg [⟨none, .val 14 (.mv (.t 0))⟩,
  ⟨none, .call (some 15) zAA [(.t 14, .i 0 121 5), (.c (bv true), .v), (.c (iv 2), .v)]⟩] false [.forget [14, 15]]
abbrev zIB : HCode := .reg [⟨none, .val 16 (.mv (.t 0))⟩,
  ⟨none, .val 17 (.fldR (.t 4) 0 1)⟩,
  ⟨none, .val 18 (.ldR (.t 17) 1 false)⟩,
  ⟨none, .val 19 (.strs .neq (.t 18) (.c (sv [])))⟩,
  ⟨none, .val 20 (.mv (.t 19))⟩,
  ⟨some (20, true), .val 21 (.fldR (.t 4) 0 1)⟩,
  ⟨some (20, true), .val 22 (.ldR (.t 21) 1 false)⟩,
  ⟨some (20, true), .call (some 23) zFH [(.t 22, .v)]⟩,
  ⟨some (20, true), .val 24 (.not (.t 23))⟩,
  ⟨none, .val 25 (.pick (.t 20) (.t 24) (.c (bv false)))⟩,
  ⟨none, .call (some 26) zAA [(.t 16, .i 0 121 5), (.t 25, .v), (.c (iv 1), .v)]⟩] false [.forget [16, 17, 18, 19, 20, 21, 22, 23, 24, 25, 26]]
abbrev zIC : HCode := .reg [⟨none, .val 27 (.fldR (.t 4) 1 1)⟩,
  ⟨none, .val 28 (.ldR (.t 27) 1 false)⟩,
  ⟨none, .val 29 (.len false (.t 28))⟩,
  ⟨none, .val 30 (.mv (.c (iv 0)))⟩] false [.forget [27]]
abbrev zID : HCode := .reg [⟨none, .val 31 (.ints .lss (.t 30) (.t 29))⟩] false []
abbrev zIE : HCode := .reg [⟨none, .val 32 (.idxA 6 (.t 28) (.t 30))⟩,
  ⟨none, .val 33 (.ldR (.t 32) 6 true)⟩,
  ⟨none, .alloc 7 1 126 [.v (.int .i64 0), .v (mkS []), .v (mkS []), .v (.int .i64 0), .v (.int .i64 0), .nl 2]⟩,
  ⟨none, .sto (.t 7) 1 126 0 6 (.t 33)⟩] false [.frz 1 126 6, .forget [32, 33]]
abbrev zIF : HCode := .reg [⟨none, .val 35 (.fldR (.t 7) 0 1)⟩,
  ⟨none, .val 36 (.ldR (.t 35) 1 false)⟩,
  ⟨none, .call (some 37) zGC [(.t 36, .v)]⟩,
  ⟨none, .val 34 (.mv (.t 37))⟩,
  ⟨none, .val 38 (.ext 34 0)⟩,
  ⟨none, .val 39 (.ext 34 1)⟩,
  ⟨none, .alloc 8 2 132 [.v (.bool false), .v (.bool false), .v (.bool false), .v (.bool false)]⟩,
  ⟨none, .sto (.t 8) 2 132 0 4 (.t 38)⟩,
  ⟨none, .val 9 (.mv (.t 39))⟩] false [.frz 2 132 4, .forget [34, 35, 36, 37, 38, 39]]
abbrev zIG : HCode := .reg [⟨none, .val 40 (.mv (.t 0))⟩,
  ⟨none, .val 41 (.mv (.t 9))⟩,
  ⟨none, .val 42 (.not (.t 41))⟩,
  ⟨none, .call (some 43) zAA [(.t 40, .i 0 121 5), (.t 42, .v), (.c (iv 4), .v)]⟩] false [.forget [40, 41, 42, 43]]
abbrev zIH : HCode := .reg [⟨none, .val 44 (.mv (.t 0))⟩,
  ⟨none, .val 45 (.fldR (.t 8) 0 1)⟩,
  ⟨none, .val 46 (.ldR (.t 45) 1 false)⟩,
  ⟨none, .val 47 (.mv (.t 46))⟩,
  ⟨some (47, true), .val 48 (.fldR (.t 7) 1 1)⟩,
  ⟨some (47, true), .val 49 (.ldR (.t 48) 1 false)⟩,
  ⟨some (47, true), .call (some 50) zFH [(.t 49, .v)]⟩,
  ⟨some (47, true), .val 51 (.not (.t 50))⟩,
  ⟨none, .val 52 (.pick (.t 47) (.t 51) (.c (bv false)))⟩,
  ⟨none, .val 53 (.mv (.t 52))⟩,
  ⟨some (53, false), .val 54 (.fldR (.t 8) 0 1)⟩,
  ⟨some (53, false), .val 55 (.ldR (.t 54) 1 false)⟩,
  ⟨some (53, false), .val 56 (.not (.t 55))⟩,
  ⟨some (53, false), .val 57 (.mv (.t 56))⟩,
  ⟨some (57, true), .val 58 (.fldR (.t 7) 1 1)⟩,
  ⟨some (57, true), .val 59 (.ldR (.t 58) 1 false)⟩,
  ⟨some (57, true), .val 60 (.strs .neq (.t 59) (.c (sv [])))⟩,
  ⟨some (53, false), .val 61 (.pick (.t 57) (.t 60) (.c (bv false)))⟩,
  ⟨none, .val 62 (.pick (.t 53) (.c (bv true)) (.t 61))⟩,
  ⟨none, .call (some 63) zAA [(.t 44, .i 0 121 5), (.t 62, .v), (.c (iv 1), .v)]⟩] false [.forget [44, 45, 46, 47, 48, 49, 50, 51, 52, 53, 54, 55, 56, 57, 58, 59, 60, 61, 62, 63]]
abbrev zHC : HCode := .reg [⟨none, .val 64 (.mv (.t 0))⟩,
  ⟨none, .val 65 (.fldR (.t 8) 1 1)⟩,
  ⟨none, .val 66 (.ldR (.t 65) 1 false)⟩,
  ⟨none, .val 67 (.mv (.t 66))⟩,
  ⟨some (67, true), .val 68 (.fldR (.t 7) 2 1)⟩,
  ⟨some (67, true), .val 69 (.ldR (.t 68) 1 false)⟩,
  ⟨some (67, true), .call (some 70) zGh [(.t 69, .v)]⟩,
  ⟨some (67, true), .val 71 (.not (.t 70))⟩,
  ⟨none, .val 72 (.pick (.t 67) (.t 71) (.c (bv false)))⟩,
  ⟨none, .val 73 (.mv (.t 72))⟩,
  ⟨some (73, false), .val 74 (.fldR (.t 8) 1 1)⟩,
  ⟨some (73, false), .val 75 (.ldR (.t 74) 1 false)⟩,
  ⟨some (73, false), .val 76 (.not (.t 75))⟩,
  ⟨some (73, false), .val 77 (.mv (.t 76))⟩,
  ⟨some (77, true), .val 78 (.fldR (.t 7) 2 1)⟩,
  ⟨some (77, true), .val 79 (.ldR (.t 78) 1 false)⟩,
  ⟨some (77, true), .val 80 (.strs .neq (.t 79) (.c (sv [])))⟩,
  ⟨some (73, false), .val 81 (.pick (.t 77) (.t 80) (.c (bv false)))⟩,
  ⟨none, .val 82 (.pick (.t 73) (.c (bv true)) (.t 81))⟩,
  ⟨none, .call (some 83) zAA [(.t 64, .i 0 121 5), (.t 82, .v), (.c (iv 1), .v)]⟩] false [.forget [64, 65, 66, 67, 68, 69, 70, 71, 72, 73, 74, 75, 76, 77, 78, 79, 80, 81, 82, 83]]
abbrev zHD : HCode := .reg [⟨none, .val 84 (.mv (.t 0))⟩,
  ⟨none, .val 85 (.fldR (.t 8) 2 1)⟩,
  ⟨none, .val 86 (.ldR (.t 85) 1 false)⟩,
  ⟨none, .val 87 (.not (.t 86))⟩,
  ⟨none, .val 88 (.mv (.t 87))⟩,
  ⟨some (88, true), .val 89 (.fldR (.t 7) 3 2)⟩,
  ⟨some (88, true), .val 90 (.ldR (.t 89) 2 true)⟩,
  ⟨some (88, true), .val 91 (.bld [.v (.int .i64 0), .v (.int .i64 0)] [])⟩,
  ⟨some (88, true), .val 92 (.steq true [0, 0] (.t 90) (.t 91))⟩,
  ⟨none, .val 93 (.pick (.t 88) (.t 92) (.c (bv false)))⟩,
  ⟨none, .val 94 (.mv (.t 93))⟩,
  ⟨some (94, false), .val 95 (.fldR (.t 8) 3 1)⟩,
  ⟨some (94, false), .val 96 (.ldR (.t 95) 1 false)⟩,
  ⟨some (94, false), .val 97 (.not (.t 96))⟩,
  ⟨some (94, false), .val 98 (.mv (.t 97))⟩,
  ⟨some (98, true), .val 99 (.fldR (.t 7) 5 1)⟩,
  ⟨some (98, true), .val 100 (.ldR (.t 99) 1 false)⟩,
  ⟨some (98, true), .val 101 (.len false (.t 100))⟩,
  ⟨some (98, true), .val 102 (.ints .gtr (.t 101) (.c (iv 0)))⟩,
  ⟨some (94, false), .val 103 (.pick (.t 98) (.t 102) (.c (bv false)))⟩,
  ⟨none, .val 104 (.pick (.t 94) (.c (bv true)) (.t 103))⟩,
  ⟨none, .call (some 105) zAA [(.t 84, .i 0 121 5), (.t 104, .v), (.c (iv 1), .v)]⟩] false [.forget [84, 85, 86, 87, 88, 89, 90, 91, 92, 93, 94, 95, 96, 97, 98, 99, 100, 101, 102, 103, 104, 105]]
abbrev zHE : HCode := .reg [⟨none, .val 106 (.mv (.t 0))⟩,
  ⟨none, .val 107 (.fldR (.t 7) 3 2)⟩,
  ⟨none, .val 108 (.ldR (.t 107) 2 true)⟩,
  ⟨none, .call (some 109) zEM [(.t 108, .v)]⟩,
  ⟨none, .val 110 (.ints .neq (.t 109) (.c (iv 0)))⟩,
  ⟨none, .call (some 111) zAA [(.t 106, .i 0 121 5), (.t 110, .v), (.c (iv 3), .v)]⟩] false [.forget [106, 107, 108, 109, 110, 111]]
abbrev zHF : HCode := .reg [⟨none, .val 112 (.fldR (.t 8) 3 1)⟩,
  ⟨none, .val 113 (.ldR (.t 112) 1 false)⟩] false [.forget [112]]
abbrev zHG : HCode := .reg [⟨none, .val 114 (.mv (.t 0))⟩,
  ⟨none, .val 115 (.fldR (.t 7) 5 1)⟩,
  ⟨none, .val 116 (.ldR (.t 115) 1 false)⟩,
  ⟨none, .val 117 (.mv (.t 2))⟩,
  ⟨none, .val 118 (.ints .add (.t 117) (.c (iv 1)))⟩,
  ⟨none, .call (some 119) zBj [(.t 114, .i 0 121 5), (.t 116, .v), (.t 118, .v)]⟩] false [.forget [114, 115, 116, 117, 118, 119]]
abbrev zHH : HCode := .reg [⟨none, .val 120 (.ints .add (.t 30) (.c (iv 1)))⟩,
  ⟨none, .val 30 (.mv (.t 120))⟩] false [.forget [120]]
abbrev zPh : HCode := (.seq zIy (.seq (.seq zIz (.cond (.t 13) (.seq zIA .ret) .skip)) (.seq zIB (.seq zIC (.block 0 (.loop (.seq zID (.seq (.cond (.t 31) .skip (.exit 0)) (.seq (.block 1 (.seq zIE (.seq zIF (.seq zIG (.seq zIH (.seq zHC (.seq zHD (.seq zHE (.seq zHF (.cond (.t 113) zHG .skip)))))))))) zHH)))))))))
abbrev zCG : Env := { N := 121, Γ := [(121, 5), (126, 6), (132, 4)], L := 136, nfix := 1 }
abbrev zJH : List RSrc := []
theorem zII {base : Nat} {av : List AV} {r : RV} (hfo : zAC zCG base av) (hW : AVs.fits av → hwp Tryz.prog zPh (zCj zCG base av zJH r) (F0 zCG base av)) (hov : ∀ x, r.res = .ov x → zB5 av = 0 := by intro x h; cases h <;> rfl) : Contract Tryz.prog zCo av r :=
 contract_of_wp (fn := Tryz.f164) (c := Tryz.f164.body.getD .skip) (by kernel_rfl) (by kernel_rfl) (by kernel_rfl) (by kernel_rfl) (by kernel_rfl) (by kernel_rfl) (by kernel_rfl) hfo hW hov
abbrev zRV : HCode := .reg [⟨none, .val 2 (.mv (.c (iv 0)))⟩] false []
abbrev zRW : HCode := .reg [⟨none, .val 6 (.bld [.v (.int .i64 0), .v (.int .i64 0), .v (.int .i64 0), .v (.int .i64 0), .v (.int .i64 0)] [])⟩,
  ⟨none, .box 7 0 24 5 (.t 6)⟩,
  ⟨none, .val 3 (.mv (.t 7))⟩] false [.forget [6, 7]]
abbrev zRX : HCode := .reg [⟨none, .val 8 (.mv (.t 3))⟩,
  ⟨none, .val 9 (.mv (.t 0))⟩,
  ⟨none, .call (some 10) zBj [(.t 8, .i 0 24 5), (.t 9, .v), (.c (iv 1), .v)]⟩] false [.forget [8, 9, 10]]
abbrev zRY : HCode := .reg [⟨none, .call (some 11) zFJ []⟩,
  ⟨none, .val 12 (.mv (.c (iv 0)))⟩] false []
abbrev zRZ : HCode := .reg [⟨none, .val 13 (.ints .lss (.t 12) (.c (iv 4)))⟩] false []
abbrev zR0 : HCode := .reg [⟨none, .val 14 (.idxV 4 (.t 11) (.t 12))⟩,
  ⟨none, .val 5 (.mv (.t 14))⟩] false [.forget [14]]
abbrev zR1 : HCode := .reg [⟨none, .val 15 (.mv (.t 3))⟩,
  ⟨none, .val 16 (.mv (.t 5))⟩,
  ⟨none, .val 17 (.nilck (.t 15))⟩,
  ⟨none, .val 18 (.fldP (.t 17) 0)⟩,
  ⟨none, .val 19 (.ixB 5 (.t 18) (.t 16))⟩,
  ⟨none, .val 20 (.ldD (.t 19) 0 24 5)⟩,
  ⟨none, .val 21 (.ints .gtr (.t 20) (.c (iv 0)))⟩] false [.forget [15, 16, 17, 18, 19, 20]]
abbrev zR2 : HCode := .reg [⟨none, .val 22 (.mv (.t 5))⟩,
  ⟨none, .val 2 (.mv (.t 22))⟩] false [.forget [22]]
abbrev zR3 : HCode := .reg [⟨none, .val 23 (.ints .add (.t 12) (.c (iv 1)))⟩,
  ⟨none, .val 12 (.mv (.t 23))⟩] false [.forget [23]]
abbrev zR4 : HCode := .reg [⟨none, .val 2 (.mv (.c (iv 0)))⟩] false []
abbrev zY3 : HCode := (.seq zRV (.seq zRW (.seq zRX (.seq (.seq zRY (.block 0 (.loop (.seq zRZ (.seq (.cond (.t 13) .skip (.exit 0)) (.seq (.block 1 (.seq zR0 (.seq zR1 (.cond (.t 21) (.seq zR2 .ret) .skip)))) zR3)))))) (.seq zR4 .ret)))))
abbrev zEP : Env := { N := 24, Γ := [(24, 5)], L := 29, nfix := 0 }
abbrev zUv : List RSrc := [.tmp 2]
theorem zR5 {base : Nat} {av : List AV} {r : RV} (hfo : zAC zEP base av) (hW : AVs.fits av → hwp Tryz.prog zY3 (zCj zEP base av zUv r) (F0 zEP base av)) (hov : ∀ x, r.res = .ov x → zB5 av = 0 := by intro x h; cases h <;> rfl) : Contract Tryz.prog zBQ av r :=
 contract_of_wp (fn := Tryz.f54) (c := Tryz.f54.body.getD .skip) (by kernel_rfl) (by kernel_rfl) (by kernel_rfl) (by kernel_rfl) (by kernel_rfl) (by kernel_rfl) (by kernel_rfl) hfo hW hov
abbrev zY4 : HCode := .reg [⟨none, .val 2 (.mv (.c (bv false)))⟩,
  ⟨none, .val 3 (.mv (.c (bv false)))⟩,
  ⟨none, .val 4 (.mv (.c (bv false)))⟩,
  ⟨none, .val 5 (.mv (.c (bv false)))⟩] false []
abbrev zY5 : HCode := .reg [⟨none, .val 6 (.mv (.t 0))⟩,
  ⟨none, .call (some 7) zAP [(.t 6, .v), (.c (iv 1), .v), (.c (iv 8), .v)]⟩,
  ⟨none, .val 8 (.mv (.t 0))⟩,
  ⟨none, .call (some 9) zAP [(.t 8, .v), (.c (iv 4), .v), (.c (iv 8), .v)]⟩,
  ⟨none, .val 10 (.mv (.t 0))⟩,
  ⟨none, .val 11 (.ints .eql (.t 10) (.c (iv 9)))⟩,
  ⟨none, .val 12 (.mv (.t 11))⟩,
  ⟨some (12, false), .val 13 (.mv (.t 0))⟩,
  ⟨some (12, false), .val 14 (.ints .eql (.t 13) (.c (iv 10)))⟩,
  ⟨none, .val 15 (.pick (.t 12) (.c (bv true)) (.t 14))⟩,
  ⟨none, .val 16 (.mv (.t 0))⟩,
  ⟨none, .call (some 17) zAP [(.t 16, .v), (.c (iv 13), .v), (.c (iv 15), .v)]⟩,
  ⟨none, .val 2 (.mv (.t 7))⟩,
  ⟨none, .val 3 (.mv (.t 9))⟩,
  ⟨none, .val 4 (.mv (.t 15))⟩,
  ⟨none, .val 5 (.mv (.t 17))⟩] false [.forget [6, 7, 8, 9, 10, 11, 12, 13, 14, 15, 16, 17]]
abbrev yD3 : HCode := (.seq zY4 (.seq zY5 .ret))
abbrev zHI : Env := { N := 18, Γ := [], L := 18, nfix := 0 }
abbrev yAi : List RSrc := [.tmp 2, .tmp 3, .tmp 4, .tmp 5]
theorem zY6 {base : Nat} {av : List AV} {r : RV} (hfo : zAC zHI base av) (hW : AVs.fits av → hwp Tryz.prog yD3 (zCj zHI base av yAi r) (F0 zHI base av)) (hov : ∀ x, r.res = .ov x → zB5 av = 0 := by intro x h; cases h <;> rfl) : Contract Tryz.prog zFh av r :=
 contract_of_wp (fn := Tryz.f143) (c := Tryz.f143.body.getD .skip) (by kernel_rfl) (by kernel_rfl) (by kernel_rfl) (by kernel_rfl) (by kernel_rfl) (by kernel_rfl) (by kernel_rfl) hfo hW hov
abbrev zPi : HCode := .reg [⟨none, .val 4 (.mv (.c (bv false)))⟩] false []
abbrev zPj : HCode := .reg [⟨none, .val 14 (.mv (.t 1))⟩,
  ⟨none, .val 15 (.ints .gtr (.t 14) (.c (iv 3)))⟩,
  ⟨none, .val 16 (.mv (.t 15))⟩,
  ⟨some (16, false), .val 17 (.mv (.t 0))⟩,
  ⟨some (16, false), .val 18 (.len false (.t 17))⟩,
  ⟨some (16, false), .call (some 19) zAP [(.t 18, .v), (.c (iv 1), .v), (.c (iv 5), .v)]⟩,
  ⟨some (16, false), .val 20 (.not (.t 19))⟩,
  ⟨none, .val 21 (.pick (.t 16) (.c (bv true)) (.t 20))⟩] false [.forget [14, 15, 16, 17, 18, 19, 20]]
abbrev zPk : HCode := .reg [⟨none, .val 4 (.mv (.c (bv true)))⟩] false []
abbrev zPl : HCode := .reg [⟨none, .val 5 (.mv (.c (iv 0)))⟩] false []
abbrev zPm : HCode := .reg [⟨none, .val 22 (.mv (.t 5))⟩,
  ⟨none, .val 23 (.mv (.t 0))⟩,
  ⟨none, .val 24 (.len false (.t 23))⟩,
  ⟨none, .val 25 (.ints .lss (.t 22) (.t 24))⟩] false [.forget [22, 23, 24]]
abbrev zPn : HCode := .reg [⟨none, .val 28 (.mv (.t 0))⟩,
  ⟨none, .val 29 (.mv (.t 5))⟩,
  ⟨none, .val 30 (.idxA 2 (.t 28) (.t 29))⟩,
  ⟨none, .val 31 (.ldR (.t 30) 2 true)⟩,
  ⟨none, .alloc 6 0 98 [.nl 2, .nl 1]⟩,
  ⟨none, .sto (.t 6) 0 98 0 2 (.t 31)⟩] false [.frz 0 98 2, .forget [28, 29, 30, 31]]
abbrev zPo : HCode := .reg [⟨none, .val 32 (.fldR (.t 6) 0 1)⟩,
  ⟨none, .val 33 (.ldR (.t 32) 1 false)⟩,
  ⟨none, .val 34 (.len false (.t 33))⟩,
  ⟨none, .call (some 35) zAP [(.t 34, .v), (.c (iv 1), .v), (.c (iv 5), .v)]⟩,
  ⟨none, .val 36 (.not (.t 35))⟩,
  ⟨none, .val 37 (.mv (.t 36))⟩,
  ⟨some (37, false), .val 38 (.fldR (.t 6) 1 1)⟩,
  ⟨some (37, false), .val 39 (.ldR (.t 38) 1 false)⟩,
  ⟨some (37, false), .val 40 (.len false (.t 39))⟩,
  ⟨some (37, false), .val 41 (.fldR (.t 6) 0 1)⟩,
  ⟨some (37, false), .val 42 (.ldR (.t 41) 1 false)⟩,
  ⟨some (37, false), .val 43 (.len false (.t 42))⟩,
  ⟨some (37, false), .val 44 (.ints .sub (.t 43) (.c (iv 1)))⟩,
  ⟨some (37, false), .val 45 (.ints .neq (.t 40) (.t 44))⟩,
  ⟨none, .val 46 (.pick (.t 37) (.c (bv true)) (.t 45))⟩] false [.forget [32, 33, 34, 35, 36, 37, 38, 39, 40, 41, 42, 43, 44, 45]]
abbrev zPp : HCode := .reg [⟨none, .val 4 (.mv (.c (bv true)))⟩] false []
abbrev zPq : HCode := .reg [⟨none, .val 7 (.mv (.c (iv 0)))⟩] false []
abbrev zPr : HCode := .reg [⟨none, .val 47 (.mv (.t 7))⟩,
  ⟨none, .val 48 (.fldR (.t 6) 0 1)⟩,
  ⟨none, .val 49 (.ldR (.t 48) 1 false)⟩,
  ⟨none, .val 50 (.len false (.t 49))⟩,
  ⟨none, .val 51 (.ints .lss (.t 47) (.t 50))⟩] false [.forget [47, 48, 49, 50]]
abbrev zM6 : HCode := .reg [⟨none, .val 54 (.fldR (.t 6) 0 1)⟩,
  ⟨none, .val 55 (.ldR (.t 54) 1 false)⟩,
  ⟨none, .val 56 (.mv (.t 7))⟩,
  ⟨none, .val 57 (.idxA 2 (.t 55) (.t 56))⟩,
  ⟨none, .val 58 (.fldR (.t 57) 1 1)⟩,
  ⟨none, .val 59 (.ldR (.t 58) 1 false)⟩,
  ⟨none, .val 60 (.len false (.t 59))⟩,
  ⟨none, .val 61 (.ints .gtr (.t 60) (.c (iv 6)))⟩] false [.forget [54, 55, 56, 57, 58, 59, 60]]
abbrev zM7 : HCode := .reg [⟨none, .val 4 (.mv (.c (bv true)))⟩] false []
abbrev zM8 : HCode := .reg [⟨none, .val 8 (.mv (.c (iv 0)))⟩] false []
abbrev zM9 : HCode := .reg [⟨none, .val 62 (.mv (.t 8))⟩,
  ⟨none, .val 63 (.fldR (.t 6) 0 1)⟩,
  ⟨none, .val 64 (.ldR (.t 63) 1 false)⟩,
  ⟨none, .val 65 (.mv (.t 7))⟩,
  ⟨none, .val 66 (.idxA 2 (.t 64) (.t 65))⟩,
  ⟨none, .val 67 (.fldR (.t 66) 1 1)⟩,
  ⟨none, .val 68 (.ldR (.t 67) 1 false)⟩,
  ⟨none, .val 69 (.len false (.t 68))⟩,
  ⟨none, .val 70 (.ints .lss (.t 62) (.t 69))⟩] false [.forget [62, 63, 64, 65, 66, 67, 68, 69]]
abbrev zNa : HCode := .reg [⟨none, .val 73 (.fldR (.t 6) 0 1)⟩,
  ⟨none, .val 74 (.ldR (.t 73) 1 false)⟩,
  ⟨none, .val 75 (.mv (.t 7))⟩,
  ⟨none, .val 76 (.idxA 2 (.t 74) (.t 75))⟩,
  ⟨none, .val 77 (.fldR (.t 76) 1 1)⟩,
  ⟨none, .val 78 (.ldR (.t 77) 1 false)⟩,
  ⟨none, .val 79 (.mv (.t 8))⟩,
  ⟨none, .val 80 (.idxA 6 (.t 78) (.t 79))⟩,
  ⟨none, .val 81 (.ldR (.t 80) 6 true)⟩,
  ⟨none, .alloc 9 1 100 [.v (.int .i64 0), .v (mkS []), .v (mkS []), .v (.int .i64 0), .v (.int .i64 0), .nl 2]⟩,
  ⟨none, .sto (.t 9) 1 100 0 6 (.t 81)⟩] false [.frz 1 100 6, .forget [73, 74, 75, 76, 77, 78, 79, 80, 81]]
abbrev zNb : HCode := .reg [⟨none, .val 83 (.fldR (.t 9) 0 1)⟩,
  ⟨none, .val 84 (.ldR (.t 83) 1 false)⟩,
  ⟨none, .call (some 85) zFh [(.t 84, .v)]⟩,
  ⟨none, .val 82 (.mv (.t 85))⟩,
  ⟨none, .val 86 (.ext 82 0)⟩,
  ⟨none, .val 87 (.ext 82 1)⟩,
  ⟨none, .val 88 (.ext 82 2)⟩,
  ⟨none, .val 89 (.ext 82 3)⟩,
  ⟨none, .val 10 (.mv (.t 86))⟩,
  ⟨none, .val 11 (.mv (.t 87))⟩,
  ⟨none, .val 12 (.mv (.t 88))⟩,
  ⟨none, .val 13 (.mv (.t 89))⟩] false [.forget [10, 11, 12, 82, 83, 84, 85, 86, 87, 88, 89]]
abbrev zNc : HCode := .reg [⟨none, .val 90 (.mv (.t 13))⟩,
  ⟨none, .val 91 (.mv (.t 90))⟩,
  ⟨some (91, true), .val 92 (.fldR (.t 9) 5 1)⟩,
  ⟨some (91, true), .val 93 (.ldR (.t 92) 1 false)⟩,
  ⟨some (91, true), .val 94 (.mv (.t 1))⟩,
  ⟨some (91, true), .val 95 (.ints .add (.t 94) (.c (iv 1)))⟩,
  ⟨some (91, true), .call (some 96) zDy [(.t 93, .v), (.t 95, .v)]⟩,
  ⟨none, .val 97 (.pick (.t 91) (.t 96) (.c (bv false)))⟩] false [.forget [90, 91, 92, 93, 94, 95, 96]]
abbrev zNd : HCode := .reg [⟨none, .val 4 (.mv (.c (bv true)))⟩] false []
abbrev zNe : HCode := .reg [⟨none, .val 71 (.mv (.t 8))⟩,
  ⟨none, .val 72 (.ints .add (.t 71) (.c (iv 1)))⟩,
  ⟨none, .val 8 (.mv (.t 72))⟩] false [.forget [71, 72]]
abbrev zNf : HCode := .reg [⟨none, .val 52 (.mv (.t 7))⟩,
  ⟨none, .val 53 (.ints .add (.t 52) (.c (iv 1)))⟩,
  ⟨none, .val 7 (.mv (.t 53))⟩] false [.forget [52, 53]]
abbrev zNg : HCode := .reg [⟨none, .val 26 (.mv (.t 5))⟩,
  ⟨none, .val 27 (.ints .add (.t 26) (.c (iv 1)))⟩,
  ⟨none, .val 5 (.mv (.t 27))⟩] false [.forget [26, 27]]
abbrev zNh : HCode := .reg [⟨none, .val 4 (.mv (.c (bv false)))⟩] false []
abbrev zWY : HCode := (.seq zPi (.seq (.seq zPj (.cond (.t 21) (.seq zPk .ret) .skip)) (.seq (.seq zPl (.block 0 (.loop (.seq (.seq zPm (.cond (.t 25) .skip (.exit 0))) (.seq (.block 1 (.seq zPn (.seq (.seq zPo (.cond (.t 46) (.seq zPp .ret) .skip)) (.seq zPq (.block 2 (.loop (.seq (.seq zPr (.cond (.t 51) .skip (.exit 2))) (.seq (.block 3 (.seq (.seq zM6 (.cond (.t 61) (.seq zM7 .ret) .skip)) (.seq zM8 (.block 4 (.loop (.seq (.seq zM9 (.cond (.t 70) .skip (.exit 4))) (.seq (.block 5 (.seq zNa (.seq zNb (.seq zNc (.cond (.t 97) (.seq zNd .ret) .skip))))) zNe))))))) zNf)))))))) zNg))))) (.seq zNh .ret))))
abbrev zD7 : Env := { N := 98, Γ := [(98, 2), (100, 6)], L := 106, nfix := 0 }
abbrev zR6 : List RSrc := [.tmp 4]
theorem zPs {base : Nat} {av : List AV} {r : RV} (hfo : zAC zD7 base av) (hW : AVs.fits av → hwp Tryz.prog zWY (zCj zD7 base av zR6 r) (F0 zD7 base av)) (hov : ∀ x, r.res = .ov x → zB5 av = 0 := by intro x h; cases h <;> rfl) : Contract Tryz.prog zDy av r :=
 contract_of_wp (fn := Tryz.f92) (c := Tryz.f92.body.getD .skip) (by kernel_rfl) (by kernel_rfl) (by kernel_rfl) (by kernel_rfl) (by kernel_rfl) (by kernel_rfl) (by kernel_rfl) hfo hW hov
abbrev zPt : HCode := .reg [⟨none, .val 2 (.mv (.c (bv false)))⟩] false []
abbrev zPu : HCode := .reg [⟨none, .val 3 (.mv (.c (iv 0)))⟩] false []
abbrev zPv : HCode := .reg [⟨none, .val 12 (.mv (.t 3))⟩,
  ⟨none, .val 13 (.mv (.t 0))⟩,
  ⟨none, .val 14 (.len false (.t 13))⟩,
  ⟨none, .val 15 (.ints .lss (.t 12) (.t 14))⟩] false [.forget [12, 13, 14]]
abbrev zPw : HCode := .reg [⟨none, .val 4 (.mv (.c (iv 0)))⟩] false []
abbrev zPx : HCode := .reg [⟨none, .val 18 (.mv (.t 4))⟩,
  ⟨none, .val 19 (.mv (.t 0))⟩,
  ⟨none, .val 20 (.mv (.t 3))⟩,
  ⟨none, .val 21 (.idxA 2 (.t 19) (.t 20))⟩,
  ⟨none, .val 22 (.fldR (.t 21) 1 1)⟩,
  ⟨none, .val 23 (.ldR (.t 22) 1 false)⟩,
  ⟨none, .val 24 (.len false (.t 23))⟩,
  ⟨none, .val 25 (.ints .lss (.t 18) (.t 24))⟩] false [.forget [18, 19, 20, 21, 22, 23, 24]]
abbrev zPy : HCode := .reg [⟨none, .val 28 (.mv (.t 0))⟩,
  ⟨none, .val 29 (.mv (.t 3))⟩,
  ⟨none, .val 30 (.idxA 2 (.t 28) (.t 29))⟩,
  ⟨none, .val 31 (.fldR (.t 30) 1 1)⟩,
  ⟨none, .val 32 (.ldR (.t 31) 1 false)⟩,
  ⟨none, .val 33 (.mv (.t 4))⟩,
  ⟨none, .val 34 (.idxA 1 (.t 32) (.t 33))⟩,
  ⟨none, .val 35 (.ldR (.t 34) 1 false)⟩,
  ⟨none, .call (some 36) zAP [(.t 35, .v), (.c (iv 1), .v), (.c (iv 4), .v)]⟩,
  ⟨none, .val 37 (.not (.t 36))⟩] false [.forget [28, 29, 30, 31, 32, 33, 34, 35, 36]]
abbrev zPz : HCode := .reg [⟨none, .val 2 (.mv (.c (bv true)))⟩] false []
abbrev zPA : HCode := .reg [⟨none, .val 26 (.mv (.t 4))⟩,
  ⟨none, .val 27 (.ints .add (.t 26) (.c (iv 1)))⟩,
  ⟨none, .val 4 (.mv (.t 27))⟩] false [.forget [26, 27]]
abbrev zPB : HCode := .reg [⟨none, .val 5 (.mv (.c (iv 0)))⟩] false []
abbrev zPC : HCode := .reg [⟨none, .val 38 (.mv (.t 5))⟩,
  ⟨none, .val 39 (.mv (.t 0))⟩,
  ⟨none, .val 40 (.mv (.t 3))⟩,
  ⟨none, .val 41 (.idxA 2 (.t 39) (.t 40))⟩,
  ⟨none, .val 42 (.fldR (.t 41) 0 1)⟩,
  ⟨none, .val 43 (.ldR (.t 42) 1 false)⟩,
  ⟨none, .val 44 (.len false (.t 43))⟩,
  ⟨none, .val 45 (.ints .lss (.t 38) (.t 44))⟩] false [.forget [38, 39, 40, 41, 42, 43, 44]]
abbrev zNi : HCode := .reg [⟨none, .val 6 (.mv (.c (iv 0)))⟩] false []
abbrev zNj : HCode := .reg [⟨none, .val 48 (.mv (.t 6))⟩,
  ⟨none, .val 49 (.mv (.t 0))⟩,
  ⟨none, .val 50 (.mv (.t 3))⟩,
  ⟨none, .val 51 (.idxA 2 (.t 49) (.t 50))⟩,
  ⟨none, .val 52 (.fldR (.t 51) 0 1)⟩,
  ⟨none, .val 53 (.ldR (.t 52) 1 false)⟩,
  ⟨none, .val 54 (.mv (.t 5))⟩,
  ⟨none, .val 55 (.idxA 2 (.t 53) (.t 54))⟩,
  ⟨none, .val 56 (.fldR (.t 55) 1 1)⟩,
  ⟨none, .val 57 (.ldR (.t 56) 1 false)⟩,
  ⟨none, .val 58 (.len false (.t 57))⟩,
  ⟨none, .val 59 (.ints .lss (.t 48) (.t 58))⟩] false [.forget [48, 49, 50, 51, 52, 53, 54, 55, 56, 57, 58]]
abbrev zNk : HCode := .reg [⟨none, .val 62 (.mv (.t 0))⟩,
  ⟨none, .val 63 (.mv (.t 3))⟩,
  ⟨none, .val 64 (.idxA 2 (.t 62) (.t 63))⟩,
  ⟨none, .val 65 (.fldR (.t 64) 0 1)⟩,
  ⟨none, .val 66 (.ldR (.t 65) 1 false)⟩,
  ⟨none, .val 67 (.mv (.t 5))⟩,
  ⟨none, .val 68 (.idxA 2 (.t 66) (.t 67))⟩,
  ⟨none, .val 69 (.fldR (.t 68) 1 1)⟩,
  ⟨none, .val 70 (.ldR (.t 69) 1 false)⟩,
  ⟨none, .val 71 (.mv (.t 6))⟩,
  ⟨none, .val 72 (.idxA 6 (.t 70) (.t 71))⟩,
  ⟨none, .val 73 (.ldR (.t 72) 6 true)⟩,
  ⟨none, .alloc 7 0 94 [.v (.int .i64 0), .v (mkS []), .v (mkS []), .v (.int .i64 0), .v (.int .i64 0), .nl 2]⟩,
  ⟨none, .sto (.t 7) 0 94 0 6 (.t 73)⟩] false [.frz 0 94 6, .forget [62, 63, 64, 65, 66, 67, 68, 69, 70, 71, 72, 73]]
abbrev zNl : HCode := .reg [⟨none, .val 75 (.fldR (.t 7) 0 1)⟩,
  ⟨none, .val 76 (.ldR (.t 75) 1 false)⟩,
  ⟨none, .call (some 77) zFh [(.t 76, .v)]⟩,
  ⟨none, .val 74 (.mv (.t 77))⟩,
  ⟨none, .val 78 (.ext 74 0)⟩,
  ⟨none, .val 79 (.ext 74 1)⟩,
  ⟨none, .val 80 (.ext 74 2)⟩,
  ⟨none, .val 81 (.ext 74 3)⟩,
  ⟨none, .val 8 (.mv (.t 78))⟩,
  ⟨none, .val 9 (.mv (.t 79))⟩,
  ⟨none, .val 10 (.mv (.t 80))⟩,
  ⟨none, .val 11 (.mv (.t 81))⟩] false [.forget [8, 9, 10, 74, 75, 76, 77, 78, 79, 80, 81]]
abbrev zNm : HCode := .reg [⟨none, .val 82 (.fldR (.t 7) 0 1)⟩,
  ⟨none, .val 83 (.ldR (.t 82) 1 false)⟩,
  ⟨none, .call (some 84) zAP [(.t 83, .v), (.c (iv 1), .v), (.c (iv 15), .v)]⟩,
  ⟨none, .val 85 (.not (.t 84))⟩,
  ⟨none, .val 86 (.mv (.t 85))⟩,
  ⟨some (86, false), .val 87 (.mv (.t 11))⟩,
  ⟨some (86, false), .val 88 (.mv (.t 87))⟩,
  ⟨some (88, true), .val 89 (.fldR (.t 7) 5 1)⟩,
  ⟨some (88, true), .val 90 (.ldR (.t 89) 1 false)⟩,
  ⟨some (88, true), .call (some 91) zDx [(.t 90, .v)]⟩,
  ⟨some (86, false), .val 92 (.pick (.t 88) (.t 91) (.c (bv false)))⟩,
  ⟨none, .val 93 (.pick (.t 86) (.c (bv true)) (.t 92))⟩] false [.forget [82, 83, 84, 85, 86, 87, 88, 89, 90, 91, 92]]
abbrev zNn : HCode := .reg [⟨none, .val 2 (.mv (.c (bv true)))⟩] false []
abbrev zNo : HCode := .reg [⟨none, .val 60 (.mv (.t 6))⟩,
  ⟨none, .val 61 (.ints .add (.t 60) (.c (iv 1)))⟩,
  ⟨none, .val 6 (.mv (.t 61))⟩] false [.forget [60, 61]]
abbrev zNp : HCode := .reg [⟨none, .val 46 (.mv (.t 5))⟩,
  ⟨none, .val 47 (.ints .add (.t 46) (.c (iv 1)))⟩,
  ⟨none, .val 5 (.mv (.t 47))⟩] false [.forget [46, 47]]
abbrev zNq : HCode := .reg [⟨none, .val 16 (.mv (.t 3))⟩,
  ⟨none, .val 17 (.ints .add (.t 16) (.c (iv 1)))⟩,
  ⟨none, .val 3 (.mv (.t 17))⟩] false [.forget [16, 17]]
abbrev zNr : HCode := .reg [⟨none, .val 2 (.mv (.c (bv false)))⟩] false []
abbrev zWZ : HCode := (.seq zPt (.seq (.seq zPu (.block 0 (.loop (.seq (.seq zPv (.cond (.t 15) .skip (.exit 0))) (.seq (.block 1 (.seq (.seq zPw (.block 2 (.loop (.seq (.seq zPx (.cond (.t 25) .skip (.exit 2))) (.seq (.block 3 (.seq zPy (.cond (.t 37) (.seq zPz .ret) .skip))) zPA))))) (.seq zPB (.block 4 (.loop (.seq (.seq zPC (.cond (.t 45) .skip (.exit 4))) (.seq (.block 5 (.seq zNi (.block 6 (.loop (.seq (.seq zNj (.cond (.t 59) .skip (.exit 6))) (.seq (.block 7 (.seq zNk (.seq zNl (.seq zNm (.cond (.t 93) (.seq zNn .ret) .skip))))) zNo)))))) zNp))))))) zNq))))) (.seq zNr .ret)))
abbrev zD8 : Env := { N := 94, Γ := [(94, 6)], L := 100, nfix := 0 }
abbrev zR7 : List RSrc := [.tmp 2]
theorem zPD {base : Nat} {av : List AV} {r : RV} (hfo : zAC zD8 base av) (hW : AVs.fits av → hwp Tryz.prog zWZ (zCj zD8 base av zR7 r) (F0 zD8 base av)) (hov : ∀ x, r.res = .ov x → zB5 av = 0 := by intro x h; cases h <;> rfl) : Contract Tryz.prog zDx av r :=
 contract_of_wp (fn := Tryz.f93) (c := Tryz.f93.body.getD .skip) (by kernel_rfl) (by kernel_rfl) (by kernel_rfl) (by kernel_rfl) (by kernel_rfl) (by kernel_rfl) (by kernel_rfl) hfo hW hov
abbrev zPE : HCode := .reg [⟨none, .val 2 (.mv (.c (bv false)))⟩] false []
abbrev zPF : HCode := .reg [⟨none, .val 3 (.mv (.c (iv 0)))⟩] false []
abbrev zPG : HCode := .reg [⟨none, .val 12 (.mv (.t 3))⟩,
  ⟨none, .val 13 (.mv (.t 0))⟩,
  ⟨none, .val 14 (.len false (.t 13))⟩,
  ⟨none, .val 15 (.ints .lss (.t 12) (.t 14))⟩] false [.forget [12, 13, 14]]
abbrev zPH : HCode := .reg [⟨none, .val 4 (.mv (.c (iv 0)))⟩] false []
abbrev zPI : HCode := .reg [⟨none, .val 18 (.mv (.t 4))⟩,
  ⟨none, .val 19 (.mv (.t 0))⟩,
  ⟨none, .val 20 (.mv (.t 3))⟩,
  ⟨none, .val 21 (.idxA 2 (.t 19) (.t 20))⟩,
  ⟨none, .val 22 (.fldR (.t 21) 0 1)⟩,
  ⟨none, .val 23 (.ldR (.t 22) 1 false)⟩,
  ⟨none, .val 24 (.len false (.t 23))⟩,
  ⟨none, .val 25 (.ints .lss (.t 18) (.t 24))⟩] false [.forget [18, 19, 20, 21, 22, 23, 24]]
abbrev zPJ : HCode := .reg [⟨none, .val 28 (.mv (.t 0))⟩,
  ⟨none, .val 29 (.mv (.t 3))⟩,
  ⟨none, .val 30 (.idxA 2 (.t 28) (.t 29))⟩,
  ⟨none, .val 31 (.fldR (.t 30) 0 1)⟩,
  ⟨none, .val 32 (.ldR (.t 31) 1 false)⟩,
  ⟨none, .val 33 (.mv (.t 4))⟩,
  ⟨none, .val 34 (.idxA 2 (.t 32) (.t 33))⟩,
  ⟨none, .val 35 (.ldR (.t 34) 2 true)⟩,
  ⟨none, .alloc 5 0 127 [.v (mkS []), .nl 6]⟩,
  ⟨none, .sto (.t 5) 0 127 0 2 (.t 35)⟩] false [.frz 0 127 2, .forget [28, 29, 30, 31, 32, 33, 34, 35]]
abbrev zPK : HCode := .reg [⟨none, .val 36 (.fldR (.t 5) 0 1)⟩,
  ⟨none, .val 37 (.ldR (.t 36) 1 false)⟩,
  ⟨none, .val 38 (.strs .neq (.t 37) (.c (sv [])))⟩,
  ⟨none, .val 39 (.mv (.t 38))⟩,
  ⟨some (39, true), .val 40 (.fldR (.t 5) 0 1)⟩,
  ⟨some (39, true), .val 41 (.ldR (.t 40) 1 false)⟩,
  ⟨some (39, true), .call (some 42) zD2 [(.t 41, .v)]⟩,
  ⟨some (39, true), .val 43 (.not (.t 42))⟩,
  ⟨none, .val 44 (.pick (.t 39) (.t 43) (.c (bv false)))⟩] false [.forget [36, 37, 38, 39, 40, 41, 42, 43]]
abbrev zPL : HCode := .reg [⟨none, .val 2 (.mv (.c (bv true)))⟩] false []
abbrev zPM : HCode := .reg [⟨none, .val 6 (.mv (.c (iv 0)))⟩] false []
abbrev zPN : HCode := .reg [⟨none, .val 45 (.mv (.t 6))⟩,
  ⟨none, .val 46 (.fldR (.t 5) 1 1)⟩,
  ⟨none, .val 47 (.ldR (.t 46) 1 false)⟩,
  ⟨none, .val 48 (.len false (.t 47))⟩,
  ⟨none, .val 49 (.ints .lss (.t 45) (.t 48))⟩] false [.forget [45, 46, 47, 48]]
abbrev zNs : HCode := .reg [⟨none, .val 52 (.fldR (.t 5) 1 1)⟩,
  ⟨none, .val 53 (.ldR (.t 52) 1 false)⟩,
  ⟨none, .val 54 (.mv (.t 6))⟩,
  ⟨none, .val 55 (.idxA 6 (.t 53) (.t 54))⟩,
  ⟨none, .val 56 (.ldR (.t 55) 6 true)⟩,
  ⟨none, .alloc 7 1 129 [.v (.int .i64 0), .v (mkS []), .v (mkS []), .v (.int .i64 0), .v (.int .i64 0), .nl 2]⟩,
  ⟨none, .sto (.t 7) 1 129 0 6 (.t 56)⟩] false [.frz 1 129 6, .forget [52, 53, 54, 55, 56]]
abbrev zNt : HCode := .reg [⟨none, .val 58 (.fldR (.t 7) 0 1)⟩,
  ⟨none, .val 59 (.ldR (.t 58) 1 false)⟩,
  ⟨none, .call (some 60) zFh [(.t 59, .v)]⟩,
  ⟨none, .val 57 (.mv (.t 60))⟩,
  ⟨none, .val 61 (.ext 57 0)⟩,
  ⟨none, .val 62 (.ext 57 1)⟩,
  ⟨none, .val 63 (.ext 57 2)⟩,
  ⟨none, .val 64 (.ext 57 3)⟩,
  ⟨none, .val 8 (.mv (.t 61))⟩,
  ⟨none, .val 9 (.mv (.t 62))⟩,
  ⟨none, .val 10 (.mv (.t 63))⟩,
  ⟨none, .val 11 (.mv (.t 64))⟩] false [.forget [57, 58, 59, 60, 61, 62, 63, 64]]
abbrev zNu : HCode := .reg [⟨none, .val 65 (.mv (.t 8))⟩,
  ⟨none, .val 66 (.mv (.t 65))⟩,
  ⟨some (66, true), .val 67 (.fldR (.t 7) 1 1)⟩,
  ⟨some (66, true), .val 68 (.ldR (.t 67) 1 false)⟩,
  ⟨some (66, true), .call (some 69) zD2 [(.t 68, .v)]⟩,
  ⟨some (66, true), .val 70 (.not (.t 69))⟩,
  ⟨none, .val 71 (.pick (.t 66) (.t 70) (.c (bv false)))⟩,
  ⟨none, .val 72 (.mv (.t 71))⟩,
  ⟨some (72, false), .val 73 (.mv (.t 8))⟩,
  ⟨some (72, false), .val 74 (.not (.t 73))⟩,
  ⟨some (72, false), .val 75 (.mv (.t 74))⟩,
  ⟨some (75, true), .val 76 (.fldR (.t 7) 1 1)⟩,
  ⟨some (75, true), .val 77 (.ldR (.t 76) 1 false)⟩,
  ⟨some (75, true), .val 78 (.strs .neq (.t 77) (.c (sv [])))⟩,
  ⟨some (72, false), .val 79 (.pick (.t 75) (.t 78) (.c (bv false)))⟩,
  ⟨none, .val 80 (.pick (.t 72) (.c (bv true)) (.t 79))⟩,
  ⟨none, .val 81 (.mv (.t 80))⟩,
  ⟨some (81, false), .val 82 (.mv (.t 9))⟩,
  ⟨some (81, false), .val 83 (.mv (.t 82))⟩,
  ⟨some (83, true), .val 84 (.fldR (.t 7) 2 1)⟩,
  ⟨some (83, true), .val 85 (.ldR (.t 84) 1 false)⟩,
  ⟨some (83, true), .call (some 86) zE0 [(.t 85, .v)]⟩,
  ⟨some (83, true), .val 87 (.not (.t 86))⟩,
  ⟨some (81, false), .val 88 (.pick (.t 83) (.t 87) (.c (bv false)))⟩,
  ⟨none, .val 89 (.pick (.t 81) (.c (bv true)) (.t 88))⟩,
  ⟨none, .val 90 (.mv (.t 89))⟩,
  ⟨some (90, false), .val 91 (.mv (.t 9))⟩,
  ⟨some (90, false), .val 92 (.not (.t 91))⟩,
  ⟨some (90, false), .val 93 (.mv (.t 92))⟩,
  ⟨some (93, true), .val 94 (.fldR (.t 7) 2 1)⟩,
  ⟨some (93, true), .val 95 (.ldR (.t 94) 1 false)⟩,
  ⟨some (93, true), .val 96 (.strs .neq (.t 95) (.c (sv [])))⟩,
  ⟨some (90, false), .val 97 (.pick (.t 93) (.t 96) (.c (bv false)))⟩,
  ⟨none, .val 98 (.pick (.t 90) (.c (bv true)) (.t 97))⟩,
  ⟨none, .val 99 (.mv (.t 98))⟩,
  ⟨some (99, false), .val 100 (.mv (.t 10))⟩,
  ⟨some (99, false), .val 101 (.not (.t 100))⟩,
  ⟨some (99, false), .val 102 (.mv (.t 101))⟩,
  ⟨some (102, true), .val 103 (.fldR (.t 7) 3 2)⟩,
  ⟨some (102, true), .val 104 (.ldR (.t 103) 2 true)⟩,
  ⟨some (102, true), .val 105 (.bld [.v (.int .i64 0), .v (.int .i64 0)] [])⟩,
  ⟨some (102, true), .val 106 (.steq true [0, 0] (.t 104) (.t 105))⟩,
  ⟨some (99, false), .val 107 (.pick (.t 102) (.t 106) (.c (bv false)))⟩,
  ⟨none, .val 108 (.pick (.t 99) (.c (bv true)) (.t 107))⟩,
  ⟨none, .val 109 (.mv (.t 108))⟩,
  ⟨some (109, false), .val 110 (.mv (.t 11))⟩,
  ⟨some (109, false), .val 111 (.not (.t 110))⟩,
  ⟨some (109, false), .val 112 (.mv (.t 111))⟩,
  ⟨some (112, true), .val 113 (.fldR (.t 7) 5 1)⟩,
  ⟨some (112, true), .val 114 (.ldR (.t 113) 1 false)⟩,
  ⟨some (112, true), .val 115 (.len false (.t 114))⟩,
  ⟨some (112, true), .val 116 (.ints .gtr (.t 115) (.c (iv 0)))⟩,
  ⟨some (109, false), .val 117 (.pick (.t 112) (.t 116) (.c (bv false)))⟩,
  ⟨none, .val 118 (.pick (.t 109) (.c (bv true)) (.t 117))⟩,
  ⟨none, .val 119 (.mv (.t 118))⟩,
  ⟨some (119, false), .val 120 (.mv (.t 11))⟩,
  ⟨some (119, false), .val 121 (.mv (.t 120))⟩,
  ⟨some (121, true), .val 122 (.fldR (.t 7) 5 1)⟩,
  ⟨some (121, true), .val 123 (.ldR (.t 122) 1 false)⟩,
  ⟨some (121, true), .call (some 124) zDw [(.t 123, .v)]⟩,
  ⟨some (119, false), .val 125 (.pick (.t 121) (.t 124) (.c (bv false)))⟩,
  ⟨none, .val 126 (.pick (.t 119) (.c (bv true)) (.t 125))⟩] false [.forget [65, 66, 67, 68, 69, 70, 71, 72, 73, 74, 75, 76, 77, 78, 79, 80, 81, 82, 83, 84, 85, 86, 87, 88, 89, 90, 91, 92, 93, 94, 95, 96, 97, 98, 99, 100, 101, 102, 103, 104, 105, 106, 107, 108, 109, 110, 111, 112, 113, 114, 115, 116, 117, 118, 119, 120, 121, 122, 123, 124, 125]]
abbrev zNv : HCode := .reg [⟨none, .val 2 (.mv (.c (bv true)))⟩] false []
abbrev zNw : HCode := .reg [⟨none, .val 50 (.mv (.t 6))⟩,
  ⟨none, .val 51 (.ints .add (.t 50) (.c (iv 1)))⟩,
  ⟨none, .val 6 (.mv (.t 51))⟩] false [.forget [50, 51]]
abbrev zNx : HCode := .reg [⟨none, .val 26 (.mv (.t 4))⟩,
  ⟨none, .val 27 (.ints .add (.t 26) (.c (iv 1)))⟩,
  ⟨none, .val 4 (.mv (.t 27))⟩] false [.forget [26, 27]]
abbrev zNy : HCode := .reg [⟨none, .val 16 (.mv (.t 3))⟩,
  ⟨none, .val 17 (.ints .add (.t 16) (.c (iv 1)))⟩,
  ⟨none, .val 3 (.mv (.t 17))⟩] false [.forget [16, 17]]
abbrev zNz : HCode := .reg [⟨none, .val 2 (.mv (.c (bv false)))⟩] false []
abbrev zW0 : HCode := (.seq zPE (.seq (.seq zPF (.block 0 (.loop (.seq (.seq zPG (.cond (.t 15) .skip (.exit 0))) (.seq (.block 1 (.seq zPH (.block 2 (.loop (.seq (.seq zPI (.cond (.t 25) .skip (.exit 2))) (.seq (.block 3 (.seq zPJ (.seq (.seq zPK (.cond (.t 44) (.seq zPL .ret) .skip)) (.seq zPM (.block 4 (.loop (.seq (.seq zPN (.cond (.t 49) .skip (.exit 4))) (.seq (.block 5 (.seq zNs (.seq zNt (.seq zNu (.cond (.t 126) (.seq zNv .ret) .skip))))) zNw)))))))) zNx)))))) zNy))))) (.seq zNz .ret)))
abbrev zD9 : Env := { N := 127, Γ := [(127, 2), (129, 6)], L := 135, nfix := 0 }
abbrev zR8 : List RSrc := [.tmp 2]
theorem zPO {base : Nat} {av : List AV} {r : RV} (hfo : zAC zD9 base av) (hW : AVs.fits av → hwp Tryz.prog zW0 (zCj zD9 base av zR8 r) (F0 zD9 base av)) (hov : ∀ x, r.res = .ov x → zB5 av = 0 := by intro x h; cases h <;> rfl) : Contract Tryz.prog zDw av r :=
 contract_of_wp (fn := Tryz.f94) (c := Tryz.f94.body.getD .skip) (by kernel_rfl) (by kernel_rfl) (by kernel_rfl) (by kernel_rfl) (by kernel_rfl) (by kernel_rfl) (by kernel_rfl) hfo hW hov
abbrev zR9 : HCode := .reg [⟨none, .val 2 (.mv (.c (bv false)))⟩] false []
abbrev zSa : HCode := .reg [⟨none, .val 3 (.mv (.c (iv 0)))⟩] false []
abbrev zSb : HCode := .reg [⟨none, .val 7 (.mv (.t 3))⟩,
  ⟨none, .val 8 (.mv (.t 0))⟩,
  ⟨none, .val 9 (.len false (.t 8))⟩,
  ⟨none, .val 10 (.ints .lss (.t 7) (.t 9))⟩] false [.forget [7, 8, 9]]
abbrev zSc : HCode := .reg [⟨none, .val 4 (.mv (.c (iv 0)))⟩] false []
abbrev zSd : HCode := .reg [⟨none, .val 13 (.mv (.t 4))⟩,
  ⟨none, .val 14 (.mv (.t 0))⟩,
  ⟨none, .val 15 (.mv (.t 3))⟩,
  ⟨none, .val 16 (.idxA 2 (.t 14) (.t 15))⟩,
  ⟨none, .val 17 (.fldR (.t 16) 0 1)⟩,
  ⟨none, .val 18 (.ldR (.t 17) 1 false)⟩,
  ⟨none, .val 19 (.len false (.t 18))⟩,
  ⟨none, .val 20 (.ints .lss (.t 13) (.t 19))⟩] false [.forget [13, 14, 15, 16, 17, 18, 19]]
abbrev zSe : HCode := .reg [⟨none, .val 5 (.mv (.c (iv 0)))⟩] false []
abbrev zSf : HCode := .reg [⟨none, .val 23 (.mv (.t 5))⟩,
  ⟨none, .val 24 (.mv (.t 0))⟩,
  ⟨none, .val 25 (.mv (.t 3))⟩,
  ⟨none, .val 26 (.idxA 2 (.t 24) (.t 25))⟩,
  ⟨none, .val 27 (.fldR (.t 26) 0 1)⟩,
  ⟨none, .val 28 (.ldR (.t 27) 1 false)⟩,
  ⟨none, .val 29 (.mv (.t 4))⟩,
  ⟨none, .val 30 (.idxA 2 (.t 28) (.t 29))⟩,
  ⟨none, .val 31 (.fldR (.t 30) 1 1)⟩,
  ⟨none, .val 32 (.ldR (.t 31) 1 false)⟩,
  ⟨none, .val 33 (.len false (.t 32))⟩,
  ⟨none, .val 34 (.ints .lss (.t 23) (.t 33))⟩] false [.forget [23, 24, 25, 26, 27, 28, 29, 30, 31, 32, 33]]
abbrev zSg : HCode := .reg [⟨none, .val 37 (.mv (.t 0))⟩,
  ⟨none, .val 38 (.mv (.t 3))⟩,
  ⟨none, .val 39 (.idxA 2 (.t 37) (.t 38))⟩,
  ⟨none, .val 40 (.fldR (.t 39) 0 1)⟩,
  ⟨none, .val 41 (.ldR (.t 40) 1 false)⟩,
  ⟨none, .val 42 (.mv (.t 4))⟩,
  ⟨none, .val 43 (.idxA 2 (.t 41) (.t 42))⟩,
  ⟨none, .val 44 (.fldR (.t 43) 1 1)⟩,
  ⟨none, .val 45 (.ldR (.t 44) 1 false)⟩,
  ⟨none, .val 46 (.mv (.t 5))⟩,
  ⟨none, .val 47 (.idxA 6 (.t 45) (.t 46))⟩,
  ⟨none, .val 48 (.ldR (.t 47) 6 true)⟩,
  ⟨none, .alloc 6 0 58 [.v (.int .i64 0), .v (mkS []), .v (mkS []), .v (.int .i64 0), .v (.int .i64 0), .nl 2]⟩,
  ⟨none, .sto (.t 6) 0 58 0 6 (.t 48)⟩] false [.frz 0 58 6, .forget [37, 38, 39, 40, 41, 42, 43, 44, 45, 46, 47, 48]]
abbrev zSh : HCode := .reg [⟨none, .val 49 (.fldR (.t 6) 3 2)⟩,
  ⟨none, .val 50 (.ldR (.t 49) 2 true)⟩,
  ⟨none, .call (some 51) zEm [(.t 50, .v)]⟩,
  ⟨none, .val 52 (.ints .neq (.t 51) (.c (iv 0)))⟩,
  ⟨none, .val 53 (.mv (.t 52))⟩,
  ⟨some (53, false), .val 54 (.fldR (.t 6) 5 1)⟩,
  ⟨some (53, false), .val 55 (.ldR (.t 54) 1 false)⟩,
  ⟨some (53, false), .call (some 56) zD6 [(.t 55, .v)]⟩,
  ⟨none, .val 57 (.pick (.t 53) (.c (bv true)) (.t 56))⟩] false [.forget [49, 50, 51, 52, 53, 54, 55, 56]]
abbrev zSi : HCode := .reg [⟨none, .val 2 (.mv (.c (bv true)))⟩] false []
abbrev zPP : HCode := .reg [⟨none, .val 35 (.mv (.t 5))⟩,
  ⟨none, .val 36 (.ints .add (.t 35) (.c (iv 1)))⟩,
  ⟨none, .val 5 (.mv (.t 36))⟩] false [.forget [35, 36]]
abbrev zPQ : HCode := .reg [⟨none, .val 21 (.mv (.t 4))⟩,
  ⟨none, .val 22 (.ints .add (.t 21) (.c (iv 1)))⟩,
  ⟨none, .val 4 (.mv (.t 22))⟩] false [.forget [21, 22]]
abbrev zPR : HCode := .reg [⟨none, .val 11 (.mv (.t 3))⟩,
  ⟨none, .val 12 (.ints .add (.t 11) (.c (iv 1)))⟩,
  ⟨none, .val 3 (.mv (.t 12))⟩] false [.forget [11, 12]]
abbrev zPS : HCode := .reg [⟨none, .val 2 (.mv (.c (bv false)))⟩] false []
abbrev zY7 : HCode := (.seq zR9 (.seq (.seq zSa (.block 0 (.loop (.seq (.seq zSb (.cond (.t 10) .skip (.exit 0))) (.seq (.block 1 (.seq zSc (.block 2 (.loop (.seq (.seq zSd (.cond (.t 20) .skip (.exit 2))) (.seq (.block 3 (.seq zSe (.block 4 (.loop (.seq (.seq zSf (.cond (.t 34) .skip (.exit 4))) (.seq (.block 5 (.seq zSg (.seq zSh (.cond (.t 57) (.seq zSi .ret) .skip)))) zPP)))))) zPQ)))))) zPR))))) (.seq zPS .ret)))
abbrev zEQ : Env := { N := 58, Γ := [(58, 6)], L := 64, nfix := 0 }
abbrev zUw : List RSrc := [.tmp 2]
theorem zSj {base : Nat} {av : List AV} {r : RV} (hfo : zAC zEQ base av) (hW : AVs.fits av → hwp Tryz.prog zY7 (zCj zEQ base av zUw r) (F0 zEQ base av)) (hov : ∀ x, r.res = .ov x → zB5 av = 0 := by intro x h; cases h <;> rfl) : Contract Tryz.prog zD6 av r :=
 contract_of_wp (fn := Tryz.f95) (c := Tryz.f95.body.getD .skip) (by kernel_rfl) (by kernel_rfl) (by kernel_rfl) (by kernel_rfl) (by kernel_rfl) (by kernel_rfl) (by kernel_rfl) hfo hW hov
abbrev zJI : HCode := .reg [⟨none, .val 2 (.mv (.c (iv 0)))⟩] false []
abbrev zJJ : HCode := .reg [⟨none, .val 4 (.mv (.t 0))⟩,
  ⟨none, .call (some 5) zDy [(.t 4, .v), (.c (iv 1), .v)]⟩,
  ⟨none, .val 3 (.mv (.t 5))⟩] false [.forget [4, 5]]
abbrev zJK : HCode := .reg [⟨none, .val 2 (.mv (.c (iv 2)))⟩] false []
abbrev zJL : HCode := .reg [⟨none, .val 7 (.mv (.t 0))⟩,
  ⟨none, .call (some 8) zDx [(.t 7, .v)]⟩,
  ⟨none, .val 6 (.mv (.t 8))⟩] false [.forget [7, 8]]
abbrev zJM : HCode := .reg [⟨none, .val 2 (.mv (.c (iv 4)))⟩] false []
abbrev zJN : HCode := .reg [⟨none, .val 10 (.mv (.t 0))⟩,
  ⟨none, .call (some 11) zDw [(.t 10, .v)]⟩,
  ⟨none, .val 9 (.mv (.t 11))⟩] false [.forget [10, 11]]
abbrev zJO : HCode := .reg [⟨none, .val 2 (.mv (.c (iv 1)))⟩] false []
abbrev zJP : HCode := .reg [⟨none, .val 13 (.mv (.t 0))⟩,
  ⟨none, .call (some 14) zD6 [(.t 13, .v)]⟩,
  ⟨none, .val 12 (.mv (.t 14))⟩] false [.forget [13, 14]]
abbrev zJQ : HCode := .reg [⟨none, .val 2 (.mv (.c (iv 3)))⟩] false []
abbrev zJR : HCode := .reg [⟨none, .val 2 (.mv (.c (iv 0)))⟩] false []
abbrev zSk : HCode := (.seq zJI (.seq (.block 0 (.seq zJJ (.cond (.t 3) (.seq zJK .ret) (.seq zJL (.cond (.t 6) (.seq zJM .ret) (.seq zJN (.cond (.t 9) (.seq zJO .ret) (.seq zJP (.cond (.t 12) (.seq zJQ .ret) .skip))))))))) (.seq zJR .ret)))
abbrev zC4 : Env := { N := 15, Γ := [], L := 15, nfix := 0 }
abbrev zNA : List RSrc := [.tmp 2]
theorem zJS {base : Nat} {av : List AV} {r : RV} (hfo : zAC zC4 base av) (hW : AVs.fits av → hwp Tryz.prog zSk (zCj zC4 base av zNA r) (F0 zC4 base av)) (hov : ∀ x, r.res = .ov x → zB5 av = 0 := by intro x h; cases h <;> rfl) : Contract Tryz.prog zDP av r :=
 contract_of_wp (fn := Tryz.f39) (c := Tryz.f39.body.getD .skip) (by kernel_rfl) (by kernel_rfl) (by kernel_rfl) (by kernel_rfl) (by kernel_rfl) (by kernel_rfl) (by kernel_rfl) hfo hW hov
end Go.Hx
end
