/-
  Walks of functions of the program over an abstract layer, and the laws that they use: each contract says what the function computes, for every input that its conditions let by. No other condition.
-/
import Derived.Test.YtjnagiaooecklabDoorProg
import Derived.Test.YtjnagiaooecklabDoorG8
import Derived.Test.YtjnagiaooecklabDoorG10
set_option linter.all false
section
/-
 The abstract code of functions of the program, printed by gen.py; each stands for the given one. No condition.
-/
namespace Go.Hx
open Go.Proofs
variable [Glob]
abbrev zA2 : Nat := 45
abbrev zA3 : Nat := 46
abbrev zEH : Nat := 7
abbrev zBn : Nat := 4
abbrev zCK : Nat := 8
abbrev zC9 : Nat := 6
abbrev zEb : Nat := 9
abbrev zFQ : Nat := 22
abbrev zDy : Nat := 15
abbrev zAt : Nat := 10
abbrev zBP : Nat := 17
abbrev zAJ : Nat := 14
abbrev zA4 : Nat := 18
abbrev zCP : Nat := 28
abbrev zBI : Nat := 42
abbrev zBJ : Nat := 43
abbrev zDB : Nat := 44
abbrev zBj : Nat := 27
abbrev zBQ : Nat := 41
abbrev zCQ : Nat := 21
abbrev zBK : Nat := 32
abbrev zIq : Nat := 25
abbrev zBz : Nat := 16
abbrev zBA : Nat := 40
abbrev zBe : Nat := 19
abbrev zBV : Nat := 26
abbrev zBW : Nat := 59
abbrev zCc : Nat := 29
abbrev zCR : Nat := 35
abbrev zCC : Nat := 33
abbrev zCD : Nat := 34
abbrev zDL : Nat := 36
abbrev zBZ : Nat := 71
abbrev zHy : HCode := .reg [⟨none, .val 4 (.mv (.c (bv false)))⟩] false []
abbrev zHz : HCode := .reg [⟨none, .val 5 (.mv (.t 0))⟩,
  ⟨none, .val 6 (.mv (.t 1))⟩,
  ⟨none, .call (some 7) zA2 [(.t 5, .v), (.t 6, .v)]⟩,
  ⟨none, .val 4 (.mv (.t 7))⟩] false [.forget [5, 6, 7]]
abbrev zKr : HCode := (.seq zHy (.seq zHz .ret))
abbrev zB0 : Env := { N := 8, Γ := [], L := 8, nfix := 0 }
abbrev zIr : List RSrc := [.tmp 4]
theorem zHA {base : Nat} {av : List AV} {r : RV} (hfo : zAB zB0 base av) (hW : AVs.fits av → hwp Tryd.prog zKr (zCH zB0 base av zIr r) (F0 zB0 base av)) (hov : ∀ x, r.res = .ov x → zCj av = 0 := by intro x h; cases h <;> rfl) : Contract Tryd.prog zCC av r :=
 zAb (fn := Tryd.f33) (c := Tryd.f33.body.getD .skip) (by kernel_rfl) (by kernel_rfl) (by kernel_rfl) (by kernel_rfl) (by kernel_rfl) (by kernel_rfl) (by kernel_rfl) hfo hW hov
abbrev zDa : HCode := .reg [⟨none, .val 4 (.mv (.c (bv false)))⟩] false []
abbrev zDb : HCode := .reg [⟨none, .val 5 (.mv (.t 0))⟩,
  ⟨none, .val 6 (.len true (.t 5))⟩,
  ⟨none, .val 7 (.mv (.t 1))⟩,
  ⟨none, .val 8 (.len true (.t 7))⟩,
  ⟨none, .val 9 (.ints .geq (.t 6) (.t 8))⟩,
  ⟨none, .val 10 (.mv (.t 9))⟩,
  ⟨some (10, true), .val 11 (.mv (.t 0))⟩,
  ⟨some (10, true), .val 12 (.mv (.t 1))⟩,
  ⟨some (10, true), .val 13 (.len true (.t 12))⟩,
  ⟨some (10, true), .val 14 (.sls (.t 11) none (some (.t 13)))⟩,
  ⟨some (10, true), .val 15 (.mv (.t 1))⟩,
  ⟨some (10, true), .val 16 (.strs .eql (.t 14) (.t 15))⟩,
  ⟨none, .val 17 (.pick (.t 10) (.t 16) (.c (bv false)))⟩,
  ⟨none, .val 4 (.mv (.t 17))⟩] false [.forget [5, 6, 7, 8, 9, 10, 11, 12, 13, 14, 15, 16, 17]]
abbrev zDC : HCode := (.seq zDa (.seq zDb .ret))
abbrev zAL : Env := { N := 18, Γ := [], L := 18, nfix := 0 }
abbrev zDl : List RSrc := [.tmp 4]
theorem zDc {base : Nat} {av : List AV} {r : RV} (hfo : zAB zAL base av) (hW : AVs.fits av → hwp Tryd.prog zDC (zCH zAL base av zDl r) (F0 zAL base av)) (hov : ∀ x, r.res = .ov x → zCj av = 0 := by intro x h; cases h <;> rfl) : Contract Tryd.prog zA2 av r :=
 zAb (fn := Tryd.f45) (c := Tryd.f45.body.getD .skip) (by kernel_rfl) (by kernel_rfl) (by kernel_rfl) (by kernel_rfl) (by kernel_rfl) (by kernel_rfl) (by kernel_rfl) hfo hW hov
abbrev zHB : HCode := .reg [⟨none, .val 4 (.mv (.c (bv false)))⟩] false []
abbrev zHC : HCode := .reg [⟨none, .val 5 (.mv (.t 0))⟩,
  ⟨none, .val 6 (.mv (.t 1))⟩,
  ⟨none, .call (some 7) zA3 [(.t 5, .v), (.t 6, .v)]⟩,
  ⟨none, .val 4 (.mv (.t 7))⟩] false [.forget [5, 6, 7]]
abbrev zKs : HCode := (.seq zHB (.seq zHC .ret))
abbrev zB1 : Env := { N := 8, Γ := [], L := 8, nfix := 0 }
abbrev zIs : List RSrc := [.tmp 4]
theorem zHD {base : Nat} {av : List AV} {r : RV} (hfo : zAB zB1 base av) (hW : AVs.fits av → hwp Tryd.prog zKs (zCH zB1 base av zIs r) (F0 zB1 base av)) (hov : ∀ x, r.res = .ov x → zCj av = 0 := by intro x h; cases h <;> rfl) : Contract Tryd.prog zCD av r :=
 zAb (fn := Tryd.f34) (c := Tryd.f34.body.getD .skip) (by kernel_rfl) (by kernel_rfl) (by kernel_rfl) (by kernel_rfl) (by kernel_rfl) (by kernel_rfl) (by kernel_rfl) hfo hW hov
abbrev zDd : HCode := .reg [⟨none, .val 4 (.mv (.c (bv false)))⟩] false []
abbrev zDe : HCode := .reg [⟨none, .val 5 (.mv (.t 0))⟩,
  ⟨none, .val 6 (.len true (.t 5))⟩,
  ⟨none, .val 7 (.mv (.t 1))⟩,
  ⟨none, .val 8 (.len true (.t 7))⟩,
  ⟨none, .val 9 (.ints .geq (.t 6) (.t 8))⟩,
  ⟨none, .val 10 (.mv (.t 9))⟩,
  ⟨some (10, true), .val 11 (.mv (.t 0))⟩,
  ⟨some (10, true), .val 12 (.mv (.t 0))⟩,
  ⟨some (10, true), .val 13 (.len true (.t 12))⟩,
  ⟨some (10, true), .val 14 (.mv (.t 1))⟩,
  ⟨some (10, true), .val 15 (.len true (.t 14))⟩,
  ⟨some (10, true), .val 16 (.ints .sub (.t 13) (.t 15))⟩,
  ⟨some (10, true), .val 17 (.sls (.t 11) (some (.t 16)) none)⟩,
  ⟨some (10, true), .val 18 (.mv (.t 1))⟩,
  ⟨some (10, true), .val 19 (.strs .eql (.t 17) (.t 18))⟩,
  ⟨none, .val 20 (.pick (.t 10) (.t 19) (.c (bv false)))⟩,
  ⟨none, .val 4 (.mv (.t 20))⟩] false [.forget [5, 6, 7, 8, 9, 10, 11, 12, 13, 14, 15, 16, 17, 18, 19, 20]]
abbrev zDD : HCode := (.seq zDd (.seq zDe .ret))
abbrev zAM : Env := { N := 21, Γ := [], L := 21, nfix := 0 }
abbrev zDm : List RSrc := [.tmp 4]
theorem zDf {base : Nat} {av : List AV} {r : RV} (hfo : zAB zAM base av) (hW : AVs.fits av → hwp Tryd.prog zDD (zCH zAM base av zDm r) (F0 zAM base av)) (hov : ∀ x, r.res = .ov x → zCj av = 0 := by intro x h; cases h <;> rfl) : Contract Tryd.prog zA3 av r :=
 zAb (fn := Tryd.f46) (c := Tryd.f46.body.getD .skip) (by kernel_rfl) (by kernel_rfl) (by kernel_rfl) (by kernel_rfl) (by kernel_rfl) (by kernel_rfl) (by kernel_rfl) hfo hW hov
abbrev zEQ : HCode := .reg [⟨none, .val 4 (.mv (.c (bv false)))⟩] false []
abbrev zER : HCode := .reg [⟨none, .val 5 (.mv (.t 0))⟩,
  ⟨none, .val 6 (.mv (.t 1))⟩,
  ⟨none, .call (some 7) zCc [(.t 5, .v), (.t 6, .v)]⟩,
  ⟨none, .val 8 (.ints .geq (.t 7) (.c (iv 0)))⟩,
  ⟨none, .val 4 (.mv (.t 8))⟩] false [.forget [5, 6, 7, 8]]
abbrev zF2 : HCode := (.seq zEQ (.seq zER .ret))
abbrev zBk : Env := { N := 9, Γ := [], L := 9, nfix := 0 }
abbrev zFb : List RSrc := [.tmp 4]
theorem zES {base : Nat} {av : List AV} {r : RV} (hfo : zAB zBk base av) (hW : AVs.fits av → hwp Tryd.prog zF2 (zCH zBk base av zFb r) (F0 zBk base av)) (hov : ∀ x, r.res = .ov x → zCj av = 0 := by intro x h; cases h <;> rfl) : Contract Tryd.prog zBe av r :=
 zAb (fn := Tryd.f19) (c := Tryd.f19.body.getD .skip) (by kernel_rfl) (by kernel_rfl) (by kernel_rfl) (by kernel_rfl) (by kernel_rfl) (by kernel_rfl) (by kernel_rfl) hfo hW hov
abbrev zF3 : HCode := .reg [⟨none, .val 4 (.mv (.c (iv 0)))⟩] false []
abbrev zF4 : HCode := .reg [⟨none, .val 6 (.mv (.t 0))⟩,
  ⟨none, .val 7 (.len false (.t 6))⟩,
  ⟨none, .val 8 (.mv (.c (iv 0)))⟩] false [.forget [6]]
abbrev zF5 : HCode := .reg [⟨none, .val 9 (.ints .lss (.t 8) (.t 7))⟩] false []
abbrev zF6 : HCode := .reg [⟨none, .val 10 (.mv (.t 8))⟩,
  ⟨none, .val 5 (.mv (.t 10))⟩] false [.forget [10]]
abbrev zF7 : HCode := .reg [⟨none, .val 11 (.mv (.t 1))⟩,
  ⟨none, .val 12 (.mv (.t 0))⟩,
  ⟨none, .val 13 (.mv (.t 5))⟩,
  ⟨none, .val 14 (.idxA 1 (.t 12) (.t 13))⟩,
  ⟨none, .val 15 (.ldR (.t 14) 1 false)⟩,
  ⟨none, .val 16 (.strs .eql (.t 11) (.t 15))⟩] false [.forget [11, 12, 13, 14, 15]]
abbrev zF8 : HCode := .reg [⟨none, .val 17 (.mv (.t 5))⟩,
  ⟨none, .val 4 (.mv (.t 17))⟩] false [.forget [17]]
abbrev zF9 : HCode := .reg [⟨none, .val 18 (.ints .add (.t 8) (.c (iv 1)))⟩,
  ⟨none, .val 8 (.mv (.t 18))⟩] false [.forget [18]]
abbrev zGa : HCode := .reg [⟨none, .val 4 (.mv (.c (iv (-1))))⟩] false []
abbrev zIt : HCode := (.seq zF3 (.seq (.seq zF4 (.block 0 (.loop (.seq zF5 (.seq (.cond (.t 9) .skip (.exit 0)) (.seq (.block 1 (.seq zF6 (.seq zF7 (.cond (.t 16) (.seq zF8 .ret) .skip)))) zF9)))))) (.seq zGa .ret)))
abbrev zBL : Env := { N := 19, Γ := [], L := 19, nfix := 0 }
abbrev zGI : List RSrc := [.tmp 4]
theorem zGb {base : Nat} {av : List AV} {r : RV} (hfo : zAB zBL base av) (hW : AVs.fits av → hwp Tryd.prog zIt (zCH zBL base av zGI r) (F0 zBL base av)) (hov : ∀ x, r.res = .ov x → zCj av = 0 := by intro x h; cases h <;> rfl) : Contract Tryd.prog zCc av r :=
 zAb (fn := Tryd.f29) (c := Tryd.f29.body.getD .skip) (by kernel_rfl) (by kernel_rfl) (by kernel_rfl) (by kernel_rfl) (by kernel_rfl) (by kernel_rfl) (by kernel_rfl) hfo hW hov
abbrev zEc : HCode := .reg [⟨none, .val 4 (.mv (.c (bv false)))⟩] false []
abbrev zEd : HCode := .reg [⟨none, .val 5 (.mv (.t 0))⟩,
  ⟨none, .val 6 (.mv (.t 1))⟩,
  ⟨none, .call (some 7) zBV [(.t 5, .v), (.t 6, .v)]⟩,
  ⟨none, .val 8 (.ints .geq (.t 7) (.c (iv 0)))⟩,
  ⟨none, .val 4 (.mv (.t 8))⟩] false [.forget [5, 6, 7, 8]]
abbrev zFc : HCode := (.seq zEc (.seq zEd .ret))
abbrev zA7 : Env := { N := 9, Γ := [], L := 9, nfix := 0 }
abbrev zEn : List RSrc := [.tmp 4]
theorem zEe {base : Nat} {av : List AV} {r : RV} (hfo : zAB zA7 base av) (hW : AVs.fits av → hwp Tryd.prog zFc (zCH zA7 base av zEn r) (F0 zA7 base av)) (hov : ∀ x, r.res = .ov x → zCj av = 0 := by intro x h; cases h <;> rfl) : Contract Tryd.prog zBz av r :=
 zAb (fn := Tryd.f16) (c := Tryd.f16.body.getD .skip) (by kernel_rfl) (by kernel_rfl) (by kernel_rfl) (by kernel_rfl) (by kernel_rfl) (by kernel_rfl) (by kernel_rfl) hfo hW hov
abbrev zFd : HCode := .reg [⟨none, .val 4 (.mv (.c (iv 0)))⟩] false []
abbrev zFe : HCode := .reg [⟨none, .val 6 (.mv (.t 0))⟩,
  ⟨none, .val 7 (.len false (.t 6))⟩,
  ⟨none, .val 8 (.mv (.c (iv 0)))⟩] false [.forget [6]]
abbrev zFf : HCode := .reg [⟨none, .val 9 (.ints .lss (.t 8) (.t 7))⟩] false []
abbrev zFg : HCode := .reg [⟨none, .val 10 (.mv (.t 8))⟩,
  ⟨none, .val 5 (.mv (.t 10))⟩] false [.forget [10]]
abbrev zFh : HCode := .reg [⟨none, .val 11 (.mv (.t 1))⟩,
  ⟨none, .val 12 (.mv (.t 0))⟩,
  ⟨none, .val 13 (.mv (.t 5))⟩,
  ⟨none, .val 14 (.idxA 2 (.t 12) (.t 13))⟩,
  ⟨none, .val 15 (.ldR (.t 14) 2 true)⟩,
  ⟨none, .callv (some 16) (.t 11) [(.t 15, .v)]⟩] false [.forget [11, 12, 13, 14, 15]]
abbrev zFi : HCode := .reg [⟨none, .val 17 (.mv (.t 5))⟩,
  ⟨none, .val 4 (.mv (.t 17))⟩] false [.forget [17]]
abbrev zFj : HCode := .reg [⟨none, .val 18 (.ints .add (.t 8) (.c (iv 1)))⟩,
  ⟨none, .val 8 (.mv (.t 18))⟩] false [.forget [18]]
abbrev zFk : HCode := .reg [⟨none, .val 4 (.mv (.c (iv (-1))))⟩] false []
abbrev zGJ : HCode := (.seq zFd (.seq (.seq zFe (.block 0 (.loop (.seq zFf (.seq (.cond (.t 9) .skip (.exit 0)) (.seq (.block 1 (.seq zFg (.seq zFh (.cond (.t 16) (.seq zFi .ret) .skip)))) zFj)))))) (.seq zFk .ret)))
abbrev zBs : Env := { N := 19, Γ := [], L := 19, nfix := 0 }
abbrev zFR : List RSrc := [.tmp 4]
theorem zFl {base : Nat} {av : List AV} {r : RV} (hfo : zAB zBs base av) (hW : AVs.fits av → hwp Tryd.prog zGJ (zCH zBs base av zFR r) (F0 zBs base av)) (hov : ∀ x, r.res = .ov x → zCj av = 0 := by intro x h; cases h <;> rfl) : Contract Tryd.prog zBV av r :=
 zAb (fn := Tryd.f26) (c := Tryd.f26.body.getD .skip) (by kernel_rfl) (by kernel_rfl) (by kernel_rfl) (by kernel_rfl) (by kernel_rfl) (by kernel_rfl) (by kernel_rfl) hfo hW hov
abbrev zEf : HCode := .reg [⟨none, .val 4 (.mv (.c (bv false)))⟩] false []
abbrev zEg : HCode := .reg [⟨none, .val 5 (.mv (.t 0))⟩,
  ⟨none, .val 6 (.mv (.t 1))⟩,
  ⟨none, .call (some 7) zBW [(.t 5, .v), (.t 6, .v)]⟩,
  ⟨none, .val 8 (.ints .geq (.t 7) (.c (iv 0)))⟩,
  ⟨none, .val 4 (.mv (.t 8))⟩] false [.forget [5, 6, 7, 8]]
abbrev zFm : HCode := (.seq zEf (.seq zEg .ret))
abbrev zA8 : Env := { N := 9, Γ := [], L := 9, nfix := 0 }
abbrev zEo : List RSrc := [.tmp 4]
theorem zEh {base : Nat} {av : List AV} {r : RV} (hfo : zAB zA8 base av) (hW : AVs.fits av → hwp Tryd.prog zFm (zCH zA8 base av zEo r) (F0 zA8 base av)) (hov : ∀ x, r.res = .ov x → zCj av = 0 := by intro x h; cases h <;> rfl) : Contract Tryd.prog zBA av r :=
 zAb (fn := Tryd.f40) (c := Tryd.f40.body.getD .skip) (by kernel_rfl) (by kernel_rfl) (by kernel_rfl) (by kernel_rfl) (by kernel_rfl) (by kernel_rfl) (by kernel_rfl) hfo hW hov
abbrev zFn : HCode := .reg [⟨none, .val 4 (.mv (.c (iv 0)))⟩] false []
abbrev zFo : HCode := .reg [⟨none, .val 6 (.mv (.t 0))⟩,
  ⟨none, .val 7 (.len false (.t 6))⟩,
  ⟨none, .val 8 (.mv (.c (iv 0)))⟩] false [.forget [6]]
abbrev zFp : HCode := .reg [⟨none, .val 9 (.ints .lss (.t 8) (.t 7))⟩] false []
abbrev zFq : HCode := .reg [⟨none, .val 10 (.mv (.t 8))⟩,
  ⟨none, .val 5 (.mv (.t 10))⟩] false [.forget [10]]
abbrev zFr : HCode := .reg [⟨none, .val 11 (.mv (.t 1))⟩,
  ⟨none, .val 12 (.mv (.t 0))⟩,
  ⟨none, .val 13 (.mv (.t 5))⟩,
  ⟨none, .val 14 (.idxA 6 (.t 12) (.t 13))⟩,
  ⟨none, .val 15 (.ldR (.t 14) 6 true)⟩,
  ⟨none, .callv (some 16) (.t 11) [(.t 15, .v)]⟩] false [.forget [11, 12, 13, 14, 15]]
abbrev zFs : HCode := .reg [⟨none, .val 17 (.mv (.t 5))⟩,
  ⟨none, .val 4 (.mv (.t 17))⟩] false [.forget [17]]
abbrev zFt : HCode := .reg [⟨none, .val 18 (.ints .add (.t 8) (.c (iv 1)))⟩,
  ⟨none, .val 8 (.mv (.t 18))⟩] false [.forget [18]]
abbrev zFu : HCode := .reg [⟨none, .val 4 (.mv (.c (iv (-1))))⟩] false []
abbrev zGK : HCode := (.seq zFn (.seq (.seq zFo (.block 0 (.loop (.seq zFp (.seq (.cond (.t 9) .skip (.exit 0)) (.seq (.block 1 (.seq zFq (.seq zFr (.cond (.t 16) (.seq zFs .ret) .skip)))) zFt)))))) (.seq zFu .ret)))
abbrev zBt : Env := { N := 19, Γ := [], L := 19, nfix := 0 }
abbrev zFS : List RSrc := [.tmp 4]
theorem zFv {base : Nat} {av : List AV} {r : RV} (hfo : zAB zBt base av) (hW : AVs.fits av → hwp Tryd.prog zGK (zCH zBt base av zFS r) (F0 zBt base av)) (hov : ∀ x, r.res = .ov x → zCj av = 0 := by intro x h; cases h <;> rfl) : Contract Tryd.prog zBW av r :=
 zAb (fn := Tryd.f59) (c := Tryd.f59.body.getD .skip) (by kernel_rfl) (by kernel_rfl) (by kernel_rfl) (by kernel_rfl) (by kernel_rfl) (by kernel_rfl) (by kernel_rfl) hfo hW hov
abbrev zSI : HCode := .reg [⟨none, .val 1 (.boxF (.t 0))⟩,
  ⟨none, .val 2 (.mv (.c (.one (.v (.pointer none)))))⟩] false []
abbrev zSJ : HCode := .drg [⟨0, false, ⟨none, .val 13 (.ldR (.t 1) 1 true)⟩⟩,
  ⟨1, false, ⟨none, .val 14 (.fldR (.t 1) 0 1)⟩⟩,
  ⟨2, false, ⟨none, .val 15 (.ldR (.t 14) 1 false)⟩⟩,
  ⟨3, false, ⟨none, .val 16 (.len false (.t 15))⟩⟩,
  ⟨4, false, ⟨none, .vmk 17 zBZ 5 [.v (.int .i64 0), .v (.int .i64 0), .v (.int .i64 0), .v (.int .i64 0), .v (.int .i64 0)] (.t 16)⟩⟩,
  ⟨5, false, ⟨none, .vbe 18 [.nl 5, .nl 5] [(0, 1, .t 13)] 1 1 (.t 17)⟩⟩,
  ⟨6, false, ⟨none, .vby 19 0 162 2 18⟩⟩,
  ⟨7, false, ⟨none, .val 3 (.mv (.t 19))⟩⟩] [.forget [13, 14, 15, 16, 17, 18, 19], .pin 163 0 162 []]
abbrev zSK : HCode := .reg [⟨none, .mmk 20⟩,
  ⟨none, .val 4 (.mv (.t 20))⟩] false []
abbrev zSL : HCode := .reg [⟨none, .val 21 (.fldR (.t 1) 0 1)⟩,
  ⟨none, .val 22 (.ldR (.t 21) 1 false)⟩,
  ⟨none, .val 23 (.len false (.t 22))⟩,
  ⟨none, .val 24 (.mv (.c (iv 0)))⟩] false [.forget [21]]
abbrev zSM : HCode := .reg [⟨none, .val 25 (.ints .lss (.t 24) (.t 23))⟩] false []
abbrev zSN : HCode := .reg [⟨none, .val 26 (.mv (.t 24))⟩,
  ⟨none, .val 27 (.idxA 5 (.t 22) (.t 24))⟩,
  ⟨none, .val 28 (.ldR (.t 27) 5 true)⟩,
  ⟨none, .alloc 6 1 164 [.v (.int .i64 0), .v (mkS []), .v (mkS []), .nl 1, .nl 2]⟩,
  ⟨none, .val 5 (.mv (.t 26))⟩,
  ⟨none, .sto (.t 6) 1 164 0 5 (.t 28)⟩] false [.forget [26, 27, 28]]
abbrev zSO : HCode := .reg [⟨none, .val 29 (.mv (.t 3))⟩,
  ⟨none, .val 30 (.nilck (.t 29))⟩,
  ⟨none, .val 31 (.fldP (.t 30) 1)⟩,
  ⟨none, .val 32 (.ldh (.t 31) 0 162 1)⟩,
  ⟨none, .val 33 (.mv (.t 5))⟩,
  ⟨none, .val 34 (.idxA 5 (.t 32) (.t 33))⟩,
  ⟨none, .val 35 (.fldP (.t 34) 2)⟩,
  ⟨none, .vse (.t 35) 163 0 162 [] 1 (.c (iv (-1)))⟩] false [.forget [29, 30, 31, 32, 33, 34, 35]]
abbrev zSP : HCode := .reg [⟨none, .val 37 (.mv (.t 4))⟩,
  ⟨none, .val 38 (.fldP (.t 6) 0)⟩,
  ⟨none, .val 39 (.ldB (.t 38) 1 164 0 1 false)⟩,
  ⟨none, .mpl 40 (.t 37) 20 1 (.t 39) (.v (.int .i64 0)) true⟩,
  ⟨none, .val 36 (.mv (.t 40))⟩,
  ⟨none, .val 41 (.ext 36 0)⟩,
  ⟨none, .val 42 (.ext 36 1)⟩,
  ⟨none, .val 7 (.mv (.t 41))⟩,
  ⟨none, .val 8 (.mv (.t 42))⟩] false [.forget [36, 37, 38, 39, 40, 41, 42]]
abbrev zSQ : HCode := .reg [⟨none, .val 43 (.mv (.t 8))⟩] false []
abbrev zSR : HCode := .reg [⟨none, .val 44 (.mv (.t 3))⟩,
  ⟨none, .val 45 (.nilck (.t 44))⟩,
  ⟨none, .val 46 (.fldP (.t 45) 1)⟩,
  ⟨none, .val 47 (.ldh (.t 46) 0 162 1)⟩,
  ⟨none, .val 48 (.mv (.t 5))⟩,
  ⟨none, .val 49 (.mv (.t 7))⟩,
  ⟨none, .val 50 (.idxA 5 (.t 47) (.t 48))⟩,
  ⟨none, .val 51 (.fldP (.t 50) 2)⟩,
  ⟨none, .vse (.t 51) 163 0 162 [] 1 (.t 49)⟩] false [.forget [44, 45, 46, 47, 48, 49, 50, 51]]
abbrev zQY : HCode := .reg [⟨none, .val 52 (.mv (.t 4))⟩,
  ⟨none, .val 53 (.fldP (.t 6) 0)⟩,
  ⟨none, .val 54 (.ldB (.t 53) 1 164 0 1 false)⟩,
  ⟨none, .val 55 (.mv (.t 5))⟩,
  ⟨none, .mps (.t 52) 20 1 (.t 54) (.t 55)⟩] false [.forget [52, 53, 54, 55]]
abbrev zQZ : HCode := .reg [⟨none, .val 56 (.mv (.t 3))⟩,
  ⟨none, .val 57 (.nilck (.t 56))⟩,
  ⟨none, .val 58 (.fldP (.t 57) 1)⟩,
  ⟨none, .val 59 (.ldh (.t 58) 0 162 1)⟩,
  ⟨none, .val 60 (.mv (.t 5))⟩,
  ⟨none, .val 61 (.idxA 5 (.t 59) (.t 60))⟩,
  ⟨none, .val 62 (.fldP (.t 61) 0)⟩,
  ⟨none, .vse (.t 62) 163 0 162 [] 1 (.c (iv 1))⟩] false [.forget [56, 57, 58, 59, 60, 61, 62]]
abbrev zQ0 : HCode := .reg [⟨none, .val 63 (.mv (.t 3))⟩,
  ⟨none, .val 64 (.nilck (.t 63))⟩,
  ⟨none, .val 65 (.fldP (.t 64) 1)⟩,
  ⟨none, .val 66 (.ldh (.t 65) 0 162 1)⟩,
  ⟨none, .val 67 (.mv (.t 5))⟩,
  ⟨none, .val 68 (.idxA 5 (.t 66) (.t 67))⟩,
  ⟨none, .val 69 (.fldP (.t 68) 2)⟩,
  ⟨none, .vlp 70 (.t 69) 163 0 162 [] 1 false⟩,
  ⟨none, .val 9 (.mv (.t 70))⟩] false [.forget [63, 64, 65, 66, 67, 68, 69, 70]]
abbrev zQ1 : HCode := .reg [⟨none, .val 71 (.mv (.t 9))⟩,
  ⟨none, .val 72 (.ints .geq (.t 71) (.c (iv 0)))⟩] false [.forget [71]]
abbrev zQ2 : HCode := .drg [⟨0, false, ⟨none, .val 73 (.mv (.t 3))⟩⟩,
  ⟨1, false, ⟨none, .val 74 (.nilck (.t 73))⟩⟩,
  ⟨2, false, ⟨none, .val 75 (.fldP (.t 74) 1)⟩⟩,
  ⟨3, false, ⟨none, .val 76 (.ldh (.t 75) 0 162 1)⟩⟩,
  ⟨4, false, ⟨none, .val 77 (.mv (.t 5))⟩⟩,
  ⟨5, false, ⟨none, .val 78 (.mv (.t 3))⟩⟩,
  ⟨6, false, ⟨none, .val 79 (.nilck (.t 78))⟩⟩,
  ⟨7, false, ⟨none, .val 80 (.fldP (.t 79) 1)⟩⟩,
  ⟨8, false, ⟨none, .val 81 (.ldh (.t 80) 0 162 1)⟩⟩,
  ⟨9, false, ⟨none, .val 82 (.mv (.t 9))⟩⟩,
  ⟨10, false, ⟨none, .val 83 (.idxA 5 (.t 81) (.t 82))⟩⟩,
  ⟨11, false, ⟨none, .val 84 (.fldP (.t 83) 0)⟩⟩,
  ⟨12, false, ⟨none, .vlp 85 (.t 84) 163 0 162 [] 1 false⟩⟩,
  ⟨13, false, ⟨none, .val 86 (.ints .add (.t 85) (.c (iv 1)))⟩⟩,
  ⟨14, false, ⟨none, .val 87 (.idxA 5 (.t 76) (.t 77))⟩⟩,
  ⟨15, false, ⟨none, .val 88 (.fldP (.t 87) 0)⟩⟩,
  ⟨16, false, ⟨none, .vse (.t 88) 163 0 162 [] 1 (.t 86)⟩⟩] [.forget [73, 74, 75, 76, 77, 78, 79, 80, 81, 82, 83, 84, 85, 86, 87, 88]]
abbrev zQ3 : HCode := .reg [⟨none, .val 89 (.fldP (.t 6) 0)⟩,
  ⟨none, .val 90 (.ldB (.t 89) 1 164 0 1 false)⟩,
  ⟨none, .val 91 (.ints .geq (.t 90) (.c (iv 0)))⟩] false [.forget [89, 90]]
abbrev zQ4 : HCode := .drg [⟨0, false, ⟨none, .val 92 (.mv (.t 3))⟩⟩,
  ⟨1, false, ⟨none, .val 93 (.nilck (.t 92))⟩⟩,
  ⟨2, false, ⟨none, .val 94 (.fldP (.t 93) 1)⟩⟩,
  ⟨3, false, ⟨none, .val 95 (.ldh (.t 94) 0 162 1)⟩⟩,
  ⟨4, false, ⟨none, .val 96 (.fldP (.t 6) 0)⟩⟩,
  ⟨5, false, ⟨none, .val 97 (.ldB (.t 96) 1 164 0 1 false)⟩⟩,
  ⟨6, false, ⟨none, .val 98 (.idxA 5 (.t 95) (.t 97))⟩⟩,
  ⟨7, false, ⟨none, .val 99 (.fldP (.t 98) 4)⟩⟩,
  ⟨8, false, ⟨none, .vlp 100 (.t 99) 163 0 162 [] 1 false⟩⟩,
  ⟨9, false, ⟨none, .val 101 (.ints .add (.t 100) (.c (iv 1)))⟩⟩,
  ⟨10, false, ⟨none, .val 102 (.idxA 5 (.t 95) (.t 97))⟩⟩,
  ⟨11, false, ⟨none, .val 103 (.fldP (.t 102) 4)⟩⟩,
  ⟨12, false, ⟨none, .vse (.t 103) 163 0 162 [] 1 (.t 101)⟩⟩] [.forget [92, 93, 94, 95, 96, 97, 98, 99, 100, 101, 102, 103]]
abbrev zQ5 : HCode := .reg [⟨none, .val 104 (.fldP (.t 6) 0)⟩,
  ⟨none, .val 105 (.ldB (.t 104) 1 164 0 1 false)⟩,
  ⟨none, .val 10 (.mv (.t 105))⟩] false [.forget [104, 105]]
abbrev zQ6 : HCode := .reg [⟨none, .val 106 (.mv (.t 10))⟩,
  ⟨none, .val 107 (.ints .geq (.t 106) (.c (iv 0)))⟩] false [.forget [106]]
abbrev zQ7 : HCode := .reg [⟨none, .val 114 (.mv (.t 3))⟩,
  ⟨none, .val 115 (.nilck (.t 114))⟩,
  ⟨none, .val 116 (.fldP (.t 115) 1)⟩,
  ⟨none, .val 117 (.ldh (.t 116) 0 162 1)⟩,
  ⟨none, .val 118 (.mv (.t 10))⟩,
  ⟨none, .val 119 (.idxA 5 (.t 117) (.t 118))⟩,
  ⟨none, .val 120 (.fldP (.t 119) 3)⟩,
  ⟨none, .vlp 121 (.t 120) 163 0 162 [] 1 false⟩,
  ⟨none, .val 122 (.ints .add (.t 121) (.c (iv 1)))⟩,
  ⟨none, .val 123 (.idxA 5 (.t 117) (.t 118))⟩,
  ⟨none, .val 124 (.fldP (.t 123) 3)⟩,
  ⟨none, .vse (.t 124) 163 0 162 [] 1 (.t 122)⟩] false [.forget [114, 115, 116, 117, 118, 119, 120, 121, 122, 123, 124]]
abbrev zQ8 : HCode := .reg [⟨none, .val 108 (.fldR (.t 1) 0 1)⟩,
  ⟨none, .val 109 (.ldR (.t 108) 1 false)⟩,
  ⟨none, .val 110 (.mv (.t 10))⟩,
  ⟨none, .val 111 (.idxA 5 (.t 109) (.t 110))⟩,
  ⟨none, .val 112 (.fldR (.t 111) 0 1)⟩,
  ⟨none, .val 113 (.ldR (.t 112) 1 false)⟩,
  ⟨none, .val 10 (.mv (.t 113))⟩] false [.forget [108, 109, 110, 111, 112, 113]]
abbrev zQ9 : HCode := .reg [⟨none, .val 125 (.ints .add (.t 24) (.c (iv 1)))⟩,
  ⟨none, .val 24 (.mv (.t 125))⟩] false [.forget [125]]
abbrev zRa : HCode := .reg [⟨none, .val 126 (.fldR (.t 1) 0 1)⟩,
  ⟨none, .val 127 (.ldR (.t 126) 1 false)⟩,
  ⟨none, .val 128 (.len false (.t 127))⟩,
  ⟨none, .val 129 (.mv (.c (iv 0)))⟩] false [.forget [126]]
abbrev zRb : HCode := .reg [⟨none, .val 130 (.ints .lss (.t 129) (.t 128))⟩] false []
abbrev zRc : HCode := .reg [⟨none, .val 131 (.mv (.t 129))⟩,
  ⟨none, .val 132 (.idxA 5 (.t 127) (.t 129))⟩,
  ⟨none, .val 133 (.ldR (.t 132) 5 true)⟩,
  ⟨none, .alloc 12 2 169 [.v (.int .i64 0), .v (mkS []), .v (mkS []), .nl 1, .nl 2]⟩,
  ⟨none, .val 11 (.mv (.t 131))⟩,
  ⟨none, .sto (.t 12) 2 169 0 5 (.t 133)⟩] false [.forget [131, 132, 133]]
abbrev zRd : HCode := .reg [⟨none, .val 134 (.mv (.t 3))⟩,
  ⟨none, .val 135 (.nilck (.t 134))⟩,
  ⟨none, .val 136 (.fldP (.t 135) 1)⟩,
  ⟨none, .val 137 (.ldh (.t 136) 0 162 1)⟩,
  ⟨none, .val 138 (.mv (.t 11))⟩,
  ⟨none, .val 139 (.idxA 5 (.t 137) (.t 138))⟩,
  ⟨none, .val 140 (.fldP (.t 139) 1)⟩,
  ⟨none, .vse (.t 140) 163 0 162 [] 1 (.c (iv 1))⟩] false [.forget [134, 135, 136, 137, 138, 139, 140]]
abbrev zRe : HCode := .reg [⟨none, .val 141 (.fldP (.t 12) 0)⟩,
  ⟨none, .val 142 (.ldB (.t 141) 2 169 0 1 false)⟩,
  ⟨none, .val 143 (.ints .geq (.t 142) (.c (iv 0)))⟩] false [.forget [141, 142]]
abbrev zRf : HCode := .drg [⟨0, false, ⟨none, .val 144 (.mv (.t 3))⟩⟩,
  ⟨1, false, ⟨none, .val 145 (.nilck (.t 144))⟩⟩,
  ⟨2, false, ⟨none, .val 146 (.fldP (.t 145) 1)⟩⟩,
  ⟨3, false, ⟨none, .val 147 (.ldh (.t 146) 0 162 1)⟩⟩,
  ⟨4, false, ⟨none, .val 148 (.mv (.t 11))⟩⟩,
  ⟨5, false, ⟨none, .val 149 (.mv (.t 3))⟩⟩,
  ⟨6, false, ⟨none, .val 150 (.nilck (.t 149))⟩⟩,
  ⟨7, false, ⟨none, .val 151 (.fldP (.t 150) 1)⟩⟩,
  ⟨8, false, ⟨none, .val 152 (.ldh (.t 151) 0 162 1)⟩⟩,
  ⟨9, false, ⟨none, .val 153 (.fldP (.t 12) 0)⟩⟩,
  ⟨10, false, ⟨none, .val 154 (.ldB (.t 153) 2 169 0 1 false)⟩⟩,
  ⟨11, false, ⟨none, .val 155 (.idxA 5 (.t 152) (.t 154))⟩⟩,
  ⟨12, false, ⟨none, .val 156 (.fldP (.t 155) 4)⟩⟩,
  ⟨13, false, ⟨none, .vlp 157 (.t 156) 163 0 162 [] 1 false⟩⟩,
  ⟨14, false, ⟨none, .val 158 (.idxA 5 (.t 147) (.t 148))⟩⟩,
  ⟨15, false, ⟨none, .val 159 (.fldP (.t 158) 1)⟩⟩,
  ⟨16, false, ⟨none, .vse (.t 159) 163 0 162 [] 1 (.t 157)⟩⟩] [.forget [144, 145, 146, 147, 148, 149, 150, 151, 152, 153, 154, 155, 156, 157, 158, 159]]
abbrev zRg : HCode := .reg [⟨none, .val 160 (.ints .add (.t 129) (.c (iv 1)))⟩,
  ⟨none, .val 129 (.mv (.t 160))⟩] false [.forget [160]]
abbrev zRh : HCode := .regG [.vfr 163 0 162, .frz 0 162 2] [⟨none, .val 161 (.mv (.t 3))⟩,
  ⟨none, .val 2 (.mv (.t 161))⟩] [.forget [161]]
abbrev zW7 : HCode := (.seq zSI (.seq zSJ (.seq zSK (.seq (.seq zSL (.block 0 (.loop (.seq zSM (.seq (.cond (.t 25) .skip (.exit 0)) (.seq (.block 1 (.seq zSN (.seq zSO (.seq (.seq zSP (.seq zSQ (.cond (.t 43) zSR .skip))) (.seq zQY (.seq zQZ (.seq (.seq zQ0 (.seq zQ1 (.cond (.t 72) zQ2 .skip))) (.seq (.seq zQ3 (.cond (.t 91) zQ4 .skip)) (.seq zQ5 (.block 2 (.loop (.seq (.seq zQ6 (.cond (.t 107) .skip (.exit 2))) (.seq (.block 3 zQ7) zQ8))))))))))))) zQ9)))))) (.seq (.seq zRa (.block 4 (.loop (.seq zRb (.seq (.cond (.t 130) .skip (.exit 4)) (.seq (.block 5 (.seq zRc (.seq zRd (.seq zRe (.cond (.t 143) zRf .skip))))) zRg)))))) (.seq zRh .ret))))))
abbrev zHu : Env := { N := 162, Γ := [(162, 2), (164, 5), (169, 5)], L := 174, nfix := 0, una := [162] }
abbrev zUL : List RSrc := [.tmp 2]
theorem zSS {base : Nat} {av : List AV} {r : RV} (hfo : zAB zHu base av) (hW : AVs.fits av → hwp Tryd.prog zW7 (zCH zHu base av zUL r) (F0 zHu base av)) (hov : ∀ x, r.res = .ov x → zCj av = 0 := by intro x h; cases h <;> rfl) : Contract Tryd.prog zIq av r :=
 zAb (fn := Tryd.f25) (c := Tryd.f25.body.getD .skip) (by kernel_rfl) (by kernel_rfl) (by kernel_rfl) (by kernel_rfl) (by kernel_rfl) (by kernel_rfl) (by kernel_rfl) hfo hW hov
abbrev zIu : HCode := .reg [⟨none, .val 5 (.boxF (.t 2))⟩,
  ⟨none, .val 6 (.mv (.c (sv [])))⟩,
  ⟨none, .val 7 (.mv (.c (bv false)))⟩] false []
abbrev zIv : HCode := .reg [⟨none, .val 9 (.mv (.t 0))⟩,
  ⟨none, .val 10 (.nilck (.t 9))⟩,
  ⟨none, .val 11 (.fldR (.t 10) 0 1)⟩,
  ⟨none, .val 12 (.fldR (.t 11) 0 1)⟩,
  ⟨none, .val 13 (.ldR (.t 12) 1 false)⟩,
  ⟨none, .val 14 (.mv (.t 1))⟩,
  ⟨none, .val 15 (.idxA 5 (.t 13) (.t 14))⟩,
  ⟨none, .val 16 (.fldR (.t 15) 4 1)⟩,
  ⟨none, .val 17 (.ldR (.t 16) 1 false)⟩,
  ⟨none, .val 18 (.mkf zBK [.t 5])⟩,
  ⟨none, .call (some 19) zAX [(.t 17, .v), (.t 18, .v)]⟩,
  ⟨none, .val 8 (.mv (.t 19))⟩] false [.forget [9, 10, 11, 12, 13, 14, 15, 16, 17, 18, 19]]
abbrev zIw : HCode := .reg [⟨none, .val 20 (.mv (.t 8))⟩,
  ⟨none, .val 21 (.ints .lss (.t 20) (.c (iv 0)))⟩] false [.forget [20]]
abbrev zIx : HCode := .reg [⟨none, .val 6 (.mv (.c (sv [])))⟩,
  ⟨none, .val 7 (.mv (.c (bv false)))⟩] false []
abbrev zIy : HCode := .reg [⟨none, .val 22 (.mv (.t 0))⟩,
  ⟨none, .val 23 (.nilck (.t 22))⟩,
  ⟨none, .val 24 (.fldR (.t 23) 0 1)⟩,
  ⟨none, .val 25 (.fldR (.t 24) 0 1)⟩,
  ⟨none, .val 26 (.ldR (.t 25) 1 false)⟩,
  ⟨none, .val 27 (.mv (.t 1))⟩,
  ⟨none, .val 28 (.idxA 5 (.t 26) (.t 27))⟩,
  ⟨none, .val 29 (.fldR (.t 28) 4 1)⟩,
  ⟨none, .val 30 (.ldR (.t 29) 1 false)⟩,
  ⟨none, .val 31 (.mv (.t 8))⟩,
  ⟨none, .val 32 (.idxA 2 (.t 30) (.t 31))⟩,
  ⟨none, .val 33 (.fldR (.t 32) 1 1)⟩,
  ⟨none, .val 34 (.ldR (.t 33) 1 false)⟩,
  ⟨none, .val 6 (.mv (.t 34))⟩,
  ⟨none, .val 7 (.mv (.c (bv true)))⟩] false [.forget [22, 23, 24, 25, 26, 27, 28, 29, 30, 31, 32, 33, 34]]
abbrev zLl : HCode := (.seq zIu (.seq zIv (.seq (.seq zIw (.cond (.t 21) (.seq zIx .ret) .skip)) (.seq zIy .ret))))
abbrev zCg : Env := { N := 35, Γ := [], L := 35, nfix := 0 }
abbrev zJl : List RSrc := [.tmp 6, .tmp 7]
theorem zIz {base : Nat} {av : List AV} {r : RV} (hfo : zAB zCg base av) (hW : AVs.fits av → hwp Tryd.prog zLl (zCH zCg base av zJl r) (F0 zCg base av)) (hov : ∀ x, r.res = .ov x → zCj av = 0 := by intro x h; cases h <;> rfl) : Contract Tryd.prog zCQ av r :=
 zAb (fn := Tryd.f21) (c := Tryd.f21.body.getD .skip) (by kernel_rfl) (by kernel_rfl) (by kernel_rfl) (by kernel_rfl) (by kernel_rfl) (by kernel_rfl) (by kernel_rfl) hfo hW hov
abbrev zGL : HCode := .reg [⟨none, .val 2 (.boxF (.t 0))⟩,
  ⟨none, .val 3 (.mv (.c (bv false)))⟩] false []
abbrev zGM : HCode := .reg [⟨none, .val 4 (.fldR (.t 2) 0 1)⟩,
  ⟨none, .val 5 (.ldR (.t 4) 1 false)⟩,
  ⟨none, .val 6 (.ldR (.t 1) 1 false)⟩,
  ⟨none, .val 7 (.strs .eql (.t 5) (.t 6))⟩,
  ⟨none, .val 3 (.mv (.t 7))⟩] false [.forget [4, 5, 6, 7]]
abbrev zJm : HCode := (.seq zGL (.seq zGM .ret))
abbrev zBR : Env := { N := 8, Γ := [], L := 8, nfix := 0 }
abbrev zHE : List RSrc := [.tmp 3]
theorem zGN {base : Nat} {av : List AV} {r : RV} (hfo : zAB zBR base av) (hW : AVs.fits av → hwp Tryd.prog zJm (zCH zBR base av zHE r) (F0 zBR base av)) (hov : ∀ x, r.res = .ov x → zCj av = 0 := by intro x h; cases h <;> rfl) : Contract Tryd.prog zBK av r :=
 zAb (fn := Tryd.f32) (c := Tryd.f32.body.getD .skip) (by kernel_rfl) (by kernel_rfl) (by kernel_rfl) (by kernel_rfl) (by kernel_rfl) (by kernel_rfl) (by kernel_rfl) hfo hW hov
abbrev zPb : HCode := .reg [⟨none, .val 2 (.boxF (.t 0))⟩,
  ⟨none, .val 4 (.mv (.c (bv false)))⟩] false []
abbrev zPc : HCode := .reg [⟨none, .val 6 (.fldR (.t 2) 2 1)⟩,
  ⟨none, .val 7 (.ldR (.t 6) 1 false)⟩,
  ⟨none, .val 5 (.mv (.t 7))⟩] false [.forget [6, 7]]
abbrev zPd : HCode := .reg [⟨none, .val 8 (.fldR (.t 2) 0 1)⟩,
  ⟨none, .val 9 (.ldR (.t 8) 1 false)⟩] false [.forget [8]]
abbrev zPe : HCode := .reg [⟨none, .val 11 (.ints .eql (.t 9) (.c (iv 4)))⟩,
  ⟨none, .val 10 (.mv (.t 11))⟩] false [.forget [11]]
abbrev zPf : HCode := .reg [⟨none, .val 12 (.mv (.t 1))⟩,
  ⟨none, .val 13 (.mv (.t 5))⟩,
  ⟨none, .val 14 (.strs .eql (.t 12) (.t 13))⟩,
  ⟨none, .val 4 (.mv (.t 14))⟩] false [.forget [12, 13, 14]]
abbrev zPg : HCode := .reg [⟨none, .val 16 (.ints .eql (.t 9) (.c (iv 5)))⟩,
  ⟨none, .val 15 (.mv (.t 16))⟩] false [.forget [16]]
abbrev zPh : HCode := .reg [⟨none, .val 17 (.mv (.t 5))⟩,
  ⟨none, .val 18 (.strs .neq (.t 17) (.c (sv [])))⟩,
  ⟨none, .val 19 (.mv (.t 18))⟩,
  ⟨some (19, true), .val 20 (.mv (.t 1))⟩,
  ⟨some (19, true), .val 21 (.mv (.t 5))⟩,
  ⟨some (19, true), .call (some 22) zCC [(.t 20, .v), (.t 21, .v)]⟩,
  ⟨none, .val 23 (.pick (.t 19) (.t 22) (.c (bv false)))⟩,
  ⟨none, .val 4 (.mv (.t 23))⟩] false [.forget [17, 18, 19, 20, 21, 22, 23]]
abbrev zPi : HCode := .reg [⟨none, .val 25 (.ints .eql (.t 9) (.c (iv 6)))⟩,
  ⟨none, .val 24 (.mv (.t 25))⟩] false [.forget [25]]
abbrev zPj : HCode := .reg [⟨none, .val 26 (.mv (.t 5))⟩,
  ⟨none, .val 27 (.strs .neq (.t 26) (.c (sv [])))⟩,
  ⟨none, .val 28 (.mv (.t 27))⟩,
  ⟨some (28, true), .val 29 (.mv (.t 1))⟩,
  ⟨some (28, true), .val 30 (.mv (.t 5))⟩,
  ⟨some (28, true), .call (some 31) zCD [(.t 29, .v), (.t 30, .v)]⟩,
  ⟨none, .val 32 (.pick (.t 28) (.t 31) (.c (bv false)))⟩,
  ⟨none, .val 4 (.mv (.t 32))⟩] false [.forget [26, 27, 28, 29, 30, 31, 32]]
abbrev zPk : HCode := .reg [⟨none, .val 34 (.ints .eql (.t 9) (.c (iv 7)))⟩,
  ⟨none, .val 33 (.mv (.t 34))⟩] false [.forget [34]]
abbrev zNj : HCode := .reg [⟨none, .val 35 (.mv (.t 5))⟩,
  ⟨none, .val 36 (.strs .neq (.t 35) (.c (sv [])))⟩,
  ⟨none, .val 37 (.mv (.t 36))⟩,
  ⟨some (37, true), .val 38 (.mv (.t 1))⟩,
  ⟨some (37, true), .val 39 (.mv (.t 5))⟩,
  ⟨some (37, true), .call (some 40) zCR [(.t 38, .v), (.t 39, .v)]⟩,
  ⟨none, .val 41 (.pick (.t 37) (.t 40) (.c (bv false)))⟩,
  ⟨none, .val 4 (.mv (.t 41))⟩] false [.forget [35, 36, 37, 38, 39, 40, 41]]
abbrev zNk : HCode := .reg [⟨none, .val 43 (.ints .eql (.t 9) (.c (iv 8)))⟩,
  ⟨none, .val 42 (.mv (.t 43))⟩] false [.forget [43]]
abbrev zNl : HCode := .reg [⟨none, .val 44 (.mv (.t 5))⟩,
  ⟨none, .val 45 (.strs .neq (.t 44) (.c (sv [])))⟩,
  ⟨none, .val 46 (.mv (.t 45))⟩,
  ⟨some (46, true), .val 47 (.mv (.t 1))⟩,
  ⟨some (46, true), .call (some 48) zDL [(.t 47, .v), (.c (sv [32]), .v)]⟩,
  ⟨some (46, true), .val 49 (.mv (.t 5))⟩,
  ⟨some (46, true), .call (some 50) zBe [(.t 48, .v), (.t 49, .v)]⟩,
  ⟨none, .val 51 (.pick (.t 46) (.t 50) (.c (bv false)))⟩,
  ⟨none, .val 4 (.mv (.t 51))⟩] false [.forget [44, 45, 46, 47, 48, 49, 50, 51]]
abbrev zNm : HCode := .reg [⟨none, .val 4 (.mv (.c (bv true)))⟩] false []
abbrev zUM : HCode := (.seq zPb (.seq zPc (.seq (.seq zPd (.block 0 (.seq zPe (.cond (.t 10) (.seq zPf .ret) (.seq zPg (.cond (.t 15) (.seq zPh .ret) (.seq zPi (.cond (.t 24) (.seq zPj .ret) (.seq zPk (.cond (.t 33) (.seq zNj .ret) (.seq zNk (.cond (.t 42) (.seq zNl .ret) .skip)))))))))))) (.seq zNm .ret))))
abbrev zEI : Env := { N := 52, Γ := [], L := 52, nfix := 0 }
abbrev zRi : List RSrc := [.tmp 4]
theorem zPl {base : Nat} {av : List AV} {r : RV} (hfo : zAB zEI base av) (hW : AVs.fits av → hwp Tryd.prog zUM (zCH zEI base av zRi r) (F0 zEI base av)) (hov : ∀ x, r.res = .ov x → zCj av = 0 := by intro x h; cases h <;> rfl) : Contract Tryd.prog zFQ av r :=
 zAb (fn := Tryd.f22) (c := Tryd.f22.body.getD .skip) (by kernel_rfl) (by kernel_rfl) (by kernel_rfl) (by kernel_rfl) (by kernel_rfl) (by kernel_rfl) (by kernel_rfl) hfo hW hov
abbrev zHF : HCode := .reg [⟨none, .val 4 (.boxF (.t 1))⟩,
  ⟨none, .val 6 (.mv (.c (bv false)))⟩] false []
abbrev zHG : HCode := .reg [⟨none, .val 11 (.mv (.t 0))⟩,
  ⟨none, .val 12 (.nilck (.t 11))⟩,
  ⟨none, .val 13 (.fldR (.t 12) 0 1)⟩,
  ⟨none, .val 14 (.fldR (.t 13) 0 1)⟩,
  ⟨none, .val 15 (.ldR (.t 14) 1 false)⟩,
  ⟨none, .val 16 (.mv (.t 2))⟩,
  ⟨none, .val 17 (.idxA 5 (.t 15) (.t 16))⟩,
  ⟨none, .val 18 (.ldR (.t 17) 5 true)⟩,
  ⟨none, .alloc 7 0 138 [.v (.int .i64 0), .v (mkS []), .v (mkS []), .nl 1, .nl 2]⟩,
  ⟨none, .sto (.t 7) 0 138 0 5 (.t 18)⟩] false [.forget [11, 12, 13, 14, 15, 16, 17, 18]]
abbrev zHH : HCode := .reg [⟨none, .val 19 (.fldR (.t 4) 0 1)⟩,
  ⟨none, .val 20 (.ldR (.t 19) 1 false)⟩] false [.forget [19]]
abbrev zHI : HCode := .reg [⟨none, .val 22 (.ints .eql (.t 20) (.c (iv 1)))⟩,
  ⟨none, .val 21 (.mv (.t 22))⟩] false [.forget [22]]
abbrev zHJ : HCode := .reg [⟨none, .val 23 (.fldP (.t 7) 3)⟩,
  ⟨none, .val 24 (.ldB (.t 23) 0 138 3 1 false)⟩,
  ⟨none, .val 25 (.fldR (.t 4) 1 1)⟩,
  ⟨none, .val 26 (.ldR (.t 25) 1 false)⟩,
  ⟨none, .call (some 27) zBe [(.t 24, .v), (.t 26, .v)]⟩,
  ⟨none, .val 6 (.mv (.t 27))⟩] false [.forget [23, 24, 25, 26, 27]]
abbrev zHK : HCode := .reg [⟨none, .val 29 (.ints .eql (.t 20) (.c (iv 2)))⟩,
  ⟨none, .val 28 (.mv (.t 29))⟩] false [.forget [29]]
abbrev zHL : HCode := .reg [⟨none, .val 30 (.fldP (.t 7) 2)⟩,
  ⟨none, .val 31 (.ldB (.t 30) 0 138 2 1 false)⟩,
  ⟨none, .val 32 (.fldR (.t 4) 1 1)⟩,
  ⟨none, .val 33 (.ldR (.t 32) 1 false)⟩,
  ⟨none, .val 34 (.strs .eql (.t 31) (.t 33))⟩,
  ⟨none, .val 6 (.mv (.t 34))⟩] false [.forget [30, 31, 32, 33, 34]]
abbrev zHM : HCode := .reg [⟨none, .val 36 (.ints .eql (.t 20) (.c (iv 9)))⟩,
  ⟨none, .val 35 (.mv (.t 36))⟩] false [.forget [36]]
abbrev zHN : HCode := .drg [⟨0, false, ⟨none, .val 37 (.fldR (.t 4) 3 2)⟩⟩,
  ⟨1, false, ⟨none, .val 38 (.ldR (.t 37) 2 true)⟩⟩,
  ⟨2, false, ⟨none, .val 39 (.mv (.t 0))⟩⟩,
  ⟨3, false, ⟨none, .val 40 (.nilck (.t 39))⟩⟩,
  ⟨4, false, ⟨none, .val 41 (.fldR (.t 40) 1 1)⟩⟩,
  ⟨5, false, ⟨none, .val 42 (.ldR (.t 41) 1 false)⟩⟩,
  ⟨6, false, ⟨none, .val 43 (.mv (.t 2))⟩⟩,
  ⟨7, false, ⟨none, .val 44 (.idxA 5 (.t 42) (.t 43))⟩⟩,
  ⟨8, false, ⟨none, .val 45 (.fldR (.t 44) 0 1)⟩⟩,
  ⟨9, false, ⟨none, .val 46 (.ldR (.t 45) 1 false)⟩⟩,
  ⟨10, true, ⟨none, .call (some 47) zED [(.t 38, .v), (.t 46, .v)]⟩⟩,
  ⟨11, false, ⟨none, .val 6 (.mv (.t 47))⟩⟩] [.forget [37, 38, 39, 40, 41, 42, 43, 44, 45, 46, 47]]
abbrev zHO : HCode := .reg [⟨none, .val 49 (.ints .eql (.t 20) (.c (iv 10)))⟩,
  ⟨none, .val 48 (.mv (.t 49))⟩] false [.forget [49]]
abbrev zGO : HCode := .drg [⟨0, false, ⟨none, .val 50 (.fldR (.t 4) 3 2)⟩⟩,
  ⟨1, false, ⟨none, .val 51 (.ldR (.t 50) 2 true)⟩⟩,
  ⟨2, false, ⟨none, .val 52 (.mv (.t 0))⟩⟩,
  ⟨3, false, ⟨none, .val 53 (.nilck (.t 52))⟩⟩,
  ⟨4, false, ⟨none, .val 54 (.fldR (.t 53) 1 1)⟩⟩,
  ⟨5, false, ⟨none, .val 55 (.ldR (.t 54) 1 false)⟩⟩,
  ⟨6, false, ⟨none, .val 56 (.mv (.t 2))⟩⟩,
  ⟨7, false, ⟨none, .val 57 (.idxA 5 (.t 55) (.t 56))⟩⟩,
  ⟨8, false, ⟨none, .val 58 (.fldR (.t 57) 1 1)⟩⟩,
  ⟨9, false, ⟨none, .val 59 (.ldR (.t 58) 1 false)⟩⟩,
  ⟨10, false, ⟨none, .val 60 (.mv (.t 0))⟩⟩,
  ⟨11, false, ⟨none, .val 61 (.nilck (.t 60))⟩⟩,
  ⟨12, false, ⟨none, .val 62 (.fldR (.t 61) 1 1)⟩⟩,
  ⟨13, false, ⟨none, .val 63 (.ldR (.t 62) 1 false)⟩⟩,
  ⟨14, false, ⟨none, .val 64 (.mv (.t 2))⟩⟩,
  ⟨15, false, ⟨none, .val 65 (.idxA 5 (.t 63) (.t 64))⟩⟩,
  ⟨16, false, ⟨none, .val 66 (.fldR (.t 65) 0 1)⟩⟩,
  ⟨17, false, ⟨none, .val 67 (.ldR (.t 66) 1 false)⟩⟩,
  ⟨18, false, ⟨none, .val 68 (.ints .sub (.t 59) (.t 67))⟩⟩,
  ⟨19, false, ⟨none, .val 69 (.ints .add (.t 68) (.c (iv 1)))⟩⟩,
  ⟨20, true, ⟨none, .call (some 70) zED [(.t 51, .v), (.t 69, .v)]⟩⟩,
  ⟨21, false, ⟨none, .val 6 (.mv (.t 70))⟩⟩] [.forget [50, 51, 52, 53, 54, 55, 56, 57, 58, 59, 60, 61, 62, 63, 64, 65, 66, 67, 68, 69, 70]]
abbrev zGP : HCode := .reg [⟨none, .val 72 (.ints .eql (.t 20) (.c (iv 11)))⟩,
  ⟨none, .val 71 (.mv (.t 72))⟩] false [.forget [72]]
abbrev zGQ : HCode := .reg [⟨none, .val 73 (.mv (.t 0))⟩,
  ⟨none, .val 74 (.nilck (.t 73))⟩,
  ⟨none, .val 75 (.fldR (.t 74) 1 1)⟩,
  ⟨none, .val 76 (.ldR (.t 75) 1 false)⟩,
  ⟨none, .val 77 (.mv (.t 2))⟩,
  ⟨none, .val 78 (.idxA 5 (.t 76) (.t 77))⟩,
  ⟨none, .val 79 (.fldR (.t 78) 4 1)⟩,
  ⟨none, .val 80 (.ldR (.t 79) 1 false)⟩,
  ⟨none, .val 81 (.ints .eql (.t 80) (.c (iv 0)))⟩,
  ⟨none, .val 6 (.mv (.t 81))⟩] false [.forget [73, 74, 75, 76, 77, 78, 79, 80, 81]]
abbrev zGR : HCode := .reg [⟨none, .val 83 (.ints .eql (.t 20) (.c (iv 12)))⟩,
  ⟨none, .val 82 (.mv (.t 83))⟩] false [.forget [83]]
abbrev zGS : HCode := .reg [⟨none, .val 84 (.mv (.t 2))⟩,
  ⟨none, .val 85 (.ints .eql (.t 84) (.c (iv 0)))⟩,
  ⟨none, .val 6 (.mv (.t 85))⟩] false [.forget [84, 85]]
abbrev zGT : HCode := .reg [⟨none, .val 87 (.ints .eql (.t 20) (.c (iv 13)))⟩,
  ⟨none, .val 86 (.mv (.t 87))⟩] false [.forget [87]]
abbrev zGU : HCode := .reg [⟨none, .val 88 (.mv (.t 0))⟩,
  ⟨none, .val 89 (.fldR (.t 4) 5 1)⟩,
  ⟨none, .val 90 (.ldR (.t 89) 1 false)⟩,
  ⟨none, .val 91 (.mv (.t 2))⟩,
  ⟨none, .call (some 92) zAt [(.t 88, .v), (.t 90, .v), (.t 91, .v)]⟩,
  ⟨none, .val 93 (.not (.t 92))⟩,
  ⟨none, .val 6 (.mv (.t 93))⟩] false [.forget [88, 89, 90, 91, 92, 93]]
abbrev zGV : HCode := .reg [⟨none, .val 95 (.ints .eql (.t 20) (.c (iv 14)))⟩,
  ⟨none, .val 94 (.mv (.t 95))⟩] false [.forget [95]]
abbrev zGW : HCode := .reg [⟨none, .val 96 (.mv (.t 0))⟩,
  ⟨none, .val 97 (.fldR (.t 4) 5 1)⟩,
  ⟨none, .val 98 (.ldR (.t 97) 1 false)⟩,
  ⟨none, .val 99 (.mv (.t 2))⟩,
  ⟨none, .call (some 100) zAt [(.t 96, .v), (.t 98, .v), (.t 99, .v)]⟩,
  ⟨none, .val 6 (.mv (.t 100))⟩] false [.forget [96, 97, 98, 99, 100]]
abbrev zGX : HCode := .reg [⟨none, .val 102 (.ints .eql (.t 20) (.c (iv 15)))⟩,
  ⟨none, .val 101 (.mv (.t 102))⟩] false [.forget [102]]
abbrev zGY : HCode := .reg [⟨none, .val 103 (.mv (.t 2))⟩,
  ⟨none, .val 104 (.ints .add (.t 103) (.c (iv 1)))⟩,
  ⟨none, .val 8 (.mv (.t 104))⟩] false [.forget [103, 104]]
abbrev zGZ : HCode := .reg [⟨none, .val 105 (.mv (.t 8))⟩,
  ⟨none, .val 106 (.mv (.t 2))⟩,
  ⟨none, .val 107 (.mv (.t 0))⟩,
  ⟨none, .val 108 (.nilck (.t 107))⟩,
  ⟨none, .val 109 (.fldR (.t 108) 1 1)⟩,
  ⟨none, .val 110 (.ldR (.t 109) 1 false)⟩,
  ⟨none, .val 111 (.mv (.t 2))⟩,
  ⟨none, .val 112 (.idxA 5 (.t 110) (.t 111))⟩,
  ⟨none, .val 113 (.fldR (.t 112) 3 1)⟩,
  ⟨none, .val 114 (.ldR (.t 113) 1 false)⟩,
  ⟨none, .val 115 (.ints .add (.t 106) (.t 114))⟩,
  ⟨none, .val 116 (.ints .leq (.t 105) (.t 115))⟩] false [.forget [105, 106, 107, 108, 109, 110, 111, 112, 113, 114, 115]]
abbrev zG0 : HCode := .reg [⟨none, .val 119 (.mv (.t 0))⟩,
  ⟨none, .val 120 (.fldR (.t 4) 5 1)⟩,
  ⟨none, .val 121 (.ldR (.t 120) 1 false)⟩,
  ⟨none, .val 122 (.mv (.t 8))⟩,
  ⟨none, .call (some 123) zAt [(.t 119, .v), (.t 121, .v), (.t 122, .v)]⟩] false [.forget [119, 120, 121, 122]]
abbrev zG1 : HCode := .reg [⟨none, .val 6 (.mv (.c (bv true)))⟩] false []
abbrev zG2 : HCode := .reg [⟨none, .val 117 (.mv (.t 8))⟩,
  ⟨none, .val 118 (.ints .add (.t 117) (.c (iv 1)))⟩,
  ⟨none, .val 8 (.mv (.t 118))⟩] false [.forget [117, 118]]
abbrev zG3 : HCode := .reg [⟨none, .val 6 (.mv (.c (bv false)))⟩] false []
abbrev zG4 : HCode := .reg [⟨none, .val 125 (.mv (.t 0))⟩,
  ⟨none, .val 126 (.mv (.t 2))⟩,
  ⟨none, .val 127 (.fldR (.t 4) 1 1)⟩,
  ⟨none, .val 128 (.ldR (.t 127) 1 false)⟩,
  ⟨none, .call (some 129) zCQ [(.t 125, .v), (.t 126, .v), (.t 128, .v)]⟩,
  ⟨none, .val 124 (.mv (.t 129))⟩,
  ⟨none, .val 130 (.ext 124 0)⟩,
  ⟨none, .val 131 (.ext 124 1)⟩,
  ⟨none, .val 9 (.mv (.t 130))⟩,
  ⟨none, .val 10 (.mv (.t 131))⟩] false [.forget [124, 125, 126, 127, 128, 129, 130, 131]]
abbrev zG5 : HCode := .reg [⟨none, .val 132 (.mv (.t 10))⟩,
  ⟨none, .val 133 (.mv (.t 132))⟩,
  ⟨some (133, true), .val 134 (.ldR (.t 4) 6 true)⟩,
  ⟨some (133, true), .val 135 (.mv (.t 9))⟩,
  ⟨some (133, true), .call (some 136) zFQ [(.t 134, .v), (.t 135, .v)]⟩,
  ⟨none, .val 137 (.pick (.t 133) (.t 136) (.c (bv false)))⟩,
  ⟨none, .val 6 (.mv (.t 137))⟩] false [.forget [132, 133, 134, 135, 136, 137]]
abbrev zKt : HCode := (.seq zHF (.seq zHG (.seq (.seq zHH (.block 0 (.seq zHI (.cond (.t 21) (.seq zHJ .ret) (.seq zHK (.cond (.t 28) (.seq zHL .ret) (.seq zHM (.cond (.t 35) (.seq zHN .ret) (.seq zHO (.cond (.t 48) (.seq zGO .ret) (.seq zGP (.cond (.t 71) (.seq zGQ .ret) (.seq zGR (.cond (.t 82) (.seq zGS .ret) (.seq zGT (.cond (.t 86) (.seq zGU .ret) (.seq zGV (.cond (.t 94) (.seq zGW .ret) (.seq zGX (.cond (.t 101) (.seq (.seq zGY (.block 1 (.loop (.seq (.seq zGZ (.cond (.t 116) .skip (.exit 1))) (.seq (.block 2 (.seq zG0 (.cond (.t 123) (.seq zG1 .ret) .skip))) zG2))))) (.seq zG3 .ret)) .skip)))))))))))))))))))) (.seq zG4 (.seq zG5 .ret)))))
abbrev zB2 : Env := { N := 138, Γ := [(138, 5)], L := 143, nfix := 0 }
abbrev zIA : List RSrc := [.tmp 6]
theorem zHP {base : Nat} {av : List AV} {r : RV} (hfo : zAB zB2 base av) (hW : AVs.fits av → hwp Tryd.prog zKt (zCH zB2 base av zIA r) (F0 zB2 base av)) (hov : ∀ x, r.res = .ov x → zCj av = 0 := by intro x h; cases h <;> rfl) : Contract Tryd.prog zAJ av r :=
 zAb (fn := Tryd.f14) (c := Tryd.f14.body.getD .skip) (by kernel_rfl) (by kernel_rfl) (by kernel_rfl) (by kernel_rfl) (by kernel_rfl) (by kernel_rfl) (by kernel_rfl) hfo hW hov
abbrev zJn : HCode := .reg [⟨none, .val 3 (.boxF (.t 0))⟩,
  ⟨none, .val 4 (.boxF (.t 1))⟩,
  ⟨none, .val 5 (.boxF (.t 2))⟩,
  ⟨none, .val 6 (.mv (.c (bv false)))⟩] false []
abbrev zJo : HCode := .drg [⟨0, false, ⟨none, .val 7 (.fldR (.t 4) 0 1)⟩⟩,
  ⟨1, false, ⟨none, .val 8 (.ldR (.t 7) 1 false)⟩⟩,
  ⟨2, false, ⟨none, .val 9 (.strs .eql (.t 8) (.c (sv [])))⟩⟩,
  ⟨3, false, ⟨none, .val 10 (.mv (.t 9))⟩⟩,
  ⟨4, false, ⟨some (10, false), .val 11 (.fldR (.t 4) 0 1)⟩⟩,
  ⟨5, false, ⟨some (10, false), .val 12 (.ldR (.t 11) 1 false)⟩⟩,
  ⟨6, false, ⟨some (10, false), .val 13 (.ldR (.t 3) 1 false)⟩⟩,
  ⟨7, false, ⟨some (10, false), .val 14 (.nilck (.t 13))⟩⟩,
  ⟨8, false, ⟨some (10, false), .val 15 (.fldR (.t 14) 0 1)⟩⟩,
  ⟨9, false, ⟨some (10, false), .val 16 (.fldR (.t 15) 0 1)⟩⟩,
  ⟨10, false, ⟨some (10, false), .val 17 (.ldR (.t 16) 1 false)⟩⟩,
  ⟨11, false, ⟨some (10, false), .val 18 (.ldR (.t 5) 1 false)⟩⟩,
  ⟨12, false, ⟨some (10, false), .val 19 (.idxA 5 (.t 17) (.t 18))⟩⟩,
  ⟨13, false, ⟨some (10, false), .val 20 (.fldR (.t 19) 1 1)⟩⟩,
  ⟨14, false, ⟨some (10, false), .val 21 (.ldR (.t 20) 1 false)⟩⟩,
  ⟨15, false, ⟨some (10, false), .val 22 (.strs .eql (.t 12) (.t 21))⟩⟩,
  ⟨16, false, ⟨none, .val 23 (.pick (.t 10) (.c (bv true)) (.t 22))⟩⟩,
  ⟨17, false, ⟨none, .val 24 (.mv (.t 23))⟩⟩,
  ⟨18, false, ⟨some (24, true), .val 25 (.fldR (.t 4) 1 1)⟩⟩,
  ⟨19, false, ⟨some (24, true), .val 26 (.ldR (.t 25) 1 false)⟩⟩,
  ⟨20, false, ⟨some (24, true), .val 27 (.mkf zBQ [.t 3, .t 5])⟩⟩,
  ⟨21, true, ⟨some (24, true), .call (some 28) zBA [(.t 26, .v), (.t 27, .v)]⟩⟩,
  ⟨22, false, ⟨some (24, true), .val 29 (.not (.t 28))⟩⟩,
  ⟨23, false, ⟨none, .val 30 (.pick (.t 24) (.t 29) (.c (bv false)))⟩⟩,
  ⟨24, false, ⟨none, .val 6 (.mv (.t 30))⟩⟩] [.forget [7, 8, 9, 10, 11, 12, 13, 14, 15, 16, 17, 18, 19, 20, 21, 22, 23, 24, 25, 26, 27, 28, 29, 30]]
abbrev zMN : HCode := (.seq zJn (.seq zJo .ret))
abbrev zCw : Env := { N := 31, Γ := [], L := 31, nfix := 0 }
abbrev zKu : List RSrc := [.tmp 6]
theorem zJp {base : Nat} {av : List AV} {r : RV} (hfo : zAB zCw base av) (hW : AVs.fits av → hwp Tryd.prog zMN (zCH zCw base av zKu r) (F0 zCw base av)) (hov : ∀ x, r.res = .ov x → zCj av = 0 := by intro x h; cases h <;> rfl) : Contract Tryd.prog zBj av r :=
 zAb (fn := Tryd.f27) (c := Tryd.f27.body.getD .skip) (by kernel_rfl) (by kernel_rfl) (by kernel_rfl) (by kernel_rfl) (by kernel_rfl) (by kernel_rfl) (by kernel_rfl) hfo hW hov
abbrev zHQ : HCode := .reg [⟨none, .val 3 (.boxF (.t 0))⟩,
  ⟨none, .val 4 (.mv (.c (bv false)))⟩] false []
abbrev zHR : HCode := .reg [⟨none, .val 5 (.ldR (.t 1) 1 false)⟩,
  ⟨none, .val 6 (.ldR (.t 3) 6 true)⟩,
  ⟨none, .val 7 (.ldR (.t 2) 1 false)⟩,
  ⟨none, .call (some 8) zAJ [(.t 5, .v), (.t 6, .v), (.t 7, .v)]⟩,
  ⟨none, .val 9 (.not (.t 8))⟩,
  ⟨none, .val 4 (.mv (.t 9))⟩] false [.forget [5, 6, 7, 8, 9]]
abbrev zKv : HCode := (.seq zHQ (.seq zHR .ret))
abbrev zB3 : Env := { N := 10, Γ := [], L := 10, nfix := 0 }
abbrev zIB : List RSrc := [.tmp 4]
theorem zHS {base : Nat} {av : List AV} {r : RV} (hfo : zAB zB3 base av) (hW : AVs.fits av → hwp Tryd.prog zKv (zCH zB3 base av zIB r) (F0 zB3 base av)) (hov : ∀ x, r.res = .ov x → zCj av = 0 := by intro x h; cases h <;> rfl) : Contract Tryd.prog zBQ av r :=
 zAb (fn := Tryd.f41) (c := Tryd.f41.body.getD .skip) (by kernel_rfl) (by kernel_rfl) (by kernel_rfl) (by kernel_rfl) (by kernel_rfl) (by kernel_rfl) (by kernel_rfl) hfo hW hov
abbrev zIC : HCode := .reg [⟨none, .val 3 (.boxF (.t 0))⟩,
  ⟨none, .val 4 (.boxF (.t 1))⟩,
  ⟨none, .val 5 (.boxF (.t 2))⟩,
  ⟨none, .val 6 (.mv (.c (.one (.v .nilFunc))))⟩] false []
abbrev zID : HCode := .reg [⟨none, .val 8 (.mkf zBI [.t 3])⟩,
  ⟨none, .alloc 7 0 17 [.v .nilFunc]⟩,
  ⟨none, .sto (.t 7) 0 17 0 1 (.t 8)⟩] false [.forget [8]]
abbrev zIE : HCode := .reg [⟨none, .val 9 (.ldR (.t 4) 1 false)⟩,
  ⟨none, .val 10 (.ints .eql (.t 9) (.c (iv 3)))⟩,
  ⟨none, .val 11 (.mv (.t 10))⟩,
  ⟨some (11, false), .val 12 (.ldR (.t 4) 1 false)⟩,
  ⟨some (11, false), .val 13 (.ints .eql (.t 12) (.c (iv 4)))⟩,
  ⟨none, .val 14 (.pick (.t 11) (.c (bv true)) (.t 13))⟩] false [.forget [9, 10, 11, 12, 13]]
abbrev zIF : HCode := .reg [⟨none, .val 15 (.mkf zBJ [.t 3])⟩,
  ⟨none, .sto (.t 7) 0 17 0 1 (.t 15)⟩] false [.forget [15]]
abbrev zIG : HCode := .regG [.frz 0 17 1] [⟨none, .val 16 (.mkf zDB [.t 7, .t 5, .t 4])⟩,
  ⟨none, .val 6 (.mv (.t 16))⟩] [.forget [16]]
abbrev zLm : HCode := (.seq zIC (.seq zID (.seq (.seq zIE (.cond (.t 14) zIF .skip)) (.seq zIG .ret))))
abbrev zCh : Env := { N := 17, Γ := [(17, 1)], L := 18, nfix := 0 }
abbrev zJq : List RSrc := [.tmp 6]
theorem zIH {base : Nat} {av : List AV} {r : RV} (hfo : zAB zCh base av) (hW : AVs.fits av → hwp Tryd.prog zLm (zCH zCh base av zJq r) (F0 zCh base av)) (hov : ∀ x, r.res = .ov x → zCj av = 0 := by intro x h; cases h <;> rfl) : Contract Tryd.prog zCP av r :=
 zAb (fn := Tryd.f28) (c := Tryd.f28.body.getD .skip) (by kernel_rfl) (by kernel_rfl) (by kernel_rfl) (by kernel_rfl) (by kernel_rfl) (by kernel_rfl) (by kernel_rfl) hfo hW hov
abbrev zG6 : HCode := .reg [⟨none, .val 3 (.mv (.c (iv 0)))⟩] false []
abbrev zG7 : HCode := .reg [⟨none, .val 4 (.ldR (.t 1) 1 false)⟩,
  ⟨none, .val 5 (.nilck (.t 4))⟩,
  ⟨none, .val 6 (.fldR (.t 5) 0 1)⟩,
  ⟨none, .val 7 (.fldR (.t 6) 0 1)⟩,
  ⟨none, .val 8 (.ldR (.t 7) 1 false)⟩,
  ⟨none, .val 9 (.mv (.t 0))⟩,
  ⟨none, .val 10 (.idxA 5 (.t 8) (.t 9))⟩,
  ⟨none, .val 11 (.fldR (.t 10) 0 1)⟩,
  ⟨none, .val 12 (.ldR (.t 11) 1 false)⟩,
  ⟨none, .val 3 (.mv (.t 12))⟩] false [.forget [4, 5, 6, 7, 8, 9, 10, 11, 12]]
abbrev zJr : HCode := (.seq zG6 (.seq zG7 .ret))
abbrev zBS : Env := { N := 13, Γ := [], L := 13, nfix := 0 }
abbrev zHT : List RSrc := [.tmp 3]
theorem zG8 {base : Nat} {av : List AV} {r : RV} (hfo : zAB zBS base av) (hW : AVs.fits av → hwp Tryd.prog zJr (zCH zBS base av zHT r) (F0 zBS base av)) (hov : ∀ x, r.res = .ov x → zCj av = 0 := by intro x h; cases h <;> rfl) : Contract Tryd.prog zBI av r :=
 zAb (fn := Tryd.f42) (c := Tryd.f42.body.getD .skip) (by kernel_rfl) (by kernel_rfl) (by kernel_rfl) (by kernel_rfl) (by kernel_rfl) (by kernel_rfl) (by kernel_rfl) hfo hW hov
abbrev zG9 : HCode := .reg [⟨none, .val 3 (.mv (.c (iv 0)))⟩] false []
abbrev zHa : HCode := .reg [⟨none, .val 4 (.ldR (.t 1) 1 false)⟩,
  ⟨none, .val 5 (.nilck (.t 4))⟩,
  ⟨none, .val 6 (.fldR (.t 5) 1 1)⟩,
  ⟨none, .val 7 (.ldR (.t 6) 1 false)⟩,
  ⟨none, .val 8 (.mv (.t 0))⟩,
  ⟨none, .val 9 (.idxA 5 (.t 7) (.t 8))⟩,
  ⟨none, .val 10 (.fldR (.t 9) 2 1)⟩,
  ⟨none, .val 11 (.ldR (.t 10) 1 false)⟩,
  ⟨none, .val 3 (.mv (.t 11))⟩] false [.forget [4, 5, 6, 7, 8, 9, 10, 11]]
abbrev zJs : HCode := (.seq zG9 (.seq zHa .ret))
abbrev zBT : Env := { N := 12, Γ := [], L := 12, nfix := 0 }
abbrev zHU : List RSrc := [.tmp 3]
theorem zHb {base : Nat} {av : List AV} {r : RV} (hfo : zAB zBT base av) (hW : AVs.fits av → hwp Tryd.prog zJs (zCH zBT base av zHU r) (F0 zBT base av)) (hov : ∀ x, r.res = .ov x → zCj av = 0 := by intro x h; cases h <;> rfl) : Contract Tryd.prog zBJ av r :=
 zAb (fn := Tryd.f43) (c := Tryd.f43.body.getD .skip) (by kernel_rfl) (by kernel_rfl) (by kernel_rfl) (by kernel_rfl) (by kernel_rfl) (by kernel_rfl) (by kernel_rfl) hfo hW hov
abbrev zJt : HCode := .reg [⟨none, .val 3 (.boxF (.t 0))⟩,
  ⟨none, .val 5 (.boxF (.t 2))⟩,
  ⟨none, .val 6 (.mv (.c (bv false)))⟩] false []
abbrev zJu : HCode := .reg [⟨none, .val 7 (.mv (.t 1))⟩,
  ⟨none, .val 8 (.mkf zBP [.t 3, .t 5])⟩,
  ⟨none, .call (some 9) zBz [(.t 7, .v), (.t 8, .v)]⟩,
  ⟨none, .val 6 (.mv (.t 9))⟩] false [.forget [7, 8, 9]]
abbrev zMO : HCode := (.seq zJt (.seq zJu .ret))
abbrev zCx : Env := { N := 10, Γ := [], L := 10, nfix := 0 }
abbrev zKw : List RSrc := [.tmp 6]
theorem zJv {base : Nat} {av : List AV} {r : RV} (hfo : zAB zCx base av) (hW : AVs.fits av → hwp Tryd.prog zMO (zCH zCx base av zKw r) (F0 zCx base av)) (hov : ∀ x, r.res = .ov x → zCj av = 0 := by intro x h; cases h <;> rfl) : Contract Tryd.prog zAt av r :=
 zAb (fn := Tryd.f10) (c := Tryd.f10.body.getD .skip) (by kernel_rfl) (by kernel_rfl) (by kernel_rfl) (by kernel_rfl) (by kernel_rfl) (by kernel_rfl) (by kernel_rfl) hfo hW hov
abbrev zHV : HCode := .reg [⟨none, .val 3 (.boxF (.t 0))⟩,
  ⟨none, .val 4 (.mv (.c (bv false)))⟩] false []
abbrev zHW : HCode := .reg [⟨none, .val 5 (.ldR (.t 1) 1 false)⟩,
  ⟨none, .val 6 (.ldR (.t 3) 2 true)⟩,
  ⟨none, .val 7 (.fldR (.t 3) 0 1)⟩,
  ⟨none, .val 8 (.ldR (.t 7) 1 false)⟩,
  ⟨none, .val 9 (.len false (.t 8))⟩,
  ⟨none, .val 10 (.ldR (.t 2) 1 false)⟩,
  ⟨none, .call (some 11) zA4 [(.t 5, .v), (.t 6, .v), (.t 9, .v), (.t 10, .v)]⟩,
  ⟨none, .val 4 (.mv (.t 11))⟩] false [.forget [5, 6, 7, 8, 9, 10, 11]]
abbrev zKx : HCode := (.seq zHV (.seq zHW .ret))
abbrev zB4 : Env := { N := 12, Γ := [], L := 12, nfix := 0 }
abbrev zII : List RSrc := [.tmp 4]
theorem zHX {base : Nat} {av : List AV} {r : RV} (hfo : zAB zB4 base av) (hW : AVs.fits av → hwp Tryd.prog zKx (zCH zB4 base av zII r) (F0 zB4 base av)) (hov : ∀ x, r.res = .ov x → zCj av = 0 := by intro x h; cases h <;> rfl) : Contract Tryd.prog zBP av r :=
 zAb (fn := Tryd.f17) (c := Tryd.f17.body.getD .skip) (by kernel_rfl) (by kernel_rfl) (by kernel_rfl) (by kernel_rfl) (by kernel_rfl) (by kernel_rfl) (by kernel_rfl) hfo hW hov
abbrev zNn : HCode := .reg [⟨none, .val 2 (.boxF (.t 0))⟩,
  ⟨none, .val 4 (.mv (.c (.one (.v (.pointer none)))))⟩,
  ⟨none, .val 5 (.mv (.c (iv 0)))⟩] false []
abbrev zNo : HCode := .reg [⟨none, .val 8 (.ldR (.t 2) 1 true)⟩,
  ⟨none, .call (some 9) zGt [(.t 8, .v)]⟩,
  ⟨none, .val 6 (.mv (.t 9))⟩] false [.forget [8, 9]]
abbrev zNp : HCode := .reg [⟨none, .val 10 (.mv (.t 6))⟩,
  ⟨none, .val 11 (.ints .neq (.t 10) (.c (iv 0)))⟩] false [.forget [10]]
abbrev zNq : HCode := .reg [⟨none, .val 12 (.mv (.t 6))⟩,
  ⟨none, .val 4 (.mv (.c (.one (.v (.pointer none)))))⟩,
  ⟨none, .val 5 (.mv (.t 12))⟩] false [.forget [12]]
abbrev zNr : HCode := .reg [⟨none, .val 13 (.mv (.t 1))⟩,
  ⟨none, .call (some 14) zFO [(.t 13, .v)]⟩,
  ⟨none, .val 7 (.mv (.t 14))⟩] false [.forget [13, 14]]
abbrev zNs : HCode := .reg [⟨none, .val 15 (.mv (.t 7))⟩,
  ⟨none, .val 16 (.ints .neq (.t 15) (.c (iv 0)))⟩] false [.forget [15]]
abbrev zNt : HCode := .reg [⟨none, .val 17 (.mv (.t 7))⟩,
  ⟨none, .val 4 (.mv (.c (.one (.v (.pointer none)))))⟩,
  ⟨none, .val 5 (.mv (.t 17))⟩] false [.forget [17]]
abbrev zNu : HCode := .reg [⟨none, .val 18 (.ldR (.t 2) 1 true)⟩,
  ⟨none, .call (some 19) zIq [(.t 18, .v)]⟩,
  ⟨none, .val 4 (.mv (.t 19))⟩,
  ⟨none, .val 5 (.mv (.c (iv 0)))⟩] false [.forget [18, 19]]
abbrev zST : HCode := (.seq zNn (.seq (.seq zNo (.seq zNp (.cond (.t 11) (.seq zNq .ret) .skip))) (.seq (.seq zNr (.seq zNs (.cond (.t 16) (.seq zNt .ret) .skip))) (.seq zNu .ret))))
abbrev zDW : Env := { N := 20, Γ := [], L := 20, nfix := 0 }
abbrev zPm : List RSrc := [.tmp 4, .tmp 5]
theorem zNv {base : Nat} {av : List AV} {r : RV} (hfo : zAB zDW base av) (hW : AVs.fits av → hwp Tryd.prog zST (zCH zDW base av zPm r) (F0 zDW base av)) (hov : ∀ x, r.res = .ov x → zCj av = 0 := by intro x h; cases h <;> rfl) : Contract Tryd.prog zDy av r :=
 zAb (fn := Tryd.f15) (c := Tryd.f15.body.getD .skip) (by kernel_rfl) (by kernel_rfl) (by kernel_rfl) (by kernel_rfl) (by kernel_rfl) (by kernel_rfl) (by kernel_rfl) hfo hW hov
abbrev zSU : HCode := .reg [⟨none, .val 3 (.boxF (.t 0))⟩,
  ⟨none, .val 6 (.mv (.c (.one (.v (.pointer none)))))⟩,
  ⟨none, .val 7 (.mv (.c (iv 0)))⟩] false []
abbrev zSV : HCode := .reg [⟨none, .val 11 (.ldR (.t 3) 1 true)⟩,
  ⟨none, .val 12 (.mv (.t 1))⟩,
  ⟨none, .call (some 13) zDy [(.t 11, .v), (.t 12, .v)]⟩,
  ⟨none, .val 10 (.mv (.t 13))⟩,
  ⟨none, .val 14 (.ext 10 0)⟩,
  ⟨none, .val 15 (.ext 10 1)⟩,
  ⟨none, .val 8 (.mv (.t 14))⟩,
  ⟨none, .val 9 (.mv (.t 15))⟩] false [.forget [10, 11, 12, 13, 14, 15]]
abbrev zSW : HCode := .reg [⟨none, .val 16 (.mv (.t 9))⟩,
  ⟨none, .val 17 (.ints .eql (.t 16) (.c (iv 0)))⟩,
  ⟨none, .val 18 (.mv (.t 17))⟩,
  ⟨some (18, true), .val 19 (.mv (.t 2))⟩,
  ⟨some (18, true), .val 20 (.ints .lss (.t 19) (.c (iv 0)))⟩,
  ⟨some (18, true), .val 21 (.mv (.t 20))⟩,
  ⟨some (21, false), .val 22 (.mv (.t 2))⟩,
  ⟨some (21, false), .val 23 (.fldR (.t 3) 0 1)⟩,
  ⟨some (21, false), .val 24 (.ldR (.t 23) 1 false)⟩,
  ⟨some (21, false), .val 25 (.len false (.t 24))⟩,
  ⟨some (21, false), .val 26 (.ints .geq (.t 22) (.t 25))⟩,
  ⟨some (18, true), .val 27 (.pick (.t 21) (.c (bv true)) (.t 26))⟩,
  ⟨none, .val 28 (.pick (.t 18) (.t 27) (.c (bv false)))⟩] false [.forget [16, 17, 18, 19, 20, 21, 22, 23, 24, 25, 26, 27]]
abbrev zSX : HCode := .reg [⟨none, .val 9 (.mv (.c (iv 5)))⟩] false []
abbrev zSY : HCode := .reg [⟨none, .val 29 (.mv (.t 8))⟩,
  ⟨none, .val 30 (.mv (.t 9))⟩,
  ⟨none, .val 6 (.mv (.t 29))⟩,
  ⟨none, .val 7 (.mv (.t 30))⟩] false [.forget [29, 30]]
abbrev zW8 : HCode := (.seq zSU (.seq zSV (.seq (.seq zSW (.cond (.t 28) zSX .skip)) (.seq zSY .ret))))
abbrev zHv : Env := { N := 31, Γ := [], L := 31, nfix := 0 }
abbrev zUN : List RSrc := [.tmp 6, .tmp 7]
theorem zSZ {base : Nat} {av : List AV} {r : RV} (hfo : zAB zHv base av) (hW : AVs.fits av → hwp Tryd.prog zW8 (zCH zHv base av zUN r) (F0 zHv base av)) (hov : ∀ x, r.res = .ov x → zCj av = 0 := by intro x h; cases h <;> rfl) : Contract Tryd.prog zEb av r :=
 zAb (fn := Tryd.f9) (c := Tryd.f9.body.getD .skip) (by kernel_rfl) (by kernel_rfl) (by kernel_rfl) (by kernel_rfl) (by kernel_rfl) (by kernel_rfl) (by kernel_rfl) hfo hW hov
abbrev zPn : HCode := .reg [⟨none, .val 3 (.boxF (.t 0))⟩,
  ⟨none, .val 4 (.boxF (.t 1))⟩,
  ⟨none, .val 6 (.mv (.c (bv false)))⟩,
  ⟨none, .val 7 (.mv (.c (iv 0)))⟩] false []
abbrev zPo : HCode := .reg [⟨none, .val 11 (.ldR (.t 3) 1 true)⟩,
  ⟨none, .val 12 (.ldR (.t 4) 6 true)⟩,
  ⟨none, .val 13 (.bslF 6 [.t 12])⟩,
  ⟨none, .val 14 (.bld [.v (mkS []), .nl 6] [(1, 1, .t 13)])⟩,
  ⟨none, .val 15 (.bslF 2 [.t 14])⟩,
  ⟨none, .val 16 (.bld [.nl 2, .nl 1] [(0, 1, .t 15)])⟩,
  ⟨none, .val 17 (.bslF 2 [.t 16])⟩,
  ⟨none, .val 18 (.mv (.t 2))⟩,
  ⟨none, .call (some 19) zEb [(.t 11, .v), (.t 17, .v), (.t 18, .v)]⟩,
  ⟨none, .val 10 (.mv (.t 19))⟩,
  ⟨none, .val 20 (.ext 10 0)⟩,
  ⟨none, .val 21 (.ext 10 1)⟩,
  ⟨none, .val 8 (.mv (.t 20))⟩,
  ⟨none, .val 9 (.mv (.t 21))⟩] false [.forget [10, 11, 12, 13, 14, 15, 16, 17, 18, 19, 20, 21]]
abbrev zPp : HCode := .reg [⟨none, .val 22 (.mv (.t 9))⟩,
  ⟨none, .val 23 (.ints .eql (.t 22) (.c (iv 0)))⟩,
  ⟨none, .val 24 (.mv (.t 23))⟩,
  ⟨some (24, true), .val 25 (.mv (.t 8))⟩,
  ⟨some (24, true), .val 26 (.ldR (.t 4) 6 true)⟩,
  ⟨some (24, true), .val 27 (.mv (.t 2))⟩,
  ⟨some (24, true), .call (some 28) zAJ [(.t 25, .v), (.t 26, .v), (.t 27, .v)]⟩,
  ⟨none, .val 29 (.pick (.t 24) (.t 28) (.c (bv false)))⟩,
  ⟨none, .val 30 (.mv (.t 9))⟩,
  ⟨none, .val 6 (.mv (.t 29))⟩,
  ⟨none, .val 7 (.mv (.t 30))⟩] false [.forget [22, 23, 24, 25, 26, 27, 28, 29, 30]]
abbrev zUO : HCode := (.seq zPn (.seq zPo (.seq zPp .ret)))
abbrev zEJ : Env := { N := 31, Γ := [], L := 31, nfix := 0 }
abbrev zRj : List RSrc := [.tmp 6, .tmp 7]
theorem zPq {base : Nat} {av : List AV} {r : RV} (hfo : zAB zEJ base av) (hW : AVs.fits av → hwp Tryd.prog zUO (zCH zEJ base av zRj r) (F0 zEJ base av)) (hov : ∀ x, r.res = .ov x → zCj av = 0 := by intro x h; cases h <;> rfl) : Contract Tryd.prog zC9 av r :=
 zAb (fn := Tryd.f6) (c := Tryd.f6.body.getD .skip) (by kernel_rfl) (by kernel_rfl) (by kernel_rfl) (by kernel_rfl) (by kernel_rfl) (by kernel_rfl) (by kernel_rfl) hfo hW hov
abbrev zLn : HCode := .reg [⟨none, .val 3 (.boxF (.t 0))⟩,
  ⟨none, .val 6 (.mv (.c (bv false)))⟩,
  ⟨none, .val 7 (.mv (.c (iv 0)))⟩] false []
abbrev zLo : HCode := .reg [⟨none, .val 11 (.ldR (.t 3) 1 true)⟩,
  ⟨none, .val 12 (.mv (.t 1))⟩,
  ⟨none, .val 13 (.mv (.t 2))⟩,
  ⟨none, .call (some 14) zEb [(.t 11, .v), (.t 12, .v), (.t 13, .v)]⟩,
  ⟨none, .val 10 (.mv (.t 14))⟩,
  ⟨none, .val 15 (.ext 10 0)⟩,
  ⟨none, .val 16 (.ext 10 1)⟩,
  ⟨none, .val 8 (.mv (.t 15))⟩,
  ⟨none, .val 9 (.mv (.t 16))⟩] false [.forget [10, 11, 12, 13, 14, 15, 16]]
abbrev zLp : HCode := .reg [⟨none, .val 17 (.mv (.t 9))⟩,
  ⟨none, .val 18 (.ints .eql (.t 17) (.c (iv 0)))⟩,
  ⟨none, .val 19 (.mv (.t 18))⟩,
  ⟨some (19, true), .val 20 (.mv (.t 8))⟩,
  ⟨some (19, true), .val 21 (.mv (.t 1))⟩,
  ⟨some (19, true), .val 22 (.mv (.t 2))⟩,
  ⟨some (19, true), .call (some 23) zAt [(.t 20, .v), (.t 21, .v), (.t 22, .v)]⟩,
  ⟨none, .val 24 (.pick (.t 19) (.t 23) (.c (bv false)))⟩,
  ⟨none, .val 25 (.mv (.t 9))⟩,
  ⟨none, .val 6 (.mv (.t 24))⟩,
  ⟨none, .val 7 (.mv (.t 25))⟩] false [.forget [17, 18, 19, 20, 21, 22, 23, 24, 25]]
abbrev zPr : HCode := (.seq zLn (.seq zLo (.seq zLp .ret)))
abbrev zDg : Env := { N := 26, Γ := [], L := 26, nfix := 0 }
abbrev zMP : List RSrc := [.tmp 6, .tmp 7]
theorem zLq {base : Nat} {av : List AV} {r : RV} (hfo : zAB zDg base av) (hW : AVs.fits av → hwp Tryd.prog zPr (zCH zDg base av zMP r) (F0 zDg base av)) (hov : ∀ x, r.res = .ov x → zCj av = 0 := by intro x h; cases h <;> rfl) : Contract Tryd.prog zBn av r :=
 zAb (fn := Tryd.f4) (c := Tryd.f4.body.getD .skip) (by kernel_rfl) (by kernel_rfl) (by kernel_rfl) (by kernel_rfl) (by kernel_rfl) (by kernel_rfl) (by kernel_rfl) hfo hW hov
abbrev zRk : HCode := .reg [⟨none, .val 2 (.boxF (.t 0))⟩,
  ⟨none, .val 4 (.mv (.c (.one (.nl 1))))⟩,
  ⟨none, .val 5 (.mv (.c (iv 0)))⟩] false []
abbrev zRl : HCode := .reg [⟨none, .val 11 (.ldR (.t 2) 1 true)⟩,
  ⟨none, .val 12 (.mv (.t 1))⟩,
  ⟨none, .call (some 13) zDy [(.t 11, .v), (.t 12, .v)]⟩,
  ⟨none, .val 10 (.mv (.t 13))⟩,
  ⟨none, .val 14 (.ext 10 0)⟩,
  ⟨none, .val 15 (.ext 10 1)⟩,
  ⟨none, .val 6 (.mv (.t 14))⟩,
  ⟨none, .val 7 (.mv (.t 15))⟩] false [.forget [10, 11, 12, 13, 14, 15]]
abbrev zRm : HCode := .reg [⟨none, .val 16 (.mv (.t 7))⟩,
  ⟨none, .val 17 (.ints .neq (.t 16) (.c (iv 0)))⟩] false [.forget [16]]
abbrev zRn : HCode := .reg [⟨none, .val 18 (.mv (.t 7))⟩,
  ⟨none, .val 4 (.mv (.c (.one (.nl 1))))⟩,
  ⟨none, .val 5 (.mv (.t 18))⟩] false [.forget [18]]
abbrev zRo : HCode := .reg [⟨none, .nlo 8 zMJ 1⟩] false []
abbrev zRp : HCode := .reg [⟨none, .val 19 (.fldR (.t 2) 0 1)⟩,
  ⟨none, .val 20 (.ldR (.t 19) 1 false)⟩,
  ⟨none, .val 21 (.len false (.t 20))⟩,
  ⟨none, .val 22 (.mv (.c (iv 0)))⟩] false [.forget [19, 20]]
abbrev zRq : HCode := .reg [⟨none, .val 23 (.ints .lss (.t 22) (.t 21))⟩] false []
abbrev zRr : HCode := .reg [⟨none, .val 24 (.mv (.t 22))⟩,
  ⟨none, .val 9 (.mv (.t 24))⟩] false [.forget [24]]
abbrev zRs : HCode := .reg [⟨none, .val 25 (.mv (.t 6))⟩,
  ⟨none, .val 26 (.mv (.t 1))⟩,
  ⟨none, .val 27 (.mv (.t 9))⟩,
  ⟨none, .call (some 28) zAt [(.t 25, .v), (.t 26, .v), (.t 27, .v)]⟩] false [.forget [25, 26, 27]]
abbrev zRt : HCode := .reg [⟨none, .mvo 29 8⟩,
  ⟨none, .val 30 (.mv (.t 9))⟩,
  ⟨none, .val 31 (.bslF 1 [.t 30])⟩,
  ⟨none, .app 32 zMJ 1 (.t 29) (.t 31)⟩,
  ⟨none, .mvo 8 32⟩] false [.forget [29, 30, 31, 32]]
abbrev zPs : HCode := .reg [⟨none, .val 33 (.ints .add (.t 22) (.c (iv 1)))⟩,
  ⟨none, .val 22 (.mv (.t 33))⟩] false [.forget [33]]
abbrev zPt : HCode := .reg [⟨none, .val 34 (.mv (.t 8))⟩,
  ⟨none, .val 4 (.mv (.t 34))⟩,
  ⟨none, .val 5 (.mv (.c (iv 0)))⟩] false [.forget [34]]
abbrev zV0 : HCode := (.seq zRk (.seq zRl (.seq (.seq zRm (.cond (.t 17) (.seq zRn .ret) .skip)) (.seq zRo (.seq (.seq zRp (.block 0 (.loop (.seq zRq (.seq (.cond (.t 23) .skip (.exit 0)) (.seq (.block 1 (.seq zRr (.seq zRs (.cond (.t 28) zRt .skip)))) zPs)))))) (.seq zPt .ret))))))
abbrev zFT : Env := { N := 35, Γ := [], L := 35, nfix := 0 }
abbrev zS0 : List RSrc := [.tmp 4, .tmp 5]
theorem zRu {base : Nat} {av : List AV} {r : RV} (hfo : zAB zFT base av) (hW : AVs.fits av → hwp Tryd.prog zV0 (zCH zFT base av zS0 r) (F0 zFT base av)) (hov : ∀ x, r.res = .ov x → zCj av = 0 := by intro x h; cases h <;> rfl) : Contract Tryd.prog zEH av r :=
 zAb (fn := Tryd.f7) (c := Tryd.f7.body.getD .skip) (by kernel_rfl) (by kernel_rfl) (by kernel_rfl) (by kernel_rfl) (by kernel_rfl) (by kernel_rfl) (by kernel_rfl) hfo hW hov
abbrev zLr : HCode := .reg [⟨none, .val 3 (.boxF (.t 0))⟩,
  ⟨none, .val 6 (.mv (.c (iv 0)))⟩,
  ⟨none, .val 7 (.mv (.c (bv false)))⟩,
  ⟨none, .val 8 (.mv (.c (iv 0)))⟩] false []
abbrev zLs : HCode := .reg [⟨none, .val 13 (.ldR (.t 3) 1 true)⟩,
  ⟨none, .val 14 (.mv (.t 1))⟩,
  ⟨none, .val 15 (.mv (.t 2))⟩,
  ⟨none, .call (some 16) zEb [(.t 13, .v), (.t 14, .v), (.t 15, .v)]⟩,
  ⟨none, .val 12 (.mv (.t 16))⟩,
  ⟨none, .val 17 (.ext 12 0)⟩,
  ⟨none, .val 18 (.ext 12 1)⟩,
  ⟨none, .val 9 (.mv (.t 17))⟩,
  ⟨none, .val 10 (.mv (.t 18))⟩] false [.forget [12, 13, 14, 15, 16, 17, 18]]
abbrev zLt : HCode := .reg [⟨none, .val 19 (.mv (.t 10))⟩,
  ⟨none, .val 20 (.ints .neq (.t 19) (.c (iv 0)))⟩] false [.forget [19]]
abbrev zLu : HCode := .reg [⟨none, .val 21 (.mv (.t 10))⟩,
  ⟨none, .val 6 (.mv (.c (iv 0)))⟩,
  ⟨none, .val 7 (.mv (.c (bv false)))⟩,
  ⟨none, .val 8 (.mv (.t 21))⟩] false [.forget [21]]
abbrev zLv : HCode := .reg [⟨none, .val 22 (.mv (.t 2))⟩,
  ⟨none, .val 11 (.mv (.t 22))⟩] false [.forget [22]]
abbrev zLw : HCode := .reg [⟨none, .val 23 (.mv (.t 11))⟩,
  ⟨none, .val 24 (.ints .geq (.t 23) (.c (iv 0)))⟩] false [.forget [23]]
abbrev zLx : HCode := .reg [⟨none, .val 31 (.mv (.t 9))⟩,
  ⟨none, .val 32 (.mv (.t 1))⟩,
  ⟨none, .val 33 (.mv (.t 11))⟩,
  ⟨none, .call (some 34) zAt [(.t 31, .v), (.t 32, .v), (.t 33, .v)]⟩] false [.forget [31, 32, 33]]
abbrev zLy : HCode := .reg [⟨none, .val 35 (.mv (.t 11))⟩,
  ⟨none, .val 6 (.mv (.t 35))⟩,
  ⟨none, .val 7 (.mv (.c (bv true)))⟩,
  ⟨none, .val 8 (.mv (.c (iv 0)))⟩] false [.forget [35]]
abbrev zLz : HCode := .reg [⟨none, .val 25 (.fldR (.t 3) 0 1)⟩,
  ⟨none, .val 26 (.ldR (.t 25) 1 false)⟩,
  ⟨none, .val 27 (.mv (.t 11))⟩,
  ⟨none, .val 28 (.idxA 5 (.t 26) (.t 27))⟩,
  ⟨none, .val 29 (.fldR (.t 28) 0 1)⟩,
  ⟨none, .val 30 (.ldR (.t 29) 1 false)⟩,
  ⟨none, .val 11 (.mv (.t 30))⟩] false [.forget [25, 26, 27, 28, 29, 30]]
abbrev zLA : HCode := .reg [⟨none, .val 6 (.mv (.c (iv 0)))⟩,
  ⟨none, .val 7 (.mv (.c (bv false)))⟩,
  ⟨none, .val 8 (.mv (.c (iv 0)))⟩] false []
abbrev zPu : HCode := (.seq zLr (.seq zLs (.seq (.seq zLt (.cond (.t 20) (.seq zLu .ret) .skip)) (.seq (.seq zLv (.block 0 (.loop (.seq (.seq zLw (.cond (.t 24) .skip (.exit 0))) (.seq (.block 1 (.seq zLx (.cond (.t 34) (.seq zLy .ret) .skip))) zLz))))) (.seq zLA .ret)))))
abbrev zDh : Env := { N := 36, Γ := [], L := 36, nfix := 0 }
abbrev zMQ : List RSrc := [.tmp 6, .tmp 7, .tmp 8]
theorem zLB {base : Nat} {av : List AV} {r : RV} (hfo : zAB zDh base av) (hW : AVs.fits av → hwp Tryd.prog zPu (zCH zDh base av zMQ r) (F0 zDh base av)) (hov : ∀ x, r.res = .ov x → zCj av = 0 := by intro x h; cases h <;> rfl) : Contract Tryd.prog zCK av r :=
 zAb (fn := Tryd.f8) (c := Tryd.f8.body.getD .skip) (by kernel_rfl) (by kernel_rfl) (by kernel_rfl) (by kernel_rfl) (by kernel_rfl) (by kernel_rfl) (by kernel_rfl) hfo hW hov
end Go.Hx
end

section
/-
 Where a count holds: what the program and the document reckon is the same. Plain Lean. No condition.
-/
namespace Go.Hx
variable [Glob]
theorem zV7 {x y : Int} (_ : y ≠ 0) : x.tmod y = 0 ↔ ∃ k, x = y * k := by
 constructor
 ·intro h; exact ⟨x.tdiv y, by have := Int.mul_tdiv_add_tmod x y; omega⟩
 ·rintro ⟨k, rfl⟩; exact Int.mul_tmod_right y k
theorem zUU {a b i : Int} (he : zOy a b = 0) (hi : 1 ≤ i ∧ i ≤ 1073741824) : zEG a b i = true ↔ ∃ k : Int, 0 ≤ k ∧ i = b + a * k := by
 unfold zEG
 rw [decide_eq_true ⟨he, hi⟩, Bool.true_and]
 by_cases ha : a = 0
 ·subst ha
  rw [if_pos rfl, decide_eq_true_eq]
  constructor
  ·intro h; exact ⟨0, by omega, by omega⟩
  ·rintro ⟨k, _, h⟩; rw [Int.zero_mul] at h; omega
 ·rw [if_neg ha, Bool.and_eq_true, decide_eq_true_eq, decide_eq_true_eq, zV7 ha]
  constructor
  ·rintro ⟨⟨k, hk⟩, h2⟩
   rw [hk, Int.mul_tdiv_cancel_left _ ha] at h2
   exact ⟨k, h2, by omega⟩
  ·rintro ⟨k, hk, h⟩
   have e : i - b = a * k := by omega
   exact ⟨⟨k, e⟩, by rw [e, Int.mul_tdiv_cancel_left _ ha]; exact hk⟩
theorem zXe {a b i : Int} (he : zOy a b = 0) (hi : 1 ≤ i ∧ i ≤ 1073741824) : zLX a b i = true ↔ ∃ k : Int, 0 ≤ k ∧ i = b + a * k := by
 unfold zLX
 rw [if_pos ⟨he, hi⟩]
 by_cases h1 : a = 0 ∨ i = b
 ·rw [if_pos h1, decide_eq_true_eq]
  constructor
  ·intro h; exact ⟨0, by omega, by omega⟩
  ·rintro ⟨k, _, h⟩
   rcases h1 with rfl | h1
   ·rw [Int.zero_mul] at h; omega
   ·exact h1
 ·rw [if_neg h1]
  have ha : a ≠ 0 := fun h => h1 (.inl h)
  by_cases h2 : 0 < a
  ·rw [if_pos h2, Bool.and_eq_true, decide_eq_true_eq, decide_eq_true_eq, zV7 ha]
   constructor
   ·rintro ⟨h3, k, hk⟩
    refine ⟨k, ?_, by omega⟩
    apply Classical.byContradiction
    intro hn
    have := Int.mul_nonpos_of_nonneg_of_nonpos (show 0 ≤ a by omega) (show k ≤ 0 by omega)
    omega
   ·rintro ⟨k, hk, h⟩
    refine ⟨?_, k, by omega⟩
    have := Int.mul_nonneg (show 0 ≤ a by omega) hk
    omega
  ·rw [if_neg h2, Bool.and_eq_true, decide_eq_true_eq, decide_eq_true_eq, zV7 (by omega)]
   constructor
   ·rintro ⟨h3, k, hk⟩
    refine ⟨k, ?_, ?_⟩
    ·apply Classical.byContradiction
     intro hn
     have := Int.mul_nonpos_of_nonneg_of_nonpos (show 0 ≤ -a by omega) (show k ≤ 0 by omega)
     omega
    ·rw [Int.neg_mul] at hk; omega
   ·rintro ⟨k, hk, h⟩
    refine ⟨?_, k, by rw [Int.neg_mul]; omega⟩
    have := Int.mul_nonneg (show 0 ≤ -a by omega) hk
    rw [Int.neg_mul] at this
    omega
theorem zRJ (a b i : Int) : zEG a b i = zLX a b i := by
 by_cases h : zOy a b = 0 ∧ 1 ≤ i ∧ i ≤ 1073741824
 ·have h1 := zUU h.1 h.2
  have h2 := zXe h.1 h.2
  rw [Bool.eq_iff_iff, h1, h2]
 ·unfold zEG zLX
  rw [decide_eq_false h, if_neg h, Bool.false_and]
end Go.Hx
end

section
set_option maxRecDepth 100000
set_option linter.unusedSimpArgs false
namespace Go.Hx
open Go.Proofs
variable [Glob]
inductive Tr where
 |mk (x : Nd) (k : List Tr)
instance : Inhabited Tr := ⟨.mk default []⟩
attribute [local go_sem] zAw zAq zAr zAk ndV zAo List.take_zero List.map_nil
mutual
def trV : Tr → List PV
 |.mk x k => [bI x.up, bS x.tag, bS x.id, .sl 1 (zOw x.cls), .sl 2 (zVA x.att), .sl 6 (zZy k)]
def zZy : List Tr → List (List PV)
 |[] => []
 |t :: r => trV t :: zZy r
end
theorem zT2 : ∀ l : List Tr, zZy l = l.map trV
 |[] => rfl
 |t :: r => by simp [zZy, zT2 r]
theorem zTd (t : Tr) : (trV t).length = 6 := by cases t; rfl
attribute [local go_sem] zTd
theorem zPC (t : Tr) : (trV t).map PV.norm = trV t := by cases t; rfl
attribute [local go_sem] zPC
theorem zPD : zZy [] = [] := rfl
attribute [local go_sem] zPD
theorem zPE (l : List Tr) : (zZy l).length = l.length := by simp [zT2]
attribute [local go_sem] zPE
end Go.Hx
end

section
set_option maxRecDepth 100000
set_option linter.unusedSimpArgs false
namespace Go.Hx
open Go.Proofs
variable [Glob]
attribute [local go_sem] zAw zAq zAr zAk ndV zAo zPE zPD zTd zPC List.take_zero List.map_nil
end Go.Hx
end

section
set_option maxRecDepth 100000
set_option linter.unusedSimpArgs false
namespace Go.Hx
open Go.Proofs
variable [Glob]
attribute [local go_sem] zAw zAq zAr zAk ndV zAo zPE zPD zTd zPC List.take_zero List.map_nil
end Go.Hx
end

section
/-
 The abstract code of functions of the program, printed by gen.py; each stands for the given one. No condition.
-/
namespace Go.Hx
open Go.Proofs
variable [Glob]
abbrev zDN : Nat := 3
abbrev zDi : Nat := 12
abbrev zCy : Nat := 5
abbrev zIL : Nat := 57
abbrev zPF : HCode := .reg [⟨none, .val 0 (.mv (.c (.one (.nl 2))))⟩] false []
abbrev zPG : HCode := .reg [⟨none, .val 1 (.bld [.v (.int .i64 0), .v (.int .i64 0)] [(1, 1, .c (iv 1))])⟩,
  ⟨none, .val 2 (.bld [.v (.int .i64 0), .v (mkS []), .v (mkS []), .v (.int .i64 0), .v (.int .i64 0), .nl 2] [(0, 1, .c (iv 10)), (3, 2, .t 1)])⟩,
  ⟨none, .val 3 (.bslF 6 [.t 2])⟩,
  ⟨none, .val 4 (.bld [.v (mkS []), .nl 6] [(1, 1, .t 3)])⟩,
  ⟨none, .val 5 (.bslF 2 [.t 4])⟩,
  ⟨none, .val 6 (.bld [.nl 2, .nl 1] [(0, 1, .t 5)])⟩,
  ⟨none, .val 7 (.bslF 2 [.t 6])⟩,
  ⟨none, .val 8 (.bld [.v (.int .i64 0), .v (mkS []), .v (mkS []), .v (.int .i64 0), .v (.int .i64 0), .nl 2] [(0, 1, .c (iv 13)), (5, 1, .t 7)])⟩,
  ⟨none, .val 9 (.bslF 6 [.t 8])⟩,
  ⟨none, .val 10 (.bld [.v (mkS []), .nl 6] [(0, 1, .c (sv [105, 116, 101, 109])), (1, 1, .t 9)])⟩,
  ⟨none, .val 11 (.bld [.v (.int .i64 0), .v (mkS []), .v (mkS []), .v (.int .i64 0), .v (.int .i64 0), .nl 2] [(0, 1, .c (iv 8)), (1, 1, .c (sv [116, 111])), (2, 1, .c (sv [116, 119, 111]))])⟩,
  ⟨none, .val 12 (.bslF 6 [.t 11])⟩,
  ⟨none, .val 13 (.bld [.v (mkS []), .nl 6] [(1, 1, .t 12)])⟩,
  ⟨none, .val 14 (.bslF 2 [.t 13])⟩,
  ⟨none, .val 15 (.bld [.nl 2, .nl 1] [(0, 1, .t 14)])⟩,
  ⟨none, .val 16 (.bslF 2 [.t 15])⟩,
  ⟨none, .val 17 (.bld [.v (.int .i64 0), .v (mkS []), .v (mkS []), .v (.int .i64 0), .v (.int .i64 0), .nl 2] [(0, 1, .c (iv 15)), (5, 1, .t 16)])⟩,
  ⟨none, .val 18 (.bslF 6 [.t 17])⟩,
  ⟨none, .val 19 (.bld [.v (mkS []), .nl 6] [(1, 1, .t 18)])⟩,
  ⟨none, .val 20 (.bslF 2 [.t 10, .t 19])⟩,
  ⟨none, .val 21 (.bslF 1 [.c (iv 3)])⟩,
  ⟨none, .val 22 (.bld [.nl 2, .nl 1] [(0, 1, .t 20), (1, 1, .t 21)])⟩,
  ⟨none, .val 23 (.bld [.v (.int .i64 0), .v (mkS []), .v (mkS []), .v (.int .i64 0), .v (.int .i64 0), .nl 2] [(0, 1, .c (iv 2)), (1, 1, .c (sv [116, 111, 112]))])⟩,
  ⟨none, .val 24 (.bslF 6 [.t 23])⟩,
  ⟨none, .val 25 (.bld [.v (mkS []), .nl 6] [(1, 1, .t 24)])⟩,
  ⟨none, .val 26 (.bslF 2 [.t 25])⟩,
  ⟨none, .val 27 (.bld [.nl 2, .nl 1] [(0, 1, .t 26)])⟩,
  ⟨none, .val 28 (.bslF 2 [.t 22, .t 27])⟩,
  ⟨none, .val 0 (.mv (.t 28))⟩] false [.forget [1, 2, 3, 4, 5, 6, 7, 8, 9, 10, 11, 12, 13, 14, 15, 16, 17, 18, 19, 20, 21, 22, 23, 24, 25, 26, 27, 28]]
abbrev zU0 : HCode := (.seq zPF (.seq zPG .ret))
abbrev zEN : Env := { N := 29, Γ := [], L := 29, nfix := 0 }
abbrev zRT : List RSrc := [.tmp 0]
theorem zPH {base : Nat} {av : List AV} {r : RV} (hfo : zAB zEN base av) (hW : AVs.fits av → hwp Tryd.prog zU0 (zCH zEN base av zRT r) (F0 zEN base av)) (hov : ∀ x, r.res = .ov x → zCj av = 0 := by intro x h; cases h <;> rfl) : Contract Tryd.prog zDi av r :=
 zAb (fn := Tryd.f12) (c := Tryd.f12.body.getD .skip) (by kernel_rfl) (by kernel_rfl) (by kernel_rfl) (by kernel_rfl) (by kernel_rfl) (by kernel_rfl) (by kernel_rfl) hfo hW hov
abbrev zKE : HCode := .reg [⟨none, .val 0 (.mv (.c (bv false)))⟩] false []
abbrev zKF : HCode := .reg [⟨none, .call (some 11) zCU []⟩,
  ⟨none, .call (some 12) zDi []⟩,
  ⟨none, .call (some 13) zEH [(.t 11, .v), (.t 12, .v)]⟩,
  ⟨none, .val 10 (.mv (.t 13))⟩,
  ⟨none, .val 14 (.ext 10 0)⟩,
  ⟨none, .val 15 (.ext 10 1)⟩,
  ⟨none, .val 1 (.mv (.t 14))⟩,
  ⟨none, .val 2 (.mv (.t 15))⟩] false [.forget [10, 11, 12, 13, 14, 15]]
abbrev zKG : HCode := .reg [⟨none, .call (some 17) zCU []⟩,
  ⟨none, .call (some 18) zDi []⟩,
  ⟨none, .call (some 19) zBn [(.t 17, .v), (.t 18, .v), (.c (iv 2), .v)]⟩,
  ⟨none, .val 16 (.mv (.t 19))⟩,
  ⟨none, .val 20 (.ext 16 0)⟩,
  ⟨none, .val 21 (.ext 16 1)⟩,
  ⟨none, .val 3 (.mv (.t 20))⟩,
  ⟨none, .val 4 (.mv (.t 21))⟩] false [.forget [16, 17, 18, 19, 20, 21]]
abbrev zKH : HCode := .reg [⟨none, .call (some 23) zCU []⟩,
  ⟨none, .call (some 24) zDi []⟩,
  ⟨none, .call (some 25) zCK [(.t 23, .v), (.t 24, .v), (.c (iv 3), .v)]⟩,
  ⟨none, .val 22 (.mv (.t 25))⟩,
  ⟨none, .val 26 (.ext 22 0)⟩,
  ⟨none, .val 27 (.ext 22 1)⟩,
  ⟨none, .val 28 (.ext 22 2)⟩,
  ⟨none, .val 5 (.mv (.t 26))⟩,
  ⟨none, .val 6 (.mv (.t 27))⟩,
  ⟨none, .val 7 (.mv (.t 28))⟩] false [.forget [22, 23, 24, 25, 26, 27, 28]]
abbrev zKI : HCode := .reg [⟨none, .call (some 30) zCU []⟩,
  ⟨none, .val 31 (.bld [.v (.int .i64 0), .v (.int .i64 0)] [(0, 1, .c (iv 2)), (1, 1, .c (iv 1))])⟩,
  ⟨none, .val 32 (.bld [.v (.int .i64 0), .v (mkS []), .v (mkS []), .v (.int .i64 0), .v (.int .i64 0), .nl 2] [(0, 1, .c (iv 9)), (3, 2, .t 31)])⟩,
  ⟨none, .call (some 33) zC9 [(.t 30, .v), (.t 32, .v), (.c (iv 4), .v)]⟩,
  ⟨none, .val 29 (.mv (.t 33))⟩,
  ⟨none, .val 34 (.ext 29 0)⟩,
  ⟨none, .val 35 (.ext 29 1)⟩,
  ⟨none, .val 8 (.mv (.t 34))⟩,
  ⟨none, .val 9 (.mv (.t 35))⟩] false [.forget [29, 30, 31, 32, 33, 34, 35]]
abbrev zKJ : HCode := .reg [⟨none, .val 36 (.mv (.t 2))⟩,
  ⟨none, .val 37 (.ints .eql (.t 36) (.c (iv 0)))⟩,
  ⟨none, .val 38 (.mv (.t 37))⟩,
  ⟨some (38, true), .val 39 (.mv (.t 4))⟩,
  ⟨some (38, true), .val 40 (.ints .eql (.t 39) (.c (iv 0)))⟩,
  ⟨none, .val 41 (.pick (.t 38) (.t 40) (.c (bv false)))⟩,
  ⟨none, .val 42 (.mv (.t 41))⟩,
  ⟨some (42, true), .val 43 (.mv (.t 7))⟩,
  ⟨some (42, true), .val 44 (.ints .eql (.t 43) (.c (iv 0)))⟩,
  ⟨none, .val 45 (.pick (.t 42) (.t 44) (.c (bv false)))⟩,
  ⟨none, .val 46 (.mv (.t 45))⟩,
  ⟨some (46, true), .val 47 (.mv (.t 9))⟩,
  ⟨some (46, true), .val 48 (.ints .eql (.t 47) (.c (iv 0)))⟩,
  ⟨none, .val 49 (.pick (.t 46) (.t 48) (.c (bv false)))⟩,
  ⟨none, .val 50 (.mv (.t 49))⟩,
  ⟨some (50, true), .val 51 (.mv (.t 1))⟩,
  ⟨some (50, true), .val 52 (.bslF 1 [.c (iv 0), .c (iv 2)])⟩,
  ⟨some (50, true), .call (some 53) zD6 [(.t 51, .v), (.t 52, .v)]⟩,
  ⟨none, .val 54 (.pick (.t 50) (.t 53) (.c (bv false)))⟩,
  ⟨none, .val 55 (.mv (.t 54))⟩,
  ⟨some (55, true), .val 56 (.mv (.t 3))⟩,
  ⟨none, .val 57 (.pick (.t 55) (.t 56) (.c (bv false)))⟩,
  ⟨none, .val 58 (.mv (.t 57))⟩,
  ⟨some (58, true), .val 59 (.mv (.t 6))⟩,
  ⟨none, .val 60 (.pick (.t 58) (.t 59) (.c (bv false)))⟩,
  ⟨none, .val 61 (.mv (.t 60))⟩,
  ⟨some (61, true), .val 62 (.mv (.t 5))⟩,
  ⟨some (61, true), .val 63 (.ints .eql (.t 62) (.c (iv 2)))⟩,
  ⟨none, .val 64 (.pick (.t 61) (.t 63) (.c (bv false)))⟩,
  ⟨none, .val 65 (.mv (.t 64))⟩,
  ⟨some (65, true), .val 66 (.mv (.t 8))⟩,
  ⟨none, .val 67 (.pick (.t 65) (.t 66) (.c (bv false)))⟩,
  ⟨none, .val 0 (.mv (.t 67))⟩] false [.forget [36, 37, 38, 39, 40, 41, 42, 43, 44, 45, 46, 47, 48, 49, 50, 51, 52, 53, 54, 55, 56, 57, 58, 59, 60, 61, 62, 63, 64, 65, 66, 67]]
abbrev zNB : HCode := (.seq zKE (.seq zKF (.seq zKG (.seq zKH (.seq zKI (.seq zKJ .ret))))))
abbrev zCL : Env := { N := 68, Γ := [], L := 68, nfix := 0 }
abbrev zLG : List RSrc := [.tmp 0]
theorem zKK {base : Nat} {av : List AV} {r : RV} (hfo : zAB zCL base av) (hW : AVs.fits av → hwp Tryd.prog zNB (zCH zCL base av zLG r) (F0 zCL base av)) (hov : ∀ x, r.res = .ov x → zCj av = 0 := by intro x h; cases h <;> rfl) : Contract Tryd.prog zCy av r :=
 zAb (fn := Tryd.f5) (c := Tryd.f5.body.getD .skip) (by kernel_rfl) (by kernel_rfl) (by kernel_rfl) (by kernel_rfl) (by kernel_rfl) (by kernel_rfl) (by kernel_rfl) hfo hW hov
abbrev zLH : HCode := .reg [⟨none, .val 4 (.boxF (.t 0))⟩,
  ⟨none, .val 8 (.mv (.c (bv false)))⟩] false []
abbrev zLI : HCode := .reg [⟨none, .val 30 (.ldR (.t 4) 1 true)⟩,
  ⟨none, .val 31 (.mv (.t 1))⟩,
  ⟨none, .val 32 (.mv (.t 3))⟩,
  ⟨none, .call (some 33) zBn [(.t 30, .v), (.t 31, .v), (.t 32, .v)]⟩,
  ⟨none, .val 29 (.mv (.t 33))⟩,
  ⟨none, .val 34 (.ext 29 0)⟩,
  ⟨none, .val 35 (.ext 29 1)⟩,
  ⟨none, .val 9 (.mv (.t 34))⟩,
  ⟨none, .val 10 (.mv (.t 35))⟩] false [.forget [29, 30, 31, 32, 33, 34, 35]]
abbrev zLJ : HCode := .reg [⟨none, .val 36 (.mv (.t 10))⟩,
  ⟨none, .val 37 (.ints .neq (.t 36) (.c (iv 0)))⟩] false [.forget [36]]
abbrev zLK : HCode := .reg [⟨none, .call (some 38) zCy []⟩,
  ⟨none, .val 8 (.mv (.t 38))⟩] false [.forget [38]]
abbrev zLL : HCode := .reg [⟨none, .val 40 (.ldR (.t 4) 1 true)⟩,
  ⟨none, .val 41 (.mv (.t 1))⟩,
  ⟨none, .val 42 (.bld [.v (.int .i64 0), .v (mkS []), .v (mkS []), .v (.int .i64 0), .v (.int .i64 0), .nl 2] [(0, 1, .c (iv 13)), (5, 1, .t 41)])⟩,
  ⟨none, .val 43 (.mv (.t 3))⟩,
  ⟨none, .call (some 44) zC9 [(.t 40, .v), (.t 42, .v), (.t 43, .v)]⟩,
  ⟨none, .val 39 (.mv (.t 44))⟩,
  ⟨none, .val 45 (.ext 39 0)⟩,
  ⟨none, .val 46 (.ext 39 1)⟩,
  ⟨none, .val 11 (.mv (.t 45))⟩,
  ⟨none, .val 12 (.mv (.t 46))⟩] false [.forget [39, 40, 41, 42, 43, 44, 45, 46]]
abbrev zLM : HCode := .reg [⟨none, .val 48 (.ldR (.t 4) 1 true)⟩,
  ⟨none, .val 49 (.mv (.t 1))⟩,
  ⟨none, .val 50 (.bld [.v (.int .i64 0), .v (mkS []), .v (mkS []), .v (.int .i64 0), .v (.int .i64 0), .nl 2] [(0, 1, .c (iv 14)), (5, 1, .t 49)])⟩,
  ⟨none, .val 51 (.mv (.t 3))⟩,
  ⟨none, .call (some 52) zC9 [(.t 48, .v), (.t 50, .v), (.t 51, .v)]⟩,
  ⟨none, .val 47 (.mv (.t 52))⟩,
  ⟨none, .val 53 (.ext 47 0)⟩,
  ⟨none, .val 54 (.ext 47 1)⟩,
  ⟨none, .val 13 (.mv (.t 53))⟩,
  ⟨none, .val 14 (.mv (.t 54))⟩] false [.forget [47, 48, 49, 50, 51, 52, 53, 54]]
abbrev zLN : HCode := .reg [⟨none, .val 55 (.mv (.t 12))⟩,
  ⟨none, .val 56 (.ints .eql (.t 55) (.c (iv 0)))⟩,
  ⟨none, .val 57 (.mv (.t 56))⟩,
  ⟨some (57, true), .val 58 (.mv (.t 11))⟩,
  ⟨some (57, true), .val 59 (.mv (.t 9))⟩,
  ⟨some (57, true), .val 60 (.boo false (.t 58) (.t 59))⟩,
  ⟨none, .val 61 (.pick (.t 57) (.t 60) (.c (bv false)))⟩,
  ⟨none, .val 62 (.mv (.t 61))⟩,
  ⟨some (62, false), .val 63 (.mv (.t 14))⟩,
  ⟨some (62, false), .val 64 (.ints .eql (.t 63) (.c (iv 0)))⟩,
  ⟨some (62, false), .val 65 (.mv (.t 64))⟩,
  ⟨some (65, true), .val 66 (.mv (.t 13))⟩,
  ⟨some (65, true), .val 67 (.mv (.t 9))⟩,
  ⟨some (65, true), .val 68 (.boo true (.t 66) (.t 67))⟩,
  ⟨some (62, false), .val 69 (.pick (.t 65) (.t 68) (.c (bv false)))⟩,
  ⟨none, .val 70 (.pick (.t 62) (.c (bv true)) (.t 69))⟩,
  ⟨none, .val 71 (.mv (.t 70))⟩,
  ⟨some (71, false), .val 72 (.mv (.t 12))⟩,
  ⟨some (71, false), .val 73 (.mv (.t 14))⟩,
  ⟨some (71, false), .val 74 (.ints .neq (.t 72) (.t 73))⟩,
  ⟨none, .val 75 (.pick (.t 71) (.c (bv true)) (.t 74))⟩] false [.forget [55, 56, 57, 58, 59, 60, 61, 62, 63, 64, 65, 66, 67, 68, 69, 70, 71, 72, 73, 74]]
abbrev zLO : HCode := .reg [⟨none, .val 8 (.mv (.c (bv false)))⟩] false []
abbrev zLP : HCode := .reg [⟨none, .val 77 (.ldR (.t 4) 1 true)⟩,
  ⟨none, .val 78 (.mv (.t 2))⟩,
  ⟨none, .val 79 (.mv (.t 3))⟩,
  ⟨none, .call (some 80) zBn [(.t 77, .v), (.t 78, .v), (.t 79, .v)]⟩,
  ⟨none, .val 76 (.mv (.t 80))⟩,
  ⟨none, .val 81 (.ext 76 0)⟩,
  ⟨none, .val 82 (.ext 76 1)⟩,
  ⟨none, .val 15 (.mv (.t 81))⟩,
  ⟨none, .val 16 (.mv (.t 82))⟩] false [.forget [76, 77, 78, 79, 80, 81, 82]]
abbrev zLQ : HCode := .drg [⟨0, false, ⟨none, .val 84 (.ldR (.t 4) 1 true)⟩⟩,
  ⟨1, false, ⟨none, .bsl 85 zIL 2 []⟩⟩,
  ⟨2, false, ⟨none, .val 86 (.mv (.t 1))⟩⟩,
  ⟨3, false, ⟨none, .app 87 zIL 2 (.t 85) (.t 86)⟩⟩,
  ⟨4, false, ⟨none, .val 88 (.mv (.t 2))⟩⟩,
  ⟨5, false, ⟨none, .app 89 zIL 2 (.t 87) (.t 88)⟩⟩,
  ⟨6, false, ⟨none, .val 90 (.mv (.t 3))⟩⟩,
  ⟨7, true, ⟨none, .call (some 91) zBn [(.t 84, .v), (.t 89, .v), (.t 90, .v)]⟩⟩,
  ⟨8, false, ⟨none, .val 83 (.mv (.t 91))⟩⟩,
  ⟨9, false, ⟨none, .val 92 (.ext 83 0)⟩⟩,
  ⟨10, false, ⟨none, .val 93 (.ext 83 1)⟩⟩,
  ⟨11, false, ⟨none, .val 17 (.mv (.t 92))⟩⟩,
  ⟨12, false, ⟨none, .val 18 (.mv (.t 93))⟩⟩] [.forget [83, 84, 85, 86, 87, 88, 89, 90, 91, 92, 93]]
abbrev zKL : HCode := .reg [⟨none, .val 94 (.mv (.t 16))⟩,
  ⟨none, .val 95 (.ints .eql (.t 94) (.c (iv 0)))⟩,
  ⟨none, .val 96 (.mv (.t 95))⟩,
  ⟨some (96, true), .val 97 (.mv (.t 18))⟩,
  ⟨some (96, true), .val 98 (.ints .eql (.t 97) (.c (iv 0)))⟩,
  ⟨none, .val 99 (.pick (.t 96) (.t 98) (.c (bv false)))⟩,
  ⟨none, .val 100 (.mv (.t 99))⟩,
  ⟨some (100, true), .val 101 (.mv (.t 17))⟩,
  ⟨some (100, true), .val 102 (.mv (.t 9))⟩,
  ⟨some (100, true), .val 103 (.mv (.t 102))⟩,
  ⟨some (103, false), .val 104 (.mv (.t 15))⟩,
  ⟨some (100, true), .val 105 (.pick (.t 103) (.c (bv true)) (.t 104))⟩,
  ⟨some (100, true), .val 106 (.boo true (.t 101) (.t 105))⟩,
  ⟨none, .val 107 (.pick (.t 100) (.t 106) (.c (bv false)))⟩] false [.forget [94, 95, 96, 97, 98, 99, 100, 101, 102, 103, 104, 105, 106]]
abbrev zKM : HCode := .reg [⟨none, .val 8 (.mv (.c (bv false)))⟩] false []
abbrev zKN : HCode := .reg [⟨none, .val 109 (.ldR (.t 4) 1 true)⟩,
  ⟨none, .val 110 (.mv (.t 1))⟩,
  ⟨none, .call (some 111) zEH [(.t 109, .v), (.t 110, .v)]⟩,
  ⟨none, .val 108 (.mv (.t 111))⟩,
  ⟨none, .val 112 (.ext 108 0)⟩,
  ⟨none, .val 113 (.ext 108 1)⟩,
  ⟨none, .val 19 (.mv (.t 112))⟩,
  ⟨none, .val 20 (.mv (.t 113))⟩] false [.forget [108, 109, 110, 111, 112, 113]]
abbrev zKO : HCode := .reg [⟨none, .val 21 (.mv (.c (bv false)))⟩] false []
abbrev zKP : HCode := .reg [⟨none, .val 22 (.mv (.c (iv 0)))⟩] false []
abbrev zKQ : HCode := .reg [⟨none, .val 114 (.mv (.t 22))⟩,
  ⟨none, .val 115 (.mv (.t 19))⟩,
  ⟨none, .val 116 (.len false (.t 115))⟩,
  ⟨none, .val 117 (.ints .lss (.t 114) (.t 116))⟩] false [.forget [114, 115, 116]]
abbrev zKR : HCode := .reg [⟨none, .val 120 (.mv (.t 21))⟩,
  ⟨none, .val 121 (.mv (.t 120))⟩,
  ⟨some (121, false), .val 122 (.mv (.t 19))⟩,
  ⟨some (121, false), .val 123 (.mv (.t 22))⟩,
  ⟨some (121, false), .val 124 (.idxA 1 (.t 122) (.t 123))⟩,
  ⟨some (121, false), .val 125 (.ldR (.t 124) 1 false)⟩,
  ⟨some (121, false), .val 126 (.mv (.t 3))⟩,
  ⟨some (121, false), .val 127 (.ints .eql (.t 125) (.t 126))⟩,
  ⟨none, .val 128 (.pick (.t 121) (.c (bv true)) (.t 127))⟩,
  ⟨none, .val 21 (.mv (.t 128))⟩] false [.forget [120, 121, 122, 123, 124, 125, 126, 127, 128]]
abbrev zKS : HCode := .reg [⟨none, .val 118 (.mv (.t 22))⟩,
  ⟨none, .val 119 (.ints .add (.t 118) (.c (iv 1)))⟩,
  ⟨none, .val 22 (.mv (.t 119))⟩] false [.forget [118, 119]]
abbrev zKT : HCode := .reg [⟨none, .val 129 (.mv (.t 20))⟩,
  ⟨none, .val 130 (.ints .neq (.t 129) (.c (iv 0)))⟩,
  ⟨none, .val 131 (.mv (.t 130))⟩,
  ⟨some (131, false), .val 132 (.mv (.t 21))⟩,
  ⟨some (131, false), .val 133 (.mv (.t 9))⟩,
  ⟨some (131, false), .val 134 (.boo true (.t 132) (.t 133))⟩,
  ⟨none, .val 135 (.pick (.t 131) (.c (bv true)) (.t 134))⟩] false [.forget [129, 130, 131, 132, 133, 134]]
abbrev zKU : HCode := .reg [⟨none, .val 8 (.mv (.c (bv false)))⟩] false []
abbrev zKV : HCode := .reg [⟨none, .val 137 (.ldR (.t 4) 1 true)⟩,
  ⟨none, .val 138 (.mv (.t 1))⟩,
  ⟨none, .val 139 (.mv (.t 3))⟩,
  ⟨none, .call (some 140) zCK [(.t 137, .v), (.t 138, .v), (.t 139, .v)]⟩,
  ⟨none, .val 136 (.mv (.t 140))⟩,
  ⟨none, .val 141 (.ext 136 0)⟩,
  ⟨none, .val 142 (.ext 136 1)⟩,
  ⟨none, .val 143 (.ext 136 2)⟩,
  ⟨none, .val 23 (.mv (.t 141))⟩,
  ⟨none, .val 24 (.mv (.t 142))⟩,
  ⟨none, .val 25 (.mv (.t 143))⟩] false [.forget [136, 137, 138, 139, 140, 141, 142, 143]]
abbrev zKW : HCode := .reg [⟨none, .val 144 (.mv (.t 25))⟩,
  ⟨none, .val 145 (.ints .neq (.t 144) (.c (iv 0)))⟩,
  ⟨none, .val 146 (.mv (.t 145))⟩,
  ⟨some (146, false), .val 147 (.mv (.t 9))⟩,
  ⟨some (146, false), .val 148 (.mv (.t 147))⟩,
  ⟨some (148, true), .val 149 (.mv (.t 24))⟩,
  ⟨some (148, true), .val 150 (.not (.t 149))⟩,
  ⟨some (148, true), .val 151 (.mv (.t 150))⟩,
  ⟨some (151, false), .val 152 (.mv (.t 23))⟩,
  ⟨some (151, false), .val 153 (.mv (.t 3))⟩,
  ⟨some (151, false), .val 154 (.ints .neq (.t 152) (.t 153))⟩,
  ⟨some (148, true), .val 155 (.pick (.t 151) (.c (bv true)) (.t 154))⟩,
  ⟨some (146, false), .val 156 (.pick (.t 148) (.t 155) (.c (bv false)))⟩,
  ⟨none, .val 157 (.pick (.t 146) (.c (bv true)) (.t 156))⟩] false [.forget [144, 145, 146, 147, 148, 149, 150, 151, 152, 153, 154, 155, 156]]
abbrev zKX : HCode := .reg [⟨none, .val 8 (.mv (.c (bv false)))⟩] false []
abbrev zKY : HCode := .reg [⟨none, .val 158 (.mv (.t 3))⟩,
  ⟨none, .val 26 (.mv (.t 158))⟩] false [.forget [158]]
abbrev zKZ : HCode := .reg [⟨none, .val 159 (.mv (.t 26))⟩,
  ⟨none, .val 160 (.ints .geq (.t 159) (.c (iv 0)))⟩,
  ⟨none, .val 161 (.mv (.t 160))⟩,
  ⟨some (161, true), .val 162 (.mv (.t 24))⟩,
  ⟨some (161, true), .val 163 (.not (.t 162))⟩,
  ⟨some (161, true), .val 164 (.mv (.t 163))⟩,
  ⟨some (164, false), .val 165 (.mv (.t 26))⟩,
  ⟨some (164, false), .val 166 (.mv (.t 23))⟩,
  ⟨some (164, false), .val 167 (.ints .neq (.t 165) (.t 166))⟩,
  ⟨some (161, true), .val 168 (.pick (.t 164) (.c (bv true)) (.t 167))⟩,
  ⟨none, .val 169 (.pick (.t 161) (.t 168) (.c (bv false)))⟩] false [.forget [159, 160, 161, 162, 163, 164, 165, 166, 167, 168]]
abbrev zK0 : HCode := .reg [⟨none, .val 177 (.ldR (.t 4) 1 true)⟩,
  ⟨none, .val 178 (.mv (.t 1))⟩,
  ⟨none, .val 179 (.mv (.t 26))⟩,
  ⟨none, .call (some 180) zBn [(.t 177, .v), (.t 178, .v), (.t 179, .v)]⟩,
  ⟨none, .val 176 (.mv (.t 180))⟩,
  ⟨none, .val 181 (.ext 176 0)⟩,
  ⟨none, .val 182 (.ext 176 1)⟩,
  ⟨none, .val 27 (.mv (.t 181))⟩,
  ⟨none, .val 28 (.mv (.t 182))⟩] false [.forget [176, 177, 178, 179, 180, 181, 182]]
abbrev zK1 : HCode := .reg [⟨none, .val 183 (.mv (.t 28))⟩,
  ⟨none, .val 184 (.ints .neq (.t 183) (.c (iv 0)))⟩,
  ⟨none, .val 185 (.mv (.t 184))⟩,
  ⟨some (185, false), .val 186 (.mv (.t 27))⟩,
  ⟨none, .val 187 (.pick (.t 185) (.c (bv true)) (.t 186))⟩] false [.forget [183, 184, 185, 186]]
abbrev zK2 : HCode := .reg [⟨none, .val 8 (.mv (.c (bv false)))⟩] false []
abbrev zK3 : HCode := .reg [⟨none, .val 170 (.fldR (.t 4) 0 1)⟩,
  ⟨none, .val 171 (.ldR (.t 170) 1 false)⟩,
  ⟨none, .val 172 (.mv (.t 26))⟩,
  ⟨none, .val 173 (.idxA 5 (.t 171) (.t 172))⟩,
  ⟨none, .val 174 (.fldR (.t 173) 0 1)⟩,
  ⟨none, .val 175 (.ldR (.t 174) 1 false)⟩,
  ⟨none, .val 26 (.mv (.t 175))⟩] false [.forget [170, 171, 172, 173, 174, 175]]
abbrev zK4 : HCode := .reg [⟨none, .call (some 188) zCy []⟩,
  ⟨none, .val 8 (.mv (.t 188))⟩] false [.forget [188]]
abbrev zPI : HCode := (.seq zLH (.seq zLI (.seq (.seq zLJ (.cond (.t 37) (.seq zLK .ret) .skip)) (.seq zLL (.seq zLM (.seq (.seq zLN (.cond (.t 75) (.seq zLO .ret) .skip)) (.seq zLP (.seq zLQ (.seq (.seq zKL (.cond (.t 107) (.seq zKM .ret) .skip)) (.seq zKN (.seq zKO (.seq (.seq zKP (.block 0 (.loop (.seq (.seq zKQ (.cond (.t 117) .skip (.exit 0))) (.seq (.block 1 zKR) zKS))))) (.seq (.seq zKT (.cond (.t 135) (.seq zKU .ret) .skip)) (.seq zKV (.seq (.seq zKW (.cond (.t 157) (.seq zKX .ret) .skip)) (.seq (.seq zKY (.block 2 (.loop (.seq (.seq zKZ (.cond (.t 169) .skip (.exit 2))) (.seq (.block 3 (.seq zK0 (.seq zK1 (.cond (.t 187) (.seq zK2 .ret) .skip)))) zK3))))) (.seq zK4 .ret)))))))))))))))))
abbrev zCn : Env := { N := 189, Γ := [], L := 189, nfix := 0 }
abbrev zM1 : List RSrc := [.tmp 8]
theorem zF0 {base : Nat} {av : List AV} {r : RV} (hfo : zAB zCn base av) (hW : AVs.fits av → hwp Tryd.prog zPI (zCH zCn base av zM1 r) (F0 zCn base av)) (hov : ∀ x, r.res = .ov x → zCj av = 0 := by intro x h; cases h <;> rfl) : Contract Tryd.prog zDN av r :=
 zAb (fn := Tryd.f3) (c := Tryd.f3.body.getD .skip) (by kernel_rfl) (by kernel_rfl) (by kernel_rfl) (by kernel_rfl) (by kernel_rfl) (by kernel_rfl) (by kernel_rfl) hfo hW hov
end Go.Hx
end
