/-
 The abstract code of functions of the program, printed by gen.py; each stands for the given one. No condition.
-/
import Derived.Test.YtjnagiaooecklabGreatDoorProg
import Derived.Test.YtjnagiaooecklabGreatDoorG8
import Derived.Test.YtjnagiaooecklabGreatDoorG10
import Derived.Test.YtjnagiaooecklabGreatDoorG11
set_option linter.all false
namespace Go.Hx
open Go.Proofs
variable [Glob]
abbrev zBD : Nat := 149
abbrev zFV : Nat := 148
abbrev zCJ : Nat := 205
abbrev zEc : Nat := 55
abbrev zDh : Nat := 166
abbrev zCs : Nat := 112
abbrev zBp : Nat := 56
abbrev zE3 : Nat := 113
abbrev zBL : Nat := 165
abbrev zBE : Nat := 102
abbrev zTl : HCode := .reg [⟨none, .val 1 (.boxF (.t 0))⟩,
  ⟨none, .alloc 2 0 85 [.v (.int .i64 0), .v (.int .i64 0), .v (.int .i64 0)]⟩] false []
abbrev zTm : HCode := .reg [⟨none, .alloc 3 1 88 [.v (.int .i64 0), .v (.int .i64 0), .v (.int .i64 0)]⟩] false []
abbrev zTn : HCode := .reg [⟨none, .val 12 (.fldR (.t 1) 0 1)⟩,
  ⟨none, .val 13 (.ldR (.t 12) 1 false)⟩,
  ⟨none, .val 14 (.len false (.t 13))⟩,
  ⟨none, .val 15 (.mv (.c (iv 0)))⟩] false [.forget [12]]
abbrev zTo : HCode := .reg [⟨none, .val 16 (.ints .lss (.t 15) (.t 14))⟩] false []
abbrev zTp : HCode := .reg [⟨none, .val 17 (.idxA 2 (.t 13) (.t 15))⟩,
  ⟨none, .val 18 (.ldR (.t 17) 2 true)⟩,
  ⟨none, .alloc 5 2 91 [.v (mkS []), .nl 6]⟩,
  ⟨none, .sto (.t 5) 2 91 0 2 (.t 18)⟩] false [.forget [17, 18]]
abbrev zTq : HCode := .reg [⟨none, .val 19 (.fldP (.t 5) 0)⟩,
  ⟨none, .val 20 (.ldB (.t 19) 2 91 0 1 false)⟩,
  ⟨none, .val 21 (.strs .neq (.t 20) (.c (sv [])))⟩] false [.forget [19, 20]]
abbrev zTr : HCode := .reg [⟨none, .val 22 (.fldP (.t 3) 2)⟩,
  ⟨none, .val 23 (.ldB (.t 22) 1 88 2 1 false)⟩,
  ⟨none, .val 24 (.ints .add (.t 23) (.c (iv 1)))⟩,
  ⟨none, .val 25 (.fldP (.t 3) 2)⟩,
  ⟨none, .sto (.t 25) 1 88 2 1 (.t 24)⟩] false [.forget [22, 23, 24, 25]]
abbrev zTs : HCode := .reg [⟨none, .val 26 (.fldP (.t 5) 1)⟩,
  ⟨none, .val 27 (.ldB (.t 26) 2 91 1 1 false)⟩,
  ⟨none, .val 28 (.len false (.t 27))⟩,
  ⟨none, .val 29 (.mv (.c (iv 0)))⟩] false [.forget [26]]
abbrev zTt : HCode := .reg [⟨none, .val 30 (.ints .lss (.t 29) (.t 28))⟩] false []
abbrev zTu : HCode := .reg [⟨none, .val 31 (.idxA 6 (.t 27) (.t 29))⟩,
  ⟨none, .val 32 (.ldR (.t 31) 6 true)⟩,
  ⟨none, .alloc 7 3 93 [.v (.int .i64 0), .v (mkS []), .v (mkS []), .v (.int .i64 0), .v (.int .i64 0), .nl 2]⟩,
  ⟨none, .sto (.t 7) 3 93 0 6 (.t 32)⟩] false [.forget [31, 32]]
abbrev zQb : HCode := .reg [⟨none, .val 33 (.fldP (.t 7) 0)⟩,
  ⟨none, .val 34 (.ldB (.t 33) 3 93 0 1 false)⟩] false [.forget [33]]
abbrev zQc : HCode := .reg [⟨none, .val 40 (.ints .eql (.t 34) (.c (iv 2)))⟩,
  ⟨none, .val 39 (.mv (.t 40))⟩] false [.forget [40]]
abbrev zQd : HCode := .reg [⟨none, .val 41 (.fldP (.t 3) 0)⟩,
  ⟨none, .val 42 (.ldB (.t 41) 1 88 0 1 false)⟩,
  ⟨none, .val 43 (.ints .add (.t 42) (.c (iv 1)))⟩,
  ⟨none, .val 44 (.fldP (.t 3) 0)⟩,
  ⟨none, .sto (.t 44) 1 88 0 1 (.t 43)⟩] false [.forget [41, 42, 43, 44]]
abbrev zQe : HCode := .reg [⟨none, .val 46 (.ints .eql (.t 34) (.c (iv 13)))⟩,
  ⟨none, .val 45 (.mv (.t 46))⟩] false [.forget [46]]
abbrev zQf : HCode := .reg [⟨none, .val 47 (.ints .eql (.t 34) (.c (iv 14)))⟩,
  ⟨none, .val 45 (.mv (.t 47))⟩] false [.forget [47]]
abbrev zQg : HCode := .reg [⟨none, .val 48 (.ints .eql (.t 34) (.c (iv 15)))⟩,
  ⟨none, .val 45 (.mv (.t 48))⟩] false [.forget [48]]
abbrev zQh : HCode := .reg [⟨none, .nlo 8 zBE 3⟩] false []
abbrev zQi : HCode := .reg [⟨none, .val 49 (.fldP (.t 7) 5)⟩,
  ⟨none, .val 50 (.ldB (.t 49) 3 93 5 1 false)⟩,
  ⟨none, .val 51 (.len false (.t 50))⟩,
  ⟨none, .val 52 (.mv (.c (iv 0)))⟩] false [.forget [49]]
abbrev zQj : HCode := .reg [⟨none, .val 53 (.ints .lss (.t 52) (.t 51))⟩] false []
abbrev zQk : HCode := .reg [⟨none, .val 54 (.idxA 2 (.t 50) (.t 52))⟩,
  ⟨none, .val 55 (.ldR (.t 54) 2 true)⟩,
  ⟨none, .alloc 10 4 99 [.nl 2, .nl 1]⟩,
  ⟨none, .sto (.t 10) 4 99 0 2 (.t 55)⟩] false [.forget [54, 55]]
abbrev zQl : HCode := .reg [⟨none, .mvo 56 8⟩,
  ⟨none, .val 57 (.ldB (.t 10) 4 99 0 2 true)⟩,
  ⟨none, .call (some 58) zCs [(.t 57, .v)]⟩,
  ⟨none, .val 59 (.bslF 3 [.t 58])⟩,
  ⟨none, .app 60 zBE 3 (.t 56) (.t 59)⟩,
  ⟨none, .mvo 8 60⟩] false [.forget [56, 57, 58, 59, 60]]
abbrev zQm : HCode := .reg [⟨none, .val 61 (.ints .add (.t 52) (.c (iv 1)))⟩,
  ⟨none, .val 52 (.mv (.t 61))⟩] false [.forget [61]]
abbrev zQn : HCode := .reg [⟨none, .val 62 (.mv (.t 8))⟩,
  ⟨none, .call (some 63) zBL [(.t 62, .v), (.f zDh, .v)]⟩,
  ⟨none, .alloc 11 5 101 [.v (.int .i64 0), .v (.int .i64 0), .v (.int .i64 0)]⟩,
  ⟨none, .sto (.t 11) 5 101 0 3 (.t 63)⟩] false [.forget [62, 63]]
abbrev zQo : HCode := .drg [⟨0, false, ⟨none, .val 64 (.fldP (.t 3) 0)⟩⟩,
  ⟨1, false, ⟨none, .val 65 (.ldB (.t 64) 1 88 0 1 false)⟩⟩,
  ⟨2, false, ⟨none, .val 66 (.fldP (.t 11) 0)⟩⟩,
  ⟨3, false, ⟨none, .val 67 (.ldB (.t 66) 5 101 0 1 false)⟩⟩,
  ⟨4, false, ⟨none, .val 68 (.ints .add (.t 65) (.t 67))⟩⟩,
  ⟨5, false, ⟨none, .val 69 (.fldP (.t 3) 1)⟩⟩,
  ⟨6, false, ⟨none, .val 70 (.ldB (.t 69) 1 88 1 1 false)⟩⟩,
  ⟨7, false, ⟨none, .val 71 (.fldP (.t 11) 1)⟩⟩,
  ⟨8, false, ⟨none, .val 72 (.ldB (.t 71) 5 101 1 1 false)⟩⟩,
  ⟨9, false, ⟨none, .val 73 (.ints .add (.t 70) (.t 72))⟩⟩,
  ⟨10, false, ⟨none, .val 74 (.fldP (.t 3) 2)⟩⟩,
  ⟨11, false, ⟨none, .val 75 (.ldB (.t 74) 1 88 2 1 false)⟩⟩,
  ⟨12, false, ⟨none, .val 76 (.fldP (.t 11) 2)⟩⟩,
  ⟨13, false, ⟨none, .val 77 (.ldB (.t 76) 5 101 2 1 false)⟩⟩,
  ⟨14, false, ⟨none, .val 78 (.ints .add (.t 75) (.t 77))⟩⟩,
  ⟨15, false, ⟨none, .val 79 (.fldP (.t 3) 0)⟩⟩,
  ⟨16, false, ⟨none, .sto (.t 79) 1 88 0 1 (.t 68)⟩⟩,
  ⟨17, false, ⟨none, .val 80 (.fldP (.t 3) 1)⟩⟩,
  ⟨18, false, ⟨none, .sto (.t 80) 1 88 1 1 (.t 73)⟩⟩,
  ⟨19, false, ⟨none, .val 81 (.fldP (.t 3) 2)⟩⟩,
  ⟨20, false, ⟨none, .sto (.t 81) 1 88 2 1 (.t 78)⟩⟩] [.forget [64, 65, 66, 67, 68, 69, 70, 71, 72, 73, 74, 75, 76, 77, 78, 79, 80, 81]]
abbrev zQp : HCode := .reg [⟨none, .val 35 (.fldP (.t 3) 1)⟩,
  ⟨none, .val 36 (.ldB (.t 35) 1 88 1 1 false)⟩,
  ⟨none, .val 37 (.ints .add (.t 36) (.c (iv 1)))⟩,
  ⟨none, .val 38 (.fldP (.t 3) 1)⟩,
  ⟨none, .sto (.t 38) 1 88 1 1 (.t 37)⟩] false [.forget [35, 36, 37, 38]]
abbrev zQq : HCode := .reg [⟨none, .val 82 (.ints .add (.t 29) (.c (iv 1)))⟩,
  ⟨none, .val 29 (.mv (.t 82))⟩] false [.forget [82]]
abbrev zQr : HCode := .reg [⟨none, .val 83 (.ints .add (.t 15) (.c (iv 1)))⟩,
  ⟨none, .val 15 (.mv (.t 83))⟩] false [.forget [83]]
abbrev zQs : HCode := .reg [⟨none, .val 84 (.ldB (.t 3) 1 88 0 3 true)⟩,
  ⟨none, .sto (.t 2) 0 85 0 3 (.t 84)⟩] false [.forget [84]]
abbrev zZA : HCode := (.seq zTl (.seq zTm (.seq (.seq zTn (.block 0 (.loop (.seq zTo (.seq (.cond (.t 16) .skip (.exit 0)) (.seq (.block 1 (.seq zTp (.seq (.seq zTq (.cond (.t 21) zTr .skip)) (.seq zTs (.block 2 (.loop (.seq zTt (.seq (.cond (.t 30) .skip (.exit 2)) (.seq (.block 3 (.seq zTu (.seq zQb (.block 4 (.seq zQc (.cond (.t 39) zQd (.seq (.seq zQe (.cond (.t 45) .skip (.seq zQf (.cond (.t 45) .skip zQg)))) (.cond (.t 45) (.seq zQh (.seq (.seq zQi (.block 5 (.loop (.seq zQj (.seq (.cond (.t 53) .skip (.exit 5)) (.seq (.block 6 (.seq zQk zQl)) zQm)))))) (.seq zQn zQo))) zQp)))))))) zQq))))))))) zQr)))))) (.seq zQs .ret))))
abbrev zEU : Env := { N := 85, Γ := [(85, 3), (88, 3), (91, 2), (93, 6), (99, 2), (101, 3)], L := 104, nfix := 0 }
abbrev zVJ : List RSrc := [.cellB 2 0 85 0 3 true]
theorem zTv {base : Nat} {av : List AV} {r : RV} (hfo : zAC zEU base av) (hW : AVs.fits av → hwp Tryz.prog zZA (zCj zEU base av zVJ r) (F0 zEU base av)) (hov : ∀ x, r.res = .ov x → zB5 av = 0 := by intro x h; cases h <;> rfl) : Contract Tryz.prog zCs av r :=
 contract_of_wp (fn := Tryz.f112) (c := Tryz.f112.body.getD .skip) (by kernel_rfl) (by kernel_rfl) (by kernel_rfl) (by kernel_rfl) (by kernel_rfl) (by kernel_rfl) (by kernel_rfl) hfo hW hov
abbrev zTw : HCode := .reg [⟨none, .val 1 (.boxF (.t 0))⟩,
  ⟨none, .alloc 2 0 14 [.v (.int .i64 0), .v (.int .i64 0), .v (.int .i64 0)]⟩,
  ⟨none, .val 3 (.mv (.c (iv 0)))⟩] false []
abbrev zTx : HCode := .reg [⟨none, .val 5 (.ldR (.t 1) 2 true)⟩,
  ⟨none, .val 6 (.bslF 2 [.t 5])⟩,
  ⟨none, .call (some 7) zBQ [(.t 6, .v)]⟩,
  ⟨none, .val 4 (.mv (.t 7))⟩] false [.forget [5, 6, 7]]
abbrev zTy : HCode := .reg [⟨none, .val 8 (.mv (.t 4))⟩,
  ⟨none, .val 9 (.ints .neq (.t 8) (.c (iv 0)))⟩] false [.forget [8]]
abbrev zTz : HCode := .reg [⟨none, .val 10 (.bld [.v (.int .i64 0), .v (.int .i64 0), .v (.int .i64 0)] [])⟩,
  ⟨none, .val 11 (.mv (.t 4))⟩,
  ⟨none, .sto (.t 2) 0 14 0 3 (.t 10)⟩,
  ⟨none, .val 3 (.mv (.t 11))⟩] false [.forget [10, 11]]
abbrev zTA : HCode := .reg [⟨none, .val 12 (.ldR (.t 1) 2 true)⟩,
  ⟨none, .call (some 13) zCs [(.t 12, .v)]⟩,
  ⟨none, .sto (.t 2) 0 14 0 3 (.t 13)⟩,
  ⟨none, .val 3 (.mv (.c (iv 0)))⟩] false [.forget [12, 13]]
abbrev zZB : HCode := (.seq zTw (.seq (.seq zTx (.seq zTy (.cond (.t 9) (.seq zTz .ret) .skip))) (.seq zTA .ret)))
abbrev zEV : Env := { N := 14, Γ := [(14, 3)], L := 17, nfix := 0 }
abbrev zVK : List RSrc := [.cellB 2 0 14 0 3 true, .tmp 3]
theorem zTB {base : Nat} {av : List AV} {r : RV} (hfo : zAC zEV base av) (hW : AVs.fits av → hwp Tryz.prog zZB (zCj zEV base av zVK r) (F0 zEV base av)) (hov : ∀ x, r.res = .ov x → zB5 av = 0 := by intro x h; cases h <;> rfl) : Contract Tryz.prog zEc av r :=
 contract_of_wp (fn := Tryz.f55) (c := Tryz.f55.body.getD .skip) (by kernel_rfl) (by kernel_rfl) (by kernel_rfl) (by kernel_rfl) (by kernel_rfl) (by kernel_rfl) (by kernel_rfl) hfo hW hov
abbrev zOr : HCode := .reg [⟨none, .val 2 (.boxF (.t 0))⟩,
  ⟨none, .val 3 (.boxF (.t 1))⟩,
  ⟨none, .val 4 (.mv (.c (iv 0)))⟩] false []
abbrev zOs : HCode := .drg [⟨0, false, ⟨none, .val 5 (.fldR (.t 2) 0 1)⟩⟩,
  ⟨1, false, ⟨none, .val 6 (.ldR (.t 5) 1 false)⟩⟩,
  ⟨2, false, ⟨none, .val 7 (.fldR (.t 3) 0 1)⟩⟩,
  ⟨3, false, ⟨none, .val 8 (.ldR (.t 7) 1 false)⟩⟩,
  ⟨4, false, ⟨none, .call (some 9) zBD [(.t 6, .v), (.t 8, .v)]⟩⟩,
  ⟨5, false, ⟨none, .val 10 (.fldR (.t 2) 1 1)⟩⟩,
  ⟨6, false, ⟨none, .val 11 (.ldR (.t 10) 1 false)⟩⟩,
  ⟨7, false, ⟨none, .val 12 (.fldR (.t 3) 1 1)⟩⟩,
  ⟨8, false, ⟨none, .val 13 (.ldR (.t 12) 1 false)⟩⟩,
  ⟨9, false, ⟨none, .call (some 14) zBD [(.t 11, .v), (.t 13, .v)]⟩⟩,
  ⟨10, false, ⟨none, .val 15 (.fldR (.t 2) 2 1)⟩⟩,
  ⟨11, false, ⟨none, .val 16 (.ldR (.t 15) 1 false)⟩⟩,
  ⟨12, false, ⟨none, .val 17 (.fldR (.t 3) 2 1)⟩⟩,
  ⟨13, false, ⟨none, .val 18 (.ldR (.t 17) 1 false)⟩⟩,
  ⟨14, true, ⟨none, .call (some 19) zBD [(.t 16, .v), (.t 18, .v)]⟩⟩,
  ⟨15, false, ⟨none, .val 20 (.bslF 1 [.t 9, .t 14, .t 19])⟩⟩,
  ⟨16, true, ⟨none, .call (some 21) zFV [(.t 20, .v)]⟩⟩,
  ⟨17, false, ⟨none, .val 4 (.mv (.t 21))⟩⟩] [.forget [5, 6, 7, 8, 9, 10, 11, 12, 13, 14, 15, 16, 17, 18, 19, 20, 21]]
abbrev zVL : HCode := (.seq zOr (.seq zOs .ret))
abbrev zDD : Env := { N := 22, Γ := [], L := 22, nfix := 0 }
abbrev zQt : List RSrc := [.tmp 4]
theorem zOt {base : Nat} {av : List AV} {r : RV} (hfo : zAC zDD base av) (hW : AVs.fits av → hwp Tryz.prog zVL (zCj zDD base av zQt r) (F0 zDD base av)) (hov : ∀ x, r.res = .ov x → zB5 av = 0 := by intro x h; cases h <;> rfl) : Contract Tryz.prog zDh av r :=
 contract_of_wp (fn := Tryz.f166) (c := Tryz.f166.body.getD .skip) (by kernel_rfl) (by kernel_rfl) (by kernel_rfl) (by kernel_rfl) (by kernel_rfl) (by kernel_rfl) (by kernel_rfl) hfo hW hov
abbrev zFl : HCode := .reg [⟨none, .alloc 4 0 33 [.v (.int .i64 0), .v (.int .i64 0), .v (.int .i64 0)]⟩] false []
abbrev zFm : HCode := .reg [⟨none, .val 7 (.mv (.t 0))⟩,
  ⟨none, .val 8 (.len false (.t 7))⟩,
  ⟨none, .val 9 (.ints .lss (.t 8) (.c (iv 1)))⟩] false [.forget [7, 8]]
abbrev zFn : HCode := .reg [⟨none, .val 10 (.mki zFf (.c (sv [115, 108, 105, 99, 101, 115, 46, 77, 97, 120, 70, 117, 110, 99, 58, 32, 101, 109, 112, 116, 121, 32, 108, 105, 115, 116])))⟩,
  ⟨none, .pan (.t 10)⟩] false [.forget [10]]
abbrev zFo : HCode := .reg [⟨none, .val 11 (.mv (.t 0))⟩,
  ⟨none, .val 12 (.idxA 3 (.t 11) (.c (iv 0)))⟩,
  ⟨none, .val 13 (.ldR (.t 12) 3 true)⟩,
  ⟨none, .alloc 5 1 36 [.v (.int .i64 0), .v (.int .i64 0), .v (.int .i64 0)]⟩,
  ⟨none, .sto (.t 5) 1 36 0 3 (.t 13)⟩] false [.forget [11, 12, 13]]
abbrev zFp : HCode := .reg [⟨none, .val 6 (.mv (.c (iv 1)))⟩] false []
abbrev zFq : HCode := .reg [⟨none, .val 14 (.mv (.t 6))⟩,
  ⟨none, .val 15 (.mv (.t 0))⟩,
  ⟨none, .val 16 (.len false (.t 15))⟩,
  ⟨none, .val 17 (.ints .lss (.t 14) (.t 16))⟩] false [.forget [14, 15, 16]]
abbrev zFr : HCode := .drg [⟨0, false, ⟨none, .val 20 (.mv (.t 1))⟩⟩,
  ⟨1, false, ⟨none, .val 21 (.mv (.t 0))⟩⟩,
  ⟨2, false, ⟨none, .val 22 (.mv (.t 6))⟩⟩,
  ⟨3, false, ⟨none, .val 23 (.idxA 3 (.t 21) (.t 22))⟩⟩,
  ⟨4, false, ⟨none, .val 24 (.ldR (.t 23) 3 true)⟩⟩,
  ⟨5, false, ⟨none, .val 25 (.ldB (.t 5) 1 36 0 3 true)⟩⟩,
  ⟨6, true, ⟨none, .callv (some 26) (.t 20) [(.t 24, .v), (.t 25, .v)]⟩⟩,
  ⟨7, false, ⟨none, .val 27 (.ints .gtr (.t 26) (.c (iv 0)))⟩⟩] [.forget [20, 21, 22, 23, 24, 25, 26]]
abbrev zFs : HCode := .reg [⟨none, .val 28 (.mv (.t 0))⟩,
  ⟨none, .val 29 (.mv (.t 6))⟩,
  ⟨none, .val 30 (.idxA 3 (.t 28) (.t 29))⟩,
  ⟨none, .val 31 (.ldR (.t 30) 3 true)⟩,
  ⟨none, .sto (.t 5) 1 36 0 3 (.t 31)⟩] false [.forget [28, 29, 30, 31]]
abbrev zFt : HCode := .reg [⟨none, .val 18 (.mv (.t 6))⟩,
  ⟨none, .val 19 (.ints .add (.t 18) (.c (iv 1)))⟩,
  ⟨none, .val 6 (.mv (.t 19))⟩] false [.forget [18, 19]]
abbrev zFu : HCode := .reg [⟨none, .val 32 (.ldB (.t 5) 1 36 0 3 true)⟩,
  ⟨none, .sto (.t 4) 0 33 0 3 (.t 32)⟩] false [.forget [32]]
abbrev zGq : HCode := (.seq zFl (.seq (.seq zFm (.cond (.t 9) zFn .skip)) (.seq zFo (.seq (.seq zFp (.block 0 (.loop (.seq (.seq zFq (.cond (.t 17) .skip (.exit 0))) (.seq (.block 1 (.seq zFr (.cond (.t 27) zFs .skip))) zFt))))) (.seq zFu .ret)))))
abbrev zBi : Env := { N := 33, Γ := [(33, 3), (36, 3)], L := 39, nfix := 0 }
abbrev zFW : List RSrc := [.cellB 4 0 33 0 3 true]
theorem zFv {base : Nat} {av : List AV} {r : RV} (hfo : zAC zBi base av) (hW : AVs.fits av → hwp Tryz.prog zGq (zCj zBi base av zFW r) (F0 zBi base av)) (hov : ∀ x, r.res = .ov x → zB5 av = 0 := by intro x h; cases h <;> rfl) : Contract Tryz.prog zBL av r :=
 contract_of_wp (fn := Tryz.f165) (c := Tryz.f165.body.getD .skip) (by kernel_rfl) (by kernel_rfl) (by kernel_rfl) (by kernel_rfl) (by kernel_rfl) (by kernel_rfl) (by kernel_rfl) hfo hW hov
abbrev zTC : HCode := .reg [⟨none, .val 2 (.mv (.c (iv 0)))⟩] false []
abbrev zTD : HCode := .reg [⟨none, .val 3 (.mv (.c (iv 0)))⟩] false []
abbrev zTE : HCode := .reg [⟨none, .val 6 (.mv (.t 0))⟩,
  ⟨none, .val 7 (.len false (.t 6))⟩,
  ⟨none, .val 8 (.mv (.c (iv 0)))⟩] false []
abbrev zTF : HCode := .reg [⟨none, .val 9 (.ints .lss (.t 8) (.t 7))⟩] false []
abbrev zTG : HCode := .reg [⟨none, .val 10 (.idxA 1 (.t 6) (.t 8))⟩,
  ⟨none, .val 11 (.ldR (.t 10) 1 false)⟩,
  ⟨none, .val 5 (.mv (.t 11))⟩] false [.forget [10, 11]]
abbrev zTH : HCode := .reg [⟨none, .val 12 (.mv (.t 5))⟩,
  ⟨none, .val 13 (.mv (.t 3))⟩,
  ⟨none, .val 14 (.ints .neq (.t 12) (.t 13))⟩] false [.forget [12, 13]]
abbrev zTI : HCode := .reg [⟨none, .val 15 (.mv (.t 5))⟩,
  ⟨none, .val 2 (.mv (.t 15))⟩] false [.forget [15]]
abbrev zTJ : HCode := .reg [⟨none, .val 16 (.ints .add (.t 8) (.c (iv 1)))⟩,
  ⟨none, .val 8 (.mv (.t 16))⟩] false [.forget [16]]
abbrev zTK : HCode := .reg [⟨none, .val 17 (.mv (.t 3))⟩,
  ⟨none, .val 2 (.mv (.t 17))⟩] false [.forget [17]]
abbrev zZC : HCode := (.seq zTC (.seq zTD (.seq (.seq zTE (.block 0 (.loop (.seq zTF (.seq (.cond (.t 9) .skip (.exit 0)) (.seq (.block 1 (.seq zTG (.seq zTH (.cond (.t 14) (.seq zTI .ret) .skip)))) zTJ)))))) (.seq zTK .ret))))
abbrev zEW : Env := { N := 18, Γ := [], L := 18, nfix := 0 }
abbrev zVM : List RSrc := [.tmp 2]
theorem zTL {base : Nat} {av : List AV} {r : RV} (hfo : zAC zEW base av) (hW : AVs.fits av → hwp Tryz.prog zZC (zCj zEW base av zVM r) (F0 zEW base av)) (hov : ∀ x, r.res = .ov x → zB5 av = 0 := by intro x h; cases h <;> rfl) : Contract Tryz.prog zFV av r :=
 contract_of_wp (fn := Tryz.f148) (c := Tryz.f148.body.getD .skip) (by kernel_rfl) (by kernel_rfl) (by kernel_rfl) (by kernel_rfl) (by kernel_rfl) (by kernel_rfl) (by kernel_rfl) hfo hW hov
abbrev zHV : HCode := .reg [⟨none, .val 4 (.mv (.c (iv 0)))⟩] false []
abbrev zHW : HCode := .reg [⟨none, .val 7 (.mv (.t 0))⟩,
  ⟨none, .call (some 8) zCJ [(.t 7, .v)]⟩,
  ⟨none, .val 5 (.mv (.t 8))⟩] false [.forget [7, 8]]
abbrev zHX : HCode := .reg [⟨none, .val 9 (.mv (.t 1))⟩,
  ⟨none, .call (some 10) zCJ [(.t 9, .v)]⟩,
  ⟨none, .val 6 (.mv (.t 10))⟩] false [.forget [9, 10]]
abbrev zHY : HCode := .reg [⟨none, .val 11 (.mv (.t 5))⟩] false []
abbrev zHZ : HCode := .reg [⟨none, .val 12 (.mv (.t 6))⟩] false []
abbrev zH0 : HCode := .reg [⟨none, .val 4 (.mv (.c (iv 0)))⟩] false []
abbrev zH1 : HCode := .reg [⟨none, .val 4 (.mv (.c (iv (-1))))⟩] false []
abbrev zH2 : HCode := .reg [⟨none, .val 13 (.mv (.t 6))⟩] false []
abbrev zH3 : HCode := .reg [⟨none, .val 4 (.mv (.c (iv 1)))⟩] false []
abbrev zH4 : HCode := .reg [⟨none, .val 14 (.mv (.t 0))⟩,
  ⟨none, .val 15 (.mv (.t 1))⟩,
  ⟨none, .val 16 (.ints .lss (.t 14) (.t 15))⟩] false [.forget [14, 15]]
abbrev zG8 : HCode := .reg [⟨none, .val 4 (.mv (.c (iv (-1))))⟩] false []
abbrev zG9 : HCode := .reg [⟨none, .val 17 (.mv (.t 0))⟩,
  ⟨none, .val 18 (.mv (.t 1))⟩,
  ⟨none, .val 19 (.ints .gtr (.t 17) (.t 18))⟩] false [.forget [17, 18]]
abbrev zHa : HCode := .reg [⟨none, .val 4 (.mv (.c (iv 1)))⟩] false []
abbrev zHb : HCode := .reg [⟨none, .val 4 (.mv (.c (iv 0)))⟩] false []
abbrev zOu : HCode := (.seq zHV (.seq zHW (.seq zHX (.seq (.seq zHY (.cond (.t 11) (.seq (.seq zHZ (.cond (.t 12) (.seq zH0 .ret) .skip)) (.seq zH1 .ret)) .skip)) (.seq (.seq zH2 (.cond (.t 13) (.seq zH3 .ret) .skip)) (.seq (.seq zH4 (.cond (.t 16) (.seq zG8 .ret) .skip)) (.seq (.seq zG9 (.cond (.t 19) (.seq zHa .ret) .skip)) (.seq zHb .ret))))))))
abbrev zCt : Env := { N := 20, Γ := [], L := 20, nfix := 0 }
abbrev zJd : List RSrc := [.tmp 4]
theorem zH5 {base : Nat} {av : List AV} {r : RV} (hfo : zAC zCt base av) (hW : AVs.fits av → hwp Tryz.prog zOu (zCj zCt base av zJd r) (F0 zCt base av)) (hov : ∀ x, r.res = .ov x → zB5 av = 0 := by intro x h; cases h <;> rfl) : Contract Tryz.prog zBD av r :=
 contract_of_wp (fn := Tryz.f149) (c := Tryz.f149.body.getD .skip) (by kernel_rfl) (by kernel_rfl) (by kernel_rfl) (by kernel_rfl) (by kernel_rfl) (by kernel_rfl) (by kernel_rfl) hfo hW hov
abbrev zLL : HCode := .reg [⟨none, .val 2 (.mv (.c (bv false)))⟩] false []
abbrev zLM : HCode := .reg [⟨none, .val 3 (.mv (.t 0))⟩,
  ⟨none, .val 4 (.mv (.t 0))⟩,
  ⟨none, .val 5 (.ints .neq (.t 3) (.t 4))⟩,
  ⟨none, .val 2 (.mv (.t 5))⟩] false [.forget [3, 4, 5]]
abbrev zTM : HCode := (.seq zLL (.seq zLM .ret))
abbrev zDi : Env := { N := 6, Γ := [], L := 6, nfix := 0 }
abbrev zOv : List RSrc := [.tmp 2]
theorem zLN {base : Nat} {av : List AV} {r : RV} (hfo : zAC zDi base av) (hW : AVs.fits av → hwp Tryz.prog zTM (zCj zDi base av zOv r) (F0 zDi base av)) (hov : ∀ x, r.res = .ov x → zB5 av = 0 := by intro x h; cases h <;> rfl) : Contract Tryz.prog zCJ av r :=
 contract_of_wp (fn := Tryz.f205) (c := Tryz.f205.body.getD .skip) (by kernel_rfl) (by kernel_rfl) (by kernel_rfl) (by kernel_rfl) (by kernel_rfl) (by kernel_rfl) (by kernel_rfl) hfo hW hov
abbrev zQu : HCode := .reg [⟨none, .val 2 (.boxF (.t 0))⟩,
  ⟨none, .val 3 (.boxF (.t 1))⟩,
  ⟨none, .val 4 (.mv (.c (bv false)))⟩] false []
abbrev zQv : HCode := .reg [⟨none, .val 5 (.fldR (.t 2) 0 1)⟩,
  ⟨none, .val 6 (.ldR (.t 5) 1 false)⟩,
  ⟨none, .val 7 (.fldR (.t 3) 0 1)⟩,
  ⟨none, .val 8 (.ldR (.t 7) 1 false)⟩,
  ⟨none, .val 9 (.ints .neq (.t 6) (.t 8))⟩] false [.forget [5, 6, 7, 8]]
abbrev zQw : HCode := .reg [⟨none, .val 10 (.fldR (.t 2) 0 1)⟩,
  ⟨none, .val 11 (.ldR (.t 10) 1 false)⟩,
  ⟨none, .val 12 (.fldR (.t 3) 0 1)⟩,
  ⟨none, .val 13 (.ldR (.t 12) 1 false)⟩,
  ⟨none, .val 14 (.ints .gtr (.t 11) (.t 13))⟩,
  ⟨none, .val 4 (.mv (.t 14))⟩] false [.forget [10, 11, 12, 13, 14]]
abbrev zQx : HCode := .reg [⟨none, .val 15 (.fldR (.t 2) 1 1)⟩,
  ⟨none, .val 16 (.ldR (.t 15) 1 false)⟩,
  ⟨none, .val 17 (.fldR (.t 3) 1 1)⟩,
  ⟨none, .val 18 (.ldR (.t 17) 1 false)⟩,
  ⟨none, .val 19 (.ints .neq (.t 16) (.t 18))⟩] false [.forget [15, 16, 17, 18]]
abbrev zQy : HCode := .reg [⟨none, .val 20 (.fldR (.t 2) 1 1)⟩,
  ⟨none, .val 21 (.ldR (.t 20) 1 false)⟩,
  ⟨none, .val 22 (.fldR (.t 3) 1 1)⟩,
  ⟨none, .val 23 (.ldR (.t 22) 1 false)⟩,
  ⟨none, .val 24 (.ints .gtr (.t 21) (.t 23))⟩,
  ⟨none, .val 4 (.mv (.t 24))⟩] false [.forget [20, 21, 22, 23, 24]]
abbrev zQz : HCode := .reg [⟨none, .val 25 (.fldR (.t 2) 2 1)⟩,
  ⟨none, .val 26 (.ldR (.t 25) 1 false)⟩,
  ⟨none, .val 27 (.fldR (.t 3) 2 1)⟩,
  ⟨none, .val 28 (.ldR (.t 27) 1 false)⟩,
  ⟨none, .val 29 (.ints .gtr (.t 26) (.t 28))⟩,
  ⟨none, .val 4 (.mv (.t 29))⟩] false [.forget [25, 26, 27, 28, 29]]
abbrev zXt : HCode := (.seq zQu (.seq (.seq zQv (.cond (.t 9) (.seq zQw .ret) .skip)) (.seq (.seq zQx (.cond (.t 19) (.seq zQy .ret) .skip)) (.seq zQz .ret))))
abbrev zEd : Env := { N := 30, Γ := [], L := 30, nfix := 0 }
abbrev zTN : List RSrc := [.tmp 4]
theorem zQA {base : Nat} {av : List AV} {r : RV} (hfo : zAC zEd base av) (hW : AVs.fits av → hwp Tryz.prog zXt (zCj zEd base av zTN r) (F0 zEd base av)) (hov : ∀ x, r.res = .ov x → zB5 av = 0 := by intro x h; cases h <;> rfl) : Contract Tryz.prog zE3 av r :=
 contract_of_wp (fn := Tryz.f113) (c := Tryz.f113.body.getD .skip) (by kernel_rfl) (by kernel_rfl) (by kernel_rfl) (by kernel_rfl) (by kernel_rfl) (by kernel_rfl) (by kernel_rfl) hfo hW hov
abbrev zOw : HCode := .reg [⟨none, .val 1 (.boxF (.t 0))⟩,
  ⟨none, .alloc 2 0 98 [.v (.int .i64 0), .v (.int .i64 0), .v (.int .i64 0)]⟩] false []
abbrev zOx : HCode := .reg [⟨none, .alloc 3 1 101 [.v (.int .i64 0), .v (.int .i64 0), .v (.int .i64 0)]⟩] false []
abbrev zOy : HCode := .reg [⟨none, .val 4 (.mv (.c (iv 0)))⟩] false []
abbrev zOz : HCode := .reg [⟨none, .val 10 (.mv (.t 4))⟩,
  ⟨none, .val 11 (.fldR (.t 1) 0 1)⟩,
  ⟨none, .val 12 (.ldR (.t 11) 1 false)⟩,
  ⟨none, .val 13 (.len false (.t 12))⟩,
  ⟨none, .val 14 (.ints .lss (.t 10) (.t 13))⟩] false [.forget [10, 11, 12, 13]]
abbrev zOA : HCode := .reg [⟨none, .val 17 (.fldR (.t 1) 0 1)⟩,
  ⟨none, .val 18 (.ldR (.t 17) 1 false)⟩,
  ⟨none, .val 19 (.mv (.t 4))⟩,
  ⟨none, .val 20 (.idxA 2 (.t 18) (.t 19))⟩,
  ⟨none, .val 21 (.fldR (.t 20) 0 1)⟩,
  ⟨none, .val 22 (.ldR (.t 21) 1 false)⟩,
  ⟨none, .val 23 (.strs .neq (.t 22) (.c (sv [])))⟩] false [.forget [17, 18, 19, 20, 21, 22]]
abbrev zOB : HCode := .reg [⟨none, .val 24 (.fldP (.t 3) 2)⟩,
  ⟨none, .val 25 (.ldB (.t 24) 1 101 2 1 false)⟩,
  ⟨none, .val 26 (.ints .add (.t 25) (.c (iv 1)))⟩,
  ⟨none, .val 27 (.fldP (.t 3) 2)⟩,
  ⟨none, .sto (.t 27) 1 101 2 1 (.t 26)⟩] false [.forget [24, 25, 26, 27]]
abbrev zOC : HCode := .reg [⟨none, .val 5 (.mv (.c (iv 0)))⟩] false []
abbrev zOD : HCode := .reg [⟨none, .val 28 (.mv (.t 5))⟩,
  ⟨none, .val 29 (.fldR (.t 1) 0 1)⟩,
  ⟨none, .val 30 (.ldR (.t 29) 1 false)⟩,
  ⟨none, .val 31 (.mv (.t 4))⟩,
  ⟨none, .val 32 (.idxA 2 (.t 30) (.t 31))⟩,
  ⟨none, .val 33 (.fldR (.t 32) 1 1)⟩,
  ⟨none, .val 34 (.ldR (.t 33) 1 false)⟩,
  ⟨none, .val 35 (.len false (.t 34))⟩,
  ⟨none, .val 36 (.ints .lss (.t 28) (.t 35))⟩] false [.forget [28, 29, 30, 31, 32, 33, 34, 35]]
abbrev zOE : HCode := .reg [⟨none, .val 39 (.fldR (.t 1) 0 1)⟩,
  ⟨none, .val 40 (.ldR (.t 39) 1 false)⟩,
  ⟨none, .val 41 (.mv (.t 4))⟩,
  ⟨none, .val 42 (.idxA 2 (.t 40) (.t 41))⟩,
  ⟨none, .val 43 (.fldR (.t 42) 1 1)⟩,
  ⟨none, .val 44 (.ldR (.t 43) 1 false)⟩,
  ⟨none, .val 45 (.mv (.t 5))⟩,
  ⟨none, .val 46 (.idxA 6 (.t 44) (.t 45))⟩,
  ⟨none, .val 47 (.ldR (.t 46) 6 true)⟩,
  ⟨none, .alloc 6 2 104 [.v (.int .i64 0), .v (mkS []), .v (mkS []), .v (.int .i64 0), .v (.int .i64 0), .nl 2]⟩,
  ⟨none, .sto (.t 6) 2 104 0 6 (.t 47)⟩] false [.forget [39, 40, 41, 42, 43, 44, 45, 46, 47]]
abbrev zOF : HCode := .reg [⟨none, .val 82 (.fldP (.t 6) 0)⟩,
  ⟨none, .val 83 (.ldB (.t 82) 2 104 0 1 false)⟩,
  ⟨none, .val 84 (.ints .eql (.t 83) (.c (iv 2)))⟩,
  ⟨none, .val 81 (.mv (.t 84))⟩] false [.forget [82, 83, 84]]
abbrev zLO : HCode := .reg [⟨none, .val 85 (.fldP (.t 3) 0)⟩,
  ⟨none, .val 86 (.ldB (.t 85) 1 101 0 1 false)⟩,
  ⟨none, .val 87 (.ints .add (.t 86) (.c (iv 1)))⟩,
  ⟨none, .val 88 (.fldP (.t 3) 0)⟩,
  ⟨none, .sto (.t 88) 1 101 0 1 (.t 87)⟩] false [.forget [85, 86, 87, 88]]
abbrev zLP : HCode := .reg [⟨none, .val 90 (.fldP (.t 6) 0)⟩,
  ⟨none, .val 91 (.ldB (.t 90) 2 104 0 1 false)⟩,
  ⟨none, .val 92 (.ints .lss (.t 91) (.c (iv 13)))⟩,
  ⟨none, .val 89 (.mv (.t 92))⟩] false [.forget [90, 91, 92]]
abbrev zLQ : HCode := .reg [⟨none, .val 93 (.fldP (.t 3) 1)⟩,
  ⟨none, .val 94 (.ldB (.t 93) 1 101 1 1 false)⟩,
  ⟨none, .val 95 (.ints .add (.t 94) (.c (iv 1)))⟩,
  ⟨none, .val 96 (.fldP (.t 3) 1)⟩,
  ⟨none, .sto (.t 96) 1 101 1 1 (.t 95)⟩] false [.forget [93, 94, 95, 96]]
abbrev zLR : HCode := .reg [⟨none, .alloc 7 3 110 [.v (.int .i64 0), .v (.int .i64 0), .v (.int .i64 0)]⟩] false []
abbrev zLS : HCode := .reg [⟨none, .val 8 (.mv (.c (iv 0)))⟩] false []
abbrev zLT : HCode := .reg [⟨none, .val 48 (.mv (.t 8))⟩,
  ⟨none, .val 49 (.fldP (.t 6) 5)⟩,
  ⟨none, .val 50 (.ldB (.t 49) 2 104 5 1 false)⟩,
  ⟨none, .val 51 (.len false (.t 50))⟩,
  ⟨none, .val 52 (.ints .lss (.t 48) (.t 51))⟩] false [.forget [48, 49, 50, 51]]
abbrev zLU : HCode := .reg [⟨none, .val 55 (.fldP (.t 6) 5)⟩,
  ⟨none, .val 56 (.ldB (.t 55) 2 104 5 1 false)⟩,
  ⟨none, .val 57 (.mv (.t 8))⟩,
  ⟨none, .val 58 (.idxA 2 (.t 56) (.t 57))⟩,
  ⟨none, .val 59 (.ldR (.t 58) 2 true)⟩,
  ⟨none, .call (some 60) zBp [(.t 59, .v)]⟩,
  ⟨none, .alloc 9 4 113 [.v (.int .i64 0), .v (.int .i64 0), .v (.int .i64 0)]⟩,
  ⟨none, .sto (.t 9) 4 113 0 3 (.t 60)⟩] false [.forget [55, 56, 57, 58, 59, 60]]
abbrev zLV : HCode := .reg [⟨none, .val 61 (.ldB (.t 9) 4 113 0 3 true)⟩,
  ⟨none, .val 62 (.ldB (.t 7) 3 110 0 3 true)⟩,
  ⟨none, .call (some 63) zE3 [(.t 61, .v), (.t 62, .v)]⟩] false [.forget [61, 62]]
abbrev zLW : HCode := .reg [⟨none, .val 64 (.ldB (.t 9) 4 113 0 3 true)⟩,
  ⟨none, .sto (.t 7) 3 110 0 3 (.t 64)⟩] false [.forget [64]]
abbrev zLX : HCode := .reg [⟨none, .val 53 (.mv (.t 8))⟩,
  ⟨none, .val 54 (.ints .add (.t 53) (.c (iv 1)))⟩,
  ⟨none, .val 8 (.mv (.t 54))⟩] false [.forget [53, 54]]
abbrev zLY : HCode := .reg [⟨none, .val 65 (.fldP (.t 3) 0)⟩,
  ⟨none, .val 66 (.ldB (.t 65) 1 101 0 1 false)⟩,
  ⟨none, .val 67 (.fldP (.t 7) 0)⟩,
  ⟨none, .val 68 (.ldB (.t 67) 3 110 0 1 false)⟩,
  ⟨none, .val 69 (.ints .add (.t 66) (.t 68))⟩,
  ⟨none, .val 70 (.fldP (.t 3) 1)⟩,
  ⟨none, .val 71 (.ldB (.t 70) 1 101 1 1 false)⟩,
  ⟨none, .val 72 (.fldP (.t 7) 1)⟩,
  ⟨none, .val 73 (.ldB (.t 72) 3 110 1 1 false)⟩,
  ⟨none, .val 74 (.ints .add (.t 71) (.t 73))⟩,
  ⟨none, .val 75 (.fldP (.t 3) 2)⟩,
  ⟨none, .val 76 (.ldB (.t 75) 1 101 2 1 false)⟩,
  ⟨none, .val 77 (.fldP (.t 7) 2)⟩,
  ⟨none, .val 78 (.ldB (.t 77) 3 110 2 1 false)⟩,
  ⟨none, .val 79 (.ints .add (.t 76) (.t 78))⟩,
  ⟨none, .val 80 (.bld [.v (.int .i64 0), .v (.int .i64 0), .v (.int .i64 0)] [(0, 1, .t 69), (1, 1, .t 74), (2, 1, .t 79)])⟩,
  ⟨none, .sto (.t 3) 1 101 0 3 (.t 80)⟩] false [.forget [65, 66, 67, 68, 69, 70, 71, 72, 73, 74, 75, 76, 77, 78, 79, 80]]
abbrev zLZ : HCode := .reg [⟨none, .val 37 (.mv (.t 5))⟩,
  ⟨none, .val 38 (.ints .add (.t 37) (.c (iv 1)))⟩,
  ⟨none, .val 5 (.mv (.t 38))⟩] false [.forget [37, 38]]
abbrev zL0 : HCode := .reg [⟨none, .val 15 (.mv (.t 4))⟩,
  ⟨none, .val 16 (.ints .add (.t 15) (.c (iv 1)))⟩,
  ⟨none, .val 4 (.mv (.t 16))⟩] false [.forget [15, 16]]
abbrev zL1 : HCode := .reg [⟨none, .val 97 (.ldB (.t 3) 1 101 0 3 true)⟩,
  ⟨none, .sto (.t 2) 0 98 0 3 (.t 97)⟩] false [.forget [97]]
abbrev zVN : HCode := (.seq zOw (.seq zOx (.seq (.seq zOy (.block 0 (.loop (.seq (.seq zOz (.cond (.t 14) .skip (.exit 0))) (.seq (.block 1 (.seq (.seq zOA (.cond (.t 23) zOB .skip)) (.seq zOC (.block 2 (.loop (.seq (.seq zOD (.cond (.t 36) .skip (.exit 2))) (.seq (.block 3 (.seq zOE (.block 4 (.seq zOF (.cond (.t 81) zLO (.seq zLP (.cond (.t 89) zLQ (.seq zLR (.seq (.seq zLS (.block 5 (.loop (.seq (.seq zLT (.cond (.t 52) .skip (.exit 5))) (.seq (.block 6 (.seq zLU (.seq zLV (.cond (.t 63) zLW .skip)))) zLX))))) zLY))))))))) zLZ))))))) zL0))))) (.seq zL1 .ret))))
abbrev zDE : Env := { N := 98, Γ := [(98, 3), (101, 3), (104, 6), (110, 3), (113, 3)], L := 116, nfix := 0 }
abbrev zQB : List RSrc := [.cellB 2 0 98 0 3 true]
theorem zOG {base : Nat} {av : List AV} {r : RV} (hfo : zAC zDE base av) (hW : AVs.fits av → hwp Tryz.prog zVN (zCj zDE base av zQB r) (F0 zDE base av)) (hov : ∀ x, r.res = .ov x → zB5 av = 0 := by intro x h; cases h <;> rfl) : Contract Tryz.prog zBp av r :=
 contract_of_wp (fn := Tryz.f56) (c := Tryz.f56.body.getD .skip) (by kernel_rfl) (by kernel_rfl) (by kernel_rfl) (by kernel_rfl) (by kernel_rfl) (by kernel_rfl) (by kernel_rfl) hfo hW hov
end Go.Hx
