/-
  Walks of functions of the program over an abstract layer, and the laws that they use: each contract says what the function computes, for every input that its conditions let by. No other condition.
-/
import Derived.Test.YtjnagiaooecklabGreatDoorProg
import Derived.Test.YtjnagiaooecklabGreatDoorG8
import Derived.Test.YtjnagiaooecklabGreatDoorG10
set_option linter.all false
section
/-
 The abstract code of functions of the program, printed by gen.py; each stands for the given one. No condition.
-/
namespace Go.Hx
open Go.Proofs
variable [Glob]
abbrev zDQ : Nat := 155
abbrev zC5 : Nat := 253
abbrev zGi : Nat := 49
abbrev zEa : Nat := 154
abbrev zCc : Nat := 105
abbrev zDz : Nat := 208
abbrev zDR : Nat := 250
abbrev zAT : Nat := 160
abbrev zAU : Nat := 214
abbrev zBb : Nat := 108
abbrev zBc : Nat := 215
abbrev zBx : Nat := 159
abbrev zBV : Nat := 216
abbrev zBW : Nat := 252
abbrev zER : Nat := 209
abbrev zES : Nat := 156
abbrev zC6 : Nat := 210
abbrev zCz : Nat := 212
abbrev zAS : Nat := 211
abbrev zCx : Nat := 217
abbrev zEu : Nat := 157
abbrev zCO : Nat := 249
abbrev zCd : Nat := 78
abbrev zFK : Nat := 81
abbrev zFL : Nat := 85
abbrev zBG : Nat := 155
abbrev zAV : Nat := 258
abbrev zFM : Nat := 5
abbrev zNB : HCode := .reg [⟨none, .val 4 (.mv (.c (bv false)))⟩] false []
abbrev zNC : HCode := .reg [⟨none, .val 8 (.mv (.t 0))⟩,
  ⟨none, .val 9 (.nilck (.t 8))⟩,
  ⟨none, .val 10 (.fldP (.t 9) 0)⟩,
  ⟨none, .val 11 (.ldB (.t 10) 0 21 0 1 false)⟩,
  ⟨none, .val 12 (.mv (.t 1))⟩,
  ⟨none, .call (some 13) zCx [(.t 11, .v), (.t 12, .v)]⟩,
  ⟨none, .val 7 (.mv (.t 13))⟩,
  ⟨none, .val 14 (.ext 7 0)⟩,
  ⟨none, .val 15 (.ext 7 1)⟩,
  ⟨none, .val 5 (.mv (.t 14))⟩,
  ⟨none, .val 6 (.mv (.t 15))⟩] false [.forget [7, 8, 9, 10, 11, 12, 13, 14, 15]]
abbrev zND : HCode := .reg [⟨none, .val 16 (.mv (.t 0))⟩,
  ⟨none, .val 17 (.mv (.t 5))⟩,
  ⟨none, .val 18 (.nilck (.t 16))⟩,
  ⟨none, .val 19 (.fldP (.t 18) 0)⟩,
  ⟨none, .sto (.t 19) 0 21 0 1 (.t 17)⟩] false [.forget [16, 17, 18, 19]]
abbrev zNE : HCode := .reg [⟨none, .val 20 (.mv (.t 6))⟩,
  ⟨none, .val 4 (.mv (.t 20))⟩] false [.forget [20]]
abbrev zUx : HCode := (.seq zNB (.seq zNC (.seq zND (.seq zNE .ret))))
abbrev zDA : Env := { N := 21, Γ := [(21, 1)], L := 22, nfix := 1 }
abbrev zPT : List RSrc := [.tmp 4]
theorem zNF {base : Nat} {av : List AV} {r : RV} (hfo : zAC zDA base av) (hW : AVs.fits av → hwp Tryz.prog zUx (zCj zDA base av zPT r) (F0 zDA base av)) (hov : ∀ x, r.res = .ov x → zB5 av = 0 := by intro x h; cases h <;> rfl) : Contract Tryz.prog zAT av r :=
 contract_of_wp (fn := Tryz.f160) (c := Tryz.f160.body.getD .skip) (by kernel_rfl) (by kernel_rfl) (by kernel_rfl) (by kernel_rfl) (by kernel_rfl) (by kernel_rfl) (by kernel_rfl) hfo hW hov
abbrev zJT : HCode := .reg [⟨none, .val 4 (.mv (.t 0))⟩,
  ⟨none, .val 5 (.mv (.t 1))⟩,
  ⟨none, .call (some 6) zAT [(.t 4, .i 0 10 1), (.t 5, .v)]⟩,
  ⟨none, .val 7 (.not (.t 6))⟩] false [.forget [4, 5, 6]]
abbrev zJU : HCode := .reg [⟨none, .val 8 (.bld [] [])⟩,
  ⟨none, .val 9 (.mki zBG (.t 8))⟩,
  ⟨none, .pan (.t 9)⟩] false [.forget [8, 9]]
abbrev zSl : HCode := (.seq zJT (.cond (.t 7) zJU .skip))
abbrev zCe : Env := { N := 10, Γ := [(10, 1)], L := 11, nfix := 1 }
abbrev zNG : List RSrc := []
theorem zF0 {base : Nat} {av : List AV} {r : RV} (hfo : zAC zCe base av) (hW : AVs.fits av → hwp Tryz.prog zSl (zCj zCe base av zNG r) (F0 zCe base av)) (hov : ∀ x, r.res = .ov x → zB5 av = 0 := by intro x h; cases h <;> rfl) : Contract Tryz.prog zBc av r :=
 contract_of_wp (fn := Tryz.f215) (c := Tryz.f215.body.getD .skip) (by kernel_rfl) (by kernel_rfl) (by kernel_rfl) (by kernel_rfl) (by kernel_rfl) (by kernel_rfl) (by kernel_rfl) hfo hW hov
abbrev zJV : HCode := .reg [⟨none, .val 4 (.mv (.c (sv [])))⟩] false []
abbrev zJW : HCode := .reg [⟨none, .val 9 (.mv (.t 0))⟩,
  ⟨none, .val 10 (.nilck (.t 9))⟩,
  ⟨none, .val 11 (.fldP (.t 10) 0)⟩,
  ⟨none, .val 12 (.ldB (.t 11) 0 27 0 1 false)⟩,
  ⟨none, .val 13 (.mv (.t 1))⟩,
  ⟨none, .call (some 14) zB1 [(.t 12, .v), (.t 13, .v)]⟩,
  ⟨none, .val 8 (.mv (.t 14))⟩,
  ⟨none, .val 15 (.ext 8 0)⟩,
  ⟨none, .val 16 (.ext 8 1)⟩,
  ⟨none, .val 17 (.ext 8 2)⟩,
  ⟨none, .val 5 (.mv (.t 15))⟩,
  ⟨none, .val 6 (.mv (.t 16))⟩,
  ⟨none, .val 7 (.mv (.t 17))⟩] false [.forget [8, 9, 10, 11, 12, 13, 14, 15, 16, 17]]
abbrev zJX : HCode := .reg [⟨none, .val 18 (.mv (.t 7))⟩,
  ⟨none, .val 19 (.not (.t 18))⟩] false [.forget [18]]
abbrev zJY : HCode := .reg [⟨none, .val 20 (.bld [] [])⟩,
  ⟨none, .val 21 (.mki zBG (.t 20))⟩,
  ⟨none, .pan (.t 21)⟩] false [.forget [20, 21]]
abbrev zJZ : HCode := .reg [⟨none, .val 22 (.mv (.t 0))⟩,
  ⟨none, .val 23 (.mv (.t 6))⟩,
  ⟨none, .val 24 (.nilck (.t 22))⟩,
  ⟨none, .val 25 (.fldP (.t 24) 0)⟩,
  ⟨none, .sto (.t 25) 0 27 0 1 (.t 23)⟩] false [.forget [22, 23, 24, 25]]
abbrev zJ0 : HCode := .reg [⟨none, .val 26 (.mv (.t 5))⟩,
  ⟨none, .val 4 (.mv (.t 26))⟩] false [.forget [26]]
abbrev zSm : HCode := (.seq zJV (.seq zJW (.seq (.seq zJX (.cond (.t 19) zJY .skip)) (.seq zJZ (.seq zJ0 .ret)))))
abbrev zCf : Env := { N := 27, Γ := [(27, 1)], L := 28, nfix := 1 }
abbrev zNH : List RSrc := [.tmp 4]
theorem zF1 {base : Nat} {av : List AV} {r : RV} (hfo : zAC zCf base av) (hW : AVs.fits av → hwp Tryz.prog zSm (zCj zCf base av zNH r) (F0 zCf base av)) (hov : ∀ x, r.res = .ov x → zB5 av = 0 := by intro x h; cases h <;> rfl) : Contract Tryz.prog zBW av r :=
 contract_of_wp (fn := Tryz.f252) (c := Tryz.f252.body.getD .skip) (by kernel_rfl) (by kernel_rfl) (by kernel_rfl) (by kernel_rfl) (by kernel_rfl) (by kernel_rfl) (by kernel_rfl) hfo hW hov
abbrev zGZ : HCode := .reg [⟨none, .val 2 (.mv (.c (sv [])))⟩] false []
abbrev zG0 : HCode := .drg [⟨0, false, ⟨none, .val 5 (.mv (.t 0))⟩⟩,
  ⟨1, false, ⟨none, .val 6 (.nilck (.t 5))⟩⟩,
  ⟨2, false, ⟨none, .val 7 (.fldP (.t 6) 0)⟩⟩,
  ⟨3, false, ⟨none, .val 8 (.ldB (.t 7) 0 33 0 1 false)⟩⟩,
  ⟨4, false, ⟨none, .val 9 (.len true (.t 8))⟩⟩,
  ⟨5, false, ⟨none, .val 10 (.mv (.t 0))⟩⟩,
  ⟨6, false, ⟨none, .val 11 (.nilck (.t 10))⟩⟩,
  ⟨7, false, ⟨none, .val 12 (.fldP (.t 11) 0)⟩⟩,
  ⟨8, false, ⟨none, .val 13 (.ldB (.t 12) 0 33 0 1 false)⟩⟩,
  ⟨9, true, ⟨none, .call (some 14) zCO [(.t 13, .v), (.c (sv [97, 98, 99, 100, 101, 102, 103, 104, 105, 106, 107, 108, 109, 110, 111, 112, 113, 114, 115, 116, 117, 118, 119, 120, 121, 122, 48, 49, 50, 51, 52, 53, 54, 55, 56, 57, 45]), .v)]⟩⟩,
  ⟨10, false, ⟨none, .val 15 (.len true (.t 14))⟩⟩,
  ⟨11, false, ⟨none, .val 16 (.ints .sub (.t 9) (.t 15))⟩⟩,
  ⟨12, false, ⟨none, .val 3 (.mv (.t 16))⟩⟩] [.forget [5, 6, 7, 8, 9, 10, 11, 12, 13, 14, 15, 16]]
abbrev zG1 : HCode := .reg [⟨none, .val 17 (.mv (.t 0))⟩,
  ⟨none, .val 18 (.nilck (.t 17))⟩,
  ⟨none, .val 19 (.fldP (.t 18) 0)⟩,
  ⟨none, .val 20 (.ldB (.t 19) 0 33 0 1 false)⟩,
  ⟨none, .val 21 (.mv (.t 3))⟩,
  ⟨none, .val 22 (.sls (.t 20) none (some (.t 21)))⟩,
  ⟨none, .val 4 (.mv (.t 22))⟩] false [.forget [17, 18, 19, 20, 21, 22]]
abbrev zG2 : HCode := .reg [⟨none, .val 23 (.mv (.t 0))⟩,
  ⟨none, .val 24 (.mv (.t 0))⟩,
  ⟨none, .val 25 (.nilck (.t 24))⟩,
  ⟨none, .val 26 (.fldP (.t 25) 0)⟩,
  ⟨none, .val 27 (.ldB (.t 26) 0 33 0 1 false)⟩,
  ⟨none, .val 28 (.mv (.t 3))⟩,
  ⟨none, .val 29 (.sls (.t 27) (some (.t 28)) none)⟩,
  ⟨none, .val 30 (.nilck (.t 23))⟩,
  ⟨none, .val 31 (.fldP (.t 30) 0)⟩,
  ⟨none, .sto (.t 31) 0 33 0 1 (.t 29)⟩] false [.forget [23, 24, 25, 26, 27, 28, 29, 30, 31]]
abbrev zG3 : HCode := .reg [⟨none, .val 32 (.mv (.t 4))⟩,
  ⟨none, .val 2 (.mv (.t 32))⟩] false [.forget [32]]
abbrev zJ1 : HCode := (.seq zGZ (.seq zG0 (.seq zG1 (.seq zG2 (.seq zG3 .ret)))))
abbrev zB8 : Env := { N := 33, Γ := [(33, 1)], L := 34, nfix := 1 }
abbrev zHJ : List RSrc := [.tmp 2]
theorem zG4 {base : Nat} {av : List AV} {r : RV} (hfo : zAC zB8 base av) (hW : AVs.fits av → hwp Tryz.prog zJ1 (zCj zB8 base av zHJ r) (F0 zB8 base av)) (hov : ∀ x, r.res = .ov x → zB5 av = 0 := by intro x h; cases h <;> rfl) : Contract Tryz.prog zAU av r :=
 contract_of_wp (fn := Tryz.f214) (c := Tryz.f214.body.getD .skip) (by kernel_rfl) (by kernel_rfl) (by kernel_rfl) (by kernel_rfl) (by kernel_rfl) (by kernel_rfl) (by kernel_rfl) hfo hW hov
abbrev zUy : HCode := .reg [⟨none, .val 2 (.mv (.c (sv [])))⟩] false []
abbrev zUz : HCode := .reg [⟨none, .val 3 (.bld [.v (mkS []), .v (mkS []), .v (mkS []), .v (mkS []), .v (mkS [])] [(0, 1, .c (sv [61])), (1, 1, .c (sv [94, 61])), (2, 1, .c (sv [36, 61])), (3, 1, .c (sv [42, 61])), (4, 1, .c (sv [126, 61]))])⟩,
  ⟨none, .val 4 (.mv (.t 0))⟩,
  ⟨none, .val 5 (.ints .sub (.t 4) (.c (iv 4)))⟩,
  ⟨none, .val 6 (.idxV 5 (.t 3) (.t 5))⟩,
  ⟨none, .val 2 (.mv (.t 6))⟩] false [.forget [3, 4, 5, 6]]
abbrev yAj : HCode := (.seq zUy (.seq zUz .ret))
abbrev zFN : Env := { N := 7, Γ := [], L := 7, nfix := 0 }
abbrev zW1 : List RSrc := [.tmp 2]
theorem zUA {base : Nat} {av : List AV} {r : RV} (hfo : zAC zFN base av) (hW : AVs.fits av → hwp Tryz.prog yAj (zCj zFN base av zW1 r) (F0 zFN base av)) (hov : ∀ x, r.res = .ov x → zB5 av = 0 := by intro x h; cases h <;> rfl) : Contract Tryz.prog zER av r :=
 contract_of_wp (fn := Tryz.f209) (c := Tryz.f209.body.getD .skip) (by kernel_rfl) (by kernel_rfl) (by kernel_rfl) (by kernel_rfl) (by kernel_rfl) (by kernel_rfl) (by kernel_rfl) hfo hW hov
abbrev zSn : HCode := .reg [⟨none, .alloc 0 0 2 [.v (mkS []), .v (mkS []), .v (mkS []), .v (mkS []), .v (mkS [])]⟩] false []
abbrev zSo : HCode := .reg [⟨none, .val 1 (.bld [.v (mkS []), .v (mkS []), .v (mkS []), .v (mkS []), .v (mkS [])] [(0, 1, .c (sv [])), (1, 1, .c (sv [32])), (2, 1, .c (sv [32, 62, 32])), (3, 1, .c (sv [32, 43, 32])), (4, 1, .c (sv [32, 126, 32]))])⟩,
  ⟨none, .sto (.t 0) 0 2 0 5 (.t 1)⟩] false [.forget [1]]
abbrev zY8 : HCode := (.seq zSn (.seq zSo .ret))
abbrev zET : Env := { N := 2, Γ := [(2, 5)], L := 7, nfix := 0 }
abbrev zUB : List RSrc := [.cellB 0 0 2 0 5 true]
theorem zSp {base : Nat} {av : List AV} {r : RV} (hfo : zAC zET base av) (hW : AVs.fits av → hwp Tryz.prog zY8 (zCj zET base av zUB r) (F0 zET base av)) (hov : ∀ x, r.res = .ov x → zB5 av = 0 := by intro x h; cases h <;> rfl) : Contract Tryz.prog zEa av r :=
 contract_of_wp (fn := Tryz.f154) (c := Tryz.f154.body.getD .skip) (by kernel_rfl) (by kernel_rfl) (by kernel_rfl) (by kernel_rfl) (by kernel_rfl) (by kernel_rfl) (by kernel_rfl) hfo hW hov
abbrev zPU : HCode := .reg [⟨none, .val 2 (.mv (.c (sv [])))⟩] false []
abbrev zPV : HCode := .reg [⟨none, .val 3 (.mv (.t 0))⟩] false []
abbrev zPW : HCode := .reg [⟨none, .val 5 (.ints .eql (.t 3) (.c (iv 9)))⟩,
  ⟨none, .val 4 (.mv (.t 5))⟩] false [.forget [5]]
abbrev zPX : HCode := .reg [⟨none, .val 2 (.mv (.c (sv [58, 110, 116, 104, 40])))⟩] false []
abbrev zPY : HCode := .reg [⟨none, .val 7 (.ints .eql (.t 3) (.c (iv 10)))⟩,
  ⟨none, .val 6 (.mv (.t 7))⟩] false [.forget [7]]
abbrev zPZ : HCode := .reg [⟨none, .val 2 (.mv (.c (sv [58, 108, 97, 115, 116, 40])))⟩] false []
abbrev zP0 : HCode := .reg [⟨none, .val 9 (.ints .eql (.t 3) (.c (iv 13)))⟩,
  ⟨none, .val 8 (.mv (.t 9))⟩] false [.forget [9]]
abbrev zP1 : HCode := .reg [⟨none, .val 2 (.mv (.c (sv [58, 110, 111, 116, 40])))⟩] false []
abbrev zP2 : HCode := .reg [⟨none, .val 11 (.ints .eql (.t 3) (.c (iv 14)))⟩,
  ⟨none, .val 10 (.mv (.t 11))⟩] false [.forget [11]]
abbrev zP3 : HCode := .reg [⟨none, .val 2 (.mv (.c (sv [58, 105, 115, 40])))⟩] false []
abbrev zNI : HCode := .reg [⟨none, .val 2 (.mv (.c (sv [58, 104, 97, 115, 40])))⟩] false []
abbrev zW2 : HCode := (.seq zPU (.seq (.seq zPV (.block 0 (.seq zPW (.cond (.t 4) (.seq zPX .ret) (.seq zPY (.cond (.t 6) (.seq zPZ .ret) (.seq zP0 (.cond (.t 8) (.seq zP1 .ret) (.seq zP2 (.cond (.t 10) (.seq zP3 .ret) .skip)))))))))) (.seq zNI .ret)))
abbrev zBB : Env := { N := 12, Γ := [], L := 12, nfix := 0 }
abbrev zSq : List RSrc := [.tmp 2]
theorem zCA {base : Nat} {av : List AV} {r : RV} (hfo : zAC zBB base av) (hW : AVs.fits av → hwp Tryz.prog zW2 (zCj zBB base av zSq r) (F0 zBB base av)) (hov : ∀ x, r.res = .ov x → zB5 av = 0 := by intro x h; cases h <;> rfl) : Contract Tryz.prog zDz av r :=
 contract_of_wp (fn := Tryz.f208) (c := Tryz.f208.body.getD .skip) (by kernel_rfl) (by kernel_rfl) (by kernel_rfl) (by kernel_rfl) (by kernel_rfl) (by kernel_rfl) (by kernel_rfl) hfo hW hov
abbrev zJ2 : HCode := .reg [⟨none, .alloc 2 1 26 [.v (.int .i64 0), .v (mkS []), .v (mkS []), .v (.int .i64 0), .v (.int .i64 0), .nl 2]⟩] false []
abbrev zJ3 : HCode := .reg [⟨none, .val 5 (.mv (.t 0))⟩,
  ⟨none, .call (some 6) zAU [(.t 5, .i 0 25 1)]⟩,
  ⟨none, .val 7 (.bld [.v (.int .i64 0), .v (mkS []), .v (mkS []), .v (.int .i64 0), .v (.int .i64 0), .nl 2] [(0, 1, .c (iv 3)), (1, 1, .t 6)])⟩,
  ⟨none, .alloc 3 2 32 [.v (.int .i64 0), .v (mkS []), .v (mkS []), .v (.int .i64 0), .v (.int .i64 0), .nl 2]⟩,
  ⟨none, .sto (.t 3) 2 32 0 6 (.t 7)⟩] false [.forget [5, 6, 7]]
abbrev zJ4 : HCode := .reg [⟨none, .val 4 (.mv (.c (iv 4)))⟩] false []
abbrev zJ5 : HCode := .reg [⟨none, .val 8 (.mv (.t 4))⟩,
  ⟨none, .val 9 (.ints .leq (.t 8) (.c (iv 8)))⟩] false [.forget [8]]
abbrev zJ6 : HCode := .reg [⟨none, .val 12 (.mv (.t 0))⟩,
  ⟨none, .val 13 (.mv (.t 4))⟩,
  ⟨none, .call (some 14) zER [(.t 13, .v)]⟩,
  ⟨none, .val 15 (.strs .add (.t 14) (.c (sv [34])))⟩,
  ⟨none, .call (some 16) zAT [(.t 12, .i 0 25 1), (.t 15, .v)]⟩] false [.forget [12, 13, 14, 15]]
abbrev zJ7 : HCode := .reg [⟨none, .val 17 (.mv (.t 4))⟩,
  ⟨none, .val 18 (.mv (.t 0))⟩,
  ⟨none, .call (some 19) zBW [(.t 18, .i 0 25 1), (.c (sv [34]), .v)]⟩,
  ⟨none, .val 20 (.fldP (.t 3) 0)⟩,
  ⟨none, .sto (.t 20) 2 32 0 1 (.t 17)⟩,
  ⟨none, .val 21 (.fldP (.t 3) 2)⟩,
  ⟨none, .sto (.t 21) 2 32 2 1 (.t 19)⟩] false [.forget [17, 18, 19, 20, 21]]
abbrev zJ8 : HCode := .reg [⟨none, .val 10 (.mv (.t 4))⟩,
  ⟨none, .val 11 (.ints .add (.t 10) (.c (iv 1)))⟩,
  ⟨none, .val 4 (.mv (.t 11))⟩] false [.forget [10, 11]]
abbrev zJ9 : HCode := .reg [⟨none, .val 22 (.mv (.t 0))⟩,
  ⟨none, .call (some 23) zBc [(.t 22, .i 0 25 1), (.c (sv [93]), .v)]⟩] false [.forget [22, 23]]
abbrev zKa : HCode := .reg [⟨none, .val 24 (.ldB (.t 3) 2 32 0 6 true)⟩,
  ⟨none, .sto (.t 2) 1 26 0 6 (.t 24)⟩] false [.forget [24]]
abbrev zSr : HCode := (.seq zJ2 (.seq zJ3 (.seq (.seq zJ4 (.block 0 (.loop (.seq (.seq zJ5 (.cond (.t 9) .skip (.exit 0))) (.seq (.block 1 (.seq zJ6 (.cond (.t 16) (.seq zJ7 (.exit 0)) .skip))) zJ8))))) (.seq zJ9 (.seq zKa .ret)))))
abbrev zC7 : Env := { N := 25, Γ := [(25, 1), (26, 6), (32, 6)], L := 38, nfix := 1 }
abbrev zNJ : List RSrc := [.cellB 2 1 26 0 6 true]
theorem zKb {base : Nat} {av : List AV} {r : RV} (hfo : zAC zC7 base av) (hW : AVs.fits av → hwp Tryz.prog zSr (zCj zC7 base av zNJ r) (F0 zC7 base av)) (hov : ∀ x, r.res = .ov x → zB5 av = 0 := by intro x h; cases h <;> rfl) : Contract Tryz.prog zDR av r :=
 contract_of_wp (fn := Tryz.f250) (c := Tryz.f250.body.getD .skip) (by kernel_rfl) (by kernel_rfl) (by kernel_rfl) (by kernel_rfl) (by kernel_rfl) (by kernel_rfl) (by kernel_rfl) hfo hW hov
abbrev zKc : HCode := .reg [⟨none, .alloc 4 1 88 [.v (.int .i64 0), .v (mkS []), .v (mkS []), .v (.int .i64 0), .v (.int .i64 0), .nl 2]⟩,
  ⟨none, .val 5 (.mv (.c (bv false)))⟩] false []
abbrev zKd : HCode := .reg [⟨none, .val 14 (.mv (.t 0))⟩,
  ⟨none, .call (some 15) zAT [(.t 14, .i 0 87 1), (.c (sv [46]), .v)]⟩,
  ⟨none, .val 13 (.mv (.t 15))⟩] false [.forget [14, 15]]
abbrev zKe : HCode := .reg [⟨none, .val 16 (.mv (.t 0))⟩,
  ⟨none, .call (some 17) zAU [(.t 16, .i 0 87 1)]⟩,
  ⟨none, .val 18 (.bld [.v (.int .i64 0), .v (mkS []), .v (mkS []), .v (.int .i64 0), .v (.int .i64 0), .nl 2] [(0, 1, .c (iv 1)), (1, 1, .t 17)])⟩,
  ⟨none, .sto (.t 4) 1 88 0 6 (.t 18)⟩,
  ⟨none, .val 5 (.mv (.c (bv true)))⟩] false [.forget [16, 17, 18]]
abbrev zKf : HCode := .reg [⟨none, .val 20 (.mv (.t 0))⟩,
  ⟨none, .call (some 21) zAT [(.t 20, .i 0 87 1), (.c (sv [35]), .v)]⟩,
  ⟨none, .val 19 (.mv (.t 21))⟩] false [.forget [20, 21]]
abbrev zKg : HCode := .reg [⟨none, .val 22 (.mv (.t 0))⟩,
  ⟨none, .call (some 23) zAU [(.t 22, .i 0 87 1)]⟩,
  ⟨none, .val 24 (.bld [.v (.int .i64 0), .v (mkS []), .v (mkS []), .v (.int .i64 0), .v (.int .i64 0), .nl 2] [(0, 1, .c (iv 2)), (1, 1, .t 23)])⟩,
  ⟨none, .sto (.t 4) 1 88 0 6 (.t 24)⟩,
  ⟨none, .val 5 (.mv (.c (bv true)))⟩] false [.forget [22, 23, 24]]
abbrev zKh : HCode := .reg [⟨none, .val 26 (.mv (.t 0))⟩,
  ⟨none, .call (some 27) zAT [(.t 26, .i 0 87 1), (.c (sv [91]), .v)]⟩,
  ⟨none, .val 25 (.mv (.t 27))⟩] false [.forget [26, 27]]
abbrev zKi : HCode := .reg [⟨none, .val 28 (.mv (.t 0))⟩,
  ⟨none, .call (some 29) zDR [(.t 28, .i 0 87 1)]⟩,
  ⟨none, .sto (.t 4) 1 88 0 6 (.t 29)⟩,
  ⟨none, .val 5 (.mv (.c (bv true)))⟩] false [.forget [28, 29]]
abbrev zKj : HCode := .reg [⟨none, .val 31 (.mv (.t 0))⟩,
  ⟨none, .call (some 32) zAT [(.t 31, .i 0 87 1), (.c (sv [58]), .v)]⟩,
  ⟨none, .val 33 (.not (.t 32))⟩,
  ⟨none, .val 30 (.mv (.t 33))⟩] false [.forget [31, 32, 33]]
abbrev zKk : HCode := .reg [⟨none, .val 34 (.bld [.v (.int .i64 0), .v (mkS []), .v (mkS []), .v (.int .i64 0), .v (.int .i64 0), .nl 2] [])⟩,
  ⟨none, .sto (.t 4) 1 88 0 6 (.t 34)⟩,
  ⟨none, .val 5 (.mv (.c (bv false)))⟩] false [.forget [34]]
abbrev zKl : HCode := .reg [⟨none, .val 35 (.mv (.t 0))⟩,
  ⟨none, .call (some 36) zAU [(.t 35, .i 0 87 1)]⟩,
  ⟨none, .val 6 (.mv (.t 36))⟩] false [.forget [35, 36]]
abbrev zIJ : HCode := .reg [⟨none, .mmk 38⟩,
  ⟨none, .mps (.t 38) 38 2 (.c (sv [101, 109, 112, 116, 121])) (.c (iv 11))⟩,
  ⟨none, .mps (.t 38) 38 2 (.c (sv [114, 111, 111, 116])) (.c (iv 12))⟩,
  ⟨none, .val 39 (.mv (.t 38))⟩,
  ⟨none, .val 40 (.mv (.t 6))⟩,
  ⟨none, .mpl 41 (.t 39) 38 2 (.t 40) (.v (.int .i64 0)) true⟩,
  ⟨none, .val 37 (.mv (.t 41))⟩,
  ⟨none, .val 42 (.ext 37 0)⟩,
  ⟨none, .val 43 (.ext 37 1)⟩,
  ⟨none, .val 7 (.mv (.t 42))⟩,
  ⟨none, .val 8 (.mv (.t 43))⟩] false [.forget [37, 38, 39, 40, 41, 42, 43]]
abbrev zIK : HCode := .reg [⟨none, .val 44 (.mv (.t 8))⟩] false []
abbrev zIL : HCode := .reg [⟨none, .val 45 (.mv (.t 7))⟩,
  ⟨none, .val 46 (.bld [.v (.int .i64 0), .v (mkS []), .v (mkS []), .v (.int .i64 0), .v (.int .i64 0), .nl 2] [(0, 1, .t 45)])⟩,
  ⟨none, .sto (.t 4) 1 88 0 6 (.t 46)⟩,
  ⟨none, .val 5 (.mv (.c (bv true)))⟩] false [.forget [45, 46]]
abbrev zIM : HCode := .reg [⟨none, .val 47 (.mv (.t 0))⟩,
  ⟨none, .call (some 48) zBc [(.t 47, .i 0 87 1), (.c (sv [40]), .v)]⟩] false [.forget [47, 48]]
abbrev zIN : HCode := .reg [⟨none, .mmk 49⟩,
  ⟨none, .mps (.t 49) 49 2 (.c (sv [110, 116, 104])) (.c (iv 9))⟩,
  ⟨none, .mps (.t 49) 49 2 (.c (sv [108, 97, 115, 116])) (.c (iv 10))⟩,
  ⟨none, .mps (.t 49) 49 2 (.c (sv [110, 111, 116])) (.c (iv 13))⟩,
  ⟨none, .mps (.t 49) 49 2 (.c (sv [105, 115])) (.c (iv 14))⟩,
  ⟨none, .mps (.t 49) 49 2 (.c (sv [104, 97, 115])) (.c (iv 15))⟩,
  ⟨none, .val 50 (.mv (.t 49))⟩,
  ⟨none, .val 51 (.mv (.t 6))⟩,
  ⟨none, .mpl 52 (.t 50) 49 2 (.t 51) (.v (.int .i64 0)) false⟩,
  ⟨none, .val 53 (.bld [.v (.int .i64 0), .v (mkS []), .v (mkS []), .v (.int .i64 0), .v (.int .i64 0), .nl 2] [(0, 1, .t 52)])⟩,
  ⟨none, .alloc 9 2 94 [.v (.int .i64 0), .v (mkS []), .v (mkS []), .v (.int .i64 0), .v (.int .i64 0), .nl 2]⟩,
  ⟨none, .sto (.t 9) 2 94 0 6 (.t 53)⟩] false [.forget [49, 50, 51, 52, 53]]
abbrev zIO : HCode := .reg [⟨none, .val 55 (.fldP (.t 9) 0)⟩,
  ⟨none, .val 56 (.ldB (.t 55) 2 94 0 1 false)⟩,
  ⟨none, .call (some 57) zGC [(.t 56, .v)]⟩,
  ⟨none, .val 54 (.mv (.t 57))⟩,
  ⟨none, .val 58 (.ext 54 0)⟩,
  ⟨none, .val 59 (.ext 54 1)⟩,
  ⟨none, .alloc 10 3 100 [.v (.bool false), .v (.bool false), .v (.bool false), .v (.bool false)]⟩,
  ⟨none, .sto (.t 10) 3 100 0 4 (.t 58)⟩,
  ⟨none, .val 11 (.mv (.t 59))⟩] false [.forget [54, 55, 56, 57, 58, 59]]
abbrev zIP : HCode := .reg [⟨none, .val 72 (.mv (.t 11))⟩,
  ⟨none, .val 73 (.not (.t 72))⟩,
  ⟨none, .val 71 (.mv (.t 73))⟩] false [.forget [72, 73]]
abbrev zIQ : HCode := .reg [⟨none, .val 74 (.bld [] [])⟩,
  ⟨none, .val 75 (.mki zBG (.t 74))⟩,
  ⟨none, .pan (.t 75)⟩] false [.forget [74, 75]]
abbrev zIR : HCode := .reg [⟨none, .val 77 (.fldP (.t 10) 3)⟩,
  ⟨none, .val 78 (.ldB (.t 77) 3 100 3 1 false)⟩,
  ⟨none, .val 76 (.mv (.t 78))⟩] false [.forget [77, 78]]
abbrev zIS : HCode := .reg [⟨none, .val 79 (.mv (.t 0))⟩,
  ⟨none, .val 80 (.mv (.t 1))⟩,
  ⟨none, .val 81 (.ints .add (.t 80) (.c (iv 1)))⟩,
  ⟨none, .call (some 82) zBb [(.t 79, .i 0 87 1), (.t 81, .v)]⟩,
  ⟨none, .val 83 (.fldP (.t 9) 5)⟩,
  ⟨none, .sto (.t 83) 2 94 5 1 (.t 82)⟩] false [.forget [79, 80, 81, 82, 83]]
abbrev zIT : HCode := .reg [⟨none, .val 84 (.mv (.t 0))⟩,
  ⟨none, .call (some 85) zBc [(.t 84, .i 0 87 1), (.c (sv [41]), .v)]⟩] false [.forget [84, 85]]
abbrev zIU : HCode := .reg [⟨none, .val 12 (.mv (.c (iv 0)))⟩] false []
abbrev zIV : HCode := .reg [⟨none, .val 61 (.mv (.t 0))⟩,
  ⟨none, .call (some 62) zBW [(.t 61, .i 0 87 1), (.c (sv [41]), .v)]⟩,
  ⟨none, .call (some 63) zGY [(.t 62, .v)]⟩,
  ⟨none, .val 60 (.mv (.t 63))⟩,
  ⟨none, .val 64 (.ext 60 0)⟩,
  ⟨none, .val 65 (.ext 60 1)⟩,
  ⟨none, .val 66 (.fldP (.t 9) 3)⟩,
  ⟨none, .sto (.t 66) 2 94 3 2 (.t 64)⟩,
  ⟨none, .val 12 (.mv (.t 65))⟩] false [.forget [60, 61, 62, 63, 64, 65, 66]]
abbrev zIW : HCode := .reg [⟨none, .val 67 (.mv (.t 12))⟩,
  ⟨none, .val 68 (.ints .neq (.t 67) (.c (iv 0)))⟩] false [.forget [67]]
abbrev zIX : HCode := .reg [⟨none, .val 69 (.bld [] [])⟩,
  ⟨none, .val 70 (.mki zBG (.t 69))⟩,
  ⟨none, .pan (.t 70)⟩] false [.forget [69, 70]]
abbrev zIY : HCode := .reg [⟨none, .val 86 (.ldB (.t 9) 2 94 0 6 true)⟩,
  ⟨none, .sto (.t 4) 1 88 0 6 (.t 86)⟩,
  ⟨none, .val 5 (.mv (.c (bv true)))⟩] false [.forget [86]]
abbrev zSs : HCode := (.seq zKc (.seq (.block 0 (.seq zKd (.cond (.t 13) (.seq zKe .ret) (.seq zKf (.cond (.t 19) (.seq zKg .ret) (.seq zKh (.cond (.t 25) (.seq zKi .ret) (.seq zKj (.cond (.t 30) (.seq zKk .ret) .skip))))))))) (.seq zKl (.seq (.seq zIJ (.seq zIK (.cond (.t 44) (.seq zIL .ret) .skip))) (.seq zIM (.seq zIN (.seq zIO (.seq (.block 1 (.seq zIP (.cond (.t 71) zIQ (.seq zIR (.cond (.t 76) (.seq zIS zIT) (.seq zIU (.seq zIV (.seq zIW (.cond (.t 68) zIX .skip))))))))) (.seq zIY .ret)))))))))
abbrev zC8 : Env := { N := 87, Γ := [(87, 1), (88, 6), (94, 6), (100, 4)], L := 104, nfix := 1 }
abbrev zNK : List RSrc := [.cellB 4 1 88 0 6 true, .tmp 5]
theorem zKm {base : Nat} {av : List AV} {r : RV} (hfo : zAC zC8 base av) (hW : AVs.fits av → hwp Tryz.prog zSs (zCj zC8 base av zNK r) (F0 zC8 base av)) (hov : ∀ x, r.res = .ov x → zB5 av = 0 := by intro x h; cases h <;> rfl) : Contract Tryz.prog zBV av r :=
 contract_of_wp (fn := Tryz.f216) (c := Tryz.f216.body.getD .skip) (by kernel_rfl) (by kernel_rfl) (by kernel_rfl) (by kernel_rfl) (by kernel_rfl) (by kernel_rfl) (by kernel_rfl) hfo hW hov
abbrev zKn : HCode := .reg [⟨none, .alloc 4 1 32 [.v (mkS []), .nl 6]⟩] false []
abbrev zKo : HCode := .reg [⟨none, .val 8 (.mv (.t 0))⟩,
  ⟨none, .call (some 9) zAU [(.t 8, .i 0 31 1)]⟩,
  ⟨none, .val 10 (.bld [.v (mkS []), .nl 6] [(0, 1, .t 9)])⟩,
  ⟨none, .alloc 5 2 34 [.v (mkS []), .nl 6]⟩,
  ⟨none, .sto (.t 5) 2 34 0 2 (.t 10)⟩] false [.forget [8, 9, 10]]
abbrev zKp : HCode := .reg [⟨none, .val 11 (.fldP (.t 5) 0)⟩,
  ⟨none, .val 12 (.ldB (.t 11) 2 34 0 1 false)⟩,
  ⟨none, .val 13 (.strs .eql (.t 12) (.c (sv [])))⟩] false [.forget [11, 12]]
abbrev zKq : HCode := .reg [⟨none, .val 14 (.mv (.t 0))⟩,
  ⟨none, .call (some 15) zBc [(.t 14, .i 0 31 1), (.c (sv [42]), .v)]⟩] false [.forget [14, 15]]
abbrev zKr : HCode := .reg [⟨none, .val 17 (.mv (.t 0))⟩,
  ⟨none, .val 18 (.mv (.t 1))⟩,
  ⟨none, .call (some 19) zBV [(.t 17, .i 0 31 1), (.t 18, .v)]⟩,
  ⟨none, .val 16 (.mv (.t 19))⟩,
  ⟨none, .val 20 (.ext 16 0)⟩,
  ⟨none, .val 21 (.ext 16 1)⟩,
  ⟨none, .alloc 6 3 36 [.v (.int .i64 0), .v (mkS []), .v (mkS []), .v (.int .i64 0), .v (.int .i64 0), .nl 2]⟩,
  ⟨none, .sto (.t 6) 3 36 0 6 (.t 20)⟩,
  ⟨none, .val 7 (.mv (.t 21))⟩] false [.forget [16, 17, 18, 19, 20, 21]]
abbrev zKs : HCode := .reg [⟨none, .val 22 (.mv (.t 7))⟩,
  ⟨none, .val 23 (.not (.t 22))⟩] false [.forget [22]]
abbrev zKt : HCode := .reg [⟨none, .val 24 (.ldB (.t 5) 2 34 0 2 true)⟩,
  ⟨none, .sto (.t 4) 1 32 0 2 (.t 24)⟩] false [.forget [24]]
abbrev zKu : HCode := .reg [⟨none, .val 25 (.fldP (.t 5) 1)⟩,
  ⟨none, .ldo 26 (.t 25) 2 34 1 zFL 6⟩,
  ⟨none, .val 27 (.ldB (.t 6) 3 36 0 6 true)⟩,
  ⟨none, .val 28 (.bslF 6 [.t 27])⟩,
  ⟨none, .app 29 zFL 6 (.t 26) (.t 28)⟩,
  ⟨none, .val 30 (.fldP (.t 5) 1)⟩,
  ⟨none, .stw (.t 30) 2 34 1 29⟩] false [.forget [25, 26, 27, 28, 29, 30]]
abbrev zSt : HCode := (.seq zKn (.seq zKo (.seq (.seq zKp (.cond (.t 13) zKq .skip)) (.block 0 (.loop (.block 1 (.seq zKr (.seq (.seq zKs (.cond (.t 23) (.seq zKt .ret) .skip)) zKu))))))))
abbrev zC9 : Env := { N := 31, Γ := [(31, 1), (32, 2), (34, 2), (36, 6)], L := 42, nfix := 1 }
abbrev zNL : List RSrc := [.cellB 4 1 32 0 2 true]
theorem zKv {base : Nat} {av : List AV} {r : RV} (hfo : zAC zC9 base av) (hW : AVs.fits av → hwp Tryz.prog zSt (zCj zC9 base av zNL r) (F0 zC9 base av)) (hov : ∀ x, r.res = .ov x → zB5 av = 0 := by intro x h; cases h <;> rfl) : Contract Tryz.prog zBx av r :=
 contract_of_wp (fn := Tryz.f159) (c := Tryz.f159.body.getD .skip) (by kernel_rfl) (by kernel_rfl) (by kernel_rfl) (by kernel_rfl) (by kernel_rfl) (by kernel_rfl) (by kernel_rfl) hfo hW hov
abbrev zKw : HCode := .reg [⟨none, .nlo 4 zCd 2⟩] false []
abbrev zKx : HCode := .reg [⟨none, .val 9 (.mv (.t 1))⟩,
  ⟨none, .val 10 (.ints .gtr (.t 9) (.c (iv 3)))⟩] false [.forget [9]]
abbrev zKy : HCode := .reg [⟨none, .val 11 (.bld [] [])⟩,
  ⟨none, .val 12 (.mki zBG (.t 11))⟩,
  ⟨none, .pan (.t 12)⟩] false [.forget [11, 12]]
abbrev zKz : HCode := .reg [⟨none, .nlo 5 zCd 2⟩] false []
abbrev zKA : HCode := .reg [⟨none, .val 13 (.mv (.t 0))⟩,
  ⟨none, .val 14 (.mv (.t 1))⟩,
  ⟨none, .call (some 15) zBx [(.t 13, .i 0 50 1), (.t 14, .v)]⟩,
  ⟨none, .vbp 16 zFK 2 (.t 15)⟩,
  ⟨none, .vbd 17 [.nl 2, .nl 1] 0 1 (.t 16)⟩,
  ⟨none, .alloc 6 1 51 [.nl 2, .nl 1]⟩,
  ⟨none, .vst (.t 6) 1 51 0 2 17⟩] false [.forget [13, 14, 15, 16, 17]]
abbrev zKB : HCode := .reg [⟨none, .val 18 (.bld [.v (.int .i64 0), .v (.int .i64 0), .v (.int .i64 0), .v (.int .i64 0)] [(0, 1, .c (iv 2)), (1, 1, .c (iv 3)), (2, 1, .c (iv 4)), (3, 1, .c (iv 1))])⟩,
  ⟨none, .val 19 (.mv (.c (iv 0)))⟩] false []
abbrev zKC : HCode := .reg [⟨none, .val 20 (.ints .lss (.t 19) (.c (iv 4)))⟩] false []
abbrev zKD : HCode := .reg [⟨none, .val 21 (.idxV 4 (.t 18) (.t 19))⟩,
  ⟨none, .val 8 (.mv (.t 21))⟩] false [.forget [21]]
abbrev zKE : HCode := .reg [⟨none, .val 22 (.mv (.t 0))⟩,
  ⟨none, .call (some 23) zEa []⟩,
  ⟨none, .val 24 (.mv (.t 8))⟩,
  ⟨none, .val 25 (.idxV 5 (.t 23) (.t 24))⟩,
  ⟨none, .call (some 26) zAT [(.t 22, .i 0 50 1), (.t 25, .v)]⟩] false [.forget [22, 23, 24, 25]]
abbrev zKF : HCode := .reg [⟨none, .val 27 (.fldP (.t 6) 1)⟩,
  ⟨none, .ldo 28 (.t 27) 1 51 1 zXZ 1⟩,
  ⟨none, .val 29 (.mv (.t 8))⟩,
  ⟨none, .val 30 (.bslF 1 [.t 29])⟩,
  ⟨none, .app 31 zXZ 1 (.t 28) (.t 30)⟩,
  ⟨none, .val 32 (.fldP (.t 6) 1)⟩,
  ⟨none, .stw (.t 32) 1 51 1 31⟩] false [.forget [27, 28, 29, 30, 31, 32]]
abbrev zIZ : HCode := .drg [⟨0, false, ⟨none, .val 33 (.fldP (.t 6) 0)⟩⟩,
  ⟨1, false, ⟨none, .vld 34 (.t 33) 1 51 0 1 false⟩⟩,
  ⟨2, false, ⟨none, .val 35 (.mv (.t 0))⟩⟩,
  ⟨3, false, ⟨none, .val 36 (.mv (.t 1))⟩⟩,
  ⟨4, true, ⟨none, .call (some 37) zBx [(.t 35, .i 0 50 1), (.t 36, .v)]⟩⟩,
  ⟨5, false, ⟨none, .val 38 (.bslF 2 [.t 37])⟩⟩,
  ⟨6, false, ⟨none, .vap 39 zFK 2 34 (.t 38)⟩⟩,
  ⟨7, false, ⟨none, .val 40 (.fldP (.t 6) 0)⟩⟩,
  ⟨8, false, ⟨none, .vst (.t 40) 1 51 0 1 39⟩⟩] [.forget [33, 34, 35, 36, 37, 38, 39, 40]]
abbrev zI0 : HCode := .reg [⟨none, .val 41 (.ints .add (.t 19) (.c (iv 1)))⟩,
  ⟨none, .val 19 (.mv (.t 41))⟩] false [.forget [41]]
abbrev zI1 : HCode := .regG [.vfr 51 1 51] [⟨none, .mvo 42 5⟩,
  ⟨none, .val 43 (.ldB (.t 6) 1 51 0 2 true)⟩,
  ⟨none, .val 44 (.bslF 2 [.t 43])⟩,
  ⟨none, .app 45 zCd 2 (.t 42) (.t 44)⟩,
  ⟨none, .mvo 5 45⟩] [.forget [42, 43, 44, 45]]
abbrev zI2 : HCode := .reg [⟨none, .val 46 (.mv (.t 0))⟩,
  ⟨none, .call (some 47) zAT [(.t 46, .i 0 50 1), (.c (sv [44, 32]), .v)]⟩,
  ⟨none, .val 48 (.not (.t 47))⟩] false [.forget [46, 47]]
abbrev zI3 : HCode := .reg [⟨none, .mvo 49 5⟩,
  ⟨none, .mvo 4 49⟩] false [.forget [49]]
abbrev zSu : HCode := (.seq zKw (.seq (.seq zKx (.cond (.t 10) zKy .skip)) (.seq zKz (.block 0 (.loop (.block 1 (.scope (.seq zKA (.seq .label (.seq (.block 2 (.loop (.block 3 (.seq (.seq zKB (.block 4 (.loop (.seq zKC (.seq (.cond (.t 20) .skip (.exit 4)) (.seq (.block 5 (.seq zKD (.seq zKE (.cond (.t 26) (.seq zKF (.seq zIZ (.exit 3))) .skip)))) zI0)))))) (.exit 2))))) (.seq zI1 (.seq zI2 (.cond (.t 48) (.seq zI3 .ret) .skip)))))))))))))
abbrev zDa : Env := { N := 50, Γ := [(50, 1), (51, 2)], L := 53, nfix := 1 }
abbrev zNM : List RSrc := [.tmp 4]
theorem zKG {base : Nat} {av : List AV} {r : RV} (hfo : zAC zDa base av) (hW : AVs.fits av → hwp Tryz.prog zSu (zCj zDa base av zNM r) (F0 zDa base av)) (hov : ∀ x, r.res = .ov x → zB5 av = 0 := by intro x h; cases h <;> rfl) : Contract Tryz.prog zBb av r :=
 contract_of_wp (fn := Tryz.f108) (c := Tryz.f108.body.getD .skip) (by kernel_rfl) (by kernel_rfl) (by kernel_rfl) (by kernel_rfl) (by kernel_rfl) (by kernel_rfl) (by kernel_rfl) hfo hW hov
abbrev zUC : HCode := .reg [⟨none, .val 1 (.boxF (.t 0))⟩,
  ⟨none, .val 2 (.mv (.c (sv [])))⟩] false []
abbrev zUD : HCode := .reg [⟨none, .val 5 (.fldR (.t 1) 0 1)⟩,
  ⟨none, .val 6 (.ldR (.t 5) 1 false)⟩] false [.forget [5]]
abbrev zUE : HCode := .reg [⟨none, .val 8 (.ints .eql (.t 6) (.c (iv 1)))⟩,
  ⟨none, .val 7 (.mv (.t 8))⟩] false [.forget [8]]
abbrev zUF : HCode := .reg [⟨none, .val 9 (.fldR (.t 1) 1 1)⟩,
  ⟨none, .val 10 (.ldR (.t 9) 1 false)⟩,
  ⟨none, .val 11 (.strs .add (.c (sv [46])) (.t 10))⟩,
  ⟨none, .val 2 (.mv (.t 11))⟩] false [.forget [9, 10, 11]]
abbrev zUG : HCode := .reg [⟨none, .val 13 (.ints .eql (.t 6) (.c (iv 2)))⟩,
  ⟨none, .val 12 (.mv (.t 13))⟩] false [.forget [13]]
abbrev zUH : HCode := .reg [⟨none, .val 14 (.fldR (.t 1) 1 1)⟩,
  ⟨none, .val 15 (.ldR (.t 14) 1 false)⟩,
  ⟨none, .val 16 (.strs .add (.c (sv [35])) (.t 15))⟩,
  ⟨none, .val 2 (.mv (.t 16))⟩] false [.forget [14, 15, 16]]
abbrev zUI : HCode := .reg [⟨none, .val 18 (.ints .eql (.t 6) (.c (iv 3)))⟩,
  ⟨none, .val 17 (.mv (.t 18))⟩] false [.forget [18]]
abbrev zUJ : HCode := .reg [⟨none, .val 19 (.fldR (.t 1) 1 1)⟩,
  ⟨none, .val 20 (.ldR (.t 19) 1 false)⟩,
  ⟨none, .val 21 (.strs .add (.c (sv [91])) (.t 20))⟩,
  ⟨none, .val 22 (.strs .add (.t 21) (.c (sv [93])))⟩,
  ⟨none, .val 2 (.mv (.t 22))⟩] false [.forget [19, 20, 21, 22]]
abbrev zUK : HCode := .reg [⟨none, .val 24 (.ints .eql (.t 6) (.c (iv 9)))⟩,
  ⟨none, .val 23 (.mv (.t 24))⟩] false [.forget [24]]
abbrev zUL : HCode := .reg [⟨none, .val 25 (.ints .eql (.t 6) (.c (iv 10)))⟩,
  ⟨none, .val 23 (.mv (.t 25))⟩] false [.forget [25]]
abbrev zSv : HCode := .reg [⟨none, .val 27 (.fldR (.t 1) 3 2)⟩,
  ⟨none, .val 28 (.ldR (.t 27) 2 true)⟩,
  ⟨none, .call (some 29) zFF [(.t 28, .v)]⟩,
  ⟨none, .val 26 (.mv (.t 29))⟩,
  ⟨none, .val 30 (.ext 26 0)⟩,
  ⟨none, .val 31 (.ext 26 1)⟩,
  ⟨none, .val 3 (.mv (.t 30))⟩,
  ⟨none, .val 4 (.mv (.t 31))⟩] false [.forget [4, 26, 27, 28, 29, 30, 31]]
abbrev zSw : HCode := .reg [⟨none, .val 32 (.fldR (.t 1) 0 1)⟩,
  ⟨none, .val 33 (.ldR (.t 32) 1 false)⟩,
  ⟨none, .call (some 34) zDz [(.t 33, .v)]⟩,
  ⟨none, .val 35 (.mv (.t 3))⟩,
  ⟨none, .val 36 (.strs .add (.t 34) (.t 35))⟩,
  ⟨none, .val 37 (.strs .add (.t 36) (.c (sv [41])))⟩,
  ⟨none, .val 2 (.mv (.t 37))⟩] false [.forget [32, 33, 34, 35, 36, 37]]
abbrev zSx : HCode := .reg [⟨none, .val 39 (.ints .eql (.t 6) (.c (iv 11)))⟩,
  ⟨none, .val 38 (.mv (.t 39))⟩] false [.forget [39]]
abbrev zSy : HCode := .reg [⟨none, .val 2 (.mv (.c (sv [58, 101, 109, 112, 116, 121])))⟩] false []
abbrev zSz : HCode := .reg [⟨none, .val 41 (.ints .eql (.t 6) (.c (iv 12)))⟩,
  ⟨none, .val 40 (.mv (.t 41))⟩] false [.forget [41]]
abbrev zSA : HCode := .reg [⟨none, .val 2 (.mv (.c (sv [58, 114, 111, 111, 116])))⟩] false []
abbrev zSB : HCode := .reg [⟨none, .val 43 (.ints .eql (.t 6) (.c (iv 13)))⟩,
  ⟨none, .val 42 (.mv (.t 43))⟩] false [.forget [43]]
abbrev zSC : HCode := .reg [⟨none, .val 44 (.ints .eql (.t 6) (.c (iv 14)))⟩,
  ⟨none, .val 42 (.mv (.t 44))⟩] false [.forget [44]]
abbrev zSD : HCode := .reg [⟨none, .val 45 (.ints .eql (.t 6) (.c (iv 15)))⟩,
  ⟨none, .val 42 (.mv (.t 45))⟩] false [.forget [45]]
abbrev zSE : HCode := .drg [⟨0, false, ⟨none, .val 46 (.fldR (.t 1) 0 1)⟩⟩,
  ⟨1, false, ⟨none, .val 47 (.ldR (.t 46) 1 false)⟩⟩,
  ⟨2, false, ⟨none, .call (some 48) zDz [(.t 47, .v)]⟩⟩,
  ⟨3, false, ⟨none, .val 49 (.fldR (.t 1) 5 1)⟩⟩,
  ⟨4, false, ⟨none, .val 50 (.ldR (.t 49) 1 false)⟩⟩,
  ⟨5, true, ⟨none, .call (some 51) zCc [(.t 50, .v)]⟩⟩,
  ⟨6, false, ⟨none, .val 52 (.strs .add (.t 48) (.t 51))⟩⟩,
  ⟨7, false, ⟨none, .val 53 (.strs .add (.t 52) (.c (sv [41])))⟩⟩,
  ⟨8, false, ⟨none, .val 2 (.mv (.t 53))⟩⟩] [.forget [46, 47, 48, 49, 50, 51, 52, 53]]
abbrev zSF : HCode := .drg [⟨0, false, ⟨none, .val 54 (.fldR (.t 1) 1 1)⟩⟩,
  ⟨1, false, ⟨none, .val 55 (.ldR (.t 54) 1 false)⟩⟩,
  ⟨2, false, ⟨none, .val 56 (.strs .add (.c (sv [91])) (.t 55))⟩⟩,
  ⟨3, false, ⟨none, .val 57 (.fldR (.t 1) 0 1)⟩⟩,
  ⟨4, false, ⟨none, .val 58 (.ldR (.t 57) 1 false)⟩⟩,
  ⟨5, false, ⟨none, .call (some 59) zER [(.t 58, .v)]⟩⟩,
  ⟨6, false, ⟨none, .val 60 (.strs .add (.t 56) (.t 59))⟩⟩,
  ⟨7, false, ⟨none, .val 61 (.strs .add (.t 60) (.c (sv [34])))⟩⟩,
  ⟨8, false, ⟨none, .val 62 (.fldR (.t 1) 2 1)⟩⟩,
  ⟨9, false, ⟨none, .val 63 (.ldR (.t 62) 1 false)⟩⟩,
  ⟨10, false, ⟨none, .val 64 (.strs .add (.t 61) (.t 63))⟩⟩,
  ⟨11, false, ⟨none, .val 65 (.strs .add (.t 64) (.c (sv [34, 93])))⟩⟩,
  ⟨12, false, ⟨none, .val 2 (.mv (.t 65))⟩⟩] [.forget [54, 55, 56, 57, 58, 59, 60, 61, 62, 63, 64, 65]]
abbrev yAk : HCode := (.seq zUC (.seq (.seq zUD (.block 0 (.seq zUE (.cond (.t 7) (.seq zUF .ret) (.seq zUG (.cond (.t 12) (.seq zUH .ret) (.seq zUI (.cond (.t 17) (.seq zUJ .ret) (.seq (.seq zUK (.cond (.t 23) .skip zUL)) (.cond (.t 23) (.seq zSv (.seq zSw .ret)) (.seq zSx (.cond (.t 38) (.seq zSy .ret) (.seq zSz (.cond (.t 40) (.seq zSA .ret) (.seq (.seq zSB (.cond (.t 42) .skip (.seq zSC (.cond (.t 42) .skip zSD)))) (.cond (.t 42) (.seq zSE .ret) .skip)))))))))))))))) (.seq zSF .ret)))
abbrev zFO : Env := { N := 66, Γ := [], L := 66, nfix := 0 }
abbrev zW3 : List RSrc := [.tmp 2]
theorem zUM {base : Nat} {av : List AV} {r : RV} (hfo : zAC zFO base av) (hW : AVs.fits av → hwp Tryz.prog yAk (zCj zFO base av zW3 r) (F0 zFO base av)) (hov : ∀ x, r.res = .ov x → zB5 av = 0 := by intro x h; cases h <;> rfl) : Contract Tryz.prog zES av r :=
 contract_of_wp (fn := Tryz.f156) (c := Tryz.f156.body.getD .skip) (by kernel_rfl) (by kernel_rfl) (by kernel_rfl) (by kernel_rfl) (by kernel_rfl) (by kernel_rfl) (by kernel_rfl) hfo hW hov
abbrev zUN : HCode := .reg [⟨none, .val 2 (.mv (.c (sv [])))⟩] false []
abbrev zUO : HCode := .reg [⟨none, .nlo 3 zFf 1⟩] false []
abbrev zUP : HCode := .reg [⟨none, .val 11 (.mv (.t 0))⟩,
  ⟨none, .val 12 (.len false (.t 11))⟩,
  ⟨none, .val 13 (.mv (.c (iv 0)))⟩] false []
abbrev zUQ : HCode := .reg [⟨none, .val 14 (.ints .lss (.t 13) (.t 12))⟩] false []
abbrev zUR : HCode := .reg [⟨none, .val 15 (.idxA 2 (.t 11) (.t 13))⟩,
  ⟨none, .val 16 (.ldR (.t 15) 2 true)⟩,
  ⟨none, .alloc 5 0 63 [.nl 2, .nl 1]⟩,
  ⟨none, .sto (.t 5) 0 63 0 2 (.t 16)⟩] false [.forget [15, 16]]
abbrev zUS : HCode := .reg [⟨none, .val 6 (.mv (.c (sv [])))⟩] false []
abbrev zUT : HCode := .reg [⟨none, .val 17 (.fldP (.t 5) 0)⟩,
  ⟨none, .val 18 (.ldB (.t 17) 0 63 0 1 false)⟩,
  ⟨none, .val 19 (.len false (.t 18))⟩,
  ⟨none, .val 20 (.mv (.c (iv 0)))⟩] false [.forget [17]]
abbrev zUU : HCode := .reg [⟨none, .val 21 (.ints .lss (.t 20) (.t 19))⟩] false []
abbrev zUV : HCode := .reg [⟨none, .val 22 (.mv (.t 20))⟩,
  ⟨none, .val 23 (.idxA 2 (.t 18) (.t 20))⟩,
  ⟨none, .val 24 (.ldR (.t 23) 2 true)⟩,
  ⟨none, .alloc 8 1 65 [.v (mkS []), .nl 6]⟩,
  ⟨none, .val 7 (.mv (.t 22))⟩,
  ⟨none, .sto (.t 8) 1 65 0 2 (.t 24)⟩] false [.forget [22, 23, 24]]
abbrev zUW : HCode := .reg [⟨none, .val 25 (.mv (.t 7))⟩,
  ⟨none, .val 26 (.ints .gtr (.t 25) (.c (iv 0)))⟩] false [.forget [25]]
abbrev zSG : HCode := .drg [⟨0, false, ⟨none, .val 27 (.mv (.t 6))⟩⟩,
  ⟨1, false, ⟨none, .call (some 28) zEa []⟩⟩,
  ⟨2, false, ⟨none, .val 29 (.fldP (.t 5) 1)⟩⟩,
  ⟨3, false, ⟨none, .val 30 (.ldB (.t 29) 0 63 1 1 false)⟩⟩,
  ⟨4, false, ⟨none, .val 31 (.mv (.t 7))⟩⟩,
  ⟨5, false, ⟨none, .val 32 (.ints .sub (.t 31) (.c (iv 1)))⟩⟩,
  ⟨6, false, ⟨none, .val 33 (.idxA 1 (.t 30) (.t 32))⟩⟩,
  ⟨7, false, ⟨none, .val 34 (.ldR (.t 33) 1 false)⟩⟩,
  ⟨8, false, ⟨none, .val 35 (.idxV 5 (.t 28) (.t 34))⟩⟩,
  ⟨9, false, ⟨none, .val 36 (.strs .add (.t 27) (.t 35))⟩⟩,
  ⟨10, false, ⟨none, .val 6 (.mv (.t 36))⟩⟩] [.forget [27, 28, 29, 30, 31, 32, 33, 34, 35, 36]]
abbrev zSH : HCode := .reg [⟨none, .val 37 (.mv (.t 6))⟩,
  ⟨none, .val 38 (.fldP (.t 8) 0)⟩,
  ⟨none, .val 39 (.ldB (.t 38) 1 65 0 1 false)⟩,
  ⟨none, .val 40 (.bslF 1 [.t 39, .c (sv [42])])⟩,
  ⟨none, .call (some 41) zDQ [(.t 40, .v)]⟩,
  ⟨none, .val 42 (.strs .add (.t 37) (.t 41))⟩,
  ⟨none, .val 6 (.mv (.t 42))⟩] false [.forget [37, 38, 39, 40, 41, 42]]
abbrev zSI : HCode := .reg [⟨none, .val 43 (.fldP (.t 8) 1)⟩,
  ⟨none, .val 44 (.ldB (.t 43) 1 65 1 1 false)⟩,
  ⟨none, .val 45 (.len false (.t 44))⟩,
  ⟨none, .val 46 (.mv (.c (iv 0)))⟩] false [.forget [43]]
abbrev zSJ : HCode := .reg [⟨none, .val 47 (.ints .lss (.t 46) (.t 45))⟩] false []
abbrev zSK : HCode := .reg [⟨none, .val 48 (.idxA 6 (.t 44) (.t 46))⟩,
  ⟨none, .val 49 (.ldR (.t 48) 6 true)⟩,
  ⟨none, .alloc 10 2 67 [.v (.int .i64 0), .v (mkS []), .v (mkS []), .v (.int .i64 0), .v (.int .i64 0), .nl 2]⟩,
  ⟨none, .sto (.t 10) 2 67 0 6 (.t 49)⟩] false [.forget [48, 49]]
abbrev zSL : HCode := .reg [⟨none, .val 50 (.mv (.t 6))⟩,
  ⟨none, .val 51 (.ldB (.t 10) 2 67 0 6 true)⟩,
  ⟨none, .call (some 52) zES [(.t 51, .v)]⟩,
  ⟨none, .val 53 (.strs .add (.t 50) (.t 52))⟩,
  ⟨none, .val 6 (.mv (.t 53))⟩] false [.forget [50, 51, 52, 53]]
abbrev zSM : HCode := .reg [⟨none, .val 54 (.ints .add (.t 46) (.c (iv 1)))⟩,
  ⟨none, .val 46 (.mv (.t 54))⟩] false [.forget [54]]
abbrev zSN : HCode := .reg [⟨none, .val 55 (.ints .add (.t 20) (.c (iv 1)))⟩,
  ⟨none, .val 20 (.mv (.t 55))⟩] false [.forget [55]]
abbrev zSO : HCode := .reg [⟨none, .mvo 56 3⟩,
  ⟨none, .val 57 (.mv (.t 6))⟩,
  ⟨none, .val 58 (.bslF 1 [.t 57])⟩,
  ⟨none, .app 59 zFf 1 (.t 56) (.t 58)⟩,
  ⟨none, .mvo 3 59⟩] false [.forget [56, 57, 58, 59]]
abbrev zSP : HCode := .reg [⟨none, .val 60 (.ints .add (.t 13) (.c (iv 1)))⟩,
  ⟨none, .val 13 (.mv (.t 60))⟩] false [.forget [60]]
abbrev zSQ : HCode := .reg [⟨none, .val 61 (.mv (.t 3))⟩,
  ⟨none, .call (some 62) zEu [(.t 61, .v), (.c (sv [44, 32]), .v)]⟩,
  ⟨none, .val 2 (.mv (.t 62))⟩] false [.forget [61, 62]]
abbrev yAl : HCode := (.seq zUN (.seq zUO (.seq (.seq zUP (.block 0 (.loop (.seq zUQ (.seq (.cond (.t 14) .skip (.exit 0)) (.seq (.block 1 (.seq zUR (.seq zUS (.seq (.seq zUT (.block 2 (.loop (.seq zUU (.seq (.cond (.t 21) .skip (.exit 2)) (.seq (.block 3 (.seq zUV (.seq (.seq zUW (.cond (.t 26) zSG .skip)) (.seq zSH (.seq zSI (.block 4 (.loop (.seq zSJ (.seq (.cond (.t 47) .skip (.exit 4)) (.seq (.block 5 (.seq zSK zSL)) zSM)))))))))) zSN)))))) zSO)))) zSP)))))) (.seq zSQ .ret))))
abbrev zFP : Env := { N := 63, Γ := [(63, 2), (65, 2), (67, 6)], L := 73, nfix := 0 }
abbrev zW4 : List RSrc := [.tmp 2]
theorem zUX {base : Nat} {av : List AV} {r : RV} (hfo : zAC zFP base av) (hW : AVs.fits av → hwp Tryz.prog yAl (zCj zFP base av zW4 r) (F0 zFP base av)) (hov : ∀ x, r.res = .ov x → zB5 av = 0 := by intro x h; cases h <;> rfl) : Contract Tryz.prog zCc av r :=
 contract_of_wp (fn := Tryz.f105) (c := Tryz.f105.body.getD .skip) (by kernel_rfl) (by kernel_rfl) (by kernel_rfl) (by kernel_rfl) (by kernel_rfl) (by kernel_rfl) (by kernel_rfl) hfo hW hov
abbrev zUY : HCode := .reg [⟨none, .val 2 (.mv (.c (sv [])))⟩,
  ⟨none, .val 3 (.mv (.c (iv 0)))⟩] false []
abbrev zUZ : HCode := .reg [⟨none, .val 5 (.mv (.t 0))⟩,
  ⟨none, .call (some 6) zBQ [(.t 5, .v)]⟩,
  ⟨none, .val 4 (.mv (.t 6))⟩] false [.forget [5, 6]]
abbrev zU0 : HCode := .reg [⟨none, .val 7 (.mv (.t 4))⟩,
  ⟨none, .val 8 (.ints .neq (.t 7) (.c (iv 0)))⟩] false [.forget [7]]
abbrev zU1 : HCode := .reg [⟨none, .val 9 (.mv (.t 4))⟩,
  ⟨none, .val 2 (.mv (.c (sv [])))⟩,
  ⟨none, .val 3 (.mv (.t 9))⟩] false [.forget [9]]
abbrev zU2 : HCode := .reg [⟨none, .val 10 (.mv (.t 0))⟩,
  ⟨none, .call (some 11) zCc [(.t 10, .v)]⟩,
  ⟨none, .val 2 (.mv (.t 11))⟩,
  ⟨none, .val 3 (.mv (.c (iv 0)))⟩] false [.forget [10, 11]]
abbrev yAm : HCode := (.seq zUY (.seq (.seq zUZ (.seq zU0 (.cond (.t 8) (.seq zU1 .ret) .skip))) (.seq zU2 .ret)))
abbrev zFQ : Env := { N := 12, Γ := [], L := 12, nfix := 0 }
abbrev zW5 : List RSrc := [.tmp 2, .tmp 3]
theorem zU3 {base : Nat} {av : List AV} {r : RV} (hfo : zAC zFQ base av) (hW : AVs.fits av → hwp Tryz.prog yAm (zCj zFQ base av zW5 r) (F0 zFQ base av)) (hov : ∀ x, r.res = .ov x → zB5 av = 0 := by intro x h; cases h <;> rfl) : Contract Tryz.prog zGi av r :=
 contract_of_wp (fn := Tryz.f49) (c := Tryz.f49.body.getD .skip) (by kernel_rfl) (by kernel_rfl) (by kernel_rfl) (by kernel_rfl) (by kernel_rfl) (by kernel_rfl) (by kernel_rfl) hfo hW hov
abbrev zKH : HCode := .reg [⟨none, .val 2 (.mv (.c (sv [])))⟩] false []
abbrev zKI : HCode := .reg [⟨none, .val 3 (.mv (.c (sv [])))⟩] false []
abbrev zKJ : HCode := .reg [⟨none, .val 6 (.mv (.t 0))⟩,
  ⟨none, .val 7 (.len false (.t 6))⟩,
  ⟨none, .val 8 (.mv (.c (iv 0)))⟩] false []
abbrev zKK : HCode := .reg [⟨none, .val 9 (.ints .lss (.t 8) (.t 7))⟩] false []
abbrev zKL : HCode := .reg [⟨none, .val 10 (.idxA 1 (.t 6) (.t 8))⟩,
  ⟨none, .val 11 (.ldR (.t 10) 1 false)⟩,
  ⟨none, .val 5 (.mv (.t 11))⟩] false [.forget [10, 11]]
abbrev zKM : HCode := .reg [⟨none, .val 12 (.mv (.t 5))⟩,
  ⟨none, .val 13 (.mv (.t 3))⟩,
  ⟨none, .val 14 (.strs .neq (.t 12) (.t 13))⟩] false [.forget [12, 13]]
abbrev zKN : HCode := .reg [⟨none, .val 15 (.mv (.t 5))⟩,
  ⟨none, .val 2 (.mv (.t 15))⟩] false [.forget [15]]
abbrev zKO : HCode := .reg [⟨none, .val 16 (.ints .add (.t 8) (.c (iv 1)))⟩,
  ⟨none, .val 8 (.mv (.t 16))⟩] false [.forget [16]]
abbrev zKP : HCode := .reg [⟨none, .val 17 (.mv (.t 3))⟩,
  ⟨none, .val 2 (.mv (.t 17))⟩] false [.forget [17]]
abbrev zSR : HCode := (.seq zKH (.seq zKI (.seq (.seq zKJ (.block 0 (.loop (.seq zKK (.seq (.cond (.t 9) .skip (.exit 0)) (.seq (.block 1 (.seq zKL (.seq zKM (.cond (.t 14) (.seq zKN .ret) .skip)))) zKO)))))) (.seq zKP .ret))))
abbrev zDb : Env := { N := 18, Γ := [], L := 18, nfix := 0 }
abbrev zNN : List RSrc := [.tmp 2]
theorem zKQ {base : Nat} {av : List AV} {r : RV} (hfo : zAC zDb base av) (hW : AVs.fits av → hwp Tryz.prog zSR (zCj zDb base av zNN r) (F0 zDb base av)) (hov : ∀ x, r.res = .ov x → zB5 av = 0 := by intro x h; cases h <;> rfl) : Contract Tryz.prog zDQ av r :=
 contract_of_wp (fn := Tryz.f155) (c := Tryz.f155.body.getD .skip) (by kernel_rfl) (by kernel_rfl) (by kernel_rfl) (by kernel_rfl) (by kernel_rfl) (by kernel_rfl) (by kernel_rfl) hfo hW hov
abbrev zGL : HCode := .reg [⟨none, .val 4 (.mv (.c (sv [])))⟩,
  ⟨none, .val 5 (.mv (.c (bv false)))⟩] false []
abbrev zGM : HCode := .reg [⟨none, .val 6 (.mv (.t 0))⟩,
  ⟨none, .val 7 (.mv (.t 1))⟩,
  ⟨none, .call (some 8) zC5 [(.t 6, .v), (.t 7, .v)]⟩,
  ⟨none, .val 9 (.ext 8 0)⟩,
  ⟨none, .val 10 (.ext 8 1)⟩,
  ⟨none, .val 4 (.mv (.t 9))⟩,
  ⟨none, .val 5 (.mv (.t 10))⟩] false [.forget [6, 7, 8, 9, 10]]
abbrev strings_CutPrefix : HCode := (.seq zGL (.seq zGM .ret))
abbrev zNO : HCode := .reg [⟨none, .val 4 (.mv (.c (sv [])))⟩] false []
abbrev zNP : HCode := .reg [⟨none, .val 11 (.mv (.t 0))⟩,
  ⟨none, .val 12 (.len false (.t 11))⟩] false [.forget [11]]
abbrev zNQ : HCode := .reg [⟨none, .val 14 (.ints .eql (.t 12) (.c (iv 0)))⟩,
  ⟨none, .val 13 (.mv (.t 14))⟩] false [.forget [14]]
abbrev zNR : HCode := .reg [⟨none, .val 4 (.mv (.c (sv [])))⟩] false []
abbrev zNS : HCode := .reg [⟨none, .val 16 (.ints .eql (.t 12) (.c (iv 1)))⟩,
  ⟨none, .val 15 (.mv (.t 16))⟩] false [.forget [16]]
abbrev zNT : HCode := .reg [⟨none, .val 17 (.mv (.t 0))⟩,
  ⟨none, .val 18 (.idxA 1 (.t 17) (.c (iv 0)))⟩,
  ⟨none, .val 19 (.ldR (.t 18) 1 false)⟩,
  ⟨none, .val 4 (.mv (.t 19))⟩] false [.forget [17, 18, 19]]
abbrev zNU : HCode := .reg [⟨none, .val 5 (.mv (.c (iv 0)))⟩] false []
abbrev zNV : HCode := .reg [⟨none, .val 20 (.mv (.t 1))⟩,
  ⟨none, .val 21 (.len true (.t 20))⟩,
  ⟨none, .val 22 (.ints .gtr (.t 21) (.c (iv 0)))⟩] false [.forget [20, 21]]
abbrev zNW : HCode := .reg [⟨none, .val 23 (.mv (.t 1))⟩,
  ⟨none, .val 24 (.len true (.t 23))⟩,
  ⟨none, .val 25 (.mv (.t 0))⟩,
  ⟨none, .val 26 (.len false (.t 25))⟩,
  ⟨none, .val 27 (.ints .sub (.t 26) (.c (iv 1)))⟩,
  ⟨none, .val 28 (.ints .quo (.c (iv 9223372036854775807)) (.t 27))⟩,
  ⟨none, .val 29 (.ints .geq (.t 24) (.t 28))⟩] false [.forget [23, 24, 25, 26, 27, 28]]
abbrev zNX : HCode := .reg [⟨none, .val 30 (.mki zFf (.c (sv [115, 116, 114, 105, 110, 103, 115, 58, 32, 74, 111, 105, 110, 32, 111, 117, 116, 112, 117, 116, 32, 108, 101, 110, 103, 116, 104, 32, 111, 118, 101, 114, 102, 108, 111, 119])))⟩,
  ⟨none, .pan (.t 30)⟩] false [.forget [30]]
abbrev zKR : HCode := .reg [⟨none, .val 31 (.mv (.t 5))⟩,
  ⟨none, .val 32 (.mv (.t 1))⟩,
  ⟨none, .val 33 (.len true (.t 32))⟩,
  ⟨none, .val 34 (.mv (.t 0))⟩,
  ⟨none, .val 35 (.len false (.t 34))⟩,
  ⟨none, .val 36 (.ints .sub (.t 35) (.c (iv 1)))⟩,
  ⟨none, .val 37 (.ints .mul (.t 33) (.t 36))⟩,
  ⟨none, .val 38 (.ints .add (.t 31) (.t 37))⟩,
  ⟨none, .val 5 (.mv (.t 38))⟩] false [.forget [31, 32, 33, 34, 35, 36, 37, 38]]
abbrev zKS : HCode := .reg [⟨none, .val 39 (.mv (.t 0))⟩,
  ⟨none, .val 40 (.len false (.t 39))⟩,
  ⟨none, .val 41 (.mv (.c (iv 0)))⟩] false []
abbrev zKT : HCode := .reg [⟨none, .val 42 (.ints .lss (.t 41) (.t 40))⟩] false []
abbrev zKU : HCode := .reg [⟨none, .val 43 (.idxA 1 (.t 39) (.t 41))⟩,
  ⟨none, .val 44 (.ldR (.t 43) 1 false)⟩,
  ⟨none, .val 7 (.mv (.t 44))⟩] false [.forget [43, 44]]
abbrev zKV : HCode := .reg [⟨none, .val 45 (.mv (.t 7))⟩,
  ⟨none, .val 46 (.len true (.t 45))⟩,
  ⟨none, .val 47 (.mv (.t 5))⟩,
  ⟨none, .val 48 (.ints .sub (.c (iv 9223372036854775807)) (.t 47))⟩,
  ⟨none, .val 49 (.ints .gtr (.t 46) (.t 48))⟩] false [.forget [45, 46, 47, 48]]
abbrev zKW : HCode := .reg [⟨none, .val 50 (.mki zFf (.c (sv [115, 116, 114, 105, 110, 103, 115, 58, 32, 74, 111, 105, 110, 32, 111, 117, 116, 112, 117, 116, 32, 108, 101, 110, 103, 116, 104, 32, 111, 118, 101, 114, 102, 108, 111, 119])))⟩,
  ⟨none, .pan (.t 50)⟩] false [.forget [50]]
abbrev zKX : HCode := .reg [⟨none, .val 51 (.mv (.t 5))⟩,
  ⟨none, .val 52 (.mv (.t 7))⟩,
  ⟨none, .val 53 (.len true (.t 52))⟩,
  ⟨none, .val 54 (.ints .add (.t 51) (.t 53))⟩,
  ⟨none, .val 5 (.mv (.t 54))⟩] false [.forget [51, 52, 53, 54]]
abbrev zKY : HCode := .reg [⟨none, .val 55 (.ints .add (.t 41) (.c (iv 1)))⟩,
  ⟨none, .val 41 (.mv (.t 55))⟩] false [.forget [55]]
abbrev zKZ : HCode := .reg [⟨none, .bmk 8 zAV zFM⟩] false []
abbrev zK0 : HCode := .reg [⟨none, .val 56 (.mv (.t 5))⟩,
  ⟨none, .callm (some 57) zC6 8 [(.t 56, .v)]⟩] false [.forget [56, 57]]
abbrev zK1 : HCode := .reg [⟨none, .val 58 (.mv (.t 0))⟩,
  ⟨none, .val 59 (.idxA 1 (.t 58) (.c (iv 0)))⟩,
  ⟨none, .val 60 (.ldR (.t 59) 1 false)⟩,
  ⟨none, .callm (some 61) zAS 8 [(.t 60, .v)]⟩] false [.forget [58, 59, 60, 61]]
abbrev zK2 : HCode := .reg [⟨none, .val 62 (.mv (.t 0))⟩,
  ⟨none, .val 63 (.slr 1 (.t 62) (some (.c (iv 1))) none)⟩,
  ⟨none, .val 64 (.len false (.t 63))⟩,
  ⟨none, .val 65 (.mv (.c (iv 0)))⟩] false [.forget [62]]
abbrev zK3 : HCode := .reg [⟨none, .val 66 (.ints .lss (.t 65) (.t 64))⟩] false []
abbrev zK4 : HCode := .reg [⟨none, .val 67 (.idxA 1 (.t 63) (.t 65))⟩,
  ⟨none, .val 68 (.ldR (.t 67) 1 false)⟩,
  ⟨none, .val 10 (.mv (.t 68))⟩] false [.forget [67, 68]]
abbrev zK5 : HCode := .reg [⟨none, .val 69 (.mv (.t 1))⟩,
  ⟨none, .callm (some 70) zAS 8 [(.t 69, .v)]⟩] false [.forget [69, 70]]
abbrev zK6 : HCode := .reg [⟨none, .val 71 (.mv (.t 10))⟩,
  ⟨none, .callm (some 72) zAS 8 [(.t 71, .v)]⟩] false [.forget [71, 72]]
abbrev zK7 : HCode := .reg [⟨none, .val 73 (.ints .add (.t 65) (.c (iv 1)))⟩,
  ⟨none, .val 65 (.mv (.t 73))⟩] false [.forget [73]]
abbrev zK8 : HCode := .reg [⟨none, .callm (some 74) zCz 8 []⟩,
  ⟨none, .val 4 (.mv (.t 74))⟩] false [.forget [74]]
abbrev zU4 : HCode := (.seq zNO (.seq (.seq zNP (.block 0 (.seq zNQ (.cond (.t 13) (.seq zNR .ret) (.seq zNS (.cond (.t 15) (.seq zNT .ret) .skip)))))) (.seq zNU (.seq (.seq zNV (.cond (.t 22) (.seq (.seq zNW (.cond (.t 29) zNX .skip)) zKR) .skip)) (.seq (.seq zKS (.block 1 (.loop (.seq zKT (.seq (.cond (.t 42) .skip (.exit 1)) (.seq (.block 2 (.seq zKU (.seq (.seq zKV (.cond (.t 49) zKW .skip)) zKX))) zKY)))))) (.seq zKZ (.seq zK0 (.seq zK1 (.seq (.seq zK2 (.block 3 (.loop (.seq zK3 (.seq (.cond (.t 66) .skip (.exit 3)) (.seq (.block 4 (.seq zK4 (.seq zK5 zK6))) zK7)))))) (.seq zK8 .ret))))))))))
abbrev zDB : Env := { N := 75, Γ := [], L := 75, nfix := 0 }
abbrev zP4 : List RSrc := [.tmp 4]
theorem zNY {base : Nat} {av : List AV} {r : RV} (hfo : zAC zDB base av) (hW : AVs.fits av → hwp Tryz.prog zU4 (zCj zDB base av zP4 r) (F0 zDB base av)) (hov : ∀ x, r.res = .ov x → zB5 av = 0 := by intro x h; cases h <;> rfl) : Contract Tryz.prog zEu av r :=
 contract_of_wp (fn := Tryz.f157) (c := Tryz.f157.body.getD .skip) (by kernel_rfl) (by kernel_rfl) (by kernel_rfl) (by kernel_rfl) (by kernel_rfl) (by kernel_rfl) (by kernel_rfl) hfo hW hov
end Go.Hx
end

section
set_option maxRecDepth 100000
set_option linter.unusedSimpArgs false
namespace Go.Hx
open Go.Proofs
variable [Glob]
attribute [local go_sem] zAz zAx zAy zAq ndV zAu zAp
def zAs (s t : Bys) : Bool := decide (t.length ≤ s.length) && (s.take t.length == t)
def zAw (s t : Bys) : Bys := if zAs s t then s.drop t.length else s
end Go.Hx
end

section
set_option maxRecDepth 100000
set_option linter.unusedSimpArgs false
namespace Go.Hx
open Go.Proofs
variable [Glob]
attribute [local go_sem] zAz zAx zAy zAq ndV zAu zAp
attribute [local go_sem] reduceCtorEq Nat.reduceAdd Nat.reduceEqDiff reduceIte Nat.reduceLeDiff Nat.reduceLT Nat.reduceSub
theorem zJx (n lo hi : Int) : Contract Tryz.prog zAP [.val (iv n), .val (iv lo), .val (iv hi)] { res := .val (bv (decide (lo ≤ n ∧ n ≤ hi))) } := by
 refine zHr (base := 0) ⟨Nat.le_of_ble_eq_true rfl, Nat.le_of_ble_eq_true rfl, Nat.le_of_ble_eq_true rfl, rfl⟩ (fun hfit => ?_)
 unfold F0 zDI
 simp (maxSteps := 2000000) only [zAN, List.set_cons_succ, List.set_cons_zero, List.map_cons, List.map_nil, zAM, zAb, ioOf, List.length_cons, List.length_nil, Nat.reduceAdd, Nat.reduceSub, List.replicate, List.cons_append, List.nil_append]
 try simp (maxSteps := 2000000) only [go_sem]
 repeat with_reducible refine zAd ?_
 refine zAl rfl trivial (.inl ?_)
 congr 3
 by_cases h1 : lo ≤ n <;> by_cases h2 : n ≤ hi <;> simp [h1, h2]
theorem yAz {a b : Int} (h : zI7 a b = 0) : (-1048576 ≤ a ∧ a ≤ 1048576) ∧ (-1048576 ≤ b ∧ b ≤ 1048576) := by
 unfold zI7 at h
 split at h
 ·rename_i h1; simpa [zLa] using h1
 ·cases h
def yAA (a b : Int) : PVal := .agg [bI a, bI b]
theorem zP6 (a b : Int) : Contract Tryz.prog zEm [.val (yAA a b)] { res := .val (iv (zI7 a b)) } := by
 unfold yAA
 refine zM5 (base := 0) ⟨Nat.le_of_ble_eq_true rfl, Nat.le_of_ble_eq_true rfl, Nat.le_of_ble_eq_true rfl, rfl⟩ (fun hfit => ?_)
 unfold F0 zDv
 simp (maxSteps := 2000000) only [zAN, List.set_cons_succ, List.set_cons_zero, List.map_cons, List.map_nil, zAM, zAb, ioOf, List.length_cons, List.length_nil, Nat.reduceAdd, Nat.reduceSub, List.replicate, List.cons_append, List.nil_append]
 try simp (maxSteps := 2000000) only [go_sem]
 repeat with_reducible refine zAd ?_
 refine zAh (by repeat' constructor) (zJx a (-1048576) 1048576) ?_
 try simp (maxSteps := 2000000) only [go_sem]
 repeat with_reducible refine zAd ?_
 apply zAG (h2 := fun _ => zJx b (-1048576) 1048576)
 ·(simp (maxSteps := 2000000) only [go_sem]; rfl)
 ·intro h; repeat' (first | exact trivial | exact h | refine And.intro ?_ ?_)
 try simp (maxSteps := 2000000) only [go_sem]
 repeat with_reducible refine zAd ?_
 refine zAa (by rfl) trivial (fun h => ?_) (fun h => ?_)
 ·try simp (maxSteps := 2000000) only [go_sem]
  repeat with_reducible refine zAd ?_
  refine zAl rfl trivial (.inl ?_)
  congr 3
  unfold zI7 zLa
  rw [if_neg]
  simp at h ⊢
  omega
 ·try simp (maxSteps := 2000000) only [go_sem]
  repeat with_reducible refine zAd ?_
  refine zAl rfl trivial (.inl ?_)
  congr 3
  unfold zI7 zLa
  rw [if_pos]
  simp at h ⊢
  omega
theorem zN5 (a b : Int) : Contract Tryz.prog zEM [.val (yAA a b)] { res := .val (iv (zI7 a b)) } := by
 unfold yAA
 refine zUn (base := 0) ⟨Nat.le_of_ble_eq_true rfl, Nat.le_of_ble_eq_true rfl, Nat.le_of_ble_eq_true rfl, rfl⟩ (fun hfit => ?_)
 unfold F0 zFG
 simp (maxSteps := 2000000) only [zAN, List.set_cons_succ, List.set_cons_zero, List.map_cons, List.map_nil, zAM, zAb, ioOf, List.length_cons, List.length_nil, Nat.reduceAdd, Nat.reduceSub, List.replicate, List.cons_append, List.nil_append]
 try simp (maxSteps := 2000000) only [go_sem]
 repeat with_reducible refine zAd ?_
 refine zAo (fun i : Nat => [(4, .un), (10, .pv (iv i)), (11, .un), (18, .un)]) (fun i : Nat => 2 - i) (fun i : Nat => i ≤ 2 ∧ (1 ≤ i → zLa a = true) ∧ (2 ≤ i → zLa b = true)) (0) ?_ ⟨by omega, by omega, by omega⟩ ?_
 focus (simp (maxSteps := 2000000) only [go_sem, zAe, zAj, zAt, zAc]; all_goals (repeat' (first | exact trivial | exact zAg (by omega) | exact zAf rfl | exact zAr rfl | exact zAk | exact le_refl _ | refine And.intro ?_ ?_)))
 intro i hi
 obtain ⟨h1, h2, h3⟩ := hi
 try simp (maxSteps := 2000000) only [go_sem]
 repeat with_reducible refine zAd ?_
 refine zAa (by rfl) trivial (fun h => ?_) (fun h => ?_)
 ·have hlt : i < 2 := by simp at h; omega
  have hcase : i = 0 ∨ i = 1 := by omega
  rcases hcase with rfl | rfl
  ·try simp (maxSteps := 2000000) only [go_sem, List.getD_cons_zero, Int.toNat_natCast, Int.cast_ofNat_Int, Int.toNat_zero, PV.norm]
   repeat with_reducible refine zAd ?_
   refine zAa (by rfl) trivial (fun h9 => ?_) (fun h9 => ?_)
   ·try simp (maxSteps := 2000000) only [go_sem]
    repeat with_reducible refine zAd ?_
    refine zAl rfl trivial (.inl ?_)
    congr 3
    unfold zI7
    rw [if_neg]
    simp [zLa] at h9 ⊢
    omega
   ·try simp (maxSteps := 2000000) only [go_sem]
    repeat with_reducible refine zAd ?_
    refine ⟨1, by omega, ⟨by omega, fun _ => ?_, by omega⟩, ?_⟩
    ·simp [zLa] at h9 ⊢; omega
    ·simp (maxSteps := 2000000) only [go_sem, zAe, zAj, zAt, zAc]
     all_goals (repeat' (first | exact trivial | exact zAg (by omega) | exact zAf rfl | exact zAr rfl | exact zAk | exact le_refl _ | refine And.intro ?_ ?_))
  ·try simp (maxSteps := 2000000) only [go_sem, List.getD_cons_zero, List.getD_cons_succ, Int.toNat_natCast, Int.cast_ofNat_Int, Int.toNat_one, PV.norm]
   repeat with_reducible refine zAd ?_
   refine zAa (by rfl) trivial (fun h9 => ?_) (fun h9 => ?_)
   ·try simp (maxSteps := 2000000) only [go_sem]
    repeat with_reducible refine zAd ?_
    refine zAl rfl trivial (.inl ?_)
    congr 3
    unfold zI7
    rw [if_neg]
    simp [zLa] at h9 ⊢
    omega
   ·try simp (maxSteps := 2000000) only [go_sem]
    repeat with_reducible refine zAd ?_
    refine ⟨2, by omega, ⟨by omega, fun _ => h2 (by omega), fun _ => ?_⟩, ?_⟩
    ·simp [zLa] at h9 ⊢; omega
    ·simp (maxSteps := 2000000) only [go_sem, zAe, zAj, zAt, zAc]
     all_goals (repeat' (first | exact trivial | exact zAg (by omega) | exact zAf rfl | exact zAr rfl | exact zAk | exact le_refl _ | refine And.intro ?_ ?_))
 ·try simp (maxSteps := 2000000) only [go_sem]
  repeat with_reducible refine zAd ?_
  have : i = 2 := by simp at h; omega
  refine zAl rfl trivial (.inl ?_)
  congr 3
  unfold zI7
  rw [h2 (by omega), h3 (by omega)]
  rfl
end Go.Hx
end

section
set_option maxRecDepth 100000
set_option linter.unusedSimpArgs false
namespace Go.Hx
open Go.Proofs
variable [Glob]
attribute [local go_sem] zAz zAx zAy zAq ndV zAu zAp fdV Fd.add fM fF fR fK Nat.add_zero
attribute [local go_sem] reduceCtorEq Nat.reduceAdd Nat.reduceEqDiff reduceIte Nat.reduceLeDiff Nat.reduceLT Nat.reduceSub
theorem zB3 {F : List Ct} {E : Env} {base : Nat} {av : List AV} {cells io : List PV} (hio : ioOf av = some cells) (hc : zAE F base cells.length = some io) : zCj E base av [] { res := .tup [], io := io } .normal F :=
 ⟨rfl, fun cs h => by rw [hio] at h; injection h with h; subst h; exact hc⟩
theorem zS4 (c : Fd) (b : Bool) (h : c.m ≤ 1000000000) : Contract Tryz.prog zAA [.io (fdV c), .val (bv b), .val (iv 2)] { res := .tup [], io := fdV (c.add (fM b)) } := by
 unfold fdV
 refine zCp (base := 17) ⟨Nat.le_of_ble_eq_true rfl, Nat.le_of_ble_eq_true rfl, Nat.le_of_ble_eq_true rfl, ⟨rfl, rfl⟩⟩ (fun hfit => ?_)
 unfold F0 zBa
 simp (maxSteps := 2000000) only [zAN, List.set_cons_succ, List.set_cons_zero, List.map_cons, List.map_nil, zAM, zAb, ioOf, List.length_cons, List.length_nil, Nat.reduceAdd, Nat.reduceSub, List.replicate, List.cons_append, List.nil_append]
 try simp (maxSteps := 2000000) only [go_sem]
 repeat with_reducible refine zAd ?_
 refine zAa (by rfl) trivial (fun hb => ?_) (fun hb => ?_)
 ·subst hb
  try simp (maxSteps := 2000000) only [go_sem, Int.reduceToNat]
  repeat with_reducible refine zAd ?_
  exact zB3 rfl rfl
 ·subst hb
  try simp (maxSteps := 2000000) only [go_sem]
  repeat with_reducible refine zAd ?_
  exact zB3 rfl rfl
theorem zMh (c : Fd) (b : Bool) (h : c.f ≤ 1000000000) : Contract Tryz.prog zAA [.io (fdV c), .val (bv b), .val (iv 1)] { res := .tup [], io := fdV (c.add (fF b)) } := by
 unfold fdV
 refine zCp (base := 17) ⟨Nat.le_of_ble_eq_true rfl, Nat.le_of_ble_eq_true rfl, Nat.le_of_ble_eq_true rfl, ⟨rfl, rfl⟩⟩ (fun hfit => ?_)
 unfold F0 zBa
 simp (maxSteps := 2000000) only [zAN, List.set_cons_succ, List.set_cons_zero, List.map_cons, List.map_nil, zAM, zAb, ioOf, List.length_cons, List.length_nil, Nat.reduceAdd, Nat.reduceSub, List.replicate, List.cons_append, List.nil_append]
 try simp (maxSteps := 2000000) only [go_sem]
 repeat with_reducible refine zAd ?_
 refine zAa (by rfl) trivial (fun hb => ?_) (fun hb => ?_)
 ·subst hb
  try simp (maxSteps := 2000000) only [go_sem, Int.reduceToNat]
  repeat with_reducible refine zAd ?_
  exact zB3 rfl rfl
 ·subst hb
  try simp (maxSteps := 2000000) only [go_sem]
  repeat with_reducible refine zAd ?_
  exact zB3 rfl rfl
theorem yCi (c : Fd) (b : Bool) (h : c.r ≤ 1000000000) : Contract Tryz.prog zAA [.io (fdV c), .val (bv b), .val (iv 3)] { res := .tup [], io := fdV (c.add (fR b)) } := by
 unfold fdV
 refine zCp (base := 17) ⟨Nat.le_of_ble_eq_true rfl, Nat.le_of_ble_eq_true rfl, Nat.le_of_ble_eq_true rfl, ⟨rfl, rfl⟩⟩ (fun hfit => ?_)
 unfold F0 zBa
 simp (maxSteps := 2000000) only [zAN, List.set_cons_succ, List.set_cons_zero, List.map_cons, List.map_nil, zAM, zAb, ioOf, List.length_cons, List.length_nil, Nat.reduceAdd, Nat.reduceSub, List.replicate, List.cons_append, List.nil_append]
 try simp (maxSteps := 2000000) only [go_sem]
 repeat with_reducible refine zAd ?_
 refine zAa (by rfl) trivial (fun hb => ?_) (fun hb => ?_)
 ·subst hb
  try simp (maxSteps := 2000000) only [go_sem, Int.reduceToNat]
  repeat with_reducible refine zAd ?_
  exact zB3 rfl rfl
 ·subst hb
  try simp (maxSteps := 2000000) only [go_sem]
  repeat with_reducible refine zAd ?_
  exact zB3 rfl rfl
theorem zYf (c : Fd) (b : Bool) (h : c.k ≤ 1000000000) : Contract Tryz.prog zAA [.io (fdV c), .val (bv b), .val (iv 4)] { res := .tup [], io := fdV (c.add (fK b)) } := by
 unfold fdV
 refine zCp (base := 17) ⟨Nat.le_of_ble_eq_true rfl, Nat.le_of_ble_eq_true rfl, Nat.le_of_ble_eq_true rfl, ⟨rfl, rfl⟩⟩ (fun hfit => ?_)
 unfold F0 zBa
 simp (maxSteps := 2000000) only [zAN, List.set_cons_succ, List.set_cons_zero, List.map_cons, List.map_nil, zAM, zAb, ioOf, List.length_cons, List.length_nil, Nat.reduceAdd, Nat.reduceSub, List.replicate, List.cons_append, List.nil_append]
 try simp (maxSteps := 2000000) only [go_sem]
 repeat with_reducible refine zAd ?_
 refine zAa (by rfl) trivial (fun hb => ?_) (fun hb => ?_)
 ·subst hb
  try simp (maxSteps := 2000000) only [go_sem, Int.reduceToNat]
  repeat with_reducible refine zAd ?_
  exact zB3 rfl rfl
 ·subst hb
  try simp (maxSteps := 2000000) only [go_sem]
  repeat with_reducible refine zAd ?_
  exact zB3 rfl rfl
def shV (k : Int) : PVal := .agg [bB (zU8 k), bB (zJw k), bB (yCU k), bB (zEb k)]
def kOk (k : Int) : Bool := decide (1 ≤ k ∧ k ≤ 15)
theorem zVk (k : Int) : Contract Tryz.prog zGC [.val (iv k)] { res := .tup [shV k, bv (kOk k)] } := by
 refine zY1 (base := 0) ⟨Nat.le_of_ble_eq_true rfl, Nat.le_of_ble_eq_true rfl, Nat.le_of_ble_eq_true rfl, rfl⟩ (fun hfit => ?_)
 unfold F0 zHt
 simp (maxSteps := 2000000) only [zAN, List.set_cons_succ, List.set_cons_zero, List.map_cons, List.map_nil, zAM, zAb, ioOf, List.length_cons, List.length_nil, Nat.reduceAdd, Nat.reduceSub, List.replicate, List.cons_append, List.nil_append]
 try simp (maxSteps := 2000000) only [go_sem]
 repeat with_reducible refine zAd ?_
 by_cases hk : 1 ≤ k ∧ k ≤ 15
 ·have hn : k = 1 ∨ k = 2 ∨ k = 3 ∨ k = 4 ∨ k = 5 ∨ k = 6 ∨ k = 7 ∨ k = 8 ∨ k = 9 ∨ k = 10 ∨ k = 11 ∨ k = 12 ∨ k = 13 ∨ k = 14 ∨ k = 15 := by omega
  rcases hn with rfl | rfl | rfl | rfl | rfl | rfl | rfl | rfl | rfl | rfl | rfl | rfl | rfl | rfl | rfl
  all_goals
   repeat (first | (refine yFC (by rfl) trivial ?_; (try simp (maxSteps := 2000000) only [go_sem])) | (refine yCR (by rfl) trivial ?_; (try simp (maxSteps := 2000000) only [go_sem])))
   exact zCM (by simp) ⟨zBg rfl rfl (.inl rfl), zA1 rfl trivial (.inl rfl), rfl⟩
 ·have e : ∀ n : Int, 1 ≤ n → n ≤ 15 → (k == n) = false := by intro n h1 h2; simp; omega
  have hs : shV k = .agg [bB false, bB false, bB false, bB false] := by
   unfold shV
   congr 2
   ·unfold zU8; congr 2; simp; omega
   ·congr 1
    ·unfold zJw; congr 2; simp; omega
    ·congr 1
     ·unfold yCU; congr 2; simp; omega
     ·congr 1
      unfold zEb; congr 2; simp; omega
  have ho : kOk k = false := by unfold kOk; simp; omega
  rw [hs, ho]
  try simp (maxSteps := 2000000) only [go_sem, e 1 (by omega) (by omega), e 2 (by omega) (by omega), e 3 (by omega) (by omega), e 4 (by omega) (by omega), e 5 (by omega) (by omega), e 6 (by omega) (by omega), e 7 (by omega) (by omega), e 8 (by omega) (by omega), e 9 (by omega) (by omega), e 10 (by omega) (by omega), e 11 (by omega) (by omega), e 12 (by omega) (by omega), e 13 (by omega) (by omega), e 14 (by omega) (by omega), e 15 (by omega) (by omega)]
  repeat (refine yCR (by rfl) trivial ?_; (try simp (maxSteps := 2000000) only [go_sem, e 1 (by omega) (by omega), e 2 (by omega) (by omega), e 3 (by omega) (by omega), e 4 (by omega) (by omega), e 5 (by omega) (by omega), e 6 (by omega) (by omega), e 7 (by omega) (by omega), e 8 (by omega) (by omega), e 9 (by omega) (by omega), e 10 (by omega) (by omega), e 11 (by omega) (by omega), e 12 (by omega) (by omega), e 13 (by omega) (by omega), e 14 (by omega) (by omega), e 15 (by omega) (by omega)]))
  exact zCM (by simp) ⟨zBg rfl rfl (.inl rfl), zA1 rfl trivial (.inl rfl), rfl⟩
theorem zVl : Contract Tryz.prog zFJ [] { res := .val (.agg [bI 2, bI 4, bI 1, bI 3]) } := by
 refine zRU (base := 0) ⟨Nat.le_of_ble_eq_true rfl, Nat.le_of_ble_eq_true rfl, Nat.le_of_ble_eq_true rfl, rfl⟩ (fun hfit => ?_)
 unfold F0 zEO
 simp (maxSteps := 2000000) only [zAN, List.set_cons_succ, List.set_cons_zero, List.map_cons, List.map_nil, zAM, zAb, ioOf, List.length_cons, List.length_nil, Nat.reduceAdd, Nat.reduceSub, List.replicate, List.cons_append, List.nil_append]
 try simp (maxSteps := 2000000) only [go_sem]
 repeat with_reducible refine zAd ?_
 exact zGe rfl rfl rfl
end Go.Hx
end

section
set_option maxRecDepth 100000
set_option linter.unusedSimpArgs false
namespace Go.Hx
open Go.Proofs
variable [Glob]
attribute [local go_sem] zAz zAx zAy zAq ndV zAu zAp fdV zBu zBR zBs zAW
attribute [local go_sem] reduceCtorEq Nat.reduceAdd Nat.reduceEqDiff reduceIte Nat.reduceLeDiff Nat.reduceLT Nat.reduceSub
theorem zAX {α : Type} {d : α} {l : List α} {i : Nat} (h : i < l.length) : l.drop i = l.getD i d :: l.drop (i + 1) := by
 rw [List.drop_eq_getElem_cons h]
 simp [h]
def yHs (P : Program) (N : Nat) : Prop :=
 (∀ (l : List Pt) (d K : Nat) (c : Fd), SizeOf.sizeOf l ≤ N → d ≤ 4 → c.le K → K + bd d ≤ 1000000000 → Contract P zBj [.io (fdV c), .val (zBu l), .val (iv d)] { res := .tup [], io := fdV (c.add (ntL l d)) }) ∧
 (∀ (s : St) (d K : Nat) (c : Fd), SizeOf.sizeOf s ≤ N → d ≤ 3 → c.le K → K + bdS d ≤ 1000000000 → Contract P zCo [.io (fdV c), .val (.agg (stV s)), .val (iv d)] { res := .tup [], io := fdV (c.add (ntS s d)) })
theorem yAT (N : Nat) (ih : yHs Tryz.prog N) (l : List Pt) (d K : Nat) (c : Fd) (hN : SizeOf.sizeOf l ≤ N + 1) (hd : d ≤ 4) (hc : c.le K) (hK : K + bd d ≤ 1000000000) : Contract Tryz.prog zBj [.io (fdV c), .val (zBu l), .val (iv d)] { res := .tup [], io := fdV (c.add (ntL l d)) } := by
 unfold fdV zBu
 refine zIx (base := 83) ⟨Nat.le_of_ble_eq_true rfl, Nat.le_of_ble_eq_true rfl, Nat.le_of_ble_eq_true rfl, ⟨rfl, rfl⟩⟩ (fun hfit => ?_)
 unfold F0 zCF
 simp (maxSteps := 2000000) only [zAN, List.set_cons_succ, List.set_cons_zero, List.map_cons, List.map_nil, zAM, zAb, ioOf, List.length_cons, List.length_nil, Nat.reduceAdd, Nat.reduceSub, List.replicate, List.cons_append, List.nil_append]
 try simp (maxSteps := 2000000) only [go_sem]
 repeat with_reducible refine zAd ?_
 have hlb : (bif bif decide (3 < (d : Int)) then true else decide ((l.length : Int) < 1) then true else decide (5 < (l.length : Int))) = zGk l d := by
  have e1 : decide (3 < (d : Int)) = decide (3 < d) := decide_eq_decide.2 (by omega)
  have e2 : decide ((l.length : Int) < 1) = decide (l.length < 1) := decide_eq_decide.2 (by omega)
  have e3 : decide (5 < (l.length : Int)) = decide (5 < l.length) := decide_eq_decide.2 (by omega)
  unfold zGk
  rw [e1, e2, e3]
  cases decide (3 < d) <;> cases decide (l.length < 1) <;> rfl
 refine zAa (by rfl) trivial (fun h => ?_) (fun h => ?_)
 ·rw [hlb] at h
  have e : ntL l d = fM true := by unfold ntL; rw [if_pos h]
  try simp (maxSteps := 2000000) only [go_sem]
  repeat with_reducible refine zAd ?_
  have hb1 := zSZ (4 - d)
  have hb2 : bd d = bdF (4 - d) := rfl
  have hm := hc.m
  refine zB6 (by repeat' constructor) (zS4 c true (by omega)) ?_
  try simp (maxSteps := 2000000) only [go_sem]
  repeat with_reducible refine zAd ?_
  rw [e]
  exact zRv rfl rfl
 ·rw [hlb] at h
  have e : ntL l d = zVU l d := by unfold ntL; rw [if_neg (by rw [h]; simp)]
  rw [e]
  have hd3 : d ≤ 3 ∧ l.length ≤ 5 := by
   simp only [zGk, Bool.or_eq_false_iff, decide_eq_false_iff_not] at h
   omega
  have hbd := yEf hd3.1
  try simp (maxSteps := 2000000) only [go_sem]
  repeat with_reducible refine zAd ?_
  have hK0 : K + (1 + (l.length - 0) * bdP d) ≤ 1000000000 := by
   have : (l.length - 0) * bdP d ≤ 5 * bdP d := Nat.mul_le_mul_right _ (by omega)
   omega
  refine zAo (fun x : Nat × Fd => [(7, .un), (9, .un), (11, .un), (28, .pv (iv x.1)), (29, .un), (51, .un), (55, .un), (56, .un), (57, .un), (58, .un), (71, .un), (72, .un), (73, .un), (74, .un), (84, .pv (.one (bI x.2.f))), (85, .pv (.one (bI x.2.m))), (86, .pv (.one (bI x.2.r))), (87, .pv (.one (bI x.2.k))), (90, .un), (91, .un)]) (fun x : Nat × Fd => l.length - x.1) (fun x : Nat × Fd => x.1 ≤ l.length ∧ (∃ K', x.2.le K' ∧ K' + (1 + (l.length - x.1) * bdP d) ≤ 1000000000) ∧ x.2.add (zVU (l.drop x.1) d) = c.add (zVU l d)) ((0, c)) ?_ ⟨Nat.zero_le _, ⟨K, hc, hK0⟩, by simp⟩ ?_
  focus (simp (maxSteps := 2000000) only [go_sem, zAe, zAj, zAt, zAc]; all_goals (repeat' (first | exact trivial | exact zAg (by omega) | exact zAf rfl | exact zAr rfl | exact zAk | exact le_refl _ | refine And.intro ?_ ?_)))
  rintro ⟨i, a⟩ ⟨hi, ⟨K', ha, hK'⟩, hsum⟩
  simp only at hi ha hK' hsum
  try simp (maxSteps := 2000000) only [go_sem]
  repeat with_reducible refine zAd ?_
  have hbx : bd d ≤ 1000000000 := by omega
  refine zAa (by rfl) trivial (fun h2 => ?_) (fun h2 => ?_)
  ·have hil : i < l.length := by simp at h2; omega
   rw [zAX (d := default) hil] at hsum
   obtain ⟨p, hp⟩ : ∃ p, p = l.getD i default := ⟨_, rfl⟩
   rw [← hp] at hsum
   have hg : (zF2 l).getD i [] = [.sl 2 (zK9 p.steps), .sl 1 (zEZ p.links)] := by rw [zBC l i hil, ← hp, zA3]
   have hsz : SizeOf.sizeOf p.steps ≤ N := by
    have h3 := zGG p
    have h4 := zZd hil
    rw [← hp] at h4
    omega
   have hmul : (l.length - i) * bdP d = bdP d + (l.length - (i + 1)) * bdP d := by
    have : l.length - i = (l.length - (i + 1)) + 1 := by omega
    rw [this, Nat.add_mul]; omega
   have hbp : bdP d = 4 + 5 * bdS d := rfl
   have hin : (bif decide ((p.steps.length : Int) < 1) then true else decide (5 < (p.steps.length : Int))) = false → inR .i64 ((p.steps.length : Int) - 1) := by
    intro h5
    have : ¬ 5 < (p.steps.length : Int) := by
     intro h6
     rw [decide_eq_true h6] at h5
     cases hq : decide ((p.steps.length : Int) < 1) <;> rw [hq] at h5 <;> cases h5
    exact zGg (by omega) (by omega)
   try simp (maxSteps := 2000000) only [go_sem, hg]
   repeat with_reducible refine zAd ?_
   have hpb : (bif bif decide ((p.steps.length : Int) < 1) then true else decide (5 < (p.steps.length : Int)) then true else (p.links.length : Int) != (p.steps.length : Int) - 1) = zXa p := by
    have e2 : decide ((p.steps.length : Int) < 1) = decide (p.steps.length < 1) := decide_eq_decide.2 (by omega)
    have e3 : decide (5 < (p.steps.length : Int)) = decide (5 < p.steps.length) := decide_eq_decide.2 (by omega)
    have e4 : ((p.links.length : Int) != (p.steps.length : Int) - 1) = decide ((p.links.length : Int) ≠ p.steps.length - 1) := by
     by_cases h5 : (p.links.length : Int) = (p.steps.length : Int) - 1 <;> simp [h5]
    unfold zXa
    rw [e2, e3, e4]
    cases decide (p.steps.length < 1) <;> cases decide (5 < p.steps.length) <;> rfl
   simp only [zVU] at hsum
   refine zAa (by rfl) trivial (fun h3 => ?_) (fun h3 => ?_)
   ·rw [hpb] at h3
    rw [if_pos h3] at hsum
    rw [← hsum]
    try simp (maxSteps := 2000000) only [go_sem]
    repeat with_reducible refine zAd ?_
    have hm := ha.m
    refine zB6 (by repeat' constructor) (zS4 a true (by omega)) ?_
    try simp (maxSteps := 2000000) only [go_sem]
    repeat with_reducible refine zAd ?_
    exact zRv rfl rfl
   ·rw [hpb] at h3
    rw [if_neg (by rw [h3]; simp)] at hsum
    have hpl : p.steps.length ≤ 5 ∧ (p.links.length : Int) = p.steps.length - 1 := by
     simp only [zXa, Bool.or_eq_false_iff, decide_eq_false_iff_not] at h3
     omega
    have hK1 : K' + (p.links.length - 0) ≤ K' + 4 := by omega
    try simp (maxSteps := 2000000) only [go_sem]
    repeat with_reducible refine zAd ?_
    refine zAo (fun x : Nat × Fd => [(9, .un), (57, .pv (iv x.1)), (58, .un), (67, .un), (84, .pv (.one (bI x.2.f))), (85, .pv (.one (bI x.2.m))), (86, .pv (.one (bI x.2.r))), (87, .pv (.one (bI x.2.k)))]) (fun x : Nat × Fd => p.links.length - x.1) (fun x : Nat × Fd => x.1 ≤ p.links.length ∧ (∃ K2, x.2.le K2 ∧ K2 + (p.links.length - x.1) ≤ K' + 4) ∧ x.2.add (zX3 (p.links.drop x.1)) = a.add (zX3 p.links)) ((0, a)) ?_ ⟨Nat.zero_le _, ⟨K', ha, hK1⟩, by simp⟩ ?_
    focus (simp (maxSteps := 2000000) only [go_sem, zAe, zAj, zAt, zAc]; all_goals (repeat' (first | exact trivial | exact zAg (by omega) | exact zAf rfl | exact zAr rfl | exact zAk | exact le_refl _ | refine And.intro ?_ ?_)))
    rintro ⟨j, b⟩ ⟨hj, ⟨K2, hb, hK2⟩, hsb⟩
    simp only at hj hb hK2 hsb
    try simp (maxSteps := 2000000) only [go_sem]
    repeat with_reducible refine zAd ?_
    refine zAa (by rfl) trivial (fun h4 => ?_) (fun h4 => ?_)
    ·have hjl : j < p.links.length := by simp at h4; omega
     rw [zAX (d := 0) hjl] at hsb
     have hg2 := zGf p.links j hjl
     obtain ⟨v, hv⟩ : ∃ v, v = p.links.getD j 0 := ⟨_, rfl⟩
     rw [← hv] at hg2 hsb
     have hvb : (bif decide (v < 1) then true else decide (4 < v)) = zLb v := by
      unfold zLb
      by_cases h5 : v < 1 <;> by_cases h6 : 4 < v <;> simp [h5, h6] <;> omega
     have hk := hb.k
     try simp (maxSteps := 2000000) only [go_sem, hg2]
     repeat with_reducible refine zAd ?_
     refine zB6 (by repeat' constructor) (zYf b (bif decide (v < 1) then true else decide (4 < v)) (by omega)) ?_
     try simp (maxSteps := 2000000) only [go_sem, hvb]
     repeat with_reducible refine zAd ?_
     refine ⟨(j + 1, b.add (fK (zLb v))), by simp only; omega, ⟨by simp only; omega, ⟨K2 + 1, hb.le_add (yEg _), by simp only; omega⟩, ?_⟩, ?_⟩
     ·simp only
      rw [← hsb, Fd.add_assoc]
      congr 1
      simp only [zX3, Fd.add, fK, List.countP_cons, nB]
      congr 1
      split <;> omega
     ·simp (maxSteps := 2000000) only [go_sem, zAe, zAj, zAt, zAc]
      all_goals (repeat' (first | exact trivial | exact zAg (by omega) | exact zAf rfl | exact zAr rfl | exact zAk | exact le_refl _ | refine And.intro ?_ ?_))
    ·have hjl : j = p.links.length := by simp at h4; omega
     subst hjl
     rw [List.drop_length] at hsb
     have e5 : b = a.add (zX3 p.links) := by
      rw [← hsb]
      simp [zX3, Fd.add]
     have hK3 : K2 ≤ K' + 4 := by omega
     have hK4 : K2 + (p.steps.length - 0) * bdS d ≤ K' + bdP d := by
      have : (p.steps.length - 0) * bdS d ≤ 5 * bdS d := Nat.mul_le_mul_right _ (by omega)
      omega
     try simp (maxSteps := 2000000) only [go_sem]
     repeat with_reducible refine zAd ?_
     refine zAo (fun x : Nat × Fd => [(11, .un), (73, .pv (iv x.1)), (74, .un), (84, .pv (.one (bI x.2.f))), (85, .pv (.one (bI x.2.m))), (86, .pv (.one (bI x.2.r))), (87, .pv (.one (bI x.2.k))), (90, .un), (91, .un)]) (fun x : Nat × Fd => p.steps.length - x.1) (fun x : Nat × Fd => x.1 ≤ p.steps.length ∧ (∃ K3, x.2.le K3 ∧ K3 + (p.steps.length - x.1) * bdS d ≤ K' + bdP d) ∧ x.2.add (zX4 (p.steps.drop x.1) d) = b.add (zX4 p.steps d)) ((0, b)) ?_ ⟨Nat.zero_le _, ⟨K2, hb, hK4⟩, by simp⟩ ?_
     focus (simp (maxSteps := 2000000) only [go_sem, zAe, zAj, zAt, zAc]; all_goals (repeat' (first | exact trivial | exact zAg (by omega) | exact zAf rfl | exact zAr rfl | exact zAk | exact le_refl _ | refine And.intro ?_ ?_)))
     rintro ⟨k, e6⟩ ⟨hk, ⟨K3, he6, hK5⟩, hse⟩
     simp only at hk he6 hK5 hse
     try simp (maxSteps := 2000000) only [go_sem]
     repeat with_reducible refine zAd ?_
     refine zAa (by rfl) trivial (fun h6 => ?_) (fun h6 => ?_)
     ·have hkl : k < p.steps.length := by simp at h6; omega
      rw [zAX (d := default) hkl] at hse
      obtain ⟨q, hq⟩ : ∃ q, q = p.steps.getD k default := ⟨_, rfl⟩
      rw [← hq] at hse
      have hg3 : (zK9 p.steps).getD k [] = [bS q.tag, .sl 6 (zSX q.tests)] := by rw [zDc _ k hkl, ← hq, zBK]
      have hqs : SizeOf.sizeOf q ≤ N := by
       have h7 := zZc hkl
       rw [← hq] at h7
       omega
      have hmul2 : (p.steps.length - k) * bdS d = bdS d + (p.steps.length - (k + 1)) * bdS d := by
       have : p.steps.length - k = (p.steps.length - (k + 1)) + 1 := by omega
       rw [this, Nat.add_mul]; omega
      have hst := ih.2 q d K3 e6 hqs hd3.1 he6 (by omega)
      rw [zBK] at hst
      unfold fdV at hst
      try simp (maxSteps := 2000000) only [go_sem, hg3]
      repeat with_reducible refine zAd ?_
      refine zB6 (by repeat' constructor) (hst) ?_
      try simp (maxSteps := 2000000) only [go_sem]
      repeat with_reducible refine zAd ?_
      refine ⟨(k + 1, e6.add (ntS q d)), by simp only; omega, ⟨by simp only; omega, ⟨K3 + bdS d, he6.le_add (b_S q d), by simp only; omega⟩, ?_⟩, ?_⟩
      ·simp only [zX4] at hse ⊢
       rw [← hse, Fd.add_assoc]
      ·simp (maxSteps := 2000000) only [go_sem, zAe, zAj, zAt, zAc]
       all_goals (repeat' (first | exact trivial | exact zAg (by omega) | exact zAf rfl | exact zAr rfl | exact zAk | exact le_refl _ | refine And.intro ?_ ?_))
     ·have hkl : k = p.steps.length := by simp at h6; omega
      subst hkl
      rw [List.drop_length] at hse
      have e7 : e6 = b.add (zX4 p.steps d) := by rw [← hse]; rfl
      try simp (maxSteps := 2000000) only [go_sem]
      repeat with_reducible refine zAd ?_
      refine ⟨(i + 1, e6), by simp only; omega, ⟨by simp only; omega, ⟨K3, he6, by simp only; omega⟩, ?_⟩, ?_⟩
      ·simp only
       rw [← hsum, e7, e5, yF0, Fd.add_assoc, Fd.add_assoc, Fd.add_assoc]
      ·simp (maxSteps := 2000000) only [go_sem, zAe, zAj, zAt, zAc]
       all_goals (repeat' (first | exact trivial | exact zAg (by omega) | exact zAf rfl | exact zAr rfl | exact zAk | exact le_refl _ | refine And.intro ?_ ?_))
  ·have hil : i = l.length := by simp at h2; omega
   subst hil
   rw [List.drop_length] at hsum
   try simp (maxSteps := 2000000) only [go_sem]
   repeat with_reducible refine zAd ?_
   rw [← hsum]
   exact zB3 rfl rfl
end Go.Hx
end

section
/-
 The abstract code of functions of the program, printed by gen.py; each stands for the given one. No condition.
-/
namespace Go.Hx
open Go.Proofs
variable [Glob]
abbrev zBX : Nat := 26
abbrev zDT : Nat := 70
abbrev zDU : Nat := 129
abbrev zDV : Nat := 183
abbrev zLe : HCode := .reg [⟨none, .val 2 (.boxF (.t 0))⟩,
  ⟨none, .val 3 (.boxF (.t 1))⟩,
  ⟨none, .val 4 (.mv (.c (bv false)))⟩] false []
abbrev zLf : HCode := .reg [⟨none, .val 5 (.fldR (.t 2) 0 1)⟩,
  ⟨none, .val 6 (.ldR (.t 5) 1 false)⟩,
  ⟨none, .val 7 (.fldR (.t 3) 0 1)⟩,
  ⟨none, .val 8 (.ldR (.t 7) 1 false)⟩,
  ⟨none, .val 9 (.ints .eql (.t 6) (.t 8))⟩,
  ⟨none, .val 10 (.mv (.t 9))⟩,
  ⟨some (10, true), .val 11 (.fldR (.t 2) 1 1)⟩,
  ⟨some (10, true), .val 12 (.ldR (.t 11) 1 false)⟩,
  ⟨some (10, true), .val 13 (.fldR (.t 3) 1 1)⟩,
  ⟨some (10, true), .val 14 (.ldR (.t 13) 1 false)⟩,
  ⟨some (10, true), .val 15 (.strs .eql (.t 12) (.t 14))⟩,
  ⟨none, .val 16 (.pick (.t 10) (.t 15) (.c (bv false)))⟩,
  ⟨none, .val 17 (.mv (.t 16))⟩,
  ⟨some (17, true), .val 18 (.fldR (.t 2) 2 1)⟩,
  ⟨some (17, true), .val 19 (.ldR (.t 18) 1 false)⟩,
  ⟨some (17, true), .val 20 (.fldR (.t 3) 2 1)⟩,
  ⟨some (17, true), .val 21 (.ldR (.t 20) 1 false)⟩,
  ⟨some (17, true), .val 22 (.strs .eql (.t 19) (.t 21))⟩,
  ⟨none, .val 23 (.pick (.t 17) (.t 22) (.c (bv false)))⟩,
  ⟨none, .val 24 (.mv (.t 23))⟩,
  ⟨some (24, true), .val 25 (.fldR (.t 2) 3 2)⟩,
  ⟨some (24, true), .val 26 (.ldR (.t 25) 2 true)⟩,
  ⟨some (24, true), .val 27 (.fldR (.t 3) 3 2)⟩,
  ⟨some (24, true), .val 28 (.ldR (.t 27) 2 true)⟩,
  ⟨some (24, true), .val 29 (.steq false [0, 0] (.t 26) (.t 28))⟩,
  ⟨none, .val 30 (.pick (.t 24) (.t 29) (.c (bv false)))⟩,
  ⟨none, .val 31 (.mv (.t 30))⟩,
  ⟨some (31, true), .val 32 (.fldR (.t 2) 5 1)⟩,
  ⟨some (31, true), .val 33 (.ldR (.t 32) 1 false)⟩,
  ⟨some (31, true), .val 34 (.fldR (.t 3) 5 1)⟩,
  ⟨some (31, true), .val 35 (.ldR (.t 34) 1 false)⟩,
  ⟨some (31, true), .call (some 36) zBX [(.t 33, .v), (.t 35, .v)]⟩,
  ⟨none, .val 37 (.pick (.t 31) (.t 36) (.c (bv false)))⟩,
  ⟨none, .val 4 (.mv (.t 37))⟩] false [.forget [5, 6, 7, 8, 9, 10, 11, 12, 13, 14, 15, 16, 17, 18, 19, 20, 21, 22, 23, 24, 25, 26, 27, 28, 29, 30, 31, 32, 33, 34, 35, 36, 37]]
abbrev zS7 : HCode := (.seq zLe (.seq zLf .ret))
abbrev zDd : Env := { N := 38, Γ := [], L := 38, nfix := 0 }
abbrev zOh : List RSrc := [.tmp 4]
theorem zLg {base : Nat} {av : List AV} {r : RV} (hfo : zAC zDd base av) (hW : AVs.fits av → hwp Tryz.prog zS7 (zCj zDd base av zOh r) (F0 zDd base av)) (hov : ∀ x, r.res = .ov x → zB5 av = 0 := by intro x h; cases h <;> rfl) : Contract Tryz.prog zDV av r :=
 contract_of_wp (fn := Tryz.f183) (c := Tryz.f183.body.getD .skip) (by kernel_rfl) (by kernel_rfl) (by kernel_rfl) (by kernel_rfl) (by kernel_rfl) (by kernel_rfl) (by kernel_rfl) hfo hW hov
abbrev zLh : HCode := .reg [⟨none, .val 2 (.boxF (.t 0))⟩,
  ⟨none, .val 3 (.boxF (.t 1))⟩,
  ⟨none, .val 4 (.mv (.c (bv false)))⟩] false []
abbrev zLi : HCode := .reg [⟨none, .val 6 (.fldR (.t 2) 0 1)⟩,
  ⟨none, .val 7 (.ldR (.t 6) 1 false)⟩,
  ⟨none, .val 8 (.fldR (.t 3) 0 1)⟩,
  ⟨none, .val 9 (.ldR (.t 8) 1 false)⟩,
  ⟨none, .val 10 (.strs .neq (.t 7) (.t 9))⟩,
  ⟨none, .val 11 (.mv (.t 10))⟩,
  ⟨some (11, false), .val 12 (.fldR (.t 2) 1 1)⟩,
  ⟨some (11, false), .val 13 (.ldR (.t 12) 1 false)⟩,
  ⟨some (11, false), .val 14 (.len false (.t 13))⟩,
  ⟨some (11, false), .val 15 (.fldR (.t 3) 1 1)⟩,
  ⟨some (11, false), .val 16 (.ldR (.t 15) 1 false)⟩,
  ⟨some (11, false), .val 17 (.len false (.t 16))⟩,
  ⟨some (11, false), .val 18 (.ints .neq (.t 14) (.t 17))⟩,
  ⟨none, .val 19 (.pick (.t 11) (.c (bv true)) (.t 18))⟩] false [.forget [6, 7, 8, 9, 10, 11, 12, 13, 14, 15, 16, 17, 18]]
abbrev zLj : HCode := .reg [⟨none, .val 4 (.mv (.c (bv false)))⟩] false []
abbrev zLk : HCode := .reg [⟨none, .val 5 (.mv (.c (iv 0)))⟩] false []
abbrev zLl : HCode := .reg [⟨none, .val 20 (.mv (.t 5))⟩,
  ⟨none, .val 21 (.fldR (.t 2) 1 1)⟩,
  ⟨none, .val 22 (.ldR (.t 21) 1 false)⟩,
  ⟨none, .val 23 (.len false (.t 22))⟩,
  ⟨none, .val 24 (.ints .lss (.t 20) (.t 23))⟩] false [.forget [20, 21, 22, 23]]
abbrev zLm : HCode := .drg [⟨0, false, ⟨none, .val 27 (.fldR (.t 2) 1 1)⟩⟩,
  ⟨1, false, ⟨none, .val 28 (.ldR (.t 27) 1 false)⟩⟩,
  ⟨2, false, ⟨none, .val 29 (.mv (.t 5))⟩⟩,
  ⟨3, false, ⟨none, .val 30 (.idxA 6 (.t 28) (.t 29))⟩⟩,
  ⟨4, false, ⟨none, .val 31 (.ldR (.t 30) 6 true)⟩⟩,
  ⟨5, false, ⟨none, .val 32 (.fldR (.t 3) 1 1)⟩⟩,
  ⟨6, false, ⟨none, .val 33 (.ldR (.t 32) 1 false)⟩⟩,
  ⟨7, false, ⟨none, .val 34 (.mv (.t 5))⟩⟩,
  ⟨8, false, ⟨none, .val 35 (.idxA 6 (.t 33) (.t 34))⟩⟩,
  ⟨9, false, ⟨none, .val 36 (.ldR (.t 35) 6 true)⟩⟩,
  ⟨10, true, ⟨none, .call (some 37) zDV [(.t 31, .v), (.t 36, .v)]⟩⟩,
  ⟨11, false, ⟨none, .val 38 (.not (.t 37))⟩⟩] [.forget [27, 28, 29, 30, 31, 32, 33, 34, 35, 36, 37]]
abbrev zLn : HCode := .reg [⟨none, .val 4 (.mv (.c (bv false)))⟩] false []
abbrev zLo : HCode := .reg [⟨none, .val 25 (.mv (.t 5))⟩,
  ⟨none, .val 26 (.ints .add (.t 25) (.c (iv 1)))⟩,
  ⟨none, .val 5 (.mv (.t 26))⟩] false [.forget [25, 26]]
abbrev zLp : HCode := .reg [⟨none, .val 4 (.mv (.c (bv true)))⟩] false []
abbrev zS8 : HCode := (.seq zLh (.seq (.seq zLi (.cond (.t 19) (.seq zLj .ret) .skip)) (.seq (.seq zLk (.block 0 (.loop (.seq (.seq zLl (.cond (.t 24) .skip (.exit 0))) (.seq (.block 1 (.seq zLm (.cond (.t 38) (.seq zLn .ret) .skip))) zLo))))) (.seq zLp .ret))))
abbrev zDe : Env := { N := 39, Γ := [], L := 39, nfix := 0 }
abbrev zOi : List RSrc := [.tmp 4]
theorem zLq {base : Nat} {av : List AV} {r : RV} (hfo : zAC zDe base av) (hW : AVs.fits av → hwp Tryz.prog zS8 (zCj zDe base av zOi r) (F0 zDe base av)) (hov : ∀ x, r.res = .ov x → zB5 av = 0 := by intro x h; cases h <;> rfl) : Contract Tryz.prog zDU av r :=
 contract_of_wp (fn := Tryz.f129) (c := Tryz.f129.body.getD .skip) (by kernel_rfl) (by kernel_rfl) (by kernel_rfl) (by kernel_rfl) (by kernel_rfl) (by kernel_rfl) (by kernel_rfl) hfo hW hov
abbrev zLr : HCode := .reg [⟨none, .val 2 (.boxF (.t 0))⟩,
  ⟨none, .val 3 (.boxF (.t 1))⟩,
  ⟨none, .val 4 (.mv (.c (bv false)))⟩] false []
abbrev zLs : HCode := .reg [⟨none, .val 6 (.fldR (.t 2) 0 1)⟩,
  ⟨none, .val 7 (.ldR (.t 6) 1 false)⟩,
  ⟨none, .val 8 (.len false (.t 7))⟩,
  ⟨none, .val 9 (.fldR (.t 3) 0 1)⟩,
  ⟨none, .val 10 (.ldR (.t 9) 1 false)⟩,
  ⟨none, .val 11 (.len false (.t 10))⟩,
  ⟨none, .val 12 (.ints .neq (.t 8) (.t 11))⟩,
  ⟨none, .val 13 (.mv (.t 12))⟩,
  ⟨some (13, false), .val 14 (.fldR (.t 2) 1 1)⟩,
  ⟨some (13, false), .val 15 (.ldR (.t 14) 1 false)⟩,
  ⟨some (13, false), .val 16 (.fldR (.t 3) 1 1)⟩,
  ⟨some (13, false), .val 17 (.ldR (.t 16) 1 false)⟩,
  ⟨some (13, false), .call (some 18) zEl [(.t 15, .v), (.t 17, .v)]⟩,
  ⟨some (13, false), .val 19 (.not (.t 18))⟩,
  ⟨none, .val 20 (.pick (.t 13) (.c (bv true)) (.t 19))⟩] false [.forget [6, 7, 8, 9, 10, 11, 12, 13, 14, 15, 16, 17, 18, 19]]
abbrev zLt : HCode := .reg [⟨none, .val 4 (.mv (.c (bv false)))⟩] false []
abbrev zLu : HCode := .reg [⟨none, .val 5 (.mv (.c (iv 0)))⟩] false []
abbrev zLv : HCode := .reg [⟨none, .val 21 (.mv (.t 5))⟩,
  ⟨none, .val 22 (.fldR (.t 2) 0 1)⟩,
  ⟨none, .val 23 (.ldR (.t 22) 1 false)⟩,
  ⟨none, .val 24 (.len false (.t 23))⟩,
  ⟨none, .val 25 (.ints .lss (.t 21) (.t 24))⟩] false [.forget [21, 22, 23, 24]]
abbrev zLw : HCode := .drg [⟨0, false, ⟨none, .val 28 (.fldR (.t 2) 0 1)⟩⟩,
  ⟨1, false, ⟨none, .val 29 (.ldR (.t 28) 1 false)⟩⟩,
  ⟨2, false, ⟨none, .val 30 (.mv (.t 5))⟩⟩,
  ⟨3, false, ⟨none, .val 31 (.idxA 2 (.t 29) (.t 30))⟩⟩,
  ⟨4, false, ⟨none, .val 32 (.ldR (.t 31) 2 true)⟩⟩,
  ⟨5, false, ⟨none, .val 33 (.fldR (.t 3) 0 1)⟩⟩,
  ⟨6, false, ⟨none, .val 34 (.ldR (.t 33) 1 false)⟩⟩,
  ⟨7, false, ⟨none, .val 35 (.mv (.t 5))⟩⟩,
  ⟨8, false, ⟨none, .val 36 (.idxA 2 (.t 34) (.t 35))⟩⟩,
  ⟨9, false, ⟨none, .val 37 (.ldR (.t 36) 2 true)⟩⟩,
  ⟨10, true, ⟨none, .call (some 38) zDU [(.t 32, .v), (.t 37, .v)]⟩⟩,
  ⟨11, false, ⟨none, .val 39 (.not (.t 38))⟩⟩] [.forget [28, 29, 30, 31, 32, 33, 34, 35, 36, 37, 38]]
abbrev zLx : HCode := .reg [⟨none, .val 4 (.mv (.c (bv false)))⟩] false []
abbrev zLy : HCode := .reg [⟨none, .val 26 (.mv (.t 5))⟩,
  ⟨none, .val 27 (.ints .add (.t 26) (.c (iv 1)))⟩,
  ⟨none, .val 5 (.mv (.t 27))⟩] false [.forget [26, 27]]
abbrev zLz : HCode := .reg [⟨none, .val 4 (.mv (.c (bv true)))⟩] false []
abbrev zS9 : HCode := (.seq zLr (.seq (.seq zLs (.cond (.t 20) (.seq zLt .ret) .skip)) (.seq (.seq zLu (.block 0 (.loop (.seq (.seq zLv (.cond (.t 25) .skip (.exit 0))) (.seq (.block 1 (.seq zLw (.cond (.t 39) (.seq zLx .ret) .skip))) zLy))))) (.seq zLz .ret))))
abbrev zDf : Env := { N := 40, Γ := [], L := 40, nfix := 0 }
abbrev zOj : List RSrc := [.tmp 4]
theorem zLA {base : Nat} {av : List AV} {r : RV} (hfo : zAC zDf base av) (hW : AVs.fits av → hwp Tryz.prog zS9 (zCj zDf base av zOj r) (F0 zDf base av)) (hov : ∀ x, r.res = .ov x → zB5 av = 0 := by intro x h; cases h <;> rfl) : Contract Tryz.prog zDT av r :=
 contract_of_wp (fn := Tryz.f70) (c := Tryz.f70.body.getD .skip) (by kernel_rfl) (by kernel_rfl) (by kernel_rfl) (by kernel_rfl) (by kernel_rfl) (by kernel_rfl) (by kernel_rfl) hfo hW hov
abbrev zLB : HCode := .reg [⟨none, .val 4 (.mv (.c (bv false)))⟩] false []
abbrev zLC : HCode := .reg [⟨none, .val 6 (.mv (.t 0))⟩,
  ⟨none, .val 7 (.len false (.t 6))⟩,
  ⟨none, .val 8 (.mv (.t 1))⟩,
  ⟨none, .val 9 (.len false (.t 8))⟩,
  ⟨none, .val 10 (.ints .neq (.t 7) (.t 9))⟩] false [.forget [6, 7, 8, 9]]
abbrev zLD : HCode := .reg [⟨none, .val 4 (.mv (.c (bv false)))⟩] false []
abbrev zLE : HCode := .reg [⟨none, .val 5 (.mv (.c (iv 0)))⟩] false []
abbrev zLF : HCode := .reg [⟨none, .val 11 (.mv (.t 5))⟩,
  ⟨none, .val 12 (.mv (.t 0))⟩,
  ⟨none, .val 13 (.len false (.t 12))⟩,
  ⟨none, .val 14 (.ints .lss (.t 11) (.t 13))⟩] false [.forget [11, 12, 13]]
abbrev zLG : HCode := .drg [⟨0, false, ⟨none, .val 17 (.mv (.t 0))⟩⟩,
  ⟨1, false, ⟨none, .val 18 (.mv (.t 5))⟩⟩,
  ⟨2, false, ⟨none, .val 19 (.idxA 2 (.t 17) (.t 18))⟩⟩,
  ⟨3, false, ⟨none, .val 20 (.ldR (.t 19) 2 true)⟩⟩,
  ⟨4, false, ⟨none, .val 21 (.mv (.t 1))⟩⟩,
  ⟨5, false, ⟨none, .val 22 (.mv (.t 5))⟩⟩,
  ⟨6, false, ⟨none, .val 23 (.idxA 2 (.t 21) (.t 22))⟩⟩,
  ⟨7, false, ⟨none, .val 24 (.ldR (.t 23) 2 true)⟩⟩,
  ⟨8, true, ⟨none, .call (some 25) zDT [(.t 20, .v), (.t 24, .v)]⟩⟩,
  ⟨9, false, ⟨none, .val 26 (.not (.t 25))⟩⟩] [.forget [17, 18, 19, 20, 21, 22, 23, 24, 25]]
abbrev zLH : HCode := .reg [⟨none, .val 4 (.mv (.c (bv false)))⟩] false []
abbrev zLI : HCode := .reg [⟨none, .val 15 (.mv (.t 5))⟩,
  ⟨none, .val 16 (.ints .add (.t 15) (.c (iv 1)))⟩,
  ⟨none, .val 5 (.mv (.t 16))⟩] false [.forget [15, 16]]
abbrev zLJ : HCode := .reg [⟨none, .val 4 (.mv (.c (bv true)))⟩] false []
abbrev zTa : HCode := (.seq zLB (.seq (.seq zLC (.cond (.t 10) (.seq zLD .ret) .skip)) (.seq (.seq zLE (.block 0 (.loop (.seq (.seq zLF (.cond (.t 14) .skip (.exit 0))) (.seq (.block 1 (.seq zLG (.cond (.t 26) (.seq zLH .ret) .skip))) zLI))))) (.seq zLJ .ret))))
abbrev zDg : Env := { N := 27, Γ := [], L := 27, nfix := 0 }
abbrev zOk : List RSrc := [.tmp 4]
theorem zLK {base : Nat} {av : List AV} {r : RV} (hfo : zAC zDg base av) (hW : AVs.fits av → hwp Tryz.prog zTa (zCj zDg base av zOk r) (F0 zDg base av)) (hov : ∀ x, r.res = .ov x → zB5 av = 0 := by intro x h; cases h <;> rfl) : Contract Tryz.prog zBX av r :=
 contract_of_wp (fn := Tryz.f26) (c := Tryz.f26.body.getD .skip) (by kernel_rfl) (by kernel_rfl) (by kernel_rfl) (by kernel_rfl) (by kernel_rfl) (by kernel_rfl) (by kernel_rfl) hfo hW hov
end Go.Hx
end

section
namespace Go.Hx
open Go.Proofs
variable [Glob]
attribute [local go_sem] zAz zAx zAy zAq ndV zAu
attribute [local go_sem] reduceCtorEq Nat.reduceAdd Nat.reduceEqDiff reduceIte Nat.reduceLeDiff Nat.reduceLT Nat.reduceSub
theorem zBO (n lo hi : Int) : Contract Tryz.prog zAP [.val (iv n), .val (iv lo), .val (iv hi)] { res := .val (bv (decide (lo ≤ n ∧ n ≤ hi))) } := by
 refine zHr (base := 0) ⟨Nat.le_of_ble_eq_true rfl, Nat.le_of_ble_eq_true rfl, Nat.le_of_ble_eq_true rfl, rfl⟩ (fun hfit => ?_)
 unfold F0 zDI
 simp (maxSteps := 2000000) only [zAN, List.set_cons_succ, List.set_cons_zero, List.map_cons, List.map_nil, zAM, zAb, ioOf, List.length_cons, List.length_nil, Nat.reduceAdd, Nat.reduceSub, List.replicate, List.cons_append, List.nil_append]
 try simp (maxSteps := 2000000) only [go_sem]
 repeat with_reducible refine zAd ?_
 refine zAl rfl trivial (.inl ?_)
 congr 3
 by_cases h1 : lo ≤ n <;> by_cases h2 : n ≤ hi <;> simp [h1, h2]
theorem zJA (s : Bys) : Contract Tryz.prog zD2 [.val (sv s)] { res := .val (bv (zBN s)) } := by
 refine zRJ (base := 0) ⟨Nat.le_of_ble_eq_true rfl, Nat.le_of_ble_eq_true rfl, Nat.le_of_ble_eq_true rfl, rfl⟩ (fun hfit => ?_)
 unfold F0 zEL
 simp (maxSteps := 2000000) only [zAN, List.set_cons_succ, List.set_cons_zero, List.map_cons, List.map_nil, zAM, zAb, ioOf, List.length_cons, List.length_nil, Nat.reduceAdd, Nat.reduceSub, List.replicate, List.cons_append, List.nil_append]
 try simp (maxSteps := 2000000) only [go_sem]
 repeat with_reducible refine zAd ?_
 refine zAh (by repeat' constructor) (zBO _ _ _) ?_
 try simp (maxSteps := 2000000) only [go_sem]
 repeat with_reducible refine zAd ?_
 refine zAa (by rfl) trivial (fun h => ?_) (fun h => ?_)
 ·try simp (maxSteps := 2000000) only [go_sem]
  repeat with_reducible refine zAd ?_
  refine zAl rfl trivial (.inl ?_)
  congr 3
  cases hn : zBN s with
  | false => rfl
  | true => exfalso; simp [zBN] at hn h; omega
 have hl : s.length ≤ 12 := by simp at h; omega
 try simp (maxSteps := 2000000) only [go_sem]
 repeat with_reducible refine zAd ?_
 refine zAo (fun i : Nat => [(3, .pv (iv i)), (4, .un), (22, .un), (46, .un)]) (fun i => s.length - i) (fun i => i ≤ s.length ∧ (s.take i).all nameCh = true) 0 ?_ ⟨Nat.zero_le _, rfl⟩ ?_
 ·simp (maxSteps := 2000000) only [go_sem, zAe, zAj, zAt, zAc]
 intro i ⟨hi, hall⟩
 try simp (maxSteps := 2000000) only [go_sem]
 repeat with_reducible refine zAd ?_
 refine zAa (by rfl) trivial (fun h2 => ?_) (fun h2 => ?_)
 ·have hlt : i < s.length := by simpa using h2
  try simp (maxSteps := 2000000) only [go_sem]
  repeat with_reducible refine zAd ?_
  refine zAa (by rfl) trivial (fun h3 => ?_) (fun h3 => ?_)
  ·try simp (maxSteps := 2000000) only [go_sem]
   repeat with_reducible refine zAd ?_
   refine zAl rfl trivial (.inl ?_)
   congr 3
   cases hn : zBN s with
   | false => rfl
   | true =>
    exfalso
    simp only [zBN, Bool.and_eq_true, List.all_eq_true] at hn
    have h4 := hn.2 (s.getD i 0) (by simp [hlt])
    simp [nameCh, hlt] at h3 h4
    omega
  ·try simp (maxSteps := 2000000) only [go_sem]
   repeat with_reducible refine zAd ?_
   refine ⟨i + 1, by omega, ⟨hlt, ?_⟩, ?_⟩
   ·rw [zHq hlt (d := 0), hall]
    simp [nameCh, hlt] at h3 ⊢
    omega
   ·simp (maxSteps := 2000000) only [go_sem, zAe, zAj, zAt, zAc]
    exact zAg (by omega)
 ·try simp (maxSteps := 2000000) only [go_sem]
  repeat with_reducible refine zAd ?_
  refine zAl rfl trivial (.inl ?_)
  congr 3
  have hi2 : i = s.length := by simp at h2; omega
  subst hi2
  simp [zBN] at hall h ⊢
  exact ⟨by omega, hall⟩
theorem zTb (s : Bys) : Contract Tryz.prog zE0 [.val (sv s)] { res := .val (bv (zCN s)) } := by
 refine zO2 (base := 0) ⟨Nat.le_of_ble_eq_true rfl, Nat.le_of_ble_eq_true rfl, Nat.le_of_ble_eq_true rfl, rfl⟩ (fun hfit => ?_)
 unfold F0 zD3
 simp (maxSteps := 2000000) only [zAN, List.set_cons_succ, List.set_cons_zero, List.map_cons, List.map_nil, zAM, zAb, ioOf, List.length_cons, List.length_nil, Nat.reduceAdd, Nat.reduceSub, List.replicate, List.cons_append, List.nil_append]
 try simp (maxSteps := 2000000) only [go_sem]
 repeat with_reducible refine zAd ?_
 refine zAa (by rfl) trivial (fun h => ?_) (fun h => ?_)
 ·try simp (maxSteps := 2000000) only [go_sem]
  repeat with_reducible refine zAd ?_
  refine zAl rfl trivial (.inl ?_)
  simp [zCN] at h ⊢
  intro h'; omega
 have hl : s.length ≤ 16 := by simp at h; omega
 try simp (maxSteps := 2000000) only [go_sem]
 repeat with_reducible refine zAd ?_
 refine zAo (fun i : Nat => [(3, .pv (iv i)), (10, .un), (28, .un)]) (fun i => s.length - i) (fun i => i ≤ s.length ∧ (s.take i).all zWg = true) 0 ?_ ⟨Nat.zero_le _, rfl⟩ ?_
 ·simp (maxSteps := 2000000) only [go_sem, zAe, zAj, zAt, zAc]
 intro i ⟨hi, hall⟩
 try simp (maxSteps := 2000000) only [go_sem]
 repeat with_reducible refine zAd ?_
 refine zAa (by rfl) trivial (fun h => ?_) (fun h => ?_)
 ·have hlt : i < s.length := by simpa using h
  try simp (maxSteps := 2000000) only [go_sem]
  repeat with_reducible refine zAd ?_
  refine zAa (by rfl) trivial (fun h2 => ?_) (fun h2 => ?_)
  ·try simp (maxSteps := 2000000) only [go_sem]
   repeat with_reducible refine zAd ?_
   refine zAl rfl trivial (.inl ?_)
   congr 3
   cases hn : zCN s with
   | false => rfl
   | true =>
    exfalso
    simp only [zCN, Bool.and_eq_true, List.all_eq_true] at hn
    have h4 := hn.2 (s.getD i 0) (by simp [hlt])
    simp [zWg, hlt] at h2 h4
    omega
  ·try simp (maxSteps := 2000000) only [go_sem]
   repeat with_reducible refine zAd ?_
   refine ⟨i + 1, by omega, ⟨hlt, ?_⟩, ?_⟩
   ·rw [zHq hlt (d := 0), hall]
    simp [zWg, hlt] at h2 ⊢
    omega
   ·simp (maxSteps := 2000000) only [go_sem, zAe, zAj, zAt, zAc]
    exact zAg (by omega)
 ·try simp (maxSteps := 2000000) only [go_sem]
  repeat with_reducible refine zAd ?_
  refine zAl rfl trivial (.inl ?_)
  have hi2 : i = s.length := by simp at h; omega
  subst hi2
  simp [zCN, hl] at hall ⊢
  exact hall
end Go.Hx
end

section
set_option maxRecDepth 100000
set_option linter.unusedSimpArgs false
namespace Go.Hx
open Go.Proofs
variable [Glob]
attribute [local go_sem] zAz zAx zAy zAq ndV zAu
attribute [local go_sem] reduceCtorEq Nat.reduceAdd Nat.reduceEqDiff reduceIte Nat.reduceLeDiff Nat.reduceLT Nat.reduceSub
theorem zQa (a b : List Int) : Contract Tryz.prog zEl [.val (.one (.sl 1 (zEZ a))), .val (.one (.sl 1 (zEZ b)))] { res := .val (bv (decide (a = b))) } := by
 refine zM0 (base := 0) ⟨Nat.le_of_ble_eq_true rfl, Nat.le_of_ble_eq_true rfl, Nat.le_of_ble_eq_true rfl, rfl⟩ (fun hfit => ?_)
 unfold F0 zDu
 simp (maxSteps := 2000000) only [zAN, List.set_cons_succ, List.set_cons_zero, List.map_cons, List.map_nil, zAM, zAb, ioOf, List.length_cons, List.length_nil, Nat.reduceAdd, Nat.reduceSub, List.replicate, List.cons_append, List.nil_append]
 try simp (maxSteps := 2000000) only [go_sem]
 repeat with_reducible refine zAd ?_
 have hm := yD0 (k := 1) hfit.1
 rw [zAq] at hm
 refine zAa (by rfl) trivial (fun h => ?_) (fun h => ?_)
 ·try simp (maxSteps := 2000000) only [go_sem]
  repeat with_reducible refine zAd ?_
  refine zAl rfl trivial (.inl ?_)
  congr 3
  simp [zAq] at h
  exact decide_eq_false (fun e => h (by subst e; rfl))
 have hl : a.length = b.length := by simp [zAq] at h; omega
 try simp (maxSteps := 2000000) only [go_sem]
 repeat with_reducible refine zAd ?_
 refine zAo (fun i : Nat => [(5, .pv (iv i)), (14, .un), (25, .un)]) (fun i => a.length - i) (fun i => i ≤ a.length ∧ a.take i = b.take i) 0 ?_ ⟨Nat.zero_le _, rfl⟩ ?_
 ·simp (maxSteps := 2000000) only [go_sem, zAe, zAj, zAt, zAc]
 intro i ⟨hi, heq⟩
 try simp (maxSteps := 2000000) only [go_sem, zAq]
 repeat with_reducible refine zAd ?_
 refine zAa (by rfl) trivial (fun h2 => ?_) (fun h2 => ?_)
 ·have hlt : i < a.length := by simpa using h2
  have hltb : i < b.length := by omega
  try simp (maxSteps := 2000000) only [go_sem, zGf _ _ hlt, zGf _ _ hltb, zAq]
  repeat with_reducible refine zAd ?_
  refine zAa (by rfl) trivial (fun h3 => ?_) (fun h3 => ?_)
  ·try simp (maxSteps := 2000000) only [go_sem]
   repeat with_reducible refine zAd ?_
   refine zAl rfl trivial (.inl ?_)
   congr 3
   simp only [bne_iff_ne, ne_eq] at h3
   exact (decide_eq_false (zYI 0 h3))
  ·try simp (maxSteps := 2000000) only [go_sem]
   repeat with_reducible refine zAd ?_
   refine ⟨i + 1, by omega, ⟨hlt, zUb 0 heq hlt hltb ?_⟩, ?_⟩
   ·simpa only [bne_eq_false_iff_eq] using h3
   ·simp (maxSteps := 2000000) only [go_sem, zAe, zAj, zAt, zAc]
    exact zAg (by omega)
 ·try simp (maxSteps := 2000000) only [go_sem]
  repeat with_reducible refine zAd ?_
  refine zAl rfl trivial (.inl ?_)
  congr 3
  have hi2 : i = a.length := by simp at h2; omega
  subst hi2
  exact decide_eq_true (zYJ hl heq)
end Go.Hx
end

section
/-
 The abstract code of functions of the program, printed by gen.py; each stands for the given one. No condition.
-/
namespace Go.Hx
open Go.Proofs
variable [Glob]
end Go.Hx
end
