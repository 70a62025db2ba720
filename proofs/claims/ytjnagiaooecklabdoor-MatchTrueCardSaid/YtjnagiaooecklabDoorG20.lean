/-
 The abstract code of look.path ahead of its loop, printed by gen.py; each piece stands for the given one. No condition.
-/
import Derived.Test.YtjnagiaooecklabDoorG11
import Derived.Test.YtjnagiaooecklabDoorG19
set_option linter.all false
namespace Go.Hx
open Go.Proofs
variable [Glob]
abbrev zEK : HCode := .reg [⟨none, .val 4 (.boxF (.t 0))⟩,
  ⟨none, .val 5 (.boxF (.t 1))⟩,
  ⟨none, .val 6 (.boxF (.t 2))⟩,
  ⟨none, .alloc 8 0 38 [.v (.bool false)]⟩] false []
abbrev zJE : HCode := .drg [⟨0, false, ⟨none, .val 10 (.ldR (.t 4) 1 false)⟩⟩,
  ⟨1, false, ⟨none, .val 11 (.fldR (.t 5) 0 1)⟩⟩,
  ⟨2, false, ⟨none, .val 12 (.ldR (.t 11) 1 false)⟩⟩,
  ⟨3, false, ⟨none, .val 13 (.ldR (.t 6) 1 false)⟩⟩,
  ⟨4, false, ⟨none, .val 14 (.ints .sub (.t 13) (.c (iv 1)))⟩⟩,
  ⟨5, false, ⟨none, .val 15 (.idxA 2 (.t 12) (.t 14))⟩⟩,
  ⟨6, false, ⟨none, .val 16 (.ldR (.t 15) 2 true)⟩⟩,
  ⟨7, false, ⟨none, .val 17 (.mv (.t 3))⟩⟩,
  ⟨8, true, ⟨none, .call (some 18) zBj [(.t 10, .v), (.t 16, .v), (.t 17, .v)]⟩⟩,
  ⟨9, false, ⟨none, .val 19 (.not (.t 18))⟩⟩] [.forget [10, 11, 12, 13, 14, 15, 16, 17, 18]]
abbrev zJF : HCode := .reg [⟨none, .sto (.t 8) 0 38 0 1 (.c (bv false))⟩] false []
abbrev zJG : HCode := .reg [⟨none, .val 20 (.ldR (.t 6) 1 false)⟩,
  ⟨none, .val 21 (.ints .eql (.t 20) (.c (iv 1)))⟩] false [.forget [20]]
abbrev zJH : HCode := .reg [⟨none, .sto (.t 8) 0 38 0 1 (.c (bv true))⟩] false []
abbrev zEL : HCode := .drg [⟨0, false, ⟨none, .val 22 (.ldR (.t 4) 1 false)⟩⟩,
  ⟨1, false, ⟨none, .val 23 (.fldR (.t 5) 1 1)⟩⟩,
  ⟨2, false, ⟨none, .val 24 (.ldR (.t 23) 1 false)⟩⟩,
  ⟨3, false, ⟨none, .val 25 (.ldR (.t 6) 1 false)⟩⟩,
  ⟨4, false, ⟨none, .val 26 (.ints .sub (.t 25) (.c (iv 2)))⟩⟩,
  ⟨5, false, ⟨none, .val 27 (.idxA 1 (.t 24) (.t 26))⟩⟩,
  ⟨6, false, ⟨none, .val 28 (.ldR (.t 27) 1 false)⟩⟩,
  ⟨7, false, ⟨none, .val 29 (.mv (.t 3))⟩⟩,
  ⟨8, true, ⟨none, .call (some 30) zCP [(.t 22, .v), (.t 28, .v), (.t 29, .v)]⟩⟩] [.forget [22, 23, 24, 25, 26, 27, 28, 29]]
abbrev match_look_path_E : Env := { N := 38, Γ := [(38, 1)], L := 39, nfix := 0 }
abbrev zBX : List RSrc := [.cellB 8 0 38 0 1 false]
abbrev lpX : HCode := .seq zJE (.cond (.t 19) (.seq zJF .ret) .skip)
abbrev lpY : HCode := .seq zJG (.cond (.t 21) (.seq zJH .ret) .skip)
abbrev lpA : HCode := .seq zEK (.seq lpX (.seq lpY zEL))
theorem yCv : zCW Tryd.prog match_look_path_E (cdL (Tryd.f18.body.getD .skip)) zEK = true := by kernel_rfl
theorem yCw : zCW Tryd.prog match_look_path_E (cdL (cdR (Tryd.f18.body.getD .skip))) lpX = true := by kernel_rfl
theorem yCx : zCW Tryd.prog match_look_path_E (cdL (cdR (cdR (Tryd.f18.body.getD .skip)))) lpY = true := by kernel_rfl
theorem yCy : zCW Tryd.prog match_look_path_E (cdL (cdL (cdR (cdR (cdR (Tryd.f18.body.getD .skip)))))) zEL = true := by kernel_rfl
theorem yCz : (Tryd.f18.body.getD .skip) = .seq (cdL (Tryd.f18.body.getD .skip)) (.seq (cdL (cdR (Tryd.f18.body.getD .skip))) (.seq (cdL (cdR (cdR (Tryd.f18.body.getD .skip)))) (.seq (.seq (cdL (cdL (cdR (cdR (cdR (Tryd.f18.body.getD .skip)))))) (cdR (cdL (cdR (cdR (cdR (Tryd.f18.body.getD .skip))))))) (cdR (cdR (cdR (cdR (Tryd.f18.body.getD .skip)))))))) := by kernel_rfl
theorem yCW : (match_look_path_E.ok && match_look_path_E.unaOk) = true := by kernel_rfl
theorem yCX : zEl Tryd.prog match_look_path_E zBX Tryd.f18.results.toList = true := by kernel_rfl
end Go.Hx
