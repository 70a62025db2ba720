/-
  Walks of functions of the program: each contract says what the function computes, for every input that its conditions let by. No other condition.
-/
import Derived.Test.YtjnagiaooecklaaDoorG16
import Derived.Test.YtjnagiaooecklaaDoorG17
set_option linter.all false
-- DOM getO
set_option maxRecDepth 100000
set_option linter.unusedSimpArgs false
namespace Go.Hx
open Go.Proofs Go.RowKit
variable [Glob]

attribute [local go_sem] ndsV_len clsV_len attV_len intsR_len ndV cellsEq getO
/-- A panic where little is known of the frame: two results in boxes, which the deferred closure writes. -/
theorem pan_two {P : Program} {base : Nat} {av : List AV} {F : List Ct} {i1 i2 B L : Nat} {c1 c2 : PV} {v : Value} {g : FuncId} (hl : F.length = L) (hB : B + 1 < L) (hi1 : i1 < B) (hi2 : i2 < B) (h1 : F.getD i1 .un = .ptr 0 0) (h2 : F.getD i2 .un = .ptr 1 0) (hio : ioOf av = none) (hp : DPan P g v [[c1], [c2]]) :
    finQD P base av [.cellB i1 0 B 0 1 true, .cellB i2 1 (B + 1) 0 1 false] { res := .tup [.agg [c1.norm], .one c2.norm] } g [⟨i1, 0, B, [c1]⟩, ⟨i2, 1, B + 1, [c2]⟩] (.panic [{ v, recovered := false }]) F := by
  have e : setBoxes F [⟨i1, 0, B, [c1]⟩, ⟨i2, 1, B + 1, [c2]⟩] = (F.set (B + 1) (.pv (.one c2))).set B (.pv (.one c1)) := rfl
  refine ⟨v, rfl, hp, ?_, fun cs h => by rw [hio] at h; cases h⟩
  rw [e]
  have k1 : ((F.set (B + 1) (.pv (.one c2))).set B (.pv (.one c1))).getD i1 .un = .ptr 0 0 := by
    rw [getD_set, if_neg (by omega), getD_set, if_neg (by omega)]; exact h1
  have k2 : ((F.set (B + 1) (.pv (.one c2))).set B (.pv (.one c1))).getD i2 .un = .ptr 1 0 := by
    rw [getD_set, if_neg (by omega), getD_set, if_neg (by omega)]; exact h2
  have k3 : ((F.set (B + 1) (.pv (.one c2))).set B (.pv (.one c1))).getD B .un = .pv (.one c1) := by
    rw [getD_set, if_pos (by rw [List.length_set]; omega)]
  have k4 : ((F.set (B + 1) (.pv (.one c2))).set B (.pv (.one c1))).getD (B + 1) .un = .pv (.one c2) := by
    rw [getD_set, if_neg (by omega), getD_set, if_pos (by omega)]
  refine ⟨rs_cellB k1 (cs := [c1.norm]) (by simp only [cellsPV, Nat.add_zero, k3]; rfl) (.inl rfl), rs_cellB k2 (cs := [c2.norm]) (by simp only [cellsPV, Nat.add_zero, k4]; rfl) (.inl rfl), ?_⟩
  rfl

/-! ### The strict reader: a document -/

def rdF : Nat → List Nd → List Int → Bys → Option (List Nd)
  | 0, _, _, _ => none
  | f + 1, d, op, s =>
    if s = [] then (if op = [] ∧ checkDoc d = 0 then some d else none)
    else if 64 < d.length then none
    else if signOk s [40] then
      match nodeRd ((d.length : Int) - 1) (signR s [40]) with
      | some (x, r) => rdF f (d ++ [x]) (op ++ [(d.length : Int) - 1]) r
      | none => none
    else if op = [] then none
    else if signOk s [41] then (if signOk (signR s [41]) [40] then none else rdF f d op.dropLast (signR s [41]))
    else if signOk s [32] then
      match nodeRd (op.getLastD 0) (signR s [32]) with
      | some (x, r) => rdF f (d ++ [x]) op r
      | none => none
    else none
def readD (s : Bys) : Option (List Nd) := match nodeRd (-1) s with
  | some (x, r) => rdF (r.length + 1) [x] [] r
  | none => none
/-- What Read gives. -/
def readRes (s : Bys) : RV := match readD s with
  | some d => { res := .tup [docV d, iv 0] }
  | none => { res := .tup [docV [], iv 1] }
end Go.Hx
