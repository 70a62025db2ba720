/-
  Walks of functions of the program over an abstract layer, and the laws that they use: each contract says what the function computes, for every input that its conditions let by. No other condition.
-/
import Derived.Test.YtjnagiaooecklabGreatDoorG18
import Derived.Test.YtjnagiaooecklabGreatDoorG28
import Derived.Test.YtjnagiaooecklabGreatDoorG13
set_option linter.all false
section
set_option maxRecDepth 100000
set_option linter.unusedSimpArgs false
namespace Go.Hx
open Go.Proofs
variable [Glob] [GlobL]
attribute [local go_sem] zAq zAo zAp zAg ndV zAl
attribute [local go_sem] reduceCtorEq Nat.reduceAdd Nat.reduceEqDiff reduceIte Nat.reduceLeDiff Nat.reduceLT Nat.reduceSub
theorem zIg (l : List Bys) (hl : l.length ≤ 64) : Contract Tryz.prog zB6 [.val (.one (.sl 1 (zPC l)))] { res := .own zHg 1 (zPC l) } := by
 refine mkA zGK (base := 0) (fo rfl) (fun hfit => ?_)
 unfold F0 zDE
 simp (maxSteps := 2000000) only [zAH, List.set_cons_succ, List.set_cons_zero, List.map_cons, List.map_nil, zAG, zAa, ioOf, List.length_cons, List.length_nil, Nat.reduceAdd, Nat.reduceSub, List.replicate, List.cons_append, List.nil_append]
 try simp (maxSteps := 2000000) only [go_sem]
 repeat with_reducible refine zAb ?_
 intro b hb
 refine zAc (by rfl) trivial (fun h => ?_) (fun h => ?_)
 ·try simp (maxSteps := 2000000) only [go_sem]
  repeat with_reducible refine zAb ?_
  have : zPC l = [] := by
   apply Classical.byContradiction
   intro h2; rw [hb h2] at h; cases h
  rw [this]
  exact zLK rfl
 ·try simp (maxSteps := 2000000) only [go_sem]
  repeat with_reducible refine zAb ?_
  exact zLK rfl
theorem zKg (l : List (Bys × Bys)) (hl : l.length ≤ 64) : Contract Tryz.prog zCw [.val (.one (.sl 2 (zYE l)))] { res := .own zEl 2 (zYE l) } := by
 refine mkA zIB (base := 0) (fo rfl) (fun hfit => ?_)
 unfold F0 zEm
 simp (maxSteps := 2000000) only [zAH, List.set_cons_succ, List.set_cons_zero, List.map_cons, List.map_nil, zAG, zAa, ioOf, List.length_cons, List.length_nil, Nat.reduceAdd, Nat.reduceSub, List.replicate, List.cons_append, List.nil_append]
 try simp (maxSteps := 2000000) only [go_sem]
 repeat with_reducible refine zAb ?_
 intro b hb
 refine zAc (by rfl) trivial (fun h => ?_) (fun h => ?_)
 ·try simp (maxSteps := 2000000) only [go_sem]
  repeat with_reducible refine zAb ?_
  have : zYE l = [] := by
   apply Classical.byContradiction
   intro h2; rw [hb h2] at h; cases h
  rw [this]
  exact zLK rfl
 ·try simp (maxSteps := 2000000) only [go_sem]
  repeat with_reducible refine zAb ?_
  exact zLK rfl
def yFj (x : Nd) : Prop := x.cls.length ≤ 64 ∧ x.att.length ≤ 64
theorem yC4 {l : List Nd} {i : Nat} (h : i < l.length) : l.getD i default ∈ l := by
 simp [h]
def sls (ls : List (List Nd)) : List (List PV) := ls.map fun l => [.sl 5 (zMC l)]
end Go.Hx
end

section
set_option maxRecDepth 100000
set_option linter.unusedSimpArgs false
namespace Go.Hx
open Go.Proofs
variable [Glob] [GlobL]
attribute [local go_sem] zAq zAo zAp zAg ndV zAl List.take_length
theorem yBE (d : List Nd) (n : Nat) : (zMC d).take n = zMC (d.take n) := by simp [zMC]
attribute [local go_sem] yBE
theorem yBF (d : List Nd) (n : Nat) : (zMC d).drop n = zMC (d.drop n) := by simp [zMC]
attribute [local go_sem] yBF
theorem yFk {d : List Nd} {x : Nd} (h : x ∈ d) : ∃ i, i < d.length ∧ d.getD i default = x := by
 obtain ⟨i, hi, e⟩ := List.getElem_of_mem h
 exact ⟨i, hi, by simp [hi, e]⟩
theorem yBG {d : List Nd} (hd : zDD d d.length = true) (hl : d.length ≤ 64) {x : Nd} (h : x ∈ d) : yFj x ∧ -1000 ≤ x.up ∧ x.up ≤ 1000 := by
 obtain ⟨i, hi, rfl⟩ := yFk h
 have h1 := zE3 (zIt hd hi)
 have h2 := zBj hd i hi
 simp only [zBh] at h2
 exact ⟨⟨by omega, by omega⟩, by omega, by omega⟩
end Go.Hx
end

section
set_option maxRecDepth 100000
set_option linter.unusedSimpArgs false
namespace Go.Hx
open Go.Proofs
variable [Glob] [GlobL]
attribute [local go_sem] zAq zAo zAp zAg ndV zAl atV OVal.cells zWz List.drop_succ_cons List.drop_zero List.take_succ_cons List.getD_nil zYD zGy Nat.sub_zero List.map_nil List.map_cons
attribute [local go_sem ↓] yED yEE
end Go.Hx
end
