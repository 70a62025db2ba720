/-
  Walks of functions of the program over an abstract layer, and the laws that they use: each contract says what the function computes, for every input that its conditions let by. No other condition.
-/
import Derived.Test.YtjnagiaooecklabGreatDoorG27
import Derived.Test.YtjnagiaooecklabGreatDoorG13
import Derived.Test.YtjnagiaooecklabGreatDoorG29
import Derived.Test.YtjnagiaooecklabGreatDoorG26
set_option linter.all false
section
set_option maxRecDepth 100000
set_option linter.unusedSimpArgs false
set_option maxHeartbeats 4000000
namespace Go.Hx
open Go.Proofs
variable [Glob] [GlobL]
attribute [local go_sem] zAq zAo zAp zAg ndV zAl zAh zCE zA3
attribute [local go_sem] reduceCtorEq Nat.reduceAdd Nat.reduceEqDiff reduceIte Nat.reduceLeDiff Nat.reduceLT Nat.reduceSub
def zX7 (d : List Nd) : PVal := if zAz d = 0 then zQU d (idxOf d) else zQU [] []
theorem zY2 {d : List Nd} (h : zAz d = 0) : zX7 d = .agg [.sl 5 (zMC d), .sl 3 (zDm (idxOf d))] := by unfold zX7; rw [if_pos h]; rfl
theorem yC5 {d : List Nd} (h : zAz d ≠ 0) : zX7 d = .agg [.sl 5 [], .sl 3 []] := by unfold zX7; rw [if_neg h]; rfl
theorem zX8 (d : List Nd) : Contract Tryz.prog zIf [.val (zIr d)] { res := .tup [zX7 d, iv (zAz d)] } := by
 have hB := zD5 d
 obtain ⟨R, hR⟩ : ∃ R, R = zX7 d := ⟨_, rfl⟩
 rw [← hR]
 obtain ⟨e, he⟩ : ∃ e, e = zAz d := ⟨_, rfl⟩
 rw [← he] at hB ⊢
 unfold zIr at hB ⊢
 refine mkA zWw (base := 0) (fo rfl) (fun hfit => ?_)
 unfold F0 zPr
 simp (maxSteps := 2000000) only [zAH, List.set_cons_succ, List.set_cons_zero, List.map_cons, List.map_nil, zAG, zAa, ioOf, List.length_cons, List.length_nil, Nat.reduceAdd, Nat.reduceSub, List.replicate, List.cons_append, List.nil_append]
 try simp (maxSteps := 2000000) only [go_sem]
 repeat with_reducible refine zAb ?_
 refine zBA (by repeat' constructor) (hB) ?_
 try simp (maxSteps := 2000000) only [go_sem]
 repeat with_reducible refine zAb ?_
 refine zAc (by rfl) trivial (fun h0 => ?_) (fun h0 => ?_)
 ·have h1 : e ≠ 0 := by simpa using h0
  rw [yC5 (he ▸ h1)] at hR
  try simp (maxSteps := 2000000) only [go_sem]
  repeat with_reducible refine zAb ?_
  rw [hR]
  exact zBg (by simp) ⟨zNp rfl rfl (.inr rfl), zAP rfl trivial (.inl rfl), rfl⟩
 have h1 : e = 0 := by simpa using h0
 rw [zY2 (he.symm.trans h1)] at hR
 obtain ⟨d1, d2, d3⟩ := zGu (he.symm.trans h1)
 subst h1
 have hBe : (if (0 : Int) = 0 then idxOf d else []) = idxOf d := if_pos rfl
 rw [hBe]
 try simp (maxSteps := 2000000) only [go_sem]
 repeat with_reducible refine zAb ?_
 refine zAv (fun i : Nat => [(23, .pv (iv i)), (47, .own zJn 5 (zMC (d.take i))), (49, .un), (50, .un), (51, .un), (52, .un), (53, .un), (8, .un), (24, .un)]) (fun i : Nat => d.length - i) (fun i : Nat => i ≤ d.length) (0) ?_ (Nat.zero_le _) ?_
 focus (simp (maxSteps := 2000000) only [go_sem, zAi, zAs, zAF, zAj]; all_goals (repeat' (first | exact trivial | exact zAr (by omega) | exact zAk rfl | exact zAw rfl | exact zAt | exact le_refl _ | refine And.intro ?_ ?_)))
 intro i hi
 try simp (maxSteps := 2000000) only [go_sem]
 repeat with_reducible refine zAb ?_
 refine zAc (by rfl) trivial (fun g1 => ?_) (fun g1 => ?_)
 ·have hil : i < d.length := by simpa using g1
  obtain ⟨hs1, hs2⟩ := (yBG d3 d2 (yC4 hil)).1
  have hx := zCl d i hil
  have hstep : zMC (d.take (i + 1)) = zMC (d.take i) ++ [ndV (d.getD i default)] := by
   unfold zMC
   rw [List.take_succ_eq_append_getElem hil, List.map_append]
   congr 1
   simp [hil]
  have hl : (zMC (d.take i)).length ≤ 64 := by rw [zAq, List.length_take]; omega
  obtain ⟨x, hxe⟩ : ∃ x, x = d.getD i default := ⟨_, rfl⟩
  rw [← hxe] at hx hs1 hs2 hstep
  obtain ⟨L, hL⟩ : ∃ L, L = zMC (d.take i) := ⟨_, rfl⟩
  rw [← hL] at hstep hl ⊢
  unfold ndV at hx
  try simp (maxSteps := 2000000) only [go_sem, hx]
  repeat with_reducible refine zAb ?_
  refine zSc (by repeat' constructor) (zIg _ hs1) ?_
  try simp (maxSteps := 2000000) only [go_sem]
  repeat with_reducible refine zAb ?_
  refine zSc (by repeat' constructor) (zKg _ hs2) ?_
  try simp (maxSteps := 2000000) only [go_sem]
  repeat with_reducible refine zAb ?_
  refine ⟨i + 1, by omega, hil, ?_⟩
  rw [hstep]
  simp (maxSteps := 2000000) only [go_sem, zAi, zAs, zAF, zAj]
  all_goals (repeat' (first | exact trivial | exact zAr (by omega) | exact zAk rfl | exact zAw rfl | exact zAt | exact le_refl _ | refine And.intro ?_ ?_))
 ·have hil : i = d.length := by simp at g1; omega
  rw [hil, List.take_length]
  try simp (maxSteps := 2000000) only [go_sem]
  repeat with_reducible refine zAb ?_
  rw [hR]
  exact zBg (by simp) ⟨zNp rfl rfl (.inl rfl), zAP rfl trivial (.inl rfl), rfl⟩
end Go.Hx
end

section
set_option maxRecDepth 100000
set_option linter.unusedSimpArgs false
set_option maxHeartbeats 4000000
namespace Go.Hx
open Go.Proofs
variable [Glob] [GlobL]
attribute [local go_sem] zAq zAo zAp zAg ndV zAl zAh zCE zA3
attribute [local go_sem] reduceCtorEq Nat.reduceAdd Nat.reduceEqDiff reduceIte Nat.reduceLeDiff Nat.reduceLT Nat.reduceSub
theorem yBH {d : List Nd} (h : zAz d = 0) : ∀ e ∈ idxOf d, e.nodes.length * 8 ≤ 140737488355328 := by
 obtain ⟨d1, d2, d3⟩ := zGu h
 have hcl : ∀ i, i < d.length → (d.getD i default).cls.length ≤ 6 := fun i hi => (zE3 (zIt d3 hi)).1
 intro e he
 have h1 := ((zGm _ (zA2 d d.length) rfl).2 e).1 he
 have h2 := zDy (zA2 d d.length) e.key
 have h3 := zER d d.length fun i hi => hcl i hi
 rw [h1.2]; omega
theorem yC7 : zAz smallD = 0 := by kernel_rfl
theorem yFl : zX7 smallD = .agg [.sl 5 (zMC smallD), .sl 3 (zDm (idxOf smallD))] := zY2 yC7
theorem zZ7 : Contract Tryz.prog zKf [] { res := .val (zQU smallD (idxOf smallD)) } := by
 have hO := zX8 smallD
 rw [yC7, yFl] at hO
 unfold zQU
 refine mkA zX6 (base := 0) (fo rfl) (fun hfit => ?_)
 unfold F0 zRE
 simp (maxSteps := 2000000) only [zAH, List.set_cons_succ, List.set_cons_zero, List.map_cons, List.map_nil, zAG, zAa, ioOf, List.length_cons, List.length_nil, Nat.reduceAdd, Nat.reduceSub, List.replicate, List.cons_append, List.nil_append]
 try simp (maxSteps := 2000000) only [go_sem]
 repeat with_reducible refine zAb ?_
 refine zAu (by repeat' constructor) (zPs) ?_
 try simp (maxSteps := 2000000) only [go_sem]
 repeat with_reducible refine zAb ?_
 refine zBA (by repeat' constructor) (hO) ?_
 try simp (maxSteps := 2000000) only [go_sem]
 repeat with_reducible refine zAb ?_
 exact zOa rfl rfl rfl
end Go.Hx
end

section
set_option maxRecDepth 100000
set_option linter.unusedSimpArgs false
set_option maxHeartbeats 4000000
namespace Go.Hx
open Go.Proofs
variable [Glob] [GlobL]
attribute [local go_sem] zAq zAo zAp zAg ndV zAl zAh zCE zA3 zIr zBo
attribute [local go_sem] reduceCtorEq Nat.reduceAdd Nat.reduceEqDiff reduceIte Nat.reduceLeDiff Nat.reduceLT Nat.reduceSub
theorem yFm : yFx (idxOf smallD) 3 [97] = ([1, 4], 0) := by kernel_rfl
theorem yHu : (idxOf smallD).length = 6 := by kernel_rfl
theorem yFn : zZ5 smallD (idxOf smallD) yC6 = 0 := by kernel_rfl
theorem yHv : yFA smallD yC6 = [0, 2] := by kernel_rfl
theorem zGF (hM : zMl) : Contract Tryz.prog zCq [] { res := .val (bv true) } := by
 have hB := zD5 smallD
 rw [yC7] at hB
 have hb : (if (0 : Int) = 0 then idxOf smallD else []) = idxOf smallD := if_pos rfl
 rw [hb] at hB
 have hL := zMR (idxOf smallD) 3 [97] (yBH yC7)
 rw [yFm] at hL
 have hF := zMV hM smallD (idxOf smallD) yC6
 rw [yFn, if_pos rfl, yHv] at hF
 have hI1 := zFr [1, 4] [1, 4]
 have hI2 := zFr [0, 2] [0, 2]
 have hl := yHu
 obtain ⟨X, hX⟩ : ∃ X, X = idxOf smallD := ⟨_, rfl⟩
 have hP := zZ7
 rw [← hX] at hB hL hF hl hP
 have hl2 : ((X.length : Int) == 6) = true := by rw [hl]; rfl
 unfold zQU at hF hP
 unfold zIr at hB
 refine mkA zMt (base := 0) (fo rfl) (fun hfit => ?_)
 unfold F0 zGE
 simp (maxSteps := 2000000) only [zAH, List.set_cons_succ, List.set_cons_zero, List.map_cons, List.map_nil, zAG, zAa, ioOf, List.length_cons, List.length_nil, Nat.reduceAdd, Nat.reduceSub, List.replicate, List.cons_append, List.nil_append]
 try simp (maxSteps := 2000000) only [go_sem]
 repeat with_reducible refine zAb ?_
 refine zAu (by repeat' constructor) (zPs) ?_
 try simp (maxSteps := 2000000) only [go_sem]
 repeat with_reducible refine zAb ?_
 refine zBA (by repeat' constructor) (hB) ?_
 try simp (maxSteps := 2000000) only [go_sem]
 repeat with_reducible refine zAb ?_
 refine zBA (by repeat' constructor) (hL) ?_
 try simp (maxSteps := 2000000) only [go_sem]
 repeat with_reducible refine zAb ?_
 refine zAu (by repeat' constructor) (hP) ?_
 try simp (maxSteps := 2000000) only [go_sem]
 repeat with_reducible refine zAb ?_
 refine zAu (by repeat' constructor) (zWx) ?_
 try simp (maxSteps := 2000000) only [go_sem]
 repeat with_reducible refine zAb ?_
 refine zBA (by repeat' constructor) (hF) ?_
 try simp (maxSteps := 2000000) only [go_sem, hl2]
 repeat with_reducible refine zAb ?_
 apply zAE (h2 := fun _ => hI1)
 ·(simp (maxSteps := 2000000) only [go_sem]; rfl)
 ·intro h; repeat' (first | exact trivial | exact h | refine And.intro ?_ ?_)
 try simp (maxSteps := 2000000) only [go_sem]
 repeat with_reducible refine zAb ?_
 apply zAE (h2 := fun _ => hI2)
 ·(simp (maxSteps := 2000000) only [go_sem]; rfl)
 ·intro h; repeat' (first | exact trivial | exact h | refine And.intro ?_ ?_)
 try simp (maxSteps := 2000000) only [go_sem]
 repeat with_reducible refine zAb ?_
 exact zAe rfl trivial (.inl rfl)
theorem zQW (hM : zMl) (d : List Nd) (l : List Pt) : Contract Tryz.prog zIh [.val (zIr d), .val (zBo l)] { res := .val (bv true) } := by
 have hA := zX1 hM d l
 have hB := zD5 d
 have hF := zMV hM d (idxOf d) l
 have hIa := zFr (yFA d l) (yFA d l)
 rw [decide_eq_true rfl] at hIa
 obtain ⟨e, he⟩ : ∃ e, e = zPF d l := ⟨_, rfl⟩
 rw [← he] at hA
 by_cases h0 : e = 0
 ·obtain ⟨a1, a2⟩ := zT7 (he.symm.trans h0)
  have hf0 : zZ5 d (idxOf d) l = 0 := by unfold zZ5 zX2; simp [a1, a2]
  rw [hf0, if_pos rfl] at hF
  rw [a1, if_pos rfl] at hB
  rw [if_pos h0] at hA
  have g0 : (e != 0) = false := by simp [h0]
  unfold zQU at hF
  unfold zIr at hA hB ⊢
  unfold zBo at hA hF ⊢
  refine mkA zIi (base := 0) (fo rfl) (fun hfit => ?_)
  unfold F0 zFs
  simp (maxSteps := 2000000) only [zAH, List.set_cons_succ, List.set_cons_zero, List.map_cons, List.map_nil, zAG, zAa, ioOf, List.length_cons, List.length_nil, Nat.reduceAdd, Nat.reduceSub, List.replicate, List.cons_append, List.nil_append]
  try simp (maxSteps := 2000000) only [go_sem]
  repeat with_reducible refine zAb ?_
  refine zBA (by repeat' constructor) (hA) ?_
  try simp (maxSteps := 2000000) only [go_sem]
  repeat with_reducible refine zAb ?_
  refine zBA (by repeat' constructor) (hB) ?_
  try simp (maxSteps := 2000000) only [go_sem, g0]
  repeat with_reducible refine zAb ?_
  refine zUv (by rfl) trivial ?_
  try simp (maxSteps := 2000000) only [go_sem]
  repeat with_reducible refine zAb ?_
  refine zBA (by repeat' constructor) (hF) ?_
  try simp (maxSteps := 2000000) only [go_sem]
  repeat with_reducible refine zAb ?_
  refine zAu (by repeat' constructor) (zGF hM) ?_
  try simp (maxSteps := 2000000) only [go_sem]
  repeat with_reducible refine zAb ?_
  apply zAE (h2 := fun _ => hIa)
  ·(simp (maxSteps := 2000000) only [go_sem]; rfl)
  ·intro h; repeat' (first | exact trivial | exact h | refine And.intro ?_ ?_)
  try simp (maxSteps := 2000000) only [go_sem]
  repeat with_reducible refine zAb ?_
  exact zAe rfl trivial (.inl rfl)
 ·have g0 : (e != 0) = true := by simp [h0]
  unfold zIr at hA hB ⊢
  unfold zBo at hA ⊢
  refine mkA zIi (base := 0) (fo rfl) (fun hfit => ?_)
  unfold F0 zFs
  simp (maxSteps := 2000000) only [zAH, List.set_cons_succ, List.set_cons_zero, List.map_cons, List.map_nil, zAG, zAa, ioOf, List.length_cons, List.length_nil, Nat.reduceAdd, Nat.reduceSub, List.replicate, List.cons_append, List.nil_append]
  try simp (maxSteps := 2000000) only [go_sem]
  repeat with_reducible refine zAb ?_
  refine zBA (by repeat' constructor) (hA) ?_
  try simp (maxSteps := 2000000) only [go_sem]
  repeat with_reducible refine zAb ?_
  refine zBA (by repeat' constructor) (hB) ?_
  try simp (maxSteps := 2000000) only [go_sem, g0]
  repeat with_reducible refine zAb ?_
  refine zYB (by rfl) trivial ?_
  try simp (maxSteps := 2000000) only [go_sem]
  repeat with_reducible refine zAb ?_
  refine zAu (by repeat' constructor) (zGF hM) ?_
  try simp (maxSteps := 2000000) only [go_sem]
  repeat with_reducible refine zAb ?_
  exact zAe rfl trivial (.inl rfl)
end Go.Hx
end
