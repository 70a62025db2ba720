/-
  Walks of functions of the program over an abstract layer, and the laws that they use: each contract says what the function computes, for every input that its conditions let by. No other condition.
-/
import Derived.Test.YtjnagiaooecklabGreatDoorG21
import Derived.Test.YtjnagiaooecklabGreatDoorG11
import Derived.Test.YtjnagiaooecklabGreatDoorG10
import Derived.Test.YtjnagiaooecklabGreatDoorG9
set_option linter.all false
section
set_option maxRecDepth 100000
set_option linter.unusedSimpArgs false
set_option maxHeartbeats 4000000
namespace Go.Hx
open Go.Proofs
variable [Glob]
attribute [local go_sem] zAu zAr zAs zAk ndV zAo zAj zBc zAJ zAO zAI List.nil_append
attribute [local go_sem] reduceCtorEq Nat.reduceAdd Nat.reduceEqDiff reduceIte Nat.reduceLeDiff Nat.reduceLT Nat.reduceSub
def yCF (P : Go.Program) (N : Nat) : Prop := ∀ a b : Ts, SizeOf.sizeOf a ≤ N → Contract P zD7 [.val (.agg (tsV a)), .val (.agg (tsV b))] { res := .val (bv (zDx a b)) }
theorem zXx {N : Nat} (ih : yCF Tryz.prog N) (a b : St) (hs : SizeOf.sizeOf a ≤ N) : Contract Tryz.prog zD6 [.val (.agg (stV a)), .val (.agg (stV b))] { res := .val (bv (zMH a b)) } := by
 rw [zCk, zCk]
 refine mkA zNH (base := 0) (fo rfl) (fun hfit => ?_)
 unfold F0 zIT
 simp (maxSteps := 2000000) only [zAD, List.set_cons_succ, List.set_cons_zero, List.map_cons, List.map_nil, zAB, zAa, ioOf, List.length_cons, List.length_nil, Nat.reduceAdd, Nat.reduceSub, List.replicate, List.cons_append, List.nil_append]
 try simp (maxSteps := 2000000) only [go_sem]
 repeat with_reducible refine zAb ?_
 have fl := yAJ hfit.1.2.1
 refine zAc (by rfl) trivial (fun h1 => ?_) (fun h1 => ?_)
 ·try simp (maxSteps := 2000000) only [go_sem]
  repeat with_reducible refine zAb ?_
  refine zAd rfl trivial (.inl ?_)
  congr 3
  rw [zTF]
  by_cases ht : a.tag = b.tag
  ·have hl : a.tests.length ≠ b.tests.length := by
    rw [ht] at h1
    simp at h1
    omega
   rw [zRj hl, Bool.and_false]
  ·rw [beq_false_of_ne ht, Bool.false_and]
 have ht : a.tag = b.tag := by
  cases hc : (a.tag == b.tag) with
  | true => simpa using hc
  | false => rw [hc] at h1; cases h1
 have hl : a.tests.length = b.tests.length := by
  rw [ht] at h1
  simp at h1
  omega
 have hR : zMH a b = zC3 a.tests b.tests := by rw [zTF, ht, beq_self_eq_true, Bool.true_and]
 rw [hR]
 try simp (maxSteps := 2000000) only [go_sem]
 repeat with_reducible refine zAb ?_
 refine zAv (fun i : Nat => [(5, .pv (iv i)), (4, .un), (24, .un), (38, .un)]) (fun i : Nat => a.tests.length - i) (fun i : Nat => i ≤ a.tests.length ∧ zC3 (a.tests.drop i) (b.tests.drop i) = zC3 a.tests b.tests) (0) ?_ ⟨Nat.zero_le _, rfl⟩ ?_
 focus (simp (maxSteps := 2000000) only [go_sem, zAf, zAn, zAz, zAg]; all_goals (repeat' (first | exact trivial | exact zAl (by omega) | exact zAh rfl | exact zAw rfl | exact zAp | exact le_refl _ | refine And.intro ?_ ?_)))
 rintro i ⟨hi, hinv⟩
 try simp (maxSteps := 2000000) only [go_sem]
 repeat with_reducible refine zAb ?_
 refine zAc (by rfl) trivial (fun h2 => ?_) (fun h2 => ?_)
 ·have hil : i < a.tests.length := by simp at h2; omega
  have hib : i < b.tests.length := by omega
  rw [zA7 (d := default) hil, zA7 (d := default) hib, zC3] at hinv
  have e1 := zEg a.tests i hil
  have e2 := zEg b.tests i hib
  rw [zBh] at e1 e2
  have h7 := ih (a.tests.getD i default) (b.tests.getD i default) (by have := yAo hil; have := zKU a; omega)
  rw [zBh, zBh] at h7
  try simp (maxSteps := 2000000) only [go_sem, e1, e2]
  repeat with_reducible refine zAb ?_
  refine zAt (by repeat' constructor) (h7) ?_
  try simp (maxSteps := 2000000) only [go_sem]
  repeat with_reducible refine zAb ?_
  refine zAc (by rfl) trivial (fun h3 => ?_) (fun h3 => ?_)
  ·try simp (maxSteps := 2000000) only [go_sem]
   repeat with_reducible refine zAb ?_
   refine zAd rfl trivial (.inl ?_)
   congr 3
   rw [← hinv]
   have h4 : zDx (a.tests.getD i default) (b.tests.getD i default) = false := by simpa using h3
   rw [h4]; rfl
  ·have h4 : zDx (a.tests.getD i default) (b.tests.getD i default) = true := by simpa using h3
   rw [h4, Bool.true_and] at hinv
   try simp (maxSteps := 2000000) only [go_sem]
   repeat with_reducible refine zAb ?_
   refine ⟨i + 1, by omega, ⟨by omega, hinv⟩, ?_⟩
   simp (maxSteps := 2000000) only [go_sem, zAf, zAn, zAz, zAg]
   all_goals (repeat' (first | exact trivial | exact zAl (by omega) | exact zAh rfl | exact zAw rfl | exact zAp | exact le_refl _ | refine And.intro ?_ ?_))
 ·have hil : i = a.tests.length := by simp at h2; omega
  try simp (maxSteps := 2000000) only [go_sem]
  repeat with_reducible refine zAb ?_
  refine zAd rfl trivial (.inl ?_)
  congr 3
  rw [← hinv, hil, List.drop_length, hl, List.drop_length]
  simp only [zC3]
theorem zXy {N : Nat} (ih : yCF Tryz.prog N) (a b : Pt) (hs : SizeOf.sizeOf a ≤ N) : Contract Tryz.prog zD5 [.val (.agg (ptV a)), .val (.agg (ptV b))] { res := .val (bv (zCi a b)) } := by
 rw [zBp, zBp]
 refine mkA zNR (base := 0) (fo rfl) (fun hfit => ?_)
 unfold F0 zIU
 simp (maxSteps := 2000000) only [zAD, List.set_cons_succ, List.set_cons_zero, List.map_cons, List.map_nil, zAB, zAa, ioOf, List.length_cons, List.length_nil, Nat.reduceAdd, Nat.reduceSub, List.replicate, List.cons_append, List.nil_append]
 try simp (maxSteps := 2000000) only [go_sem]
 repeat with_reducible refine zAb ?_
 have fl := zU0 hfit.1.1
 apply zAy (h2 := fun _ => zJI a.links b.links)
 ·(simp (maxSteps := 2000000) only [go_sem]; rfl)
 ·intro h; repeat' (first | exact trivial | exact h | refine And.intro ?_ ?_)
 try simp (maxSteps := 2000000) only [go_sem]
 repeat with_reducible refine zAb ?_
 refine zAc (by rfl) trivial (fun h1 => ?_) (fun h1 => ?_)
 ·try simp (maxSteps := 2000000) only [go_sem]
  repeat with_reducible refine zAb ?_
  refine zAd rfl trivial (.inl ?_)
  congr 3
  rw [zTG]
  by_cases ht : a.links = b.links
  ·have hl : a.steps.length ≠ b.steps.length := by
    simp [ht] at h1
    omega
   rw [zRk hl, Bool.and_false]
  ·rw [beq_false_of_ne ht, Bool.false_and]
 have hl : a.steps.length = b.steps.length := by
  cases hc : ((a.steps.length : Int) != (b.steps.length : Int)) with
  | false => simp at hc; omega
  | true => rw [hc] at h1; cases h1
 have ht : a.links = b.links := by
  rw [hl] at h1
  simpa using h1
 have hR : zCi a b = zC4 a.steps b.steps := by rw [zTG, ht, beq_self_eq_true, Bool.true_and]
 rw [hR]
 try simp (maxSteps := 2000000) only [go_sem]
 repeat with_reducible refine zAb ?_
 refine zAv (fun i : Nat => [(5, .pv (iv i)), (4, .un), (25, .un), (39, .un)]) (fun i : Nat => a.steps.length - i) (fun i : Nat => i ≤ a.steps.length ∧ zC4 (a.steps.drop i) (b.steps.drop i) = zC4 a.steps b.steps) (0) ?_ ⟨Nat.zero_le _, rfl⟩ ?_
 focus (simp (maxSteps := 2000000) only [go_sem, zAf, zAn, zAz, zAg]; all_goals (repeat' (first | exact trivial | exact zAl (by omega) | exact zAh rfl | exact zAw rfl | exact zAp | exact le_refl _ | refine And.intro ?_ ?_)))
 rintro i ⟨hi, hinv⟩
 try simp (maxSteps := 2000000) only [go_sem]
 repeat with_reducible refine zAb ?_
 refine zAc (by rfl) trivial (fun h2 => ?_) (fun h2 => ?_)
 ·have hil : i < a.steps.length := by simp at h2; omega
  have hib : i < b.steps.length := by omega
  rw [zA7 (d := default) hil, zA7 (d := default) hib, zC4] at hinv
  have e1 := zEh a.steps i hil
  have e2 := zEh b.steps i hib
  rw [zCk] at e1 e2
  have h7 := zXx ih (a.steps.getD i default) (b.steps.getD i default) (by have := yAp hil; have := zKV a; omega)
  rw [zCk, zCk] at h7
  try simp (maxSteps := 2000000) only [go_sem, e1, e2]
  repeat with_reducible refine zAb ?_
  refine zAt (by repeat' constructor) (h7) ?_
  try simp (maxSteps := 2000000) only [go_sem]
  repeat with_reducible refine zAb ?_
  refine zAc (by rfl) trivial (fun h3 => ?_) (fun h3 => ?_)
  ·try simp (maxSteps := 2000000) only [go_sem]
   repeat with_reducible refine zAb ?_
   refine zAd rfl trivial (.inl ?_)
   congr 3
   rw [← hinv]
   have h4 : zMH (a.steps.getD i default) (b.steps.getD i default) = false := by simpa using h3
   rw [h4]; rfl
  ·have h4 : zMH (a.steps.getD i default) (b.steps.getD i default) = true := by simpa using h3
   rw [h4, Bool.true_and] at hinv
   try simp (maxSteps := 2000000) only [go_sem]
   repeat with_reducible refine zAb ?_
   refine ⟨i + 1, by omega, ⟨by omega, hinv⟩, ?_⟩
   simp (maxSteps := 2000000) only [go_sem, zAf, zAn, zAz, zAg]
   all_goals (repeat' (first | exact trivial | exact zAl (by omega) | exact zAh rfl | exact zAw rfl | exact zAp | exact le_refl _ | refine And.intro ?_ ?_))
 ·have hil : i = a.steps.length := by simp at h2; omega
  try simp (maxSteps := 2000000) only [go_sem]
  repeat with_reducible refine zAb ?_
  refine zAd rfl trivial (.inl ?_)
  congr 3
  rw [← hinv, hil, List.drop_length, hl, List.drop_length]
  simp only [zC4]
theorem zPE {N : Nat} (ih : yCF Tryz.prog N) (a b : List Pt) (hs : SizeOf.sizeOf a ≤ N) : Contract Tryz.prog zBG [.val (.one (.sl 2 (zC5 a))), .val (.one (.sl 2 (zC5 b)))] { res := .val (bv (zBk a b)) } := by
 refine mkA zN1 (base := 0) (fo rfl) (fun hfit => ?_)
 unfold F0 zIV
 simp (maxSteps := 2000000) only [zAD, List.set_cons_succ, List.set_cons_zero, List.map_cons, List.map_nil, zAB, zAa, ioOf, List.length_cons, List.length_nil, Nat.reduceAdd, Nat.reduceSub, List.replicate, List.cons_append, List.nil_append]
 try simp (maxSteps := 2000000) only [go_sem]
 repeat with_reducible refine zAb ?_
 have fl := yAI hfit.1
 refine zAc (by rfl) trivial (fun h1 => ?_) (fun h1 => ?_)
 ·try simp (maxSteps := 2000000) only [go_sem]
  repeat with_reducible refine zAb ?_
  refine zAd rfl trivial (.inl ?_)
  congr 3
  have : a.length ≠ b.length := by simp at h1; omega
  rw [zRl this]
 have hl : a.length = b.length := by simp at h1; omega
 try simp (maxSteps := 2000000) only [go_sem]
 repeat with_reducible refine zAb ?_
 refine zAv (fun i : Nat => [(5, .pv (iv i)), (4, .un), (14, .un), (26, .un)]) (fun i : Nat => a.length - i) (fun i : Nat => i ≤ a.length ∧ zBk (a.drop i) (b.drop i) = zBk a b) (0) ?_ ⟨Nat.zero_le _, rfl⟩ ?_
 focus (simp (maxSteps := 2000000) only [go_sem, zAf, zAn, zAz, zAg]; all_goals (repeat' (first | exact trivial | exact zAl (by omega) | exact zAh rfl | exact zAw rfl | exact zAp | exact le_refl _ | refine And.intro ?_ ?_)))
 rintro i ⟨hi, hinv⟩
 try simp (maxSteps := 2000000) only [go_sem]
 repeat with_reducible refine zAb ?_
 refine zAc (by rfl) trivial (fun h2 => ?_) (fun h2 => ?_)
 ·have hil : i < a.length := by simp at h2; omega
  have hib : i < b.length := by omega
  rw [zA7 (d := default) hil, zA7 (d := default) hib, zBk] at hinv
  have e1 := zDN a i hil
  have e2 := zDN b i hib
  rw [zBp] at e1 e2
  have h7 := zXy ih (a.getD i default) (b.getD i default) (by have := yAq hil; omega)
  rw [zBp, zBp] at h7
  try simp (maxSteps := 2000000) only [go_sem, e1, e2]
  repeat with_reducible refine zAb ?_
  refine zAt (by repeat' constructor) (h7) ?_
  try simp (maxSteps := 2000000) only [go_sem]
  repeat with_reducible refine zAb ?_
  refine zAc (by rfl) trivial (fun h3 => ?_) (fun h3 => ?_)
  ·try simp (maxSteps := 2000000) only [go_sem]
   repeat with_reducible refine zAb ?_
   refine zAd rfl trivial (.inl ?_)
   congr 3
   rw [← hinv]
   have h4 : zCi (a.getD i default) (b.getD i default) = false := by simpa using h3
   rw [h4]; rfl
  ·have h4 : zCi (a.getD i default) (b.getD i default) = true := by simpa using h3
   rw [h4, Bool.true_and] at hinv
   try simp (maxSteps := 2000000) only [go_sem]
   repeat with_reducible refine zAb ?_
   refine ⟨i + 1, by omega, ⟨by omega, hinv⟩, ?_⟩
   simp (maxSteps := 2000000) only [go_sem, zAf, zAn, zAz, zAg]
   all_goals (repeat' (first | exact trivial | exact zAl (by omega) | exact zAh rfl | exact zAw rfl | exact zAp | exact le_refl _ | refine And.intro ?_ ?_))
 ·have hil : i = a.length := by simp at h2; omega
  try simp (maxSteps := 2000000) only [go_sem]
  repeat with_reducible refine zAb ?_
  refine zAd rfl trivial (.inl ?_)
  congr 3
  rw [← hinv, hil, List.drop_length, hl, List.drop_length]
  simp only [zBk]
theorem zRp : ∀ N, yCF Tryz.prog N
 | 0 => fun a b h => by have := zV1 a; omega
 | N + 1 => fun a b h => by
  have ih := zRp N
  have hc := zPE ih a.list b.list (by have := zOX a; omega)
  rw [zBh, zBh]
  refine mkA zNx (base := 0) (fo rfl) (fun hfit => ?_)
  unfold F0 zIS
  simp (maxSteps := 2000000) only [zAD, List.set_cons_succ, List.set_cons_zero, List.map_cons, List.map_nil, zAB, zAa, ioOf, List.length_cons, List.length_nil, Nat.reduceAdd, Nat.reduceSub, List.replicate, List.cons_append, List.nil_append]
  try simp (maxSteps := 2000000) only [go_sem]
  repeat with_reducible refine zAb ?_
  apply zAy (h2 := fun _ => hc)
  ·(simp (maxSteps := 2000000) only [go_sem]; rfl)
  ·intro h; repeat' (first | exact trivial | exact h | refine And.intro ?_ ?_)
  try simp (maxSteps := 2000000) only [go_sem]
  repeat with_reducible refine zAb ?_
  refine zAd rfl trivial (.inl ?_)
  congr 3
  rw [zYo]
  simp [Bool.cond_false_right, Bool.and_assoc]
theorem zYy (a b : List Pt) : Contract Tryz.prog zBG [.val (.one (.sl 2 (zC5 a))), .val (.one (.sl 2 (zC5 b)))] { res := .val (bv (zBk a b)) } := zPE (zRp _) a b (Nat.le_refl _)
end Go.Hx
end

section
set_option maxRecDepth 100000
set_option linter.unusedSimpArgs false
set_option maxHeartbeats 4000000
namespace Go.Hx
open Go.Proofs
variable [Glob]
attribute [local go_sem] zAu zAr zAs zAk ndV zAo zAj zBc zAJ zAO zAI
attribute [local go_sem] reduceCtorEq Nat.reduceAdd Nat.reduceEqDiff reduceIte Nat.reduceLeDiff Nat.reduceLT Nat.reduceSub
theorem zHp (l : List Pt) : zBk l l = true := (zB2 l l).2 rfl
attribute [local go_sem] zHp
theorem yHf (t : Ts) : Contract Tryz.prog zGd [.val (.agg (tsV t))] { res := .val (.one (.sl 2 (zC5 [.mk [.mk [] [t]] []]))) } := yA8 t
def lastL : List Pt := [.mk [.mk [120] [.mk 11 [] [] 0 0 []]] []]
def onceLL : List Pt := [.mk [.mk [] [.mk 14 [] [] 0 0 lastL]] []]
def zIW : List Pt := [.mk [.mk [] [.mk 13 [] [] 0 0 [.mk [.mk [] [.mk 13 [] [] 0 0 lastL]] []]]] []]
theorem zKD : zA6 zIW = 0 := by decide
theorem zZO : zFu zIW = 6 := by decide
theorem zMU : onL zIW = onceLL := by rfl
theorem zXC : plL zIW = lastL := by
 have h1 : zBk zIW (onL zIW) = false := by
  rw [zMU]
  exact Bool.eq_false_iff.2 fun h => by have := (zB2 _ _).1 h; simp [zIW, onceLL] at this
 have h2 : onL onceLL = lastL := rfl
 have h3 : zBk onceLL (onL onceLL) = false := by
  rw [h2]
  exact Bool.eq_false_iff.2 fun h => by have := (zB2 _ _).1 h; simp [lastL, onceLL] at this
 have h4 : onL lastL = lastL := rfl
 have h5 : zBk lastL (onL lastL) = true := by rw [h4]; exact zHp _
 rw [(zV0 h1).1, zMU, (zV0 h3).1, h2, zPA h5, h4]
theorem zXD : Contract Tryz.prog zDY [] { res := .val (.one (.sl 2 (zC5 zIW))) } := by
 refine mkA zV8 (base := 0) (fo rfl) (fun hfit => ?_)
 unfold F0 zPD
 simp (maxSteps := 2000000) only [zAD, List.set_cons_succ, List.set_cons_zero, List.map_cons, List.map_nil, zAB, zAa, ioOf, List.length_cons, List.length_nil, Nat.reduceAdd, Nat.reduceSub, List.replicate, List.cons_append, List.nil_append]
 try simp (maxSteps := 2000000) only [go_sem]
 repeat with_reducible refine zAb ?_
 refine zAt (by repeat' constructor) (Contract.av (yHf (.mk 13 [] [] 0 0 lastL)) (by first | rfl | (simp (maxSteps := 2000000) only [go_sem]; done) | (simp (maxSteps := 2000000) only [go_sem]; rfl))) ?_
 try simp (maxSteps := 2000000) only [go_sem]
 repeat with_reducible refine zAb ?_
 refine zAt (by repeat' constructor) (Contract.av (yHf (.mk 13 [] [] 0 0 [.mk [.mk [] [.mk 13 [] [] 0 0 lastL]] []])) (by first | rfl | (simp (maxSteps := 2000000) only [go_sem]; done) | (simp (maxSteps := 2000000) only [go_sem]; rfl))) ?_
 try simp (maxSteps := 2000000) only [go_sem]
 repeat with_reducible refine zAb ?_
 exact zAd rfl trivial (.inl rfl)
theorem zNj : Contract Tryz.prog zCz [] { res := .val (bv true) } := by
 have hP := zHo zIW
 have hO := zNi zIW
 have hS := zIR zIW
 rw [zKD, if_pos rfl, zXC] at hP
 rw [zKD, if_pos rfl, zMU] at hO
 rw [zKD, if_pos rfl, zZO] at hS
 refine mkA zMP (base := 0) (fo rfl) (fun hfit => ?_)
 unfold F0 zHA
 simp (maxSteps := 2000000) only [zAD, List.set_cons_succ, List.set_cons_zero, List.map_cons, List.map_nil, zAB, zAa, ioOf, List.length_cons, List.length_nil, Nat.reduceAdd, Nat.reduceSub, List.replicate, List.cons_append, List.nil_append]
 try simp (maxSteps := 2000000) only [go_sem]
 repeat with_reducible refine zAb ?_
 refine zAt (by repeat' constructor) (zXD) ?_
 try simp (maxSteps := 2000000) only [go_sem]
 repeat with_reducible refine zAb ?_
 refine zB4 (by repeat' constructor) (hP) ?_
 try simp (maxSteps := 2000000) only [go_sem]
 repeat with_reducible refine zAb ?_
 refine zAt (by repeat' constructor) (zXD) ?_
 try simp (maxSteps := 2000000) only [go_sem]
 repeat with_reducible refine zAb ?_
 refine zB4 (by repeat' constructor) (hO) ?_
 try simp (maxSteps := 2000000) only [go_sem]
 repeat with_reducible refine zAb ?_
 refine zAt (by repeat' constructor) (zXD) ?_
 try simp (maxSteps := 2000000) only [go_sem]
 repeat with_reducible refine zAb ?_
 refine zB4 (by repeat' constructor) (hS) ?_
 try simp (maxSteps := 2000000) only [go_sem]
 repeat with_reducible refine zAb ?_
 apply zAy (h2 := fun _ => zYy lastL lastL)
 ·(simp (maxSteps := 2000000) only [go_sem]; rfl)
 ·intro h; repeat' (first | exact trivial | exact h | refine And.intro ?_ ?_)
 try simp (maxSteps := 2000000) only [go_sem]
 repeat with_reducible refine zAb ?_
 have e1 : zBk lastL lastL = true := zHp _
 have e2 : zC5 onceLL = [[.sl 2 [[bS [], .sl 6 [[bI 14, bS [], bS [], bI 0, bI 0, .sl 2 (zC5 lastL)]]]], .sl 1 []]] := rfl
 try simp (maxSteps := 2000000) only [go_sem, beq_self_eq_true, cond_true, e1, e2, Int.reduceToNat, Int.reduceBEq, List.getD_cons_zero, List.length_cons, List.length_nil, Int.reduceLT, Int.reduceLE, Int.cast_ofNat_Int, Int.reduceAdd]
 repeat with_reducible refine zAb ?_
 exact zAd rfl trivial (.inl rfl)
theorem zPI (hM : zQf) (d : List Nd) (l : List Pt) : Contract Tryz.prog zHz [.val (zPS d), .val (zBc l)] { res := .val (bv true) } := by
 have hP := zHo l
 have hO := zNi l
 have hS := zIR l
 by_cases h2 : zA6 l = 0
 ·have k1 := yBr h2
  have k2 := zWa h2
  have hS2 := zIR (plL l)
  have hP2 := zHo (plL l)
  have hA := zKj hM d l
  have hA1 := zKj hM d (plL l)
  have hA2 := zKj hM d (onL l)
  have hz := yG9 l
  have e1 : zRi d (plL l) = zRi d l := by unfold zRi; rw [k1, h2]
  have e2 : zRi d (onL l) = zRi d l := by unfold zRi; rw [k2, h2]
  have e3 : yDa d (plL l) = yDa d l := by unfold yDa zP0; rw [yIP]
  have e4 : yDa d (onL l) = yDa d l := by unfold yDa zP0; rw [yHe]
  rw [e1, e3] at hA1
  rw [e2, e4] at hA2
  rw [h2, if_pos rfl] at hP hO hS
  rw [k1, if_pos rfl] at hS2 hP2
  rw [yEY] at hP2
  obtain ⟨A, hAA⟩ : ∃ A, A = if zRi d l = 0 then yDa d l else [] := ⟨_, rfl⟩
  rw [← hAA] at hA hA1 hA2
  obtain ⟨e, he⟩ : ∃ e, e = zRi d l := ⟨_, rfl⟩
  rw [← he] at hA hA1 hA2
  obtain ⟨z1, hz1⟩ : ∃ z, z = zFu l := ⟨_, rfl⟩
  obtain ⟨z2, hz2⟩ : ∃ z, z = zFu (plL l) := ⟨_, rfl⟩
  rw [← hz1] at hS hz
  rw [← hz2] at hS2 hz
  have hee : (e == e) = true := by simp
  have g5 : decide ((z1 : Int) < (z2 : Int)) = false := by simp; omega
  have hR := zYy (plL l) (plL l)
  rw [zHp] at hR
  have hI := zJI A A
  rw [decide_eq_true rfl] at hI
  unfold zPS at hA hA1 hA2 ⊢
  unfold zBc at hA hA1 hA2 ⊢
  refine mkA zHB (base := 0) (fo rfl) (fun hfit => ?_)
  unfold F0 zEQ
  simp (maxSteps := 2000000) only [zAD, List.set_cons_succ, List.set_cons_zero, List.map_cons, List.map_nil, zAB, zAa, ioOf, List.length_cons, List.length_nil, Nat.reduceAdd, Nat.reduceSub, List.replicate, List.cons_append, List.nil_append]
  try simp (maxSteps := 2000000) only [go_sem]
  repeat with_reducible refine zAb ?_
  refine zB4 (by repeat' constructor) (hP) ?_
  try simp (maxSteps := 2000000) only [go_sem]
  repeat with_reducible refine zAb ?_
  refine zUd (by rfl) trivial ?_
  try simp (maxSteps := 2000000) only [go_sem]
  repeat with_reducible refine zAb ?_
  refine zB4 (by repeat' constructor) (hO) ?_
  try simp (maxSteps := 2000000) only [go_sem]
  repeat with_reducible refine zAb ?_
  refine zB4 (by repeat' constructor) (hS) ?_
  try simp (maxSteps := 2000000) only [go_sem]
  repeat with_reducible refine zAb ?_
  refine zB4 (by repeat' constructor) (hS2) ?_
  try simp (maxSteps := 2000000) only [go_sem]
  repeat with_reducible refine zAb ?_
  refine zB4 (by repeat' constructor) (hP2) ?_
  try simp (maxSteps := 2000000) only [go_sem]
  repeat with_reducible refine zAb ?_
  apply zAy (h2 := fun _ => hR)
  ·(simp (maxSteps := 2000000) only [go_sem]; rfl)
  ·intro h; repeat' (first | exact trivial | exact h | refine And.intro ?_ ?_)
  try simp (maxSteps := 2000000) only [go_sem, g5]
  repeat with_reducible refine zAb ?_
  refine zAc (by rfl) trivial (fun x1 => ?_) (fun x1 => ?_)
  ·exact absurd x1 (by simp)
  ·try simp (maxSteps := 2000000) only [go_sem]
   repeat with_reducible refine zAb ?_
   refine zB4 (by repeat' constructor) (hA) ?_
   try simp (maxSteps := 2000000) only [go_sem]
   repeat with_reducible refine zAb ?_
   refine zB4 (by repeat' constructor) (hA1) ?_
   try simp (maxSteps := 2000000) only [go_sem]
   repeat with_reducible refine zAb ?_
   refine zB4 (by repeat' constructor) (hA2) ?_
   try simp (maxSteps := 2000000) only [go_sem]
   repeat with_reducible refine zAb ?_
   refine zAt (by repeat' constructor) (zNj) ?_
   try simp (maxSteps := 2000000) only [go_sem, hee]
   repeat with_reducible refine zAb ?_
   apply zAy (h2 := fun _ => hI)
   ·(simp (maxSteps := 2000000) only [go_sem]; rfl)
   ·intro h; repeat' (first | exact trivial | exact h | refine And.intro ?_ ?_)
   try simp (maxSteps := 2000000) only [go_sem, hee]
   repeat with_reducible refine zAb ?_
   apply zAy (h2 := fun _ => hI)
   ·(simp (maxSteps := 2000000) only [go_sem]; rfl)
   ·intro h; repeat' (first | exact trivial | exact h | refine And.intro ?_ ?_)
   try simp (maxSteps := 2000000) only [go_sem, hee]
   repeat with_reducible refine zAb ?_
   exact zAd rfl trivial (.inl (by simp))
 ·rw [if_neg h2] at hP
  obtain ⟨e, he⟩ : ∃ e, e = zA6 l := ⟨_, rfl⟩
  rw [← he] at hP h2
  unfold zPS zBc
  refine mkA zHB (base := 0) (fo rfl) (fun hfit => ?_)
  unfold F0 zEQ
  simp (maxSteps := 2000000) only [zAD, List.set_cons_succ, List.set_cons_zero, List.map_cons, List.map_nil, zAB, zAa, ioOf, List.length_cons, List.length_nil, Nat.reduceAdd, Nat.reduceSub, List.replicate, List.cons_append, List.nil_append]
  try simp (maxSteps := 2000000) only [go_sem]
  repeat with_reducible refine zAb ?_
  refine zB4 (by repeat' constructor) (hP) ?_
  try simp (maxSteps := 2000000) only [go_sem]
  repeat with_reducible refine zAb ?_
  refine zAc (by rfl) trivial (fun h => ?_) (fun h => ?_)
  ·try simp (maxSteps := 2000000) only [go_sem]
   repeat with_reducible refine zAb ?_
   refine zAt (by repeat' constructor) (zNj) ?_
   try simp (maxSteps := 2000000) only [go_sem]
   repeat with_reducible refine zAb ?_
   exact zAd rfl trivial (.inl rfl)
  ·exact (h2 (by simpa using h)).elim
end Go.Hx
end
