/-
  Walks of functions of the program over an abstract layer, and the laws that they use: each contract says what the function computes, for every input that its conditions let by. No other condition.
-/
import Derived.Test.YtjnagiaooecklabGreatDoorG10
import Derived.Test.YtjnagiaooecklabGreatDoorG8
import Derived.Test.YtjnagiaooecklabGreatDoorProg
import Derived.Test.YtjnagiaooecklabGreatDoorG9
import Derived.Test.YtjnagiaooecklabGreatDoorG11
set_option linter.all false
section
set_option maxRecDepth 100000
set_option linter.unusedSimpArgs false
namespace Go.Hx
open Go.Proofs
variable [Glob]
attribute [local go_sem] zAx zAy zAw zAs ndV zAv zAp fdV Fd.add fM fF fR fK Nat.add_zero
attribute [local go_sem] reduceCtorEq Nat.reduceAdd Nat.reduceEqDiff reduceIte Nat.reduceLeDiff Nat.reduceLT Nat.reduceSub
theorem zB8 {F : List Ct} {E : Env} {base : Nat} {av : List AV} {cells io : List PV} (hio : ioOf av = some cells) (hc : zA4 F base cells.length = some io) : yB1 E base av [] { res := .tup [], io := io } .normal F :=
 ⟨rfl, fun cs h => by rw [hio] at h; injection h with h; subst h; exact hc⟩
theorem zU6 (c : Fd) (b : Bool) (h : c.m ≤ 1000000000) : Contract Tryz.prog zAz [.io (fdV c), .val (bv b), .val (iv 2)] { res := .tup [], io := fdV (c.add (fM b)) } := by
 unfold fdV
 refine mkA zCp (base := 17) ⟨Nat.le_of_ble_eq_true rfl, Nat.le_of_ble_eq_true rfl, Nat.le_of_ble_eq_true rfl, ⟨rfl, rfl⟩⟩ (fun hfit => ?_)
 unfold F0 zB3
 simp (maxSteps := 2000000) only [zAD, List.set_cons_succ, List.set_cons_zero, List.map_cons, List.map_nil, zAC, zAa, ioOf, List.length_cons, List.length_nil, Nat.reduceAdd, Nat.reduceSub, List.replicate, List.cons_append, List.nil_append]
 try simp (maxSteps := 2000000) only [go_sem]
 repeat with_reducible refine zAc ?_
 refine zAb (by rfl) trivial (fun hb => ?_) (fun hb => ?_)
 ·subst hb
  try simp (maxSteps := 2000000) only [go_sem, Int.reduceToNat]
  repeat with_reducible refine zAc ?_
  exact zB8 rfl rfl
 ·subst hb
  try simp (maxSteps := 2000000) only [go_sem]
  repeat with_reducible refine zAc ?_
  exact zB8 rfl rfl
theorem zN1 (c : Fd) (b : Bool) (h : c.f ≤ 1000000000) : Contract Tryz.prog zAz [.io (fdV c), .val (bv b), .val (iv 1)] { res := .tup [], io := fdV (c.add (fF b)) } := by
 unfold fdV
 refine mkA zCp (base := 17) ⟨Nat.le_of_ble_eq_true rfl, Nat.le_of_ble_eq_true rfl, Nat.le_of_ble_eq_true rfl, ⟨rfl, rfl⟩⟩ (fun hfit => ?_)
 unfold F0 zB3
 simp (maxSteps := 2000000) only [zAD, List.set_cons_succ, List.set_cons_zero, List.map_cons, List.map_nil, zAC, zAa, ioOf, List.length_cons, List.length_nil, Nat.reduceAdd, Nat.reduceSub, List.replicate, List.cons_append, List.nil_append]
 try simp (maxSteps := 2000000) only [go_sem]
 repeat with_reducible refine zAc ?_
 refine zAb (by rfl) trivial (fun hb => ?_) (fun hb => ?_)
 ·subst hb
  try simp (maxSteps := 2000000) only [go_sem, Int.reduceToNat]
  repeat with_reducible refine zAc ?_
  exact zB8 rfl rfl
 ·subst hb
  try simp (maxSteps := 2000000) only [go_sem]
  repeat with_reducible refine zAc ?_
  exact zB8 rfl rfl
theorem yEj (c : Fd) (b : Bool) (h : c.r ≤ 1000000000) : Contract Tryz.prog zAz [.io (fdV c), .val (bv b), .val (iv 3)] { res := .tup [], io := fdV (c.add (fR b)) } := by
 unfold fdV
 refine mkA zCp (base := 17) ⟨Nat.le_of_ble_eq_true rfl, Nat.le_of_ble_eq_true rfl, Nat.le_of_ble_eq_true rfl, ⟨rfl, rfl⟩⟩ (fun hfit => ?_)
 unfold F0 zB3
 simp (maxSteps := 2000000) only [zAD, List.set_cons_succ, List.set_cons_zero, List.map_cons, List.map_nil, zAC, zAa, ioOf, List.length_cons, List.length_nil, Nat.reduceAdd, Nat.reduceSub, List.replicate, List.cons_append, List.nil_append]
 try simp (maxSteps := 2000000) only [go_sem]
 repeat with_reducible refine zAc ?_
 refine zAb (by rfl) trivial (fun hb => ?_) (fun hb => ?_)
 ·subst hb
  try simp (maxSteps := 2000000) only [go_sem, Int.reduceToNat]
  repeat with_reducible refine zAc ?_
  exact zB8 rfl rfl
 ·subst hb
  try simp (maxSteps := 2000000) only [go_sem]
  repeat with_reducible refine zAc ?_
  exact zB8 rfl rfl
theorem yAE (c : Fd) (b : Bool) (h : c.k ≤ 1000000000) : Contract Tryz.prog zAz [.io (fdV c), .val (bv b), .val (iv 4)] { res := .tup [], io := fdV (c.add (fK b)) } := by
 unfold fdV
 refine mkA zCp (base := 17) ⟨Nat.le_of_ble_eq_true rfl, Nat.le_of_ble_eq_true rfl, Nat.le_of_ble_eq_true rfl, ⟨rfl, rfl⟩⟩ (fun hfit => ?_)
 unfold F0 zB3
 simp (maxSteps := 2000000) only [zAD, List.set_cons_succ, List.set_cons_zero, List.map_cons, List.map_nil, zAC, zAa, ioOf, List.length_cons, List.length_nil, Nat.reduceAdd, Nat.reduceSub, List.replicate, List.cons_append, List.nil_append]
 try simp (maxSteps := 2000000) only [go_sem]
 repeat with_reducible refine zAc ?_
 refine zAb (by rfl) trivial (fun hb => ?_) (fun hb => ?_)
 ·subst hb
  try simp (maxSteps := 2000000) only [go_sem, Int.reduceToNat]
  repeat with_reducible refine zAc ?_
  exact zB8 rfl rfl
 ·subst hb
  try simp (maxSteps := 2000000) only [go_sem]
  repeat with_reducible refine zAc ?_
  exact zB8 rfl rfl
def shV (k : Int) : PVal := .agg [bB (zWc k), bB (zMC k), bB (yEW k), bB (zGv k)]
def kOk (k : Int) : Bool := decide (1 ≤ k ∧ k ≤ 15)
theorem yC1 (k : Int) : Contract Tryz.prog zLr [.val (iv k)] { res := .tup [shV k, bv (kOk k)] } := by
 refine mkA yBt (base := 0) (fo rfl) (fun hfit => ?_)
 unfold F0 zXa
 simp (maxSteps := 2000000) only [zAD, List.set_cons_succ, List.set_cons_zero, List.map_cons, List.map_nil, zAC, zAa, ioOf, List.length_cons, List.length_nil, Nat.reduceAdd, Nat.reduceSub, List.replicate, List.cons_append, List.nil_append]
 try simp (maxSteps := 2000000) only [go_sem]
 repeat with_reducible refine zAc ?_
 by_cases hk : 1 ≤ k ∧ k ≤ 15
 ·have hn : k = 1 ∨ k = 2 ∨ k = 3 ∨ k = 4 ∨ k = 5 ∨ k = 6 ∨ k = 7 ∨ k = 8 ∨ k = 9 ∨ k = 10 ∨ k = 11 ∨ k = 12 ∨ k = 13 ∨ k = 14 ∨ k = 15 := by omega
  rcases hn with rfl | rfl | rfl | rfl | rfl | rfl | rfl | rfl | rfl | rfl | rfl | rfl | rfl | rfl | rfl
  all_goals
   repeat (first | (refine yHx (by rfl) trivial ?_; (try simp (maxSteps := 2000000) only [go_sem])) | (refine yEU (by rfl) trivial ?_; (try simp (maxSteps := 2000000) only [go_sem])))
   exact zBl (by simp) ⟨yAz rfl rfl (.inl rfl), zAL rfl trivial (.inl rfl), rfl⟩
 ·have e : ∀ n : Int, 1 ≤ n → n ≤ 15 → (k == n) = false := by intro n h1 h2; simp; omega
  have hs : shV k = .agg [bB false, bB false, bB false, bB false] := by
   unfold shV
   congr 2
   ·unfold zWc; congr 2; simp; omega
   ·congr 1
    ·unfold zMC; congr 2; simp; omega
    ·congr 1
     ·unfold yEW; congr 2; simp; omega
     ·congr 1
      unfold zGv; congr 2; simp; omega
  have ho : kOk k = false := by unfold kOk; simp; omega
  rw [hs, ho]
  try simp (maxSteps := 2000000) only [go_sem, e 1 (by omega) (by omega), e 2 (by omega) (by omega), e 3 (by omega) (by omega), e 4 (by omega) (by omega), e 5 (by omega) (by omega), e 6 (by omega) (by omega), e 7 (by omega) (by omega), e 8 (by omega) (by omega), e 9 (by omega) (by omega), e 10 (by omega) (by omega), e 11 (by omega) (by omega), e 12 (by omega) (by omega), e 13 (by omega) (by omega), e 14 (by omega) (by omega), e 15 (by omega) (by omega)]
  repeat (refine yEU (by rfl) trivial ?_; (try simp (maxSteps := 2000000) only [go_sem, e 1 (by omega) (by omega), e 2 (by omega) (by omega), e 3 (by omega) (by omega), e 4 (by omega) (by omega), e 5 (by omega) (by omega), e 6 (by omega) (by omega), e 7 (by omega) (by omega), e 8 (by omega) (by omega), e 9 (by omega) (by omega), e 10 (by omega) (by omega), e 11 (by omega) (by omega), e 12 (by omega) (by omega), e 13 (by omega) (by omega), e 14 (by omega) (by omega), e 15 (by omega) (by omega)]))
  exact zBl (by simp) ⟨yAz rfl rfl (.inl rfl), zAL rfl trivial (.inl rfl), rfl⟩
theorem zXv : Contract Tryz.prog zGf [] { res := .val (.agg [bI 2, bI 4, bI 1, bI 3]) } := by
 refine mkA zUh (base := 0) (fo rfl) (fun hfit => ?_)
 unfold F0 zMJ
 simp (maxSteps := 2000000) only [zAD, List.set_cons_succ, List.set_cons_zero, List.map_cons, List.map_nil, zAC, zAa, ioOf, List.length_cons, List.length_nil, Nat.reduceAdd, Nat.reduceSub, List.replicate, List.cons_append, List.nil_append]
 try simp (maxSteps := 2000000) only [go_sem]
 repeat with_reducible refine zAc ?_
 exact zV7 rfl rfl rfl
end Go.Hx
end

section
set_option maxRecDepth 100000
set_option linter.unusedSimpArgs false
namespace Go.Hx
open Go.Proofs
variable [Glob]
attribute [local go_sem] zAx zAy zAw zAs ndV zAv zAp fdV zAM zBd zBp zBo
attribute [local go_sem] reduceCtorEq Nat.reduceAdd Nat.reduceEqDiff reduceIte Nat.reduceLeDiff Nat.reduceLT Nat.reduceSub
theorem zBJ {α : Type} {d : α} {l : List α} {i : Nat} (h : i < l.length) : l.drop i = l.getD i d :: l.drop (i + 1) := by
 rw [List.drop_eq_getElem_cons h]
 simp [h]
def yJj (P : Program) (N : Nat) : Prop :=
 (∀ (l : List Pt) (d K : Nat) (c : Fd), SizeOf.sizeOf l ≤ N → d ≤ 4 → c.le K → K + bd d ≤ 1000000000 → Contract P zBs [.io (fdV c), .val (zAM l), .val (iv d)] { res := .tup [], io := fdV (c.add (ntL l d)) }) ∧
 (∀ (s : St) (d K : Nat) (c : Fd), SizeOf.sizeOf s ≤ N → d ≤ 3 → c.le K → K + bdS d ≤ 1000000000 → Contract P zCo [.io (fdV c), .val (.agg (stV s)), .val (iv d)] { res := .tup [], io := fdV (c.add (ntS s d)) })
theorem yC2 (N : Nat) (ih : yJj Tryz.prog N) (l : List Pt) (d K : Nat) (c : Fd) (hN : SizeOf.sizeOf l ≤ N + 1) (hd : d ≤ 4) (hc : c.le K) (hK : K + bd d ≤ 1000000000) : Contract Tryz.prog zBs [.io (fdV c), .val (zAM l), .val (iv d)] { res := .tup [], io := fdV (c.add (ntL l d)) } := by
 unfold fdV zAM
 refine mkA zLE (base := 83) ⟨Nat.le_of_ble_eq_true rfl, Nat.le_of_ble_eq_true rfl, Nat.le_of_ble_eq_true rfl, ⟨rfl, rfl⟩⟩ (fun hfit => ?_)
 unfold F0 zGp
 simp (maxSteps := 2000000) only [zAD, List.set_cons_succ, List.set_cons_zero, List.map_cons, List.map_nil, zAC, zAa, ioOf, List.length_cons, List.length_nil, Nat.reduceAdd, Nat.reduceSub, List.replicate, List.cons_append, List.nil_append]
 try simp (maxSteps := 2000000) only [go_sem]
 repeat with_reducible refine zAc ?_
 have hlb : (bif bif decide (3 < (d : Int)) then true else decide ((l.length : Int) < 1) then true else decide (5 < (l.length : Int))) = zGR l d := by
  have e1 : decide (3 < (d : Int)) = decide (3 < d) := decide_eq_decide.2 (by omega)
  have e2 : decide ((l.length : Int) < 1) = decide (l.length < 1) := decide_eq_decide.2 (by omega)
  have e3 : decide (5 < (l.length : Int)) = decide (5 < l.length) := decide_eq_decide.2 (by omega)
  unfold zGR
  rw [e1, e2, e3]
  cases decide (3 < d) <;> cases decide (l.length < 1) <;> rfl
 refine zAb (by rfl) trivial (fun h => ?_) (fun h => ?_)
 ·rw [hlb] at h
  have e : ntL l d = fM true := by unfold ntL; rw [if_pos h]
  try simp (maxSteps := 2000000) only [go_sem]
  repeat with_reducible refine zAc ?_
  have hb1 := zTC (4 - d)
  have hb2 : bd d = bdF (4 - d) := rfl
  have hm := hc.m
  refine zDy (by repeat' constructor) (zU6 c true (by omega)) ?_
  try simp (maxSteps := 2000000) only [go_sem]
  repeat with_reducible refine zAc ?_
  rw [e]
  exact zTA rfl rfl
 ·rw [hlb] at h
  have e : ntL l d = zYu l d := by unfold ntL; rw [if_neg (by rw [h]; simp)]
  rw [e]
  have hd3 : d ≤ 3 ∧ l.length ≤ 5 := by
   simp only [zGR, Bool.or_eq_false_iff, decide_eq_false_iff_not] at h
   omega
  have hbd := yF6 hd3.1
  try simp (maxSteps := 2000000) only [go_sem]
  repeat with_reducible refine zAc ?_
  have hK0 : K + (1 + (l.length - 0) * bdP d) ≤ 1000000000 := by
   have : (l.length - 0) * bdP d ≤ 5 * bdP d := Nat.mul_le_mul_right _ (by omega)
   omega
  refine zAm (fun x : Nat × Fd => [(7, .un), (9, .un), (11, .un), (28, .pv (iv x.1)), (29, .un), (51, .un), (55, .un), (56, .un), (57, .un), (58, .un), (71, .un), (72, .un), (73, .un), (74, .un), (84, .pv (.one (bI x.2.f))), (85, .pv (.one (bI x.2.m))), (86, .pv (.one (bI x.2.r))), (87, .pv (.one (bI x.2.k))), (90, .un), (91, .un)]) (fun x : Nat × Fd => l.length - x.1) (fun x : Nat × Fd => x.1 ≤ l.length ∧ (∃ K', x.2.le K' ∧ K' + (1 + (l.length - x.1) * bdP d) ≤ 1000000000) ∧ x.2.add (zYu (l.drop x.1) d) = c.add (zYu l d)) ((0, c)) ?_ ⟨Nat.zero_le _, ⟨K, hc, hK0⟩, by simp⟩ ?_
  focus (simp (maxSteps := 2000000) only [go_sem, zAe, zAj, zAt, zAf]; all_goals (repeat' (first | exact trivial | exact zAk (by omega) | exact zAg rfl | exact zAq rfl | exact zAl | exact le_refl _ | refine And.intro ?_ ?_)))
  rintro ⟨i, a⟩ ⟨hi, ⟨K', ha, hK'⟩, hsum⟩
  simp only at hi ha hK' hsum
  try simp (maxSteps := 2000000) only [go_sem]
  repeat with_reducible refine zAc ?_
  have hbx : bd d ≤ 1000000000 := by omega
  refine zAb (by rfl) trivial (fun h2 => ?_) (fun h2 => ?_)
  ·have hil : i < l.length := by simp at h2; omega
   rw [zBJ (d := default) hil] at hsum
   obtain ⟨p, hp⟩ : ∃ p, p = l.getD i default := ⟨_, rfl⟩
   rw [← hp] at hsum
   have hg : (zJS l).getD i [] = [.sl 2 (zLd p.steps), .sl 1 (zBB p.links)] := by rw [zE3 l i hil, ← hp, zD2]
   have hsz : SizeOf.sizeOf p.steps ≤ N := by
    have h3 := zJU p
    have h4 := yCB hil
    rw [← hp] at h4
    omega
   have hmul : (l.length - i) * bdP d = bdP d + (l.length - (i + 1)) * bdP d := by
    have : l.length - i = (l.length - (i + 1)) + 1 := by omega
    rw [this, Nat.add_mul]; omega
   have hbp : bdP d = 4 + 5 * bdS d := rfl
   have hin : (bif decide ((p.steps.length : Int) < 1) then true else decide (5 < (p.steps.length : Int))) = false → inR .i64 ((p.steps.length : Int) - 1) := by
    intro h5
    have : ¬ 5 < (p.steps.length : Int) := by
     intro h6
     rw [decide_eq_true h6] at h5
     cases hq : decide ((p.steps.length : Int) < 1) <;> rw [hq] at h5 <;> cases h5
    exact zJR (by omega) (by omega)
   try simp (maxSteps := 2000000) only [go_sem, hg]
   repeat with_reducible refine zAc ?_
   have hpb : (bif bif decide ((p.steps.length : Int) < 1) then true else decide (5 < (p.steps.length : Int)) then true else (p.links.length : Int) != (p.steps.length : Int) - 1) = zYP p := by
    have e2 : decide ((p.steps.length : Int) < 1) = decide (p.steps.length < 1) := decide_eq_decide.2 (by omega)
    have e3 : decide (5 < (p.steps.length : Int)) = decide (5 < p.steps.length) := decide_eq_decide.2 (by omega)
    have e4 : ((p.links.length : Int) != (p.steps.length : Int) - 1) = decide ((p.links.length : Int) ≠ p.steps.length - 1) := by
     by_cases h5 : (p.links.length : Int) = (p.steps.length : Int) - 1 <;> simp [h5]
    unfold zYP
    rw [e2, e3, e4]
    cases decide (p.steps.length < 1) <;> cases decide (5 < p.steps.length) <;> rfl
   simp only [zYu] at hsum
   refine zAb (by rfl) trivial (fun h3 => ?_) (fun h3 => ?_)
   ·rw [hpb] at h3
    rw [if_pos h3] at hsum
    rw [← hsum]
    try simp (maxSteps := 2000000) only [go_sem]
    repeat with_reducible refine zAc ?_
    have hm := ha.m
    refine zDy (by repeat' constructor) (zU6 a true (by omega)) ?_
    try simp (maxSteps := 2000000) only [go_sem]
    repeat with_reducible refine zAc ?_
    exact zTA rfl rfl
   ·rw [hpb] at h3
    rw [if_neg (by rw [h3]; simp)] at hsum
    have hpl : p.steps.length ≤ 5 ∧ (p.links.length : Int) = p.steps.length - 1 := by
     simp only [zYP, Bool.or_eq_false_iff, decide_eq_false_iff_not] at h3
     omega
    have hK1 : K' + (p.links.length - 0) ≤ K' + 4 := by omega
    try simp (maxSteps := 2000000) only [go_sem]
    repeat with_reducible refine zAc ?_
    refine zAm (fun x : Nat × Fd => [(9, .un), (57, .pv (iv x.1)), (58, .un), (67, .un), (84, .pv (.one (bI x.2.f))), (85, .pv (.one (bI x.2.m))), (86, .pv (.one (bI x.2.r))), (87, .pv (.one (bI x.2.k)))]) (fun x : Nat × Fd => p.links.length - x.1) (fun x : Nat × Fd => x.1 ≤ p.links.length ∧ (∃ K2, x.2.le K2 ∧ K2 + (p.links.length - x.1) ≤ K' + 4) ∧ x.2.add (yAB (p.links.drop x.1)) = a.add (yAB p.links)) ((0, a)) ?_ ⟨Nat.zero_le _, ⟨K', ha, hK1⟩, by simp⟩ ?_
    focus (simp (maxSteps := 2000000) only [go_sem, zAe, zAj, zAt, zAf]; all_goals (repeat' (first | exact trivial | exact zAk (by omega) | exact zAg rfl | exact zAq rfl | exact zAl | exact le_refl _ | refine And.intro ?_ ?_)))
    rintro ⟨j, b⟩ ⟨hj, ⟨K2, hb, hK2⟩, hsb⟩
    simp only at hj hb hK2 hsb
    try simp (maxSteps := 2000000) only [go_sem]
    repeat with_reducible refine zAc ?_
    refine zAb (by rfl) trivial (fun h4 => ?_) (fun h4 => ?_)
    ·have hjl : j < p.links.length := by simp at h4; omega
     rw [zBJ (d := 0) hjl] at hsb
     have hg2 := zEx p.links j hjl
     obtain ⟨v, hv⟩ : ∃ v, v = p.links.getD j 0 := ⟨_, rfl⟩
     rw [← hv] at hg2 hsb
     have hvb : (bif decide (v < 1) then true else decide (4 < v)) = zMY v := by
      unfold zMY
      by_cases h5 : v < 1 <;> by_cases h6 : 4 < v <;> simp [h5, h6] <;> omega
     have hk := hb.k
     try simp (maxSteps := 2000000) only [go_sem, hg2]
     repeat with_reducible refine zAc ?_
     refine zDy (by repeat' constructor) (yAE b (bif decide (v < 1) then true else decide (4 < v)) (by omega)) ?_
     try simp (maxSteps := 2000000) only [go_sem, hvb]
     repeat with_reducible refine zAc ?_
     refine ⟨(j + 1, b.add (fK (zMY v))), by simp only; omega, ⟨by simp only; omega, ⟨K2 + 1, hb.le_add (yF7 _), by simp only; omega⟩, ?_⟩, ?_⟩
     ·simp only
      rw [← hsb, Fd.add_assoc]
      congr 1
      simp only [yAB, Fd.add, fK, List.countP_cons, nB]
      congr 1
      split <;> omega
     ·simp (maxSteps := 2000000) only [go_sem, zAe, zAj, zAt, zAf]
      all_goals (repeat' (first | exact trivial | exact zAk (by omega) | exact zAg rfl | exact zAq rfl | exact zAl | exact le_refl _ | refine And.intro ?_ ?_))
    ·have hjl : j = p.links.length := by simp at h4; omega
     subst hjl
     rw [List.drop_length] at hsb
     have e5 : b = a.add (yAB p.links) := by
      rw [← hsb]
      simp [yAB, Fd.add]
     have hK3 : K2 ≤ K' + 4 := by omega
     have hK4 : K2 + (p.steps.length - 0) * bdS d ≤ K' + bdP d := by
      have : (p.steps.length - 0) * bdS d ≤ 5 * bdS d := Nat.mul_le_mul_right _ (by omega)
      omega
     try simp (maxSteps := 2000000) only [go_sem]
     repeat with_reducible refine zAc ?_
     refine zAm (fun x : Nat × Fd => [(11, .un), (73, .pv (iv x.1)), (74, .un), (84, .pv (.one (bI x.2.f))), (85, .pv (.one (bI x.2.m))), (86, .pv (.one (bI x.2.r))), (87, .pv (.one (bI x.2.k))), (90, .un), (91, .un)]) (fun x : Nat × Fd => p.steps.length - x.1) (fun x : Nat × Fd => x.1 ≤ p.steps.length ∧ (∃ K3, x.2.le K3 ∧ K3 + (p.steps.length - x.1) * bdS d ≤ K' + bdP d) ∧ x.2.add (yAC (p.steps.drop x.1) d) = b.add (yAC p.steps d)) ((0, b)) ?_ ⟨Nat.zero_le _, ⟨K2, hb, hK4⟩, by simp⟩ ?_
     focus (simp (maxSteps := 2000000) only [go_sem, zAe, zAj, zAt, zAf]; all_goals (repeat' (first | exact trivial | exact zAk (by omega) | exact zAg rfl | exact zAq rfl | exact zAl | exact le_refl _ | refine And.intro ?_ ?_)))
     rintro ⟨k, e6⟩ ⟨hk, ⟨K3, he6, hK5⟩, hse⟩
     simp only at hk he6 hK5 hse
     try simp (maxSteps := 2000000) only [go_sem]
     repeat with_reducible refine zAc ?_
     refine zAb (by rfl) trivial (fun h6 => ?_) (fun h6 => ?_)
     ·have hkl : k < p.steps.length := by simp at h6; omega
      rw [zBJ (d := default) hkl] at hse
      obtain ⟨q, hq⟩ : ∃ q, q = p.steps.getD k default := ⟨_, rfl⟩
      rw [← hq] at hse
      have hg3 : (zLd p.steps).getD k [] = [bS q.tag, .sl 6 (zWb q.tests)] := by rw [zEe _ k hkl, ← hq, zGo]
      have hqs : SizeOf.sizeOf q ≤ N := by
       have h7 := yCA hkl
       rw [← hq] at h7
       omega
      have hmul2 : (p.steps.length - k) * bdS d = bdS d + (p.steps.length - (k + 1)) * bdS d := by
       have : p.steps.length - k = (p.steps.length - (k + 1)) + 1 := by omega
       rw [this, Nat.add_mul]; omega
      have hst := ih.2 q d K3 e6 hqs hd3.1 he6 (by omega)
      rw [zGo] at hst
      unfold fdV at hst
      try simp (maxSteps := 2000000) only [go_sem, hg3]
      repeat with_reducible refine zAc ?_
      refine zDy (by repeat' constructor) (hst) ?_
      try simp (maxSteps := 2000000) only [go_sem]
      repeat with_reducible refine zAc ?_
      refine ⟨(k + 1, e6.add (ntS q d)), by simp only; omega, ⟨by simp only; omega, ⟨K3 + bdS d, he6.le_add (b_S q d), by simp only; omega⟩, ?_⟩, ?_⟩
      ·simp only [yAC] at hse ⊢
       rw [← hse, Fd.add_assoc]
      ·simp (maxSteps := 2000000) only [go_sem, zAe, zAj, zAt, zAf]
       all_goals (repeat' (first | exact trivial | exact zAk (by omega) | exact zAg rfl | exact zAq rfl | exact zAl | exact le_refl _ | refine And.intro ?_ ?_))
     ·have hkl : k = p.steps.length := by simp at h6; omega
      subst hkl
      rw [List.drop_length] at hse
      have e7 : e6 = b.add (yAC p.steps d) := by rw [← hse]; rfl
      try simp (maxSteps := 2000000) only [go_sem]
      repeat with_reducible refine zAc ?_
      refine ⟨(i + 1, e6), by simp only; omega, ⟨by simp only; omega, ⟨K3, he6, by simp only; omega⟩, ?_⟩, ?_⟩
      ·simp only
       rw [← hsum, e7, e5, yHT, Fd.add_assoc, Fd.add_assoc, Fd.add_assoc]
      ·simp (maxSteps := 2000000) only [go_sem, zAe, zAj, zAt, zAf]
       all_goals (repeat' (first | exact trivial | exact zAk (by omega) | exact zAg rfl | exact zAq rfl | exact zAl | exact le_refl _ | refine And.intro ?_ ?_))
  ·have hil : i = l.length := by simp at h2; omega
   subst hil
   rw [List.drop_length] at hsum
   try simp (maxSteps := 2000000) only [go_sem]
   repeat with_reducible refine zAc ?_
   rw [← hsum]
   exact zB8 rfl rfl
end Go.Hx
end

section
/-
 The abstract code of functions of the program, printed by gen.py; each stands for the given one. No condition.
-/
namespace Go.Hx
open Go.Proofs
variable [Glob]
end Go.Hx
end

section
/-
 The abstract code of functions of the program, printed by gen.py; each stands for the given one. No condition.
-/
namespace Go.Hx
open Go.Proofs
variable [Glob]
abbrev zA7 : Nat := 257
abbrev zA8 : Nat := 258
abbrev zFa : Nat := 14
abbrev zCI : Nat := 13
abbrev zCJ : Nat := 15
abbrev zGh : Nat := 63
abbrev zEG : Nat := 57
abbrev zGi : Nat := 173
abbrev zDJ : Nat := 59
abbrev zAB : Nat := 58
abbrev zBR : Nat := 115
abbrev zAP : Nat := 118
abbrev zA9 : Nat := 116
abbrev zCP : Nat := 169
abbrev zBK : Nat := 224
abbrev zBL : Nat := 225
abbrev zDO : Nat := 226
abbrev zBj : Nat := 168
abbrev zBS : Nat := 223
abbrev zCQ : Nat := 172
abbrev zBM : Nat := 229
abbrev zJo : Nat := 117
abbrev zBx : Nat := 114
abbrev zBy : Nat := 222
abbrev zBe : Nat := 170
abbrev zBV : Nat := 167
abbrev zBW : Nat := 256
abbrev zCa : Nat := 227
abbrev zCR : Nat := 232
abbrev zCA : Nat := 230
abbrev zCB : Nat := 231
abbrev zDZ : Nat := 233
abbrev zB0 : Nat := 217
abbrev zH5 : HCode := oN [oV 4 (.mv (.c (bv false)))]
abbrev zH6 : HCode := oR [oV 5 (.mv (.t 0)),
  oV 6 (.mv (.t 1)),
  oC 7 zA7 [(.t 5, .v), (.t 6, .v)],
  oV 4 (.mv (.t 7))] [5, 6, 7]
abbrev zL2 : HCode := (.seq zH5 (.seq zH6 .ret))
abbrev zEH : Env := { N := 8, Γ := [], L := 8, nfix := 0 }
abbrev strings_HasPrefix_R : List RSrc := [.tmp 4]
theorem zH7 : zBQ Tryz.prog zCA zL2 zEH strings_HasPrefix_R := by kernel_rfl
abbrev zDh : HCode := oN [oV 4 (.mv (.c (bv false)))]
abbrev zDi : HCode := oR [oV 5 (.mv (.t 0)),
  oV 6 (.len true (.t 5)),
  oV 7 (.mv (.t 1)),
  oV 8 (.len true (.t 7)),
  oV 9 (.ints .geq (.t 6) (.t 8)),
  oV 10 (.mv (.t 9)),
  oG 10 true 11 (.mv (.t 0)),
  oG 10 true 12 (.mv (.t 1)),
  oG 10 true 13 (.len true (.t 12)),
  oG 10 true 14 (.sls (.t 11) none (some (.t 13))),
  oG 10 true 15 (.mv (.t 1)),
  oG 10 true 16 (.strs .eql (.t 14) (.t 15)),
  oV 17 (.pick (.t 10) (.t 16) (.c (bv false))),
  oV 4 (.mv (.t 17))] [5, 6, 7, 8, 9, 10, 11, 12, 13, 14, 15, 16, 17]
abbrev zDP : HCode := (.seq zDh (.seq zDi .ret))
abbrev zBO : Env := { N := 18, Γ := [], L := 18, nfix := 0 }
abbrev internal_stringslite_HasPrefix_R : List RSrc := [.tmp 4]
theorem zDj : zBQ Tryz.prog zA7 zDP zBO internal_stringslite_HasPrefix_R := by kernel_rfl
abbrev zH8 : HCode := oN [oV 4 (.mv (.c (bv false)))]
abbrev zH9 : HCode := oR [oV 5 (.mv (.t 0)),
  oV 6 (.mv (.t 1)),
  oC 7 zA8 [(.t 5, .v), (.t 6, .v)],
  oV 4 (.mv (.t 7))] [5, 6, 7]
abbrev zL3 : HCode := (.seq zH8 (.seq zH9 .ret))
abbrev zEI : Env := { N := 8, Γ := [], L := 8, nfix := 0 }
abbrev strings_HasSuffix_R : List RSrc := [.tmp 4]
theorem zIa : zBQ Tryz.prog zCB zL3 zEI strings_HasSuffix_R := by kernel_rfl
abbrev zDk : HCode := oN [oV 4 (.mv (.c (bv false)))]
abbrev zDl : HCode := oR [oV 5 (.mv (.t 0)),
  oV 6 (.len true (.t 5)),
  oV 7 (.mv (.t 1)),
  oV 8 (.len true (.t 7)),
  oV 9 (.ints .geq (.t 6) (.t 8)),
  oV 10 (.mv (.t 9)),
  oG 10 true 11 (.mv (.t 0)),
  oG 10 true 12 (.mv (.t 0)),
  oG 10 true 13 (.len true (.t 12)),
  oG 10 true 14 (.mv (.t 1)),
  oG 10 true 15 (.len true (.t 14)),
  oG 10 true 16 (.ints .sub (.t 13) (.t 15)),
  oG 10 true 17 (.sls (.t 11) (some (.t 16)) none),
  oG 10 true 18 (.mv (.t 1)),
  oG 10 true 19 (.strs .eql (.t 17) (.t 18)),
  oV 20 (.pick (.t 10) (.t 19) (.c (bv false))),
  oV 4 (.mv (.t 20))] [5, 6, 7, 8, 9, 10, 11, 12, 13, 14, 15, 16, 17, 18, 19, 20]
abbrev zDQ : HCode := (.seq zDk (.seq zDl .ret))
abbrev zBP : Env := { N := 21, Γ := [], L := 21, nfix := 0 }
abbrev internal_stringslite_HasSuffix_R : List RSrc := [.tmp 4]
theorem zDm : zBQ Tryz.prog zA8 zDQ zBP internal_stringslite_HasSuffix_R := by kernel_rfl
abbrev zFk : HCode := oN [oV 4 (.mv (.c (bv false)))]
abbrev zFl : HCode := oR [oV 5 (.mv (.t 0)),
  oV 6 (.mv (.t 1)),
  oC 7 zCa [(.t 5, .v), (.t 6, .v)],
  oV 8 (.ints .geq (.t 7) (.c (iv 0))),
  oV 4 (.mv (.t 8))] [5, 6, 7, 8]
abbrev zGw : HCode := (.seq zFk (.seq zFl .ret))
abbrev zCX : Env := { N := 9, Γ := [], L := 9, nfix := 0 }
abbrev slices_Contains_string_R : List RSrc := [.tmp 4]
theorem zFm : zBQ Tryz.prog zBe zGw zCX slices_Contains_string_R := by kernel_rfl
abbrev zGx : HCode := oN [oV 4 (.mv (.c (iv 0)))]
abbrev zGy : HCode := oR [oV 6 (.mv (.t 0)),
  oV 7 (.len false (.t 6)),
  oV 8 (.mv (.c (iv 0)))] [6]
abbrev zGz : HCode := oN [oV 9 (.ints .lss (.t 8) (.t 7))]
abbrev zGA : HCode := oR [oV 10 (.mv (.t 8)),
  oV 5 (.mv (.t 10))] [10]
abbrev zGB : HCode := oR [oV 11 (.mv (.t 1)),
  oV 12 (.mv (.t 0)),
  oV 13 (.mv (.t 5)),
  oV 14 (.idxA 1 (.t 12) (.t 13)),
  oV 15 (.ldR (.t 14) 1 false),
  oV 16 (.strs .eql (.t 11) (.t 15))] [11, 12, 13, 14, 15]
abbrev zGC : HCode := oR [oV 17 (.mv (.t 5)),
  oV 4 (.mv (.t 17))] [17]
abbrev zGD : HCode := oR [oV 18 (.ints .add (.t 8) (.c (iv 1))),
  oV 8 (.mv (.t 18))] [18]
abbrev zGE : HCode := oN [oV 4 (.mv (.c (iv (-1))))]
abbrev zJp : HCode := (.seq zGx (.seq (.seq zGy (.block 0 (.loop (.seq zGz (.seq (.cond (.t 9) .skip (.exit 0)) (.seq (.block 1 (.seq zGA (.seq zGB (.cond (.t 16) (.seq zGC .ret) .skip)))) zGD)))))) (.seq zGE .ret)))
abbrev zDR : Env := { N := 19, Γ := [], L := 19, nfix := 0 }
abbrev slices_Index_string_R : List RSrc := [.tmp 4]
theorem zGF : zBQ Tryz.prog zCa zJp zDR slices_Index_string_R := by kernel_rfl
abbrev zEJ : HCode := oN [oV 4 (.mv (.c (bv false)))]
abbrev zEK : HCode := oR [oV 5 (.mv (.t 0)),
  oV 6 (.mv (.t 1)),
  oC 7 zBV [(.t 5, .v), (.t 6, .v)],
  oV 8 (.ints .geq (.t 7) (.c (iv 0))),
  oV 4 (.mv (.t 8))] [5, 6, 7, 8]
abbrev zFG : HCode := (.seq zEJ (.seq zEK .ret))
abbrev zCt : Env := { N := 9, Γ := [], L := 9, nfix := 0 }
abbrev slices_ContainsFunc_Path_R : List RSrc := [.tmp 4]
theorem zEL : zBQ Tryz.prog zBx zFG zCt slices_ContainsFunc_Path_R := by kernel_rfl
abbrev zFH : HCode := oN [oV 4 (.mv (.c (iv 0)))]
abbrev zFI : HCode := oR [oV 6 (.mv (.t 0)),
  oV 7 (.len false (.t 6)),
  oV 8 (.mv (.c (iv 0)))] [6]
abbrev zFJ : HCode := oN [oV 9 (.ints .lss (.t 8) (.t 7))]
abbrev zFK : HCode := oR [oV 10 (.mv (.t 8)),
  oV 5 (.mv (.t 10))] [10]
abbrev zFL : HCode := oR [oV 11 (.mv (.t 1)),
  oV 12 (.mv (.t 0)),
  oV 13 (.mv (.t 5)),
  oV 14 (.idxA 2 (.t 12) (.t 13)),
  oV 15 (.ldR (.t 14) 2 true),
  ⟨none, .callv (some 16) (.t 11) [(.t 15, .v)]⟩] [11, 12, 13, 14, 15]
abbrev zFM : HCode := oR [oV 17 (.mv (.t 5)),
  oV 4 (.mv (.t 17))] [17]
abbrev zFN : HCode := oR [oV 18 (.ints .add (.t 8) (.c (iv 1))),
  oV 8 (.mv (.t 18))] [18]
abbrev zFO : HCode := oN [oV 4 (.mv (.c (iv (-1))))]
abbrev zHe : HCode := (.seq zFH (.seq (.seq zFI (.block 0 (.loop (.seq zFJ (.seq (.cond (.t 9) .skip (.exit 0)) (.seq (.block 1 (.seq zFK (.seq zFL (.cond (.t 16) (.seq zFM .ret) .skip)))) zFN)))))) (.seq zFO .ret)))
abbrev zDn : Env := { N := 19, Γ := [], L := 19, nfix := 0 }
abbrev slices_IndexFunc_Path_R : List RSrc := [.tmp 4]
theorem zFP : zBQ Tryz.prog zBV zHe zDn slices_IndexFunc_Path_R := by kernel_rfl
abbrev zEM : HCode := oN [oV 4 (.mv (.c (bv false)))]
abbrev zEN : HCode := oR [oV 5 (.mv (.t 0)),
  oV 6 (.mv (.t 1)),
  oC 7 zBW [(.t 5, .v), (.t 6, .v)],
  oV 8 (.ints .geq (.t 7) (.c (iv 0))),
  oV 4 (.mv (.t 8))] [5, 6, 7, 8]
abbrev zFQ : HCode := (.seq zEM (.seq zEN .ret))
abbrev zCu : Env := { N := 9, Γ := [], L := 9, nfix := 0 }
abbrev slices_ContainsFunc_Test_R : List RSrc := [.tmp 4]
theorem zEO : zBQ Tryz.prog zBy zFQ zCu slices_ContainsFunc_Test_R := by kernel_rfl
abbrev zFR : HCode := oN [oV 4 (.mv (.c (iv 0)))]
abbrev zFS : HCode := oR [oV 6 (.mv (.t 0)),
  oV 7 (.len false (.t 6)),
  oV 8 (.mv (.c (iv 0)))] [6]
abbrev zFT : HCode := oN [oV 9 (.ints .lss (.t 8) (.t 7))]
abbrev zFU : HCode := oR [oV 10 (.mv (.t 8)),
  oV 5 (.mv (.t 10))] [10]
abbrev zFV : HCode := oR [oV 11 (.mv (.t 1)),
  oV 12 (.mv (.t 0)),
  oV 13 (.mv (.t 5)),
  oV 14 (.idxA 6 (.t 12) (.t 13)),
  oV 15 (.ldR (.t 14) 6 true),
  ⟨none, .callv (some 16) (.t 11) [(.t 15, .v)]⟩] [11, 12, 13, 14, 15]
abbrev zFW : HCode := oR [oV 17 (.mv (.t 5)),
  oV 4 (.mv (.t 17))] [17]
abbrev zFX : HCode := oR [oV 18 (.ints .add (.t 8) (.c (iv 1))),
  oV 8 (.mv (.t 18))] [18]
abbrev zFY : HCode := oN [oV 4 (.mv (.c (iv (-1))))]
abbrev zHf : HCode := (.seq zFR (.seq (.seq zFS (.block 0 (.loop (.seq zFT (.seq (.cond (.t 9) .skip (.exit 0)) (.seq (.block 1 (.seq zFU (.seq zFV (.cond (.t 16) (.seq zFW .ret) .skip)))) zFX)))))) (.seq zFY .ret)))
abbrev zDo : Env := { N := 19, Γ := [], L := 19, nfix := 0 }
abbrev slices_IndexFunc_Test_R : List RSrc := [.tmp 4]
theorem zFZ : zBQ Tryz.prog zBW zHf zDo slices_IndexFunc_Test_R := by kernel_rfl
abbrev zZA : HCode := oN [oV 1 (.boxF (.t 0)),
  oV 2 (.mv (.c (.one (.v (.pointer none)))))]
abbrev zZB : HCode := .drg [oD 0 false (oV 13 (.ldR (.t 1) 1 true)),
  oD 1 false (oV 14 (.fldR (.t 1) 0 1)),
  oD 2 false (oV 15 (.ldR (.t 14) 1 false)),
  oD 3 false (oV 16 (.len false (.t 15))),
  oD 4 false ⟨none, .vmk 17 zB0 5 [.v (.int .i64 0), .v (.int .i64 0), .v (.int .i64 0), .v (.int .i64 0), .v (.int .i64 0)] (.t 16)⟩,
  oD 5 false ⟨none, .vbe 18 [.nl 5, .nl 5] [(0, 1, .t 13)] 1 1 (.t 17)⟩,
  oD 6 false ⟨none, .vby 19 0 162 2 18⟩,
  oD 7 false (oV 3 (.mv (.t 19)))] [.forget [13, 14, 15, 16, 17, 18, 19], .pin 163 0 162 []]
abbrev zZC : HCode := oN [⟨none, .mmk 20⟩,
  oV 4 (.mv (.t 20))]
abbrev zZD : HCode := oR [oV 21 (.fldR (.t 1) 0 1),
  oV 22 (.ldR (.t 21) 1 false),
  oV 23 (.len false (.t 22)),
  oV 24 (.mv (.c (iv 0)))] [21]
abbrev zZE : HCode := oN [oV 25 (.ints .lss (.t 24) (.t 23))]
abbrev zZF : HCode := oR [oV 26 (.mv (.t 24)),
  oV 27 (.idxA 5 (.t 22) (.t 24)),
  oV 28 (.ldR (.t 27) 5 true),
  ⟨none, .alloc 6 1 164 [.v (.int .i64 0), .v (mkS []), .v (mkS []), .nl 1, .nl 2]⟩,
  oV 5 (.mv (.t 26)),
  ⟨none, .sto (.t 6) 1 164 0 5 (.t 28)⟩] [26, 27, 28]
abbrev zZG : HCode := oR [oV 29 (.mv (.t 3)),
  oV 30 (.nilck (.t 29)),
  oV 31 (.fldP (.t 30) 1),
  oV 32 (.ldh (.t 31) 0 162 1),
  oV 33 (.mv (.t 5)),
  oV 34 (.idxA 5 (.t 32) (.t 33)),
  oV 35 (.fldP (.t 34) 2),
  ⟨none, .vse (.t 35) 163 0 162 [] 1 (.c (iv (-1)))⟩] [29, 30, 31, 32, 33, 34, 35]
abbrev zZH : HCode := oR [oV 37 (.mv (.t 4)),
  oV 38 (.fldP (.t 6) 0),
  oV 39 (.ldB (.t 38) 1 164 0 1 false),
  ⟨none, .mpl 40 (.t 37) 20 1 (.t 39) (.v (.int .i64 0)) true⟩,
  oV 36 (.mv (.t 40)),
  oV 41 (.ext 36 0),
  oV 42 (.ext 36 1),
  oV 7 (.mv (.t 41)),
  oV 8 (.mv (.t 42))] [36, 37, 38, 39, 40, 41, 42]
abbrev zZI : HCode := oN [oV 43 (.mv (.t 8))]
abbrev zZJ : HCode := oR [oV 44 (.mv (.t 3)),
  oV 45 (.nilck (.t 44)),
  oV 46 (.fldP (.t 45) 1),
  oV 47 (.ldh (.t 46) 0 162 1),
  oV 48 (.mv (.t 5)),
  oV 49 (.mv (.t 7)),
  oV 50 (.idxA 5 (.t 47) (.t 48)),
  oV 51 (.fldP (.t 50) 2),
  ⟨none, .vse (.t 51) 163 0 162 [] 1 (.t 49)⟩] [44, 45, 46, 47, 48, 49, 50, 51]
abbrev zXA : HCode := oR [oV 52 (.mv (.t 4)),
  oV 53 (.fldP (.t 6) 0),
  oV 54 (.ldB (.t 53) 1 164 0 1 false),
  oV 55 (.mv (.t 5)),
  ⟨none, .mps (.t 52) 20 1 (.t 54) (.t 55)⟩] [52, 53, 54, 55]
abbrev zXB : HCode := oR [oV 56 (.mv (.t 3)),
  oV 57 (.nilck (.t 56)),
  oV 58 (.fldP (.t 57) 1),
  oV 59 (.ldh (.t 58) 0 162 1),
  oV 60 (.mv (.t 5)),
  oV 61 (.idxA 5 (.t 59) (.t 60)),
  oV 62 (.fldP (.t 61) 0),
  ⟨none, .vse (.t 62) 163 0 162 [] 1 (.c (iv 1))⟩] [56, 57, 58, 59, 60, 61, 62]
abbrev zXC : HCode := oR [oV 63 (.mv (.t 3)),
  oV 64 (.nilck (.t 63)),
  oV 65 (.fldP (.t 64) 1),
  oV 66 (.ldh (.t 65) 0 162 1),
  oV 67 (.mv (.t 5)),
  oV 68 (.idxA 5 (.t 66) (.t 67)),
  oV 69 (.fldP (.t 68) 2),
  ⟨none, .vlp 70 (.t 69) 163 0 162 [] 1 false⟩,
  oV 9 (.mv (.t 70))] [63, 64, 65, 66, 67, 68, 69, 70]
abbrev zXD : HCode := oR [oV 71 (.mv (.t 9)),
  oV 72 (.ints .geq (.t 71) (.c (iv 0)))] [71]
abbrev zXE : HCode := oQ [oD 0 false (oV 73 (.mv (.t 3))),
  oD 1 false (oV 74 (.nilck (.t 73))),
  oD 2 false (oV 75 (.fldP (.t 74) 1)),
  oD 3 false (oV 76 (.ldh (.t 75) 0 162 1)),
  oD 4 false (oV 77 (.mv (.t 5))),
  oD 5 false (oV 78 (.mv (.t 3))),
  oD 6 false (oV 79 (.nilck (.t 78))),
  oD 7 false (oV 80 (.fldP (.t 79) 1)),
  oD 8 false (oV 81 (.ldh (.t 80) 0 162 1)),
  oD 9 false (oV 82 (.mv (.t 9))),
  oD 10 false (oV 83 (.idxA 5 (.t 81) (.t 82))),
  oD 11 false (oV 84 (.fldP (.t 83) 0)),
  oD 12 false ⟨none, .vlp 85 (.t 84) 163 0 162 [] 1 false⟩,
  oD 13 false (oV 86 (.ints .add (.t 85) (.c (iv 1)))),
  oD 14 false (oV 87 (.idxA 5 (.t 76) (.t 77))),
  oD 15 false (oV 88 (.fldP (.t 87) 0)),
  oD 16 false ⟨none, .vse (.t 88) 163 0 162 [] 1 (.t 86)⟩] [73, 74, 75, 76, 77, 78, 79, 80, 81, 82, 83, 84, 85, 86, 87, 88]
abbrev zXF : HCode := oR [oV 89 (.fldP (.t 6) 0),
  oV 90 (.ldB (.t 89) 1 164 0 1 false),
  oV 91 (.ints .geq (.t 90) (.c (iv 0)))] [89, 90]
abbrev zXG : HCode := oQ [oD 0 false (oV 92 (.mv (.t 3))),
  oD 1 false (oV 93 (.nilck (.t 92))),
  oD 2 false (oV 94 (.fldP (.t 93) 1)),
  oD 3 false (oV 95 (.ldh (.t 94) 0 162 1)),
  oD 4 false (oV 96 (.fldP (.t 6) 0)),
  oD 5 false (oV 97 (.ldB (.t 96) 1 164 0 1 false)),
  oD 6 false (oV 98 (.idxA 5 (.t 95) (.t 97))),
  oD 7 false (oV 99 (.fldP (.t 98) 4)),
  oD 8 false ⟨none, .vlp 100 (.t 99) 163 0 162 [] 1 false⟩,
  oD 9 false (oV 101 (.ints .add (.t 100) (.c (iv 1)))),
  oD 10 false (oV 102 (.idxA 5 (.t 95) (.t 97))),
  oD 11 false (oV 103 (.fldP (.t 102) 4)),
  oD 12 false ⟨none, .vse (.t 103) 163 0 162 [] 1 (.t 101)⟩] [92, 93, 94, 95, 96, 97, 98, 99, 100, 101, 102, 103]
abbrev zXH : HCode := oR [oV 104 (.fldP (.t 6) 0),
  oV 105 (.ldB (.t 104) 1 164 0 1 false),
  oV 10 (.mv (.t 105))] [104, 105]
abbrev zXI : HCode := oR [oV 106 (.mv (.t 10)),
  oV 107 (.ints .geq (.t 106) (.c (iv 0)))] [106]
abbrev zXJ : HCode := oR [oV 114 (.mv (.t 3)),
  oV 115 (.nilck (.t 114)),
  oV 116 (.fldP (.t 115) 1),
  oV 117 (.ldh (.t 116) 0 162 1),
  oV 118 (.mv (.t 10)),
  oV 119 (.idxA 5 (.t 117) (.t 118)),
  oV 120 (.fldP (.t 119) 3),
  ⟨none, .vlp 121 (.t 120) 163 0 162 [] 1 false⟩,
  oV 122 (.ints .add (.t 121) (.c (iv 1))),
  oV 123 (.idxA 5 (.t 117) (.t 118)),
  oV 124 (.fldP (.t 123) 3),
  ⟨none, .vse (.t 124) 163 0 162 [] 1 (.t 122)⟩] [114, 115, 116, 117, 118, 119, 120, 121, 122, 123, 124]
abbrev zXK : HCode := oR [oV 108 (.fldR (.t 1) 0 1),
  oV 109 (.ldR (.t 108) 1 false),
  oV 110 (.mv (.t 10)),
  oV 111 (.idxA 5 (.t 109) (.t 110)),
  oV 112 (.fldR (.t 111) 0 1),
  oV 113 (.ldR (.t 112) 1 false),
  oV 10 (.mv (.t 113))] [108, 109, 110, 111, 112, 113]
abbrev zXL : HCode := oR [oV 125 (.ints .add (.t 24) (.c (iv 1))),
  oV 24 (.mv (.t 125))] [125]
abbrev zXM : HCode := oR [oV 126 (.fldR (.t 1) 0 1),
  oV 127 (.ldR (.t 126) 1 false),
  oV 128 (.len false (.t 127)),
  oV 129 (.mv (.c (iv 0)))] [126]
abbrev zXN : HCode := oN [oV 130 (.ints .lss (.t 129) (.t 128))]
abbrev zXO : HCode := oR [oV 131 (.mv (.t 129)),
  oV 132 (.idxA 5 (.t 127) (.t 129)),
  oV 133 (.ldR (.t 132) 5 true),
  ⟨none, .alloc 12 2 169 [.v (.int .i64 0), .v (mkS []), .v (mkS []), .nl 1, .nl 2]⟩,
  oV 11 (.mv (.t 131)),
  ⟨none, .sto (.t 12) 2 169 0 5 (.t 133)⟩] [131, 132, 133]
abbrev zXP : HCode := oR [oV 134 (.mv (.t 3)),
  oV 135 (.nilck (.t 134)),
  oV 136 (.fldP (.t 135) 1),
  oV 137 (.ldh (.t 136) 0 162 1),
  oV 138 (.mv (.t 11)),
  oV 139 (.idxA 5 (.t 137) (.t 138)),
  oV 140 (.fldP (.t 139) 1),
  ⟨none, .vse (.t 140) 163 0 162 [] 1 (.c (iv 1))⟩] [134, 135, 136, 137, 138, 139, 140]
abbrev zXQ : HCode := oR [oV 141 (.fldP (.t 12) 0),
  oV 142 (.ldB (.t 141) 2 169 0 1 false),
  oV 143 (.ints .geq (.t 142) (.c (iv 0)))] [141, 142]
abbrev zXR : HCode := oQ [oD 0 false (oV 144 (.mv (.t 3))),
  oD 1 false (oV 145 (.nilck (.t 144))),
  oD 2 false (oV 146 (.fldP (.t 145) 1)),
  oD 3 false (oV 147 (.ldh (.t 146) 0 162 1)),
  oD 4 false (oV 148 (.mv (.t 11))),
  oD 5 false (oV 149 (.mv (.t 3))),
  oD 6 false (oV 150 (.nilck (.t 149))),
  oD 7 false (oV 151 (.fldP (.t 150) 1)),
  oD 8 false (oV 152 (.ldh (.t 151) 0 162 1)),
  oD 9 false (oV 153 (.fldP (.t 12) 0)),
  oD 10 false (oV 154 (.ldB (.t 153) 2 169 0 1 false)),
  oD 11 false (oV 155 (.idxA 5 (.t 152) (.t 154))),
  oD 12 false (oV 156 (.fldP (.t 155) 4)),
  oD 13 false ⟨none, .vlp 157 (.t 156) 163 0 162 [] 1 false⟩,
  oD 14 false (oV 158 (.idxA 5 (.t 147) (.t 148))),
  oD 15 false (oV 159 (.fldP (.t 158) 1)),
  oD 16 false ⟨none, .vse (.t 159) 163 0 162 [] 1 (.t 157)⟩] [144, 145, 146, 147, 148, 149, 150, 151, 152, 153, 154, 155, 156, 157, 158, 159]
abbrev zXS : HCode := oR [oV 160 (.ints .add (.t 129) (.c (iv 1))),
  oV 129 (.mv (.t 160))] [160]
abbrev zXT : HCode := .regG [.vfr 163 0 162, .frz 0 162 2] [oV 161 (.mv (.t 3)),
  oV 2 (.mv (.t 161))] [.forget [161]]
abbrev yEp : HCode := (.seq zZA (.seq zZB (.seq zZC (.seq (.seq zZD (.block 0 (.loop (.seq zZE (.seq (.cond (.t 25) .skip (.exit 0)) (.seq (.block 1 (.seq zZF (.seq zZG (.seq (.seq zZH (.seq zZI (.cond (.t 43) zZJ .skip))) (.seq zXA (.seq zXB (.seq (.seq zXC (.seq zXD (.cond (.t 72) zXE .skip))) (.seq (.seq zXF (.cond (.t 91) zXG .skip)) (.seq zXH (.block 2 (.loop (.seq (.seq zXI (.cond (.t 107) .skip (.exit 2))) (.seq (.block 3 zXJ) zXK))))))))))))) zXL)))))) (.seq (.seq zXM (.block 4 (.loop (.seq zXN (.seq (.cond (.t 130) .skip (.exit 4)) (.seq (.block 5 (.seq zXO (.seq zXP (.seq zXQ (.cond (.t 143) zXR .skip))))) zXS)))))) (.seq zXT .ret))))))
abbrev zSQ : Env := { N := 162, Γ := [(162, 2), (164, 5), (169, 5)], L := 174, nfix := 0, una := [162] }
abbrev match_of_R : List RSrc := [.tmp 2]
theorem zZK : zBQ Tryz.prog zJo yEp zSQ match_of_R := by kernel_rfl
abbrev zJq : HCode := oN [oV 5 (.boxF (.t 2)),
  oV 6 (.mv (.c (sv []))),
  oV 7 (.mv (.c (bv false)))]
abbrev zJr : HCode := oR [oV 9 (.mv (.t 0)),
  oV 10 (.nilck (.t 9)),
  oV 11 (.fldR (.t 10) 0 1),
  oV 12 (.fldR (.t 11) 0 1),
  oV 13 (.ldR (.t 12) 1 false),
  oV 14 (.mv (.t 1)),
  oV 15 (.idxA 5 (.t 13) (.t 14)),
  oV 16 (.fldR (.t 15) 4 1),
  oV 17 (.ldR (.t 16) 1 false),
  oV 18 (.mkf zBM [.t 5]),
  oC 19 zA2 [(.t 17, .v), (.t 18, .v)],
  oV 8 (.mv (.t 19))] [9, 10, 11, 12, 13, 14, 15, 16, 17, 18, 19]
abbrev zJs : HCode := oR [oV 20 (.mv (.t 8)),
  oV 21 (.ints .lss (.t 20) (.c (iv 0)))] [20]
abbrev zJt : HCode := oN [oV 6 (.mv (.c (sv []))),
  oV 7 (.mv (.c (bv false)))]
abbrev zJu : HCode := oR [oV 22 (.mv (.t 0)),
  oV 23 (.nilck (.t 22)),
  oV 24 (.fldR (.t 23) 0 1),
  oV 25 (.fldR (.t 24) 0 1),
  oV 26 (.ldR (.t 25) 1 false),
  oV 27 (.mv (.t 1)),
  oV 28 (.idxA 5 (.t 26) (.t 27)),
  oV 29 (.fldR (.t 28) 4 1),
  oV 30 (.ldR (.t 29) 1 false),
  oV 31 (.mv (.t 8)),
  oV 32 (.idxA 2 (.t 30) (.t 31)),
  oV 33 (.fldR (.t 32) 1 1),
  oV 34 (.ldR (.t 33) 1 false),
  oV 6 (.mv (.t 34)),
  oV 7 (.mv (.c (bv true)))] [22, 23, 24, 25, 26, 27, 28, 29, 30, 31, 32, 33, 34]
abbrev zNC : HCode := (.seq zJq (.seq zJr (.seq (.seq zJs (.cond (.t 21) (.seq zJt .ret) .skip)) (.seq zJu .ret))))
abbrev zFb : Env := { N := 35, Γ := [], L := 35, nfix := 0 }
abbrev match_look_value_R : List RSrc := [.tmp 6, .tmp 7]
theorem zJv : zBQ Tryz.prog zCQ zNC zFb match_look_value_R := by kernel_rfl
abbrev zHg : HCode := oN [oV 2 (.boxF (.t 0)),
  oV 3 (.mv (.c (bv false)))]
abbrev zHh : HCode := oR [oV 4 (.fldR (.t 2) 0 1),
  oV 5 (.ldR (.t 4) 1 false),
  oV 6 (.ldR (.t 1) 1 false),
  oV 7 (.strs .eql (.t 5) (.t 6)),
  oV 3 (.mv (.t 7))] [4, 5, 6, 7]
abbrev zKI : HCode := (.seq zHg (.seq zHh .ret))
abbrev zD6 : Env := { N := 8, Γ := [], L := 8, nfix := 0 }
abbrev match_look_value_1_R : List RSrc := [.tmp 3]
theorem zHi : zBQ Tryz.prog zBM zKI zD6 match_look_value_1_R := by kernel_rfl
abbrev zVe : HCode := oN [oV 2 (.boxF (.t 0)),
  oV 4 (.mv (.c (bv false)))]
abbrev zVf : HCode := oR [oV 6 (.fldR (.t 2) 2 1),
  oV 7 (.ldR (.t 6) 1 false),
  oV 5 (.mv (.t 7))] [6, 7]
abbrev zVg : HCode := oR [oV 8 (.fldR (.t 2) 0 1),
  oV 9 (.ldR (.t 8) 1 false)] [8]
abbrev zVh : HCode := oR [oV 11 (.ints .eql (.t 9) (.c (iv 4))),
  oV 10 (.mv (.t 11))] [11]
abbrev zVi : HCode := oR [oV 12 (.mv (.t 1)),
  oV 13 (.mv (.t 5)),
  oV 14 (.strs .eql (.t 12) (.t 13)),
  oV 4 (.mv (.t 14))] [12, 13, 14]
abbrev zVj : HCode := oR [oV 16 (.ints .eql (.t 9) (.c (iv 5))),
  oV 15 (.mv (.t 16))] [16]
abbrev zVk : HCode := oR [oV 17 (.mv (.t 5)),
  oV 18 (.strs .neq (.t 17) (.c (sv []))),
  oV 19 (.mv (.t 18)),
  oG 19 true 20 (.mv (.t 1)),
  oG 19 true 21 (.mv (.t 5)),
  ⟨some (19, true), .call (some 22) zCA [(.t 20, .v), (.t 21, .v)]⟩,
  oV 23 (.pick (.t 19) (.t 22) (.c (bv false))),
  oV 4 (.mv (.t 23))] [17, 18, 19, 20, 21, 22, 23]
abbrev zVl : HCode := oR [oV 25 (.ints .eql (.t 9) (.c (iv 6))),
  oV 24 (.mv (.t 25))] [25]
abbrev zVm : HCode := oR [oV 26 (.mv (.t 5)),
  oV 27 (.strs .neq (.t 26) (.c (sv []))),
  oV 28 (.mv (.t 27)),
  oG 28 true 29 (.mv (.t 1)),
  oG 28 true 30 (.mv (.t 5)),
  ⟨some (28, true), .call (some 31) zCB [(.t 29, .v), (.t 30, .v)]⟩,
  oV 32 (.pick (.t 28) (.t 31) (.c (bv false))),
  oV 4 (.mv (.t 32))] [26, 27, 28, 29, 30, 31, 32]
abbrev zVn : HCode := oR [oV 34 (.ints .eql (.t 9) (.c (iv 7))),
  oV 33 (.mv (.t 34))] [34]
abbrev zSd : HCode := oR [oV 35 (.mv (.t 5)),
  oV 36 (.strs .neq (.t 35) (.c (sv []))),
  oV 37 (.mv (.t 36)),
  oG 37 true 38 (.mv (.t 1)),
  oG 37 true 39 (.mv (.t 5)),
  ⟨some (37, true), .call (some 40) zCR [(.t 38, .v), (.t 39, .v)]⟩,
  oV 41 (.pick (.t 37) (.t 40) (.c (bv false))),
  oV 4 (.mv (.t 41))] [35, 36, 37, 38, 39, 40, 41]
abbrev zSe : HCode := oR [oV 43 (.ints .eql (.t 9) (.c (iv 8))),
  oV 42 (.mv (.t 43))] [43]
abbrev zSf : HCode := oR [oV 44 (.mv (.t 5)),
  oV 45 (.strs .neq (.t 44) (.c (sv []))),
  oV 46 (.mv (.t 45)),
  oG 46 true 47 (.mv (.t 1)),
  ⟨some (46, true), .call (some 48) zDZ [(.t 47, .v), (.c (sv [32]), .v)]⟩,
  oG 46 true 49 (.mv (.t 5)),
  ⟨some (46, true), .call (some 50) zBe [(.t 48, .v), (.t 49, .v)]⟩,
  oV 51 (.pick (.t 46) (.t 50) (.c (bv false))),
  oV 4 (.mv (.t 51))] [44, 45, 46, 47, 48, 49, 50, 51]
abbrev zSg : HCode := oN [oV 4 (.mv (.c (bv true)))]
abbrev yBN : HCode := (.seq zVe (.seq zVf (.seq (.seq zVg (.block 0 (.seq zVh (.cond (.t 10) (.seq zVi .ret) (.seq zVj (.cond (.t 15) (.seq zVk .ret) (.seq zVl (.cond (.t 24) (.seq zVm .ret) (.seq zVn (.cond (.t 33) (.seq zSd .ret) (.seq zSe (.cond (.t 42) (.seq zSf .ret) .skip)))))))))))) (.seq zSg .ret))))
abbrev zMS : Env := { N := 52, Γ := [], L := 52, nfix := 0 }
abbrev match_attr_R : List RSrc := [.tmp 4]
theorem zVo : zBQ Tryz.prog zGi yBN zMS match_attr_R := by kernel_rfl
abbrev zIb : HCode := oN [oV 4 (.boxF (.t 1)),
  oV 6 (.mv (.c (bv false)))]
abbrev zIc : HCode := oR [oV 11 (.mv (.t 0)),
  oV 12 (.nilck (.t 11)),
  oV 13 (.fldR (.t 12) 0 1),
  oV 14 (.fldR (.t 13) 0 1),
  oV 15 (.ldR (.t 14) 1 false),
  oV 16 (.mv (.t 2)),
  oV 17 (.idxA 5 (.t 15) (.t 16)),
  oV 18 (.ldR (.t 17) 5 true),
  ⟨none, .alloc 7 0 138 [.v (.int .i64 0), .v (mkS []), .v (mkS []), .nl 1, .nl 2]⟩,
  ⟨none, .sto (.t 7) 0 138 0 5 (.t 18)⟩] [11, 12, 13, 14, 15, 16, 17, 18]
abbrev zId : HCode := oR [oV 19 (.fldR (.t 4) 0 1),
  oV 20 (.ldR (.t 19) 1 false)] [19]
abbrev zIe : HCode := oR [oV 22 (.ints .eql (.t 20) (.c (iv 1))),
  oV 21 (.mv (.t 22))] [22]
abbrev zIf : HCode := oR [oV 23 (.fldP (.t 7) 3),
  oV 24 (.ldB (.t 23) 0 138 3 1 false),
  oV 25 (.fldR (.t 4) 1 1),
  oV 26 (.ldR (.t 25) 1 false),
  oC 27 zBe [(.t 24, .v), (.t 26, .v)],
  oV 6 (.mv (.t 27))] [23, 24, 25, 26, 27]
abbrev zIg : HCode := oR [oV 29 (.ints .eql (.t 20) (.c (iv 2))),
  oV 28 (.mv (.t 29))] [29]
abbrev zIh : HCode := oR [oV 30 (.fldP (.t 7) 2),
  oV 31 (.ldB (.t 30) 0 138 2 1 false),
  oV 32 (.fldR (.t 4) 1 1),
  oV 33 (.ldR (.t 32) 1 false),
  oV 34 (.strs .eql (.t 31) (.t 33)),
  oV 6 (.mv (.t 34))] [30, 31, 32, 33, 34]
abbrev zIi : HCode := oR [oV 36 (.ints .eql (.t 20) (.c (iv 9))),
  oV 35 (.mv (.t 36))] [36]
abbrev zIj : HCode := oQ [oD 0 false (oV 37 (.fldR (.t 4) 3 2)),
  oD 1 false (oV 38 (.ldR (.t 37) 2 true)),
  oD 2 false (oV 39 (.mv (.t 0))),
  oD 3 false (oV 40 (.nilck (.t 39))),
  oD 4 false (oV 41 (.fldR (.t 40) 1 1)),
  oD 5 false (oV 42 (.ldR (.t 41) 1 false)),
  oD 6 false (oV 43 (.mv (.t 2))),
  oD 7 false (oV 44 (.idxA 5 (.t 42) (.t 43))),
  oD 8 false (oV 45 (.fldR (.t 44) 0 1)),
  oD 9 false (oV 46 (.ldR (.t 45) 1 false)),
  oD 10 true (oC 47 zE8 [(.t 38, .v), (.t 46, .v)]),
  oD 11 false (oV 6 (.mv (.t 47)))] [37, 38, 39, 40, 41, 42, 43, 44, 45, 46, 47]
abbrev zIk : HCode := oR [oV 49 (.ints .eql (.t 20) (.c (iv 10))),
  oV 48 (.mv (.t 49))] [49]
abbrev zHj : HCode := oQ [oD 0 false (oV 50 (.fldR (.t 4) 3 2)),
  oD 1 false (oV 51 (.ldR (.t 50) 2 true)),
  oD 2 false (oV 52 (.mv (.t 0))),
  oD 3 false (oV 53 (.nilck (.t 52))),
  oD 4 false (oV 54 (.fldR (.t 53) 1 1)),
  oD 5 false (oV 55 (.ldR (.t 54) 1 false)),
  oD 6 false (oV 56 (.mv (.t 2))),
  oD 7 false (oV 57 (.idxA 5 (.t 55) (.t 56))),
  oD 8 false (oV 58 (.fldR (.t 57) 1 1)),
  oD 9 false (oV 59 (.ldR (.t 58) 1 false)),
  oD 10 false (oV 60 (.mv (.t 0))),
  oD 11 false (oV 61 (.nilck (.t 60))),
  oD 12 false (oV 62 (.fldR (.t 61) 1 1)),
  oD 13 false (oV 63 (.ldR (.t 62) 1 false)),
  oD 14 false (oV 64 (.mv (.t 2))),
  oD 15 false (oV 65 (.idxA 5 (.t 63) (.t 64))),
  oD 16 false (oV 66 (.fldR (.t 65) 0 1)),
  oD 17 false (oV 67 (.ldR (.t 66) 1 false)),
  oD 18 false (oV 68 (.ints .sub (.t 59) (.t 67))),
  oD 19 false (oV 69 (.ints .add (.t 68) (.c (iv 1)))),
  oD 20 true (oC 70 zE8 [(.t 51, .v), (.t 69, .v)]),
  oD 21 false (oV 6 (.mv (.t 70)))] [50, 51, 52, 53, 54, 55, 56, 57, 58, 59, 60, 61, 62, 63, 64, 65, 66, 67, 68, 69, 70]
abbrev zHk : HCode := oR [oV 72 (.ints .eql (.t 20) (.c (iv 11))),
  oV 71 (.mv (.t 72))] [72]
abbrev zHl : HCode := oR [oV 73 (.mv (.t 0)),
  oV 74 (.nilck (.t 73)),
  oV 75 (.fldR (.t 74) 1 1),
  oV 76 (.ldR (.t 75) 1 false),
  oV 77 (.mv (.t 2)),
  oV 78 (.idxA 5 (.t 76) (.t 77)),
  oV 79 (.fldR (.t 78) 4 1),
  oV 80 (.ldR (.t 79) 1 false),
  oV 81 (.ints .eql (.t 80) (.c (iv 0))),
  oV 6 (.mv (.t 81))] [73, 74, 75, 76, 77, 78, 79, 80, 81]
abbrev zHm : HCode := oR [oV 83 (.ints .eql (.t 20) (.c (iv 12))),
  oV 82 (.mv (.t 83))] [83]
abbrev zHn : HCode := oR [oV 84 (.mv (.t 2)),
  oV 85 (.ints .eql (.t 84) (.c (iv 0))),
  oV 6 (.mv (.t 85))] [84, 85]
abbrev zHo : HCode := oR [oV 87 (.ints .eql (.t 20) (.c (iv 13))),
  oV 86 (.mv (.t 87))] [87]
abbrev zHp : HCode := oR [oV 88 (.mv (.t 0)),
  oV 89 (.fldR (.t 4) 5 1),
  oV 90 (.ldR (.t 89) 1 false),
  oV 91 (.mv (.t 2)),
  oC 92 zAB [(.t 88, .v), (.t 90, .v), (.t 91, .v)],
  oV 93 (.not (.t 92)),
  oV 6 (.mv (.t 93))] [88, 89, 90, 91, 92, 93]
abbrev zHq : HCode := oR [oV 95 (.ints .eql (.t 20) (.c (iv 14))),
  oV 94 (.mv (.t 95))] [95]
abbrev zHr : HCode := oR [oV 96 (.mv (.t 0)),
  oV 97 (.fldR (.t 4) 5 1),
  oV 98 (.ldR (.t 97) 1 false),
  oV 99 (.mv (.t 2)),
  oC 100 zAB [(.t 96, .v), (.t 98, .v), (.t 99, .v)],
  oV 6 (.mv (.t 100))] [96, 97, 98, 99, 100]
abbrev zHs : HCode := oR [oV 102 (.ints .eql (.t 20) (.c (iv 15))),
  oV 101 (.mv (.t 102))] [102]
abbrev zHt : HCode := oR [oV 103 (.mv (.t 2)),
  oV 104 (.ints .add (.t 103) (.c (iv 1))),
  oV 8 (.mv (.t 104))] [103, 104]
abbrev zHu : HCode := oR [oV 105 (.mv (.t 8)),
  oV 106 (.mv (.t 2)),
  oV 107 (.mv (.t 0)),
  oV 108 (.nilck (.t 107)),
  oV 109 (.fldR (.t 108) 1 1),
  oV 110 (.ldR (.t 109) 1 false),
  oV 111 (.mv (.t 2)),
  oV 112 (.idxA 5 (.t 110) (.t 111)),
  oV 113 (.fldR (.t 112) 3 1),
  oV 114 (.ldR (.t 113) 1 false),
  oV 115 (.ints .add (.t 106) (.t 114)),
  oV 116 (.ints .leq (.t 105) (.t 115))] [105, 106, 107, 108, 109, 110, 111, 112, 113, 114, 115]
abbrev zHv : HCode := oR [oV 119 (.mv (.t 0)),
  oV 120 (.fldR (.t 4) 5 1),
  oV 121 (.ldR (.t 120) 1 false),
  oV 122 (.mv (.t 8)),
  oC 123 zAB [(.t 119, .v), (.t 121, .v), (.t 122, .v)]] [119, 120, 121, 122]
abbrev zHw : HCode := oN [oV 6 (.mv (.c (bv true)))]
abbrev zHx : HCode := oR [oV 117 (.mv (.t 8)),
  oV 118 (.ints .add (.t 117) (.c (iv 1))),
  oV 8 (.mv (.t 118))] [117, 118]
abbrev zHy : HCode := oN [oV 6 (.mv (.c (bv false)))]
abbrev zHz : HCode := oR [oV 125 (.mv (.t 0)),
  oV 126 (.mv (.t 2)),
  oV 127 (.fldR (.t 4) 1 1),
  oV 128 (.ldR (.t 127) 1 false),
  oC 129 zCQ [(.t 125, .v), (.t 126, .v), (.t 128, .v)],
  oV 124 (.mv (.t 129)),
  oV 130 (.ext 124 0),
  oV 131 (.ext 124 1),
  oV 9 (.mv (.t 130)),
  oV 10 (.mv (.t 131))] [124, 125, 126, 127, 128, 129, 130, 131]
abbrev zHA : HCode := oR [oV 132 (.mv (.t 10)),
  oV 133 (.mv (.t 132)),
  oG 133 true 134 (.ldR (.t 4) 6 true),
  oG 133 true 135 (.mv (.t 9)),
  ⟨some (133, true), .call (some 136) zGi [(.t 134, .v), (.t 135, .v)]⟩,
  oV 137 (.pick (.t 133) (.t 136) (.c (bv false))),
  oV 6 (.mv (.t 137))] [132, 133, 134, 135, 136, 137]
abbrev zL4 : HCode := (.seq zIb (.seq zIc (.seq (.seq zId (.block 0 (.seq zIe (.cond (.t 21) (.seq zIf .ret) (.seq zIg (.cond (.t 28) (.seq zIh .ret) (.seq zIi (.cond (.t 35) (.seq zIj .ret) (.seq zIk (.cond (.t 48) (.seq zHj .ret) (.seq zHk (.cond (.t 71) (.seq zHl .ret) (.seq zHm (.cond (.t 82) (.seq zHn .ret) (.seq zHo (.cond (.t 86) (.seq zHp .ret) (.seq zHq (.cond (.t 94) (.seq zHr .ret) (.seq zHs (.cond (.t 101) (.seq (.seq zHt (.block 1 (.loop (.seq (.seq zHu (.cond (.t 116) .skip (.exit 1))) (.seq (.block 2 (.seq zHv (.cond (.t 123) (.seq zHw .ret) .skip))) zHx))))) (.seq zHy .ret)) .skip)))))))))))))))))))) (.seq zHz (.seq zHA .ret)))))
abbrev zEP : Env := { N := 138, Γ := [(138, 5)], L := 143, nfix := 0 }
abbrev match_look_passes_R : List RSrc := [.tmp 6]
theorem zIl : zBQ Tryz.prog zAP zL4 zEP match_look_passes_R := by kernel_rfl
abbrev zKJ : HCode := oN [oV 3 (.boxF (.t 0)),
  oV 4 (.boxF (.t 1)),
  oV 5 (.boxF (.t 2)),
  oV 6 (.mv (.c (bv false)))]
abbrev zKK : HCode := oQ [oD 0 false (oV 7 (.fldR (.t 4) 0 1)),
  oD 1 false (oV 8 (.ldR (.t 7) 1 false)),
  oD 2 false (oV 9 (.strs .eql (.t 8) (.c (sv [])))),
  oD 3 false (oV 10 (.mv (.t 9))),
  oD 4 false (oG 10 false 11 (.fldR (.t 4) 0 1)),
  oD 5 false (oG 10 false 12 (.ldR (.t 11) 1 false)),
  oD 6 false (oG 10 false 13 (.ldR (.t 3) 1 false)),
  oD 7 false (oG 10 false 14 (.nilck (.t 13))),
  oD 8 false (oG 10 false 15 (.fldR (.t 14) 0 1)),
  oD 9 false (oG 10 false 16 (.fldR (.t 15) 0 1)),
  oD 10 false (oG 10 false 17 (.ldR (.t 16) 1 false)),
  oD 11 false (oG 10 false 18 (.ldR (.t 5) 1 false)),
  oD 12 false (oG 10 false 19 (.idxA 5 (.t 17) (.t 18))),
  oD 13 false (oG 10 false 20 (.fldR (.t 19) 1 1)),
  oD 14 false (oG 10 false 21 (.ldR (.t 20) 1 false)),
  oD 15 false (oG 10 false 22 (.strs .eql (.t 12) (.t 21))),
  oD 16 false (oV 23 (.pick (.t 10) (.c (bv true)) (.t 22))),
  oD 17 false (oV 24 (.mv (.t 23))),
  oD 18 false (oG 24 true 25 (.fldR (.t 4) 1 1)),
  oD 19 false (oG 24 true 26 (.ldR (.t 25) 1 false)),
  oD 20 false (oG 24 true 27 (.mkf zBS [.t 3, .t 5])),
  oD 21 true ⟨some (24, true), .call (some 28) zBy [(.t 26, .v), (.t 27, .v)]⟩,
  oD 22 false (oG 24 true 29 (.not (.t 28))),
  oD 23 false (oV 30 (.pick (.t 24) (.t 29) (.c (bv false)))),
  oD 24 false (oV 6 (.mv (.t 30)))] [7, 8, 9, 10, 11, 12, 13, 14, 15, 16, 17, 18, 19, 20, 21, 22, 23, 24, 25, 26, 27, 28, 29, 30]
abbrev zQe : HCode := (.seq zKJ (.seq zKK .ret))
abbrev zF0 : Env := { N := 31, Γ := [], L := 31, nfix := 0 }
abbrev match_look_step_R : List RSrc := [.tmp 6]
theorem zKL : zBQ Tryz.prog zBj zQe zF0 match_look_step_R := by kernel_rfl
abbrev zIm : HCode := oN [oV 3 (.boxF (.t 0)),
  oV 4 (.mv (.c (bv false)))]
abbrev zIn : HCode := oR [oV 5 (.ldR (.t 1) 1 false),
  oV 6 (.ldR (.t 3) 6 true),
  oV 7 (.ldR (.t 2) 1 false),
  oC 8 zAP [(.t 5, .v), (.t 6, .v), (.t 7, .v)],
  oV 9 (.not (.t 8)),
  oV 4 (.mv (.t 9))] [5, 6, 7, 8, 9]
abbrev zL5 : HCode := (.seq zIm (.seq zIn .ret))
abbrev zEQ : Env := { N := 10, Γ := [], L := 10, nfix := 0 }
abbrev match_look_step_1_R : List RSrc := [.tmp 4]
theorem zIo : zBQ Tryz.prog zBS zL5 zEQ match_look_step_1_R := by kernel_rfl
abbrev zJw : HCode := oN [oV 3 (.boxF (.t 0)),
  oV 4 (.boxF (.t 1)),
  oV 5 (.boxF (.t 2)),
  oV 6 (.mv (.c (.one (.v .nilFunc))))]
abbrev zJx : HCode := oR [oV 8 (.mkf zBK [.t 3]),
  ⟨none, .alloc 7 0 17 [.v .nilFunc]⟩,
  ⟨none, .sto (.t 7) 0 17 0 1 (.t 8)⟩] [8]
abbrev zJy : HCode := oR [oV 9 (.ldR (.t 4) 1 false),
  oV 10 (.ints .eql (.t 9) (.c (iv 3))),
  oV 11 (.mv (.t 10)),
  oG 11 false 12 (.ldR (.t 4) 1 false),
  oG 11 false 13 (.ints .eql (.t 12) (.c (iv 4))),
  oV 14 (.pick (.t 11) (.c (bv true)) (.t 13))] [9, 10, 11, 12, 13]
abbrev zJz : HCode := oR [oV 15 (.mkf zBL [.t 3]),
  ⟨none, .sto (.t 7) 0 17 0 1 (.t 15)⟩] [15]
abbrev zJA : HCode := .regG [.frz 0 17 1] [oV 16 (.mkf zDO [.t 7, .t 5, .t 4]),
  oV 6 (.mv (.t 16))] [.forget [16]]
abbrev zND : HCode := (.seq zJw (.seq zJx (.seq (.seq zJy (.cond (.t 14) zJz .skip)) (.seq zJA .ret))))
abbrev zFc : Env := { N := 17, Γ := [(17, 1)], L := 18, nfix := 0 }
abbrev match_look_roads_R : List RSrc := [.tmp 6]
theorem zJB : zBQ Tryz.prog zCP zND zFc match_look_roads_R := by kernel_rfl
abbrev zHB : HCode := oN [oV 3 (.mv (.c (iv 0)))]
abbrev zHC : HCode := oR [oV 4 (.ldR (.t 1) 1 false),
  oV 5 (.nilck (.t 4)),
  oV 6 (.fldR (.t 5) 0 1),
  oV 7 (.fldR (.t 6) 0 1),
  oV 8 (.ldR (.t 7) 1 false),
  oV 9 (.mv (.t 0)),
  oV 10 (.idxA 5 (.t 8) (.t 9)),
  oV 11 (.fldR (.t 10) 0 1),
  oV 12 (.ldR (.t 11) 1 false),
  oV 3 (.mv (.t 12))] [4, 5, 6, 7, 8, 9, 10, 11, 12]
abbrev zKM : HCode := (.seq zHB (.seq zHC .ret))
abbrev zD7 : Env := { N := 13, Γ := [], L := 13, nfix := 0 }
abbrev match_look_roads_1_R : List RSrc := [.tmp 3]
theorem zHD : zBQ Tryz.prog zBK zKM zD7 match_look_roads_1_R := by kernel_rfl
abbrev zHE : HCode := oN [oV 3 (.mv (.c (iv 0)))]
abbrev zHF : HCode := oR [oV 4 (.ldR (.t 1) 1 false),
  oV 5 (.nilck (.t 4)),
  oV 6 (.fldR (.t 5) 1 1),
  oV 7 (.ldR (.t 6) 1 false),
  oV 8 (.mv (.t 0)),
  oV 9 (.idxA 5 (.t 7) (.t 8)),
  oV 10 (.fldR (.t 9) 2 1),
  oV 11 (.ldR (.t 10) 1 false),
  oV 3 (.mv (.t 11))] [4, 5, 6, 7, 8, 9, 10, 11]
abbrev zKN : HCode := (.seq zHE (.seq zHF .ret))
abbrev zD8 : Env := { N := 12, Γ := [], L := 12, nfix := 0 }
abbrev match_look_roads_2_R : List RSrc := [.tmp 3]
theorem zHG : zBQ Tryz.prog zBL zKN zD8 match_look_roads_2_R := by kernel_rfl
abbrev zKO : HCode := oN [oV 3 (.boxF (.t 0)),
  oV 5 (.boxF (.t 2)),
  oV 6 (.mv (.c (bv false)))]
abbrev zKP : HCode := oR [oV 7 (.mv (.t 1)),
  oV 8 (.mkf zBR [.t 3, .t 5]),
  oC 9 zBx [(.t 7, .v), (.t 8, .v)],
  oV 6 (.mv (.t 9))] [7, 8, 9]
abbrev zQf : HCode := (.seq zKO (.seq zKP .ret))
abbrev zF1 : Env := { N := 10, Γ := [], L := 10, nfix := 0 }
abbrev match_look_list_R : List RSrc := [.tmp 6]
theorem zKQ : zBQ Tryz.prog zAB zQf zF1 match_look_list_R := by kernel_rfl
abbrev zIp : HCode := oN [oV 3 (.boxF (.t 0)),
  oV 4 (.mv (.c (bv false)))]
abbrev zIq : HCode := oR [oV 5 (.ldR (.t 1) 1 false),
  oV 6 (.ldR (.t 3) 2 true),
  oV 7 (.fldR (.t 3) 0 1),
  oV 8 (.ldR (.t 7) 1 false),
  oV 9 (.len false (.t 8)),
  oV 10 (.ldR (.t 2) 1 false),
  oC 11 zA9 [(.t 5, .v), (.t 6, .v), (.t 9, .v), (.t 10, .v)],
  oV 4 (.mv (.t 11))] [5, 6, 7, 8, 9, 10, 11]
abbrev zL6 : HCode := (.seq zIp (.seq zIq .ret))
abbrev zER : Env := { N := 12, Γ := [], L := 12, nfix := 0 }
abbrev match_look_list_1_R : List RSrc := [.tmp 4]
theorem zIr : zBQ Tryz.prog zBR zL6 zER match_look_list_1_R := by kernel_rfl
abbrev zSh : HCode := oN [oV 2 (.boxF (.t 0)),
  oV 4 (.mv (.c (.one (.v (.pointer none))))),
  oV 5 (.mv (.c (iv 0)))]
abbrev zSi : HCode := oR [oV 8 (.ldR (.t 2) 1 true),
  oC 9 zGU [(.t 8, .v)],
  oV 6 (.mv (.t 9))] [8, 9]
abbrev zSj : HCode := oR [oV 10 (.mv (.t 6)),
  oV 11 (.ints .neq (.t 10) (.c (iv 0)))] [10]
abbrev zSk : HCode := oR [oV 12 (.mv (.t 6)),
  oV 4 (.mv (.c (.one (.v (.pointer none))))),
  oV 5 (.mv (.t 12))] [12]
abbrev zSl : HCode := oR [oV 13 (.mv (.t 1)),
  oC 14 zGe [(.t 13, .v)],
  oV 7 (.mv (.t 14))] [13, 14]
abbrev zSm : HCode := oR [oV 15 (.mv (.t 7)),
  oV 16 (.ints .neq (.t 15) (.c (iv 0)))] [15]
abbrev zSn : HCode := oR [oV 17 (.mv (.t 7)),
  oV 4 (.mv (.c (.one (.v (.pointer none))))),
  oV 5 (.mv (.t 17))] [17]
abbrev zSo : HCode := oR [oV 18 (.ldR (.t 2) 1 true),
  oC 19 zJo [(.t 18, .v)],
  oV 4 (.mv (.t 19)),
  oV 5 (.mv (.c (iv 0)))] [18, 19]
abbrev zZL : HCode := (.seq zSh (.seq (.seq zSi (.seq zSj (.cond (.t 11) (.seq zSk .ret) .skip))) (.seq (.seq zSl (.seq zSm (.cond (.t 16) (.seq zSn .ret) .skip))) (.seq zSo .ret))))
abbrev zKR : Env := { N := 20, Γ := [], L := 20, nfix := 0 }
abbrev match_begin_R : List RSrc := [.tmp 4, .tmp 5]
theorem zSp : zBQ Tryz.prog zDJ zZL zKR match_begin_R := by kernel_rfl
abbrev zZM : HCode := oN [oV 3 (.boxF (.t 0)),
  oV 6 (.mv (.c (.one (.v (.pointer none))))),
  oV 7 (.mv (.c (iv 0)))]
abbrev zZN : HCode := oR [oV 11 (.ldR (.t 3) 1 true),
  oV 12 (.mv (.t 1)),
  oC 13 zDJ [(.t 11, .v), (.t 12, .v)],
  oV 10 (.mv (.t 13)),
  oV 14 (.ext 10 0),
  oV 15 (.ext 10 1),
  oV 8 (.mv (.t 14)),
  oV 9 (.mv (.t 15))] [10, 11, 12, 13, 14, 15]
abbrev zZO : HCode := oR [oV 16 (.mv (.t 9)),
  oV 17 (.ints .eql (.t 16) (.c (iv 0))),
  oV 18 (.mv (.t 17)),
  oG 18 true 19 (.mv (.t 2)),
  oG 18 true 20 (.ints .lss (.t 19) (.c (iv 0))),
  oG 18 true 21 (.mv (.t 20)),
  oG 21 false 22 (.mv (.t 2)),
  oG 21 false 23 (.fldR (.t 3) 0 1),
  oG 21 false 24 (.ldR (.t 23) 1 false),
  oG 21 false 25 (.len false (.t 24)),
  oG 21 false 26 (.ints .geq (.t 22) (.t 25)),
  oG 18 true 27 (.pick (.t 21) (.c (bv true)) (.t 26)),
  oV 28 (.pick (.t 18) (.t 27) (.c (bv false)))] [16, 17, 18, 19, 20, 21, 22, 23, 24, 25, 26, 27]
abbrev zZP : HCode := oN [oV 9 (.mv (.c (iv 5)))]
abbrev zZQ : HCode := oR [oV 29 (.mv (.t 8)),
  oV 30 (.mv (.t 9)),
  oV 6 (.mv (.t 29)),
  oV 7 (.mv (.t 30))] [29, 30]
abbrev yEq : HCode := (.seq zZM (.seq zZN (.seq (.seq zZO (.cond (.t 28) zZP .skip)) (.seq zZQ .ret))))
abbrev zSR : Env := { N := 31, Γ := [], L := 31, nfix := 0 }
abbrev match_at_R : List RSrc := [.tmp 6, .tmp 7]
theorem zZR : zBQ Tryz.prog zEG yEq zSR match_at_R := by kernel_rfl
abbrev zVp : HCode := oN [oV 3 (.boxF (.t 0)),
  oV 4 (.boxF (.t 1)),
  oV 6 (.mv (.c (bv false))),
  oV 7 (.mv (.c (iv 0)))]
abbrev zVq : HCode := oR [oV 11 (.ldR (.t 3) 1 true),
  oV 12 (.ldR (.t 4) 6 true),
  oV 13 (.bslF 6 [.t 12]),
  oV 14 (.bld [.v (mkS []), .nl 6] [(1, 1, .t 13)]),
  oV 15 (.bslF 2 [.t 14]),
  oV 16 (.bld [.nl 2, .nl 1] [(0, 1, .t 15)]),
  oV 17 (.bslF 2 [.t 16]),
  oV 18 (.mv (.t 2)),
  oC 19 zEG [(.t 11, .v), (.t 17, .v), (.t 18, .v)],
  oV 10 (.mv (.t 19)),
  oV 20 (.ext 10 0),
  oV 21 (.ext 10 1),
  oV 8 (.mv (.t 20)),
  oV 9 (.mv (.t 21))] [10, 11, 12, 13, 14, 15, 16, 17, 18, 19, 20, 21]
abbrev zVr : HCode := oR [oV 22 (.mv (.t 9)),
  oV 23 (.ints .eql (.t 22) (.c (iv 0))),
  oV 24 (.mv (.t 23)),
  oG 24 true 25 (.mv (.t 8)),
  oG 24 true 26 (.ldR (.t 4) 6 true),
  oG 24 true 27 (.mv (.t 2)),
  ⟨some (24, true), .call (some 28) zAP [(.t 25, .v), (.t 26, .v), (.t 27, .v)]⟩,
  oV 29 (.pick (.t 24) (.t 28) (.c (bv false))),
  oV 30 (.mv (.t 9)),
  oV 6 (.mv (.t 29)),
  oV 7 (.mv (.t 30))] [22, 23, 24, 25, 26, 27, 28, 29, 30]
abbrev yBO : HCode := (.seq zVp (.seq zVq (.seq zVr .ret)))
abbrev zMT : Env := { N := 31, Γ := [], L := 31, nfix := 0 }
abbrev match_Test_R : List RSrc := [.tmp 6, .tmp 7]
theorem zVs : zBQ Tryz.prog zGh yBO zMT match_Test_R := by kernel_rfl
abbrev zNE : HCode := oN [oV 3 (.boxF (.t 0)),
  oV 6 (.mv (.c (bv false))),
  oV 7 (.mv (.c (iv 0)))]
abbrev zNF : HCode := oR [oV 11 (.ldR (.t 3) 1 true),
  oV 12 (.mv (.t 1)),
  oV 13 (.mv (.t 2)),
  oC 14 zEG [(.t 11, .v), (.t 12, .v), (.t 13, .v)],
  oV 10 (.mv (.t 14)),
  oV 15 (.ext 10 0),
  oV 16 (.ext 10 1),
  oV 8 (.mv (.t 15)),
  oV 9 (.mv (.t 16))] [10, 11, 12, 13, 14, 15, 16]
abbrev zNG : HCode := oR [oV 17 (.mv (.t 9)),
  oV 18 (.ints .eql (.t 17) (.c (iv 0))),
  oV 19 (.mv (.t 18)),
  oG 19 true 20 (.mv (.t 8)),
  oG 19 true 21 (.mv (.t 1)),
  oG 19 true 22 (.mv (.t 2)),
  ⟨some (19, true), .call (some 23) zAB [(.t 20, .v), (.t 21, .v), (.t 22, .v)]⟩,
  oV 24 (.pick (.t 19) (.t 23) (.c (bv false))),
  oV 25 (.mv (.t 9)),
  oV 6 (.mv (.t 24)),
  oV 7 (.mv (.t 25))] [17, 18, 19, 20, 21, 22, 23, 24, 25]
abbrev zVt : HCode := (.seq zNE (.seq zNF (.seq zNG .ret)))
abbrev zHH : Env := { N := 26, Γ := [], L := 26, nfix := 0 }
abbrev match_Matches_R : List RSrc := [.tmp 6, .tmp 7]
theorem zNH : zBQ Tryz.prog zCI zVt zHH match_Matches_R := by kernel_rfl
abbrev zXU : HCode := oN [oV 2 (.boxF (.t 0)),
  oV 4 (.mv (.c (.one (.nl 1)))),
  oV 5 (.mv (.c (iv 0)))]
abbrev zXV : HCode := oR [oV 11 (.ldR (.t 2) 1 true),
  oV 12 (.mv (.t 1)),
  oC 13 zDJ [(.t 11, .v), (.t 12, .v)],
  oV 10 (.mv (.t 13)),
  oV 14 (.ext 10 0),
  oV 15 (.ext 10 1),
  oV 6 (.mv (.t 14)),
  oV 7 (.mv (.t 15))] [10, 11, 12, 13, 14, 15]
abbrev zXW : HCode := oR [oV 16 (.mv (.t 7)),
  oV 17 (.ints .neq (.t 16) (.c (iv 0)))] [16]
abbrev zXX : HCode := oR [oV 18 (.mv (.t 7)),
  oV 4 (.mv (.c (.one (.nl 1)))),
  oV 5 (.mv (.t 18))] [18]
abbrev zXY : HCode := oN [⟨none, .nlo 8 zCT 1⟩]
abbrev zXZ : HCode := oR [oV 19 (.fldR (.t 2) 0 1),
  oV 20 (.ldR (.t 19) 1 false),
  oV 21 (.len false (.t 20)),
  oV 22 (.mv (.c (iv 0)))] [19, 20]
abbrev zX0 : HCode := oN [oV 23 (.ints .lss (.t 22) (.t 21))]
abbrev zX1 : HCode := oR [oV 24 (.mv (.t 22)),
  oV 9 (.mv (.t 24))] [24]
abbrev zX2 : HCode := oR [oV 25 (.mv (.t 6)),
  oV 26 (.mv (.t 1)),
  oV 27 (.mv (.t 9)),
  oC 28 zAB [(.t 25, .v), (.t 26, .v), (.t 27, .v)]] [25, 26, 27]
abbrev zX3 : HCode := oR [⟨none, .mvo 29 8⟩,
  oV 30 (.mv (.t 9)),
  oV 31 (.bslF 1 [.t 30]),
  ⟨none, .app 32 zCT 1 (.t 29) (.t 31)⟩,
  ⟨none, .mvo 8 32⟩] [29, 30, 31, 32]
abbrev zVu : HCode := oR [oV 33 (.ints .add (.t 22) (.c (iv 1))),
  oV 22 (.mv (.t 33))] [33]
abbrev zVv : HCode := oR [oV 34 (.mv (.t 8)),
  oV 4 (.mv (.t 34)),
  oV 5 (.mv (.c (iv 0)))] [34]
abbrev yDd : HCode := (.seq zXU (.seq zXV (.seq (.seq zXW (.cond (.t 17) (.seq zXX .ret) .skip)) (.seq zXY (.seq (.seq zXZ (.block 0 (.loop (.seq zX0 (.seq (.cond (.t 23) .skip (.exit 0)) (.seq (.block 1 (.seq zX1 (.seq zX2 (.cond (.t 28) zX3 .skip)))) zVu)))))) (.seq zVv .ret))))))
abbrev zQg : Env := { N := 35, Γ := [], L := 35, nfix := 0 }
abbrev match_All_R : List RSrc := [.tmp 4, .tmp 5]
theorem zX4 : zBQ Tryz.prog zFa yDd zQg match_All_R := by kernel_rfl
abbrev zNI : HCode := oN [oV 3 (.boxF (.t 0)),
  oV 6 (.mv (.c (iv 0))),
  oV 7 (.mv (.c (bv false))),
  oV 8 (.mv (.c (iv 0)))]
abbrev zNJ : HCode := oR [oV 13 (.ldR (.t 3) 1 true),
  oV 14 (.mv (.t 1)),
  oV 15 (.mv (.t 2)),
  oC 16 zEG [(.t 13, .v), (.t 14, .v), (.t 15, .v)],
  oV 12 (.mv (.t 16)),
  oV 17 (.ext 12 0),
  oV 18 (.ext 12 1),
  oV 9 (.mv (.t 17)),
  oV 10 (.mv (.t 18))] [12, 13, 14, 15, 16, 17, 18]
abbrev zNK : HCode := oR [oV 19 (.mv (.t 10)),
  oV 20 (.ints .neq (.t 19) (.c (iv 0)))] [19]
abbrev zNL : HCode := oR [oV 21 (.mv (.t 10)),
  oV 6 (.mv (.c (iv 0))),
  oV 7 (.mv (.c (bv false))),
  oV 8 (.mv (.t 21))] [21]
abbrev zNM : HCode := oR [oV 22 (.mv (.t 2)),
  oV 11 (.mv (.t 22))] [22]
abbrev zNN : HCode := oR [oV 23 (.mv (.t 11)),
  oV 24 (.ints .geq (.t 23) (.c (iv 0)))] [23]
abbrev zNO : HCode := oR [oV 31 (.mv (.t 9)),
  oV 32 (.mv (.t 1)),
  oV 33 (.mv (.t 11)),
  oC 34 zAB [(.t 31, .v), (.t 32, .v), (.t 33, .v)]] [31, 32, 33]
abbrev zNP : HCode := oR [oV 35 (.mv (.t 11)),
  oV 6 (.mv (.t 35)),
  oV 7 (.mv (.c (bv true))),
  oV 8 (.mv (.c (iv 0)))] [35]
abbrev zNQ : HCode := oR [oV 25 (.fldR (.t 3) 0 1),
  oV 26 (.ldR (.t 25) 1 false),
  oV 27 (.mv (.t 11)),
  oV 28 (.idxA 5 (.t 26) (.t 27)),
  oV 29 (.fldR (.t 28) 0 1),
  oV 30 (.ldR (.t 29) 1 false),
  oV 11 (.mv (.t 30))] [25, 26, 27, 28, 29, 30]
abbrev zNR : HCode := oN [oV 6 (.mv (.c (iv 0))),
  oV 7 (.mv (.c (bv false))),
  oV 8 (.mv (.c (iv 0)))]
abbrev zVw : HCode := (.seq zNI (.seq zNJ (.seq (.seq zNK (.cond (.t 20) (.seq zNL .ret) .skip)) (.seq (.seq zNM (.block 0 (.loop (.seq (.seq zNN (.cond (.t 24) .skip (.exit 0))) (.seq (.block 1 (.seq zNO (.cond (.t 34) (.seq zNP .ret) .skip))) zNQ))))) (.seq zNR .ret)))))
abbrev zHI : Env := { N := 36, Γ := [], L := 36, nfix := 0 }
abbrev match_Nearest_R : List RSrc := [.tmp 6, .tmp 7, .tmp 8]
theorem zNS : zBQ Tryz.prog zCJ zVw zHI match_Nearest_R := by kernel_rfl
end Go.Hx
end

section
/-
 Where a count holds: what the program and the document reckon is the same. Plain Lean. No condition.
-/
namespace Go.Hx
variable [Glob]
theorem yDk {x y : Int} (_ : y ≠ 0) : x.tmod y = 0 ↔ ∃ k, x = y * k := by
 constructor
 ·intro h; exact ⟨x.tdiv y, by have := Int.mul_tdiv_add_tmod x y; omega⟩
 ·rintro ⟨k, rfl⟩; exact Int.mul_tmod_right y k
theorem yBU {a b i : Int} (he : zMX a b = 0) (hi : 1 ≤ i ∧ i ≤ 1073741824) : zE9 a b i = true ↔ ∃ k : Int, 0 ≤ k ∧ i = b + a * k := by
 unfold zE9
 rw [decide_eq_true ⟨he, hi⟩, Bool.true_and]
 by_cases ha : a = 0
 ·subst ha
  rw [if_pos rfl, decide_eq_true_eq]
  constructor
  ·intro h; exact ⟨0, by omega, by omega⟩
  ·rintro ⟨k, _, h⟩; rw [Int.zero_mul] at h; omega
 ·rw [if_neg ha, Bool.and_eq_true, decide_eq_true_eq, decide_eq_true_eq, yDk ha]
  constructor
  ·rintro ⟨⟨k, hk⟩, h2⟩
   rw [hk, Int.mul_tdiv_cancel_left _ ha] at h2
   exact ⟨k, h2, by omega⟩
  ·rintro ⟨k, hk, h⟩
   have e : i - b = a * k := by omega
   exact ⟨⟨k, e⟩, by rw [e, Int.mul_tdiv_cancel_left _ ha]; exact hk⟩
theorem yEv {a b i : Int} (he : zMX a b = 0) (hi : 1 ≤ i ∧ i ≤ 1073741824) : zEl a b i = true ↔ ∃ k : Int, 0 ≤ k ∧ i = b + a * k := by
 unfold zEl
 rw [if_pos ⟨he, hi⟩]
 by_cases h1 : a = 0 ∨ i = b
 ·rw [if_pos h1, decide_eq_true_eq]
  constructor
  ·intro h; exact ⟨0, by omega, by omega⟩
  ·rintro ⟨k, _, h⟩
   rcases h1 with rfl | h1
   ·rw [Int.zero_mul] at h; omega
   ·exact h1
 ·rw [if_neg h1]
  have ha : a ≠ 0 := fun h => h1 (.inl h)
  by_cases h2 : 0 < a
  ·rw [if_pos h2, Bool.and_eq_true, decide_eq_true_eq, decide_eq_true_eq, yDk ha]
   constructor
   ·rintro ⟨h3, k, hk⟩
    refine ⟨k, ?_, by omega⟩
    apply Classical.byContradiction
    intro hn
    have := Int.mul_nonpos_of_nonneg_of_nonpos (show 0 ≤ a by omega) (show k ≤ 0 by omega)
    omega
   ·rintro ⟨k, hk, h⟩
    refine ⟨?_, k, by omega⟩
    have := Int.mul_nonneg (show 0 ≤ a by omega) hk
    omega
  ·rw [if_neg h2, Bool.and_eq_true, decide_eq_true_eq, decide_eq_true_eq, yDk (by omega)]
   constructor
   ·rintro ⟨h3, k, hk⟩
    refine ⟨k, ?_, ?_⟩
    ·apply Classical.byContradiction
     intro hn
     have := Int.mul_nonpos_of_nonneg_of_nonpos (show 0 ≤ -a by omega) (show k ≤ 0 by omega)
     omega
    ·rw [Int.neg_mul] at hk; omega
   ·rintro ⟨k, hk, h⟩
    refine ⟨?_, k, by rw [Int.neg_mul]; omega⟩
    have := Int.mul_nonneg (show 0 ≤ -a by omega) hk
    rw [Int.neg_mul] at this
    omega
theorem zYj (a b i : Int) : zE9 a b i = zEl a b i := by
 by_cases h : zMX a b = 0 ∧ 1 ≤ i ∧ i ≤ 1073741824
 ·have h1 := yBU h.1 h.2
  have h2 := yEv h.1 h.2
  rw [Bool.eq_iff_iff, h1, h2]
 ·unfold zE9 zEl
  rw [decide_eq_false h, if_neg h, Bool.false_and]
end Go.Hx
end

section
set_option maxRecDepth 100000
set_option linter.unusedSimpArgs false
namespace Go.Hx
open Go.Proofs
variable [Glob]
inductive Tr where
 | mk (x : Nd) (k : List Tr)
instance : Inhabited Tr := ⟨.mk default []⟩
attribute [local go_sem] zAx zAy zAw zAs ndV zAv List.take_zero List.map_nil
def Tr.nd : Tr → Nd | .mk x _ => x
mutual
def trV : Tr → List PV
 | .mk x k => [bI x.up, bS x.tag, bS x.id, .sl 1 (zTB x.cls), .sl 2 (yCx x.att), .sl 6 (yGx k)]
def yGx : List Tr → List (List PV)
 | [] => []
 | t :: r => trV t :: yGx r
end
theorem yAO : ∀ l : List Tr, yGx l = l.map trV
 | [] => rfl
 | t :: r => by simp [yGx, yAO r]
theorem zZ4 (t : Tr) : (trV t).length = 6 := by cases t; rfl
attribute [local go_sem] zZ4
theorem zVE (t : Tr) : (trV t).map PV.norm = trV t := by cases t; rfl
attribute [local go_sem] zVE
theorem zVF : yGx [] = [] := rfl
attribute [local go_sem] zVF
theorem zVG (l : List Tr) : (yGx l).length = l.length := by simp [yAO]
attribute [local go_sem] zVG
end Go.Hx
end

section
set_option maxRecDepth 100000
set_option linter.unusedSimpArgs false
namespace Go.Hx
open Go.Proofs
variable [Glob]
attribute [local go_sem] zAx zAy zAw zAs ndV zAv zVG zVF zZ4 zVE List.take_zero List.map_nil
end Go.Hx
end

section
set_option maxRecDepth 100000
set_option linter.unusedSimpArgs false
namespace Go.Hx
open Go.Proofs
variable [Glob]
attribute [local go_sem] zAx zAy zAw zAs ndV zAv zVG zVF zZ4 zVE List.take_zero List.map_nil
end Go.Hx
end

section
/-
 The abstract code of functions of the program, printed by gen.py; each stands for the given one. No condition.
-/
namespace Go.Hx
open Go.Proofs
variable [Glob]
abbrev zF4 : Nat := 3
abbrev zDp : Nat := 62
abbrev zDB : Nat := 19
abbrev zVH : HCode := oN [oV 0 (.mv (.c (.one (.nl 2))))]
abbrev zVI : HCode := oR [oV 1 (.bld [.v (.int .i64 0), .v (.int .i64 0)] [(1, 1, .c (iv 1))]),
  oV 2 (.bld [.v (.int .i64 0), .v (mkS []), .v (mkS []), .v (.int .i64 0), .v (.int .i64 0), .nl 2] [(0, 1, .c (iv 10)), (3, 2, .t 1)]),
  oV 3 (.bslF 6 [.t 2]),
  oV 4 (.bld [.v (mkS []), .nl 6] [(1, 1, .t 3)]),
  oV 5 (.bslF 2 [.t 4]),
  oV 6 (.bld [.nl 2, .nl 1] [(0, 1, .t 5)]),
  oV 7 (.bslF 2 [.t 6]),
  oV 8 (.bld [.v (.int .i64 0), .v (mkS []), .v (mkS []), .v (.int .i64 0), .v (.int .i64 0), .nl 2] [(0, 1, .c (iv 13)), (5, 1, .t 7)]),
  oV 9 (.bslF 6 [.t 8]),
  oV 10 (.bld [.v (mkS []), .nl 6] [(0, 1, .c (sv [105, 116, 101, 109])), (1, 1, .t 9)]),
  oV 11 (.bld [.v (.int .i64 0), .v (mkS []), .v (mkS []), .v (.int .i64 0), .v (.int .i64 0), .nl 2] [(0, 1, .c (iv 8)), (1, 1, .c (sv [116, 111])), (2, 1, .c (sv [116, 119, 111]))]),
  oV 12 (.bslF 6 [.t 11]),
  oV 13 (.bld [.v (mkS []), .nl 6] [(1, 1, .t 12)]),
  oV 14 (.bslF 2 [.t 13]),
  oV 15 (.bld [.nl 2, .nl 1] [(0, 1, .t 14)]),
  oV 16 (.bslF 2 [.t 15]),
  oV 17 (.bld [.v (.int .i64 0), .v (mkS []), .v (mkS []), .v (.int .i64 0), .v (.int .i64 0), .nl 2] [(0, 1, .c (iv 15)), (5, 1, .t 16)]),
  oV 18 (.bslF 6 [.t 17]),
  oV 19 (.bld [.v (mkS []), .nl 6] [(1, 1, .t 18)]),
  oV 20 (.bslF 2 [.t 10, .t 19]),
  oV 21 (.bslF 1 [.c (iv 3)]),
  oV 22 (.bld [.nl 2, .nl 1] [(0, 1, .t 20), (1, 1, .t 21)]),
  oV 23 (.bld [.v (.int .i64 0), .v (mkS []), .v (mkS []), .v (.int .i64 0), .v (.int .i64 0), .nl 2] [(0, 1, .c (iv 2)), (1, 1, .c (sv [116, 111, 112]))]),
  oV 24 (.bslF 6 [.t 23]),
  oV 25 (.bld [.v (mkS []), .nl 6] [(1, 1, .t 24)]),
  oV 26 (.bslF 2 [.t 25]),
  oV 27 (.bld [.nl 2, .nl 1] [(0, 1, .t 26)]),
  oV 28 (.bslF 2 [.t 22, .t 27]),
  oV 0 (.mv (.t 28))] [1, 2, 3, 4, 5, 6, 7, 8, 9, 10, 11, 12, 13, 14, 15, 16, 17, 18, 19, 20, 21, 22, 23, 24, 25, 26, 27, 28]
abbrev yBZ : HCode := (.seq zVH (.seq zVI .ret))
abbrev zMV : Env := { N := 29, Γ := [], L := 29, nfix := 0 }
abbrev law_looked_R : List RSrc := [.tmp 0]
theorem zVJ : zBQ Tryz.prog zDp yBZ zMV law_looked_R := by kernel_rfl
abbrev zMd : HCode := oN [oV 0 (.mv (.c (bv false)))]
abbrev zMe : HCode := oR [oC 11 zCU [],
  oC 12 zDp [],
  oC 13 zFa [(.t 11, .v), (.t 12, .v)],
  oV 10 (.mv (.t 13)),
  oV 14 (.ext 10 0),
  oV 15 (.ext 10 1),
  oV 1 (.mv (.t 14)),
  oV 2 (.mv (.t 15))] [10, 11, 12, 13, 14, 15]
abbrev zMf : HCode := oR [oC 17 zCU [],
  oC 18 zDp [],
  oC 19 zCI [(.t 17, .v), (.t 18, .v), (.c (iv 2), .v)],
  oV 16 (.mv (.t 19)),
  oV 20 (.ext 16 0),
  oV 21 (.ext 16 1),
  oV 3 (.mv (.t 20)),
  oV 4 (.mv (.t 21))] [16, 17, 18, 19, 20, 21]
abbrev zMg : HCode := oR [oC 23 zCU [],
  oC 24 zDp [],
  oC 25 zCJ [(.t 23, .v), (.t 24, .v), (.c (iv 3), .v)],
  oV 22 (.mv (.t 25)),
  oV 26 (.ext 22 0),
  oV 27 (.ext 22 1),
  oV 28 (.ext 22 2),
  oV 5 (.mv (.t 26)),
  oV 6 (.mv (.t 27)),
  oV 7 (.mv (.t 28))] [22, 23, 24, 25, 26, 27, 28]
abbrev zMh : HCode := oR [oC 30 zCU [],
  oV 31 (.bld [.v (.int .i64 0), .v (.int .i64 0)] [(0, 1, .c (iv 2)), (1, 1, .c (iv 1))]),
  oV 32 (.bld [.v (.int .i64 0), .v (mkS []), .v (mkS []), .v (.int .i64 0), .v (.int .i64 0), .nl 2] [(0, 1, .c (iv 9)), (3, 2, .t 31)]),
  oC 33 zGh [(.t 30, .v), (.t 32, .v), (.c (iv 4), .v)],
  oV 29 (.mv (.t 33)),
  oV 34 (.ext 29 0),
  oV 35 (.ext 29 1),
  oV 8 (.mv (.t 34)),
  oV 9 (.mv (.t 35))] [29, 30, 31, 32, 33, 34, 35]
abbrev zMi : HCode := oR [oV 36 (.mv (.t 2)),
  oV 37 (.ints .eql (.t 36) (.c (iv 0))),
  oV 38 (.mv (.t 37)),
  oG 38 true 39 (.mv (.t 4)),
  oG 38 true 40 (.ints .eql (.t 39) (.c (iv 0))),
  oV 41 (.pick (.t 38) (.t 40) (.c (bv false))),
  oV 42 (.mv (.t 41)),
  oG 42 true 43 (.mv (.t 7)),
  oG 42 true 44 (.ints .eql (.t 43) (.c (iv 0))),
  oV 45 (.pick (.t 42) (.t 44) (.c (bv false))),
  oV 46 (.mv (.t 45)),
  oG 46 true 47 (.mv (.t 9)),
  oG 46 true 48 (.ints .eql (.t 47) (.c (iv 0))),
  oV 49 (.pick (.t 46) (.t 48) (.c (bv false))),
  oV 50 (.mv (.t 49)),
  oG 50 true 51 (.mv (.t 1)),
  oG 50 true 52 (.bslF 1 [.c (iv 0), .c (iv 2)]),
  ⟨some (50, true), .call (some 53) zDc [(.t 51, .v), (.t 52, .v)]⟩,
  oV 54 (.pick (.t 50) (.t 53) (.c (bv false))),
  oV 55 (.mv (.t 54)),
  oG 55 true 56 (.mv (.t 3)),
  oV 57 (.pick (.t 55) (.t 56) (.c (bv false))),
  oV 58 (.mv (.t 57)),
  oG 58 true 59 (.mv (.t 6)),
  oV 60 (.pick (.t 58) (.t 59) (.c (bv false))),
  oV 61 (.mv (.t 60)),
  oG 61 true 62 (.mv (.t 5)),
  oG 61 true 63 (.ints .eql (.t 62) (.c (iv 2))),
  oV 64 (.pick (.t 61) (.t 63) (.c (bv false))),
  oV 65 (.mv (.t 64)),
  oG 65 true 66 (.mv (.t 8)),
  oV 67 (.pick (.t 65) (.t 66) (.c (bv false))),
  oV 0 (.mv (.t 67))] [36, 37, 38, 39, 40, 41, 42, 43, 44, 45, 46, 47, 48, 49, 50, 51, 52, 53, 54, 55, 56, 57, 58, 59, 60, 61, 62, 63, 64, 65, 66, 67]
abbrev zSv : HCode := (.seq zMd (.seq zMe (.seq zMf (.seq zMg (.seq zMh (.seq zMi .ret))))))
abbrev zGu : Env := { N := 68, Γ := [], L := 68, nfix := 0 }
abbrev law_matchBegun_R : List RSrc := [.tmp 0]
theorem zMj : zBQ Tryz.prog zDB zSv zGu law_matchBegun_R := by kernel_rfl
abbrev zMk : HCode := oN [oV 3 (.boxF (.t 0)),
  oV 6 (.mv (.c (bv false)))]
abbrev zMl : HCode := oR [oV 20 (.ldR (.t 3) 1 true),
  oV 21 (.mv (.t 1)),
  oV 22 (.mv (.t 2)),
  oC 23 zCI [(.t 20, .v), (.t 21, .v), (.t 22, .v)],
  oV 19 (.mv (.t 23)),
  oV 24 (.ext 19 0),
  oV 25 (.ext 19 1),
  oV 7 (.mv (.t 24)),
  oV 8 (.mv (.t 25))] [19, 20, 21, 22, 23, 24, 25]
abbrev zMm : HCode := oR [oV 27 (.ldR (.t 3) 1 true),
  oV 28 (.mv (.t 1)),
  oC 29 zFa [(.t 27, .v), (.t 28, .v)],
  oV 26 (.mv (.t 29)),
  oV 30 (.ext 26 0),
  oV 31 (.ext 26 1),
  oV 9 (.mv (.t 30)),
  oV 10 (.mv (.t 31))] [26, 27, 28, 29, 30, 31]
abbrev zMn : HCode := oR [oV 33 (.ldR (.t 3) 1 true),
  oV 34 (.mv (.t 1)),
  oV 35 (.mv (.t 2)),
  oC 36 zCJ [(.t 33, .v), (.t 34, .v), (.t 35, .v)],
  oV 32 (.mv (.t 36)),
  oV 37 (.ext 32 0),
  oV 38 (.ext 32 1),
  oV 39 (.ext 32 2),
  oV 11 (.mv (.t 37)),
  oV 12 (.mv (.t 38)),
  oV 13 (.mv (.t 39))] [32, 33, 34, 35, 36, 37, 38, 39]
abbrev zMo : HCode := oR [oV 40 (.ldR (.t 3) 1 true),
  oV 41 (.mv (.t 1)),
  oV 42 (.mv (.t 2)),
  oC 43 zCq [(.t 40, .v), (.t 41, .v), (.t 42, .v)],
  oV 14 (.mv (.t 43))] [40, 41, 42, 43]
abbrev zMp : HCode := oR [oV 44 (.ldR (.t 3) 1 true),
  oV 45 (.mv (.t 1)),
  oC 46 zCq [(.t 44, .v), (.t 45, .v), (.c (iv 0), .v)],
  oV 15 (.mv (.t 46))] [44, 45, 46]
abbrev zMq : HCode := oN [oV 16 (.mv (.c (.one (.nl 1))))]
abbrev zMr : HCode := oR [oV 47 (.mv (.t 15)),
  oV 48 (.ints .eql (.t 47) (.c (iv 0)))] [47]
abbrev zMs : HCode := oR [oV 49 (.ldR (.t 3) 1 true),
  oV 50 (.mv (.t 1)),
  oC 51 zG8 [(.t 49, .v), (.t 50, .v)],
  oV 16 (.mv (.t 51))] [49, 50, 51]
abbrev zMt : HCode := oN [oV 17 (.mv (.c (iv 0))),
  oV 18 (.mv (.c (bv false)))]
abbrev zK9 : HCode := oR [oV 52 (.mv (.t 14)),
  oV 53 (.ints .eql (.t 52) (.c (iv 0)))] [52]
abbrev zLa : HCode := oR [oV 55 (.ldR (.t 3) 1 true),
  oV 56 (.mv (.t 1)),
  oV 57 (.mv (.t 2)),
  oC 58 zDY [(.t 55, .v), (.t 56, .v), (.t 57, .v)],
  oV 54 (.mv (.t 58)),
  oV 59 (.ext 54 0),
  oV 60 (.ext 54 1),
  oV 17 (.mv (.t 59)),
  oV 18 (.mv (.t 60))] [54, 55, 56, 57, 58, 59, 60]
abbrev zLb : HCode := oR [oC 61 zDB [],
  oV 62 (.mv (.t 61)),
  oG 62 true 63 (.mv (.t 8)),
  oG 62 true 64 (.mv (.t 14)),
  oG 62 true 65 (.ints .eql (.t 63) (.t 64)),
  oV 66 (.pick (.t 62) (.t 65) (.c (bv false))),
  oV 67 (.mv (.t 66)),
  oG 67 true 68 (.mv (.t 10)),
  oG 67 true 69 (.mv (.t 15)),
  oG 67 true 70 (.ints .eql (.t 68) (.t 69)),
  oV 71 (.pick (.t 67) (.t 70) (.c (bv false))),
  oV 72 (.mv (.t 71)),
  oG 72 true 73 (.mv (.t 13)),
  oG 72 true 74 (.mv (.t 14)),
  oG 72 true 75 (.ints .eql (.t 73) (.t 74)),
  oV 76 (.pick (.t 72) (.t 75) (.c (bv false))),
  oV 77 (.mv (.t 76)),
  oG 77 true 78 (.mv (.t 7)),
  oG 77 true 79 (.mv (.t 14)),
  oG 77 true 80 (.ints .eql (.t 79) (.c (iv 0))),
  oG 77 true 81 (.mv (.t 80)),
  oG 81 true 82 (.ldR (.t 3) 1 true),
  oG 81 true 83 (.mv (.t 1)),
  oG 81 true 84 (.mv (.t 2)),
  ⟨some (81, true), .call (some 85) zAI [(.t 82, .v), (.t 83, .v), (.t 84, .v)]⟩,
  oG 77 true 86 (.pick (.t 81) (.t 85) (.c (bv false))),
  oG 77 true 87 (.boo false (.t 78) (.t 86)),
  oV 88 (.pick (.t 77) (.t 87) (.c (bv false))),
  oV 89 (.mv (.t 88)),
  oG 89 true 90 (.mv (.t 9)),
  oG 89 true 91 (.mv (.t 16)),
  ⟨some (89, true), .call (some 92) zDc [(.t 90, .v), (.t 91, .v)]⟩,
  oV 93 (.pick (.t 89) (.t 92) (.c (bv false))),
  oV 94 (.mv (.t 93)),
  oG 94 true 95 (.mv (.t 11)),
  oG 94 true 96 (.mv (.t 17)),
  oG 94 true 97 (.ints .eql (.t 95) (.t 96)),
  oV 98 (.pick (.t 94) (.t 97) (.c (bv false))),
  oV 99 (.mv (.t 98)),
  oG 99 true 100 (.mv (.t 12)),
  oG 99 true 101 (.mv (.t 18)),
  oG 99 true 102 (.boo false (.t 100) (.t 101)),
  oV 103 (.pick (.t 99) (.t 102) (.c (bv false))),
  oV 6 (.mv (.t 103))] [61, 62, 63, 64, 65, 66, 67, 68, 69, 70, 71, 72, 73, 74, 75, 76, 77, 78, 79, 80, 81, 82, 83, 84, 85, 86, 87, 88, 89, 90, 91, 92, 93, 94, 95, 96, 97, 98, 99, 100, 101, 102, 103]
abbrev zSw : HCode := (.seq zMk (.seq zMl (.seq zMm (.seq zMn (.seq zMo (.seq zMp (.seq zMq (.seq (.seq zMr (.cond (.t 48) zMs .skip)) (.seq zMt (.seq (.seq zK9 (.cond (.t 53) zLa .skip)) (.seq zLb .ret)))))))))))
abbrev zCK : Env := { N := 104, Γ := [], L := 104, nfix := 0 }
abbrev law_MatchTells_R : List RSrc := [.tmp 6]
theorem zDC : zBQ Tryz.prog zF4 zSw zCK law_MatchTells_R := by kernel_rfl
end Go.Hx
end
