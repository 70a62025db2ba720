/-
  Walks of functions of the program over an abstract layer, and the laws that they use: each contract says what the function computes, for every input that its conditions let by. No other condition.
-/
import Derived.Test.YtjnagiaooecklabGreatDoorG10
import Derived.Test.YtjnagiaooecklabGreatDoorProg
import Derived.Test.YtjnagiaooecklabGreatDoorG8
set_option linter.all false
section
set_option maxRecDepth 100000
set_option linter.unusedSimpArgs false
namespace Go.Hx
open Go.Proofs
variable [Glob]
attribute [local go_sem] zAw zAu zAv zAm ndV zAq zAl fdV zCp zBY zBu zAU
attribute [local go_sem] reduceCtorEq Nat.reduceAdd Nat.reduceEqDiff reduceIte Nat.reduceLeDiff Nat.reduceLT Nat.reduceSub
theorem zDs {α : Type} {d : α} {l : List α} {i : Nat} (h : i < l.length) : l.drop i = l.getD i d :: l.drop (i + 1) := by
 rw [List.drop_eq_getElem_cons h]
 simp [h]
def yD1 (P : Program) (N : Nat) : Prop :=
 (∀ (l : List Pt) (d K : Nat) (c : Fd), SizeOf.sizeOf l ≤ N → d ≤ 4 → c.le K → K + bd d ≤ 1000000000 → Contract P zBf [.io (fdV c), .val (zCp l), .val (iv d)] { res := .tup [], io := fdV (c.add (ntL l d)) }) ∧
 (∀ (s : St) (d K : Nat) (c : Fd), SizeOf.sizeOf s ≤ N → d ≤ 3 → c.le K → K + bdS d ≤ 1000000000 → Contract P zCc [.io (fdV c), .val (.agg (stV s)), .val (iv d)] { res := .tup [], io := fdV (c.add (ntS s d)) })
theorem zXf (N : Nat) (ih : yD1 Tryz.prog N) (l : List Pt) (d K : Nat) (c : Fd) (hN : SizeOf.sizeOf l ≤ N + 1) (hd : d ≤ 4) (hc : c.le K) (hK : K + bd d ≤ 1000000000) : Contract Tryz.prog zBf [.io (fdV c), .val (zCp l), .val (iv d)] { res := .tup [], io := fdV (c.add (ntL l d)) } := by
 unfold fdV zCp
 refine zH4 (base := 83) ⟨Nat.le_of_ble_eq_true rfl, Nat.le_of_ble_eq_true rfl, Nat.le_of_ble_eq_true rfl, ⟨rfl, rfl⟩⟩ (fun hfit => ?_)
 unfold F0 zCu
 simp (maxSteps := 2000000) only [zAS, List.set_cons_succ, List.set_cons_zero, List.map_cons, List.map_nil, zAQ, zAb, ioOf, List.length_cons, List.length_nil, Nat.reduceAdd, Nat.reduceSub, List.replicate, List.cons_append, List.nil_append]
 try simp (maxSteps := 2000000) only [go_sem]
 repeat with_reducible refine zAc ?_
 have hlb : (bif bif decide (3 < (d : Int)) then true else decide ((l.length : Int) < 1) then true else decide (5 < (l.length : Int))) = zFR l d := by
  have e1 : decide (3 < (d : Int)) = decide (3 < d) := decide_eq_decide.2 (by omega)
  have e2 : decide ((l.length : Int) < 1) = decide (l.length < 1) := decide_eq_decide.2 (by omega)
  have e3 : decide (5 < (l.length : Int)) = decide (5 < l.length) := decide_eq_decide.2 (by omega)
  unfold zFR
  rw [e1, e2, e3]
  cases decide (3 < d) <;> cases decide (l.length < 1) <;> rfl
 refine zAa (by rfl) trivial (fun h => ?_) (fun h => ?_)
 ·rw [hlb] at h
  have e : ntL l d = fM true := by unfold ntL; rw [if_pos h]
  try simp (maxSteps := 2000000) only [go_sem]
  repeat with_reducible refine zAc ?_
  have hb1 := zPQ (4 - d)
  have hb2 : bd d = bdF (4 - d) := rfl
  have hm := hc.m
  refine zBV (by repeat' constructor) (zPW c true (by omega)) ?_
  try simp (maxSteps := 2000000) only [go_sem]
  repeat with_reducible refine zAc ?_
  rw [e]
  exact zOQ rfl rfl
 ·rw [hlb] at h
  have e : ntL l d = zSB l d := by unfold ntL; rw [if_neg (by rw [h]; simp)]
  rw [e]
  have hd3 : d ≤ 3 ∧ l.length ≤ 5 := by
   simp only [zFR, Bool.or_eq_false_iff, decide_eq_false_iff_not] at h
   omega
  have hbd := yAE hd3.1
  try simp (maxSteps := 2000000) only [go_sem]
  repeat with_reducible refine zAc ?_
  have hK0 : K + (1 + (l.length - 0) * bdP d) ≤ 1000000000 := by
   have : (l.length - 0) * bdP d ≤ 5 * bdP d := Nat.mul_le_mul_right _ (by omega)
   omega
  refine zAz (fun x : Nat × Fd => [(7, .un), (9, .un), (11, .un), (28, .pv (iv x.1)), (29, .un), (51, .un), (55, .un), (56, .un), (57, .un), (58, .un), (71, .un), (72, .un), (73, .un), (74, .un), (84, .pv (.one (bI x.2.f))), (85, .pv (.one (bI x.2.m))), (86, .pv (.one (bI x.2.r))), (87, .pv (.one (bI x.2.k))), (90, .un), (91, .un)]) (fun x : Nat × Fd => l.length - x.1) (fun x : Nat × Fd => x.1 ≤ l.length ∧ (∃ K', x.2.le K' ∧ K' + (1 + (l.length - x.1) * bdP d) ≤ 1000000000) ∧ x.2.add (zSB (l.drop x.1) d) = c.add (zSB l d)) ((0, c)) ?_ ⟨Nat.zero_le _, ⟨K, hc, hK0⟩, by simp⟩ ?_
  focus (simp (maxSteps := 2000000) only [go_sem, zAg, zAo, zAB, zAd]; all_goals (repeat' (first | exact trivial | exact zAj (by omega) | exact zAi rfl | exact zAx rfl | exact zAp | exact le_refl _ | refine And.intro ?_ ?_)))
  rintro ⟨i, a⟩ ⟨hi, ⟨K', ha, hK'⟩, hsum⟩
  simp only at hi ha hK' hsum
  try simp (maxSteps := 2000000) only [go_sem]
  repeat with_reducible refine zAc ?_
  have hbx : bd d ≤ 1000000000 := by omega
  refine zAa (by rfl) trivial (fun h2 => ?_) (fun h2 => ?_)
  ·have hil : i < l.length := by simp at h2; omega
   rw [zDs (d := default) hil] at hsum
   obtain ⟨p, hp⟩ : ∃ p, p = l.getD i default := ⟨_, rfl⟩
   rw [← hp] at hsum
   have hg : (zGg l).getD i [] = [.sl 2 (zTO p.steps), .sl 1 (zGt p.links)] := by rw [zDr l i hil, ← hp, zB5]
   have hsz : SizeOf.sizeOf p.steps ≤ N := by
    have h3 := zUE p
    have h4 := yCv hil
    rw [← hp] at h4
    omega
   have hmul : (l.length - i) * bdP d = bdP d + (l.length - (i + 1)) * bdP d := by
    have : l.length - i = (l.length - (i + 1)) + 1 := by omega
    rw [this, Nat.add_mul]; omega
   have hbp : bdP d = 4 + 5 * bdS d := rfl
   have hin : (bif decide ((p.steps.length : Int) < 1) then true else decide (5 < (p.steps.length : Int))) = false → inR .i64 ((p.steps.length : Int) - 1) := by
    intro h5
    have : ¬ 5 < (p.steps.length : Int) := by
     intro h6
     rw [decide_eq_true h6] at h5
     cases hq : decide ((p.steps.length : Int) < 1) <;> rw [hq] at h5 <;> cases h5
    exact zG1 (by omega) (by omega)
   try simp (maxSteps := 2000000) only [go_sem, hg]
   repeat with_reducible refine zAc ?_
   have hpb : (bif bif decide ((p.steps.length : Int) < 1) then true else decide (5 < (p.steps.length : Int)) then true else (p.links.length : Int) != (p.steps.length : Int) - 1) = zTQ p := by
    have e2 : decide ((p.steps.length : Int) < 1) = decide (p.steps.length < 1) := decide_eq_decide.2 (by omega)
    have e3 : decide (5 < (p.steps.length : Int)) = decide (5 < p.steps.length) := decide_eq_decide.2 (by omega)
    have e4 : ((p.links.length : Int) != (p.steps.length : Int) - 1) = decide ((p.links.length : Int) ≠ p.steps.length - 1) := by
     by_cases h5 : (p.links.length : Int) = (p.steps.length : Int) - 1 <;> simp [h5]
    unfold zTQ
    rw [e2, e3, e4]
    cases decide (p.steps.length < 1) <;> cases decide (5 < p.steps.length) <;> rfl
   simp only [zSB] at hsum
   refine zAa (by rfl) trivial (fun h3 => ?_) (fun h3 => ?_)
   ·rw [hpb] at h3
    rw [if_pos h3] at hsum
    rw [← hsum]
    try simp (maxSteps := 2000000) only [go_sem]
    repeat with_reducible refine zAc ?_
    have hm := ha.m
    refine zBV (by repeat' constructor) (zPW a true (by omega)) ?_
    try simp (maxSteps := 2000000) only [go_sem]
    repeat with_reducible refine zAc ?_
    exact zOQ rfl rfl
   ·rw [hpb] at h3
    rw [if_neg (by rw [h3]; simp)] at hsum
    have hpl : p.steps.length ≤ 5 ∧ (p.links.length : Int) = p.steps.length - 1 := by
     simp only [zTQ, Bool.or_eq_false_iff, decide_eq_false_iff_not] at h3
     omega
    have hK1 : K' + (p.links.length - 0) ≤ K' + 4 := by omega
    try simp (maxSteps := 2000000) only [go_sem]
    repeat with_reducible refine zAc ?_
    refine zAz (fun x : Nat × Fd => [(9, .un), (57, .pv (iv x.1)), (58, .un), (67, .un), (84, .pv (.one (bI x.2.f))), (85, .pv (.one (bI x.2.m))), (86, .pv (.one (bI x.2.r))), (87, .pv (.one (bI x.2.k)))]) (fun x : Nat × Fd => p.links.length - x.1) (fun x : Nat × Fd => x.1 ≤ p.links.length ∧ (∃ K2, x.2.le K2 ∧ K2 + (p.links.length - x.1) ≤ K' + 4) ∧ x.2.add (zUF (p.links.drop x.1)) = a.add (zUF p.links)) ((0, a)) ?_ ⟨Nat.zero_le _, ⟨K', ha, hK1⟩, by simp⟩ ?_
    focus (simp (maxSteps := 2000000) only [go_sem, zAg, zAo, zAB, zAd]; all_goals (repeat' (first | exact trivial | exact zAj (by omega) | exact zAi rfl | exact zAx rfl | exact zAp | exact le_refl _ | refine And.intro ?_ ?_)))
    rintro ⟨j, b⟩ ⟨hj, ⟨K2, hb, hK2⟩, hsb⟩
    simp only at hj hb hK2 hsb
    try simp (maxSteps := 2000000) only [go_sem]
    repeat with_reducible refine zAc ?_
    refine zAa (by rfl) trivial (fun h4 => ?_) (fun h4 => ?_)
    ·have hjl : j < p.links.length := by simp at h4; omega
     rw [zDs (d := 0) hjl] at hsb
     have hg2 := zG0 p.links j hjl
     obtain ⟨v, hv⟩ : ∃ v, v = p.links.getD j 0 := ⟨_, rfl⟩
     rw [← hv] at hg2 hsb
     have hvb : (bif decide (v < 1) then true else decide (4 < v)) = zTP v := by
      unfold zTP
      by_cases h5 : v < 1 <;> by_cases h6 : 4 < v <;> simp [h5, h6] <;> omega
     have hk := hb.k
     try simp (maxSteps := 2000000) only [go_sem, hg2]
     repeat with_reducible refine zAc ?_
     refine zBV (by repeat' constructor) (zUR b (bif decide (v < 1) then true else decide (4 < v)) (by omega)) ?_
     try simp (maxSteps := 2000000) only [go_sem, hvb]
     repeat with_reducible refine zAc ?_
     refine ⟨(j + 1, b.add (fK (zTP v))), by simp only; omega, ⟨by simp only; omega, ⟨K2 + 1, hb.le_add (yAF _), by simp only; omega⟩, ?_⟩, ?_⟩
     ·simp only
      rw [← hsb, Fd.add_assoc]
      congr 1
      simp only [zUF, Fd.add, fK, List.countP_cons, nB]
      congr 1
      split <;> omega
     ·simp (maxSteps := 2000000) only [go_sem, zAg, zAo, zAB, zAd]
      all_goals (repeat' (first | exact trivial | exact zAj (by omega) | exact zAi rfl | exact zAx rfl | exact zAp | exact le_refl _ | refine And.intro ?_ ?_))
    ·have hjl : j = p.links.length := by simp at h4; omega
     subst hjl
     rw [List.drop_length] at hsb
     have e5 : b = a.add (zUF p.links) := by
      rw [← hsb]
      simp [zUF, Fd.add]
     have hK3 : K2 ≤ K' + 4 := by omega
     have hK4 : K2 + (p.steps.length - 0) * bdS d ≤ K' + bdP d := by
      have : (p.steps.length - 0) * bdS d ≤ 5 * bdS d := Nat.mul_le_mul_right _ (by omega)
      omega
     try simp (maxSteps := 2000000) only [go_sem]
     repeat with_reducible refine zAc ?_
     refine zAz (fun x : Nat × Fd => [(11, .un), (73, .pv (iv x.1)), (74, .un), (84, .pv (.one (bI x.2.f))), (85, .pv (.one (bI x.2.m))), (86, .pv (.one (bI x.2.r))), (87, .pv (.one (bI x.2.k))), (90, .un), (91, .un)]) (fun x : Nat × Fd => p.steps.length - x.1) (fun x : Nat × Fd => x.1 ≤ p.steps.length ∧ (∃ K3, x.2.le K3 ∧ K3 + (p.steps.length - x.1) * bdS d ≤ K' + bdP d) ∧ x.2.add (zUG (p.steps.drop x.1) d) = b.add (zUG p.steps d)) ((0, b)) ?_ ⟨Nat.zero_le _, ⟨K2, hb, hK4⟩, by simp⟩ ?_
     focus (simp (maxSteps := 2000000) only [go_sem, zAg, zAo, zAB, zAd]; all_goals (repeat' (first | exact trivial | exact zAj (by omega) | exact zAi rfl | exact zAx rfl | exact zAp | exact le_refl _ | refine And.intro ?_ ?_)))
     rintro ⟨k, e6⟩ ⟨hk, ⟨K3, he6, hK5⟩, hse⟩
     simp only at hk he6 hK5 hse
     try simp (maxSteps := 2000000) only [go_sem]
     repeat with_reducible refine zAc ?_
     refine zAa (by rfl) trivial (fun h6 => ?_) (fun h6 => ?_)
     ·have hkl : k < p.steps.length := by simp at h6; omega
      rw [zDs (d := default) hkl] at hse
      obtain ⟨q, hq⟩ : ∃ q, q = p.steps.getD k default := ⟨_, rfl⟩
      rw [← hq] at hse
      have hg3 : (zTO p.steps).getD k [] = [bS q.tag, .sl 6 (zUC q.tests)] := by rw [zHn _ k hkl, ← hq, zCi]
      have hqs : SizeOf.sizeOf q ≤ N := by
       have h7 := yCu hkl
       rw [← hq] at h7
       omega
      have hmul2 : (p.steps.length - k) * bdS d = bdS d + (p.steps.length - (k + 1)) * bdS d := by
       have : p.steps.length - k = (p.steps.length - (k + 1)) + 1 := by omega
       rw [this, Nat.add_mul]; omega
      have hst := ih.2 q d K3 e6 hqs hd3.1 he6 (by omega)
      rw [zCi] at hst
      unfold fdV at hst
      try simp (maxSteps := 2000000) only [go_sem, hg3]
      repeat with_reducible refine zAc ?_
      refine zBV (by repeat' constructor) (hst) ?_
      try simp (maxSteps := 2000000) only [go_sem]
      repeat with_reducible refine zAc ?_
      refine ⟨(k + 1, e6.add (ntS q d)), by simp only; omega, ⟨by simp only; omega, ⟨K3 + bdS d, he6.le_add (b_S q d), by simp only; omega⟩, ?_⟩, ?_⟩
      ·simp only [zUG] at hse ⊢
       rw [← hse, Fd.add_assoc]
      ·simp (maxSteps := 2000000) only [go_sem, zAg, zAo, zAB, zAd]
       all_goals (repeat' (first | exact trivial | exact zAj (by omega) | exact zAi rfl | exact zAx rfl | exact zAp | exact le_refl _ | refine And.intro ?_ ?_))
     ·have hkl : k = p.steps.length := by simp at h6; omega
      subst hkl
      rw [List.drop_length] at hse
      have e7 : e6 = b.add (zUG p.steps d) := by rw [← hse]; rfl
      try simp (maxSteps := 2000000) only [go_sem]
      repeat with_reducible refine zAc ?_
      refine ⟨(i + 1, e6), by simp only; omega, ⟨by simp only; omega, ⟨K3, he6, by simp only; omega⟩, ?_⟩, ?_⟩
      ·simp only
       rw [← hsum, e7, e5, yCx, Fd.add_assoc, Fd.add_assoc, Fd.add_assoc]
      ·simp (maxSteps := 2000000) only [go_sem, zAg, zAo, zAB, zAd]
       all_goals (repeat' (first | exact trivial | exact zAj (by omega) | exact zAi rfl | exact zAx rfl | exact zAp | exact le_refl _ | refine And.intro ?_ ?_))
  ·have hil : i = l.length := by simp at h2; omega
   subst hil
   rw [List.drop_length] at hsum
   try simp (maxSteps := 2000000) only [go_sem]
   repeat with_reducible refine zAc ?_
   rw [← hsum]
   exact zBT rfl rfl
end Go.Hx
end

section
/-
 The abstract code of functions of the program, printed by gen.py; each stands for the given one. No condition.
-/
namespace Go.Hx
open Go.Proofs
variable [Glob]
abbrev zBq : Nat := 26
abbrev zDH : Nat := 70
abbrev zDI : Nat := 129
abbrev zDJ : Nat := 183
abbrev zKn : HCode := .reg [⟨none, .val 2 (.boxF (.t 0))⟩,
  ⟨none, .val 3 (.boxF (.t 1))⟩,
  ⟨none, .val 4 (.mv (.c (bv false)))⟩] false []
abbrev zKo : HCode := .reg [⟨none, .val 5 (.fldR (.t 2) 0 1)⟩,
  ⟨none, .val 6 (.ldR (.t 5) 1 false)⟩,
  ⟨none, .val 7 (.fldR (.t 3) 0 1)⟩,
  ⟨none, .val 8 (.ldR (.t 7) 1 false)⟩,
  ⟨none, .val 9 (.ints .eql (.t 6) (.t 8))⟩,
  ⟨none, .val 10 (.mv (.t 9))⟩,
  ⟨some (10, true), .val 11 (.fldR (.t 2) 1 1)⟩,
  ⟨some (10, true), .val 12 (.ldR (.t 11) 1 false)⟩,
  ⟨some (10, true), .val 13 (.fldR (.t 3) 1 1)⟩,
  ⟨some (10, true), .val 14 (.ldR (.t 13) 1 false)⟩,
  ⟨some (10, true), .val 15 (.strs .eql (.t 12) (.t 14))⟩,
  ⟨none, .val 16 (.pick (.t 10) (.t 15) (.c (bv false)))⟩,
  ⟨none, .val 17 (.mv (.t 16))⟩,
  ⟨some (17, true), .val 18 (.fldR (.t 2) 2 1)⟩,
  ⟨some (17, true), .val 19 (.ldR (.t 18) 1 false)⟩,
  ⟨some (17, true), .val 20 (.fldR (.t 3) 2 1)⟩,
  ⟨some (17, true), .val 21 (.ldR (.t 20) 1 false)⟩,
  ⟨some (17, true), .val 22 (.strs .eql (.t 19) (.t 21))⟩,
  ⟨none, .val 23 (.pick (.t 17) (.t 22) (.c (bv false)))⟩,
  ⟨none, .val 24 (.mv (.t 23))⟩,
  ⟨some (24, true), .val 25 (.fldR (.t 2) 3 2)⟩,
  ⟨some (24, true), .val 26 (.ldR (.t 25) 2 true)⟩,
  ⟨some (24, true), .val 27 (.fldR (.t 3) 3 2)⟩,
  ⟨some (24, true), .val 28 (.ldR (.t 27) 2 true)⟩,
  ⟨some (24, true), .val 29 (.steq false [0, 0] (.t 26) (.t 28))⟩,
  ⟨none, .val 30 (.pick (.t 24) (.t 29) (.c (bv false)))⟩,
  ⟨none, .val 31 (.mv (.t 30))⟩,
  ⟨some (31, true), .val 32 (.fldR (.t 2) 5 1)⟩,
  ⟨some (31, true), .val 33 (.ldR (.t 32) 1 false)⟩,
  ⟨some (31, true), .val 34 (.fldR (.t 3) 5 1)⟩,
  ⟨some (31, true), .val 35 (.ldR (.t 34) 1 false)⟩,
  ⟨some (31, true), .call (some 36) zBq [(.t 33, .v), (.t 35, .v)]⟩,
  ⟨none, .val 37 (.pick (.t 31) (.t 36) (.c (bv false)))⟩,
  ⟨none, .val 4 (.mv (.t 37))⟩] false [.forget [5, 6, 7, 8, 9, 10, 11, 12, 13, 14, 15, 16, 17, 18, 19, 20, 21, 22, 23, 24, 25, 26, 27, 28, 29, 30, 31, 32, 33, 34, 35, 36, 37]]
abbrev zPY : HCode := (.seq zKn (.seq zKo .ret))
abbrev zC2 : Env := { N := 38, Γ := [], L := 38, nfix := 0 }
abbrev zMz : List RSrc := [.tmp 4]
theorem zKp {base : Nat} {av : List AV} {r : RV} (hfo : zAL zC2 base av) (hW : AVs.fits av → hwp Tryz.prog zPY (zDb zC2 base av zMz r) (F0 zC2 base av)) (hov : ∀ x, r.res = .ov x → zCC av = 0 := by intro x h; cases h <;> rfl) : Contract Tryz.prog zDJ av r :=
 contract_of_wp (fn := Tryz.f183) (c := Tryz.f183.body.getD .skip) (by kernel_rfl) (by kernel_rfl) (by kernel_rfl) (by kernel_rfl) (by kernel_rfl) (by kernel_rfl) (by kernel_rfl) hfo hW hov
abbrev zKq : HCode := .reg [⟨none, .val 2 (.boxF (.t 0))⟩,
  ⟨none, .val 3 (.boxF (.t 1))⟩,
  ⟨none, .val 4 (.mv (.c (bv false)))⟩] false []
abbrev zKr : HCode := .reg [⟨none, .val 6 (.fldR (.t 2) 0 1)⟩,
  ⟨none, .val 7 (.ldR (.t 6) 1 false)⟩,
  ⟨none, .val 8 (.fldR (.t 3) 0 1)⟩,
  ⟨none, .val 9 (.ldR (.t 8) 1 false)⟩,
  ⟨none, .val 10 (.strs .neq (.t 7) (.t 9))⟩,
  ⟨none, .val 11 (.mv (.t 10))⟩,
  ⟨some (11, false), .val 12 (.fldR (.t 2) 1 1)⟩,
  ⟨some (11, false), .val 13 (.ldR (.t 12) 1 false)⟩,
  ⟨some (11, false), .val 14 (.len false (.t 13))⟩,
  ⟨some (11, false), .val 15 (.fldR (.t 3) 1 1)⟩,
  ⟨some (11, false), .val 16 (.ldR (.t 15) 1 false)⟩,
  ⟨some (11, false), .val 17 (.len false (.t 16))⟩,
  ⟨some (11, false), .val 18 (.ints .neq (.t 14) (.t 17))⟩,
  ⟨none, .val 19 (.pick (.t 11) (.c (bv true)) (.t 18))⟩] false [.forget [6, 7, 8, 9, 10, 11, 12, 13, 14, 15, 16, 17, 18]]
abbrev zKs : HCode := .reg [⟨none, .val 4 (.mv (.c (bv false)))⟩] false []
abbrev zKt : HCode := .reg [⟨none, .val 5 (.mv (.c (iv 0)))⟩] false []
abbrev zKu : HCode := .reg [⟨none, .val 20 (.mv (.t 5))⟩,
  ⟨none, .val 21 (.fldR (.t 2) 1 1)⟩,
  ⟨none, .val 22 (.ldR (.t 21) 1 false)⟩,
  ⟨none, .val 23 (.len false (.t 22))⟩,
  ⟨none, .val 24 (.ints .lss (.t 20) (.t 23))⟩] false [.forget [20, 21, 22, 23]]
abbrev zKv : HCode := .drg [⟨0, false, ⟨none, .val 27 (.fldR (.t 2) 1 1)⟩⟩,
  ⟨1, false, ⟨none, .val 28 (.ldR (.t 27) 1 false)⟩⟩,
  ⟨2, false, ⟨none, .val 29 (.mv (.t 5))⟩⟩,
  ⟨3, false, ⟨none, .val 30 (.idxA 6 (.t 28) (.t 29))⟩⟩,
  ⟨4, false, ⟨none, .val 31 (.ldR (.t 30) 6 true)⟩⟩,
  ⟨5, false, ⟨none, .val 32 (.fldR (.t 3) 1 1)⟩⟩,
  ⟨6, false, ⟨none, .val 33 (.ldR (.t 32) 1 false)⟩⟩,
  ⟨7, false, ⟨none, .val 34 (.mv (.t 5))⟩⟩,
  ⟨8, false, ⟨none, .val 35 (.idxA 6 (.t 33) (.t 34))⟩⟩,
  ⟨9, false, ⟨none, .val 36 (.ldR (.t 35) 6 true)⟩⟩,
  ⟨10, true, ⟨none, .call (some 37) zDJ [(.t 31, .v), (.t 36, .v)]⟩⟩,
  ⟨11, false, ⟨none, .val 38 (.not (.t 37))⟩⟩] [.forget [27, 28, 29, 30, 31, 32, 33, 34, 35, 36, 37]]
abbrev zKw : HCode := .reg [⟨none, .val 4 (.mv (.c (bv false)))⟩] false []
abbrev zKx : HCode := .reg [⟨none, .val 25 (.mv (.t 5))⟩,
  ⟨none, .val 26 (.ints .add (.t 25) (.c (iv 1)))⟩,
  ⟨none, .val 5 (.mv (.t 26))⟩] false [.forget [25, 26]]
abbrev zKy : HCode := .reg [⟨none, .val 4 (.mv (.c (bv true)))⟩] false []
abbrev zPZ : HCode := (.seq zKq (.seq (.seq zKr (.cond (.t 19) (.seq zKs .ret) .skip)) (.seq (.seq zKt (.block 0 (.loop (.seq (.seq zKu (.cond (.t 24) .skip (.exit 0))) (.seq (.block 1 (.seq zKv (.cond (.t 38) (.seq zKw .ret) .skip))) zKx))))) (.seq zKy .ret))))
abbrev zC3 : Env := { N := 39, Γ := [], L := 39, nfix := 0 }
abbrev zMA : List RSrc := [.tmp 4]
theorem zKz {base : Nat} {av : List AV} {r : RV} (hfo : zAL zC3 base av) (hW : AVs.fits av → hwp Tryz.prog zPZ (zDb zC3 base av zMA r) (F0 zC3 base av)) (hov : ∀ x, r.res = .ov x → zCC av = 0 := by intro x h; cases h <;> rfl) : Contract Tryz.prog zDI av r :=
 contract_of_wp (fn := Tryz.f129) (c := Tryz.f129.body.getD .skip) (by kernel_rfl) (by kernel_rfl) (by kernel_rfl) (by kernel_rfl) (by kernel_rfl) (by kernel_rfl) (by kernel_rfl) hfo hW hov
abbrev zKA : HCode := .reg [⟨none, .val 2 (.boxF (.t 0))⟩,
  ⟨none, .val 3 (.boxF (.t 1))⟩,
  ⟨none, .val 4 (.mv (.c (bv false)))⟩] false []
abbrev zKB : HCode := .reg [⟨none, .val 6 (.fldR (.t 2) 0 1)⟩,
  ⟨none, .val 7 (.ldR (.t 6) 1 false)⟩,
  ⟨none, .val 8 (.len false (.t 7))⟩,
  ⟨none, .val 9 (.fldR (.t 3) 0 1)⟩,
  ⟨none, .val 10 (.ldR (.t 9) 1 false)⟩,
  ⟨none, .val 11 (.len false (.t 10))⟩,
  ⟨none, .val 12 (.ints .neq (.t 8) (.t 11))⟩,
  ⟨none, .val 13 (.mv (.t 12))⟩,
  ⟨some (13, false), .val 14 (.fldR (.t 2) 1 1)⟩,
  ⟨some (13, false), .val 15 (.ldR (.t 14) 1 false)⟩,
  ⟨some (13, false), .val 16 (.fldR (.t 3) 1 1)⟩,
  ⟨some (13, false), .val 17 (.ldR (.t 16) 1 false)⟩,
  ⟨some (13, false), .call (some 18) zDY [(.t 15, .v), (.t 17, .v)]⟩,
  ⟨some (13, false), .val 19 (.not (.t 18))⟩,
  ⟨none, .val 20 (.pick (.t 13) (.c (bv true)) (.t 19))⟩] false [.forget [6, 7, 8, 9, 10, 11, 12, 13, 14, 15, 16, 17, 18, 19]]
abbrev zKC : HCode := .reg [⟨none, .val 4 (.mv (.c (bv false)))⟩] false []
abbrev zKD : HCode := .reg [⟨none, .val 5 (.mv (.c (iv 0)))⟩] false []
abbrev zKE : HCode := .reg [⟨none, .val 21 (.mv (.t 5))⟩,
  ⟨none, .val 22 (.fldR (.t 2) 0 1)⟩,
  ⟨none, .val 23 (.ldR (.t 22) 1 false)⟩,
  ⟨none, .val 24 (.len false (.t 23))⟩,
  ⟨none, .val 25 (.ints .lss (.t 21) (.t 24))⟩] false [.forget [21, 22, 23, 24]]
abbrev zKF : HCode := .drg [⟨0, false, ⟨none, .val 28 (.fldR (.t 2) 0 1)⟩⟩,
  ⟨1, false, ⟨none, .val 29 (.ldR (.t 28) 1 false)⟩⟩,
  ⟨2, false, ⟨none, .val 30 (.mv (.t 5))⟩⟩,
  ⟨3, false, ⟨none, .val 31 (.idxA 2 (.t 29) (.t 30))⟩⟩,
  ⟨4, false, ⟨none, .val 32 (.ldR (.t 31) 2 true)⟩⟩,
  ⟨5, false, ⟨none, .val 33 (.fldR (.t 3) 0 1)⟩⟩,
  ⟨6, false, ⟨none, .val 34 (.ldR (.t 33) 1 false)⟩⟩,
  ⟨7, false, ⟨none, .val 35 (.mv (.t 5))⟩⟩,
  ⟨8, false, ⟨none, .val 36 (.idxA 2 (.t 34) (.t 35))⟩⟩,
  ⟨9, false, ⟨none, .val 37 (.ldR (.t 36) 2 true)⟩⟩,
  ⟨10, true, ⟨none, .call (some 38) zDI [(.t 32, .v), (.t 37, .v)]⟩⟩,
  ⟨11, false, ⟨none, .val 39 (.not (.t 38))⟩⟩] [.forget [28, 29, 30, 31, 32, 33, 34, 35, 36, 37, 38]]
abbrev zKG : HCode := .reg [⟨none, .val 4 (.mv (.c (bv false)))⟩] false []
abbrev zKH : HCode := .reg [⟨none, .val 26 (.mv (.t 5))⟩,
  ⟨none, .val 27 (.ints .add (.t 26) (.c (iv 1)))⟩,
  ⟨none, .val 5 (.mv (.t 27))⟩] false [.forget [26, 27]]
abbrev zKI : HCode := .reg [⟨none, .val 4 (.mv (.c (bv true)))⟩] false []
abbrev zP0 : HCode := (.seq zKA (.seq (.seq zKB (.cond (.t 20) (.seq zKC .ret) .skip)) (.seq (.seq zKD (.block 0 (.loop (.seq (.seq zKE (.cond (.t 25) .skip (.exit 0))) (.seq (.block 1 (.seq zKF (.cond (.t 39) (.seq zKG .ret) .skip))) zKH))))) (.seq zKI .ret))))
abbrev zC4 : Env := { N := 40, Γ := [], L := 40, nfix := 0 }
abbrev zMB : List RSrc := [.tmp 4]
theorem zKJ {base : Nat} {av : List AV} {r : RV} (hfo : zAL zC4 base av) (hW : AVs.fits av → hwp Tryz.prog zP0 (zDb zC4 base av zMB r) (F0 zC4 base av)) (hov : ∀ x, r.res = .ov x → zCC av = 0 := by intro x h; cases h <;> rfl) : Contract Tryz.prog zDH av r :=
 contract_of_wp (fn := Tryz.f70) (c := Tryz.f70.body.getD .skip) (by kernel_rfl) (by kernel_rfl) (by kernel_rfl) (by kernel_rfl) (by kernel_rfl) (by kernel_rfl) (by kernel_rfl) hfo hW hov
abbrev zKK : HCode := .reg [⟨none, .val 4 (.mv (.c (bv false)))⟩] false []
abbrev zKL : HCode := .reg [⟨none, .val 6 (.mv (.t 0))⟩,
  ⟨none, .val 7 (.len false (.t 6))⟩,
  ⟨none, .val 8 (.mv (.t 1))⟩,
  ⟨none, .val 9 (.len false (.t 8))⟩,
  ⟨none, .val 10 (.ints .neq (.t 7) (.t 9))⟩] false [.forget [6, 7, 8, 9]]
abbrev zKM : HCode := .reg [⟨none, .val 4 (.mv (.c (bv false)))⟩] false []
abbrev zKN : HCode := .reg [⟨none, .val 5 (.mv (.c (iv 0)))⟩] false []
abbrev zKO : HCode := .reg [⟨none, .val 11 (.mv (.t 5))⟩,
  ⟨none, .val 12 (.mv (.t 0))⟩,
  ⟨none, .val 13 (.len false (.t 12))⟩,
  ⟨none, .val 14 (.ints .lss (.t 11) (.t 13))⟩] false [.forget [11, 12, 13]]
abbrev zKP : HCode := .drg [⟨0, false, ⟨none, .val 17 (.mv (.t 0))⟩⟩,
  ⟨1, false, ⟨none, .val 18 (.mv (.t 5))⟩⟩,
  ⟨2, false, ⟨none, .val 19 (.idxA 2 (.t 17) (.t 18))⟩⟩,
  ⟨3, false, ⟨none, .val 20 (.ldR (.t 19) 2 true)⟩⟩,
  ⟨4, false, ⟨none, .val 21 (.mv (.t 1))⟩⟩,
  ⟨5, false, ⟨none, .val 22 (.mv (.t 5))⟩⟩,
  ⟨6, false, ⟨none, .val 23 (.idxA 2 (.t 21) (.t 22))⟩⟩,
  ⟨7, false, ⟨none, .val 24 (.ldR (.t 23) 2 true)⟩⟩,
  ⟨8, true, ⟨none, .call (some 25) zDH [(.t 20, .v), (.t 24, .v)]⟩⟩,
  ⟨9, false, ⟨none, .val 26 (.not (.t 25))⟩⟩] [.forget [17, 18, 19, 20, 21, 22, 23, 24, 25]]
abbrev zKQ : HCode := .reg [⟨none, .val 4 (.mv (.c (bv false)))⟩] false []
abbrev zKR : HCode := .reg [⟨none, .val 15 (.mv (.t 5))⟩,
  ⟨none, .val 16 (.ints .add (.t 15) (.c (iv 1)))⟩,
  ⟨none, .val 5 (.mv (.t 16))⟩] false [.forget [15, 16]]
abbrev zKS : HCode := .reg [⟨none, .val 4 (.mv (.c (bv true)))⟩] false []
abbrev zP1 : HCode := (.seq zKK (.seq (.seq zKL (.cond (.t 10) (.seq zKM .ret) .skip)) (.seq (.seq zKN (.block 0 (.loop (.seq (.seq zKO (.cond (.t 14) .skip (.exit 0))) (.seq (.block 1 (.seq zKP (.cond (.t 26) (.seq zKQ .ret) .skip))) zKR))))) (.seq zKS .ret))))
abbrev zC5 : Env := { N := 27, Γ := [], L := 27, nfix := 0 }
abbrev zMC : List RSrc := [.tmp 4]
theorem zKT {base : Nat} {av : List AV} {r : RV} (hfo : zAL zC5 base av) (hW : AVs.fits av → hwp Tryz.prog zP1 (zDb zC5 base av zMC r) (F0 zC5 base av)) (hov : ∀ x, r.res = .ov x → zCC av = 0 := by intro x h; cases h <;> rfl) : Contract Tryz.prog zBq av r :=
 contract_of_wp (fn := Tryz.f26) (c := Tryz.f26.body.getD .skip) (by kernel_rfl) (by kernel_rfl) (by kernel_rfl) (by kernel_rfl) (by kernel_rfl) (by kernel_rfl) (by kernel_rfl) hfo hW hov
end Go.Hx
end

section
namespace Go.Hx
open Go.Proofs
variable [Glob]
attribute [local go_sem] zAw zAu zAv zAm ndV zAq
end Go.Hx
end

section
set_option maxRecDepth 100000
set_option linter.unusedSimpArgs false
namespace Go.Hx
open Go.Proofs
variable [Glob]
attribute [local go_sem] zAw zAu zAv zAm ndV zAq
attribute [local go_sem] reduceCtorEq Nat.reduceAdd Nat.reduceEqDiff reduceIte Nat.reduceLeDiff Nat.reduceLT Nat.reduceSub
theorem zNC (a b : List Int) : Contract Tryz.prog zDY [.val (.one (.sl 1 (zGt a))), .val (.one (.sl 1 (zGt b)))] { res := .val (bv (decide (a = b))) } := by
 refine zLS (base := 0) ⟨Nat.le_of_ble_eq_true rfl, Nat.le_of_ble_eq_true rfl, Nat.le_of_ble_eq_true rfl, rfl⟩ (fun hfit => ?_)
 unfold F0 zDn
 simp (maxSteps := 2000000) only [zAS, List.set_cons_succ, List.set_cons_zero, List.map_cons, List.map_nil, zAQ, zAb, ioOf, List.length_cons, List.length_nil, Nat.reduceAdd, Nat.reduceSub, List.replicate, List.cons_append, List.nil_append]
 try simp (maxSteps := 2000000) only [go_sem]
 repeat with_reducible refine zAc ?_
 have hm := yAo (k := 1) hfit.1
 rw [zAm] at hm
 refine zAa (by rfl) trivial (fun h => ?_) (fun h => ?_)
 ·try simp (maxSteps := 2000000) only [go_sem]
  repeat with_reducible refine zAc ?_
  refine zAt rfl trivial (.inl ?_)
  congr 3
  simp [zAm] at h
  exact decide_eq_false (fun e => h (by subst e; rfl))
 have hl : a.length = b.length := by simp [zAm] at h; omega
 try simp (maxSteps := 2000000) only [go_sem]
 repeat with_reducible refine zAc ?_
 refine zAz (fun i : Nat => [(5, .pv (iv i)), (14, .un), (25, .un)]) (fun i => a.length - i) (fun i => i ≤ a.length ∧ a.take i = b.take i) 0 ?_ ⟨Nat.zero_le _, rfl⟩ ?_
 ·simp (maxSteps := 2000000) only [go_sem, zAg, zAo, zAB, zAd]
 intro i ⟨hi, heq⟩
 try simp (maxSteps := 2000000) only [go_sem, zAm]
 repeat with_reducible refine zAc ?_
 refine zAa (by rfl) trivial (fun h2 => ?_) (fun h2 => ?_)
 ·have hlt : i < a.length := by simpa using h2
  have hltb : i < b.length := by omega
  try simp (maxSteps := 2000000) only [go_sem, zG0 _ _ hlt, zG0 _ _ hltb, zAm]
  repeat with_reducible refine zAc ?_
  refine zAa (by rfl) trivial (fun h3 => ?_) (fun h3 => ?_)
  ·try simp (maxSteps := 2000000) only [go_sem]
   repeat with_reducible refine zAc ?_
   refine zAt rfl trivial (.inl ?_)
   congr 3
   simp only [bne_iff_ne, ne_eq] at h3
   exact (decide_eq_false (zVi 0 h3))
  ·try simp (maxSteps := 2000000) only [go_sem]
   repeat with_reducible refine zAc ?_
   refine ⟨i + 1, by omega, ⟨hlt, zQY 0 heq hlt hltb ?_⟩, ?_⟩
   ·simpa only [bne_eq_false_iff_eq] using h3
   ·simp (maxSteps := 2000000) only [go_sem, zAg, zAo, zAB, zAd]
    exact zAj (by omega)
 ·try simp (maxSteps := 2000000) only [go_sem]
  repeat with_reducible refine zAc ?_
  refine zAt rfl trivial (.inl ?_)
  congr 3
  have hi2 : i = a.length := by simp at h2; omega
  subst hi2
  exact decide_eq_true (zVj hl heq)
end Go.Hx
end

section
/-
 The abstract code of functions of the program, printed by gen.py; each stands for the given one. No condition.
-/
namespace Go.Hx
open Go.Proofs
variable [Glob]
end Go.Hx
end

section
/-
 The abstract code of functions of the program, printed by gen.py; each stands for the given one. No condition.
-/
namespace Go.Hx
open Go.Proofs
variable [Glob]
abbrev zBv : Nat := 149
abbrev zFv : Nat := 148
abbrev zCy : Nat := 205
abbrev zFw : Nat := 55
abbrev zC6 : Nat := 166
abbrev zCf : Nat := 112
abbrev zBG : Nat := 165
abbrev zBw : Nat := 102
abbrev zP9 : HCode := .reg [⟨none, .val 1 (.boxF (.t 0))⟩,
  ⟨none, .alloc 2 0 85 [.v (.int .i64 0), .v (.int .i64 0), .v (.int .i64 0)]⟩] false []
abbrev zQa : HCode := .reg [⟨none, .alloc 3 1 88 [.v (.int .i64 0), .v (.int .i64 0), .v (.int .i64 0)]⟩] false []
abbrev zQb : HCode := .reg [⟨none, .val 12 (.fldR (.t 1) 0 1)⟩,
  ⟨none, .val 13 (.ldR (.t 12) 1 false)⟩,
  ⟨none, .val 14 (.len false (.t 13))⟩,
  ⟨none, .val 15 (.mv (.c (iv 0)))⟩] false [.forget [12]]
abbrev zQc : HCode := .reg [⟨none, .val 16 (.ints .lss (.t 15) (.t 14))⟩] false []
abbrev zQd : HCode := .reg [⟨none, .val 17 (.idxA 2 (.t 13) (.t 15))⟩,
  ⟨none, .val 18 (.ldR (.t 17) 2 true)⟩,
  ⟨none, .alloc 5 2 91 [.v (mkS []), .nl 6]⟩,
  ⟨none, .sto (.t 5) 2 91 0 2 (.t 18)⟩] false [.forget [17, 18]]
abbrev zQe : HCode := .reg [⟨none, .val 19 (.fldP (.t 5) 0)⟩,
  ⟨none, .val 20 (.ldB (.t 19) 2 91 0 1 false)⟩,
  ⟨none, .val 21 (.strs .neq (.t 20) (.c (sv [])))⟩] false [.forget [19, 20]]
abbrev zQf : HCode := .reg [⟨none, .val 22 (.fldP (.t 3) 2)⟩,
  ⟨none, .val 23 (.ldB (.t 22) 1 88 2 1 false)⟩,
  ⟨none, .val 24 (.ints .add (.t 23) (.c (iv 1)))⟩,
  ⟨none, .val 25 (.fldP (.t 3) 2)⟩,
  ⟨none, .sto (.t 25) 1 88 2 1 (.t 24)⟩] false [.forget [22, 23, 24, 25]]
abbrev zQg : HCode := .reg [⟨none, .val 26 (.fldP (.t 5) 1)⟩,
  ⟨none, .val 27 (.ldB (.t 26) 2 91 1 1 false)⟩,
  ⟨none, .val 28 (.len false (.t 27))⟩,
  ⟨none, .val 29 (.mv (.c (iv 0)))⟩] false [.forget [26]]
abbrev zQh : HCode := .reg [⟨none, .val 30 (.ints .lss (.t 29) (.t 28))⟩] false []
abbrev zQi : HCode := .reg [⟨none, .val 31 (.idxA 6 (.t 27) (.t 29))⟩,
  ⟨none, .val 32 (.ldR (.t 31) 6 true)⟩,
  ⟨none, .alloc 7 3 93 [.v (.int .i64 0), .v (mkS []), .v (mkS []), .v (.int .i64 0), .v (.int .i64 0), .nl 2]⟩,
  ⟨none, .sto (.t 7) 3 93 0 6 (.t 32)⟩] false [.forget [31, 32]]
abbrev zND : HCode := .reg [⟨none, .val 33 (.fldP (.t 7) 0)⟩,
  ⟨none, .val 34 (.ldB (.t 33) 3 93 0 1 false)⟩] false [.forget [33]]
abbrev zNE : HCode := .reg [⟨none, .val 40 (.ints .eql (.t 34) (.c (iv 2)))⟩,
  ⟨none, .val 39 (.mv (.t 40))⟩] false [.forget [40]]
abbrev zNF : HCode := .reg [⟨none, .val 41 (.fldP (.t 3) 0)⟩,
  ⟨none, .val 42 (.ldB (.t 41) 1 88 0 1 false)⟩,
  ⟨none, .val 43 (.ints .add (.t 42) (.c (iv 1)))⟩,
  ⟨none, .val 44 (.fldP (.t 3) 0)⟩,
  ⟨none, .sto (.t 44) 1 88 0 1 (.t 43)⟩] false [.forget [41, 42, 43, 44]]
abbrev zNG : HCode := .reg [⟨none, .val 46 (.ints .eql (.t 34) (.c (iv 13)))⟩,
  ⟨none, .val 45 (.mv (.t 46))⟩] false [.forget [46]]
abbrev zNH : HCode := .reg [⟨none, .val 47 (.ints .eql (.t 34) (.c (iv 14)))⟩,
  ⟨none, .val 45 (.mv (.t 47))⟩] false [.forget [47]]
abbrev zNI : HCode := .reg [⟨none, .val 48 (.ints .eql (.t 34) (.c (iv 15)))⟩,
  ⟨none, .val 45 (.mv (.t 48))⟩] false [.forget [48]]
abbrev zNJ : HCode := .reg [⟨none, .nlo 8 zBw 3⟩] false []
abbrev zNK : HCode := .reg [⟨none, .val 49 (.fldP (.t 7) 5)⟩,
  ⟨none, .val 50 (.ldB (.t 49) 3 93 5 1 false)⟩,
  ⟨none, .val 51 (.len false (.t 50))⟩,
  ⟨none, .val 52 (.mv (.c (iv 0)))⟩] false [.forget [49]]
abbrev zNL : HCode := .reg [⟨none, .val 53 (.ints .lss (.t 52) (.t 51))⟩] false []
abbrev zNM : HCode := .reg [⟨none, .val 54 (.idxA 2 (.t 50) (.t 52))⟩,
  ⟨none, .val 55 (.ldR (.t 54) 2 true)⟩,
  ⟨none, .alloc 10 4 99 [.nl 2, .nl 1]⟩,
  ⟨none, .sto (.t 10) 4 99 0 2 (.t 55)⟩] false [.forget [54, 55]]
abbrev zNN : HCode := .reg [⟨none, .mvo 56 8⟩,
  ⟨none, .val 57 (.ldB (.t 10) 4 99 0 2 true)⟩,
  ⟨none, .call (some 58) zCf [(.t 57, .v)]⟩,
  ⟨none, .val 59 (.bslF 3 [.t 58])⟩,
  ⟨none, .app 60 zBw 3 (.t 56) (.t 59)⟩,
  ⟨none, .mvo 8 60⟩] false [.forget [56, 57, 58, 59, 60]]
abbrev zNO : HCode := .reg [⟨none, .val 61 (.ints .add (.t 52) (.c (iv 1)))⟩,
  ⟨none, .val 52 (.mv (.t 61))⟩] false [.forget [61]]
abbrev zNP : HCode := .reg [⟨none, .val 62 (.mv (.t 8))⟩,
  ⟨none, .call (some 63) zBG [(.t 62, .v), (.f zC6, .v)]⟩,
  ⟨none, .alloc 11 5 101 [.v (.int .i64 0), .v (.int .i64 0), .v (.int .i64 0)]⟩,
  ⟨none, .sto (.t 11) 5 101 0 3 (.t 63)⟩] false [.forget [62, 63]]
abbrev zNQ : HCode := .drg [⟨0, false, ⟨none, .val 64 (.fldP (.t 3) 0)⟩⟩,
  ⟨1, false, ⟨none, .val 65 (.ldB (.t 64) 1 88 0 1 false)⟩⟩,
  ⟨2, false, ⟨none, .val 66 (.fldP (.t 11) 0)⟩⟩,
  ⟨3, false, ⟨none, .val 67 (.ldB (.t 66) 5 101 0 1 false)⟩⟩,
  ⟨4, false, ⟨none, .val 68 (.ints .add (.t 65) (.t 67))⟩⟩,
  ⟨5, false, ⟨none, .val 69 (.fldP (.t 3) 1)⟩⟩,
  ⟨6, false, ⟨none, .val 70 (.ldB (.t 69) 1 88 1 1 false)⟩⟩,
  ⟨7, false, ⟨none, .val 71 (.fldP (.t 11) 1)⟩⟩,
  ⟨8, false, ⟨none, .val 72 (.ldB (.t 71) 5 101 1 1 false)⟩⟩,
  ⟨9, false, ⟨none, .val 73 (.ints .add (.t 70) (.t 72))⟩⟩,
  ⟨10, false, ⟨none, .val 74 (.fldP (.t 3) 2)⟩⟩,
  ⟨11, false, ⟨none, .val 75 (.ldB (.t 74) 1 88 2 1 false)⟩⟩,
  ⟨12, false, ⟨none, .val 76 (.fldP (.t 11) 2)⟩⟩,
  ⟨13, false, ⟨none, .val 77 (.ldB (.t 76) 5 101 2 1 false)⟩⟩,
  ⟨14, false, ⟨none, .val 78 (.ints .add (.t 75) (.t 77))⟩⟩,
  ⟨15, false, ⟨none, .val 79 (.fldP (.t 3) 0)⟩⟩,
  ⟨16, false, ⟨none, .sto (.t 79) 1 88 0 1 (.t 68)⟩⟩,
  ⟨17, false, ⟨none, .val 80 (.fldP (.t 3) 1)⟩⟩,
  ⟨18, false, ⟨none, .sto (.t 80) 1 88 1 1 (.t 73)⟩⟩,
  ⟨19, false, ⟨none, .val 81 (.fldP (.t 3) 2)⟩⟩,
  ⟨20, false, ⟨none, .sto (.t 81) 1 88 2 1 (.t 78)⟩⟩] [.forget [64, 65, 66, 67, 68, 69, 70, 71, 72, 73, 74, 75, 76, 77, 78, 79, 80, 81]]
abbrev zNR : HCode := .reg [⟨none, .val 35 (.fldP (.t 3) 1)⟩,
  ⟨none, .val 36 (.ldB (.t 35) 1 88 1 1 false)⟩,
  ⟨none, .val 37 (.ints .add (.t 36) (.c (iv 1)))⟩,
  ⟨none, .val 38 (.fldP (.t 3) 1)⟩,
  ⟨none, .sto (.t 38) 1 88 1 1 (.t 37)⟩] false [.forget [35, 36, 37, 38]]
abbrev zNS : HCode := .reg [⟨none, .val 82 (.ints .add (.t 29) (.c (iv 1)))⟩,
  ⟨none, .val 29 (.mv (.t 82))⟩] false [.forget [82]]
abbrev zNT : HCode := .reg [⟨none, .val 83 (.ints .add (.t 15) (.c (iv 1)))⟩,
  ⟨none, .val 15 (.mv (.t 83))⟩] false [.forget [83]]
abbrev zNU : HCode := .reg [⟨none, .val 84 (.ldB (.t 3) 1 88 0 3 true)⟩,
  ⟨none, .sto (.t 2) 0 85 0 3 (.t 84)⟩] false [.forget [84]]
abbrev zVZ : HCode := (.seq zP9 (.seq zQa (.seq (.seq zQb (.block 0 (.loop (.seq zQc (.seq (.cond (.t 16) .skip (.exit 0)) (.seq (.block 1 (.seq zQd (.seq (.seq zQe (.cond (.t 21) zQf .skip)) (.seq zQg (.block 2 (.loop (.seq zQh (.seq (.cond (.t 30) .skip (.exit 2)) (.seq (.block 3 (.seq zQi (.seq zND (.block 4 (.seq zNE (.cond (.t 39) zNF (.seq (.seq zNG (.cond (.t 45) .skip (.seq zNH (.cond (.t 45) .skip zNI)))) (.cond (.t 45) (.seq zNJ (.seq (.seq zNK (.block 5 (.loop (.seq zNL (.seq (.cond (.t 53) .skip (.exit 5)) (.seq (.block 6 (.seq zNM zNN)) zNO)))))) (.seq zNP zNQ))) zNR)))))))) zNS))))))))) zNT)))))) (.seq zNU .ret))))
abbrev zEv : Env := { N := 85, Γ := [(85, 3), (88, 3), (91, 2), (93, 6), (99, 2), (101, 3)], L := 104, nfix := 0 }
abbrev zSq : List RSrc := [.cellB 2 0 85 0 3 true]
theorem zQj {base : Nat} {av : List AV} {r : RV} (hfo : zAL zEv base av) (hW : AVs.fits av → hwp Tryz.prog zVZ (zDb zEv base av zSq r) (F0 zEv base av)) (hov : ∀ x, r.res = .ov x → zCC av = 0 := by intro x h; cases h <;> rfl) : Contract Tryz.prog zCf av r :=
 contract_of_wp (fn := Tryz.f112) (c := Tryz.f112.body.getD .skip) (by kernel_rfl) (by kernel_rfl) (by kernel_rfl) (by kernel_rfl) (by kernel_rfl) (by kernel_rfl) (by kernel_rfl) hfo hW hov
abbrev zQk : HCode := .reg [⟨none, .val 1 (.boxF (.t 0))⟩,
  ⟨none, .alloc 2 0 14 [.v (.int .i64 0), .v (.int .i64 0), .v (.int .i64 0)]⟩,
  ⟨none, .val 3 (.mv (.c (iv 0)))⟩] false []
abbrev zQl : HCode := .reg [⟨none, .val 5 (.ldR (.t 1) 2 true)⟩,
  ⟨none, .val 6 (.bslF 2 [.t 5])⟩,
  ⟨none, .call (some 7) zBJ [(.t 6, .v)]⟩,
  ⟨none, .val 4 (.mv (.t 7))⟩] false [.forget [5, 6, 7]]
abbrev zQm : HCode := .reg [⟨none, .val 8 (.mv (.t 4))⟩,
  ⟨none, .val 9 (.ints .neq (.t 8) (.c (iv 0)))⟩] false [.forget [8]]
abbrev zQn : HCode := .reg [⟨none, .val 10 (.bld [.v (.int .i64 0), .v (.int .i64 0), .v (.int .i64 0)] [])⟩,
  ⟨none, .val 11 (.mv (.t 4))⟩,
  ⟨none, .sto (.t 2) 0 14 0 3 (.t 10)⟩,
  ⟨none, .val 3 (.mv (.t 11))⟩] false [.forget [10, 11]]
abbrev zQo : HCode := .reg [⟨none, .val 12 (.ldR (.t 1) 2 true)⟩,
  ⟨none, .call (some 13) zCf [(.t 12, .v)]⟩,
  ⟨none, .sto (.t 2) 0 14 0 3 (.t 13)⟩,
  ⟨none, .val 3 (.mv (.c (iv 0)))⟩] false [.forget [12, 13]]
abbrev zV0 : HCode := (.seq zQk (.seq (.seq zQl (.seq zQm (.cond (.t 9) (.seq zQn .ret) .skip))) (.seq zQo .ret)))
abbrev zEw : Env := { N := 14, Γ := [(14, 3)], L := 17, nfix := 0 }
abbrev zSr : List RSrc := [.cellB 2 0 14 0 3 true, .tmp 3]
theorem zQp {base : Nat} {av : List AV} {r : RV} (hfo : zAL zEw base av) (hW : AVs.fits av → hwp Tryz.prog zV0 (zDb zEw base av zSr r) (F0 zEw base av)) (hov : ∀ x, r.res = .ov x → zCC av = 0 := by intro x h; cases h <;> rfl) : Contract Tryz.prog zFw av r :=
 contract_of_wp (fn := Tryz.f55) (c := Tryz.f55.body.getD .skip) (by kernel_rfl) (by kernel_rfl) (by kernel_rfl) (by kernel_rfl) (by kernel_rfl) (by kernel_rfl) (by kernel_rfl) hfo hW hov
abbrev zMH : HCode := .reg [⟨none, .val 2 (.boxF (.t 0))⟩,
  ⟨none, .val 3 (.boxF (.t 1))⟩,
  ⟨none, .val 4 (.mv (.c (iv 0)))⟩] false []
abbrev zMI : HCode := .drg [⟨0, false, ⟨none, .val 5 (.fldR (.t 2) 0 1)⟩⟩,
  ⟨1, false, ⟨none, .val 6 (.ldR (.t 5) 1 false)⟩⟩,
  ⟨2, false, ⟨none, .val 7 (.fldR (.t 3) 0 1)⟩⟩,
  ⟨3, false, ⟨none, .val 8 (.ldR (.t 7) 1 false)⟩⟩,
  ⟨4, false, ⟨none, .call (some 9) zBv [(.t 6, .v), (.t 8, .v)]⟩⟩,
  ⟨5, false, ⟨none, .val 10 (.fldR (.t 2) 1 1)⟩⟩,
  ⟨6, false, ⟨none, .val 11 (.ldR (.t 10) 1 false)⟩⟩,
  ⟨7, false, ⟨none, .val 12 (.fldR (.t 3) 1 1)⟩⟩,
  ⟨8, false, ⟨none, .val 13 (.ldR (.t 12) 1 false)⟩⟩,
  ⟨9, false, ⟨none, .call (some 14) zBv [(.t 11, .v), (.t 13, .v)]⟩⟩,
  ⟨10, false, ⟨none, .val 15 (.fldR (.t 2) 2 1)⟩⟩,
  ⟨11, false, ⟨none, .val 16 (.ldR (.t 15) 1 false)⟩⟩,
  ⟨12, false, ⟨none, .val 17 (.fldR (.t 3) 2 1)⟩⟩,
  ⟨13, false, ⟨none, .val 18 (.ldR (.t 17) 1 false)⟩⟩,
  ⟨14, true, ⟨none, .call (some 19) zBv [(.t 16, .v), (.t 18, .v)]⟩⟩,
  ⟨15, false, ⟨none, .val 20 (.bslF 1 [.t 9, .t 14, .t 19])⟩⟩,
  ⟨16, true, ⟨none, .call (some 21) zFv [(.t 20, .v)]⟩⟩,
  ⟨17, false, ⟨none, .val 4 (.mv (.t 21))⟩⟩] [.forget [5, 6, 7, 8, 9, 10, 11, 12, 13, 14, 15, 16, 17, 18, 19, 20, 21]]
abbrev zSs : HCode := (.seq zMH (.seq zMI .ret))
abbrev zDt : Env := { N := 22, Γ := [], L := 22, nfix := 0 }
abbrev zNV : List RSrc := [.tmp 4]
theorem zMJ {base : Nat} {av : List AV} {r : RV} (hfo : zAL zDt base av) (hW : AVs.fits av → hwp Tryz.prog zSs (zDb zDt base av zNV r) (F0 zDt base av)) (hov : ∀ x, r.res = .ov x → zCC av = 0 := by intro x h; cases h <;> rfl) : Contract Tryz.prog zC6 av r :=
 contract_of_wp (fn := Tryz.f166) (c := Tryz.f166.body.getD .skip) (by kernel_rfl) (by kernel_rfl) (by kernel_rfl) (by kernel_rfl) (by kernel_rfl) (by kernel_rfl) (by kernel_rfl) hfo hW hov
abbrev zET : HCode := .reg [⟨none, .alloc 4 0 33 [.v (.int .i64 0), .v (.int .i64 0), .v (.int .i64 0)]⟩] false []
abbrev zEU : HCode := .reg [⟨none, .val 7 (.mv (.t 0))⟩,
  ⟨none, .val 8 (.len false (.t 7))⟩,
  ⟨none, .val 9 (.ints .lss (.t 8) (.c (iv 1)))⟩] false [.forget [7, 8]]
abbrev zEV : HCode := .reg [⟨none, .val 10 (.mki zEN (.c (sv [115, 108, 105, 99, 101, 115, 46, 77, 97, 120, 70, 117, 110, 99, 58, 32, 101, 109, 112, 116, 121, 32, 108, 105, 115, 116])))⟩,
  ⟨none, .pan (.t 10)⟩] false [.forget [10]]
abbrev zEW : HCode := .reg [⟨none, .val 11 (.mv (.t 0))⟩,
  ⟨none, .val 12 (.idxA 3 (.t 11) (.c (iv 0)))⟩,
  ⟨none, .val 13 (.ldR (.t 12) 3 true)⟩,
  ⟨none, .alloc 5 1 36 [.v (.int .i64 0), .v (.int .i64 0), .v (.int .i64 0)]⟩,
  ⟨none, .sto (.t 5) 1 36 0 3 (.t 13)⟩] false [.forget [11, 12, 13]]
abbrev zEX : HCode := .reg [⟨none, .val 6 (.mv (.c (iv 1)))⟩] false []
abbrev zEY : HCode := .reg [⟨none, .val 14 (.mv (.t 6))⟩,
  ⟨none, .val 15 (.mv (.t 0))⟩,
  ⟨none, .val 16 (.len false (.t 15))⟩,
  ⟨none, .val 17 (.ints .lss (.t 14) (.t 16))⟩] false [.forget [14, 15, 16]]
abbrev zEZ : HCode := .drg [⟨0, false, ⟨none, .val 20 (.mv (.t 1))⟩⟩,
  ⟨1, false, ⟨none, .val 21 (.mv (.t 0))⟩⟩,
  ⟨2, false, ⟨none, .val 22 (.mv (.t 6))⟩⟩,
  ⟨3, false, ⟨none, .val 23 (.idxA 3 (.t 21) (.t 22))⟩⟩,
  ⟨4, false, ⟨none, .val 24 (.ldR (.t 23) 3 true)⟩⟩,
  ⟨5, false, ⟨none, .val 25 (.ldB (.t 5) 1 36 0 3 true)⟩⟩,
  ⟨6, true, ⟨none, .callv (some 26) (.t 20) [(.t 24, .v), (.t 25, .v)]⟩⟩,
  ⟨7, false, ⟨none, .val 27 (.ints .gtr (.t 26) (.c (iv 0)))⟩⟩] [.forget [20, 21, 22, 23, 24, 25, 26]]
abbrev zE0 : HCode := .reg [⟨none, .val 28 (.mv (.t 0))⟩,
  ⟨none, .val 29 (.mv (.t 6))⟩,
  ⟨none, .val 30 (.idxA 3 (.t 28) (.t 29))⟩,
  ⟨none, .val 31 (.ldR (.t 30) 3 true)⟩,
  ⟨none, .sto (.t 5) 1 36 0 3 (.t 31)⟩] false [.forget [28, 29, 30, 31]]
abbrev zE1 : HCode := .reg [⟨none, .val 18 (.mv (.t 6))⟩,
  ⟨none, .val 19 (.ints .add (.t 18) (.c (iv 1)))⟩,
  ⟨none, .val 6 (.mv (.t 19))⟩] false [.forget [18, 19]]
abbrev zE2 : HCode := .reg [⟨none, .val 32 (.ldB (.t 5) 1 36 0 3 true)⟩,
  ⟨none, .sto (.t 4) 0 33 0 3 (.t 32)⟩] false [.forget [32]]
abbrev zFV : HCode := (.seq zET (.seq (.seq zEU (.cond (.t 9) zEV .skip)) (.seq zEW (.seq (.seq zEX (.block 0 (.loop (.seq (.seq zEY (.cond (.t 17) .skip (.exit 0))) (.seq (.block 1 (.seq zEZ (.cond (.t 27) zE0 .skip))) zE1))))) (.seq zE2 .ret)))))
abbrev zBe : Env := { N := 33, Γ := [(33, 3), (36, 3)], L := 39, nfix := 0 }
abbrev zFx : List RSrc := [.cellB 4 0 33 0 3 true]
theorem zE3 {base : Nat} {av : List AV} {r : RV} (hfo : zAL zBe base av) (hW : AVs.fits av → hwp Tryz.prog zFV (zDb zBe base av zFx r) (F0 zBe base av)) (hov : ∀ x, r.res = .ov x → zCC av = 0 := by intro x h; cases h <;> rfl) : Contract Tryz.prog zBG av r :=
 contract_of_wp (fn := Tryz.f165) (c := Tryz.f165.body.getD .skip) (by kernel_rfl) (by kernel_rfl) (by kernel_rfl) (by kernel_rfl) (by kernel_rfl) (by kernel_rfl) (by kernel_rfl) hfo hW hov
abbrev zQq : HCode := .reg [⟨none, .val 2 (.mv (.c (iv 0)))⟩] false []
abbrev zQr : HCode := .reg [⟨none, .val 3 (.mv (.c (iv 0)))⟩] false []
abbrev zQs : HCode := .reg [⟨none, .val 6 (.mv (.t 0))⟩,
  ⟨none, .val 7 (.len false (.t 6))⟩,
  ⟨none, .val 8 (.mv (.c (iv 0)))⟩] false []
abbrev zQt : HCode := .reg [⟨none, .val 9 (.ints .lss (.t 8) (.t 7))⟩] false []
abbrev zQu : HCode := .reg [⟨none, .val 10 (.idxA 1 (.t 6) (.t 8))⟩,
  ⟨none, .val 11 (.ldR (.t 10) 1 false)⟩,
  ⟨none, .val 5 (.mv (.t 11))⟩] false [.forget [10, 11]]
abbrev zQv : HCode := .reg [⟨none, .val 12 (.mv (.t 5))⟩,
  ⟨none, .val 13 (.mv (.t 3))⟩,
  ⟨none, .val 14 (.ints .neq (.t 12) (.t 13))⟩] false [.forget [12, 13]]
abbrev zQw : HCode := .reg [⟨none, .val 15 (.mv (.t 5))⟩,
  ⟨none, .val 2 (.mv (.t 15))⟩] false [.forget [15]]
abbrev zQx : HCode := .reg [⟨none, .val 16 (.ints .add (.t 8) (.c (iv 1)))⟩,
  ⟨none, .val 8 (.mv (.t 16))⟩] false [.forget [16]]
abbrev zQy : HCode := .reg [⟨none, .val 17 (.mv (.t 3))⟩,
  ⟨none, .val 2 (.mv (.t 17))⟩] false [.forget [17]]
abbrev zV1 : HCode := (.seq zQq (.seq zQr (.seq (.seq zQs (.block 0 (.loop (.seq zQt (.seq (.cond (.t 9) .skip (.exit 0)) (.seq (.block 1 (.seq zQu (.seq zQv (.cond (.t 14) (.seq zQw .ret) .skip)))) zQx)))))) (.seq zQy .ret))))
abbrev zEx : Env := { N := 18, Γ := [], L := 18, nfix := 0 }
abbrev zSt : List RSrc := [.tmp 2]
theorem zQz {base : Nat} {av : List AV} {r : RV} (hfo : zAL zEx base av) (hW : AVs.fits av → hwp Tryz.prog zV1 (zDb zEx base av zSt r) (F0 zEx base av)) (hov : ∀ x, r.res = .ov x → zCC av = 0 := by intro x h; cases h <;> rfl) : Contract Tryz.prog zFv av r :=
 contract_of_wp (fn := Tryz.f148) (c := Tryz.f148.body.getD .skip) (by kernel_rfl) (by kernel_rfl) (by kernel_rfl) (by kernel_rfl) (by kernel_rfl) (by kernel_rfl) (by kernel_rfl) hfo hW hov
abbrev zHu : HCode := .reg [⟨none, .val 4 (.mv (.c (iv 0)))⟩] false []
abbrev zHv : HCode := .reg [⟨none, .val 7 (.mv (.t 0))⟩,
  ⟨none, .call (some 8) zCy [(.t 7, .v)]⟩,
  ⟨none, .val 5 (.mv (.t 8))⟩] false [.forget [7, 8]]
abbrev zHw : HCode := .reg [⟨none, .val 9 (.mv (.t 1))⟩,
  ⟨none, .call (some 10) zCy [(.t 9, .v)]⟩,
  ⟨none, .val 6 (.mv (.t 10))⟩] false [.forget [9, 10]]
abbrev zHx : HCode := .reg [⟨none, .val 11 (.mv (.t 5))⟩] false []
abbrev zHy : HCode := .reg [⟨none, .val 12 (.mv (.t 6))⟩] false []
abbrev zHz : HCode := .reg [⟨none, .val 4 (.mv (.c (iv 0)))⟩] false []
abbrev zHA : HCode := .reg [⟨none, .val 4 (.mv (.c (iv (-1))))⟩] false []
abbrev zHB : HCode := .reg [⟨none, .val 13 (.mv (.t 6))⟩] false []
abbrev zHC : HCode := .reg [⟨none, .val 4 (.mv (.c (iv 1)))⟩] false []
abbrev zHD : HCode := .reg [⟨none, .val 14 (.mv (.t 0))⟩,
  ⟨none, .val 15 (.mv (.t 1))⟩,
  ⟨none, .val 16 (.ints .lss (.t 14) (.t 15))⟩] false [.forget [14, 15]]
abbrev zGF : HCode := .reg [⟨none, .val 4 (.mv (.c (iv (-1))))⟩] false []
abbrev zGG : HCode := .reg [⟨none, .val 17 (.mv (.t 0))⟩,
  ⟨none, .val 18 (.mv (.t 1))⟩,
  ⟨none, .val 19 (.ints .gtr (.t 17) (.t 18))⟩] false [.forget [17, 18]]
abbrev zGH : HCode := .reg [⟨none, .val 4 (.mv (.c (iv 1)))⟩] false []
abbrev zGI : HCode := .reg [⟨none, .val 4 (.mv (.c (iv 0)))⟩] false []
abbrev zMK : HCode := (.seq zHu (.seq zHv (.seq zHw (.seq (.seq zHx (.cond (.t 11) (.seq (.seq zHy (.cond (.t 12) (.seq zHz .ret) .skip)) (.seq zHA .ret)) .skip)) (.seq (.seq zHB (.cond (.t 13) (.seq zHC .ret) .skip)) (.seq (.seq zHD (.cond (.t 16) (.seq zGF .ret) .skip)) (.seq (.seq zGG (.cond (.t 19) (.seq zGH .ret) .skip)) (.seq zGI .ret))))))))
abbrev zCg : Env := { N := 20, Γ := [], L := 20, nfix := 0 }
abbrev zIK : List RSrc := [.tmp 4]
theorem zHE {base : Nat} {av : List AV} {r : RV} (hfo : zAL zCg base av) (hW : AVs.fits av → hwp Tryz.prog zMK (zDb zCg base av zIK r) (F0 zCg base av)) (hov : ∀ x, r.res = .ov x → zCC av = 0 := by intro x h; cases h <;> rfl) : Contract Tryz.prog zBv av r :=
 contract_of_wp (fn := Tryz.f149) (c := Tryz.f149.body.getD .skip) (by kernel_rfl) (by kernel_rfl) (by kernel_rfl) (by kernel_rfl) (by kernel_rfl) (by kernel_rfl) (by kernel_rfl) hfo hW hov
abbrev zKU : HCode := .reg [⟨none, .val 2 (.mv (.c (bv false)))⟩] false []
abbrev zKV : HCode := .reg [⟨none, .val 3 (.mv (.t 0))⟩,
  ⟨none, .val 4 (.mv (.t 0))⟩,
  ⟨none, .val 5 (.ints .neq (.t 3) (.t 4))⟩,
  ⟨none, .val 2 (.mv (.t 5))⟩] false [.forget [3, 4, 5]]
abbrev zQA : HCode := (.seq zKU (.seq zKV .ret))
abbrev zC7 : Env := { N := 6, Γ := [], L := 6, nfix := 0 }
abbrev zML : List RSrc := [.tmp 2]
theorem zKW {base : Nat} {av : List AV} {r : RV} (hfo : zAL zC7 base av) (hW : AVs.fits av → hwp Tryz.prog zQA (zDb zC7 base av zML r) (F0 zC7 base av)) (hov : ∀ x, r.res = .ov x → zCC av = 0 := by intro x h; cases h <;> rfl) : Contract Tryz.prog zCy av r :=
 contract_of_wp (fn := Tryz.f205) (c := Tryz.f205.body.getD .skip) (by kernel_rfl) (by kernel_rfl) (by kernel_rfl) (by kernel_rfl) (by kernel_rfl) (by kernel_rfl) (by kernel_rfl) hfo hW hov
end Go.Hx
end
