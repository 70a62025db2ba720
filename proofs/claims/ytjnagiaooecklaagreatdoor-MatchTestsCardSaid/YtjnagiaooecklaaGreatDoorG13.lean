/-
  Walks of functions of the program over an abstract layer, and the laws that they use: each contract says what the function computes, for every input that its conditions let by. No other condition.
-/
import Derived.Test.YtjnagiaooecklaaGreatDoorG12
import Derived.Test.YtjnagiaooecklaaGreatDoorG11
import Derived.Test.YtjnagiaooecklaaGreatDoorProg
import Derived.Test.YtjnagiaooecklaaGreatDoorG8
import Derived.Test.YtjnagiaooecklaaGreatDoorG10
set_option linter.all false
section
set_option maxRecDepth 100000
set_option linter.unusedSimpArgs false
namespace Go.Hx
open Go.Proofs
variable [Glob]
attribute [local go_sem] zAz zAA zAy zAt ndV zAw zAp fdV zAU zBl zBz zBy
attribute [local go_sem] reduceCtorEq Nat.reduceAdd Nat.reduceEqDiff reduceIte Nat.reduceLeDiff Nat.reduceLT Nat.reduceSub
theorem zBV {α : Type} {d : α} {l : List α} {i : Nat} (h : i < l.length) : l.drop i = l.getD i d :: l.drop (i + 1) := by
 rw [List.drop_eq_getElem_cons h]
 simp [h]
def yJ9 (P : Program) (N : Nat) : Prop :=
 (∀ (l : List Pt) (d K : Nat) (c : Fd), SizeOf.sizeOf l ≤ N → d ≤ 4 → c.le K → K + bd d ≤ 1000000000 → Contract P zBE [.io (fdV c), .val (zAU l), .val (iv d)] { res := .tup [], io := fdV (c.add (ntL l d)) }) ∧
 (∀ (s : St) (d K : Nat) (c : Fd), SizeOf.sizeOf s ≤ N → d ≤ 3 → c.le K → K + bdS d ≤ 1000000000 → Contract P zCK [.io (fdV c), .val (.agg (stV s)), .val (iv d)] { res := .tup [], io := fdV (c.add (ntS s d)) })
theorem yDR (N : Nat) (ih : yJ9 Tryz.prog N) (l : List Pt) (d K : Nat) (c : Fd) (hN : SizeOf.sizeOf l ≤ N + 1) (hd : d ≤ 4) (hc : c.le K) (hK : K + bd d ≤ 1000000000) : Contract Tryz.prog zBE [.io (fdV c), .val (zAU l), .val (iv d)] { res := .tup [], io := fdV (c.add (ntL l d)) } := by
 unfold fdV zAU
 refine zMh (base := 83) ⟨Nat.le_of_ble_eq_true rfl, Nat.le_of_ble_eq_true rfl, Nat.le_of_ble_eq_true rfl, ⟨rfl, rfl⟩⟩ (fun hfit => ?_)
 unfold F0 zC4
 simp (maxSteps := 2000000) only [zAE, List.set_cons_succ, List.set_cons_zero, List.map_cons, List.map_nil, zAD, zAb, ioOf, List.length_cons, List.length_nil, Nat.reduceAdd, Nat.reduceSub, List.replicate, List.cons_append, List.nil_append]
 try simp (maxSteps := 2000000) only [go_sem]
 repeat with_reducible refine zAd ?_
 have hlb : (bif bif decide (3 < (d : Int)) then true else decide ((l.length : Int) < 1) then true else decide (5 < (l.length : Int))) = zHB l d := by
  have e1 : decide (3 < (d : Int)) = decide (3 < d) := decide_eq_decide.2 (by omega)
  have e2 : decide ((l.length : Int) < 1) = decide (l.length < 1) := decide_eq_decide.2 (by omega)
  have e3 : decide (5 < (l.length : Int)) = decide (5 < l.length) := decide_eq_decide.2 (by omega)
  unfold zHB
  rw [e1, e2, e3]
  cases decide (3 < d) <;> cases decide (l.length < 1) <;> rfl
 refine zAc (by rfl) trivial (fun h => ?_) (fun h => ?_)
 ·rw [hlb] at h
  have e : ntL l d = fM true := by unfold ntL; rw [if_pos h]
  try simp (maxSteps := 2000000) only [go_sem]
  repeat with_reducible refine zAd ?_
  have hb1 := zTV (4 - d)
  have hb2 : bd d = bdF (4 - d) := rfl
  have hm := hc.m
  refine zDY (by repeat' constructor) (zVv c true (by omega)) ?_
  try simp (maxSteps := 2000000) only [go_sem]
  repeat with_reducible refine zAd ?_
  rw [e]
  exact zTT rfl rfl
 ·rw [hlb] at h
  have e : ntL l d = zYZ l d := by unfold ntL; rw [if_neg (by rw [h]; simp)]
  rw [e]
  have hd3 : d ≤ 3 ∧ l.length ≤ 5 := by
   simp only [zHB, Bool.or_eq_false_iff, decide_eq_false_iff_not] at h
   omega
  have hbd := yGY hd3.1
  try simp (maxSteps := 2000000) only [go_sem]
  repeat with_reducible refine zAd ?_
  have hK0 : K + (1 + (l.length - 0) * bdP d) ≤ 1000000000 := by
   have : (l.length - 0) * bdP d ≤ 5 * bdP d := Nat.mul_le_mul_right _ (by omega)
   omega
  refine zAn (fun x : Nat × Fd => [(7, .un), (9, .un), (11, .un), (28, .pv (iv x.1)), (29, .un), (51, .un), (55, .un), (56, .un), (57, .un), (58, .un), (71, .un), (72, .un), (73, .un), (74, .un), (84, .pv (.one (bI x.2.f))), (85, .pv (.one (bI x.2.m))), (86, .pv (.one (bI x.2.r))), (87, .pv (.one (bI x.2.k))), (90, .un), (91, .un)]) (fun x : Nat × Fd => l.length - x.1) (fun x : Nat × Fd => x.1 ≤ l.length ∧ (∃ K', x.2.le K' ∧ K' + (1 + (l.length - x.1) * bdP d) ≤ 1000000000) ∧ x.2.add (zYZ (l.drop x.1) d) = c.add (zYZ l d)) ((0, c)) ?_ ⟨Nat.zero_le _, ⟨K, hc, hK0⟩, by simp⟩ ?_
  focus (simp (maxSteps := 2000000) only [go_sem, zAf, zAk, zAu, zAg]; all_goals (repeat' (first | exact trivial | exact zAl (by omega) | exact zAh rfl | exact zAs rfl | exact zAm | exact le_refl _ | refine And.intro ?_ ?_)))
  rintro ⟨i, a⟩ ⟨hi, ⟨K', ha, hK'⟩, hsum⟩
  simp only at hi ha hK' hsum
  try simp (maxSteps := 2000000) only [go_sem]
  repeat with_reducible refine zAd ?_
  have hbx : bd d ≤ 1000000000 := by omega
  refine zAc (by rfl) trivial (fun h2 => ?_) (fun h2 => ?_)
  ·have hil : i < l.length := by simp at h2; omega
   rw [zBV (d := default) hil] at hsum
   obtain ⟨p, hp⟩ : ∃ p, p = l.getD i default := ⟨_, rfl⟩
   rw [← hp] at hsum
   have hg : (zLQ l).getD i [] = [.sl 2 (zLP p.steps), .sl 1 (zB0 p.links)] := by rw [zFA l i hil, ← hp, zEw]
   have hsz : SizeOf.sizeOf p.steps ≤ N := by
    have h3 := zKC p
    have h4 := yDq hil
    rw [← hp] at h4
    omega
   have hmul : (l.length - i) * bdP d = bdP d + (l.length - (i + 1)) * bdP d := by
    have : l.length - i = (l.length - (i + 1)) + 1 := by omega
    rw [this, Nat.add_mul]; omega
   have hbp : bdP d = 4 + 5 * bdS d := rfl
   have hin : (bif decide ((p.steps.length : Int) < 1) then true else decide (5 < (p.steps.length : Int))) = false → inR .i64 ((p.steps.length : Int) - 1) := by
    intro h5
    have : ¬ 5 < (p.steps.length : Int) := by
     intro h6
     rw [decide_eq_true h6] at h5
     cases hq : decide ((p.steps.length : Int) < 1) <;> rw [hq] at h5 <;> cases h5
    exact zKA (by omega) (by omega)
   try simp (maxSteps := 2000000) only [go_sem, hg]
   repeat with_reducible refine zAd ?_
   have hpb : (bif bif decide ((p.steps.length : Int) < 1) then true else decide (5 < (p.steps.length : Int)) then true else (p.links.length : Int) != (p.steps.length : Int) - 1) = zZl p := by
    have e2 : decide ((p.steps.length : Int) < 1) = decide (p.steps.length < 1) := decide_eq_decide.2 (by omega)
    have e3 : decide (5 < (p.steps.length : Int)) = decide (5 < p.steps.length) := decide_eq_decide.2 (by omega)
    have e4 : ((p.links.length : Int) != (p.steps.length : Int) - 1) = decide ((p.links.length : Int) ≠ p.steps.length - 1) := by
     by_cases h5 : (p.links.length : Int) = (p.steps.length : Int) - 1 <;> simp [h5]
    unfold zZl
    rw [e2, e3, e4]
    cases decide (p.steps.length < 1) <;> cases decide (5 < p.steps.length) <;> rfl
   simp only [zYZ] at hsum
   refine zAc (by rfl) trivial (fun h3 => ?_) (fun h3 => ?_)
   ·rw [hpb] at h3
    rw [if_pos h3] at hsum
    rw [← hsum]
    try simp (maxSteps := 2000000) only [go_sem]
    repeat with_reducible refine zAd ?_
    have hm := ha.m
    refine zDY (by repeat' constructor) (zVv a true (by omega)) ?_
    try simp (maxSteps := 2000000) only [go_sem]
    repeat with_reducible refine zAd ?_
    exact zTT rfl rfl
   ·rw [hpb] at h3
    rw [if_neg (by rw [h3]; simp)] at hsum
    have hpl : p.steps.length ≤ 5 ∧ (p.links.length : Int) = p.steps.length - 1 := by
     simp only [zZl, Bool.or_eq_false_iff, decide_eq_false_iff_not] at h3
     omega
    have hK1 : K' + (p.links.length - 0) ≤ K' + 4 := by omega
    try simp (maxSteps := 2000000) only [go_sem]
    repeat with_reducible refine zAd ?_
    refine zAn (fun x : Nat × Fd => [(9, .un), (57, .pv (iv x.1)), (58, .un), (67, .un), (84, .pv (.one (bI x.2.f))), (85, .pv (.one (bI x.2.m))), (86, .pv (.one (bI x.2.r))), (87, .pv (.one (bI x.2.k)))]) (fun x : Nat × Fd => p.links.length - x.1) (fun x : Nat × Fd => x.1 ≤ p.links.length ∧ (∃ K2, x.2.le K2 ∧ K2 + (p.links.length - x.1) ≤ K' + 4) ∧ x.2.add (yBh (p.links.drop x.1)) = a.add (yBh p.links)) ((0, a)) ?_ ⟨Nat.zero_le _, ⟨K', ha, hK1⟩, by simp⟩ ?_
    focus (simp (maxSteps := 2000000) only [go_sem, zAf, zAk, zAu, zAg]; all_goals (repeat' (first | exact trivial | exact zAl (by omega) | exact zAh rfl | exact zAs rfl | exact zAm | exact le_refl _ | refine And.intro ?_ ?_)))
    rintro ⟨j, b⟩ ⟨hj, ⟨K2, hb, hK2⟩, hsb⟩
    simp only at hj hb hK2 hsb
    try simp (maxSteps := 2000000) only [go_sem]
    repeat with_reducible refine zAd ?_
    refine zAc (by rfl) trivial (fun h4 => ?_) (fun h4 => ?_)
    ·have hjl : j < p.links.length := by simp at h4; omega
     rw [zBV (d := 0) hjl] at hsb
     have hg2 := zE4 p.links j hjl
     obtain ⟨v, hv⟩ : ∃ v, v = p.links.getD j 0 := ⟨_, rfl⟩
     rw [← hv] at hg2 hsb
     have hvb : (bif decide (v < 1) then true else decide (4 < v)) = zNn v := by
      unfold zNn
      by_cases h5 : v < 1 <;> by_cases h6 : 4 < v <;> simp [h5, h6] <;> omega
     have hk := hb.k
     try simp (maxSteps := 2000000) only [go_sem, hg2]
     repeat with_reducible refine zAd ?_
     refine zDY (by repeat' constructor) (yBk b (bif decide (v < 1) then true else decide (4 < v)) (by omega)) ?_
     try simp (maxSteps := 2000000) only [go_sem, hvb]
     repeat with_reducible refine zAd ?_
     refine ⟨(j + 1, b.add (fK (zNn v))), by simp only; omega, ⟨by simp only; omega, ⟨K2 + 1, hb.le_add (yGZ _), by simp only; omega⟩, ?_⟩, ?_⟩
     ·simp only
      rw [← hsb, Fd.add_assoc]
      congr 1
      simp only [yBh, Fd.add, fK, List.countP_cons, nB]
      congr 1
      split <;> omega
     ·simp (maxSteps := 2000000) only [go_sem, zAf, zAk, zAu, zAg]
      all_goals (repeat' (first | exact trivial | exact zAl (by omega) | exact zAh rfl | exact zAs rfl | exact zAm | exact le_refl _ | refine And.intro ?_ ?_))
    ·have hjl : j = p.links.length := by simp at h4; omega
     subst hjl
     rw [List.drop_length] at hsb
     have e5 : b = a.add (yBh p.links) := by
      rw [← hsb]
      simp [yBh, Fd.add]
     have hK3 : K2 ≤ K' + 4 := by omega
     have hK4 : K2 + (p.steps.length - 0) * bdS d ≤ K' + bdP d := by
      have : (p.steps.length - 0) * bdS d ≤ 5 * bdS d := Nat.mul_le_mul_right _ (by omega)
      omega
     try simp (maxSteps := 2000000) only [go_sem]
     repeat with_reducible refine zAd ?_
     refine zAn (fun x : Nat × Fd => [(11, .un), (73, .pv (iv x.1)), (74, .un), (84, .pv (.one (bI x.2.f))), (85, .pv (.one (bI x.2.m))), (86, .pv (.one (bI x.2.r))), (87, .pv (.one (bI x.2.k))), (90, .un), (91, .un)]) (fun x : Nat × Fd => p.steps.length - x.1) (fun x : Nat × Fd => x.1 ≤ p.steps.length ∧ (∃ K3, x.2.le K3 ∧ K3 + (p.steps.length - x.1) * bdS d ≤ K' + bdP d) ∧ x.2.add (yBi (p.steps.drop x.1) d) = b.add (yBi p.steps d)) ((0, b)) ?_ ⟨Nat.zero_le _, ⟨K2, hb, hK4⟩, by simp⟩ ?_
     focus (simp (maxSteps := 2000000) only [go_sem, zAf, zAk, zAu, zAg]; all_goals (repeat' (first | exact trivial | exact zAl (by omega) | exact zAh rfl | exact zAs rfl | exact zAm | exact le_refl _ | refine And.intro ?_ ?_)))
     rintro ⟨k, e6⟩ ⟨hk, ⟨K3, he6, hK5⟩, hse⟩
     simp only at hk he6 hK5 hse
     try simp (maxSteps := 2000000) only [go_sem]
     repeat with_reducible refine zAd ?_
     refine zAc (by rfl) trivial (fun h6 => ?_) (fun h6 => ?_)
     ·have hkl : k < p.steps.length := by simp at h6; omega
      rw [zBV (d := default) hkl] at hse
      obtain ⟨q, hq⟩ : ∃ q, q = p.steps.getD k default := ⟨_, rfl⟩
      rw [← hq] at hse
      have hg3 : (zLP p.steps).getD k [] = [bS q.tag, .sl 6 (zWA q.tests)] := by rw [zEE _ k hkl, ← hq, zHd]
      have hqs : SizeOf.sizeOf q ≤ N := by
       have h7 := yDp hkl
       rw [← hq] at h7
       omega
      have hmul2 : (p.steps.length - k) * bdS d = bdS d + (p.steps.length - (k + 1)) * bdS d := by
       have : p.steps.length - k = (p.steps.length - (k + 1)) + 1 := by omega
       rw [this, Nat.add_mul]; omega
      have hst := ih.2 q d K3 e6 hqs hd3.1 he6 (by omega)
      rw [zHd] at hst
      unfold fdV at hst
      try simp (maxSteps := 2000000) only [go_sem, hg3]
      repeat with_reducible refine zAd ?_
      refine zDY (by repeat' constructor) (hst) ?_
      try simp (maxSteps := 2000000) only [go_sem]
      repeat with_reducible refine zAd ?_
      refine ⟨(k + 1, e6.add (ntS q d)), by simp only; omega, ⟨by simp only; omega, ⟨K3 + bdS d, he6.le_add (b_S q d), by simp only; omega⟩, ?_⟩, ?_⟩
      ·simp only [yBi] at hse ⊢
       rw [← hse, Fd.add_assoc]
      ·simp (maxSteps := 2000000) only [go_sem, zAf, zAk, zAu, zAg]
       all_goals (repeat' (first | exact trivial | exact zAl (by omega) | exact zAh rfl | exact zAs rfl | exact zAm | exact le_refl _ | refine And.intro ?_ ?_))
     ·have hkl : k = p.steps.length := by simp at h6; omega
      subst hkl
      rw [List.drop_length] at hse
      have e7 : e6 = b.add (yBi p.steps d) := by rw [← hse]; rfl
      try simp (maxSteps := 2000000) only [go_sem]
      repeat with_reducible refine zAd ?_
      refine ⟨(i + 1, e6), by simp only; omega, ⟨by simp only; omega, ⟨K3, he6, by simp only; omega⟩, ?_⟩, ?_⟩
      ·simp only
       rw [← hsum, e7, e5, yIL, Fd.add_assoc, Fd.add_assoc, Fd.add_assoc]
      ·simp (maxSteps := 2000000) only [go_sem, zAf, zAk, zAu, zAg]
       all_goals (repeat' (first | exact trivial | exact zAl (by omega) | exact zAh rfl | exact zAs rfl | exact zAm | exact le_refl _ | refine And.intro ?_ ?_))
  ·have hil : i = l.length := by simp at h2; omega
   subst hil
   rw [List.drop_length] at hsum
   try simp (maxSteps := 2000000) only [go_sem]
   repeat with_reducible refine zAd ?_
   rw [← hsum]
   exact zCs rfl rfl
end Go.Hx
end

section
/-
 The abstract code of functions of the program, printed by gen.py; each stands for the given one. No condition.
-/
namespace Go.Hx
open Go.Proofs
variable [Glob]
end Go.Hx
end

section
/-
 The abstract code of functions of the program, printed by gen.py; each stands for the given one. No condition.
-/
namespace Go.Hx
open Go.Proofs
variable [Glob]
abbrev zA9 : Nat := 243
abbrev zBa : Nat := 103
abbrev zHT : Nat := 12
abbrev zEs : Nat := 39
abbrev zEt : Nat := 58
abbrev zEU : Nat := 18
abbrev zFe : Nat := 51
abbrev zG4 : Nat := 123
abbrev zEe : Nat := 40
abbrev zAC : Nat := 41
abbrev zB4 : Nat := 90
abbrev zAO : Nat := 52
abbrev zBb : Nat := 91
abbrev zDd : Nat := 144
abbrev zBW : Nat := 203
abbrev zBX : Nat := 204
abbrev zEj : Nat := 205
abbrev zBr : Nat := 143
abbrev zB5 : Nat := 202
abbrev zDe : Nat := 122
abbrev zBY : Nat := 180
abbrev zJ2 : Nat := 88
abbrev zBK : Nat := 89
abbrev zBL : Nat := 201
abbrev zBm : Nat := 111
abbrev zCa : Nat := 142
abbrev zCb : Nat := 250
abbrev zCu : Nat := 157
abbrev zDf : Nat := 182
abbrev zCW : Nat := 181
abbrev zCX : Nat := 44
abbrev zEu : Nat := 183
abbrev zCe : Nat := 181
abbrev zIL : HCode := .reg [⟨none, .val 4 (.mv (.c (bv false)))⟩] false []
abbrev zIM : HCode := .reg [⟨none, .val 5 (.mv (.t 0))⟩,
  ⟨none, .val 6 (.mv (.t 1))⟩,
  ⟨none, .call (some 7) zA9 [(.t 5, .v), (.t 6, .v)]⟩,
  ⟨none, .val 4 (.mv (.t 7))⟩] false [.forget [5, 6, 7]]
abbrev zMH : HCode := (.seq zIL (.seq zIM .ret))
abbrev zCf : Env := { N := 8, Γ := [], L := 8, nfix := 0 }
abbrev zJ3 : List RSrc := [.tmp 4]
theorem zIN {base : Nat} {av : List AV} {r : RV} (hfo : zAx zCf base av) (hW : AVs.fits av → hwp Tryz.prog zMH (zBO zCf base av zJ3 r) (F0 zCf base av)) (hov : ∀ x, r.res = .ov x → zBx av = 0 := by intro x h; cases h <;> rfl) : Contract Tryz.prog zCW av r :=
 zAa (fn := Tryz.f181) (c := Tryz.f181.body.getD .skip) (by kernel_rfl) (by kernel_rfl) (by kernel_rfl) (by kernel_rfl) (by kernel_rfl) (by kernel_rfl) (by kernel_rfl) hfo hW hov
abbrev zDF : HCode := .reg [⟨none, .val 4 (.mv (.c (bv false)))⟩] false []
abbrev zDG : HCode := .reg [⟨none, .val 5 (.mv (.t 0))⟩,
  ⟨none, .val 6 (.len true (.t 5))⟩,
  ⟨none, .val 7 (.mv (.t 1))⟩,
  ⟨none, .val 8 (.len true (.t 7))⟩,
  ⟨none, .val 9 (.ints .geq (.t 6) (.t 8))⟩,
  ⟨none, .val 10 (.mv (.t 9))⟩,
  ⟨some (10, true), .val 11 (.mv (.t 0))⟩,
  ⟨some (10, true), .val 12 (.mv (.t 1))⟩,
  ⟨some (10, true), .val 13 (.len true (.t 12))⟩,
  ⟨some (10, true), .val 14 (.sls (.t 11) none (some (.t 13)))⟩,
  ⟨some (10, true), .val 15 (.mv (.t 1))⟩,
  ⟨some (10, true), .val 16 (.strs .eql (.t 14) (.t 15))⟩,
  ⟨none, .val 17 (.pick (.t 10) (.t 16) (.c (bv false)))⟩,
  ⟨none, .val 4 (.mv (.t 17))⟩] false [.forget [5, 6, 7, 8, 9, 10, 11, 12, 13, 14, 15, 16, 17]]
abbrev zEk : HCode := (.seq zDF (.seq zDG .ret))
abbrev zAV : Env := { N := 18, Γ := [], L := 18, nfix := 0 }
abbrev zDQ : List RSrc := [.tmp 4]
theorem zDH {base : Nat} {av : List AV} {r : RV} (hfo : zAx zAV base av) (hW : AVs.fits av → hwp Tryz.prog zEk (zBO zAV base av zDQ r) (F0 zAV base av)) (hov : ∀ x, r.res = .ov x → zBx av = 0 := by intro x h; cases h <;> rfl) : Contract Tryz.prog zA9 av r :=
 zAa (fn := Tryz.f243) (c := Tryz.f243.body.getD .skip) (by kernel_rfl) (by kernel_rfl) (by kernel_rfl) (by kernel_rfl) (by kernel_rfl) (by kernel_rfl) (by kernel_rfl) hfo hW hov
abbrev zIO : HCode := .reg [⟨none, .val 4 (.mv (.c (bv false)))⟩] false []
abbrev zIP : HCode := .reg [⟨none, .val 5 (.mv (.t 0))⟩,
  ⟨none, .val 6 (.mv (.t 1))⟩,
  ⟨none, .call (some 7) zBa [(.t 5, .v), (.t 6, .v)]⟩,
  ⟨none, .val 4 (.mv (.t 7))⟩] false [.forget [5, 6, 7]]
abbrev zMI : HCode := (.seq zIO (.seq zIP .ret))
abbrev zCg : Env := { N := 8, Γ := [], L := 8, nfix := 0 }
abbrev zJ4 : List RSrc := [.tmp 4]
theorem zIQ {base : Nat} {av : List AV} {r : RV} (hfo : zAx zCg base av) (hW : AVs.fits av → hwp Tryz.prog zMI (zBO zCg base av zJ4 r) (F0 zCg base av)) (hov : ∀ x, r.res = .ov x → zBx av = 0 := by intro x h; cases h <;> rfl) : Contract Tryz.prog zCX av r :=
 zAa (fn := Tryz.f44) (c := Tryz.f44.body.getD .skip) (by kernel_rfl) (by kernel_rfl) (by kernel_rfl) (by kernel_rfl) (by kernel_rfl) (by kernel_rfl) (by kernel_rfl) hfo hW hov
abbrev zDI : HCode := .reg [⟨none, .val 4 (.mv (.c (bv false)))⟩] false []
abbrev zDJ : HCode := .reg [⟨none, .val 5 (.mv (.t 0))⟩,
  ⟨none, .val 6 (.len true (.t 5))⟩,
  ⟨none, .val 7 (.mv (.t 1))⟩,
  ⟨none, .val 8 (.len true (.t 7))⟩,
  ⟨none, .val 9 (.ints .geq (.t 6) (.t 8))⟩,
  ⟨none, .val 10 (.mv (.t 9))⟩,
  ⟨some (10, true), .val 11 (.mv (.t 0))⟩,
  ⟨some (10, true), .val 12 (.mv (.t 0))⟩,
  ⟨some (10, true), .val 13 (.len true (.t 12))⟩,
  ⟨some (10, true), .val 14 (.mv (.t 1))⟩,
  ⟨some (10, true), .val 15 (.len true (.t 14))⟩,
  ⟨some (10, true), .val 16 (.ints .sub (.t 13) (.t 15))⟩,
  ⟨some (10, true), .val 17 (.sls (.t 11) (some (.t 16)) none)⟩,
  ⟨some (10, true), .val 18 (.mv (.t 1))⟩,
  ⟨some (10, true), .val 19 (.strs .eql (.t 17) (.t 18))⟩,
  ⟨none, .val 20 (.pick (.t 10) (.t 19) (.c (bv false)))⟩,
  ⟨none, .val 4 (.mv (.t 20))⟩] false [.forget [5, 6, 7, 8, 9, 10, 11, 12, 13, 14, 15, 16, 17, 18, 19, 20]]
abbrev zEl : HCode := (.seq zDI (.seq zDJ .ret))
abbrev zAW : Env := { N := 21, Γ := [], L := 21, nfix := 0 }
abbrev zDR : List RSrc := [.tmp 4]
theorem zDK {base : Nat} {av : List AV} {r : RV} (hfo : zAx zAW base av) (hW : AVs.fits av → hwp Tryz.prog zEl (zBO zAW base av zDR r) (F0 zAW base av)) (hov : ∀ x, r.res = .ov x → zBx av = 0 := by intro x h; cases h <;> rfl) : Contract Tryz.prog zBa av r :=
 zAa (fn := Tryz.f103) (c := Tryz.f103.body.getD .skip) (by kernel_rfl) (by kernel_rfl) (by kernel_rfl) (by kernel_rfl) (by kernel_rfl) (by kernel_rfl) (by kernel_rfl) hfo hW hov
abbrev zF1 : HCode := .reg [⟨none, .val 4 (.mv (.c (bv false)))⟩] false []
abbrev zF2 : HCode := .reg [⟨none, .val 5 (.mv (.t 0))⟩,
  ⟨none, .val 6 (.mv (.t 1))⟩,
  ⟨none, .call (some 7) zCu [(.t 5, .v), (.t 6, .v)]⟩,
  ⟨none, .val 8 (.ints .geq (.t 7) (.c (iv 0)))⟩,
  ⟨none, .val 4 (.mv (.t 8))⟩] false [.forget [5, 6, 7, 8]]
abbrev zHg : HCode := (.seq zF1 (.seq zF2 .ret))
abbrev zBs : Env := { N := 9, Γ := [], L := 9, nfix := 0 }
abbrev zGm : List RSrc := [.tmp 4]
theorem zF3 {base : Nat} {av : List AV} {r : RV} (hfo : zAx zBs base av) (hW : AVs.fits av → hwp Tryz.prog zHg (zBO zBs base av zGm r) (F0 zBs base av)) (hov : ∀ x, r.res = .ov x → zBx av = 0 := by intro x h; cases h <;> rfl) : Contract Tryz.prog zBm av r :=
 zAa (fn := Tryz.f111) (c := Tryz.f111.body.getD .skip) (by kernel_rfl) (by kernel_rfl) (by kernel_rfl) (by kernel_rfl) (by kernel_rfl) (by kernel_rfl) (by kernel_rfl) hfo hW hov
abbrev zHh : HCode := .reg [⟨none, .val 4 (.mv (.c (iv 0)))⟩] false []
abbrev zHi : HCode := .reg [⟨none, .val 6 (.mv (.t 0))⟩,
  ⟨none, .val 7 (.len false (.t 6))⟩,
  ⟨none, .val 8 (.mv (.c (iv 0)))⟩] false [.forget [6]]
abbrev zHj : HCode := .reg [⟨none, .val 9 (.ints .lss (.t 8) (.t 7))⟩] false []
abbrev zHk : HCode := .reg [⟨none, .val 10 (.mv (.t 8))⟩,
  ⟨none, .val 5 (.mv (.t 10))⟩] false [.forget [10]]
abbrev zHl : HCode := .reg [⟨none, .val 11 (.mv (.t 1))⟩,
  ⟨none, .val 12 (.mv (.t 0))⟩,
  ⟨none, .val 13 (.mv (.t 5))⟩,
  ⟨none, .val 14 (.idxA 1 (.t 12) (.t 13))⟩,
  ⟨none, .val 15 (.ldR (.t 14) 1 false)⟩,
  ⟨none, .val 16 (.strs .eql (.t 11) (.t 15))⟩] false [.forget [11, 12, 13, 14, 15]]
abbrev zHm : HCode := .reg [⟨none, .val 17 (.mv (.t 5))⟩,
  ⟨none, .val 4 (.mv (.t 17))⟩] false [.forget [17]]
abbrev zHn : HCode := .reg [⟨none, .val 18 (.ints .add (.t 8) (.c (iv 1)))⟩,
  ⟨none, .val 8 (.mv (.t 18))⟩] false [.forget [18]]
abbrev zHo : HCode := .reg [⟨none, .val 4 (.mv (.c (iv (-1))))⟩] false []
abbrev zJ5 : HCode := (.seq zHh (.seq (.seq zHi (.block 0 (.loop (.seq zHj (.seq (.cond (.t 9) .skip (.exit 0)) (.seq (.block 1 (.seq zHk (.seq zHl (.cond (.t 16) (.seq zHm .ret) .skip)))) zHn)))))) (.seq zHo .ret)))
abbrev zBZ : Env := { N := 19, Γ := [], L := 19, nfix := 0 }
abbrev zHU : List RSrc := [.tmp 4]
theorem zHp {base : Nat} {av : List AV} {r : RV} (hfo : zAx zBZ base av) (hW : AVs.fits av → hwp Tryz.prog zJ5 (zBO zBZ base av zHU r) (F0 zBZ base av)) (hov : ∀ x, r.res = .ov x → zBx av = 0 := by intro x h; cases h <;> rfl) : Contract Tryz.prog zCu av r :=
 zAa (fn := Tryz.f157) (c := Tryz.f157.body.getD .skip) (by kernel_rfl) (by kernel_rfl) (by kernel_rfl) (by kernel_rfl) (by kernel_rfl) (by kernel_rfl) (by kernel_rfl) hfo hW hov
abbrev zFf : HCode := .reg [⟨none, .val 4 (.mv (.c (bv false)))⟩] false []
abbrev zFg : HCode := .reg [⟨none, .val 5 (.mv (.t 0))⟩,
  ⟨none, .val 6 (.mv (.t 1))⟩,
  ⟨none, .call (some 7) zCa [(.t 5, .v), (.t 6, .v)]⟩,
  ⟨none, .val 8 (.ints .geq (.t 7) (.c (iv 0)))⟩,
  ⟨none, .val 4 (.mv (.t 8))⟩] false [.forget [5, 6, 7, 8]]
abbrev zGn : HCode := (.seq zFf (.seq zFg .ret))
abbrev zBg : Env := { N := 9, Γ := [], L := 9, nfix := 0 }
abbrev zFq : List RSrc := [.tmp 4]
theorem zFh {base : Nat} {av : List AV} {r : RV} (hfo : zAx zBg base av) (hW : AVs.fits av → hwp Tryz.prog zGn (zBO zBg base av zFq r) (F0 zBg base av)) (hov : ∀ x, r.res = .ov x → zBx av = 0 := by intro x h; cases h <;> rfl) : Contract Tryz.prog zBK av r :=
 zAa (fn := Tryz.f89) (c := Tryz.f89.body.getD .skip) (by kernel_rfl) (by kernel_rfl) (by kernel_rfl) (by kernel_rfl) (by kernel_rfl) (by kernel_rfl) (by kernel_rfl) hfo hW hov
abbrev zGo : HCode := .reg [⟨none, .val 4 (.mv (.c (iv 0)))⟩] false []
abbrev zGp : HCode := .reg [⟨none, .val 6 (.mv (.t 0))⟩,
  ⟨none, .val 7 (.len false (.t 6))⟩,
  ⟨none, .val 8 (.mv (.c (iv 0)))⟩] false [.forget [6]]
abbrev zGq : HCode := .reg [⟨none, .val 9 (.ints .lss (.t 8) (.t 7))⟩] false []
abbrev zGr : HCode := .reg [⟨none, .val 10 (.mv (.t 8))⟩,
  ⟨none, .val 5 (.mv (.t 10))⟩] false [.forget [10]]
abbrev zGs : HCode := .reg [⟨none, .val 11 (.mv (.t 1))⟩,
  ⟨none, .val 12 (.mv (.t 0))⟩,
  ⟨none, .val 13 (.mv (.t 5))⟩,
  ⟨none, .val 14 (.idxA 2 (.t 12) (.t 13))⟩,
  ⟨none, .val 15 (.ldR (.t 14) 2 true)⟩,
  ⟨none, .callv (some 16) (.t 11) [(.t 15, .v)]⟩] false [.forget [11, 12, 13, 14, 15]]
abbrev zGt : HCode := .reg [⟨none, .val 17 (.mv (.t 5))⟩,
  ⟨none, .val 4 (.mv (.t 17))⟩] false [.forget [17]]
abbrev zGu : HCode := .reg [⟨none, .val 18 (.ints .add (.t 8) (.c (iv 1)))⟩,
  ⟨none, .val 8 (.mv (.t 18))⟩] false [.forget [18]]
abbrev zGv : HCode := .reg [⟨none, .val 4 (.mv (.c (iv (-1))))⟩] false []
abbrev zHV : HCode := (.seq zGo (.seq (.seq zGp (.block 0 (.loop (.seq zGq (.seq (.cond (.t 9) .skip (.exit 0)) (.seq (.block 1 (.seq zGr (.seq zGs (.cond (.t 16) (.seq zGt .ret) .skip)))) zGu)))))) (.seq zGv .ret)))
abbrev zBB : Env := { N := 19, Γ := [], L := 19, nfix := 0 }
abbrev zG5 : List RSrc := [.tmp 4]
theorem zGw {base : Nat} {av : List AV} {r : RV} (hfo : zAx zBB base av) (hW : AVs.fits av → hwp Tryz.prog zHV (zBO zBB base av zG5 r) (F0 zBB base av)) (hov : ∀ x, r.res = .ov x → zBx av = 0 := by intro x h; cases h <;> rfl) : Contract Tryz.prog zCa av r :=
 zAa (fn := Tryz.f142) (c := Tryz.f142.body.getD .skip) (by kernel_rfl) (by kernel_rfl) (by kernel_rfl) (by kernel_rfl) (by kernel_rfl) (by kernel_rfl) (by kernel_rfl) hfo hW hov
abbrev zFi : HCode := .reg [⟨none, .val 4 (.mv (.c (bv false)))⟩] false []
abbrev zFj : HCode := .reg [⟨none, .val 5 (.mv (.t 0))⟩,
  ⟨none, .val 6 (.mv (.t 1))⟩,
  ⟨none, .call (some 7) zCb [(.t 5, .v), (.t 6, .v)]⟩,
  ⟨none, .val 8 (.ints .geq (.t 7) (.c (iv 0)))⟩,
  ⟨none, .val 4 (.mv (.t 8))⟩] false [.forget [5, 6, 7, 8]]
abbrev zGx : HCode := (.seq zFi (.seq zFj .ret))
abbrev zBh : Env := { N := 9, Γ := [], L := 9, nfix := 0 }
abbrev zFr : List RSrc := [.tmp 4]
theorem zFk {base : Nat} {av : List AV} {r : RV} (hfo : zAx zBh base av) (hW : AVs.fits av → hwp Tryz.prog zGx (zBO zBh base av zFr r) (F0 zBh base av)) (hov : ∀ x, r.res = .ov x → zBx av = 0 := by intro x h; cases h <;> rfl) : Contract Tryz.prog zBL av r :=
 zAa (fn := Tryz.f201) (c := Tryz.f201.body.getD .skip) (by kernel_rfl) (by kernel_rfl) (by kernel_rfl) (by kernel_rfl) (by kernel_rfl) (by kernel_rfl) (by kernel_rfl) hfo hW hov
abbrev zGy : HCode := .reg [⟨none, .val 4 (.mv (.c (iv 0)))⟩] false []
abbrev zGz : HCode := .reg [⟨none, .val 6 (.mv (.t 0))⟩,
  ⟨none, .val 7 (.len false (.t 6))⟩,
  ⟨none, .val 8 (.mv (.c (iv 0)))⟩] false [.forget [6]]
abbrev zGA : HCode := .reg [⟨none, .val 9 (.ints .lss (.t 8) (.t 7))⟩] false []
abbrev zGB : HCode := .reg [⟨none, .val 10 (.mv (.t 8))⟩,
  ⟨none, .val 5 (.mv (.t 10))⟩] false [.forget [10]]
abbrev zGC : HCode := .reg [⟨none, .val 11 (.mv (.t 1))⟩,
  ⟨none, .val 12 (.mv (.t 0))⟩,
  ⟨none, .val 13 (.mv (.t 5))⟩,
  ⟨none, .val 14 (.idxA 6 (.t 12) (.t 13))⟩,
  ⟨none, .val 15 (.ldR (.t 14) 6 true)⟩,
  ⟨none, .callv (some 16) (.t 11) [(.t 15, .v)]⟩] false [.forget [11, 12, 13, 14, 15]]
abbrev zGD : HCode := .reg [⟨none, .val 17 (.mv (.t 5))⟩,
  ⟨none, .val 4 (.mv (.t 17))⟩] false [.forget [17]]
abbrev zGE : HCode := .reg [⟨none, .val 18 (.ints .add (.t 8) (.c (iv 1)))⟩,
  ⟨none, .val 8 (.mv (.t 18))⟩] false [.forget [18]]
abbrev zGF : HCode := .reg [⟨none, .val 4 (.mv (.c (iv (-1))))⟩] false []
abbrev zHW : HCode := (.seq zGy (.seq (.seq zGz (.block 0 (.loop (.seq zGA (.seq (.cond (.t 9) .skip (.exit 0)) (.seq (.block 1 (.seq zGB (.seq zGC (.cond (.t 16) (.seq zGD .ret) .skip)))) zGE)))))) (.seq zGF .ret)))
abbrev zBC : Env := { N := 19, Γ := [], L := 19, nfix := 0 }
abbrev zG6 : List RSrc := [.tmp 4]
theorem zGG {base : Nat} {av : List AV} {r : RV} (hfo : zAx zBC base av) (hW : AVs.fits av → hwp Tryz.prog zHW (zBO zBC base av zG6 r) (F0 zBC base av)) (hov : ∀ x, r.res = .ov x → zBx av = 0 := by intro x h; cases h <;> rfl) : Contract Tryz.prog zCb av r :=
 zAa (fn := Tryz.f250) (c := Tryz.f250.body.getD .skip) (by kernel_rfl) (by kernel_rfl) (by kernel_rfl) (by kernel_rfl) (by kernel_rfl) (by kernel_rfl) (by kernel_rfl) hfo hW hov
abbrev yAc : HCode := .reg [⟨none, .val 1 (.boxF (.t 0))⟩,
  ⟨none, .val 2 (.mv (.c (.one (.v (.pointer none)))))⟩] false []
abbrev yAd : HCode := .drg [⟨0, false, ⟨none, .val 13 (.ldR (.t 1) 1 true)⟩⟩,
  ⟨1, false, ⟨none, .val 14 (.fldR (.t 1) 0 1)⟩⟩,
  ⟨2, false, ⟨none, .val 15 (.ldR (.t 14) 1 false)⟩⟩,
  ⟨3, false, ⟨none, .val 16 (.len false (.t 15))⟩⟩,
  ⟨4, false, ⟨none, .vmk 17 zCe 5 [.v (.int .i64 0), .v (.int .i64 0), .v (.int .i64 0), .v (.int .i64 0), .v (.int .i64 0)] (.t 16)⟩⟩,
  ⟨5, false, ⟨none, .vbe 18 [.nl 5, .nl 5] [(0, 1, .t 13)] 1 1 (.t 17)⟩⟩,
  ⟨6, false, ⟨none, .vby 19 0 162 2 18⟩⟩,
  ⟨7, false, ⟨none, .val 3 (.mv (.t 19))⟩⟩] [.forget [13, 14, 15, 16, 17, 18, 19], .pin 163 0 162 []]
abbrev yAe : HCode := .reg [⟨none, .mmk 20⟩,
  ⟨none, .val 4 (.mv (.t 20))⟩] false []
abbrev yAf : HCode := .reg [⟨none, .val 21 (.fldR (.t 1) 0 1)⟩,
  ⟨none, .val 22 (.ldR (.t 21) 1 false)⟩,
  ⟨none, .val 23 (.len false (.t 22))⟩,
  ⟨none, .val 24 (.mv (.c (iv 0)))⟩] false [.forget [21]]
abbrev yAg : HCode := .reg [⟨none, .val 25 (.ints .lss (.t 24) (.t 23))⟩] false []
abbrev yAh : HCode := .reg [⟨none, .val 26 (.mv (.t 24))⟩,
  ⟨none, .val 27 (.idxA 5 (.t 22) (.t 24))⟩,
  ⟨none, .val 28 (.ldR (.t 27) 5 true)⟩,
  ⟨none, .alloc 6 1 164 [.v (.int .i64 0), .v (mkS []), .v (mkS []), .nl 1, .nl 2]⟩,
  ⟨none, .val 5 (.mv (.t 26))⟩,
  ⟨none, .sto (.t 6) 1 164 0 5 (.t 28)⟩] false [.forget [26, 27, 28]]
abbrev yAi : HCode := .reg [⟨none, .val 29 (.mv (.t 3))⟩,
  ⟨none, .val 30 (.nilck (.t 29))⟩,
  ⟨none, .val 31 (.fldP (.t 30) 1)⟩,
  ⟨none, .val 32 (.ldh (.t 31) 0 162 1)⟩,
  ⟨none, .val 33 (.mv (.t 5))⟩,
  ⟨none, .val 34 (.idxA 5 (.t 32) (.t 33))⟩,
  ⟨none, .val 35 (.fldP (.t 34) 2)⟩,
  ⟨none, .vse (.t 35) 163 0 162 [] 1 (.c (iv (-1)))⟩] false [.forget [29, 30, 31, 32, 33, 34, 35]]
abbrev yAj : HCode := .reg [⟨none, .val 37 (.mv (.t 4))⟩,
  ⟨none, .val 38 (.fldP (.t 6) 0)⟩,
  ⟨none, .val 39 (.ldB (.t 38) 1 164 0 1 false)⟩,
  ⟨none, .mpl 40 (.t 37) 20 1 (.t 39) (.v (.int .i64 0)) true⟩,
  ⟨none, .val 36 (.mv (.t 40))⟩,
  ⟨none, .val 41 (.ext 36 0)⟩,
  ⟨none, .val 42 (.ext 36 1)⟩,
  ⟨none, .val 7 (.mv (.t 41))⟩,
  ⟨none, .val 8 (.mv (.t 42))⟩] false [.forget [36, 37, 38, 39, 40, 41, 42]]
abbrev yAk : HCode := .reg [⟨none, .val 43 (.mv (.t 8))⟩] false []
abbrev yAl : HCode := .reg [⟨none, .val 44 (.mv (.t 3))⟩,
  ⟨none, .val 45 (.nilck (.t 44))⟩,
  ⟨none, .val 46 (.fldP (.t 45) 1)⟩,
  ⟨none, .val 47 (.ldh (.t 46) 0 162 1)⟩,
  ⟨none, .val 48 (.mv (.t 5))⟩,
  ⟨none, .val 49 (.mv (.t 7))⟩,
  ⟨none, .val 50 (.idxA 5 (.t 47) (.t 48))⟩,
  ⟨none, .val 51 (.fldP (.t 50) 2)⟩,
  ⟨none, .vse (.t 51) 163 0 162 [] 1 (.t 49)⟩] false [.forget [44, 45, 46, 47, 48, 49, 50, 51]]
abbrev zX3 : HCode := .reg [⟨none, .val 52 (.mv (.t 4))⟩,
  ⟨none, .val 53 (.fldP (.t 6) 0)⟩,
  ⟨none, .val 54 (.ldB (.t 53) 1 164 0 1 false)⟩,
  ⟨none, .val 55 (.mv (.t 5))⟩,
  ⟨none, .mps (.t 52) 20 1 (.t 54) (.t 55)⟩] false [.forget [52, 53, 54, 55]]
abbrev zX4 : HCode := .reg [⟨none, .val 56 (.mv (.t 3))⟩,
  ⟨none, .val 57 (.nilck (.t 56))⟩,
  ⟨none, .val 58 (.fldP (.t 57) 1)⟩,
  ⟨none, .val 59 (.ldh (.t 58) 0 162 1)⟩,
  ⟨none, .val 60 (.mv (.t 5))⟩,
  ⟨none, .val 61 (.idxA 5 (.t 59) (.t 60))⟩,
  ⟨none, .val 62 (.fldP (.t 61) 0)⟩,
  ⟨none, .vse (.t 62) 163 0 162 [] 1 (.c (iv 1))⟩] false [.forget [56, 57, 58, 59, 60, 61, 62]]
abbrev zX5 : HCode := .reg [⟨none, .val 63 (.mv (.t 3))⟩,
  ⟨none, .val 64 (.nilck (.t 63))⟩,
  ⟨none, .val 65 (.fldP (.t 64) 1)⟩,
  ⟨none, .val 66 (.ldh (.t 65) 0 162 1)⟩,
  ⟨none, .val 67 (.mv (.t 5))⟩,
  ⟨none, .val 68 (.idxA 5 (.t 66) (.t 67))⟩,
  ⟨none, .val 69 (.fldP (.t 68) 2)⟩,
  ⟨none, .vlp 70 (.t 69) 163 0 162 [] 1 false⟩,
  ⟨none, .val 9 (.mv (.t 70))⟩] false [.forget [63, 64, 65, 66, 67, 68, 69, 70]]
abbrev zX6 : HCode := .reg [⟨none, .val 71 (.mv (.t 9))⟩,
  ⟨none, .val 72 (.ints .geq (.t 71) (.c (iv 0)))⟩] false [.forget [71]]
abbrev zX7 : HCode := .drg [⟨0, false, ⟨none, .val 73 (.mv (.t 3))⟩⟩,
  ⟨1, false, ⟨none, .val 74 (.nilck (.t 73))⟩⟩,
  ⟨2, false, ⟨none, .val 75 (.fldP (.t 74) 1)⟩⟩,
  ⟨3, false, ⟨none, .val 76 (.ldh (.t 75) 0 162 1)⟩⟩,
  ⟨4, false, ⟨none, .val 77 (.mv (.t 5))⟩⟩,
  ⟨5, false, ⟨none, .val 78 (.mv (.t 3))⟩⟩,
  ⟨6, false, ⟨none, .val 79 (.nilck (.t 78))⟩⟩,
  ⟨7, false, ⟨none, .val 80 (.fldP (.t 79) 1)⟩⟩,
  ⟨8, false, ⟨none, .val 81 (.ldh (.t 80) 0 162 1)⟩⟩,
  ⟨9, false, ⟨none, .val 82 (.mv (.t 9))⟩⟩,
  ⟨10, false, ⟨none, .val 83 (.idxA 5 (.t 81) (.t 82))⟩⟩,
  ⟨11, false, ⟨none, .val 84 (.fldP (.t 83) 0)⟩⟩,
  ⟨12, false, ⟨none, .vlp 85 (.t 84) 163 0 162 [] 1 false⟩⟩,
  ⟨13, false, ⟨none, .val 86 (.ints .add (.t 85) (.c (iv 1)))⟩⟩,
  ⟨14, false, ⟨none, .val 87 (.idxA 5 (.t 76) (.t 77))⟩⟩,
  ⟨15, false, ⟨none, .val 88 (.fldP (.t 87) 0)⟩⟩,
  ⟨16, false, ⟨none, .vse (.t 88) 163 0 162 [] 1 (.t 86)⟩⟩] [.forget [73, 74, 75, 76, 77, 78, 79, 80, 81, 82, 83, 84, 85, 86, 87, 88]]
abbrev zX8 : HCode := .reg [⟨none, .val 89 (.fldP (.t 6) 0)⟩,
  ⟨none, .val 90 (.ldB (.t 89) 1 164 0 1 false)⟩,
  ⟨none, .val 91 (.ints .geq (.t 90) (.c (iv 0)))⟩] false [.forget [89, 90]]
abbrev zX9 : HCode := .drg [⟨0, false, ⟨none, .val 92 (.mv (.t 3))⟩⟩,
  ⟨1, false, ⟨none, .val 93 (.nilck (.t 92))⟩⟩,
  ⟨2, false, ⟨none, .val 94 (.fldP (.t 93) 1)⟩⟩,
  ⟨3, false, ⟨none, .val 95 (.ldh (.t 94) 0 162 1)⟩⟩,
  ⟨4, false, ⟨none, .val 96 (.fldP (.t 6) 0)⟩⟩,
  ⟨5, false, ⟨none, .val 97 (.ldB (.t 96) 1 164 0 1 false)⟩⟩,
  ⟨6, false, ⟨none, .val 98 (.idxA 5 (.t 95) (.t 97))⟩⟩,
  ⟨7, false, ⟨none, .val 99 (.fldP (.t 98) 4)⟩⟩,
  ⟨8, false, ⟨none, .vlp 100 (.t 99) 163 0 162 [] 1 false⟩⟩,
  ⟨9, false, ⟨none, .val 101 (.ints .add (.t 100) (.c (iv 1)))⟩⟩,
  ⟨10, false, ⟨none, .val 102 (.idxA 5 (.t 95) (.t 97))⟩⟩,
  ⟨11, false, ⟨none, .val 103 (.fldP (.t 102) 4)⟩⟩,
  ⟨12, false, ⟨none, .vse (.t 103) 163 0 162 [] 1 (.t 101)⟩⟩] [.forget [92, 93, 94, 95, 96, 97, 98, 99, 100, 101, 102, 103]]
abbrev zYa : HCode := .reg [⟨none, .val 104 (.fldP (.t 6) 0)⟩,
  ⟨none, .val 105 (.ldB (.t 104) 1 164 0 1 false)⟩,
  ⟨none, .val 10 (.mv (.t 105))⟩] false [.forget [104, 105]]
abbrev zYb : HCode := .reg [⟨none, .val 106 (.mv (.t 10))⟩,
  ⟨none, .val 107 (.ints .geq (.t 106) (.c (iv 0)))⟩] false [.forget [106]]
abbrev zYc : HCode := .reg [⟨none, .val 114 (.mv (.t 3))⟩,
  ⟨none, .val 115 (.nilck (.t 114))⟩,
  ⟨none, .val 116 (.fldP (.t 115) 1)⟩,
  ⟨none, .val 117 (.ldh (.t 116) 0 162 1)⟩,
  ⟨none, .val 118 (.mv (.t 10))⟩,
  ⟨none, .val 119 (.idxA 5 (.t 117) (.t 118))⟩,
  ⟨none, .val 120 (.fldP (.t 119) 3)⟩,
  ⟨none, .vlp 121 (.t 120) 163 0 162 [] 1 false⟩,
  ⟨none, .val 122 (.ints .add (.t 121) (.c (iv 1)))⟩,
  ⟨none, .val 123 (.idxA 5 (.t 117) (.t 118))⟩,
  ⟨none, .val 124 (.fldP (.t 123) 3)⟩,
  ⟨none, .vse (.t 124) 163 0 162 [] 1 (.t 122)⟩] false [.forget [114, 115, 116, 117, 118, 119, 120, 121, 122, 123, 124]]
abbrev zYd : HCode := .reg [⟨none, .val 108 (.fldR (.t 1) 0 1)⟩,
  ⟨none, .val 109 (.ldR (.t 108) 1 false)⟩,
  ⟨none, .val 110 (.mv (.t 10))⟩,
  ⟨none, .val 111 (.idxA 5 (.t 109) (.t 110))⟩,
  ⟨none, .val 112 (.fldR (.t 111) 0 1)⟩,
  ⟨none, .val 113 (.ldR (.t 112) 1 false)⟩,
  ⟨none, .val 10 (.mv (.t 113))⟩] false [.forget [108, 109, 110, 111, 112, 113]]
abbrev zYe : HCode := .reg [⟨none, .val 125 (.ints .add (.t 24) (.c (iv 1)))⟩,
  ⟨none, .val 24 (.mv (.t 125))⟩] false [.forget [125]]
abbrev zYf : HCode := .reg [⟨none, .val 126 (.fldR (.t 1) 0 1)⟩,
  ⟨none, .val 127 (.ldR (.t 126) 1 false)⟩,
  ⟨none, .val 128 (.len false (.t 127))⟩,
  ⟨none, .val 129 (.mv (.c (iv 0)))⟩] false [.forget [126]]
abbrev zYg : HCode := .reg [⟨none, .val 130 (.ints .lss (.t 129) (.t 128))⟩] false []
abbrev zYh : HCode := .reg [⟨none, .val 131 (.mv (.t 129))⟩,
  ⟨none, .val 132 (.idxA 5 (.t 127) (.t 129))⟩,
  ⟨none, .val 133 (.ldR (.t 132) 5 true)⟩,
  ⟨none, .alloc 12 2 169 [.v (.int .i64 0), .v (mkS []), .v (mkS []), .nl 1, .nl 2]⟩,
  ⟨none, .val 11 (.mv (.t 131))⟩,
  ⟨none, .sto (.t 12) 2 169 0 5 (.t 133)⟩] false [.forget [131, 132, 133]]
abbrev zYi : HCode := .reg [⟨none, .val 134 (.mv (.t 3))⟩,
  ⟨none, .val 135 (.nilck (.t 134))⟩,
  ⟨none, .val 136 (.fldP (.t 135) 1)⟩,
  ⟨none, .val 137 (.ldh (.t 136) 0 162 1)⟩,
  ⟨none, .val 138 (.mv (.t 11))⟩,
  ⟨none, .val 139 (.idxA 5 (.t 137) (.t 138))⟩,
  ⟨none, .val 140 (.fldP (.t 139) 1)⟩,
  ⟨none, .vse (.t 140) 163 0 162 [] 1 (.c (iv 1))⟩] false [.forget [134, 135, 136, 137, 138, 139, 140]]
abbrev zYj : HCode := .reg [⟨none, .val 141 (.fldP (.t 12) 0)⟩,
  ⟨none, .val 142 (.ldB (.t 141) 2 169 0 1 false)⟩,
  ⟨none, .val 143 (.ints .geq (.t 142) (.c (iv 0)))⟩] false [.forget [141, 142]]
abbrev zYk : HCode := .drg [⟨0, false, ⟨none, .val 144 (.mv (.t 3))⟩⟩,
  ⟨1, false, ⟨none, .val 145 (.nilck (.t 144))⟩⟩,
  ⟨2, false, ⟨none, .val 146 (.fldP (.t 145) 1)⟩⟩,
  ⟨3, false, ⟨none, .val 147 (.ldh (.t 146) 0 162 1)⟩⟩,
  ⟨4, false, ⟨none, .val 148 (.mv (.t 11))⟩⟩,
  ⟨5, false, ⟨none, .val 149 (.mv (.t 3))⟩⟩,
  ⟨6, false, ⟨none, .val 150 (.nilck (.t 149))⟩⟩,
  ⟨7, false, ⟨none, .val 151 (.fldP (.t 150) 1)⟩⟩,
  ⟨8, false, ⟨none, .val 152 (.ldh (.t 151) 0 162 1)⟩⟩,
  ⟨9, false, ⟨none, .val 153 (.fldP (.t 12) 0)⟩⟩,
  ⟨10, false, ⟨none, .val 154 (.ldB (.t 153) 2 169 0 1 false)⟩⟩,
  ⟨11, false, ⟨none, .val 155 (.idxA 5 (.t 152) (.t 154))⟩⟩,
  ⟨12, false, ⟨none, .val 156 (.fldP (.t 155) 4)⟩⟩,
  ⟨13, false, ⟨none, .vlp 157 (.t 156) 163 0 162 [] 1 false⟩⟩,
  ⟨14, false, ⟨none, .val 158 (.idxA 5 (.t 147) (.t 148))⟩⟩,
  ⟨15, false, ⟨none, .val 159 (.fldP (.t 158) 1)⟩⟩,
  ⟨16, false, ⟨none, .vse (.t 159) 163 0 162 [] 1 (.t 157)⟩⟩] [.forget [144, 145, 146, 147, 148, 149, 150, 151, 152, 153, 154, 155, 156, 157, 158, 159]]
abbrev zYl : HCode := .reg [⟨none, .val 160 (.ints .add (.t 129) (.c (iv 1)))⟩,
  ⟨none, .val 129 (.mv (.t 160))⟩] false [.forget [160]]
abbrev zYm : HCode := .regG [.vfr 163 0 162, .frz 0 162 2] [⟨none, .val 161 (.mv (.t 3))⟩,
  ⟨none, .val 2 (.mv (.t 161))⟩] [.forget [161]]
abbrev yFg : HCode := (.seq yAc (.seq yAd (.seq yAe (.seq (.seq yAf (.block 0 (.loop (.seq yAg (.seq (.cond (.t 25) .skip (.exit 0)) (.seq (.block 1 (.seq yAh (.seq yAi (.seq (.seq yAj (.seq yAk (.cond (.t 43) yAl .skip))) (.seq zX3 (.seq zX4 (.seq (.seq zX5 (.seq zX6 (.cond (.t 72) zX7 .skip))) (.seq (.seq zX8 (.cond (.t 91) zX9 .skip)) (.seq zYa (.block 2 (.loop (.seq (.seq zYb (.cond (.t 107) .skip (.exit 2))) (.seq (.block 3 zYc) zYd))))))))))))) zYe)))))) (.seq (.seq zYf (.block 4 (.loop (.seq zYg (.seq (.cond (.t 130) .skip (.exit 4)) (.seq (.block 5 (.seq zYh (.seq zYi (.seq zYj (.cond (.t 143) zYk .skip))))) zYl)))))) (.seq zYm .ret))))))
abbrev zIG : Env := { N := 162, Γ := [(162, 2), (164, 5), (169, 5)], L := 174, nfix := 0, una := [162] }
abbrev yCx : List RSrc := [.tmp 2]
theorem yAm {base : Nat} {av : List AV} {r : RV} (hfo : zAx zIG base av) (hW : AVs.fits av → hwp Tryz.prog yFg (zBO zIG base av yCx r) (F0 zIG base av)) (hov : ∀ x, r.res = .ov x → zBx av = 0 := by intro x h; cases h <;> rfl) : Contract Tryz.prog zJ2 av r :=
 zAa (fn := Tryz.f88) (c := Tryz.f88.body.getD .skip) (by kernel_rfl) (by kernel_rfl) (by kernel_rfl) (by kernel_rfl) (by kernel_rfl) (by kernel_rfl) (by kernel_rfl) hfo hW hov
abbrev zJ6 : HCode := .reg [⟨none, .val 5 (.boxF (.t 2))⟩,
  ⟨none, .val 6 (.mv (.c (sv [])))⟩,
  ⟨none, .val 7 (.mv (.c (bv false)))⟩] false []
abbrev zJ7 : HCode := .reg [⟨none, .val 9 (.mv (.t 0))⟩,
  ⟨none, .val 10 (.nilck (.t 9))⟩,
  ⟨none, .val 11 (.fldR (.t 10) 0 1)⟩,
  ⟨none, .val 12 (.fldR (.t 11) 0 1)⟩,
  ⟨none, .val 13 (.ldR (.t 12) 1 false)⟩,
  ⟨none, .val 14 (.mv (.t 1))⟩,
  ⟨none, .val 15 (.idxA 5 (.t 13) (.t 14))⟩,
  ⟨none, .val 16 (.fldR (.t 15) 4 1)⟩,
  ⟨none, .val 17 (.ldR (.t 16) 1 false)⟩,
  ⟨none, .val 18 (.mkf zBY [.t 5])⟩,
  ⟨none, .call (some 19) zA3 [(.t 17, .v), (.t 18, .v)]⟩,
  ⟨none, .val 8 (.mv (.t 19))⟩] false [.forget [9, 10, 11, 12, 13, 14, 15, 16, 17, 18, 19]]
abbrev zJ8 : HCode := .reg [⟨none, .val 20 (.mv (.t 8))⟩,
  ⟨none, .val 21 (.ints .lss (.t 20) (.c (iv 0)))⟩] false [.forget [20]]
abbrev zJ9 : HCode := .reg [⟨none, .val 6 (.mv (.c (sv [])))⟩,
  ⟨none, .val 7 (.mv (.c (bv false)))⟩] false []
abbrev zKa : HCode := .reg [⟨none, .val 22 (.mv (.t 0))⟩,
  ⟨none, .val 23 (.nilck (.t 22))⟩,
  ⟨none, .val 24 (.fldR (.t 23) 0 1)⟩,
  ⟨none, .val 25 (.fldR (.t 24) 0 1)⟩,
  ⟨none, .val 26 (.ldR (.t 25) 1 false)⟩,
  ⟨none, .val 27 (.mv (.t 1))⟩,
  ⟨none, .val 28 (.idxA 5 (.t 26) (.t 27))⟩,
  ⟨none, .val 29 (.fldR (.t 28) 4 1)⟩,
  ⟨none, .val 30 (.ldR (.t 29) 1 false)⟩,
  ⟨none, .val 31 (.mv (.t 8))⟩,
  ⟨none, .val 32 (.idxA 2 (.t 30) (.t 31))⟩,
  ⟨none, .val 33 (.fldR (.t 32) 1 1)⟩,
  ⟨none, .val 34 (.ldR (.t 33) 1 false)⟩,
  ⟨none, .val 6 (.mv (.t 34))⟩,
  ⟨none, .val 7 (.mv (.c (bv true)))⟩] false [.forget [22, 23, 24, 25, 26, 27, 28, 29, 30, 31, 32, 33, 34]]
abbrev zNY : HCode := (.seq zJ6 (.seq zJ7 (.seq (.seq zJ8 (.cond (.t 21) (.seq zJ9 .ret) .skip)) (.seq zKa .ret))))
abbrev zCy : Env := { N := 35, Γ := [], L := 35, nfix := 0 }
abbrev zLm : List RSrc := [.tmp 6, .tmp 7]
theorem zKb {base : Nat} {av : List AV} {r : RV} (hfo : zAx zCy base av) (hW : AVs.fits av → hwp Tryz.prog zNY (zBO zCy base av zLm r) (F0 zCy base av)) (hov : ∀ x, r.res = .ov x → zBx av = 0 := by intro x h; cases h <;> rfl) : Contract Tryz.prog zDe av r :=
 zAa (fn := Tryz.f122) (c := Tryz.f122.body.getD .skip) (by kernel_rfl) (by kernel_rfl) (by kernel_rfl) (by kernel_rfl) (by kernel_rfl) (by kernel_rfl) (by kernel_rfl) hfo hW hov
abbrev zHX : HCode := .reg [⟨none, .val 2 (.boxF (.t 0))⟩,
  ⟨none, .val 3 (.mv (.c (bv false)))⟩] false []
abbrev zHY : HCode := .reg [⟨none, .val 4 (.fldR (.t 2) 0 1)⟩,
  ⟨none, .val 5 (.ldR (.t 4) 1 false)⟩,
  ⟨none, .val 6 (.ldR (.t 1) 1 false)⟩,
  ⟨none, .val 7 (.strs .eql (.t 5) (.t 6))⟩,
  ⟨none, .val 3 (.mv (.t 7))⟩] false [.forget [4, 5, 6, 7]]
abbrev zLn : HCode := (.seq zHX (.seq zHY .ret))
abbrev zB6 : Env := { N := 8, Γ := [], L := 8, nfix := 0 }
abbrev zIR : List RSrc := [.tmp 3]
theorem zHZ {base : Nat} {av : List AV} {r : RV} (hfo : zAx zB6 base av) (hW : AVs.fits av → hwp Tryz.prog zLn (zBO zB6 base av zIR r) (F0 zB6 base av)) (hov : ∀ x, r.res = .ov x → zBx av = 0 := by intro x h; cases h <;> rfl) : Contract Tryz.prog zBY av r :=
 zAa (fn := Tryz.f180) (c := Tryz.f180.body.getD .skip) (by kernel_rfl) (by kernel_rfl) (by kernel_rfl) (by kernel_rfl) (by kernel_rfl) (by kernel_rfl) (by kernel_rfl) hfo hW hov
abbrev zVD : HCode := .reg [⟨none, .val 2 (.boxF (.t 0))⟩,
  ⟨none, .val 4 (.mv (.c (bv false)))⟩] false []
abbrev zVE : HCode := .reg [⟨none, .val 6 (.fldR (.t 2) 2 1)⟩,
  ⟨none, .val 7 (.ldR (.t 6) 1 false)⟩,
  ⟨none, .val 5 (.mv (.t 7))⟩] false [.forget [6, 7]]
abbrev zVF : HCode := .reg [⟨none, .val 8 (.fldR (.t 2) 0 1)⟩,
  ⟨none, .val 9 (.ldR (.t 8) 1 false)⟩] false [.forget [8]]
abbrev zVG : HCode := .reg [⟨none, .val 11 (.ints .eql (.t 9) (.c (iv 4)))⟩,
  ⟨none, .val 10 (.mv (.t 11))⟩] false [.forget [11]]
abbrev zVH : HCode := .reg [⟨none, .val 12 (.mv (.t 1))⟩,
  ⟨none, .val 13 (.mv (.t 5))⟩,
  ⟨none, .val 14 (.strs .eql (.t 12) (.t 13))⟩,
  ⟨none, .val 4 (.mv (.t 14))⟩] false [.forget [12, 13, 14]]
abbrev zVI : HCode := .reg [⟨none, .val 16 (.ints .eql (.t 9) (.c (iv 5)))⟩,
  ⟨none, .val 15 (.mv (.t 16))⟩] false [.forget [16]]
abbrev zVJ : HCode := .reg [⟨none, .val 17 (.mv (.t 5))⟩,
  ⟨none, .val 18 (.strs .neq (.t 17) (.c (sv [])))⟩,
  ⟨none, .val 19 (.mv (.t 18))⟩,
  ⟨some (19, true), .val 20 (.mv (.t 1))⟩,
  ⟨some (19, true), .val 21 (.mv (.t 5))⟩,
  ⟨some (19, true), .call (some 22) zCW [(.t 20, .v), (.t 21, .v)]⟩,
  ⟨none, .val 23 (.pick (.t 19) (.t 22) (.c (bv false)))⟩,
  ⟨none, .val 4 (.mv (.t 23))⟩] false [.forget [17, 18, 19, 20, 21, 22, 23]]
abbrev zVK : HCode := .reg [⟨none, .val 25 (.ints .eql (.t 9) (.c (iv 6)))⟩,
  ⟨none, .val 24 (.mv (.t 25))⟩] false [.forget [25]]
abbrev zVL : HCode := .reg [⟨none, .val 26 (.mv (.t 5))⟩,
  ⟨none, .val 27 (.strs .neq (.t 26) (.c (sv [])))⟩,
  ⟨none, .val 28 (.mv (.t 27))⟩,
  ⟨some (28, true), .val 29 (.mv (.t 1))⟩,
  ⟨some (28, true), .val 30 (.mv (.t 5))⟩,
  ⟨some (28, true), .call (some 31) zCX [(.t 29, .v), (.t 30, .v)]⟩,
  ⟨none, .val 32 (.pick (.t 28) (.t 31) (.c (bv false)))⟩,
  ⟨none, .val 4 (.mv (.t 32))⟩] false [.forget [26, 27, 28, 29, 30, 31, 32]]
abbrev zVM : HCode := .reg [⟨none, .val 34 (.ints .eql (.t 9) (.c (iv 7)))⟩,
  ⟨none, .val 33 (.mv (.t 34))⟩] false [.forget [34]]
abbrev zSE : HCode := .reg [⟨none, .val 35 (.mv (.t 5))⟩,
  ⟨none, .val 36 (.strs .neq (.t 35) (.c (sv [])))⟩,
  ⟨none, .val 37 (.mv (.t 36))⟩,
  ⟨some (37, true), .val 38 (.mv (.t 1))⟩,
  ⟨some (37, true), .val 39 (.mv (.t 5))⟩,
  ⟨some (37, true), .call (some 40) zDf [(.t 38, .v), (.t 39, .v)]⟩,
  ⟨none, .val 41 (.pick (.t 37) (.t 40) (.c (bv false)))⟩,
  ⟨none, .val 4 (.mv (.t 41))⟩] false [.forget [35, 36, 37, 38, 39, 40, 41]]
abbrev zSF : HCode := .reg [⟨none, .val 43 (.ints .eql (.t 9) (.c (iv 8)))⟩,
  ⟨none, .val 42 (.mv (.t 43))⟩] false [.forget [43]]
abbrev zSG : HCode := .reg [⟨none, .val 44 (.mv (.t 5))⟩,
  ⟨none, .val 45 (.strs .neq (.t 44) (.c (sv [])))⟩,
  ⟨none, .val 46 (.mv (.t 45))⟩,
  ⟨some (46, true), .val 47 (.mv (.t 1))⟩,
  ⟨some (46, true), .call (some 48) zEu [(.t 47, .v), (.c (sv [32]), .v)]⟩,
  ⟨some (46, true), .val 49 (.mv (.t 5))⟩,
  ⟨some (46, true), .call (some 50) zBm [(.t 48, .v), (.t 49, .v)]⟩,
  ⟨none, .val 51 (.pick (.t 46) (.t 50) (.c (bv false)))⟩,
  ⟨none, .val 4 (.mv (.t 51))⟩] false [.forget [44, 45, 46, 47, 48, 49, 50, 51]]
abbrev zSH : HCode := .reg [⟨none, .val 4 (.mv (.c (bv true)))⟩] false []
abbrev yCy : HCode := (.seq zVD (.seq zVE (.seq (.seq zVF (.block 0 (.seq zVG (.cond (.t 10) (.seq zVH .ret) (.seq zVI (.cond (.t 15) (.seq zVJ .ret) (.seq zVK (.cond (.t 24) (.seq zVL .ret) (.seq zVM (.cond (.t 33) (.seq zSE .ret) (.seq zSF (.cond (.t 42) (.seq zSG .ret) .skip)))))))))))) (.seq zSH .ret))))
abbrev zFS : Env := { N := 52, Γ := [], L := 52, nfix := 0 }
abbrev zYn : List RSrc := [.tmp 4]
theorem zVN {base : Nat} {av : List AV} {r : RV} (hfo : zAx zFS base av) (hW : AVs.fits av → hwp Tryz.prog yCy (zBO zFS base av zYn r) (F0 zFS base av)) (hov : ∀ x, r.res = .ov x → zBx av = 0 := by intro x h; cases h <;> rfl) : Contract Tryz.prog zG4 av r :=
 zAa (fn := Tryz.f123) (c := Tryz.f123.body.getD .skip) (by kernel_rfl) (by kernel_rfl) (by kernel_rfl) (by kernel_rfl) (by kernel_rfl) (by kernel_rfl) (by kernel_rfl) hfo hW hov
abbrev zIS : HCode := .reg [⟨none, .val 4 (.boxF (.t 1))⟩,
  ⟨none, .val 6 (.mv (.c (bv false)))⟩] false []
abbrev zIT : HCode := .reg [⟨none, .val 11 (.mv (.t 0))⟩,
  ⟨none, .val 12 (.nilck (.t 11))⟩,
  ⟨none, .val 13 (.fldR (.t 12) 0 1)⟩,
  ⟨none, .val 14 (.fldR (.t 13) 0 1)⟩,
  ⟨none, .val 15 (.ldR (.t 14) 1 false)⟩,
  ⟨none, .val 16 (.mv (.t 2))⟩,
  ⟨none, .val 17 (.idxA 5 (.t 15) (.t 16))⟩,
  ⟨none, .val 18 (.ldR (.t 17) 5 true)⟩,
  ⟨none, .alloc 7 0 138 [.v (.int .i64 0), .v (mkS []), .v (mkS []), .nl 1, .nl 2]⟩,
  ⟨none, .sto (.t 7) 0 138 0 5 (.t 18)⟩] false [.forget [11, 12, 13, 14, 15, 16, 17, 18]]
abbrev zIU : HCode := .reg [⟨none, .val 19 (.fldR (.t 4) 0 1)⟩,
  ⟨none, .val 20 (.ldR (.t 19) 1 false)⟩] false [.forget [19]]
abbrev zIV : HCode := .reg [⟨none, .val 22 (.ints .eql (.t 20) (.c (iv 1)))⟩,
  ⟨none, .val 21 (.mv (.t 22))⟩] false [.forget [22]]
abbrev zIW : HCode := .reg [⟨none, .val 23 (.fldP (.t 7) 3)⟩,
  ⟨none, .val 24 (.ldB (.t 23) 0 138 3 1 false)⟩,
  ⟨none, .val 25 (.fldR (.t 4) 1 1)⟩,
  ⟨none, .val 26 (.ldR (.t 25) 1 false)⟩,
  ⟨none, .call (some 27) zBm [(.t 24, .v), (.t 26, .v)]⟩,
  ⟨none, .val 6 (.mv (.t 27))⟩] false [.forget [23, 24, 25, 26, 27]]
abbrev zIX : HCode := .reg [⟨none, .val 29 (.ints .eql (.t 20) (.c (iv 2)))⟩,
  ⟨none, .val 28 (.mv (.t 29))⟩] false [.forget [29]]
abbrev zIY : HCode := .reg [⟨none, .val 30 (.fldP (.t 7) 2)⟩,
  ⟨none, .val 31 (.ldB (.t 30) 0 138 2 1 false)⟩,
  ⟨none, .val 32 (.fldR (.t 4) 1 1)⟩,
  ⟨none, .val 33 (.ldR (.t 32) 1 false)⟩,
  ⟨none, .val 34 (.strs .eql (.t 31) (.t 33))⟩,
  ⟨none, .val 6 (.mv (.t 34))⟩] false [.forget [30, 31, 32, 33, 34]]
abbrev zIZ : HCode := .reg [⟨none, .val 36 (.ints .eql (.t 20) (.c (iv 9)))⟩,
  ⟨none, .val 35 (.mv (.t 36))⟩] false [.forget [36]]
abbrev zI0 : HCode := .drg [⟨0, false, ⟨none, .val 37 (.fldR (.t 4) 3 2)⟩⟩,
  ⟨1, false, ⟨none, .val 38 (.ldR (.t 37) 2 true)⟩⟩,
  ⟨2, false, ⟨none, .val 39 (.mv (.t 0))⟩⟩,
  ⟨3, false, ⟨none, .val 40 (.nilck (.t 39))⟩⟩,
  ⟨4, false, ⟨none, .val 41 (.fldR (.t 40) 1 1)⟩⟩,
  ⟨5, false, ⟨none, .val 42 (.ldR (.t 41) 1 false)⟩⟩,
  ⟨6, false, ⟨none, .val 43 (.mv (.t 2))⟩⟩,
  ⟨7, false, ⟨none, .val 44 (.idxA 5 (.t 42) (.t 43))⟩⟩,
  ⟨8, false, ⟨none, .val 45 (.fldR (.t 44) 0 1)⟩⟩,
  ⟨9, false, ⟨none, .val 46 (.ldR (.t 45) 1 false)⟩⟩,
  ⟨10, true, ⟨none, .call (some 47) zFK [(.t 38, .v), (.t 46, .v)]⟩⟩,
  ⟨11, false, ⟨none, .val 6 (.mv (.t 47))⟩⟩] [.forget [37, 38, 39, 40, 41, 42, 43, 44, 45, 46, 47]]
abbrev zI1 : HCode := .reg [⟨none, .val 49 (.ints .eql (.t 20) (.c (iv 10)))⟩,
  ⟨none, .val 48 (.mv (.t 49))⟩] false [.forget [49]]
abbrev zH0 : HCode := .drg [⟨0, false, ⟨none, .val 50 (.fldR (.t 4) 3 2)⟩⟩,
  ⟨1, false, ⟨none, .val 51 (.ldR (.t 50) 2 true)⟩⟩,
  ⟨2, false, ⟨none, .val 52 (.mv (.t 0))⟩⟩,
  ⟨3, false, ⟨none, .val 53 (.nilck (.t 52))⟩⟩,
  ⟨4, false, ⟨none, .val 54 (.fldR (.t 53) 1 1)⟩⟩,
  ⟨5, false, ⟨none, .val 55 (.ldR (.t 54) 1 false)⟩⟩,
  ⟨6, false, ⟨none, .val 56 (.mv (.t 2))⟩⟩,
  ⟨7, false, ⟨none, .val 57 (.idxA 5 (.t 55) (.t 56))⟩⟩,
  ⟨8, false, ⟨none, .val 58 (.fldR (.t 57) 1 1)⟩⟩,
  ⟨9, false, ⟨none, .val 59 (.ldR (.t 58) 1 false)⟩⟩,
  ⟨10, false, ⟨none, .val 60 (.mv (.t 0))⟩⟩,
  ⟨11, false, ⟨none, .val 61 (.nilck (.t 60))⟩⟩,
  ⟨12, false, ⟨none, .val 62 (.fldR (.t 61) 1 1)⟩⟩,
  ⟨13, false, ⟨none, .val 63 (.ldR (.t 62) 1 false)⟩⟩,
  ⟨14, false, ⟨none, .val 64 (.mv (.t 2))⟩⟩,
  ⟨15, false, ⟨none, .val 65 (.idxA 5 (.t 63) (.t 64))⟩⟩,
  ⟨16, false, ⟨none, .val 66 (.fldR (.t 65) 0 1)⟩⟩,
  ⟨17, false, ⟨none, .val 67 (.ldR (.t 66) 1 false)⟩⟩,
  ⟨18, false, ⟨none, .val 68 (.ints .sub (.t 59) (.t 67))⟩⟩,
  ⟨19, false, ⟨none, .val 69 (.ints .add (.t 68) (.c (iv 1)))⟩⟩,
  ⟨20, true, ⟨none, .call (some 70) zFK [(.t 51, .v), (.t 69, .v)]⟩⟩,
  ⟨21, false, ⟨none, .val 6 (.mv (.t 70))⟩⟩] [.forget [50, 51, 52, 53, 54, 55, 56, 57, 58, 59, 60, 61, 62, 63, 64, 65, 66, 67, 68, 69, 70]]
abbrev zH1 : HCode := .reg [⟨none, .val 72 (.ints .eql (.t 20) (.c (iv 11)))⟩,
  ⟨none, .val 71 (.mv (.t 72))⟩] false [.forget [72]]
abbrev zH2 : HCode := .reg [⟨none, .val 73 (.mv (.t 0))⟩,
  ⟨none, .val 74 (.nilck (.t 73))⟩,
  ⟨none, .val 75 (.fldR (.t 74) 1 1)⟩,
  ⟨none, .val 76 (.ldR (.t 75) 1 false)⟩,
  ⟨none, .val 77 (.mv (.t 2))⟩,
  ⟨none, .val 78 (.idxA 5 (.t 76) (.t 77))⟩,
  ⟨none, .val 79 (.fldR (.t 78) 4 1)⟩,
  ⟨none, .val 80 (.ldR (.t 79) 1 false)⟩,
  ⟨none, .val 81 (.ints .eql (.t 80) (.c (iv 0)))⟩,
  ⟨none, .val 6 (.mv (.t 81))⟩] false [.forget [73, 74, 75, 76, 77, 78, 79, 80, 81]]
abbrev zH3 : HCode := .reg [⟨none, .val 83 (.ints .eql (.t 20) (.c (iv 12)))⟩,
  ⟨none, .val 82 (.mv (.t 83))⟩] false [.forget [83]]
abbrev zH4 : HCode := .reg [⟨none, .val 84 (.mv (.t 2))⟩,
  ⟨none, .val 85 (.ints .eql (.t 84) (.c (iv 0)))⟩,
  ⟨none, .val 6 (.mv (.t 85))⟩] false [.forget [84, 85]]
abbrev zH5 : HCode := .reg [⟨none, .val 87 (.ints .eql (.t 20) (.c (iv 13)))⟩,
  ⟨none, .val 86 (.mv (.t 87))⟩] false [.forget [87]]
abbrev zH6 : HCode := .reg [⟨none, .val 88 (.mv (.t 0))⟩,
  ⟨none, .val 89 (.fldR (.t 4) 5 1)⟩,
  ⟨none, .val 90 (.ldR (.t 89) 1 false)⟩,
  ⟨none, .val 91 (.mv (.t 2))⟩,
  ⟨none, .call (some 92) zAC [(.t 88, .v), (.t 90, .v), (.t 91, .v)]⟩,
  ⟨none, .val 93 (.not (.t 92))⟩,
  ⟨none, .val 6 (.mv (.t 93))⟩] false [.forget [88, 89, 90, 91, 92, 93]]
abbrev zH7 : HCode := .reg [⟨none, .val 95 (.ints .eql (.t 20) (.c (iv 14)))⟩,
  ⟨none, .val 94 (.mv (.t 95))⟩] false [.forget [95]]
abbrev zH8 : HCode := .reg [⟨none, .val 96 (.mv (.t 0))⟩,
  ⟨none, .val 97 (.fldR (.t 4) 5 1)⟩,
  ⟨none, .val 98 (.ldR (.t 97) 1 false)⟩,
  ⟨none, .val 99 (.mv (.t 2))⟩,
  ⟨none, .call (some 100) zAC [(.t 96, .v), (.t 98, .v), (.t 99, .v)]⟩,
  ⟨none, .val 6 (.mv (.t 100))⟩] false [.forget [96, 97, 98, 99, 100]]
abbrev zH9 : HCode := .reg [⟨none, .val 102 (.ints .eql (.t 20) (.c (iv 15)))⟩,
  ⟨none, .val 101 (.mv (.t 102))⟩] false [.forget [102]]
abbrev zIa : HCode := .reg [⟨none, .val 103 (.mv (.t 2))⟩,
  ⟨none, .val 104 (.ints .add (.t 103) (.c (iv 1)))⟩,
  ⟨none, .val 8 (.mv (.t 104))⟩] false [.forget [103, 104]]
abbrev zIb : HCode := .reg [⟨none, .val 105 (.mv (.t 8))⟩,
  ⟨none, .val 106 (.mv (.t 2))⟩,
  ⟨none, .val 107 (.mv (.t 0))⟩,
  ⟨none, .val 108 (.nilck (.t 107))⟩,
  ⟨none, .val 109 (.fldR (.t 108) 1 1)⟩,
  ⟨none, .val 110 (.ldR (.t 109) 1 false)⟩,
  ⟨none, .val 111 (.mv (.t 2))⟩,
  ⟨none, .val 112 (.idxA 5 (.t 110) (.t 111))⟩,
  ⟨none, .val 113 (.fldR (.t 112) 3 1)⟩,
  ⟨none, .val 114 (.ldR (.t 113) 1 false)⟩,
  ⟨none, .val 115 (.ints .add (.t 106) (.t 114))⟩,
  ⟨none, .val 116 (.ints .leq (.t 105) (.t 115))⟩] false [.forget [105, 106, 107, 108, 109, 110, 111, 112, 113, 114, 115]]
abbrev zIc : HCode := .reg [⟨none, .val 119 (.mv (.t 0))⟩,
  ⟨none, .val 120 (.fldR (.t 4) 5 1)⟩,
  ⟨none, .val 121 (.ldR (.t 120) 1 false)⟩,
  ⟨none, .val 122 (.mv (.t 8))⟩,
  ⟨none, .call (some 123) zAC [(.t 119, .v), (.t 121, .v), (.t 122, .v)]⟩] false [.forget [119, 120, 121, 122]]
abbrev zId : HCode := .reg [⟨none, .val 6 (.mv (.c (bv true)))⟩] false []
abbrev zIe : HCode := .reg [⟨none, .val 117 (.mv (.t 8))⟩,
  ⟨none, .val 118 (.ints .add (.t 117) (.c (iv 1)))⟩,
  ⟨none, .val 8 (.mv (.t 118))⟩] false [.forget [117, 118]]
abbrev zIf : HCode := .reg [⟨none, .val 6 (.mv (.c (bv false)))⟩] false []
abbrev zIg : HCode := .reg [⟨none, .val 125 (.mv (.t 0))⟩,
  ⟨none, .val 126 (.mv (.t 2))⟩,
  ⟨none, .val 127 (.fldR (.t 4) 1 1)⟩,
  ⟨none, .val 128 (.ldR (.t 127) 1 false)⟩,
  ⟨none, .call (some 129) zDe [(.t 125, .v), (.t 126, .v), (.t 128, .v)]⟩,
  ⟨none, .val 124 (.mv (.t 129))⟩,
  ⟨none, .val 130 (.ext 124 0)⟩,
  ⟨none, .val 131 (.ext 124 1)⟩,
  ⟨none, .val 9 (.mv (.t 130))⟩,
  ⟨none, .val 10 (.mv (.t 131))⟩] false [.forget [124, 125, 126, 127, 128, 129, 130, 131]]
abbrev zIh : HCode := .reg [⟨none, .val 132 (.mv (.t 10))⟩,
  ⟨none, .val 133 (.mv (.t 132))⟩,
  ⟨some (133, true), .val 134 (.ldR (.t 4) 6 true)⟩,
  ⟨some (133, true), .val 135 (.mv (.t 9))⟩,
  ⟨some (133, true), .call (some 136) zG4 [(.t 134, .v), (.t 135, .v)]⟩,
  ⟨none, .val 137 (.pick (.t 133) (.t 136) (.c (bv false)))⟩,
  ⟨none, .val 6 (.mv (.t 137))⟩] false [.forget [132, 133, 134, 135, 136, 137]]
abbrev zMJ : HCode := (.seq zIS (.seq zIT (.seq (.seq zIU (.block 0 (.seq zIV (.cond (.t 21) (.seq zIW .ret) (.seq zIX (.cond (.t 28) (.seq zIY .ret) (.seq zIZ (.cond (.t 35) (.seq zI0 .ret) (.seq zI1 (.cond (.t 48) (.seq zH0 .ret) (.seq zH1 (.cond (.t 71) (.seq zH2 .ret) (.seq zH3 (.cond (.t 82) (.seq zH4 .ret) (.seq zH5 (.cond (.t 86) (.seq zH6 .ret) (.seq zH7 (.cond (.t 94) (.seq zH8 .ret) (.seq zH9 (.cond (.t 101) (.seq (.seq zIa (.block 1 (.loop (.seq (.seq zIb (.cond (.t 116) .skip (.exit 1))) (.seq (.block 2 (.seq zIc (.cond (.t 123) (.seq zId .ret) .skip))) zIe))))) (.seq zIf .ret)) .skip)))))))))))))))))))) (.seq zIg (.seq zIh .ret)))))
abbrev zCh : Env := { N := 138, Γ := [(138, 5)], L := 143, nfix := 0 }
abbrev zKc : List RSrc := [.tmp 6]
theorem zI2 {base : Nat} {av : List AV} {r : RV} (hfo : zAx zCh base av) (hW : AVs.fits av → hwp Tryz.prog zMJ (zBO zCh base av zKc r) (F0 zCh base av)) (hov : ∀ x, r.res = .ov x → zBx av = 0 := by intro x h; cases h <;> rfl) : Contract Tryz.prog zAO av r :=
 zAa (fn := Tryz.f52) (c := Tryz.f52.body.getD .skip) (by kernel_rfl) (by kernel_rfl) (by kernel_rfl) (by kernel_rfl) (by kernel_rfl) (by kernel_rfl) (by kernel_rfl) hfo hW hov
abbrev zLo : HCode := .reg [⟨none, .val 3 (.boxF (.t 0))⟩,
  ⟨none, .val 4 (.boxF (.t 1))⟩,
  ⟨none, .val 5 (.boxF (.t 2))⟩,
  ⟨none, .val 6 (.mv (.c (bv false)))⟩] false []
abbrev zLp : HCode := .drg [⟨0, false, ⟨none, .val 7 (.fldR (.t 4) 0 1)⟩⟩,
  ⟨1, false, ⟨none, .val 8 (.ldR (.t 7) 1 false)⟩⟩,
  ⟨2, false, ⟨none, .val 9 (.strs .eql (.t 8) (.c (sv [])))⟩⟩,
  ⟨3, false, ⟨none, .val 10 (.mv (.t 9))⟩⟩,
  ⟨4, false, ⟨some (10, false), .val 11 (.fldR (.t 4) 0 1)⟩⟩,
  ⟨5, false, ⟨some (10, false), .val 12 (.ldR (.t 11) 1 false)⟩⟩,
  ⟨6, false, ⟨some (10, false), .val 13 (.ldR (.t 3) 1 false)⟩⟩,
  ⟨7, false, ⟨some (10, false), .val 14 (.nilck (.t 13))⟩⟩,
  ⟨8, false, ⟨some (10, false), .val 15 (.fldR (.t 14) 0 1)⟩⟩,
  ⟨9, false, ⟨some (10, false), .val 16 (.fldR (.t 15) 0 1)⟩⟩,
  ⟨10, false, ⟨some (10, false), .val 17 (.ldR (.t 16) 1 false)⟩⟩,
  ⟨11, false, ⟨some (10, false), .val 18 (.ldR (.t 5) 1 false)⟩⟩,
  ⟨12, false, ⟨some (10, false), .val 19 (.idxA 5 (.t 17) (.t 18))⟩⟩,
  ⟨13, false, ⟨some (10, false), .val 20 (.fldR (.t 19) 1 1)⟩⟩,
  ⟨14, false, ⟨some (10, false), .val 21 (.ldR (.t 20) 1 false)⟩⟩,
  ⟨15, false, ⟨some (10, false), .val 22 (.strs .eql (.t 12) (.t 21))⟩⟩,
  ⟨16, false, ⟨none, .val 23 (.pick (.t 10) (.c (bv true)) (.t 22))⟩⟩,
  ⟨17, false, ⟨none, .val 24 (.mv (.t 23))⟩⟩,
  ⟨18, false, ⟨some (24, true), .val 25 (.fldR (.t 4) 1 1)⟩⟩,
  ⟨19, false, ⟨some (24, true), .val 26 (.ldR (.t 25) 1 false)⟩⟩,
  ⟨20, false, ⟨some (24, true), .val 27 (.mkf zB5 [.t 3, .t 5])⟩⟩,
  ⟨21, true, ⟨some (24, true), .call (some 28) zBL [(.t 26, .v), (.t 27, .v)]⟩⟩,
  ⟨22, false, ⟨some (24, true), .val 29 (.not (.t 28))⟩⟩,
  ⟨23, false, ⟨none, .val 30 (.pick (.t 24) (.t 29) (.c (bv false)))⟩⟩,
  ⟨24, false, ⟨none, .val 6 (.mv (.t 30))⟩⟩] [.forget [7, 8, 9, 10, 11, 12, 13, 14, 15, 16, 17, 18, 19, 20, 21, 22, 23, 24, 25, 26, 27, 28, 29, 30]]
abbrev zQy : HCode := (.seq zLo (.seq zLp .ret))
abbrev zCP : Env := { N := 31, Γ := [], L := 31, nfix := 0 }
abbrev zMK : List RSrc := [.tmp 6]
theorem zLq {base : Nat} {av : List AV} {r : RV} (hfo : zAx zCP base av) (hW : AVs.fits av → hwp Tryz.prog zQy (zBO zCP base av zMK r) (F0 zCP base av)) (hov : ∀ x, r.res = .ov x → zBx av = 0 := by intro x h; cases h <;> rfl) : Contract Tryz.prog zBr av r :=
 zAa (fn := Tryz.f143) (c := Tryz.f143.body.getD .skip) (by kernel_rfl) (by kernel_rfl) (by kernel_rfl) (by kernel_rfl) (by kernel_rfl) (by kernel_rfl) (by kernel_rfl) hfo hW hov
abbrev zI3 : HCode := .reg [⟨none, .val 3 (.boxF (.t 0))⟩,
  ⟨none, .val 4 (.mv (.c (bv false)))⟩] false []
abbrev zI4 : HCode := .reg [⟨none, .val 5 (.ldR (.t 1) 1 false)⟩,
  ⟨none, .val 6 (.ldR (.t 3) 6 true)⟩,
  ⟨none, .val 7 (.ldR (.t 2) 1 false)⟩,
  ⟨none, .call (some 8) zAO [(.t 5, .v), (.t 6, .v), (.t 7, .v)]⟩,
  ⟨none, .val 9 (.not (.t 8))⟩,
  ⟨none, .val 4 (.mv (.t 9))⟩] false [.forget [5, 6, 7, 8, 9]]
abbrev zML : HCode := (.seq zI3 (.seq zI4 .ret))
abbrev zCi : Env := { N := 10, Γ := [], L := 10, nfix := 0 }
abbrev zKd : List RSrc := [.tmp 4]
theorem zI5 {base : Nat} {av : List AV} {r : RV} (hfo : zAx zCi base av) (hW : AVs.fits av → hwp Tryz.prog zML (zBO zCi base av zKd r) (F0 zCi base av)) (hov : ∀ x, r.res = .ov x → zBx av = 0 := by intro x h; cases h <;> rfl) : Contract Tryz.prog zB5 av r :=
 zAa (fn := Tryz.f202) (c := Tryz.f202.body.getD .skip) (by kernel_rfl) (by kernel_rfl) (by kernel_rfl) (by kernel_rfl) (by kernel_rfl) (by kernel_rfl) (by kernel_rfl) hfo hW hov
abbrev zKe : HCode := .reg [⟨none, .val 3 (.boxF (.t 0))⟩,
  ⟨none, .val 4 (.boxF (.t 1))⟩,
  ⟨none, .val 5 (.boxF (.t 2))⟩,
  ⟨none, .val 6 (.mv (.c (.one (.v .nilFunc))))⟩] false []
abbrev zKf : HCode := .reg [⟨none, .val 8 (.mkf zBW [.t 3])⟩,
  ⟨none, .alloc 7 0 17 [.v .nilFunc]⟩,
  ⟨none, .sto (.t 7) 0 17 0 1 (.t 8)⟩] false [.forget [8]]
abbrev zKg : HCode := .reg [⟨none, .val 9 (.ldR (.t 4) 1 false)⟩,
  ⟨none, .val 10 (.ints .eql (.t 9) (.c (iv 3)))⟩,
  ⟨none, .val 11 (.mv (.t 10))⟩,
  ⟨some (11, false), .val 12 (.ldR (.t 4) 1 false)⟩,
  ⟨some (11, false), .val 13 (.ints .eql (.t 12) (.c (iv 4)))⟩,
  ⟨none, .val 14 (.pick (.t 11) (.c (bv true)) (.t 13))⟩] false [.forget [9, 10, 11, 12, 13]]
abbrev zKh : HCode := .reg [⟨none, .val 15 (.mkf zBX [.t 3])⟩,
  ⟨none, .sto (.t 7) 0 17 0 1 (.t 15)⟩] false [.forget [15]]
abbrev zKi : HCode := .regG [.frz 0 17 1] [⟨none, .val 16 (.mkf zEj [.t 7, .t 5, .t 4])⟩,
  ⟨none, .val 6 (.mv (.t 16))⟩] [.forget [16]]
abbrev zNZ : HCode := (.seq zKe (.seq zKf (.seq (.seq zKg (.cond (.t 14) zKh .skip)) (.seq zKi .ret))))
abbrev zCz : Env := { N := 17, Γ := [(17, 1)], L := 18, nfix := 0 }
abbrev zLr : List RSrc := [.tmp 6]
theorem zKj {base : Nat} {av : List AV} {r : RV} (hfo : zAx zCz base av) (hW : AVs.fits av → hwp Tryz.prog zNZ (zBO zCz base av zLr r) (F0 zCz base av)) (hov : ∀ x, r.res = .ov x → zBx av = 0 := by intro x h; cases h <;> rfl) : Contract Tryz.prog zDd av r :=
 zAa (fn := Tryz.f144) (c := Tryz.f144.body.getD .skip) (by kernel_rfl) (by kernel_rfl) (by kernel_rfl) (by kernel_rfl) (by kernel_rfl) (by kernel_rfl) (by kernel_rfl) hfo hW hov
abbrev zIi : HCode := .reg [⟨none, .val 3 (.mv (.c (iv 0)))⟩] false []
abbrev zIj : HCode := .reg [⟨none, .val 4 (.ldR (.t 1) 1 false)⟩,
  ⟨none, .val 5 (.nilck (.t 4))⟩,
  ⟨none, .val 6 (.fldR (.t 5) 0 1)⟩,
  ⟨none, .val 7 (.fldR (.t 6) 0 1)⟩,
  ⟨none, .val 8 (.ldR (.t 7) 1 false)⟩,
  ⟨none, .val 9 (.mv (.t 0))⟩,
  ⟨none, .val 10 (.idxA 5 (.t 8) (.t 9))⟩,
  ⟨none, .val 11 (.fldR (.t 10) 0 1)⟩,
  ⟨none, .val 12 (.ldR (.t 11) 1 false)⟩,
  ⟨none, .val 3 (.mv (.t 12))⟩] false [.forget [4, 5, 6, 7, 8, 9, 10, 11, 12]]
abbrev zLs : HCode := (.seq zIi (.seq zIj .ret))
abbrev zB7 : Env := { N := 13, Γ := [], L := 13, nfix := 0 }
abbrev zI6 : List RSrc := [.tmp 3]
theorem zIk {base : Nat} {av : List AV} {r : RV} (hfo : zAx zB7 base av) (hW : AVs.fits av → hwp Tryz.prog zLs (zBO zB7 base av zI6 r) (F0 zB7 base av)) (hov : ∀ x, r.res = .ov x → zBx av = 0 := by intro x h; cases h <;> rfl) : Contract Tryz.prog zBW av r :=
 zAa (fn := Tryz.f203) (c := Tryz.f203.body.getD .skip) (by kernel_rfl) (by kernel_rfl) (by kernel_rfl) (by kernel_rfl) (by kernel_rfl) (by kernel_rfl) (by kernel_rfl) hfo hW hov
abbrev zIl : HCode := .reg [⟨none, .val 3 (.mv (.c (iv 0)))⟩] false []
abbrev zIm : HCode := .reg [⟨none, .val 4 (.ldR (.t 1) 1 false)⟩,
  ⟨none, .val 5 (.nilck (.t 4))⟩,
  ⟨none, .val 6 (.fldR (.t 5) 1 1)⟩,
  ⟨none, .val 7 (.ldR (.t 6) 1 false)⟩,
  ⟨none, .val 8 (.mv (.t 0))⟩,
  ⟨none, .val 9 (.idxA 5 (.t 7) (.t 8))⟩,
  ⟨none, .val 10 (.fldR (.t 9) 2 1)⟩,
  ⟨none, .val 11 (.ldR (.t 10) 1 false)⟩,
  ⟨none, .val 3 (.mv (.t 11))⟩] false [.forget [4, 5, 6, 7, 8, 9, 10, 11]]
abbrev zLt : HCode := (.seq zIl (.seq zIm .ret))
abbrev zB8 : Env := { N := 12, Γ := [], L := 12, nfix := 0 }
abbrev zI7 : List RSrc := [.tmp 3]
theorem zIn {base : Nat} {av : List AV} {r : RV} (hfo : zAx zB8 base av) (hW : AVs.fits av → hwp Tryz.prog zLt (zBO zB8 base av zI7 r) (F0 zB8 base av)) (hov : ∀ x, r.res = .ov x → zBx av = 0 := by intro x h; cases h <;> rfl) : Contract Tryz.prog zBX av r :=
 zAa (fn := Tryz.f204) (c := Tryz.f204.body.getD .skip) (by kernel_rfl) (by kernel_rfl) (by kernel_rfl) (by kernel_rfl) (by kernel_rfl) (by kernel_rfl) (by kernel_rfl) hfo hW hov
abbrev zLu : HCode := .reg [⟨none, .val 3 (.boxF (.t 0))⟩,
  ⟨none, .val 5 (.boxF (.t 2))⟩,
  ⟨none, .val 6 (.mv (.c (bv false)))⟩] false []
abbrev zLv : HCode := .reg [⟨none, .val 7 (.mv (.t 1))⟩,
  ⟨none, .val 8 (.mkf zB4 [.t 3, .t 5])⟩,
  ⟨none, .call (some 9) zBK [(.t 7, .v), (.t 8, .v)]⟩,
  ⟨none, .val 6 (.mv (.t 9))⟩] false [.forget [7, 8, 9]]
abbrev zQz : HCode := (.seq zLu (.seq zLv .ret))
abbrev zCQ : Env := { N := 10, Γ := [], L := 10, nfix := 0 }
abbrev zMM : List RSrc := [.tmp 6]
theorem zLw {base : Nat} {av : List AV} {r : RV} (hfo : zAx zCQ base av) (hW : AVs.fits av → hwp Tryz.prog zQz (zBO zCQ base av zMM r) (F0 zCQ base av)) (hov : ∀ x, r.res = .ov x → zBx av = 0 := by intro x h; cases h <;> rfl) : Contract Tryz.prog zAC av r :=
 zAa (fn := Tryz.f41) (c := Tryz.f41.body.getD .skip) (by kernel_rfl) (by kernel_rfl) (by kernel_rfl) (by kernel_rfl) (by kernel_rfl) (by kernel_rfl) (by kernel_rfl) hfo hW hov
abbrev zI8 : HCode := .reg [⟨none, .val 3 (.boxF (.t 0))⟩,
  ⟨none, .val 4 (.mv (.c (bv false)))⟩] false []
abbrev zI9 : HCode := .reg [⟨none, .val 5 (.ldR (.t 1) 1 false)⟩,
  ⟨none, .val 6 (.ldR (.t 3) 2 true)⟩,
  ⟨none, .val 7 (.fldR (.t 3) 0 1)⟩,
  ⟨none, .val 8 (.ldR (.t 7) 1 false)⟩,
  ⟨none, .val 9 (.len false (.t 8))⟩,
  ⟨none, .val 10 (.ldR (.t 2) 1 false)⟩,
  ⟨none, .call (some 11) zBb [(.t 5, .v), (.t 6, .v), (.t 9, .v), (.t 10, .v)]⟩,
  ⟨none, .val 4 (.mv (.t 11))⟩] false [.forget [5, 6, 7, 8, 9, 10, 11]]
abbrev zMN : HCode := (.seq zI8 (.seq zI9 .ret))
abbrev zCj : Env := { N := 12, Γ := [], L := 12, nfix := 0 }
abbrev zKk : List RSrc := [.tmp 4]
theorem zJa {base : Nat} {av : List AV} {r : RV} (hfo : zAx zCj base av) (hW : AVs.fits av → hwp Tryz.prog zMN (zBO zCj base av zKk r) (F0 zCj base av)) (hov : ∀ x, r.res = .ov x → zBx av = 0 := by intro x h; cases h <;> rfl) : Contract Tryz.prog zB4 av r :=
 zAa (fn := Tryz.f90) (c := Tryz.f90.body.getD .skip) (by kernel_rfl) (by kernel_rfl) (by kernel_rfl) (by kernel_rfl) (by kernel_rfl) (by kernel_rfl) (by kernel_rfl) hfo hW hov
abbrev zSI : HCode := .reg [⟨none, .val 2 (.boxF (.t 0))⟩,
  ⟨none, .val 4 (.mv (.c (.one (.v (.pointer none)))))⟩,
  ⟨none, .val 5 (.mv (.c (iv 0)))⟩] false []
abbrev zSJ : HCode := .reg [⟨none, .val 8 (.ldR (.t 2) 1 true)⟩,
  ⟨none, .call (some 9) zHD [(.t 8, .v)]⟩,
  ⟨none, .val 6 (.mv (.t 9))⟩] false [.forget [8, 9]]
abbrev zSK : HCode := .reg [⟨none, .val 10 (.mv (.t 6))⟩,
  ⟨none, .val 11 (.ints .neq (.t 10) (.c (iv 0)))⟩] false [.forget [10]]
abbrev zSL : HCode := .reg [⟨none, .val 12 (.mv (.t 6))⟩,
  ⟨none, .val 4 (.mv (.c (.one (.v (.pointer none)))))⟩,
  ⟨none, .val 5 (.mv (.t 12))⟩] false [.forget [12]]
abbrev zSM : HCode := .reg [⟨none, .val 13 (.mv (.t 1))⟩,
  ⟨none, .call (some 14) zG1 [(.t 13, .v)]⟩,
  ⟨none, .val 7 (.mv (.t 14))⟩] false [.forget [13, 14]]
abbrev zSN : HCode := .reg [⟨none, .val 15 (.mv (.t 7))⟩,
  ⟨none, .val 16 (.ints .neq (.t 15) (.c (iv 0)))⟩] false [.forget [15]]
abbrev zSO : HCode := .reg [⟨none, .val 17 (.mv (.t 7))⟩,
  ⟨none, .val 4 (.mv (.c (.one (.v (.pointer none)))))⟩,
  ⟨none, .val 5 (.mv (.t 17))⟩] false [.forget [17]]
abbrev zSP : HCode := .reg [⟨none, .val 18 (.ldR (.t 2) 1 true)⟩,
  ⟨none, .call (some 19) zJ2 [(.t 18, .v)]⟩,
  ⟨none, .val 4 (.mv (.t 19))⟩,
  ⟨none, .val 5 (.mv (.c (iv 0)))⟩] false [.forget [18, 19]]
abbrev yAn : HCode := (.seq zSI (.seq (.seq zSJ (.seq zSK (.cond (.t 11) (.seq zSL .ret) .skip))) (.seq (.seq zSM (.seq zSN (.cond (.t 16) (.seq zSO .ret) .skip))) (.seq zSP .ret))))
abbrev zEV : Env := { N := 20, Γ := [], L := 20, nfix := 0 }
abbrev zVO : List RSrc := [.tmp 4, .tmp 5]
theorem zSQ {base : Nat} {av : List AV} {r : RV} (hfo : zAx zEV base av) (hW : AVs.fits av → hwp Tryz.prog yAn (zBO zEV base av zVO r) (F0 zEV base av)) (hov : ∀ x, r.res = .ov x → zBx av = 0 := by intro x h; cases h <;> rfl) : Contract Tryz.prog zEe av r :=
 zAa (fn := Tryz.f40) (c := Tryz.f40.body.getD .skip) (by kernel_rfl) (by kernel_rfl) (by kernel_rfl) (by kernel_rfl) (by kernel_rfl) (by kernel_rfl) (by kernel_rfl) hfo hW hov
abbrev yAo : HCode := .reg [⟨none, .val 3 (.boxF (.t 0))⟩,
  ⟨none, .val 6 (.mv (.c (.one (.v (.pointer none)))))⟩,
  ⟨none, .val 7 (.mv (.c (iv 0)))⟩] false []
abbrev yAp : HCode := .reg [⟨none, .val 11 (.ldR (.t 3) 1 true)⟩,
  ⟨none, .val 12 (.mv (.t 1))⟩,
  ⟨none, .call (some 13) zEe [(.t 11, .v), (.t 12, .v)]⟩,
  ⟨none, .val 10 (.mv (.t 13))⟩,
  ⟨none, .val 14 (.ext 10 0)⟩,
  ⟨none, .val 15 (.ext 10 1)⟩,
  ⟨none, .val 8 (.mv (.t 14))⟩,
  ⟨none, .val 9 (.mv (.t 15))⟩] false [.forget [10, 11, 12, 13, 14, 15]]
abbrev yAq : HCode := .reg [⟨none, .val 16 (.mv (.t 9))⟩,
  ⟨none, .val 17 (.ints .eql (.t 16) (.c (iv 0)))⟩,
  ⟨none, .val 18 (.mv (.t 17))⟩,
  ⟨some (18, true), .val 19 (.mv (.t 2))⟩,
  ⟨some (18, true), .val 20 (.ints .lss (.t 19) (.c (iv 0)))⟩,
  ⟨some (18, true), .val 21 (.mv (.t 20))⟩,
  ⟨some (21, false), .val 22 (.mv (.t 2))⟩,
  ⟨some (21, false), .val 23 (.fldR (.t 3) 0 1)⟩,
  ⟨some (21, false), .val 24 (.ldR (.t 23) 1 false)⟩,
  ⟨some (21, false), .val 25 (.len false (.t 24))⟩,
  ⟨some (21, false), .val 26 (.ints .geq (.t 22) (.t 25))⟩,
  ⟨some (18, true), .val 27 (.pick (.t 21) (.c (bv true)) (.t 26))⟩,
  ⟨none, .val 28 (.pick (.t 18) (.t 27) (.c (bv false)))⟩] false [.forget [16, 17, 18, 19, 20, 21, 22, 23, 24, 25, 26, 27]]
abbrev yAr : HCode := .reg [⟨none, .val 9 (.mv (.c (iv 5)))⟩] false []
abbrev yAs : HCode := .reg [⟨none, .val 29 (.mv (.t 8))⟩,
  ⟨none, .val 30 (.mv (.t 9))⟩,
  ⟨none, .val 6 (.mv (.t 29))⟩,
  ⟨none, .val 7 (.mv (.t 30))⟩] false [.forget [29, 30]]
abbrev yFh : HCode := (.seq yAo (.seq yAp (.seq (.seq yAq (.cond (.t 28) yAr .skip)) (.seq yAs .ret))))
abbrev zIH : Env := { N := 31, Γ := [], L := 31, nfix := 0 }
abbrev yCz : List RSrc := [.tmp 6, .tmp 7]
theorem yAt {base : Nat} {av : List AV} {r : RV} (hfo : zAx zIH base av) (hW : AVs.fits av → hwp Tryz.prog yFh (zBO zIH base av yCz r) (F0 zIH base av)) (hov : ∀ x, r.res = .ov x → zBx av = 0 := by intro x h; cases h <;> rfl) : Contract Tryz.prog zFe av r :=
 zAa (fn := Tryz.f51) (c := Tryz.f51.body.getD .skip) (by kernel_rfl) (by kernel_rfl) (by kernel_rfl) (by kernel_rfl) (by kernel_rfl) (by kernel_rfl) (by kernel_rfl) hfo hW hov
abbrev zVP : HCode := .reg [⟨none, .val 3 (.boxF (.t 0))⟩,
  ⟨none, .val 4 (.boxF (.t 1))⟩,
  ⟨none, .val 6 (.mv (.c (bv false)))⟩,
  ⟨none, .val 7 (.mv (.c (iv 0)))⟩] false []
abbrev zVQ : HCode := .reg [⟨none, .val 11 (.ldR (.t 3) 1 true)⟩,
  ⟨none, .val 12 (.ldR (.t 4) 6 true)⟩,
  ⟨none, .val 13 (.bslF 6 [.t 12])⟩,
  ⟨none, .val 14 (.bld [.v (mkS []), .nl 6] [(1, 1, .t 13)])⟩,
  ⟨none, .val 15 (.bslF 2 [.t 14])⟩,
  ⟨none, .val 16 (.bld [.nl 2, .nl 1] [(0, 1, .t 15)])⟩,
  ⟨none, .val 17 (.bslF 2 [.t 16])⟩,
  ⟨none, .val 18 (.mv (.t 2))⟩,
  ⟨none, .call (some 19) zFe [(.t 11, .v), (.t 17, .v), (.t 18, .v)]⟩,
  ⟨none, .val 10 (.mv (.t 19))⟩,
  ⟨none, .val 20 (.ext 10 0)⟩,
  ⟨none, .val 21 (.ext 10 1)⟩,
  ⟨none, .val 8 (.mv (.t 20))⟩,
  ⟨none, .val 9 (.mv (.t 21))⟩] false [.forget [10, 11, 12, 13, 14, 15, 16, 17, 18, 19, 20, 21]]
abbrev zVR : HCode := .reg [⟨none, .val 22 (.mv (.t 9))⟩,
  ⟨none, .val 23 (.ints .eql (.t 22) (.c (iv 0)))⟩,
  ⟨none, .val 24 (.mv (.t 23))⟩,
  ⟨some (24, true), .val 25 (.mv (.t 8))⟩,
  ⟨some (24, true), .val 26 (.ldR (.t 4) 6 true)⟩,
  ⟨some (24, true), .val 27 (.mv (.t 2))⟩,
  ⟨some (24, true), .call (some 28) zAO [(.t 25, .v), (.t 26, .v), (.t 27, .v)]⟩,
  ⟨none, .val 29 (.pick (.t 24) (.t 28) (.c (bv false)))⟩,
  ⟨none, .val 30 (.mv (.t 9))⟩,
  ⟨none, .val 6 (.mv (.t 29))⟩,
  ⟨none, .val 7 (.mv (.t 30))⟩] false [.forget [22, 23, 24, 25, 26, 27, 28, 29, 30]]
abbrev yCA : HCode := (.seq zVP (.seq zVQ (.seq zVR .ret)))
abbrev zFT : Env := { N := 31, Γ := [], L := 31, nfix := 0 }
abbrev zYo : List RSrc := [.tmp 6, .tmp 7]
theorem zVS {base : Nat} {av : List AV} {r : RV} (hfo : zAx zFT base av) (hW : AVs.fits av → hwp Tryz.prog yCA (zBO zFT base av zYo r) (F0 zFT base av)) (hov : ∀ x, r.res = .ov x → zBx av = 0 := by intro x h; cases h <;> rfl) : Contract Tryz.prog zEU av r :=
 zAa (fn := Tryz.f18) (c := Tryz.f18.body.getD .skip) (by kernel_rfl) (by kernel_rfl) (by kernel_rfl) (by kernel_rfl) (by kernel_rfl) (by kernel_rfl) (by kernel_rfl) hfo hW hov
abbrev zN0 : HCode := .reg [⟨none, .val 3 (.boxF (.t 0))⟩,
  ⟨none, .val 6 (.mv (.c (bv false)))⟩,
  ⟨none, .val 7 (.mv (.c (iv 0)))⟩] false []
abbrev zN1 : HCode := .reg [⟨none, .val 11 (.ldR (.t 3) 1 true)⟩,
  ⟨none, .val 12 (.mv (.t 1))⟩,
  ⟨none, .val 13 (.mv (.t 2))⟩,
  ⟨none, .call (some 14) zFe [(.t 11, .v), (.t 12, .v), (.t 13, .v)]⟩,
  ⟨none, .val 10 (.mv (.t 14))⟩,
  ⟨none, .val 15 (.ext 10 0)⟩,
  ⟨none, .val 16 (.ext 10 1)⟩,
  ⟨none, .val 8 (.mv (.t 15))⟩,
  ⟨none, .val 9 (.mv (.t 16))⟩] false [.forget [10, 11, 12, 13, 14, 15, 16]]
abbrev zN2 : HCode := .reg [⟨none, .val 17 (.mv (.t 9))⟩,
  ⟨none, .val 18 (.ints .eql (.t 17) (.c (iv 0)))⟩,
  ⟨none, .val 19 (.mv (.t 18))⟩,
  ⟨some (19, true), .val 20 (.mv (.t 8))⟩,
  ⟨some (19, true), .val 21 (.mv (.t 1))⟩,
  ⟨some (19, true), .val 22 (.mv (.t 2))⟩,
  ⟨some (19, true), .call (some 23) zAC [(.t 20, .v), (.t 21, .v), (.t 22, .v)]⟩,
  ⟨none, .val 24 (.pick (.t 19) (.t 23) (.c (bv false)))⟩,
  ⟨none, .val 25 (.mv (.t 9))⟩,
  ⟨none, .val 6 (.mv (.t 24))⟩,
  ⟨none, .val 7 (.mv (.t 25))⟩] false [.forget [17, 18, 19, 20, 21, 22, 23, 24, 25]]
abbrev zVT : HCode := (.seq zN0 (.seq zN1 (.seq zN2 .ret)))
abbrev zDL : Env := { N := 26, Γ := [], L := 26, nfix := 0 }
abbrev zQA : List RSrc := [.tmp 6, .tmp 7]
theorem zN3 {base : Nat} {av : List AV} {r : RV} (hfo : zAx zDL base av) (hW : AVs.fits av → hwp Tryz.prog zVT (zBO zDL base av zQA r) (F0 zDL base av)) (hov : ∀ x, r.res = .ov x → zBx av = 0 := by intro x h; cases h <;> rfl) : Contract Tryz.prog zEs av r :=
 zAa (fn := Tryz.f39) (c := Tryz.f39.body.getD .skip) (by kernel_rfl) (by kernel_rfl) (by kernel_rfl) (by kernel_rfl) (by kernel_rfl) (by kernel_rfl) (by kernel_rfl) hfo hW hov
abbrev zYp : HCode := .reg [⟨none, .val 2 (.boxF (.t 0))⟩,
  ⟨none, .val 4 (.mv (.c (.one (.nl 1))))⟩,
  ⟨none, .val 5 (.mv (.c (iv 0)))⟩] false []
abbrev zYq : HCode := .reg [⟨none, .val 11 (.ldR (.t 2) 1 true)⟩,
  ⟨none, .val 12 (.mv (.t 1))⟩,
  ⟨none, .call (some 13) zEe [(.t 11, .v), (.t 12, .v)]⟩,
  ⟨none, .val 10 (.mv (.t 13))⟩,
  ⟨none, .val 14 (.ext 10 0)⟩,
  ⟨none, .val 15 (.ext 10 1)⟩,
  ⟨none, .val 6 (.mv (.t 14))⟩,
  ⟨none, .val 7 (.mv (.t 15))⟩] false [.forget [10, 11, 12, 13, 14, 15]]
abbrev zYr : HCode := .reg [⟨none, .val 16 (.mv (.t 7))⟩,
  ⟨none, .val 17 (.ints .neq (.t 16) (.c (iv 0)))⟩] false [.forget [16]]
abbrev zYs : HCode := .reg [⟨none, .val 18 (.mv (.t 7))⟩,
  ⟨none, .val 4 (.mv (.c (.one (.nl 1))))⟩,
  ⟨none, .val 5 (.mv (.t 18))⟩] false [.forget [18]]
abbrev zYt : HCode := .reg [⟨none, .nlo 8 zE8 1⟩] false []
abbrev zYu : HCode := .reg [⟨none, .val 19 (.fldR (.t 2) 0 1)⟩,
  ⟨none, .val 20 (.ldR (.t 19) 1 false)⟩,
  ⟨none, .val 21 (.len false (.t 20))⟩,
  ⟨none, .val 22 (.mv (.c (iv 0)))⟩] false [.forget [19, 20]]
abbrev zYv : HCode := .reg [⟨none, .val 23 (.ints .lss (.t 22) (.t 21))⟩] false []
abbrev zYw : HCode := .reg [⟨none, .val 24 (.mv (.t 22))⟩,
  ⟨none, .val 9 (.mv (.t 24))⟩] false [.forget [24]]
abbrev zYx : HCode := .reg [⟨none, .val 25 (.mv (.t 6))⟩,
  ⟨none, .val 26 (.mv (.t 1))⟩,
  ⟨none, .val 27 (.mv (.t 9))⟩,
  ⟨none, .call (some 28) zAC [(.t 25, .v), (.t 26, .v), (.t 27, .v)]⟩] false [.forget [25, 26, 27]]
abbrev zYy : HCode := .reg [⟨none, .mvo 29 8⟩,
  ⟨none, .val 30 (.mv (.t 9))⟩,
  ⟨none, .val 31 (.bslF 1 [.t 30])⟩,
  ⟨none, .app 32 zE8 1 (.t 29) (.t 31)⟩,
  ⟨none, .mvo 8 32⟩] false [.forget [29, 30, 31, 32]]
abbrev zVU : HCode := .reg [⟨none, .val 33 (.ints .add (.t 22) (.c (iv 1)))⟩,
  ⟨none, .val 22 (.mv (.t 33))⟩] false [.forget [33]]
abbrev zVV : HCode := .reg [⟨none, .val 34 (.mv (.t 8))⟩,
  ⟨none, .val 4 (.mv (.t 34))⟩,
  ⟨none, .val 5 (.mv (.c (iv 0)))⟩] false [.forget [34]]
abbrev yD3 : HCode := (.seq zYp (.seq zYq (.seq (.seq zYr (.cond (.t 17) (.seq zYs .ret) .skip)) (.seq zYt (.seq (.seq zYu (.block 0 (.loop (.seq zYv (.seq (.cond (.t 23) .skip (.exit 0)) (.seq (.block 1 (.seq zYw (.seq zYx (.cond (.t 28) zYy .skip)))) zVU)))))) (.seq zVV .ret))))))
abbrev zG7 : Env := { N := 35, Γ := [], L := 35, nfix := 0 }
abbrev yAu : List RSrc := [.tmp 4, .tmp 5]
theorem zYz {base : Nat} {av : List AV} {r : RV} (hfo : zAx zG7 base av) (hW : AVs.fits av → hwp Tryz.prog yD3 (zBO zG7 base av yAu r) (F0 zG7 base av)) (hov : ∀ x, r.res = .ov x → zBx av = 0 := by intro x h; cases h <;> rfl) : Contract Tryz.prog zHT av r :=
 zAa (fn := Tryz.f12) (c := Tryz.f12.body.getD .skip) (by kernel_rfl) (by kernel_rfl) (by kernel_rfl) (by kernel_rfl) (by kernel_rfl) (by kernel_rfl) (by kernel_rfl) hfo hW hov
abbrev zN4 : HCode := .reg [⟨none, .val 3 (.boxF (.t 0))⟩,
  ⟨none, .val 6 (.mv (.c (iv 0)))⟩,
  ⟨none, .val 7 (.mv (.c (bv false)))⟩,
  ⟨none, .val 8 (.mv (.c (iv 0)))⟩] false []
abbrev zN5 : HCode := .reg [⟨none, .val 13 (.ldR (.t 3) 1 true)⟩,
  ⟨none, .val 14 (.mv (.t 1))⟩,
  ⟨none, .val 15 (.mv (.t 2))⟩,
  ⟨none, .call (some 16) zFe [(.t 13, .v), (.t 14, .v), (.t 15, .v)]⟩,
  ⟨none, .val 12 (.mv (.t 16))⟩,
  ⟨none, .val 17 (.ext 12 0)⟩,
  ⟨none, .val 18 (.ext 12 1)⟩,
  ⟨none, .val 9 (.mv (.t 17))⟩,
  ⟨none, .val 10 (.mv (.t 18))⟩] false [.forget [12, 13, 14, 15, 16, 17, 18]]
abbrev zN6 : HCode := .reg [⟨none, .val 19 (.mv (.t 10))⟩,
  ⟨none, .val 20 (.ints .neq (.t 19) (.c (iv 0)))⟩] false [.forget [19]]
abbrev zN7 : HCode := .reg [⟨none, .val 21 (.mv (.t 10))⟩,
  ⟨none, .val 6 (.mv (.c (iv 0)))⟩,
  ⟨none, .val 7 (.mv (.c (bv false)))⟩,
  ⟨none, .val 8 (.mv (.t 21))⟩] false [.forget [21]]
abbrev zN8 : HCode := .reg [⟨none, .val 22 (.mv (.t 2))⟩,
  ⟨none, .val 11 (.mv (.t 22))⟩] false [.forget [22]]
abbrev zN9 : HCode := .reg [⟨none, .val 23 (.mv (.t 11))⟩,
  ⟨none, .val 24 (.ints .geq (.t 23) (.c (iv 0)))⟩] false [.forget [23]]
abbrev zOa : HCode := .reg [⟨none, .val 31 (.mv (.t 9))⟩,
  ⟨none, .val 32 (.mv (.t 1))⟩,
  ⟨none, .val 33 (.mv (.t 11))⟩,
  ⟨none, .call (some 34) zAC [(.t 31, .v), (.t 32, .v), (.t 33, .v)]⟩] false [.forget [31, 32, 33]]
abbrev zOb : HCode := .reg [⟨none, .val 35 (.mv (.t 11))⟩,
  ⟨none, .val 6 (.mv (.t 35))⟩,
  ⟨none, .val 7 (.mv (.c (bv true)))⟩,
  ⟨none, .val 8 (.mv (.c (iv 0)))⟩] false [.forget [35]]
abbrev zOc : HCode := .reg [⟨none, .val 25 (.fldR (.t 3) 0 1)⟩,
  ⟨none, .val 26 (.ldR (.t 25) 1 false)⟩,
  ⟨none, .val 27 (.mv (.t 11))⟩,
  ⟨none, .val 28 (.idxA 5 (.t 26) (.t 27))⟩,
  ⟨none, .val 29 (.fldR (.t 28) 0 1)⟩,
  ⟨none, .val 30 (.ldR (.t 29) 1 false)⟩,
  ⟨none, .val 11 (.mv (.t 30))⟩] false [.forget [25, 26, 27, 28, 29, 30]]
abbrev zOd : HCode := .reg [⟨none, .val 6 (.mv (.c (iv 0)))⟩,
  ⟨none, .val 7 (.mv (.c (bv false)))⟩,
  ⟨none, .val 8 (.mv (.c (iv 0)))⟩] false []
abbrev zVW : HCode := (.seq zN4 (.seq zN5 (.seq (.seq zN6 (.cond (.t 20) (.seq zN7 .ret) .skip)) (.seq (.seq zN8 (.block 0 (.loop (.seq (.seq zN9 (.cond (.t 24) .skip (.exit 0))) (.seq (.block 1 (.seq zOa (.cond (.t 34) (.seq zOb .ret) .skip))) zOc))))) (.seq zOd .ret)))))
abbrev zDM : Env := { N := 36, Γ := [], L := 36, nfix := 0 }
abbrev zQB : List RSrc := [.tmp 6, .tmp 7, .tmp 8]
theorem zOe {base : Nat} {av : List AV} {r : RV} (hfo : zAx zDM base av) (hW : AVs.fits av → hwp Tryz.prog zVW (zBO zDM base av zQB r) (F0 zDM base av)) (hov : ∀ x, r.res = .ov x → zBx av = 0 := by intro x h; cases h <;> rfl) : Contract Tryz.prog zEt av r :=
 zAa (fn := Tryz.f58) (c := Tryz.f58.body.getD .skip) (by kernel_rfl) (by kernel_rfl) (by kernel_rfl) (by kernel_rfl) (by kernel_rfl) (by kernel_rfl) (by kernel_rfl) hfo hW hov
end Go.Hx
end

section
/-
 Where a count holds: what the program and the document reckon is the same. Plain Lean. No condition.
-/
namespace Go.Hx
variable [Glob]
theorem yEa {x y : Int} (_ : y ≠ 0) : x.tmod y = 0 ↔ ∃ k, x = y * k := by
 constructor
 ·intro h; exact ⟨x.tdiv y, by have := Int.mul_tdiv_add_tmod x y; omega⟩
 ·rintro ⟨k, rfl⟩; exact Int.mul_tmod_right y k
theorem yCG {a b i : Int} (he : zNm a b = 0) (hi : 1 ≤ i ∧ i ≤ 1073741824) : zFR a b i = true ↔ ∃ k : Int, 0 ≤ k ∧ i = b + a * k := by
 unfold zFR
 rw [decide_eq_true ⟨he, hi⟩, Bool.true_and]
 by_cases ha : a = 0
 ·subst ha
  rw [if_pos rfl, decide_eq_true_eq]
  constructor
  ·intro h; exact ⟨0, by omega, by omega⟩
  ·rintro ⟨k, _, h⟩; rw [Int.zero_mul] at h; omega
 ·rw [if_neg ha, Bool.and_eq_true, decide_eq_true_eq, decide_eq_true_eq, yEa ha]
  constructor
  ·rintro ⟨⟨k, hk⟩, h2⟩
   rw [hk, Int.mul_tdiv_cancel_left _ ha] at h2
   exact ⟨k, h2, by omega⟩
  ·rintro ⟨k, hk, h⟩
   have e : i - b = a * k := by omega
   exact ⟨⟨k, e⟩, by rw [e, Int.mul_tdiv_cancel_left _ ha]; exact hk⟩
theorem yFm {a b i : Int} (he : zNm a b = 0) (hi : 1 ≤ i ∧ i ≤ 1073741824) : zER a b i = true ↔ ∃ k : Int, 0 ≤ k ∧ i = b + a * k := by
 unfold zER
 rw [if_pos ⟨he, hi⟩]
 by_cases h1 : a = 0 ∨ i = b
 ·rw [if_pos h1, decide_eq_true_eq]
  constructor
  ·intro h; exact ⟨0, by omega, by omega⟩
  ·rintro ⟨k, _, h⟩
   rcases h1 with rfl | h1
   ·rw [Int.zero_mul] at h; omega
   ·exact h1
 ·rw [if_neg h1]
  have ha : a ≠ 0 := fun h => h1 (.inl h)
  by_cases h2 : 0 < a
  ·rw [if_pos h2, Bool.and_eq_true, decide_eq_true_eq, decide_eq_true_eq, yEa ha]
   constructor
   ·rintro ⟨h3, k, hk⟩
    refine ⟨k, ?_, by omega⟩
    apply Classical.byContradiction
    intro hn
    have := Int.mul_nonpos_of_nonneg_of_nonpos (show 0 ≤ a by omega) (show k ≤ 0 by omega)
    omega
   ·rintro ⟨k, hk, h⟩
    refine ⟨?_, k, by omega⟩
    have := Int.mul_nonneg (show 0 ≤ a by omega) hk
    omega
  ·rw [if_neg h2, Bool.and_eq_true, decide_eq_true_eq, decide_eq_true_eq, yEa (by omega)]
   constructor
   ·rintro ⟨h3, k, hk⟩
    refine ⟨k, ?_, ?_⟩
    ·apply Classical.byContradiction
     intro hn
     have := Int.mul_nonpos_of_nonneg_of_nonpos (show 0 ≤ -a by omega) (show k ≤ 0 by omega)
     omega
    ·rw [Int.neg_mul] at hk; omega
   ·rintro ⟨k, hk, h⟩
    refine ⟨?_, k, by rw [Int.neg_mul]; omega⟩
    have := Int.mul_nonneg (show 0 ≤ -a by omega) hk
    rw [Int.neg_mul] at this
    omega
theorem zYO (a b i : Int) : zFR a b i = zER a b i := by
 by_cases h : zNm a b = 0 ∧ 1 ≤ i ∧ i ≤ 1073741824
 ·have h1 := yCG h.1 h.2
  have h2 := yFm h.1 h.2
  rw [Bool.eq_iff_iff, h1, h2]
 ·unfold zFR zER
  rw [decide_eq_false h, if_neg h, Bool.false_and]
end Go.Hx
end

section
set_option maxRecDepth 100000
set_option linter.unusedSimpArgs false
namespace Go.Hx
open Go.Proofs
variable [Glob]
inductive Tr where
 | mk (x : Nd) (k : List Tr)
instance : Inhabited Tr := ⟨.mk default []⟩
attribute [local go_sem] zAz zAA zAy zAt ndV zAw List.take_zero List.map_nil
def Tr.nd : Tr → Nd | .mk x _ => x
mutual
def trV : Tr → List PV
 | .mk x k => [bI x.up, bS x.tag, bS x.id, .sl 1 (zTU x.cls), .sl 2 (yDm x.att), .sl 6 (yHp k)]
def yHp : List Tr → List (List PV)
 | [] => []
 | t :: r => trV t :: yHp r
end
theorem yBu : ∀ l : List Tr, yHp l = l.map trV
 | [] => rfl
 | t :: r => by simp [yHp, yBu r]
theorem yAH (t : Tr) : (trV t).length = 6 := by cases t; rfl
attribute [local go_sem] yAH
theorem zV4 (t : Tr) : (trV t).map PV.norm = trV t := by cases t; rfl
attribute [local go_sem] zV4
theorem zV5 : yHp [] = [] := rfl
attribute [local go_sem] zV5
theorem zV6 (l : List Tr) : (yHp l).length = l.length := by simp [yBu]
attribute [local go_sem] zV6
end Go.Hx
end

section
set_option maxRecDepth 100000
set_option linter.unusedSimpArgs false
namespace Go.Hx
open Go.Proofs
variable [Glob]
attribute [local go_sem] zAz zAA zAy zAt ndV zAw zV6 zV5 yAH zV4 List.take_zero List.map_nil
end Go.Hx
end

section
set_option maxRecDepth 100000
set_option linter.unusedSimpArgs false
namespace Go.Hx
open Go.Proofs
variable [Glob]
attribute [local go_sem] zAz zAA zAy zAt ndV zAw zV6 zV5 yAH zV4 List.take_zero List.map_nil
end Go.Hx
end

section
/-
 The abstract code of functions of the program, printed by gen.py; each stands for the given one. No condition.
-/
namespace Go.Hx
open Go.Proofs
variable [Glob]
abbrev zGJ : Nat := 5
abbrev zDN : Nat := 57
abbrev zD2 : Nat := 21
abbrev zMU : Nat := 20
abbrev zV7 : HCode := .reg [⟨none, .val 0 (.mv (.c (.one (.nl 2))))⟩] false []
abbrev zV8 : HCode := .reg [⟨none, .val 1 (.bld [.v (.int .i64 0), .v (.int .i64 0)] [(1, 1, .c (iv 1))])⟩,
  ⟨none, .val 2 (.bld [.v (.int .i64 0), .v (mkS []), .v (mkS []), .v (.int .i64 0), .v (.int .i64 0), .nl 2] [(0, 1, .c (iv 10)), (3, 2, .t 1)])⟩,
  ⟨none, .val 3 (.bslF 6 [.t 2])⟩,
  ⟨none, .val 4 (.bld [.v (mkS []), .nl 6] [(1, 1, .t 3)])⟩,
  ⟨none, .val 5 (.bslF 2 [.t 4])⟩,
  ⟨none, .val 6 (.bld [.nl 2, .nl 1] [(0, 1, .t 5)])⟩,
  ⟨none, .val 7 (.bslF 2 [.t 6])⟩,
  ⟨none, .val 8 (.bld [.v (.int .i64 0), .v (mkS []), .v (mkS []), .v (.int .i64 0), .v (.int .i64 0), .nl 2] [(0, 1, .c (iv 13)), (5, 1, .t 7)])⟩,
  ⟨none, .val 9 (.bslF 6 [.t 8])⟩,
  ⟨none, .val 10 (.bld [.v (mkS []), .nl 6] [(0, 1, .c (sv [105, 116, 101, 109])), (1, 1, .t 9)])⟩,
  ⟨none, .val 11 (.bld [.v (.int .i64 0), .v (mkS []), .v (mkS []), .v (.int .i64 0), .v (.int .i64 0), .nl 2] [(0, 1, .c (iv 8)), (1, 1, .c (sv [116, 111])), (2, 1, .c (sv [116, 119, 111]))])⟩,
  ⟨none, .val 12 (.bslF 6 [.t 11])⟩,
  ⟨none, .val 13 (.bld [.v (mkS []), .nl 6] [(1, 1, .t 12)])⟩,
  ⟨none, .val 14 (.bslF 2 [.t 13])⟩,
  ⟨none, .val 15 (.bld [.nl 2, .nl 1] [(0, 1, .t 14)])⟩,
  ⟨none, .val 16 (.bslF 2 [.t 15])⟩,
  ⟨none, .val 17 (.bld [.v (.int .i64 0), .v (mkS []), .v (mkS []), .v (.int .i64 0), .v (.int .i64 0), .nl 2] [(0, 1, .c (iv 15)), (5, 1, .t 16)])⟩,
  ⟨none, .val 18 (.bslF 6 [.t 17])⟩,
  ⟨none, .val 19 (.bld [.v (mkS []), .nl 6] [(1, 1, .t 18)])⟩,
  ⟨none, .val 20 (.bslF 2 [.t 10, .t 19])⟩,
  ⟨none, .val 21 (.bslF 1 [.c (iv 3)])⟩,
  ⟨none, .val 22 (.bld [.nl 2, .nl 1] [(0, 1, .t 20), (1, 1, .t 21)])⟩,
  ⟨none, .val 23 (.bld [.v (.int .i64 0), .v (mkS []), .v (mkS []), .v (.int .i64 0), .v (.int .i64 0), .nl 2] [(0, 1, .c (iv 2)), (1, 1, .c (sv [116, 111, 112]))])⟩,
  ⟨none, .val 24 (.bslF 6 [.t 23])⟩,
  ⟨none, .val 25 (.bld [.v (mkS []), .nl 6] [(1, 1, .t 24)])⟩,
  ⟨none, .val 26 (.bslF 2 [.t 25])⟩,
  ⟨none, .val 27 (.bld [.nl 2, .nl 1] [(0, 1, .t 26)])⟩,
  ⟨none, .val 28 (.bslF 2 [.t 22, .t 27])⟩,
  ⟨none, .val 0 (.mv (.t 28))⟩] false [.forget [1, 2, 3, 4, 5, 6, 7, 8, 9, 10, 11, 12, 13, 14, 15, 16, 17, 18, 19, 20, 21, 22, 23, 24, 25, 26, 27, 28]]
abbrev yCM : HCode := (.seq zV7 (.seq zV8 .ret))
abbrev zFX : Env := { N := 29, Γ := [], L := 29, nfix := 0 }
abbrev zYY : List RSrc := [.tmp 0]
theorem zV9 {base : Nat} {av : List AV} {r : RV} (hfo : zAx zFX base av) (hW : AVs.fits av → hwp Tryz.prog yCM (zBO zFX base av zYY r) (F0 zFX base av)) (hov : ∀ x, r.res = .ov x → zBx av = 0 := by intro x h; cases h <;> rfl) : Contract Tryz.prog zDN av r :=
 zAa (fn := Tryz.f57) (c := Tryz.f57.body.getD .skip) (by kernel_rfl) (by kernel_rfl) (by kernel_rfl) (by kernel_rfl) (by kernel_rfl) (by kernel_rfl) (by kernel_rfl) hfo hW hov
abbrev yCN : HCode := .reg [⟨none, .val 1 (.boxF (.t 0))⟩,
  ⟨none, .val 2 (.mv (.c (.one (.nl 2))))⟩] false []
abbrev yCO : HCode := .reg [⟨none, .val 3 (.ldR (.t 1) 6 true)⟩,
  ⟨none, .val 4 (.bslF 6 [.t 3])⟩,
  ⟨none, .val 5 (.bld [.v (mkS []), .nl 6] [(1, 1, .t 4)])⟩,
  ⟨none, .val 6 (.bslF 2 [.t 5])⟩,
  ⟨none, .val 7 (.bld [.nl 2, .nl 1] [(0, 1, .t 6)])⟩,
  ⟨none, .val 8 (.bslF 2 [.t 7])⟩,
  ⟨none, .val 2 (.mv (.t 8))⟩] false [.forget [3, 4, 5, 6, 7, 8]]
abbrev yHk : HCode := (.seq yCN (.seq yCO .ret))
abbrev zLN : Env := { N := 9, Γ := [], L := 9, nfix := 0 }
abbrev yEl : List RSrc := [.tmp 2]
theorem yCP {base : Nat} {av : List AV} {r : RV} (hfo : zAx zLN base av) (hW : AVs.fits av → hwp Tryz.prog yHk (zBO zLN base av yEl r) (F0 zLN base av)) (hov : ∀ x, r.res = .ov x → zBx av = 0 := by intro x h; cases h <;> rfl) : Contract Tryz.prog zMU av r :=
 zAa (fn := Tryz.f20) (c := Tryz.f20.body.getD .skip) (by kernel_rfl) (by kernel_rfl) (by kernel_rfl) (by kernel_rfl) (by kernel_rfl) (by kernel_rfl) (by kernel_rfl) hfo hW hov
abbrev zMV : HCode := .reg [⟨none, .val 0 (.mv (.c (bv false)))⟩] false []
abbrev zMW : HCode := .reg [⟨none, .call (some 11) zDh []⟩,
  ⟨none, .call (some 12) zDN []⟩,
  ⟨none, .call (some 13) zHT [(.t 11, .v), (.t 12, .v)]⟩,
  ⟨none, .val 10 (.mv (.t 13))⟩,
  ⟨none, .val 14 (.ext 10 0)⟩,
  ⟨none, .val 15 (.ext 10 1)⟩,
  ⟨none, .val 1 (.mv (.t 14))⟩,
  ⟨none, .val 2 (.mv (.t 15))⟩] false [.forget [10, 11, 12, 13, 14, 15]]
abbrev zMX : HCode := .reg [⟨none, .call (some 17) zDh []⟩,
  ⟨none, .call (some 18) zDN []⟩,
  ⟨none, .call (some 19) zEs [(.t 17, .v), (.t 18, .v), (.c (iv 2), .v)]⟩,
  ⟨none, .val 16 (.mv (.t 19))⟩,
  ⟨none, .val 20 (.ext 16 0)⟩,
  ⟨none, .val 21 (.ext 16 1)⟩,
  ⟨none, .val 3 (.mv (.t 20))⟩,
  ⟨none, .val 4 (.mv (.t 21))⟩] false [.forget [16, 17, 18, 19, 20, 21]]
abbrev zMY : HCode := .reg [⟨none, .call (some 23) zDh []⟩,
  ⟨none, .call (some 24) zDN []⟩,
  ⟨none, .call (some 25) zEt [(.t 23, .v), (.t 24, .v), (.c (iv 3), .v)]⟩,
  ⟨none, .val 22 (.mv (.t 25))⟩,
  ⟨none, .val 26 (.ext 22 0)⟩,
  ⟨none, .val 27 (.ext 22 1)⟩,
  ⟨none, .val 28 (.ext 22 2)⟩,
  ⟨none, .val 5 (.mv (.t 26))⟩,
  ⟨none, .val 6 (.mv (.t 27))⟩,
  ⟨none, .val 7 (.mv (.t 28))⟩] false [.forget [22, 23, 24, 25, 26, 27, 28]]
abbrev zMZ : HCode := .reg [⟨none, .call (some 30) zDh []⟩,
  ⟨none, .val 31 (.bld [.v (.int .i64 0), .v (.int .i64 0)] [(0, 1, .c (iv 2)), (1, 1, .c (iv 1))])⟩,
  ⟨none, .val 32 (.bld [.v (.int .i64 0), .v (mkS []), .v (mkS []), .v (.int .i64 0), .v (.int .i64 0), .nl 2] [(0, 1, .c (iv 9)), (3, 2, .t 31)])⟩,
  ⟨none, .call (some 33) zEU [(.t 30, .v), (.t 32, .v), (.c (iv 4), .v)]⟩,
  ⟨none, .val 29 (.mv (.t 33))⟩,
  ⟨none, .val 34 (.ext 29 0)⟩,
  ⟨none, .val 35 (.ext 29 1)⟩,
  ⟨none, .val 8 (.mv (.t 34))⟩,
  ⟨none, .val 9 (.mv (.t 35))⟩] false [.forget [29, 30, 31, 32, 33, 34, 35]]
abbrev zM0 : HCode := .reg [⟨none, .val 36 (.mv (.t 2))⟩,
  ⟨none, .val 37 (.ints .eql (.t 36) (.c (iv 0)))⟩,
  ⟨none, .val 38 (.mv (.t 37))⟩,
  ⟨some (38, true), .val 39 (.mv (.t 4))⟩,
  ⟨some (38, true), .val 40 (.ints .eql (.t 39) (.c (iv 0)))⟩,
  ⟨none, .val 41 (.pick (.t 38) (.t 40) (.c (bv false)))⟩,
  ⟨none, .val 42 (.mv (.t 41))⟩,
  ⟨some (42, true), .val 43 (.mv (.t 7))⟩,
  ⟨some (42, true), .val 44 (.ints .eql (.t 43) (.c (iv 0)))⟩,
  ⟨none, .val 45 (.pick (.t 42) (.t 44) (.c (bv false)))⟩,
  ⟨none, .val 46 (.mv (.t 45))⟩,
  ⟨some (46, true), .val 47 (.mv (.t 9))⟩,
  ⟨some (46, true), .val 48 (.ints .eql (.t 47) (.c (iv 0)))⟩,
  ⟨none, .val 49 (.pick (.t 46) (.t 48) (.c (bv false)))⟩,
  ⟨none, .val 50 (.mv (.t 49))⟩,
  ⟨some (50, true), .val 51 (.mv (.t 1))⟩,
  ⟨some (50, true), .val 52 (.bslF 1 [.c (iv 0), .c (iv 2)])⟩,
  ⟨some (50, true), .call (some 53) zE7 [(.t 51, .v), (.t 52, .v)]⟩,
  ⟨none, .val 54 (.pick (.t 50) (.t 53) (.c (bv false)))⟩,
  ⟨none, .val 55 (.mv (.t 54))⟩,
  ⟨some (55, true), .val 56 (.mv (.t 3))⟩,
  ⟨none, .val 57 (.pick (.t 55) (.t 56) (.c (bv false)))⟩,
  ⟨none, .val 58 (.mv (.t 57))⟩,
  ⟨some (58, true), .val 59 (.mv (.t 6))⟩,
  ⟨none, .val 60 (.pick (.t 58) (.t 59) (.c (bv false)))⟩,
  ⟨none, .val 61 (.mv (.t 60))⟩,
  ⟨some (61, true), .val 62 (.mv (.t 5))⟩,
  ⟨some (61, true), .val 63 (.ints .eql (.t 62) (.c (iv 2)))⟩,
  ⟨none, .val 64 (.pick (.t 61) (.t 63) (.c (bv false)))⟩,
  ⟨none, .val 65 (.mv (.t 64))⟩,
  ⟨some (65, true), .val 66 (.mv (.t 8))⟩,
  ⟨none, .val 67 (.pick (.t 65) (.t 66) (.c (bv false)))⟩,
  ⟨none, .val 0 (.mv (.t 67))⟩] false [.forget [36, 37, 38, 39, 40, 41, 42, 43, 44, 45, 46, 47, 48, 49, 50, 51, 52, 53, 54, 55, 56, 57, 58, 59, 60, 61, 62, 63, 64, 65, 66, 67]]
abbrev zSW : HCode := (.seq zMV (.seq zMW (.seq zMX (.seq zMY (.seq zMZ (.seq zM0 .ret))))))
abbrev zC7 : Env := { N := 68, Γ := [], L := 68, nfix := 0 }
abbrev zOi : List RSrc := [.tmp 0]
theorem zM1 {base : Nat} {av : List AV} {r : RV} (hfo : zAx zC7 base av) (hW : AVs.fits av → hwp Tryz.prog zSW (zBO zC7 base av zOi r) (F0 zC7 base av)) (hov : ∀ x, r.res = .ov x → zBx av = 0 := by intro x h; cases h <;> rfl) : Contract Tryz.prog zD2 av r :=
 zAa (fn := Tryz.f21) (c := Tryz.f21.body.getD .skip) (by kernel_rfl) (by kernel_rfl) (by kernel_rfl) (by kernel_rfl) (by kernel_rfl) (by kernel_rfl) (by kernel_rfl) hfo hW hov
abbrev zM2 : HCode := .reg [⟨none, .val 3 (.boxF (.t 0))⟩,
  ⟨none, .val 4 (.boxF (.t 1))⟩,
  ⟨none, .val 6 (.mv (.c (bv false)))⟩] false []
abbrev zM3 : HCode := .reg [⟨none, .val 11 (.ldR (.t 3) 1 true)⟩,
  ⟨none, .val 12 (.ldR (.t 4) 6 true)⟩,
  ⟨none, .val 13 (.mv (.t 2))⟩,
  ⟨none, .call (some 14) zEU [(.t 11, .v), (.t 12, .v), (.t 13, .v)]⟩,
  ⟨none, .val 10 (.mv (.t 14))⟩,
  ⟨none, .val 15 (.ext 10 0)⟩,
  ⟨none, .val 16 (.ext 10 1)⟩,
  ⟨none, .val 7 (.mv (.t 15))⟩,
  ⟨none, .val 8 (.mv (.t 16))⟩] false [.forget [10, 11, 12, 13, 14, 15, 16]]
abbrev zM4 : HCode := .drg [⟨0, false, ⟨none, .val 17 (.ldR (.t 3) 1 true)⟩⟩,
  ⟨1, false, ⟨none, .val 18 (.ldR (.t 4) 6 true)⟩⟩,
  ⟨2, false, ⟨none, .call (some 19) zMU [(.t 18, .v)]⟩⟩,
  ⟨3, false, ⟨none, .val 20 (.mv (.t 2))⟩⟩,
  ⟨4, true, ⟨none, .call (some 21) zD0 [(.t 17, .v), (.t 19, .v), (.t 20, .v)]⟩⟩,
  ⟨5, false, ⟨none, .val 9 (.mv (.t 21))⟩⟩] [.forget [17, 18, 19, 20, 21]]
abbrev zM5 : HCode := .reg [⟨none, .call (some 22) zD2 []⟩,
  ⟨none, .val 23 (.mv (.t 22))⟩,
  ⟨some (23, true), .val 24 (.mv (.t 8))⟩,
  ⟨some (23, true), .val 25 (.mv (.t 9))⟩,
  ⟨some (23, true), .val 26 (.ints .eql (.t 24) (.t 25))⟩,
  ⟨none, .val 27 (.pick (.t 23) (.t 26) (.c (bv false)))⟩,
  ⟨none, .val 28 (.mv (.t 27))⟩,
  ⟨some (28, true), .val 29 (.mv (.t 7))⟩,
  ⟨some (28, true), .val 30 (.mv (.t 9))⟩,
  ⟨some (28, true), .val 31 (.ints .eql (.t 30) (.c (iv 0)))⟩,
  ⟨some (28, true), .val 32 (.mv (.t 31))⟩,
  ⟨some (32, true), .val 33 (.ldR (.t 3) 1 true)⟩,
  ⟨some (32, true), .val 34 (.ldR (.t 4) 6 true)⟩,
  ⟨some (32, true), .val 35 (.mv (.t 2))⟩,
  ⟨some (32, true), .call (some 36) zCM [(.t 33, .v), (.t 34, .v), (.t 35, .v)]⟩,
  ⟨some (28, true), .val 37 (.pick (.t 32) (.t 36) (.c (bv false)))⟩,
  ⟨some (28, true), .val 38 (.boo false (.t 29) (.t 37))⟩,
  ⟨none, .val 39 (.pick (.t 28) (.t 38) (.c (bv false)))⟩,
  ⟨none, .val 6 (.mv (.t 39))⟩] false [.forget [22, 23, 24, 25, 26, 27, 28, 29, 30, 31, 32, 33, 34, 35, 36, 37, 38, 39]]
abbrev zSX : HCode := (.seq zM2 (.seq zM3 (.seq zM4 (.seq zM5 .ret))))
abbrev zC8 : Env := { N := 40, Γ := [], L := 40, nfix := 0 }
abbrev zOj : List RSrc := [.tmp 6]
theorem zM6 {base : Nat} {av : List AV} {r : RV} (hfo : zAx zC8 base av) (hW : AVs.fits av → hwp Tryz.prog zSX (zBO zC8 base av zOj r) (F0 zC8 base av)) (hov : ∀ x, r.res = .ov x → zBx av = 0 := by intro x h; cases h <;> rfl) : Contract Tryz.prog zGJ av r :=
 zAa (fn := Tryz.f5) (c := Tryz.f5.body.getD .skip) (by kernel_rfl) (by kernel_rfl) (by kernel_rfl) (by kernel_rfl) (by kernel_rfl) (by kernel_rfl) (by kernel_rfl) hfo hW hov
end Go.Hx
end
