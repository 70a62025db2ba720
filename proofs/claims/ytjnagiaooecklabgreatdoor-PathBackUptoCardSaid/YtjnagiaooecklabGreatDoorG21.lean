/-
  Walks of functions of the program over an abstract layer, and the laws that they use: each contract says what the function computes, for every input that its conditions let by. No other condition.
-/
import Derived.Test.YtjnagiaooecklabGreatDoorG20
set_option linter.all false
section
set_option maxRecDepth 100000
set_option linter.unusedSimpArgs false
namespace Go.Hx
open Go.Proofs Go.RowKit
attribute [local instance] zAZ
attribute [local go_sem] zAw zAu zAv zAm ndV zAq zAl OVal.cells List.map_nil List.map_cons zDL zT6
attribute [local go_sem] reduceCtorEq Nat.reduceAdd Nat.reduceEqDiff reduceIte Nat.reduceLeDiff Nat.reduceLT Nat.reduceSub
def oR (rows : List (List PV)) : List (List OV) := rows.map fun r => r.map .p
theorem zP6 (a : List (List PV)) (x : List PV) : oR (a ++ [x]) = oR a ++ [x.map .p] := by simp [oR]
theorem zSa (a : List (List PV)) : (oR a).length = a.length := by simp [oR]
theorem yCL {b : Option Nat} {e k : Nat} {rows : List (List PV)} : (OV.os b e k (oR rows)).frz = some (.sl k rows) := yCn (zQX rows)
theorem zHr (l : List St) (t : St) : zTO (l ++ [t]) = zTO l ++ [stV t] := by simp [zF9]
theorem zSb (l : List Pt) (t : Pt) : zGg (l ++ [t]) = zGg l ++ [ptV t] := by simp [zHm]
theorem zCH (l : List Int) (n : Int) : zGt (l ++ [n]) = zGt l ++ [[bI n]] := by simp [zGt]
theorem zXr {E : Env} {base t : Nat} {av : List AV} {F : List Ct} {e k : Nat} {rows : List (List PV)} {cells io : List PV} (h : F.getD t .un = .own e k rows) (hio : ioOf av = some cells) (hc : zAD F base cells.length = some io) : zDb E base av [.tmp t] { res := .own e k rows, io := io } .ret F :=
 ⟨h, fun cs h => by rw [hio] at h; injection h with h; subst h; exact hc⟩
theorem zSc {s t : Bys} (h : zAn s t = true) : (zAs s t).length + t.length = s.length := by
 have := congrArg List.length (zD7 h)
 rw [List.length_append] at this
 omega
theorem zSd {f d : Nat} {s : Bys} {x : St} {r : Bys} (h : zPU f d s = some (x, r)) : r.length ≤ s.length := by
 have := congrArg List.length ((zD8 f).2.2.2.1 _ _ _ _ h)
 rw [List.length_append] at this
 omega
def zME : Nat → Bys → Int
 | 0, s => zDe s
 | 1, s => if zAn s [32, 43, 32] then 3 else if zAn s [32, 126, 32] then 4 else if zAn s [32] then 1 else 0
 | 2, s => if zAn s [32, 126, 32] then 4 else if zAn s [32] then 1 else 0
 | 3, s => if zAn s [32] then 1 else 0
 | _, _ => 0
set_option maxHeartbeats 16000000 in
theorem zT3 (f : Nat) (hS : ∀ (g d : Nat) (s : Bys), g < f → d < 1000 → s.length ≤ 268435456 → 4 * s.length + 3 ≤ g → Contract Tryz.prog zBo [.io [bS s], .val (iv d)] (zBb g d s)) (d : Nat) (s : Bys) (hdd : d ≤ 1000) (hs : s.length ≤ 268435456) (hf : 4 * s.length + 5 ≤ f + 1) : Contract Tryz.prog zA7 [.io [bS s], .val (iv d)] (zBI (f + 1) d s) := by
 have hm0 : maxLen = 9223372036854775807 := rfl
 refine zJS (base := 50) ⟨Nat.le_of_ble_eq_true rfl, Nat.le_of_ble_eq_true rfl, Nat.le_of_ble_eq_true rfl, ⟨rfl, rfl⟩⟩ (fun hfit => ?_) (fun _ _ => rfl)
 unfold F0 zCZ
 simp (maxSteps := 2000000) only [zAS, List.set_cons_succ, List.set_cons_zero, List.map_cons, List.map_nil, zAQ, zAb, ioOf, List.length_cons, List.length_nil, Nat.reduceAdd, Nat.reduceSub, List.replicate, List.cons_append, List.nil_append]
 try simp (maxSteps := 2000000) only [go_sem]
 repeat with_reducible refine zAc ?_
 refine zAa (by rfl) trivial (fun h1 => ?_) (fun h1 => ?_)
 ·have h1' : 3 < d := by simp at h1; omega
  have e : zBI (f + 1) d s = { res := .pan xbV } := by unfold zBI; rw [zQH, if_pos h1']
  rw [e]
  try simp (maxSteps := 2000000) only [go_sem]
  repeat with_reducible refine zAc ?_
  exact ⟨_, rfl, rfl⟩
 ·have h1' : ¬ 3 < d := by simp at h1; omega
  have hd : d < 1000 := by omega
  have hE : zQH (f + 1) d s = zMs f d s [] := by rw [zQH, if_neg h1']
  try simp (maxSteps := 2000000) only [go_sem]
  repeat with_reducible refine zAc ?_
  refine zAz (fun x : Nat × List Pt × Bys => [(50, .pv (.one (bS x.2.2))), (5, .own zB2 2 (zGg x.2.1)), (4, .un), (6, .un), (8, .un), (18, .un), (19, .un), (20, .un), (26, .un), (48, .un), (51, .un), (52, .un)]) (fun x : Nat × List Pt × Bys => x.1) (fun x : Nat × List Pt × Bys => 4 * x.2.2.length + 4 ≤ x.1 ∧ x.1 ≤ f ∧ x.2.1.length + x.2.2.length ≤ s.length ∧ zMs x.1 d x.2.2 x.2.1 = zMs f d s []) ((f, [], s)) ?_ ⟨by simp only; omega, Nat.le_refl _, by simp, rfl⟩ ?_
  focus (simp (maxSteps := 2000000) only [go_sem, zAg, zAo, zAB, zAd]; all_goals (repeat' (first | exact trivial | exact zAj (by omega) | exact zAi rfl | exact zAx rfl | exact zAp | exact le_refl _ | refine And.intro ?_ ?_)))
  rintro ⟨g, ac, r⟩ ⟨k1, k2, k3, k4⟩
  simp only at k1 k2 k3 k4
  obtain ⟨g', rfl⟩ : ∃ g', g = g' + 1 := ⟨g - 1, by omega⟩
  have hc := hS g' d r (by omega) hd (by omega) (by omega)
  rw [zMs] at k4
  cases ht : zPU g' d r with
  | none =>
   rw [ht] at k4
   have e2 : zBb g' d r = { res := .pan xbV } := by unfold zBb; rw [ht]
   have e : zBI (f + 1) d s = { res := .pan xbV } := by unfold zBI; rw [hE, ← k4]
   rw [e2] at hc
   rw [e]
   try simp (maxSteps := 2000000) only [go_sem]
   repeat with_reducible refine zAc ?_
   refine zBs (by repeat' constructor) hc ?_
   try simp (maxSteps := 2000000) only [go_sem]
   repeat with_reducible refine zAc ?_
   exact ⟨_, rfl, rfl⟩
  | some xr =>
   obtain ⟨x, r1⟩ := xr
   rw [ht] at k4
   simp only at k4
   have e2 : zBb g' d r = { res := .val (.agg (stV x)), io := [bS r1] } := by unfold zBb; rw [ht]
   have hr1 := zSd ht
   rw [e2] at hc
   try simp (maxSteps := 2000000) only [go_sem]
   repeat with_reducible refine zAc ?_
   refine zAf (by repeat' constructor) (hc) ?_
   try simp (maxSteps := 2000000) only [go_sem, zCi]
   repeat with_reducible refine zAc ?_
   refine zAz (fun y : Nat × List St × List Int × Bys => [(50, .pv (.one (bS y.2.2.2))), (51, .ov (.one (.os none zFi 2 (oR (zTO y.2.1))))), (52, .own zUz 1 (zGt y.2.2.1)), (8, .un), (18, .un), (19, .un), (20, .un), (26, .un)]) (fun y : Nat × List St × List Int × Bys => y.1) (fun y : Nat × List St × List Int × Bys => 4 * y.2.2.2.length + 1 ≤ y.1 ∧ y.1 ≤ g' ∧ (y.2.1.length + y.2.2.2.length ≤ s.length + 1 ∧ y.2.2.1.length + y.2.2.2.length ≤ s.length ∧ y.2.2.2.length ≤ r1.length) ∧ zMr y.1 d y.2.2.2 y.2.1 y.2.2.1 = zMr g' d r1 [x] []) ((g', [x], [], r1)) ?_ ⟨by simp only; omega, Nat.le_refl _, ⟨by simp only [List.length_cons, List.length_nil]; omega, by simp only [List.length_nil]; omega, Nat.le_refl _⟩, rfl⟩ ?_
   focus (simp (maxSteps := 2000000) only [go_sem, zAg, zAo, zAB, zAd]; all_goals (repeat' (first | exact trivial | exact zAj (by omega) | exact zAi rfl | exact zAx rfl | exact zAp | exact le_refl _ | refine And.intro ?_ ?_)))
   ·exact zAx (by simp only [zF9, List.map_cons, List.map_nil, oR, zCi])
   rintro ⟨h, st, lk, q⟩ ⟨l1, l2, ⟨l3, l5, l6⟩, l4⟩
   simp only at l1 l2 l3 l4 l5 l6
   obtain ⟨h', rfl⟩ : ∃ h', h = h' + 1 := ⟨h - 1, by omega⟩
   rw [zMr] at l4
   try simp (maxSteps := 2000000) only [go_sem]
   repeat with_reducible refine zAc ?_
   refine zAz (fun i : Nat => [(50, .pv (.one (bS q))), (51, .ov (.one (.os none zFi 2 (oR (zTO st))))), (52, .own zUz 1 (zGt lk)), (19, .pv (iv i)), (8, .un), (20, .un), (26, .un)]) (fun i : Nat => 4 - i) (fun i : Nat => i ≤ 4 ∧ zDe q = zME i q) (0) ?_ ⟨Nat.zero_le _, rfl⟩ ?_
   focus (simp (maxSteps := 2000000) only [go_sem, zAg, zAo, zAB, zAd]; all_goals (repeat' (first | exact trivial | exact zAj (by omega) | exact zAi rfl | exact zAx rfl | exact zAp | exact le_refl _ | refine And.intro ?_ ?_)))
   rintro i ⟨i1, k5⟩
   rcases (by omega : i = 0 ∨ i = 1 ∨ i = 2 ∨ i = 3 ∨ i = 4) with rfl | rfl | rfl | rfl | rfl
   ·have k5 : zDe q = (if zAn q [32, 62, 32] then 2 else zME 1 q) := by rw [k5]; rfl
    try simp (maxSteps := 2000000) only [go_sem]
    repeat with_reducible refine zAc ?_
    refine zAa (by rfl) trivial (fun g0 => ?_) (fun g0 => ?_)
    ·try simp (maxSteps := 2000000) only [go_sem]
     repeat with_reducible refine zAc ?_
     refine zAf (by repeat' constructor) (zHp) ?_
     try simp (maxSteps := 2000000) only [go_sem]
     repeat with_reducible refine zAc ?_
     refine zAf (by repeat' constructor) (zBp q [32, 62, 32]) ?_
     try simp (maxSteps := 2000000) only [go_sem]
     repeat with_reducible refine zAc ?_
     cases hg : zAn q [32, 62, 32] with
     | true =>
      rw [hg] at k5
      have hlk : zDe q = 2 := by rw [k5]; rfl
      have hsl := zSc hg
      simp only [List.length_cons, List.length_nil] at hsl
      rw [hlk] at l4
      rw [if_neg (by decide)] at l4
      have hlt : zOd 2 = [32, 62, 32] := rfl
      rw [hlt] at l4
      have hc := hS h' d (zAs q [32, 62, 32]) (by omega) hd (by omega) (by omega)
      refine zAa (by rfl) trivial (fun g1 => ?_) (fun g1 => ?_)
      ·cases ht : zPU h' d (zAs q [32, 62, 32]) with
       | none =>
        rw [ht] at l4
        have e2 : zBb h' d (zAs q [32, 62, 32]) = { res := .pan xbV } := by unfold zBb; rw [ht]
        have e : zBI (f + 1) d s = { res := .pan xbV } := by unfold zBI; rw [hE, ← k4, ← l4]
        rw [e2] at hc
        rw [e]
        try simp (maxSteps := 2000000) only [go_sem]
        repeat with_reducible refine zAc ?_
        refine zBs (by repeat' constructor) hc ?_
        try simp (maxSteps := 2000000) only [go_sem]
        repeat with_reducible refine zAc ?_
        intro F' hag
        exact ⟨_, rfl, rfl⟩
       | some xr =>
        obtain ⟨x', r'⟩ := xr
        rw [ht] at l4
        simp only at l4
        have e2 : zBb h' d (zAs q [32, 62, 32]) = { res := .val (.agg (stV x')), io := [bS r'] } := by unfold zBb; rw [ht]
        have hr' := zSd ht
        rw [e2] at hc
        try simp (maxSteps := 2000000) only [go_sem]
        repeat with_reducible refine zAc ?_
        refine zAf (by repeat' constructor) (hc) ?_
        try simp (maxSteps := 2000000) only [go_sem, zCi, zSa, zBu]
        repeat with_reducible refine zAc ?_
        refine ⟨(h', st ++ [x'], lk ++ [2], r'), by simp only; omega, ⟨by simp only; omega, by simp only; omega, by simp only [List.length_append, List.length_cons, List.length_nil]; omega, l4⟩, ?_⟩
        simp (maxSteps := 2000000) only [go_sem, zAg, zAo, zAB, zAd]
        all_goals (repeat' (first | exact trivial | exact zAj (by omega) | exact zAi rfl | exact zAx rfl | exact zAp | exact le_refl _ | refine And.intro ?_ ?_))
        all_goals first | exact zAd | exact zAx (by simp only [zHr, zP6, zCH, zCi]; rfl) | exact zDh (by rw [zCH]) | rfl
      ·cases g1
     | false =>
      rw [hg] at k5
      have e0 : zAs q [32, 62, 32] = q := by unfold zAs; rw [hg]; rfl
      refine zAa (by rfl) trivial (fun g1 => ?_) (fun g1 => ?_)
      ·cases g1
      ·try simp (maxSteps := 2000000) only [go_sem]
       repeat with_reducible refine zAc ?_
       rw [e0]
       refine ⟨1, by omega, ⟨by omega, by rw [k5]; rfl⟩, ?_⟩
       simp (maxSteps := 2000000) only [go_sem, zAg, zAo, zAB, zAd]
       all_goals (repeat' (first | exact trivial | exact zAj (by omega) | exact zAi rfl | exact zAx rfl | exact zAp | exact le_refl _ | refine And.intro ?_ ?_))
       all_goals first | exact zAd | rfl
    ·simp at g0
   ·have k5 : zDe q = (if zAn q [32, 43, 32] then 3 else zME 2 q) := by rw [k5]; rfl
    try simp (maxSteps := 2000000) only [go_sem]
    repeat with_reducible refine zAc ?_
    refine zAa (by rfl) trivial (fun g0 => ?_) (fun g0 => ?_)
    ·try simp (maxSteps := 2000000) only [go_sem]
     repeat with_reducible refine zAc ?_
     refine zAf (by repeat' constructor) (zHp) ?_
     try simp (maxSteps := 2000000) only [go_sem]
     repeat with_reducible refine zAc ?_
     refine zAf (by repeat' constructor) (zBp q [32, 43, 32]) ?_
     try simp (maxSteps := 2000000) only [go_sem]
     repeat with_reducible refine zAc ?_
     cases hg : zAn q [32, 43, 32] with
     | true =>
      rw [hg] at k5
      have hlk : zDe q = 3 := by rw [k5]; rfl
      have hsl := zSc hg
      simp only [List.length_cons, List.length_nil] at hsl
      rw [hlk] at l4
      rw [if_neg (by decide)] at l4
      have hlt : zOd 3 = [32, 43, 32] := rfl
      rw [hlt] at l4
      have hc := hS h' d (zAs q [32, 43, 32]) (by omega) hd (by omega) (by omega)
      refine zAa (by rfl) trivial (fun g1 => ?_) (fun g1 => ?_)
      ·cases ht : zPU h' d (zAs q [32, 43, 32]) with
       | none =>
        rw [ht] at l4
        have e2 : zBb h' d (zAs q [32, 43, 32]) = { res := .pan xbV } := by unfold zBb; rw [ht]
        have e : zBI (f + 1) d s = { res := .pan xbV } := by unfold zBI; rw [hE, ← k4, ← l4]
        rw [e2] at hc
        rw [e]
        try simp (maxSteps := 2000000) only [go_sem]
        repeat with_reducible refine zAc ?_
        refine zBs (by repeat' constructor) hc ?_
        try simp (maxSteps := 2000000) only [go_sem]
        repeat with_reducible refine zAc ?_
        intro F' hag
        exact ⟨_, rfl, rfl⟩
       | some xr =>
        obtain ⟨x', r'⟩ := xr
        rw [ht] at l4
        simp only at l4
        have e2 : zBb h' d (zAs q [32, 43, 32]) = { res := .val (.agg (stV x')), io := [bS r'] } := by unfold zBb; rw [ht]
        have hr' := zSd ht
        rw [e2] at hc
        try simp (maxSteps := 2000000) only [go_sem]
        repeat with_reducible refine zAc ?_
        refine zAf (by repeat' constructor) (hc) ?_
        try simp (maxSteps := 2000000) only [go_sem, zCi, zSa, zBu]
        repeat with_reducible refine zAc ?_
        refine ⟨(h', st ++ [x'], lk ++ [3], r'), by simp only; omega, ⟨by simp only; omega, by simp only; omega, by simp only [List.length_append, List.length_cons, List.length_nil]; omega, l4⟩, ?_⟩
        simp (maxSteps := 2000000) only [go_sem, zAg, zAo, zAB, zAd]
        all_goals (repeat' (first | exact trivial | exact zAj (by omega) | exact zAi rfl | exact zAx rfl | exact zAp | exact le_refl _ | refine And.intro ?_ ?_))
        all_goals first | exact zAd | exact zAx (by simp only [zHr, zP6, zCH, zCi]; rfl) | exact zDh (by rw [zCH]) | rfl
      ·cases g1
     | false =>
      rw [hg] at k5
      have e0 : zAs q [32, 43, 32] = q := by unfold zAs; rw [hg]; rfl
      refine zAa (by rfl) trivial (fun g1 => ?_) (fun g1 => ?_)
      ·cases g1
      ·try simp (maxSteps := 2000000) only [go_sem]
       repeat with_reducible refine zAc ?_
       rw [e0]
       refine ⟨2, by omega, ⟨by omega, by rw [k5]; rfl⟩, ?_⟩
       simp (maxSteps := 2000000) only [go_sem, zAg, zAo, zAB, zAd]
       all_goals (repeat' (first | exact trivial | exact zAj (by omega) | exact zAi rfl | exact zAx rfl | exact zAp | exact le_refl _ | refine And.intro ?_ ?_))
       all_goals first | exact zAd | rfl
    ·simp at g0
   ·have k5 : zDe q = (if zAn q [32, 126, 32] then 4 else zME 3 q) := by rw [k5]; rfl
    try simp (maxSteps := 2000000) only [go_sem]
    repeat with_reducible refine zAc ?_
    refine zAa (by rfl) trivial (fun g0 => ?_) (fun g0 => ?_)
    ·try simp (maxSteps := 2000000) only [go_sem]
     repeat with_reducible refine zAc ?_
     refine zAf (by repeat' constructor) (zHp) ?_
     try simp (maxSteps := 2000000) only [go_sem]
     repeat with_reducible refine zAc ?_
     refine zAf (by repeat' constructor) (zBp q [32, 126, 32]) ?_
     try simp (maxSteps := 2000000) only [go_sem]
     repeat with_reducible refine zAc ?_
     cases hg : zAn q [32, 126, 32] with
     | true =>
      rw [hg] at k5
      have hlk : zDe q = 4 := by rw [k5]; rfl
      have hsl := zSc hg
      simp only [List.length_cons, List.length_nil] at hsl
      rw [hlk] at l4
      rw [if_neg (by decide)] at l4
      have hlt : zOd 4 = [32, 126, 32] := rfl
      rw [hlt] at l4
      have hc := hS h' d (zAs q [32, 126, 32]) (by omega) hd (by omega) (by omega)
      refine zAa (by rfl) trivial (fun g1 => ?_) (fun g1 => ?_)
      ·cases ht : zPU h' d (zAs q [32, 126, 32]) with
       | none =>
        rw [ht] at l4
        have e2 : zBb h' d (zAs q [32, 126, 32]) = { res := .pan xbV } := by unfold zBb; rw [ht]
        have e : zBI (f + 1) d s = { res := .pan xbV } := by unfold zBI; rw [hE, ← k4, ← l4]
        rw [e2] at hc
        rw [e]
        try simp (maxSteps := 2000000) only [go_sem]
        repeat with_reducible refine zAc ?_
        refine zBs (by repeat' constructor) hc ?_
        try simp (maxSteps := 2000000) only [go_sem]
        repeat with_reducible refine zAc ?_
        intro F' hag
        exact ⟨_, rfl, rfl⟩
       | some xr =>
        obtain ⟨x', r'⟩ := xr
        rw [ht] at l4
        simp only at l4
        have e2 : zBb h' d (zAs q [32, 126, 32]) = { res := .val (.agg (stV x')), io := [bS r'] } := by unfold zBb; rw [ht]
        have hr' := zSd ht
        rw [e2] at hc
        try simp (maxSteps := 2000000) only [go_sem]
        repeat with_reducible refine zAc ?_
        refine zAf (by repeat' constructor) (hc) ?_
        try simp (maxSteps := 2000000) only [go_sem, zCi, zSa, zBu]
        repeat with_reducible refine zAc ?_
        refine ⟨(h', st ++ [x'], lk ++ [4], r'), by simp only; omega, ⟨by simp only; omega, by simp only; omega, by simp only [List.length_append, List.length_cons, List.length_nil]; omega, l4⟩, ?_⟩
        simp (maxSteps := 2000000) only [go_sem, zAg, zAo, zAB, zAd]
        all_goals (repeat' (first | exact trivial | exact zAj (by omega) | exact zAi rfl | exact zAx rfl | exact zAp | exact le_refl _ | refine And.intro ?_ ?_))
        all_goals first | exact zAd | exact zAx (by simp only [zHr, zP6, zCH, zCi]; rfl) | exact zDh (by rw [zCH]) | rfl
      ·cases g1
     | false =>
      rw [hg] at k5
      have e0 : zAs q [32, 126, 32] = q := by unfold zAs; rw [hg]; rfl
      refine zAa (by rfl) trivial (fun g1 => ?_) (fun g1 => ?_)
      ·cases g1
      ·try simp (maxSteps := 2000000) only [go_sem]
       repeat with_reducible refine zAc ?_
       rw [e0]
       refine ⟨3, by omega, ⟨by omega, by rw [k5]; rfl⟩, ?_⟩
       simp (maxSteps := 2000000) only [go_sem, zAg, zAo, zAB, zAd]
       all_goals (repeat' (first | exact trivial | exact zAj (by omega) | exact zAi rfl | exact zAx rfl | exact zAp | exact le_refl _ | refine And.intro ?_ ?_))
       all_goals first | exact zAd | rfl
    ·simp at g0
   ·have k5 : zDe q = (if zAn q [32] then 1 else zME 4 q) := by rw [k5]; rfl
    try simp (maxSteps := 2000000) only [go_sem]
    repeat with_reducible refine zAc ?_
    refine zAa (by rfl) trivial (fun g0 => ?_) (fun g0 => ?_)
    ·try simp (maxSteps := 2000000) only [go_sem]
     repeat with_reducible refine zAc ?_
     refine zAf (by repeat' constructor) (zHp) ?_
     try simp (maxSteps := 2000000) only [go_sem]
     repeat with_reducible refine zAc ?_
     refine zAf (by repeat' constructor) (zBp q [32]) ?_
     try simp (maxSteps := 2000000) only [go_sem]
     repeat with_reducible refine zAc ?_
     cases hg : zAn q [32] with
     | true =>
      rw [hg] at k5
      have hlk : zDe q = 1 := by rw [k5]; rfl
      have hsl := zSc hg
      simp only [List.length_cons, List.length_nil] at hsl
      rw [hlk] at l4
      rw [if_neg (by decide)] at l4
      have hlt : zOd 1 = [32] := rfl
      rw [hlt] at l4
      have hc := hS h' d (zAs q [32]) (by omega) hd (by omega) (by omega)
      refine zAa (by rfl) trivial (fun g1 => ?_) (fun g1 => ?_)
      ·cases ht : zPU h' d (zAs q [32]) with
       | none =>
        rw [ht] at l4
        have e2 : zBb h' d (zAs q [32]) = { res := .pan xbV } := by unfold zBb; rw [ht]
        have e : zBI (f + 1) d s = { res := .pan xbV } := by unfold zBI; rw [hE, ← k4, ← l4]
        rw [e2] at hc
        rw [e]
        try simp (maxSteps := 2000000) only [go_sem]
        repeat with_reducible refine zAc ?_
        refine zBs (by repeat' constructor) hc ?_
        try simp (maxSteps := 2000000) only [go_sem]
        repeat with_reducible refine zAc ?_
        intro F' hag
        exact ⟨_, rfl, rfl⟩
       | some xr =>
        obtain ⟨x', r'⟩ := xr
        rw [ht] at l4
        simp only at l4
        have e2 : zBb h' d (zAs q [32]) = { res := .val (.agg (stV x')), io := [bS r'] } := by unfold zBb; rw [ht]
        have hr' := zSd ht
        rw [e2] at hc
        try simp (maxSteps := 2000000) only [go_sem]
        repeat with_reducible refine zAc ?_
        refine zAf (by repeat' constructor) (hc) ?_
        try simp (maxSteps := 2000000) only [go_sem, zCi, zSa, zBu]
        repeat with_reducible refine zAc ?_
        refine ⟨(h', st ++ [x'], lk ++ [1], r'), by simp only; omega, ⟨by simp only; omega, by simp only; omega, by simp only [List.length_append, List.length_cons, List.length_nil]; omega, l4⟩, ?_⟩
        simp (maxSteps := 2000000) only [go_sem, zAg, zAo, zAB, zAd]
        all_goals (repeat' (first | exact trivial | exact zAj (by omega) | exact zAi rfl | exact zAx rfl | exact zAp | exact le_refl _ | refine And.intro ?_ ?_))
        all_goals first | exact zAd | exact zAx (by simp only [zHr, zP6, zCH, zCi]; rfl) | exact zDh (by rw [zCH]) | rfl
      ·cases g1
     | false =>
      rw [hg] at k5
      have e0 : zAs q [32] = q := by unfold zAs; rw [hg]; rfl
      refine zAa (by rfl) trivial (fun g1 => ?_) (fun g1 => ?_)
      ·cases g1
      ·try simp (maxSteps := 2000000) only [go_sem]
       repeat with_reducible refine zAc ?_
       rw [e0]
       refine ⟨4, by omega, ⟨by omega, by rw [k5]; rfl⟩, ?_⟩
       simp (maxSteps := 2000000) only [go_sem, zAg, zAo, zAB, zAd]
       all_goals (repeat' (first | exact trivial | exact zAj (by omega) | exact zAi rfl | exact zAx rfl | exact zAp | exact le_refl _ | refine And.intro ?_ ?_))
       all_goals first | exact zAd | rfl
    ·simp at g0
   ·have hlk : zDe q = 0 := by rw [k5]; rfl
    rw [if_pos hlk] at l4
    rw [← l4] at k4
    simp only at k4
    try simp (maxSteps := 2000000) only [go_sem]
    repeat with_reducible refine zAc ?_
    refine zAa (by rfl) trivial (fun g0 => ?_) (fun g0 => ?_)
    ·simp at g0
    ·try simp (maxSteps := 2000000) only [go_sem, yCL, zBY]
     repeat with_reducible refine zAc ?_
     refine zAf (by repeat' constructor) (zBp q [44, 32]) ?_
     try simp (maxSteps := 2000000) only [go_sem]
     repeat with_reducible refine zAc ?_
     cases hgc : zAn q [44, 32] with
     | true =>
      have hsl := zSc hgc
      simp only [List.length_cons, List.length_nil] at hsl
      rw [hgc, if_pos rfl] at k4
      refine zAa (by rfl) trivial (fun g2 => ?_) (fun g2 => ?_)
      ·cases g2
      ·try simp (maxSteps := 2000000) only [go_sem]
       repeat with_reducible refine zAc ?_
       refine ⟨(g', ac ++ [.mk st lk], zAs q [44, 32]), by simp only; omega, ⟨by simp only; omega, by simp only; omega, by simp only [List.length_append, List.length_cons, List.length_nil]; omega, k4⟩, ?_⟩
       simp (maxSteps := 2000000) only [go_sem, zAg, zAo, zAB, zAd]
       all_goals (repeat' (first | exact trivial | exact zAj (by omega) | exact zAi rfl | exact zAx rfl | exact zAp | exact le_refl _ | refine And.intro ?_ ?_))
       all_goals first | exact zAd | exact zDh (by rw [zSb, zB5]; rfl) | rfl
     | false =>
      have e0 : zAs q [44, 32] = q := by unfold zAs; rw [hgc]; rfl
      rw [hgc, if_neg (by simp)] at k4
      have e : zBI (f + 1) d s = { res := .own zB2 2 (zGg (ac ++ [.mk st lk])), io := [bS q] } := by unfold zBI; rw [hE, ← k4]
      rw [e, e0]
      refine zAa (by rfl) trivial (fun g2 => ?_) (fun g2 => ?_)
      ·try simp (maxSteps := 2000000) only [go_sem]
       repeat with_reducible refine zAc ?_
       exact zXr (by rw [zSb, zB5]; rfl) rfl rfl
      ·cases g2
end Go.Hx
end

section
set_option maxRecDepth 100000
set_option linter.unusedSimpArgs false
namespace Go.Hx
open Go.Proofs Go.RowKit
attribute [local instance] zAZ
attribute [local go_sem] zAw zAu zAv zAm ndV zAq zAl
theorem zHs : ∀ f g : Nat, g ≤ f →
  (∀ (d : Nat) (s : Bys), d ≤ 1000 → s.length ≤ 268435456 → 4 * s.length + 5 ≤ g → Contract Tryz.prog zA7 [.io [bS s], .val (iv d)] (zBI g d s)) ∧
  (∀ (d : Nat) (s : Bys), d < 1000 → s.length ≤ 268435456 → 4 * s.length + 3 ≤ g → Contract Tryz.prog zBo [.io [bS s], .val (iv d)] (zBb g d s)) ∧
  (∀ (d : Nat) (s : Bys), d < 1000 → s.length ≤ 268435456 → 4 * s.length + 1 ≤ g → Contract Tryz.prog zBN [.io [bS s], .val (iv d)] (zAN g d s))
 | 0, g, hg => ⟨fun d s _ _ h => by omega, fun d s _ _ h => by omega, fun d s _ _ h => by omega⟩
 | f + 1, g, hg => by
  by_cases hgf : g ≤ f
  ·exact zHs f g hgf
  ·have : g = f + 1 := by omega
   subst this
   exact ⟨fun d s h1 h2 h3 => zT3 f (fun g' d' s' h4 => (zHs f g' (by omega)).2.1 d' s') d s h1 h2 h3,
    fun d s h1 h2 h3 => zT2 f (fun g' d' s' h4 => (zHs f g' (by omega)).2.2 d' s') d s h1 h2 h3,
    fun d s h1 h2 h3 => zT1 f (fun d' s' => (zHs f f (Nat.le_refl _)).1 d' s') d s h1 h2 h3⟩
theorem zVX (s : Bys) (hs : s.length ≤ 268435456) : Contract Tryz.prog zA7 [.io [bS s], .val (iv 1)] (zBI (4 * s.length + 16) 1 s) :=
 (zHs _ _ (Nat.le_refl _)).1 1 s (by decide) hs (by omega)
end Go.Hx
end

section
/-
 Paths' weights. Plain Lean. No condition.
-/
set_option maxRecDepth 100000
set_option linter.unusedSimpArgs false
namespace Go.Hx
variable [Glob]
abbrev Wt := Nat × Nat × Nat
def zM2 (a b : Wt) : Wt := (a.1 + b.1, a.2.1 + b.2.1, a.2.2 + b.2.2)
def hvy (a b : Wt) : Bool := if a.1 ≠ b.1 then decide (b.1 < a.1) else if a.2.1 ≠ b.2.1 then decide (b.2.1 < a.2.1) else decide (b.2.2 < a.2.2)
def zCr (b : Wt) : List Wt → Wt
 | [] => b
 | x :: r => zCr (if hvy x b then x else b) r
def zSE (l : List Wt) : Wt := zCr (0, 0, 0) l
mutual
def wgT : Ts → Wt
 | .mk k _ _ _ _ l => if k = 2 then (1, 0, 0) else if k < 13 then (0, 1, 0) else zSE (zBF l)
def zER : List Ts → Wt
 | [] => (0, 0, 0)
 | t :: r => zM2 (wgT t) (zER r)
def wgS : St → Wt
 | .mk tag l => zM2 (0, 0, if tag = [] then 0 else 1) (zER l)
def zEu : List St → Wt
 | [] => (0, 0, 0)
 | x :: r => zM2 (wgS x) (zEu r)
def wgP : Pt → Wt
 | .mk st _ => zEu st
def zBF : List Pt → List Wt
 | [] => []
 | p :: r => wgP p :: zBF r
end
theorem zGo (t : Ts) : wgT t = if t.kind = 2 then (1, 0, 0) else if t.kind < 13 then (0, 1, 0) else zSE (zBF t.list) := by cases t; rw [wgT]; rfl
theorem yCM (x : St) : wgS x = zM2 (0, 0, if x.tag = [] then 0 else 1) (zER x.tests) := by cases x; rw [wgS]; rfl
theorem zZm (p : Pt) : wgP p = zEu p.steps := by cases p; rw [wgP]; rfl
theorem zBZ : ∀ l : List Pt, zBF l = l.map wgP
 | [] => by rw [zBF]; rfl
 | p :: r => by rw [zBF, zBZ r]; rfl
theorem zSo (a : Wt) : zM2 a (0, 0, 0) = a := rfl
theorem zSp (a : Wt) : zM2 (0, 0, 0) a = a := by simp [zM2]
theorem zOj (a b c : Wt) : zM2 (zM2 a b) c = zM2 a (zM2 b c) := by simp [zM2, Nat.add_assoc]
theorem zUX (a b : List Ts) : zER (a ++ b) = zM2 (zER a) (zER b) := by
 induction a with
 | nil => rw [List.nil_append, zER, zSp]
 | cons x r ih => rw [List.cons_append, zER, zER, ih, zOj]
theorem zUY (a b : List St) : zEu (a ++ b) = zM2 (zEu a) (zEu b) := by
 induction a with
 | nil => rw [List.nil_append, zEu, zSp]
 | cons x r ih => rw [List.cons_append, zEu, zEu, ih, zOj]
theorem zP8 {α : Type} (l : List α) (i : Nat) (d : α) (h : i < l.length) : l.take (i + 1) = l.take i ++ [l.getD i d] := by
 rw [List.take_add_one, List.getElem?_eq_getElem h]
 simp [List.getD_eq_getElem?_getD, h]
theorem zXu (l : List Ts) (m : Nat) (h : m < l.length) : zER (l.take (m + 1)) = zM2 (zER (l.take m)) (wgT (l.getD m default)) := by
 rw [zP8 l m default h, zUX, zER, zER, zSo]
theorem zXv (l : List St) (m : Nat) (h : m < l.length) : zEu (l.take (m + 1)) = zM2 (zEu (l.take m)) (wgS (l.getD m default)) := by
 rw [zP8 l m default h, zUY, zEu, zEu, zSo]
def wle (a : Wt) (n : Nat) : Prop := a.1 ≤ n ∧ a.2.1 ≤ n ∧ a.2.2 ≤ n
theorem wle.mono {a : Wt} {n m : Nat} (h : wle a n) (hm : n ≤ m) : wle a m := ⟨Nat.le_trans h.1 hm, Nat.le_trans h.2.1 hm, Nat.le_trans h.2.2 hm⟩
theorem wle.add {a b : Wt} {n m : Nat} (h : wle a n) (h' : wle b m) : wle (zM2 a b) (n + m) := ⟨Nat.add_le_add h.1 h'.1, Nat.add_le_add h.2.1 h'.2.1, Nat.add_le_add h.2.2 h'.2.2⟩
theorem wle.left {a b : Wt} {n : Nat} (h : wle (zM2 a b) n) : wle a n := ⟨Nat.le_trans (Nat.le_add_right _ _) h.1, Nat.le_trans (Nat.le_add_right _ _) h.2.1, Nat.le_trans (Nat.le_add_right _ _) h.2.2⟩
theorem zUZ {n : Nat} : ∀ (l : List Wt) (b : Wt), wle b n → (∀ x ∈ l, wle x n) → wle (zCr b l) n
 | [], b, hb, _ => hb
 | x :: r, b, hb, h => by
  rw [zCr]
  refine zUZ r _ ?_ (fun y hy => h y (List.mem_cons_of_mem _ hy))
  split
  ·exact h x List.mem_cons_self
  ·exact hb
theorem zYJ (x : Wt) : (if hvy x (0, 0, 0) then x else (0, 0, 0)) = x := by
 obtain ⟨a, b, c⟩ := x
 unfold hvy
 by_cases h1 : a = 0
 ·by_cases h2 : b = 0
  ·by_cases h3 : c = 0
   ·subst h1; subst h2; subst h3; rfl
   ·subst h1; subst h2
    have : 0 < c := by omega
    simp [this]
  ·subst h1
   have : 0 < b := by omega
   simp [h2, this]
 ·have : 0 < a := by omega
  simp [h1, this]
theorem zES (x : Wt) (r : List Wt) : zSE (x :: r) = zCr x r := by rw [zSE, zCr, zYJ]
theorem zOk : ∀ (l : List Wt) (b x : Wt), zCr b (l ++ [x]) = if hvy x (zCr b l) then x else zCr b l
 | [], b, x => by rw [List.nil_append, zCr, zCr, zCr]
 | y :: r, b, x => by rw [List.cons_append, zCr, zOk r, zCr]
theorem zYK (t : Ts) : 1 ≤ (zRV t).length := by
 obtain ⟨k, n, v, a, b, l⟩ := t
 rw [zDG]
 have ho : 1 ≤ (zSC k).length := by
  unfold zSC
  repeat' split
  all_goals simp
 repeat' split
 all_goals (simp only [List.length_cons, List.length_append, List.length_nil]; omega)
mutual
theorem wlT : ∀ t : Ts, wle (wgT t) (zRV t).length
 | .mk k n v a b l => by
  have hp := zYK (.mk k n v a b l)
  rw [wgT]
  split
  ·exact ⟨hp, Nat.zero_le _, Nat.zero_le _⟩
  ·split
   ·exact ⟨Nat.zero_le _, hp, Nat.zero_le _⟩
   ·rename_i h2 h13
    have hl := yEi l true
    rw [zDG, if_neg (by omega), if_neg (by omega), if_neg (by omega), if_neg (by omega), if_neg (by omega), if_neg (by omega), if_neg (by omega)]
    refine zUZ _ _ ⟨Nat.zero_le _, Nat.zero_le _, Nat.zero_le _⟩ fun x hx => (hl x hx).mono ?_
    simp only [List.length_append]
    omega
theorem yEh : ∀ l : List Ts, wle (zER l) (zB6 l).length
 | [] => by rw [zER]; exact ⟨Nat.zero_le _, Nat.zero_le _, Nat.zero_le _⟩
 | t :: r => by
  rw [zER, zB6, List.length_append]
  exact (wlT t).add (yEh r)
theorem wlS : ∀ x : St, wle (wgS x) (zM1 x).length
 | .mk tag l => by
  rw [wgS, zM1, List.length_append]
  refine wle.add ⟨Nat.zero_le _, Nat.zero_le _, ?_⟩ (yEh l)
  by_cases h : tag = []
  ·simp [h]
  ·have : 0 < tag.length := List.length_pos_iff.2 h
   simp only [if_neg h]
   omega
theorem yD6 : ∀ (l : List St) (lk : List Int) (b : Bool), wle (zEu l) (zBm l lk b).length
 | [], lk, b => by rw [zEu]; exact ⟨Nat.zero_le _, Nat.zero_le _, Nat.zero_le _⟩
 | x :: r, lk, true => by
  rw [zEu, zBm, List.length_append]
  exact (wlS x).add (yD6 r lk false)
 | x :: r, lk, false => by
  rw [zEu, zBm, List.length_append, List.length_append]
  exact ((wlS x).add (yD6 r lk.tail false)).mono (by omega)
theorem wlP : ∀ p : Pt, wle (wgP p) (zNz p).length
 | .mk st lk => by
  rw [wgP, zNz]
  exact yD6 st lk true
theorem yEi : ∀ (l : List Pt) (b : Bool), ∀ x ∈ zBF l, wle x (zBz l b).length
 | [], b => by rw [zBF]; intro x hx; cases hx
 | p :: r, b => by
  rw [zBF]
  intro x hx
  rw [zBz, List.length_append, List.length_append]
  rcases List.mem_cons.1 hx with rfl | hx
  ·exact (wlP p).mono (by omega)
  ·exact (yEi r false x hx).mono (by omega)
end
def wV (w : Wt) : List PV := [bI w.1, bI w.2.1, bI w.2.2]
def wsV (l : List Wt) : List (List PV) := l.map wV
theorem zXw (l : List Wt) : (wsV l).length = l.length := by simp [wsV]
theorem yAU (l : List Wt) (i : Nat) (h : i < l.length) : (wsV l).getD i [] = wV (l.getD i (0, 0, 0)) := by simp [wsV, h]
theorem zIJ (a b : List Wt) : wsV (a ++ b) = wsV a ++ wsV b := by simp [wsV]
end Go.Hx
end
