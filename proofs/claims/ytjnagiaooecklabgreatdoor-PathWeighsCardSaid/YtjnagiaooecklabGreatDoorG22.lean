/-
  Walks of functions of the program over an abstract layer, and the laws that they use: each contract says what the function computes, for every input that its conditions let by. No other condition.
-/
import Derived.Test.YtjnagiaooecklabGreatDoorG21
set_option linter.all false
section
set_option maxRecDepth 100000
set_option linter.unusedSimpArgs false
namespace Go.Hx
open Go.Proofs Go.RowKit
attribute [local instance] zA2
attribute [local go_sem] zAz zAx zAy zAq ndV zAu zAp OVal.cells List.map_nil List.map_cons zDY zXw
attribute [local go_sem] reduceCtorEq Nat.reduceAdd Nat.reduceEqDiff reduceIte Nat.reduceLeDiff Nat.reduceLT Nat.reduceSub
def oR (rows : List (List PV)) : List (List OV) := rows.map fun r => r.map .p
theorem zTi (a : List (List PV)) (x : List PV) : oR (a ++ [x]) = oR a ++ [x.map .p] := by simp [oR]
theorem zVt (a : List (List PV)) : (oR a).length = a.length := by simp [oR]
theorem yGf {b : Option Nat} {e k : Nat} {rows : List (List PV)} : (OV.os b e k (oR rows)).frz = some (.sl k rows) := yFT (zUa rows)
theorem zHS (l : List St) (t : St) : zK9 (l ++ [t]) = zK9 l ++ [stV t] := by simp [zGE]
theorem zVu (l : List Pt) (t : Pt) : zF2 (l ++ [t]) = zF2 l ++ [ptV t] := by simp [zHN]
theorem zCS (l : List Int) (n : Int) : zEZ (l ++ [n]) = zEZ l ++ [[bI n]] := by simp [zEZ]
theorem yA3 {E : Env} {base t : Nat} {av : List AV} {F : List Ct} {e k : Nat} {rows : List (List PV)} {cells io : List PV} (h : F.getD t .un = .own e k rows) (hio : ioOf av = some cells) (hc : zAE F base cells.length = some io) : zCj E base av [.tmp t] { res := .own e k rows, io := io } .ret F :=
 ⟨h, fun cs h => by rw [hio] at h; injection h with h; subst h; exact hc⟩
theorem zVv {s t : Bys} (h : zAs s t = true) : (zAw s t).length + t.length = s.length := by
 have := congrArg List.length (zEv h)
 rw [List.length_append] at this
 omega
theorem zVw {f d : Nat} {s : Bys} {x : St} {r : Bys} (h : zS2 f d s = some (x, r)) : r.length ≤ s.length := by
 have := congrArg List.length ((zFT f).2.2.2.1 _ _ _ _ h)
 rw [List.length_append] at this
 omega
def zOo : Nat → Bys → Int
 | 0, s => zDm s
 | 1, s => if zAs s [32, 43, 32] then 3 else if zAs s [32, 126, 32] then 4 else if zAs s [32] then 1 else 0
 | 2, s => if zAs s [32, 126, 32] then 4 else if zAs s [32] then 1 else 0
 | 3, s => if zAs s [32] then 1 else 0
 | _, _ => 0
set_option maxHeartbeats 16000000 in
theorem zXq (f : Nat) (hS : ∀ (g d : Nat) (s : Bys), g < f → d < 1000 → s.length ≤ 268435456 → 4 * s.length + 3 ≤ g → Contract Tryz.prog zBx [.io [bS s], .val (iv d)] (zBf g d s)) (d : Nat) (s : Bys) (hdd : d ≤ 1000) (hs : s.length ≤ 268435456) (hf : 4 * s.length + 5 ≤ f + 1) : Contract Tryz.prog zBb [.io [bS s], .val (iv d)] (zBP (f + 1) d s) := by
 have hm0 : maxLen = 9223372036854775807 := rfl
 refine zKG (base := 50) ⟨Nat.le_of_ble_eq_true rfl, Nat.le_of_ble_eq_true rfl, Nat.le_of_ble_eq_true rfl, ⟨rfl, rfl⟩⟩ (fun hfit => ?_) (fun _ _ => rfl)
 unfold F0 zDa
 simp (maxSteps := 2000000) only [zAN, List.set_cons_succ, List.set_cons_zero, List.map_cons, List.map_nil, zAM, zAb, ioOf, List.length_cons, List.length_nil, Nat.reduceAdd, Nat.reduceSub, List.replicate, List.cons_append, List.nil_append]
 try simp (maxSteps := 2000000) only [go_sem]
 repeat with_reducible refine zAd ?_
 refine zAa (by rfl) trivial (fun h1 => ?_) (fun h1 => ?_)
 ·have h1' : 3 < d := by simp at h1; omega
  have e : zBP (f + 1) d s = { res := .pan xbV } := by unfold zBP; rw [zTU, if_pos h1']
  rw [e]
  try simp (maxSteps := 2000000) only [go_sem]
  repeat with_reducible refine zAd ?_
  exact ⟨_, rfl, rfl⟩
 ·have h1' : ¬ 3 < d := by simp at h1; omega
  have hd : d < 1000 := by omega
  have hE : zTU (f + 1) d s = zOa f d s [] := by rw [zTU, if_neg h1']
  try simp (maxSteps := 2000000) only [go_sem]
  repeat with_reducible refine zAd ?_
  refine zAo (fun x : Nat × List Pt × Bys => [(50, .pv (.one (bS x.2.2))), (5, .own zCd 2 (zF2 x.2.1)), (4, .un), (6, .un), (8, .un), (18, .un), (19, .un), (20, .un), (26, .un), (48, .un), (51, .un), (52, .un)]) (fun x : Nat × List Pt × Bys => x.1) (fun x : Nat × List Pt × Bys => 4 * x.2.2.length + 4 ≤ x.1 ∧ x.1 ≤ f ∧ x.2.1.length + x.2.2.length ≤ s.length ∧ zOa x.1 d x.2.2 x.2.1 = zOa f d s []) ((f, [], s)) ?_ ⟨by simp only; omega, Nat.le_refl _, by simp, rfl⟩ ?_
  focus (simp (maxSteps := 2000000) only [go_sem, zAe, zAj, zAt, zAc]; all_goals (repeat' (first | exact trivial | exact zAg (by omega) | exact zAf rfl | exact zAr rfl | exact zAk | exact le_refl _ | refine And.intro ?_ ?_)))
  rintro ⟨g, ac, r⟩ ⟨k1, k2, k3, k4⟩
  simp only at k1 k2 k3 k4
  obtain ⟨g', rfl⟩ : ∃ g', g = g' + 1 := ⟨g - 1, by omega⟩
  have hc := hS g' d r (by omega) hd (by omega) (by omega)
  rw [zOa] at k4
  cases ht : zS2 g' d r with
  | none =>
   rw [ht] at k4
   have e2 : zBf g' d r = { res := .pan xbV } := by unfold zBf; rw [ht]
   have e : zBP (f + 1) d s = { res := .pan xbV } := by unfold zBP; rw [hE, ← k4]
   rw [e2] at hc
   rw [e]
   try simp (maxSteps := 2000000) only [go_sem]
   repeat with_reducible refine zAd ?_
   refine zBA (by repeat' constructor) hc ?_
   try simp (maxSteps := 2000000) only [go_sem]
   repeat with_reducible refine zAd ?_
   exact ⟨_, rfl, rfl⟩
  | some xr =>
   obtain ⟨x, r1⟩ := xr
   rw [ht] at k4
   simp only at k4
   have e2 : zBf g' d r = { res := .val (.agg (stV x)), io := [bS r1] } := by unfold zBf; rw [ht]
   have hr1 := zVw ht
   rw [e2] at hc
   try simp (maxSteps := 2000000) only [go_sem]
   repeat with_reducible refine zAd ?_
   refine zAh (by repeat' constructor) (hc) ?_
   try simp (maxSteps := 2000000) only [go_sem, zBK]
   repeat with_reducible refine zAd ?_
   refine zAo (fun y : Nat × List St × List Int × Bys => [(50, .pv (.one (bS y.2.2.2))), (51, .ov (.one (.os none zFK 2 (oR (zK9 y.2.1))))), (52, .own zXZ 1 (zEZ y.2.2.1)), (8, .un), (18, .un), (19, .un), (20, .un), (26, .un)]) (fun y : Nat × List St × List Int × Bys => y.1) (fun y : Nat × List St × List Int × Bys => 4 * y.2.2.2.length + 1 ≤ y.1 ∧ y.1 ≤ g' ∧ (y.2.1.length + y.2.2.2.length ≤ s.length + 1 ∧ y.2.2.1.length + y.2.2.2.length ≤ s.length ∧ y.2.2.2.length ≤ r1.length) ∧ zN9 y.1 d y.2.2.2 y.2.1 y.2.2.1 = zN9 g' d r1 [x] []) ((g', [x], [], r1)) ?_ ⟨by simp only; omega, Nat.le_refl _, ⟨by simp only [List.length_cons, List.length_nil]; omega, by simp only [List.length_nil]; omega, Nat.le_refl _⟩, rfl⟩ ?_
   focus (simp (maxSteps := 2000000) only [go_sem, zAe, zAj, zAt, zAc]; all_goals (repeat' (first | exact trivial | exact zAg (by omega) | exact zAf rfl | exact zAr rfl | exact zAk | exact le_refl _ | refine And.intro ?_ ?_)))
   ·exact zAr (by simp only [zGE, List.map_cons, List.map_nil, oR, zBK])
   rintro ⟨h, st, lk, q⟩ ⟨l1, l2, ⟨l3, l5, l6⟩, l4⟩
   simp only at l1 l2 l3 l4 l5 l6
   obtain ⟨h', rfl⟩ : ∃ h', h = h' + 1 := ⟨h - 1, by omega⟩
   rw [zN9] at l4
   try simp (maxSteps := 2000000) only [go_sem]
   repeat with_reducible refine zAd ?_
   refine zAo (fun i : Nat => [(50, .pv (.one (bS q))), (51, .ov (.one (.os none zFK 2 (oR (zK9 st))))), (52, .own zXZ 1 (zEZ lk)), (19, .pv (iv i)), (8, .un), (20, .un), (26, .un)]) (fun i : Nat => 4 - i) (fun i : Nat => i ≤ 4 ∧ zDm q = zOo i q) (0) ?_ ⟨Nat.zero_le _, rfl⟩ ?_
   focus (simp (maxSteps := 2000000) only [go_sem, zAe, zAj, zAt, zAc]; all_goals (repeat' (first | exact trivial | exact zAg (by omega) | exact zAf rfl | exact zAr rfl | exact zAk | exact le_refl _ | refine And.intro ?_ ?_)))
   rintro i ⟨i1, k5⟩
   rcases (by omega : i = 0 ∨ i = 1 ∨ i = 2 ∨ i = 3 ∨ i = 4) with rfl | rfl | rfl | rfl | rfl
   ·have k5 : zDm q = (if zAs q [32, 62, 32] then 2 else zOo 1 q) := by rw [k5]; rfl
    try simp (maxSteps := 2000000) only [go_sem]
    repeat with_reducible refine zAd ?_
    refine zAa (by rfl) trivial (fun g0 => ?_) (fun g0 => ?_)
    ·try simp (maxSteps := 2000000) only [go_sem]
     repeat with_reducible refine zAd ?_
     refine zAh (by repeat' constructor) (zHP) ?_
     try simp (maxSteps := 2000000) only [go_sem]
     repeat with_reducible refine zAd ?_
     refine zAh (by repeat' constructor) (zBy q [32, 62, 32]) ?_
     try simp (maxSteps := 2000000) only [go_sem]
     repeat with_reducible refine zAd ?_
     cases hg : zAs q [32, 62, 32] with
     | true =>
      rw [hg] at k5
      have hlk : zDm q = 2 := by rw [k5]; rfl
      have hsl := zVv hg
      simp only [List.length_cons, List.length_nil] at hsl
      rw [hlk] at l4
      rw [if_neg (by decide)] at l4
      have hlt : zQT 2 = [32, 62, 32] := rfl
      rw [hlt] at l4
      have hc := hS h' d (zAw q [32, 62, 32]) (by omega) hd (by omega) (by omega)
      refine zAa (by rfl) trivial (fun g1 => ?_) (fun g1 => ?_)
      ·cases ht : zS2 h' d (zAw q [32, 62, 32]) with
       | none =>
        rw [ht] at l4
        have e2 : zBf h' d (zAw q [32, 62, 32]) = { res := .pan xbV } := by unfold zBf; rw [ht]
        have e : zBP (f + 1) d s = { res := .pan xbV } := by unfold zBP; rw [hE, ← k4, ← l4]
        rw [e2] at hc
        rw [e]
        try simp (maxSteps := 2000000) only [go_sem]
        repeat with_reducible refine zAd ?_
        refine zBA (by repeat' constructor) hc ?_
        try simp (maxSteps := 2000000) only [go_sem]
        repeat with_reducible refine zAd ?_
        intro F' hag
        exact ⟨_, rfl, rfl⟩
       | some xr =>
        obtain ⟨x', r'⟩ := xr
        rw [ht] at l4
        simp only at l4
        have e2 : zBf h' d (zAw q [32, 62, 32]) = { res := .val (.agg (stV x')), io := [bS r'] } := by unfold zBf; rw [ht]
        have hr' := zVw ht
        rw [e2] at hc
        try simp (maxSteps := 2000000) only [go_sem]
        repeat with_reducible refine zAd ?_
        refine zAh (by repeat' constructor) (hc) ?_
        try simp (maxSteps := 2000000) only [go_sem, zBK, zVt, zBs]
        repeat with_reducible refine zAd ?_
        refine ⟨(h', st ++ [x'], lk ++ [2], r'), by simp only; omega, ⟨by simp only; omega, by simp only; omega, by simp only [List.length_append, List.length_cons, List.length_nil]; omega, l4⟩, ?_⟩
        simp (maxSteps := 2000000) only [go_sem, zAe, zAj, zAt, zAc]
        all_goals (repeat' (first | exact trivial | exact zAg (by omega) | exact zAf rfl | exact zAr rfl | exact zAk | exact le_refl _ | refine And.intro ?_ ?_))
        all_goals first | exact zAc | exact zAr (by simp only [zHS, zTi, zCS, zBK]; rfl) | exact zDp (by rw [zCS]) | rfl
      ·cases g1
     | false =>
      rw [hg] at k5
      have e0 : zAw q [32, 62, 32] = q := by unfold zAw; rw [hg]; rfl
      refine zAa (by rfl) trivial (fun g1 => ?_) (fun g1 => ?_)
      ·cases g1
      ·try simp (maxSteps := 2000000) only [go_sem]
       repeat with_reducible refine zAd ?_
       rw [e0]
       refine ⟨1, by omega, ⟨by omega, by rw [k5]; rfl⟩, ?_⟩
       simp (maxSteps := 2000000) only [go_sem, zAe, zAj, zAt, zAc]
       all_goals (repeat' (first | exact trivial | exact zAg (by omega) | exact zAf rfl | exact zAr rfl | exact zAk | exact le_refl _ | refine And.intro ?_ ?_))
       all_goals first | exact zAc | rfl
    ·simp at g0
   ·have k5 : zDm q = (if zAs q [32, 43, 32] then 3 else zOo 2 q) := by rw [k5]; rfl
    try simp (maxSteps := 2000000) only [go_sem]
    repeat with_reducible refine zAd ?_
    refine zAa (by rfl) trivial (fun g0 => ?_) (fun g0 => ?_)
    ·try simp (maxSteps := 2000000) only [go_sem]
     repeat with_reducible refine zAd ?_
     refine zAh (by repeat' constructor) (zHP) ?_
     try simp (maxSteps := 2000000) only [go_sem]
     repeat with_reducible refine zAd ?_
     refine zAh (by repeat' constructor) (zBy q [32, 43, 32]) ?_
     try simp (maxSteps := 2000000) only [go_sem]
     repeat with_reducible refine zAd ?_
     cases hg : zAs q [32, 43, 32] with
     | true =>
      rw [hg] at k5
      have hlk : zDm q = 3 := by rw [k5]; rfl
      have hsl := zVv hg
      simp only [List.length_cons, List.length_nil] at hsl
      rw [hlk] at l4
      rw [if_neg (by decide)] at l4
      have hlt : zQT 3 = [32, 43, 32] := rfl
      rw [hlt] at l4
      have hc := hS h' d (zAw q [32, 43, 32]) (by omega) hd (by omega) (by omega)
      refine zAa (by rfl) trivial (fun g1 => ?_) (fun g1 => ?_)
      ·cases ht : zS2 h' d (zAw q [32, 43, 32]) with
       | none =>
        rw [ht] at l4
        have e2 : zBf h' d (zAw q [32, 43, 32]) = { res := .pan xbV } := by unfold zBf; rw [ht]
        have e : zBP (f + 1) d s = { res := .pan xbV } := by unfold zBP; rw [hE, ← k4, ← l4]
        rw [e2] at hc
        rw [e]
        try simp (maxSteps := 2000000) only [go_sem]
        repeat with_reducible refine zAd ?_
        refine zBA (by repeat' constructor) hc ?_
        try simp (maxSteps := 2000000) only [go_sem]
        repeat with_reducible refine zAd ?_
        intro F' hag
        exact ⟨_, rfl, rfl⟩
       | some xr =>
        obtain ⟨x', r'⟩ := xr
        rw [ht] at l4
        simp only at l4
        have e2 : zBf h' d (zAw q [32, 43, 32]) = { res := .val (.agg (stV x')), io := [bS r'] } := by unfold zBf; rw [ht]
        have hr' := zVw ht
        rw [e2] at hc
        try simp (maxSteps := 2000000) only [go_sem]
        repeat with_reducible refine zAd ?_
        refine zAh (by repeat' constructor) (hc) ?_
        try simp (maxSteps := 2000000) only [go_sem, zBK, zVt, zBs]
        repeat with_reducible refine zAd ?_
        refine ⟨(h', st ++ [x'], lk ++ [3], r'), by simp only; omega, ⟨by simp only; omega, by simp only; omega, by simp only [List.length_append, List.length_cons, List.length_nil]; omega, l4⟩, ?_⟩
        simp (maxSteps := 2000000) only [go_sem, zAe, zAj, zAt, zAc]
        all_goals (repeat' (first | exact trivial | exact zAg (by omega) | exact zAf rfl | exact zAr rfl | exact zAk | exact le_refl _ | refine And.intro ?_ ?_))
        all_goals first | exact zAc | exact zAr (by simp only [zHS, zTi, zCS, zBK]; rfl) | exact zDp (by rw [zCS]) | rfl
      ·cases g1
     | false =>
      rw [hg] at k5
      have e0 : zAw q [32, 43, 32] = q := by unfold zAw; rw [hg]; rfl
      refine zAa (by rfl) trivial (fun g1 => ?_) (fun g1 => ?_)
      ·cases g1
      ·try simp (maxSteps := 2000000) only [go_sem]
       repeat with_reducible refine zAd ?_
       rw [e0]
       refine ⟨2, by omega, ⟨by omega, by rw [k5]; rfl⟩, ?_⟩
       simp (maxSteps := 2000000) only [go_sem, zAe, zAj, zAt, zAc]
       all_goals (repeat' (first | exact trivial | exact zAg (by omega) | exact zAf rfl | exact zAr rfl | exact zAk | exact le_refl _ | refine And.intro ?_ ?_))
       all_goals first | exact zAc | rfl
    ·simp at g0
   ·have k5 : zDm q = (if zAs q [32, 126, 32] then 4 else zOo 3 q) := by rw [k5]; rfl
    try simp (maxSteps := 2000000) only [go_sem]
    repeat with_reducible refine zAd ?_
    refine zAa (by rfl) trivial (fun g0 => ?_) (fun g0 => ?_)
    ·try simp (maxSteps := 2000000) only [go_sem]
     repeat with_reducible refine zAd ?_
     refine zAh (by repeat' constructor) (zHP) ?_
     try simp (maxSteps := 2000000) only [go_sem]
     repeat with_reducible refine zAd ?_
     refine zAh (by repeat' constructor) (zBy q [32, 126, 32]) ?_
     try simp (maxSteps := 2000000) only [go_sem]
     repeat with_reducible refine zAd ?_
     cases hg : zAs q [32, 126, 32] with
     | true =>
      rw [hg] at k5
      have hlk : zDm q = 4 := by rw [k5]; rfl
      have hsl := zVv hg
      simp only [List.length_cons, List.length_nil] at hsl
      rw [hlk] at l4
      rw [if_neg (by decide)] at l4
      have hlt : zQT 4 = [32, 126, 32] := rfl
      rw [hlt] at l4
      have hc := hS h' d (zAw q [32, 126, 32]) (by omega) hd (by omega) (by omega)
      refine zAa (by rfl) trivial (fun g1 => ?_) (fun g1 => ?_)
      ·cases ht : zS2 h' d (zAw q [32, 126, 32]) with
       | none =>
        rw [ht] at l4
        have e2 : zBf h' d (zAw q [32, 126, 32]) = { res := .pan xbV } := by unfold zBf; rw [ht]
        have e : zBP (f + 1) d s = { res := .pan xbV } := by unfold zBP; rw [hE, ← k4, ← l4]
        rw [e2] at hc
        rw [e]
        try simp (maxSteps := 2000000) only [go_sem]
        repeat with_reducible refine zAd ?_
        refine zBA (by repeat' constructor) hc ?_
        try simp (maxSteps := 2000000) only [go_sem]
        repeat with_reducible refine zAd ?_
        intro F' hag
        exact ⟨_, rfl, rfl⟩
       | some xr =>
        obtain ⟨x', r'⟩ := xr
        rw [ht] at l4
        simp only at l4
        have e2 : zBf h' d (zAw q [32, 126, 32]) = { res := .val (.agg (stV x')), io := [bS r'] } := by unfold zBf; rw [ht]
        have hr' := zVw ht
        rw [e2] at hc
        try simp (maxSteps := 2000000) only [go_sem]
        repeat with_reducible refine zAd ?_
        refine zAh (by repeat' constructor) (hc) ?_
        try simp (maxSteps := 2000000) only [go_sem, zBK, zVt, zBs]
        repeat with_reducible refine zAd ?_
        refine ⟨(h', st ++ [x'], lk ++ [4], r'), by simp only; omega, ⟨by simp only; omega, by simp only; omega, by simp only [List.length_append, List.length_cons, List.length_nil]; omega, l4⟩, ?_⟩
        simp (maxSteps := 2000000) only [go_sem, zAe, zAj, zAt, zAc]
        all_goals (repeat' (first | exact trivial | exact zAg (by omega) | exact zAf rfl | exact zAr rfl | exact zAk | exact le_refl _ | refine And.intro ?_ ?_))
        all_goals first | exact zAc | exact zAr (by simp only [zHS, zTi, zCS, zBK]; rfl) | exact zDp (by rw [zCS]) | rfl
      ·cases g1
     | false =>
      rw [hg] at k5
      have e0 : zAw q [32, 126, 32] = q := by unfold zAw; rw [hg]; rfl
      refine zAa (by rfl) trivial (fun g1 => ?_) (fun g1 => ?_)
      ·cases g1
      ·try simp (maxSteps := 2000000) only [go_sem]
       repeat with_reducible refine zAd ?_
       rw [e0]
       refine ⟨3, by omega, ⟨by omega, by rw [k5]; rfl⟩, ?_⟩
       simp (maxSteps := 2000000) only [go_sem, zAe, zAj, zAt, zAc]
       all_goals (repeat' (first | exact trivial | exact zAg (by omega) | exact zAf rfl | exact zAr rfl | exact zAk | exact le_refl _ | refine And.intro ?_ ?_))
       all_goals first | exact zAc | rfl
    ·simp at g0
   ·have k5 : zDm q = (if zAs q [32] then 1 else zOo 4 q) := by rw [k5]; rfl
    try simp (maxSteps := 2000000) only [go_sem]
    repeat with_reducible refine zAd ?_
    refine zAa (by rfl) trivial (fun g0 => ?_) (fun g0 => ?_)
    ·try simp (maxSteps := 2000000) only [go_sem]
     repeat with_reducible refine zAd ?_
     refine zAh (by repeat' constructor) (zHP) ?_
     try simp (maxSteps := 2000000) only [go_sem]
     repeat with_reducible refine zAd ?_
     refine zAh (by repeat' constructor) (zBy q [32]) ?_
     try simp (maxSteps := 2000000) only [go_sem]
     repeat with_reducible refine zAd ?_
     cases hg : zAs q [32] with
     | true =>
      rw [hg] at k5
      have hlk : zDm q = 1 := by rw [k5]; rfl
      have hsl := zVv hg
      simp only [List.length_cons, List.length_nil] at hsl
      rw [hlk] at l4
      rw [if_neg (by decide)] at l4
      have hlt : zQT 1 = [32] := rfl
      rw [hlt] at l4
      have hc := hS h' d (zAw q [32]) (by omega) hd (by omega) (by omega)
      refine zAa (by rfl) trivial (fun g1 => ?_) (fun g1 => ?_)
      ·cases ht : zS2 h' d (zAw q [32]) with
       | none =>
        rw [ht] at l4
        have e2 : zBf h' d (zAw q [32]) = { res := .pan xbV } := by unfold zBf; rw [ht]
        have e : zBP (f + 1) d s = { res := .pan xbV } := by unfold zBP; rw [hE, ← k4, ← l4]
        rw [e2] at hc
        rw [e]
        try simp (maxSteps := 2000000) only [go_sem]
        repeat with_reducible refine zAd ?_
        refine zBA (by repeat' constructor) hc ?_
        try simp (maxSteps := 2000000) only [go_sem]
        repeat with_reducible refine zAd ?_
        intro F' hag
        exact ⟨_, rfl, rfl⟩
       | some xr =>
        obtain ⟨x', r'⟩ := xr
        rw [ht] at l4
        simp only at l4
        have e2 : zBf h' d (zAw q [32]) = { res := .val (.agg (stV x')), io := [bS r'] } := by unfold zBf; rw [ht]
        have hr' := zVw ht
        rw [e2] at hc
        try simp (maxSteps := 2000000) only [go_sem]
        repeat with_reducible refine zAd ?_
        refine zAh (by repeat' constructor) (hc) ?_
        try simp (maxSteps := 2000000) only [go_sem, zBK, zVt, zBs]
        repeat with_reducible refine zAd ?_
        refine ⟨(h', st ++ [x'], lk ++ [1], r'), by simp only; omega, ⟨by simp only; omega, by simp only; omega, by simp only [List.length_append, List.length_cons, List.length_nil]; omega, l4⟩, ?_⟩
        simp (maxSteps := 2000000) only [go_sem, zAe, zAj, zAt, zAc]
        all_goals (repeat' (first | exact trivial | exact zAg (by omega) | exact zAf rfl | exact zAr rfl | exact zAk | exact le_refl _ | refine And.intro ?_ ?_))
        all_goals first | exact zAc | exact zAr (by simp only [zHS, zTi, zCS, zBK]; rfl) | exact zDp (by rw [zCS]) | rfl
      ·cases g1
     | false =>
      rw [hg] at k5
      have e0 : zAw q [32] = q := by unfold zAw; rw [hg]; rfl
      refine zAa (by rfl) trivial (fun g1 => ?_) (fun g1 => ?_)
      ·cases g1
      ·try simp (maxSteps := 2000000) only [go_sem]
       repeat with_reducible refine zAd ?_
       rw [e0]
       refine ⟨4, by omega, ⟨by omega, by rw [k5]; rfl⟩, ?_⟩
       simp (maxSteps := 2000000) only [go_sem, zAe, zAj, zAt, zAc]
       all_goals (repeat' (first | exact trivial | exact zAg (by omega) | exact zAf rfl | exact zAr rfl | exact zAk | exact le_refl _ | refine And.intro ?_ ?_))
       all_goals first | exact zAc | rfl
    ·simp at g0
   ·have hlk : zDm q = 0 := by rw [k5]; rfl
    rw [if_pos hlk] at l4
    rw [← l4] at k4
    simp only at k4
    try simp (maxSteps := 2000000) only [go_sem]
    repeat with_reducible refine zAd ?_
    refine zAa (by rfl) trivial (fun g0 => ?_) (fun g0 => ?_)
    ·simp at g0
    ·try simp (maxSteps := 2000000) only [go_sem, yGf, zBR]
     repeat with_reducible refine zAd ?_
     refine zAh (by repeat' constructor) (zBy q [44, 32]) ?_
     try simp (maxSteps := 2000000) only [go_sem]
     repeat with_reducible refine zAd ?_
     cases hgc : zAs q [44, 32] with
     | true =>
      have hsl := zVv hgc
      simp only [List.length_cons, List.length_nil] at hsl
      rw [hgc, if_pos rfl] at k4
      refine zAa (by rfl) trivial (fun g2 => ?_) (fun g2 => ?_)
      ·cases g2
      ·try simp (maxSteps := 2000000) only [go_sem]
       repeat with_reducible refine zAd ?_
       refine ⟨(g', ac ++ [.mk st lk], zAw q [44, 32]), by simp only; omega, ⟨by simp only; omega, by simp only; omega, by simp only [List.length_append, List.length_cons, List.length_nil]; omega, k4⟩, ?_⟩
       simp (maxSteps := 2000000) only [go_sem, zAe, zAj, zAt, zAc]
       all_goals (repeat' (first | exact trivial | exact zAg (by omega) | exact zAf rfl | exact zAr rfl | exact zAk | exact le_refl _ | refine And.intro ?_ ?_))
       all_goals first | exact zAc | exact zDp (by rw [zVu, zA3]; rfl) | rfl
     | false =>
      have e0 : zAw q [44, 32] = q := by unfold zAw; rw [hgc]; rfl
      rw [hgc, if_neg (by simp)] at k4
      have e : zBP (f + 1) d s = { res := .own zCd 2 (zF2 (ac ++ [.mk st lk])), io := [bS q] } := by unfold zBP; rw [hE, ← k4]
      rw [e, e0]
      refine zAa (by rfl) trivial (fun g2 => ?_) (fun g2 => ?_)
      ·try simp (maxSteps := 2000000) only [go_sem]
       repeat with_reducible refine zAd ?_
       exact yA3 (by rw [zVu, zA3]; rfl) rfl rfl
      ·cases g2
end Go.Hx
end

section
set_option maxRecDepth 100000
set_option linter.unusedSimpArgs false
namespace Go.Hx
open Go.Proofs Go.RowKit
attribute [local instance] zA2
attribute [local go_sem] zAz zAx zAy zAq ndV zAu zAp
theorem zHT : ∀ f g : Nat, g ≤ f →
  (∀ (d : Nat) (s : Bys), d ≤ 1000 → s.length ≤ 268435456 → 4 * s.length + 5 ≤ g → Contract Tryz.prog zBb [.io [bS s], .val (iv d)] (zBP g d s)) ∧
  (∀ (d : Nat) (s : Bys), d < 1000 → s.length ≤ 268435456 → 4 * s.length + 3 ≤ g → Contract Tryz.prog zBx [.io [bS s], .val (iv d)] (zBf g d s)) ∧
  (∀ (d : Nat) (s : Bys), d < 1000 → s.length ≤ 268435456 → 4 * s.length + 1 ≤ g → Contract Tryz.prog zBV [.io [bS s], .val (iv d)] (zAQ g d s))
 | 0, g, hg => ⟨fun d s _ _ h => by omega, fun d s _ _ h => by omega, fun d s _ _ h => by omega⟩
 | f + 1, g, hg => by
  by_cases hgf : g ≤ f
  ·exact zHT f g hgf
  ·have : g = f + 1 := by omega
   subst this
   exact ⟨fun d s h1 h2 h3 => zXq f (fun g' d' s' h4 => (zHT f g' (by omega)).2.1 d' s') d s h1 h2 h3,
    fun d s h1 h2 h3 => zXp f (fun g' d' s' h4 => (zHT f g' (by omega)).2.2 d' s') d s h1 h2 h3,
    fun d s h1 h2 h3 => zXo f (fun d' s' => (zHT f f (Nat.le_refl _)).1 d' s') d s h1 h2 h3⟩
theorem zZy (s : Bys) (hs : s.length ≤ 268435456) : Contract Tryz.prog zBb [.io [bS s], .val (iv 1)] (zBP (4 * s.length + 16) 1 s) :=
 (zHT _ _ (Nat.le_refl _)).1 1 s (by decide) hs (by omega)
end Go.Hx
end

section
/-
 Paths' weights. Plain Lean. No condition.
-/
set_option maxRecDepth 100000
set_option linter.unusedSimpArgs false
namespace Go.Hx
variable [Glob]
abbrev Wt := Nat × Nat × Nat
def zON (a b : Wt) : Wt := (a.1 + b.1, a.2.1 + b.2.1, a.2.2 + b.2.2)
def hvy (a b : Wt) : Bool := if a.1 ≠ b.1 then decide (b.1 < a.1) else if a.2.1 ≠ b.2.1 then decide (b.2.1 < a.2.1) else decide (b.2.2 < a.2.2)
def zBk (b : Wt) : List Wt → Wt
 | [] => b
 | x :: r => zBk (if hvy x b then x else b) r
def zQZ (l : List Wt) : Wt := zBk (0, 0, 0) l
mutual
def wgT : Ts → Wt
 | .mk k _ _ _ _ l => if k = 2 then (1, 0, 0) else if k < 13 then (0, 1, 0) else zQZ (zBd l)
def zEA : List Ts → Wt
 | [] => (0, 0, 0)
 | t :: r => zON (wgT t) (zEA r)
def wgS : St → Wt
 | .mk tag l => zON (0, 0, if tag = [] then 0 else 1) (zEA l)
def zDC : List St → Wt
 | [] => (0, 0, 0)
 | x :: r => zON (wgS x) (zDC r)
def wgP : Pt → Wt
 | .mk st _ => zDC st
def zBd : List Pt → List Wt
 | [] => []
 | p :: r => wgP p :: zBd r
end
theorem zDZ (t : Ts) : wgT t = if t.kind = 2 then (1, 0, 0) else if t.kind < 13 then (0, 1, 0) else zQZ (zBd t.list) := by cases t; rw [wgT]; rfl
theorem yGg (x : St) : wgS x = zON (0, 0, if x.tag = [] then 0 else 1) (zEA x.tests) := by cases x; rw [wgS]; rfl
theorem yA6 (p : Pt) : wgP p = zDC p.steps := by cases p; rw [wgP]; rfl
theorem zCa : ∀ l : List Pt, zBd l = l.map wgP
 | [] => by rw [zBd]; rfl
 | p :: r => by rw [zBd, zCa r]; rfl
theorem zVH (a : Wt) : zON a (0, 0, 0) = a := rfl
theorem zVI (a : Wt) : zON (0, 0, 0) a = a := by simp [zON]
theorem zQ0 (a b c : Wt) : zON (zON a b) c = zON a (zON b c) := by simp [zON, Nat.add_assoc]
theorem zYn (a b : List Ts) : zEA (a ++ b) = zON (zEA a) (zEA b) := by
 induction a with
 | nil => rw [List.nil_append, zEA, zVI]
 | cons x r ih => rw [List.cons_append, zEA, zEA, ih, zQ0]
theorem zYo (a b : List St) : zDC (a ++ b) = zON (zDC a) (zDC b) := by
 induction a with
 | nil => rw [List.nil_append, zDC, zVI]
 | cons x r ih => rw [List.cons_append, zDC, zDC, ih, zQ0]
theorem zTk {α : Type} (l : List α) (i : Nat) (d : α) (h : i < l.length) : l.take (i + 1) = l.take i ++ [l.getD i d] := by
 rw [List.take_add_one, List.getElem?_eq_getElem h]
 simp [List.getD_eq_getElem?_getD, h]
theorem yA7 (l : List Ts) (m : Nat) (h : m < l.length) : zEA (l.take (m + 1)) = zON (zEA (l.take m)) (wgT (l.getD m default)) := by
 rw [zTk l m default h, zYn, zEA, zEA, zVH]
theorem yA8 (l : List St) (m : Nat) (h : m < l.length) : zDC (l.take (m + 1)) = zON (zDC (l.take m)) (wgS (l.getD m default)) := by
 rw [zTk l m default h, zYo, zDC, zDC, zVH]
def wle (a : Wt) (n : Nat) : Prop := a.1 ≤ n ∧ a.2.1 ≤ n ∧ a.2.2 ≤ n
theorem wle.mono {a : Wt} {n m : Nat} (h : wle a n) (hm : n ≤ m) : wle a m := ⟨Nat.le_trans h.1 hm, Nat.le_trans h.2.1 hm, Nat.le_trans h.2.2 hm⟩
theorem wle.add {a b : Wt} {n m : Nat} (h : wle a n) (h' : wle b m) : wle (zON a b) (n + m) := ⟨Nat.add_le_add h.1 h'.1, Nat.add_le_add h.2.1 h'.2.1, Nat.add_le_add h.2.2 h'.2.2⟩
theorem wle.left {a b : Wt} {n : Nat} (h : wle (zON a b) n) : wle a n := ⟨Nat.le_trans (Nat.le_add_right _ _) h.1, Nat.le_trans (Nat.le_add_right _ _) h.2.1, Nat.le_trans (Nat.le_add_right _ _) h.2.2⟩
theorem zYp {n : Nat} : ∀ (l : List Wt) (b : Wt), wle b n → (∀ x ∈ l, wle x n) → wle (zBk b l) n
 | [], b, hb, _ => hb
 | x :: r, b, hb, h => by
  rw [zBk]
  refine zYp r _ ?_ (fun y hy => h y (List.mem_cons_of_mem _ hy))
  split
  ·exact h x List.mem_cons_self
  ·exact hb
theorem yCp (x : Wt) : (if hvy x (0, 0, 0) then x else (0, 0, 0)) = x := by
 obtain ⟨a, b, c⟩ := x
 unfold hvy
 by_cases h1 : a = 0
 ·by_cases h2 : b = 0
  ·by_cases h3 : c = 0
   ·subst h1; subst h2; subst h3; rfl
   ·subst h1; subst h2
    have : 0 < c := by omega
    simp [this]
  ·subst h1
   have : 0 < b := by omega
   simp [h2, this]
 ·have : 0 < a := by omega
  simp [h1, this]
theorem zFk (x : Wt) (r : List Wt) : zQZ (x :: r) = zBk x r := by rw [zQZ, zBk, yCp]
theorem zGJ : ∀ (l : List Wt) (b x : Wt), zBk b (l ++ [x]) = if hvy x (zBk b l) then x else zBk b l
 | [], b, x => by rw [List.nil_append, zBk, zBk, zBk]
 | y :: r, b, x => by rw [List.cons_append, zBk, zGJ r, zBk]
theorem yCq (t : Ts) : 1 ≤ (zVc t).length := by
 obtain ⟨k, n, v, a, b, l⟩ := t
 rw [zDS]
 have ho : 1 ≤ (zVV k).length := by
  unfold zVV
  repeat' split
  all_goals simp
 repeat' split
 all_goals (simp only [List.length_cons, List.length_append, List.length_nil]; omega)
mutual
theorem wlT : ∀ t : Ts, wle (wgT t) (zVc t).length
 | .mk k n v a b l => by
  have hp := yCq (.mk k n v a b l)
  rw [wgT]
  split
  ·exact ⟨hp, Nat.zero_le _, Nat.zero_le _⟩
  ·split
   ·exact ⟨Nat.zero_le _, hp, Nat.zero_le _⟩
   ·rename_i h2 h13
    have hl := yHO l true
    rw [zDS, if_neg (by omega), if_neg (by omega), if_neg (by omega), if_neg (by omega), if_neg (by omega), if_neg (by omega), if_neg (by omega)]
    refine zYp _ _ ⟨Nat.zero_le _, Nat.zero_le _, Nat.zero_le _⟩ fun x hx => (hl x hx).mono ?_
    simp only [List.length_append]
    omega
theorem yHN : ∀ l : List Ts, wle (zEA l) (zCh l).length
 | [] => by rw [zEA]; exact ⟨Nat.zero_le _, Nat.zero_le _, Nat.zero_le _⟩
 | t :: r => by
  rw [zEA, zCh, List.length_append]
  exact (wlT t).add (yHN r)
theorem wlS : ∀ x : St, wle (wgS x) (zOM x).length
 | .mk tag l => by
  rw [wgS, zOM, List.length_append]
  refine wle.add ⟨Nat.zero_le _, Nat.zero_le _, ?_⟩ (yHN l)
  by_cases h : tag = []
  ·simp [h]
  ·have : 0 < tag.length := List.length_pos_iff.2 h
   simp only [if_neg h]
   omega
theorem yHx : ∀ (l : List St) (lk : List Int) (b : Bool), wle (zDC l) (zBv l lk b).length
 | [], lk, b => by rw [zDC]; exact ⟨Nat.zero_le _, Nat.zero_le _, Nat.zero_le _⟩
 | x :: r, lk, true => by
  rw [zDC, zBv, List.length_append]
  exact (wlS x).add (yHx r lk false)
 | x :: r, lk, false => by
  rw [zDC, zBv, List.length_append, List.length_append]
  exact ((wlS x).add (yHx r lk.tail false)).mono (by omega)
theorem wlP : ∀ p : Pt, wle (wgP p) (zP7 p).length
 | .mk st lk => by
  rw [wgP, zP7]
  exact yHx st lk true
theorem yHO : ∀ (l : List Pt) (b : Bool), ∀ x ∈ zBd l, wle x (zBH l b).length
 | [], b => by rw [zBd]; intro x hx; cases hx
 | p :: r, b => by
  rw [zBd]
  intro x hx
  rw [zBH, List.length_append, List.length_append]
  rcases List.mem_cons.1 hx with rfl | hx
  ·exact (wlP p).mono (by omega)
  ·exact (yHO r false x hx).mono (by omega)
end
def wV (w : Wt) : List PV := [bI w.1, bI w.2.1, bI w.2.2]
def wsV (l : List Wt) : List (List PV) := l.map wV
theorem yA9 (l : List Wt) : (wsV l).length = l.length := by simp [wsV]
theorem yEw (l : List Wt) (i : Nat) (h : i < l.length) : (wsV l).getD i [] = wV (l.getD i (0, 0, 0)) := by simp [wsV, h]
theorem zJc (a b : List Wt) : wsV (a ++ b) = wsV a ++ wsV b := by simp [wsV]
end Go.Hx
end
