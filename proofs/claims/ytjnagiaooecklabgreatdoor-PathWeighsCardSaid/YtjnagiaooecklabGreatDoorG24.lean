/-
  Walks of functions of the program: each contract says what the function computes, for every input that its conditions let by. No other condition.
-/
import Derived.Test.YtjnagiaooecklabGreatDoorG23
set_option linter.all false
set_option maxRecDepth 100000
set_option linter.unusedSimpArgs false
namespace Go.Hx
open Go.Proofs Go.RowKit
attribute [local instance] zA2
attribute [local go_sem] zAz zAx zAy zAq ndV zAu zAp zBR zBs zAW yA9 zA3 zBK zCg
attribute [local go_sem] reduceCtorEq Nat.reduceAdd Nat.reduceEqDiff reduceIte Nat.reduceLeDiff Nat.reduceLT Nat.reduceSub
theorem zCC {a b : Int} (h : a = b) : leC (.pv (.one (bI a))) (.pv (.one (bI b))) := zAr (by rw [h])
theorem zMj : zEA [] = (0, 0, 0) := by rw [zEA]
def tgN (s : Bys) : Nat := if s = [] then 0 else 1
theorem zH7 (l : List Ts) (m : Nat) (h : m < l.length) : ∃ D : Wt,
  ((zEA l).1 = (zEA (l.take m)).1 + (wgT (l.getD m default)).1 + D.1 ∧ (zEA l).2.1 = (zEA (l.take m)).2.1 + (wgT (l.getD m default)).2.1 + D.2.1 ∧ (zEA l).2.2 = (zEA (l.take m)).2.2 + (wgT (l.getD m default)).2.2 + D.2.2) ∧
  ((zEA (l.take (m + 1))).1 = (zEA (l.take m)).1 + (wgT (l.getD m default)).1 ∧ (zEA (l.take (m + 1))).2.1 = (zEA (l.take m)).2.1 + (wgT (l.getD m default)).2.1 ∧ (zEA (l.take (m + 1))).2.2 = (zEA (l.take m)).2.2 + (wgT (l.getD m default)).2.2) := by
 have h1 := yA7 l m h
 have h2 : zEA l = zON (zEA (l.take (m + 1))) (zEA (l.drop (m + 1))) := by rw [← zYn, List.take_append_drop]
 refine ⟨zEA (l.drop (m + 1)), ?_, ?_⟩
 ·rw [h2, h1]; exact ⟨rfl, rfl, rfl⟩
 ·rw [h1]; exact ⟨rfl, rfl, rfl⟩
theorem zVO (l : List St) (m : Nat) (h : m < l.length) : ∃ D : Wt, ∃ T : Wt, T = zEA (l.getD m default).tests ∧
  ((zDC l).1 = (zDC (l.take m)).1 + T.1 + D.1 ∧ (zDC l).2.1 = (zDC (l.take m)).2.1 + T.2.1 + D.2.1 ∧ (zDC l).2.2 = (zDC (l.take m)).2.2 + (tgN (l.getD m default).tag + T.2.2) + D.2.2) ∧
  ((zDC (l.take (m + 1))).1 = (zDC (l.take m)).1 + T.1 ∧ (zDC (l.take (m + 1))).2.1 = (zDC (l.take m)).2.1 + T.2.1 ∧ (zDC (l.take (m + 1))).2.2 = (zDC (l.take m)).2.2 + (tgN (l.getD m default).tag + T.2.2)) := by
 have h1 := yA8 l m h
 rw [yGg] at h1
 have h2 : zDC l = zON (zDC (l.take (m + 1))) (zDC (l.drop (m + 1))) := by rw [← zYo, List.take_append_drop]
 refine ⟨zDC (l.drop (m + 1)), _, rfl, ?_, ?_⟩
 ·rw [h2, h1]; refine ⟨?_, ?_, ?_⟩ <;> simp [zON, tgN]
 ·rw [h1]; refine ⟨?_, ?_, ?_⟩ <;> simp [zON, tgN]
theorem zDL (l : List Pt) (i : Nat) (h : i < l.length) : zBd (l.take (i + 1)) = zBd (l.take i) ++ [wgP (l.getD i default)] := by
 simp only [zCa]
 rw [zTk l i default h]
 simp
theorem zVP {p : Pt} {d : Nat} (hd : 1 ≤ d) (h : GP p d) : wle (zDC p.steps) 1000000000 := by
 have h1 := wlP p
 rw [yA6] at h1
 refine h1.mono ?_
 have h2 := yHr p d hd h
 have htb : tB d ≤ 1229192 := by
  unfold tB
  split
  ·omega
  ·split <;> omega
 omega
set_option maxHeartbeats 32000000 in
theorem zTO (d : Nat) (hd : 1 ≤ d) (hL : ∀ l : List Pt, GL l (d + 1) → ∀ x ∈ l, Contract Tryz.prog zCs [.val (.agg (ptV x))] { res := .val (.agg (wV (wgP x))) }) (p : Pt) (hp : GP p d) : Contract Tryz.prog zCs [.val (.agg (ptV p))] { res := .val (.agg (wV (wgP p))) } := by
 have hm0 : maxLen = 9223372036854775807 := rfl
 obtain ⟨p1, p2, p3, p4, p5⟩ := hp.parts'
 have hW := zVP hd hp
 rw [yA6]
 have hpv := zA3 p
 rw [zA3]
 refine zTv (base := 0) ⟨Nat.le_of_ble_eq_true rfl, Nat.le_of_ble_eq_true rfl, Nat.le_of_ble_eq_true rfl, rfl⟩ (fun hfit => ?_)
 unfold F0 zEU
 simp (maxSteps := 2000000) only [zAN, List.set_cons_succ, List.set_cons_zero, List.map_cons, List.map_nil, zAM, zAb, ioOf, List.length_cons, List.length_nil, Nat.reduceAdd, Nat.reduceSub, List.replicate, List.cons_append, List.nil_append]
 try simp (maxSteps := 2000000) only [go_sem]
 repeat with_reducible refine zAd ?_
 refine zAo (fun j : Nat => [(88, .pv (.one (bI ((zDC (p.steps.take j)).1 : Nat)))), (89, .pv (.one (bI ((zDC (p.steps.take j)).2.1 : Nat)))), (90, .pv (.one (bI ((zDC (p.steps.take j)).2.2 : Nat)))), (15, .pv (iv j)), (5, .un), (7, .un), (8, .un), (10, .un), (11, .un), (16, .un), (21, .un), (27, .un), (28, .un), (29, .un), (30, .un), (34, .un), (39, .un), (45, .un), (50, .un), (51, .un), (52, .un), (53, .un), (91, .un), (92, .un), (93, .un), (94, .un), (95, .un), (96, .un), (97, .un), (98, .un), (99, .un), (100, .un), (101, .un), (102, .un), (103, .un)]) (fun j : Nat => p.steps.length - j) (fun j : Nat => j ≤ p.steps.length) (0) ?_ (Nat.zero_le _) ?_
 focus (simp (maxSteps := 2000000) only [go_sem, zAe, zAj, zAt, zAc]; all_goals (repeat' (first | exact trivial | exact zAg (by omega) | exact zAf rfl | exact zAr rfl | exact zAk | exact le_refl _ | refine And.intro ?_ ?_)))
 all_goals try exact zCC (by rw [List.take_zero, zDC]; rfl)
 intro j hj
 try simp (maxSteps := 2000000) only [go_sem]
 repeat with_reducible refine zAd ?_
 refine zAa (by rfl) trivial (fun g1 => ?_) (fun g1 => ?_)
 ·have hjl : j < p.steps.length := by simp at g1; omega
  obtain ⟨SD, TT, hTT, ⟨b1, b2, b3⟩, ⟨e1, e2, e3⟩⟩ := zVO p.steps j hjl
  have hGs := GSs.get p5 j hjl
  have hsv := zDc p.steps j hjl
  obtain ⟨x, hx⟩ : ∃ x, x = p.steps.getD j default := ⟨_, rfl⟩
  rw [← hx] at hGs hsv hTT b3 e3
  subst hTT
  obtain ⟨x1, x2⟩ := hGs.parts'
  obtain ⟨w1, w2, w3⟩ := hW
  try simp (maxSteps := 2000000) only [go_sem, hsv]
  repeat with_reducible refine zAd ?_
  refine zAa (by rfl) trivial (fun g2 => ?_) (fun g2 => ?_)
  ·have hx0 : x.tag ≠ [] := by simpa using g2
   have htg : tgN x.tag = 1 := by unfold tgN; rw [if_neg hx0]
   try simp (maxSteps := 2000000) only [go_sem, hsv]
   repeat with_reducible refine zAd ?_
   refine zAo (fun m : Nat => [(88, .pv (.one (bI (((zDC (p.steps.take j)).1 + (zEA (x.tests.take m)).1 : Nat) : Int)))), (89, .pv (.one (bI (((zDC (p.steps.take j)).2.1 + (zEA (x.tests.take m)).2.1 : Nat) : Int)))), (90, .pv (.one (bI (((zDC (p.steps.take j)).2.2 + tgN x.tag + (zEA (x.tests.take m)).2.2 : Nat) : Int)))), (29, .pv (iv m)), (7, .un), (8, .un), (10, .un), (11, .un), (30, .un), (34, .un), (39, .un), (45, .un), (50, .un), (51, .un), (52, .un), (53, .un), (93, .un), (94, .un), (95, .un), (96, .un), (97, .un), (98, .un), (99, .un), (100, .un), (101, .un), (102, .un), (103, .un)]) (fun m : Nat => x.tests.length - m) (fun m : Nat => m ≤ x.tests.length) (0) ?_ (Nat.zero_le _) ?_
   focus (simp (maxSteps := 2000000) only [go_sem, zAe, zAj, zAt, zAc]; all_goals (repeat' (first | exact trivial | exact zAg (by omega) | exact zAf rfl | exact zAr rfl | exact zAk | exact le_refl _ | refine And.intro ?_ ?_)))
   all_goals try exact zCC (by simp only [List.take_zero, zMj, htg]; omega)
   intro m hm
   try simp (maxSteps := 2000000) only [go_sem, Nat.zero_add]
   repeat with_reducible refine zAd ?_
   refine zAa (by rfl) trivial (fun g3 => ?_) (fun g3 => ?_)
   ·have hml : m < x.tests.length := by simp at g3; omega
    have htv := zCr x.tests m hml
    have hGt := GTs.get x2 m hml
    obtain ⟨D, ⟨d1, d2, d3⟩, ⟨s1, s2, s3⟩⟩ := zH7 x.tests m hml
    obtain ⟨t, ht⟩ : ∃ t, t = x.tests.getD m default := ⟨_, rfl⟩
    rw [← ht] at htv hGt d1 d2 d3 s1 s2 s3
    obtain ⟨t1, t2⟩ := hGt.parts'
    try simp (maxSteps := 2000000) only [go_sem, htv]
    repeat with_reducible refine zAd ?_
    refine zAa (by rfl) trivial (fun q2 => ?_) (fun q2 => ?_)
    ·have hk : t.kind = 2 := by simpa using q2
     have hwT : wgT t = (1, 0, 0) := by rw [zDZ, if_pos hk]
     rw [hwT] at d1 d2 d3 s1 s2 s3
     simp only at d1 d2 d3 s1 s2 s3
     try simp (maxSteps := 2000000) only [go_sem]
     repeat with_reducible refine zAd ?_
     refine ⟨m + 1, by omega, by omega, ?_⟩
     simp (maxSteps := 2000000) only [go_sem, zAe, zAj, zAt, zAc]
     all_goals (repeat' (first | exact trivial | exact zAg (by omega) | exact zAf rfl | exact zAr rfl | exact zAk | exact le_refl _ | refine And.intro ?_ ?_))
     all_goals first | exact zAc | exact zAg (by omega) | exact zCC (by omega) | rfl
    ·have hk2 : t.kind ≠ 2 := by simpa using q2
     try simp (maxSteps := 2000000) only [go_sem]
     repeat with_reducible refine zAd ?_
     refine zAa (by rfl) trivial (fun q13 => ?_) (fun q13 => ?_)
     ·have hk : t.kind = 13 := by simpa using q13
      try simp (maxSteps := 2000000) only [go_sem]
      repeat with_reducible refine zAd ?_
      refine zAa (by rfl) trivial (fun q13b => ?_) (fun q13b => ?_)
      ·have hwT : wgT t = zQZ (zBd t.list) := by rw [zDZ, if_neg (by omega), if_neg (by omega)]
       have hGL := t2 (by omega)
       have hl5 := hGL.2.2.1
       try simp (maxSteps := 2000000) only [go_sem]
       repeat with_reducible refine zAd ?_
       refine zAo (fun i : Nat => [(8, .own zBE 3 (wsV (zBd (t.list.take i)))), (52, .pv (iv i)), (10, .un), (53, .un), (99, .un), (100, .un)]) (fun i : Nat => t.list.length - i) (fun i : Nat => i ≤ t.list.length) (0) ?_ (Nat.zero_le _) ?_
       focus (simp (maxSteps := 2000000) only [go_sem, zAe, zAj, zAt, zAc]; all_goals (repeat' (first | exact trivial | exact zAg (by omega) | exact zAf rfl | exact zAr rfl | exact zAk | exact le_refl _ | refine And.intro ?_ ?_)))
       all_goals try exact zDp (by rw [List.take_zero, zBd]; rfl)
       intro i hi
       try simp (maxSteps := 2000000) only [go_sem]
       repeat with_reducible refine zAd ?_
       refine zAa (by rfl) trivial (fun g9 => ?_) (fun g9 => ?_)
       ·have hil : i < t.list.length := by simp at g9; omega
        have hwt := zDL t.list i hil
        have hpg := zBC t.list i hil
        have hmem : t.list.getD i default ∈ t.list := by
         rw [List.getD_eq_getElem?_getD, List.getElem?_eq_getElem hil]; exact List.getElem_mem hil
        obtain ⟨y, hy⟩ : ∃ y, y = t.list.getD i default := ⟨_, rfl⟩
        rw [← hy] at hmem hpg hwt
        have hc := hL _ hGL y hmem
        rw [zA3] at hc
        have hwl : (zBd (t.list.take i)).length ≤ 5 := by rw [zCa, List.length_map, List.length_take]; omega
        try simp (maxSteps := 2000000) only [go_sem, hpg]
        repeat with_reducible refine zAd ?_
        refine zAh (by repeat' constructor) (hc) ?_
        try simp (maxSteps := 2000000) only [go_sem, wV]
        repeat with_reducible refine zAd ?_
        refine ⟨i + 1, by omega, by omega, ?_⟩
        simp (maxSteps := 2000000) only [go_sem, zAe, zAj, zAt, zAc]
        all_goals (repeat' (first | exact trivial | exact zAg (by omega) | exact zAf rfl | exact zAr rfl | exact zAk | exact le_refl _ | refine And.intro ?_ ?_))
        all_goals first | exact zAc | exact zAg (by omega) | exact zDp (by rw [hwt, zJc]; rfl) | rfl
       ·have hie : i = t.list.length := by simp at g9; omega
        subst hie
        have hls : ∃ x0 r0, t.list = x0 :: r0 := by
         cases hlc : t.list with
         | nil => rw [hlc] at hGL; exact absurd hGL.2.1 (by simp)
         | cons x0 r0 => exact ⟨x0, r0, rfl⟩
        obtain ⟨x0, r0, hl0⟩ := hls
        have hwp : zBd t.list = wgP x0 :: zBd r0 := by rw [hl0, zBd]
        have hbest : zQZ (zBd t.list) = zBk (wgP x0) (zBd r0) := by rw [hwp, zFk]
        rw [hbest] at hwT
        have hr0 : (zBd r0).length ≤ 100 := by
         have := hGL.2.2.1
         rw [hl0] at this
         rw [zCa, List.length_map]
         simp only [List.length_cons] at this
         omega
        have hc := zFw (wgP x0) (zBd r0) hr0
        rw [← hwp] at hc
        obtain ⟨B, hB⟩ : ∃ B, B = zBk (wgP x0) (zBd r0) := ⟨_, rfl⟩
        rw [← hB] at hc hwT
        rw [hwT] at d1 d2 d3 s1 s2 s3
        try simp (maxSteps := 2000000) only [go_sem, List.take_length]
        repeat with_reducible refine zAd ?_
        refine zAh (by repeat' constructor) (hc) ?_
        try simp (maxSteps := 2000000) only [go_sem, wV]
        repeat with_reducible refine zAd ?_
        refine ⟨m + 1, by omega, by omega, ?_⟩
        simp (maxSteps := 2000000) only [go_sem, zAe, zAj, zAt, zAc]
        all_goals (repeat' (first | exact trivial | exact zAg (by omega) | exact zAf rfl | exact zAr rfl | exact zAk | exact le_refl _ | refine And.intro ?_ ?_))
        all_goals first | exact zAc | exact zAg (by omega) | exact zCC (by omega) | rfl
      ·rw [q13] at q13b; cases q13b
     ·have hk13 : t.kind ≠ 13 := by simpa using q13
      try simp (maxSteps := 2000000) only [go_sem]
      repeat with_reducible refine zAd ?_
      refine zAa (by rfl) trivial (fun q14 => ?_) (fun q14 => ?_)
      ·have hk : t.kind = 14 := by simpa using q14
       try simp (maxSteps := 2000000) only [go_sem]
       repeat with_reducible refine zAd ?_
       refine zAa (by rfl) trivial (fun q14b => ?_) (fun q14b => ?_)
       ·have hwT : wgT t = zQZ (zBd t.list) := by rw [zDZ, if_neg (by omega), if_neg (by omega)]
        have hGL := t2 (by omega)
        have hl5 := hGL.2.2.1
        try simp (maxSteps := 2000000) only [go_sem]
        repeat with_reducible refine zAd ?_
        refine zAo (fun i : Nat => [(8, .own zBE 3 (wsV (zBd (t.list.take i)))), (52, .pv (iv i)), (10, .un), (53, .un), (99, .un), (100, .un)]) (fun i : Nat => t.list.length - i) (fun i : Nat => i ≤ t.list.length) (0) ?_ (Nat.zero_le _) ?_
        focus (simp (maxSteps := 2000000) only [go_sem, zAe, zAj, zAt, zAc]; all_goals (repeat' (first | exact trivial | exact zAg (by omega) | exact zAf rfl | exact zAr rfl | exact zAk | exact le_refl _ | refine And.intro ?_ ?_)))
        all_goals try exact zDp (by rw [List.take_zero, zBd]; rfl)
        intro i hi
        try simp (maxSteps := 2000000) only [go_sem]
        repeat with_reducible refine zAd ?_
        refine zAa (by rfl) trivial (fun g9 => ?_) (fun g9 => ?_)
        ·have hil : i < t.list.length := by simp at g9; omega
         have hwt := zDL t.list i hil
         have hpg := zBC t.list i hil
         have hmem : t.list.getD i default ∈ t.list := by
          rw [List.getD_eq_getElem?_getD, List.getElem?_eq_getElem hil]; exact List.getElem_mem hil
         obtain ⟨y, hy⟩ : ∃ y, y = t.list.getD i default := ⟨_, rfl⟩
         rw [← hy] at hmem hpg hwt
         have hc := hL _ hGL y hmem
         rw [zA3] at hc
         have hwl : (zBd (t.list.take i)).length ≤ 5 := by rw [zCa, List.length_map, List.length_take]; omega
         try simp (maxSteps := 2000000) only [go_sem, hpg]
         repeat with_reducible refine zAd ?_
         refine zAh (by repeat' constructor) (hc) ?_
         try simp (maxSteps := 2000000) only [go_sem, wV]
         repeat with_reducible refine zAd ?_
         refine ⟨i + 1, by omega, by omega, ?_⟩
         simp (maxSteps := 2000000) only [go_sem, zAe, zAj, zAt, zAc]
         all_goals (repeat' (first | exact trivial | exact zAg (by omega) | exact zAf rfl | exact zAr rfl | exact zAk | exact le_refl _ | refine And.intro ?_ ?_))
         all_goals first | exact zAc | exact zAg (by omega) | exact zDp (by rw [hwt, zJc]; rfl) | rfl
        ·have hie : i = t.list.length := by simp at g9; omega
         subst hie
         have hls : ∃ x0 r0, t.list = x0 :: r0 := by
          cases hlc : t.list with
          | nil => rw [hlc] at hGL; exact absurd hGL.2.1 (by simp)
          | cons x0 r0 => exact ⟨x0, r0, rfl⟩
         obtain ⟨x0, r0, hl0⟩ := hls
         have hwp : zBd t.list = wgP x0 :: zBd r0 := by rw [hl0, zBd]
         have hbest : zQZ (zBd t.list) = zBk (wgP x0) (zBd r0) := by rw [hwp, zFk]
         rw [hbest] at hwT
         have hr0 : (zBd r0).length ≤ 100 := by
          have := hGL.2.2.1
          rw [hl0] at this
          rw [zCa, List.length_map]
          simp only [List.length_cons] at this
          omega
         have hc := zFw (wgP x0) (zBd r0) hr0
         rw [← hwp] at hc
         obtain ⟨B, hB⟩ : ∃ B, B = zBk (wgP x0) (zBd r0) := ⟨_, rfl⟩
         rw [← hB] at hc hwT
         rw [hwT] at d1 d2 d3 s1 s2 s3
         try simp (maxSteps := 2000000) only [go_sem, List.take_length]
         repeat with_reducible refine zAd ?_
         refine zAh (by repeat' constructor) (hc) ?_
         try simp (maxSteps := 2000000) only [go_sem, wV]
         repeat with_reducible refine zAd ?_
         refine ⟨m + 1, by omega, by omega, ?_⟩
         simp (maxSteps := 2000000) only [go_sem, zAe, zAj, zAt, zAc]
         all_goals (repeat' (first | exact trivial | exact zAg (by omega) | exact zAf rfl | exact zAr rfl | exact zAk | exact le_refl _ | refine And.intro ?_ ?_))
         all_goals first | exact zAc | exact zAg (by omega) | exact zCC (by omega) | rfl
       ·rw [q14] at q14b; cases q14b
      ·have hk14 : t.kind ≠ 14 := by simpa using q14
       try simp (maxSteps := 2000000) only [go_sem]
       repeat with_reducible refine zAd ?_
       refine zAa (by rfl) trivial (fun q15 => ?_) (fun q15 => ?_)
       ·have hk : t.kind = 15 := by simpa using q15
        have hwT : wgT t = zQZ (zBd t.list) := by rw [zDZ, if_neg (by omega), if_neg (by omega)]
        have hGL := t2 (by omega)
        have hl5 := hGL.2.2.1
        try simp (maxSteps := 2000000) only [go_sem]
        repeat with_reducible refine zAd ?_
        refine zAo (fun i : Nat => [(8, .own zBE 3 (wsV (zBd (t.list.take i)))), (52, .pv (iv i)), (10, .un), (53, .un), (99, .un), (100, .un)]) (fun i : Nat => t.list.length - i) (fun i : Nat => i ≤ t.list.length) (0) ?_ (Nat.zero_le _) ?_
        focus (simp (maxSteps := 2000000) only [go_sem, zAe, zAj, zAt, zAc]; all_goals (repeat' (first | exact trivial | exact zAg (by omega) | exact zAf rfl | exact zAr rfl | exact zAk | exact le_refl _ | refine And.intro ?_ ?_)))
        all_goals try exact zDp (by rw [List.take_zero, zBd]; rfl)
        intro i hi
        try simp (maxSteps := 2000000) only [go_sem]
        repeat with_reducible refine zAd ?_
        refine zAa (by rfl) trivial (fun g9 => ?_) (fun g9 => ?_)
        ·have hil : i < t.list.length := by simp at g9; omega
         have hwt := zDL t.list i hil
         have hpg := zBC t.list i hil
         have hmem : t.list.getD i default ∈ t.list := by
          rw [List.getD_eq_getElem?_getD, List.getElem?_eq_getElem hil]; exact List.getElem_mem hil
         obtain ⟨y, hy⟩ : ∃ y, y = t.list.getD i default := ⟨_, rfl⟩
         rw [← hy] at hmem hpg hwt
         have hc := hL _ hGL y hmem
         rw [zA3] at hc
         have hwl : (zBd (t.list.take i)).length ≤ 5 := by rw [zCa, List.length_map, List.length_take]; omega
         try simp (maxSteps := 2000000) only [go_sem, hpg]
         repeat with_reducible refine zAd ?_
         refine zAh (by repeat' constructor) (hc) ?_
         try simp (maxSteps := 2000000) only [go_sem, wV]
         repeat with_reducible refine zAd ?_
         refine ⟨i + 1, by omega, by omega, ?_⟩
         simp (maxSteps := 2000000) only [go_sem, zAe, zAj, zAt, zAc]
         all_goals (repeat' (first | exact trivial | exact zAg (by omega) | exact zAf rfl | exact zAr rfl | exact zAk | exact le_refl _ | refine And.intro ?_ ?_))
         all_goals first | exact zAc | exact zAg (by omega) | exact zDp (by rw [hwt, zJc]; rfl) | rfl
        ·have hie : i = t.list.length := by simp at g9; omega
         subst hie
         have hls : ∃ x0 r0, t.list = x0 :: r0 := by
          cases hlc : t.list with
          | nil => rw [hlc] at hGL; exact absurd hGL.2.1 (by simp)
          | cons x0 r0 => exact ⟨x0, r0, rfl⟩
         obtain ⟨x0, r0, hl0⟩ := hls
         have hwp : zBd t.list = wgP x0 :: zBd r0 := by rw [hl0, zBd]
         have hbest : zQZ (zBd t.list) = zBk (wgP x0) (zBd r0) := by rw [hwp, zFk]
         rw [hbest] at hwT
         have hr0 : (zBd r0).length ≤ 100 := by
          have := hGL.2.2.1
          rw [hl0] at this
          rw [zCa, List.length_map]
          simp only [List.length_cons] at this
          omega
         have hc := zFw (wgP x0) (zBd r0) hr0
         rw [← hwp] at hc
         obtain ⟨B, hB⟩ : ∃ B, B = zBk (wgP x0) (zBd r0) := ⟨_, rfl⟩
         rw [← hB] at hc hwT
         rw [hwT] at d1 d2 d3 s1 s2 s3
         try simp (maxSteps := 2000000) only [go_sem, List.take_length]
         repeat with_reducible refine zAd ?_
         refine zAh (by repeat' constructor) (hc) ?_
         try simp (maxSteps := 2000000) only [go_sem, wV]
         repeat with_reducible refine zAd ?_
         refine ⟨m + 1, by omega, by omega, ?_⟩
         simp (maxSteps := 2000000) only [go_sem, zAe, zAj, zAt, zAc]
         all_goals (repeat' (first | exact trivial | exact zAg (by omega) | exact zAf rfl | exact zAr rfl | exact zAk | exact le_refl _ | refine And.intro ?_ ?_))
         all_goals first | exact zAc | exact zAg (by omega) | exact zCC (by omega) | rfl
       ·have hk15 : t.kind ≠ 15 := by simpa using q15
        have hwT : wgT t = (0, 1, 0) := by rw [zDZ, if_neg (by omega), if_pos (by omega)]
        rw [hwT] at d1 d2 d3 s1 s2 s3
        simp only at d1 d2 d3 s1 s2 s3
        try simp (maxSteps := 2000000) only [go_sem]
        repeat with_reducible refine zAd ?_
        refine ⟨m + 1, by omega, by omega, ?_⟩
        simp (maxSteps := 2000000) only [go_sem, zAe, zAj, zAt, zAc]
        all_goals (repeat' (first | exact trivial | exact zAg (by omega) | exact zAf rfl | exact zAr rfl | exact zAk | exact le_refl _ | refine And.intro ?_ ?_))
        all_goals first | exact zAc | exact zAg (by omega) | exact zCC (by omega) | rfl
   ·have hme : m = x.tests.length := by simp at g3; omega
    subst hme
    try simp (maxSteps := 2000000) only [go_sem]
    repeat with_reducible refine zAd ?_
    rw [List.take_length]
    refine ⟨j + 1, by omega, by omega, ?_⟩
    simp (maxSteps := 2000000) only [go_sem, zAe, zAj, zAt, zAc]
    all_goals (repeat' (first | exact trivial | exact zAg (by omega) | exact zAf rfl | exact zAr rfl | exact zAk | exact le_refl _ | refine And.intro ?_ ?_))
    all_goals first | exact zAc | exact zAg (by omega) | exact zCC (by omega) | rfl
  ·have hx0 : x.tag = [] := by simpa using g2
   have htg : tgN x.tag = 0 := by unfold tgN; rw [if_pos hx0]
   try simp (maxSteps := 2000000) only [go_sem, hsv]
   repeat with_reducible refine zAd ?_
   refine zAo (fun m : Nat => [(88, .pv (.one (bI (((zDC (p.steps.take j)).1 + (zEA (x.tests.take m)).1 : Nat) : Int)))), (89, .pv (.one (bI (((zDC (p.steps.take j)).2.1 + (zEA (x.tests.take m)).2.1 : Nat) : Int)))), (90, .pv (.one (bI (((zDC (p.steps.take j)).2.2 + tgN x.tag + (zEA (x.tests.take m)).2.2 : Nat) : Int)))), (29, .pv (iv m)), (7, .un), (8, .un), (10, .un), (11, .un), (30, .un), (34, .un), (39, .un), (45, .un), (50, .un), (51, .un), (52, .un), (53, .un), (93, .un), (94, .un), (95, .un), (96, .un), (97, .un), (98, .un), (99, .un), (100, .un), (101, .un), (102, .un), (103, .un)]) (fun m : Nat => x.tests.length - m) (fun m : Nat => m ≤ x.tests.length) (0) ?_ (Nat.zero_le _) ?_
   focus (simp (maxSteps := 2000000) only [go_sem, zAe, zAj, zAt, zAc]; all_goals (repeat' (first | exact trivial | exact zAg (by omega) | exact zAf rfl | exact zAr rfl | exact zAk | exact le_refl _ | refine And.intro ?_ ?_)))
   all_goals try exact zCC (by simp only [List.take_zero, zMj, htg]; omega)
   intro m hm
   try simp (maxSteps := 2000000) only [go_sem, Nat.zero_add]
   repeat with_reducible refine zAd ?_
   refine zAa (by rfl) trivial (fun g3 => ?_) (fun g3 => ?_)
   ·have hml : m < x.tests.length := by simp at g3; omega
    have htv := zCr x.tests m hml
    have hGt := GTs.get x2 m hml
    obtain ⟨D, ⟨d1, d2, d3⟩, ⟨s1, s2, s3⟩⟩ := zH7 x.tests m hml
    obtain ⟨t, ht⟩ : ∃ t, t = x.tests.getD m default := ⟨_, rfl⟩
    rw [← ht] at htv hGt d1 d2 d3 s1 s2 s3
    obtain ⟨t1, t2⟩ := hGt.parts'
    try simp (maxSteps := 2000000) only [go_sem, htv]
    repeat with_reducible refine zAd ?_
    refine zAa (by rfl) trivial (fun q2 => ?_) (fun q2 => ?_)
    ·have hk : t.kind = 2 := by simpa using q2
     have hwT : wgT t = (1, 0, 0) := by rw [zDZ, if_pos hk]
     rw [hwT] at d1 d2 d3 s1 s2 s3
     simp only at d1 d2 d3 s1 s2 s3
     try simp (maxSteps := 2000000) only [go_sem]
     repeat with_reducible refine zAd ?_
     refine ⟨m + 1, by omega, by omega, ?_⟩
     simp (maxSteps := 2000000) only [go_sem, zAe, zAj, zAt, zAc]
     all_goals (repeat' (first | exact trivial | exact zAg (by omega) | exact zAf rfl | exact zAr rfl | exact zAk | exact le_refl _ | refine And.intro ?_ ?_))
     all_goals first | exact zAc | exact zAg (by omega) | exact zCC (by omega) | rfl
    ·have hk2 : t.kind ≠ 2 := by simpa using q2
     try simp (maxSteps := 2000000) only [go_sem]
     repeat with_reducible refine zAd ?_
     refine zAa (by rfl) trivial (fun q13 => ?_) (fun q13 => ?_)
     ·have hk : t.kind = 13 := by simpa using q13
      try simp (maxSteps := 2000000) only [go_sem]
      repeat with_reducible refine zAd ?_
      refine zAa (by rfl) trivial (fun q13b => ?_) (fun q13b => ?_)
      ·have hwT : wgT t = zQZ (zBd t.list) := by rw [zDZ, if_neg (by omega), if_neg (by omega)]
       have hGL := t2 (by omega)
       have hl5 := hGL.2.2.1
       try simp (maxSteps := 2000000) only [go_sem]
       repeat with_reducible refine zAd ?_
       refine zAo (fun i : Nat => [(8, .own zBE 3 (wsV (zBd (t.list.take i)))), (52, .pv (iv i)), (10, .un), (53, .un), (99, .un), (100, .un)]) (fun i : Nat => t.list.length - i) (fun i : Nat => i ≤ t.list.length) (0) ?_ (Nat.zero_le _) ?_
       focus (simp (maxSteps := 2000000) only [go_sem, zAe, zAj, zAt, zAc]; all_goals (repeat' (first | exact trivial | exact zAg (by omega) | exact zAf rfl | exact zAr rfl | exact zAk | exact le_refl _ | refine And.intro ?_ ?_)))
       all_goals try exact zDp (by rw [List.take_zero, zBd]; rfl)
       intro i hi
       try simp (maxSteps := 2000000) only [go_sem]
       repeat with_reducible refine zAd ?_
       refine zAa (by rfl) trivial (fun g9 => ?_) (fun g9 => ?_)
       ·have hil : i < t.list.length := by simp at g9; omega
        have hwt := zDL t.list i hil
        have hpg := zBC t.list i hil
        have hmem : t.list.getD i default ∈ t.list := by
         rw [List.getD_eq_getElem?_getD, List.getElem?_eq_getElem hil]; exact List.getElem_mem hil
        obtain ⟨y, hy⟩ : ∃ y, y = t.list.getD i default := ⟨_, rfl⟩
        rw [← hy] at hmem hpg hwt
        have hc := hL _ hGL y hmem
        rw [zA3] at hc
        have hwl : (zBd (t.list.take i)).length ≤ 5 := by rw [zCa, List.length_map, List.length_take]; omega
        try simp (maxSteps := 2000000) only [go_sem, hpg]
        repeat with_reducible refine zAd ?_
        refine zAh (by repeat' constructor) (hc) ?_
        try simp (maxSteps := 2000000) only [go_sem, wV]
        repeat with_reducible refine zAd ?_
        refine ⟨i + 1, by omega, by omega, ?_⟩
        simp (maxSteps := 2000000) only [go_sem, zAe, zAj, zAt, zAc]
        all_goals (repeat' (first | exact trivial | exact zAg (by omega) | exact zAf rfl | exact zAr rfl | exact zAk | exact le_refl _ | refine And.intro ?_ ?_))
        all_goals first | exact zAc | exact zAg (by omega) | exact zDp (by rw [hwt, zJc]; rfl) | rfl
       ·have hie : i = t.list.length := by simp at g9; omega
        subst hie
        have hls : ∃ x0 r0, t.list = x0 :: r0 := by
         cases hlc : t.list with
         | nil => rw [hlc] at hGL; exact absurd hGL.2.1 (by simp)
         | cons x0 r0 => exact ⟨x0, r0, rfl⟩
        obtain ⟨x0, r0, hl0⟩ := hls
        have hwp : zBd t.list = wgP x0 :: zBd r0 := by rw [hl0, zBd]
        have hbest : zQZ (zBd t.list) = zBk (wgP x0) (zBd r0) := by rw [hwp, zFk]
        rw [hbest] at hwT
        have hr0 : (zBd r0).length ≤ 100 := by
         have := hGL.2.2.1
         rw [hl0] at this
         rw [zCa, List.length_map]
         simp only [List.length_cons] at this
         omega
        have hc := zFw (wgP x0) (zBd r0) hr0
        rw [← hwp] at hc
        obtain ⟨B, hB⟩ : ∃ B, B = zBk (wgP x0) (zBd r0) := ⟨_, rfl⟩
        rw [← hB] at hc hwT
        rw [hwT] at d1 d2 d3 s1 s2 s3
        try simp (maxSteps := 2000000) only [go_sem, List.take_length]
        repeat with_reducible refine zAd ?_
        refine zAh (by repeat' constructor) (hc) ?_
        try simp (maxSteps := 2000000) only [go_sem, wV]
        repeat with_reducible refine zAd ?_
        refine ⟨m + 1, by omega, by omega, ?_⟩
        simp (maxSteps := 2000000) only [go_sem, zAe, zAj, zAt, zAc]
        all_goals (repeat' (first | exact trivial | exact zAg (by omega) | exact zAf rfl | exact zAr rfl | exact zAk | exact le_refl _ | refine And.intro ?_ ?_))
        all_goals first | exact zAc | exact zAg (by omega) | exact zCC (by omega) | rfl
      ·rw [q13] at q13b; cases q13b
     ·have hk13 : t.kind ≠ 13 := by simpa using q13
      try simp (maxSteps := 2000000) only [go_sem]
      repeat with_reducible refine zAd ?_
      refine zAa (by rfl) trivial (fun q14 => ?_) (fun q14 => ?_)
      ·have hk : t.kind = 14 := by simpa using q14
       try simp (maxSteps := 2000000) only [go_sem]
       repeat with_reducible refine zAd ?_
       refine zAa (by rfl) trivial (fun q14b => ?_) (fun q14b => ?_)
       ·have hwT : wgT t = zQZ (zBd t.list) := by rw [zDZ, if_neg (by omega), if_neg (by omega)]
        have hGL := t2 (by omega)
        have hl5 := hGL.2.2.1
        try simp (maxSteps := 2000000) only [go_sem]
        repeat with_reducible refine zAd ?_
        refine zAo (fun i : Nat => [(8, .own zBE 3 (wsV (zBd (t.list.take i)))), (52, .pv (iv i)), (10, .un), (53, .un), (99, .un), (100, .un)]) (fun i : Nat => t.list.length - i) (fun i : Nat => i ≤ t.list.length) (0) ?_ (Nat.zero_le _) ?_
        focus (simp (maxSteps := 2000000) only [go_sem, zAe, zAj, zAt, zAc]; all_goals (repeat' (first | exact trivial | exact zAg (by omega) | exact zAf rfl | exact zAr rfl | exact zAk | exact le_refl _ | refine And.intro ?_ ?_)))
        all_goals try exact zDp (by rw [List.take_zero, zBd]; rfl)
        intro i hi
        try simp (maxSteps := 2000000) only [go_sem]
        repeat with_reducible refine zAd ?_
        refine zAa (by rfl) trivial (fun g9 => ?_) (fun g9 => ?_)
        ·have hil : i < t.list.length := by simp at g9; omega
         have hwt := zDL t.list i hil
         have hpg := zBC t.list i hil
         have hmem : t.list.getD i default ∈ t.list := by
          rw [List.getD_eq_getElem?_getD, List.getElem?_eq_getElem hil]; exact List.getElem_mem hil
         obtain ⟨y, hy⟩ : ∃ y, y = t.list.getD i default := ⟨_, rfl⟩
         rw [← hy] at hmem hpg hwt
         have hc := hL _ hGL y hmem
         rw [zA3] at hc
         have hwl : (zBd (t.list.take i)).length ≤ 5 := by rw [zCa, List.length_map, List.length_take]; omega
         try simp (maxSteps := 2000000) only [go_sem, hpg]
         repeat with_reducible refine zAd ?_
         refine zAh (by repeat' constructor) (hc) ?_
         try simp (maxSteps := 2000000) only [go_sem, wV]
         repeat with_reducible refine zAd ?_
         refine ⟨i + 1, by omega, by omega, ?_⟩
         simp (maxSteps := 2000000) only [go_sem, zAe, zAj, zAt, zAc]
         all_goals (repeat' (first | exact trivial | exact zAg (by omega) | exact zAf rfl | exact zAr rfl | exact zAk | exact le_refl _ | refine And.intro ?_ ?_))
         all_goals first | exact zAc | exact zAg (by omega) | exact zDp (by rw [hwt, zJc]; rfl) | rfl
        ·have hie : i = t.list.length := by simp at g9; omega
         subst hie
         have hls : ∃ x0 r0, t.list = x0 :: r0 := by
          cases hlc : t.list with
          | nil => rw [hlc] at hGL; exact absurd hGL.2.1 (by simp)
          | cons x0 r0 => exact ⟨x0, r0, rfl⟩
         obtain ⟨x0, r0, hl0⟩ := hls
         have hwp : zBd t.list = wgP x0 :: zBd r0 := by rw [hl0, zBd]
         have hbest : zQZ (zBd t.list) = zBk (wgP x0) (zBd r0) := by rw [hwp, zFk]
         rw [hbest] at hwT
         have hr0 : (zBd r0).length ≤ 100 := by
          have := hGL.2.2.1
          rw [hl0] at this
          rw [zCa, List.length_map]
          simp only [List.length_cons] at this
          omega
         have hc := zFw (wgP x0) (zBd r0) hr0
         rw [← hwp] at hc
         obtain ⟨B, hB⟩ : ∃ B, B = zBk (wgP x0) (zBd r0) := ⟨_, rfl⟩
         rw [← hB] at hc hwT
         rw [hwT] at d1 d2 d3 s1 s2 s3
         try simp (maxSteps := 2000000) only [go_sem, List.take_length]
         repeat with_reducible refine zAd ?_
         refine zAh (by repeat' constructor) (hc) ?_
         try simp (maxSteps := 2000000) only [go_sem, wV]
         repeat with_reducible refine zAd ?_
         refine ⟨m + 1, by omega, by omega, ?_⟩
         simp (maxSteps := 2000000) only [go_sem, zAe, zAj, zAt, zAc]
         all_goals (repeat' (first | exact trivial | exact zAg (by omega) | exact zAf rfl | exact zAr rfl | exact zAk | exact le_refl _ | refine And.intro ?_ ?_))
         all_goals first | exact zAc | exact zAg (by omega) | exact zCC (by omega) | rfl
       ·rw [q14] at q14b; cases q14b
      ·have hk14 : t.kind ≠ 14 := by simpa using q14
       try simp (maxSteps := 2000000) only [go_sem]
       repeat with_reducible refine zAd ?_
       refine zAa (by rfl) trivial (fun q15 => ?_) (fun q15 => ?_)
       ·have hk : t.kind = 15 := by simpa using q15
        have hwT : wgT t = zQZ (zBd t.list) := by rw [zDZ, if_neg (by omega), if_neg (by omega)]
        have hGL := t2 (by omega)
        have hl5 := hGL.2.2.1
        try simp (maxSteps := 2000000) only [go_sem]
        repeat with_reducible refine zAd ?_
        refine zAo (fun i : Nat => [(8, .own zBE 3 (wsV (zBd (t.list.take i)))), (52, .pv (iv i)), (10, .un), (53, .un), (99, .un), (100, .un)]) (fun i : Nat => t.list.length - i) (fun i : Nat => i ≤ t.list.length) (0) ?_ (Nat.zero_le _) ?_
        focus (simp (maxSteps := 2000000) only [go_sem, zAe, zAj, zAt, zAc]; all_goals (repeat' (first | exact trivial | exact zAg (by omega) | exact zAf rfl | exact zAr rfl | exact zAk | exact le_refl _ | refine And.intro ?_ ?_)))
        all_goals try exact zDp (by rw [List.take_zero, zBd]; rfl)
        intro i hi
        try simp (maxSteps := 2000000) only [go_sem]
        repeat with_reducible refine zAd ?_
        refine zAa (by rfl) trivial (fun g9 => ?_) (fun g9 => ?_)
        ·have hil : i < t.list.length := by simp at g9; omega
         have hwt := zDL t.list i hil
         have hpg := zBC t.list i hil
         have hmem : t.list.getD i default ∈ t.list := by
          rw [List.getD_eq_getElem?_getD, List.getElem?_eq_getElem hil]; exact List.getElem_mem hil
         obtain ⟨y, hy⟩ : ∃ y, y = t.list.getD i default := ⟨_, rfl⟩
         rw [← hy] at hmem hpg hwt
         have hc := hL _ hGL y hmem
         rw [zA3] at hc
         have hwl : (zBd (t.list.take i)).length ≤ 5 := by rw [zCa, List.length_map, List.length_take]; omega
         try simp (maxSteps := 2000000) only [go_sem, hpg]
         repeat with_reducible refine zAd ?_
         refine zAh (by repeat' constructor) (hc) ?_
         try simp (maxSteps := 2000000) only [go_sem, wV]
         repeat with_reducible refine zAd ?_
         refine ⟨i + 1, by omega, by omega, ?_⟩
         simp (maxSteps := 2000000) only [go_sem, zAe, zAj, zAt, zAc]
         all_goals (repeat' (first | exact trivial | exact zAg (by omega) | exact zAf rfl | exact zAr rfl | exact zAk | exact le_refl _ | refine And.intro ?_ ?_))
         all_goals first | exact zAc | exact zAg (by omega) | exact zDp (by rw [hwt, zJc]; rfl) | rfl
        ·have hie : i = t.list.length := by simp at g9; omega
         subst hie
         have hls : ∃ x0 r0, t.list = x0 :: r0 := by
          cases hlc : t.list with
          | nil => rw [hlc] at hGL; exact absurd hGL.2.1 (by simp)
          | cons x0 r0 => exact ⟨x0, r0, rfl⟩
         obtain ⟨x0, r0, hl0⟩ := hls
         have hwp : zBd t.list = wgP x0 :: zBd r0 := by rw [hl0, zBd]
         have hbest : zQZ (zBd t.list) = zBk (wgP x0) (zBd r0) := by rw [hwp, zFk]
         rw [hbest] at hwT
         have hr0 : (zBd r0).length ≤ 100 := by
          have := hGL.2.2.1
          rw [hl0] at this
          rw [zCa, List.length_map]
          simp only [List.length_cons] at this
          omega
         have hc := zFw (wgP x0) (zBd r0) hr0
         rw [← hwp] at hc
         obtain ⟨B, hB⟩ : ∃ B, B = zBk (wgP x0) (zBd r0) := ⟨_, rfl⟩
         rw [← hB] at hc hwT
         rw [hwT] at d1 d2 d3 s1 s2 s3
         try simp (maxSteps := 2000000) only [go_sem, List.take_length]
         repeat with_reducible refine zAd ?_
         refine zAh (by repeat' constructor) (hc) ?_
         try simp (maxSteps := 2000000) only [go_sem, wV]
         repeat with_reducible refine zAd ?_
         refine ⟨m + 1, by omega, by omega, ?_⟩
         simp (maxSteps := 2000000) only [go_sem, zAe, zAj, zAt, zAc]
         all_goals (repeat' (first | exact trivial | exact zAg (by omega) | exact zAf rfl | exact zAr rfl | exact zAk | exact le_refl _ | refine And.intro ?_ ?_))
         all_goals first | exact zAc | exact zAg (by omega) | exact zCC (by omega) | rfl
       ·have hk15 : t.kind ≠ 15 := by simpa using q15
        have hwT : wgT t = (0, 1, 0) := by rw [zDZ, if_neg (by omega), if_pos (by omega)]
        rw [hwT] at d1 d2 d3 s1 s2 s3
        simp only at d1 d2 d3 s1 s2 s3
        try simp (maxSteps := 2000000) only [go_sem]
        repeat with_reducible refine zAd ?_
        refine ⟨m + 1, by omega, by omega, ?_⟩
        simp (maxSteps := 2000000) only [go_sem, zAe, zAj, zAt, zAc]
        all_goals (repeat' (first | exact trivial | exact zAg (by omega) | exact zAf rfl | exact zAr rfl | exact zAk | exact le_refl _ | refine And.intro ?_ ?_))
        all_goals first | exact zAc | exact zAg (by omega) | exact zCC (by omega) | rfl
   ·have hme : m = x.tests.length := by simp at g3; omega
    subst hme
    try simp (maxSteps := 2000000) only [go_sem]
    repeat with_reducible refine zAd ?_
    rw [List.take_length]
    refine ⟨j + 1, by omega, by omega, ?_⟩
    simp (maxSteps := 2000000) only [go_sem, zAe, zAj, zAt, zAc]
    all_goals (repeat' (first | exact trivial | exact zAg (by omega) | exact zAf rfl | exact zAr rfl | exact zAk | exact le_refl _ | refine And.intro ?_ ?_))
    all_goals first | exact zAc | exact zAg (by omega) | exact zCC (by omega) | rfl
 ·have hje : j = p.steps.length := by simp at g1; omega
  subst hje
  rw [List.take_length]
  try simp (maxSteps := 2000000) only [go_sem]
  repeat with_reducible refine zAd ?_
  exact zGe rfl rfl rfl
set_option maxHeartbeats 32000000 in
theorem zOI (d : Nat) (hd : 1 ≤ d) (hL : ∀ l : List Pt, GL l (d + 1) → ∀ x ∈ l, Contract Tryz.prog zBp [.val (.agg (ptV x))] { res := .val (.agg (wV (wgP x))) }) (p : Pt) (hp : GP p d) : Contract Tryz.prog zBp [.val (.agg (ptV p))] { res := .val (.agg (wV (wgP p))) } := by
 have hm0 : maxLen = 9223372036854775807 := rfl
 obtain ⟨p1, p2, p3, p4, p5⟩ := hp.parts'
 have hW := zVP hd hp
 rw [yA6]
 have hpv := zA3 p
 rw [zA3]
 refine zOG (base := 0) ⟨Nat.le_of_ble_eq_true rfl, Nat.le_of_ble_eq_true rfl, Nat.le_of_ble_eq_true rfl, rfl⟩ (fun hfit => ?_)
 unfold F0 zDE
 simp (maxSteps := 2000000) only [zAN, List.set_cons_succ, List.set_cons_zero, List.map_cons, List.map_nil, zAM, zAb, ioOf, List.length_cons, List.length_nil, Nat.reduceAdd, Nat.reduceSub, List.replicate, List.cons_append, List.nil_append]
 try simp (maxSteps := 2000000) only [go_sem]
 repeat with_reducible refine zAd ?_
 refine zAo (fun j : Nat => [(101, .pv (.one (bI ((zDC (p.steps.take j)).1 : Nat)))), (102, .pv (.one (bI ((zDC (p.steps.take j)).2.1 : Nat)))), (103, .pv (.one (bI ((zDC (p.steps.take j)).2.2 : Nat)))), (4, .pv (iv j)), (5, .un), (6, .un), (7, .un), (8, .un), (9, .un), (14, .un), (23, .un), (36, .un), (52, .un), (63, .un), (81, .un), (89, .un), (104, .un), (105, .un), (106, .un), (107, .un), (108, .un), (109, .un), (110, .un), (111, .un), (112, .un), (113, .un), (114, .un), (115, .un)]) (fun j : Nat => p.steps.length - j) (fun j : Nat => j ≤ p.steps.length) (0) ?_ (Nat.zero_le _) ?_
 focus (simp (maxSteps := 2000000) only [go_sem, zAe, zAj, zAt, zAc]; all_goals (repeat' (first | exact trivial | exact zAg (by omega) | exact zAf rfl | exact zAr rfl | exact zAk | exact le_refl _ | refine And.intro ?_ ?_)))
 all_goals try exact zCC (by rw [List.take_zero, zDC]; rfl)
 intro j hj
 try simp (maxSteps := 2000000) only [go_sem]
 repeat with_reducible refine zAd ?_
 refine zAa (by rfl) trivial (fun g1 => ?_) (fun g1 => ?_)
 ·have hjl : j < p.steps.length := by simp at g1; omega
  obtain ⟨SD, TT, hTT, ⟨b1, b2, b3⟩, ⟨e1, e2, e3⟩⟩ := zVO p.steps j hjl
  have hGs := GSs.get p5 j hjl
  have hsv := zDc p.steps j hjl
  obtain ⟨x, hx⟩ : ∃ x, x = p.steps.getD j default := ⟨_, rfl⟩
  rw [← hx] at hGs hsv hTT b3 e3
  subst hTT
  obtain ⟨x1, x2⟩ := hGs.parts'
  obtain ⟨w1, w2, w3⟩ := hW
  try simp (maxSteps := 2000000) only [go_sem, hpv, hsv]
  repeat with_reducible refine zAd ?_
  refine zAa (by rfl) trivial (fun g2 => ?_) (fun g2 => ?_)
  ·have hx0 : x.tag ≠ [] := by simpa using g2
   have htg : tgN x.tag = 1 := by unfold tgN; rw [if_neg hx0]
   try simp (maxSteps := 2000000) only [go_sem, hpv, hsv]
   repeat with_reducible refine zAd ?_
   refine zAo (fun m : Nat => [(101, .pv (.one (bI (((zDC (p.steps.take j)).1 + (zEA (x.tests.take m)).1 : Nat) : Int)))), (102, .pv (.one (bI (((zDC (p.steps.take j)).2.1 + (zEA (x.tests.take m)).2.1 : Nat) : Int)))), (103, .pv (.one (bI (((zDC (p.steps.take j)).2.2 + tgN x.tag + (zEA (x.tests.take m)).2.2 : Nat) : Int)))), (5, .pv (iv m)), (6, .un), (7, .un), (8, .un), (9, .un), (36, .un), (52, .un), (63, .un), (81, .un), (89, .un), (104, .un), (105, .un), (106, .un), (107, .un), (108, .un), (109, .un), (110, .un), (111, .un), (112, .un), (113, .un), (114, .un), (115, .un)]) (fun m : Nat => x.tests.length - m) (fun m : Nat => m ≤ x.tests.length) (0) ?_ (Nat.zero_le _) ?_
   focus (simp (maxSteps := 2000000) only [go_sem, zAe, zAj, zAt, zAc]; all_goals (repeat' (first | exact trivial | exact zAg (by omega) | exact zAf rfl | exact zAr rfl | exact zAk | exact le_refl _ | refine And.intro ?_ ?_)))
   all_goals try exact zCC (by simp only [List.take_zero, zMj, htg]; omega)
   intro m hm
   try simp (maxSteps := 2000000) only [go_sem, hpv, hsv, Nat.zero_add]
   repeat with_reducible refine zAd ?_
   refine zAa (by rfl) trivial (fun g3 => ?_) (fun g3 => ?_)
   ·have hml : m < x.tests.length := by simp at g3; omega
    have htv := zCr x.tests m hml
    have hGt := GTs.get x2 m hml
    obtain ⟨D, ⟨d1, d2, d3⟩, ⟨s1, s2, s3⟩⟩ := zH7 x.tests m hml
    obtain ⟨t, ht⟩ : ∃ t, t = x.tests.getD m default := ⟨_, rfl⟩
    rw [← ht] at htv hGt d1 d2 d3 s1 s2 s3
    obtain ⟨t1, t2⟩ := hGt.parts'
    try simp (maxSteps := 2000000) only [go_sem, hpv, hsv, htv]
    repeat with_reducible refine zAd ?_
    refine zAa (by rfl) trivial (fun q2 => ?_) (fun q2 => ?_)
    ·have hk : t.kind = 2 := by simpa using q2
     have hwT : wgT t = (1, 0, 0) := by rw [zDZ, if_pos hk]
     rw [hwT] at d1 d2 d3 s1 s2 s3
     simp only at d1 d2 d3 s1 s2 s3
     try simp (maxSteps := 2000000) only [go_sem]
     repeat with_reducible refine zAd ?_
     refine ⟨m + 1, by omega, by omega, ?_⟩
     simp (maxSteps := 2000000) only [go_sem, zAe, zAj, zAt, zAc]
     all_goals (repeat' (first | exact trivial | exact zAg (by omega) | exact zAf rfl | exact zAr rfl | exact zAk | exact le_refl _ | refine And.intro ?_ ?_))
     all_goals first | exact zAc | exact zAg (by omega) | exact zCC (by omega) | rfl
    ·have hk2 : t.kind ≠ 2 := by simpa using q2
     try simp (maxSteps := 2000000) only [go_sem]
     repeat with_reducible refine zAd ?_
     refine zAa (by rfl) trivial (fun q13 => ?_) (fun q13 => ?_)
     ·have hk : t.kind < 13 := by simpa using q13
      have hwT : wgT t = (0, 1, 0) := by rw [zDZ, if_neg (by omega), if_pos (by omega)]
      rw [hwT] at d1 d2 d3 s1 s2 s3
      simp only at d1 d2 d3 s1 s2 s3
      try simp (maxSteps := 2000000) only [go_sem]
      repeat with_reducible refine zAd ?_
      refine ⟨m + 1, by omega, by omega, ?_⟩
      simp (maxSteps := 2000000) only [go_sem, zAe, zAj, zAt, zAc]
      all_goals (repeat' (first | exact trivial | exact zAg (by omega) | exact zAf rfl | exact zAr rfl | exact zAk | exact le_refl _ | refine And.intro ?_ ?_))
      all_goals first | exact zAc | exact zAg (by omega) | exact zCC (by omega) | rfl
     ·have hk : 13 ≤ t.kind := by simp only [decide_eq_false_iff_not] at q13; omega
      have hwT : wgT t = zQZ (zBd t.list) := by rw [zDZ, if_neg (by omega), if_neg (by omega)]
      have hGL := t2 (by omega)
      have hl5 := hGL.2.2.1
      try simp (maxSteps := 2000000) only [go_sem]
      repeat with_reducible refine zAd ?_
      refine zAo (fun i : Nat => [(110, .pv (.one (bI (zBk (0, 0, 0) (zBd (t.list.take i))).1))), (111, .pv (.one (bI (zBk (0, 0, 0) (zBd (t.list.take i))).2.1))), (112, .pv (.one (bI (zBk (0, 0, 0) (zBd (t.list.take i))).2.2))), (8, .pv (iv i)), (9, .un), (52, .un), (63, .un), (113, .un), (114, .un), (115, .un)]) (fun i : Nat => t.list.length - i) (fun i : Nat => i ≤ t.list.length) (0) ?_ (Nat.zero_le _) ?_
      focus (simp (maxSteps := 2000000) only [go_sem, zAe, zAj, zAt, zAc]; all_goals (repeat' (first | exact trivial | exact zAg (by omega) | exact zAf rfl | exact zAr rfl | exact zAk | exact le_refl _ | refine And.intro ?_ ?_)))
      all_goals try exact zCC (by rw [List.take_zero, zBd, zBk]; rfl)
      intro i hi
      try simp (maxSteps := 2000000) only [go_sem]
      repeat with_reducible refine zAd ?_
      refine zAa (by rfl) trivial (fun g9 => ?_) (fun g9 => ?_)
      ·have hil : i < t.list.length := by simp at g9; omega
       have hwt := zDL t.list i hil
       have hpg := zBC t.list i hil
       have hmem : t.list.getD i default ∈ t.list := by
        rw [List.getD_eq_getElem?_getD, List.getElem?_eq_getElem hil]; exact List.getElem_mem hil
       obtain ⟨y, hy⟩ : ∃ y, y = t.list.getD i default := ⟨_, rfl⟩
       rw [← hy] at hmem hpg hwt
       have hc := hL _ hGL y hmem
       rw [zA3] at hc
       obtain ⟨b, hb⟩ : ∃ b, b = zBk (0, 0, 0) (zBd (t.list.take i)) := ⟨_, rfl⟩
       have hbs : zBk (0, 0, 0) (zBd (t.list.take (i + 1))) = if hvy (wgP y) b then wgP y else b := by rw [hwt, zGJ, ← hb]
       rw [← hb]
       have hh := zH6 (wgP y) b
       unfold wV at hc hh
       try simp (maxSteps := 2000000) only [go_sem, hpg]
       repeat with_reducible refine zAd ?_
       refine zAh (by repeat' constructor) (hc) ?_
       try simp (maxSteps := 2000000) only [go_sem]
       repeat with_reducible refine zAd ?_
       refine zAh (by repeat' constructor) (hh) ?_
       try simp (maxSteps := 2000000) only [go_sem]
       repeat with_reducible refine zAd ?_
       refine zAa (by rfl) trivial (fun g10 => ?_) (fun g10 => ?_)
       ·rw [if_pos g10] at hbs
        try simp (maxSteps := 2000000) only [go_sem]
        repeat with_reducible refine zAd ?_
        refine ⟨i + 1, by omega, by omega, ?_⟩
        simp (maxSteps := 2000000) only [go_sem, zAe, zAj, zAt, zAc]
        all_goals (repeat' (first | exact trivial | exact zAg (by omega) | exact zAf rfl | exact zAr rfl | exact zAk | exact le_refl _ | refine And.intro ?_ ?_))
        all_goals first | exact zAc | exact zAg (by omega) | exact zCC (by rw [hbs]) | rfl
       ·rw [if_neg (by rw [g10]; simp)] at hbs
        try simp (maxSteps := 2000000) only [go_sem]
        repeat with_reducible refine zAd ?_
        refine ⟨i + 1, by omega, by omega, ?_⟩
        simp (maxSteps := 2000000) only [go_sem, zAe, zAj, zAt, zAc]
        all_goals (repeat' (first | exact trivial | exact zAg (by omega) | exact zAf rfl | exact zAr rfl | exact zAk | exact le_refl _ | refine And.intro ?_ ?_))
        all_goals first | exact zAc | exact zAg (by omega) | exact zCC (by rw [hbs]) | rfl
      ·have hie : i = t.list.length := by simp at g9; omega
       subst hie
       have hbe : zQZ (zBd t.list) = zBk (0, 0, 0) (zBd t.list) := rfl
       rw [hbe] at hwT
       rw [List.take_length]
       obtain ⟨B, hB⟩ : ∃ B, B = zBk (0, 0, 0) (zBd t.list) := ⟨_, rfl⟩
       rw [← hB] at hwT ⊢
       rw [hwT] at d1 d2 d3 s1 s2 s3
       try simp (maxSteps := 2000000) only [go_sem]
       repeat with_reducible refine zAd ?_
       refine ⟨m + 1, by omega, by omega, ?_⟩
       simp (maxSteps := 2000000) only [go_sem, zAe, zAj, zAt, zAc]
       all_goals (repeat' (first | exact trivial | exact zAg (by omega) | exact zAf rfl | exact zAr rfl | exact zAk | exact le_refl _ | refine And.intro ?_ ?_))
       all_goals first | exact zAc | exact zAg (by omega) | exact zCC (by omega) | rfl
   ·have hme : m = x.tests.length := by simp at g3; omega
    subst hme
    try simp (maxSteps := 2000000) only [go_sem]
    repeat with_reducible refine zAd ?_
    rw [List.take_length]
    refine ⟨j + 1, by omega, by omega, ?_⟩
    simp (maxSteps := 2000000) only [go_sem, zAe, zAj, zAt, zAc]
    all_goals (repeat' (first | exact trivial | exact zAg (by omega) | exact zAf rfl | exact zAr rfl | exact zAk | exact le_refl _ | refine And.intro ?_ ?_))
    all_goals first | exact zAc | exact zAg (by omega) | exact zCC (by omega) | rfl
  ·have hx0 : x.tag = [] := by simpa using g2
   have htg : tgN x.tag = 0 := by unfold tgN; rw [if_pos hx0]
   try simp (maxSteps := 2000000) only [go_sem, hpv, hsv]
   repeat with_reducible refine zAd ?_
   refine zAo (fun m : Nat => [(101, .pv (.one (bI (((zDC (p.steps.take j)).1 + (zEA (x.tests.take m)).1 : Nat) : Int)))), (102, .pv (.one (bI (((zDC (p.steps.take j)).2.1 + (zEA (x.tests.take m)).2.1 : Nat) : Int)))), (103, .pv (.one (bI (((zDC (p.steps.take j)).2.2 + tgN x.tag + (zEA (x.tests.take m)).2.2 : Nat) : Int)))), (5, .pv (iv m)), (6, .un), (7, .un), (8, .un), (9, .un), (36, .un), (52, .un), (63, .un), (81, .un), (89, .un), (104, .un), (105, .un), (106, .un), (107, .un), (108, .un), (109, .un), (110, .un), (111, .un), (112, .un), (113, .un), (114, .un), (115, .un)]) (fun m : Nat => x.tests.length - m) (fun m : Nat => m ≤ x.tests.length) (0) ?_ (Nat.zero_le _) ?_
   focus (simp (maxSteps := 2000000) only [go_sem, zAe, zAj, zAt, zAc]; all_goals (repeat' (first | exact trivial | exact zAg (by omega) | exact zAf rfl | exact zAr rfl | exact zAk | exact le_refl _ | refine And.intro ?_ ?_)))
   all_goals try exact zCC (by simp only [List.take_zero, zMj, htg]; omega)
   intro m hm
   try simp (maxSteps := 2000000) only [go_sem, hpv, hsv, Nat.zero_add]
   repeat with_reducible refine zAd ?_
   refine zAa (by rfl) trivial (fun g3 => ?_) (fun g3 => ?_)
   ·have hml : m < x.tests.length := by simp at g3; omega
    have htv := zCr x.tests m hml
    have hGt := GTs.get x2 m hml
    obtain ⟨D, ⟨d1, d2, d3⟩, ⟨s1, s2, s3⟩⟩ := zH7 x.tests m hml
    obtain ⟨t, ht⟩ : ∃ t, t = x.tests.getD m default := ⟨_, rfl⟩
    rw [← ht] at htv hGt d1 d2 d3 s1 s2 s3
    obtain ⟨t1, t2⟩ := hGt.parts'
    try simp (maxSteps := 2000000) only [go_sem, hpv, hsv, htv]
    repeat with_reducible refine zAd ?_
    refine zAa (by rfl) trivial (fun q2 => ?_) (fun q2 => ?_)
    ·have hk : t.kind = 2 := by simpa using q2
     have hwT : wgT t = (1, 0, 0) := by rw [zDZ, if_pos hk]
     rw [hwT] at d1 d2 d3 s1 s2 s3
     simp only at d1 d2 d3 s1 s2 s3
     try simp (maxSteps := 2000000) only [go_sem]
     repeat with_reducible refine zAd ?_
     refine ⟨m + 1, by omega, by omega, ?_⟩
     simp (maxSteps := 2000000) only [go_sem, zAe, zAj, zAt, zAc]
     all_goals (repeat' (first | exact trivial | exact zAg (by omega) | exact zAf rfl | exact zAr rfl | exact zAk | exact le_refl _ | refine And.intro ?_ ?_))
     all_goals first | exact zAc | exact zAg (by omega) | exact zCC (by omega) | rfl
    ·have hk2 : t.kind ≠ 2 := by simpa using q2
     try simp (maxSteps := 2000000) only [go_sem]
     repeat with_reducible refine zAd ?_
     refine zAa (by rfl) trivial (fun q13 => ?_) (fun q13 => ?_)
     ·have hk : t.kind < 13 := by simpa using q13
      have hwT : wgT t = (0, 1, 0) := by rw [zDZ, if_neg (by omega), if_pos (by omega)]
      rw [hwT] at d1 d2 d3 s1 s2 s3
      simp only at d1 d2 d3 s1 s2 s3
      try simp (maxSteps := 2000000) only [go_sem]
      repeat with_reducible refine zAd ?_
      refine ⟨m + 1, by omega, by omega, ?_⟩
      simp (maxSteps := 2000000) only [go_sem, zAe, zAj, zAt, zAc]
      all_goals (repeat' (first | exact trivial | exact zAg (by omega) | exact zAf rfl | exact zAr rfl | exact zAk | exact le_refl _ | refine And.intro ?_ ?_))
      all_goals first | exact zAc | exact zAg (by omega) | exact zCC (by omega) | rfl
     ·have hk : 13 ≤ t.kind := by simp only [decide_eq_false_iff_not] at q13; omega
      have hwT : wgT t = zQZ (zBd t.list) := by rw [zDZ, if_neg (by omega), if_neg (by omega)]
      have hGL := t2 (by omega)
      have hl5 := hGL.2.2.1
      try simp (maxSteps := 2000000) only [go_sem]
      repeat with_reducible refine zAd ?_
      refine zAo (fun i : Nat => [(110, .pv (.one (bI (zBk (0, 0, 0) (zBd (t.list.take i))).1))), (111, .pv (.one (bI (zBk (0, 0, 0) (zBd (t.list.take i))).2.1))), (112, .pv (.one (bI (zBk (0, 0, 0) (zBd (t.list.take i))).2.2))), (8, .pv (iv i)), (9, .un), (52, .un), (63, .un), (113, .un), (114, .un), (115, .un)]) (fun i : Nat => t.list.length - i) (fun i : Nat => i ≤ t.list.length) (0) ?_ (Nat.zero_le _) ?_
      focus (simp (maxSteps := 2000000) only [go_sem, zAe, zAj, zAt, zAc]; all_goals (repeat' (first | exact trivial | exact zAg (by omega) | exact zAf rfl | exact zAr rfl | exact zAk | exact le_refl _ | refine And.intro ?_ ?_)))
      all_goals try exact zCC (by rw [List.take_zero, zBd, zBk]; rfl)
      intro i hi
      try simp (maxSteps := 2000000) only [go_sem]
      repeat with_reducible refine zAd ?_
      refine zAa (by rfl) trivial (fun g9 => ?_) (fun g9 => ?_)
      ·have hil : i < t.list.length := by simp at g9; omega
       have hwt := zDL t.list i hil
       have hpg := zBC t.list i hil
       have hmem : t.list.getD i default ∈ t.list := by
        rw [List.getD_eq_getElem?_getD, List.getElem?_eq_getElem hil]; exact List.getElem_mem hil
       obtain ⟨y, hy⟩ : ∃ y, y = t.list.getD i default := ⟨_, rfl⟩
       rw [← hy] at hmem hpg hwt
       have hc := hL _ hGL y hmem
       rw [zA3] at hc
       obtain ⟨b, hb⟩ : ∃ b, b = zBk (0, 0, 0) (zBd (t.list.take i)) := ⟨_, rfl⟩
       have hbs : zBk (0, 0, 0) (zBd (t.list.take (i + 1))) = if hvy (wgP y) b then wgP y else b := by rw [hwt, zGJ, ← hb]
       rw [← hb]
       have hh := zH6 (wgP y) b
       unfold wV at hc hh
       try simp (maxSteps := 2000000) only [go_sem, hpg]
       repeat with_reducible refine zAd ?_
       refine zAh (by repeat' constructor) (hc) ?_
       try simp (maxSteps := 2000000) only [go_sem]
       repeat with_reducible refine zAd ?_
       refine zAh (by repeat' constructor) (hh) ?_
       try simp (maxSteps := 2000000) only [go_sem]
       repeat with_reducible refine zAd ?_
       refine zAa (by rfl) trivial (fun g10 => ?_) (fun g10 => ?_)
       ·rw [if_pos g10] at hbs
        try simp (maxSteps := 2000000) only [go_sem]
        repeat with_reducible refine zAd ?_
        refine ⟨i + 1, by omega, by omega, ?_⟩
        simp (maxSteps := 2000000) only [go_sem, zAe, zAj, zAt, zAc]
        all_goals (repeat' (first | exact trivial | exact zAg (by omega) | exact zAf rfl | exact zAr rfl | exact zAk | exact le_refl _ | refine And.intro ?_ ?_))
        all_goals first | exact zAc | exact zAg (by omega) | exact zCC (by rw [hbs]) | rfl
       ·rw [if_neg (by rw [g10]; simp)] at hbs
        try simp (maxSteps := 2000000) only [go_sem]
        repeat with_reducible refine zAd ?_
        refine ⟨i + 1, by omega, by omega, ?_⟩
        simp (maxSteps := 2000000) only [go_sem, zAe, zAj, zAt, zAc]
        all_goals (repeat' (first | exact trivial | exact zAg (by omega) | exact zAf rfl | exact zAr rfl | exact zAk | exact le_refl _ | refine And.intro ?_ ?_))
        all_goals first | exact zAc | exact zAg (by omega) | exact zCC (by rw [hbs]) | rfl
      ·have hie : i = t.list.length := by simp at g9; omega
       subst hie
       have hbe : zQZ (zBd t.list) = zBk (0, 0, 0) (zBd t.list) := rfl
       rw [hbe] at hwT
       rw [List.take_length]
       obtain ⟨B, hB⟩ : ∃ B, B = zBk (0, 0, 0) (zBd t.list) := ⟨_, rfl⟩
       rw [← hB] at hwT ⊢
       rw [hwT] at d1 d2 d3 s1 s2 s3
       try simp (maxSteps := 2000000) only [go_sem]
       repeat with_reducible refine zAd ?_
       refine ⟨m + 1, by omega, by omega, ?_⟩
       simp (maxSteps := 2000000) only [go_sem, zAe, zAj, zAt, zAc]
       all_goals (repeat' (first | exact trivial | exact zAg (by omega) | exact zAf rfl | exact zAr rfl | exact zAk | exact le_refl _ | refine And.intro ?_ ?_))
       all_goals first | exact zAc | exact zAg (by omega) | exact zCC (by omega) | rfl
   ·have hme : m = x.tests.length := by simp at g3; omega
    subst hme
    try simp (maxSteps := 2000000) only [go_sem]
    repeat with_reducible refine zAd ?_
    rw [List.take_length]
    refine ⟨j + 1, by omega, by omega, ?_⟩
    simp (maxSteps := 2000000) only [go_sem, zAe, zAj, zAt, zAc]
    all_goals (repeat' (first | exact trivial | exact zAg (by omega) | exact zAf rfl | exact zAr rfl | exact zAk | exact le_refl _ | refine And.intro ?_ ?_))
    all_goals first | exact zAc | exact zAg (by omega) | exact zCC (by omega) | rfl
 ·have hje : j = p.steps.length := by simp at g1; omega
  subst hje
  rw [List.take_length]
  try simp (maxSteps := 2000000) only [go_sem]
  repeat with_reducible refine zAd ?_
  exact zGe rfl rfl rfl
theorem zQ1 : ∀ n d : Nat, 1 ≤ d → d + n = 4 → d ≤ 3 → ∀ p : Pt, GP p d → Contract Tryz.prog zCs [.val (.agg (ptV p))] { res := .val (.agg (wV (wgP p))) }
 | 0, d, hd, hn, h3 => by omega
 | n + 1, d, hd, hn, h3 => fun p hp => zTO d hd (fun l hl x hx => by
   have h4 := hl.1
   obtain ⟨i, hi, rfl⟩ := List.getElem_of_mem hx
   have hg := GPs.get hl.2.2.2 i hi
   have he : l.getD i default = l[i] := by simp [List.getD_eq_getElem?_getD, hi]
   rw [he] at hg
   exact zQ1 n (d + 1) (by omega) (by omega) h4 _ hg) p hp
theorem zYq : ∀ n d : Nat, 1 ≤ d → d + n = 4 → d ≤ 3 → ∀ p : Pt, GP p d → Contract Tryz.prog zBp [.val (.agg (ptV p))] { res := .val (.agg (wV (wgP p))) }
 | 0, d, hd, hn, h3 => by omega
 | n + 1, d, hd, hn, h3 => fun p hp => zOI d hd (fun l hl x hx => by
   have h4 := hl.1
   obtain ⟨i, hi, rfl⟩ := List.getElem_of_mem hx
   have hg := GPs.get hl.2.2.2 i hi
   have he : l.getD i default = l[i] := by simp [List.getD_eq_getElem?_getD, hi]
   rw [he] at hg
   exact zYq n (d + 1) (by omega) (by omega) h4 _ hg) p hp
theorem zQD (p : Pt) (h : zBt [p] = 0) : Contract Tryz.prog zBp [.val (.agg (ptV p))] { res := .val (.agg (wV (wgP p))) } :=
 zYq 3 1 (Nat.le_refl _) rfl (by omega) p (yF6 h)
def wOf (p : Pt) : Wt := if zBt [p] = 0 then wgP p else (0, 0, 0)
theorem zJD (p : Pt) : Contract Tryz.prog zEc [.val (.agg (ptV p))] { res := .tup [.agg (wV (wOf p)), iv (zBt [p])] } := by
 have hc := zCR [p]
 have hl : zBu [p] = .one (.sl 2 [ptV p]) := rfl
 rw [hl, zA3] at hc
 have hw := zQ1 3 1 (Nat.le_refl _) rfl (by omega) p
 rw [zA3] at hw
 unfold wOf
 rw [zA3]
 refine zTB (base := 0) ⟨Nat.le_of_ble_eq_true rfl, Nat.le_of_ble_eq_true rfl, Nat.le_of_ble_eq_true rfl, rfl⟩ (fun hfit => ?_)
 unfold F0 zEV
 simp (maxSteps := 2000000) only [zAN, List.set_cons_succ, List.set_cons_zero, List.map_cons, List.map_nil, zAM, zAb, ioOf, List.length_cons, List.length_nil, Nat.reduceAdd, Nat.reduceSub, List.replicate, List.cons_append, List.nil_append]
 try simp (maxSteps := 2000000) only [go_sem]
 repeat with_reducible refine zAd ?_
 refine zAh (by repeat' constructor) (hc) ?_
 try simp (maxSteps := 2000000) only [go_sem]
 repeat with_reducible refine zAd ?_
 refine zAa (by rfl) trivial (fun h1 => ?_) (fun h1 => ?_)
 ·have hne : ¬ zBt [p] = 0 := by simpa using h1
  rw [if_neg hne]
  try simp (maxSteps := 2000000) only [go_sem]
  repeat with_reducible refine zAd ?_
  exact zCM (by simp) ⟨zBg rfl rfl (.inl rfl), zA1 rfl trivial (.inl rfl), rfl⟩
 ·have hne : zBt [p] = 0 := by simpa using h1
  have hw := hw (yF6 hne)
  rw [if_pos hne]
  try simp (maxSteps := 2000000) only [go_sem]
  repeat with_reducible refine zAd ?_
  refine zAh (by repeat' constructor) (hw) ?_
  try simp (maxSteps := 2000000) only [go_sem, wV]
  repeat with_reducible refine zAd ?_
  exact zCM (by simp) ⟨zBg rfl rfl (.inl rfl), zA1 rfl trivial (.inl (by rw [hne])), rfl⟩
end Go.Hx
