/-
  Walks of functions of the program: each contract says what the function computes, for every input that its conditions let by. No other condition.
-/
import Derived.Test.YtjnagiaooecklabGreatDoorG22
import Derived.Test.YtjnagiaooecklabGreatDoorG25
import Derived.Test.YtjnagiaooecklabGreatDoorG20
import Derived.Test.YtjnagiaooecklabGreatDoorG24
set_option linter.all false
set_option maxRecDepth 100000
set_option linter.unusedSimpArgs false
set_option maxHeartbeats 4000000
namespace Go.Hx
open Go.Proofs Go.RowKit
attribute [local instance] zAZ
attribute [local go_sem] zAw zAu zAv zAm ndV zAq zCp
attribute [local go_sem] reduceCtorEq Nat.reduceAdd Nat.reduceEqDiff reduceIte Nat.reduceLeDiff Nat.reduceLT Nat.reduceSub
def lookL : List Pt := [.mk [.mk [105, 116, 101, 109] [.mk 13 [] [] 0 0 [.mk [.mk [] [.mk 10 [] [] 0 1 []]] []]], .mk [] [.mk 15 [] [] 0 0 [.mk [.mk [] [.mk 8 [116, 111] [116, 119, 111] 0 0 []]] []]]] [3], .mk [.mk [] [.mk 2 [116, 111, 112] [] 0 0 []]] []]
theorem zIL : zBB lookL = 0 := by kernel_rfl
theorem zSy : zPT lookL = [105, 116, 101, 109, 58, 110, 111, 116, 40, 42, 58, 108, 97, 115, 116, 40, 48, 110, 43, 49, 41, 41, 32, 43, 32, 42, 58, 104, 97, 115, 40, 42, 91, 116, 111, 126, 61, 34, 116, 119, 111, 34, 93, 41, 44, 32, 42, 35, 116, 111, 112] := by kernel_rfl
theorem zYN : zBB [lookL.getD 0 default] = 0 := by kernel_rfl
theorem zV3 : wOf (lookL.getD 0 default) = (0, 2, 1) := by kernel_rfl
theorem zYO : zBB [] = 2 := by kernel_rfl
theorem zYP : (zPT lookL).length ≤ 268435456 := by rw [zSy]; decide
theorem zGK (l : List Pt) : zDy l l = true := (zGc l l).2 rfl
theorem zEz : Contract Tryz.prog zCh [] { res := .val (zCp lookL) } := by
 refine zQE (base := 0) ⟨Nat.le_of_ble_eq_true rfl, Nat.le_of_ble_eq_true rfl, Nat.le_of_ble_eq_true rfl, rfl⟩ (fun hfit => ?_)
 unfold F0 zEy
 simp (maxSteps := 2000000) only [zAS, List.set_cons_succ, List.set_cons_zero, List.map_cons, List.map_nil, zAQ, zAb, ioOf, List.length_cons, List.length_nil, Nat.reduceAdd, Nat.reduceSub, List.replicate, List.cons_append, List.nil_append]
 try simp (maxSteps := 2000000) only [go_sem]
 repeat with_reducible refine zAc ?_
 refine zAt rfl trivial (.inl ?_)
 rfl
theorem zFy {s : Bys} {l : List Pt} (h : zID s = some l) : zBD s = { res := .tup [zCp l, iv 0] } := by unfold zBD; rw [h]
theorem zT5 {s : Bys} (h : zID s = none) : zBD s = { res := .tup [zCp [], iv 1] } := by unfold zBD; rw [h]
theorem zGd {l : List Pt} (h : zBB l = 0) : zIF l = { res := .tup [sv (zPT l), iv 0] } := by unfold zIF; rw [if_pos h, h]
theorem zOm {l : List Pt} (h : zBB l ≠ 0) : zIF l = { res := .tup [sv [], iv (zBB l)] } := by unfold zIF; rw [if_neg h]
theorem zDa : Contract Tryz.prog zCz [] { res := .val (bv true) } := by
 have hS := zGC lookL
 rw [zGd zIL] at hS
 have hR := zFu (zPT lookL) zYP
 rw [zFy (zGb zIL)] at hR
 rw [zSy] at hR hS
 have hW := zSv (lookL.getD 0 default)
 rw [zV3, zYN, show wV (0, 2, 1) = [bI 0, bI 2, bI 1] from rfl] at hW
 have hC := zCG lookL
 rw [zIL] at hC
 have hN := zCG []
 rw [zYO] at hN
 have hE := zP5 lookL lookL
 rw [zGK] at hE
 refine zK2 (base := 0) ⟨Nat.le_of_ble_eq_true rfl, Nat.le_of_ble_eq_true rfl, Nat.le_of_ble_eq_true rfl, rfl⟩ (fun hfit => ?_)
 unfold F0 zC8
 simp (maxSteps := 2000000) only [zAS, List.set_cons_succ, List.set_cons_zero, List.map_cons, List.map_nil, zAQ, zAb, ioOf, List.length_cons, List.length_nil, Nat.reduceAdd, Nat.reduceSub, List.replicate, List.cons_append, List.nil_append]
 try simp (maxSteps := 2000000) only [go_sem]
 repeat with_reducible refine zAc ?_
 refine zAf (by repeat' constructor) (zEz) ?_
 try simp (maxSteps := 2000000) only [go_sem]
 repeat with_reducible refine zAc ?_
 refine zAF (by repeat' constructor) (hS) ?_
 try simp (maxSteps := 2000000) only [go_sem]
 repeat with_reducible refine zAc ?_
 refine zAF (by repeat' constructor) (hR) ?_
 try simp (maxSteps := 2000000) only [go_sem]
 repeat with_reducible refine zAc ?_
 refine zAf (by repeat' constructor) (zEz) ?_
 try simp (maxSteps := 2000000) only [go_sem]
 repeat with_reducible refine zAc ?_
 rw [show List.map PV.norm ((zGg lookL).getD (Int.toNat 0) []) = ptV (lookL.getD 0 default) from rfl]
 refine zAF (by repeat' constructor) (hW) ?_
 try simp (maxSteps := 2000000) only [go_sem]
 repeat with_reducible refine zAc ?_
 refine zAf (by repeat' constructor) (zEz) ?_
 try simp (maxSteps := 2000000) only [go_sem]
 repeat with_reducible refine zAc ?_
 refine zAf (by repeat' constructor) (hC) ?_
 try simp (maxSteps := 2000000) only [go_sem]
 repeat with_reducible refine zAc ?_
 apply zAV (h2 := fun _ => hN)
 ·(simp (maxSteps := 2000000) only [go_sem]; rfl)
 ·intro h; repeat' (first | exact trivial | exact h | refine And.intro ?_ ?_)
 try simp (maxSteps := 2000000) only [go_sem]
 repeat with_reducible refine zAc ?_
 apply zAV (h2 := fun _ => zEz)
 ·(simp (maxSteps := 2000000) only [go_sem]; rfl)
 ·intro h; repeat' (first | exact trivial | exact h | refine And.intro ?_ ?_)
 try simp (maxSteps := 2000000) only [go_sem]
 repeat with_reducible refine zAc ?_
 apply zAV (h2 := fun _ => hE)
 ·(simp (maxSteps := 2000000) only [go_sem]; rfl)
 ·intro h; repeat' (first | exact trivial | exact h | refine And.intro ?_ ?_)
 try simp (maxSteps := 2000000) only [go_sem]
 repeat with_reducible refine zAc ?_
 refine zAt rfl trivial (.inl ?_)
 simp
theorem zNY (l : List Pt) (s : Bys) (hs : s.length ≤ 268435456) : Contract Tryz.prog zFW [.val (zCp l), .val (sv s)] { res := .val (bv true) } := by
 have hR := zFu s hs
 have hS := zGC l
 cases hr : zID s with
 | none =>
  rw [zT5 hr] at hR
  by_cases hc : zBB l = 0
  ·rw [zGd hc] at hS
   have hT := zFu (zPT l) (by have := yCQ (Nat.le_refl _) (zW3 hc); omega)
   rw [zFy (zGb hc)] at hT
   have hE := zP5 l l
   rw [zGK] at hE
   refine zC9 (base := 0) ⟨Nat.le_of_ble_eq_true rfl, Nat.le_of_ble_eq_true rfl, Nat.le_of_ble_eq_true rfl, rfl⟩ (fun hfit => ?_)
   unfold F0 zBA
   simp (maxSteps := 2000000) only [zAS, List.set_cons_succ, List.set_cons_zero, List.map_cons, List.map_nil, zAQ, zAb, ioOf, List.length_cons, List.length_nil, Nat.reduceAdd, Nat.reduceSub, List.replicate, List.cons_append, List.nil_append]
   try simp (maxSteps := 2000000) only [go_sem]
   repeat with_reducible refine zAc ?_
   refine zAF (by repeat' constructor) (hS) ?_
   try simp (maxSteps := 2000000) only [go_sem]
   repeat with_reducible refine zAc ?_
   refine zAa (by rfl) trivial (fun h => ?_) (fun h => ?_)
   ·try simp (maxSteps := 2000000) only [go_sem]
    repeat with_reducible refine zAc ?_
    refine zAF (by repeat' constructor) (hT) ?_
    try simp (maxSteps := 2000000) only [go_sem]
    repeat with_reducible refine zAc ?_
    apply zAV (h2 := fun _ => hE)
    ·(simp (maxSteps := 2000000) only [go_sem]; rfl)
    ·intro h; repeat' (first | exact trivial | exact h | refine And.intro ?_ ?_)
    try simp (maxSteps := 2000000) only [go_sem]
    repeat with_reducible refine zAc ?_
    refine zAa (by rfl) trivial (fun h3 => ?_) (fun h3 => ?_)
    ·simp at h3
    ·try simp (maxSteps := 2000000) only [go_sem]
     repeat with_reducible refine zAc ?_
     refine zAF (by repeat' constructor) (hR) ?_
     try simp (maxSteps := 2000000) only [go_sem]
     repeat with_reducible refine zAc ?_
     refine zAa (by rfl) trivial (fun h4 => ?_) (fun h4 => ?_)
     ·try simp (maxSteps := 2000000) only [go_sem]
      repeat with_reducible refine zAc ?_
      refine zAf (by repeat' constructor) (zDa) ?_
      try simp (maxSteps := 2000000) only [go_sem]
      repeat with_reducible refine zAc ?_
      refine zAt rfl trivial (.inl ?_)
      simp
     ·simp at h4
   ·simp at h
  ·rw [zOm hc] at hS
   refine zC9 (base := 0) ⟨Nat.le_of_ble_eq_true rfl, Nat.le_of_ble_eq_true rfl, Nat.le_of_ble_eq_true rfl, rfl⟩ (fun hfit => ?_)
   unfold F0 zBA
   simp (maxSteps := 2000000) only [zAS, List.set_cons_succ, List.set_cons_zero, List.map_cons, List.map_nil, zAQ, zAb, ioOf, List.length_cons, List.length_nil, Nat.reduceAdd, Nat.reduceSub, List.replicate, List.cons_append, List.nil_append]
   try simp (maxSteps := 2000000) only [go_sem]
   repeat with_reducible refine zAc ?_
   refine zAF (by repeat' constructor) (hS) ?_
   try simp (maxSteps := 2000000) only [go_sem]
   repeat with_reducible refine zAc ?_
   refine zAa (by rfl) trivial (fun h => ?_) (fun h => ?_)
   ·simp [hc] at h
   ·try simp (maxSteps := 2000000) only [go_sem]
    repeat with_reducible refine zAc ?_
    refine zAF (by repeat' constructor) (hR) ?_
    try simp (maxSteps := 2000000) only [go_sem]
    repeat with_reducible refine zAc ?_
    refine zAa (by rfl) trivial (fun h4 => ?_) (fun h4 => ?_)
    ·try simp (maxSteps := 2000000) only [go_sem]
     repeat with_reducible refine zAc ?_
     refine zAf (by repeat' constructor) (zDa) ?_
     try simp (maxSteps := 2000000) only [go_sem]
     repeat with_reducible refine zAc ?_
     refine zAt rfl trivial (.inl ?_)
     simp
    ·simp at h4
 | some D =>
  rw [zFy hr] at hR
  obtain ⟨hD, hDs⟩ := zXa.1 hr
  have hU := zGC D
  rw [zGd hD, hDs] at hU
  by_cases hc : zBB l = 0
  ·rw [zGd hc] at hS
   have hT := zFu (zPT l) (by have := yCQ (Nat.le_refl _) (zW3 hc); omega)
   rw [zFy (zGb hc)] at hT
   have hE := zP5 l l
   rw [zGK] at hE
   refine zC9 (base := 0) ⟨Nat.le_of_ble_eq_true rfl, Nat.le_of_ble_eq_true rfl, Nat.le_of_ble_eq_true rfl, rfl⟩ (fun hfit => ?_)
   unfold F0 zBA
   simp (maxSteps := 2000000) only [zAS, List.set_cons_succ, List.set_cons_zero, List.map_cons, List.map_nil, zAQ, zAb, ioOf, List.length_cons, List.length_nil, Nat.reduceAdd, Nat.reduceSub, List.replicate, List.cons_append, List.nil_append]
   try simp (maxSteps := 2000000) only [go_sem]
   repeat with_reducible refine zAc ?_
   refine zAF (by repeat' constructor) (hS) ?_
   try simp (maxSteps := 2000000) only [go_sem]
   repeat with_reducible refine zAc ?_
   refine zAa (by rfl) trivial (fun h => ?_) (fun h => ?_)
   ·try simp (maxSteps := 2000000) only [go_sem]
    repeat with_reducible refine zAc ?_
    refine zAF (by repeat' constructor) (hT) ?_
    try simp (maxSteps := 2000000) only [go_sem]
    repeat with_reducible refine zAc ?_
    apply zAV (h2 := fun _ => hE)
    ·(simp (maxSteps := 2000000) only [go_sem]; rfl)
    ·intro h; repeat' (first | exact trivial | exact h | refine And.intro ?_ ?_)
    try simp (maxSteps := 2000000) only [go_sem]
    repeat with_reducible refine zAc ?_
    refine zAa (by rfl) trivial (fun h3 => ?_) (fun h3 => ?_)
    ·simp at h3
    ·try simp (maxSteps := 2000000) only [go_sem]
     repeat with_reducible refine zAc ?_
     refine zAF (by repeat' constructor) (hR) ?_
     try simp (maxSteps := 2000000) only [go_sem]
     repeat with_reducible refine zAc ?_
     refine zAa (by rfl) trivial (fun h4 => ?_) (fun h4 => ?_)
     ·simp at h4
     ·try simp (maxSteps := 2000000) only [go_sem]
      repeat with_reducible refine zAc ?_
      refine zAF (by repeat' constructor) (hU) ?_
      try simp (maxSteps := 2000000) only [go_sem]
      repeat with_reducible refine zAc ?_
      refine zAf (by repeat' constructor) (zDa) ?_
      try simp (maxSteps := 2000000) only [go_sem]
      repeat with_reducible refine zAc ?_
      refine zAt rfl trivial (.inl ?_)
      simp
   ·simp at h
  ·rw [zOm hc] at hS
   refine zC9 (base := 0) ⟨Nat.le_of_ble_eq_true rfl, Nat.le_of_ble_eq_true rfl, Nat.le_of_ble_eq_true rfl, rfl⟩ (fun hfit => ?_)
   unfold F0 zBA
   simp (maxSteps := 2000000) only [zAS, List.set_cons_succ, List.set_cons_zero, List.map_cons, List.map_nil, zAQ, zAb, ioOf, List.length_cons, List.length_nil, Nat.reduceAdd, Nat.reduceSub, List.replicate, List.cons_append, List.nil_append]
   try simp (maxSteps := 2000000) only [go_sem]
   repeat with_reducible refine zAc ?_
   refine zAF (by repeat' constructor) (hS) ?_
   try simp (maxSteps := 2000000) only [go_sem]
   repeat with_reducible refine zAc ?_
   refine zAa (by rfl) trivial (fun h => ?_) (fun h => ?_)
   ·simp [hc] at h
   ·try simp (maxSteps := 2000000) only [go_sem]
    repeat with_reducible refine zAc ?_
    refine zAF (by repeat' constructor) (hR) ?_
    try simp (maxSteps := 2000000) only [go_sem]
    repeat with_reducible refine zAc ?_
    refine zAa (by rfl) trivial (fun h4 => ?_) (fun h4 => ?_)
    ·simp at h4
    ·try simp (maxSteps := 2000000) only [go_sem]
     repeat with_reducible refine zAc ?_
     refine zAF (by repeat' constructor) (hU) ?_
     try simp (maxSteps := 2000000) only [go_sem]
     repeat with_reducible refine zAc ?_
     refine zAf (by repeat' constructor) (zDa) ?_
     try simp (maxSteps := 2000000) only [go_sem]
     repeat with_reducible refine zAc ?_
     refine zAt rfl trivial (.inl ?_)
     simp
end Go.Hx
