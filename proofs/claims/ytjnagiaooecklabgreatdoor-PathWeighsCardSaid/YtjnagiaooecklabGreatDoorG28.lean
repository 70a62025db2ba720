/-
  Walks of functions of the program: each contract says what the function computes, for every input that its conditions let by. No other condition.
-/
import Derived.Test.YtjnagiaooecklabGreatDoorG23
import Derived.Test.YtjnagiaooecklabGreatDoorG27
import Derived.Test.YtjnagiaooecklabGreatDoorG24
import Derived.Test.YtjnagiaooecklabGreatDoorG21
import Derived.Test.YtjnagiaooecklabGreatDoorG26
set_option linter.all false
set_option maxRecDepth 100000
set_option linter.unusedSimpArgs false
set_option maxHeartbeats 4000000
namespace Go.Hx
open Go.Proofs Go.RowKit
attribute [local instance] zA2
attribute [local go_sem] zAz zAx zAy zAq ndV zAu zBu
attribute [local go_sem] reduceCtorEq Nat.reduceAdd Nat.reduceEqDiff reduceIte Nat.reduceLeDiff Nat.reduceLT Nat.reduceSub
def lookL : List Pt := [.mk [.mk [105, 116, 101, 109] [.mk 13 [] [] 0 0 [.mk [.mk [] [.mk 10 [] [] 0 1 []]] []]], .mk [] [.mk 15 [] [] 0 0 [.mk [.mk [] [.mk 8 [116, 111] [116, 119, 111] 0 0 []]] []]]] [3], .mk [.mk [] [.mk 2 [116, 111, 112] [] 0 0 []]] []]
theorem zJl : zBt lookL = 0 := by kernel_rfl
theorem zVR : zXd lookL = [105, 116, 101, 109, 58, 110, 111, 116, 40, 42, 58, 108, 97, 115, 116, 40, 48, 110, 43, 49, 41, 41, 32, 43, 32, 42, 58, 104, 97, 115, 40, 42, 91, 116, 111, 126, 61, 34, 116, 119, 111, 34, 93, 41, 44, 32, 42, 35, 116, 111, 112] := by kernel_rfl
theorem yCt : zBt [lookL.getD 0 default] = 0 := by kernel_rfl
theorem zZE : wOf (lookL.getD 0 default) = (0, 2, 1) := by kernel_rfl
theorem yCu : zBt [] = 2 := by kernel_rfl
theorem yCv : (zXd lookL).length ≤ 268435456 := by rw [zVR]; decide
theorem zXu (l : List Pt) : zDJ l l = true := (zGI l l).2 rfl
theorem zEY : Contract Tryz.prog zCu [] { res := .val (zBu lookL) } := by
 refine zTR (base := 0) ⟨Nat.le_of_ble_eq_true rfl, Nat.le_of_ble_eq_true rfl, Nat.le_of_ble_eq_true rfl, rfl⟩ (fun hfit => ?_)
 unfold F0 zEX
 simp (maxSteps := 2000000) only [zAN, List.set_cons_succ, List.set_cons_zero, List.map_cons, List.map_nil, zAM, zAb, ioOf, List.length_cons, List.length_nil, Nat.reduceAdd, Nat.reduceSub, List.replicate, List.cons_append, List.nil_append]
 try simp (maxSteps := 2000000) only [go_sem]
 repeat with_reducible refine zAd ?_
 refine zAl rfl trivial (.inl ?_)
 rfl
theorem zXv {s : Bys} {l : List Pt} (h : zVe s = some l) : zB9 s = { res := .tup [zBu l, iv 0] } := by unfold zB9; rw [h]
theorem zZF {l : List Pt} (h : zBt l = 0) : zS6 l = { res := .tup [sv (zXd l), iv 0] } := by unfold zS6; rw [if_pos h, h]
theorem zGr : Contract Tryz.prog zDW [] { res := .val (bv true) } := by
 have hS := zXi lookL
 rw [zZF zJl] at hS
 have hR := zXs (zXd lookL) yCv
 rw [zXv (zZq zJl)] at hR
 rw [zVR] at hR hS
 have hW := zJD (lookL.getD 0 default)
 rw [zZE, yCt, show wV (0, 2, 1) = [bI 0, bI 2, bI 1] from rfl] at hW
 have hC := zCR lookL
 rw [zJl] at hC
 have hN := zCR []
 rw [yCu] at hN
 have hE := yCl lookL lookL
 rw [zXu] at hE
 refine zL7 (base := 0) ⟨Nat.le_of_ble_eq_true rfl, Nat.le_of_ble_eq_true rfl, Nat.le_of_ble_eq_true rfl, rfl⟩ (fun hfit => ?_)
 unfold F0 zDj
 simp (maxSteps := 2000000) only [zAN, List.set_cons_succ, List.set_cons_zero, List.map_cons, List.map_nil, zAM, zAb, ioOf, List.length_cons, List.length_nil, Nat.reduceAdd, Nat.reduceSub, List.replicate, List.cons_append, List.nil_append]
 try simp (maxSteps := 2000000) only [go_sem]
 repeat with_reducible refine zAd ?_
 refine zAh (by repeat' constructor) (zEY) ?_
 try simp (maxSteps := 2000000) only [go_sem]
 repeat with_reducible refine zAd ?_
 refine zAR (by repeat' constructor) (hS) ?_
 try simp (maxSteps := 2000000) only [go_sem]
 repeat with_reducible refine zAd ?_
 refine zAR (by repeat' constructor) (hR) ?_
 try simp (maxSteps := 2000000) only [go_sem]
 repeat with_reducible refine zAd ?_
 refine zAh (by repeat' constructor) (zEY) ?_
 try simp (maxSteps := 2000000) only [go_sem]
 repeat with_reducible refine zAd ?_
 rw [show List.map PV.norm ((zF2 lookL).getD (Int.toNat 0) []) = ptV (lookL.getD 0 default) from rfl]
 refine zAR (by repeat' constructor) (hW) ?_
 try simp (maxSteps := 2000000) only [go_sem]
 repeat with_reducible refine zAd ?_
 refine zAh (by repeat' constructor) (zEY) ?_
 try simp (maxSteps := 2000000) only [go_sem]
 repeat with_reducible refine zAd ?_
 refine zAh (by repeat' constructor) (hC) ?_
 try simp (maxSteps := 2000000) only [go_sem]
 repeat with_reducible refine zAd ?_
 apply zAG (h2 := fun _ => hN)
 ·(simp (maxSteps := 2000000) only [go_sem]; rfl)
 ·intro h; repeat' (first | exact trivial | exact h | refine And.intro ?_ ?_)
 try simp (maxSteps := 2000000) only [go_sem]
 repeat with_reducible refine zAd ?_
 apply zAG (h2 := fun _ => zEY)
 ·(simp (maxSteps := 2000000) only [go_sem]; rfl)
 ·intro h; repeat' (first | exact trivial | exact h | refine And.intro ?_ ?_)
 try simp (maxSteps := 2000000) only [go_sem]
 repeat with_reducible refine zAd ?_
 apply zAG (h2 := fun _ => hE)
 ·(simp (maxSteps := 2000000) only [go_sem]; rfl)
 ·intro h; repeat' (first | exact trivial | exact h | refine And.intro ?_ ?_)
 try simp (maxSteps := 2000000) only [go_sem]
 repeat with_reducible refine zAd ?_
 refine zAl rfl trivial (.inl ?_)
 simp
theorem zL9 (p : Pt) : Contract Tryz.prog zFx [.val (.agg (ptV p))] { res := .val (bv true) } := by
 have hW := zJD p
 have hC := zOm [p]
 have hl : zBu [p] = .one (.sl 2 [ptV p]) := rfl
 rw [hl, zA3] at hC
 rw [zA3] at hW
 by_cases hc : zBt [p] = 0
 ·have hO := zQD p hc
  have hw : wOf p = wgP p := by unfold wOf; rw [if_pos hc]
  rw [zA3] at hO ⊢
  rw [hw] at hW
  obtain ⟨w, hww⟩ : ∃ w, w = wgP p := ⟨_, rfl⟩
  rw [← hww] at hW hO
  rw [hc] at hW hC
  rw [show wV w = [bI w.1, bI w.2.1, bI w.2.2] from rfl] at hW hO
  refine zFy (base := 0) ⟨Nat.le_of_ble_eq_true rfl, Nat.le_of_ble_eq_true rfl, Nat.le_of_ble_eq_true rfl, rfl⟩ (fun hfit => ?_)
  unfold F0 zBY
  simp (maxSteps := 2000000) only [zAN, List.set_cons_succ, List.set_cons_zero, List.map_cons, List.map_nil, zAM, zAb, ioOf, List.length_cons, List.length_nil, Nat.reduceAdd, Nat.reduceSub, List.replicate, List.cons_append, List.nil_append]
  try simp (maxSteps := 2000000) only [go_sem]
  repeat with_reducible refine zAd ?_
  refine zAR (by repeat' constructor) (hW) ?_
  try simp (maxSteps := 2000000) only [go_sem]
  repeat with_reducible refine zAd ?_
  refine zAh (by repeat' constructor) (hC) ?_
  try simp (maxSteps := 2000000) only [go_sem]
  repeat with_reducible refine zAd ?_
  refine zAa (by rfl) trivial (fun h => ?_) (fun h => ?_)
  ·try simp (maxSteps := 2000000) only [go_sem]
   repeat with_reducible refine zAd ?_
   refine zAh (by repeat' constructor) (hO) ?_
   try simp (maxSteps := 2000000) only [go_sem]
   repeat with_reducible refine zAd ?_
   refine zAh (by repeat' constructor) (zGr) ?_
   try simp (maxSteps := 2000000) only [go_sem]
   repeat with_reducible refine zAd ?_
   refine zAl rfl trivial (.inl ?_)
   simp
  ·simp at h
 ·have hw : wOf p = (0, 0, 0) := by unfold wOf; rw [if_neg hc]
  rw [zA3]
  rw [hw, show wV (0, 0, 0) = [bI 0, bI 0, bI 0] from rfl] at hW
  refine zFy (base := 0) ⟨Nat.le_of_ble_eq_true rfl, Nat.le_of_ble_eq_true rfl, Nat.le_of_ble_eq_true rfl, rfl⟩ (fun hfit => ?_)
  unfold F0 zBY
  simp (maxSteps := 2000000) only [zAN, List.set_cons_succ, List.set_cons_zero, List.map_cons, List.map_nil, zAM, zAb, ioOf, List.length_cons, List.length_nil, Nat.reduceAdd, Nat.reduceSub, List.replicate, List.cons_append, List.nil_append]
  try simp (maxSteps := 2000000) only [go_sem]
  repeat with_reducible refine zAd ?_
  refine zAR (by repeat' constructor) (hW) ?_
  try simp (maxSteps := 2000000) only [go_sem]
  repeat with_reducible refine zAd ?_
  refine zAh (by repeat' constructor) (hC) ?_
  try simp (maxSteps := 2000000) only [go_sem]
  repeat with_reducible refine zAd ?_
  refine zAa (by rfl) trivial (fun h => ?_) (fun h => ?_)
  ·simp [hc] at h
  ·try simp (maxSteps := 2000000) only [go_sem]
   repeat with_reducible refine zAd ?_
   refine zAh (by repeat' constructor) (zGr) ?_
   try simp (maxSteps := 2000000) only [go_sem]
   repeat with_reducible refine zAd ?_
   refine zAl rfl trivial (.inl ?_)
   simp
end Go.Hx
