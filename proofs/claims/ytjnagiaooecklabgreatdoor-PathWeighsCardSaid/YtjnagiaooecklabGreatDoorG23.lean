/-
  Walks of functions of the program over an abstract layer, and the laws that they use: each contract says what the function computes, for every input that its conditions let by. No other condition.
-/
import Derived.Test.YtjnagiaooecklabGreatDoorG15
import Derived.Test.YtjnagiaooecklabGreatDoorG21
import Derived.Test.YtjnagiaooecklabGreatDoorG13
import Derived.Test.YtjnagiaooecklabGreatDoorG18
import Derived.Test.YtjnagiaooecklabGreatDoorG11
import Derived.Test.YtjnagiaooecklabGreatDoorG8
import Derived.Test.YtjnagiaooecklabGreatDoorG22
import Derived.Test.YtjnagiaooecklabGreatDoorG12
set_option linter.all false
section
set_option maxRecDepth 100000
set_option linter.unusedSimpArgs false
namespace Go.Hx
open Go.Proofs Go.RowKit
attribute [local instance] zA2
attribute [local go_sem] zAz zAx zAy zAq ndV zAu zAp List.length_drop
attribute [local go_sem] reduceCtorEq Nat.reduceAdd Nat.reduceEqDiff reduceIte Nat.reduceLeDiff Nat.reduceLT Nat.reduceSub
def zP8 (l : List Bys) : Nat := (l.map List.length).sum
def zFU (l : List Bys) : Bys := (l.map fun x => [44, 32] ++ x).flatten
def zVi : List Bys → Bys
 | [] => []
 | x :: r => x ++ zFU r
theorem zMg {α : Type} (l : List α) (i : Nat) (d : α) (h : i < l.length) : l.take (i + 1) = l.take i ++ [l.getD i d] := by
 rw [List.take_add_one, List.getElem?_eq_getElem h]
 simp [List.getD_eq_getElem?_getD, h]
theorem zYc (a b : List Bys) : zP8 (a ++ b) = zP8 a + zP8 b := by simp [zP8]
theorem yAQ (a b : List Bys) : zFU (a ++ b) = zFU a ++ zFU b := by simp [zFU]
theorem yAR (l : List Bys) (i : Nat) (h : i < l.length) : zP8 (l.take (i + 1)) = zP8 (l.take i) + (l.getD i []).length := by
 rw [zMg l i [] h, zYc]; simp [zP8]
theorem zXf (l : List Bys) (i : Nat) : zP8 (l.take i) ≤ zP8 l := by
 conv => rhs; rw [← List.take_append_drop i l]
 rw [zYc]; omega
theorem zZr (l : List Bys) (i : Nat) (h : i < l.length) : zFU (l.take (i + 1)) = zFU (l.take i) ++ [44, 32] ++ l.getD i [] := by
 rw [zMg l i [] h, yAQ]; simp [zFU]
theorem zVj (l : List Bys) (n : Nat) : (zWf l).drop n = zWf (l.drop n) := by simp [zWf]
theorem yAS (l : List Bys) : (zWf l).take l.length = zWf l := List.take_of_length_le (by rw [zAx]; omega)
theorem zOf (l : List Bys) : (zFU l).length = 2 * l.length + zP8 l := by
 induction l with
 | nil => rfl
 | cons x r ih =>
  unfold zFU zP8 at *
  simp only [List.map_cons, List.flatten_cons, List.length_append, List.length_cons, List.length_nil, List.sum_cons, ih]
  omega
theorem zYd (l : List Bys) (i : Nat) : (zFU (l.take i)).length ≤ 2 * l.length + zP8 l := by
 rw [zOf]
 have := zXf l i
 have : (l.take i).length ≤ l.length := by simp; omega
 omega
set_option maxHeartbeats 16000000 in
theorem zP9 (l : List Bys) (h1 : 1 ≤ l.length) (h2 : l.length ≤ 5) (h3 : zP8 l ≤ 1073741824) : Contract Tryz.prog zEu [.val (.one (.sl 1 (zWf l))), .val (sv [44, 32])] { res := .val (sv (zVi l)) } := by
 have hm0 : maxLen = 9223372036854775807 := rfl
 refine zNY (base := 0) ⟨Nat.le_of_ble_eq_true rfl, Nat.le_of_ble_eq_true rfl, Nat.le_of_ble_eq_true rfl, rfl⟩ (fun hfit => ?_)
 unfold F0 zDB
 simp (maxSteps := 2000000) only [zAN, List.set_cons_succ, List.set_cons_zero, List.map_cons, List.map_nil, zAM, zAb, ioOf, List.length_cons, List.length_nil, Nat.reduceAdd, Nat.reduceSub, List.replicate, List.cons_append, List.nil_append]
 try simp (maxSteps := 2000000) only [go_sem]
 repeat with_reducible refine zAd ?_
 refine zAa (by rfl) trivial (fun g1 => ?_) (fun g1 => ?_)
 ·rw [beq_iff_eq] at g1
  omega
 try simp (maxSteps := 2000000) only [go_sem]
 repeat with_reducible refine zAd ?_
 refine zAa (by rfl) trivial (fun g2 => ?_) (fun g2 => ?_)
 ·obtain ⟨x, rfl⟩ : ∃ x, l = [x] := by
   have : l.length = 1 := by rw [beq_iff_eq] at g2; omega
   exact List.length_eq_one_iff.1 this
  have e : zVi [x] = x := by simp [zVi, zFU]
  rw [e]
  try simp (maxSteps := 2000000) only [go_sem, zWf, List.map_cons, List.map_nil, List.getD_cons_zero, List.length_cons, List.length_nil]
  repeat with_reducible refine zAd ?_
  exact zAl rfl trivial (.inl rfl)
 ·have hl : 2 ≤ l.length := by rw [beq_eq_false_iff_ne] at g2; omega
  have e0 : l.getD 0 [] :: l.drop 1 = l := by
   cases l with
   | nil => simp at hl
   | cons x r => rfl
  have hsum : zP8 l = (l.getD 0 []).length + zP8 (l.drop 1) := by
   conv => lhs; rw [← e0]
   rfl
  have hjoin : zVi l = l.getD 0 [] ++ zFU (l.drop 1) := by
   conv => lhs; rw [← e0]
   rfl
  have hdl : (l.drop 1).length + 1 = l.length := by simp; omega
  try simp (maxSteps := 2000000) only [go_sem]
  repeat with_reducible refine zAd ?_
  refine zAa (by rfl) trivial (fun g3 => ?_) (fun g3 => ?_)
  ·have hq : decide (((2 : Nat) : Int) ≥ (9223372036854775807 : Int).tdiv (((l.length : Nat) : Int) - 1)) = false := by
    rcases (by omega : l.length = 2 ∨ l.length = 3 ∨ l.length = 4 ∨ l.length = 5) with h | h | h | h <;> rw [h] <;> decide
   have hnz : ((l.length : Nat) : Int) - 1 ≠ 0 := by omega
   have hqr : inR .i64 ((9223372036854775807 : Int).tdiv (((l.length : Nat) : Int) - 1)) := by
    rcases (by omega : l.length = 2 ∨ l.length = 3 ∨ l.length = 4 ∨ l.length = 5) with h | h | h | h <;> rw [h] <;> exact zGg (by decide) (by decide)
   try simp (maxSteps := 2000000) only [go_sem, hq]
   repeat with_reducible refine zAd ?_
   refine zAa (by rfl) trivial (fun g4 => ?_) (fun g4 => ?_)
   ·cases g4
   ·try simp (maxSteps := 2000000) only [go_sem]
    repeat with_reducible refine zAd ?_
    refine zAo (fun i : Nat => [(5, .pv (iv ((2 * (l.length - 1) + zP8 (l.take i) : Nat) : Int))), (41, .pv (iv i)), (7, .un), (42, .un), (49, .un)]) (fun i : Nat => l.length - i) (fun i : Nat => i ≤ l.length) (0) ?_ (Nat.zero_le _) ?_
    focus (simp (maxSteps := 2000000) only [go_sem, zAe, zAj, zAt, zAc]; all_goals (repeat' (first | exact trivial | exact zAg (by omega) | exact zAf rfl | exact zAr rfl | exact zAk | exact le_refl _ | refine And.intro ?_ ?_)))
    ·exact zAg (by simp [zP8]; omega)
    intro i hi
    have hsl := zXf l i
    try simp (maxSteps := 2000000) only [go_sem]
    repeat with_reducible refine zAd ?_
    refine zAa (by rfl) trivial (fun g5 => ?_) (fun g5 => ?_)
    ·have hlt : i < l.length := by simp at g5; omega
     have hst := yAR l i hlt
     have hsl2 := zXf l (i + 1)
     have hbig : decide ((((l.getD i []).length : Nat) : Int) > 9223372036854775807 - ((2 * (l.length - 1) + zP8 (l.take i) : Nat) : Int)) = false := by
      rw [decide_eq_false_iff_not]; omega
     try simp (maxSteps := 2000000) only [go_sem, zRw _ _ hlt]
     repeat with_reducible refine zAd ?_
     refine zAa (by rfl) trivial (fun g6 => ?_) (fun g6 => ?_)
     ·exfalso
      simp only [decide_eq_true_eq] at g6
      omega
     ·try simp (maxSteps := 2000000) only [go_sem]
      repeat with_reducible refine zAd ?_
      refine ⟨i + 1, by omega, by omega, ?_⟩
      simp (maxSteps := 2000000) only [go_sem, zAe, zAj, zAt, zAc]
      all_goals (repeat' (first | exact trivial | exact zAg (by omega) | exact zAf rfl | exact zAr rfl | exact zAk | exact le_refl _ | refine And.intro ?_ ?_))
      all_goals first | exact zAc | exact zAg (by omega) | rfl
    ·have hei : i = l.length := by simp at g5; omega
     subst hei
     try simp (maxSteps := 2000000) only [go_sem, List.take_length]
     repeat with_reducible refine zAd ?_
     intro b
     try simp (maxSteps := 2000000) only [go_sem, List.take_length]
     repeat with_reducible refine zAd ?_
     have ht1 : Int.toNat 1 = 1 := rfl
     have hc0 : (zWf l).getD (Int.toNat 0) [] = [bS (l.getD 0 [])] := zRw l 0 (by omega)
     refine zMP (by rfl) (by decide) (by repeat' constructor) (yFU b _ (by omega)) ?_
     try simp (maxSteps := 2000000) only [go_sem, hc0]
     repeat with_reducible refine zAd ?_
     refine zMP (by rfl) (by decide) (by repeat' constructor) (zFR b _ _ (by simp only [List.length_nil]; omega)) ?_
     try simp (maxSteps := 2000000) only [go_sem, yAS, ht1, zVj, hc0]
     repeat with_reducible refine zAd ?_
     try simp (maxSteps := 2000000) only [go_sem, yAS, ht1, zVj]
     repeat with_reducible refine zAd ?_
     refine zAo (fun j : Nat => [(8, .ov (.one (.bl zAV zFM b (l.getD 0 [] ++ zFU ((l.drop 1).take j))))), (65, .pv (iv j)), (10, .un), (66, .un)]) (fun j : Nat => (l.drop 1).length - j) (fun j : Nat => j ≤ (l.drop 1).length) (0) ?_ (Nat.zero_le _) ?_
     focus (simp (maxSteps := 2000000) only [go_sem, zAe, zAj, zAt, zAc]; all_goals (repeat' (first | exact trivial | exact zAg (by omega) | exact zAf rfl | exact zAr rfl | exact zAk | exact le_refl _ | refine And.intro ?_ ?_)))
     ·exact zAr (by simp [zFU])
     intro j hj
     have hjl := zYd (l.drop 1) j
     try simp (maxSteps := 2000000) only [go_sem]
     repeat with_reducible refine zAd ?_
     refine zAa (by rfl) trivial (fun g7 => ?_) (fun g7 => ?_)
     ·have hlt : j < (l.drop 1).length := by simp only [decide_eq_true_eq, zAx] at g7; omega
      have hjl2 := zYd (l.drop 1) (j + 1)
      have hjt := zZr (l.drop 1) j hlt
      have hjl3 := congrArg List.length hjt
      simp only [List.length_append, List.length_cons, List.length_nil] at hjl3
      try simp (maxSteps := 2000000) only [go_sem, zRw _ _ hlt]
      repeat with_reducible refine zAd ?_
      refine zMP (by rfl) (by decide) (by repeat' constructor) (zFR b _ _ (by simp only [List.length_append, List.length_cons, List.length_nil]; omega)) ?_
      try simp (maxSteps := 2000000) only [go_sem]
      repeat with_reducible refine zAd ?_
      refine zMP (by rfl) (by decide) (by repeat' constructor) (zFR b _ _ (by simp only [List.length_append, List.length_cons, List.length_nil]; omega)) ?_
      try simp (maxSteps := 2000000) only [go_sem]
      repeat with_reducible refine zAd ?_
      refine ⟨j + 1, by omega, by omega, ?_⟩
      simp (maxSteps := 2000000) only [go_sem, zAe, zAj, zAt, zAc]
      all_goals (repeat' (first | exact trivial | exact zAg (by omega) | exact zAf rfl | exact zAr rfl | exact zAk | exact le_refl _ | refine And.intro ?_ ?_))
      all_goals first | exact zAc | exact zAg (by omega) | exact zAr (by rw [hjt]; simp only [List.append_assoc]) | rfl
     ·have hej : j = (l.drop 1).length := by simp only [decide_eq_false_iff_not, zAx] at g7; omega
      subst hej
      have hne : l.getD 0 [] ++ zFU (l.drop 1) ≠ [] := by
       intro e
       have := congrArg List.length e
       simp only [List.length_append, zOf, List.length_nil] at this
       omega
      rw [hjoin]
      have htd : (l.drop 1).take (l.length - 1) = l.drop 1 := List.take_of_length_le (by simp)
      have hjl := zOf (l.drop 1)
      try simp (maxSteps := 2000000) only [go_sem, htd]
      repeat with_reducible refine zAd ?_
      refine zMP (by rfl) (by decide) (by repeat' constructor) (yBZ b _ hne (by rw [List.length_append]; omega)) ?_
      try simp (maxSteps := 2000000) only [go_sem]
      repeat with_reducible refine zAd ?_
      exact zAl rfl trivial (.inl rfl)
  ·cases g3
end Go.Hx
end

section
set_option maxRecDepth 100000
set_option linter.unusedSimpArgs false
namespace Go.Hx
open Go.Proofs Go.RowKit
attribute [local instance] zA2
attribute [local go_sem] zAz zAx zAy zAq ndV zAu zAp
attribute [local go_sem] reduceCtorEq Nat.reduceAdd Nat.reduceEqDiff reduceIte Nat.reduceLeDiff Nat.reduceLT Nat.reduceSub
def zQV (a : Bys) : Bys := if a = [] then [42] else a
set_option maxHeartbeats 4000000 in
theorem zYe (a : Bys) : Contract Tryz.prog zDQ [.val (.one (.sl 1 [[bS a], [bS [42]]]))] { res := .val (sv (zQV a)) } := by
 refine zKQ (base := 0) ⟨Nat.le_of_ble_eq_true rfl, Nat.le_of_ble_eq_true rfl, Nat.le_of_ble_eq_true rfl, rfl⟩ (fun hfit => ?_)
 unfold F0 zDb
 simp (maxSteps := 2000000) only [zAN, List.set_cons_succ, List.set_cons_zero, List.map_cons, List.map_nil, zAM, zAb, ioOf, List.length_cons, List.length_nil, Nat.reduceAdd, Nat.reduceSub, List.replicate, List.cons_append, List.nil_append]
 try simp (maxSteps := 2000000) only [go_sem]
 repeat with_reducible refine zAd ?_
 refine zAo (fun i : Nat => [(8, .pv (iv i)), (2, .un), (5, .un), (9, .un), (14, .un)]) (fun i : Nat => 2 - i) (fun i : Nat => i ≤ 2 ∧ (1 ≤ i → a = []) ∧ i ≠ 2) (0) ?_ ⟨Nat.zero_le _, fun h => by omega, by omega⟩ ?_
 focus (simp (maxSteps := 2000000) only [go_sem, zAe, zAj, zAt, zAc]; all_goals (repeat' (first | exact trivial | exact zAg (by omega) | exact zAf rfl | exact zAr rfl | exact zAk | exact le_refl _ | refine And.intro ?_ ?_)))
 rintro i ⟨hi, ha, h2⟩
 rcases (by omega : i = 0 ∨ i = 1) with rfl | rfl
 ·try simp (maxSteps := 2000000) only [go_sem, List.getD_cons_zero, List.length_cons, List.length_nil]
  repeat with_reducible refine zAd ?_
  refine zAa (by rfl) trivial (fun g1 => ?_) (fun g1 => ?_)
  ·try simp (maxSteps := 2000000) only [go_sem, List.getD_cons_zero, List.length_cons, List.length_nil]
   repeat with_reducible refine zAd ?_
   refine zAa (by rfl) trivial (fun g2 => ?_) (fun g2 => ?_)
   ·have hne : a ≠ [] := by simpa using g2
    have e : zQV a = a := by unfold zQV; rw [if_neg hne]
    rw [e]
    try simp (maxSteps := 2000000) only [go_sem]
    repeat with_reducible refine zAd ?_
    exact zAl rfl trivial (.inl rfl)
   ·have hne : a = [] := by simpa using g2
    try simp (maxSteps := 2000000) only [go_sem]
    repeat with_reducible refine zAd ?_
    refine ⟨1, by omega, ⟨by omega, fun _ => hne, by omega⟩, ?_⟩
    simp (maxSteps := 2000000) only [go_sem, zAe, zAj, zAt, zAc]
    all_goals (repeat' (first | exact trivial | exact zAg (by omega) | exact zAf rfl | exact zAr rfl | exact zAk | exact le_refl _ | refine And.intro ?_ ?_))
  ·simp at g1
 ·have hne := ha (by omega)
  subst hne
  try simp (maxSteps := 2000000) only [go_sem, List.getD_cons_zero, List.getD_cons_succ, List.length_cons, List.length_nil]
  repeat with_reducible refine zAd ?_
  refine zAa (by rfl) trivial (fun g1 => ?_) (fun g1 => ?_)
  ·try simp (maxSteps := 2000000) only [go_sem, List.getD_cons_zero, List.getD_cons_succ, List.length_cons, List.length_nil]
   repeat with_reducible refine zAd ?_
   refine zAa (by rfl) trivial (fun g2 => ?_) (fun g2 => ?_)
   ·try simp (maxSteps := 2000000) only [go_sem]
    repeat with_reducible refine zAd ?_
    exact zAl rfl trivial (.inl rfl)
   ·simp at g2
  ·simp at g1
set_option maxHeartbeats 16000000 in
theorem zXg (d : Nat) (hd : 1 ≤ d) (hL : ∀ l : List Pt, GL l (d + 1) → Contract Tryz.prog zCc [.val (zBu l)] { res := .val (sv (zXd l)) }) (t : Ts) (ht : GT t d) : Contract Tryz.prog zES [.val (.agg (tsV t))] { res := .val (sv (zVc t)) } := by
 have hm0 : maxLen = 9223372036854775807 := rfl
 obtain ⟨k, n, v, a, b, l⟩ := t
 obtain ⟨h1, h2, h3, h4, h5, h6⟩ := ht.parts
 have hkk := yF9 h1
 have hn : n.length ≤ 12 := by
  split at h2
  ·exact zI8 h2
  ·rw [h2]; simp
 have hv : v.length ≤ 16 := by
  split at h3
  ·exact zOd h3
  ·rw [h3]; simp
 have ho := zYa k
 have hsg := zYb k
 have hnt := zX9 h5
 rw [zDS]
 have ets : tsV (.mk k n v a b l) = [bI k, bS n, bS v, bI a, bI b, .sl 2 (zF2 l)] := rfl
 rw [ets]
 refine zUM (base := 0) ⟨Nat.le_of_ble_eq_true rfl, Nat.le_of_ble_eq_true rfl, Nat.le_of_ble_eq_true rfl, rfl⟩ (fun hfit => ?_)
 unfold F0 zFO
 simp (maxSteps := 2000000) only [zAN, List.set_cons_succ, List.set_cons_zero, List.map_cons, List.map_nil, zAM, zAb, ioOf, List.length_cons, List.length_nil, Nat.reduceAdd, Nat.reduceSub, List.replicate, List.cons_append, List.nil_append]
 try simp (maxSteps := 2000000) only [go_sem]
 repeat with_reducible refine zAd ?_
 rcases hkk with hk | hk | hk | hk | hk | hk | hk | hk
 ·rw [if_pos hk]
  refine zAa (by rfl) trivial (fun q0 => ?_) (fun q0 => ?_)
  ·try simp (maxSteps := 2000000) only [go_sem]
   repeat with_reducible refine zAd ?_
   exact zAl rfl trivial (.inl rfl)
  ·exfalso; rw [beq_eq_false_iff_ne] at q0; omega
 ·rw [if_neg (by omega), if_pos hk]
  refine zAa (by rfl) trivial (fun q0 => ?_) (fun q0 => ?_)
  ·exfalso; simp only [beq_iff_eq] at q0; omega
  ·try simp (maxSteps := 2000000) only [go_sem]
   repeat with_reducible refine zAd ?_
   refine zAa (by rfl) trivial (fun q1 => ?_) (fun q1 => ?_)
   ·try simp (maxSteps := 2000000) only [go_sem]
    repeat with_reducible refine zAd ?_
    exact zAl rfl trivial (.inl rfl)
   ·exfalso; rw [beq_eq_false_iff_ne] at q1; omega
 ·rw [if_neg (by omega), if_neg (by omega), if_pos hk]
  refine zAa (by rfl) trivial (fun q0 => ?_) (fun q0 => ?_)
  ·exfalso; simp only [beq_iff_eq] at q0; omega
  ·try simp (maxSteps := 2000000) only [go_sem]
   repeat with_reducible refine zAd ?_
   refine zAa (by rfl) trivial (fun q1 => ?_) (fun q1 => ?_)
   ·exfalso; simp only [beq_iff_eq] at q1; omega
   ·try simp (maxSteps := 2000000) only [go_sem]
    repeat with_reducible refine zAd ?_
    refine zAa (by rfl) trivial (fun q2 => ?_) (fun q2 => ?_)
    ·try simp (maxSteps := 2000000) only [go_sem]
     repeat with_reducible refine zAd ?_
     exact zAl rfl trivial (.inl rfl)
    ·exfalso; rw [beq_eq_false_iff_ne] at q2; omega
 ·rw [if_neg (by omega), if_neg (by omega), if_neg (by omega), if_pos hk]
  refine zAa (by rfl) trivial (fun q0 => ?_) (fun q0 => ?_)
  ·exfalso; simp only [beq_iff_eq] at q0; omega
  ·try simp (maxSteps := 2000000) only [go_sem]
   repeat with_reducible refine zAd ?_
   refine zAa (by rfl) trivial (fun q1 => ?_) (fun q1 => ?_)
   ·exfalso; simp only [beq_iff_eq] at q1; omega
   ·try simp (maxSteps := 2000000) only [go_sem]
    repeat with_reducible refine zAd ?_
    refine zAa (by rfl) trivial (fun q2 => ?_) (fun q2 => ?_)
    ·exfalso; simp only [beq_iff_eq] at q2; omega
    ·try simp (maxSteps := 2000000) only [go_sem]
     repeat with_reducible refine zAd ?_
     refine zAa (by rfl) trivial (fun q3 => ?_) (fun q3 => ?_)
     ·exfalso; simp only [beq_iff_eq] at q3; omega
     ·try simp (maxSteps := 2000000) only [go_sem]
      repeat with_reducible refine zAd ?_
      refine zAa (by rfl) trivial (fun q4 => ?_) (fun q4 => ?_)
      ·exfalso; simp only [beq_iff_eq] at q4; omega
      ·try simp (maxSteps := 2000000) only [go_sem]
       repeat with_reducible refine zAd ?_
       refine zAa (by rfl) trivial (fun q5 => ?_) (fun q5 => ?_)
       ·exfalso; simp only [beq_iff_eq] at q5; omega
       ·try simp (maxSteps := 2000000) only [go_sem]
        repeat with_reducible refine zAd ?_
        refine zAa (by rfl) trivial (fun q6 => ?_) (fun q6 => ?_)
        ·exfalso; simp only [beq_iff_eq] at q6; omega
        ·try simp (maxSteps := 2000000) only [go_sem]
         repeat with_reducible refine zAd ?_
         refine zAa (by rfl) trivial (fun q7 => ?_) (fun q7 => ?_)
         ·exfalso; simp only [beq_iff_eq] at q7; omega
         ·try simp (maxSteps := 2000000) only [go_sem]
          repeat with_reducible refine zAd ?_
          refine zAa (by rfl) trivial (fun q8 => ?_) (fun q8 => ?_)
          ·exfalso; simp only [beq_iff_eq] at q8; omega
          ·try simp (maxSteps := 2000000) only [go_sem]
           repeat with_reducible refine zAd ?_
           refine zAa (by rfl) trivial (fun q9 => ?_) (fun q9 => ?_)
           ·exfalso; simp only [beq_iff_eq] at q9; omega
           ·try simp (maxSteps := 2000000) only [go_sem]
            repeat with_reducible refine zAd ?_
            try simp (maxSteps := 2000000) only [go_sem]
            repeat with_reducible refine zAd ?_
            refine zAh (by repeat' constructor) (yAP k hk) ?_
            try simp (maxSteps := 2000000) only [go_sem]
            repeat with_reducible refine zAd ?_
            refine zAl rfl trivial (.inl ?_)
            simp only [List.cons_append, List.append_assoc, List.nil_append]
 ·rw [if_neg (by omega), if_neg (by omega), if_neg (by omega), if_neg (by omega), if_pos hk]
  have hko : k = 9 ∨ k = 10 ∨ k = 13 ∨ k = 14 ∨ k = 15 := by omega
  have hns := zQR a b
  rw [if_pos h5, h5] at hns
  rcases hk with hk | hk
  ·refine zAa (by rfl) trivial (fun q0 => ?_) (fun q0 => ?_)
   ·exfalso; simp only [beq_iff_eq] at q0; omega
   ·try simp (maxSteps := 2000000) only [go_sem]
    repeat with_reducible refine zAd ?_
    refine zAa (by rfl) trivial (fun q1 => ?_) (fun q1 => ?_)
    ·exfalso; simp only [beq_iff_eq] at q1; omega
    ·try simp (maxSteps := 2000000) only [go_sem]
     repeat with_reducible refine zAd ?_
     refine zAa (by rfl) trivial (fun q2 => ?_) (fun q2 => ?_)
     ·exfalso; simp only [beq_iff_eq] at q2; omega
     ·try simp (maxSteps := 2000000) only [go_sem]
      repeat with_reducible refine zAd ?_
      refine zAa (by rfl) trivial (fun q3 => ?_) (fun q3 => ?_)
      ·try simp (maxSteps := 2000000) only [go_sem]
       repeat with_reducible refine zAd ?_
       refine zAa (by rfl) trivial (fun q3b => ?_) (fun q3b => ?_)
       ·try simp (maxSteps := 2000000) only [go_sem]
        repeat with_reducible refine zAd ?_
        refine zAR (by repeat' constructor) (hns) ?_
        try simp (maxSteps := 2000000) only [go_sem]
        repeat with_reducible refine zAd ?_
        refine zAh (by repeat' constructor) (zGn k hko) ?_
        try simp (maxSteps := 2000000) only [go_sem]
        repeat with_reducible refine zAd ?_
        exact zAl rfl trivial (.inl (by simp only [List.append_assoc]))
       ·exfalso; rw [beq_eq_false_iff_ne] at q3b; omega
      ·exfalso; rw [beq_eq_false_iff_ne] at q3; omega
  ·refine zAa (by rfl) trivial (fun q0 => ?_) (fun q0 => ?_)
   ·exfalso; simp only [beq_iff_eq] at q0; omega
   ·try simp (maxSteps := 2000000) only [go_sem]
    repeat with_reducible refine zAd ?_
    refine zAa (by rfl) trivial (fun q1 => ?_) (fun q1 => ?_)
    ·exfalso; simp only [beq_iff_eq] at q1; omega
    ·try simp (maxSteps := 2000000) only [go_sem]
     repeat with_reducible refine zAd ?_
     refine zAa (by rfl) trivial (fun q2 => ?_) (fun q2 => ?_)
     ·exfalso; simp only [beq_iff_eq] at q2; omega
     ·try simp (maxSteps := 2000000) only [go_sem]
      repeat with_reducible refine zAd ?_
      refine zAa (by rfl) trivial (fun q3 => ?_) (fun q3 => ?_)
      ·exfalso; simp only [beq_iff_eq] at q3; omega
      ·try simp (maxSteps := 2000000) only [go_sem]
       repeat with_reducible refine zAd ?_
       refine zAa (by rfl) trivial (fun q4 => ?_) (fun q4 => ?_)
       ·try simp (maxSteps := 2000000) only [go_sem]
        repeat with_reducible refine zAd ?_
        refine zAR (by repeat' constructor) (hns) ?_
        try simp (maxSteps := 2000000) only [go_sem]
        repeat with_reducible refine zAd ?_
        refine zAh (by repeat' constructor) (zGn k hko) ?_
        try simp (maxSteps := 2000000) only [go_sem]
        repeat with_reducible refine zAd ?_
        exact zAl rfl trivial (.inl (by simp only [List.append_assoc]))
       ·exfalso; rw [beq_eq_false_iff_ne] at q4; omega
 ·rw [if_neg (by omega), if_neg (by omega), if_neg (by omega), if_neg (by omega), if_neg (by omega), if_pos hk]
  refine zAa (by rfl) trivial (fun q0 => ?_) (fun q0 => ?_)
  ·exfalso; simp only [beq_iff_eq] at q0; omega
  ·try simp (maxSteps := 2000000) only [go_sem]
   repeat with_reducible refine zAd ?_
   refine zAa (by rfl) trivial (fun q1 => ?_) (fun q1 => ?_)
   ·exfalso; simp only [beq_iff_eq] at q1; omega
   ·try simp (maxSteps := 2000000) only [go_sem]
    repeat with_reducible refine zAd ?_
    refine zAa (by rfl) trivial (fun q2 => ?_) (fun q2 => ?_)
    ·exfalso; simp only [beq_iff_eq] at q2; omega
    ·try simp (maxSteps := 2000000) only [go_sem]
     repeat with_reducible refine zAd ?_
     refine zAa (by rfl) trivial (fun q3 => ?_) (fun q3 => ?_)
     ·exfalso; simp only [beq_iff_eq] at q3; omega
     ·try simp (maxSteps := 2000000) only [go_sem]
      repeat with_reducible refine zAd ?_
      refine zAa (by rfl) trivial (fun q4 => ?_) (fun q4 => ?_)
      ·exfalso; simp only [beq_iff_eq] at q4; omega
      ·try simp (maxSteps := 2000000) only [go_sem]
       repeat with_reducible refine zAd ?_
       refine zAa (by rfl) trivial (fun q5 => ?_) (fun q5 => ?_)
       ·try simp (maxSteps := 2000000) only [go_sem]
        repeat with_reducible refine zAd ?_
        exact zAl rfl trivial (.inl rfl)
       ·exfalso; rw [beq_eq_false_iff_ne] at q5; omega
 ·rw [if_neg (by omega), if_neg (by omega), if_neg (by omega), if_neg (by omega), if_neg (by omega), if_neg (by omega), if_pos hk]
  refine zAa (by rfl) trivial (fun q0 => ?_) (fun q0 => ?_)
  ·exfalso; simp only [beq_iff_eq] at q0; omega
  ·try simp (maxSteps := 2000000) only [go_sem]
   repeat with_reducible refine zAd ?_
   refine zAa (by rfl) trivial (fun q1 => ?_) (fun q1 => ?_)
   ·exfalso; simp only [beq_iff_eq] at q1; omega
   ·try simp (maxSteps := 2000000) only [go_sem]
    repeat with_reducible refine zAd ?_
    refine zAa (by rfl) trivial (fun q2 => ?_) (fun q2 => ?_)
    ·exfalso; simp only [beq_iff_eq] at q2; omega
    ·try simp (maxSteps := 2000000) only [go_sem]
     repeat with_reducible refine zAd ?_
     refine zAa (by rfl) trivial (fun q3 => ?_) (fun q3 => ?_)
     ·exfalso; simp only [beq_iff_eq] at q3; omega
     ·try simp (maxSteps := 2000000) only [go_sem]
      repeat with_reducible refine zAd ?_
      refine zAa (by rfl) trivial (fun q4 => ?_) (fun q4 => ?_)
      ·exfalso; simp only [beq_iff_eq] at q4; omega
      ·try simp (maxSteps := 2000000) only [go_sem]
       repeat with_reducible refine zAd ?_
       refine zAa (by rfl) trivial (fun q5 => ?_) (fun q5 => ?_)
       ·exfalso; simp only [beq_iff_eq] at q5; omega
       ·try simp (maxSteps := 2000000) only [go_sem]
        repeat with_reducible refine zAd ?_
        refine zAa (by rfl) trivial (fun q6 => ?_) (fun q6 => ?_)
        ·try simp (maxSteps := 2000000) only [go_sem]
         repeat with_reducible refine zAd ?_
         exact zAl rfl trivial (.inl rfl)
        ·exfalso; rw [beq_eq_false_iff_ne] at q6; omega
 ·have hko : k = 9 ∨ k = 10 ∨ k = 13 ∨ k = 14 ∨ k = 15 := by omega
  rw [if_pos (by omega)] at h6
  have hl := hL l h6
  have hlen := yHI (d := d + 1) (by omega) h6
  have hll : (zBH l true).length = (zXd l).length := rfl
  rw [if_neg (by omega), if_neg (by omega), if_neg (by omega), if_neg (by omega), if_neg (by omega), if_neg (by omega), if_neg (by omega)]
  refine zAa (by rfl) trivial (fun q0 => ?_) (fun q0 => ?_)
  ·exfalso; simp only [beq_iff_eq] at q0; omega
  ·try simp (maxSteps := 2000000) only [go_sem]
   repeat with_reducible refine zAd ?_
   refine zAa (by rfl) trivial (fun q1 => ?_) (fun q1 => ?_)
   ·exfalso; simp only [beq_iff_eq] at q1; omega
   ·try simp (maxSteps := 2000000) only [go_sem]
    repeat with_reducible refine zAd ?_
    refine zAa (by rfl) trivial (fun q2 => ?_) (fun q2 => ?_)
    ·exfalso; simp only [beq_iff_eq] at q2; omega
    ·try simp (maxSteps := 2000000) only [go_sem]
     repeat with_reducible refine zAd ?_
     refine zAa (by rfl) trivial (fun q3 => ?_) (fun q3 => ?_)
     ·exfalso; simp only [beq_iff_eq] at q3; omega
     ·try simp (maxSteps := 2000000) only [go_sem]
      repeat with_reducible refine zAd ?_
      refine zAa (by rfl) trivial (fun q4 => ?_) (fun q4 => ?_)
      ·exfalso; simp only [beq_iff_eq] at q4; omega
      ·try simp (maxSteps := 2000000) only [go_sem]
       repeat with_reducible refine zAd ?_
       refine zAa (by rfl) trivial (fun q5 => ?_) (fun q5 => ?_)
       ·exfalso; simp only [beq_iff_eq] at q5; omega
       ·try simp (maxSteps := 2000000) only [go_sem]
        repeat with_reducible refine zAd ?_
        refine zAa (by rfl) trivial (fun q6 => ?_) (fun q6 => ?_)
        ·exfalso; simp only [beq_iff_eq] at q6; omega
        ·try simp (maxSteps := 2000000) only [go_sem]
         repeat with_reducible refine zAd ?_
         rcases hk with hk | hk | hk
         ·refine zAa (by rfl) trivial (fun q7 => ?_) (fun q7 => ?_)
          ·try simp (maxSteps := 2000000) only [go_sem]
           repeat with_reducible refine zAd ?_
           refine zAa (by rfl) trivial (fun q7b => ?_) (fun q7b => ?_)
           ·try simp (maxSteps := 2000000) only [go_sem]
            repeat with_reducible refine zAd ?_
            refine zAh (by repeat' constructor) (zGn k hko) ?_
            try simp (maxSteps := 2000000) only [go_sem]
            repeat with_reducible refine zAd ?_
            refine zAh (by repeat' constructor) (hl) ?_
            try simp (maxSteps := 2000000) only [go_sem]
            repeat with_reducible refine zAd ?_
            exact zAl rfl trivial (.inl (by simp only [List.append_assoc]))
           ·exfalso; rw [beq_eq_false_iff_ne] at q7b; omega
          ·exfalso; rw [beq_eq_false_iff_ne] at q7; omega
         ·refine zAa (by rfl) trivial (fun q7 => ?_) (fun q7 => ?_)
          ·exfalso; simp only [beq_iff_eq] at q7; omega
          ·try simp (maxSteps := 2000000) only [go_sem]
           repeat with_reducible refine zAd ?_
           refine zAa (by rfl) trivial (fun q8 => ?_) (fun q8 => ?_)
           ·try simp (maxSteps := 2000000) only [go_sem]
            repeat with_reducible refine zAd ?_
            refine zAa (by rfl) trivial (fun q8b => ?_) (fun q8b => ?_)
            ·try simp (maxSteps := 2000000) only [go_sem]
             repeat with_reducible refine zAd ?_
             refine zAh (by repeat' constructor) (zGn k hko) ?_
             try simp (maxSteps := 2000000) only [go_sem]
             repeat with_reducible refine zAd ?_
             refine zAh (by repeat' constructor) (hl) ?_
             try simp (maxSteps := 2000000) only [go_sem]
             repeat with_reducible refine zAd ?_
             exact zAl rfl trivial (.inl (by simp only [List.append_assoc]))
            ·exfalso; rw [beq_eq_false_iff_ne] at q8b; omega
           ·exfalso; rw [beq_eq_false_iff_ne] at q8; omega
         ·refine zAa (by rfl) trivial (fun q7 => ?_) (fun q7 => ?_)
          ·exfalso; simp only [beq_iff_eq] at q7; omega
          ·try simp (maxSteps := 2000000) only [go_sem]
           repeat with_reducible refine zAd ?_
           refine zAa (by rfl) trivial (fun q8 => ?_) (fun q8 => ?_)
           ·exfalso; simp only [beq_iff_eq] at q8; omega
           ·try simp (maxSteps := 2000000) only [go_sem]
            repeat with_reducible refine zAd ?_
            refine zAa (by rfl) trivial (fun q9 => ?_) (fun q9 => ?_)
            ·try simp (maxSteps := 2000000) only [go_sem]
             repeat with_reducible refine zAd ?_
             refine zAh (by repeat' constructor) (zGn k hko) ?_
             try simp (maxSteps := 2000000) only [go_sem]
             repeat with_reducible refine zAd ?_
             refine zAh (by repeat' constructor) (hl) ?_
             try simp (maxSteps := 2000000) only [go_sem]
             repeat with_reducible refine zAd ?_
             exact zAl rfl trivial (.inl (by simp only [List.append_assoc]))
            ·exfalso; rw [beq_eq_false_iff_ne] at q9; omega
end Go.Hx
end

section
set_option maxRecDepth 100000
set_option linter.unusedSimpArgs false
namespace Go.Hx
open Go.Proofs Go.RowKit
attribute [local instance] zA2
attribute [local go_sem] zAz zAx zAy zAq ndV zAu zAp zBR zBs zAW zA3 zBK zCg
attribute [local go_sem] reduceCtorEq Nat.reduceAdd Nat.reduceEqDiff reduceIte Nat.reduceLeDiff Nat.reduceLT Nat.reduceSub
theorem zOg : ∀ (st : List St) (lk : List Int) (j : Nat), j < st.length → zBv (st.take (j + 1)) lk false = zBv (st.take j) lk false ++ (zQT (lk.getD j 0) ++ zOM (st.getD j default))
 | [], lk, j, h => by simp at h
 | x :: r, lk, 0, h => by cases lk <;> simp [zBv]
 | x :: r, lk, j + 1, h => by
  have ih := zOg r lk.tail j (by simpa using h)
  have : lk.tail.getD j 0 = lk.getD (j + 1) 0 := by cases lk <;> simp
  rw [this] at ih
  simp only [List.take_succ_cons, zBv, ih, List.getD_cons_succ, List.append_assoc]
theorem zZs (st : List St) (lk : List Int) (j : Nat) (h : j < st.length) : zBv (st.take (j + 1)) lk true = zBv (st.take j) lk true ++ ((if j = 0 then [] else zQT (lk.getD (j - 1) 0)) ++ zOM (st.getD j default)) := by
 match st, j, h with
 | x :: r, 0, h => simp [zBv]
 | x :: r, j + 1, h =>
  have ih := zOg r lk j (by simpa using h)
  simp only [List.take_succ_cons, zBv, ih, List.getD_cons_succ, List.append_assoc]
  rfl
theorem zQW : ∀ (st : List St) (lk : List Int) (j : Nat), (zBv (st.take j) lk false).length ≤ (zBv st lk false).length
 | [], lk, j => by simp
 | x :: r, lk, 0 => by simp [zBv]
 | x :: r, lk, j + 1 => by
  have ih := zQW r lk.tail j
  simp only [List.take_succ_cons, zBv, List.length_append]
  omega
theorem zVm (st : List St) (lk : List Int) (j : Nat) : (zBv (st.take j) lk true).length ≤ (zBv st lk true).length := by
 match st, j with
 | [], j => simp
 | x :: r, 0 => simp [zBv]
 | x :: r, j + 1 =>
  have ih := zQW r lk j
  simp only [List.take_succ_cons, zBv, List.length_append]
  omega
theorem zVn (a b : List Ts) : zCh (a ++ b) = zCh a ++ zCh b := by
 induction a with
 | nil => simp [zCh]
 | cons x r ih => simp only [List.cons_append, zCh, ih, List.append_assoc]
theorem zQX (l : List Ts) (m : Nat) (h : m < l.length) : zCh (l.take (m + 1)) = zCh (l.take m) ++ zVc (l.getD m default) := by
 rw [zMg l m default h, zVn]; simp [zCh]
theorem zHQ (l : List Ts) (m : Nat) : (zCh (l.take m)).length ≤ (zCh l).length := by
 conv => rhs; rw [← List.take_append_drop m l]
 rw [zVn, List.length_append]; omega
theorem zZt : ∀ l : List Pt, zBH l true = zVi (l.map zP7)
 | [] => by simp [zBH, zVi]
 | p :: r => by
  have : ∀ r : List Pt, zBH r false = zFU (r.map zP7) := by
   intro r
   induction r with
   | nil => simp [zBH, zFU]
   | cons q r ih =>
    simp only [zBH, ih, zFU, List.map_cons, List.flatten_cons]
    simp
  simp only [zBH, zVi, List.map_cons, this]
  simp
theorem yAW (p : Pt) : zP7 p = zBv p.steps p.links true := by cases p; rw [zP7]; rfl
theorem yEn (x : St) : zOM x = zQV x.tag ++ zCh x.tests := by cases x; rw [zOM]; rfl
theorem yEo {n : Int} (h : 1 ≤ n ∧ n ≤ 4) : ([bS [], bS [32], bS [32, 62, 32], bS [32, 43, 32], bS [32, 126, 32]] : List PV).getD n.toNat (.nl 0) = bS (zQT n) := by
 rcases (by omega : n = 1 ∨ n = 2 ∨ n = 3 ∨ n = 4) with rfl | rfl | rfl | rfl <;> rfl
set_option maxHeartbeats 16000000 in
theorem zXh (d : Nat) (hd : 1 ≤ d) (hT : ∀ t : Ts, GT t d → Contract Tryz.prog zES [.val (.agg (tsV t))] { res := .val (sv (zVc t)) }) (l : List Pt) (hl : GL l d) : Contract Tryz.prog zCc [.val (zBu l)] { res := .val (sv (zXd l)) } := by
 have hm0 : maxLen = 9223372036854775807 := rfl
 have hl5 := hl.2.2.1
 have hl1 := hl.2.1
 have hlen := yHI hd hl
 have hLE : zXd l = zVi (l.map zP7) := zZt l
 unfold zBu
 refine zUX (base := 0) ⟨Nat.le_of_ble_eq_true rfl, Nat.le_of_ble_eq_true rfl, Nat.le_of_ble_eq_true rfl, rfl⟩ (fun hfit => ?_)
 unfold F0 zFP
 simp (maxSteps := 2000000) only [zAN, List.set_cons_succ, List.set_cons_zero, List.map_cons, List.map_nil, zAM, zAb, ioOf, List.length_cons, List.length_nil, Nat.reduceAdd, Nat.reduceSub, List.replicate, List.cons_append, List.nil_append]
 try simp (maxSteps := 2000000) only [go_sem]
 repeat with_reducible refine zAd ?_
 refine zAo (fun i : Nat => [(3, .own zFf 1 (zWf ((l.take i).map zP7))), (13, .pv (iv i)), (5, .un), (6, .un), (7, .un), (8, .un), (10, .un), (14, .un), (18, .un), (19, .un), (20, .un), (21, .un), (26, .un), (44, .un), (45, .un), (46, .un), (47, .un), (63, .un), (64, .un), (65, .un), (66, .un), (67, .un), (68, .un), (69, .un), (70, .un), (71, .un), (72, .un)]) (fun i : Nat => l.length - i) (fun i : Nat => i ≤ l.length) (0) ?_ (Nat.zero_le _) ?_
 focus (simp (maxSteps := 2000000) only [go_sem, zAe, zAj, zAt, zAc]; all_goals (repeat' (first | exact trivial | exact zAg (by omega) | exact zAf rfl | exact zAr rfl | exact zAk | exact le_refl _ | refine And.intro ?_ ?_)))
 intro i hi
 try simp (maxSteps := 2000000) only [go_sem]
 repeat with_reducible refine zAd ?_
 refine zAa (by rfl) trivial (fun g0 => ?_) (fun g0 => ?_)
 ·have hlt : i < l.length := by simp at g0; omega
  obtain ⟨p, hp⟩ : ∃ p, p = l.getD i default := ⟨_, rfl⟩
  have hG := GPs.get hl.2.2.2 i hlt
  have hpv := zBC l i hlt
  rw [← hp] at hG hpv
  obtain ⟨p1, p2, p3, p4, p5⟩ := hG.parts'
  have hpl := yHr p d hd hG
  have htb : tB d ≤ 1229192 := by
   unfold tB
   split
   ·omega
   ·split <;> omega
  rw [yAW] at hpl
  try simp (maxSteps := 2000000) only [go_sem, hpv]
  repeat with_reducible refine zAd ?_
  refine zAo (fun j : Nat => [(6, .pv (sv (zBv (p.steps.take j) p.links true))), (20, .pv (iv j)), (7, .un), (8, .un), (10, .un), (21, .un), (26, .un), (44, .un), (45, .un), (46, .un), (47, .un), (65, .un), (66, .un), (67, .un), (68, .un), (69, .un), (70, .un), (71, .un), (72, .un)]) (fun j : Nat => p.steps.length - j) (fun j : Nat => j ≤ p.steps.length) (0) ?_ (Nat.zero_le _) ?_
  focus (simp (maxSteps := 2000000) only [go_sem, zAe, zAj, zAt, zAc]; all_goals (repeat' (first | exact trivial | exact zAg (by omega) | exact zAf rfl | exact zAr rfl | exact zAk | exact le_refl _ | refine And.intro ?_ ?_)))
  intro j hj
  have hpre := zVm p.steps p.links j
  try simp (maxSteps := 2000000) only [go_sem]
  repeat with_reducible refine zAd ?_
  refine zAa (by rfl) trivial (fun g1 => ?_) (fun g1 => ?_)
  ·have hjl : j < p.steps.length := by simp at g1; omega
   have hst := zZs p.steps p.links j hjl
   have hpre1 := zVm p.steps p.links (j + 1)
   rw [hst] at hpre1
   obtain ⟨x, hx⟩ : ∃ x, x = p.steps.getD j default := ⟨_, rfl⟩
   have hGs := GSs.get p5 j hjl
   have hsv := zDc p.steps j hjl
   rw [← hx] at hGs hsv hst hpre1
   rw [yEn] at hst hpre1
   obtain ⟨x1, x2⟩ := hGs.parts'
   simp only [List.length_append] at hpre1
   try simp (maxSteps := 2000000) only [go_sem, hsv]
   repeat with_reducible refine zAd ?_
   refine zAa (by rfl) trivial (fun g2 => ?_) (fun g2 => ?_)
   ·have hj1 : 1 ≤ j := by simp at g2; omega
    have hjn : ((j : Int) - 1).toNat = j - 1 := by omega
    have hlj : j - 1 < p.links.length := by omega
    have hin := p4 _ (List.getElem_mem hlj)
    have hge : p.links[j - 1] = p.links.getD (j - 1) 0 := by simp [List.getD_eq_getElem?_getD, hlj]
    rw [hge] at hin
    obtain ⟨n, hn⟩ : ∃ n, n = p.links.getD (j - 1) 0 := ⟨_, rfl⟩
    have hir := zGf p.links (j - 1) hlj
    rw [← hn] at hin hir hst hpre1
    have hix := yEo hin
    rw [if_neg (by omega)] at hst hpre1
    try simp (maxSteps := 2000000) only [go_sem]
    repeat with_reducible refine zAd ?_
    refine zAh (by repeat' constructor) (zHP) ?_
    try simp (maxSteps := 2000000) only [go_sem, hjn, hir, hix, List.length_cons, List.length_nil]
    repeat with_reducible refine zAd ?_
    refine zAh (by repeat' constructor) (zYe x.tag) ?_
    try simp (maxSteps := 2000000) only [go_sem]
    repeat with_reducible refine zAd ?_
    refine zAo (fun m : Nat => [(6, .pv (sv (zBv (p.steps.take j) p.links true ++ zQT n ++ zQV x.tag ++ zCh (x.tests.take m)))), (46, .pv (iv m)), (10, .un), (47, .un), (67, .un), (68, .un), (69, .un), (70, .un), (71, .un), (72, .un)]) (fun m : Nat => x.tests.length - m) (fun m : Nat => m ≤ x.tests.length) (0) ?_ (Nat.zero_le _) ?_
    focus (simp (maxSteps := 2000000) only [go_sem, zAe, zAj, zAt, zAc]; all_goals (repeat' (first | exact trivial | exact zAg (by omega) | exact zAf rfl | exact zAr rfl | exact zAk | exact le_refl _ | refine And.intro ?_ ?_)))
    ·exact zAr (by simp [zCh])
    intro m hm
    have hpt := zHQ x.tests m
    try simp (maxSteps := 2000000) only [go_sem]
    repeat with_reducible refine zAd ?_
    refine zAa (by rfl) trivial (fun g3 => ?_) (fun g3 => ?_)
    ·have hml : m < x.tests.length := by simp at g3; omega
     have htt := zQX x.tests m hml
     have hpt1 := zHQ x.tests (m + 1)
     have htv := zCr x.tests m hml
     have hGt := GTs.get x2 m hml
     obtain ⟨t, ht⟩ : ∃ t, t = x.tests.getD m default := ⟨_, rfl⟩
     rw [← ht] at htt htv hGt
     have hc := hT t hGt
     rw [zCg] at hc htv
     have hll := congrArg List.length htt
     rw [List.length_append] at hll
     try simp (maxSteps := 2000000) only [go_sem, htv]
     repeat with_reducible refine zAd ?_
     refine zAh (by repeat' constructor) (hc) ?_
     try simp (maxSteps := 2000000) only [go_sem, List.length_append]
     repeat with_reducible refine zAd ?_
     refine ⟨m + 1, by omega, by omega, ?_⟩
     simp (maxSteps := 2000000) only [go_sem, zAe, zAj, zAt, zAc]
     all_goals (repeat' (first | exact trivial | exact zAg (by omega) | exact zAf rfl | exact zAr rfl | exact zAk | exact le_refl _ | refine And.intro ?_ ?_))
     all_goals first | exact zAc | exact zAg (by omega) | exact zAr (by rw [htt]; simp only [List.append_assoc]) | rfl
    ·have hme : m = x.tests.length := by simp at g3; omega
     subst hme
     try simp (maxSteps := 2000000) only [go_sem]
     repeat with_reducible refine zAd ?_
     refine ⟨j + 1, by omega, by omega, ?_⟩
     simp (maxSteps := 2000000) only [go_sem, zAe, zAj, zAt, zAc]
     all_goals (repeat' (first | exact trivial | exact zAg (by omega) | exact zAf rfl | exact zAr rfl | exact zAk | exact le_refl _ | refine And.intro ?_ ?_))
     all_goals first | exact zAc | exact zAg (by omega) | exact zAr (by rw [hst, List.take_length]; simp only [List.append_assoc, List.nil_append]) | rfl
   ·have hj0 : j = 0 := by simp at g2; omega
    rw [if_pos hj0] at hst hpre1
    try simp (maxSteps := 2000000) only [go_sem]
    repeat with_reducible refine zAd ?_
    refine zAh (by repeat' constructor) (zYe x.tag) ?_
    try simp (maxSteps := 2000000) only [go_sem]
    repeat with_reducible refine zAd ?_
    refine zAo (fun m : Nat => [(6, .pv (sv (zBv (p.steps.take j) p.links true ++ zQV x.tag ++ zCh (x.tests.take m)))), (46, .pv (iv m)), (10, .un), (47, .un), (67, .un), (68, .un), (69, .un), (70, .un), (71, .un), (72, .un)]) (fun m : Nat => x.tests.length - m) (fun m : Nat => m ≤ x.tests.length) (0) ?_ (Nat.zero_le _) ?_
    focus (simp (maxSteps := 2000000) only [go_sem, zAe, zAj, zAt, zAc]; all_goals (repeat' (first | exact trivial | exact zAg (by omega) | exact zAf rfl | exact zAr rfl | exact zAk | exact le_refl _ | refine And.intro ?_ ?_)))
    ·exact zAr (by simp [zCh])
    intro m hm
    have hpt := zHQ x.tests m
    try simp (maxSteps := 2000000) only [go_sem]
    repeat with_reducible refine zAd ?_
    refine zAa (by rfl) trivial (fun g3 => ?_) (fun g3 => ?_)
    ·have hml : m < x.tests.length := by simp at g3; omega
     have htt := zQX x.tests m hml
     have hpt1 := zHQ x.tests (m + 1)
     have htv := zCr x.tests m hml
     have hGt := GTs.get x2 m hml
     obtain ⟨t, ht⟩ : ∃ t, t = x.tests.getD m default := ⟨_, rfl⟩
     rw [← ht] at htt htv hGt
     have hc := hT t hGt
     rw [zCg] at hc htv
     have hll := congrArg List.length htt
     rw [List.length_append] at hll
     try simp (maxSteps := 2000000) only [go_sem, htv]
     repeat with_reducible refine zAd ?_
     refine zAh (by repeat' constructor) (hc) ?_
     try simp (maxSteps := 2000000) only [go_sem, List.length_append]
     repeat with_reducible refine zAd ?_
     refine ⟨m + 1, by omega, by omega, ?_⟩
     simp (maxSteps := 2000000) only [go_sem, zAe, zAj, zAt, zAc]
     all_goals (repeat' (first | exact trivial | exact zAg (by omega) | exact zAf rfl | exact zAr rfl | exact zAk | exact le_refl _ | refine And.intro ?_ ?_))
     all_goals first | exact zAc | exact zAg (by omega) | exact zAr (by rw [htt]; simp only [List.append_assoc]) | rfl
    ·have hme : m = x.tests.length := by simp at g3; omega
     subst hme
     try simp (maxSteps := 2000000) only [go_sem]
     repeat with_reducible refine zAd ?_
     refine ⟨j + 1, by omega, by omega, ?_⟩
     simp (maxSteps := 2000000) only [go_sem, zAe, zAj, zAt, zAc]
     all_goals (repeat' (first | exact trivial | exact zAg (by omega) | exact zAf rfl | exact zAr rfl | exact zAk | exact le_refl _ | refine And.intro ?_ ?_))
     all_goals first | exact zAc | exact zAg (by omega) | exact zAr (by rw [hst, List.take_length]; simp only [List.append_assoc, List.nil_append]) | rfl
  ·have hje : j = p.steps.length := by simp at g1; omega
   subst hje
   try simp (maxSteps := 2000000) only [go_sem, List.take_length, List.length_map, List.length_take]
   repeat with_reducible refine zAd ?_
   refine ⟨i + 1, by omega, by omega, ?_⟩
   simp (maxSteps := 2000000) only [go_sem, zAe, zAj, zAt, zAc]
   all_goals (repeat' (first | exact trivial | exact zAg (by omega) | exact zAf rfl | exact zAr rfl | exact zAk | exact le_refl _ | refine And.intro ?_ ?_))
   all_goals first | exact zAc | exact zAg (by omega) | exact zDp (by rw [zMg l i default hlt, ← hp]; simp [zWf, yAW]) | rfl
 ·have hie : i = l.length := by simp at g0; omega
  subst hie
  have hsum : ∀ q : List Pt, zP8 (q.map zP7) ≤ (zBH q false).length := by
   intro q
   induction q with
   | nil => simp [zP8]
   | cons a r ih =>
    simp only [zP8, List.map_cons, List.sum_cons, zBH, List.length_append] at ih ⊢
    omega
  have hs1 := hsum l
  have hs2 := yCh l false d hd hl.2.2.2
  have htb : tB d ≤ 1229192 := by
   unfold tB
   split
   ·omega
   ·split <;> omega
  have hs3 : l.length * (5 * (15 + 6 * tB d) + 2) ≤ 5 * (5 * (15 + 6 * tB d) + 2) := Nat.mul_le_mul_right _ hl5
  rw [hLE]
  try simp (maxSteps := 2000000) only [go_sem, List.take_length]
  repeat with_reducible refine zAd ?_
  refine zAh (by repeat' constructor) (zP9 (l.map zP7) (by rw [List.length_map]; omega) (by rw [List.length_map]; omega) (by omega)) ?_
  try simp (maxSteps := 2000000) only [go_sem]
  repeat with_reducible refine zAd ?_
  exact zAl rfl trivial (.inl rfl)
theorem zVo : ∀ n d : Nat, 1 ≤ d → d + n = 4 → (∀ l : List Pt, GL l d → Contract Tryz.prog zCc [.val (zBu l)] { res := .val (sv (zXd l)) })
 | 0, d, hd, hn => fun l hl => absurd hl.1 (by omega)
 | n + 1, d, hd, hn => fun l hl => zXh d hd (fun t ht => zXg d hd (zVo n (d + 1) (by omega) (by omega)) t ht) l hl
theorem zVp (l : List Pt) (h : zBt l = 0) : Contract Tryz.prog zCc [.val (zBu l)] { res := .val (sv (zXd l)) } :=
 zVo 3 1 (Nat.le_refl _) rfl l (yEh h)
def zS6 (l : List Pt) : RV := { res := .tup [sv (if zBt l = 0 then zXd l else []), iv (zBt l)] }
theorem zXi (l : List Pt) : Contract Tryz.prog zGi [.val (zBu l)] (zS6 l) := by
 unfold zS6
 refine zU3 (base := 0) ⟨Nat.le_of_ble_eq_true rfl, Nat.le_of_ble_eq_true rfl, Nat.le_of_ble_eq_true rfl, rfl⟩ (fun hfit => ?_)
 unfold F0 zFQ
 simp (maxSteps := 2000000) only [zAN, List.set_cons_succ, List.set_cons_zero, List.map_cons, List.map_nil, zAM, zAb, ioOf, List.length_cons, List.length_nil, Nat.reduceAdd, Nat.reduceSub, List.replicate, List.cons_append, List.nil_append]
 try simp (maxSteps := 2000000) only [go_sem]
 repeat with_reducible refine zAd ?_
 refine zAh (by repeat' constructor) (zCR l) ?_
 try simp (maxSteps := 2000000) only [go_sem]
 repeat with_reducible refine zAd ?_
 refine zAa (by rfl) trivial (fun h1 => ?_) (fun h1 => ?_)
 ·have hne : ¬ zBt l = 0 := by simpa using h1
  rw [if_neg hne]
  try simp (maxSteps := 2000000) only [go_sem]
  repeat with_reducible refine zAd ?_
  exact zCM (by simp) ⟨zA1 rfl trivial (.inl rfl), zA1 rfl trivial (.inl rfl), rfl⟩
 ·have hne : zBt l = 0 := by simpa using h1
  rw [if_pos hne]
  try simp (maxSteps := 2000000) only [go_sem]
  repeat with_reducible refine zAd ?_
  refine zAh (by repeat' constructor) (zVp l hne) ?_
  try simp (maxSteps := 2000000) only [go_sem]
  repeat with_reducible refine zAd ?_
  exact zCM (by simp) ⟨zA1 rfl trivial (.inl rfl), zA1 rfl trivial (.inl (by rw [hne])), rfl⟩
end Go.Hx
end

section
set_option maxRecDepth 100000
set_option linter.unusedSimpArgs false
set_option maxHeartbeats 4000000
namespace Go.Hx
open Go.Proofs
variable [Glob]
attribute [local go_sem] zAz zAx zAy zAq ndV zAu zAp zBu zBR zBs zAW List.nil_append
attribute [local go_sem] reduceCtorEq Nat.reduceAdd Nat.reduceEqDiff reduceIte Nat.reduceLeDiff Nat.reduceLT Nat.reduceSub
def yCk (P : Go.Program) (N : Nat) : Prop := ∀ a b : Ts, SizeOf.sizeOf a ≤ N → Contract P zDV [.val (.agg (tsV a)), .val (.agg (tsV b))] { res := .val (bv (zVr a b)) }
theorem zXk {N : Nat} (ih : yCk Tryz.prog N) (a b : St) (hs : SizeOf.sizeOf a ≤ N) : Contract Tryz.prog zDU [.val (.agg (stV a)), .val (.agg (stV b))] { res := .val (bv (zTg a b)) } := by
 rw [zBK, zBK]
 refine zLq (base := 0) ⟨Nat.le_of_ble_eq_true rfl, Nat.le_of_ble_eq_true rfl, Nat.le_of_ble_eq_true rfl, rfl⟩ (fun hfit => ?_)
 unfold F0 zDe
 simp (maxSteps := 2000000) only [zAN, List.set_cons_succ, List.set_cons_zero, List.map_cons, List.map_nil, zAM, zAb, ioOf, List.length_cons, List.length_nil, Nat.reduceAdd, Nat.reduceSub, List.replicate, List.cons_append, List.nil_append]
 try simp (maxSteps := 2000000) only [go_sem]
 repeat with_reducible refine zAd ?_
 have fl := zTf hfit.1.2.1
 refine zAa (by rfl) trivial (fun h1 => ?_) (fun h1 => ?_)
 ·try simp (maxSteps := 2000000) only [go_sem]
  repeat with_reducible refine zAd ?_
  refine zAl rfl trivial (.inl ?_)
  congr 3
  rw [zYi]
  by_cases ht : a.tag = b.tag
  ·have hl : a.tests.length ≠ b.tests.length := by
    rw [ht] at h1
    simp at h1
    omega
   rw [zZu hl, Bool.and_false]
  ·rw [beq_false_of_ne ht, Bool.false_and]
 have ht : a.tag = b.tag := by
  cases hc : (a.tag == b.tag) with
  | true => simpa using hc
  | false => rw [hc] at h1; cases h1
 have hl : a.tests.length = b.tests.length := by
  rw [ht] at h1
  simp at h1
  omega
 have hR : zTg a b = zEx a.tests b.tests := by rw [zYi, ht, beq_self_eq_true, Bool.true_and]
 rw [hR]
 try simp (maxSteps := 2000000) only [go_sem]
 repeat with_reducible refine zAd ?_
 refine zAo (fun i : Nat => [(5, .pv (iv i)), (4, .un), (24, .un), (38, .un)]) (fun i : Nat => a.tests.length - i) (fun i : Nat => i ≤ a.tests.length ∧ zEx (a.tests.drop i) (b.tests.drop i) = zEx a.tests b.tests) (0) ?_ ⟨Nat.zero_le _, rfl⟩ ?_
 focus (simp (maxSteps := 2000000) only [go_sem, zAe, zAj, zAt, zAc]; all_goals (repeat' (first | exact trivial | exact zAg (by omega) | exact zAf rfl | exact zAr rfl | exact zAk | exact le_refl _ | refine And.intro ?_ ?_)))
 rintro i ⟨hi, hinv⟩
 try simp (maxSteps := 2000000) only [go_sem]
 repeat with_reducible refine zAd ?_
 refine zAa (by rfl) trivial (fun h2 => ?_) (fun h2 => ?_)
 ·have hil : i < a.tests.length := by simp at h2; omega
  have hib : i < b.tests.length := by omega
  rw [zAX (d := default) hil, zAX (d := default) hib, zEx] at hinv
  have e1 := zCr a.tests i hil
  have e2 := zCr b.tests i hib
  rw [zCg] at e1 e2
  have h7 := ih (a.tests.getD i default) (b.tests.getD i default) (by have := zZb hil; have := zGF a; omega)
  rw [zCg, zCg] at h7
  try simp (maxSteps := 2000000) only [go_sem, e1, e2]
  repeat with_reducible refine zAd ?_
  refine zAh (by repeat' constructor) (h7) ?_
  try simp (maxSteps := 2000000) only [go_sem]
  repeat with_reducible refine zAd ?_
  refine zAa (by rfl) trivial (fun h3 => ?_) (fun h3 => ?_)
  ·try simp (maxSteps := 2000000) only [go_sem]
   repeat with_reducible refine zAd ?_
   refine zAl rfl trivial (.inl ?_)
   congr 3
   rw [← hinv]
   have h4 : zVr (a.tests.getD i default) (b.tests.getD i default) = false := by simpa using h3
   rw [h4]; rfl
  ·have h4 : zVr (a.tests.getD i default) (b.tests.getD i default) = true := by simpa using h3
   rw [h4, Bool.true_and] at hinv
   try simp (maxSteps := 2000000) only [go_sem]
   repeat with_reducible refine zAd ?_
   refine ⟨i + 1, by omega, ⟨by omega, hinv⟩, ?_⟩
   simp (maxSteps := 2000000) only [go_sem, zAe, zAj, zAt, zAc]
   all_goals (repeat' (first | exact trivial | exact zAg (by omega) | exact zAf rfl | exact zAr rfl | exact zAk | exact le_refl _ | refine And.intro ?_ ?_))
 ·have hil : i = a.tests.length := by simp at h2; omega
  try simp (maxSteps := 2000000) only [go_sem]
  repeat with_reducible refine zAd ?_
  refine zAl rfl trivial (.inl ?_)
  congr 3
  rw [← hinv, hil, List.drop_length, hl, List.drop_length]
  simp only [zEx]
theorem zXl {N : Nat} (ih : yCk Tryz.prog N) (a b : Pt) (hs : SizeOf.sizeOf a ≤ N) : Contract Tryz.prog zDT [.val (.agg (ptV a)), .val (.agg (ptV b))] { res := .val (bv (zTh a b)) } := by
 rw [zA3, zA3]
 refine zLA (base := 0) ⟨Nat.le_of_ble_eq_true rfl, Nat.le_of_ble_eq_true rfl, Nat.le_of_ble_eq_true rfl, rfl⟩ (fun hfit => ?_)
 unfold F0 zDf
 simp (maxSteps := 2000000) only [zAN, List.set_cons_succ, List.set_cons_zero, List.map_cons, List.map_nil, zAM, zAb, ioOf, List.length_cons, List.length_nil, Nat.reduceAdd, Nat.reduceSub, List.replicate, List.cons_append, List.nil_append]
 try simp (maxSteps := 2000000) only [go_sem]
 repeat with_reducible refine zAd ?_
 have fl := zHR hfit.1.1
 apply zAG (h2 := fun _ => zQa a.links b.links)
 ·(simp (maxSteps := 2000000) only [go_sem]; rfl)
 ·intro h; repeat' (first | exact trivial | exact h | refine And.intro ?_ ?_)
 try simp (maxSteps := 2000000) only [go_sem]
 repeat with_reducible refine zAd ?_
 refine zAa (by rfl) trivial (fun h1 => ?_) (fun h1 => ?_)
 ·try simp (maxSteps := 2000000) only [go_sem]
  repeat with_reducible refine zAd ?_
  refine zAl rfl trivial (.inl ?_)
  congr 3
  rw [zYj]
  by_cases ht : a.links = b.links
  ·have hl : a.steps.length ≠ b.steps.length := by
    simp [ht] at h1
    omega
   rw [zZv hl, Bool.and_false]
  ·rw [beq_false_of_ne ht, Bool.false_and]
 have hl : a.steps.length = b.steps.length := by
  cases hc : ((a.steps.length : Int) != (b.steps.length : Int)) with
  | false => simp at hc; omega
  | true => rw [hc] at h1; cases h1
 have ht : a.links = b.links := by
  rw [hl] at h1
  simpa using h1
 have hR : zTh a b = zEy a.steps b.steps := by rw [zYj, ht, beq_self_eq_true, Bool.true_and]
 rw [hR]
 try simp (maxSteps := 2000000) only [go_sem]
 repeat with_reducible refine zAd ?_
 refine zAo (fun i : Nat => [(5, .pv (iv i)), (4, .un), (25, .un), (39, .un)]) (fun i : Nat => a.steps.length - i) (fun i : Nat => i ≤ a.steps.length ∧ zEy (a.steps.drop i) (b.steps.drop i) = zEy a.steps b.steps) (0) ?_ ⟨Nat.zero_le _, rfl⟩ ?_
 focus (simp (maxSteps := 2000000) only [go_sem, zAe, zAj, zAt, zAc]; all_goals (repeat' (first | exact trivial | exact zAg (by omega) | exact zAf rfl | exact zAr rfl | exact zAk | exact le_refl _ | refine And.intro ?_ ?_)))
 rintro i ⟨hi, hinv⟩
 try simp (maxSteps := 2000000) only [go_sem]
 repeat with_reducible refine zAd ?_
 refine zAa (by rfl) trivial (fun h2 => ?_) (fun h2 => ?_)
 ·have hil : i < a.steps.length := by simp at h2; omega
  have hib : i < b.steps.length := by omega
  rw [zAX (d := default) hil, zAX (d := default) hib, zEy] at hinv
  have e1 := zDc a.steps i hil
  have e2 := zDc b.steps i hib
  rw [zBK] at e1 e2
  have h7 := zXk ih (a.steps.getD i default) (b.steps.getD i default) (by have := zZc hil; have := zGG a; omega)
  rw [zBK, zBK] at h7
  try simp (maxSteps := 2000000) only [go_sem, e1, e2]
  repeat with_reducible refine zAd ?_
  refine zAh (by repeat' constructor) (h7) ?_
  try simp (maxSteps := 2000000) only [go_sem]
  repeat with_reducible refine zAd ?_
  refine zAa (by rfl) trivial (fun h3 => ?_) (fun h3 => ?_)
  ·try simp (maxSteps := 2000000) only [go_sem]
   repeat with_reducible refine zAd ?_
   refine zAl rfl trivial (.inl ?_)
   congr 3
   rw [← hinv]
   have h4 : zTg (a.steps.getD i default) (b.steps.getD i default) = false := by simpa using h3
   rw [h4]; rfl
  ·have h4 : zTg (a.steps.getD i default) (b.steps.getD i default) = true := by simpa using h3
   rw [h4, Bool.true_and] at hinv
   try simp (maxSteps := 2000000) only [go_sem]
   repeat with_reducible refine zAd ?_
   refine ⟨i + 1, by omega, ⟨by omega, hinv⟩, ?_⟩
   simp (maxSteps := 2000000) only [go_sem, zAe, zAj, zAt, zAc]
   all_goals (repeat' (first | exact trivial | exact zAg (by omega) | exact zAf rfl | exact zAr rfl | exact zAk | exact le_refl _ | refine And.intro ?_ ?_))
 ·have hil : i = a.steps.length := by simp at h2; omega
  try simp (maxSteps := 2000000) only [go_sem]
  repeat with_reducible refine zAd ?_
  refine zAl rfl trivial (.inl ?_)
  congr 3
  rw [← hinv, hil, List.drop_length, hl, List.drop_length]
  simp only [zEy]
theorem zOn {N : Nat} (ih : yCk Tryz.prog N) (a b : List Pt) (hs : SizeOf.sizeOf a ≤ N) : Contract Tryz.prog zBX [.val (.one (.sl 2 (zF2 a))), .val (.one (.sl 2 (zF2 b)))] { res := .val (bv (zDJ a b)) } := by
 refine zLK (base := 0) ⟨Nat.le_of_ble_eq_true rfl, Nat.le_of_ble_eq_true rfl, Nat.le_of_ble_eq_true rfl, rfl⟩ (fun hfit => ?_)
 unfold F0 zDg
 simp (maxSteps := 2000000) only [zAN, List.set_cons_succ, List.set_cons_zero, List.map_cons, List.map_nil, zAM, zAb, ioOf, List.length_cons, List.length_nil, Nat.reduceAdd, Nat.reduceSub, List.replicate, List.cons_append, List.nil_append]
 try simp (maxSteps := 2000000) only [go_sem]
 repeat with_reducible refine zAd ?_
 have fl := zTe hfit.1
 refine zAa (by rfl) trivial (fun h1 => ?_) (fun h1 => ?_)
 ·try simp (maxSteps := 2000000) only [go_sem]
  repeat with_reducible refine zAd ?_
  refine zAl rfl trivial (.inl ?_)
  congr 3
  have : a.length ≠ b.length := by simp at h1; omega
  rw [zZw this]
 have hl : a.length = b.length := by simp at h1; omega
 try simp (maxSteps := 2000000) only [go_sem]
 repeat with_reducible refine zAd ?_
 refine zAo (fun i : Nat => [(5, .pv (iv i)), (4, .un), (14, .un), (26, .un)]) (fun i : Nat => a.length - i) (fun i : Nat => i ≤ a.length ∧ zDJ (a.drop i) (b.drop i) = zDJ a b) (0) ?_ ⟨Nat.zero_le _, rfl⟩ ?_
 focus (simp (maxSteps := 2000000) only [go_sem, zAe, zAj, zAt, zAc]; all_goals (repeat' (first | exact trivial | exact zAg (by omega) | exact zAf rfl | exact zAr rfl | exact zAk | exact le_refl _ | refine And.intro ?_ ?_)))
 rintro i ⟨hi, hinv⟩
 try simp (maxSteps := 2000000) only [go_sem]
 repeat with_reducible refine zAd ?_
 refine zAa (by rfl) trivial (fun h2 => ?_) (fun h2 => ?_)
 ·have hil : i < a.length := by simp at h2; omega
  have hib : i < b.length := by omega
  rw [zAX (d := default) hil, zAX (d := default) hib, zDJ] at hinv
  have e1 := zBC a i hil
  have e2 := zBC b i hib
  rw [zA3] at e1 e2
  have h7 := zXl ih (a.getD i default) (b.getD i default) (by have := zZd hil; omega)
  rw [zA3, zA3] at h7
  try simp (maxSteps := 2000000) only [go_sem, e1, e2]
  repeat with_reducible refine zAd ?_
  refine zAh (by repeat' constructor) (h7) ?_
  try simp (maxSteps := 2000000) only [go_sem]
  repeat with_reducible refine zAd ?_
  refine zAa (by rfl) trivial (fun h3 => ?_) (fun h3 => ?_)
  ·try simp (maxSteps := 2000000) only [go_sem]
   repeat with_reducible refine zAd ?_
   refine zAl rfl trivial (.inl ?_)
   congr 3
   rw [← hinv]
   have h4 : zTh (a.getD i default) (b.getD i default) = false := by simpa using h3
   rw [h4]; rfl
  ·have h4 : zTh (a.getD i default) (b.getD i default) = true := by simpa using h3
   rw [h4, Bool.true_and] at hinv
   try simp (maxSteps := 2000000) only [go_sem]
   repeat with_reducible refine zAd ?_
   refine ⟨i + 1, by omega, ⟨by omega, hinv⟩, ?_⟩
   simp (maxSteps := 2000000) only [go_sem, zAe, zAj, zAt, zAc]
   all_goals (repeat' (first | exact trivial | exact zAg (by omega) | exact zAf rfl | exact zAr rfl | exact zAk | exact le_refl _ | refine And.intro ?_ ?_))
 ·have hil : i = a.length := by simp at h2; omega
  try simp (maxSteps := 2000000) only [go_sem]
  repeat with_reducible refine zAd ?_
  refine zAl rfl trivial (.inl ?_)
  congr 3
  rw [← hinv, hil, List.drop_length, hl, List.drop_length]
  simp only [zDJ]
theorem zZx (s : Ts) : 0 < SizeOf.sizeOf s := by cases s; simp only [Ts.mk.sizeOf_spec]; omega
theorem zQY : ∀ N, yCk Tryz.prog N
 | 0 => fun a b h => by have := zZx a; omega
 | N + 1 => fun a b h => by
  have ih := zQY N
  have hc := zOn ih a.list b.list (by have := zI6 a; omega)
  rw [zCg, zCg]
  refine zLg (base := 0) ⟨Nat.le_of_ble_eq_true rfl, Nat.le_of_ble_eq_true rfl, Nat.le_of_ble_eq_true rfl, rfl⟩ (fun hfit => ?_)
  unfold F0 zDd
  simp (maxSteps := 2000000) only [zAN, List.set_cons_succ, List.set_cons_zero, List.map_cons, List.map_nil, zAM, zAb, ioOf, List.length_cons, List.length_nil, Nat.reduceAdd, Nat.reduceSub, List.replicate, List.cons_append, List.nil_append]
  try simp (maxSteps := 2000000) only [go_sem]
  repeat with_reducible refine zAd ?_
  apply zAG (h2 := fun _ => hc)
  ·(simp (maxSteps := 2000000) only [go_sem]; rfl)
  ·intro h; repeat' (first | exact trivial | exact h | refine And.intro ?_ ?_)
  try simp (maxSteps := 2000000) only [go_sem]
  repeat with_reducible refine zAd ?_
  refine zAl rfl trivial (.inl ?_)
  congr 3
  rw [yCj]
  simp [Bool.cond_false_right, Bool.and_assoc]
theorem yCl (a b : List Pt) : Contract Tryz.prog zBX [.val (.one (.sl 2 (zF2 a))), .val (.one (.sl 2 (zF2 b)))] { res := .val (bv (zDJ a b)) } := zOn (zQY _) a b (Nat.le_refl _)
end Go.Hx
end

section
set_option maxRecDepth 100000
set_option linter.unusedSimpArgs false
namespace Go.Hx
open Go.Proofs Go.RowKit
attribute [local instance] zA2
attribute [local go_sem] zAz zAx zAy zAq ndV zAu zAp zBR zBs zAW zA3 zBK zCg
end Go.Hx
end

section
set_option maxRecDepth 100000
set_option linter.unusedSimpArgs false
namespace Go.Hx
open Go.Proofs Go.RowKit
attribute [local instance] zA2
attribute [local go_sem] zAz zAx zAy zAq ndV zAu zAp zBR zBs zAW zA3 zBK zCg
end Go.Hx
end

section
set_option maxRecDepth 100000
set_option linter.unusedSimpArgs false
namespace Go.Hx
open Go.Proofs Go.RowKit
attribute [local instance] zA2
attribute [local go_sem] zAz zAx zAy zAq ndV zAu zAp zBR zBs zAW
def Lft (s : Bys) (o : Option Ts × Bys) : Prop := o.2.length ≤ s.length ∧ (∀ t, o.1 = some t → o.2.length + 1 ≤ s.length)
theorem Lft.le {s : Bys} {o : Option Ts × Bys} (h : Lft s o) : o.2.length ≤ s.length := h.1
end Go.Hx
end

section
set_option maxRecDepth 100000
set_option linter.unusedSimpArgs false
namespace Go.Hx
open Go.Proofs Go.RowKit
attribute [local instance] zA2
attribute [local go_sem] zAz zAx zAy zAq ndV zAu zAp OVal.cells List.map_nil List.map_cons zDY zXw zVt zBR zBs zAW
end Go.Hx
end

section
set_option maxRecDepth 100000
set_option linter.unusedSimpArgs false
namespace Go.Hx
open Go.Proofs Go.RowKit
attribute [local instance] zA2
attribute [local go_sem] zAz zAx zAy zAq ndV zAu zAp
end Go.Hx
end

section
set_option maxRecDepth 100000
set_option linter.unusedSimpArgs false
namespace Go.Hx
open Go.Proofs Go.RowKit
attribute [local instance] zA2
attribute [local go_sem] zAz zAx zAy zAq ndV zAu zAp
attribute [local go_sem] reduceCtorEq Nat.reduceAdd Nat.reduceEqDiff reduceIte Nat.reduceLeDiff Nat.reduceLT Nat.reduceSub
theorem yBa (a : Int) : Contract Tryz.prog zCJ [.val (iv a)] { res := .val (bv false) } := by
 refine zLN (base := 0) ⟨Nat.le_of_ble_eq_true rfl, Nat.le_of_ble_eq_true rfl, Nat.le_of_ble_eq_true rfl, rfl⟩ (fun hfit => ?_)
 unfold F0 zDi
 simp (maxSteps := 2000000) only [zAN, List.set_cons_succ, List.set_cons_zero, List.map_cons, List.map_nil, zAM, zAb, ioOf, List.length_cons, List.length_nil, Nat.reduceAdd, Nat.reduceSub, List.replicate, List.cons_append, List.nil_append]
 try simp (maxSteps := 2000000) only [go_sem]
 repeat with_reducible refine zAd ?_
 have e : (a != a) = false := by simp
 try simp (maxSteps := 2000000) only [go_sem, e]
 repeat with_reducible refine zAd ?_
 exact zAl rfl trivial (.inl rfl)
def zZH (a b : Int) : Int := if a < b then -1 else if a > b then 1 else 0
set_option maxHeartbeats 4000000 in
theorem zOH (a b : Int) : Contract Tryz.prog zBD [.val (iv a), .val (iv b)] { res := .val (iv (zZH a b)) } := by
 unfold zZH
 refine zH5 (base := 0) ⟨Nat.le_of_ble_eq_true rfl, Nat.le_of_ble_eq_true rfl, Nat.le_of_ble_eq_true rfl, rfl⟩ (fun hfit => ?_)
 unfold F0 zCt
 simp (maxSteps := 2000000) only [zAN, List.set_cons_succ, List.set_cons_zero, List.map_cons, List.map_nil, zAM, zAb, ioOf, List.length_cons, List.length_nil, Nat.reduceAdd, Nat.reduceSub, List.replicate, List.cons_append, List.nil_append]
 try simp (maxSteps := 2000000) only [go_sem]
 repeat with_reducible refine zAd ?_
 refine zAh (by repeat' constructor) (yBa a) ?_
 try simp (maxSteps := 2000000) only [go_sem]
 repeat with_reducible refine zAd ?_
 refine zAh (by repeat' constructor) (yBa b) ?_
 try simp (maxSteps := 2000000) only [go_sem]
 repeat with_reducible refine zAd ?_
 refine zAa (by rfl) trivial (fun h1 => ?_) (fun h1 => ?_)
 ·cases h1
 ·try simp (maxSteps := 2000000) only [go_sem]
  repeat with_reducible refine zAd ?_
  refine zAa (by rfl) trivial (fun h2 => ?_) (fun h2 => ?_)
  ·cases h2
  ·try simp (maxSteps := 2000000) only [go_sem]
   repeat with_reducible refine zAd ?_
   refine zAa (by rfl) trivial (fun h3 => ?_) (fun h3 => ?_)
   ·rw [if_pos (by simpa using h3)]
    try simp (maxSteps := 2000000) only [go_sem]
    repeat with_reducible refine zAd ?_
    exact zAl rfl trivial (.inl rfl)
   ·rw [if_neg (by simpa using h3)]
    try simp (maxSteps := 2000000) only [go_sem]
    repeat with_reducible refine zAd ?_
    refine zAa (by rfl) trivial (fun h4 => ?_) (fun h4 => ?_)
    ·rw [if_pos (by simpa using h4)]
     try simp (maxSteps := 2000000) only [go_sem]
     repeat with_reducible refine zAd ?_
     exact zAl rfl trivial (.inl rfl)
    ·rw [if_neg (by simpa using h4)]
     try simp (maxSteps := 2000000) only [go_sem]
     repeat with_reducible refine zAd ?_
     exact zAl rfl trivial (.inl rfl)
def orI (x y z : Int) : Int := if x ≠ 0 then x else if y ≠ 0 then y else z
set_option maxHeartbeats 8000000 in
theorem yHy (x y z : Int) : Contract Tryz.prog zFV [.val (.one (.sl 1 [[bI x], [bI y], [bI z]]))] { res := .val (iv (orI x y z)) } := by
 unfold orI
 refine zTL (base := 0) ⟨Nat.le_of_ble_eq_true rfl, Nat.le_of_ble_eq_true rfl, Nat.le_of_ble_eq_true rfl, rfl⟩ (fun hfit => ?_)
 unfold F0 zEW
 simp (maxSteps := 2000000) only [zAN, List.set_cons_succ, List.set_cons_zero, List.map_cons, List.map_nil, zAM, zAb, ioOf, List.length_cons, List.length_nil, Nat.reduceAdd, Nat.reduceSub, List.replicate, List.cons_append, List.nil_append]
 try simp (maxSteps := 2000000) only [go_sem]
 repeat with_reducible refine zAd ?_
 refine zAo (fun i : Nat => [(8, .pv (iv i)), (2, .un), (5, .un), (9, .un), (14, .un)]) (fun i : Nat => 3 - i) (fun i : Nat => i ≤ 3 ∧ (1 ≤ i → x = 0) ∧ (2 ≤ i → y = 0) ∧ (3 ≤ i → z = 0)) (0) ?_ ⟨Nat.zero_le _, fun h => (by omega), fun h => (by omega), fun h => (by omega)⟩ ?_
 focus (simp (maxSteps := 2000000) only [go_sem, zAe, zAj, zAt, zAc]; all_goals (repeat' (first | exact trivial | exact zAg (by omega) | exact zAf rfl | exact zAr rfl | exact zAk | exact le_refl _ | refine And.intro ?_ ?_)))
 rintro i ⟨hi, hx, hy, hz⟩
 rcases (by omega : i = 0 ∨ i = 1 ∨ i = 2 ∨ i = 3) with rfl | rfl | rfl | rfl
 ·try simp (maxSteps := 2000000) only [go_sem, List.getD_cons_zero, List.length_cons, List.length_nil]
  repeat with_reducible refine zAd ?_
  refine zAa (by rfl) trivial (fun g1 => ?_) (fun g1 => ?_)
  ·try simp (maxSteps := 2000000) only [go_sem, List.getD_cons_zero, List.length_cons, List.length_nil]
   repeat with_reducible refine zAd ?_
   refine zAa (by rfl) trivial (fun g2 => ?_) (fun g2 => ?_)
   ·rw [if_pos (by simpa using g2)]
    try simp (maxSteps := 2000000) only [go_sem]
    repeat with_reducible refine zAd ?_
    exact zAl rfl trivial (.inl rfl)
   ·have h0 : x = 0 := by simpa using g2
    try simp (maxSteps := 2000000) only [go_sem]
    repeat with_reducible refine zAd ?_
    refine ⟨1, by omega, ⟨by omega, fun _ => h0, fun h => (by omega), fun h => (by omega)⟩, ?_⟩
    simp (maxSteps := 2000000) only [go_sem, zAe, zAj, zAt, zAc]
    all_goals (repeat' (first | exact trivial | exact zAg (by omega) | exact zAf rfl | exact zAr rfl | exact zAk | exact le_refl _ | refine And.intro ?_ ?_))
  ·simp at g1
 ·have h0 := hx (by omega)
  rw [if_neg (fun h => h h0)]
  try simp (maxSteps := 2000000) only [go_sem, List.getD_cons_zero, List.getD_cons_succ, List.length_cons, List.length_nil]
  repeat with_reducible refine zAd ?_
  refine zAa (by rfl) trivial (fun g1 => ?_) (fun g1 => ?_)
  ·try simp (maxSteps := 2000000) only [go_sem, List.getD_cons_zero, List.getD_cons_succ, List.length_cons, List.length_nil]
   repeat with_reducible refine zAd ?_
   refine zAa (by rfl) trivial (fun g2 => ?_) (fun g2 => ?_)
   ·rw [if_pos (by simpa using g2)]
    try simp (maxSteps := 2000000) only [go_sem]
    repeat with_reducible refine zAd ?_
    exact zAl rfl trivial (.inl rfl)
   ·have h1 : y = 0 := by simpa using g2
    try simp (maxSteps := 2000000) only [go_sem]
    repeat with_reducible refine zAd ?_
    refine ⟨2, by omega, ⟨by omega, fun _ => h0, fun _ => h1, fun h => (by omega)⟩, ?_⟩
    simp (maxSteps := 2000000) only [go_sem, zAe, zAj, zAt, zAc]
    all_goals (repeat' (first | exact trivial | exact zAg (by omega) | exact zAf rfl | exact zAr rfl | exact zAk | exact le_refl _ | refine And.intro ?_ ?_))
  ·simp at g1
 ·have h0 := hx (by omega)
  have h1 := hy (by omega)
  rw [if_neg (fun h => h h0), if_neg (fun h => h h1)]
  try simp (maxSteps := 2000000) only [go_sem, List.getD_cons_zero, List.getD_cons_succ, List.length_cons, List.length_nil]
  repeat with_reducible refine zAd ?_
  refine zAa (by rfl) trivial (fun g1 => ?_) (fun g1 => ?_)
  ·try simp (maxSteps := 2000000) only [go_sem, List.getD_cons_zero, List.getD_cons_succ, List.length_cons, List.length_nil]
   repeat with_reducible refine zAd ?_
   refine zAa (by rfl) trivial (fun g2 => ?_) (fun g2 => ?_)
   ·try simp (maxSteps := 2000000) only [go_sem]
    repeat with_reducible refine zAd ?_
    exact zAl rfl trivial (.inl rfl)
   ·have h2 : z = 0 := by simpa using g2
    try simp (maxSteps := 2000000) only [go_sem]
    repeat with_reducible refine zAd ?_
    refine ⟨3, by omega, ⟨by omega, fun _ => h0, fun _ => h1, fun _ => h2⟩, ?_⟩
    simp (maxSteps := 2000000) only [go_sem, zAe, zAj, zAt, zAc]
    all_goals (repeat' (first | exact trivial | exact zAg (by omega) | exact zAf rfl | exact zAr rfl | exact zAk | exact le_refl _ | refine And.intro ?_ ?_))
  ·simp at g1
 ·have h0 := hx (by omega)
  have h1 := hy (by omega)
  have h2 := hz (by omega)
  rw [if_neg (fun h => h h0), if_neg (fun h => h h1), h2]
  try simp (maxSteps := 2000000) only [go_sem, List.getD_cons_zero, List.getD_cons_succ, List.length_cons, List.length_nil]
  repeat with_reducible refine zAd ?_
  refine zAa (by rfl) trivial (fun g1 => ?_) (fun g1 => ?_)
  ·simp at g1
  ·try simp (maxSteps := 2000000) only [go_sem]
   repeat with_reducible refine zAd ?_
   exact zAl rfl trivial (.inl rfl)
def yEx (a b : Wt) : Int := orI (zZH a.1 b.1) (zZH a.2.1 b.2.1) (zZH a.2.2 b.2.2)
theorem yCr (a b : Nat) : (0 < zZH a b) ↔ b < a := by
 unfold zZH
 split
 ·omega
 ·split <;> omega
theorem yBb (a b : Nat) : zZH a b = 0 ↔ a = b := by
 unfold zZH
 split
 ·omega
 ·split <;> omega
theorem yCs (a b : Wt) : decide (0 < yEx a b) = hvy a b := by
 unfold yEx orI hvy
 by_cases h1 : a.1 = b.1 <;> by_cases h2 : a.2.1 = b.2.1 <;> simp [yBb, yCr, h1, h2]
theorem zQC (a b : Wt) : Contract Tryz.prog zDh [.val (.agg (wV a)), .val (.agg (wV b))] { res := .val (iv (yEx a b)) } := by
 unfold wV yEx
 refine zOt (base := 0) ⟨Nat.le_of_ble_eq_true rfl, Nat.le_of_ble_eq_true rfl, Nat.le_of_ble_eq_true rfl, rfl⟩ (fun hfit => ?_)
 unfold F0 zDD
 simp (maxSteps := 2000000) only [zAN, List.set_cons_succ, List.set_cons_zero, List.map_cons, List.map_nil, zAM, zAb, ioOf, List.length_cons, List.length_nil, Nat.reduceAdd, Nat.reduceSub, List.replicate, List.cons_append, List.nil_append]
 try simp (maxSteps := 2000000) only [go_sem]
 repeat with_reducible refine zAd ?_
 refine zAh (by repeat' constructor) (zOH a.1 b.1) ?_
 try simp (maxSteps := 2000000) only [go_sem]
 repeat with_reducible refine zAd ?_
 refine zAh (by repeat' constructor) (zOH a.2.1 b.2.1) ?_
 try simp (maxSteps := 2000000) only [go_sem]
 repeat with_reducible refine zAd ?_
 refine zAh (by repeat' constructor) (zOH a.2.2 b.2.2) ?_
 try simp (maxSteps := 2000000) only [go_sem]
 repeat with_reducible refine zAd ?_
 refine zAh (by repeat' constructor) (yHy (zZH a.1 b.1) (zZH a.2.1 b.2.1) (zZH a.2.2 b.2.2)) ?_
 try simp (maxSteps := 2000000) only [go_sem]
 repeat with_reducible refine zAd ?_
 exact zAl rfl trivial (.inl rfl)
set_option maxHeartbeats 4000000 in
theorem zH6 (a b : Wt) : Contract Tryz.prog zE3 [.val (.agg (wV a)), .val (.agg (wV b))] { res := .val (bv (hvy a b)) } := by
 have i1 : ∀ x y : Nat, ((x : Int) != (y : Int)) = decide (x ≠ y) := fun x y => by
  by_cases h : x = y
  ·simp [h]
  ·have : ¬ (x : Int) = y := by omega
   simp [h, this]
 have i2 : ∀ x y : Nat, decide ((x : Int) > (y : Int)) = decide (y < x) := fun x y => decide_eq_decide.2 (by omega)
 unfold wV hvy
 refine zQA (base := 0) ⟨Nat.le_of_ble_eq_true rfl, Nat.le_of_ble_eq_true rfl, Nat.le_of_ble_eq_true rfl, rfl⟩ (fun hfit => ?_)
 unfold F0 zEd
 simp (maxSteps := 2000000) only [zAN, List.set_cons_succ, List.set_cons_zero, List.map_cons, List.map_nil, zAM, zAb, ioOf, List.length_cons, List.length_nil, Nat.reduceAdd, Nat.reduceSub, List.replicate, List.cons_append, List.nil_append]
 try simp (maxSteps := 2000000) only [go_sem]
 repeat with_reducible refine zAd ?_
 refine zAa (by rfl) trivial (fun h1 => ?_) (fun h1 => ?_)
 ·have h1' : a.1 ≠ b.1 := by rw [i1] at h1; simpa using h1
  rw [if_pos h1', ← i2]
  try simp (maxSteps := 2000000) only [go_sem]
  repeat with_reducible refine zAd ?_
  exact zAl rfl trivial (.inl rfl)
 ·have h1' : ¬ a.1 ≠ b.1 := by rw [i1] at h1; simpa using h1
  rw [if_neg h1']
  try simp (maxSteps := 2000000) only [go_sem]
  repeat with_reducible refine zAd ?_
  refine zAa (by rfl) trivial (fun h2 => ?_) (fun h2 => ?_)
  ·have h2' : a.2.1 ≠ b.2.1 := by rw [i1] at h2; simpa using h2
   rw [if_pos h2', ← i2]
   try simp (maxSteps := 2000000) only [go_sem]
   repeat with_reducible refine zAd ?_
   exact zAl rfl trivial (.inl rfl)
  ·have h2' : ¬ a.2.1 ≠ b.2.1 := by rw [i1] at h2; simpa using h2
   rw [if_neg h2', ← i2]
   try simp (maxSteps := 2000000) only [go_sem]
   repeat with_reducible refine zAd ?_
   exact zAl rfl trivial (.inl rfl)
set_option maxHeartbeats 8000000 in
theorem zFw (x : Wt) (r : List Wt) (hr : r.length ≤ 100) : Contract Tryz.prog zBL [.val (.one (.sl 3 (wsV (x :: r)))), .val (.one (.clo zDh []))] { res := .val (.agg (wV (zBk x r))) } := by
 have h0 : (wsV (x :: r)).getD (Int.toNat 0) [] = wV x := rfl
 have hlen : (wsV (x :: r)).length = r.length + 1 := by rw [yA9]; rfl
 refine zFv (base := 0) ⟨Nat.le_of_ble_eq_true rfl, Nat.le_of_ble_eq_true rfl, Nat.le_of_ble_eq_true rfl, rfl⟩ (fun hfit => ?_)
 unfold F0 zBi
 simp (maxSteps := 2000000) only [zAN, List.set_cons_succ, List.set_cons_zero, List.map_cons, List.map_nil, zAM, zAb, ioOf, List.length_cons, List.length_nil, Nat.reduceAdd, Nat.reduceSub, List.replicate, List.cons_append, List.nil_append]
 try simp (maxSteps := 2000000) only [go_sem]
 repeat with_reducible refine zAd ?_
 refine zAa (by rfl) trivial (fun g0 => ?_) (fun g0 => ?_)
 ·exfalso; simp only [hlen, decide_eq_true_eq] at g0; omega
 ·try simp (maxSteps := 2000000) only [go_sem, h0, wV]
  repeat with_reducible refine zAd ?_
  refine zAo (fun j : Nat => [(36, .pv (.one (bI (zBk x (r.take j)).1))), (37, .pv (.one (bI (zBk x (r.take j)).2.1))), (38, .pv (.one (bI (zBk x (r.take j)).2.2))), (6, .pv (iv ((j + 1 : Nat) : Int))), (17, .un), (27, .un)]) (fun j : Nat => r.length - j) (fun j : Nat => j ≤ r.length) (0) ?_ (Nat.zero_le _) ?_
  focus (simp (maxSteps := 2000000) only [go_sem, zAe, zAj, zAt, zAc]; all_goals (repeat' (first | exact trivial | exact zAg (by omega) | exact zAf rfl | exact zAr rfl | exact zAk | exact le_refl _ | refine And.intro ?_ ?_)))
  intro j hj
  try simp (maxSteps := 2000000) only [go_sem, hlen]
  repeat with_reducible refine zAd ?_
  refine zAa (by rfl) trivial (fun g1 => ?_) (fun g1 => ?_)
  ·have hlt : j < r.length := by simp only [decide_eq_true_eq] at g1; omega
   have hget : (wsV (x :: r)).getD (j + 1) [] = wV (r.getD j (0, 0, 0)) := yEw (x :: r) (j + 1) (by simpa using hlt)
   have htk : r.take (j + 1) = r.take j ++ [r.getD j (0, 0, 0)] := zTk r j _ hlt
   obtain ⟨y, hy⟩ : ∃ y, y = r.getD j (0, 0, 0) := ⟨_, rfl⟩
   obtain ⟨m, hm⟩ : ∃ m, m = zBk x (r.take j) := ⟨_, rfl⟩
   have hbs : zBk x (r.take (j + 1)) = if hvy y m then y else m := by rw [htk, zGJ, ← hm, ← hy]
   rw [← hy] at hget
   rw [← hm]
   unfold wV at hget
   have hc := zQC y m
   unfold wV at hc
   try simp (maxSteps := 2000000) only [go_sem, hget, hlen]
   repeat with_reducible refine zAd ?_
   refine zZ7 (by rfl) trivial (by repeat' constructor) (hc) ?_
   try simp (maxSteps := 2000000) only [go_sem]
   repeat with_reducible refine zAd ?_
   have hgt : decide (yEx y m > 0) = hvy y m := yCs y m
   refine zAa (by rfl) trivial (fun g2 => ?_) (fun g2 => ?_)
   ·rw [show decide (0 < yEx y m) = hvy y m from hgt] at g2
    rw [g2, if_pos rfl] at hbs
    try simp (maxSteps := 2000000) only [go_sem, hget, hlen]
    repeat with_reducible refine zAd ?_
    refine ⟨j + 1, by omega, by omega, ?_⟩
    simp (maxSteps := 2000000) only [go_sem, zAe, zAj, zAt, zAc]
    all_goals (repeat' (first | exact trivial | exact zAg (by omega) | exact zAf rfl | exact zAr rfl | exact zAk | exact le_refl _ | refine And.intro ?_ ?_))
    all_goals first | exact zAc | exact zAg (by omega) | exact zAr (by rw [hbs]) | rfl
   ·rw [show decide (0 < yEx y m) = hvy y m from hgt] at g2
    rw [g2, if_neg (by simp)] at hbs
    try simp (maxSteps := 2000000) only [go_sem]
    repeat with_reducible refine zAd ?_
    refine ⟨j + 1, by omega, by omega, ?_⟩
    simp (maxSteps := 2000000) only [go_sem, zAe, zAj, zAt, zAc]
    all_goals (repeat' (first | exact trivial | exact zAg (by omega) | exact zAf rfl | exact zAr rfl | exact zAk | exact le_refl _ | refine And.intro ?_ ?_))
    all_goals first | exact zAc | exact zAg (by omega) | exact zAr (by rw [hbs]) | rfl
  ·have hje : j = r.length := by simp only [decide_eq_false_iff_not] at g1; omega
   subst hje
   try simp (maxSteps := 2000000) only [go_sem, List.take_length]
   repeat with_reducible refine zAd ?_
   exact zGe rfl rfl rfl
end Go.Hx
end
