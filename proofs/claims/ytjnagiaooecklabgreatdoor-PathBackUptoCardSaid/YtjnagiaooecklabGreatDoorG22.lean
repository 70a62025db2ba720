/-
  Walks of functions of the program over an abstract layer, and the laws that they use: each contract says what the function computes, for every input that its conditions let by. No other condition.
-/
import Derived.Test.YtjnagiaooecklabGreatDoorG14
import Derived.Test.YtjnagiaooecklabGreatDoorG20
import Derived.Test.YtjnagiaooecklabGreatDoorG12
import Derived.Test.YtjnagiaooecklabGreatDoorG17
import Derived.Test.YtjnagiaooecklabGreatDoorG11
import Derived.Test.YtjnagiaooecklabGreatDoorG8
import Derived.Test.YtjnagiaooecklabGreatDoorG10
import Derived.Test.YtjnagiaooecklabGreatDoorG21
set_option linter.all false
section
set_option maxRecDepth 100000
set_option linter.unusedSimpArgs false
namespace Go.Hx
open Go.Proofs Go.RowKit
attribute [local instance] zAZ
attribute [local go_sem] zAw zAu zAv zAm ndV zAq zAl List.length_drop
attribute [local go_sem] reduceCtorEq Nat.reduceAdd Nat.reduceEqDiff reduceIte Nat.reduceLeDiff Nat.reduceLT Nat.reduceSub
def zNA (l : List Bys) : Nat := (l.map List.length).sum
def zFt (l : List Bys) : Bys := (l.map fun x => [44, 32] ++ x).flatten
def zR0 : List Bys → Bys
 | [] => []
 | x :: r => x ++ zFt r
theorem zLa {α : Type} (l : List α) (i : Nat) (d : α) (h : i < l.length) : l.take (i + 1) = l.take i ++ [l.getD i d] := by
 rw [List.take_add_one, List.getElem?_eq_getElem h]
 simp [List.getD_eq_getElem?_getD, h]
theorem zUO (a b : List Bys) : zNA (a ++ b) = zNA a + zNA b := by simp [zNA]
theorem zXc (a b : List Bys) : zFt (a ++ b) = zFt a ++ zFt b := by simp [zFt]
theorem zXd (l : List Bys) (i : Nat) (h : i < l.length) : zNA (l.take (i + 1)) = zNA (l.take i) + (l.getD i []).length := by
 rw [zLa l i [] h, zUO]; simp [zNA]
theorem zTU (l : List Bys) (i : Nat) : zNA (l.take i) ≤ zNA l := by
 conv => rhs; rw [← List.take_append_drop i l]
 rw [zUO]; omega
theorem zVQ (l : List Bys) (i : Nat) (h : i < l.length) : zFt (l.take (i + 1)) = zFt (l.take i) ++ [44, 32] ++ l.getD i [] := by
 rw [zLa l i [] h, zXc]; simp [zFt]
theorem zR1 (l : List Bys) (n : Nat) : (zSY l).drop n = zSY (l.drop n) := by simp [zSY]
theorem zXe (l : List Bys) : (zSY l).take l.length = zSY l := List.take_of_length_le (by rw [zAu]; omega)
theorem zMx (l : List Bys) : (zFt l).length = 2 * l.length + zNA l := by
 induction l with
 | nil => rfl
 | cons x r ih =>
  unfold zFt zNA at *
  simp only [List.map_cons, List.flatten_cons, List.length_append, List.length_cons, List.length_nil, List.sum_cons, ih]
  omega
theorem zUP (l : List Bys) (i : Nat) : (zFt (l.take i)).length ≤ 2 * l.length + zNA l := by
 rw [zMx]
 have := zTU l i
 have : (l.take i).length ≤ l.length := by simp; omega
 omega
set_option maxHeartbeats 16000000 in
theorem zNB (l : List Bys) (h1 : 1 ≤ l.length) (h2 : l.length ≤ 5) (h3 : zNA l ≤ 1073741824) : Contract Tryz.prog zD6 [.val (.one (.sl 1 (zSY l))), .val (sv [44, 32])] { res := .val (sv (zR0 l)) } := by
 have hm0 : maxLen = 9223372036854775807 := rfl
 refine zMg (base := 0) ⟨Nat.le_of_ble_eq_true rfl, Nat.le_of_ble_eq_true rfl, Nat.le_of_ble_eq_true rfl, rfl⟩ (fun hfit => ?_)
 unfold F0 zDq
 simp (maxSteps := 2000000) only [zAS, List.set_cons_succ, List.set_cons_zero, List.map_cons, List.map_nil, zAQ, zAb, ioOf, List.length_cons, List.length_nil, Nat.reduceAdd, Nat.reduceSub, List.replicate, List.cons_append, List.nil_append]
 try simp (maxSteps := 2000000) only [go_sem]
 repeat with_reducible refine zAc ?_
 refine zAa (by rfl) trivial (fun g1 => ?_) (fun g1 => ?_)
 ·rw [beq_iff_eq] at g1
  omega
 try simp (maxSteps := 2000000) only [go_sem]
 repeat with_reducible refine zAc ?_
 refine zAa (by rfl) trivial (fun g2 => ?_) (fun g2 => ?_)
 ·obtain ⟨x, rfl⟩ : ∃ x, l = [x] := by
   have : l.length = 1 := by rw [beq_iff_eq] at g2; omega
   exact List.length_eq_one_iff.1 this
  have e : zR0 [x] = x := by simp [zR0, zFt]
  rw [e]
  try simp (maxSteps := 2000000) only [go_sem, zSY, List.map_cons, List.map_nil, List.getD_cons_zero, List.length_cons, List.length_nil]
  repeat with_reducible refine zAc ?_
  exact zAt rfl trivial (.inl rfl)
 ·have hl : 2 ≤ l.length := by rw [beq_eq_false_iff_ne] at g2; omega
  have e0 : l.getD 0 [] :: l.drop 1 = l := by
   cases l with
   | nil => simp at hl
   | cons x r => rfl
  have hsum : zNA l = (l.getD 0 []).length + zNA (l.drop 1) := by
   conv => lhs; rw [← e0]
   rfl
  have hjoin : zR0 l = l.getD 0 [] ++ zFt (l.drop 1) := by
   conv => lhs; rw [← e0]
   rfl
  have hdl : (l.drop 1).length + 1 = l.length := by simp; omega
  try simp (maxSteps := 2000000) only [go_sem]
  repeat with_reducible refine zAc ?_
  refine zAa (by rfl) trivial (fun g3 => ?_) (fun g3 => ?_)
  ·have hq : decide (((2 : Nat) : Int) ≥ (9223372036854775807 : Int).tdiv (((l.length : Nat) : Int) - 1)) = false := by
    rcases (by omega : l.length = 2 ∨ l.length = 3 ∨ l.length = 4 ∨ l.length = 5) with h | h | h | h <;> rw [h] <;> decide
   have hnz : ((l.length : Nat) : Int) - 1 ≠ 0 := by omega
   have hqr : inR .i64 ((9223372036854775807 : Int).tdiv (((l.length : Nat) : Int) - 1)) := by
    rcases (by omega : l.length = 2 ∨ l.length = 3 ∨ l.length = 4 ∨ l.length = 5) with h | h | h | h <;> rw [h] <;> exact zG1 (by decide) (by decide)
   try simp (maxSteps := 2000000) only [go_sem, hq]
   repeat with_reducible refine zAc ?_
   refine zAa (by rfl) trivial (fun g4 => ?_) (fun g4 => ?_)
   ·cases g4
   ·try simp (maxSteps := 2000000) only [go_sem]
    repeat with_reducible refine zAc ?_
    refine zAz (fun i : Nat => [(5, .pv (iv ((2 * (l.length - 1) + zNA (l.take i) : Nat) : Int))), (41, .pv (iv i)), (7, .un), (42, .un), (49, .un)]) (fun i : Nat => l.length - i) (fun i : Nat => i ≤ l.length) (0) ?_ (Nat.zero_le _) ?_
    focus (simp (maxSteps := 2000000) only [go_sem, zAg, zAo, zAB, zAd]; all_goals (repeat' (first | exact trivial | exact zAj (by omega) | exact zAi rfl | exact zAx rfl | exact zAp | exact le_refl _ | refine And.intro ?_ ?_)))
    ·exact zAj (by simp [zNA]; omega)
    intro i hi
    have hsl := zTU l i
    try simp (maxSteps := 2000000) only [go_sem]
    repeat with_reducible refine zAc ?_
    refine zAa (by rfl) trivial (fun g5 => ?_) (fun g5 => ?_)
    ·have hlt : i < l.length := by simp at g5; omega
     have hst := zXd l i hlt
     have hsl2 := zTU l (i + 1)
     have hbig : decide ((((l.getD i []).length : Nat) : Int) > 9223372036854775807 - ((2 * (l.length - 1) + zNA (l.take i) : Nat) : Int)) = false := by
      rw [decide_eq_false_iff_not]; omega
     try simp (maxSteps := 2000000) only [go_sem, zOR _ _ hlt]
     repeat with_reducible refine zAc ?_
     refine zAa (by rfl) trivial (fun g6 => ?_) (fun g6 => ?_)
     ·exfalso
      simp only [decide_eq_true_eq] at g6
      omega
     ·try simp (maxSteps := 2000000) only [go_sem]
      repeat with_reducible refine zAc ?_
      refine ⟨i + 1, by omega, by omega, ?_⟩
      simp (maxSteps := 2000000) only [go_sem, zAg, zAo, zAB, zAd]
      all_goals (repeat' (first | exact trivial | exact zAj (by omega) | exact zAi rfl | exact zAx rfl | exact zAp | exact le_refl _ | refine And.intro ?_ ?_))
      all_goals first | exact zAd | exact zAj (by omega) | rfl
    ·have hei : i = l.length := by simp at g5; omega
     subst hei
     try simp (maxSteps := 2000000) only [go_sem, List.take_length]
     repeat with_reducible refine zAc ?_
     intro b
     try simp (maxSteps := 2000000) only [go_sem, List.take_length]
     repeat with_reducible refine zAc ?_
     have ht1 : Int.toNat 1 = 1 := rfl
     have hc0 : (zSY l).getD (Int.toNat 0) [] = [bS (l.getD 0 [])] := zOR l 0 (by omega)
     refine zLH (by rfl) (by decide) (by repeat' constructor) (yCo b _ (by omega)) ?_
     try simp (maxSteps := 2000000) only [go_sem, hc0]
     repeat with_reducible refine zAc ?_
     refine zLH (by rfl) (by decide) (by repeat' constructor) (zFp b _ _ (by simp only [List.length_nil]; omega)) ?_
     try simp (maxSteps := 2000000) only [go_sem, zXe, ht1, zR1, hc0]
     repeat with_reducible refine zAc ?_
     try simp (maxSteps := 2000000) only [go_sem, zXe, ht1, zR1]
     repeat with_reducible refine zAc ?_
     refine zAz (fun j : Nat => [(8, .ov (.one (.bl zAT zFk b (l.getD 0 [] ++ zFt ((l.drop 1).take j))))), (65, .pv (iv j)), (10, .un), (66, .un)]) (fun j : Nat => (l.drop 1).length - j) (fun j : Nat => j ≤ (l.drop 1).length) (0) ?_ (Nat.zero_le _) ?_
     focus (simp (maxSteps := 2000000) only [go_sem, zAg, zAo, zAB, zAd]; all_goals (repeat' (first | exact trivial | exact zAj (by omega) | exact zAi rfl | exact zAx rfl | exact zAp | exact le_refl _ | refine And.intro ?_ ?_)))
     ·exact zAx (by simp [zFt])
     intro j hj
     have hjl := zUP (l.drop 1) j
     try simp (maxSteps := 2000000) only [go_sem]
     repeat with_reducible refine zAc ?_
     refine zAa (by rfl) trivial (fun g7 => ?_) (fun g7 => ?_)
     ·have hlt : j < (l.drop 1).length := by simp only [decide_eq_true_eq, zAu] at g7; omega
      have hjl2 := zUP (l.drop 1) (j + 1)
      have hjt := zVQ (l.drop 1) j hlt
      have hjl3 := congrArg List.length hjt
      simp only [List.length_append, List.length_cons, List.length_nil] at hjl3
      try simp (maxSteps := 2000000) only [go_sem, zOR _ _ hlt]
      repeat with_reducible refine zAc ?_
      refine zLH (by rfl) (by decide) (by repeat' constructor) (zFp b _ _ (by simp only [List.length_append, List.length_cons, List.length_nil]; omega)) ?_
      try simp (maxSteps := 2000000) only [go_sem]
      repeat with_reducible refine zAc ?_
      refine zLH (by rfl) (by decide) (by repeat' constructor) (zFp b _ _ (by simp only [List.length_append, List.length_cons, List.length_nil]; omega)) ?_
      try simp (maxSteps := 2000000) only [go_sem]
      repeat with_reducible refine zAc ?_
      refine ⟨j + 1, by omega, by omega, ?_⟩
      simp (maxSteps := 2000000) only [go_sem, zAg, zAo, zAB, zAd]
      all_goals (repeat' (first | exact trivial | exact zAj (by omega) | exact zAi rfl | exact zAx rfl | exact zAp | exact le_refl _ | refine And.intro ?_ ?_))
      all_goals first | exact zAd | exact zAj (by omega) | exact zAx (by rw [hjt]; simp only [List.append_assoc]) | rfl
     ·have hej : j = (l.drop 1).length := by simp only [decide_eq_false_iff_not, zAu] at g7; omega
      subst hej
      have hne : l.getD 0 [] ++ zFt (l.drop 1) ≠ [] := by
       intro e
       have := congrArg List.length e
       simp only [List.length_append, zMx, List.length_nil] at this
       omega
      rw [hjoin]
      have htd : (l.drop 1).take (l.length - 1) = l.drop 1 := List.take_of_length_le (by simp)
      have hjl := zMx (l.drop 1)
      try simp (maxSteps := 2000000) only [go_sem, htd]
      repeat with_reducible refine zAc ?_
      refine zLH (by rfl) (by decide) (by repeat' constructor) (zYj b _ hne (by rw [List.length_append]; omega)) ?_
      try simp (maxSteps := 2000000) only [go_sem]
      repeat with_reducible refine zAc ?_
      exact zAt rfl trivial (.inl rfl)
  ·cases g3
end Go.Hx
end

section
set_option maxRecDepth 100000
set_option linter.unusedSimpArgs false
namespace Go.Hx
open Go.Proofs Go.RowKit
attribute [local instance] zAZ
attribute [local go_sem] zAw zAu zAv zAm ndV zAq zAl
attribute [local go_sem] reduceCtorEq Nat.reduceAdd Nat.reduceEqDiff reduceIte Nat.reduceLeDiff Nat.reduceLT Nat.reduceSub
def zOf (a : Bys) : Bys := if a = [] then [42] else a
set_option maxHeartbeats 4000000 in
theorem zUQ (a : Bys) : Contract Tryz.prog zDE [.val (.one (.sl 1 [[bS a], [bS [42]]]))] { res := .val (sv (zOf a)) } := by
 refine zJ2 (base := 0) ⟨Nat.le_of_ble_eq_true rfl, Nat.le_of_ble_eq_true rfl, Nat.le_of_ble_eq_true rfl, rfl⟩ (fun hfit => ?_)
 unfold F0 zC0
 simp (maxSteps := 2000000) only [zAS, List.set_cons_succ, List.set_cons_zero, List.map_cons, List.map_nil, zAQ, zAb, ioOf, List.length_cons, List.length_nil, Nat.reduceAdd, Nat.reduceSub, List.replicate, List.cons_append, List.nil_append]
 try simp (maxSteps := 2000000) only [go_sem]
 repeat with_reducible refine zAc ?_
 refine zAz (fun i : Nat => [(8, .pv (iv i)), (2, .un), (5, .un), (9, .un), (14, .un)]) (fun i : Nat => 2 - i) (fun i : Nat => i ≤ 2 ∧ (1 ≤ i → a = []) ∧ i ≠ 2) (0) ?_ ⟨Nat.zero_le _, fun h => by omega, by omega⟩ ?_
 focus (simp (maxSteps := 2000000) only [go_sem, zAg, zAo, zAB, zAd]; all_goals (repeat' (first | exact trivial | exact zAj (by omega) | exact zAi rfl | exact zAx rfl | exact zAp | exact le_refl _ | refine And.intro ?_ ?_)))
 rintro i ⟨hi, ha, h2⟩
 rcases (by omega : i = 0 ∨ i = 1) with rfl | rfl
 ·try simp (maxSteps := 2000000) only [go_sem, List.getD_cons_zero, List.length_cons, List.length_nil]
  repeat with_reducible refine zAc ?_
  refine zAa (by rfl) trivial (fun g1 => ?_) (fun g1 => ?_)
  ·try simp (maxSteps := 2000000) only [go_sem, List.getD_cons_zero, List.length_cons, List.length_nil]
   repeat with_reducible refine zAc ?_
   refine zAa (by rfl) trivial (fun g2 => ?_) (fun g2 => ?_)
   ·have hne : a ≠ [] := by simpa using g2
    have e : zOf a = a := by unfold zOf; rw [if_neg hne]
    rw [e]
    try simp (maxSteps := 2000000) only [go_sem]
    repeat with_reducible refine zAc ?_
    exact zAt rfl trivial (.inl rfl)
   ·have hne : a = [] := by simpa using g2
    try simp (maxSteps := 2000000) only [go_sem]
    repeat with_reducible refine zAc ?_
    refine ⟨1, by omega, ⟨by omega, fun _ => hne, by omega⟩, ?_⟩
    simp (maxSteps := 2000000) only [go_sem, zAg, zAo, zAB, zAd]
    all_goals (repeat' (first | exact trivial | exact zAj (by omega) | exact zAi rfl | exact zAx rfl | exact zAp | exact le_refl _ | refine And.intro ?_ ?_))
  ·simp at g1
 ·have hne := ha (by omega)
  subst hne
  try simp (maxSteps := 2000000) only [go_sem, List.getD_cons_zero, List.getD_cons_succ, List.length_cons, List.length_nil]
  repeat with_reducible refine zAc ?_
  refine zAa (by rfl) trivial (fun g1 => ?_) (fun g1 => ?_)
  ·try simp (maxSteps := 2000000) only [go_sem, List.getD_cons_zero, List.getD_cons_succ, List.length_cons, List.length_nil]
   repeat with_reducible refine zAc ?_
   refine zAa (by rfl) trivial (fun g2 => ?_) (fun g2 => ?_)
   ·try simp (maxSteps := 2000000) only [go_sem]
    repeat with_reducible refine zAc ?_
    exact zAt rfl trivial (.inl rfl)
   ·simp at g2
  ·simp at g1
set_option maxHeartbeats 16000000 in
theorem zTV (d : Nat) (hd : 1 ≤ d) (hL : ∀ l : List Pt, GL l (d + 1) → Contract Tryz.prog zB1 [.val (zCp l)] { res := .val (sv (zPT l)) }) (t : Ts) (ht : GT t d) : Contract Tryz.prog zEs [.val (.agg (tsV t))] { res := .val (sv (zRV t)) } := by
 have hm0 : maxLen = 9223372036854775807 := rfl
 obtain ⟨k, n, v, a, b, l⟩ := t
 obtain ⟨h1, h2, h3, h4, h5, h6⟩ := ht.parts
 have hkk := yCF h1
 have hn : n.length ≤ 12 := by
  split at h2
  ·exact zIE h2
  ·rw [h2]; simp
 have hv : v.length ≤ 16 := by
  split at h3
  ·exact zMv h3
  ·rw [h3]; simp
 have ho := zUM k
 have hsg := zUN k
 have hnt := zUL h5
 rw [zDG]
 have ets : tsV (.mk k n v a b l) = [bI k, bS n, bS v, bI a, bI b, .sl 2 (zGg l)] := rfl
 rw [ets]
 refine zRv (base := 0) ⟨Nat.le_of_ble_eq_true rfl, Nat.le_of_ble_eq_true rfl, Nat.le_of_ble_eq_true rfl, rfl⟩ (fun hfit => ?_)
 unfold F0 zFm
 simp (maxSteps := 2000000) only [zAS, List.set_cons_succ, List.set_cons_zero, List.map_cons, List.map_nil, zAQ, zAb, ioOf, List.length_cons, List.length_nil, Nat.reduceAdd, Nat.reduceSub, List.replicate, List.cons_append, List.nil_append]
 try simp (maxSteps := 2000000) only [go_sem]
 repeat with_reducible refine zAc ?_
 rcases hkk with hk | hk | hk | hk | hk | hk | hk | hk
 ·rw [if_pos hk]
  refine zAa (by rfl) trivial (fun q0 => ?_) (fun q0 => ?_)
  ·try simp (maxSteps := 2000000) only [go_sem]
   repeat with_reducible refine zAc ?_
   exact zAt rfl trivial (.inl rfl)
  ·exfalso; rw [beq_eq_false_iff_ne] at q0; omega
 ·rw [if_neg (by omega), if_pos hk]
  refine zAa (by rfl) trivial (fun q0 => ?_) (fun q0 => ?_)
  ·exfalso; simp only [beq_iff_eq] at q0; omega
  ·try simp (maxSteps := 2000000) only [go_sem]
   repeat with_reducible refine zAc ?_
   refine zAa (by rfl) trivial (fun q1 => ?_) (fun q1 => ?_)
   ·try simp (maxSteps := 2000000) only [go_sem]
    repeat with_reducible refine zAc ?_
    exact zAt rfl trivial (.inl rfl)
   ·exfalso; rw [beq_eq_false_iff_ne] at q1; omega
 ·rw [if_neg (by omega), if_neg (by omega), if_pos hk]
  refine zAa (by rfl) trivial (fun q0 => ?_) (fun q0 => ?_)
  ·exfalso; simp only [beq_iff_eq] at q0; omega
  ·try simp (maxSteps := 2000000) only [go_sem]
   repeat with_reducible refine zAc ?_
   refine zAa (by rfl) trivial (fun q1 => ?_) (fun q1 => ?_)
   ·exfalso; simp only [beq_iff_eq] at q1; omega
   ·try simp (maxSteps := 2000000) only [go_sem]
    repeat with_reducible refine zAc ?_
    refine zAa (by rfl) trivial (fun q2 => ?_) (fun q2 => ?_)
    ·try simp (maxSteps := 2000000) only [go_sem]
     repeat with_reducible refine zAc ?_
     exact zAt rfl trivial (.inl rfl)
    ·exfalso; rw [beq_eq_false_iff_ne] at q2; omega
 ·rw [if_neg (by omega), if_neg (by omega), if_neg (by omega), if_pos hk]
  refine zAa (by rfl) trivial (fun q0 => ?_) (fun q0 => ?_)
  ·exfalso; simp only [beq_iff_eq] at q0; omega
  ·try simp (maxSteps := 2000000) only [go_sem]
   repeat with_reducible refine zAc ?_
   refine zAa (by rfl) trivial (fun q1 => ?_) (fun q1 => ?_)
   ·exfalso; simp only [beq_iff_eq] at q1; omega
   ·try simp (maxSteps := 2000000) only [go_sem]
    repeat with_reducible refine zAc ?_
    refine zAa (by rfl) trivial (fun q2 => ?_) (fun q2 => ?_)
    ·exfalso; simp only [beq_iff_eq] at q2; omega
    ·try simp (maxSteps := 2000000) only [go_sem]
     repeat with_reducible refine zAc ?_
     refine zAa (by rfl) trivial (fun q3 => ?_) (fun q3 => ?_)
     ·exfalso; simp only [beq_iff_eq] at q3; omega
     ·try simp (maxSteps := 2000000) only [go_sem]
      repeat with_reducible refine zAc ?_
      refine zAa (by rfl) trivial (fun q4 => ?_) (fun q4 => ?_)
      ·exfalso; simp only [beq_iff_eq] at q4; omega
      ·try simp (maxSteps := 2000000) only [go_sem]
       repeat with_reducible refine zAc ?_
       refine zAa (by rfl) trivial (fun q5 => ?_) (fun q5 => ?_)
       ·exfalso; simp only [beq_iff_eq] at q5; omega
       ·try simp (maxSteps := 2000000) only [go_sem]
        repeat with_reducible refine zAc ?_
        refine zAa (by rfl) trivial (fun q6 => ?_) (fun q6 => ?_)
        ·exfalso; simp only [beq_iff_eq] at q6; omega
        ·try simp (maxSteps := 2000000) only [go_sem]
         repeat with_reducible refine zAc ?_
         refine zAa (by rfl) trivial (fun q7 => ?_) (fun q7 => ?_)
         ·exfalso; simp only [beq_iff_eq] at q7; omega
         ·try simp (maxSteps := 2000000) only [go_sem]
          repeat with_reducible refine zAc ?_
          refine zAa (by rfl) trivial (fun q8 => ?_) (fun q8 => ?_)
          ·exfalso; simp only [beq_iff_eq] at q8; omega
          ·try simp (maxSteps := 2000000) only [go_sem]
           repeat with_reducible refine zAc ?_
           refine zAa (by rfl) trivial (fun q9 => ?_) (fun q9 => ?_)
           ·exfalso; simp only [beq_iff_eq] at q9; omega
           ·try simp (maxSteps := 2000000) only [go_sem]
            repeat with_reducible refine zAc ?_
            try simp (maxSteps := 2000000) only [go_sem]
            repeat with_reducible refine zAc ?_
            refine zAf (by repeat' constructor) (zXb k hk) ?_
            try simp (maxSteps := 2000000) only [go_sem]
            repeat with_reducible refine zAc ?_
            refine zAt rfl trivial (.inl ?_)
            simp only [List.cons_append, List.append_assoc, List.nil_append]
 ·rw [if_neg (by omega), if_neg (by omega), if_neg (by omega), if_neg (by omega), if_pos hk]
  have hko : k = 9 ∨ k = 10 ∨ k = 13 ∨ k = 14 ∨ k = 15 := by omega
  have hns := zOb a b
  rw [if_pos h5, h5] at hns
  rcases hk with hk | hk
  ·refine zAa (by rfl) trivial (fun q0 => ?_) (fun q0 => ?_)
   ·exfalso; simp only [beq_iff_eq] at q0; omega
   ·try simp (maxSteps := 2000000) only [go_sem]
    repeat with_reducible refine zAc ?_
    refine zAa (by rfl) trivial (fun q1 => ?_) (fun q1 => ?_)
    ·exfalso; simp only [beq_iff_eq] at q1; omega
    ·try simp (maxSteps := 2000000) only [go_sem]
     repeat with_reducible refine zAc ?_
     refine zAa (by rfl) trivial (fun q2 => ?_) (fun q2 => ?_)
     ·exfalso; simp only [beq_iff_eq] at q2; omega
     ·try simp (maxSteps := 2000000) only [go_sem]
      repeat with_reducible refine zAc ?_
      refine zAa (by rfl) trivial (fun q3 => ?_) (fun q3 => ?_)
      ·try simp (maxSteps := 2000000) only [go_sem]
       repeat with_reducible refine zAc ?_
       refine zAa (by rfl) trivial (fun q3b => ?_) (fun q3b => ?_)
       ·try simp (maxSteps := 2000000) only [go_sem]
        repeat with_reducible refine zAc ?_
        refine zAF (by repeat' constructor) (hns) ?_
        try simp (maxSteps := 2000000) only [go_sem]
        repeat with_reducible refine zAc ?_
        refine zAf (by repeat' constructor) (zFU k hko) ?_
        try simp (maxSteps := 2000000) only [go_sem]
        repeat with_reducible refine zAc ?_
        exact zAt rfl trivial (.inl (by simp only [List.append_assoc]))
       ·exfalso; rw [beq_eq_false_iff_ne] at q3b; omega
      ·exfalso; rw [beq_eq_false_iff_ne] at q3; omega
  ·refine zAa (by rfl) trivial (fun q0 => ?_) (fun q0 => ?_)
   ·exfalso; simp only [beq_iff_eq] at q0; omega
   ·try simp (maxSteps := 2000000) only [go_sem]
    repeat with_reducible refine zAc ?_
    refine zAa (by rfl) trivial (fun q1 => ?_) (fun q1 => ?_)
    ·exfalso; simp only [beq_iff_eq] at q1; omega
    ·try simp (maxSteps := 2000000) only [go_sem]
     repeat with_reducible refine zAc ?_
     refine zAa (by rfl) trivial (fun q2 => ?_) (fun q2 => ?_)
     ·exfalso; simp only [beq_iff_eq] at q2; omega
     ·try simp (maxSteps := 2000000) only [go_sem]
      repeat with_reducible refine zAc ?_
      refine zAa (by rfl) trivial (fun q3 => ?_) (fun q3 => ?_)
      ·exfalso; simp only [beq_iff_eq] at q3; omega
      ·try simp (maxSteps := 2000000) only [go_sem]
       repeat with_reducible refine zAc ?_
       refine zAa (by rfl) trivial (fun q4 => ?_) (fun q4 => ?_)
       ·try simp (maxSteps := 2000000) only [go_sem]
        repeat with_reducible refine zAc ?_
        refine zAF (by repeat' constructor) (hns) ?_
        try simp (maxSteps := 2000000) only [go_sem]
        repeat with_reducible refine zAc ?_
        refine zAf (by repeat' constructor) (zFU k hko) ?_
        try simp (maxSteps := 2000000) only [go_sem]
        repeat with_reducible refine zAc ?_
        exact zAt rfl trivial (.inl (by simp only [List.append_assoc]))
       ·exfalso; rw [beq_eq_false_iff_ne] at q4; omega
 ·rw [if_neg (by omega), if_neg (by omega), if_neg (by omega), if_neg (by omega), if_neg (by omega), if_pos hk]
  refine zAa (by rfl) trivial (fun q0 => ?_) (fun q0 => ?_)
  ·exfalso; simp only [beq_iff_eq] at q0; omega
  ·try simp (maxSteps := 2000000) only [go_sem]
   repeat with_reducible refine zAc ?_
   refine zAa (by rfl) trivial (fun q1 => ?_) (fun q1 => ?_)
   ·exfalso; simp only [beq_iff_eq] at q1; omega
   ·try simp (maxSteps := 2000000) only [go_sem]
    repeat with_reducible refine zAc ?_
    refine zAa (by rfl) trivial (fun q2 => ?_) (fun q2 => ?_)
    ·exfalso; simp only [beq_iff_eq] at q2; omega
    ·try simp (maxSteps := 2000000) only [go_sem]
     repeat with_reducible refine zAc ?_
     refine zAa (by rfl) trivial (fun q3 => ?_) (fun q3 => ?_)
     ·exfalso; simp only [beq_iff_eq] at q3; omega
     ·try simp (maxSteps := 2000000) only [go_sem]
      repeat with_reducible refine zAc ?_
      refine zAa (by rfl) trivial (fun q4 => ?_) (fun q4 => ?_)
      ·exfalso; simp only [beq_iff_eq] at q4; omega
      ·try simp (maxSteps := 2000000) only [go_sem]
       repeat with_reducible refine zAc ?_
       refine zAa (by rfl) trivial (fun q5 => ?_) (fun q5 => ?_)
       ·try simp (maxSteps := 2000000) only [go_sem]
        repeat with_reducible refine zAc ?_
        exact zAt rfl trivial (.inl rfl)
       ·exfalso; rw [beq_eq_false_iff_ne] at q5; omega
 ·rw [if_neg (by omega), if_neg (by omega), if_neg (by omega), if_neg (by omega), if_neg (by omega), if_neg (by omega), if_pos hk]
  refine zAa (by rfl) trivial (fun q0 => ?_) (fun q0 => ?_)
  ·exfalso; simp only [beq_iff_eq] at q0; omega
  ·try simp (maxSteps := 2000000) only [go_sem]
   repeat with_reducible refine zAc ?_
   refine zAa (by rfl) trivial (fun q1 => ?_) (fun q1 => ?_)
   ·exfalso; simp only [beq_iff_eq] at q1; omega
   ·try simp (maxSteps := 2000000) only [go_sem]
    repeat with_reducible refine zAc ?_
    refine zAa (by rfl) trivial (fun q2 => ?_) (fun q2 => ?_)
    ·exfalso; simp only [beq_iff_eq] at q2; omega
    ·try simp (maxSteps := 2000000) only [go_sem]
     repeat with_reducible refine zAc ?_
     refine zAa (by rfl) trivial (fun q3 => ?_) (fun q3 => ?_)
     ·exfalso; simp only [beq_iff_eq] at q3; omega
     ·try simp (maxSteps := 2000000) only [go_sem]
      repeat with_reducible refine zAc ?_
      refine zAa (by rfl) trivial (fun q4 => ?_) (fun q4 => ?_)
      ·exfalso; simp only [beq_iff_eq] at q4; omega
      ·try simp (maxSteps := 2000000) only [go_sem]
       repeat with_reducible refine zAc ?_
       refine zAa (by rfl) trivial (fun q5 => ?_) (fun q5 => ?_)
       ·exfalso; simp only [beq_iff_eq] at q5; omega
       ·try simp (maxSteps := 2000000) only [go_sem]
        repeat with_reducible refine zAc ?_
        refine zAa (by rfl) trivial (fun q6 => ?_) (fun q6 => ?_)
        ·try simp (maxSteps := 2000000) only [go_sem]
         repeat with_reducible refine zAc ?_
         exact zAt rfl trivial (.inl rfl)
        ·exfalso; rw [beq_eq_false_iff_ne] at q6; omega
 ·have hko : k = 9 ∨ k = 10 ∨ k = 13 ∨ k = 14 ∨ k = 15 := by omega
  rw [if_pos (by omega)] at h6
  have hl := hL l h6
  have hlen := yCQ (d := d + 1) (by omega) h6
  have hll : (zBz l true).length = (zPT l).length := rfl
  rw [if_neg (by omega), if_neg (by omega), if_neg (by omega), if_neg (by omega), if_neg (by omega), if_neg (by omega), if_neg (by omega)]
  refine zAa (by rfl) trivial (fun q0 => ?_) (fun q0 => ?_)
  ·exfalso; simp only [beq_iff_eq] at q0; omega
  ·try simp (maxSteps := 2000000) only [go_sem]
   repeat with_reducible refine zAc ?_
   refine zAa (by rfl) trivial (fun q1 => ?_) (fun q1 => ?_)
   ·exfalso; simp only [beq_iff_eq] at q1; omega
   ·try simp (maxSteps := 2000000) only [go_sem]
    repeat with_reducible refine zAc ?_
    refine zAa (by rfl) trivial (fun q2 => ?_) (fun q2 => ?_)
    ·exfalso; simp only [beq_iff_eq] at q2; omega
    ·try simp (maxSteps := 2000000) only [go_sem]
     repeat with_reducible refine zAc ?_
     refine zAa (by rfl) trivial (fun q3 => ?_) (fun q3 => ?_)
     ·exfalso; simp only [beq_iff_eq] at q3; omega
     ·try simp (maxSteps := 2000000) only [go_sem]
      repeat with_reducible refine zAc ?_
      refine zAa (by rfl) trivial (fun q4 => ?_) (fun q4 => ?_)
      ·exfalso; simp only [beq_iff_eq] at q4; omega
      ·try simp (maxSteps := 2000000) only [go_sem]
       repeat with_reducible refine zAc ?_
       refine zAa (by rfl) trivial (fun q5 => ?_) (fun q5 => ?_)
       ·exfalso; simp only [beq_iff_eq] at q5; omega
       ·try simp (maxSteps := 2000000) only [go_sem]
        repeat with_reducible refine zAc ?_
        refine zAa (by rfl) trivial (fun q6 => ?_) (fun q6 => ?_)
        ·exfalso; simp only [beq_iff_eq] at q6; omega
        ·try simp (maxSteps := 2000000) only [go_sem]
         repeat with_reducible refine zAc ?_
         rcases hk with hk | hk | hk
         ·refine zAa (by rfl) trivial (fun q7 => ?_) (fun q7 => ?_)
          ·try simp (maxSteps := 2000000) only [go_sem]
           repeat with_reducible refine zAc ?_
           refine zAa (by rfl) trivial (fun q7b => ?_) (fun q7b => ?_)
           ·try simp (maxSteps := 2000000) only [go_sem]
            repeat with_reducible refine zAc ?_
            refine zAf (by repeat' constructor) (zFU k hko) ?_
            try simp (maxSteps := 2000000) only [go_sem]
            repeat with_reducible refine zAc ?_
            refine zAf (by repeat' constructor) (hl) ?_
            try simp (maxSteps := 2000000) only [go_sem]
            repeat with_reducible refine zAc ?_
            exact zAt rfl trivial (.inl (by simp only [List.append_assoc]))
           ·exfalso; rw [beq_eq_false_iff_ne] at q7b; omega
          ·exfalso; rw [beq_eq_false_iff_ne] at q7; omega
         ·refine zAa (by rfl) trivial (fun q7 => ?_) (fun q7 => ?_)
          ·exfalso; simp only [beq_iff_eq] at q7; omega
          ·try simp (maxSteps := 2000000) only [go_sem]
           repeat with_reducible refine zAc ?_
           refine zAa (by rfl) trivial (fun q8 => ?_) (fun q8 => ?_)
           ·try simp (maxSteps := 2000000) only [go_sem]
            repeat with_reducible refine zAc ?_
            refine zAa (by rfl) trivial (fun q8b => ?_) (fun q8b => ?_)
            ·try simp (maxSteps := 2000000) only [go_sem]
             repeat with_reducible refine zAc ?_
             refine zAf (by repeat' constructor) (zFU k hko) ?_
             try simp (maxSteps := 2000000) only [go_sem]
             repeat with_reducible refine zAc ?_
             refine zAf (by repeat' constructor) (hl) ?_
             try simp (maxSteps := 2000000) only [go_sem]
             repeat with_reducible refine zAc ?_
             exact zAt rfl trivial (.inl (by simp only [List.append_assoc]))
            ·exfalso; rw [beq_eq_false_iff_ne] at q8b; omega
           ·exfalso; rw [beq_eq_false_iff_ne] at q8; omega
         ·refine zAa (by rfl) trivial (fun q7 => ?_) (fun q7 => ?_)
          ·exfalso; simp only [beq_iff_eq] at q7; omega
          ·try simp (maxSteps := 2000000) only [go_sem]
           repeat with_reducible refine zAc ?_
           refine zAa (by rfl) trivial (fun q8 => ?_) (fun q8 => ?_)
           ·exfalso; simp only [beq_iff_eq] at q8; omega
           ·try simp (maxSteps := 2000000) only [go_sem]
            repeat with_reducible refine zAc ?_
            refine zAa (by rfl) trivial (fun q9 => ?_) (fun q9 => ?_)
            ·try simp (maxSteps := 2000000) only [go_sem]
             repeat with_reducible refine zAc ?_
             refine zAf (by repeat' constructor) (zFU k hko) ?_
             try simp (maxSteps := 2000000) only [go_sem]
             repeat with_reducible refine zAc ?_
             refine zAf (by repeat' constructor) (hl) ?_
             try simp (maxSteps := 2000000) only [go_sem]
             repeat with_reducible refine zAc ?_
             exact zAt rfl trivial (.inl (by simp only [List.append_assoc]))
            ·exfalso; rw [beq_eq_false_iff_ne] at q9; omega
end Go.Hx
end

section
set_option maxRecDepth 100000
set_option linter.unusedSimpArgs false
namespace Go.Hx
open Go.Proofs Go.RowKit
attribute [local instance] zAZ
attribute [local go_sem] zAw zAu zAv zAm ndV zAq zAl zBY zBu zAU zB5 zCi zC1
attribute [local go_sem] reduceCtorEq Nat.reduceAdd Nat.reduceEqDiff reduceIte Nat.reduceLeDiff Nat.reduceLT Nat.reduceSub
theorem zMy : ∀ (st : List St) (lk : List Int) (j : Nat), j < st.length → zBm (st.take (j + 1)) lk false = zBm (st.take j) lk false ++ (zOd (lk.getD j 0) ++ zM1 (st.getD j default))
 | [], lk, j, h => by simp at h
 | x :: r, lk, 0, h => by cases lk <;> simp [zBm]
 | x :: r, lk, j + 1, h => by
  have ih := zMy r lk.tail j (by simpa using h)
  have : lk.tail.getD j 0 = lk.getD (j + 1) 0 := by cases lk <;> simp
  rw [this] at ih
  simp only [List.take_succ_cons, zBm, ih, List.getD_cons_succ, List.append_assoc]
theorem zVR (st : List St) (lk : List Int) (j : Nat) (h : j < st.length) : zBm (st.take (j + 1)) lk true = zBm (st.take j) lk true ++ ((if j = 0 then [] else zOd (lk.getD (j - 1) 0)) ++ zM1 (st.getD j default)) := by
 match st, j, h with
 | x :: r, 0, h => simp [zBm]
 | x :: r, j + 1, h =>
  have ih := zMy r lk j (by simpa using h)
  simp only [List.take_succ_cons, zBm, ih, List.getD_cons_succ, List.append_assoc]
  rfl
theorem zOg : ∀ (st : List St) (lk : List Int) (j : Nat), (zBm (st.take j) lk false).length ≤ (zBm st lk false).length
 | [], lk, j => by simp
 | x :: r, lk, 0 => by simp [zBm]
 | x :: r, lk, j + 1 => by
  have ih := zOg r lk.tail j
  simp only [List.take_succ_cons, zBm, List.length_append]
  omega
theorem zR4 (st : List St) (lk : List Int) (j : Nat) : (zBm (st.take j) lk true).length ≤ (zBm st lk true).length := by
 match st, j with
 | [], j => simp
 | x :: r, 0 => simp [zBm]
 | x :: r, j + 1 =>
  have ih := zOg r lk j
  simp only [List.take_succ_cons, zBm, List.length_append]
  omega
theorem zR5 (a b : List Ts) : zB6 (a ++ b) = zB6 a ++ zB6 b := by
 induction a with
 | nil => simp [zB6]
 | cons x r ih => simp only [List.cons_append, zB6, ih, List.append_assoc]
theorem zOh (l : List Ts) (m : Nat) (h : m < l.length) : zB6 (l.take (m + 1)) = zB6 (l.take m) ++ zRV (l.getD m default) := by
 rw [zLa l m default h, zR5]; simp [zB6]
theorem zHq (l : List Ts) (m : Nat) : (zB6 (l.take m)).length ≤ (zB6 l).length := by
 conv => rhs; rw [← List.take_append_drop m l]
 rw [zR5, List.length_append]; omega
theorem zVS : ∀ l : List Pt, zBz l true = zR0 (l.map zNz)
 | [] => by simp [zBz, zR0]
 | p :: r => by
  have : ∀ r : List Pt, zBz r false = zFt (r.map zNz) := by
   intro r
   induction r with
   | nil => simp [zBz, zFt]
   | cons q r ih =>
    simp only [zBz, ih, zFt, List.map_cons, List.flatten_cons]
    simp
  simp only [zBz, zR0, List.map_cons, this]
  simp
theorem zXj (p : Pt) : zNz p = zBm p.steps p.links true := by cases p; rw [zNz]; rfl
theorem yAL (x : St) : zM1 x = zOf x.tag ++ zB6 x.tests := by cases x; rw [zM1]; rfl
theorem yAM {n : Int} (h : 1 ≤ n ∧ n ≤ 4) : ([bS [], bS [32], bS [32, 62, 32], bS [32, 43, 32], bS [32, 126, 32]] : List PV).getD n.toNat (.nl 0) = bS (zOd n) := by
 rcases (by omega : n = 1 ∨ n = 2 ∨ n = 3 ∨ n = 4) with rfl | rfl | rfl | rfl <;> rfl
set_option maxHeartbeats 16000000 in
theorem zTW (d : Nat) (hd : 1 ≤ d) (hT : ∀ t : Ts, GT t d → Contract Tryz.prog zEs [.val (.agg (tsV t))] { res := .val (sv (zRV t)) }) (l : List Pt) (hl : GL l d) : Contract Tryz.prog zB1 [.val (zCp l)] { res := .val (sv (zPT l)) } := by
 have hm0 : maxLen = 9223372036854775807 := rfl
 have hl5 := hl.2.2.1
 have hl1 := hl.2.1
 have hlen := yCQ hd hl
 have hLE : zPT l = zR0 (l.map zNz) := zVS l
 unfold zCp
 refine zRG (base := 0) ⟨Nat.le_of_ble_eq_true rfl, Nat.le_of_ble_eq_true rfl, Nat.le_of_ble_eq_true rfl, rfl⟩ (fun hfit => ?_)
 unfold F0 zFn
 simp (maxSteps := 2000000) only [zAS, List.set_cons_succ, List.set_cons_zero, List.map_cons, List.map_nil, zAQ, zAb, ioOf, List.length_cons, List.length_nil, Nat.reduceAdd, Nat.reduceSub, List.replicate, List.cons_append, List.nil_append]
 try simp (maxSteps := 2000000) only [go_sem]
 repeat with_reducible refine zAc ?_
 refine zAz (fun i : Nat => [(3, .own zEN 1 (zSY ((l.take i).map zNz))), (13, .pv (iv i)), (5, .un), (6, .un), (7, .un), (8, .un), (10, .un), (14, .un), (18, .un), (19, .un), (20, .un), (21, .un), (26, .un), (44, .un), (45, .un), (46, .un), (47, .un), (63, .un), (64, .un), (65, .un), (66, .un), (67, .un), (68, .un), (69, .un), (70, .un), (71, .un), (72, .un)]) (fun i : Nat => l.length - i) (fun i : Nat => i ≤ l.length) (0) ?_ (Nat.zero_le _) ?_
 focus (simp (maxSteps := 2000000) only [go_sem, zAg, zAo, zAB, zAd]; all_goals (repeat' (first | exact trivial | exact zAj (by omega) | exact zAi rfl | exact zAx rfl | exact zAp | exact le_refl _ | refine And.intro ?_ ?_)))
 intro i hi
 try simp (maxSteps := 2000000) only [go_sem]
 repeat with_reducible refine zAc ?_
 refine zAa (by rfl) trivial (fun g0 => ?_) (fun g0 => ?_)
 ·have hlt : i < l.length := by simp at g0; omega
  obtain ⟨p, hp⟩ : ∃ p, p = l.getD i default := ⟨_, rfl⟩
  have hG := GPs.get hl.2.2.2 i hlt
  have hpv := zDr l i hlt
  rw [← hp] at hG hpv
  obtain ⟨p1, p2, p3, p4, p5⟩ := hG.parts'
  have hpl := yD0 p d hd hG
  have htb : tB d ≤ 1229192 := by
   unfold tB
   split
   ·omega
   ·split <;> omega
  rw [zXj] at hpl
  try simp (maxSteps := 2000000) only [go_sem, hpv]
  repeat with_reducible refine zAc ?_
  refine zAz (fun j : Nat => [(6, .pv (sv (zBm (p.steps.take j) p.links true))), (20, .pv (iv j)), (7, .un), (8, .un), (10, .un), (21, .un), (26, .un), (44, .un), (45, .un), (46, .un), (47, .un), (65, .un), (66, .un), (67, .un), (68, .un), (69, .un), (70, .un), (71, .un), (72, .un)]) (fun j : Nat => p.steps.length - j) (fun j : Nat => j ≤ p.steps.length) (0) ?_ (Nat.zero_le _) ?_
  focus (simp (maxSteps := 2000000) only [go_sem, zAg, zAo, zAB, zAd]; all_goals (repeat' (first | exact trivial | exact zAj (by omega) | exact zAi rfl | exact zAx rfl | exact zAp | exact le_refl _ | refine And.intro ?_ ?_)))
  intro j hj
  have hpre := zR4 p.steps p.links j
  try simp (maxSteps := 2000000) only [go_sem]
  repeat with_reducible refine zAc ?_
  refine zAa (by rfl) trivial (fun g1 => ?_) (fun g1 => ?_)
  ·have hjl : j < p.steps.length := by simp at g1; omega
   have hst := zVR p.steps p.links j hjl
   have hpre1 := zR4 p.steps p.links (j + 1)
   rw [hst] at hpre1
   obtain ⟨x, hx⟩ : ∃ x, x = p.steps.getD j default := ⟨_, rfl⟩
   have hGs := GSs.get p5 j hjl
   have hsv := zHn p.steps j hjl
   rw [← hx] at hGs hsv hst hpre1
   rw [yAL] at hst hpre1
   obtain ⟨x1, x2⟩ := hGs.parts'
   simp only [List.length_append] at hpre1
   try simp (maxSteps := 2000000) only [go_sem, hsv]
   repeat with_reducible refine zAc ?_
   refine zAa (by rfl) trivial (fun g2 => ?_) (fun g2 => ?_)
   ·have hj1 : 1 ≤ j := by simp at g2; omega
    have hjn : ((j : Int) - 1).toNat = j - 1 := by omega
    have hlj : j - 1 < p.links.length := by omega
    have hin := p4 _ (List.getElem_mem hlj)
    have hge : p.links[j - 1] = p.links.getD (j - 1) 0 := by simp [List.getD_eq_getElem?_getD, hlj]
    rw [hge] at hin
    obtain ⟨n, hn⟩ : ∃ n, n = p.links.getD (j - 1) 0 := ⟨_, rfl⟩
    have hir := zG0 p.links (j - 1) hlj
    rw [← hn] at hin hir hst hpre1
    have hix := yAM hin
    rw [if_neg (by omega)] at hst hpre1
    try simp (maxSteps := 2000000) only [go_sem]
    repeat with_reducible refine zAc ?_
    refine zAf (by repeat' constructor) (zHp) ?_
    try simp (maxSteps := 2000000) only [go_sem, hjn, hir, hix, List.length_cons, List.length_nil]
    repeat with_reducible refine zAc ?_
    refine zAf (by repeat' constructor) (zUQ x.tag) ?_
    try simp (maxSteps := 2000000) only [go_sem]
    repeat with_reducible refine zAc ?_
    refine zAz (fun m : Nat => [(6, .pv (sv (zBm (p.steps.take j) p.links true ++ zOd n ++ zOf x.tag ++ zB6 (x.tests.take m)))), (46, .pv (iv m)), (10, .un), (47, .un), (67, .un), (68, .un), (69, .un), (70, .un), (71, .un), (72, .un)]) (fun m : Nat => x.tests.length - m) (fun m : Nat => m ≤ x.tests.length) (0) ?_ (Nat.zero_le _) ?_
    focus (simp (maxSteps := 2000000) only [go_sem, zAg, zAo, zAB, zAd]; all_goals (repeat' (first | exact trivial | exact zAj (by omega) | exact zAi rfl | exact zAx rfl | exact zAp | exact le_refl _ | refine And.intro ?_ ?_)))
    ·exact zAx (by simp [zB6])
    intro m hm
    have hpt := zHq x.tests m
    try simp (maxSteps := 2000000) only [go_sem]
    repeat with_reducible refine zAc ?_
    refine zAa (by rfl) trivial (fun g3 => ?_) (fun g3 => ?_)
    ·have hml : m < x.tests.length := by simp at g3; omega
     have htt := zOh x.tests m hml
     have hpt1 := zHq x.tests (m + 1)
     have htv := zFq x.tests m hml
     have hGt := GTs.get x2 m hml
     obtain ⟨t, ht⟩ : ∃ t, t = x.tests.getD m default := ⟨_, rfl⟩
     rw [← ht] at htt htv hGt
     have hc := hT t hGt
     rw [zC1] at hc htv
     have hll := congrArg List.length htt
     rw [List.length_append] at hll
     try simp (maxSteps := 2000000) only [go_sem, htv]
     repeat with_reducible refine zAc ?_
     refine zAf (by repeat' constructor) (hc) ?_
     try simp (maxSteps := 2000000) only [go_sem, List.length_append]
     repeat with_reducible refine zAc ?_
     refine ⟨m + 1, by omega, by omega, ?_⟩
     simp (maxSteps := 2000000) only [go_sem, zAg, zAo, zAB, zAd]
     all_goals (repeat' (first | exact trivial | exact zAj (by omega) | exact zAi rfl | exact zAx rfl | exact zAp | exact le_refl _ | refine And.intro ?_ ?_))
     all_goals first | exact zAd | exact zAj (by omega) | exact zAx (by rw [htt]; simp only [List.append_assoc]) | rfl
    ·have hme : m = x.tests.length := by simp at g3; omega
     subst hme
     try simp (maxSteps := 2000000) only [go_sem]
     repeat with_reducible refine zAc ?_
     refine ⟨j + 1, by omega, by omega, ?_⟩
     simp (maxSteps := 2000000) only [go_sem, zAg, zAo, zAB, zAd]
     all_goals (repeat' (first | exact trivial | exact zAj (by omega) | exact zAi rfl | exact zAx rfl | exact zAp | exact le_refl _ | refine And.intro ?_ ?_))
     all_goals first | exact zAd | exact zAj (by omega) | exact zAx (by rw [hst, List.take_length]; simp only [List.append_assoc, List.nil_append]) | rfl
   ·have hj0 : j = 0 := by simp at g2; omega
    rw [if_pos hj0] at hst hpre1
    try simp (maxSteps := 2000000) only [go_sem]
    repeat with_reducible refine zAc ?_
    refine zAf (by repeat' constructor) (zUQ x.tag) ?_
    try simp (maxSteps := 2000000) only [go_sem]
    repeat with_reducible refine zAc ?_
    refine zAz (fun m : Nat => [(6, .pv (sv (zBm (p.steps.take j) p.links true ++ zOf x.tag ++ zB6 (x.tests.take m)))), (46, .pv (iv m)), (10, .un), (47, .un), (67, .un), (68, .un), (69, .un), (70, .un), (71, .un), (72, .un)]) (fun m : Nat => x.tests.length - m) (fun m : Nat => m ≤ x.tests.length) (0) ?_ (Nat.zero_le _) ?_
    focus (simp (maxSteps := 2000000) only [go_sem, zAg, zAo, zAB, zAd]; all_goals (repeat' (first | exact trivial | exact zAj (by omega) | exact zAi rfl | exact zAx rfl | exact zAp | exact le_refl _ | refine And.intro ?_ ?_)))
    ·exact zAx (by simp [zB6])
    intro m hm
    have hpt := zHq x.tests m
    try simp (maxSteps := 2000000) only [go_sem]
    repeat with_reducible refine zAc ?_
    refine zAa (by rfl) trivial (fun g3 => ?_) (fun g3 => ?_)
    ·have hml : m < x.tests.length := by simp at g3; omega
     have htt := zOh x.tests m hml
     have hpt1 := zHq x.tests (m + 1)
     have htv := zFq x.tests m hml
     have hGt := GTs.get x2 m hml
     obtain ⟨t, ht⟩ : ∃ t, t = x.tests.getD m default := ⟨_, rfl⟩
     rw [← ht] at htt htv hGt
     have hc := hT t hGt
     rw [zC1] at hc htv
     have hll := congrArg List.length htt
     rw [List.length_append] at hll
     try simp (maxSteps := 2000000) only [go_sem, htv]
     repeat with_reducible refine zAc ?_
     refine zAf (by repeat' constructor) (hc) ?_
     try simp (maxSteps := 2000000) only [go_sem, List.length_append]
     repeat with_reducible refine zAc ?_
     refine ⟨m + 1, by omega, by omega, ?_⟩
     simp (maxSteps := 2000000) only [go_sem, zAg, zAo, zAB, zAd]
     all_goals (repeat' (first | exact trivial | exact zAj (by omega) | exact zAi rfl | exact zAx rfl | exact zAp | exact le_refl _ | refine And.intro ?_ ?_))
     all_goals first | exact zAd | exact zAj (by omega) | exact zAx (by rw [htt]; simp only [List.append_assoc]) | rfl
    ·have hme : m = x.tests.length := by simp at g3; omega
     subst hme
     try simp (maxSteps := 2000000) only [go_sem]
     repeat with_reducible refine zAc ?_
     refine ⟨j + 1, by omega, by omega, ?_⟩
     simp (maxSteps := 2000000) only [go_sem, zAg, zAo, zAB, zAd]
     all_goals (repeat' (first | exact trivial | exact zAj (by omega) | exact zAi rfl | exact zAx rfl | exact zAp | exact le_refl _ | refine And.intro ?_ ?_))
     all_goals first | exact zAd | exact zAj (by omega) | exact zAx (by rw [hst, List.take_length]; simp only [List.append_assoc, List.nil_append]) | rfl
  ·have hje : j = p.steps.length := by simp at g1; omega
   subst hje
   try simp (maxSteps := 2000000) only [go_sem, List.take_length, List.length_map, List.length_take]
   repeat with_reducible refine zAc ?_
   refine ⟨i + 1, by omega, by omega, ?_⟩
   simp (maxSteps := 2000000) only [go_sem, zAg, zAo, zAB, zAd]
   all_goals (repeat' (first | exact trivial | exact zAj (by omega) | exact zAi rfl | exact zAx rfl | exact zAp | exact le_refl _ | refine And.intro ?_ ?_))
   all_goals first | exact zAd | exact zAj (by omega) | exact zDh (by rw [zLa l i default hlt, ← hp]; simp [zSY, zXj]) | rfl
 ·have hie : i = l.length := by simp at g0; omega
  subst hie
  have hsum : ∀ q : List Pt, zNA (q.map zNz) ≤ (zBz q false).length := by
   intro q
   induction q with
   | nil => simp [zNA]
   | cons a r ih =>
    simp only [zNA, List.map_cons, List.sum_cons, zBz, List.length_append] at ih ⊢
    omega
  have hs1 := hsum l
  have hs2 := zYC l false d hd hl.2.2.2
  have htb : tB d ≤ 1229192 := by
   unfold tB
   split
   ·omega
   ·split <;> omega
  have hs3 : l.length * (5 * (15 + 6 * tB d) + 2) ≤ 5 * (5 * (15 + 6 * tB d) + 2) := Nat.mul_le_mul_right _ hl5
  rw [hLE]
  try simp (maxSteps := 2000000) only [go_sem, List.take_length]
  repeat with_reducible refine zAc ?_
  refine zAf (by repeat' constructor) (zNB (l.map zNz) (by rw [List.length_map]; omega) (by rw [List.length_map]; omega) (by omega)) ?_
  try simp (maxSteps := 2000000) only [go_sem]
  repeat with_reducible refine zAc ?_
  exact zAt rfl trivial (.inl rfl)
theorem zR6 : ∀ n d : Nat, 1 ≤ d → d + n = 4 → (∀ l : List Pt, GL l d → Contract Tryz.prog zB1 [.val (zCp l)] { res := .val (sv (zPT l)) })
 | 0, d, hd, hn => fun l hl => absurd hl.1 (by omega)
 | n + 1, d, hd, hn => fun l hl => zTW d hd (fun t ht => zTV d hd (zR6 n (d + 1) (by omega) (by omega)) t ht) l hl
theorem zR7 (l : List Pt) (h : zBB l = 0) : Contract Tryz.prog zB1 [.val (zCp l)] { res := .val (sv (zPT l)) } :=
 zR6 3 1 (Nat.le_refl _) rfl l (zW3 h)
def zIF (l : List Pt) : RV := { res := .tup [sv (if zBB l = 0 then zPT l else []), iv (zBB l)] }
theorem zGC (l : List Pt) : Contract Tryz.prog zDx [.val (zCp l)] (zIF l) := by
 unfold zIF
 refine zRM (base := 0) ⟨Nat.le_of_ble_eq_true rfl, Nat.le_of_ble_eq_true rfl, Nat.le_of_ble_eq_true rfl, rfl⟩ (fun hfit => ?_)
 unfold F0 zFo
 simp (maxSteps := 2000000) only [zAS, List.set_cons_succ, List.set_cons_zero, List.map_cons, List.map_nil, zAQ, zAb, ioOf, List.length_cons, List.length_nil, Nat.reduceAdd, Nat.reduceSub, List.replicate, List.cons_append, List.nil_append]
 try simp (maxSteps := 2000000) only [go_sem]
 repeat with_reducible refine zAc ?_
 refine zAf (by repeat' constructor) (zCG l) ?_
 try simp (maxSteps := 2000000) only [go_sem]
 repeat with_reducible refine zAc ?_
 refine zAa (by rfl) trivial (fun h1 => ?_) (fun h1 => ?_)
 ·have hne : ¬ zBB l = 0 := by simpa using h1
  rw [if_neg hne]
  try simp (maxSteps := 2000000) only [go_sem]
  repeat with_reducible refine zAc ?_
  exact zCS (by simp) ⟨zBa rfl trivial (.inl rfl), zBa rfl trivial (.inl rfl), rfl⟩
 ·have hne : zBB l = 0 := by simpa using h1
  rw [if_pos hne]
  try simp (maxSteps := 2000000) only [go_sem]
  repeat with_reducible refine zAc ?_
  refine zAf (by repeat' constructor) (zR7 l hne) ?_
  try simp (maxSteps := 2000000) only [go_sem]
  repeat with_reducible refine zAc ?_
  exact zCS (by simp) ⟨zBa rfl trivial (.inl rfl), zBa rfl trivial (.inl (by rw [hne])), rfl⟩
end Go.Hx
end

section
set_option maxRecDepth 100000
set_option linter.unusedSimpArgs false
set_option maxHeartbeats 4000000
namespace Go.Hx
open Go.Proofs
variable [Glob]
attribute [local go_sem] zAw zAu zAv zAm ndV zAq zAl zCp zBY zBu zAU List.nil_append
attribute [local go_sem] reduceCtorEq Nat.reduceAdd Nat.reduceEqDiff reduceIte Nat.reduceLeDiff Nat.reduceLT Nat.reduceSub
def zYF (P : Go.Program) (N : Nat) : Prop := ∀ a b : Ts, SizeOf.sizeOf a ≤ N → Contract P zDJ [.val (.agg (tsV a)), .val (.agg (tsV b))] { res := .val (bv (zR8 a b)) }
theorem zTX {N : Nat} (ih : zYF Tryz.prog N) (a b : St) (hs : SizeOf.sizeOf a ≤ N) : Contract Tryz.prog zDI [.val (.agg (stV a)), .val (.agg (stV b))] { res := .val (bv (zP3 a b)) } := by
 rw [zCi, zCi]
 refine zKz (base := 0) ⟨Nat.le_of_ble_eq_true rfl, Nat.le_of_ble_eq_true rfl, Nat.le_of_ble_eq_true rfl, rfl⟩ (fun hfit => ?_)
 unfold F0 zC3
 simp (maxSteps := 2000000) only [zAS, List.set_cons_succ, List.set_cons_zero, List.map_cons, List.map_nil, zAQ, zAb, ioOf, List.length_cons, List.length_nil, Nat.reduceAdd, Nat.reduceSub, List.replicate, List.cons_append, List.nil_append]
 try simp (maxSteps := 2000000) only [go_sem]
 repeat with_reducible refine zAc ?_
 have fl := yAO hfit.1.2.1
 refine zAa (by rfl) trivial (fun h1 => ?_) (fun h1 => ?_)
 ·try simp (maxSteps := 2000000) only [go_sem]
  repeat with_reducible refine zAc ?_
  refine zAt rfl trivial (.inl ?_)
  congr 3
  rw [zUS]
  by_cases ht : a.tag = b.tag
  ·have hl : a.tests.length ≠ b.tests.length := by
    rw [ht] at h1
    simp at h1
    omega
   rw [zVT hl, Bool.and_false]
  ·rw [beq_false_of_ne ht, Bool.false_and]
 have ht : a.tag = b.tag := by
  cases hc : (a.tag == b.tag) with
  | true => simpa using hc
  | false => rw [hc] at h1; cases h1
 have hl : a.tests.length = b.tests.length := by
  rw [ht] at h1
  simp at h1
  omega
 have hR : zP3 a b = zEa a.tests b.tests := by rw [zUS, ht, beq_self_eq_true, Bool.true_and]
 rw [hR]
 try simp (maxSteps := 2000000) only [go_sem]
 repeat with_reducible refine zAc ?_
 refine zAz (fun i : Nat => [(5, .pv (iv i)), (4, .un), (24, .un), (38, .un)]) (fun i : Nat => a.tests.length - i) (fun i : Nat => i ≤ a.tests.length ∧ zEa (a.tests.drop i) (b.tests.drop i) = zEa a.tests b.tests) (0) ?_ ⟨Nat.zero_le _, rfl⟩ ?_
 focus (simp (maxSteps := 2000000) only [go_sem, zAg, zAo, zAB, zAd]; all_goals (repeat' (first | exact trivial | exact zAj (by omega) | exact zAi rfl | exact zAx rfl | exact zAp | exact le_refl _ | refine And.intro ?_ ?_)))
 rintro i ⟨hi, hinv⟩
 try simp (maxSteps := 2000000) only [go_sem]
 repeat with_reducible refine zAc ?_
 refine zAa (by rfl) trivial (fun h2 => ?_) (fun h2 => ?_)
 ·have hil : i < a.tests.length := by simp at h2; omega
  have hib : i < b.tests.length := by omega
  rw [zDs (d := default) hil, zDs (d := default) hib, zEa] at hinv
  have e1 := zFq a.tests i hil
  have e2 := zFq b.tests i hib
  rw [zC1] at e1 e2
  have h7 := ih (a.tests.getD i default) (b.tests.getD i default) (by have := yCt hil; have := zUD a; omega)
  rw [zC1, zC1] at h7
  try simp (maxSteps := 2000000) only [go_sem, e1, e2]
  repeat with_reducible refine zAc ?_
  refine zAf (by repeat' constructor) (h7) ?_
  try simp (maxSteps := 2000000) only [go_sem]
  repeat with_reducible refine zAc ?_
  refine zAa (by rfl) trivial (fun h3 => ?_) (fun h3 => ?_)
  ·try simp (maxSteps := 2000000) only [go_sem]
   repeat with_reducible refine zAc ?_
   refine zAt rfl trivial (.inl ?_)
   congr 3
   rw [← hinv]
   have h4 : zR8 (a.tests.getD i default) (b.tests.getD i default) = false := by simpa using h3
   rw [h4]; rfl
  ·have h4 : zR8 (a.tests.getD i default) (b.tests.getD i default) = true := by simpa using h3
   rw [h4, Bool.true_and] at hinv
   try simp (maxSteps := 2000000) only [go_sem]
   repeat with_reducible refine zAc ?_
   refine ⟨i + 1, by omega, ⟨by omega, hinv⟩, ?_⟩
   simp (maxSteps := 2000000) only [go_sem, zAg, zAo, zAB, zAd]
   all_goals (repeat' (first | exact trivial | exact zAj (by omega) | exact zAi rfl | exact zAx rfl | exact zAp | exact le_refl _ | refine And.intro ?_ ?_))
 ·have hil : i = a.tests.length := by simp at h2; omega
  try simp (maxSteps := 2000000) only [go_sem]
  repeat with_reducible refine zAc ?_
  refine zAt rfl trivial (.inl ?_)
  congr 3
  rw [← hinv, hil, List.drop_length, hl, List.drop_length]
  simp only [zEa]
theorem zTY {N : Nat} (ih : zYF Tryz.prog N) (a b : Pt) (hs : SizeOf.sizeOf a ≤ N) : Contract Tryz.prog zDH [.val (.agg (ptV a)), .val (.agg (ptV b))] { res := .val (bv (zP4 a b)) } := by
 rw [zB5, zB5]
 refine zKJ (base := 0) ⟨Nat.le_of_ble_eq_true rfl, Nat.le_of_ble_eq_true rfl, Nat.le_of_ble_eq_true rfl, rfl⟩ (fun hfit => ?_)
 unfold F0 zC4
 simp (maxSteps := 2000000) only [zAS, List.set_cons_succ, List.set_cons_zero, List.map_cons, List.map_nil, zAQ, zAb, ioOf, List.length_cons, List.length_nil, Nat.reduceAdd, Nat.reduceSub, List.replicate, List.cons_append, List.nil_append]
 try simp (maxSteps := 2000000) only [go_sem]
 repeat with_reducible refine zAc ?_
 have fl := zXk hfit.1.1
 apply zAV (h2 := fun _ => zNC a.links b.links)
 ·(simp (maxSteps := 2000000) only [go_sem]; rfl)
 ·intro h; repeat' (first | exact trivial | exact h | refine And.intro ?_ ?_)
 try simp (maxSteps := 2000000) only [go_sem]
 repeat with_reducible refine zAc ?_
 refine zAa (by rfl) trivial (fun h1 => ?_) (fun h1 => ?_)
 ·try simp (maxSteps := 2000000) only [go_sem]
  repeat with_reducible refine zAc ?_
  refine zAt rfl trivial (.inl ?_)
  congr 3
  rw [zUT]
  by_cases ht : a.links = b.links
  ·have hl : a.steps.length ≠ b.steps.length := by
    simp [ht] at h1
    omega
   rw [zVU hl, Bool.and_false]
  ·rw [beq_false_of_ne ht, Bool.false_and]
 have hl : a.steps.length = b.steps.length := by
  cases hc : ((a.steps.length : Int) != (b.steps.length : Int)) with
  | false => simp at hc; omega
  | true => rw [hc] at h1; cases h1
 have ht : a.links = b.links := by
  rw [hl] at h1
  simpa using h1
 have hR : zP4 a b = zEb a.steps b.steps := by rw [zUT, ht, beq_self_eq_true, Bool.true_and]
 rw [hR]
 try simp (maxSteps := 2000000) only [go_sem]
 repeat with_reducible refine zAc ?_
 refine zAz (fun i : Nat => [(5, .pv (iv i)), (4, .un), (25, .un), (39, .un)]) (fun i : Nat => a.steps.length - i) (fun i : Nat => i ≤ a.steps.length ∧ zEb (a.steps.drop i) (b.steps.drop i) = zEb a.steps b.steps) (0) ?_ ⟨Nat.zero_le _, rfl⟩ ?_
 focus (simp (maxSteps := 2000000) only [go_sem, zAg, zAo, zAB, zAd]; all_goals (repeat' (first | exact trivial | exact zAj (by omega) | exact zAi rfl | exact zAx rfl | exact zAp | exact le_refl _ | refine And.intro ?_ ?_)))
 rintro i ⟨hi, hinv⟩
 try simp (maxSteps := 2000000) only [go_sem]
 repeat with_reducible refine zAc ?_
 refine zAa (by rfl) trivial (fun h2 => ?_) (fun h2 => ?_)
 ·have hil : i < a.steps.length := by simp at h2; omega
  have hib : i < b.steps.length := by omega
  rw [zDs (d := default) hil, zDs (d := default) hib, zEb] at hinv
  have e1 := zHn a.steps i hil
  have e2 := zHn b.steps i hib
  rw [zCi] at e1 e2
  have h7 := zTX ih (a.steps.getD i default) (b.steps.getD i default) (by have := yCu hil; have := zUE a; omega)
  rw [zCi, zCi] at h7
  try simp (maxSteps := 2000000) only [go_sem, e1, e2]
  repeat with_reducible refine zAc ?_
  refine zAf (by repeat' constructor) (h7) ?_
  try simp (maxSteps := 2000000) only [go_sem]
  repeat with_reducible refine zAc ?_
  refine zAa (by rfl) trivial (fun h3 => ?_) (fun h3 => ?_)
  ·try simp (maxSteps := 2000000) only [go_sem]
   repeat with_reducible refine zAc ?_
   refine zAt rfl trivial (.inl ?_)
   congr 3
   rw [← hinv]
   have h4 : zP3 (a.steps.getD i default) (b.steps.getD i default) = false := by simpa using h3
   rw [h4]; rfl
  ·have h4 : zP3 (a.steps.getD i default) (b.steps.getD i default) = true := by simpa using h3
   rw [h4, Bool.true_and] at hinv
   try simp (maxSteps := 2000000) only [go_sem]
   repeat with_reducible refine zAc ?_
   refine ⟨i + 1, by omega, ⟨by omega, hinv⟩, ?_⟩
   simp (maxSteps := 2000000) only [go_sem, zAg, zAo, zAB, zAd]
   all_goals (repeat' (first | exact trivial | exact zAj (by omega) | exact zAi rfl | exact zAx rfl | exact zAp | exact le_refl _ | refine And.intro ?_ ?_))
 ·have hil : i = a.steps.length := by simp at h2; omega
  try simp (maxSteps := 2000000) only [go_sem]
  repeat with_reducible refine zAc ?_
  refine zAt rfl trivial (.inl ?_)
  congr 3
  rw [← hinv, hil, List.drop_length, hl, List.drop_length]
  simp only [zEb]
theorem zMD {N : Nat} (ih : zYF Tryz.prog N) (a b : List Pt) (hs : SizeOf.sizeOf a ≤ N) : Contract Tryz.prog zBq [.val (.one (.sl 2 (zGg a))), .val (.one (.sl 2 (zGg b)))] { res := .val (bv (zDy a b)) } := by
 refine zKT (base := 0) ⟨Nat.le_of_ble_eq_true rfl, Nat.le_of_ble_eq_true rfl, Nat.le_of_ble_eq_true rfl, rfl⟩ (fun hfit => ?_)
 unfold F0 zC5
 simp (maxSteps := 2000000) only [zAS, List.set_cons_succ, List.set_cons_zero, List.map_cons, List.map_nil, zAQ, zAb, ioOf, List.length_cons, List.length_nil, Nat.reduceAdd, Nat.reduceSub, List.replicate, List.cons_append, List.nil_append]
 try simp (maxSteps := 2000000) only [go_sem]
 repeat with_reducible refine zAc ?_
 have fl := yAN hfit.1
 refine zAa (by rfl) trivial (fun h1 => ?_) (fun h1 => ?_)
 ·try simp (maxSteps := 2000000) only [go_sem]
  repeat with_reducible refine zAc ?_
  refine zAt rfl trivial (.inl ?_)
  congr 3
  have : a.length ≠ b.length := by simp at h1; omega
  rw [zVV this]
 have hl : a.length = b.length := by simp at h1; omega
 try simp (maxSteps := 2000000) only [go_sem]
 repeat with_reducible refine zAc ?_
 refine zAz (fun i : Nat => [(5, .pv (iv i)), (4, .un), (14, .un), (26, .un)]) (fun i : Nat => a.length - i) (fun i : Nat => i ≤ a.length ∧ zDy (a.drop i) (b.drop i) = zDy a b) (0) ?_ ⟨Nat.zero_le _, rfl⟩ ?_
 focus (simp (maxSteps := 2000000) only [go_sem, zAg, zAo, zAB, zAd]; all_goals (repeat' (first | exact trivial | exact zAj (by omega) | exact zAi rfl | exact zAx rfl | exact zAp | exact le_refl _ | refine And.intro ?_ ?_)))
 rintro i ⟨hi, hinv⟩
 try simp (maxSteps := 2000000) only [go_sem]
 repeat with_reducible refine zAc ?_
 refine zAa (by rfl) trivial (fun h2 => ?_) (fun h2 => ?_)
 ·have hil : i < a.length := by simp at h2; omega
  have hib : i < b.length := by omega
  rw [zDs (d := default) hil, zDs (d := default) hib, zDy] at hinv
  have e1 := zDr a i hil
  have e2 := zDr b i hib
  rw [zB5] at e1 e2
  have h7 := zTY ih (a.getD i default) (b.getD i default) (by have := yCv hil; omega)
  rw [zB5, zB5] at h7
  try simp (maxSteps := 2000000) only [go_sem, e1, e2]
  repeat with_reducible refine zAc ?_
  refine zAf (by repeat' constructor) (h7) ?_
  try simp (maxSteps := 2000000) only [go_sem]
  repeat with_reducible refine zAc ?_
  refine zAa (by rfl) trivial (fun h3 => ?_) (fun h3 => ?_)
  ·try simp (maxSteps := 2000000) only [go_sem]
   repeat with_reducible refine zAc ?_
   refine zAt rfl trivial (.inl ?_)
   congr 3
   rw [← hinv]
   have h4 : zP4 (a.getD i default) (b.getD i default) = false := by simpa using h3
   rw [h4]; rfl
  ·have h4 : zP4 (a.getD i default) (b.getD i default) = true := by simpa using h3
   rw [h4, Bool.true_and] at hinv
   try simp (maxSteps := 2000000) only [go_sem]
   repeat with_reducible refine zAc ?_
   refine ⟨i + 1, by omega, ⟨by omega, hinv⟩, ?_⟩
   simp (maxSteps := 2000000) only [go_sem, zAg, zAo, zAB, zAd]
   all_goals (repeat' (first | exact trivial | exact zAj (by omega) | exact zAi rfl | exact zAx rfl | exact zAp | exact le_refl _ | refine And.intro ?_ ?_))
 ·have hil : i = a.length := by simp at h2; omega
  try simp (maxSteps := 2000000) only [go_sem]
  repeat with_reducible refine zAc ?_
  refine zAt rfl trivial (.inl ?_)
  congr 3
  rw [← hinv, hil, List.drop_length, hl, List.drop_length]
  simp only [zDy]
theorem zVW (s : Ts) : 0 < SizeOf.sizeOf s := by cases s; simp only [Ts.mk.sizeOf_spec]; omega
theorem zOi : ∀ N, zYF Tryz.prog N
 | 0 => fun a b h => by have := zVW a; omega
 | N + 1 => fun a b h => by
  have ih := zOi N
  have hc := zMD ih a.list b.list (by have := zWR a; omega)
  rw [zC1, zC1]
  refine zKp (base := 0) ⟨Nat.le_of_ble_eq_true rfl, Nat.le_of_ble_eq_true rfl, Nat.le_of_ble_eq_true rfl, rfl⟩ (fun hfit => ?_)
  unfold F0 zC2
  simp (maxSteps := 2000000) only [zAS, List.set_cons_succ, List.set_cons_zero, List.map_cons, List.map_nil, zAQ, zAb, ioOf, List.length_cons, List.length_nil, Nat.reduceAdd, Nat.reduceSub, List.replicate, List.cons_append, List.nil_append]
  try simp (maxSteps := 2000000) only [go_sem]
  repeat with_reducible refine zAc ?_
  apply zAV (h2 := fun _ => hc)
  ·(simp (maxSteps := 2000000) only [go_sem]; rfl)
  ·intro h; repeat' (first | exact trivial | exact h | refine And.intro ?_ ?_)
  try simp (maxSteps := 2000000) only [go_sem]
  repeat with_reducible refine zAc ?_
  refine zAt rfl trivial (.inl ?_)
  congr 3
  rw [zYE]
  simp [Bool.cond_false_right, Bool.and_assoc]
theorem zP5 (a b : List Pt) : Contract Tryz.prog zBq [.val (.one (.sl 2 (zGg a))), .val (.one (.sl 2 (zGg b)))] { res := .val (bv (zDy a b)) } := zMD (zOi _) a b (Nat.le_refl _)
end Go.Hx
end

section
set_option maxRecDepth 100000
set_option linter.unusedSimpArgs false
namespace Go.Hx
open Go.Proofs Go.RowKit
attribute [local instance] zAZ
attribute [local go_sem] zAw zAu zAv zAm ndV zAq zAl zBY zBu zAU zB5 zCi zC1
end Go.Hx
end

section
set_option maxRecDepth 100000
set_option linter.unusedSimpArgs false
namespace Go.Hx
open Go.Proofs Go.RowKit
attribute [local instance] zAZ
attribute [local go_sem] zAw zAu zAv zAm ndV zAq zAl zBY zBu zAU zB5 zCi zC1
end Go.Hx
end

section
set_option maxRecDepth 100000
set_option linter.unusedSimpArgs false
namespace Go.Hx
open Go.Proofs Go.RowKit
attribute [local instance] zAZ
attribute [local go_sem] zAw zAu zAv zAm ndV zAq zAl zBY zBu zAU
def Lft (s : Bys) (o : Option Ts × Bys) : Prop := o.2.length ≤ s.length ∧ (∀ t, o.1 = some t → o.2.length + 1 ≤ s.length)
theorem Lft.le {s : Bys} {o : Option Ts × Bys} (h : Lft s o) : o.2.length ≤ s.length := h.1
end Go.Hx
end

section
set_option maxRecDepth 100000
set_option linter.unusedSimpArgs false
namespace Go.Hx
open Go.Proofs Go.RowKit
attribute [local instance] zAZ
attribute [local go_sem] zAw zAu zAv zAm ndV zAq zAl OVal.cells List.map_nil List.map_cons zDL zT6 zSa zBY zBu zAU
end Go.Hx
end

section
set_option maxRecDepth 100000
set_option linter.unusedSimpArgs false
namespace Go.Hx
open Go.Proofs Go.RowKit
attribute [local instance] zAZ
attribute [local go_sem] zAw zAu zAv zAm ndV zAq zAl
end Go.Hx
end

section
set_option maxRecDepth 100000
set_option linter.unusedSimpArgs false
namespace Go.Hx
open Go.Proofs Go.RowKit
attribute [local instance] zAZ
attribute [local go_sem] zAw zAu zAv zAm ndV zAq zAl
attribute [local go_sem] reduceCtorEq Nat.reduceAdd Nat.reduceEqDiff reduceIte Nat.reduceLeDiff Nat.reduceLT Nat.reduceSub
theorem zXx (a : Int) : Contract Tryz.prog zCy [.val (iv a)] { res := .val (bv false) } := by
 refine zKW (base := 0) ⟨Nat.le_of_ble_eq_true rfl, Nat.le_of_ble_eq_true rfl, Nat.le_of_ble_eq_true rfl, rfl⟩ (fun hfit => ?_)
 unfold F0 zC7
 simp (maxSteps := 2000000) only [zAS, List.set_cons_succ, List.set_cons_zero, List.map_cons, List.map_nil, zAQ, zAb, ioOf, List.length_cons, List.length_nil, Nat.reduceAdd, Nat.reduceSub, List.replicate, List.cons_append, List.nil_append]
 try simp (maxSteps := 2000000) only [go_sem]
 repeat with_reducible refine zAc ?_
 have e : (a != a) = false := by simp
 try simp (maxSteps := 2000000) only [go_sem, e]
 repeat with_reducible refine zAc ?_
 exact zAt rfl trivial (.inl rfl)
def zV5 (a b : Int) : Int := if a < b then -1 else if a > b then 1 else 0
set_option maxHeartbeats 4000000 in
theorem zMM (a b : Int) : Contract Tryz.prog zBv [.val (iv a), .val (iv b)] { res := .val (iv (zV5 a b)) } := by
 unfold zV5
 refine zHE (base := 0) ⟨Nat.le_of_ble_eq_true rfl, Nat.le_of_ble_eq_true rfl, Nat.le_of_ble_eq_true rfl, rfl⟩ (fun hfit => ?_)
 unfold F0 zCg
 simp (maxSteps := 2000000) only [zAS, List.set_cons_succ, List.set_cons_zero, List.map_cons, List.map_nil, zAQ, zAb, ioOf, List.length_cons, List.length_nil, Nat.reduceAdd, Nat.reduceSub, List.replicate, List.cons_append, List.nil_append]
 try simp (maxSteps := 2000000) only [go_sem]
 repeat with_reducible refine zAc ?_
 refine zAf (by repeat' constructor) (zXx a) ?_
 try simp (maxSteps := 2000000) only [go_sem]
 repeat with_reducible refine zAc ?_
 refine zAf (by repeat' constructor) (zXx b) ?_
 try simp (maxSteps := 2000000) only [go_sem]
 repeat with_reducible refine zAc ?_
 refine zAa (by rfl) trivial (fun h1 => ?_) (fun h1 => ?_)
 ·cases h1
 ·try simp (maxSteps := 2000000) only [go_sem]
  repeat with_reducible refine zAc ?_
  refine zAa (by rfl) trivial (fun h2 => ?_) (fun h2 => ?_)
  ·cases h2
  ·try simp (maxSteps := 2000000) only [go_sem]
   repeat with_reducible refine zAc ?_
   refine zAa (by rfl) trivial (fun h3 => ?_) (fun h3 => ?_)
   ·rw [if_pos (by simpa using h3)]
    try simp (maxSteps := 2000000) only [go_sem]
    repeat with_reducible refine zAc ?_
    exact zAt rfl trivial (.inl rfl)
   ·rw [if_neg (by simpa using h3)]
    try simp (maxSteps := 2000000) only [go_sem]
    repeat with_reducible refine zAc ?_
    refine zAa (by rfl) trivial (fun h4 => ?_) (fun h4 => ?_)
    ·rw [if_pos (by simpa using h4)]
     try simp (maxSteps := 2000000) only [go_sem]
     repeat with_reducible refine zAc ?_
     exact zAt rfl trivial (.inl rfl)
    ·rw [if_neg (by simpa using h4)]
     try simp (maxSteps := 2000000) only [go_sem]
     repeat with_reducible refine zAc ?_
     exact zAt rfl trivial (.inl rfl)
def orI (x y z : Int) : Int := if x ≠ 0 then x else if y ≠ 0 then y else z
set_option maxHeartbeats 8000000 in
theorem yD7 (x y z : Int) : Contract Tryz.prog zFv [.val (.one (.sl 1 [[bI x], [bI y], [bI z]]))] { res := .val (iv (orI x y z)) } := by
 unfold orI
 refine zQz (base := 0) ⟨Nat.le_of_ble_eq_true rfl, Nat.le_of_ble_eq_true rfl, Nat.le_of_ble_eq_true rfl, rfl⟩ (fun hfit => ?_)
 unfold F0 zEx
 simp (maxSteps := 2000000) only [zAS, List.set_cons_succ, List.set_cons_zero, List.map_cons, List.map_nil, zAQ, zAb, ioOf, List.length_cons, List.length_nil, Nat.reduceAdd, Nat.reduceSub, List.replicate, List.cons_append, List.nil_append]
 try simp (maxSteps := 2000000) only [go_sem]
 repeat with_reducible refine zAc ?_
 refine zAz (fun i : Nat => [(8, .pv (iv i)), (2, .un), (5, .un), (9, .un), (14, .un)]) (fun i : Nat => 3 - i) (fun i : Nat => i ≤ 3 ∧ (1 ≤ i → x = 0) ∧ (2 ≤ i → y = 0) ∧ (3 ≤ i → z = 0)) (0) ?_ ⟨Nat.zero_le _, fun h => (by omega), fun h => (by omega), fun h => (by omega)⟩ ?_
 focus (simp (maxSteps := 2000000) only [go_sem, zAg, zAo, zAB, zAd]; all_goals (repeat' (first | exact trivial | exact zAj (by omega) | exact zAi rfl | exact zAx rfl | exact zAp | exact le_refl _ | refine And.intro ?_ ?_)))
 rintro i ⟨hi, hx, hy, hz⟩
 rcases (by omega : i = 0 ∨ i = 1 ∨ i = 2 ∨ i = 3) with rfl | rfl | rfl | rfl
 ·try simp (maxSteps := 2000000) only [go_sem, List.getD_cons_zero, List.length_cons, List.length_nil]
  repeat with_reducible refine zAc ?_
  refine zAa (by rfl) trivial (fun g1 => ?_) (fun g1 => ?_)
  ·try simp (maxSteps := 2000000) only [go_sem, List.getD_cons_zero, List.length_cons, List.length_nil]
   repeat with_reducible refine zAc ?_
   refine zAa (by rfl) trivial (fun g2 => ?_) (fun g2 => ?_)
   ·rw [if_pos (by simpa using g2)]
    try simp (maxSteps := 2000000) only [go_sem]
    repeat with_reducible refine zAc ?_
    exact zAt rfl trivial (.inl rfl)
   ·have h0 : x = 0 := by simpa using g2
    try simp (maxSteps := 2000000) only [go_sem]
    repeat with_reducible refine zAc ?_
    refine ⟨1, by omega, ⟨by omega, fun _ => h0, fun h => (by omega), fun h => (by omega)⟩, ?_⟩
    simp (maxSteps := 2000000) only [go_sem, zAg, zAo, zAB, zAd]
    all_goals (repeat' (first | exact trivial | exact zAj (by omega) | exact zAi rfl | exact zAx rfl | exact zAp | exact le_refl _ | refine And.intro ?_ ?_))
  ·simp at g1
 ·have h0 := hx (by omega)
  rw [if_neg (fun h => h h0)]
  try simp (maxSteps := 2000000) only [go_sem, List.getD_cons_zero, List.getD_cons_succ, List.length_cons, List.length_nil]
  repeat with_reducible refine zAc ?_
  refine zAa (by rfl) trivial (fun g1 => ?_) (fun g1 => ?_)
  ·try simp (maxSteps := 2000000) only [go_sem, List.getD_cons_zero, List.getD_cons_succ, List.length_cons, List.length_nil]
   repeat with_reducible refine zAc ?_
   refine zAa (by rfl) trivial (fun g2 => ?_) (fun g2 => ?_)
   ·rw [if_pos (by simpa using g2)]
    try simp (maxSteps := 2000000) only [go_sem]
    repeat with_reducible refine zAc ?_
    exact zAt rfl trivial (.inl rfl)
   ·have h1 : y = 0 := by simpa using g2
    try simp (maxSteps := 2000000) only [go_sem]
    repeat with_reducible refine zAc ?_
    refine ⟨2, by omega, ⟨by omega, fun _ => h0, fun _ => h1, fun h => (by omega)⟩, ?_⟩
    simp (maxSteps := 2000000) only [go_sem, zAg, zAo, zAB, zAd]
    all_goals (repeat' (first | exact trivial | exact zAj (by omega) | exact zAi rfl | exact zAx rfl | exact zAp | exact le_refl _ | refine And.intro ?_ ?_))
  ·simp at g1
 ·have h0 := hx (by omega)
  have h1 := hy (by omega)
  rw [if_neg (fun h => h h0), if_neg (fun h => h h1)]
  try simp (maxSteps := 2000000) only [go_sem, List.getD_cons_zero, List.getD_cons_succ, List.length_cons, List.length_nil]
  repeat with_reducible refine zAc ?_
  refine zAa (by rfl) trivial (fun g1 => ?_) (fun g1 => ?_)
  ·try simp (maxSteps := 2000000) only [go_sem, List.getD_cons_zero, List.getD_cons_succ, List.length_cons, List.length_nil]
   repeat with_reducible refine zAc ?_
   refine zAa (by rfl) trivial (fun g2 => ?_) (fun g2 => ?_)
   ·try simp (maxSteps := 2000000) only [go_sem]
    repeat with_reducible refine zAc ?_
    exact zAt rfl trivial (.inl rfl)
   ·have h2 : z = 0 := by simpa using g2
    try simp (maxSteps := 2000000) only [go_sem]
    repeat with_reducible refine zAc ?_
    refine ⟨3, by omega, ⟨by omega, fun _ => h0, fun _ => h1, fun _ => h2⟩, ?_⟩
    simp (maxSteps := 2000000) only [go_sem, zAg, zAo, zAB, zAd]
    all_goals (repeat' (first | exact trivial | exact zAj (by omega) | exact zAi rfl | exact zAx rfl | exact zAp | exact le_refl _ | refine And.intro ?_ ?_))
  ·simp at g1
 ·have h0 := hx (by omega)
  have h1 := hy (by omega)
  have h2 := hz (by omega)
  rw [if_neg (fun h => h h0), if_neg (fun h => h h1), h2]
  try simp (maxSteps := 2000000) only [go_sem, List.getD_cons_zero, List.getD_cons_succ, List.length_cons, List.length_nil]
  repeat with_reducible refine zAc ?_
  refine zAa (by rfl) trivial (fun g1 => ?_) (fun g1 => ?_)
  ·simp at g1
  ·try simp (maxSteps := 2000000) only [go_sem]
   repeat with_reducible refine zAc ?_
   exact zAt rfl trivial (.inl rfl)
def yAV (a b : Wt) : Int := orI (zV5 a.1 b.1) (zV5 a.2.1 b.2.1) (zV5 a.2.2 b.2.2)
theorem zYL (a b : Nat) : (0 < zV5 a b) ↔ b < a := by
 unfold zV5
 split
 ·omega
 ·split <;> omega
theorem zXy (a b : Nat) : zV5 a b = 0 ↔ a = b := by
 unfold zV5
 split
 ·omega
 ·split <;> omega
theorem zYM (a b : Wt) : decide (0 < yAV a b) = hvy a b := by
 unfold yAV orI hvy
 by_cases h1 : a.1 = b.1 <;> by_cases h2 : a.2.1 = b.2.1 <;> simp [zXy, zYL, h1, h2]
theorem zNW (a b : Wt) : Contract Tryz.prog zC6 [.val (.agg (wV a)), .val (.agg (wV b))] { res := .val (iv (yAV a b)) } := by
 unfold wV yAV
 refine zMJ (base := 0) ⟨Nat.le_of_ble_eq_true rfl, Nat.le_of_ble_eq_true rfl, Nat.le_of_ble_eq_true rfl, rfl⟩ (fun hfit => ?_)
 unfold F0 zDt
 simp (maxSteps := 2000000) only [zAS, List.set_cons_succ, List.set_cons_zero, List.map_cons, List.map_nil, zAQ, zAb, ioOf, List.length_cons, List.length_nil, Nat.reduceAdd, Nat.reduceSub, List.replicate, List.cons_append, List.nil_append]
 try simp (maxSteps := 2000000) only [go_sem]
 repeat with_reducible refine zAc ?_
 refine zAf (by repeat' constructor) (zMM a.1 b.1) ?_
 try simp (maxSteps := 2000000) only [go_sem]
 repeat with_reducible refine zAc ?_
 refine zAf (by repeat' constructor) (zMM a.2.1 b.2.1) ?_
 try simp (maxSteps := 2000000) only [go_sem]
 repeat with_reducible refine zAc ?_
 refine zAf (by repeat' constructor) (zMM a.2.2 b.2.2) ?_
 try simp (maxSteps := 2000000) only [go_sem]
 repeat with_reducible refine zAc ?_
 refine zAf (by repeat' constructor) (yD7 (zV5 a.1 b.1) (zV5 a.2.1 b.2.1) (zV5 a.2.2 b.2.2)) ?_
 try simp (maxSteps := 2000000) only [go_sem]
 repeat with_reducible refine zAc ?_
 exact zAt rfl trivial (.inl rfl)
set_option maxHeartbeats 8000000 in
theorem zE4 (x : Wt) (r : List Wt) (hr : r.length ≤ 100) : Contract Tryz.prog zBG [.val (.one (.sl 3 (wsV (x :: r)))), .val (.one (.clo zC6 []))] { res := .val (.agg (wV (zCr x r))) } := by
 have h0 : (wsV (x :: r)).getD (Int.toNat 0) [] = wV x := rfl
 have hlen : (wsV (x :: r)).length = r.length + 1 := by rw [zXw]; rfl
 refine zE3 (base := 0) ⟨Nat.le_of_ble_eq_true rfl, Nat.le_of_ble_eq_true rfl, Nat.le_of_ble_eq_true rfl, rfl⟩ (fun hfit => ?_)
 unfold F0 zBe
 simp (maxSteps := 2000000) only [zAS, List.set_cons_succ, List.set_cons_zero, List.map_cons, List.map_nil, zAQ, zAb, ioOf, List.length_cons, List.length_nil, Nat.reduceAdd, Nat.reduceSub, List.replicate, List.cons_append, List.nil_append]
 try simp (maxSteps := 2000000) only [go_sem]
 repeat with_reducible refine zAc ?_
 refine zAa (by rfl) trivial (fun g0 => ?_) (fun g0 => ?_)
 ·exfalso; simp only [hlen, decide_eq_true_eq] at g0; omega
 ·try simp (maxSteps := 2000000) only [go_sem, h0, wV]
  repeat with_reducible refine zAc ?_
  refine zAz (fun j : Nat => [(36, .pv (.one (bI (zCr x (r.take j)).1))), (37, .pv (.one (bI (zCr x (r.take j)).2.1))), (38, .pv (.one (bI (zCr x (r.take j)).2.2))), (6, .pv (iv ((j + 1 : Nat) : Int))), (17, .un), (27, .un)]) (fun j : Nat => r.length - j) (fun j : Nat => j ≤ r.length) (0) ?_ (Nat.zero_le _) ?_
  focus (simp (maxSteps := 2000000) only [go_sem, zAg, zAo, zAB, zAd]; all_goals (repeat' (first | exact trivial | exact zAj (by omega) | exact zAi rfl | exact zAx rfl | exact zAp | exact le_refl _ | refine And.intro ?_ ?_)))
  intro j hj
  try simp (maxSteps := 2000000) only [go_sem, hlen]
  repeat with_reducible refine zAc ?_
  refine zAa (by rfl) trivial (fun g1 => ?_) (fun g1 => ?_)
  ·have hlt : j < r.length := by simp only [decide_eq_true_eq] at g1; omega
   have hget : (wsV (x :: r)).getD (j + 1) [] = wV (r.getD j (0, 0, 0)) := yAU (x :: r) (j + 1) (by simpa using hlt)
   have htk : r.take (j + 1) = r.take j ++ [r.getD j (0, 0, 0)] := zP8 r j _ hlt
   obtain ⟨y, hy⟩ : ∃ y, y = r.getD j (0, 0, 0) := ⟨_, rfl⟩
   obtain ⟨m, hm⟩ : ∃ m, m = zCr x (r.take j) := ⟨_, rfl⟩
   have hbs : zCr x (r.take (j + 1)) = if hvy y m then y else m := by rw [htk, zOk, ← hm, ← hy]
   rw [← hy] at hget
   rw [← hm]
   unfold wV at hget
   have hc := zNW y m
   unfold wV at hc
   try simp (maxSteps := 2000000) only [go_sem, hget, hlen]
   repeat with_reducible refine zAc ?_
   refine zWv (by rfl) trivial (by repeat' constructor) (hc) ?_
   try simp (maxSteps := 2000000) only [go_sem]
   repeat with_reducible refine zAc ?_
   have hgt : decide (yAV y m > 0) = hvy y m := zYM y m
   refine zAa (by rfl) trivial (fun g2 => ?_) (fun g2 => ?_)
   ·rw [show decide (0 < yAV y m) = hvy y m from hgt] at g2
    rw [g2, if_pos rfl] at hbs
    try simp (maxSteps := 2000000) only [go_sem, hget, hlen]
    repeat with_reducible refine zAc ?_
    refine ⟨j + 1, by omega, by omega, ?_⟩
    simp (maxSteps := 2000000) only [go_sem, zAg, zAo, zAB, zAd]
    all_goals (repeat' (first | exact trivial | exact zAj (by omega) | exact zAi rfl | exact zAx rfl | exact zAp | exact le_refl _ | refine And.intro ?_ ?_))
    all_goals first | exact zAd | exact zAj (by omega) | exact zAx (by rw [hbs]) | rfl
   ·rw [show decide (0 < yAV y m) = hvy y m from hgt] at g2
    rw [g2, if_neg (by simp)] at hbs
    try simp (maxSteps := 2000000) only [go_sem]
    repeat with_reducible refine zAc ?_
    refine ⟨j + 1, by omega, by omega, ?_⟩
    simp (maxSteps := 2000000) only [go_sem, zAg, zAo, zAB, zAd]
    all_goals (repeat' (first | exact trivial | exact zAj (by omega) | exact zAi rfl | exact zAx rfl | exact zAp | exact le_refl _ | refine And.intro ?_ ?_))
    all_goals first | exact zAd | exact zAj (by omega) | exact zAx (by rw [hbs]) | rfl
  ·have hje : j = r.length := by simp only [decide_eq_false_iff_not] at g1; omega
   subst hje
   try simp (maxSteps := 2000000) only [go_sem, List.take_length]
   repeat with_reducible refine zAc ?_
   exact zGZ rfl rfl rfl
end Go.Hx
end

section
set_option maxRecDepth 100000
set_option linter.unusedSimpArgs false
namespace Go.Hx
open Go.Proofs Go.RowKit
attribute [local instance] zAZ
attribute [local go_sem] zAw zAu zAv zAm ndV zAq zAl zBY zBu zAU zXw zB5 zCi zC1
attribute [local go_sem] reduceCtorEq Nat.reduceAdd Nat.reduceEqDiff reduceIte Nat.reduceLeDiff Nat.reduceLT Nat.reduceSub
theorem zGJ {a b : Int} (h : a = b) : leC (.pv (.one (bI a))) (.pv (.one (bI b))) := zAx (by rw [h])
theorem zU0 : zER [] = (0, 0, 0) := by rw [zER]
def tgN (s : Bys) : Nat := if s = [] then 0 else 1
theorem zSu (l : List Ts) (m : Nat) (h : m < l.length) : ∃ D : Wt,
  ((zER l).1 = (zER (l.take m)).1 + (wgT (l.getD m default)).1 + D.1 ∧ (zER l).2.1 = (zER (l.take m)).2.1 + (wgT (l.getD m default)).2.1 + D.2.1 ∧ (zER l).2.2 = (zER (l.take m)).2.2 + (wgT (l.getD m default)).2.2 + D.2.2) ∧
  ((zER (l.take (m + 1))).1 = (zER (l.take m)).1 + (wgT (l.getD m default)).1 ∧ (zER (l.take (m + 1))).2.1 = (zER (l.take m)).2.1 + (wgT (l.getD m default)).2.1 ∧ (zER (l.take (m + 1))).2.2 = (zER (l.take m)).2.2 + (wgT (l.getD m default)).2.2) := by
 have h1 := zXu l m h
 have h2 : zER l = zM2 (zER (l.take (m + 1))) (zER (l.drop (m + 1))) := by rw [← zUX, List.take_append_drop]
 refine ⟨zER (l.drop (m + 1)), ?_, ?_⟩
 ·rw [h2, h1]; exact ⟨rfl, rfl, rfl⟩
 ·rw [h1]; exact ⟨rfl, rfl, rfl⟩
theorem zXz (l : List St) (m : Nat) (h : m < l.length) : ∃ D : Wt, ∃ T : Wt, T = zER (l.getD m default).tests ∧
  ((zEu l).1 = (zEu (l.take m)).1 + T.1 + D.1 ∧ (zEu l).2.1 = (zEu (l.take m)).2.1 + T.2.1 + D.2.1 ∧ (zEu l).2.2 = (zEu (l.take m)).2.2 + (tgN (l.getD m default).tag + T.2.2) + D.2.2) ∧
  ((zEu (l.take (m + 1))).1 = (zEu (l.take m)).1 + T.1 ∧ (zEu (l.take (m + 1))).2.1 = (zEu (l.take m)).2.1 + T.2.1 ∧ (zEu (l.take (m + 1))).2.2 = (zEu (l.take m)).2.2 + (tgN (l.getD m default).tag + T.2.2)) := by
 have h1 := zXv l m h
 rw [yCM] at h1
 have h2 : zEu l = zM2 (zEu (l.take (m + 1))) (zEu (l.drop (m + 1))) := by rw [← zUY, List.take_append_drop]
 refine ⟨zEu (l.drop (m + 1)), _, rfl, ?_, ?_⟩
 ·rw [h2, h1]; refine ⟨?_, ?_, ?_⟩ <;> simp [zM2, tgN]
 ·rw [h1]; refine ⟨?_, ?_, ?_⟩ <;> simp [zM2, tgN]
theorem zE5 (l : List Pt) (i : Nat) (h : i < l.length) : zBF (l.take (i + 1)) = zBF (l.take i) ++ [wgP (l.getD i default)] := by
 simp only [zBZ]
 rw [zP8 l i default h]
 simp
theorem zXA {p : Pt} {d : Nat} (hd : 1 ≤ d) (h : GP p d) : wle (zEu p.steps) 1000000000 := by
 have h1 := wlP p
 rw [zZm] at h1
 refine h1.mono ?_
 have h2 := yD0 p d hd h
 have htb : tB d ≤ 1229192 := by
  unfold tB
  split
  ·omega
  ·split <;> omega
 omega
set_option maxHeartbeats 32000000 in
theorem zQB (d : Nat) (hd : 1 ≤ d) (hL : ∀ l : List Pt, GL l (d + 1) → ∀ x ∈ l, Contract Tryz.prog zCf [.val (.agg (ptV x))] { res := .val (.agg (wV (wgP x))) }) (p : Pt) (hp : GP p d) : Contract Tryz.prog zCf [.val (.agg (ptV p))] { res := .val (.agg (wV (wgP p))) } := by
 have hm0 : maxLen = 9223372036854775807 := rfl
 obtain ⟨p1, p2, p3, p4, p5⟩ := hp.parts'
 have hW := zXA hd hp
 rw [zZm]
 have hpv := zB5 p
 rw [zB5]
 refine zQj (base := 0) ⟨Nat.le_of_ble_eq_true rfl, Nat.le_of_ble_eq_true rfl, Nat.le_of_ble_eq_true rfl, rfl⟩ (fun hfit => ?_)
 unfold F0 zEv
 simp (maxSteps := 2000000) only [zAS, List.set_cons_succ, List.set_cons_zero, List.map_cons, List.map_nil, zAQ, zAb, ioOf, List.length_cons, List.length_nil, Nat.reduceAdd, Nat.reduceSub, List.replicate, List.cons_append, List.nil_append]
 try simp (maxSteps := 2000000) only [go_sem]
 repeat with_reducible refine zAc ?_
 refine zAz (fun j : Nat => [(88, .pv (.one (bI ((zEu (p.steps.take j)).1 : Nat)))), (89, .pv (.one (bI ((zEu (p.steps.take j)).2.1 : Nat)))), (90, .pv (.one (bI ((zEu (p.steps.take j)).2.2 : Nat)))), (15, .pv (iv j)), (5, .un), (7, .un), (8, .un), (10, .un), (11, .un), (16, .un), (21, .un), (27, .un), (28, .un), (29, .un), (30, .un), (34, .un), (39, .un), (45, .un), (50, .un), (51, .un), (52, .un), (53, .un), (91, .un), (92, .un), (93, .un), (94, .un), (95, .un), (96, .un), (97, .un), (98, .un), (99, .un), (100, .un), (101, .un), (102, .un), (103, .un)]) (fun j : Nat => p.steps.length - j) (fun j : Nat => j ≤ p.steps.length) (0) ?_ (Nat.zero_le _) ?_
 focus (simp (maxSteps := 2000000) only [go_sem, zAg, zAo, zAB, zAd]; all_goals (repeat' (first | exact trivial | exact zAj (by omega) | exact zAi rfl | exact zAx rfl | exact zAp | exact le_refl _ | refine And.intro ?_ ?_)))
 all_goals try exact zGJ (by rw [List.take_zero, zEu]; rfl)
 intro j hj
 try simp (maxSteps := 2000000) only [go_sem]
 repeat with_reducible refine zAc ?_
 refine zAa (by rfl) trivial (fun g1 => ?_) (fun g1 => ?_)
 ·have hjl : j < p.steps.length := by simp at g1; omega
  obtain ⟨SD, TT, hTT, ⟨b1, b2, b3⟩, ⟨e1, e2, e3⟩⟩ := zXz p.steps j hjl
  have hGs := GSs.get p5 j hjl
  have hsv := zHn p.steps j hjl
  obtain ⟨x, hx⟩ : ∃ x, x = p.steps.getD j default := ⟨_, rfl⟩
  rw [← hx] at hGs hsv hTT b3 e3
  subst hTT
  obtain ⟨x1, x2⟩ := hGs.parts'
  obtain ⟨w1, w2, w3⟩ := hW
  try simp (maxSteps := 2000000) only [go_sem, hsv]
  repeat with_reducible refine zAc ?_
  refine zAa (by rfl) trivial (fun g2 => ?_) (fun g2 => ?_)
  ·have hx0 : x.tag ≠ [] := by simpa using g2
   have htg : tgN x.tag = 1 := by unfold tgN; rw [if_neg hx0]
   try simp (maxSteps := 2000000) only [go_sem, hsv]
   repeat with_reducible refine zAc ?_
   refine zAz (fun m : Nat => [(88, .pv (.one (bI (((zEu (p.steps.take j)).1 + (zER (x.tests.take m)).1 : Nat) : Int)))), (89, .pv (.one (bI (((zEu (p.steps.take j)).2.1 + (zER (x.tests.take m)).2.1 : Nat) : Int)))), (90, .pv (.one (bI (((zEu (p.steps.take j)).2.2 + tgN x.tag + (zER (x.tests.take m)).2.2 : Nat) : Int)))), (29, .pv (iv m)), (7, .un), (8, .un), (10, .un), (11, .un), (30, .un), (34, .un), (39, .un), (45, .un), (50, .un), (51, .un), (52, .un), (53, .un), (93, .un), (94, .un), (95, .un), (96, .un), (97, .un), (98, .un), (99, .un), (100, .un), (101, .un), (102, .un), (103, .un)]) (fun m : Nat => x.tests.length - m) (fun m : Nat => m ≤ x.tests.length) (0) ?_ (Nat.zero_le _) ?_
   focus (simp (maxSteps := 2000000) only [go_sem, zAg, zAo, zAB, zAd]; all_goals (repeat' (first | exact trivial | exact zAj (by omega) | exact zAi rfl | exact zAx rfl | exact zAp | exact le_refl _ | refine And.intro ?_ ?_)))
   all_goals try exact zGJ (by simp only [List.take_zero, zU0, htg]; omega)
   intro m hm
   try simp (maxSteps := 2000000) only [go_sem, Nat.zero_add]
   repeat with_reducible refine zAc ?_
   refine zAa (by rfl) trivial (fun g3 => ?_) (fun g3 => ?_)
   ·have hml : m < x.tests.length := by simp at g3; omega
    have htv := zFq x.tests m hml
    have hGt := GTs.get x2 m hml
    obtain ⟨D, ⟨d1, d2, d3⟩, ⟨s1, s2, s3⟩⟩ := zSu x.tests m hml
    obtain ⟨t, ht⟩ : ∃ t, t = x.tests.getD m default := ⟨_, rfl⟩
    rw [← ht] at htv hGt d1 d2 d3 s1 s2 s3
    obtain ⟨t1, t2⟩ := hGt.parts'
    try simp (maxSteps := 2000000) only [go_sem, htv]
    repeat with_reducible refine zAc ?_
    refine zAa (by rfl) trivial (fun q2 => ?_) (fun q2 => ?_)
    ·have hk : t.kind = 2 := by simpa using q2
     have hwT : wgT t = (1, 0, 0) := by rw [zGo, if_pos hk]
     rw [hwT] at d1 d2 d3 s1 s2 s3
     simp only at d1 d2 d3 s1 s2 s3
     try simp (maxSteps := 2000000) only [go_sem]
     repeat with_reducible refine zAc ?_
     refine ⟨m + 1, by omega, by omega, ?_⟩
     simp (maxSteps := 2000000) only [go_sem, zAg, zAo, zAB, zAd]
     all_goals (repeat' (first | exact trivial | exact zAj (by omega) | exact zAi rfl | exact zAx rfl | exact zAp | exact le_refl _ | refine And.intro ?_ ?_))
     all_goals first | exact zAd | exact zAj (by omega) | exact zGJ (by omega) | rfl
    ·have hk2 : t.kind ≠ 2 := by simpa using q2
     try simp (maxSteps := 2000000) only [go_sem]
     repeat with_reducible refine zAc ?_
     refine zAa (by rfl) trivial (fun q13 => ?_) (fun q13 => ?_)
     ·have hk : t.kind = 13 := by simpa using q13
      try simp (maxSteps := 2000000) only [go_sem]
      repeat with_reducible refine zAc ?_
      refine zAa (by rfl) trivial (fun q13b => ?_) (fun q13b => ?_)
      ·have hwT : wgT t = zSE (zBF t.list) := by rw [zGo, if_neg (by omega), if_neg (by omega)]
       have hGL := t2 (by omega)
       have hl5 := hGL.2.2.1
       try simp (maxSteps := 2000000) only [go_sem]
       repeat with_reducible refine zAc ?_
       refine zAz (fun i : Nat => [(8, .own zBw 3 (wsV (zBF (t.list.take i)))), (52, .pv (iv i)), (10, .un), (53, .un), (99, .un), (100, .un)]) (fun i : Nat => t.list.length - i) (fun i : Nat => i ≤ t.list.length) (0) ?_ (Nat.zero_le _) ?_
       focus (simp (maxSteps := 2000000) only [go_sem, zAg, zAo, zAB, zAd]; all_goals (repeat' (first | exact trivial | exact zAj (by omega) | exact zAi rfl | exact zAx rfl | exact zAp | exact le_refl _ | refine And.intro ?_ ?_)))
       all_goals try exact zDh (by rw [List.take_zero, zBF]; rfl)
       intro i hi
       try simp (maxSteps := 2000000) only [go_sem]
       repeat with_reducible refine zAc ?_
       refine zAa (by rfl) trivial (fun g9 => ?_) (fun g9 => ?_)
       ·have hil : i < t.list.length := by simp at g9; omega
        have hwt := zE5 t.list i hil
        have hpg := zDr t.list i hil
        have hmem : t.list.getD i default ∈ t.list := by
         rw [List.getD_eq_getElem?_getD, List.getElem?_eq_getElem hil]; exact List.getElem_mem hil
        obtain ⟨y, hy⟩ : ∃ y, y = t.list.getD i default := ⟨_, rfl⟩
        rw [← hy] at hmem hpg hwt
        have hc := hL _ hGL y hmem
        rw [zB5] at hc
        have hwl : (zBF (t.list.take i)).length ≤ 5 := by rw [zBZ, List.length_map, List.length_take]; omega
        try simp (maxSteps := 2000000) only [go_sem, hpg]
        repeat with_reducible refine zAc ?_
        refine zAf (by repeat' constructor) (hc) ?_
        try simp (maxSteps := 2000000) only [go_sem, wV]
        repeat with_reducible refine zAc ?_
        refine ⟨i + 1, by omega, by omega, ?_⟩
        simp (maxSteps := 2000000) only [go_sem, zAg, zAo, zAB, zAd]
        all_goals (repeat' (first | exact trivial | exact zAj (by omega) | exact zAi rfl | exact zAx rfl | exact zAp | exact le_refl _ | refine And.intro ?_ ?_))
        all_goals first | exact zAd | exact zAj (by omega) | exact zDh (by rw [hwt, zIJ]; rfl) | rfl
       ·have hie : i = t.list.length := by simp at g9; omega
        subst hie
        have hls : ∃ x0 r0, t.list = x0 :: r0 := by
         cases hlc : t.list with
         | nil => rw [hlc] at hGL; exact absurd hGL.2.1 (by simp)
         | cons x0 r0 => exact ⟨x0, r0, rfl⟩
        obtain ⟨x0, r0, hl0⟩ := hls
        have hwp : zBF t.list = wgP x0 :: zBF r0 := by rw [hl0, zBF]
        have hbest : zSE (zBF t.list) = zCr (wgP x0) (zBF r0) := by rw [hwp, zES]
        rw [hbest] at hwT
        have hr0 : (zBF r0).length ≤ 100 := by
         have := hGL.2.2.1
         rw [hl0] at this
         rw [zBZ, List.length_map]
         simp only [List.length_cons] at this
         omega
        have hc := zE4 (wgP x0) (zBF r0) hr0
        rw [← hwp] at hc
        obtain ⟨B, hB⟩ : ∃ B, B = zCr (wgP x0) (zBF r0) := ⟨_, rfl⟩
        rw [← hB] at hc hwT
        rw [hwT] at d1 d2 d3 s1 s2 s3
        try simp (maxSteps := 2000000) only [go_sem, List.take_length]
        repeat with_reducible refine zAc ?_
        refine zAf (by repeat' constructor) (hc) ?_
        try simp (maxSteps := 2000000) only [go_sem, wV]
        repeat with_reducible refine zAc ?_
        refine ⟨m + 1, by omega, by omega, ?_⟩
        simp (maxSteps := 2000000) only [go_sem, zAg, zAo, zAB, zAd]
        all_goals (repeat' (first | exact trivial | exact zAj (by omega) | exact zAi rfl | exact zAx rfl | exact zAp | exact le_refl _ | refine And.intro ?_ ?_))
        all_goals first | exact zAd | exact zAj (by omega) | exact zGJ (by omega) | rfl
      ·rw [q13] at q13b; cases q13b
     ·have hk13 : t.kind ≠ 13 := by simpa using q13
      try simp (maxSteps := 2000000) only [go_sem]
      repeat with_reducible refine zAc ?_
      refine zAa (by rfl) trivial (fun q14 => ?_) (fun q14 => ?_)
      ·have hk : t.kind = 14 := by simpa using q14
       try simp (maxSteps := 2000000) only [go_sem]
       repeat with_reducible refine zAc ?_
       refine zAa (by rfl) trivial (fun q14b => ?_) (fun q14b => ?_)
       ·have hwT : wgT t = zSE (zBF t.list) := by rw [zGo, if_neg (by omega), if_neg (by omega)]
        have hGL := t2 (by omega)
        have hl5 := hGL.2.2.1
        try simp (maxSteps := 2000000) only [go_sem]
        repeat with_reducible refine zAc ?_
        refine zAz (fun i : Nat => [(8, .own zBw 3 (wsV (zBF (t.list.take i)))), (52, .pv (iv i)), (10, .un), (53, .un), (99, .un), (100, .un)]) (fun i : Nat => t.list.length - i) (fun i : Nat => i ≤ t.list.length) (0) ?_ (Nat.zero_le _) ?_
        focus (simp (maxSteps := 2000000) only [go_sem, zAg, zAo, zAB, zAd]; all_goals (repeat' (first | exact trivial | exact zAj (by omega) | exact zAi rfl | exact zAx rfl | exact zAp | exact le_refl _ | refine And.intro ?_ ?_)))
        all_goals try exact zDh (by rw [List.take_zero, zBF]; rfl)
        intro i hi
        try simp (maxSteps := 2000000) only [go_sem]
        repeat with_reducible refine zAc ?_
        refine zAa (by rfl) trivial (fun g9 => ?_) (fun g9 => ?_)
        ·have hil : i < t.list.length := by simp at g9; omega
         have hwt := zE5 t.list i hil
         have hpg := zDr t.list i hil
         have hmem : t.list.getD i default ∈ t.list := by
          rw [List.getD_eq_getElem?_getD, List.getElem?_eq_getElem hil]; exact List.getElem_mem hil
         obtain ⟨y, hy⟩ : ∃ y, y = t.list.getD i default := ⟨_, rfl⟩
         rw [← hy] at hmem hpg hwt
         have hc := hL _ hGL y hmem
         rw [zB5] at hc
         have hwl : (zBF (t.list.take i)).length ≤ 5 := by rw [zBZ, List.length_map, List.length_take]; omega
         try simp (maxSteps := 2000000) only [go_sem, hpg]
         repeat with_reducible refine zAc ?_
         refine zAf (by repeat' constructor) (hc) ?_
         try simp (maxSteps := 2000000) only [go_sem, wV]
         repeat with_reducible refine zAc ?_
         refine ⟨i + 1, by omega, by omega, ?_⟩
         simp (maxSteps := 2000000) only [go_sem, zAg, zAo, zAB, zAd]
         all_goals (repeat' (first | exact trivial | exact zAj (by omega) | exact zAi rfl | exact zAx rfl | exact zAp | exact le_refl _ | refine And.intro ?_ ?_))
         all_goals first | exact zAd | exact zAj (by omega) | exact zDh (by rw [hwt, zIJ]; rfl) | rfl
        ·have hie : i = t.list.length := by simp at g9; omega
         subst hie
         have hls : ∃ x0 r0, t.list = x0 :: r0 := by
          cases hlc : t.list with
          | nil => rw [hlc] at hGL; exact absurd hGL.2.1 (by simp)
          | cons x0 r0 => exact ⟨x0, r0, rfl⟩
         obtain ⟨x0, r0, hl0⟩ := hls
         have hwp : zBF t.list = wgP x0 :: zBF r0 := by rw [hl0, zBF]
         have hbest : zSE (zBF t.list) = zCr (wgP x0) (zBF r0) := by rw [hwp, zES]
         rw [hbest] at hwT
         have hr0 : (zBF r0).length ≤ 100 := by
          have := hGL.2.2.1
          rw [hl0] at this
          rw [zBZ, List.length_map]
          simp only [List.length_cons] at this
          omega
         have hc := zE4 (wgP x0) (zBF r0) hr0
         rw [← hwp] at hc
         obtain ⟨B, hB⟩ : ∃ B, B = zCr (wgP x0) (zBF r0) := ⟨_, rfl⟩
         rw [← hB] at hc hwT
         rw [hwT] at d1 d2 d3 s1 s2 s3
         try simp (maxSteps := 2000000) only [go_sem, List.take_length]
         repeat with_reducible refine zAc ?_
         refine zAf (by repeat' constructor) (hc) ?_
         try simp (maxSteps := 2000000) only [go_sem, wV]
         repeat with_reducible refine zAc ?_
         refine ⟨m + 1, by omega, by omega, ?_⟩
         simp (maxSteps := 2000000) only [go_sem, zAg, zAo, zAB, zAd]
         all_goals (repeat' (first | exact trivial | exact zAj (by omega) | exact zAi rfl | exact zAx rfl | exact zAp | exact le_refl _ | refine And.intro ?_ ?_))
         all_goals first | exact zAd | exact zAj (by omega) | exact zGJ (by omega) | rfl
       ·rw [q14] at q14b; cases q14b
      ·have hk14 : t.kind ≠ 14 := by simpa using q14
       try simp (maxSteps := 2000000) only [go_sem]
       repeat with_reducible refine zAc ?_
       refine zAa (by rfl) trivial (fun q15 => ?_) (fun q15 => ?_)
       ·have hk : t.kind = 15 := by simpa using q15
        have hwT : wgT t = zSE (zBF t.list) := by rw [zGo, if_neg (by omega), if_neg (by omega)]
        have hGL := t2 (by omega)
        have hl5 := hGL.2.2.1
        try simp (maxSteps := 2000000) only [go_sem]
        repeat with_reducible refine zAc ?_
        refine zAz (fun i : Nat => [(8, .own zBw 3 (wsV (zBF (t.list.take i)))), (52, .pv (iv i)), (10, .un), (53, .un), (99, .un), (100, .un)]) (fun i : Nat => t.list.length - i) (fun i : Nat => i ≤ t.list.length) (0) ?_ (Nat.zero_le _) ?_
        focus (simp (maxSteps := 2000000) only [go_sem, zAg, zAo, zAB, zAd]; all_goals (repeat' (first | exact trivial | exact zAj (by omega) | exact zAi rfl | exact zAx rfl | exact zAp | exact le_refl _ | refine And.intro ?_ ?_)))
        all_goals try exact zDh (by rw [List.take_zero, zBF]; rfl)
        intro i hi
        try simp (maxSteps := 2000000) only [go_sem]
        repeat with_reducible refine zAc ?_
        refine zAa (by rfl) trivial (fun g9 => ?_) (fun g9 => ?_)
        ·have hil : i < t.list.length := by simp at g9; omega
         have hwt := zE5 t.list i hil
         have hpg := zDr t.list i hil
         have hmem : t.list.getD i default ∈ t.list := by
          rw [List.getD_eq_getElem?_getD, List.getElem?_eq_getElem hil]; exact List.getElem_mem hil
         obtain ⟨y, hy⟩ : ∃ y, y = t.list.getD i default := ⟨_, rfl⟩
         rw [← hy] at hmem hpg hwt
         have hc := hL _ hGL y hmem
         rw [zB5] at hc
         have hwl : (zBF (t.list.take i)).length ≤ 5 := by rw [zBZ, List.length_map, List.length_take]; omega
         try simp (maxSteps := 2000000) only [go_sem, hpg]
         repeat with_reducible refine zAc ?_
         refine zAf (by repeat' constructor) (hc) ?_
         try simp (maxSteps := 2000000) only [go_sem, wV]
         repeat with_reducible refine zAc ?_
         refine ⟨i + 1, by omega, by omega, ?_⟩
         simp (maxSteps := 2000000) only [go_sem, zAg, zAo, zAB, zAd]
         all_goals (repeat' (first | exact trivial | exact zAj (by omega) | exact zAi rfl | exact zAx rfl | exact zAp | exact le_refl _ | refine And.intro ?_ ?_))
         all_goals first | exact zAd | exact zAj (by omega) | exact zDh (by rw [hwt, zIJ]; rfl) | rfl
        ·have hie : i = t.list.length := by simp at g9; omega
         subst hie
         have hls : ∃ x0 r0, t.list = x0 :: r0 := by
          cases hlc : t.list with
          | nil => rw [hlc] at hGL; exact absurd hGL.2.1 (by simp)
          | cons x0 r0 => exact ⟨x0, r0, rfl⟩
         obtain ⟨x0, r0, hl0⟩ := hls
         have hwp : zBF t.list = wgP x0 :: zBF r0 := by rw [hl0, zBF]
         have hbest : zSE (zBF t.list) = zCr (wgP x0) (zBF r0) := by rw [hwp, zES]
         rw [hbest] at hwT
         have hr0 : (zBF r0).length ≤ 100 := by
          have := hGL.2.2.1
          rw [hl0] at this
          rw [zBZ, List.length_map]
          simp only [List.length_cons] at this
          omega
         have hc := zE4 (wgP x0) (zBF r0) hr0
         rw [← hwp] at hc
         obtain ⟨B, hB⟩ : ∃ B, B = zCr (wgP x0) (zBF r0) := ⟨_, rfl⟩
         rw [← hB] at hc hwT
         rw [hwT] at d1 d2 d3 s1 s2 s3
         try simp (maxSteps := 2000000) only [go_sem, List.take_length]
         repeat with_reducible refine zAc ?_
         refine zAf (by repeat' constructor) (hc) ?_
         try simp (maxSteps := 2000000) only [go_sem, wV]
         repeat with_reducible refine zAc ?_
         refine ⟨m + 1, by omega, by omega, ?_⟩
         simp (maxSteps := 2000000) only [go_sem, zAg, zAo, zAB, zAd]
         all_goals (repeat' (first | exact trivial | exact zAj (by omega) | exact zAi rfl | exact zAx rfl | exact zAp | exact le_refl _ | refine And.intro ?_ ?_))
         all_goals first | exact zAd | exact zAj (by omega) | exact zGJ (by omega) | rfl
       ·have hk15 : t.kind ≠ 15 := by simpa using q15
        have hwT : wgT t = (0, 1, 0) := by rw [zGo, if_neg (by omega), if_pos (by omega)]
        rw [hwT] at d1 d2 d3 s1 s2 s3
        simp only at d1 d2 d3 s1 s2 s3
        try simp (maxSteps := 2000000) only [go_sem]
        repeat with_reducible refine zAc ?_
        refine ⟨m + 1, by omega, by omega, ?_⟩
        simp (maxSteps := 2000000) only [go_sem, zAg, zAo, zAB, zAd]
        all_goals (repeat' (first | exact trivial | exact zAj (by omega) | exact zAi rfl | exact zAx rfl | exact zAp | exact le_refl _ | refine And.intro ?_ ?_))
        all_goals first | exact zAd | exact zAj (by omega) | exact zGJ (by omega) | rfl
   ·have hme : m = x.tests.length := by simp at g3; omega
    subst hme
    try simp (maxSteps := 2000000) only [go_sem]
    repeat with_reducible refine zAc ?_
    rw [List.take_length]
    refine ⟨j + 1, by omega, by omega, ?_⟩
    simp (maxSteps := 2000000) only [go_sem, zAg, zAo, zAB, zAd]
    all_goals (repeat' (first | exact trivial | exact zAj (by omega) | exact zAi rfl | exact zAx rfl | exact zAp | exact le_refl _ | refine And.intro ?_ ?_))
    all_goals first | exact zAd | exact zAj (by omega) | exact zGJ (by omega) | rfl
  ·have hx0 : x.tag = [] := by simpa using g2
   have htg : tgN x.tag = 0 := by unfold tgN; rw [if_pos hx0]
   try simp (maxSteps := 2000000) only [go_sem, hsv]
   repeat with_reducible refine zAc ?_
   refine zAz (fun m : Nat => [(88, .pv (.one (bI (((zEu (p.steps.take j)).1 + (zER (x.tests.take m)).1 : Nat) : Int)))), (89, .pv (.one (bI (((zEu (p.steps.take j)).2.1 + (zER (x.tests.take m)).2.1 : Nat) : Int)))), (90, .pv (.one (bI (((zEu (p.steps.take j)).2.2 + tgN x.tag + (zER (x.tests.take m)).2.2 : Nat) : Int)))), (29, .pv (iv m)), (7, .un), (8, .un), (10, .un), (11, .un), (30, .un), (34, .un), (39, .un), (45, .un), (50, .un), (51, .un), (52, .un), (53, .un), (93, .un), (94, .un), (95, .un), (96, .un), (97, .un), (98, .un), (99, .un), (100, .un), (101, .un), (102, .un), (103, .un)]) (fun m : Nat => x.tests.length - m) (fun m : Nat => m ≤ x.tests.length) (0) ?_ (Nat.zero_le _) ?_
   focus (simp (maxSteps := 2000000) only [go_sem, zAg, zAo, zAB, zAd]; all_goals (repeat' (first | exact trivial | exact zAj (by omega) | exact zAi rfl | exact zAx rfl | exact zAp | exact le_refl _ | refine And.intro ?_ ?_)))
   all_goals try exact zGJ (by simp only [List.take_zero, zU0, htg]; omega)
   intro m hm
   try simp (maxSteps := 2000000) only [go_sem, Nat.zero_add]
   repeat with_reducible refine zAc ?_
   refine zAa (by rfl) trivial (fun g3 => ?_) (fun g3 => ?_)
   ·have hml : m < x.tests.length := by simp at g3; omega
    have htv := zFq x.tests m hml
    have hGt := GTs.get x2 m hml
    obtain ⟨D, ⟨d1, d2, d3⟩, ⟨s1, s2, s3⟩⟩ := zSu x.tests m hml
    obtain ⟨t, ht⟩ : ∃ t, t = x.tests.getD m default := ⟨_, rfl⟩
    rw [← ht] at htv hGt d1 d2 d3 s1 s2 s3
    obtain ⟨t1, t2⟩ := hGt.parts'
    try simp (maxSteps := 2000000) only [go_sem, htv]
    repeat with_reducible refine zAc ?_
    refine zAa (by rfl) trivial (fun q2 => ?_) (fun q2 => ?_)
    ·have hk : t.kind = 2 := by simpa using q2
     have hwT : wgT t = (1, 0, 0) := by rw [zGo, if_pos hk]
     rw [hwT] at d1 d2 d3 s1 s2 s3
     simp only at d1 d2 d3 s1 s2 s3
     try simp (maxSteps := 2000000) only [go_sem]
     repeat with_reducible refine zAc ?_
     refine ⟨m + 1, by omega, by omega, ?_⟩
     simp (maxSteps := 2000000) only [go_sem, zAg, zAo, zAB, zAd]
     all_goals (repeat' (first | exact trivial | exact zAj (by omega) | exact zAi rfl | exact zAx rfl | exact zAp | exact le_refl _ | refine And.intro ?_ ?_))
     all_goals first | exact zAd | exact zAj (by omega) | exact zGJ (by omega) | rfl
    ·have hk2 : t.kind ≠ 2 := by simpa using q2
     try simp (maxSteps := 2000000) only [go_sem]
     repeat with_reducible refine zAc ?_
     refine zAa (by rfl) trivial (fun q13 => ?_) (fun q13 => ?_)
     ·have hk : t.kind = 13 := by simpa using q13
      try simp (maxSteps := 2000000) only [go_sem]
      repeat with_reducible refine zAc ?_
      refine zAa (by rfl) trivial (fun q13b => ?_) (fun q13b => ?_)
      ·have hwT : wgT t = zSE (zBF t.list) := by rw [zGo, if_neg (by omega), if_neg (by omega)]
       have hGL := t2 (by omega)
       have hl5 := hGL.2.2.1
       try simp (maxSteps := 2000000) only [go_sem]
       repeat with_reducible refine zAc ?_
       refine zAz (fun i : Nat => [(8, .own zBw 3 (wsV (zBF (t.list.take i)))), (52, .pv (iv i)), (10, .un), (53, .un), (99, .un), (100, .un)]) (fun i : Nat => t.list.length - i) (fun i : Nat => i ≤ t.list.length) (0) ?_ (Nat.zero_le _) ?_
       focus (simp (maxSteps := 2000000) only [go_sem, zAg, zAo, zAB, zAd]; all_goals (repeat' (first | exact trivial | exact zAj (by omega) | exact zAi rfl | exact zAx rfl | exact zAp | exact le_refl _ | refine And.intro ?_ ?_)))
       all_goals try exact zDh (by rw [List.take_zero, zBF]; rfl)
       intro i hi
       try simp (maxSteps := 2000000) only [go_sem]
       repeat with_reducible refine zAc ?_
       refine zAa (by rfl) trivial (fun g9 => ?_) (fun g9 => ?_)
       ·have hil : i < t.list.length := by simp at g9; omega
        have hwt := zE5 t.list i hil
        have hpg := zDr t.list i hil
        have hmem : t.list.getD i default ∈ t.list := by
         rw [List.getD_eq_getElem?_getD, List.getElem?_eq_getElem hil]; exact List.getElem_mem hil
        obtain ⟨y, hy⟩ : ∃ y, y = t.list.getD i default := ⟨_, rfl⟩
        rw [← hy] at hmem hpg hwt
        have hc := hL _ hGL y hmem
        rw [zB5] at hc
        have hwl : (zBF (t.list.take i)).length ≤ 5 := by rw [zBZ, List.length_map, List.length_take]; omega
        try simp (maxSteps := 2000000) only [go_sem, hpg]
        repeat with_reducible refine zAc ?_
        refine zAf (by repeat' constructor) (hc) ?_
        try simp (maxSteps := 2000000) only [go_sem, wV]
        repeat with_reducible refine zAc ?_
        refine ⟨i + 1, by omega, by omega, ?_⟩
        simp (maxSteps := 2000000) only [go_sem, zAg, zAo, zAB, zAd]
        all_goals (repeat' (first | exact trivial | exact zAj (by omega) | exact zAi rfl | exact zAx rfl | exact zAp | exact le_refl _ | refine And.intro ?_ ?_))
        all_goals first | exact zAd | exact zAj (by omega) | exact zDh (by rw [hwt, zIJ]; rfl) | rfl
       ·have hie : i = t.list.length := by simp at g9; omega
        subst hie
        have hls : ∃ x0 r0, t.list = x0 :: r0 := by
         cases hlc : t.list with
         | nil => rw [hlc] at hGL; exact absurd hGL.2.1 (by simp)
         | cons x0 r0 => exact ⟨x0, r0, rfl⟩
        obtain ⟨x0, r0, hl0⟩ := hls
        have hwp : zBF t.list = wgP x0 :: zBF r0 := by rw [hl0, zBF]
        have hbest : zSE (zBF t.list) = zCr (wgP x0) (zBF r0) := by rw [hwp, zES]
        rw [hbest] at hwT
        have hr0 : (zBF r0).length ≤ 100 := by
         have := hGL.2.2.1
         rw [hl0] at this
         rw [zBZ, List.length_map]
         simp only [List.length_cons] at this
         omega
        have hc := zE4 (wgP x0) (zBF r0) hr0
        rw [← hwp] at hc
        obtain ⟨B, hB⟩ : ∃ B, B = zCr (wgP x0) (zBF r0) := ⟨_, rfl⟩
        rw [← hB] at hc hwT
        rw [hwT] at d1 d2 d3 s1 s2 s3
        try simp (maxSteps := 2000000) only [go_sem, List.take_length]
        repeat with_reducible refine zAc ?_
        refine zAf (by repeat' constructor) (hc) ?_
        try simp (maxSteps := 2000000) only [go_sem, wV]
        repeat with_reducible refine zAc ?_
        refine ⟨m + 1, by omega, by omega, ?_⟩
        simp (maxSteps := 2000000) only [go_sem, zAg, zAo, zAB, zAd]
        all_goals (repeat' (first | exact trivial | exact zAj (by omega) | exact zAi rfl | exact zAx rfl | exact zAp | exact le_refl _ | refine And.intro ?_ ?_))
        all_goals first | exact zAd | exact zAj (by omega) | exact zGJ (by omega) | rfl
      ·rw [q13] at q13b; cases q13b
     ·have hk13 : t.kind ≠ 13 := by simpa using q13
      try simp (maxSteps := 2000000) only [go_sem]
      repeat with_reducible refine zAc ?_
      refine zAa (by rfl) trivial (fun q14 => ?_) (fun q14 => ?_)
      ·have hk : t.kind = 14 := by simpa using q14
       try simp (maxSteps := 2000000) only [go_sem]
       repeat with_reducible refine zAc ?_
       refine zAa (by rfl) trivial (fun q14b => ?_) (fun q14b => ?_)
       ·have hwT : wgT t = zSE (zBF t.list) := by rw [zGo, if_neg (by omega), if_neg (by omega)]
        have hGL := t2 (by omega)
        have hl5 := hGL.2.2.1
        try simp (maxSteps := 2000000) only [go_sem]
        repeat with_reducible refine zAc ?_
        refine zAz (fun i : Nat => [(8, .own zBw 3 (wsV (zBF (t.list.take i)))), (52, .pv (iv i)), (10, .un), (53, .un), (99, .un), (100, .un)]) (fun i : Nat => t.list.length - i) (fun i : Nat => i ≤ t.list.length) (0) ?_ (Nat.zero_le _) ?_
        focus (simp (maxSteps := 2000000) only [go_sem, zAg, zAo, zAB, zAd]; all_goals (repeat' (first | exact trivial | exact zAj (by omega) | exact zAi rfl | exact zAx rfl | exact zAp | exact le_refl _ | refine And.intro ?_ ?_)))
        all_goals try exact zDh (by rw [List.take_zero, zBF]; rfl)
        intro i hi
        try simp (maxSteps := 2000000) only [go_sem]
        repeat with_reducible refine zAc ?_
        refine zAa (by rfl) trivial (fun g9 => ?_) (fun g9 => ?_)
        ·have hil : i < t.list.length := by simp at g9; omega
         have hwt := zE5 t.list i hil
         have hpg := zDr t.list i hil
         have hmem : t.list.getD i default ∈ t.list := by
          rw [List.getD_eq_getElem?_getD, List.getElem?_eq_getElem hil]; exact List.getElem_mem hil
         obtain ⟨y, hy⟩ : ∃ y, y = t.list.getD i default := ⟨_, rfl⟩
         rw [← hy] at hmem hpg hwt
         have hc := hL _ hGL y hmem
         rw [zB5] at hc
         have hwl : (zBF (t.list.take i)).length ≤ 5 := by rw [zBZ, List.length_map, List.length_take]; omega
         try simp (maxSteps := 2000000) only [go_sem, hpg]
         repeat with_reducible refine zAc ?_
         refine zAf (by repeat' constructor) (hc) ?_
         try simp (maxSteps := 2000000) only [go_sem, wV]
         repeat with_reducible refine zAc ?_
         refine ⟨i + 1, by omega, by omega, ?_⟩
         simp (maxSteps := 2000000) only [go_sem, zAg, zAo, zAB, zAd]
         all_goals (repeat' (first | exact trivial | exact zAj (by omega) | exact zAi rfl | exact zAx rfl | exact zAp | exact le_refl _ | refine And.intro ?_ ?_))
         all_goals first | exact zAd | exact zAj (by omega) | exact zDh (by rw [hwt, zIJ]; rfl) | rfl
        ·have hie : i = t.list.length := by simp at g9; omega
         subst hie
         have hls : ∃ x0 r0, t.list = x0 :: r0 := by
          cases hlc : t.list with
          | nil => rw [hlc] at hGL; exact absurd hGL.2.1 (by simp)
          | cons x0 r0 => exact ⟨x0, r0, rfl⟩
         obtain ⟨x0, r0, hl0⟩ := hls
         have hwp : zBF t.list = wgP x0 :: zBF r0 := by rw [hl0, zBF]
         have hbest : zSE (zBF t.list) = zCr (wgP x0) (zBF r0) := by rw [hwp, zES]
         rw [hbest] at hwT
         have hr0 : (zBF r0).length ≤ 100 := by
          have := hGL.2.2.1
          rw [hl0] at this
          rw [zBZ, List.length_map]
          simp only [List.length_cons] at this
          omega
         have hc := zE4 (wgP x0) (zBF r0) hr0
         rw [← hwp] at hc
         obtain ⟨B, hB⟩ : ∃ B, B = zCr (wgP x0) (zBF r0) := ⟨_, rfl⟩
         rw [← hB] at hc hwT
         rw [hwT] at d1 d2 d3 s1 s2 s3
         try simp (maxSteps := 2000000) only [go_sem, List.take_length]
         repeat with_reducible refine zAc ?_
         refine zAf (by repeat' constructor) (hc) ?_
         try simp (maxSteps := 2000000) only [go_sem, wV]
         repeat with_reducible refine zAc ?_
         refine ⟨m + 1, by omega, by omega, ?_⟩
         simp (maxSteps := 2000000) only [go_sem, zAg, zAo, zAB, zAd]
         all_goals (repeat' (first | exact trivial | exact zAj (by omega) | exact zAi rfl | exact zAx rfl | exact zAp | exact le_refl _ | refine And.intro ?_ ?_))
         all_goals first | exact zAd | exact zAj (by omega) | exact zGJ (by omega) | rfl
       ·rw [q14] at q14b; cases q14b
      ·have hk14 : t.kind ≠ 14 := by simpa using q14
       try simp (maxSteps := 2000000) only [go_sem]
       repeat with_reducible refine zAc ?_
       refine zAa (by rfl) trivial (fun q15 => ?_) (fun q15 => ?_)
       ·have hk : t.kind = 15 := by simpa using q15
        have hwT : wgT t = zSE (zBF t.list) := by rw [zGo, if_neg (by omega), if_neg (by omega)]
        have hGL := t2 (by omega)
        have hl5 := hGL.2.2.1
        try simp (maxSteps := 2000000) only [go_sem]
        repeat with_reducible refine zAc ?_
        refine zAz (fun i : Nat => [(8, .own zBw 3 (wsV (zBF (t.list.take i)))), (52, .pv (iv i)), (10, .un), (53, .un), (99, .un), (100, .un)]) (fun i : Nat => t.list.length - i) (fun i : Nat => i ≤ t.list.length) (0) ?_ (Nat.zero_le _) ?_
        focus (simp (maxSteps := 2000000) only [go_sem, zAg, zAo, zAB, zAd]; all_goals (repeat' (first | exact trivial | exact zAj (by omega) | exact zAi rfl | exact zAx rfl | exact zAp | exact le_refl _ | refine And.intro ?_ ?_)))
        all_goals try exact zDh (by rw [List.take_zero, zBF]; rfl)
        intro i hi
        try simp (maxSteps := 2000000) only [go_sem]
        repeat with_reducible refine zAc ?_
        refine zAa (by rfl) trivial (fun g9 => ?_) (fun g9 => ?_)
        ·have hil : i < t.list.length := by simp at g9; omega
         have hwt := zE5 t.list i hil
         have hpg := zDr t.list i hil
         have hmem : t.list.getD i default ∈ t.list := by
          rw [List.getD_eq_getElem?_getD, List.getElem?_eq_getElem hil]; exact List.getElem_mem hil
         obtain ⟨y, hy⟩ : ∃ y, y = t.list.getD i default := ⟨_, rfl⟩
         rw [← hy] at hmem hpg hwt
         have hc := hL _ hGL y hmem
         rw [zB5] at hc
         have hwl : (zBF (t.list.take i)).length ≤ 5 := by rw [zBZ, List.length_map, List.length_take]; omega
         try simp (maxSteps := 2000000) only [go_sem, hpg]
         repeat with_reducible refine zAc ?_
         refine zAf (by repeat' constructor) (hc) ?_
         try simp (maxSteps := 2000000) only [go_sem, wV]
         repeat with_reducible refine zAc ?_
         refine ⟨i + 1, by omega, by omega, ?_⟩
         simp (maxSteps := 2000000) only [go_sem, zAg, zAo, zAB, zAd]
         all_goals (repeat' (first | exact trivial | exact zAj (by omega) | exact zAi rfl | exact zAx rfl | exact zAp | exact le_refl _ | refine And.intro ?_ ?_))
         all_goals first | exact zAd | exact zAj (by omega) | exact zDh (by rw [hwt, zIJ]; rfl) | rfl
        ·have hie : i = t.list.length := by simp at g9; omega
         subst hie
         have hls : ∃ x0 r0, t.list = x0 :: r0 := by
          cases hlc : t.list with
          | nil => rw [hlc] at hGL; exact absurd hGL.2.1 (by simp)
          | cons x0 r0 => exact ⟨x0, r0, rfl⟩
         obtain ⟨x0, r0, hl0⟩ := hls
         have hwp : zBF t.list = wgP x0 :: zBF r0 := by rw [hl0, zBF]
         have hbest : zSE (zBF t.list) = zCr (wgP x0) (zBF r0) := by rw [hwp, zES]
         rw [hbest] at hwT
         have hr0 : (zBF r0).length ≤ 100 := by
          have := hGL.2.2.1
          rw [hl0] at this
          rw [zBZ, List.length_map]
          simp only [List.length_cons] at this
          omega
         have hc := zE4 (wgP x0) (zBF r0) hr0
         rw [← hwp] at hc
         obtain ⟨B, hB⟩ : ∃ B, B = zCr (wgP x0) (zBF r0) := ⟨_, rfl⟩
         rw [← hB] at hc hwT
         rw [hwT] at d1 d2 d3 s1 s2 s3
         try simp (maxSteps := 2000000) only [go_sem, List.take_length]
         repeat with_reducible refine zAc ?_
         refine zAf (by repeat' constructor) (hc) ?_
         try simp (maxSteps := 2000000) only [go_sem, wV]
         repeat with_reducible refine zAc ?_
         refine ⟨m + 1, by omega, by omega, ?_⟩
         simp (maxSteps := 2000000) only [go_sem, zAg, zAo, zAB, zAd]
         all_goals (repeat' (first | exact trivial | exact zAj (by omega) | exact zAi rfl | exact zAx rfl | exact zAp | exact le_refl _ | refine And.intro ?_ ?_))
         all_goals first | exact zAd | exact zAj (by omega) | exact zGJ (by omega) | rfl
       ·have hk15 : t.kind ≠ 15 := by simpa using q15
        have hwT : wgT t = (0, 1, 0) := by rw [zGo, if_neg (by omega), if_pos (by omega)]
        rw [hwT] at d1 d2 d3 s1 s2 s3
        simp only at d1 d2 d3 s1 s2 s3
        try simp (maxSteps := 2000000) only [go_sem]
        repeat with_reducible refine zAc ?_
        refine ⟨m + 1, by omega, by omega, ?_⟩
        simp (maxSteps := 2000000) only [go_sem, zAg, zAo, zAB, zAd]
        all_goals (repeat' (first | exact trivial | exact zAj (by omega) | exact zAi rfl | exact zAx rfl | exact zAp | exact le_refl _ | refine And.intro ?_ ?_))
        all_goals first | exact zAd | exact zAj (by omega) | exact zGJ (by omega) | rfl
   ·have hme : m = x.tests.length := by simp at g3; omega
    subst hme
    try simp (maxSteps := 2000000) only [go_sem]
    repeat with_reducible refine zAc ?_
    rw [List.take_length]
    refine ⟨j + 1, by omega, by omega, ?_⟩
    simp (maxSteps := 2000000) only [go_sem, zAg, zAo, zAB, zAd]
    all_goals (repeat' (first | exact trivial | exact zAj (by omega) | exact zAi rfl | exact zAx rfl | exact zAp | exact le_refl _ | refine And.intro ?_ ?_))
    all_goals first | exact zAd | exact zAj (by omega) | exact zGJ (by omega) | rfl
 ·have hje : j = p.steps.length := by simp at g1; omega
  subst hje
  rw [List.take_length]
  try simp (maxSteps := 2000000) only [go_sem]
  repeat with_reducible refine zAc ?_
  exact zGZ rfl rfl rfl
theorem zOl : ∀ n d : Nat, 1 ≤ d → d + n = 4 → d ≤ 3 → ∀ p : Pt, GP p d → Contract Tryz.prog zCf [.val (.agg (ptV p))] { res := .val (.agg (wV (wgP p))) }
 | 0, d, hd, hn, h3 => by omega
 | n + 1, d, hd, hn, h3 => fun p hp => zQB d hd (fun l hl x hx => by
   have h4 := hl.1
   obtain ⟨i, hi, rfl⟩ := List.getElem_of_mem hx
   have hg := GPs.get hl.2.2.2 i hi
   have he : l.getD i default = l[i] := by simp [List.getD_eq_getElem?_getD, hi]
   rw [he] at hg
   exact zOl n (d + 1) (by omega) (by omega) h4 _ hg) p hp
def wOf (p : Pt) : Wt := if zBB [p] = 0 then wgP p else (0, 0, 0)
theorem zSv (p : Pt) : Contract Tryz.prog zFw [.val (.agg (ptV p))] { res := .tup [.agg (wV (wOf p)), iv (zBB [p])] } := by
 have hc := zCG [p]
 have hl : zCp [p] = .one (.sl 2 [ptV p]) := rfl
 rw [hl, zB5] at hc
 have hw := zOl 3 1 (Nat.le_refl _) rfl (by omega) p
 rw [zB5] at hw
 unfold wOf
 rw [zB5]
 refine zQp (base := 0) ⟨Nat.le_of_ble_eq_true rfl, Nat.le_of_ble_eq_true rfl, Nat.le_of_ble_eq_true rfl, rfl⟩ (fun hfit => ?_)
 unfold F0 zEw
 simp (maxSteps := 2000000) only [zAS, List.set_cons_succ, List.set_cons_zero, List.map_cons, List.map_nil, zAQ, zAb, ioOf, List.length_cons, List.length_nil, Nat.reduceAdd, Nat.reduceSub, List.replicate, List.cons_append, List.nil_append]
 try simp (maxSteps := 2000000) only [go_sem]
 repeat with_reducible refine zAc ?_
 refine zAf (by repeat' constructor) (hc) ?_
 try simp (maxSteps := 2000000) only [go_sem]
 repeat with_reducible refine zAc ?_
 refine zAa (by rfl) trivial (fun h1 => ?_) (fun h1 => ?_)
 ·have hne : ¬ zBB [p] = 0 := by simpa using h1
  rw [if_neg hne]
  try simp (maxSteps := 2000000) only [go_sem]
  repeat with_reducible refine zAc ?_
  exact zCS (by simp) ⟨zBc rfl rfl (.inl rfl), zBa rfl trivial (.inl rfl), rfl⟩
 ·have hne : zBB [p] = 0 := by simpa using h1
  have hw := hw (yDX hne)
  rw [if_pos hne]
  try simp (maxSteps := 2000000) only [go_sem]
  repeat with_reducible refine zAc ?_
  refine zAf (by repeat' constructor) (hw) ?_
  try simp (maxSteps := 2000000) only [go_sem, wV]
  repeat with_reducible refine zAc ?_
  exact zCS (by simp) ⟨zBc rfl rfl (.inl rfl), zBa rfl trivial (.inl (by rw [hne])), rfl⟩
end Go.Hx
end
