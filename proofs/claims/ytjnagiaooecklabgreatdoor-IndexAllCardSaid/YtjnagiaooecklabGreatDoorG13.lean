/-
  Walks of functions of the program over an abstract layer, and the laws that they use: each contract says what the function computes, for every input that its conditions let by. No other condition.
-/
import Derived.Test.YtjnagiaooecklabGreatDoorG10
import Derived.Test.YtjnagiaooecklabGreatDoorG12
import Derived.Test.YtjnagiaooecklabGreatDoorG11
import Derived.Test.YtjnagiaooecklabGreatDoorProg
set_option linter.all false
section
set_option maxRecDepth 100000
set_option linter.unusedSimpArgs false
set_option maxHeartbeats 4000000
namespace Go.Hx
open Go.Proofs
variable [Glob]
attribute [local go_sem] zAq zAo zAp zAg ndV zAl zAh
attribute [local go_sem] reduceCtorEq Nat.reduceAdd Nat.reduceEqDiff reduceIte Nat.reduceLeDiff Nat.reduceLT Nat.reduceSub
def yAb (e : Ent) : List PV := [bI e.kind, bS e.name, .sl 1 (zAS e.nodes)]
def zDm (l : List Ent) : List (List PV) := l.map yAb
theorem zCE (l : List Ent) : (zDm l).length = l.length := by simp [zDm]
theorem zOU (l : List Ent) (i : Nat) (h : i < l.length) : (zDm l).getD i [] = yAb (l.getD i default) := by simp [zDm, h]
theorem yA2 (a : Int) : Contract Tryz.prog zCI [.val (iv a)] { res := .val (bv false) } := by
 refine mkA zNa (base := 0) (fo rfl) (fun hfit => ?_)
 unfold F0 zHY
 simp (maxSteps := 2000000) only [zAH, List.set_cons_succ, List.set_cons_zero, List.map_cons, List.map_nil, zAG, zAa, ioOf, List.length_cons, List.length_nil, Nat.reduceAdd, Nat.reduceSub, List.replicate, List.cons_append, List.nil_append]
 try simp (maxSteps := 2000000) only [go_sem]
 repeat with_reducible refine zAb ?_
 have e : (a != a) = false := by simp
 try simp (maxSteps := 2000000) only [go_sem, e]
 repeat with_reducible refine zAb ?_
 exact zAe rfl trivial (.inl rfl)
theorem zVQ (a : Bys) : Contract Tryz.prog zBY [.val (sv a)] { res := .val (bv false) } := by
 refine mkA zJW (base := 0) (fo rfl) (fun hfit => ?_)
 unfold F0 zE0
 simp (maxSteps := 2000000) only [zAH, List.set_cons_succ, List.set_cons_zero, List.map_cons, List.map_nil, zAG, zAa, ioOf, List.length_cons, List.length_nil, Nat.reduceAdd, Nat.reduceSub, List.replicate, List.cons_append, List.nil_append]
 try simp (maxSteps := 2000000) only [go_sem]
 repeat with_reducible refine zAb ?_
 have e : (a == a) = true := by simp
 try simp (maxSteps := 2000000) only [go_sem, e, Bool.not_true]
 repeat with_reducible refine zAb ?_
 exact zAe rfl trivial (.inl rfl)
def yCH (a b : Int) : Int := if a < b then -1 else if a > b then 1 else 0
theorem yA3 (a b : Int) : Contract Tryz.prog zDi [.val (iv a), .val (iv b)] { res := .val (iv (yCH a b)) } := by
 unfold yCH
 refine mkA zLb (base := 0) (fo rfl) (fun hfit => ?_)
 unfold F0 zF9
 simp (maxSteps := 2000000) only [zAH, List.set_cons_succ, List.set_cons_zero, List.map_cons, List.map_nil, zAG, zAa, ioOf, List.length_cons, List.length_nil, Nat.reduceAdd, Nat.reduceSub, List.replicate, List.cons_append, List.nil_append]
 try simp (maxSteps := 2000000) only [go_sem]
 repeat with_reducible refine zAb ?_
 refine zAu (by repeat' constructor) (yA2 a) ?_
 try simp (maxSteps := 2000000) only [go_sem]
 repeat with_reducible refine zAb ?_
 refine zAu (by repeat' constructor) (yA2 b) ?_
 try simp (maxSteps := 2000000) only [go_sem]
 repeat with_reducible refine zAb ?_
 refine zAc (by rfl) trivial (fun h1 => ?_) (fun h1 => ?_)
 ·cases h1
 ·try simp (maxSteps := 2000000) only [go_sem]
  repeat with_reducible refine zAb ?_
  refine zAc (by rfl) trivial (fun h2 => ?_) (fun h2 => ?_)
  ·cases h2
  ·try simp (maxSteps := 2000000) only [go_sem]
   repeat with_reducible refine zAb ?_
   refine zAc (by rfl) trivial (fun h3 => ?_) (fun h3 => ?_)
   ·rw [if_pos (by simpa using h3)]
    try simp (maxSteps := 2000000) only [go_sem]
    repeat with_reducible refine zAb ?_
    exact zAe rfl trivial (.inl rfl)
   ·rw [if_neg (by simpa using h3)]
    try simp (maxSteps := 2000000) only [go_sem]
    repeat with_reducible refine zAb ?_
    refine zAc (by rfl) trivial (fun h4 => ?_) (fun h4 => ?_)
    ·rw [if_pos (by simpa using h4)]
     try simp (maxSteps := 2000000) only [go_sem]
     repeat with_reducible refine zAb ?_
     exact zAe rfl trivial (.inl rfl)
    ·rw [if_neg (by simpa using h4)]
     try simp (maxSteps := 2000000) only [go_sem]
     repeat with_reducible refine zAb ?_
     exact zAe rfl trivial (.inl rfl)
def yFy (a b : Bys) : Int := if Op.bytesLess a b then -1 else if a = b then 0 else 1
theorem zXF (a b : Bys) : Contract Tryz.prog zCi [.val (sv a), .val (sv b)] { res := .val (iv (yFy a b)) } := by
 unfold yFy
 refine mkA zH9 (base := 0) (fo rfl) (fun hfit => ?_)
 unfold F0 zDW
 simp (maxSteps := 2000000) only [zAH, List.set_cons_succ, List.set_cons_zero, List.map_cons, List.map_nil, zAG, zAa, ioOf, List.length_cons, List.length_nil, Nat.reduceAdd, Nat.reduceSub, List.replicate, List.cons_append, List.nil_append]
 try simp (maxSteps := 2000000) only [go_sem]
 repeat with_reducible refine zAb ?_
 refine zAu (by repeat' constructor) (zVQ a) ?_
 try simp (maxSteps := 2000000) only [go_sem]
 repeat with_reducible refine zAb ?_
 refine zAu (by repeat' constructor) (zVQ b) ?_
 try simp (maxSteps := 2000000) only [go_sem]
 repeat with_reducible refine zAb ?_
 refine zAc (by rfl) trivial (fun h1 => ?_) (fun h1 => ?_)
 ·cases h1
 ·try simp (maxSteps := 2000000) only [go_sem]
  repeat with_reducible refine zAb ?_
  refine zAc (by rfl) trivial (fun h2 => ?_) (fun h2 => ?_)
  ·cases h2
  ·try simp (maxSteps := 2000000) only [go_sem]
   repeat with_reducible refine zAb ?_
   refine zAc (by rfl) trivial (fun h3 => ?_) (fun h3 => ?_)
   ·rw [if_pos h3]
    try simp (maxSteps := 2000000) only [go_sem]
    repeat with_reducible refine zAb ?_
    exact zAe rfl trivial (.inl rfl)
   ·rw [if_neg (by rw [h3]; decide)]
    try simp (maxSteps := 2000000) only [go_sem]
    repeat with_reducible refine zAb ?_
    refine zAc (by rfl) trivial (fun h4 => ?_) (fun h4 => ?_)
    ·rw [if_neg (by rintro rfl; simp at h4)]
     try simp (maxSteps := 2000000) only [go_sem]
     repeat with_reducible refine zAb ?_
     exact zAe rfl trivial (.inl rfl)
    ·rw [if_pos (by simp [h3] at h4; exact h4)]
     try simp (maxSteps := 2000000) only [go_sem]
     repeat with_reducible refine zAb ?_
     exact zAe rfl trivial (.inl rfl)
theorem yIQ (x y : Int) : Contract Tryz.prog zGr [.val (.one (.sl 1 [[bI x], [bI y]]))] { res := .val (iv (if x ≠ 0 then x else y)) } := by
 refine mkA zTg (base := 0) (fo rfl) (fun hfit => ?_)
 unfold F0 zMN
 simp (maxSteps := 2000000) only [zAH, List.set_cons_succ, List.set_cons_zero, List.map_cons, List.map_nil, zAG, zAa, ioOf, List.length_cons, List.length_nil, Nat.reduceAdd, Nat.reduceSub, List.replicate, List.cons_append, List.nil_append]
 try simp (maxSteps := 2000000) only [go_sem]
 repeat with_reducible refine zAb ?_
 refine zAv (fun i : Nat => [(8, .pv (iv i)), (2, .un), (5, .un), (9, .un), (14, .un)]) (fun i : Nat => 2 - i) (fun i : Nat => i ≤ 2 ∧ (1 ≤ i → x = 0) ∧ (2 ≤ i → y = 0)) (0) ?_ ⟨Nat.zero_le _, fun h => (by omega), fun h => (by omega)⟩ ?_
 focus (simp (maxSteps := 2000000) only [go_sem, zAi, zAs, zAF, zAj]; all_goals (repeat' (first | exact trivial | exact zAr (by omega) | exact zAk rfl | exact zAw rfl | exact zAt | exact le_refl _ | refine And.intro ?_ ?_)))
 rintro i ⟨hi, hx, hy⟩
 rcases (by omega : i = 0 ∨ i = 1 ∨ i = 2) with rfl | rfl | rfl
 ·try simp (maxSteps := 2000000) only [go_sem, List.getD_cons_zero, List.length_cons, List.length_nil]
  repeat with_reducible refine zAb ?_
  refine zAc (by rfl) trivial (fun g1 => ?_) (fun g1 => ?_)
  ·try simp (maxSteps := 2000000) only [go_sem, List.getD_cons_zero, List.length_cons, List.length_nil]
   repeat with_reducible refine zAb ?_
   refine zAc (by rfl) trivial (fun g2 => ?_) (fun g2 => ?_)
   ·rw [if_pos (by simpa using g2)]
    try simp (maxSteps := 2000000) only [go_sem]
    repeat with_reducible refine zAb ?_
    exact zAe rfl trivial (.inl rfl)
   ·have h0 : x = 0 := by simpa using g2
    try simp (maxSteps := 2000000) only [go_sem]
    repeat with_reducible refine zAb ?_
    refine ⟨1, by omega, ⟨by omega, fun _ => h0, fun h => (by omega)⟩, ?_⟩
    simp (maxSteps := 2000000) only [go_sem, zAi, zAs, zAF, zAj]
    all_goals (repeat' (first | exact trivial | exact zAr (by omega) | exact zAk rfl | exact zAw rfl | exact zAt | exact le_refl _ | refine And.intro ?_ ?_))
  ·simp at g1
 ·try simp (maxSteps := 2000000) only [go_sem, List.getD_cons_zero, List.getD_cons_succ, List.length_cons, List.length_nil]
  repeat with_reducible refine zAb ?_
  refine zAc (by rfl) trivial (fun g1 => ?_) (fun g1 => ?_)
  ·try simp (maxSteps := 2000000) only [go_sem, List.getD_cons_zero, List.getD_cons_succ, List.length_cons, List.length_nil]
   repeat with_reducible refine zAb ?_
   refine zAc (by rfl) trivial (fun g2 => ?_) (fun g2 => ?_)
   ·rw [if_neg (by simpa using hx (by omega))]
    try simp (maxSteps := 2000000) only [go_sem]
    repeat with_reducible refine zAb ?_
    exact zAe rfl trivial (.inl rfl)
   ·have h0 : y = 0 := by simpa using g2
    try simp (maxSteps := 2000000) only [go_sem]
    repeat with_reducible refine zAb ?_
    refine ⟨2, by omega, ⟨by omega, fun _ => hx (by omega), fun _ => h0⟩, ?_⟩
    simp (maxSteps := 2000000) only [go_sem, zAi, zAs, zAF, zAj]
    all_goals (repeat' (first | exact trivial | exact zAr (by omega) | exact zAk rfl | exact zAw rfl | exact zAt | exact le_refl _ | refine And.intro ?_ ?_))
  ·simp at g1
 ·try simp (maxSteps := 2000000) only [go_sem, List.length_cons, List.length_nil]
  repeat with_reducible refine zAb ?_
  refine zAc (by rfl) trivial (fun g1 => ?_) (fun g1 => ?_)
  ·simp at g1
  ·try simp (maxSteps := 2000000) only [go_sem]
   repeat with_reducible refine zAb ?_
   rw [if_neg (by simpa using hx (by omega)), hy (by omega)]
   exact zAe rfl trivial (.inl rfl)
def yBP (a b : Key) : Int := if yCH a.1 b.1 ≠ 0 then yCH a.1 b.1 else yFy a.2 b.2
theorem zYP (k k' : Int) (n n' : Bys) (z z' : PV) : Contract Tryz.prog zBd [.val (.agg [bI k, bS n, z]), .val (.agg [bI k', bS n', z'])] { res := .val (iv (yBP (k, n) (k', n'))) } := by
 have h1 := yA3 k k'
 have h2 := zXF n n'
 have h3 := yIQ (yCH k k') (yFy n n')
 refine mkA zP8 (base := 0) (fo rfl) (fun hfit => ?_)
 unfold F0 zLd
 simp (maxSteps := 2000000) only [zAH, List.set_cons_succ, List.set_cons_zero, List.map_cons, List.map_nil, zAG, zAa, ioOf, List.length_cons, List.length_nil, Nat.reduceAdd, Nat.reduceSub, List.replicate, List.cons_append, List.nil_append]
 try simp (maxSteps := 2000000) only [go_sem]
 repeat with_reducible refine zAb ?_
 refine zAu (by repeat' constructor) (h1) ?_
 try simp (maxSteps := 2000000) only [go_sem]
 repeat with_reducible refine zAb ?_
 refine zAu (by repeat' constructor) (h2) ?_
 try simp (maxSteps := 2000000) only [go_sem]
 repeat with_reducible refine zAb ?_
 refine zAu (by repeat' constructor) (h3) ?_
 try simp (maxSteps := 2000000) only [go_sem]
 repeat with_reducible refine zAb ?_
 exact zAe rfl trivial (.inl rfl)
theorem yEV (a b : Ent) : Contract Tryz.prog zBd [.val (.agg (yAb a)), .val (.agg (yAb b))] { res := .val (iv (yBP a.key b.key)) } := zYP a.kind b.kind a.name b.name _ _
theorem zRk (a b : Int) : (a < b ∧ yCH a b = -1) ∨ (a = b ∧ yCH a b = 0) ∨ (b < a ∧ yCH a b = 1) := by
 unfold yCH
 rcases Int.lt_trichotomy a b with h | h | h
 ·exact .inl ⟨h, by rw [if_pos h]⟩
 ·exact .inr (.inl ⟨h, by rw [if_neg (by omega), if_neg (by omega)]⟩)
 ·exact .inr (.inr ⟨h, by rw [if_neg (by omega), if_pos h]⟩)
theorem yCI (a b : Key) : yBP a b < 0 ↔ zA8 a b = true := by
 unfold yBP zA8
 rcases zRk a.1 b.1 with ⟨h, e⟩ | ⟨h, e⟩ | ⟨h, e⟩
 ·rw [e, if_pos (by decide), if_neg (by omega)]
  simp [h]
 ·rw [e, if_neg (by decide), if_pos h]
  unfold yFy
  cases hb : Op.bytesLess a.2 b.2 with
  |true => simp
  |false =>
   rw [if_neg (by decide)]
   split <;> simp
 ·rw [e, if_pos (by decide), if_neg (by omega)]
  simp; omega
theorem yA4 (a b : Key) : yBP a b = 0 ↔ a = b := by
 unfold yBP
 rcases zRk a.1 b.1 with ⟨h, e⟩ | ⟨h, e⟩ | ⟨h, e⟩
 ·rw [e, if_pos (by decide)]
  simp
  intro h2; rw [h2] at h; omega
 ·rw [e, if_neg (by decide)]
  unfold yFy
  constructor
  ·intro g
   split at g
   ·cases g
   ·split at g
    ·rename_i h2; exact Prod.ext h h2
    ·cases g
  ·rintro rfl
   rw [zOc, if_neg (by decide), if_pos rfl]
 ·rw [e, if_pos (by decide)]
  simp
  intro h2; rw [h2] at h; omega
end Go.Hx
end

section
set_option maxRecDepth 100000
set_option linter.unusedSimpArgs false
namespace Go.Hx
open Go.Proofs
variable [Glob]
attribute [local go_sem] zAq zAo zAp zAg ndV zAl zAh fdV Fd.add fM fF fR fK Nat.add_zero
attribute [local go_sem] reduceCtorEq Nat.reduceAdd Nat.reduceEqDiff reduceIte Nat.reduceLeDiff Nat.reduceLT Nat.reduceSub
theorem zB5 {F : List Ct} {E : Env} {base : Nat} {av : List AV} {cells io : List PV} (hio : ioOf av = some cells) (hc : zAO F base cells.length = some io) : zZ8 E base av [] { res := .tup [], io := io } .normal F :=
 ⟨rfl, fun cs h => by rw [hio] at h; injection h with h; subst h; exact hc⟩
theorem zTN (c : Fd) (b : Bool) (h : c.m ≤ 1000000000) : Contract Tryz.prog zAx [.io (fdV c), .val (bv b), .val (iv 2)] { res := .tup [], io := fdV (c.add (fM b)) } := by
 unfold fdV
 refine mkA zCo (base := 17) ⟨Nat.le_of_ble_eq_true rfl, Nat.le_of_ble_eq_true rfl, Nat.le_of_ble_eq_true rfl, ⟨rfl, rfl⟩⟩ (fun hfit => ?_)
 unfold F0 zB0
 simp (maxSteps := 2000000) only [zAH, List.set_cons_succ, List.set_cons_zero, List.map_cons, List.map_nil, zAG, zAa, ioOf, List.length_cons, List.length_nil, Nat.reduceAdd, Nat.reduceSub, List.replicate, List.cons_append, List.nil_append]
 try simp (maxSteps := 2000000) only [go_sem]
 repeat with_reducible refine zAb ?_
 refine zAc (by rfl) trivial (fun hb => ?_) (fun hb => ?_)
 ·subst hb
  try simp (maxSteps := 2000000) only [go_sem, Int.reduceToNat]
  repeat with_reducible refine zAb ?_
  exact zB5 rfl rfl
 ·subst hb
  try simp (maxSteps := 2000000) only [go_sem]
  repeat with_reducible refine zAb ?_
  exact zB5 rfl rfl
theorem zNv (c : Fd) (b : Bool) (h : c.f ≤ 1000000000) : Contract Tryz.prog zAx [.io (fdV c), .val (bv b), .val (iv 1)] { res := .tup [], io := fdV (c.add (fF b)) } := by
 unfold fdV
 refine mkA zCo (base := 17) ⟨Nat.le_of_ble_eq_true rfl, Nat.le_of_ble_eq_true rfl, Nat.le_of_ble_eq_true rfl, ⟨rfl, rfl⟩⟩ (fun hfit => ?_)
 unfold F0 zB0
 simp (maxSteps := 2000000) only [zAH, List.set_cons_succ, List.set_cons_zero, List.map_cons, List.map_nil, zAG, zAa, ioOf, List.length_cons, List.length_nil, Nat.reduceAdd, Nat.reduceSub, List.replicate, List.cons_append, List.nil_append]
 try simp (maxSteps := 2000000) only [go_sem]
 repeat with_reducible refine zAb ?_
 refine zAc (by rfl) trivial (fun hb => ?_) (fun hb => ?_)
 ·subst hb
  try simp (maxSteps := 2000000) only [go_sem, Int.reduceToNat]
  repeat with_reducible refine zAb ?_
  exact zB5 rfl rfl
 ·subst hb
  try simp (maxSteps := 2000000) only [go_sem]
  repeat with_reducible refine zAb ?_
  exact zB5 rfl rfl
theorem yCJ (c : Fd) (b : Bool) (h : c.r ≤ 1000000000) : Contract Tryz.prog zAx [.io (fdV c), .val (bv b), .val (iv 3)] { res := .tup [], io := fdV (c.add (fR b)) } := by
 unfold fdV
 refine mkA zCo (base := 17) ⟨Nat.le_of_ble_eq_true rfl, Nat.le_of_ble_eq_true rfl, Nat.le_of_ble_eq_true rfl, ⟨rfl, rfl⟩⟩ (fun hfit => ?_)
 unfold F0 zB0
 simp (maxSteps := 2000000) only [zAH, List.set_cons_succ, List.set_cons_zero, List.map_cons, List.map_nil, zAG, zAa, ioOf, List.length_cons, List.length_nil, Nat.reduceAdd, Nat.reduceSub, List.replicate, List.cons_append, List.nil_append]
 try simp (maxSteps := 2000000) only [go_sem]
 repeat with_reducible refine zAb ?_
 refine zAc (by rfl) trivial (fun hb => ?_) (fun hb => ?_)
 ·subst hb
  try simp (maxSteps := 2000000) only [go_sem, Int.reduceToNat]
  repeat with_reducible refine zAb ?_
  exact zB5 rfl rfl
 ·subst hb
  try simp (maxSteps := 2000000) only [go_sem]
  repeat with_reducible refine zAb ?_
  exact zB5 rfl rfl
theorem zYQ (c : Fd) (b : Bool) (h : c.k ≤ 1000000000) : Contract Tryz.prog zAx [.io (fdV c), .val (bv b), .val (iv 4)] { res := .tup [], io := fdV (c.add (fK b)) } := by
 unfold fdV
 refine mkA zCo (base := 17) ⟨Nat.le_of_ble_eq_true rfl, Nat.le_of_ble_eq_true rfl, Nat.le_of_ble_eq_true rfl, ⟨rfl, rfl⟩⟩ (fun hfit => ?_)
 unfold F0 zB0
 simp (maxSteps := 2000000) only [zAH, List.set_cons_succ, List.set_cons_zero, List.map_cons, List.map_nil, zAG, zAa, ioOf, List.length_cons, List.length_nil, Nat.reduceAdd, Nat.reduceSub, List.replicate, List.cons_append, List.nil_append]
 try simp (maxSteps := 2000000) only [go_sem]
 repeat with_reducible refine zAb ?_
 refine zAc (by rfl) trivial (fun hb => ?_) (fun hb => ?_)
 ·subst hb
  try simp (maxSteps := 2000000) only [go_sem, Int.reduceToNat]
  repeat with_reducible refine zAb ?_
  exact zB5 rfl rfl
 ·subst hb
  try simp (maxSteps := 2000000) only [go_sem]
  repeat with_reducible refine zAb ?_
  exact zB5 rfl rfl
def shV (k : Int) : PVal := .agg [bB (yAP k), bB (zUF k), bB (yHz k), bB (zLL k)]
def kOk (k : Int) : Bool := decide (1 ≤ k ∧ k ≤ 15)
theorem yA5 (k : Int) : Contract Tryz.prog zLN [.val (iv k)] { res := .tup [shV k, bv (kOk k)] } := by
 refine mkA zZG (base := 0) (fo rfl) (fun hfit => ?_)
 unfold F0 zVj
 simp (maxSteps := 2000000) only [zAH, List.set_cons_succ, List.set_cons_zero, List.map_cons, List.map_nil, zAG, zAa, ioOf, List.length_cons, List.length_nil, Nat.reduceAdd, Nat.reduceSub, List.replicate, List.cons_append, List.nil_append]
 try simp (maxSteps := 2000000) only [go_sem]
 repeat with_reducible refine zAb ?_
 by_cases hk : 1 ≤ k ∧ k ≤ 15
 ·have hn : k = 1 ∨ k = 2 ∨ k = 3 ∨ k = 4 ∨ k = 5 ∨ k = 6 ∨ k = 7 ∨ k = 8 ∨ k = 9 ∨ k = 10 ∨ k = 11 ∨ k = 12 ∨ k = 13 ∨ k = 14 ∨ k = 15 := by omega
  rcases hn with rfl | rfl | rfl | rfl | rfl | rfl | rfl | rfl | rfl | rfl | rfl | rfl | rfl | rfl | rfl
  all_goals
   repeat (first | (refine zYB (by rfl) trivial ?_; (try simp (maxSteps := 2000000) only [go_sem])) | (refine zUv (by rfl) trivial ?_; (try simp (maxSteps := 2000000) only [go_sem])))
   exact zBg (by simp) ⟨zNp rfl rfl (.inl rfl), zAP rfl trivial (.inl rfl), rfl⟩
 ·have e : ∀ n : Int, 1 ≤ n → n ≤ 15 → (k == n) = false := by intro n h1 h2; simp; omega
  have hs : shV k = .agg [bB false, bB false, bB false, bB false] := by
   unfold shV
   congr 2
   ·unfold yAP; congr 2; simp; omega
   ·congr 1
    ·unfold zUF; congr 2; simp; omega
    ·congr 1
     ·unfold yHz; congr 2; simp; omega
     ·congr 1
      unfold zLL; congr 2; simp; omega
  have ho : kOk k = false := by unfold kOk; simp; omega
  rw [hs, ho]
  try simp (maxSteps := 2000000) only [go_sem, e 1 (by omega) (by omega), e 2 (by omega) (by omega), e 3 (by omega) (by omega), e 4 (by omega) (by omega), e 5 (by omega) (by omega), e 6 (by omega) (by omega), e 7 (by omega) (by omega), e 8 (by omega) (by omega), e 9 (by omega) (by omega), e 10 (by omega) (by omega), e 11 (by omega) (by omega), e 12 (by omega) (by omega), e 13 (by omega) (by omega), e 14 (by omega) (by omega), e 15 (by omega) (by omega)]
  repeat (refine zUv (by rfl) trivial ?_; (try simp (maxSteps := 2000000) only [go_sem, e 1 (by omega) (by omega), e 2 (by omega) (by omega), e 3 (by omega) (by omega), e 4 (by omega) (by omega), e 5 (by omega) (by omega), e 6 (by omega) (by omega), e 7 (by omega) (by omega), e 8 (by omega) (by omega), e 9 (by omega) (by omega), e 10 (by omega) (by omega), e 11 (by omega) (by omega), e 12 (by omega) (by omega), e 13 (by omega) (by omega), e 14 (by omega) (by omega), e 15 (by omega) (by omega)]))
  exact zBg (by simp) ⟨zNp rfl rfl (.inl rfl), zAP rfl trivial (.inl rfl), rfl⟩
theorem zVR : Contract Tryz.prog zGp [] { res := .val (.agg [bI 2, bI 4, bI 1, bI 3]) } := by
 refine mkA zSH (base := 0) (fo rfl) (fun hfit => ?_)
 unfold F0 zMK
 simp (maxSteps := 2000000) only [zAH, List.set_cons_succ, List.set_cons_zero, List.map_cons, List.map_nil, zAG, zAa, ioOf, List.length_cons, List.length_nil, Nat.reduceAdd, Nat.reduceSub, List.replicate, List.cons_append, List.nil_append]
 try simp (maxSteps := 2000000) only [go_sem]
 repeat with_reducible refine zAb ?_
 exact zOa rfl rfl rfl
end Go.Hx
end

section
set_option maxRecDepth 100000
set_option linter.unusedSimpArgs false
namespace Go.Hx
open Go.Proofs
variable [Glob]
attribute [local go_sem] zAq zAo zAp zAg ndV zAl zAh fdV zBo zA3 zBr zBq
attribute [local go_sem] reduceCtorEq Nat.reduceAdd Nat.reduceEqDiff reduceIte Nat.reduceLeDiff Nat.reduceLT Nat.reduceSub
theorem zD4 {α : Type} {d : α} {l : List α} {i : Nat} (h : i < l.length) : l.drop i = l.getD i d :: l.drop (i + 1) := by
 rw [List.drop_eq_getElem_cons h]
 simp [h]
def yIR (P : Program) (N : Nat) : Prop :=
 (∀ (l : List Pt) (d K : Nat) (c : Fd), SizeOf.sizeOf l ≤ N → d ≤ 4 → c.le K → K + bd d ≤ 1000000000 → Contract P zBu [.io (fdV c), .val (zBo l), .val (iv d)] { res := .tup [], io := fdV (c.add (ntL l d)) }) ∧
 (∀ (s : St) (d K : Nat) (c : Fd), SizeOf.sizeOf s ≤ N → d ≤ 3 → c.le K → K + bdS d ≤ 1000000000 → Contract P zCn [.io (fdV c), .val (.agg (stV s)), .val (iv d)] { res := .tup [], io := fdV (c.add (ntS s d)) })
theorem yA6 (N : Nat) (ih : yIR Tryz.prog N) (l : List Pt) (d K : Nat) (c : Fd) (hN : SizeOf.sizeOf l ≤ N + 1) (hd : d ≤ 4) (hc : c.le K) (hK : K + bd d ≤ 1000000000) : Contract Tryz.prog zBu [.io (fdV c), .val (zBo l), .val (iv d)] { res := .tup [], io := fdV (c.add (ntL l d)) } := by
 unfold fdV zBo
 refine mkA zL0 (base := 83) ⟨Nat.le_of_ble_eq_true rfl, Nat.le_of_ble_eq_true rfl, Nat.le_of_ble_eq_true rfl, ⟨rfl, rfl⟩⟩ (fun hfit => ?_)
 unfold F0 zGA
 simp (maxSteps := 2000000) only [zAH, List.set_cons_succ, List.set_cons_zero, List.map_cons, List.map_nil, zAG, zAa, ioOf, List.length_cons, List.length_nil, Nat.reduceAdd, Nat.reduceSub, List.replicate, List.cons_append, List.nil_append]
 try simp (maxSteps := 2000000) only [go_sem]
 repeat with_reducible refine zAb ?_
 have hlb : (bif bif decide (3 < (d : Int)) then true else decide ((l.length : Int) < 1) then true else decide (5 < (l.length : Int))) = zHe l d := by
  have e1 : decide (3 < (d : Int)) = decide (3 < d) := decide_eq_decide.2 (by omega)
  have e2 : decide ((l.length : Int) < 1) = decide (l.length < 1) := decide_eq_decide.2 (by omega)
  have e3 : decide (5 < (l.length : Int)) = decide (5 < l.length) := decide_eq_decide.2 (by omega)
  unfold zHe
  rw [e1, e2, e3]
  cases decide (3 < d) <;> cases decide (l.length < 1) <;> rfl
 refine zAc (by rfl) trivial (fun h => ?_) (fun h => ?_)
 ·rw [hlb] at h
  have e : ntL l d = fM true := by unfold ntL; rw [if_pos h]
  try simp (maxSteps := 2000000) only [go_sem]
  repeat with_reducible refine zAb ?_
  have hb1 := zSn (4 - d)
  have hb2 : bd d = bdF (4 - d) := rfl
  have hm := hc.m
  refine zDw (by repeat' constructor) (zTN c true (by omega)) ?_
  try simp (maxSteps := 2000000) only [go_sem]
  repeat with_reducible refine zAb ?_
  rw [e]
  exact zSd rfl rfl
 ·rw [hlb] at h
  have e : ntL l d = zWA l d := by unfold ntL; rw [if_neg (by rw [h]; simp)]
  rw [e]
  have hd3 : d ≤ 3 ∧ l.length ≤ 5 := by
   simp only [zHe, Bool.or_eq_false_iff, decide_eq_false_iff_not] at h
   omega
  have hbd := yEO hd3.1
  try simp (maxSteps := 2000000) only [go_sem]
  repeat with_reducible refine zAb ?_
  have hK0 : K + (1 + (l.length - 0) * bdP d) ≤ 1000000000 := by
   have : (l.length - 0) * bdP d ≤ 5 * bdP d := Nat.mul_le_mul_right _ (by omega)
   omega
  refine zAv (fun x : Nat × Fd => [(7, .un), (9, .un), (11, .un), (28, .pv (iv x.1)), (29, .un), (51, .un), (55, .un), (56, .un), (57, .un), (58, .un), (71, .un), (72, .un), (73, .un), (74, .un), (84, .pv (.one (bI x.2.f))), (85, .pv (.one (bI x.2.m))), (86, .pv (.one (bI x.2.r))), (87, .pv (.one (bI x.2.k))), (90, .un), (91, .un)]) (fun x : Nat × Fd => l.length - x.1) (fun x : Nat × Fd => x.1 ≤ l.length ∧ (∃ K', x.2.le K' ∧ K' + (1 + (l.length - x.1) * bdP d) ≤ 1000000000) ∧ x.2.add (zWA (l.drop x.1) d) = c.add (zWA l d)) ((0, c)) ?_ ⟨Nat.zero_le _, ⟨K, hc, hK0⟩, by simp⟩ ?_
  focus (simp (maxSteps := 2000000) only [go_sem, zAi, zAs, zAF, zAj]; all_goals (repeat' (first | exact trivial | exact zAr (by omega) | exact zAk rfl | exact zAw rfl | exact zAt | exact le_refl _ | refine And.intro ?_ ?_)))
  rintro ⟨i, a⟩ ⟨hi, ⟨K', ha, hK'⟩, hsum⟩
  simp only at hi ha hK' hsum
  try simp (maxSteps := 2000000) only [go_sem]
  repeat with_reducible refine zAb ?_
  have hbx : bd d ≤ 1000000000 := by omega
  refine zAc (by rfl) trivial (fun h2 => ?_) (fun h2 => ?_)
  ·have hil : i < l.length := by simp at h2; omega
   rw [zD4 (d := default) hil] at hsum
   obtain ⟨p, hp⟩ : ∃ p, p = l.getD i default := ⟨_, rfl⟩
   rw [← hp] at hsum
   have hg : (zOh l).getD i [] = [.sl 2 (zZ9 p.steps), .sl 1 (zAS p.links)] := by rw [zSk l i hil, ← hp, zHd]
   have hsz : SizeOf.sizeOf p.steps ≤ N := by
    have h3 := yCs p
    have h4 := yIK hil
    rw [← hp] at h4
    omega
   have hmul : (l.length - i) * bdP d = bdP d + (l.length - (i + 1)) * bdP d := by
    have : l.length - i = (l.length - (i + 1)) + 1 := by omega
    rw [this, Nat.add_mul]; omega
   have hbp : bdP d = 4 + 5 * bdS d := rfl
   have hin : (bif decide ((p.steps.length : Int) < 1) then true else decide (5 < (p.steps.length : Int))) = false → inR .i64 ((p.steps.length : Int) - 1) := by
    intro h5
    have : ¬ 5 < (p.steps.length : Int) := by
     intro h6
     rw [decide_eq_true h6] at h5
     cases hq : decide ((p.steps.length : Int) < 1) <;> rw [hq] at h5 <;> cases h5
    exact zOb (by omega) (by omega)
   try simp (maxSteps := 2000000) only [go_sem, hg]
   repeat with_reducible refine zAb ?_
   have hpb : (bif bif decide ((p.steps.length : Int) < 1) then true else decide (5 < (p.steps.length : Int)) then true else (p.links.length : Int) != (p.steps.length : Int) - 1) = zWX p := by
    have e2 : decide ((p.steps.length : Int) < 1) = decide (p.steps.length < 1) := decide_eq_decide.2 (by omega)
    have e3 : decide (5 < (p.steps.length : Int)) = decide (5 < p.steps.length) := decide_eq_decide.2 (by omega)
    have e4 : ((p.links.length : Int) != (p.steps.length : Int) - 1) = decide ((p.links.length : Int) ≠ p.steps.length - 1) := by
     by_cases h5 : (p.links.length : Int) = (p.steps.length : Int) - 1 <;> simp [h5]
    unfold zWX
    rw [e2, e3, e4]
    cases decide (p.steps.length < 1) <;> cases decide (5 < p.steps.length) <;> rfl
   simp only [zWA] at hsum
   refine zAc (by rfl) trivial (fun h3 => ?_) (fun h3 => ?_)
   ·rw [hpb] at h3
    rw [if_pos h3] at hsum
    rw [← hsum]
    try simp (maxSteps := 2000000) only [go_sem]
    repeat with_reducible refine zAb ?_
    have hm := ha.m
    refine zDw (by repeat' constructor) (zTN a true (by omega)) ?_
    try simp (maxSteps := 2000000) only [go_sem]
    repeat with_reducible refine zAb ?_
    exact zSd rfl rfl
   ·rw [hpb] at h3
    rw [if_neg (by rw [h3]; simp)] at hsum
    have hpl : p.steps.length ≤ 5 ∧ (p.links.length : Int) = p.steps.length - 1 := by
     simp only [zWX, Bool.or_eq_false_iff, decide_eq_false_iff_not] at h3
     omega
    have hK1 : K' + (p.links.length - 0) ≤ K' + 4 := by omega
    try simp (maxSteps := 2000000) only [go_sem]
    repeat with_reducible refine zAb ?_
    refine zAv (fun x : Nat × Fd => [(9, .un), (57, .pv (iv x.1)), (58, .un), (67, .un), (84, .pv (.one (bI x.2.f))), (85, .pv (.one (bI x.2.m))), (86, .pv (.one (bI x.2.r))), (87, .pv (.one (bI x.2.k)))]) (fun x : Nat × Fd => p.links.length - x.1) (fun x : Nat × Fd => x.1 ≤ p.links.length ∧ (∃ K2, x.2.le K2 ∧ K2 + (p.links.length - x.1) ≤ K' + 4) ∧ x.2.add (zYJ (p.links.drop x.1)) = a.add (zYJ p.links)) ((0, a)) ?_ ⟨Nat.zero_le _, ⟨K', ha, hK1⟩, by simp⟩ ?_
    focus (simp (maxSteps := 2000000) only [go_sem, zAi, zAs, zAF, zAj]; all_goals (repeat' (first | exact trivial | exact zAr (by omega) | exact zAk rfl | exact zAw rfl | exact zAt | exact le_refl _ | refine And.intro ?_ ?_)))
    rintro ⟨j, b⟩ ⟨hj, ⟨K2, hb, hK2⟩, hsb⟩
    simp only at hj hb hK2 hsb
    try simp (maxSteps := 2000000) only [go_sem]
    repeat with_reducible refine zAb ?_
    refine zAc (by rfl) trivial (fun h4 => ?_) (fun h4 => ?_)
    ·have hjl : j < p.links.length := by simp at h4; omega
     rw [zD4 (d := 0) hjl] at hsb
     have hg2 := zEj p.links j hjl
     obtain ⟨v, hv⟩ : ∃ v, v = p.links.getD j 0 := ⟨_, rfl⟩
     rw [← hv] at hg2 hsb
     have hvb : (bif decide (v < 1) then true else decide (4 < v)) = zWW v := by
      unfold zWW
      by_cases h5 : v < 1 <;> by_cases h6 : 4 < v <;> simp [h5, h6] <;> omega
     have hk := hb.k
     try simp (maxSteps := 2000000) only [go_sem, hg2]
     repeat with_reducible refine zAb ?_
     refine zDw (by repeat' constructor) (zYQ b (bif decide (v < 1) then true else decide (4 < v)) (by omega)) ?_
     try simp (maxSteps := 2000000) only [go_sem, hvb]
     repeat with_reducible refine zAb ?_
     refine ⟨(j + 1, b.add (fK (zWW v))), by simp only; omega, ⟨by simp only; omega, ⟨K2 + 1, hb.le_add (yEP _), by simp only; omega⟩, ?_⟩, ?_⟩
     ·simp only
      rw [← hsb, Fd.add_assoc]
      congr 1
      simp only [zYJ, Fd.add, fK, List.countP_cons, nB]
      congr 1
      split <;> omega
     ·simp (maxSteps := 2000000) only [go_sem, zAi, zAs, zAF, zAj]
      all_goals (repeat' (first | exact trivial | exact zAr (by omega) | exact zAk rfl | exact zAw rfl | exact zAt | exact le_refl _ | refine And.intro ?_ ?_))
    ·have hjl : j = p.links.length := by simp at h4; omega
     subst hjl
     rw [List.drop_length] at hsb
     have e5 : b = a.add (zYJ p.links) := by
      rw [← hsb]
      simp [zYJ, Fd.add]
     have hK3 : K2 ≤ K' + 4 := by omega
     have hK4 : K2 + (p.steps.length - 0) * bdS d ≤ K' + bdP d := by
      have : (p.steps.length - 0) * bdS d ≤ 5 * bdS d := Nat.mul_le_mul_right _ (by omega)
      omega
     try simp (maxSteps := 2000000) only [go_sem]
     repeat with_reducible refine zAb ?_
     refine zAv (fun x : Nat × Fd => [(11, .un), (73, .pv (iv x.1)), (74, .un), (84, .pv (.one (bI x.2.f))), (85, .pv (.one (bI x.2.m))), (86, .pv (.one (bI x.2.r))), (87, .pv (.one (bI x.2.k))), (90, .un), (91, .un)]) (fun x : Nat × Fd => p.steps.length - x.1) (fun x : Nat × Fd => x.1 ≤ p.steps.length ∧ (∃ K3, x.2.le K3 ∧ K3 + (p.steps.length - x.1) * bdS d ≤ K' + bdP d) ∧ x.2.add (zYK (p.steps.drop x.1) d) = b.add (zYK p.steps d)) ((0, b)) ?_ ⟨Nat.zero_le _, ⟨K2, hb, hK4⟩, by simp⟩ ?_
     focus (simp (maxSteps := 2000000) only [go_sem, zAi, zAs, zAF, zAj]; all_goals (repeat' (first | exact trivial | exact zAr (by omega) | exact zAk rfl | exact zAw rfl | exact zAt | exact le_refl _ | refine And.intro ?_ ?_)))
     rintro ⟨k, e6⟩ ⟨hk, ⟨K3, he6, hK5⟩, hse⟩
     simp only at hk he6 hK5 hse
     try simp (maxSteps := 2000000) only [go_sem]
     repeat with_reducible refine zAb ?_
     refine zAc (by rfl) trivial (fun h6 => ?_) (fun h6 => ?_)
     ·have hkl : k < p.steps.length := by simp at h6; omega
      rw [zD4 (d := default) hkl] at hse
      obtain ⟨q, hq⟩ : ∃ q, q = p.steps.getD k default := ⟨_, rfl⟩
      rw [← hq] at hse
      have hg3 : (zZ9 p.steps).getD k [] = [bS q.tag, .sl 6 (yAO q.tests)] := by rw [zSj _ k hkl, ← hq, zRd]
      have hqs : SizeOf.sizeOf q ≤ N := by
       have h7 := yIJ hkl
       rw [← hq] at h7
       omega
      have hmul2 : (p.steps.length - k) * bdS d = bdS d + (p.steps.length - (k + 1)) * bdS d := by
       have : p.steps.length - k = (p.steps.length - (k + 1)) + 1 := by omega
       rw [this, Nat.add_mul]; omega
      have hst := ih.2 q d K3 e6 hqs hd3.1 he6 (by omega)
      rw [zRd] at hst
      unfold fdV at hst
      try simp (maxSteps := 2000000) only [go_sem, hg3]
      repeat with_reducible refine zAb ?_
      refine zDw (by repeat' constructor) (hst) ?_
      try simp (maxSteps := 2000000) only [go_sem]
      repeat with_reducible refine zAb ?_
      refine ⟨(k + 1, e6.add (ntS q d)), by simp only; omega, ⟨by simp only; omega, ⟨K3 + bdS d, he6.le_add (b_S q d), by simp only; omega⟩, ?_⟩, ?_⟩
      ·simp only [zYK] at hse ⊢
       rw [← hse, Fd.add_assoc]
      ·simp (maxSteps := 2000000) only [go_sem, zAi, zAs, zAF, zAj]
       all_goals (repeat' (first | exact trivial | exact zAr (by omega) | exact zAk rfl | exact zAw rfl | exact zAt | exact le_refl _ | refine And.intro ?_ ?_))
     ·have hkl : k = p.steps.length := by simp at h6; omega
      subst hkl
      rw [List.drop_length] at hse
      have e7 : e6 = b.add (zYK p.steps d) := by rw [← hse]; rfl
      try simp (maxSteps := 2000000) only [go_sem]
      repeat with_reducible refine zAb ?_
      refine ⟨(i + 1, e6), by simp only; omega, ⟨by simp only; omega, ⟨K3, he6, by simp only; omega⟩, ?_⟩, ?_⟩
      ·simp only
       rw [← hsum, e7, e5, yG9, Fd.add_assoc, Fd.add_assoc, Fd.add_assoc]
      ·simp (maxSteps := 2000000) only [go_sem, zAi, zAs, zAF, zAj]
       all_goals (repeat' (first | exact trivial | exact zAr (by omega) | exact zAk rfl | exact zAw rfl | exact zAt | exact le_refl _ | refine And.intro ?_ ?_))
  ·have hil : i = l.length := by simp at h2; omega
   subst hil
   rw [List.drop_length] at hsum
   try simp (maxSteps := 2000000) only [go_sem]
   repeat with_reducible refine zAb ?_
   rw [← hsum]
   exact zB5 rfl rfl
end Go.Hx
end

section
set_option maxRecDepth 100000
set_option linter.unusedSimpArgs false
set_option maxHeartbeats 4000000
namespace Go.Hx
open Go.Proofs
variable [Glob]
attribute [local go_sem] zAq zAo zAp zAg ndV zAl zAh zCE yAb
attribute [local go_sem] reduceCtorEq Nat.reduceAdd Nat.reduceEqDiff reduceIte Nat.reduceLeDiff Nat.reduceLT Nat.reduceSub
theorem yCK {n : Nat} (h : n * 8 ≤ 140737488355328) : zLD Tryz.prog zBk n := .inr ⟨8, by kernel_rfl, by simp only [maxLen]; omega, h⟩
theorem zXG (l : List Int) (h : l.length * 8 ≤ 140737488355328) : Contract Tryz.prog zCP [.val (.one (.sl 1 (zAS l)))] { res := .own zBk 1 (zAS l) } := by
 have hr := yCK h
 refine mkA zJ1 (base := 0) (fo rfl) (fun hfit => ?_)
 unfold F0 zE1
 simp (maxSteps := 2000000) only [zAH, List.set_cons_succ, List.set_cons_zero, List.map_cons, List.map_nil, zAG, zAa, ioOf, List.length_cons, List.length_nil, Nat.reduceAdd, Nat.reduceSub, List.replicate, List.cons_append, List.nil_append]
 try simp (maxSteps := 2000000) only [go_sem]
 repeat with_reducible refine zAb ?_
 intro b hb
 refine zAc (by rfl) trivial (fun h1 => ?_) (fun h1 => ?_)
 ·try simp (maxSteps := 2000000) only [go_sem]
  repeat with_reducible refine zAb ?_
  have : zAS l = [] := by
   cases hl : zAS l with
   |nil => rfl
   |cons x y => have := hb (by rw [hl]; simp); rw [this] at h1; cases h1
  rw [this]
  exact zLK rfl
 ·try simp (maxSteps := 2000000) only [go_sem]
  repeat with_reducible refine zAb ?_
  exact zLK rfl
theorem zXH (a b : List Int) : Contract Tryz.prog zCQ [.val (.one (.sl 1 (zAS a))), .val (.one (.sl 1 (zAS b)))] { res := .val (bv (a == b)) } := by
 refine mkA zKc (base := 0) (fo rfl) (fun hfit => ?_)
 unfold F0 zE2
 simp (maxSteps := 2000000) only [zAH, List.set_cons_succ, List.set_cons_zero, List.map_cons, List.map_nil, zAG, zAa, ioOf, List.length_cons, List.length_nil, Nat.reduceAdd, Nat.reduceSub, List.replicate, List.cons_append, List.nil_append]
 try simp (maxSteps := 2000000) only [go_sem]
 repeat with_reducible refine zAb ?_
 have ha := zDN (k := 1) hfit.1
 rw [zAg] at ha
 refine zAc (by rfl) trivial (fun h1 => ?_) (fun h1 => ?_)
 ·try simp (maxSteps := 2000000) only [go_sem]
  repeat with_reducible refine zAb ?_
  refine zAe rfl trivial (.inl ?_)
  congr 3
  have : a ≠ b := by rintro rfl; simp at h1
  simp [this]
 have hl : a.length = b.length := by simp at h1; omega
 try simp (maxSteps := 2000000) only [go_sem]
 repeat with_reducible refine zAb ?_
 refine zAv (fun i : Nat => [(13, .pv (iv i)), (4, .un), (5, .un), (14, .un), (24, .un)]) (fun i : Nat => a.length - i) (fun i : Nat => i ≤ a.length ∧ (a.drop i == b.drop i) = (a == b)) (0) ?_ ⟨Nat.zero_le _, rfl⟩ ?_
 focus (simp (maxSteps := 2000000) only [go_sem, zAi, zAs, zAF, zAj]; all_goals (repeat' (first | exact trivial | exact zAr (by omega) | exact zAk rfl | exact zAw rfl | exact zAt | exact le_refl _ | refine And.intro ?_ ?_)))
 rintro i ⟨hi, hinv⟩
 try simp (maxSteps := 2000000) only [go_sem]
 repeat with_reducible refine zAb ?_
 refine zAc (by rfl) trivial (fun h2 => ?_) (fun h2 => ?_)
 ·have hil : i < a.length := by simp at h2; omega
  have hib : i < b.length := by omega
  rw [zD4 (d := 0) hil, zD4 (d := 0) hib] at hinv
  have e1 := zEj a i hil
  have e2 := zEj b i hib
  try simp (maxSteps := 2000000) only [go_sem, e1, e2]
  repeat with_reducible refine zAb ?_
  refine zAc (by rfl) trivial (fun h3 => ?_) (fun h3 => ?_)
  ·try simp (maxSteps := 2000000) only [go_sem]
   repeat with_reducible refine zAb ?_
   refine zAe rfl trivial (.inl ?_)
   congr 3
   rw [← hinv]
   have : (a.getD i 0 == b.getD i 0) = false := by
    have h4 : a.getD i 0 ≠ b.getD i 0 := by simpa using h3
    exact beq_false_of_ne h4
   simp only [List.cons_beq_cons, this, Bool.false_and]
  ·have h4 : a.getD i 0 = b.getD i 0 := by simpa using h3
   rw [h4] at hinv
   simp only [List.cons_beq_cons, beq_self_eq_true, Bool.true_and] at hinv
   try simp (maxSteps := 2000000) only [go_sem]
   repeat with_reducible refine zAb ?_
   refine ⟨i + 1, by omega, ⟨by omega, hinv⟩, ?_⟩
   simp (maxSteps := 2000000) only [go_sem, zAi, zAs, zAF, zAj]
   all_goals (repeat' (first | exact trivial | exact zAr (by omega) | exact zAk rfl | exact zAw rfl | exact zAt | exact le_refl _ | refine And.intro ?_ ?_))
 ·have hil : i = a.length := by simp at h2; omega
  try simp (maxSteps := 2000000) only [go_sem]
  repeat with_reducible refine zAb ?_
  refine zAe rfl trivial (.inl ?_)
  congr 3
  rw [← hinv, hil, List.drop_length, hl, List.drop_length]
  rfl
theorem yEW (a b : Ent) : (a == b) = (decide (yBP a.key b.key = 0) && (a.nodes == b.nodes)) := by
 rw [Bool.eq_iff_iff]
 simp only [beq_iff_eq, Bool.and_eq_true, decide_eq_true_eq, yA4]
 constructor
 ·rintro rfl; exact ⟨rfl, rfl⟩
 ·rintro ⟨h1, h2⟩; exact Ent.ext' h1 h2
theorem yCL (a b : Ent) : Contract Tryz.prog zDj [.val (.agg (yAb a)), .val (.agg (yAb b))] { res := .val (bv (a == b)) } := by
 have h1 := yEV a b
 have h2 := zXH a.nodes b.nodes
 rw [yEW]
 unfold yAb at h1 ⊢
 obtain ⟨o, ho⟩ : ∃ o, o = yBP a.key b.key := ⟨_, rfl⟩
 rw [← ho] at h1 ⊢
 refine mkA zOT (base := 0) (fo rfl) (fun hfit => ?_)
 unfold F0 zJa
 simp (maxSteps := 2000000) only [zAH, List.set_cons_succ, List.set_cons_zero, List.map_cons, List.map_nil, zAG, zAa, ioOf, List.length_cons, List.length_nil, Nat.reduceAdd, Nat.reduceSub, List.replicate, List.cons_append, List.nil_append]
 try simp (maxSteps := 2000000) only [go_sem]
 repeat with_reducible refine zAb ?_
 refine zAu (by repeat' constructor) (h1) ?_
 try simp (maxSteps := 2000000) only [go_sem]
 repeat with_reducible refine zAb ?_
 apply zAE (h2 := fun _ => h2)
 ·(simp (maxSteps := 2000000) only [go_sem]; rfl)
 ·intro h; repeat' (first | exact trivial | exact h | refine And.intro ?_ ?_)
 try simp (maxSteps := 2000000) only [go_sem]
 repeat with_reducible refine zAb ?_
 refine zAe rfl trivial (.inl ?_)
 congr 3
 by_cases h : o = 0 <;> simp [h]
theorem zXI (a b : List Ent) : Contract Tryz.prog zBK [.val (.one (.sl 3 (zDm a))), .val (.one (.sl 3 (zDm b))), .val (.one (.clo zDj []))] { res := .val (bv (a == b)) } := by
 refine mkA zFq (base := 0) (fo rfl) (fun hfit => ?_)
 unfold F0 zCV
 simp (maxSteps := 2000000) only [zAH, List.set_cons_succ, List.set_cons_zero, List.map_cons, List.map_nil, zAG, zAa, ioOf, List.length_cons, List.length_nil, Nat.reduceAdd, Nat.reduceSub, List.replicate, List.cons_append, List.nil_append]
 try simp (maxSteps := 2000000) only [go_sem]
 repeat with_reducible refine zAb ?_
 have ha := zDN (k := 3) hfit.1
 rw [zCE] at ha
 refine zAc (by rfl) trivial (fun h1 => ?_) (fun h1 => ?_)
 ·try simp (maxSteps := 2000000) only [go_sem]
  repeat with_reducible refine zAb ?_
  refine zAe rfl trivial (.inl ?_)
  congr 3
  have : a ≠ b := by rintro rfl; simp at h1
  simp [this]
 have hl : a.length = b.length := by simp at h1; omega
 try simp (maxSteps := 2000000) only [go_sem]
 repeat with_reducible refine zAb ?_
 refine zAv (fun i : Nat => [(17, .pv (iv i)), (6, .un), (7, .un), (8, .un), (9, .un), (18, .un), (30, .un), (32, .un), (33, .un), (34, .un), (35, .un), (36, .un), (37, .un)]) (fun i : Nat => a.length - i) (fun i : Nat => i ≤ a.length ∧ (a.drop i == b.drop i) = (a == b)) (0) ?_ ⟨Nat.zero_le _, rfl⟩ ?_
 focus (simp (maxSteps := 2000000) only [go_sem, zAi, zAs, zAF, zAj]; all_goals (repeat' (first | exact trivial | exact zAr (by omega) | exact zAk rfl | exact zAw rfl | exact zAt | exact le_refl _ | refine And.intro ?_ ?_)))
 rintro i ⟨hi, hinv⟩
 try simp (maxSteps := 2000000) only [go_sem]
 repeat with_reducible refine zAb ?_
 refine zAc (by rfl) trivial (fun h2 => ?_) (fun h2 => ?_)
 ·have hil : i < a.length := by simp at h2; omega
  have hib : i < b.length := by omega
  rw [zD4 (d := default) hil, zD4 (d := default) hib] at hinv
  have e1 := zOU a i hil
  have e2 := zOU b i hib
  have hc := yCL (a.getD i default) (b.getD i default)
  unfold yAb at e1 e2 hc
  try simp (maxSteps := 2000000) only [go_sem, e1, e2]
  repeat with_reducible refine zAb ?_
  refine zC7 (by rfl) trivial (by repeat' constructor) (hc) ?_
  try simp (maxSteps := 2000000) only [go_sem]
  repeat with_reducible refine zAb ?_
  refine zAc (by rfl) trivial (fun h3 => ?_) (fun h3 => ?_)
  ·try simp (maxSteps := 2000000) only [go_sem]
   repeat with_reducible refine zAb ?_
   refine zAe rfl trivial (.inl ?_)
   congr 3
   rw [← hinv]
   have h4 : (a.getD i default == b.getD i default) = false := by simpa using h3
   simp only [List.cons_beq_cons, h4, Bool.false_and]
  ·have h4 : (a.getD i default == b.getD i default) = true := by simpa using h3
   simp only [List.cons_beq_cons, h4, Bool.true_and] at hinv
   try simp (maxSteps := 2000000) only [go_sem]
   repeat with_reducible refine zAb ?_
   refine ⟨i + 1, by omega, ⟨by omega, hinv⟩, ?_⟩
   simp (maxSteps := 2000000) only [go_sem, zAi, zAs, zAF, zAj]
   all_goals (repeat' (first | exact trivial | exact zAr (by omega) | exact zAk rfl | exact zAw rfl | exact zAt | exact le_refl _ | refine And.intro ?_ ?_))
 ·have hil : i = a.length := by simp at h2; omega
  try simp (maxSteps := 2000000) only [go_sem]
  repeat with_reducible refine zAb ?_
  refine zAe rfl trivial (.inl ?_)
  congr 3
  rw [← hinv, hil, List.drop_length, hl, List.drop_length]
  rfl
end Go.Hx
end

section
set_option maxRecDepth 100000
set_option linter.unusedSimpArgs false
set_option maxHeartbeats 4000000
namespace Go.Hx
open Go.Proofs
variable [Glob]
attribute [local go_sem] zAq zAo zAp zAg ndV zAl zAh zCE
end Go.Hx
end

section
set_option maxRecDepth 100000
set_option linter.unusedSimpArgs false
set_option maxHeartbeats 4000000
namespace Go.Hx
open Go.Proofs
variable [Glob]
attribute [local go_sem] zAq zAo zAp zAg ndV zAl zAh zCE yAb zBq zBr
attribute [local go_sem] reduceCtorEq Nat.reduceAdd Nat.reduceEqDiff reduceIte Nat.reduceLeDiff Nat.reduceLT Nat.reduceSub
theorem zMR (l : List Ent) (k : Int) (nm : Bys) (hs : ∀ e ∈ l, e.nodes.length * 8 ≤ 140737488355328) : Contract Tryz.prog zD3 [.val (.one (.sl 3 (zDm l))), .val (iv k), .val (sv nm)] { res := .tup [.one (.sl 1 (zAS (yFx l k nm).1)), iv (yFx l k nm).2] } := by
 unfold yFx
 refine mkA zTs (base := 0) (fo rfl) (fun hfit => ?_)
 unfold F0 zMO
 simp (maxSteps := 2000000) only [zAH, List.set_cons_succ, List.set_cons_zero, List.map_cons, List.map_nil, zAG, zAa, ioOf, List.length_cons, List.length_nil, Nat.reduceAdd, Nat.reduceSub, List.replicate, List.cons_append, List.nil_append]
 try simp (maxSteps := 2000000) only [go_sem]
 repeat with_reducible refine zAb ?_
 have hfl := zDN (k := 3) hfit.1
 rw [zCE] at hfl
 refine zAc (by rfl) trivial (fun g1 => ?_) (fun g1 => ?_)
 ·have h1 : k < 1 ∨ 3 < k := by
   by_cases h : k < 1
   ·exact .inl h
   ·right; simp [h] at g1; omega
  rw [if_pos h1]
  try simp (maxSteps := 2000000) only [go_sem]
  repeat with_reducible refine zAb ?_
  exact zBg (by simp) ⟨zAP rfl trivial (.inr rfl), zAP rfl trivial (.inl rfl), rfl⟩
 have h1 : ¬ (k < 1 ∨ 3 < k) := by
  by_cases h : k < 1
  ·simp [h] at g1
  ·simp [h] at g1; omega
 rw [if_neg h1]
 try simp (maxSteps := 2000000) only [go_sem]
 repeat with_reducible refine zAb ?_
 refine zAc (by rfl) trivial (fun g2 => ?_) (fun g2 => ?_)
 ·have h2 : 512 < l.length := by simp at g2; omega
  rw [if_pos h2]
  try simp (maxSteps := 2000000) only [go_sem]
  repeat with_reducible refine zAb ?_
  exact zBg (by simp) ⟨zAP rfl trivial (.inr rfl), zAP rfl trivial (.inl rfl), rfl⟩
 have h2 : ¬ 512 < l.length := by simp at g2; omega
 rw [if_neg h2]
 try simp (maxSteps := 2000000) only [go_sem]
 repeat with_reducible refine zAb ?_
 refine zAv (fun i : Nat => [(21, .pv (iv i)), (6, .un), (7, .un), (9, .un), (22, .un), (34, .un)]) (fun i : Nat => l.length - i) (fun i : Nat => i ≤ l.length ∧ l.find? (fun e => decide (e.key = (k, nm))) = (l.drop i).find? (fun e => decide (e.key = (k, nm)))) (0) ?_ ⟨Nat.zero_le _, rfl⟩ ?_
 focus (simp (maxSteps := 2000000) only [go_sem, zAi, zAs, zAF, zAj]; all_goals (repeat' (first | exact trivial | exact zAr (by omega) | exact zAk rfl | exact zAw rfl | exact zAt | exact le_refl _ | refine And.intro ?_ ?_)))
 rintro i ⟨hi, hinv⟩
 try simp (maxSteps := 2000000) only [go_sem]
 repeat with_reducible refine zAb ?_
 refine zAc (by rfl) trivial (fun g3 => ?_) (fun g3 => ?_)
 ·have hil : i < l.length := by simpa using g3
  have e1 := zOU l i hil
  rw [zD4 (d := default) hil] at hinv
  have hmem : l.getD i default ∈ l := by simp [hil]
  have hsz := hs _ hmem
  obtain ⟨e, he⟩ : ∃ e, e = l.getD i default := ⟨_, rfl⟩
  rw [← he] at e1 hinv hsz
  have hC := zXG e.nodes hsz
  unfold yAb at e1
  try simp (maxSteps := 2000000) only [go_sem, e1]
  repeat with_reducible refine zAb ?_
  refine zAc (by rfl) trivial (fun g4 => ?_) (fun g4 => ?_)
  ·have hk : e.key = (k, nm) := by
    by_cases h : e.kind = k
    ·simp [h] at g4; exact Prod.ext h g4
    ·simp [h] at g4
   rw [List.find?_cons_of_pos (by simpa using hk)] at hinv
   have ha : atK l (k, nm) = e.nodes := by unfold atK; rw [hinv]; rfl
   rw [ha]
   try simp (maxSteps := 2000000) only [go_sem]
   repeat with_reducible refine zAb ?_
   refine zSc (by repeat' constructor) (hC) ?_
   try simp (maxSteps := 2000000) only [go_sem]
   repeat with_reducible refine zAb ?_
   exact zBg (by simp) ⟨zAP rfl trivial (.inl rfl), zAP rfl trivial (.inl rfl), rfl⟩
  ·have hk : ¬ e.key = (k, nm) := by
    intro h
    have h : (e.kind, e.name) = (k, nm) := h
    injection h with h3 h4
    simp [h3, h4] at g4
   rw [List.find?_cons_of_neg (by simpa using hk)] at hinv
   try simp (maxSteps := 2000000) only [go_sem]
   repeat with_reducible refine zAb ?_
   refine ⟨i + 1, by omega, ⟨by omega, hinv⟩, ?_⟩
   simp (maxSteps := 2000000) only [go_sem, zAi, zAs, zAF, zAj]
   all_goals (repeat' (first | exact trivial | exact zAr (by omega) | exact zAk rfl | exact zAw rfl | exact zAt | exact le_refl _ | refine And.intro ?_ ?_))
 ·have hil : i = l.length := by simp at g3; omega
  rw [hil, List.drop_length] at hinv
  have ha : atK l (k, nm) = [] := by unfold atK; rw [hinv]; rfl
  rw [ha]
  try simp (maxSteps := 2000000) only [go_sem]
  repeat with_reducible refine zAb ?_
  exact zBg (by simp) ⟨zAP rfl trivial (.inr rfl), zAP rfl trivial (.inl rfl), rfl⟩
theorem yA7 (d : List Nd) (z : PV) (h64 : d.length ≤ 64) (hcls : ∀ i, i < d.length → (d.getD i default).cls.length ≤ 6) {k : Int} (hk1 : 1 ≤ k) (hk3 : k ≤ 3) (nm : Bys) (s : Bool × List Int) (hsl : s.2.length ≤ 4224) :
  zEe Tryz.prog zCJ [.val (iv k), .val (sv nm)] [.v (.fp [z, .sl 3 (zDm (idxOf d))]), .io [bB s.1], .io [.sl 1 (zAS s.2)]] [[bB (zPD s (zSo d (k, nm))).1], [.sl 1 (zAS (zPD s (zSo d (k, nm))).2)]] := by
 have hn : ∀ e ∈ idxOf d, e.nodes.length * 8 ≤ 140737488355328 := fun e he => by
  have h1 := ((zGm _ (zA2 d d.length) rfl).2 e).1 he
  have h2 := zDy (zA2 d d.length) e.key
  have h3 := zER d d.length fun i hi => hcls i hi
  rw [h1.2]; omega
 have hL := zMR (idxOf d) k nm hn
 rw [yCB d h64 hcls hk1 hk3] at hL
 have hnl := (zOj (d := d) h64 (fun i hi => Nat.le_trans (hcls i hi) (by decide)) (k, nm)).2
 obtain ⟨N, hN⟩ : ∃ N, N = zSo d (k, nm) := ⟨_, rfl⟩
 rw [← hN] at hL hnl ⊢
 obtain ⟨b, S⟩ := s
 refine zNh ⟨Nat.le_of_ble_eq_true rfl, (fun x hx => by simp at hx; rcases hx with rfl | rfl <;> exact ⟨_, rfl⟩), rfl, rfl, rfl⟩ rfl ?_
 unfold F0c zEC zDk
 simp only [zAH, zEJ, zAa, zIw, zUd, zAG, List.set_cons_succ, List.set_cons_zero, List.map_cons, List.map_nil, List.length_cons, List.length_nil, Nat.reduceAdd, Nat.reduceSub, List.replicate, List.cons_append, List.nil_append]
 try simp (maxSteps := 2000000) only [go_sem]
 repeat with_reducible refine zAb ?_
 refine zBA (by repeat' constructor) (hL) ?_
 try simp (maxSteps := 2000000) only [go_sem]
 repeat with_reducible refine zAb ?_
 have hS : S.length ≤ 4224 := hsl
 refine zAc (by rfl) trivial (fun g1 => ?_) (fun g1 => ?_)
 ·have ht : zPD (b, S) N = (true, N) := by
   unfold zPD
   rw [if_pos]
   by_cases h : b = false
   ·exact .inl h
   ·right; simp [h] at g1; exact g1
  rw [ht]
  try simp (maxSteps := 2000000) only [go_sem]
  repeat with_reducible refine zAb ?_
  rfl
 ·have ht : zPD (b, S) N = (b, S) := by
   unfold zPD
   rw [if_neg]
   rintro (h | h)
   ·have h : b = false := h
    simp [h] at g1
   ·have h : N.length < S.length := h
    by_cases hb : b = false
    ·simp [hb] at g1
    ·simp [hb] at g1; omega
  rw [ht]
  try simp (maxSteps := 2000000) only [go_sem]
  repeat with_reducible refine zAb ?_
  rfl
def zOV (s : Bool × List Int) : PV := if s.1 then .sl 1 (zAS s.2) else .nl 1
theorem zZO {s : Bool × List Int} (h : s.1 = false → s.2 = []) : (zOV s).norm = .sl 1 (zAS s.2) := by
 unfold zOV
 cases hs : s.1 with
 |true => rfl
 |false => rw [h hs]; rfl
theorem zYR (s : Bool × List Int) (l : List Int) : (zPD s l).1 = true := by
 unfold zPD
 split
 ·rfl
 ·rename_i h
  cases hs : s.1 with
  |true => rfl
  |false => exact absurd (.inl hs) h
theorem yA8 (s : Bool × List Int) (l : List Int) : zOV (zPD s l) = .sl 1 (zAS (zPD s l).2) := by
 unfold zOV; rw [zYR]; rfl
theorem zTO {s : Bool × List Int} {l : List Int} (h : s.2.length ≤ 4224) (h2 : l.length ≤ 4224) : (zPD s l).2.length ≤ 4224 := by
 unfold zPD; split
 ·exact h2
 ·exact h
theorem zTP (d : List Nd) (h64 : d.length ≤ 64) (hcls : ∀ i, i < d.length → (d.getD i default).cls.length ≤ 6) (p : Pt) (h1 : 1 ≤ p.steps.length) (h6 : (zFb p).tests.length ≤ 6) :
  Contract Tryz.prog zFf [.val (.agg [.sl 5 (zMC d), .sl 3 (zDm (idxOf d))]), .val (.agg (ptV p))] { res := .val (.one (.sl 1 (zAS (zOi d p)))) } := by
 have hc64 : ∀ i, i < d.length → (d.getD i default).cls.length ≤ 64 := fun i hi => Nat.le_trans (hcls i hi) (by decide)
 have hnd := fun k => (zOj (d := d) h64 hc64 k).2
 have hx := zSj p.steps (p.steps.length - 1) (by omega)
 have hS1 : ∀ (k : Int) (nm : Bys) (s : Bool × List Int), 1 ≤ k → k ≤ 3 → (s.1 = false → s.2 = []) → s.2.length ≤ 4224 → zEe Tryz.prog zCJ [.val (iv k), .val (sv nm)] [.v (.fp [.sl 5 (zMC d), .sl 3 (zDm (idxOf d))]), .io [bB s.1], .io [(zOV s).norm]] [[bB (zPD s (zSo d (k, nm))).1], [zOV (zPD s (zSo d (k, nm)))]] := by
  intro k nm s h2 h3 h4 h5
  rw [zZO h4, yA8]
  exact yA7 d _ h64 hcls h2 h3 nm s h5
 have hseed : zOi d p = if ((zFb p).tests.foldl (zDO d) (zFa d (zFb p))).1 then ((zFb p).tests.foldl (zDO d) (zFa d (zFb p))).2 else yHA d := rfl
 rw [hseed]
 have hlast : p.steps.getD (p.steps.length - 1) default = zFb p := rfl
 rw [hlast] at hx
 obtain ⟨S, hS⟩ : ∃ S, S = zFb p := ⟨_, rfl⟩
 rw [← hS] at hx h6 ⊢
 rw [zRd] at hx
 obtain ⟨sts, hsts⟩ : ∃ s, s = p.steps := ⟨_, rfl⟩
 rw [← hsts] at h1 hx
 rw [zHd, ← hsts]
 have hsub : ((sts.length : Int) - 1).toNat = sts.length - 1 := by omega
 refine mkA zQl (base := 0) (fo rfl) (fun hfit => ?_)
 unfold F0 zLe
 simp (maxSteps := 2000000) only [zAH, List.set_cons_succ, List.set_cons_zero, List.map_cons, List.map_nil, zAG, zAa, ioOf, List.length_cons, List.length_nil, Nat.reduceAdd, Nat.reduceSub, List.replicate, List.cons_append, List.nil_append]
 try simp (maxSteps := 2000000) only [go_sem]
 repeat with_reducible refine zAb ?_
 have hfl := zDN (k := 2) hfit.2.1.1
 rw [zBr] at hfl
 try simp (maxSteps := 2000000) only [go_sem, hsub, hx]
 repeat with_reducible refine zAb ?_
 have hI : ∀ i, ((S.tests.take i).foldl (zDO d) (zFa d S)).2.length ≤ 4224 ∧ (((S.tests.take i).foldl (zDO d) (zFa d S)).1 = false → ((S.tests.take i).foldl (zDO d) (zFa d S)).2 = []) := by
  have h0 : (zFa d S).2.length ≤ 4224 ∧ ((zFa d S).1 = false → (zFa d S).2 = []) := by
   unfold zFa
   split
   ·exact ⟨Nat.zero_le _, fun _ => rfl⟩
   ·exact ⟨zTO (Nat.zero_le _) (hnd _), fun h => by rw [zYR] at h; cases h⟩
  have hF : ∀ (l : List Ts) (s : Bool × List Int), s.2.length ≤ 4224 ∧ (s.1 = false → s.2 = []) → (l.foldl (zDO d) s).2.length ≤ 4224 ∧ ((l.foldl (zDO d) s).1 = false → (l.foldl (zDO d) s).2 = []) := by
   intro l
   induction l with
   |nil => intro s h; exact h
   |cons t r ih =>
    intro s h
    rw [List.foldl_cons]
    refine ih _ ?_
    unfold zDO
    split
    ·exact ⟨zTO h.1 (hnd _), fun h => by rw [zYR] at h; cases h⟩
    ·split
     ·exact ⟨zTO h.1 (hnd _), fun h => by rw [zYR] at h; cases h⟩
     ·exact h
  exact fun i => hF _ _ h0
 have hst : ∀ i, i < S.tests.length → (S.tests.take (i + 1)).foldl (zDO d) (zFa d S) = zDO d ((S.tests.take i).foldl (zDO d) (zFa d S)) (S.tests.getD i default) := by
  intro i hi
  rw [List.take_succ_eq_append_getElem hi, List.foldl_append]
  simp [hi]
 refine zAc (by rfl) trivial (fun g1 => ?_) (fun g1 => ?_)
 have htg : S.tag ≠ [] := by simpa using g1
 have e0 : zPD (false, []) (zSo d (1, S.tag)) = zFa d S := by unfold zFa; rw [if_neg htg]
 have hC := hS1 1 S.tag (false, []) (by decide) (by decide) (fun _ => rfl) (Nat.zero_le _)
 rw [e0] at hC
 try simp (maxSteps := 2000000) only [go_sem]
 repeat with_reducible refine zAb ?_
 refine yEA (by rfl) (by repeat' constructor) (by rfl) hC ?_
 simp only [zEJ]
 try simp (maxSteps := 2000000) only [go_sem]
 repeat with_reducible refine zAb ?_
 rotate_left
 have htg : S.tag = [] := by simpa using g1
 have e0 : zFa d S = (false, []) := by unfold zFa; rw [if_pos htg]
 try simp (maxSteps := 2000000) only [go_sem]
 repeat with_reducible refine zAb ?_
 all_goals
  refine zAv (fun i : Nat => [(31, .pv (iv i)), (68, .pv (.one (bB ((S.tests.take i).foldl (zDO d) (zFa d S)).1))), (67, .pv (.one (zOV ((S.tests.take i).foldl (zDO d) (zFa d S))))), (69, .un), (70, .un), (71, .un), (72, .un), (73, .un), (74, .un), (10, .un), (32, .un), (36, .un), (37, .un), (43, .un)]) (fun i : Nat => S.tests.length - i) (fun i : Nat => i ≤ S.tests.length) (0) ?_ (Nat.zero_le _) ?_
  focus (simp (maxSteps := 2000000) only [go_sem, zAi, zAs, zAF, zAj]; all_goals (repeat' (first | exact trivial | exact zAr (by omega) | exact zAk rfl | exact zAw rfl | exact zAt | exact le_refl _ | refine And.intro ?_ ?_)))
  all_goals try (rw [e0]; exact zAw rfl)
  intro i hi
  obtain ⟨hI1, hI2⟩ := hI i
  have hsti := hst i
  obtain ⟨s, hs⟩ : ∃ s, s = (S.tests.take i).foldl (zDO d) (zFa d S) := ⟨_, rfl⟩
  rw [← hs] at hI1 hI2 hsti ⊢
  try simp (maxSteps := 2000000) only [go_sem]
  repeat with_reducible refine zAb ?_
  refine zAc (by rfl) trivial (fun g2 => ?_) (fun g2 => ?_)
  ·have hil : i < S.tests.length := by simpa using g2
   have hy := zSi S.tests i hil
   have hsti := hsti hil
   rw [zMF] at hy
   obtain ⟨t, ht⟩ : ∃ t, t = S.tests.getD i default := ⟨_, rfl⟩
   rw [← ht] at hy hsti
   try simp (maxSteps := 2000000) only [go_sem, hy]
   repeat with_reducible refine zAb ?_
   refine zAc (by rfl) trivial (fun g3 => ?_) (fun g3 => ?_)
   ·have hk : t.kind = 2 := by simpa using g3
    have hC := hS1 2 t.name s (by decide) (by decide) hI2 hI1
    have e1 : zPD s (zSo d (2, t.name)) = zDO d s t := by unfold zDO; rw [if_pos hk]
    rw [e1, ← hsti] at hC
    try simp (maxSteps := 2000000) only [go_sem]
    repeat with_reducible refine zAb ?_
    refine yEA (by rfl) (by repeat' constructor) (by rfl) hC ?_
    simp only [zEJ]
    try simp (maxSteps := 2000000) only [go_sem]
    repeat with_reducible refine zAb ?_
    refine ⟨i + 1, by omega, by omega, ?_⟩
    simp (maxSteps := 2000000) only [go_sem, zAi, zAs, zAF, zAj]
    all_goals (repeat' (first | exact trivial | exact zAr (by omega) | exact zAk rfl | exact zAw rfl | exact zAt | exact le_refl _ | refine And.intro ?_ ?_))
   ·have hk : ¬ t.kind = 2 := by simpa using g3
    try simp (maxSteps := 2000000) only [go_sem]
    repeat with_reducible refine zAb ?_
    refine zAc (by rfl) trivial (fun g4 => ?_) (fun g4 => ?_)
    ·have hk1 : t.kind = 1 := by simpa using g4
     have hC := hS1 3 t.name s (by decide) (by decide) hI2 hI1
     have e1 : zPD s (zSo d (3, t.name)) = zDO d s t := by unfold zDO; rw [if_neg hk, if_pos hk1]
     rw [e1, ← hsti] at hC
     try simp (maxSteps := 2000000) only [go_sem]
     repeat with_reducible refine zAb ?_
     refine yEA (by rfl) (by repeat' constructor) (by rfl) hC ?_
     simp only [zEJ]
     try simp (maxSteps := 2000000) only [go_sem]
     repeat with_reducible refine zAb ?_
     refine ⟨i + 1, by omega, by omega, ?_⟩
     simp (maxSteps := 2000000) only [go_sem, zAi, zAs, zAF, zAj]
     all_goals (repeat' (first | exact trivial | exact zAr (by omega) | exact zAk rfl | exact zAw rfl | exact zAt | exact le_refl _ | refine And.intro ?_ ?_))
    ·have hk1 : ¬ t.kind = 1 := by simpa using g4
     have e1 : s = zDO d s t := by unfold zDO; rw [if_neg hk, if_neg hk1]
     rw [← e1] at hsti
     try simp (maxSteps := 2000000) only [go_sem]
     repeat with_reducible refine zAb ?_
     refine ⟨i + 1, by omega, by omega, ?_⟩
     rw [hsti]
     simp (maxSteps := 2000000) only [go_sem, zAi, zAs, zAF, zAj]
     all_goals (repeat' (first | exact trivial | exact zAr (by omega) | exact zAk rfl | exact zAw rfl | exact zAt | exact le_refl _ | refine And.intro ?_ ?_))
  ·have hil : i = S.tests.length := by simp at g2; omega
   rw [hil, List.take_length] at hs
   rw [← hs]
   try simp (maxSteps := 2000000) only [go_sem]
   repeat with_reducible refine zAb ?_
   cases hs1 : s.1 with
   |true =>
    have hb : zOV s = .sl 1 (zAS s.2) := by unfold zOV; rw [hs1]; rfl
    rw [hb]
    try simp (maxSteps := 2000000) only [go_sem, hs1]
    repeat with_reducible refine zAb ?_
    refine zUv (by rfl) trivial ?_
    try simp (maxSteps := 2000000) only [go_sem]
    repeat with_reducible refine zAb ?_
    exact zAe rfl trivial (.inl rfl)
   |false =>
    have hb : zOV s = .nl 1 := by unfold zOV; rw [hs1]; rfl
    rw [hb]
    try simp (maxSteps := 2000000) only [go_sem, hs1]
    repeat with_reducible refine zAb ?_
    refine zYB (by rfl) trivial ?_
    try simp (maxSteps := 2000000) only [go_sem]
    repeat with_reducible refine zAb ?_
    refine zAv (fun j : Nat => [(56, .pv (iv j)), (67, .own zBk 1 (zAS ((List.range j).map Int.ofNat))), (11, .un), (57, .un)]) (fun j : Nat => d.length - j) (fun j : Nat => j ≤ d.length) (0) ?_ (Nat.zero_le _) ?_
    focus (simp (maxSteps := 2000000) only [go_sem, zAi, zAs, zAF, zAj]; all_goals (repeat' (first | exact trivial | exact zAr (by omega) | exact zAk rfl | exact zAw rfl | exact zAt | exact le_refl _ | refine And.intro ?_ ?_)))
    intro j hj
    have hjl : ((List.range j).map Int.ofNat).length ≤ 64 := by simp; omega
    have hjs : zAS ((List.range (j + 1)).map Int.ofNat) = zAS ((List.range j).map Int.ofNat) ++ [[bI (j : Int)]] := by simp [List.range_succ, zAS]
    obtain ⟨L, hL⟩ : ∃ L, L = (List.range j).map Int.ofNat := ⟨_, rfl⟩
    rw [← hL] at hjl hjs ⊢
    try simp (maxSteps := 2000000) only [go_sem]
    repeat with_reducible refine zAb ?_
    refine zAc (by rfl) trivial (fun g5 => ?_) (fun g5 => ?_)
    ·have hjd : j < d.length := by simpa using g5
     try simp (maxSteps := 2000000) only [go_sem]
     repeat with_reducible refine zAb ?_
     refine ⟨j + 1, by omega, by omega, ?_⟩
     rw [hjs]
     simp (maxSteps := 2000000) only [go_sem, zAi, zAs, zAF, zAj]
     all_goals (repeat' (first | exact trivial | exact zAr (by omega) | exact zAk rfl | exact zAw rfl | exact zAt | exact le_refl _ | refine And.intro ?_ ?_))
    ·have hjd : j = d.length := by simp at g5; omega
     have hall : L = yHA d := by rw [hL, hjd]; rfl
     try simp (maxSteps := 2000000) only [go_sem]
     repeat with_reducible refine zAb ?_
     rw [hall]
     exact zAe rfl trivial (.inl rfl)
end Go.Hx
end

section
/-
 The abstract code of functions of the program, printed by gen.py; each stands for the given one. No condition.
-/
namespace Go.Hx
open Go.Proofs
variable [Glob]
abbrev zCW : Nat := 100
abbrev zQD : HCode := oN [oV 1 (.boxF (.t 0)),
  oV 2 (.mv (.c (.one (.nl 3)))),
  oV 3 (.mv (.c (iv 0)))]
abbrev zQE : HCode := oR [oV 13 (.ldR (.t 1) 1 true),
  oC 14 zES [(.t 13, .v)],
  oV 4 (.mv (.t 14))] [13, 14]
abbrev zQF : HCode := oR [oV 15 (.mv (.t 4)),
  oV 16 (.ints .neq (.t 15) (.c (iv 0)))] [15]
abbrev zQG : HCode := oR [oV 17 (.mv (.t 4)),
  oV 2 (.mv (.c (.one (.nl 3)))),
  oV 3 (.mv (.t 17))] [17]
abbrev zQH : HCode := oN [⟨none, .mmk 18⟩,
  oV 5 (.mv (.t 18))]
abbrev zQI : HCode := oR [oV 19 (.fldR (.t 1) 0 1),
  oV 20 (.ldR (.t 19) 1 false),
  oV 21 (.len false (.t 20)),
  oV 22 (.mv (.c (iv 0)))] [19]
abbrev zQJ : HCode := oN [oV 23 (.ints .lss (.t 22) (.t 21))]
abbrev zQK : HCode := oR [oV 24 (.mv (.t 22)),
  oV 25 (.idxA 5 (.t 20) (.t 22)),
  oV 26 (.ldR (.t 25) 5 true),
  ⟨none, .alloc 7 0 92 [.v (.int .i64 0), .v (mkS []), .v (mkS []), .nl 1, .nl 2]⟩,
  oV 6 (.mv (.t 24)),
  ⟨none, .sto (.t 7) 0 92 0 5 (.t 26)⟩] [24, 25, 26]
abbrev zQL : HCode := oQ [oD 0 false (oV 27 (.mv (.t 5))),
  oD 1 false (oV 28 (.fldP (.t 7) 1)),
  oD 2 false (oV 29 (.ldB (.t 28) 0 92 1 1 false)),
  oD 3 false (oV 30 (.bld [.v (.int .i64 0), .v (mkS [])] [(0, 1, .c (iv 1)), (1, 1, .t 29)])),
  oD 4 false (oV 31 (.mv (.t 5))),
  oD 5 false (oV 32 (.fldP (.t 7) 1)),
  oD 6 false (oV 33 (.ldB (.t 32) 0 92 1 1 false)),
  oD 7 false (oV 34 (.bld [.v (.int .i64 0), .v (mkS [])] [(0, 1, .c (iv 1)), (1, 1, .t 33)])),
  oD 8 false ⟨none, .mpv 35 (.t 31) 18 3 (.t 34) zBk 1⟩,
  oD 9 false (oV 36 (.mv (.t 6))),
  oD 10 false (oV 37 (.bslF 1 [.t 36])),
  oD 11 false ⟨none, .vap 38 zBk 1 35 (.t 37)⟩,
  oD 12 false ⟨none, .mps (.t 27) 18 3 (.t 30) (.t 38)⟩] [27, 28, 29, 30, 31, 32, 33, 34, 35, 36, 37, 38]
abbrev zQM : HCode := oR [oV 39 (.fldP (.t 7) 2),
  oV 40 (.ldB (.t 39) 0 92 2 1 false),
  oV 41 (.strs .neq (.t 40) (.c (sv [])))] [39, 40]
abbrev zOX : HCode := oQ [oD 0 false (oV 42 (.mv (.t 5))),
  oD 1 false (oV 43 (.fldP (.t 7) 2)),
  oD 2 false (oV 44 (.ldB (.t 43) 0 92 2 1 false)),
  oD 3 false (oV 45 (.bld [.v (.int .i64 0), .v (mkS [])] [(0, 1, .c (iv 2)), (1, 1, .t 44)])),
  oD 4 false (oV 46 (.mv (.t 5))),
  oD 5 false (oV 47 (.fldP (.t 7) 2)),
  oD 6 false (oV 48 (.ldB (.t 47) 0 92 2 1 false)),
  oD 7 false (oV 49 (.bld [.v (.int .i64 0), .v (mkS [])] [(0, 1, .c (iv 2)), (1, 1, .t 48)])),
  oD 8 false ⟨none, .mpv 50 (.t 46) 18 3 (.t 49) zBk 1⟩,
  oD 9 false (oV 51 (.mv (.t 6))),
  oD 10 false (oV 52 (.bslF 1 [.t 51])),
  oD 11 false ⟨none, .vap 53 zBk 1 50 (.t 52)⟩,
  oD 12 false ⟨none, .mps (.t 42) 18 3 (.t 45) (.t 53)⟩] [42, 43, 44, 45, 46, 47, 48, 49, 50, 51, 52, 53]
abbrev zOY : HCode := oR [oV 54 (.fldP (.t 7) 3),
  oV 55 (.ldB (.t 54) 0 92 3 1 false),
  oV 56 (.len false (.t 55)),
  oV 57 (.mv (.c (iv 0)))] [54]
abbrev zOZ : HCode := oN [oV 58 (.ints .lss (.t 57) (.t 56))]
abbrev zO0 : HCode := oR [oV 59 (.idxA 1 (.t 55) (.t 57)),
  oV 60 (.ldR (.t 59) 1 false),
  oV 9 (.mv (.t 60))] [59, 60]
abbrev zO1 : HCode := oR [oV 61 (.mv (.t 5)),
  oV 62 (.mv (.t 9)),
  oV 63 (.bld [.v (.int .i64 0), .v (mkS [])] [(0, 1, .c (iv 3)), (1, 1, .t 62)]),
  oV 64 (.mv (.t 5)),
  oV 65 (.mv (.t 9)),
  oV 66 (.bld [.v (.int .i64 0), .v (mkS [])] [(0, 1, .c (iv 3)), (1, 1, .t 65)]),
  ⟨none, .mpv 67 (.t 64) 18 3 (.t 66) zBk 1⟩,
  oV 68 (.mv (.t 6)),
  oV 69 (.bslF 1 [.t 68]),
  ⟨none, .vap 70 zBk 1 67 (.t 69)⟩,
  ⟨none, .mps (.t 61) 18 3 (.t 63) (.t 70)⟩] [61, 62, 63, 64, 65, 66, 67, 68, 69, 70]
abbrev zO2 : HCode := oR [oV 71 (.ints .add (.t 57) (.c (iv 1))),
  oV 57 (.mv (.t 71))] [71]
abbrev zO3 : HCode := oR [oV 72 (.ints .add (.t 22) (.c (iv 1))),
  oV 22 (.mv (.t 72))] [72]
abbrev zO4 : HCode := oN [⟨none, .vnl 10 zCU 3⟩]
abbrev zO5 : HCode := .regG [.vfm 18] [oV 73 (.mv (.t 5)),
  ⟨none, .mrg 74 (.t 73) 18⟩] [.forget [73]]
abbrev zO6 : HCode := oR [⟨none, .mnx 75 74 18⟩,
  oV 76 (.ext 75 0)] [75]
abbrev zO7 : HCode := oR [⟨none, .men 77 74 18⟩,
  oV 78 (.ext 77 0),
  oV 79 (.ext 77 1),
  ⟨none, .alloc 11 1 97 [.v (.int .i64 0), .v (mkS [])]⟩,
  ⟨none, .sto (.t 11) 1 97 0 2 (.t 78)⟩,
  oV 12 (.mv (.t 79))] [77, 78, 79]
abbrev zO8 : HCode := oR [⟨none, .vmv 80 10⟩,
  oV 81 (.fldP (.t 11) 0),
  oV 82 (.ldB (.t 81) 1 97 0 1 false),
  oV 83 (.fldP (.t 11) 1),
  oV 84 (.ldB (.t 83) 1 97 1 1 false),
  oV 85 (.mv (.t 12)),
  oV 86 (.bld [.v (.int .i64 0), .v (mkS []), .nl 1] [(0, 1, .t 82), (1, 1, .t 84), (2, 1, .t 85)]),
  oV 87 (.bslF 3 [.t 86]),
  ⟨none, .vap 88 zCU 3 80 (.t 87)⟩,
  ⟨none, .vmv 10 88⟩] [80, 81, 82, 83, 84, 85, 86, 87, 88]
abbrev zO9 : HCode := .regG [.pin 10 0 0 []] [oV 89 (.mv (.t 10)),
  ⟨none, .cals (some 90) zCW 10 (.t 89) [(.f zBd, .v)]⟩] [.forget [89, 90]]
abbrev zPa : HCode := .regG [.vfr 10 0 0] [oV 91 (.mv (.t 10)),
  oV 2 (.mv (.t 91)),
  oV 3 (.mv (.c (iv 0)))] [.forget [91]]
abbrev zXK : HCode := (.seq zQD (.seq (.seq zQE (.seq zQF (.cond (.t 16) (.seq zQG .ret) .skip))) (.seq zQH (.seq (.seq zQI (.block 0 (.loop (.seq zQJ (.seq (.cond (.t 23) .skip (.exit 0)) (.seq (.block 1 (.seq zQK (.seq zQL (.seq (.seq zQM (.cond (.t 41) zOX .skip)) (.seq zOY (.block 2 (.loop (.seq zOZ (.seq (.cond (.t 58) .skip (.exit 2)) (.seq (.block 3 (.seq zO0 zO1)) zO2)))))))))) zO3)))))) (.seq zO4 (.seq (.seq zO5 (.block 4 (.loop (.seq zO6 (.seq (.cond (.t 76) .skip (.exit 4)) (.block 5 (.seq zO7 zO8))))))) (.seq zO9 (.seq zPa .ret))))))))
abbrev zLf : Env := { N := 92, Γ := [(92, 5), (97, 2)], L := 99, nfix := 0 }
abbrev index_Build_R : List RSrc := [.tmp 2, .tmp 3]
theorem zQN : zCa Tryz.prog zB4 zXK zLf index_Build_R := by kernel_rfl
end Go.Hx
end

section
set_option maxRecDepth 100000
set_option linter.unusedSimpArgs false
namespace Go.Hx
open Go.Proofs
variable [Glob]
attribute [local go_sem] zAq zAo zAp zAg ndV zAl
end Go.Hx
end

section
set_option maxRecDepth 100000
set_option linter.unusedSimpArgs false
namespace Go.Hx
open Go.Proofs
variable [Glob]
attribute [local go_sem] zAq zAo zAp zAg ndV zAl
theorem zRo {d : List Nd} {i : Nat} : zDD d (i + 1) = (zDD d i && zYF d i) := zE9
end Go.Hx
end

section
set_option maxRecDepth 100000
set_option linter.unusedSimpArgs false
namespace Go.Hx
open Go.Proofs
variable [Glob]
attribute [local go_sem] zAq zAo zAp zAg ndV zAl
def yBc (d : List Nd) (k : Int) : Int := if zAz d = 0 then (if 0 ≤ k ∧ k ≤ (d.length : Int) - 1 then 0 else 5) else zAz d
def zAT (d : List Nd) (n : Int) (k : Nat) : Int := ((List.range k).filter fun i => (zBB d d.length (zBh d i)).contains n).length
def zCz (d : List Nd) (n : Int) : Int := zAT d n d.length
theorem zIa {d : List Nd} {n : Int} {k : Nat} : zAT d n (k + 1) = zAT d n k + (if (zBB d d.length (zBh d k)).contains n then 1 else 0) := by
 unfold zAT
 rw [List.range_succ, List.filter_append, List.length_append, List.filter_cons, List.filter_nil]
 split <;> simp
theorem zD9 {d : List Nd} {n : Int} : ∀ k : Nat, 0 ≤ zAT d n k ∧ zAT d n k ≤ k
 |0 => by simp [zAT]
 |k + 1 => by have := zD9 (d := d) (n := n) k; rw [zIa]; split <;> omega
def zAK (d : List Nd) (n : Int) (k : Nat) : List Int := ((List.range k).filter fun i => decide (zBh d i = n)).map Int.ofNat
def zIb (d : List Nd) (n : Int) : List Int := zAK d n d.length
theorem zAU {d : List Nd} {n : Int} {k : Nat} : zAK d n (k + 1) = if zBh d k = n then zAK d n k ++ [(k : Int)] else zAK d n k := by
 unfold zAK
 rw [List.range_succ, List.filter_append, List.map_append]
 by_cases h : zBh d k = n <;> simp [List.filter, h]
theorem zGa {d : List Nd} {n : Int} (k : Nat) : (zAK d n k).length ≤ k := by
 unfold zAK
 rw [List.length_map]
 exact Nat.le_trans (List.length_filter_le _ _) (by simp)
end Go.Hx
end

section
set_option maxRecDepth 100000
set_option linter.unusedSimpArgs false
namespace Go.Hx
open Go.Proofs
variable [Glob]
inductive Tr where
 |mk (x : Nd) (k : List Tr)
instance : Inhabited Tr := ⟨.mk default []⟩
attribute [local go_sem] zAq zAo zAp zAg ndV zAl List.take_zero List.map_nil
mutual
def trV : Tr → List PV
 |.mk x k => [bI x.up, bS x.tag, bS x.id, .sl 1 (zPC x.cls), .sl 2 (zYE x.att), .sl 6 (yFz k)]
def yFz : List Tr → List (List PV)
 |[] => []
 |t :: r => trV t :: yFz r
end
theorem zYV : ∀ l : List Tr, yFz l = l.map trV
 |[] => rfl
 |t :: r => by simp [yFz, zYV r]
theorem zXM (t : Tr) : (trV t).length = 6 := by cases t; rfl
attribute [local go_sem] zXM
theorem zTU (t : Tr) : (trV t).map PV.norm = trV t := by cases t; rfl
attribute [local go_sem] zTU
theorem zTV : yFz [] = [] := rfl
attribute [local go_sem] zTV
theorem zTW (l : List Tr) : (yFz l).length = l.length := by simp [zYV]
attribute [local go_sem] zTW
theorem zIt {d : List Nd} (hd : zDD d d.length = true) {n : Nat} (h : n < d.length) : zGl (d.getD n default) = true := by
 have := zBp hd h
 simp only [zYF, Bool.and_eq_true] at this
 exact this.1
theorem zE3 {x : Nd} (h : zGl x = true) : x.cls.length ≤ 6 ∧ x.att.length ≤ 4 := by
 simp only [zGl, Bool.and_eq_true, decide_eq_true_eq] at h
 exact ⟨h.1.1.1.2, h.1.1.2⟩
end Go.Hx
end

section
set_option maxRecDepth 100000
set_option linter.unusedSimpArgs false
namespace Go.Hx
open Go.Proofs
variable [Glob]
attribute [local go_sem] zAq zAo zAp zAg ndV zAl zTW zTV zXM zTU List.take_zero List.map_nil
end Go.Hx
end

section
set_option maxRecDepth 100000
set_option linter.unusedSimpArgs false
namespace Go.Hx
open Go.Proofs
variable [Glob]
attribute [local go_sem] zAq zAo zAp zAg ndV zAl zTW zTV zXM zTU List.take_zero List.map_nil
theorem zGu {d : List Nd} (h : zAz d = 0) : 1 ≤ d.length ∧ d.length ≤ 64 ∧ zDD d d.length = true := by
 unfold zAz at h
 split at h
 ·rename_i h1
  split at h
  ·rename_i h2
   exact ⟨h1.1, h1.2, h2⟩
  ·omega
 ·omega
end Go.Hx
end

section
set_option maxRecDepth 100000
set_option linter.unusedSimpArgs false
namespace Go.Hx
open Go.Proofs
variable [Glob]
attribute [local go_sem] zAq zAo zAp zAg ndV zAl zAh
attribute [local go_sem] reduceCtorEq Nat.reduceAdd Nat.reduceEqDiff reduceIte Nat.reduceLeDiff Nat.reduceLT Nat.reduceSub
theorem yE5 {a b : Int} (h : zSm a b = 0) : (-1048576 ≤ a ∧ a ≤ 1048576) ∧ (-1048576 ≤ b ∧ b ≤ 1048576) := by
 unfold zSm at h
 split at h
 ·rename_i h1; simpa [zSl] using h1
 ·cases h
def yHm (a b : Int) : PVal := .agg [bI a, bI b]
theorem zPh (a b : Int) : Contract Tryz.prog zEW [.val (yHm a b)] { res := .val (iv (zSm a b)) } := by
 unfold yHm
 refine mkA zVa (base := 0) (fo rfl) (fun hfit => ?_)
 unfold F0 zOy
 simp (maxSteps := 2000000) only [zAH, List.set_cons_succ, List.set_cons_zero, List.map_cons, List.map_nil, zAG, zAa, ioOf, List.length_cons, List.length_nil, Nat.reduceAdd, Nat.reduceSub, List.replicate, List.cons_append, List.nil_append]
 try simp (maxSteps := 2000000) only [go_sem]
 repeat with_reducible refine zAb ?_
 refine zAv (fun i : Nat => [(4, .un), (10, .pv (iv i)), (11, .un), (18, .un)]) (fun i : Nat => 2 - i) (fun i : Nat => i ≤ 2 ∧ (1 ≤ i → zSl a = true) ∧ (2 ≤ i → zSl b = true)) (0) ?_ ⟨by omega, by omega, by omega⟩ ?_
 focus (simp (maxSteps := 2000000) only [go_sem, zAi, zAs, zAF, zAj]; all_goals (repeat' (first | exact trivial | exact zAr (by omega) | exact zAk rfl | exact zAw rfl | exact zAt | exact le_refl _ | refine And.intro ?_ ?_)))
 intro i hi
 obtain ⟨h1, h2, h3⟩ := hi
 try simp (maxSteps := 2000000) only [go_sem]
 repeat with_reducible refine zAb ?_
 refine zAc (by rfl) trivial (fun h => ?_) (fun h => ?_)
 ·have hlt : i < 2 := by simp at h; omega
  have hcase : i = 0 ∨ i = 1 := by omega
  rcases hcase with rfl | rfl
  ·try simp (maxSteps := 2000000) only [go_sem, List.getD_cons_zero, Int.toNat_natCast, Int.cast_ofNat_Int, Int.toNat_zero, PV.norm]
   repeat with_reducible refine zAb ?_
   refine zAc (by rfl) trivial (fun h9 => ?_) (fun h9 => ?_)
   ·try simp (maxSteps := 2000000) only [go_sem]
    repeat with_reducible refine zAb ?_
    refine zAe rfl trivial (.inl ?_)
    congr 3
    unfold zSm
    rw [if_neg]
    simp [zSl] at h9 ⊢
    omega
   ·try simp (maxSteps := 2000000) only [go_sem]
    repeat with_reducible refine zAb ?_
    refine ⟨1, by omega, ⟨by omega, fun _ => ?_, by omega⟩, ?_⟩
    ·simp [zSl] at h9 ⊢; omega
    ·simp (maxSteps := 2000000) only [go_sem, zAi, zAs, zAF, zAj]
     all_goals (repeat' (first | exact trivial | exact zAr (by omega) | exact zAk rfl | exact zAw rfl | exact zAt | exact le_refl _ | refine And.intro ?_ ?_))
  ·try simp (maxSteps := 2000000) only [go_sem, List.getD_cons_zero, List.getD_cons_succ, Int.toNat_natCast, Int.cast_ofNat_Int, Int.toNat_one, PV.norm]
   repeat with_reducible refine zAb ?_
   refine zAc (by rfl) trivial (fun h9 => ?_) (fun h9 => ?_)
   ·try simp (maxSteps := 2000000) only [go_sem]
    repeat with_reducible refine zAb ?_
    refine zAe rfl trivial (.inl ?_)
    congr 3
    unfold zSm
    rw [if_neg]
    simp [zSl] at h9 ⊢
    omega
   ·try simp (maxSteps := 2000000) only [go_sem]
    repeat with_reducible refine zAb ?_
    refine ⟨2, by omega, ⟨by omega, fun _ => h2 (by omega), fun _ => ?_⟩, ?_⟩
    ·simp [zSl] at h9 ⊢; omega
    ·simp (maxSteps := 2000000) only [go_sem, zAi, zAs, zAF, zAj]
     all_goals (repeat' (first | exact trivial | exact zAr (by omega) | exact zAk rfl | exact zAw rfl | exact zAt | exact le_refl _ | refine And.intro ?_ ?_))
 ·try simp (maxSteps := 2000000) only [go_sem]
  repeat with_reducible refine zAb ?_
  have : i = 2 := by simp at h; omega
  refine zAe rfl trivial (.inl ?_)
  congr 3
  unfold zSm
  rw [h2 (by omega), h3 (by omega)]
  rfl
def zE4 (a b i : Int) : Bool := decide (zSm a b = 0 ∧ 1 ≤ i ∧ i ≤ 1073741824) && (if a = 0 then decide (i - b = 0) else decide ((i - b).tmod a = 0) && decide (0 ≤ (i - b).tdiv a))
theorem zZU {x y : Int} (h1 : -2147483648 ≤ x) (h2 : x ≤ 2147483648) : -2147483648 ≤ x.tdiv y ∧ x.tdiv y ≤ 2147483648 := by
 have h := Int.natAbs_tdiv_le_natAbs x y
 omega
theorem zPi (a b i : Int) : Contract Tryz.prog zEX [.val (yHm a b), .val (iv i)] { res := .val (bv (zE4 a b i)) } := by
 unfold yHm
 refine mkA zVi (base := 0) (fo rfl) (fun hfit => ?_)
 unfold F0 zOz
 simp (maxSteps := 2000000) only [zAH, List.set_cons_succ, List.set_cons_zero, List.map_cons, List.map_nil, zAG, zAa, ioOf, List.length_cons, List.length_nil, Nat.reduceAdd, Nat.reduceSub, List.replicate, List.cons_append, List.nil_append]
 try simp (maxSteps := 2000000) only [go_sem]
 repeat with_reducible refine zAb ?_
 refine zAu (by repeat' constructor) (zPh a b) ?_
 try simp (maxSteps := 2000000) only [go_sem]
 repeat with_reducible refine zAb ?_
 refine zAc (by rfl) trivial (fun h => ?_) (fun h => ?_)
 ·try simp (maxSteps := 2000000) only [go_sem]
  repeat with_reducible refine zAb ?_
  refine zAe rfl trivial (.inl ?_)
  congr 3
  unfold zE4
  rw [decide_eq_false]
  ·rfl
  ·simp at h; omega
 have h2 : zSm a b = 0 ∧ 1 ≤ i ∧ i ≤ 1073741824 := by simp at h; omega
 obtain ⟨h3, h4⟩ := yE5 h2.1
 try simp (maxSteps := 2000000) only [go_sem]
 repeat with_reducible refine zAb ?_
 have hh : zE4 a b i = (if a = 0 then decide (i - b = 0) else decide ((i - b).tmod a = 0) && decide (0 ≤ (i - b).tdiv a)) := by
  unfold zE4
  rw [decide_eq_true h2, Bool.true_and]
 refine zAc (by rfl) trivial (fun h5 => ?_) (fun h5 => ?_)
 ·try simp (maxSteps := 2000000) only [go_sem]
  repeat with_reducible refine zAb ?_
  refine zAe rfl trivial (.inl ?_)
  congr 3
  rw [hh, if_pos (by simpa using h5)]
  grind
 ·have ha : a ≠ 0 := by simpa using h5
  have hd := zZU (x := i - b) (y := a) (by omega) (by omega)
  try simp (maxSteps := 2000000) only [go_sem, ha]
  repeat with_reducible refine zAb ?_
  refine zAe rfl trivial (.inl ?_)
  congr 3
  rw [hh, if_neg ha]
  grind
def zNw (a b i : Int) : Bool := if zSm a b = 0 ∧ 1 ≤ i ∧ i ≤ 1073741824 then (if a = 0 ∨ i = b then decide (i = b) else if 0 < a then decide (b < i) && decide ((i - b).tmod a = 0) else decide (i < b) && decide ((b - i).tmod (-a) = 0)) else false
end Go.Hx
end

section
set_option maxRecDepth 100000
set_option linter.unusedSimpArgs false
namespace Go.Hx
open Go.Proofs
variable [Glob]
attribute [local go_sem] zAq zAo zAp zAg ndV zAl zAh zIr
end Go.Hx
end

section
set_option maxRecDepth 100000
set_option linter.unusedSimpArgs false
namespace Go.Hx
open Go.Proofs
variable [Glob]
attribute [local go_sem] zAq zAo zAp zAg ndV zAl zAh zIr
end Go.Hx
end

section
set_option maxRecDepth 100000
set_option linter.unusedSimpArgs false
namespace Go.Hx
open Go.Proofs
variable [Glob]
attribute [local go_sem] zAq zAo zAp zAg ndV zAl zAh zIr List.take_nil
end Go.Hx
end

section
set_option maxRecDepth 100000
set_option linter.unusedSimpArgs false
namespace Go.Hx
open Go.Proofs
variable [Glob]
attribute [local go_sem] zAq zAo zAp zAg ndV zAl zAh zIr List.take_nil
end Go.Hx
end

section
set_option maxRecDepth 100000
set_option linter.unusedSimpArgs false
namespace Go.Hx
open Go.Proofs
variable [Glob]
attribute [local go_sem] zAq zAo zAp zAg ndV zAl zAh zIr List.take_nil zBr zBq
end Go.Hx
end

section
set_option maxRecDepth 100000
set_option linter.unusedSimpArgs false
namespace Go.Hx
open Go.Proofs
variable [Glob]
attribute [local go_sem] zAq zAo zAp zAg ndV zAl zAh zIr List.take_nil zA3
theorem yE6 : ∀ {l : List Pt} {e : Nat}, GPs l e → ∀ p ∈ l, GP p e := fun h p hp => by
 obtain ⟨i, hi, rfl⟩ := List.getElem_of_mem hp
 have := h.get i hi
 simpa [hi] using this
theorem yE7 : ∀ {l : List St} {e : Nat}, GSs l e → ∀ p ∈ l, GS p e := fun h p hp => by
 obtain ⟨i, hi, rfl⟩ := List.getElem_of_mem hp
 have := h.get i hi
 simpa [hi] using this
theorem yE8 : ∀ {l : List Ts} {e : Nat}, GTs l e → ∀ p ∈ l, GT p e := fun h p hp => by
 obtain ⟨i, hi, rfl⟩ := List.getElem_of_mem hp
 have := h.get i hi
 simpa [hi] using this
end Go.Hx
end

section
/-
 Where a count holds: what the program and the document reckon is the same. Plain Lean. No condition.
-/
namespace Go.Hx
variable [Glob] [GlobL]
theorem yBu {x y : Int} (_ : y ≠ 0) : x.tmod y = 0 ↔ ∃ k, x = y * k := by
 constructor
 ·intro h; exact ⟨x.tdiv y, by have := Int.mul_tdiv_add_tmod x y; omega⟩
 ·rintro ⟨k, rfl⟩; exact Int.mul_tmod_right y k
theorem zZ1 {a b i : Int} (he : zSm a b = 0) (hi : 1 ≤ i ∧ i ≤ 1073741824) : zE4 a b i = true ↔ ∃ k : Int, 0 ≤ k ∧ i = b + a * k := by
 unfold zE4
 rw [decide_eq_true ⟨he, hi⟩, Bool.true_and]
 by_cases ha : a = 0
 ·subst ha
  rw [if_pos rfl, decide_eq_true_eq]
  constructor
  ·intro h; exact ⟨0, by omega, by omega⟩
  ·rintro ⟨k, _, h⟩; rw [Int.zero_mul] at h; omega
 ·rw [if_neg ha, Bool.and_eq_true, decide_eq_true_eq, decide_eq_true_eq, yBu ha]
  constructor
  ·rintro ⟨⟨k, hk⟩, h2⟩
   rw [hk, Int.mul_tdiv_cancel_left _ ha] at h2
   exact ⟨k, h2, by omega⟩
  ·rintro ⟨k, hk, h⟩
   have e : i - b = a * k := by omega
   exact ⟨⟨k, e⟩, by rw [e, Int.mul_tdiv_cancel_left _ ha]; exact hk⟩
theorem yC0 {a b i : Int} (he : zSm a b = 0) (hi : 1 ≤ i ∧ i ≤ 1073741824) : zNw a b i = true ↔ ∃ k : Int, 0 ≤ k ∧ i = b + a * k := by
 unfold zNw
 rw [if_pos ⟨he, hi⟩]
 by_cases h1 : a = 0 ∨ i = b
 ·rw [if_pos h1, decide_eq_true_eq]
  constructor
  ·intro h; exact ⟨0, by omega, by omega⟩
  ·rintro ⟨k, _, h⟩
   rcases h1 with rfl | h1
   ·rw [Int.zero_mul] at h; omega
   ·exact h1
 ·rw [if_neg h1]
  have ha : a ≠ 0 := fun h => h1 (.inl h)
  by_cases h2 : 0 < a
  ·rw [if_pos h2, Bool.and_eq_true, decide_eq_true_eq, decide_eq_true_eq, yBu ha]
   constructor
   ·rintro ⟨h3, k, hk⟩
    refine ⟨k, ?_, by omega⟩
    apply Classical.byContradiction
    intro hn
    have := Int.mul_nonpos_of_nonneg_of_nonpos (show 0 ≤ a by omega) (show k ≤ 0 by omega)
    omega
   ·rintro ⟨k, hk, h⟩
    refine ⟨?_, k, by omega⟩
    have := Int.mul_nonneg (show 0 ≤ a by omega) hk
    omega
  ·rw [if_neg h2, Bool.and_eq_true, decide_eq_true_eq, decide_eq_true_eq, yBu (by omega)]
   constructor
   ·rintro ⟨h3, k, hk⟩
    refine ⟨k, ?_, ?_⟩
    ·apply Classical.byContradiction
     intro hn
     have := Int.mul_nonpos_of_nonneg_of_nonpos (show 0 ≤ -a by omega) (show k ≤ 0 by omega)
     omega
    ·rw [Int.neg_mul] at hk; omega
   ·rintro ⟨k, hk, h⟩
    refine ⟨?_, k, by rw [Int.neg_mul]; omega⟩
    have := Int.mul_nonneg (show 0 ≤ -a by omega) hk
    rw [Int.neg_mul] at this
    omega
theorem zWh (a b i : Int) : zE4 a b i = zNw a b i := by
 by_cases h : zSm a b = 0 ∧ 1 ≤ i ∧ i ≤ 1073741824
 ·have h1 := zZ1 h.1 h.2
  have h2 := yC0 h.1 h.2
  rw [Bool.eq_iff_iff, h1, h2]
 ·unfold zE4 zNw
  rw [decide_eq_false h, if_neg h, Bool.false_and]
end Go.Hx
end

section
/-
 The abstract code of functions of the program, printed by gen.py; each stands for the given one. No condition.
-/
namespace Go.Hx
open Go.Proofs
variable [Glob]
end Go.Hx
end

section
/-
 The abstract code of functions of the program, printed by gen.py; each stands for the given one. No condition.
-/
namespace Go.Hx
open Go.Proofs
variable [Glob]
end Go.Hx
end

section
/-
 The abstract code of functions of the program, printed by gen.py; each stands for the given one. No condition.
-/
namespace Go.Hx
open Go.Proofs
variable [Glob]
end Go.Hx
end

section
/-
 The abstract code of functions of the program, printed by gen.py; each stands for the given one. No condition.
-/
namespace Go.Hx
open Go.Proofs
variable [Glob]
abbrev zKf : Nat := 90
abbrev zIf : Nat := 27
abbrev zWm : HCode := oN [oV 1 (.boxF (.t 0)),
  ⟨none, .alloc 2 0 45 [.nl 5, .nl 3]⟩,
  oV 3 (.mv (.c (iv 0)))]
abbrev zWn : HCode := oR [oV 10 (.ldR (.t 1) 1 true),
  oC 11 zB4 [(.t 10, .v)],
  oV 9 (.mv (.t 11)),
  oV 12 (.ext 9 0),
  oV 13 (.ext 9 1),
  oV 4 (.mv (.t 12)),
  oV 5 (.mv (.t 13))] [9, 10, 11, 12, 13]
abbrev zWo : HCode := oR [oV 14 (.mv (.t 5)),
  oV 15 (.ints .neq (.t 14) (.c (iv 0)))] [14]
abbrev zWp : HCode := oR [oV 16 (.bld [.nl 5, .nl 3] []),
  oV 17 (.mv (.t 5)),
  ⟨none, .sto (.t 2) 0 45 0 2 (.t 16)⟩,
  oV 3 (.mv (.t 17))] [16, 17]
abbrev zWq : HCode := oR [oV 18 (.mv (.t 4)),
  oV 19 (.bld [.nl 5, .nl 3] [(1, 1, .t 18)]),
  ⟨none, .alloc 6 1 47 [.nl 5, .nl 3]⟩,
  ⟨none, .sto (.t 6) 1 47 0 2 (.t 19)⟩] [18, 19]
abbrev zWr : HCode := oR [oV 20 (.fldR (.t 1) 0 1),
  oV 21 (.ldR (.t 20) 1 false),
  oV 22 (.len false (.t 21)),
  oV 23 (.mv (.c (iv 0)))] [20]
abbrev zWs : HCode := oN [oV 24 (.ints .lss (.t 23) (.t 22))]
abbrev zWt : HCode := oR [oV 25 (.idxA 5 (.t 21) (.t 23)),
  oV 26 (.ldR (.t 25) 5 true),
  ⟨none, .alloc 8 2 49 [.v (.int .i64 0), .v (mkS []), .v (mkS []), .nl 1, .nl 2]⟩,
  ⟨none, .sto (.t 8) 2 49 0 5 (.t 26)⟩] [25, 26]
abbrev zWu : HCode := oQ [oD 0 false (oV 27 (.fldP (.t 8) 3)),
  oD 1 false (oV 28 (.ldB (.t 27) 2 49 3 1 false)),
  oD 2 false (oC 29 zB6 [(.t 28, .v)]),
  oD 3 false (oV 30 (.fldP (.t 8) 4)),
  oD 4 false (oV 31 (.ldB (.t 30) 2 49 4 1 false)),
  oD 5 false (oC 32 zCw [(.t 31, .v)]),
  oD 6 false (oV 33 (.fldP (.t 8) 3)),
  oD 7 false ⟨none, .sto (.t 33) 2 49 3 1 (.t 29)⟩,
  oD 8 false (oV 34 (.fldP (.t 8) 4)),
  oD 9 false ⟨none, .sto (.t 34) 2 49 4 1 (.t 32)⟩] [27, 28, 29, 30, 31, 32, 33, 34]
abbrev zWv : HCode := oR [oV 35 (.fldP (.t 6) 0),
  oV 36 (.fldP (.t 35) 0),
  ⟨none, .ldo 37 (.t 36) 1 47 0 zJn 5⟩,
  oV 38 (.ldB (.t 8) 2 49 0 5 true),
  oV 39 (.bslF 5 [.t 38]),
  ⟨none, .app 40 zJn 5 (.t 37) (.t 39)⟩,
  oV 41 (.fldP (.t 6) 0),
  oV 42 (.fldP (.t 41) 0),
  ⟨none, .stw (.t 42) 1 47 0 40⟩] [35, 36, 37, 38, 39, 40, 41, 42]
abbrev zT8 : HCode := oR [oV 43 (.ints .add (.t 23) (.c (iv 1))),
  oV 23 (.mv (.t 43))] [43]
abbrev zT9 : HCode := oR [oV 44 (.ldB (.t 6) 1 47 0 2 true),
  ⟨none, .sto (.t 2) 0 45 0 2 (.t 44)⟩,
  oV 3 (.mv (.c (iv 0)))] [44]
abbrev yBD : HCode := (.seq zWm (.seq zWn (.seq (.seq zWo (.cond (.t 15) (.seq zWp .ret) .skip)) (.seq zWq (.seq (.seq zWr (.block 0 (.loop (.seq zWs (.seq (.cond (.t 24) .skip (.exit 0)) (.seq (.block 1 (.seq zWt (.seq zWu zWv))) zT8)))))) (.seq zT9 .ret))))))
abbrev zPr : Env := { N := 45, Γ := [(45, 2), (47, 2), (49, 5)], L := 54, nfix := 0 }
abbrev live_Open_R : List RSrc := [.cellB 2 0 45 0 2 true, .tmp 3]
theorem zWw : zCa Tryz.prog zIf yBD zPr live_Open_R := by kernel_rfl
abbrev zX3 : HCode := oN [⟨none, .alloc 0 0 9 [.nl 5, .nl 3]⟩]
abbrev zX4 : HCode := oR [oC 4 zEU [],
  oC 5 zIf [(.t 4, .v)],
  oV 3 (.mv (.t 5)),
  oV 6 (.ext 3 0),
  oV 7 (.ext 3 1),
  ⟨none, .alloc 1 1 11 [.nl 5, .nl 3]⟩,
  ⟨none, .sto (.t 1) 1 11 0 2 (.t 6)⟩,
  oV 2 (.mv (.t 7))] [2, 3, 4, 5, 6, 7]
abbrev zX5 : HCode := oR [oV 8 (.ldB (.t 1) 1 11 0 2 true),
  ⟨none, .sto (.t 0) 0 9 0 2 (.t 8)⟩] [8]
abbrev yC3 : HCode := (.seq zX3 (.seq zX4 (.seq zX5 .ret)))
abbrev zRE : Env := { N := 9, Γ := [(9, 2), (11, 2)], L := 13, nfix := 0 }
abbrev law_page_R : List RSrc := [.cellB 0 0 9 0 2 true]
theorem zX6 : zCa Tryz.prog zKf yC3 zRE law_page_R := by kernel_rfl
end Go.Hx
end

section
set_option maxRecDepth 100000
set_option linter.unusedSimpArgs false
set_option maxHeartbeats 4000000
namespace Go.Hx
open Go.Proofs
variable [Glob]
attribute [local go_sem] zAq zAo zAp zAg ndV zAl zAh atV OVal.cells zWz List.drop_succ_cons List.drop_zero List.take_succ_cons List.getD_nil Nat.sub_zero List.map_nil List.map_cons List.take_zero OV.left List.length_set
attribute [local go_sem ↓] yED yEE
end Go.Hx
end

section
/-
 The abstract code of functions of the program, printed by gen.py; each stands for the given one. No condition.
-/
namespace Go.Hx
open Go.Proofs
variable [Glob]
abbrev zGw : Nat := 62
abbrev zUa : HCode := oN [oV 0 (.mv (.c (.one (.nl 2))))]
abbrev zUb : HCode := oR [oV 1 (.bld [.v (.int .i64 0), .v (.int .i64 0)] [(1, 1, .c (iv 1))]),
  oV 2 (.bld [.v (.int .i64 0), .v (mkS []), .v (mkS []), .v (.int .i64 0), .v (.int .i64 0), .nl 2] [(0, 1, .c (iv 10)), (3, 2, .t 1)]),
  oV 3 (.bslF 6 [.t 2]),
  oV 4 (.bld [.v (mkS []), .nl 6] [(1, 1, .t 3)]),
  oV 5 (.bslF 2 [.t 4]),
  oV 6 (.bld [.nl 2, .nl 1] [(0, 1, .t 5)]),
  oV 7 (.bslF 2 [.t 6]),
  oV 8 (.bld [.v (.int .i64 0), .v (mkS []), .v (mkS []), .v (.int .i64 0), .v (.int .i64 0), .nl 2] [(0, 1, .c (iv 13)), (5, 1, .t 7)]),
  oV 9 (.bslF 6 [.t 8]),
  oV 10 (.bld [.v (mkS []), .nl 6] [(0, 1, .c (sv [105, 116, 101, 109])), (1, 1, .t 9)]),
  oV 11 (.bld [.v (.int .i64 0), .v (mkS []), .v (mkS []), .v (.int .i64 0), .v (.int .i64 0), .nl 2] [(0, 1, .c (iv 8)), (1, 1, .c (sv [116, 111])), (2, 1, .c (sv [116, 119, 111]))]),
  oV 12 (.bslF 6 [.t 11]),
  oV 13 (.bld [.v (mkS []), .nl 6] [(1, 1, .t 12)]),
  oV 14 (.bslF 2 [.t 13]),
  oV 15 (.bld [.nl 2, .nl 1] [(0, 1, .t 14)]),
  oV 16 (.bslF 2 [.t 15]),
  oV 17 (.bld [.v (.int .i64 0), .v (mkS []), .v (mkS []), .v (.int .i64 0), .v (.int .i64 0), .nl 2] [(0, 1, .c (iv 15)), (5, 1, .t 16)]),
  oV 18 (.bslF 6 [.t 17]),
  oV 19 (.bld [.v (mkS []), .nl 6] [(1, 1, .t 18)]),
  oV 20 (.bslF 2 [.t 10, .t 19]),
  oV 21 (.bslF 1 [.c (iv 3)]),
  oV 22 (.bld [.nl 2, .nl 1] [(0, 1, .t 20), (1, 1, .t 21)]),
  oV 23 (.bld [.v (.int .i64 0), .v (mkS []), .v (mkS []), .v (.int .i64 0), .v (.int .i64 0), .nl 2] [(0, 1, .c (iv 2)), (1, 1, .c (sv [116, 111, 112]))]),
  oV 24 (.bslF 6 [.t 23]),
  oV 25 (.bld [.v (mkS []), .nl 6] [(1, 1, .t 24)]),
  oV 26 (.bslF 2 [.t 25]),
  oV 27 (.bld [.nl 2, .nl 1] [(0, 1, .t 26)]),
  oV 28 (.bslF 2 [.t 22, .t 27]),
  oV 0 (.mv (.t 28))] [1, 2, 3, 4, 5, 6, 7, 8, 9, 10, 11, 12, 13, 14, 15, 16, 17, 18, 19, 20, 21, 22, 23, 24, 25, 26, 27, 28]
abbrev zZ6 : HCode := (.seq zUa (.seq zUb .ret))
abbrev zMW : Env := { N := 29, Γ := [], L := 29, nfix := 0 }
abbrev law_looked_R : List RSrc := [.tmp 0]
theorem zUc : zCa Tryz.prog zGw zZ6 zMW law_looked_R := by kernel_rfl
end Go.Hx
end

section
/-
 The abstract code of functions of the program, printed by gen.py; each stands for the given one. No condition.
-/
namespace Go.Hx
open Go.Proofs
variable [Glob]
abbrev zIh : Nat := 9
abbrev zCq : Nat := 46
abbrev zMo : HCode := oN [oV 0 (.mv (.c (bv false)))]
abbrev zMp : HCode := oR [oC 8 zEU [],
  oC 9 zB4 [(.t 8, .v)],
  oV 7 (.mv (.t 9)),
  oV 10 (.ext 7 0),
  oV 11 (.ext 7 1),
  oV 1 (.mv (.t 10)),
  oV 2 (.mv (.t 11))] [7, 8, 9, 10, 11]
abbrev zMq : HCode := oR [oV 13 (.mv (.t 1)),
  oC 14 zD3 [(.t 13, .v), (.c (iv 3), .v), (.c (sv [97]), .v)],
  oV 12 (.mv (.t 14)),
  oV 15 (.ext 12 0),
  oV 16 (.ext 12 1),
  oV 3 (.mv (.t 15)),
  oV 4 (.mv (.t 16))] [12, 13, 14, 15, 16]
abbrev zMr : HCode := oR [oC 18 zKf [],
  oC 19 zGw [],
  oC 20 zD2 [(.t 18, .v), (.t 19, .v)],
  oV 17 (.mv (.t 20)),
  oV 21 (.ext 17 0),
  oV 22 (.ext 17 1),
  oV 5 (.mv (.t 21)),
  oV 6 (.mv (.t 22))] [17, 18, 19, 20, 21, 22]
abbrev zMs : HCode := oR [oV 23 (.mv (.t 2)),
  oV 24 (.ints .eql (.t 23) (.c (iv 0))),
  oV 25 (.mv (.t 24)),
  oG 25 true 26 (.mv (.t 4)),
  oG 25 true 27 (.ints .eql (.t 26) (.c (iv 0))),
  oV 28 (.pick (.t 25) (.t 27) (.c (bv false))),
  oV 29 (.mv (.t 28)),
  oG 29 true 30 (.mv (.t 6)),
  oG 29 true 31 (.ints .eql (.t 30) (.c (iv 0))),
  oV 32 (.pick (.t 29) (.t 31) (.c (bv false))),
  oV 33 (.mv (.t 32)),
  oG 33 true 34 (.mv (.t 1)),
  oG 33 true 35 (.len false (.t 34)),
  oG 33 true 36 (.ints .eql (.t 35) (.c (iv 6))),
  oV 37 (.pick (.t 33) (.t 36) (.c (bv false))),
  oV 38 (.mv (.t 37)),
  oG 38 true 39 (.mv (.t 3)),
  oG 38 true 40 (.bslF 1 [.c (iv 1), .c (iv 4)]),
  ⟨some (38, true), .call (some 41) zCf [(.t 39, .v), (.t 40, .v)]⟩,
  oV 42 (.pick (.t 38) (.t 41) (.c (bv false))),
  oV 43 (.mv (.t 42)),
  oG 43 true 44 (.mv (.t 5)),
  oG 43 true 45 (.bslF 1 [.c (iv 0), .c (iv 2)]),
  ⟨some (43, true), .call (some 46) zCf [(.t 44, .v), (.t 45, .v)]⟩,
  oV 47 (.pick (.t 43) (.t 46) (.c (bv false))),
  oV 0 (.mv (.t 47))] [23, 24, 25, 26, 27, 28, 29, 30, 31, 32, 33, 34, 35, 36, 37, 38, 39, 40, 41, 42, 43, 44, 45, 46, 47]
abbrev zQV : HCode := (.seq zMo (.seq zMp (.seq zMq (.seq zMr (.seq zMs .ret)))))
abbrev zGE : Env := { N := 48, Γ := [], L := 48, nfix := 0 }
abbrev law_indexBegun_R : List RSrc := [.tmp 0]
theorem zMt : zCa Tryz.prog zCq zQV zGE law_indexBegun_R := by kernel_rfl
abbrev zPt : HCode := oN [oV 2 (.boxF (.t 0)),
  oV 4 (.mv (.c (bv false)))]
abbrev zPu : HCode := oR [oV 12 (.ldR (.t 2) 1 true),
  oV 13 (.mv (.t 1)),
  oC 14 zHt [(.t 12, .v), (.t 13, .v)],
  oV 11 (.mv (.t 14)),
  oV 15 (.ext 11 0),
  oV 16 (.ext 11 1),
  oV 5 (.mv (.t 15)),
  oV 6 (.mv (.t 16))] [11, 12, 13, 14, 15, 16]
abbrev zPv : HCode := oR [oV 18 (.ldR (.t 2) 1 true),
  oC 19 zB4 [(.t 18, .v)],
  oV 17 (.mv (.t 19)),
  oV 20 (.ext 17 0),
  oV 21 (.ext 17 1),
  oV 7 (.mv (.t 20)),
  oV 8 (.mv (.t 21))] [17, 18, 19, 20, 21]
abbrev zPw : HCode := oR [oV 22 (.mv (.t 6)),
  oV 23 (.ints .neq (.t 22) (.c (iv 0)))] [22]
abbrev zPx : HCode := oR [oC 24 zCq [],
  oV 4 (.mv (.t 24))] [24]
abbrev zPy : HCode := oR [oV 26 (.ldR (.t 2) 1 true),
  oV 27 (.mv (.t 7)),
  oV 28 (.bld [.nl 5, .nl 3] [(0, 1, .t 26), (1, 1, .t 27)]),
  oV 29 (.mv (.t 1)),
  oC 30 zD2 [(.t 28, .v), (.t 29, .v)],
  oV 25 (.mv (.t 30)),
  oV 31 (.ext 25 0),
  oV 32 (.ext 25 1),
  oV 9 (.mv (.t 31)),
  oV 10 (.mv (.t 32))] [25, 26, 27, 28, 29, 30, 31, 32]
abbrev zPz : HCode := oR [oC 33 zCq [],
  oV 34 (.mv (.t 33)),
  oG 34 true 35 (.mv (.t 8)),
  oG 34 true 36 (.ints .eql (.t 35) (.c (iv 0))),
  oV 37 (.pick (.t 34) (.t 36) (.c (bv false))),
  oV 38 (.mv (.t 37)),
  oG 38 true 39 (.mv (.t 10)),
  oG 38 true 40 (.ints .eql (.t 39) (.c (iv 0))),
  oV 41 (.pick (.t 38) (.t 40) (.c (bv false))),
  oV 42 (.mv (.t 41)),
  oG 42 true 43 (.mv (.t 5)),
  oG 42 true 44 (.mv (.t 9)),
  ⟨some (42, true), .call (some 45) zCf [(.t 43, .v), (.t 44, .v)]⟩,
  oV 46 (.pick (.t 42) (.t 45) (.c (bv false))),
  oV 4 (.mv (.t 46))] [33, 34, 35, 36, 37, 38, 39, 40, 41, 42, 43, 44, 45, 46]
abbrev zWy : HCode := (.seq zPt (.seq zPu (.seq zPv (.seq (.seq zPw (.cond (.t 23) (.seq zPx .ret) .skip)) (.seq zPy (.seq zPz .ret))))))
abbrev zFs : Env := { N := 47, Γ := [], L := 47, nfix := 0 }
abbrev law_IndexAll_R : List RSrc := [.tmp 4]
theorem zIi : zCa Tryz.prog zIh zWy zFs law_IndexAll_R := by kernel_rfl
end Go.Hx
end
