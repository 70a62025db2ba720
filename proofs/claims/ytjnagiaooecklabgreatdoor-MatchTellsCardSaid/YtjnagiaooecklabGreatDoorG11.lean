/-
  Walks of functions of the program over an abstract layer, and the laws that they use: each contract says what the function computes, for every input that its conditions let by. No other condition.
-/
import Derived.Test.YtjnagiaooecklabGreatDoorG10
import Derived.Test.YtjnagiaooecklabGreatDoorG8
import Derived.Test.YtjnagiaooecklabGreatDoorG9
set_option linter.all false
section
namespace Go.Hx
open Go.Proofs
variable [Glob]
attribute [local go_sem] zAx zAy zAw zAs ndV zAv
attribute [local go_sem] reduceCtorEq Nat.reduceAdd Nat.reduceEqDiff reduceIte Nat.reduceLeDiff Nat.reduceLT Nat.reduceSub
theorem zBg (n lo hi : Int) : Contract Tryz.prog zAH [.val (iv n), .val (iv lo), .val (iv hi)] { res := .val (bv (decide (lo ≤ n ∧ n ≤ hi))) } := by
 refine mkA zJV (base := 0) (fo rfl) (fun hfit => ?_)
 unfold F0 zGT
 simp (maxSteps := 2000000) only [zAD, List.set_cons_succ, List.set_cons_zero, List.map_cons, List.map_nil, zAC, zAa, ioOf, List.length_cons, List.length_nil, Nat.reduceAdd, Nat.reduceSub, List.replicate, List.cons_append, List.nil_append]
 try simp (maxSteps := 2000000) only [go_sem]
 repeat with_reducible refine zAc ?_
 refine zAd rfl trivial (.inl ?_)
 congr 3
 by_cases h1 : lo ≤ n <;> by_cases h2 : n ≤ hi <;> simp [h1, h2]
theorem zCW (s : Bys) : Contract Tryz.prog zBH [.val (sv s)] { res := .val (bv (zBC s)) } := by
 refine mkA zTP (base := 0) (fo rfl) (fun hfit => ?_)
 unfold F0 zMD
 simp (maxSteps := 2000000) only [zAD, List.set_cons_succ, List.set_cons_zero, List.map_cons, List.map_nil, zAC, zAa, ioOf, List.length_cons, List.length_nil, Nat.reduceAdd, Nat.reduceSub, List.replicate, List.cons_append, List.nil_append]
 try simp (maxSteps := 2000000) only [go_sem]
 repeat with_reducible refine zAc ?_
 refine zAh (by repeat' constructor) (zBg _ _ _) ?_
 try simp (maxSteps := 2000000) only [go_sem]
 repeat with_reducible refine zAc ?_
 refine zAb (by rfl) trivial (fun h => ?_) (fun h => ?_)
 ·try simp (maxSteps := 2000000) only [go_sem]
  repeat with_reducible refine zAc ?_
  refine zAd rfl trivial (.inl ?_)
  congr 3
  cases hn : zBC s with
  | false => rfl
  | true => exfalso; simp [zBC] at hn h; omega
 have hl : s.length ≤ 12 := by simp at h; omega
 try simp (maxSteps := 2000000) only [go_sem]
 repeat with_reducible refine zAc ?_
 refine zAm (fun i : Nat => [(3, .pv (iv i)), (4, .un), (22, .un), (46, .un)]) (fun i => s.length - i) (fun i => i ≤ s.length ∧ (s.take i).all zMB = true) 0 ?_ ⟨Nat.zero_le _, rfl⟩ ?_
 ·simp (maxSteps := 2000000) only [go_sem, zAe, zAj, zAt, zAf]
 intro i ⟨hi, hall⟩
 try simp (maxSteps := 2000000) only [go_sem]
 repeat with_reducible refine zAc ?_
 refine zAb (by rfl) trivial (fun h2 => ?_) (fun h2 => ?_)
 ·have hlt : i < s.length := by simpa using h2
  try simp (maxSteps := 2000000) only [go_sem]
  repeat with_reducible refine zAc ?_
  refine zAb (by rfl) trivial (fun h3 => ?_) (fun h3 => ?_)
  ·try simp (maxSteps := 2000000) only [go_sem]
   repeat with_reducible refine zAc ?_
   refine zAd rfl trivial (.inl ?_)
   congr 3
   cases hn : zBC s with
   | false => rfl
   | true =>
    exfalso
    simp only [zBC, Bool.and_eq_true, List.all_eq_true] at hn
    have h4 := hn.2 (s.getD i 0) (by simp [hlt])
    simp [zMB, hlt] at h3 h4
    omega
  ·try simp (maxSteps := 2000000) only [go_sem]
   repeat with_reducible refine zAc ?_
   refine ⟨i + 1, by omega, ⟨hlt, ?_⟩, ?_⟩
   ·rw [zGc hlt (d := 0), hall]
    simp [zMB, hlt] at h3 ⊢
    omega
   ·simp (maxSteps := 2000000) only [go_sem, zAe, zAj, zAt, zAf]
    exact zAk (by omega)
 ·try simp (maxSteps := 2000000) only [go_sem]
  repeat with_reducible refine zAc ?_
  refine zAd rfl trivial (.inl ?_)
  congr 3
  have hi2 : i = s.length := by simp at h2; omega
  subst hi2
  simp [zBC] at hall h ⊢
  exact ⟨by omega, hall⟩
theorem zKD (s : Bys) : Contract Tryz.prog zDE [.val (sv s)] { res := .val (bv (zCf s)) } := by
 refine mkA zQL (base := 0) (fo rfl) (fun hfit => ?_)
 unfold F0 zJW
 simp (maxSteps := 2000000) only [zAD, List.set_cons_succ, List.set_cons_zero, List.map_cons, List.map_nil, zAC, zAa, ioOf, List.length_cons, List.length_nil, Nat.reduceAdd, Nat.reduceSub, List.replicate, List.cons_append, List.nil_append]
 try simp (maxSteps := 2000000) only [go_sem]
 repeat with_reducible refine zAc ?_
 refine zAb (by rfl) trivial (fun h => ?_) (fun h => ?_)
 ·try simp (maxSteps := 2000000) only [go_sem]
  repeat with_reducible refine zAc ?_
  refine zAd rfl trivial (.inl ?_)
  simp [zCf] at h ⊢
  intro h'; omega
 have hl : s.length ≤ 16 := by simp at h; omega
 try simp (maxSteps := 2000000) only [go_sem]
 repeat with_reducible refine zAc ?_
 refine zAm (fun i : Nat => [(3, .pv (iv i)), (10, .un), (28, .un)]) (fun i => s.length - i) (fun i => i ≤ s.length ∧ (s.take i).all yA8 = true) 0 ?_ ⟨Nat.zero_le _, rfl⟩ ?_
 ·simp (maxSteps := 2000000) only [go_sem, zAe, zAj, zAt, zAf]
 intro i ⟨hi, hall⟩
 try simp (maxSteps := 2000000) only [go_sem]
 repeat with_reducible refine zAc ?_
 refine zAb (by rfl) trivial (fun h => ?_) (fun h => ?_)
 ·have hlt : i < s.length := by simpa using h
  try simp (maxSteps := 2000000) only [go_sem]
  repeat with_reducible refine zAc ?_
  refine zAb (by rfl) trivial (fun h2 => ?_) (fun h2 => ?_)
  ·try simp (maxSteps := 2000000) only [go_sem]
   repeat with_reducible refine zAc ?_
   refine zAd rfl trivial (.inl ?_)
   congr 3
   cases hn : zCf s with
   | false => rfl
   | true =>
    exfalso
    simp only [zCf, Bool.and_eq_true, List.all_eq_true] at hn
    have h4 := hn.2 (s.getD i 0) (by simp [hlt])
    simp [yA8, hlt] at h2 h4
    omega
  ·try simp (maxSteps := 2000000) only [go_sem]
   repeat with_reducible refine zAc ?_
   refine ⟨i + 1, by omega, ⟨hlt, ?_⟩, ?_⟩
   ·rw [zGc hlt (d := 0), hall]
    simp [yA8, hlt] at h2 ⊢
    omega
   ·simp (maxSteps := 2000000) only [go_sem, zAe, zAj, zAt, zAf]
    exact zAk (by omega)
 ·try simp (maxSteps := 2000000) only [go_sem]
  repeat with_reducible refine zAc ?_
  refine zAd rfl trivial (.inl ?_)
  have hi2 : i = s.length := by simp at h; omega
  subst hi2
  simp [zCf, hl] at hall ⊢
  exact hall
end Go.Hx
end

section
set_option maxRecDepth 100000
set_option linter.unusedSimpArgs false
namespace Go.Hx
open Go.Proofs
variable [Glob]
attribute [local go_sem] zAx zAy zAw zAs ndV zAv
attribute [local go_sem] reduceCtorEq Nat.reduceAdd Nat.reduceEqDiff reduceIte Nat.reduceLeDiff Nat.reduceLT Nat.reduceSub
theorem zSa (x : Nd) : Contract Tryz.prog zEz [.val (.agg (ndV x))] { res := .val (bv (zBG x)) } := by
 unfold ndV
 refine mkA zON (base := 0) (fo rfl) (fun hfit => ?_)
 unfold F0 zIA
 simp (maxSteps := 2000000) only [zAD, List.set_cons_succ, List.set_cons_zero, List.map_cons, List.map_nil, zAC, zAa, ioOf, List.length_cons, List.length_nil, Nat.reduceAdd, Nat.reduceSub, List.replicate, List.cons_append, List.nil_append]
 try simp (maxSteps := 2000000) only [go_sem]
 repeat with_reducible refine zAc ?_
 refine zAh (by repeat' constructor) (zCW _) ?_
 try simp (maxSteps := 2000000) only [go_sem]
 repeat with_reducible refine zAc ?_
 apply zAo (h2 := fun _ => zCW _)
 ·(simp (maxSteps := 2000000) only [go_sem]; rfl)
 ·intro h; repeat' (first | exact trivial | exact h | refine And.intro ?_ ?_)
 try simp (maxSteps := 2000000) only [go_sem, zAy, zAw]
 repeat with_reducible refine zAc ?_
 refine zAb (by rfl) trivial (fun h => ?_) (fun h => ?_)
 ·try simp (maxSteps := 2000000) only [go_sem]
  repeat with_reducible refine zAc ?_
  refine zAd rfl trivial (.inl ?_)
  congr 3
  cases hn : zBG x with
  | false => rfl
  | true =>
   exfalso
   simp only [zBG, Bool.and_eq_true, Bool.or_eq_true, decide_eq_true_eq, beq_iff_eq] at hn
   obtain ⟨⟨⟨⟨⟨h1, h2⟩, h3⟩, h4⟩, _⟩, _⟩ := hn
   rcases h2 with h2 | h2
   ·simp [h1, h2] at h; omega
   ·simp [h1, h2] at h; omega
 have hh : zBC x.tag = true ∧ (x.id = [] ∨ zBC x.id = true) ∧ x.cls.length ≤ 6 ∧ x.att.length ≤ 4 := by
  simp at h
  refine ⟨h.1.1.1, ?_, by omega, by omega⟩
  by_cases h0 : x.id = []
  ·exact .inl h0
  ·exact .inr (h.1.1.2 h0)
 obtain ⟨hh1, hh2, hh3, hh4⟩ := hh
 try simp (maxSteps := 2000000) only [go_sem]
 repeat with_reducible refine zAc ?_
 refine zAm (fun i : Nat => [(3, .pv (iv i)), (36, .un), (63, .un)]) (fun i => x.cls.length - i) (fun i => i ≤ x.cls.length ∧ okC x.cls i = true) 0 ?_ ⟨Nat.zero_le _, rfl⟩ ?_
 ·simp (maxSteps := 2000000) only [go_sem, zAe, zAj, zAt, zAf]
 intro i ⟨hi, hok⟩
 try simp (maxSteps := 2000000) only [go_sem, zAy]
 repeat with_reducible refine zAc ?_
 refine zAb (by rfl) trivial (fun h2 => ?_) (fun h2 => ?_)
 ·have hlt : i < x.cls.length := by simpa using h2
  have e1 : ((i : Int) - 1).toNat = i - 1 := by omega
  try simp (maxSteps := 2000000) only [go_sem, zHY _ _ hlt, zAy]
  repeat with_reducible refine zAc ?_
  refine zAh (by repeat' constructor) (zCW _) ?_
  try simp (maxSteps := 2000000) only [go_sem, zHY _ _ hlt, zAy, e1, zHY _ _ (show i - 1 < x.cls.length by omega)]
  repeat with_reducible refine zAc ?_
  refine zAb (by rfl) trivial (fun h3 => ?_) (fun h3 => ?_)
  ·try simp (maxSteps := 2000000) only [go_sem]
   repeat with_reducible refine zAc ?_
   refine zAd rfl trivial (.inl ?_)
   congr 3
   cases hn : zBG x with
   | false => rfl
   | true =>
    exfalso
    simp only [zBG, Bool.and_eq_true] at hn
    have h4 := zAS hn.1.2 hlt
    simp [cOk, hlt] at h3 h4
    grind
  ·try simp (maxSteps := 2000000) only [go_sem]
   repeat with_reducible refine zAc ?_
   refine ⟨i + 1, by omega, ⟨hlt, ?_⟩, ?_⟩
   ·show (List.range (i + 1)).all (cOk x.cls) = true
    rw [zCD]
    have hok' : (List.range i).all (cOk x.cls) = true := hok
    rw [hok']
    simp [cOk, hlt] at h3 ⊢
    refine ⟨h3.1, ?_⟩
    rcases Nat.eq_zero_or_pos i with h5 | h5
    ·exact .inl h5
    ·exact .inr (h3.2 h5)
   ·simp (maxSteps := 2000000) only [go_sem, zAe, zAj, zAt, zAf]
    exact zAk (by omega)
 try simp (maxSteps := 2000000) only [go_sem]
 repeat with_reducible refine zAc ?_
 have hi2 : i = x.cls.length := by simp at h2; omega
 refine zAm (fun i : Nat => [(4, .pv (iv i)), (68, .un), (108, .un)]) (fun i => x.att.length - i) (fun i => i ≤ x.att.length ∧ okA x.att i = true) 0 ?_ ⟨Nat.zero_le _, rfl⟩ ?_
 ·simp (maxSteps := 2000000) only [go_sem, zAe, zAj, zAt, zAf]
 intro k ⟨hk, hokA⟩
 try simp (maxSteps := 2000000) only [go_sem, zAw]
 repeat with_reducible refine zAc ?_
 refine zAb (by rfl) trivial (fun h3 => ?_) (fun h3 => ?_)
 ·have hlt : k < x.att.length := by simpa using h3
  have e1 : ((k : Int) - 1).toNat = k - 1 := by omega
  try simp (maxSteps := 2000000) only [go_sem, zEd _ _ hlt, zAw]
  repeat with_reducible refine zAc ?_
  refine zAh (by repeat' constructor) (zCW _) ?_
  try simp (maxSteps := 2000000) only [go_sem, zEd _ _ hlt, zAw]
  repeat with_reducible refine zAc ?_
  apply zAo (h2 := fun _ => zKD _)
  ·(simp (maxSteps := 2000000) only [go_sem]; rfl)
  ·intro h; repeat' (first | exact trivial | exact h | refine And.intro ?_ ?_)
  try simp (maxSteps := 2000000) only [go_sem, zEd _ _ hlt, zAw, e1, zEd _ _ (show k - 1 < x.att.length by omega)]
  repeat with_reducible refine zAc ?_
  refine zAb (by rfl) trivial (fun h4 => ?_) (fun h4 => ?_)
  ·try simp (maxSteps := 2000000) only [go_sem]
   repeat with_reducible refine zAc ?_
   refine zAd rfl trivial (.inl ?_)
   congr 3
   cases hn : zBG x with
   | false => rfl
   | true =>
    exfalso
    simp only [zBG, Bool.and_eq_true] at hn
    have h5 := zAS hn.2 hlt
    simp [aOk, hlt] at h4 h5
    grind
  ·try simp (maxSteps := 2000000) only [go_sem]
   repeat with_reducible refine zAc ?_
   refine ⟨k + 1, by omega, ⟨hlt, ?_⟩, ?_⟩
   ·show (List.range (k + 1)).all (aOk x.att) = true
    rw [zCD]
    have hok' : (List.range k).all (aOk x.att) = true := hokA
    rw [hok']
    simp [aOk, hlt] at h4 ⊢
    refine ⟨h4.1, ?_⟩
    rcases Nat.eq_zero_or_pos k with h5 | h5
    ·exact .inl h5
    ·exact .inr (h4.2 h5)
   ·simp (maxSteps := 2000000) only [go_sem, zAe, zAj, zAt, zAf]
    exact zAk (by omega)
 ·try simp (maxSteps := 2000000) only [go_sem]
  repeat with_reducible refine zAc ?_
  refine zAd rfl trivial (.inl ?_)
  congr 3
  have hk2 : k = x.att.length := by simp at h3; omega
  subst hk2 hi2
  simp only [zBG, hh1, hok, hokA, hh3, hh4, decide_true, Bool.and_true, Bool.true_and]
  rcases hh2 with h | h <;> simp [h]
theorem zP4 (d : List Nd) (hd : zCg d d.length = true) (a : Int) (n : Nat) (hn : n < d.length) : Contract Tryz.prog zE4 [.val (zCx d), .val (iv a), .val (iv n)] { res := .val (bv ((zA5 d d.length (zAZ d n)).contains a)) } := by
 unfold zCx
 refine mkA zWq (base := 0) (fo rfl) (fun hfit => ?_)
 unfold F0 zOZ
 simp (maxSteps := 2000000) only [zAD, List.set_cons_succ, List.set_cons_zero, List.map_cons, List.map_nil, zAC, zAa, ioOf, List.length_cons, List.length_nil, Nat.reduceAdd, Nat.reduceSub, List.replicate, List.cons_append, List.nil_append]
 try simp (maxSteps := 2000000) only [go_sem]
 repeat with_reducible refine zAc ?_
 try simp (maxSteps := 2000000) only [go_sem, zAx, zA1 _ _ hn, ndV]
 repeat with_reducible refine zAc ?_
 have hup := zA6 hd
 refine zAm (fun k : Int => [(7, .pv (iv k)), (15, .un), (24, .un)]) (fun k => (k + 1).toNat) (fun k => -1 ≤ k ∧ k < d.length ∧ (zA5 d d.length (zAZ d n)).contains a = (zA5 d d.length k).contains a) (zAZ d n) ?_ ⟨(hup n hn).1, by have := (hup n hn).2; omega, rfl⟩ ?_
 ·simp (maxSteps := 2000000) only [go_sem, zAe, zAj, zAt, zAf]
  exact zAk rfl
 intro k ⟨h1, h2, h3⟩
 try simp (maxSteps := 2000000) only [go_sem]
 repeat with_reducible refine zAc ?_
 refine zAb (by rfl) trivial (fun h4 => ?_) (fun h4 => ?_)
 ·have hk : 0 ≤ k := by simpa using h4
  have hkn : k.toNat < d.length := by omega
  have hk2 : k = (k.toNat : Int) := by omega
  try simp (maxSteps := 2000000) only [go_sem]
  repeat with_reducible refine zAc ?_
  refine zAb (by rfl) trivial (fun h5 => ?_) (fun h5 => ?_)
  ·try simp (maxSteps := 2000000) only [go_sem]
   repeat with_reducible refine zAc ?_
   refine zAd rfl trivial (.inl ?_)
   congr 3
   rw [h3]
   have h6 : k = a := by simpa using h5
   subst h6
   cases hl : d.length with
   | zero => omega
   | succ f => simp [zA5, show ¬ k < 0 by omega]
  ·have h6 : ¬ k = a := by simpa using h5
   try simp (maxSteps := 2000000) only [go_sem, zAx, zA1 _ _ hkn, ndV]
   repeat with_reducible refine zAc ?_
   refine ⟨zAZ d k.toNat, ?_, ⟨(hup _ hkn).1, ?_, ?_⟩, ?_⟩
   ·have := (hup _ hkn); omega
   ·have := (hup _ hkn); omega
   ·rw [h3]
    cases hl : d.length with
    | zero => omega
    | succ f =>
     have e : zA5 d (f + 1) k = k :: zA5 d f (zAZ d k.toNat) := by simp [zA5, show ¬ k < 0 by omega]
     rw [e, zEo f (f + 1) (zAZ d k.toNat) (fun j hj => (hup j (by have := hup _ hkn; omega)).2) (by have := hup _ hkn; omega) (by have := hup _ hkn; omega)]
     rw [List.contains_cons]
     simp [Ne.symm h6]
   ·simp (maxSteps := 2000000) only [go_sem, zAe, zAj, zAt, zAf]
    exact zAk rfl
 ·try simp (maxSteps := 2000000) only [go_sem]
  repeat with_reducible refine zAc ?_
  refine zAd rfl trivial (.inl ?_)
  congr 3
  rw [h3]
  have : k < 0 := by simp at h4; omega
  cases hl : d.length with
  | zero => simp [zA5]
  | succ f => simp [zA5, this]
end Go.Hx
end

section
set_option maxRecDepth 100000
set_option linter.unusedSimpArgs false
namespace Go.Hx
open Go.Proofs
variable [Glob]
attribute [local go_sem] zAx zAy zAw zAs ndV zAv
attribute [local go_sem] reduceCtorEq Nat.reduceAdd Nat.reduceEqDiff reduceIte Nat.reduceLeDiff Nat.reduceLT Nat.reduceSub
theorem zFj (a b : List Int) : Contract Tryz.prog zDc [.val (.one (.sl 1 (zBB a))), .val (.one (.sl 1 (zBB b)))] { res := .val (bv (decide (a = b))) } := by
 refine mkA zPa (base := 0) (fo rfl) (fun hfit => ?_)
 unfold F0 zIC
 simp (maxSteps := 2000000) only [zAD, List.set_cons_succ, List.set_cons_zero, List.map_cons, List.map_nil, zAC, zAa, ioOf, List.length_cons, List.length_nil, Nat.reduceAdd, Nat.reduceSub, List.replicate, List.cons_append, List.nil_append]
 try simp (maxSteps := 2000000) only [go_sem]
 repeat with_reducible refine zAc ?_
 have hm := zFh (k := 1) hfit.1
 rw [zAs] at hm
 refine zAb (by rfl) trivial (fun h => ?_) (fun h => ?_)
 ·try simp (maxSteps := 2000000) only [go_sem]
  repeat with_reducible refine zAc ?_
  refine zAd rfl trivial (.inl ?_)
  congr 3
  simp [zAs] at h
  exact decide_eq_false (fun e => h (by subst e; rfl))
 have hl : a.length = b.length := by simp [zAs] at h; omega
 try simp (maxSteps := 2000000) only [go_sem]
 repeat with_reducible refine zAc ?_
 refine zAm (fun i : Nat => [(5, .pv (iv i)), (14, .un), (25, .un)]) (fun i => a.length - i) (fun i => i ≤ a.length ∧ a.take i = b.take i) 0 ?_ ⟨Nat.zero_le _, rfl⟩ ?_
 ·simp (maxSteps := 2000000) only [go_sem, zAe, zAj, zAt, zAf]
 intro i ⟨hi, heq⟩
 try simp (maxSteps := 2000000) only [go_sem, zAs]
 repeat with_reducible refine zAc ?_
 refine zAb (by rfl) trivial (fun h2 => ?_) (fun h2 => ?_)
 ·have hlt : i < a.length := by simpa using h2
  have hltb : i < b.length := by omega
  try simp (maxSteps := 2000000) only [go_sem, zEx _ _ hlt, zEx _ _ hltb, zAs]
  repeat with_reducible refine zAc ?_
  refine zAb (by rfl) trivial (fun h3 => ?_) (fun h3 => ?_)
  ·try simp (maxSteps := 2000000) only [go_sem]
   repeat with_reducible refine zAc ?_
   refine zAd rfl trivial (.inl ?_)
   congr 3
   simp only [bne_iff_ne, ne_eq] at h3
   exact (decide_eq_false (yA6 0 h3))
  ·try simp (maxSteps := 2000000) only [go_sem]
   repeat with_reducible refine zAc ?_
   refine ⟨i + 1, by omega, ⟨hlt, zV8 0 heq hlt hltb ?_⟩, ?_⟩
   ·simpa only [bne_eq_false_iff_eq] using h3
   ·simp (maxSteps := 2000000) only [go_sem, zAe, zAj, zAt, zAf]
    exact zAk (by omega)
 ·try simp (maxSteps := 2000000) only [go_sem]
  repeat with_reducible refine zAc ?_
  refine zAd rfl trivial (.inl ?_)
  congr 3
  have hi2 : i = a.length := by simp at h2; omega
  subst hi2
  exact decide_eq_true (yA7 hl heq)
end Go.Hx
end

section
set_option maxRecDepth 100000
set_option linter.unusedSimpArgs false
namespace Go.Hx
open Go.Proofs
variable [Glob]
attribute [local go_sem] zAx zAy zAw zAs ndV zAv
end Go.Hx
end

section
set_option maxRecDepth 100000
set_option linter.unusedSimpArgs false
namespace Go.Hx
open Go.Proofs
variable [Glob]
attribute [local go_sem] zAx zAy zAw zAs ndV zAv
attribute [local go_sem] reduceCtorEq Nat.reduceAdd Nat.reduceEqDiff reduceIte Nat.reduceLeDiff Nat.reduceLT Nat.reduceSub
theorem zLZ {d : List Nd} {i : Nat} : zCg d (i + 1) = (zCg d i && zWa d i) := zCD
theorem zIF (d : List Nd) : Contract Tryz.prog zDb [.val (zCx d)] { res := .val (iv (zAA d)) } := by
 unfold zCx
 refine mkA zOY (base := 0) (fo rfl) (fun hfit => ?_)
 unfold F0 zIB
 simp (maxSteps := 2000000) only [zAD, List.set_cons_succ, List.set_cons_zero, List.map_cons, List.map_nil, zAC, zAa, ioOf, List.length_cons, List.length_nil, Nat.reduceAdd, Nat.reduceSub, List.replicate, List.cons_append, List.nil_append]
 try simp (maxSteps := 2000000) only [go_sem]
 repeat with_reducible refine zAc ?_
 try simp (maxSteps := 2000000) only [go_sem, zAx]
 repeat with_reducible refine zAc ?_
 refine zAh (by repeat' constructor) (zBg _ _ _) ?_
 try simp (maxSteps := 2000000) only [go_sem]
 repeat with_reducible refine zAc ?_
 refine zAb (by rfl) trivial (fun h => ?_) (fun h => ?_)
 ·try simp (maxSteps := 2000000) only [go_sem]
  repeat with_reducible refine zAc ?_
  refine zAd rfl trivial (.inl ?_)
  congr 3
  have h2 : ¬ (1 ≤ d.length ∧ d.length ≤ 64) := by simp at h; omega
  simp [zAA, h2]
 have hr : 1 ≤ d.length ∧ d.length ≤ 64 := by simp at h; omega
 obtain ⟨hr1, hr2⟩ := hr
 try simp (maxSteps := 2000000) only [go_sem]
 repeat with_reducible refine zAc ?_
 refine zAm (fun i : Nat => [(3, .pv (iv i)), (4, .un), (5, .un), (15, .un), (37, .un), (47, .un), (63, .un)]) (fun i : Nat => d.length - i) (fun i : Nat => i ≤ d.length ∧ zCg d i = true) (0) ?_ ⟨Nat.zero_le _, rfl⟩ ?_
 focus (simp (maxSteps := 2000000) only [go_sem, zAe, zAj, zAt, zAf]; all_goals (repeat' (first | exact trivial | exact zAk (by omega) | exact zAg rfl | exact zAq rfl | exact zAl | exact le_refl _ | refine And.intro ?_ ?_)))
 intro i ⟨hi, hok⟩
 try simp (maxSteps := 2000000) only [go_sem, zAx]
 repeat with_reducible refine zAc ?_
 refine zAb (by rfl) trivial (fun h2 => ?_) (fun h2 => ?_)
 ·have hlt : i < d.length := by simpa using h2
  try simp (maxSteps := 2000000) only [go_sem, zAx, zA1 _ _ hlt]
  repeat with_reducible refine zAc ?_
  refine zAh (by repeat' constructor) (zSa _) ?_
  try simp (maxSteps := 2000000) only [go_sem, zAx, zA1 _ _ hlt, ndV]
  repeat with_reducible refine zAc ?_
  refine zAb (by rfl) trivial (fun h3 => ?_) (fun h3 => ?_)
  ·try simp (maxSteps := 2000000) only [go_sem]
   repeat with_reducible refine zAc ?_
   refine zAd rfl trivial (.inl ?_)
   congr 3
   have : zCg d d.length = false := by
    cases hn : zCg d d.length with
    | false => rfl
    | true =>
     exfalso
     have h4 := zAS hn hlt
     simp only [zWa, yCy, zAZ, Bool.and_eq_true] at h4
     rw [h4.1] at h3
     by_cases h5 : i = 0
     ·subst h5; simp at h3 h4; omega
     ·simp at h3; omega
   simp [zAA, hr1, hr2, this]
  have hn : zBG (d.getD i default) = true := by
   cases hn : zBG (d.getD i default) with
   | true => rfl
   | false => rw [hn] at h3; simp at h3
  rw [hn] at h3
  have h4 : i = 0 → zAZ d i = -1 := by
   intro h5; subst h5; simpa [zAZ] using h3
  have hup := zA6 hok
  try simp (maxSteps := 2000000) only [go_sem]
  repeat with_reducible refine zAc ?_
  refine zAm (fun x : Int × Bool => [(4, .pv (bv x.2)), (5, .pv (iv x.1)), (47, .un)]) (fun x : Int × Bool => (x.1 + 1).toNat) (fun x : Int × Bool => -1 ≤ x.1 ∧ x.1 < i ∧ (x.2 = true → yCy d i = true) ∧ (x.2 = false → yCy d i = (zA5 d (x.1 + 1).toNat x.1).contains (zAZ d i))) (((i : Int) - 1, (i : Int) == 0)) ?_ ⟨by show -1 ≤ (i : Int) - 1; omega, by show (i : Int) - 1 < i; omega, fun h => by simp at h; subst h; simp [yCy, h4], fun h => by simp at h; simp [yCy, h]⟩ ?_
  focus (simp (maxSteps := 2000000) only [go_sem, zAe, zAj, zAt, zAf]; all_goals (repeat' (first | exact trivial | exact zAk (by omega) | exact zAg rfl | exact zAq rfl | exact zAl | exact le_refl _ | refine And.intro ?_ ?_)))
  intro ⟨k, fine⟩ ⟨hk1, hk2, hk3, hk4⟩
  simp only at hk1 hk2 hk3 hk4
  try simp (maxSteps := 2000000) only [go_sem]
  repeat with_reducible refine zAc ?_
  refine zAb (by rfl) trivial (fun h5 => ?_) (fun h5 => ?_)
  ·have hk5 : 0 ≤ k ∧ fine = false := by simp at h5; exact h5
   obtain ⟨hk5, rfl⟩ := hk5
   have hkn : k.toNat < d.length := by omega
   try simp (maxSteps := 2000000) only [go_sem, zA1 _ _ hlt, zA1 _ _ hkn]
   repeat with_reducible refine zAc ?_
   have h6 := hup k.toNat (by omega)
   refine ⟨(zAZ d k.toNat, k == zAZ d i), ?_, ⟨h6.1, ?_, ?_, ?_⟩, ?_⟩
   ·simp only; omega
   ·simp only; omega
   ·simp only
    intro h7
    have h8 : k = zAZ d i := by simpa using h7
    rw [hk4 rfl, show (k + 1).toNat = k.toNat + 1 by omega, zA5, if_neg (by omega), h8]
    simp
   ·simp only
    intro h7
    have h8 : ¬ k = zAZ d i := by simpa using h7
    rw [hk4 rfl, show (k + 1).toNat = k.toNat + 1 by omega, zA5, if_neg (by omega), List.contains_cons]
    rw [zEo k.toNat (zAZ d k.toNat + 1).toNat _ (fun j hj => (hup j (by omega)).2) (by omega) (by omega)]
    simp [Ne.symm h8]
   ·simp (maxSteps := 2000000) only [go_sem, zAe, zAj, zAt, zAf]
    all_goals (repeat' (first | exact trivial | exact zAk (by omega) | exact zAg rfl | exact zAq rfl | exact zAl | exact le_refl _ | refine And.intro ?_ ?_))
  ·try simp (maxSteps := 2000000) only [go_sem]
   repeat with_reducible refine zAc ?_
   refine zAb (by rfl) trivial (fun h6 => ?_) (fun h6 => ?_)
   ·try simp (maxSteps := 2000000) only [go_sem]
    repeat with_reducible refine zAc ?_
    refine zAd rfl trivial (.inl ?_)
    congr 3
    have hf : fine = false := by simpa using h6
    subst hf
    have hk : k = -1 := by simp at h5; omega
    subst hk
    have : zCg d d.length = false := by
     cases hn : zCg d d.length with
     | false => rfl
     | true =>
      exfalso
      have h7 := zAS hn hlt
      simp only [zWa, Bool.and_eq_true] at h7
      rw [hk4 rfl] at h7
      simp [zA5] at h7
    simp [zAA, hr1, hr2, this]
   ·have hf : fine = true := by simpa using h6
    subst hf
    try simp (maxSteps := 2000000) only [go_sem]
    repeat with_reducible refine zAc ?_
    refine ⟨i + 1, by omega, ⟨hlt, ?_⟩, ?_⟩
    ·rw [zLZ, hok, zWa, hn, hk3 rfl]; rfl
    ·simp (maxSteps := 2000000) only [go_sem, zAe, zAj, zAt, zAf]
     all_goals (repeat' (first | exact trivial | exact zAk (by omega) | exact zAg rfl | exact zAq rfl | exact zAl | exact le_refl _ | refine And.intro ?_ ?_))
 ·try simp (maxSteps := 2000000) only [go_sem]
  repeat with_reducible refine zAc ?_
  refine zAd rfl trivial (.inl ?_)
  congr 3
  have : i = d.length := by simp at h2; omega
  subst this
  simp [zAA, hr1, hr2, hok]
end Go.Hx
end

section
set_option maxRecDepth 100000
set_option linter.unusedSimpArgs false
namespace Go.Hx
open Go.Proofs
variable [Glob]
attribute [local go_sem] zAx zAy zAw zAs ndV zAv
attribute [local go_sem] reduceCtorEq Nat.reduceAdd Nat.reduceEqDiff reduceIte Nat.reduceLeDiff Nat.reduceLT Nat.reduceSub
def zSM (d : List Nd) (k : Int) : Int := if zAA d = 0 then (if 0 ≤ k ∧ k ≤ (d.length : Int) - 1 then 0 else 5) else zAA d
theorem zZr (d : List Nd) (k : Int) : Contract Tryz.prog zGS [.val (zCx d), .val (iv k)] { res := .val (iv (zSM d k)) } := by
 unfold zCx
 refine mkA zWy (base := 0) (fo rfl) (fun hfit => ?_)
 unfold F0 zO0
 simp (maxSteps := 2000000) only [zAD, List.set_cons_succ, List.set_cons_zero, List.map_cons, List.map_nil, zAC, zAa, ioOf, List.length_cons, List.length_nil, Nat.reduceAdd, Nat.reduceSub, List.replicate, List.cons_append, List.nil_append]
 try simp (maxSteps := 2000000) only [go_sem]
 repeat with_reducible refine zAc ?_
 have hm := zFh (k := 5) (hfit.1.1)
 rw [zAx] at hm
 refine zAh (by repeat' constructor) (zIF _) ?_
 try simp (maxSteps := 2000000) only [go_sem]
 repeat with_reducible refine zAc ?_
 refine zAb (by rfl) trivial (fun h => ?_) (fun h => ?_)
 ·try simp (maxSteps := 2000000) only [go_sem]
  repeat with_reducible refine zAc ?_
  refine zAd rfl trivial (.inl ?_)
  congr 3
  have h2 : ¬ zAA d = 0 := by simpa using h
  simp [zSM, h2]
 have h2 : zAA d = 0 := by simpa using h
 try simp (maxSteps := 2000000) only [go_sem]
 repeat with_reducible refine zAc ?_
 refine zAh (by repeat' constructor) (zBg _ _ _) ?_
 try simp (maxSteps := 2000000) only [go_sem]
 repeat with_reducible refine zAc ?_
 refine zAb (by rfl) trivial (fun h3 => ?_) (fun h3 => ?_)
 ·try simp (maxSteps := 2000000) only [go_sem]
  repeat with_reducible refine zAc ?_
  refine zAd rfl trivial (.inl ?_)
  congr 3
  have h4 : ¬ (0 ≤ k ∧ k ≤ (d.length : Int) - 1) := by simp at h3; omega
  simp only [zSM, h2, h4, if_true, if_false]
 ·try simp (maxSteps := 2000000) only [go_sem]
  repeat with_reducible refine zAc ?_
  refine zAd rfl trivial (.inl ?_)
  congr 3
  have h4 : (0 ≤ k ∧ k ≤ (d.length : Int) - 1) := by simp at h3; omega
  simp only [zSM, h2, h4, if_true, and_self]
def zAX (d : List Nd) (n : Int) (k : Nat) : Int := ((List.range k).filter fun i => (zA5 d d.length (zAZ d i)).contains n).length
def zCz (d : List Nd) (n : Int) : Int := zAX d n d.length
theorem zHb {d : List Nd} {n : Int} {k : Nat} : zAX d n (k + 1) = zAX d n k + (if (zA5 d d.length (zAZ d k)).contains n then 1 else 0) := by
 unfold zAX
 rw [List.range_succ, List.filter_append, List.length_append, List.filter_cons, List.filter_nil]
 split <;> simp
theorem zEp {d : List Nd} {n : Int} : ∀ k : Nat, 0 ≤ zAX d n k ∧ zAX d n k ≤ k
 | 0 => by simp [zAX]
 | k + 1 => by have := zEp (d := d) (n := n) k; rw [zHb]; split <;> omega
def zAJ (d : List Nd) (n : Int) (k : Nat) : List Int := ((List.range k).filter fun i => decide (zAZ d i = n)).map Int.ofNat
def zD5 (d : List Nd) (n : Int) : List Int := zAJ d n d.length
theorem zAQ {d : List Nd} {n : Int} {k : Nat} : zAJ d n (k + 1) = if zAZ d k = n then zAJ d n k ++ [(k : Int)] else zAJ d n k := by
 unfold zAJ
 rw [List.range_succ, List.filter_append, List.map_append]
 by_cases h : zAZ d k = n <;> simp [List.filter, h]
theorem zDA {d : List Nd} {n : Int} (k : Nat) : (zAJ d n k).length ≤ k := by
 unfold zAJ
 rw [List.length_map]
 exact Nat.le_trans (List.length_filter_le _ _) (by simp)
theorem zMP (d : List Nd) (n : Int) (hd : d.length ≤ 64) : Contract Tryz.prog zEf [.val (zCx d), .val (iv n)] { res := .own zCT 1 (zBB (zD5 d n)) } := by
 unfold zCx
 refine mkA zTY (base := 0) (fo rfl) (fun hfit => ?_)
 unfold F0 zME
 simp (maxSteps := 2000000) only [zAD, List.set_cons_succ, List.set_cons_zero, List.map_cons, List.map_nil, zAC, zAa, ioOf, List.length_cons, List.length_nil, Nat.reduceAdd, Nat.reduceSub, List.replicate, List.cons_append, List.nil_append]
 try simp (maxSteps := 2000000) only [go_sem]
 repeat with_reducible refine zAc ?_
 have hm := zFh (k := 5) (hfit.1.1)
 rw [zAx] at hm
 refine zAm (fun i : Nat => [(5, .own zCT 1 (zBB (zAJ d n i))), (6, .pv (iv i)), (11, .un), (21, .un)]) (fun i : Nat => d.length - i) (fun i : Nat => i ≤ d.length) (0) ?_ (Nat.zero_le _) ?_
 focus (simp (maxSteps := 2000000) only [go_sem, zAe, zAj, zAt, zAf]; all_goals (repeat' (first | exact trivial | exact zAk (by omega) | exact zAg rfl | exact zAq rfl | exact zAl | exact le_refl _ | refine And.intro ?_ ?_)))
 intro i hi
 try simp (maxSteps := 2000000) only [go_sem]
 repeat with_reducible refine zAc ?_
 have hu := zDA (d := d) (n := n) i
 refine zAb (by rfl) trivial (fun h => ?_) (fun h => ?_)
 ·have hlt : i < d.length := by simpa using h
  try simp (maxSteps := 2000000) only [go_sem, zA1 _ _ hlt]
  repeat with_reducible refine zAc ?_
  refine zAb (by rfl) trivial (fun h2 => ?_) (fun h2 => ?_)
  ·try simp (maxSteps := 2000000) only [go_sem]
   repeat with_reducible refine zAc ?_
   refine ⟨i + 1, by omega, hlt, ?_⟩
   simp (maxSteps := 2000000) only [go_sem, zAe, zAj, zAt, zAf]
   all_goals (repeat' (first | exact trivial | exact zAk (by omega) | exact zAg rfl | exact zAq rfl | exact zAl | exact le_refl _ | refine And.intro ?_ ?_))
   refine zSI ?_
   have h3 : zAZ d i = n := by simpa [zAZ] using h2
   simp [zAQ, h3, zBB]
  ·try simp (maxSteps := 2000000) only [go_sem]
   repeat with_reducible refine zAc ?_
   refine ⟨i + 1, by omega, hlt, ?_⟩
   simp (maxSteps := 2000000) only [go_sem, zAe, zAj, zAt, zAf]
   all_goals (repeat' (first | exact trivial | exact zAk (by omega) | exact zAg rfl | exact zAq rfl | exact zAl | exact le_refl _ | refine And.intro ?_ ?_))
   refine zSI ?_
   have h3 : ¬ zAZ d i = n := by simpa [zAZ] using h2
   simp [zAQ, h3, zBB]
 ·try simp (maxSteps := 2000000) only [go_sem]
  repeat with_reducible refine zAc ?_
  have : i = d.length := by simp at h; omega
  subst this
  exact zTz rfl
end Go.Hx
end

section
set_option maxRecDepth 100000
set_option linter.unusedSimpArgs false
namespace Go.Hx
open Go.Proofs
variable [Glob]
attribute [local go_sem] zAx zAy zAw zAs ndV zAv zAp
attribute [local go_sem] reduceCtorEq Nat.reduceAdd Nat.reduceEqDiff reduceIte Nat.reduceLeDiff Nat.reduceLT Nat.reduceSub
theorem zMQ (n lo hi : Int) : Contract Tryz.prog zAH [.val (iv n), .val (iv lo), .val (iv hi)] { res := .val (bv (decide (lo ≤ n ∧ n ≤ hi))) } := by
 refine mkA zJV (base := 0) (fo rfl) (fun hfit => ?_)
 unfold F0 zGT
 simp (maxSteps := 2000000) only [zAD, List.set_cons_succ, List.set_cons_zero, List.map_cons, List.map_nil, zAC, zAa, ioOf, List.length_cons, List.length_nil, Nat.reduceAdd, Nat.reduceSub, List.replicate, List.cons_append, List.nil_append]
 try simp (maxSteps := 2000000) only [go_sem]
 repeat with_reducible refine zAc ?_
 refine zAd rfl trivial (.inl ?_)
 congr 3
 by_cases h1 : lo ≤ n <;> by_cases h2 : n ≤ hi <;> simp [h1, h2]
theorem yCS {a b : Int} (h : zMX a b = 0) : (-1048576 ≤ a ∧ a ≤ 1048576) ∧ (-1048576 ≤ b ∧ b ≤ 1048576) := by
 unfold zMX at h
 split at h
 ·rename_i h1; simpa [zOC] using h1
 ·cases h
def yEi (a b : Int) : PVal := .agg [bI a, bI b]
theorem zIG (a b : Int) : Contract Tryz.prog zDe [.val (yEi a b)] { res := .val (iv (zMX a b)) } := by
 unfold yEi
 refine mkA zPk (base := 0) (fo rfl) (fun hfit => ?_)
 unfold F0 zID
 simp (maxSteps := 2000000) only [zAD, List.set_cons_succ, List.set_cons_zero, List.map_cons, List.map_nil, zAC, zAa, ioOf, List.length_cons, List.length_nil, Nat.reduceAdd, Nat.reduceSub, List.replicate, List.cons_append, List.nil_append]
 try simp (maxSteps := 2000000) only [go_sem]
 repeat with_reducible refine zAc ?_
 refine zAh (by repeat' constructor) (zMQ a (-1048576) 1048576) ?_
 try simp (maxSteps := 2000000) only [go_sem]
 repeat with_reducible refine zAc ?_
 apply zAo (h2 := fun _ => zMQ b (-1048576) 1048576)
 ·(simp (maxSteps := 2000000) only [go_sem]; rfl)
 ·intro h; repeat' (first | exact trivial | exact h | refine And.intro ?_ ?_)
 try simp (maxSteps := 2000000) only [go_sem]
 repeat with_reducible refine zAc ?_
 refine zAb (by rfl) trivial (fun h => ?_) (fun h => ?_)
 ·try simp (maxSteps := 2000000) only [go_sem]
  repeat with_reducible refine zAc ?_
  refine zAd rfl trivial (.inl ?_)
  congr 3
  unfold zMX zOC
  rw [if_neg]
  simp at h ⊢
  omega
 ·try simp (maxSteps := 2000000) only [go_sem]
  repeat with_reducible refine zAc ?_
  refine zAd rfl trivial (.inl ?_)
  congr 3
  unfold zMX zOC
  rw [if_pos]
  simp at h ⊢
  omega
theorem zP5 (a b : Int) : Contract Tryz.prog zE7 [.val (yEi a b)] { res := .val (iv (zMX a b)) } := by
 unfold yEi
 refine mkA zWZ (base := 0) (fo rfl) (fun hfit => ?_)
 unfold F0 zPe
 simp (maxSteps := 2000000) only [zAD, List.set_cons_succ, List.set_cons_zero, List.map_cons, List.map_nil, zAC, zAa, ioOf, List.length_cons, List.length_nil, Nat.reduceAdd, Nat.reduceSub, List.replicate, List.cons_append, List.nil_append]
 try simp (maxSteps := 2000000) only [go_sem]
 repeat with_reducible refine zAc ?_
 refine zAm (fun i : Nat => [(4, .un), (10, .pv (iv i)), (11, .un), (18, .un)]) (fun i : Nat => 2 - i) (fun i : Nat => i ≤ 2 ∧ (1 ≤ i → zOC a = true) ∧ (2 ≤ i → zOC b = true)) (0) ?_ ⟨by omega, by omega, by omega⟩ ?_
 focus (simp (maxSteps := 2000000) only [go_sem, zAe, zAj, zAt, zAf]; all_goals (repeat' (first | exact trivial | exact zAk (by omega) | exact zAg rfl | exact zAq rfl | exact zAl | exact le_refl _ | refine And.intro ?_ ?_)))
 intro i hi
 obtain ⟨h1, h2, h3⟩ := hi
 try simp (maxSteps := 2000000) only [go_sem]
 repeat with_reducible refine zAc ?_
 refine zAb (by rfl) trivial (fun h => ?_) (fun h => ?_)
 ·have hlt : i < 2 := by simp at h; omega
  have hcase : i = 0 ∨ i = 1 := by omega
  rcases hcase with rfl | rfl
  ·try simp (maxSteps := 2000000) only [go_sem, List.getD_cons_zero, Int.toNat_natCast, Int.cast_ofNat_Int, Int.toNat_zero, PV.norm]
   repeat with_reducible refine zAc ?_
   refine zAb (by rfl) trivial (fun h9 => ?_) (fun h9 => ?_)
   ·try simp (maxSteps := 2000000) only [go_sem]
    repeat with_reducible refine zAc ?_
    refine zAd rfl trivial (.inl ?_)
    congr 3
    unfold zMX
    rw [if_neg]
    simp [zOC] at h9 ⊢
    omega
   ·try simp (maxSteps := 2000000) only [go_sem]
    repeat with_reducible refine zAc ?_
    refine ⟨1, by omega, ⟨by omega, fun _ => ?_, by omega⟩, ?_⟩
    ·simp [zOC] at h9 ⊢; omega
    ·simp (maxSteps := 2000000) only [go_sem, zAe, zAj, zAt, zAf]
     all_goals (repeat' (first | exact trivial | exact zAk (by omega) | exact zAg rfl | exact zAq rfl | exact zAl | exact le_refl _ | refine And.intro ?_ ?_))
  ·try simp (maxSteps := 2000000) only [go_sem, List.getD_cons_zero, List.getD_cons_succ, Int.toNat_natCast, Int.cast_ofNat_Int, Int.toNat_one, PV.norm]
   repeat with_reducible refine zAc ?_
   refine zAb (by rfl) trivial (fun h9 => ?_) (fun h9 => ?_)
   ·try simp (maxSteps := 2000000) only [go_sem]
    repeat with_reducible refine zAc ?_
    refine zAd rfl trivial (.inl ?_)
    congr 3
    unfold zMX
    rw [if_neg]
    simp [zOC] at h9 ⊢
    omega
   ·try simp (maxSteps := 2000000) only [go_sem]
    repeat with_reducible refine zAc ?_
    refine ⟨2, by omega, ⟨by omega, fun _ => h2 (by omega), fun _ => ?_⟩, ?_⟩
    ·simp [zOC] at h9 ⊢; omega
    ·simp (maxSteps := 2000000) only [go_sem, zAe, zAj, zAt, zAf]
     all_goals (repeat' (first | exact trivial | exact zAk (by omega) | exact zAg rfl | exact zAq rfl | exact zAl | exact le_refl _ | refine And.intro ?_ ?_))
 ·try simp (maxSteps := 2000000) only [go_sem]
  repeat with_reducible refine zAc ?_
  have : i = 2 := by simp at h; omega
  refine zAd rfl trivial (.inl ?_)
  congr 3
  unfold zMX
  rw [h2 (by omega), h3 (by omega)]
  rfl
def zE9 (a b i : Int) : Bool := decide (zMX a b = 0 ∧ 1 ≤ i ∧ i ≤ 1073741824) && (if a = 0 then decide (i - b = 0) else decide ((i - b).tmod a = 0) && decide (0 ≤ (i - b).tdiv a))
theorem yBD {x y : Int} (h1 : -2147483648 ≤ x) (h2 : x ≤ 2147483648) : -2147483648 ≤ x.tdiv y ∧ x.tdiv y ≤ 2147483648 := by
 have h := Int.natAbs_tdiv_le_natAbs x y
 omega
theorem zP6 (a b i : Int) : Contract Tryz.prog zE8 [.val (yEi a b), .val (iv i)] { res := .val (bv (zE9 a b i)) } := by
 unfold yEi
 refine mkA zW7 (base := 0) (fo rfl) (fun hfit => ?_)
 unfold F0 zPf
 simp (maxSteps := 2000000) only [zAD, List.set_cons_succ, List.set_cons_zero, List.map_cons, List.map_nil, zAC, zAa, ioOf, List.length_cons, List.length_nil, Nat.reduceAdd, Nat.reduceSub, List.replicate, List.cons_append, List.nil_append]
 try simp (maxSteps := 2000000) only [go_sem]
 repeat with_reducible refine zAc ?_
 refine zAh (by repeat' constructor) (zP5 a b) ?_
 try simp (maxSteps := 2000000) only [go_sem]
 repeat with_reducible refine zAc ?_
 refine zAb (by rfl) trivial (fun h => ?_) (fun h => ?_)
 ·try simp (maxSteps := 2000000) only [go_sem]
  repeat with_reducible refine zAc ?_
  refine zAd rfl trivial (.inl ?_)
  congr 3
  unfold zE9
  rw [decide_eq_false]
  ·rfl
  ·simp at h; omega
 have h2 : zMX a b = 0 ∧ 1 ≤ i ∧ i ≤ 1073741824 := by simp at h; omega
 obtain ⟨h3, h4⟩ := yCS h2.1
 try simp (maxSteps := 2000000) only [go_sem]
 repeat with_reducible refine zAc ?_
 have hh : zE9 a b i = (if a = 0 then decide (i - b = 0) else decide ((i - b).tmod a = 0) && decide (0 ≤ (i - b).tdiv a)) := by
  unfold zE9
  rw [decide_eq_true h2, Bool.true_and]
 refine zAb (by rfl) trivial (fun h5 => ?_) (fun h5 => ?_)
 ·try simp (maxSteps := 2000000) only [go_sem]
  repeat with_reducible refine zAc ?_
  refine zAd rfl trivial (.inl ?_)
  congr 3
  rw [hh, if_pos (by simpa using h5)]
  grind
 ·have ha : a ≠ 0 := by simpa using h5
  have hd := yBD (x := i - b) (y := a) (by omega) (by omega)
  try simp (maxSteps := 2000000) only [go_sem, ha]
  repeat with_reducible refine zAc ?_
  refine zAd rfl trivial (.inl ?_)
  congr 3
  rw [hh, if_neg ha]
  grind
def zEl (a b i : Int) : Bool := if zMX a b = 0 ∧ 1 ≤ i ∧ i ≤ 1073741824 then (if a = 0 ∨ i = b then decide (i = b) else if 0 < a then decide (b < i) && decide ((i - b).tmod a = 0) else decide (i < b) && decide ((b - i).tmod (-a) = 0)) else false
theorem zIH (a b i : Int) : Contract Tryz.prog zDf [.val (yEi a b), .val (iv i)] { res := .val (bv (zEl a b i)) } := by
 unfold yEi
 refine mkA zPt (base := 0) (fo rfl) (fun hfit => ?_)
 unfold F0 zIE
 simp (maxSteps := 2000000) only [zAD, List.set_cons_succ, List.set_cons_zero, List.map_cons, List.map_nil, zAC, zAa, ioOf, List.length_cons, List.length_nil, Nat.reduceAdd, Nat.reduceSub, List.replicate, List.cons_append, List.nil_append]
 try simp (maxSteps := 2000000) only [go_sem]
 repeat with_reducible refine zAc ?_
 refine zAh (by repeat' constructor) (zIG a b) ?_
 try simp (maxSteps := 2000000) only [go_sem]
 repeat with_reducible refine zAc ?_
 refine zAb (by rfl) trivial (fun h => ?_) (fun h => ?_)
 ·try simp (maxSteps := 2000000) only [go_sem]
  repeat with_reducible refine zAc ?_
  refine zAd rfl trivial (.inl ?_)
  congr 3
  unfold zEl
  rw [if_neg (by simp at h; omega)]
 have h2 : zMX a b = 0 ∧ 1 ≤ i ∧ i ≤ 1073741824 := by simp at h; omega
 obtain ⟨h3, h4⟩ := yCS h2.1
 try simp (maxSteps := 2000000) only [go_sem]
 repeat with_reducible refine zAc ?_
 have hh : zEl a b i = (if a = 0 ∨ i = b then decide (i = b) else if 0 < a then decide (b < i) && decide ((i - b).tmod a = 0) else decide (i < b) && decide ((b - i).tmod (-a) = 0)) := by
  unfold zEl
  rw [if_pos h2]
 refine zAb (by rfl) trivial (fun h5 => ?_) (fun h5 => ?_)
 ·try simp (maxSteps := 2000000) only [go_sem]
  repeat with_reducible refine zAc ?_
  refine zAd rfl trivial (.inl ?_)
  congr 3
  rw [hh, if_pos (by simp at h5; omega)]
  grind
 have h6 : ¬ (a = 0 ∨ i = b) := by simp at h5; omega
 have ha : a ≠ 0 := by omega
 try simp (maxSteps := 2000000) only [go_sem]
 repeat with_reducible refine zAc ?_
 refine zAb (by rfl) trivial (fun h7 => ?_) (fun h7 => ?_)
 ·have h8 : 0 < a := by simpa using h7
  try simp (maxSteps := 2000000) only [go_sem, ha]
  repeat with_reducible refine zAc ?_
  refine zAd rfl trivial (.inl ?_)
  congr 3
  rw [hh, if_neg h6, if_pos h8]
  grind
 ·have h8 : ¬ 0 < a := by simpa using h7
  have hna : -a ≠ 0 := by omega
  try simp (maxSteps := 2000000) only [go_sem, hna]
  repeat with_reducible refine zAc ?_
  refine zAd rfl trivial (.inl ?_)
  congr 3
  rw [hh, if_neg h6, if_neg h8]
  grind
end Go.Hx
end

section
set_option maxRecDepth 100000
set_option linter.unusedSimpArgs false
namespace Go.Hx
open Go.Proofs
variable [Glob]
attribute [local go_sem] zAx zAy zAw zAs ndV zAv zAp zCx
attribute [local go_sem] reduceCtorEq Nat.reduceAdd Nat.reduceEqDiff reduceIte Nat.reduceLeDiff Nat.reduceLT Nat.reduceSub
theorem yCT {α : Type} {p : α → Bool} {l : List α} {i : Nat} (d : α) (h : i < l.length) (h0 : (l.take i).find? p = none) : (p (l.getD i d) = true → l.find? p = some (l.getD i d)) ∧ (p (l.getD i d) = false → (l.take (i + 1)).find? p = none) := by
 have e1 : l = l.take i ++ l.getD i d :: l.drop (i + 1) := by
  have : l.drop i = l.getD i d :: l.drop (i + 1) := by
   rw [List.getD_eq_getElem?_getD, List.getElem?_eq_getElem h]; exact List.drop_eq_getElem_cons h
  rw [← this, List.take_append_drop]
 have e2 : l.take (i + 1) = l.take i ++ [l.getD i d] := by
  rw [List.take_add_one]; simp [h]
 refine ⟨fun hp => ?_, fun hp => ?_⟩
 ·rw [e1, List.find?_append, h0, Option.none_or]
  rw [← e1, List.find?_cons, hp]
 ·rw [e2, List.find?_append, h0, Option.none_or, List.find?_cons, hp]
  rfl
theorem zXq (x : Nd) (nm : Bys) (h : x.att.length ≤ 64) : Contract Tryz.prog zGg [.val (.agg (ndV x)), .val (sv nm)] { res := .tup [sv ((zCE x.att nm).getD []), bv (zCE x.att nm).isSome] } := by
 unfold ndV
 refine mkA zUM (base := 0) (fo rfl) (fun hfit => ?_)
 unfold F0 zMM
 simp (maxSteps := 2000000) only [zAD, List.set_cons_succ, List.set_cons_zero, List.map_cons, List.map_nil, zAC, zAa, ioOf, List.length_cons, List.length_nil, Nat.reduceAdd, Nat.reduceSub, List.replicate, List.cons_append, List.nil_append]
 try simp (maxSteps := 2000000) only [go_sem]
 repeat with_reducible refine zAc ?_
 refine zAm (fun i : Nat => [(6, .pv (iv i)), (4, .un), (5, .un), (11, .un), (21, .un)]) (fun i : Nat => x.att.length - i) (fun i : Nat => i ≤ x.att.length ∧ (x.att.take i).find? (fun a => decide (a.1 = nm)) = none) (0) ?_ ⟨Nat.zero_le _, by simp⟩ ?_
 focus (simp (maxSteps := 2000000) only [go_sem, zAe, zAj, zAt, zAf]; all_goals (repeat' (first | exact trivial | exact zAk (by omega) | exact zAg rfl | exact zAq rfl | exact zAl | exact le_refl _ | refine And.intro ?_ ?_)))
 rintro i ⟨hi, hf⟩
 try simp (maxSteps := 2000000) only [go_sem]
 repeat with_reducible refine zAc ?_
 refine zAb (by rfl) trivial (fun g1 => ?_) (fun g1 => ?_)
 ·have hil : i < x.att.length := by simpa using g1
  have hv := zEd x.att i hil
  obtain ⟨h1, h2⟩ := yCT default hil hf
  obtain ⟨y, hy⟩ : ∃ y, y = x.att.getD i default := ⟨_, rfl⟩
  rw [← hy] at h1 h2 hv
  try simp (maxSteps := 2000000) only [go_sem, hv]
  repeat with_reducible refine zAc ?_
  refine zAb (by rfl) trivial (fun g2 => ?_) (fun g2 => ?_)
  ·try simp (maxSteps := 2000000) only [go_sem, hv]
   repeat with_reducible refine zAc ?_
   have e := h1 (by simpa using g2)
   exact zBl (by simp) ⟨zAL rfl trivial (.inl (by rw [zCE, e]; rfl)), zAL rfl trivial (.inl (by rw [zCE, e]; rfl)), rfl⟩
  ·try simp (maxSteps := 2000000) only [go_sem]
   repeat with_reducible refine zAc ?_
   refine ⟨i + 1, by omega, ⟨by omega, h2 (by simpa using g2)⟩, ?_⟩
   simp (maxSteps := 2000000) only [go_sem, zAe, zAj, zAt, zAf]
   all_goals (repeat' (first | exact trivial | exact zAk (by omega) | exact zAg rfl | exact zAq rfl | exact zAl | exact le_refl _ | refine And.intro ?_ ?_))
 ·try simp (maxSteps := 2000000) only [go_sem]
  repeat with_reducible refine zAc ?_
  have hil : i = x.att.length := by simp at g1; omega
  rw [hil, List.take_length] at hf
  exact zBl (by simp) ⟨zAL rfl trivial (.inl (by rw [zCE, hf]; rfl)), zAL rfl trivial (.inl (by rw [zCE, hf]; rfl)), rfl⟩
theorem zP7 (s t : Bys) (i : Int) : (bif bif decide (0 ≤ i) then decide (i + t.length ≤ s.length) else false then ((s.take (i + t.length).toNat).drop i.toNat == t) else false) = zAT s t i := by
 by_cases h1 : 0 ≤ i
 ·by_cases h2 : i + t.length ≤ s.length
  ·have e : (i + (t.length : Int)).toNat = i.toNat + t.length := by omega
   have e2 : (s.take (i.toNat + t.length)).drop i.toNat = (s.drop i.toNat).take t.length := by rw [List.drop_take]; congr 1; omega
   simp only [zAT, h1, h2, e, e2, decide_true, cond_true, and_self, Bool.true_and]
   rw [Bool.eq_iff_iff, beq_iff_eq, decide_eq_true_eq]
  ·simp [zAT, h1, h2]
 ·simp [zAT, h1]
theorem zBr (s t : Bys) (i : Int) (hs : s.length ≤ 64) (ht : t.length ≤ 64) (hi : -100 ≤ i ∧ i ≤ 100) : Contract Tryz.prog zBT [.val (sv s), .val (sv t), .val (iv i)] { res := .val (bv (zAT s t i)) } := by
 by_cases h1 : 0 ≤ i
 ·by_cases h2 : i + t.length ≤ s.length
  ·refine mkA zEE (base := 0) (fo rfl) (fun hfit => ?_)
   unfold F0 zDI
   simp (maxSteps := 2000000) only [zAD, List.set_cons_succ, List.set_cons_zero, List.map_cons, List.map_nil, zAC, zAa, ioOf, List.length_cons, List.length_nil, Nat.reduceAdd, Nat.reduceSub, List.replicate, List.cons_append, List.nil_append]
   try simp (maxSteps := 2000000) only [go_sem]
   repeat with_reducible refine zAc ?_
   exact zAd rfl trivial (.inl (by rw [zP7]))
  ·refine mkA zEE (base := 0) (fo rfl) (fun hfit => ?_)
   unfold F0 zDI
   simp (maxSteps := 2000000) only [zAD, List.set_cons_succ, List.set_cons_zero, List.map_cons, List.map_nil, zAC, zAa, ioOf, List.length_cons, List.length_nil, Nat.reduceAdd, Nat.reduceSub, List.replicate, List.cons_append, List.nil_append]
   try simp (maxSteps := 2000000) only [go_sem]
   repeat with_reducible refine zAc ?_
   exact zAd rfl trivial (.inl (by rw [zP7]))
 ·refine mkA zEE (base := 0) (fo rfl) (fun hfit => ?_)
  unfold F0 zDI
  simp (maxSteps := 2000000) only [zAD, List.set_cons_succ, List.set_cons_zero, List.map_cons, List.map_nil, zAC, zAa, ioOf, List.length_cons, List.length_nil, Nat.reduceAdd, Nat.reduceSub, List.replicate, List.cons_append, List.nil_append]
  try simp (maxSteps := 2000000) only [go_sem]
  repeat with_reducible refine zAc ?_
  exact zAd rfl trivial (.inl (by rw [zP7]))
theorem yCU {s t : Bys} {i : Nat} (h : zAT s t i = true) : i + t.length ≤ s.length := by
 simp only [zAT, Bool.and_eq_true, decide_eq_true_eq] at h
 omega
theorem zCF {p : Nat → Bool} {n : Nat} : (List.range (n + 1)).any p = ((List.range n).any p || p n) := by
 rw [List.range_succ, List.any_append]; simp
theorem yGc (c k : UInt8) : (((c.toNat : Int) == (k.toNat : Int)) : Bool) = decide (c = k) := by
 rw [Bool.eq_iff_iff, beq_iff_eq, decide_eq_true_eq, Int.ofNat_inj, UInt8.toNat_inj]
theorem yBE (s t : Bys) (hs : s.length ≤ 64) (ht : t.length ≤ 64) : Contract Tryz.prog zI1 [.val (sv s), .val (sv t)] { res := .val (bv (zQB s t)) } := by
 have hb32 : ∀ c : UInt8, (((c.toNat : Int) == 32) : Bool) = decide (c = 32) := fun c => yGc c 32
 refine mkA zZo (base := 0) (fo rfl) (fun hfit => ?_)
 unfold F0 zSL
 simp (maxSteps := 2000000) only [zAD, List.set_cons_succ, List.set_cons_zero, List.map_cons, List.map_nil, zAC, zAa, ioOf, List.length_cons, List.length_nil, Nat.reduceAdd, Nat.reduceSub, List.replicate, List.cons_append, List.nil_append]
 try simp (maxSteps := 2000000) only [go_sem]
 repeat with_reducible refine zAc ?_
 refine zAb (by rfl) trivial (fun g1 => ?_) (fun g1 => ?_)
 ·try simp (maxSteps := 2000000) only [go_sem]
  repeat with_reducible refine zAc ?_
  refine zAd rfl trivial (.inl ?_)
  congr 3
  have ht0 : t = [] := by simpa using g1
  simp [zQB, ht0]
 have ht0 : t ≠ [] := by simpa using g1
 try simp (maxSteps := 2000000) only [go_sem]
 repeat with_reducible refine zAc ?_
 refine zAm (fun i : Nat => [(5, .pv (iv i)), (4, .un), (12, .un), (18, .un)]) (fun i : Nat => t.length - i) (fun i : Nat => i ≤ t.length ∧ (t.take i).all (fun c => decide (c ≠ 32)) = true) (0) ?_ ⟨Nat.zero_le _, rfl⟩ ?_
 focus (simp (maxSteps := 2000000) only [go_sem, zAe, zAj, zAt, zAf]; all_goals (repeat' (first | exact trivial | exact zAk (by omega) | exact zAg rfl | exact zAq rfl | exact zAl | exact le_refl _ | refine And.intro ?_ ?_)))
 rintro i ⟨hi, ha⟩
 try simp (maxSteps := 2000000) only [go_sem]
 repeat with_reducible refine zAc ?_
 refine zAb (by rfl) trivial (fun g2 => ?_) (fun g2 => ?_)
 ·have hil : i < t.length := by simpa using g2
  have hst := zGc (p := fun c => decide (c ≠ (32 : UInt8))) (d := 0) hil
  try simp (maxSteps := 2000000) only [go_sem]
  repeat with_reducible refine zAc ?_
  refine zAb (by rfl) trivial (fun g3 => ?_) (fun g3 => ?_)
  ·try simp (maxSteps := 2000000) only [go_sem]
   repeat with_reducible refine zAc ?_
   have h32 : t.getD i 0 = 32 := by rw [hb32] at g3; simpa using g3
   refine zAd rfl trivial (.inl ?_)
   have : t.all (fun c => decide (c ≠ (32 : UInt8))) = false := by
    rw [List.all_eq_false]
    exact ⟨t.getD i 0, by simp [hil], by rw [h32]; simp⟩
   rw [zQB, this]
   simp
  ·try simp (maxSteps := 2000000) only [go_sem]
   repeat with_reducible refine zAc ?_
   refine ⟨i + 1, by omega, ⟨by omega, ?_⟩, ?_⟩
   ·rw [hst, ha]
    rw [hb32] at g3
    simpa using g3
   ·simp (maxSteps := 2000000) only [go_sem, zAe, zAj, zAt, zAf]
    all_goals (repeat' (first | exact trivial | exact zAk (by omega) | exact zAg rfl | exact zAq rfl | exact zAl | exact le_refl _ | refine And.intro ?_ ?_))
 ·have hil : i = t.length := by simp at g2; omega
  rw [hil, List.take_length] at ha
  have hin : ∀ j, j ≤ s.length → zDN s t j = true → zQB s t = true := by
   intro j hj h
   simp only [zQB, ha, Bool.and_true, Bool.and_eq_true, List.any_eq_true, List.mem_range]
   exact ⟨by simpa using ht0, j, by omega, h⟩
  try simp (maxSteps := 2000000) only [go_sem]
  repeat with_reducible refine zAc ?_
  refine zAm (fun j : Nat => [(6, .pv (iv j)), (4, .un), (22, .un), (57, .un)]) (fun j : Nat => s.length + 1 - j) (fun j : Nat => j ≤ s.length + 1 ∧ (List.range j).any (zDN s t) = false) (0) ?_ ⟨Nat.zero_le _, rfl⟩ ?_
  focus (simp (maxSteps := 2000000) only [go_sem, zAe, zAj, zAt, zAf]; all_goals (repeat' (first | exact trivial | exact zAk (by omega) | exact zAg rfl | exact zAq rfl | exact zAl | exact le_refl _ | refine And.intro ?_ ?_)))
  rintro j ⟨hj, hw⟩
  try simp (maxSteps := 2000000) only [go_sem]
  repeat with_reducible refine zAc ?_
  refine zAb (by rfl) trivial (fun g4 => ?_) (fun g4 => ?_)
  ·have hjl : j ≤ s.length := by simp at g4; omega
   have hsucc := zCF (p := zDN s t) (n := j)
   try simp (maxSteps := 2000000) only [go_sem]
   repeat with_reducible refine zAc ?_
   cases hb : zAT s t j with
   | false =>
    refine zAh (by repeat' constructor) (zBr s t j hs ht (by omega)) ?_
    try simp (maxSteps := 2000000) only [go_sem, hb]
    repeat with_reducible refine zAc ?_
    refine zAb (by rfl) trivial (fun g5 => ?_) (fun g5 => ?_)
    ·try simp (maxSteps := 2000000) only [go_sem]
     repeat with_reducible refine zAc ?_
     exact zAd rfl trivial (.inl (by rw [hin j (by omega) (by revert g5; simp [zDN, hb, hb32])]))
    ·try simp (maxSteps := 2000000) only [go_sem]
     repeat with_reducible refine zAc ?_
     refine ⟨j + 1, by omega, ⟨by omega, ?_⟩, ?_⟩
     ·rw [hsucc, hw, Bool.false_or]
      revert g5
      simp [zDN, hb, hb32]
     ·simp (maxSteps := 2000000) only [go_sem, zAe, zAj, zAt, zAf]
      all_goals (repeat' (first | exact trivial | exact zAk (by omega) | exact zAg rfl | exact zAq rfl | exact zAl | exact le_refl _ | refine And.intro ?_ ?_))
   | true =>
    have hle := yCU hb
    by_cases hj0 : j = 0
    ·subst hj0
     have e0 : (((0 : Nat) : Int) + (t.length : Int)).toNat = t.length := by omega
     have hei : (((t.length : Nat) : Int) = (s.length : Int)) ↔ t.length = s.length := by omega
     have hb0 : zAT s t 0 = true := hb
     by_cases he : t.length = s.length
     ·refine zAh (by repeat' constructor) (zBr s t (0 : Nat) hs ht (by omega)) ?_
      try simp (maxSteps := 2000000) only [go_sem, hb, he]
      repeat with_reducible refine zAc ?_
      refine zAb (by rfl) trivial (fun g5 => ?_) (fun g5 => ?_)
      ·try simp (maxSteps := 2000000) only [go_sem]
       repeat with_reducible refine zAc ?_
       exact zAd rfl trivial (.inl (by rw [hin 0 (by omega) (by revert g5; simp [zDN, hb0, hb32, hei, he])]))
      ·try simp (maxSteps := 2000000) only [go_sem]
       repeat with_reducible refine zAc ?_
       refine ⟨0 + 1, by omega, ⟨by omega, ?_⟩, ?_⟩
       ·rw [hsucc, hw, Bool.false_or]
        revert g5
        simp [zDN, hb0, hb32, hei, he]
       ·simp (maxSteps := 2000000) only [go_sem, zAe, zAj, zAt, zAf]
        all_goals (repeat' (first | exact trivial | exact zAk (by omega) | exact zAg rfl | exact zAq rfl | exact zAl | exact le_refl _ | refine And.intro ?_ ?_))
     ·refine zAh (by repeat' constructor) (zBr s t (0 : Nat) hs ht (by omega)) ?_
      try simp (maxSteps := 2000000) only [go_sem, hb, e0]
      repeat with_reducible refine zAc ?_
      refine zAb (by rfl) trivial (fun g5 => ?_) (fun g5 => ?_)
      ·try simp (maxSteps := 2000000) only [go_sem]
       repeat with_reducible refine zAc ?_
       exact zAd rfl trivial (.inl (by rw [hin 0 (by omega) (by revert g5; simp [zDN, hb0, hb32, hei, he])]))
      ·try simp (maxSteps := 2000000) only [go_sem]
       repeat with_reducible refine zAc ?_
       refine ⟨0 + 1, by omega, ⟨by omega, ?_⟩, ?_⟩
       ·rw [hsucc, hw, Bool.false_or]
        revert g5
        simp [zDN, hb0, hb32, hei, he]
       ·simp (maxSteps := 2000000) only [go_sem, zAe, zAj, zAt, zAf]
        all_goals (repeat' (first | exact trivial | exact zAk (by omega) | exact zAg rfl | exact zAq rfl | exact zAl | exact le_refl _ | refine And.intro ?_ ?_))
    ·have e0 : ((j : Int) - 1).toNat = j - 1 := by omega
     have e1 : ((j : Int) + (t.length : Int)).toNat = j + t.length := by omega
     have hei : ((j : Int) + (t.length : Int) = (s.length : Int)) ↔ j + t.length = s.length := by omega
     by_cases he : j + t.length = s.length
     ·refine zAh (by repeat' constructor) (zBr s t j hs ht (by omega)) ?_
      try simp (maxSteps := 2000000) only [go_sem, hb, he, e0, e1]
      repeat with_reducible refine zAc ?_
      refine zAb (by rfl) trivial (fun g5 => ?_) (fun g5 => ?_)
      ·try simp (maxSteps := 2000000) only [go_sem]
       repeat with_reducible refine zAc ?_
       exact zAd rfl trivial (.inl (by rw [hin j (by omega) (by revert g5; simp [zDN, hb, hb32, hei, he, hj0])]))
      ·try simp (maxSteps := 2000000) only [go_sem]
       repeat with_reducible refine zAc ?_
       refine ⟨j + 1, by omega, ⟨by omega, ?_⟩, ?_⟩
       ·rw [hsucc, hw, Bool.false_or]
        revert g5
        simp [zDN, hb, hb32, hei, he, hj0]
       ·simp (maxSteps := 2000000) only [go_sem, zAe, zAj, zAt, zAf]
        all_goals (repeat' (first | exact trivial | exact zAk (by omega) | exact zAg rfl | exact zAq rfl | exact zAl | exact le_refl _ | refine And.intro ?_ ?_))
     ·refine zAh (by repeat' constructor) (zBr s t j hs ht (by omega)) ?_
      try simp (maxSteps := 2000000) only [go_sem, hb, e0, e1]
      repeat with_reducible refine zAc ?_
      refine zAb (by rfl) trivial (fun g5 => ?_) (fun g5 => ?_)
      ·try simp (maxSteps := 2000000) only [go_sem]
       repeat with_reducible refine zAc ?_
       exact zAd rfl trivial (.inl (by rw [hin j (by omega) (by revert g5; simp [zDN, hb, hb32, hei, he, hj0])]))
      ·try simp (maxSteps := 2000000) only [go_sem]
       repeat with_reducible refine zAc ?_
       refine ⟨j + 1, by omega, ⟨by omega, ?_⟩, ?_⟩
       ·rw [hsucc, hw, Bool.false_or]
        revert g5
        simp [zDN, hb, hb32, hei, he, hj0]
       ·simp (maxSteps := 2000000) only [go_sem, zAe, zAj, zAt, zAf]
        all_goals (repeat' (first | exact trivial | exact zAk (by omega) | exact zAg rfl | exact zAq rfl | exact zAl | exact le_refl _ | refine And.intro ?_ ?_))
  ·try simp (maxSteps := 2000000) only [go_sem]
   repeat with_reducible refine zAc ?_
   have hjl : j = s.length + 1 := by simp at g4; omega
   rw [hjl] at hw
   exact zAd rfl trivial (.inl (by rw [zQB, hw]; simp))
end Go.Hx
end

section
set_option maxRecDepth 100000
set_option linter.unusedSimpArgs false
namespace Go.Hx
open Go.Proofs
variable [Glob]
attribute [local go_sem] zAx zAy zAw zAs ndV zAv zAp zCx
attribute [local go_sem] reduceCtorEq Nat.reduceAdd Nat.reduceEqDiff reduceIte Nat.reduceLeDiff Nat.reduceLT Nat.reduceSub
theorem zL0 (k : Int) (s t : Bys) (hs : s.length ≤ 64) (ht : t.length ≤ 64) : Contract Tryz.prog zDg [.val (iv k), .val (sv s), .val (sv t)] { res := .val (bv (zCy k s t)) } := by
 refine mkA zKq (base := 0) (fo rfl) (fun hfit => ?_)
 unfold F0 zFF
 simp (maxSteps := 2000000) only [zAD, List.set_cons_succ, List.set_cons_zero, List.map_cons, List.map_nil, zAC, zAa, ioOf, List.length_cons, List.length_nil, Nat.reduceAdd, Nat.reduceSub, List.replicate, List.cons_append, List.nil_append]
 try simp (maxSteps := 2000000) only [go_sem]
 repeat with_reducible refine zAc ?_
 refine zAb (by rfl) trivial (fun g3 => ?_) (fun g3 => ?_)
 ·have hk : k = 3 := by simpa using g3
  try simp (maxSteps := 2000000) only [go_sem]
  repeat with_reducible refine zAc ?_
  exact zAd rfl trivial (.inl (by simp [zCy, hk]))
 have k3 : k ≠ 3 := by simpa using g3
 try simp (maxSteps := 2000000) only [go_sem]
 repeat with_reducible refine zAc ?_
 refine zAb (by rfl) trivial (fun g4 => ?_) (fun g4 => ?_)
 ·have hk : k = 4 := by simpa using g4
  try simp (maxSteps := 2000000) only [go_sem]
  repeat with_reducible refine zAc ?_
  refine zAd rfl trivial (.inl ?_)
  rw [zCy, if_neg k3, if_pos hk]
  congr 3
  rw [Bool.eq_iff_iff]; simp
 have k4 : k ≠ 4 := by simpa using g4
 try simp (maxSteps := 2000000) only [go_sem]
 repeat with_reducible refine zAc ?_
 refine zAb (by rfl) trivial (fun g8 => ?_) (fun g8 => ?_)
 ·have hk : k = 8 := by simpa using g8
  try simp (maxSteps := 2000000) only [go_sem]
  repeat with_reducible refine zAc ?_
  refine zAh (by repeat' constructor) (yBE s t hs ht) ?_
  try simp (maxSteps := 2000000) only [go_sem]
  repeat with_reducible refine zAc ?_
  refine zAd rfl trivial (.inl ?_)
  rw [zCy, if_neg k3, if_neg k4, if_pos hk]
 have k8 : k ≠ 8 := by simpa using g8
 try simp (maxSteps := 2000000) only [go_sem]
 repeat with_reducible refine zAc ?_
 have hv : zCy k s t = (if t = [] then false else if k = 5 then zAT s t 0 else if k = 6 then zAT s t ((s.length : Int) - t.length) else (List.range s.length).any fun i => zAT s t i) := by
  rw [zCy, if_neg k3, if_neg k4, if_neg k8]
 rw [hv]
 refine zAb (by rfl) trivial (fun g1 => ?_) (fun g1 => ?_)
 ·have h0 : t = [] := by simpa using g1
  try simp (maxSteps := 2000000) only [go_sem]
  repeat with_reducible refine zAc ?_
  exact zAd rfl trivial (.inl (by rw [if_pos h0]))
 have h0 : t ≠ [] := by simpa using g1
 rw [if_neg h0]
 try simp (maxSteps := 2000000) only [go_sem]
 repeat with_reducible refine zAc ?_
 refine zAb (by rfl) trivial (fun g5 => ?_) (fun g5 => ?_)
 ·have hk : k = 5 := by simpa using g5
  try simp (maxSteps := 2000000) only [go_sem]
  repeat with_reducible refine zAc ?_
  refine zAh (by repeat' constructor) (zBr s t 0 hs ht (by omega)) ?_
  try simp (maxSteps := 2000000) only [go_sem]
  repeat with_reducible refine zAc ?_
  exact zAd rfl trivial (.inl (by rw [if_pos hk]))
 have k5 : k ≠ 5 := by simpa using g5
 try simp (maxSteps := 2000000) only [go_sem]
 repeat with_reducible refine zAc ?_
 refine zAb (by rfl) trivial (fun g6 => ?_) (fun g6 => ?_)
 ·have hk : k = 6 := by simpa using g6
  try simp (maxSteps := 2000000) only [go_sem]
  repeat with_reducible refine zAc ?_
  refine zAh (by repeat' constructor) (zBr s t _ hs ht (by omega)) ?_
  try simp (maxSteps := 2000000) only [go_sem]
  repeat with_reducible refine zAc ?_
  exact zAd rfl trivial (.inl (by rw [if_neg k5, if_pos hk]))
 have k6 : k ≠ 6 := by simpa using g6
 try simp (maxSteps := 2000000) only [go_sem]
 repeat with_reducible refine zAc ?_
 rw [if_neg k5, if_neg k6]
 refine zAm (fun i : Nat => [(7, .pv (iv i)), (6, .un), (42, .un), (48, .un)]) (fun i : Nat => s.length - i) (fun i : Nat => i ≤ s.length ∧ (List.range i).any (fun i : Nat => zAT s t i) = false) (0) ?_ ⟨Nat.zero_le _, rfl⟩ ?_
 focus (simp (maxSteps := 2000000) only [go_sem, zAe, zAj, zAt, zAf]; all_goals (repeat' (first | exact trivial | exact zAk (by omega) | exact zAg rfl | exact zAq rfl | exact zAl | exact le_refl _ | refine And.intro ?_ ?_)))
 rintro i ⟨hi, hw⟩
 try simp (maxSteps := 2000000) only [go_sem]
 repeat with_reducible refine zAc ?_
 refine zAb (by rfl) trivial (fun g2 => ?_) (fun g2 => ?_)
 ·have hil : i < s.length := by simpa using g2
  try simp (maxSteps := 2000000) only [go_sem]
  repeat with_reducible refine zAc ?_
  refine zAh (by repeat' constructor) (zBr s t i hs ht (by omega)) ?_
  try simp (maxSteps := 2000000) only [go_sem]
  repeat with_reducible refine zAc ?_
  refine zAb (by rfl) trivial (fun g7 => ?_) (fun g7 => ?_)
  ·try simp (maxSteps := 2000000) only [go_sem]
   repeat with_reducible refine zAc ?_
   exact zAd rfl trivial (.inl (by rw [List.any_eq_true.2 ⟨i, List.mem_range.2 hil, g7⟩]))
  ·try simp (maxSteps := 2000000) only [go_sem]
   repeat with_reducible refine zAc ?_
   refine ⟨i + 1, by omega, ⟨by omega, ?_⟩, ?_⟩
   ·rw [zCF, hw, g7]; rfl
   ·simp (maxSteps := 2000000) only [go_sem, zAe, zAj, zAt, zAf]
    all_goals (repeat' (first | exact trivial | exact zAk (by omega) | exact zAg rfl | exact zAq rfl | exact zAl | exact le_refl _ | refine And.intro ?_ ?_))
 ·try simp (maxSteps := 2000000) only [go_sem]
  repeat with_reducible refine zAc ?_
  have hil : i = s.length := by simp at g2; omega
  rw [hil] at hw
  exact zAd rfl trivial (.inl (by rw [hw]))
theorem zU5 (d : List Nd) (n : Nat) : zCh d n = if n = 0 then [0] else zD5 d (zAZ d n) := rfl
theorem zMR (d : List Nd) (n : Nat) (hl : d.length ≤ 64) (hn : n < d.length) : Contract Tryz.prog zEk [.val (zCx d), .val (iv n)] { res := .own zCT 1 (zBB (zCh d n)) } := by
 have hv := zA1 d n hn
 unfold zCx
 refine mkA zUR (base := 0) (fo rfl) (fun hfit => ?_)
 unfold F0 zMN
 simp (maxSteps := 2000000) only [zAD, List.set_cons_succ, List.set_cons_zero, List.map_cons, List.map_nil, zAC, zAa, ioOf, List.length_cons, List.length_nil, Nat.reduceAdd, Nat.reduceSub, List.replicate, List.cons_append, List.nil_append]
 try simp (maxSteps := 2000000) only [go_sem]
 repeat with_reducible refine zAc ?_
 refine zAb (by rfl) trivial (fun g1 => ?_) (fun g1 => ?_)
 ·have h0 : n = 0 := by simpa using g1
  try simp (maxSteps := 2000000) only [go_sem]
  repeat with_reducible refine zAc ?_
  refine zTz ?_
  rw [zU5, if_pos h0]
  rfl
 ·have h0 : n ≠ 0 := by simpa using g1
  have hk := zMP d (zAZ d n) hl
  try simp (maxSteps := 2000000) only [go_sem, hv, ndV]
  repeat with_reducible refine zAc ?_
  refine zHX (by repeat' constructor) (hk) ?_
  try simp (maxSteps := 2000000) only [go_sem]
  repeat with_reducible refine zAc ?_
  refine zTz ?_
  rw [zU5, if_neg h0]
  rfl
theorem zJm {α : Type} {l : List α} {i : Nat} (d : α) (h : i < l.length) : l.take (i + 1) = l.take i ++ [l.getD i d] := by
 rw [List.take_add_one]; simp [h]
theorem yBF {l : List Int} {n : Int} {i : Nat} (h : i < l.length) (h0 : (l.take i).findIdx? (fun x => decide (x = n)) = none) : (l.getD i 0 = n → zAW l n = i) ∧ (l.getD i 0 ≠ n → (l.take (i + 1)).findIdx? (fun x => decide (x = n)) = none) := by
 rw [List.findIdx?_eq_none_iff] at h0
 refine ⟨fun e => ?_, fun e => ?_⟩
 ·unfold zAW
  have : l.findIdx? (fun x => decide (x = n)) = some i := by
   rw [List.findIdx?_eq_some_iff_getElem]
   refine ⟨h, by simpa [h] using e, fun j hj => ?_⟩
   have := h0 l[j] (by rw [List.mem_take_iff_getElem]; exact ⟨j, by omega, rfl⟩)
   simpa using this
  rw [this]
 ·rw [List.findIdx?_eq_none_iff, zJm 0 h]
  intro x hx
  rcases List.mem_append.1 hx with hx | hx
  ·exact h0 x hx
  ·rw [List.mem_singleton.1 hx]
   simpa using e
theorem zEm (l : List Int) (n : Int) (hl : l.length ≤ 64) : Contract Tryz.prog zB7 [.val (.one (.sl 1 (zBB l))), .val (iv n)] { res := .val (iv (zAW l n)) } := by
 refine mkA zRA (base := 0) (fo rfl) (fun hfit => ?_)
 unfold F0 zKr
 simp (maxSteps := 2000000) only [zAD, List.set_cons_succ, List.set_cons_zero, List.map_cons, List.map_nil, zAC, zAa, ioOf, List.length_cons, List.length_nil, Nat.reduceAdd, Nat.reduceSub, List.replicate, List.cons_append, List.nil_append]
 try simp (maxSteps := 2000000) only [go_sem]
 repeat with_reducible refine zAc ?_
 refine zAm (fun i : Nat => [(5, .pv (iv i)), (4, .un), (9, .un), (17, .un)]) (fun i : Nat => l.length - i) (fun i : Nat => i ≤ l.length ∧ (l.take i).findIdx? (fun x => decide (x = n)) = none) (0) ?_ ⟨Nat.zero_le _, by simp⟩ ?_
 focus (simp (maxSteps := 2000000) only [go_sem, zAe, zAj, zAt, zAf]; all_goals (repeat' (first | exact trivial | exact zAk (by omega) | exact zAg rfl | exact zAq rfl | exact zAl | exact le_refl _ | refine And.intro ?_ ?_)))
 rintro i ⟨hi, hw⟩
 try simp (maxSteps := 2000000) only [go_sem]
 repeat with_reducible refine zAc ?_
 refine zAb (by rfl) trivial (fun g1 => ?_) (fun g1 => ?_)
 ·have hil : i < l.length := by simpa using g1
  have hv := zEx l i hil
  obtain ⟨h1, h2⟩ := yBF hil hw
  obtain ⟨y, hy⟩ : ∃ y, y = l.getD i 0 := ⟨_, rfl⟩
  rw [← hy] at h1 h2 hv
  try simp (maxSteps := 2000000) only [go_sem, hv]
  repeat with_reducible refine zAc ?_
  refine zAb (by rfl) trivial (fun g2 => ?_) (fun g2 => ?_)
  ·try simp (maxSteps := 2000000) only [go_sem]
   repeat with_reducible refine zAc ?_
   exact zAd rfl trivial (.inl (by rw [h1 (by simpa using g2)]))
  ·try simp (maxSteps := 2000000) only [go_sem]
   repeat with_reducible refine zAc ?_
   refine ⟨i + 1, by omega, ⟨by omega, h2 (by simpa using g2)⟩, ?_⟩
   simp (maxSteps := 2000000) only [go_sem, zAe, zAj, zAt, zAf]
   all_goals (repeat' (first | exact trivial | exact zAk (by omega) | exact zAg rfl | exact zAq rfl | exact zAl | exact le_refl _ | refine And.intro ?_ ?_))
 ·try simp (maxSteps := 2000000) only [go_sem]
  repeat with_reducible refine zAc ?_
  have hil : i = l.length := by simp at g1; omega
  rw [hil, List.take_length] at hw
  exact zAd rfl trivial (.inl (by unfold zAW; rw [hw]))
end Go.Hx
end

section
set_option maxRecDepth 100000
set_option linter.unusedSimpArgs false
namespace Go.Hx
open Go.Proofs
variable [Glob]
attribute [local go_sem] zAx zAy zAw zAs ndV zAv zAp zCx List.take_nil
attribute [local go_sem] reduceCtorEq Nat.reduceAdd Nat.reduceEqDiff reduceIte Nat.reduceLeDiff Nat.reduceLT Nat.reduceSub
theorem zXr (d : List Nd) (n : Nat) (hl : d.length ≤ 64) : (zCh d n).length ≤ 64 := by
 rw [zU5]
 split
 ·simp
 ·exact Nat.le_trans (zDA _) hl
theorem zP8 (l : List Int) (n : Int) (hl : l.length ≤ 64) : -1 ≤ zAW l n ∧ zAW l n ≤ 64 := by
 unfold zAW
 split
 ·rename_i i hi
  have := (List.findIdx?_eq_some_iff_getElem.1 hi).1
  omega
 ·omega
theorem zKE (d : List Nd) (hd : zCg d d.length = true) (hl : d.length ≤ 64) (lk : Int) (m n : Nat) (hn : n < d.length) : Contract Tryz.prog zFi [.val (zCx d), .val (iv lk), .val (iv m), .val (iv n)] { res := .val (bv (zDa d lk m n)) } := by
 have hv := zA1 d n hn
 have hfl := zXr d n hl
 have hp1 := zP8 (zCh d n) m hfl
 have hp2 := zP8 (zCh d n) n hfl
 unfold zCx
 refine mkA zR8 (base := 0) (fo rfl) (fun hfit => ?_)
 unfold F0 zKs
 simp (maxSteps := 2000000) only [zAD, List.set_cons_succ, List.set_cons_zero, List.map_cons, List.map_nil, zAC, zAa, ioOf, List.length_cons, List.length_nil, Nat.reduceAdd, Nat.reduceSub, List.replicate, List.cons_append, List.nil_append]
 try simp (maxSteps := 2000000) only [go_sem]
 repeat with_reducible refine zAc ?_
 refine zAb (by rfl) trivial (fun g1 => ?_) (fun g1 => ?_)
 ·have h1 : lk = 1 := by simpa using g1
  try simp (maxSteps := 2000000) only [go_sem]
  repeat with_reducible refine zAc ?_
  refine zAh (by repeat' constructor) (zP4 d hd m n hn) ?_
  try simp (maxSteps := 2000000) only [go_sem]
  repeat with_reducible refine zAc ?_
  exact zAd rfl trivial (.inl (by rw [zDa, if_pos h1]; rfl))
 have h1 : lk ≠ 1 := by simpa using g1
 try simp (maxSteps := 2000000) only [go_sem]
 repeat with_reducible refine zAc ?_
 refine zAb (by rfl) trivial (fun g2 => ?_) (fun g2 => ?_)
 ·have h2 : lk = 2 := by simpa using g2
  try simp (maxSteps := 2000000) only [go_sem, hv, ndV]
  repeat with_reducible refine zAc ?_
  refine zAd rfl trivial (.inl ?_)
  rw [zDa, if_neg h1, if_pos h2]
  congr 3
  try (rw [Bool.eq_iff_iff]; simp [zAZ])
 have h2 : lk ≠ 2 := by simpa using g2
 try simp (maxSteps := 2000000) only [go_sem]
 repeat with_reducible refine zAc ?_
 refine zHX (by repeat' constructor) (zMR d n hl hn) ?_
 try simp (maxSteps := 2000000) only [go_sem]
 repeat with_reducible refine zAc ?_
 refine zAh (by repeat' constructor) (zEm (zCh d n) m hfl) ?_
 try simp (maxSteps := 2000000) only [go_sem]
 repeat with_reducible refine zAc ?_
 refine zAh (by repeat' constructor) (zEm (zCh d n) n hfl) ?_
 try simp (maxSteps := 2000000) only [go_sem]
 repeat with_reducible refine zAc ?_
 refine zAb (by rfl) trivial (fun g3 => ?_) (fun g3 => ?_)
 ·have h3 : lk = 3 := by simpa using g3
  try simp (maxSteps := 2000000) only [go_sem]
  repeat with_reducible refine zAc ?_
  refine zAd rfl trivial (.inl ?_)
  rw [zDa, if_neg h1, if_neg h2, if_pos h3]
  congr 3
  by_cases h0 : 0 ≤ zAW (zCh d n) m <;> simp [h0]
  try (rw [Bool.eq_iff_iff]; simp)
 have h3 : lk ≠ 3 := by simpa using g3
 try simp (maxSteps := 2000000) only [go_sem]
 repeat with_reducible refine zAc ?_
 refine zAd rfl trivial (.inl ?_)
 rw [zDa, if_neg h1, if_neg h2, if_neg h3]
 congr 3
 by_cases h0 : 0 ≤ zAW (zCh d n) m <;> simp [h0]
theorem zXs {s : Bys} (h : zCf s = true) : s.length ≤ 16 := by
 simp only [zCf, Bool.and_eq_true, decide_eq_true_eq] at h
 exact h.1
theorem yCV {l : List (Bys × Bys)} {i : Nat} (h : okA l l.length = true) (hi : i < l.length) : (l.getD i default).2.length ≤ 16 := by
 have := zAS h hi
 simp only [aOk, Bool.and_eq_true] at this
 exact zXs this.1.2
theorem yBG {l : List (Bys × Bys)} {nm s : Bys} (h : okA l l.length = true) (hs : zCE l nm = some s) : s.length ≤ 16 := by
 unfold zCE at hs
 rw [Option.map_eq_some_iff] at hs
 obtain ⟨a, ha, rfl⟩ := hs
 obtain ⟨i, hi, rfl⟩ := List.getElem_of_mem (List.mem_of_find?_eq_some ha)
 have := yCV h hi
 simpa [hi] using this
theorem yBH {x : Nd} (h : zBG x = true) : x.cls.length ≤ 6 ∧ x.att.length ≤ 4 ∧ okA x.att x.att.length = true := by
 simp only [zBG, Bool.and_eq_true, decide_eq_true_eq] at h
 exact ⟨h.1.1.1.2, h.1.1.2, h.2⟩
theorem yBI {d : List Nd} (hd : zCg d d.length = true) {n : Nat} (hn : n < d.length) : zBG (d.getD n default) = true := by
 have := zAS hd hn
 simp only [zWa, Bool.and_eq_true] at this
 exact this.1
theorem zSN {α : Type} {p : α → Bool} {l : List α} {i : Nat} (d : α) (h : i < l.length) : (l.take (i + 1)).any p = ((l.take i).any p || p (l.getD i d)) := by
 rw [zJm d h, List.any_append]; simp
theorem zH0 {α : Type} {p : α → Bool} {l : List α} {i : Nat} (d : α) (h : i < l.length) : (l.take (i + 1)).all p = ((l.take i).all p && p (l.getD i d)) := by
 rw [zJm d h, List.all_append]; simp
theorem zXt {α : Type} {p : α → Bool} {l : List α} {i : Nat} {d : α} (h : i < l.length) (hp : p (l.getD i d) = true) : l.any p = true :=
 List.any_eq_true.2 ⟨l.getD i d, by simp [h], hp⟩
theorem zKF {α : Type} {p : α → Bool} {l : List α} {i : Nat} {d : α} (h : i < l.length) (hp : p (l.getD i d) = false) : l.all p = false :=
 List.all_eq_false.2 ⟨l.getD i d, by simp [h], by simp only [hp]; simp⟩
theorem yCW (d : List Nd) (n : Nat) : (zD5 d n).length = (yBb d n).length := by
 unfold zD5 zAJ yBb
 rw [List.length_map]
end Go.Hx
end

section
set_option maxRecDepth 100000
set_option linter.unusedSimpArgs false
namespace Go.Hx
open Go.Proofs
variable [Glob]
attribute [local go_sem] zAx zAy zAw zAs ndV zAv zAp zCx List.take_nil
attribute [local go_sem] reduceCtorEq Nat.reduceAdd Nat.reduceEqDiff reduceIte Nat.reduceLeDiff Nat.reduceLT Nat.reduceSub
theorem zZs {v : Bys} {k : Int} (h : if 4 ≤ k ∧ k ≤ 8 then zCf v = true else v = []) : v.length ≤ 64 := by
 split at h
 ·have := zXs h; omega
 ·rw [h]; simp
set_option maxHeartbeats 16000000 in
theorem yCX (d : List Nd) (hd : zCg d d.length = true) (hl : d.length ≤ 64) (e : Nat) (t : Ts) (ht : GT t e)
  (hL : 13 ≤ t.kind → ∀ m : Nat, m < d.length → Contract Tryz.prog zAI [.val (zCx d), .val (zAM t.list), .val (iv m)] { res := .val (bv (lM d t.list m)) })
  (n : Nat) (hn : n < d.length) : Contract Tryz.prog zEj [.val (zCx d), .val (.agg (tsV t)), .val (iv n)] { res := .val (bv (tM d t n)) } := by
 have hv := zA1 d n hn
 have hnf := yBI hd hn
 have hfl := zXr d n hl
 have hp := zP8 (zCh d n) n hfl
 have hk := zMP d n hl
 obtain ⟨k, nm, v, a, b, l⟩ := t
 obtain ⟨k1, _, hval, _, hnth, _⟩ := ht.parts
 have hvl := zZs hval
 have hL' : 13 ≤ k → ∀ m : Nat, m < d.length → Contract Tryz.prog zAI [.val (zCx d), .val (zAM l), .val (iv m)] { res := .val (bv (lM d l m)) } := hL
 rw [tM]
 obtain ⟨x, hx⟩ : ∃ x, x = d.getD n default := ⟨_, rfl⟩
 obtain ⟨x1, x2, x3⟩ := yBH (hx ▸ hnf)
 have hx0 := hx
 rw [← hx] at hv
 have hA := zXq x nm (by omega)
 unfold zCx
 unfold tsV
 unfold zCx at hL' hk
 unfold zAM at hL'
 rw [ndV] at hv hA
 have hfam := zMR d n hl hn
 unfold zCx at hfam
 refine mkA zU2 (base := 0) (fo rfl) (fun hfit => ?_)
 unfold F0 zMO
 simp (maxSteps := 2000000) only [zAD, List.set_cons_succ, List.set_cons_zero, List.map_cons, List.map_nil, zAC, zAa, ioOf, List.length_cons, List.length_nil, Nat.reduceAdd, Nat.reduceSub, List.replicate, List.cons_append, List.nil_append]
 try simp (maxSteps := 2000000) only [go_sem]
 repeat with_reducible refine zAc ?_
 try simp (maxSteps := 2000000) only [go_sem, hv]
 repeat with_reducible refine zAc ?_
 refine zHX (by repeat' constructor) (hfam) ?_
 try simp (maxSteps := 2000000) only [go_sem]
 repeat with_reducible refine zAc ?_
 refine zAb (by rfl) trivial (fun g1 => ?_) (fun g1 => ?_)
 ·have h1 : k = 1 := by simpa using g1
  subst h1
  try simp (maxSteps := 2000000) only [go_sem]
  repeat with_reducible refine zAc ?_
  refine zAm (fun i : Nat => [(9, .pv (iv i)), (6, .un), (29, .un), (39, .un)]) (fun i : Nat => x.cls.length - i) (fun i : Nat => i ≤ x.cls.length ∧ (x.cls.take i).any (fun c => decide (c = nm)) = false) (0) ?_ ⟨Nat.zero_le _, by simp⟩ ?_
  focus (simp (maxSteps := 2000000) only [go_sem, zAe, zAj, zAt, zAf]; all_goals (repeat' (first | exact trivial | exact zAk (by omega) | exact zAg rfl | exact zAq rfl | exact zAl | exact le_refl _ | refine And.intro ?_ ?_)))
  rintro i ⟨hi, hw⟩
  try simp (maxSteps := 2000000) only [go_sem]
  repeat with_reducible refine zAc ?_
  refine zAb (by rfl) trivial (fun g2 => ?_) (fun g2 => ?_)
  ·have hil : i < x.cls.length := by simpa using g2
   have hcv := zHY x.cls i hil
   have hcs := zSN (p := fun c => decide (c = nm)) ([] : Bys) hil
   obtain ⟨y, hy⟩ : ∃ y, y = x.cls.getD i [] := ⟨_, rfl⟩
   have hany := zXt (p := fun c => decide (c = nm)) (d := ([] : Bys)) hil
   rw [← hy] at hcv hcs hany
   try simp (maxSteps := 2000000) only [go_sem, hcv]
   repeat with_reducible refine zAc ?_
   refine zAb (by rfl) trivial (fun g3 => ?_) (fun g3 => ?_)
   ·try simp (maxSteps := 2000000) only [go_sem]
    repeat with_reducible refine zAc ?_
    refine zAd rfl trivial (.inl ?_)
    have e : y = nm := by simpa using g3
    simp only [zEy, ← hx0, if_true]
    rw [hany (by simpa using e)]
   ·try simp (maxSteps := 2000000) only [go_sem]
    repeat with_reducible refine zAc ?_
    refine ⟨i + 1, by omega, ⟨by omega, ?_⟩, ?_⟩
    ·rw [hcs, hw]; simpa using g3
    ·simp (maxSteps := 2000000) only [go_sem, zAe, zAj, zAt, zAf]
     all_goals (repeat' (first | exact trivial | exact zAk (by omega) | exact zAg rfl | exact zAq rfl | exact zAl | exact le_refl _ | refine And.intro ?_ ?_))
  ·try simp (maxSteps := 2000000) only [go_sem]
   repeat with_reducible refine zAc ?_
   have hil : i = x.cls.length := by simp at g2; omega
   rw [hil, List.take_length] at hw
   refine zAd rfl trivial (.inl ?_)
   simp only [zEy, ← hx0, if_true]
   rw [hw]
 have h1 : k ≠ 1 := by simpa using g1
 try simp (maxSteps := 2000000) only [go_sem]
 repeat with_reducible refine zAc ?_
 refine zAb (by rfl) trivial (fun g2 => ?_) (fun g2 => ?_)
 ·have h2 : k = 2 := by simpa using g2
  subst h2
  try simp (maxSteps := 2000000) only [go_sem]
  repeat with_reducible refine zAc ?_
  refine zAd rfl trivial (.inl ?_)
  simp only [zEy, ← hx0, if_true]
  rw [if_neg (by decide)]
  congr 3
  try (rw [Bool.eq_iff_iff]; simp)
 have h2 : k ≠ 2 := by simpa using g2
 try simp (maxSteps := 2000000) only [go_sem]
 repeat with_reducible refine zAc ?_
 refine zAh (by repeat' constructor) (zBg k 3 8) ?_
 try simp (maxSteps := 2000000) only [go_sem]
 repeat with_reducible refine zAc ?_
 refine zAb (by rfl) trivial (fun g3 => ?_) (fun g3 => ?_)
 ·have h3 : 3 ≤ k ∧ k ≤ 8 := by simpa using g3
  try simp (maxSteps := 2000000) only [go_sem]
  repeat with_reducible refine zAc ?_
  refine zA0 (by repeat' constructor) (hA) ?_
  try simp (maxSteps := 2000000) only [go_sem]
  repeat with_reducible refine zAc ?_
  have hres : zEy d k nm v a b (lM d l) n = (match zCE x.att nm with | some s => zCy k s v | none => false) := by
   simp only [zEy, ← hx0]
   rw [if_neg h1, if_neg h2, if_pos h3.2]
   rfl
  rw [hres]
  cases hat : zCE x.att nm with
  | none =>
   try simp (maxSteps := 2000000) only [go_sem, Option.isSome_none, Option.getD_none]
   repeat with_reducible refine zAc ?_
   refine zKG (by rfl) ?_
   try simp (maxSteps := 2000000) only [go_sem]
   repeat with_reducible refine zAc ?_
   exact zAd rfl trivial (.inl rfl)
  | some s =>
   have hsl := yBG x3 hat
   try simp (maxSteps := 2000000) only [go_sem, Option.isSome_some, Option.getD_some]
   repeat with_reducible refine zAc ?_
   apply zAo (h2 := fun _ => zL0 k s v (by omega) hvl)
   ·(simp (maxSteps := 2000000) only [go_sem]; rfl)
   ·intro h; repeat' (first | exact trivial | exact h | refine And.intro ?_ ?_)
   try simp (maxSteps := 2000000) only [go_sem]
   repeat with_reducible refine zAc ?_
   exact zAd rfl trivial (.inl (by simp))
 have h3 : ¬ (3 ≤ k ∧ k ≤ 8) := by simpa using g3
 have h8 : ¬ k ≤ 8 := by omega
 have hnr : ∀ i, zEl a b i = zWg a b i := fun _ => rfl
 try simp (maxSteps := 2000000) only [go_sem]
 repeat with_reducible refine zAc ?_
 refine zAb (by rfl) trivial (fun g9 => ?_) (fun g9 => ?_)
 ·have h9 : k = 9 := by simpa using g9
  try simp (maxSteps := 2000000) only [go_sem]
  repeat with_reducible refine zAc ?_
  refine zAh (by repeat' constructor) (zEm (zCh d n) n hfl) ?_
  try simp (maxSteps := 2000000) only [go_sem]
  repeat with_reducible refine zAc ?_
  refine zAh (by repeat' constructor) (zIH a b _) ?_
  try simp (maxSteps := 2000000) only [go_sem]
  repeat with_reducible refine zAc ?_
  refine zAd rfl trivial (.inl ?_)
  simp only [zEy]
  rw [if_neg h1, if_neg h2, if_neg h8, if_pos h9]
  rfl
 have h9 : k ≠ 9 := by simpa using g9
 try simp (maxSteps := 2000000) only [go_sem]
 repeat with_reducible refine zAc ?_
 refine zAb (by rfl) trivial (fun g10 => ?_) (fun g10 => ?_)
 ·have h10 : k = 10 := by simpa using g10
  try simp (maxSteps := 2000000) only [go_sem]
  repeat with_reducible refine zAc ?_
  refine zAh (by repeat' constructor) (zEm (zCh d n) n hfl) ?_
  try simp (maxSteps := 2000000) only [go_sem]
  repeat with_reducible refine zAc ?_
  refine zAh (by repeat' constructor) (zIH a b _) ?_
  try simp (maxSteps := 2000000) only [go_sem]
  repeat with_reducible refine zAc ?_
  refine zAd rfl trivial (.inl ?_)
  simp only [zEy]
  rw [if_neg h1, if_neg h2, if_neg h8, if_neg h9, if_pos h10]
  rfl
 have h10 : k ≠ 10 := by simpa using g10
 try simp (maxSteps := 2000000) only [go_sem]
 repeat with_reducible refine zAc ?_
 refine zAb (by rfl) trivial (fun g11 => ?_) (fun g11 => ?_)
 ·have h11 : k = 11 := by simpa using g11
  try simp (maxSteps := 2000000) only [go_sem]
  repeat with_reducible refine zAc ?_
  refine zHX (by repeat' constructor) (hk) ?_
  try simp (maxSteps := 2000000) only [go_sem]
  repeat with_reducible refine zAc ?_
  refine zAd rfl trivial (.inl ?_)
  simp only [zEy]
  rw [if_neg h1, if_neg h2, if_neg h8, if_neg h9, if_neg h10, if_pos h11]
  have := yCW d n
  have e : decide (yBb d n = []) = (((zD5 d n).length : Int) == 0) := by
   rw [Bool.eq_iff_iff]
   simp only [decide_eq_true_eq, beq_iff_eq]
   rw [← List.length_eq_zero_iff]
   omega
  rw [e]
 have h11 : k ≠ 11 := by simpa using g11
 try simp (maxSteps := 2000000) only [go_sem]
 repeat with_reducible refine zAc ?_
 refine zAb (by rfl) trivial (fun g12 => ?_) (fun g12 => ?_)
 ·have h12 : k = 12 := by simpa using g12
  try simp (maxSteps := 2000000) only [go_sem]
  repeat with_reducible refine zAc ?_
  refine zAd rfl trivial (.inl ?_)
  simp only [zEy]
  rw [if_neg h1, if_neg h2, if_neg h8, if_neg h9, if_neg h10, if_neg h11, if_pos h12]
  have e : decide (n = 0) = ((n : Int) == 0) := by
   rw [Bool.eq_iff_iff]
   simp only [decide_eq_true_eq, beq_iff_eq]
   omega
  rw [e]
 have h12 : k ≠ 12 := by simpa using g12
 have hL := hL' (by omega)
 try simp (maxSteps := 2000000) only [go_sem]
 repeat with_reducible refine zAc ?_
 refine zAb (by rfl) trivial (fun g13 => ?_) (fun g13 => ?_)
 ·have h13 : k = 13 := by simpa using g13
  try simp (maxSteps := 2000000) only [go_sem]
  repeat with_reducible refine zAc ?_
  refine zAh (by repeat' constructor) (hL n hn) ?_
  try simp (maxSteps := 2000000) only [go_sem]
  repeat with_reducible refine zAc ?_
  refine zAd rfl trivial (.inl ?_)
  simp only [zEy]
  rw [if_neg h1, if_neg h2, if_neg h8, if_neg h9, if_neg h10, if_neg h11, if_neg h12, if_pos h13]
 have h13 : k ≠ 13 := by simpa using g13
 try simp (maxSteps := 2000000) only [go_sem]
 repeat with_reducible refine zAc ?_
 refine zAb (by rfl) trivial (fun g14 => ?_) (fun g14 => ?_)
 ·have h14 : k = 14 := by simpa using g14
  try simp (maxSteps := 2000000) only [go_sem]
  repeat with_reducible refine zAc ?_
  refine zAh (by repeat' constructor) (hL n hn) ?_
  try simp (maxSteps := 2000000) only [go_sem]
  repeat with_reducible refine zAc ?_
  refine zAd rfl trivial (.inl ?_)
  simp only [zEy]
  rw [if_neg h1, if_neg h2, if_neg h8, if_neg h9, if_neg h10, if_neg h11, if_neg h12, if_neg h13, if_pos h14]
 have h14 : k ≠ 14 := by simpa using g14
 have hres : zEy d k nm v a b (lM d l) n = (List.range d.length).any fun m => zD3 d n m && lM d l m := by
  simp only [zEy]
  rw [if_neg h1, if_neg h2, if_neg h8, if_neg h9, if_neg h10, if_neg h11, if_neg h12, if_neg h13, if_neg h14]
 rw [hres]
 try simp (maxSteps := 2000000) only [go_sem]
 repeat with_reducible refine zAc ?_
 refine zAm (fun i : Nat => [(12, .pv (iv i)), (6, .un), (131, .un), (144, .un)]) (fun i : Nat => d.length - i) (fun i : Nat => i ≤ d.length ∧ (List.range i).any (fun m => zD3 d n m && lM d l m) = false) (0) ?_ ⟨Nat.zero_le _, rfl⟩ ?_
 focus (simp (maxSteps := 2000000) only [go_sem, zAe, zAj, zAt, zAf]; all_goals (repeat' (first | exact trivial | exact zAk (by omega) | exact zAg rfl | exact zAq rfl | exact zAl | exact le_refl _ | refine And.intro ?_ ?_)))
 rintro i ⟨hi, hw⟩
 try simp (maxSteps := 2000000) only [go_sem]
 repeat with_reducible refine zAc ?_
 refine zAb (by rfl) trivial (fun g15 => ?_) (fun g15 => ?_)
 ·have hil : i < d.length := by simpa using g15
  have hsucc := zCF (p := fun m => zD3 d n m && lM d l m) (n := i)
  have hab := zP4 d hd n i hil
  have hin : (zD3 d n i && lM d l i) = true → (List.range d.length).any (fun m => zD3 d n m && lM d l m) = true := fun h => List.any_eq_true.2 ⟨i, List.mem_range.2 hil, h⟩
  have hab' : (zA5 d d.length (zAZ d i)).contains (n : Int) = zD3 d n i := rfl
  rw [hab'] at hab
  unfold zCx at hab
  try simp (maxSteps := 2000000) only [go_sem]
  repeat with_reducible refine zAc ?_
  cases hb : zD3 d n i with
  | false =>
   rw [hb] at hab hin hsucc
   refine zAh (by repeat' constructor) (hab) ?_
   try simp (maxSteps := 2000000) only [go_sem]
   repeat with_reducible refine zAc ?_
   refine zKG (by rfl) ?_
   try simp (maxSteps := 2000000) only [go_sem]
   repeat with_reducible refine zAc ?_
   refine zAb (by rfl) trivial (fun g16 => ?_) (fun g16 => ?_)
   ·simp at g16
   ·try simp (maxSteps := 2000000) only [go_sem]
    repeat with_reducible refine zAc ?_
    refine ⟨i + 1, by omega, ⟨by omega, by rw [hsucc, hw]; rfl⟩, ?_⟩
    simp (maxSteps := 2000000) only [go_sem, zAe, zAj, zAt, zAf]
    all_goals (repeat' (first | exact trivial | exact zAk (by omega) | exact zAg rfl | exact zAq rfl | exact zAl | exact le_refl _ | refine And.intro ?_ ?_))
  | true =>
   rw [hb] at hab hin hsucc
   refine zAh (by repeat' constructor) (hab) ?_
   try simp (maxSteps := 2000000) only [go_sem]
   repeat with_reducible refine zAc ?_
   apply zAo (h2 := fun _ => hL i hil)
   ·(simp (maxSteps := 2000000) only [go_sem]; rfl)
   ·intro h; repeat' (first | exact trivial | exact h | refine And.intro ?_ ?_)
   try simp (maxSteps := 2000000) only [go_sem]
   repeat with_reducible refine zAc ?_
   refine zAb (by rfl) trivial (fun g16 => ?_) (fun g16 => ?_)
   ·try simp (maxSteps := 2000000) only [go_sem]
    repeat with_reducible refine zAc ?_
    have e : lM d l i = true := by simpa using g16
    exact zAd rfl trivial (.inl (by rw [hin (by rw [e]; rfl)]))
   ·try simp (maxSteps := 2000000) only [go_sem]
    repeat with_reducible refine zAc ?_
    have e : lM d l i = false := by simpa using g16
    refine ⟨i + 1, by omega, ⟨by omega, by rw [hsucc, hw, e]; rfl⟩, ?_⟩
    simp (maxSteps := 2000000) only [go_sem, zAe, zAj, zAt, zAf]
    all_goals (repeat' (first | exact trivial | exact zAk (by omega) | exact zAg rfl | exact zAq rfl | exact zAl | exact le_refl _ | refine And.intro ?_ ?_))
 ·try simp (maxSteps := 2000000) only [go_sem]
  repeat with_reducible refine zAc ?_
  have hil : i = d.length := by simp at g15; omega
  rw [hil] at hw
  exact zAd rfl trivial (.inl (by rw [hw]))
end Go.Hx
end

section
set_option maxRecDepth 100000
set_option linter.unusedSimpArgs false
namespace Go.Hx
open Go.Proofs
variable [Glob]
attribute [local go_sem] zAx zAy zAw zAs ndV zAv zAp zCx List.take_nil zBp zBo
attribute [local go_sem] reduceCtorEq Nat.reduceAdd Nat.reduceEqDiff reduceIte Nat.reduceLeDiff Nat.reduceLT Nat.reduceSub
theorem yBJ (l : List St) (n : Nat) : (zLd l).take n = zLd (l.take n) := by rw [zHZ, zHZ, List.map_take]
theorem zZt (l : List Int) (n : Nat) : (zBB l).take n = zBB (l.take n) := by simp [zBB]
theorem zJn {α : Type} {l : List α} {i n : Nat} {d : α} (h : i < n) : (l.take n).getD i d = l.getD i d := by
 simp [List.getD_eq_getElem?_getD, List.getElem?_take, h]
set_option maxHeartbeats 16000000 in
theorem zSb (d : List Nd) (hd : zCg d d.length = true) (hl : d.length ≤ 64) (p : Pt) (hp1 : 1 ≤ p.steps.length) (hp5 : p.steps.length ≤ 5) (hlk : p.links.length + 1 = p.steps.length)
  (hT : ∀ s ∈ p.steps, s.tests.length ≤ 6 ∧ ∀ t ∈ s.tests, ∀ n : Nat, n < d.length → Contract Tryz.prog zEj [.val (zCx d), .val (.agg (tsV t)), .val (iv n)] { res := .val (bv (tM d t n)) }) :
  ∀ k : Nat, k < p.steps.length → ∀ n : Nat, n < d.length → Contract Tryz.prog zBI [.val (zCx d), .val (.agg [.sl 2 (zLd (p.steps.take (k + 1))), .sl 1 (zBB (p.links.take k))]), .val (iv n)] { res := .val (bv (zBN d (p.steps.map (sM d)) p.links k n)) } := by
 intro k
 have hnn : (([] : Bys) == []) = true := rfl
 induction k with
 | zero =>
  intro hk n hn
  have hv := zA1 d n hn
  rw [ndV] at hv
  obtain ⟨S, hS⟩ : ∃ S, S = p.steps.take (0 + 1) := ⟨_, rfl⟩
  have hSl : S.length = 1 := by rw [hS, List.length_take]; omega
  have hst : S.getD 0 default = p.steps.getD 0 default := by rw [hS]; exact zJn (by omega)
  have hsv := zEe S 0 (by omega)
  rw [hst] at hsv
  obtain ⟨x, hx⟩ : ∃ x, x = p.steps.getD 0 default := ⟨_, rfl⟩
  rw [← hx, zGo] at hsv
  have hmem : x ∈ p.steps := by rw [hx, List.getD_eq_getElem?_getD, List.getElem?_eq_getElem hk]; exact List.getElem_mem hk
  obtain ⟨hx6, hxT⟩ := hT x hmem
  obtain ⟨L, hL⟩ : ∃ L, L = p.links.take 0 := ⟨_, rfl⟩
  have hpm : zBN d (p.steps.map (sM d)) p.links 0 n = sM d x n := by
   rw [zBN]
   have e : (p.steps.map (sM d)).getD 0 (fun _ => false) = sM d x := by
    rw [hx]
    simp [List.getD_eq_getElem?_getD, List.getElem?_eq_getElem hk]
   rw [e]
  rw [hpm, yF9, ← hS, ← hL]
  have e1 : (((1 : Nat) : Int) - 1).toNat = 0 := by omega
  have e2 : (((1 : Nat) : Int) - 1) = ((0 : Nat) : Int) := by omega
  obtain ⟨nd, hnd⟩ : ∃ nd, nd = d.getD n default := ⟨_, rfl⟩
  rw [← hnd] at hv ⊢
  unfold zCx at hxT ⊢
  by_cases htag : x.tag = []
  ·refine mkA zCc (base := 0) (fo rfl) (fun hfit => ?_)
   unfold F0 zBU
   simp (maxSteps := 2000000) only [zAD, List.set_cons_succ, List.set_cons_zero, List.map_cons, List.map_nil, zAC, zAa, ioOf, List.length_cons, List.length_nil, Nat.reduceAdd, Nat.reduceSub, List.replicate, List.cons_append, List.nil_append]
   try simp (maxSteps := 2000000) only [go_sem]
   repeat with_reducible refine zAc ?_
   try simp (maxSteps := 2000000) only [go_sem, hSl, e1, e2, hsv, htag, hnn, Bool.not_true, hv]
   repeat with_reducible refine zAc ?_
   refine zAb (by rfl) trivial (fun g1 => ?_) (fun g1 => ?_)
   ·cases g1
   try simp (maxSteps := 2000000) only [go_sem, hSl]
   repeat with_reducible refine zAc ?_
   refine zAm (fun j : Nat => [(9, .pv (iv j)), (6, .un), (39, .un), (50, .un)]) (fun j : Nat => x.tests.length - j) (fun j : Nat => j ≤ x.tests.length ∧ (x.tests.take j).all (fun t => tM d t n) = true) (0) ?_ ⟨Nat.zero_le _, rfl⟩ ?_
   focus (simp (maxSteps := 2000000) only [go_sem, zAe, zAj, zAt, zAf]; all_goals (repeat' (first | exact trivial | exact zAk (by omega) | exact zAg rfl | exact zAq rfl | exact zAl | exact le_refl _ | refine And.intro ?_ ?_)))
   rintro j ⟨hj, hall⟩
   try simp (maxSteps := 2000000) only [go_sem]
   repeat with_reducible refine zAc ?_
   refine zAb (by rfl) trivial (fun g2 => ?_) (fun g2 => ?_)
   ·have hjl : j < x.tests.length := by simpa using g2
    have htv := zDD x.tests j hjl
    have hall2 := zH0 (p := fun t => tM d t n) (default : Ts) hjl
    have hnot := zKF (p := fun t => tM d t n) (d := (default : Ts)) hjl
    obtain ⟨t, ht⟩ : ∃ t, t = x.tests.getD j default := ⟨_, rfl⟩
    have htm : t ∈ x.tests := by rw [ht, List.getD_eq_getElem?_getD, List.getElem?_eq_getElem hjl]; exact List.getElem_mem hjl
    rw [← ht] at htv hall2 hnot
    have hc := hxT t htm n hn
    rw [zDM] at htv hc
    try simp (maxSteps := 2000000) only [go_sem, htv]
    repeat with_reducible refine zAc ?_
    refine zAh (by repeat' constructor) (hc) ?_
    try simp (maxSteps := 2000000) only [go_sem]
    repeat with_reducible refine zAc ?_
    refine zAb (by rfl) trivial (fun g3 => ?_) (fun g3 => ?_)
    ·try simp (maxSteps := 2000000) only [go_sem]
     repeat with_reducible refine zAc ?_
     have e : tM d t n = false := by simpa using g3
     exact zAd rfl trivial (.inl (by rw [hnot e]; simp))
    ·try simp (maxSteps := 2000000) only [go_sem]
     repeat with_reducible refine zAc ?_
     have e : tM d t n = true := by simpa using g3
     refine ⟨j + 1, by omega, ⟨by omega, by rw [hall2, hall, e]; rfl⟩, ?_⟩
     simp (maxSteps := 2000000) only [go_sem, zAe, zAj, zAt, zAf]
     all_goals (repeat' (first | exact trivial | exact zAk (by omega) | exact zAg rfl | exact zAq rfl | exact zAl | exact le_refl _ | refine And.intro ?_ ?_))
   ·have hjl : j = x.tests.length := by simp at g2; omega
    rw [hjl, List.take_length] at hall
    try simp (maxSteps := 2000000) only [go_sem, hSl]
    repeat with_reducible refine zAc ?_
    refine zAb (by rfl) trivial (fun g4 => ?_) (fun g4 => ?_)
    ·try simp (maxSteps := 2000000) only [go_sem]
     repeat with_reducible refine zAc ?_
     exact zAd rfl trivial (.inl (by rw [hall]; simp [htag]))
    ·exact absurd g4 (by simp)
  ·have htb : (x.tag == ([] : Bys)) = false := by simpa using htag
   refine mkA zCc (base := 0) (fo rfl) (fun hfit => ?_)
   unfold F0 zBU
   simp (maxSteps := 2000000) only [zAD, List.set_cons_succ, List.set_cons_zero, List.map_cons, List.map_nil, zAC, zAa, ioOf, List.length_cons, List.length_nil, Nat.reduceAdd, Nat.reduceSub, List.replicate, List.cons_append, List.nil_append]
   try simp (maxSteps := 2000000) only [go_sem]
   repeat with_reducible refine zAc ?_
   try simp (maxSteps := 2000000) only [go_sem, hSl, e1, e2, hsv, htb, Bool.not_false, hv]
   repeat with_reducible refine zAc ?_
   refine zAb (by rfl) trivial (fun g1 => ?_) (fun g1 => ?_)
   ·try simp (maxSteps := 2000000) only [go_sem]
    repeat with_reducible refine zAc ?_
    have htg : x.tag ≠ nd.tag := by simpa using g1
    exact zAd rfl trivial (.inl (by simp [htag, htg]))
   have htg : x.tag = nd.tag := by simpa using g1
   try simp (maxSteps := 2000000) only [go_sem, hSl]
   repeat with_reducible refine zAc ?_
   refine zAm (fun j : Nat => [(9, .pv (iv j)), (6, .un), (39, .un), (50, .un)]) (fun j : Nat => x.tests.length - j) (fun j : Nat => j ≤ x.tests.length ∧ (x.tests.take j).all (fun t => tM d t n) = true) (0) ?_ ⟨Nat.zero_le _, rfl⟩ ?_
   focus (simp (maxSteps := 2000000) only [go_sem, zAe, zAj, zAt, zAf]; all_goals (repeat' (first | exact trivial | exact zAk (by omega) | exact zAg rfl | exact zAq rfl | exact zAl | exact le_refl _ | refine And.intro ?_ ?_)))
   rintro j ⟨hj, hall⟩
   try simp (maxSteps := 2000000) only [go_sem]
   repeat with_reducible refine zAc ?_
   refine zAb (by rfl) trivial (fun g2 => ?_) (fun g2 => ?_)
   ·have hjl : j < x.tests.length := by simpa using g2
    have htv := zDD x.tests j hjl
    have hall2 := zH0 (p := fun t => tM d t n) (default : Ts) hjl
    have hnot := zKF (p := fun t => tM d t n) (d := (default : Ts)) hjl
    obtain ⟨t, ht⟩ : ∃ t, t = x.tests.getD j default := ⟨_, rfl⟩
    have htm : t ∈ x.tests := by rw [ht, List.getD_eq_getElem?_getD, List.getElem?_eq_getElem hjl]; exact List.getElem_mem hjl
    rw [← ht] at htv hall2 hnot
    have hc := hxT t htm n hn
    rw [zDM] at htv hc
    try simp (maxSteps := 2000000) only [go_sem, htv]
    repeat with_reducible refine zAc ?_
    refine zAh (by repeat' constructor) (hc) ?_
    try simp (maxSteps := 2000000) only [go_sem]
    repeat with_reducible refine zAc ?_
    refine zAb (by rfl) trivial (fun g3 => ?_) (fun g3 => ?_)
    ·try simp (maxSteps := 2000000) only [go_sem]
     repeat with_reducible refine zAc ?_
     have e : tM d t n = false := by simpa using g3
     exact zAd rfl trivial (.inl (by rw [hnot e]; simp))
    ·try simp (maxSteps := 2000000) only [go_sem]
     repeat with_reducible refine zAc ?_
     have e : tM d t n = true := by simpa using g3
     refine ⟨j + 1, by omega, ⟨by omega, by rw [hall2, hall, e]; rfl⟩, ?_⟩
     simp (maxSteps := 2000000) only [go_sem, zAe, zAj, zAt, zAf]
     all_goals (repeat' (first | exact trivial | exact zAk (by omega) | exact zAg rfl | exact zAq rfl | exact zAl | exact le_refl _ | refine And.intro ?_ ?_))
   ·have hjl : j = x.tests.length := by simp at g2; omega
    rw [hjl, List.take_length] at hall
    try simp (maxSteps := 2000000) only [go_sem, hSl]
    repeat with_reducible refine zAc ?_
    refine zAb (by rfl) trivial (fun g4 => ?_) (fun g4 => ?_)
    ·try simp (maxSteps := 2000000) only [go_sem]
     repeat with_reducible refine zAc ?_
     exact zAd rfl trivial (.inl (by rw [hall]; simp [htg]))
    ·exact absurd g4 (by simp)
 | succ k ih =>
  intro hk n hn
  have hv := zA1 d n hn
  rw [ndV] at hv
  obtain ⟨S, hS⟩ : ∃ S, S = p.steps.take (k + 1 + 1) := ⟨_, rfl⟩
  have hSl : S.length = k + 2 := by rw [hS, List.length_take]; omega
  have hst : S.getD (k + 1) default = p.steps.getD (k + 1) default := by rw [hS]; exact zJn (by omega)
  have hsv := zEe S (k + 1) (by omega)
  rw [hst] at hsv
  obtain ⟨x, hx⟩ : ∃ x, x = p.steps.getD (k + 1) default := ⟨_, rfl⟩
  rw [← hx, zGo] at hsv
  have hmem : x ∈ p.steps := by rw [hx, List.getD_eq_getElem?_getD, List.getElem?_eq_getElem hk]; exact List.getElem_mem hk
  obtain ⟨hx6, hxT⟩ := hT x hmem
  obtain ⟨L, hL⟩ : ∃ L, L = p.links.take (k + 1) := ⟨_, rfl⟩
  have hLl : L.length = k + 1 := by rw [hL, List.length_take]; omega
  have hlv := zEx L k (by omega)
  have hlg : L.getD k 0 = p.links.getD k 0 := by rw [hL]; exact zJn (by omega)
  rw [hlg] at hlv
  have hS2 : (zLd S).take (k + 1) = zLd (p.steps.take (k + 1)) := by rw [yBJ, hS, List.take_take]; congr 2; omega
  have hL2 : (zBB L).take k = zBB (p.links.take k) := by rw [zZt, hL, List.take_take]; congr 2; omega
  have hpm : zBN d (p.steps.map (sM d)) p.links (k + 1) n = (sM d x n && (List.range n).any fun m => zDa d (p.links.getD k 0) m n && zBN d (p.steps.map (sM d)) p.links k m) := by
   rw [zBN]
   have e : (p.steps.map (sM d)).getD (k + 1) (fun _ => false) = sM d x := by
    rw [hx]
    simp [List.getD_eq_getElem?_getD, hk]
   rw [e]
  rw [hpm, yF9, ← hS, ← hL]
  have e1 : (((k + 2 : Nat) : Int) - 1).toNat = k + 1 := by omega
  have e2 : (((k + 2 : Nat) : Int) - 1) = ((k + 1 : Nat) : Int) := by omega
  have e3 : (((k + 1 : Nat) : Int) - 1).toNat = k := by omega
  obtain ⟨nd, hnd⟩ : ∃ nd, nd = d.getD n default := ⟨_, rfl⟩
  rw [← hnd] at hv ⊢
  unfold zCx at hxT ih ⊢
  by_cases htag : x.tag = []
  ·refine mkA zCc (base := 0) (fo rfl) (fun hfit => ?_)
   unfold F0 zBU
   simp (maxSteps := 2000000) only [zAD, List.set_cons_succ, List.set_cons_zero, List.map_cons, List.map_nil, zAC, zAa, ioOf, List.length_cons, List.length_nil, Nat.reduceAdd, Nat.reduceSub, List.replicate, List.cons_append, List.nil_append]
   try simp (maxSteps := 2000000) only [go_sem]
   repeat with_reducible refine zAc ?_
   try simp (maxSteps := 2000000) only [go_sem, hSl, e1, e2, hsv, htag, hnn, Bool.not_true, hv]
   repeat with_reducible refine zAc ?_
   refine zAb (by rfl) trivial (fun g1 => ?_) (fun g1 => ?_)
   ·cases g1
   try simp (maxSteps := 2000000) only [go_sem, hSl]
   repeat with_reducible refine zAc ?_
   refine zAm (fun j : Nat => [(9, .pv (iv j)), (6, .un), (39, .un), (50, .un)]) (fun j : Nat => x.tests.length - j) (fun j : Nat => j ≤ x.tests.length ∧ (x.tests.take j).all (fun t => tM d t n) = true) (0) ?_ ⟨Nat.zero_le _, rfl⟩ ?_
   focus (simp (maxSteps := 2000000) only [go_sem, zAe, zAj, zAt, zAf]; all_goals (repeat' (first | exact trivial | exact zAk (by omega) | exact zAg rfl | exact zAq rfl | exact zAl | exact le_refl _ | refine And.intro ?_ ?_)))
   rintro j ⟨hj, hall⟩
   try simp (maxSteps := 2000000) only [go_sem]
   repeat with_reducible refine zAc ?_
   refine zAb (by rfl) trivial (fun g2 => ?_) (fun g2 => ?_)
   ·have hjl : j < x.tests.length := by simpa using g2
    have htv := zDD x.tests j hjl
    have hall2 := zH0 (p := fun t => tM d t n) (default : Ts) hjl
    have hnot := zKF (p := fun t => tM d t n) (d := (default : Ts)) hjl
    obtain ⟨t, ht⟩ : ∃ t, t = x.tests.getD j default := ⟨_, rfl⟩
    have htm : t ∈ x.tests := by rw [ht, List.getD_eq_getElem?_getD, List.getElem?_eq_getElem hjl]; exact List.getElem_mem hjl
    rw [← ht] at htv hall2 hnot
    have hc := hxT t htm n hn
    rw [zDM] at htv hc
    try simp (maxSteps := 2000000) only [go_sem, htv]
    repeat with_reducible refine zAc ?_
    refine zAh (by repeat' constructor) (hc) ?_
    try simp (maxSteps := 2000000) only [go_sem]
    repeat with_reducible refine zAc ?_
    refine zAb (by rfl) trivial (fun g3 => ?_) (fun g3 => ?_)
    ·try simp (maxSteps := 2000000) only [go_sem]
     repeat with_reducible refine zAc ?_
     have e : tM d t n = false := by simpa using g3
     exact zAd rfl trivial (.inl (by rw [hnot e]; simp))
    ·try simp (maxSteps := 2000000) only [go_sem]
     repeat with_reducible refine zAc ?_
     have e : tM d t n = true := by simpa using g3
     refine ⟨j + 1, by omega, ⟨by omega, by rw [hall2, hall, e]; rfl⟩, ?_⟩
     simp (maxSteps := 2000000) only [go_sem, zAe, zAj, zAt, zAf]
     all_goals (repeat' (first | exact trivial | exact zAk (by omega) | exact zAg rfl | exact zAq rfl | exact zAl | exact le_refl _ | refine And.intro ?_ ?_))
   ·have hjl : j = x.tests.length := by simp at g2; omega
    rw [hjl, List.take_length] at hall
    try simp (maxSteps := 2000000) only [go_sem, hSl]
    repeat with_reducible refine zAc ?_
    refine zAb (by rfl) trivial (fun g4 => ?_) (fun g4 => ?_)
    ·exact absurd g4 (by simp; omega)
    try simp (maxSteps := 2000000) only [go_sem, hSl, hLl, e1, e2, e3, hS2, hL2]
    repeat with_reducible refine zAc ?_
    refine zAm (fun m : Nat => [(11, .pv (iv m)), (6, .un), (65, .un), (83, .un)]) (fun m : Nat => n - m) (fun m : Nat => m ≤ n ∧ (List.range m).any (fun m => zDa d (p.links.getD k 0) m n && zBN d (p.steps.map (sM d)) p.links k m) = false) (0) ?_ ⟨Nat.zero_le _, rfl⟩ ?_
    focus (simp (maxSteps := 2000000) only [go_sem, zAe, zAj, zAt, zAf]; all_goals (repeat' (first | exact trivial | exact zAk (by omega) | exact zAg rfl | exact zAq rfl | exact zAl | exact le_refl _ | refine And.intro ?_ ?_)))
    rintro m ⟨hm, hw⟩
    try simp (maxSteps := 2000000) only [go_sem]
    repeat with_reducible refine zAc ?_
    refine zAb (by rfl) trivial (fun g5 => ?_) (fun g5 => ?_)
    ·have hml : m < n := by simpa using g5
     have hsucc := zCF (p := fun m => zDa d (p.links.getD k 0) m n && zBN d (p.steps.map (sM d)) p.links k m) (n := m)
     have hin : (zDa d (p.links.getD k 0) m n && zBN d (p.steps.map (sM d)) p.links k m) = true → (List.range n).any (fun m => zDa d (p.links.getD k 0) m n && zBN d (p.steps.map (sM d)) p.links k m) = true := fun h => List.any_eq_true.2 ⟨m, List.mem_range.2 hml, h⟩
     have hr := zKE d hd hl (p.links.getD k 0) m n hn
     unfold zCx at hr
     have hih := ih (by omega) m (by omega)
     try simp (maxSteps := 2000000) only [go_sem, hLl, e2, e3, hlv]
     repeat with_reducible refine zAc ?_
     cases hb : zDa d (p.links.getD k 0) m n with
     | false =>
      rw [hb] at hr hin hsucc
      refine zAh (by repeat' constructor) (hr) ?_
      try simp (maxSteps := 2000000) only [go_sem]
      repeat with_reducible refine zAc ?_
      refine zKG (by rfl) ?_
      try simp (maxSteps := 2000000) only [go_sem]
      repeat with_reducible refine zAc ?_
      refine zAb (by rfl) trivial (fun g6 => ?_) (fun g6 => ?_)
      ·simp at g6
      ·try simp (maxSteps := 2000000) only [go_sem]
       repeat with_reducible refine zAc ?_
       refine ⟨m + 1, by omega, ⟨by omega, by rw [hsucc, hw]; rfl⟩, ?_⟩
       simp (maxSteps := 2000000) only [go_sem, zAe, zAj, zAt, zAf]
       all_goals (repeat' (first | exact trivial | exact zAk (by omega) | exact zAg rfl | exact zAq rfl | exact zAl | exact le_refl _ | refine And.intro ?_ ?_))
     | true =>
      rw [hb] at hr hin hsucc
      refine zAh (by repeat' constructor) (hr) ?_
      try simp (maxSteps := 2000000) only [go_sem]
      repeat with_reducible refine zAc ?_
      apply zAo (h2 := fun _ => hih)
      ·(simp (maxSteps := 2000000) only [go_sem]; rfl)
      ·intro h; repeat' (first | exact trivial | exact h | refine And.intro ?_ ?_)
      try simp (maxSteps := 2000000) only [go_sem]
      repeat with_reducible refine zAc ?_
      refine zAb (by rfl) trivial (fun g6 => ?_) (fun g6 => ?_)
      ·try simp (maxSteps := 2000000) only [go_sem]
       repeat with_reducible refine zAc ?_
       have e : zBN d (p.steps.map (sM d)) p.links k m = true := by simpa using g6
       exact zAd rfl trivial (.inl (by rw [hall, hin (by rw [e]; rfl)]; simp [htag]))
      ·try simp (maxSteps := 2000000) only [go_sem]
       repeat with_reducible refine zAc ?_
       have e : zBN d (p.steps.map (sM d)) p.links k m = false := by simpa using g6
       refine ⟨m + 1, by omega, ⟨by omega, by rw [hsucc, hw, e]; rfl⟩, ?_⟩
       simp (maxSteps := 2000000) only [go_sem, zAe, zAj, zAt, zAf]
       all_goals (repeat' (first | exact trivial | exact zAk (by omega) | exact zAg rfl | exact zAq rfl | exact zAl | exact le_refl _ | refine And.intro ?_ ?_))
    ·try simp (maxSteps := 2000000) only [go_sem]
     repeat with_reducible refine zAc ?_
     have hml : m = n := by simp at g5; omega
     rw [hml] at hw
     exact zAd rfl trivial (.inl (by rw [hw]; simp))
  ·have htb : (x.tag == ([] : Bys)) = false := by simpa using htag
   refine mkA zCc (base := 0) (fo rfl) (fun hfit => ?_)
   unfold F0 zBU
   simp (maxSteps := 2000000) only [zAD, List.set_cons_succ, List.set_cons_zero, List.map_cons, List.map_nil, zAC, zAa, ioOf, List.length_cons, List.length_nil, Nat.reduceAdd, Nat.reduceSub, List.replicate, List.cons_append, List.nil_append]
   try simp (maxSteps := 2000000) only [go_sem]
   repeat with_reducible refine zAc ?_
   try simp (maxSteps := 2000000) only [go_sem, hSl, e1, e2, hsv, htb, Bool.not_false, hv]
   repeat with_reducible refine zAc ?_
   refine zAb (by rfl) trivial (fun g1 => ?_) (fun g1 => ?_)
   ·try simp (maxSteps := 2000000) only [go_sem]
    repeat with_reducible refine zAc ?_
    have htg : x.tag ≠ nd.tag := by simpa using g1
    exact zAd rfl trivial (.inl (by simp [htag, htg]))
   have htg : x.tag = nd.tag := by simpa using g1
   try simp (maxSteps := 2000000) only [go_sem, hSl]
   repeat with_reducible refine zAc ?_
   refine zAm (fun j : Nat => [(9, .pv (iv j)), (6, .un), (39, .un), (50, .un)]) (fun j : Nat => x.tests.length - j) (fun j : Nat => j ≤ x.tests.length ∧ (x.tests.take j).all (fun t => tM d t n) = true) (0) ?_ ⟨Nat.zero_le _, rfl⟩ ?_
   focus (simp (maxSteps := 2000000) only [go_sem, zAe, zAj, zAt, zAf]; all_goals (repeat' (first | exact trivial | exact zAk (by omega) | exact zAg rfl | exact zAq rfl | exact zAl | exact le_refl _ | refine And.intro ?_ ?_)))
   rintro j ⟨hj, hall⟩
   try simp (maxSteps := 2000000) only [go_sem]
   repeat with_reducible refine zAc ?_
   refine zAb (by rfl) trivial (fun g2 => ?_) (fun g2 => ?_)
   ·have hjl : j < x.tests.length := by simpa using g2
    have htv := zDD x.tests j hjl
    have hall2 := zH0 (p := fun t => tM d t n) (default : Ts) hjl
    have hnot := zKF (p := fun t => tM d t n) (d := (default : Ts)) hjl
    obtain ⟨t, ht⟩ : ∃ t, t = x.tests.getD j default := ⟨_, rfl⟩
    have htm : t ∈ x.tests := by rw [ht, List.getD_eq_getElem?_getD, List.getElem?_eq_getElem hjl]; exact List.getElem_mem hjl
    rw [← ht] at htv hall2 hnot
    have hc := hxT t htm n hn
    rw [zDM] at htv hc
    try simp (maxSteps := 2000000) only [go_sem, htv]
    repeat with_reducible refine zAc ?_
    refine zAh (by repeat' constructor) (hc) ?_
    try simp (maxSteps := 2000000) only [go_sem]
    repeat with_reducible refine zAc ?_
    refine zAb (by rfl) trivial (fun g3 => ?_) (fun g3 => ?_)
    ·try simp (maxSteps := 2000000) only [go_sem]
     repeat with_reducible refine zAc ?_
     have e : tM d t n = false := by simpa using g3
     exact zAd rfl trivial (.inl (by rw [hnot e]; simp))
    ·try simp (maxSteps := 2000000) only [go_sem]
     repeat with_reducible refine zAc ?_
     have e : tM d t n = true := by simpa using g3
     refine ⟨j + 1, by omega, ⟨by omega, by rw [hall2, hall, e]; rfl⟩, ?_⟩
     simp (maxSteps := 2000000) only [go_sem, zAe, zAj, zAt, zAf]
     all_goals (repeat' (first | exact trivial | exact zAk (by omega) | exact zAg rfl | exact zAq rfl | exact zAl | exact le_refl _ | refine And.intro ?_ ?_))
   ·have hjl : j = x.tests.length := by simp at g2; omega
    rw [hjl, List.take_length] at hall
    try simp (maxSteps := 2000000) only [go_sem, hSl]
    repeat with_reducible refine zAc ?_
    refine zAb (by rfl) trivial (fun g4 => ?_) (fun g4 => ?_)
    ·exact absurd g4 (by simp; omega)
    try simp (maxSteps := 2000000) only [go_sem, hSl, hLl, e1, e2, e3, hS2, hL2]
    repeat with_reducible refine zAc ?_
    refine zAm (fun m : Nat => [(11, .pv (iv m)), (6, .un), (65, .un), (83, .un)]) (fun m : Nat => n - m) (fun m : Nat => m ≤ n ∧ (List.range m).any (fun m => zDa d (p.links.getD k 0) m n && zBN d (p.steps.map (sM d)) p.links k m) = false) (0) ?_ ⟨Nat.zero_le _, rfl⟩ ?_
    focus (simp (maxSteps := 2000000) only [go_sem, zAe, zAj, zAt, zAf]; all_goals (repeat' (first | exact trivial | exact zAk (by omega) | exact zAg rfl | exact zAq rfl | exact zAl | exact le_refl _ | refine And.intro ?_ ?_)))
    rintro m ⟨hm, hw⟩
    try simp (maxSteps := 2000000) only [go_sem]
    repeat with_reducible refine zAc ?_
    refine zAb (by rfl) trivial (fun g5 => ?_) (fun g5 => ?_)
    ·have hml : m < n := by simpa using g5
     have hsucc := zCF (p := fun m => zDa d (p.links.getD k 0) m n && zBN d (p.steps.map (sM d)) p.links k m) (n := m)
     have hin : (zDa d (p.links.getD k 0) m n && zBN d (p.steps.map (sM d)) p.links k m) = true → (List.range n).any (fun m => zDa d (p.links.getD k 0) m n && zBN d (p.steps.map (sM d)) p.links k m) = true := fun h => List.any_eq_true.2 ⟨m, List.mem_range.2 hml, h⟩
     have hr := zKE d hd hl (p.links.getD k 0) m n hn
     unfold zCx at hr
     have hih := ih (by omega) m (by omega)
     try simp (maxSteps := 2000000) only [go_sem, hLl, e2, e3, hlv]
     repeat with_reducible refine zAc ?_
     cases hb : zDa d (p.links.getD k 0) m n with
     | false =>
      rw [hb] at hr hin hsucc
      refine zAh (by repeat' constructor) (hr) ?_
      try simp (maxSteps := 2000000) only [go_sem]
      repeat with_reducible refine zAc ?_
      refine zKG (by rfl) ?_
      try simp (maxSteps := 2000000) only [go_sem]
      repeat with_reducible refine zAc ?_
      refine zAb (by rfl) trivial (fun g6 => ?_) (fun g6 => ?_)
      ·simp at g6
      ·try simp (maxSteps := 2000000) only [go_sem]
       repeat with_reducible refine zAc ?_
       refine ⟨m + 1, by omega, ⟨by omega, by rw [hsucc, hw]; rfl⟩, ?_⟩
       simp (maxSteps := 2000000) only [go_sem, zAe, zAj, zAt, zAf]
       all_goals (repeat' (first | exact trivial | exact zAk (by omega) | exact zAg rfl | exact zAq rfl | exact zAl | exact le_refl _ | refine And.intro ?_ ?_))
     | true =>
      rw [hb] at hr hin hsucc
      refine zAh (by repeat' constructor) (hr) ?_
      try simp (maxSteps := 2000000) only [go_sem]
      repeat with_reducible refine zAc ?_
      apply zAo (h2 := fun _ => hih)
      ·(simp (maxSteps := 2000000) only [go_sem]; rfl)
      ·intro h; repeat' (first | exact trivial | exact h | refine And.intro ?_ ?_)
      try simp (maxSteps := 2000000) only [go_sem]
      repeat with_reducible refine zAc ?_
      refine zAb (by rfl) trivial (fun g6 => ?_) (fun g6 => ?_)
      ·try simp (maxSteps := 2000000) only [go_sem]
       repeat with_reducible refine zAc ?_
       have e : zBN d (p.steps.map (sM d)) p.links k m = true := by simpa using g6
       exact zAd rfl trivial (.inl (by rw [hall, hin (by rw [e]; rfl)]; simp [htg]))
      ·try simp (maxSteps := 2000000) only [go_sem]
       repeat with_reducible refine zAc ?_
       have e : zBN d (p.steps.map (sM d)) p.links k m = false := by simpa using g6
       refine ⟨m + 1, by omega, ⟨by omega, by rw [hsucc, hw, e]; rfl⟩, ?_⟩
       simp (maxSteps := 2000000) only [go_sem, zAe, zAj, zAt, zAf]
       all_goals (repeat' (first | exact trivial | exact zAk (by omega) | exact zAg rfl | exact zAq rfl | exact zAl | exact le_refl _ | refine And.intro ?_ ?_))
    ·try simp (maxSteps := 2000000) only [go_sem]
     repeat with_reducible refine zAc ?_
     have hml : m = n := by simp at g5; omega
     rw [hml] at hw
     exact zAd rfl trivial (.inl (by rw [hw]; simp))
end Go.Hx
end

section
set_option maxRecDepth 100000
set_option linter.unusedSimpArgs false
namespace Go.Hx
open Go.Proofs
variable [Glob]
attribute [local go_sem] zAx zAy zAw zAs ndV zAv zAp zCx List.take_nil zBd
attribute [local go_sem] reduceCtorEq Nat.reduceAdd Nat.reduceEqDiff reduceIte Nat.reduceLeDiff Nat.reduceLT Nat.reduceSub
theorem zXu (d : List Nd) (hl : d.length ≤ 64) (l : List Pt) (hl5 : l.length ≤ 64)
  (hP : ∀ p ∈ l, ∀ n : Nat, n < d.length → Contract Tryz.prog zBI [.val (zCx d), .val (.agg (ptV p)), .val (iv n)] { res := .val (bv (pM d p n)) }) (n : Nat) (hn : n < d.length) :
  Contract Tryz.prog zAI [.val (zCx d), .val (zAM l), .val (iv n)] { res := .val (bv (lM d l n)) } := by
 rw [yCH]
 unfold zAM
 unfold zCx at hP ⊢
 refine mkA zNs (base := 0) (fo rfl) (fun hfit => ?_)
 unfold F0 zG9
 simp (maxSteps := 2000000) only [zAD, List.set_cons_succ, List.set_cons_zero, List.map_cons, List.map_nil, zAC, zAa, ioOf, List.length_cons, List.length_nil, Nat.reduceAdd, Nat.reduceSub, List.replicate, List.cons_append, List.nil_append]
 try simp (maxSteps := 2000000) only [go_sem]
 repeat with_reducible refine zAc ?_
 refine zAm (fun i : Nat => [(7, .pv (iv i)), (6, .un), (11, .un), (20, .un)]) (fun i : Nat => l.length - i) (fun i : Nat => i ≤ l.length ∧ (l.take i).any (fun p => pM d p n) = false) (0) ?_ ⟨Nat.zero_le _, rfl⟩ ?_
 focus (simp (maxSteps := 2000000) only [go_sem, zAe, zAj, zAt, zAf]; all_goals (repeat' (first | exact trivial | exact zAk (by omega) | exact zAg rfl | exact zAq rfl | exact zAl | exact le_refl _ | refine And.intro ?_ ?_)))
 rintro i ⟨hi, hw⟩
 try simp (maxSteps := 2000000) only [go_sem]
 repeat with_reducible refine zAc ?_
 refine zAb (by rfl) trivial (fun g1 => ?_) (fun g1 => ?_)
 ·have hil : i < l.length := by simpa using g1
  have hv := zE3 l i hil
  have hsucc := zSN (p := fun p => pM d p n) (default : Pt) hil
  have hany := zXt (p := fun p => pM d p n) (d := (default : Pt)) hil
  obtain ⟨p, hp⟩ : ∃ p, p = l.getD i default := ⟨_, rfl⟩
  have hm : p ∈ l := by rw [hp, List.getD_eq_getElem?_getD, List.getElem?_eq_getElem hil]; exact List.getElem_mem hil
  rw [← hp] at hv hsucc hany
  have hc := hP p hm n hn
  rw [zD2] at hv hc
  try simp (maxSteps := 2000000) only [go_sem, hv]
  repeat with_reducible refine zAc ?_
  refine zAh (by repeat' constructor) (hc) ?_
  try simp (maxSteps := 2000000) only [go_sem]
  repeat with_reducible refine zAc ?_
  refine zAb (by rfl) trivial (fun g2 => ?_) (fun g2 => ?_)
  ·try simp (maxSteps := 2000000) only [go_sem]
   repeat with_reducible refine zAc ?_
   exact zAd rfl trivial (.inl (by rw [hany (by simpa using g2)]))
  ·try simp (maxSteps := 2000000) only [go_sem]
   repeat with_reducible refine zAc ?_
   refine ⟨i + 1, by omega, ⟨by omega, by rw [hsucc, hw]; simpa using g2⟩, ?_⟩
   simp (maxSteps := 2000000) only [go_sem, zAe, zAj, zAt, zAf]
   all_goals (repeat' (first | exact trivial | exact zAk (by omega) | exact zAg rfl | exact zAq rfl | exact zAl | exact le_refl _ | refine And.intro ?_ ?_))
 ·try simp (maxSteps := 2000000) only [go_sem]
  repeat with_reducible refine zAc ?_
  have hil : i = l.length := by simp at g1; omega
  rw [hil, List.take_length] at hw
  exact zAd rfl trivial (.inl (by rw [hw]))
theorem yCY : ∀ {l : List Pt} {e : Nat}, GPs l e → ∀ p ∈ l, GP p e := fun h p hp => by
 obtain ⟨i, hi, rfl⟩ := List.getElem_of_mem hp
 have := h.get i hi
 simpa [hi] using this
theorem yCZ : ∀ {l : List St} {e : Nat}, GSs l e → ∀ p ∈ l, GS p e := fun h p hp => by
 obtain ⟨i, hi, rfl⟩ := List.getElem_of_mem hp
 have := h.get i hi
 simpa [hi] using this
theorem yC0 : ∀ {l : List Ts} {e : Nat}, GTs l e → ∀ p ∈ l, GT p e := fun h p hp => by
 obtain ⟨i, hi, rfl⟩ := List.getElem_of_mem hp
 have := h.get i hi
 simpa [hi] using this
theorem zHc (d : List Nd) (hd : zCg d d.length = true) (hl : d.length ≤ 64) : ∀ (f e : Nat), e + f = 4 → ∀ l : List Pt, GL l e → ∀ n : Nat, n < d.length → Contract Tryz.prog zAI [.val (zCx d), .val (zAM l), .val (iv n)] { res := .val (bv (lM d l n)) }
 | 0, e, he, l, hg, n, hn => by exact absurd hg.1 (by omega)
 | f + 1, e, he, l, hg, n, hn => by
  have hl5 := hg.2.2.1
  refine zXu d hl l (by omega) (fun p hp n hn => ?_) n hn
  obtain ⟨p1, p2, p3, _, p5⟩ := (yCY hg.2.2.2 p hp).parts'
  have := zSb d hd hl p p1 p2 p3 (fun s hs => by
   obtain ⟨s1, s2⟩ := (yCZ p5 s hs).parts'
   refine ⟨s1, fun t ht n hn => ?_⟩
   have hgt := yC0 s2 t ht
   exact yCX d hd hl e t hgt (fun hk m hm => zHc d hd hl f (e + 1) (by omega) t.list (hgt.parts'.2 hk) m hm) n hn) (p.steps.length - 1) (by omega) n hn
  have e1 : p.steps.length - 1 + 1 = p.steps.length := by omega
  have e2 : p.steps.length - 1 = p.links.length := by omega
  rw [yHX, zD2]
  rw [e1, List.take_length] at this
  have e3 : p.links.take (p.steps.length - 1) = p.links := by rw [e2, List.take_length]
  rw [e3] at this
  exact this
theorem zEF (d : List Nd) (hd : zAA d = 0) (l : List Pt) (h : zBD l = 0) (n : Nat) (hn : n < d.length) : Contract Tryz.prog zAI [.val (zCx d), .val (zAM l), .val (iv n)] { res := .val (bv (lM d l n)) } := by
 obtain ⟨h1, h2, h3⟩ : 1 ≤ d.length ∧ d.length ≤ 64 ∧ zCg d d.length = true := by
  unfold zAA at hd
  split at hd
  ·rename_i h
   split at hd
   ·rename_i h'; exact ⟨h.1, h.2, h'⟩
   ·omega
  ·omega
 exact zHc d h3 h2 3 1 rfl l (yF8 h) n hn
end Go.Hx
end
