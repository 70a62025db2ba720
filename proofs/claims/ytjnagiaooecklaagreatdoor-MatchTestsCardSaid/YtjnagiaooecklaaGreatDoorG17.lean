/-
  Walks of functions of the program over an abstract layer, and the laws that they use: each contract says what the function computes, for every input that its conditions let by. No other condition.
-/
import Derived.Test.YtjnagiaooecklaaGreatDoorG16
import Derived.Test.YtjnagiaooecklaaGreatDoorG13
import Derived.Test.YtjnagiaooecklaaGreatDoorG10
set_option linter.all false
section
set_option maxRecDepth 100000
set_option linter.unusedSimpArgs false
set_option maxHeartbeats 2000000
namespace Go.Hx
open Go.Proofs
variable [Glob]
attribute [local go_sem] zAz zAA zAy zAt ndV zAw zAp zAU zBl zBz zBy zBp
attribute [local go_sem] reduceCtorEq Nat.reduceAdd Nat.reduceEqDiff reduceIte Nat.reduceLeDiff Nat.reduceLT Nat.reduceSub
theorem yAA {l : List (Bys × Bys)} {nm : Bys} (h : zYC (fun a => decide (a.1 = nm)) l < 0) : zC0 l nm = none := by
 unfold zYC at h
 have h2 : l.any (fun a => decide (a.1 = nm)) = false := by
  cases e : l.any (fun a => decide (a.1 = nm)) with
  | false => rfl
  | true => rw [e] at h; simp at h; omega
 unfold zC0
 have : l.find? (fun a => decide (a.1 = nm)) = none := by
  rw [List.find?_eq_none]
  intro x hx hp
  rw [List.any_eq_false] at h2
  exact h2 x hx hp
 rw [this]; rfl
theorem yAB {l : List (Bys × Bys)} {nm : Bys} (h : ¬ zYC (fun a => decide (a.1 = nm)) l < 0) : ∃ i : Nat, i < l.length ∧ zYC (fun a => decide (a.1 = nm)) l = i ∧ zC0 l nm = some (l.getD i default).2 := by
 unfold zYC at h ⊢
 have h2 : l.any (fun a => decide (a.1 = nm)) = true := by
  cases e : l.any (fun a => decide (a.1 = nm)) with
  | true => rfl
  | false => rw [e] at h; simp at h
 rw [if_pos h2]
 have h3 : l.findIdx (fun a => decide (a.1 = nm)) < l.length := List.findIdx_lt_length.2 (by simpa using h2)
 refine ⟨_, h3, rfl, ?_⟩
 unfold zC0
 rw [List.find?_eq_getElem?_findIdx, List.getElem?_eq_getElem h3]
 simp [h3]
theorem zYD (d : List Nd) : (zYA d).length = d.length := by simp [zYA]
theorem zYE (d : List Nd) (n : Nat) (h : n < d.length) : (zYA d).getD n [] = [bI (plc d n), bI (ofN d n), bI (ahd d n), bI (zCV d n), bI (zEy d n).length] := by simp [zYA, h]
theorem zJb (a : Bys × Bys) (nm : Bys) : Contract Tryz.prog zBY [.val (.agg [bS a.1, bS a.2]), .val (.one (.fp [bS nm]))] { res := .val (bv (decide (a.1 = nm))) } := by
 refine zHZ (base := 0) ⟨Nat.le_of_ble_eq_true rfl, Nat.le_of_ble_eq_true rfl, Nat.le_of_ble_eq_true rfl, rfl⟩ (fun hfit => ?_)
 unfold F0 zB6
 simp (maxSteps := 2000000) only [zAE, List.set_cons_succ, List.set_cons_zero, List.map_cons, List.map_nil, zAD, zAb, ioOf, List.length_cons, List.length_nil, Nat.reduceAdd, Nat.reduceSub, List.replicate, List.cons_append, List.nil_append]
 try simp (maxSteps := 2000000) only [go_sem]
 repeat with_reducible refine zAd ?_
 refine zAe rfl trivial (.inl ?_)
 congr 3
 rw [Bool.eq_iff_iff]; simp
theorem zLB (d : List Nd) (n : Nat) (hn : n < d.length) (nm : Bys) : Contract Tryz.prog zDe [.val (.one (zBp d)), .val (iv n), .val (sv nm)] { res := .tup [sv ((zC0 (d.getD n default).att nm).getD []), bv (zC0 (d.getD n default).att nm).isSome] } := by
 have hc := yAz zBY [.fp [bS nm]] (d.getD n default).att (fun a => decide (a.1 = nm)) (fun i hi => zJb _ nm)
 have e1 := zA5 d n hn
 obtain ⟨x, hx⟩ : ∃ x, x = d.getD n default := ⟨_, rfl⟩
 rw [← hx] at e1 hc ⊢
 refine zKb (base := 0) ⟨Nat.le_of_ble_eq_true rfl, Nat.le_of_ble_eq_true rfl, Nat.le_of_ble_eq_true rfl, rfl⟩ (fun hfit => ?_)
 unfold F0 zCy
 simp (maxSteps := 2000000) only [zAE, List.set_cons_succ, List.set_cons_zero, List.map_cons, List.map_nil, zAD, zAb, ioOf, List.length_cons, List.length_nil, Nat.reduceAdd, Nat.reduceSub, List.replicate, List.cons_append, List.nil_append]
 try simp (maxSteps := 2000000) only [go_sem]
 repeat with_reducible refine zAd ?_
 try simp (maxSteps := 2000000) only [go_sem, e1]
 repeat with_reducible refine zAd ?_
 refine zAi (by repeat' constructor) (hc) ?_
 try simp (maxSteps := 2000000) only [go_sem]
 repeat with_reducible refine zAd ?_
 refine zAc (by rfl) trivial (fun h => ?_) (fun h => ?_)
 ·have h' : zYC (fun a => decide (a.1 = nm)) x.att < 0 := by simpa using h
  rw [yAA h']
  try simp (maxSteps := 2000000) only [go_sem]
  repeat with_reducible refine zAd ?_
  exact zBI (by simp) ⟨zAR rfl trivial (.inl rfl), zAR rfl trivial (.inl rfl), rfl⟩
 ·have h' : ¬ zYC (fun a => decide (a.1 = nm)) x.att < 0 := by simpa using h
  obtain ⟨i, hi, h2, h3⟩ := yAB h'
  have e2 := zED x.att i hi
  rw [h3]
  rw [h2]
  try simp (maxSteps := 2000000) only [go_sem, e1, e2]
  repeat with_reducible refine zAd ?_
  exact zBI (by simp) ⟨zAR rfl trivial (.inl rfl), zAR rfl trivial (.inl rfl), rfl⟩
end Go.Hx
end

section
set_option maxRecDepth 100000
set_option linter.unusedSimpArgs false
set_option linter.unusedSectionVars false
namespace Go.Hx
open Go.Proofs
variable [Glob]
section
variable {d : List Nd} (hd : zCC d d.length = true)
include hd
theorem yD6 {k : Nat} (hk : k + 1 < d.length) : zA2 d (k + 1) ∈ C d k := by
 have h := zAS hd hk
 simp only [zWz, yDn, Bool.and_eq_true] at h
 have h2 := h.2
 rw [if_neg (by omega)] at h2
 have h3 : zA2 d (k + 1) ∈ zA7 d (k + 1) (((k + 1 : Nat) : Int) - 1) := by simpa using h2
 rw [show (((k + 1 : Nat) : Int) - 1) = k by omega] at h3
 unfold C
 rw [zEW d.length (k + 1) k (fun j hj => (zBe hd j (by omega)).2) (by omega) (by omega)]
 exact h3
theorem yHe {k : Nat} (h0 : 0 < k) (hk : k < d.length) : 0 ≤ zA2 d k := by
 obtain ⟨j, rfl⟩ : ∃ j, k = j + 1 := ⟨k - 1, by omega⟩
 exact (yHo hd (by omega) (yD6 hd hk)).1
theorem yFl (h : 0 < d.length) : zA2 d 0 = -1 := by
 have := zAS hd h
 simp only [zWz, yDn, Bool.and_eq_true] at this
 simpa using this.2
theorem yCE {n k : Nat} (hk : k + 1 < d.length) (hn : n < k) (h : (n : Int) ∈ C d (zA2 d (k + 1))) : (n : Int) ∈ C d (zA2 d k) := by
 have h1 := yHc hd k (by omega) (yD6 hd hk) h
 rw [zJn hd (by omega)] at h1
 rcases List.mem_cons.1 h1 with e | e
 ·omega
 ·exact e
theorem zYL {n k : Nat} (hk : k < d.length) (h : k ≤ n) : (n : Int) ∉ C d (zA2 d k) := by
 intro hx
 have := zBe hd k hk
 have := yHo hd (by omega) hx
 omega
theorem zQD {n m : Nat} (hm : m < d.length) (h : (n : Int) ∈ C d (zA2 d m)) : ∀ t k, m = k + t → n < k → (n : Int) ∈ C d (zA2 d k)
 | 0, k, e, _ => by rw [Nat.add_zero] at e; rw [← e]; exact h
 | t + 1, k, e, hk => yCE hd (by omega) hk (zQD hm h t (k + 1) (by omega) (by omega))
theorem zEm (n k : Nat) : zA0 d n (k + 1) = zA0 d n k + (if (n : Int) ∈ C d (zA2 d k) then 1 else 0) := by
 rw [zHQ]
 by_cases h : (n : Int) ∈ C d (zA2 d k)
 ·rw [if_pos h, if_pos (by simpa [C] using h)]
 ·rw [if_neg h, if_neg (by simpa [C] using h)]
theorem zKm {n : Nat} : ∀ k, k ≤ n + 1 → k ≤ d.length → zA0 d n k = 0
 | 0, _, _ => zYB d n
 | k + 1, h, hk => by rw [zEm hd, zKm k (by omega) (by omega), if_neg (zYL hd (by omega) (by omega))]; rfl
theorem zTf {n m : Nat} (hm : m < d.length) (h : ∀ k, n < k → k ≤ m → (n : Int) ∈ C d (zA2 d k)) : ∀ t, n + 1 + t ≤ m + 1 → zA0 d n (n + 1 + t) = t
 | 0, _ => zKm hd _ (by omega) (by omega)
 | t + 1, ht => by
  rw [show n + 1 + (t + 1) = (n + 1 + t) + 1 by omega, zEm hd, zTf hm h t (by omega), if_pos (h _ (by omega) (by omega))]
  omega
theorem zQE {n m : Nat} (hm : m < d.length) (hn : n < m) (h : (n : Int) ∉ C d (zA2 d m)) : ∀ t, m + t ≤ d.length → zA0 d n (m + t) = zA0 d n m
 | 0, _ => rfl
 | t + 1, ht => by
  rw [show m + (t + 1) = (m + t) + 1 by omega, zEm hd, zQE hm hn h t (by omega), if_neg fun hx => h (zQD hd (by omega) hx t m (by omega) hn)]
  omega
theorem zTg (n : Nat) : ∀ t k, zA0 d n k ≤ zA0 d n (k + t)
 | 0, k => Int.le_refl _
 | t + 1, k => by rw [show k + (t + 1) = (k + t) + 1 by omega, zEm hd]; have := zTg n t k; split <;> omega
theorem zIo {n : Nat} : ∀ t, n + 1 + t ≤ d.length → zA0 d n (n + 1 + t) ≤ t
 | 0, h => by rw [zKm hd _ (by omega) h]; exact Int.le_refl _
 | t + 1, h => by rw [show n + 1 + (t + 1) = (n + 1 + t) + 1 by omega, zEm hd]; have := zIo (n := n) t (by omega); split <;> omega
theorem zYM {n m : Nat} (hm : m < d.length) : zEx d n m = true ↔ n < m ∧ (m : Int) ≤ n + zCV d n := by
 have ha : zEx d n m = true ↔ (n : Int) ∈ C d (zA2 d m) := by unfold zEx C; simp
 rw [ha]
 constructor
 ·intro h
  have hnm : n < m := Classical.byContradiction fun hx => zYL hd hm (by omega) h
  refine ⟨hnm, ?_⟩
  have h1 := zTf hd hm (fun k hk hkm => zQD hd hm h (m - k) k (by omega) hk) (m - n) (by omega)
  have h2 := zTg hd n (d.length - (n + 1 + (m - n))) (n + 1 + (m - n))
  rw [show n + 1 + (m - n) + (d.length - (n + 1 + (m - n))) = d.length by omega, h1] at h2
  unfold zCV
  omega
 ·rintro ⟨hnm, h⟩
  apply Classical.byContradiction
  intro hx
  have h1 := zQE hd hm hnm hx (d.length - m) (by omega)
  rw [show m + (d.length - m) = d.length by omega] at h1
  have h2 := zIo hd (n := n) (m - n - 1) (by omega)
  rw [show n + 1 + (m - n - 1) = m by omega] at h2
  unfold zCV at h
  omega
theorem yCF (n : Nat) : 0 ≤ zCV d n ∧ zCV d n ≤ d.length := zEX _
end
theorem yD7 {d : List Nd} {n : Nat} (h : 0 < n) : zCD d n = zEy d (zA2 d n) := by
 unfold zCD; rw [if_neg (by omega)]; rfl
theorem zTh {d : List Nd} {n : Nat} : ∀ t, ∃ r, zAK d (zA2 d n) (n + 1 + t) = zAK d (zA2 d n) n ++ (n : Int) :: r ∧ ∀ x ∈ r, (n : Int) < x
 | 0 => ⟨[], by rw [Nat.add_zero, zAP, if_pos rfl], by simp⟩
 | t + 1 => by
  obtain ⟨r, h1, h2⟩ := zTh t
  rw [show n + 1 + (t + 1) = (n + 1 + t) + 1 by omega, zAP]
  split
  ·refine ⟨r ++ [((n + 1 + t : Nat) : Int)], by rw [h1]; simp, fun x hx => ?_⟩
   rcases List.mem_append.1 hx with hx | hx
   ·exact h2 x hx
   ·have : x = ((n + 1 + t : Nat) : Int) := by simpa using hx
    omega
  ·exact ⟨r, h1, h2⟩
theorem zII {d : List Nd} {u x : Int} : ∀ {k : Nat}, x ∈ zAK d u k → ∃ m : Nat, x = m ∧ m < k ∧ zA2 d m = u
 | 0, h => by rw [zLx] at h; cases h
 | k + 1, h => by
  rw [zAP] at h
  split at h
  ·rename_i he
   rcases List.mem_append.1 h with h | h
   ·obtain ⟨m, h1, h2, h3⟩ := zII h; exact ⟨m, h1, by omega, h3⟩
   ·exact ⟨k, by simpa using h, by omega, he⟩
  ·obtain ⟨m, h1, h2, h3⟩ := zII h; exact ⟨m, h1, by omega, h3⟩
theorem zKn {l r : List Int} {x : Int} (h : x ∉ l) : zAZ (l ++ x :: r) x = l.length := by
 unfold zAZ
 have h1 : l.findIdx? (fun y => decide (y = x)) = none := by
  rw [List.findIdx?_eq_none_iff]
  intro y hy
  simp only [decide_eq_false_iff_not]
  rintro rfl
  exact h hy
 rw [List.findIdx?_append, h1, List.findIdx?_cons]
 simp
theorem zQF {d : List Nd} {u : Int} {n : Nat} : (n : Int) ∉ zAK d u n := by
 intro h
 obtain ⟨m, h1, h2, _⟩ := zII h
 omega
section
variable {d : List Nd} (hd : zCC d d.length = true)
include hd
theorem zYN {n : Nat} (hn : n < d.length) (h0 : 0 < n) : ∃ r, zCD d n = zAK d (zA2 d n) n ++ (n : Int) :: r ∧ ∀ x ∈ r, (n : Int) < x := by
 obtain ⟨r, h1, h2⟩ := zTh (d := d) (n := n) (d.length - (n + 1))
 rw [show n + 1 + (d.length - (n + 1)) = d.length by omega] at h1
 exact ⟨r, by rw [yD7 h0]; exact h1, h2⟩
theorem yD8 {n : Nat} (hn : n < d.length) : plc d n = zAZ (zCD d n) n + 1 := by
 unfold plc
 by_cases h0 : n = 0
 ·subst h0
  have : zCD d 0 = [0] := rfl
  rw [this, zLx]; rfl
 ·obtain ⟨r, h1, _⟩ := zYN hd hn (by omega)
  rw [h1, zKn zQF]
theorem yHf {n : Nat} (hn : n < d.length) : ofN d n = (zCD d n).length := by
 unfold ofN
 by_cases h0 : n = 0
 ·subst h0
  rw [yFl hd (by omega)]; rfl
 ·rw [if_pos (yHe hd (by omega) hn), yD7 (by omega)]
theorem yD9 {n : Nat} : yBR d n = [] ↔ (zEy d n).length = 0 := by
 unfold yBR zEy zAK
 rw [List.length_map, List.length_eq_zero_iff]
end
end Go.Hx
end

section
set_option maxRecDepth 100000
set_option linter.unusedSimpArgs false
namespace Go.Hx
open Go.Proofs
variable [Glob]
attribute [local go_sem] zAz zAA zAy zAt ndV zAw
attribute [local go_sem] reduceCtorEq Nat.reduceAdd Nat.reduceEqDiff reduceIte Nat.reduceLeDiff Nat.reduceLT Nat.reduceSub
theorem zIq (s : Bys) : Contract Tryz.prog zEH [.val (sv s)] { res := .val (sv s) } := by
 refine zUl (base := 0) ⟨Nat.le_of_ble_eq_true rfl, Nat.le_of_ble_eq_true rfl, Nat.le_of_ble_eq_true rfl, rfl⟩ (fun hfit => ?_)
 unfold F0 zFF
 simp (maxSteps := 2000000) only [zAE, List.set_cons_succ, List.set_cons_zero, List.map_cons, List.map_nil, zAD, zAb, ioOf, List.length_cons, List.length_nil, Nat.reduceAdd, Nat.reduceSub, List.replicate, List.cons_append, List.nil_append]
 try simp (maxSteps := 2000000) only [go_sem]
 repeat with_reducible refine zAd ?_
 try simp (maxSteps := 2000000) only [go_sem]
 repeat with_reducible refine zAd ?_
 refine zAe rfl trivial (.inl ?_)
 congr 3
theorem zIr (a b : Bys) : Contract Tryz.prog zEI [.val (.agg [bS a, bS b])] { res := .val (sv a) } := by
 refine zUo (base := 0) ⟨Nat.le_of_ble_eq_true rfl, Nat.le_of_ble_eq_true rfl, Nat.le_of_ble_eq_true rfl, rfl⟩ (fun hfit => ?_)
 unfold F0 zFG
 simp (maxSteps := 2000000) only [zAE, List.set_cons_succ, List.set_cons_zero, List.map_cons, List.map_nil, zAD, zAb, ioOf, List.length_cons, List.length_nil, Nat.reduceAdd, Nat.reduceSub, List.replicate, List.cons_append, List.nil_append]
 try simp (maxSteps := 2000000) only [go_sem]
 repeat with_reducible refine zAd ?_
 try simp (maxSteps := 2000000) only [go_sem]
 repeat with_reducible refine zAd ?_
 refine zAe rfl trivial (.inl ?_)
 congr 3
theorem zYS (a b : Bys) : Contract Tryz.prog zDz [.val (.agg [bS a, bS b])] { res := .val (bv (!zCB b)) } := by
 refine zUr (base := 0) ⟨Nat.le_of_ble_eq_true rfl, Nat.le_of_ble_eq_true rfl, Nat.le_of_ble_eq_true rfl, rfl⟩ (fun hfit => ?_)
 unfold F0 zFH
 simp (maxSteps := 2000000) only [zAE, List.set_cons_succ, List.set_cons_zero, List.map_cons, List.map_nil, zAD, zAb, ioOf, List.length_cons, List.length_nil, Nat.reduceAdd, Nat.reduceSub, List.replicate, List.cons_append, List.nil_append]
 try simp (maxSteps := 2000000) only [go_sem]
 repeat with_reducible refine zAd ?_
 refine zAi (by repeat' constructor) (zQu _) ?_
 try simp (maxSteps := 2000000) only [go_sem]
 repeat with_reducible refine zAd ?_
 try simp (maxSteps := 2000000) only [go_sem]
 repeat with_reducible refine zAd ?_
 refine zAe rfl trivial (.inl ?_)
 congr 3
theorem yFo {l : List Bys} {i : Nat} : okC l (i + 1) = (okC l i && cOk l i) := zCZ
theorem zTj : ∀ {x y : Bys}, Op.bytesLess x y = true → Op.bytesLess y x = false
 | [], _, h => by rename_i y; cases y <;> rfl
 | a :: x, [], h => by simp [Op.bytesLess] at h
 | a :: x, b :: y, h => by
  simp only [Op.bytesLess, Bool.or_eq_true, Bool.and_eq_true, decide_eq_true_eq, beq_iff_eq] at h
  simp only [Op.bytesLess, Bool.or_eq_false_iff, Bool.and_eq_false_iff, decide_eq_false_iff_not, beq_eq_false_iff_ne]
  rcases h with h | ⟨rfl, h⟩
  ·exact ⟨UInt8.lt_asymm h, .inl (fun e => by subst e; exact UInt8.lt_irrefl _ h)⟩
  ·exact ⟨UInt8.lt_irrefl _, .inr (zTj h)⟩
theorem zTk : ∀ {x y : Bys}, Op.bytesLess x y = false → x ≠ y → Op.bytesLess y x = true
 | [], [], _, h => (h rfl).elim
 | [], b :: y, h, _ => by simp [Op.bytesLess] at h
 | a :: x, [], _, _ => rfl
 | a :: x, b :: y, h, hn => by
  simp only [Op.bytesLess, Bool.or_eq_false_iff, Bool.and_eq_false_iff, decide_eq_false_iff_not, beq_eq_false_iff_ne] at h
  simp only [Op.bytesLess, Bool.or_eq_true, Bool.and_eq_true, decide_eq_true_eq, beq_iff_eq]
  obtain ⟨h1, h2⟩ := h
  by_cases e : a = b
  ·subst e
   refine .inr ⟨rfl, zTk (h2.resolve_left (fun h => h rfl)) (fun e => hn (by rw [e]))⟩
  ·refine .inl ?_
   have h3 : b ≤ a := UInt8.not_lt.1 h1
   exact UInt8.lt_of_le_of_ne h3 (Ne.symm e)
theorem zTl {x y : Bys} : (Op.bytesLess x y || x == y) = !Op.bytesLess y x := by
 cases h : Op.bytesLess y x with
 | true =>
  have h1 := zTj h
  have : ¬ x = y := fun e => by subst e; rw [h1] at h; cases h
  simp [h1, this]
 | false =>
  by_cases e : x = y
  ·subst e; simp
  ·simp [zTk h (Ne.symm e)]
theorem zLK (l : List Bys) : Contract Tryz.prog zDc [.val (.one (.sl 1 (zTU l))), .val (.one (.clo zEH []))] { res := .val (bv (okC l l.length)) } := by
 refine zJE (base := 0) ⟨Nat.le_of_ble_eq_true rfl, Nat.le_of_ble_eq_true rfl, Nat.le_of_ble_eq_true rfl, rfl⟩ (fun hfit => ?_)
 unfold F0 zCw
 simp (maxSteps := 2000000) only [zAE, List.set_cons_succ, List.set_cons_zero, List.map_cons, List.map_nil, zAD, zAb, ioOf, List.length_cons, List.length_nil, Nat.reduceAdd, Nat.reduceSub, List.replicate, List.cons_append, List.nil_append]
 try simp (maxSteps := 2000000) only [go_sem]
 repeat with_reducible refine zAd ?_
 have hm := zFZ (k := 1) hfit.1
 rw [zAA] at hm
 refine zAn (fun i : Nat => [(5, .pv (sv (if i = 0 then [] else l.getD (i - 1) []))), (7, .un), (10, .pv (iv i)), (11, .un), (25, .un)]) (fun i : Nat => l.length - i) (fun i : Nat => i ≤ l.length ∧ okC l i = true) (0) ?_ ⟨Nat.zero_le _, rfl⟩ ?_
 focus (simp (maxSteps := 2000000) only [go_sem, zAf, zAk, zAu, zAg]; all_goals (repeat' (first | exact trivial | exact zAl (by omega) | exact zAh rfl | exact zAs rfl | exact zAm | exact le_refl _ | refine And.intro ?_ ?_)))
 intro i ⟨hi, hok⟩
 try simp (maxSteps := 2000000) only [go_sem]
 repeat with_reducible refine zAd ?_
 refine zAc (by rfl) trivial (fun h => ?_) (fun h => ?_)
 ·have hlt : i < l.length := by simpa using h
  try simp (maxSteps := 2000000) only [go_sem, zIA _ _ hlt]
  repeat with_reducible refine zAd ?_
  refine zEg (by rfl) trivial (by repeat' constructor) (zIq _) ?_
  try simp (maxSteps := 2000000) only [go_sem]
  repeat with_reducible refine zAd ?_
  refine zAi (by repeat' constructor) (zEY _) ?_
  try simp (maxSteps := 2000000) only [go_sem]
  repeat with_reducible refine zAd ?_
  refine zO1 (by simp (maxSteps := 2000000) only [go_sem]; rfl) (by rfl) (by first | exact fun _ => trivial | exact fun h => h) (by intro h; repeat' (first | exact trivial | exact h | refine And.intro ?_ ?_)) (fun _ => zIq _) ?_
  try simp (maxSteps := 2000000) only [go_sem]
  repeat with_reducible refine zAd ?_
  rw [zTl]
  refine zAc (by rfl) trivial (fun h2 => ?_) (fun h2 => ?_)
  ·try simp (maxSteps := 2000000) only [go_sem]
   repeat with_reducible refine zAd ?_
   refine zAe rfl trivial (.inl ?_)
   congr 3
   cases hn : okC l l.length with
   | false => rfl
   | true =>
    exfalso
    have h4 := zAS hn hlt
    simp only [cOk, Bool.and_eq_true, Bool.or_eq_true, decide_eq_true_eq] at h4
    rw [h4.1] at h2
    by_cases h0 : i = 0
    ·subst h0
     cases hx : l.getD 0 [] with
     | nil => rw [hx] at h4; simp [zBP] at h4
     | cons a r => rw [hx] at h2; simp [Op.bytesLess] at h2
    ·rw [if_neg h0, h4.2.resolve_left h0] at h2
     simp at h2
  ·try simp (maxSteps := 2000000) only [go_sem]
   repeat with_reducible refine zAd ?_
   refine zEg (by rfl) trivial (by repeat' constructor) (zIq _) ?_
   try simp (maxSteps := 2000000) only [go_sem]
   repeat with_reducible refine zAd ?_
   refine ⟨i + 1, by omega, ⟨hlt, ?_⟩, ?_⟩
   ·rw [yFo, hok]
    simp only [Bool.true_and, cOk]
    cases hn : zBP (l.getD i []) with
    | false => rw [hn] at h2; simp at h2
    | true =>
     rw [hn] at h2
     by_cases h0 : i = 0
     ·simp [h0]
     ·rw [if_neg h0] at h2
      simp at h2
      simp [h0, h2]
   ·simp (maxSteps := 2000000) only [go_sem, zAf, zAk, zAu, zAg]
    all_goals (repeat' (first | exact trivial | exact zAl (by omega) | exact zAh rfl | exact zAs rfl | exact zAm | exact le_refl _ | refine And.intro ?_ ?_))
 ·try simp (maxSteps := 2000000) only [go_sem]
  repeat with_reducible refine zAd ?_
  refine zAe rfl trivial (.inl ?_)
  congr 3
  have : i = l.length := by simp at h; omega
  rw [← this]; exact hok
def rOk (l : List (Bys × Bys)) (k : Nat) : Bool := zBP (l.getD k default).1 && (decide (k = 0) || Op.bytesLess (l.getD (k - 1) default).1 (l.getD k default).1)
def zYT (l : List (Bys × Bys)) (i : Nat) : Bool := (List.range i).all (rOk l)
abbrev yHj (l : List (Bys × Bys)) : Bool := zYT l l.length
theorem yAI {l : List (Bys × Bys)} {i : Nat} : zYT l (i + 1) = (zYT l i && rOk l i) := zCZ
theorem zOh (l : List (Bys × Bys)) : Contract Tryz.prog zCF [.val (.one (.sl 2 (yDm l))), .val (.one (.clo zEI []))] { res := .val (bv (yHj l)) } := by
 refine zHP (base := 0) ⟨Nat.le_of_ble_eq_true rfl, Nat.le_of_ble_eq_true rfl, Nat.le_of_ble_eq_true rfl, rfl⟩ (fun hfit => ?_)
 unfold F0 zB3
 simp (maxSteps := 2000000) only [zAE, List.set_cons_succ, List.set_cons_zero, List.map_cons, List.map_nil, zAD, zAb, ioOf, List.length_cons, List.length_nil, Nat.reduceAdd, Nat.reduceSub, List.replicate, List.cons_append, List.nil_append]
 try simp (maxSteps := 2000000) only [go_sem]
 repeat with_reducible refine zAd ?_
 have hm := zFZ (k := 2) hfit.1
 rw [zAy] at hm
 refine zAn (fun i : Nat => [(5, .pv (sv (if i = 0 then [] else (l.getD (i - 1) default).1))), (7, .un), (30, .un), (31, .un), (10, .pv (iv i)), (11, .un), (25, .un)]) (fun i : Nat => l.length - i) (fun i : Nat => i ≤ l.length ∧ zYT l i = true) (0) ?_ ⟨Nat.zero_le _, rfl⟩ ?_
 focus (simp (maxSteps := 2000000) only [go_sem, zAf, zAk, zAu, zAg]; all_goals (repeat' (first | exact trivial | exact zAl (by omega) | exact zAh rfl | exact zAs rfl | exact zAm | exact le_refl _ | refine And.intro ?_ ?_)))
 intro i ⟨hi, hok⟩
 try simp (maxSteps := 2000000) only [go_sem]
 repeat with_reducible refine zAd ?_
 refine zAc (by rfl) trivial (fun h => ?_) (fun h => ?_)
 ·have hlt : i < l.length := by simpa using h
  try simp (maxSteps := 2000000) only [go_sem, zED _ _ hlt]
  repeat with_reducible refine zAd ?_
  refine zEg (by rfl) trivial (by repeat' constructor) (zIr _ _) ?_
  try simp (maxSteps := 2000000) only [go_sem]
  repeat with_reducible refine zAd ?_
  refine zAi (by repeat' constructor) (zEY _) ?_
  try simp (maxSteps := 2000000) only [go_sem]
  repeat with_reducible refine zAd ?_
  refine zO1 (by simp (maxSteps := 2000000) only [go_sem]; rfl) (by rfl) (by first | exact fun _ => trivial | exact fun h => h) (by intro h; repeat' (first | exact trivial | exact h | refine And.intro ?_ ?_)) (fun _ => zIr _ _) ?_
  try simp (maxSteps := 2000000) only [go_sem]
  repeat with_reducible refine zAd ?_
  rw [zTl]
  refine zAc (by rfl) trivial (fun h2 => ?_) (fun h2 => ?_)
  ·try simp (maxSteps := 2000000) only [go_sem]
   repeat with_reducible refine zAd ?_
   refine zAe rfl trivial (.inl ?_)
   congr 3
   cases hn : yHj l with
   | false => rfl
   | true =>
    exfalso
    have h4 := zAS hn hlt
    simp only [rOk, Bool.and_eq_true, Bool.or_eq_true, decide_eq_true_eq] at h4
    rw [h4.1] at h2
    by_cases h0 : i = 0
    ·subst h0
     cases hx : (l.getD 0 default).1 with
     | nil => rw [hx] at h4; simp [zBP] at h4
     | cons a r => rw [hx] at h2; simp [Op.bytesLess] at h2
    ·rw [if_neg h0, h4.2.resolve_left h0] at h2
     simp at h2
  ·try simp (maxSteps := 2000000) only [go_sem]
   repeat with_reducible refine zAd ?_
   refine zEg (by rfl) trivial (by repeat' constructor) (zIr _ _) ?_
   try simp (maxSteps := 2000000) only [go_sem]
   repeat with_reducible refine zAd ?_
   refine ⟨i + 1, by omega, ⟨hlt, ?_⟩, ?_⟩
   ·rw [yAI, hok]
    simp only [Bool.true_and, rOk]
    cases hn : zBP ((l.getD i default).1) with
    | false => rw [hn] at h2; simp at h2
    | true =>
     rw [hn] at h2
     by_cases h0 : i = 0
     ·simp [h0]
     ·rw [if_neg h0] at h2
      simp at h2
      simp [h0, h2]
   ·simp (maxSteps := 2000000) only [go_sem, zAf, zAk, zAu, zAg]
    all_goals (repeat' (first | exact trivial | exact zAl (by omega) | exact zAh rfl | exact zAs rfl | exact zAm | exact le_refl _ | refine And.intro ?_ ?_))
 ·try simp (maxSteps := 2000000) only [go_sem]
  repeat with_reducible refine zAd ?_
  refine zAe rfl trivial (.inl ?_)
  congr 3
  have : i = l.length := by simp at h; omega
  subst this; exact hok
def zSV (l : List (Bys × Bys)) (i : Nat) : Bool := !zCB (l.getD i default).2
def zYU (l : List (Bys × Bys)) : Int := match (List.range l.length).find? (zSV l) with | some i => i | none => -1
theorem zG8 (l : List (Bys × Bys)) : Contract Tryz.prog zA3 [.val (.one (.sl 2 (yDm l))), .val (.one (.clo zDz []))] { res := .val (iv (zYU l)) } := by
 refine zDi (base := 0) ⟨Nat.le_of_ble_eq_true rfl, Nat.le_of_ble_eq_true rfl, Nat.le_of_ble_eq_true rfl, rfl⟩ (fun hfit => ?_)
 unfold F0 zA8
 simp (maxSteps := 2000000) only [zAE, List.set_cons_succ, List.set_cons_zero, List.map_cons, List.map_nil, zAD, zAb, ioOf, List.length_cons, List.length_nil, Nat.reduceAdd, Nat.reduceSub, List.replicate, List.cons_append, List.nil_append]
 try simp (maxSteps := 2000000) only [go_sem]
 repeat with_reducible refine zAd ?_
 have hm := zFZ (k := 2) hfit.1
 rw [zAy] at hm
 refine zAn (fun i : Nat => [(5, .un), (8, .pv (iv i)), (9, .un), (16, .un)]) (fun i : Nat => l.length - i) (fun i : Nat => i ≤ l.length ∧ ∀ k, k < i → zSV l k = false) (0) ?_ ⟨Nat.zero_le _, fun k hk => by omega⟩ ?_
 focus (simp (maxSteps := 2000000) only [go_sem, zAf, zAk, zAu, zAg]; all_goals (repeat' (first | exact trivial | exact zAl (by omega) | exact zAh rfl | exact zAs rfl | exact zAm | exact le_refl _ | refine And.intro ?_ ?_)))
 intro i ⟨hi, hok⟩
 try simp (maxSteps := 2000000) only [go_sem]
 repeat with_reducible refine zAd ?_
 refine zAc (by rfl) trivial (fun h => ?_) (fun h => ?_)
 ·have hlt : i < l.length := by simpa using h
  try simp (maxSteps := 2000000) only [go_sem, zED _ _ hlt]
  repeat with_reducible refine zAd ?_
  refine zEg (by rfl) trivial (by repeat' constructor) (zYS _ _) ?_
  try simp (maxSteps := 2000000) only [go_sem]
  repeat with_reducible refine zAd ?_
  refine zAc (by rfl) trivial (fun h2 => ?_) (fun h2 => ?_)
  ·try simp (maxSteps := 2000000) only [go_sem]
   repeat with_reducible refine zAd ?_
   refine zAe rfl trivial (.inl ?_)
   congr 3
   have h3 : (List.range l.length).find? (zSV l) = some i := List.find?_range_eq_some.2 ⟨h2, List.mem_range.2 hlt, fun j hj => by rw [hok j hj]; rfl⟩
   rw [zYU, h3]
  ·try simp (maxSteps := 2000000) only [go_sem]
   repeat with_reducible refine zAd ?_
   refine ⟨i + 1, by omega, ⟨hlt, fun k hk => ?_⟩, ?_⟩
   ·by_cases e : k = i
    ·rw [e]; exact h2
    ·exact hok k (by omega)
   ·simp (maxSteps := 2000000) only [go_sem, zAf, zAk, zAu, zAg]
    all_goals (repeat' (first | exact trivial | exact zAl (by omega) | exact zAh rfl | exact zAs rfl | exact zAm | exact le_refl _ | refine And.intro ?_ ?_))
 ·try simp (maxSteps := 2000000) only [go_sem]
  repeat with_reducible refine zAd ?_
  refine zAe rfl trivial (.inl ?_)
  congr 3
  have : i = l.length := by simp at h; omega
  have h3 : (List.range l.length).find? (zSV l) = none := List.find?_eq_none.2 fun x hx => by rw [hok x (by rw [this]; exact List.mem_range.1 hx)]; simp
  rw [zYU, h3]
def zYV (l : List (Bys × Bys)) : Bool := (List.range l.length).any (zSV l)
theorem yCJ (l : List (Bys × Bys)) : decide (0 ≤ zYU l) = zYV l := by
 unfold zYU zYV
 cases h : (List.range l.length).find? (zSV l) with
 | none =>
  have := List.find?_eq_none.1 h
  have h2 : (List.range l.length).any (zSV l) = false := by
   rw [List.any_eq_false]; exact this
  rw [h2]; rfl
 | some i =>
  have := List.find?_range_eq_some.1 h
  have h2 : (List.range l.length).any (zSV l) = true := List.any_eq_true.2 ⟨i, this.2.1, this.1⟩
  rw [h2]
  simp
theorem zFs (l : List (Bys × Bys)) : Contract Tryz.prog zBJ [.val (.one (.sl 2 (yDm l))), .val (.one (.clo zDz []))] { res := .val (bv (zYV l)) } := by
 refine zFb (base := 0) ⟨Nat.le_of_ble_eq_true rfl, Nat.le_of_ble_eq_true rfl, Nat.le_of_ble_eq_true rfl, rfl⟩ (fun hfit => ?_)
 unfold F0 zBf
 simp (maxSteps := 2000000) only [zAE, List.set_cons_succ, List.set_cons_zero, List.map_cons, List.map_nil, zAD, zAb, ioOf, List.length_cons, List.length_nil, Nat.reduceAdd, Nat.reduceSub, List.replicate, List.cons_append, List.nil_append]
 try simp (maxSteps := 2000000) only [go_sem]
 repeat with_reducible refine zAd ?_
 refine zAi (by repeat' constructor) (zG8 _) ?_
 try simp (maxSteps := 2000000) only [go_sem]
 repeat with_reducible refine zAd ?_
 try simp (maxSteps := 2000000) only [go_sem]
 repeat with_reducible refine zAd ?_
 refine zAe rfl trivial (.inl ?_)
 congr 3
 rw [← yCJ]
theorem yCK (l : List (Bys × Bys)) : okA l l.length = (yHj l && !zYV l) := by
 rw [Bool.eq_iff_iff]
 simp only [okA, zYT, zYV, Bool.and_eq_true, Bool.not_eq_true', List.all_eq_true, List.any_eq_false, List.mem_range]
 constructor
 ·intro h
  refine ⟨fun k hk => ?_, fun k hk => ?_⟩
  ·have := h k hk
   simp only [aOk, rOk, Bool.and_eq_true] at this ⊢
   exact ⟨this.1.1, this.2⟩
  ·have := h k hk
   simp only [aOk, zSV, Bool.and_eq_true] at this ⊢
   rw [this.1.2]; simp
 ·intro ⟨h1, h2⟩ k hk
  have h3 := h1 k hk
  have h4 := h2 k hk
  simp only [aOk, rOk, zSV, Bool.and_eq_true, Bool.not_eq_true, Bool.not_eq_false'] at h3 h4 ⊢
  exact ⟨⟨h3.1, h4⟩, h3.2⟩
theorem zTm (x : Nd) : Contract Tryz.prog zJt [.val (.agg (ndV x))] { res := .val (bv (zBS x)) } := by
 unfold ndV
 refine zZr (base := 0) ⟨Nat.le_of_ble_eq_true rfl, Nat.le_of_ble_eq_true rfl, Nat.le_of_ble_eq_true rfl, rfl⟩ (fun hfit => ?_)
 unfold F0 zIC
 simp (maxSteps := 2000000) only [zAE, List.set_cons_succ, List.set_cons_zero, List.map_cons, List.map_nil, zAD, zAb, ioOf, List.length_cons, List.length_nil, Nat.reduceAdd, Nat.reduceSub, List.replicate, List.cons_append, List.nil_append]
 try simp (maxSteps := 2000000) only [go_sem]
 repeat with_reducible refine zAd ?_
 refine zAi (by repeat' constructor) (zEY _) ?_
 try simp (maxSteps := 2000000) only [go_sem]
 repeat with_reducible refine zAd ?_
 apply zAq (h2 := fun _ => zEY _)
 ·(simp (maxSteps := 2000000) only [go_sem]; rfl)
 ·intro h; repeat' (first | exact trivial | exact h | refine And.intro ?_ ?_)
 try simp (maxSteps := 2000000) only [go_sem]
 repeat with_reducible refine zAd ?_
 apply zAq (h2 := fun _ => zLK _)
 ·(simp (maxSteps := 2000000) only [go_sem]; rfl)
 ·intro h; repeat' (first | exact trivial | exact h | refine And.intro ?_ ?_)
 try simp (maxSteps := 2000000) only [go_sem]
 repeat with_reducible refine zAd ?_
 apply zAq (h2 := fun _ => zOh _)
 ·(simp (maxSteps := 2000000) only [go_sem]; rfl)
 ·intro h; repeat' (first | exact trivial | exact h | refine And.intro ?_ ?_)
 try simp (maxSteps := 2000000) only [go_sem]
 repeat with_reducible refine zAd ?_
 apply zAq (h2 := fun _ => zFs _)
 ·(simp (maxSteps := 2000000) only [go_sem]; rfl)
 ·intro h; repeat' (first | exact trivial | exact h | refine And.intro ?_ ?_)
 try simp (maxSteps := 2000000) only [go_sem]
 repeat with_reducible refine zAd ?_
 refine zAe rfl trivial (.inl ?_)
 congr 3
 simp only [zBS, yCK]
 grind
end Go.Hx
end

section
set_option maxRecDepth 100000
set_option linter.unusedSimpArgs false
namespace Go.Hx
open Go.Proofs
variable [Glob]
attribute [local go_sem] zAz zAA zAy zAt ndV zAw
attribute [local go_sem] reduceCtorEq Nat.reduceAdd Nat.reduceEqDiff reduceIte Nat.reduceLeDiff Nat.reduceLT Nat.reduceSub
def zMS (u : Int) (c : List Int) : List Int := c.dropWhile fun x => decide (x ≠ u)
theorem zQJ {u : Int} : ∀ c : List Int, (zMS u c = []) ↔ u ∉ c
 | [] => by simp [zMS]
 | x :: c => by
  simp only [zMS, List.dropWhile_cons]
  by_cases h : x = u
  ·simp [h]
  ·have := zQJ (u := u) c
   simp only [zMS] at this
   simp only [ne_eq, decide_not] at this
   simp [h, this, Ne.symm h]
theorem zQK {d : List Nd} {u : Int} : ∀ (f : Nat) (k : Int), (∀ j : Nat, (j : Int) ≤ k → zA2 d j < j) → k < f → u ∈ zA7 d f k → ∀ g : Nat, u < g → zMS u (zA7 d f k) = zA7 d g u
 | 0, k, _, _, hu => by simp [zA7] at hu
 | f + 1, k, h, hf, hu => by
  intro g hg
  have hb := zDZ (f + 1) k h _ hu
  simp only [zA7] at hu ⊢
  split at hu
  ·cases hu
  ·rename_i hk
   rw [if_neg hk]
   simp only [zMS, List.dropWhile_cons]
   by_cases e : k = u
   ·subst e
    simp only [ne_eq, not_true_eq_false, decide_false, Bool.false_eq_true, if_false]
    have : k :: zA7 d f (zA2 d k.toNat) = zA7 d (f + 1) k := by simp [zA7, hk]
    rw [this]
    exact zEW _ _ _ h hf hg
   ·simp only [ne_eq, e, not_false_eq_true, decide_true, if_true]
    have h1 := h k.toNat (by omega)
    exact zQK f (zA2 d k.toNat) (fun j hj => h j (by omega)) (by omega) ((List.mem_cons.1 hu).resolve_left (Ne.symm e)) g hg
theorem zTn (c : List Int) (x : Int) : (zB0 ((x :: c).reverse)).getD c.length [] = [bI x] := by
 simp [zB0]
theorem zTo (c : List Int) (x : Int) : (zB0 ((x :: c).reverse)).take c.length = zB0 c.reverse := by
 simp [zB0]
theorem yEi : zB0 [] = [] := rfl
theorem zYW {d : List Nd} {i : Nat} : yDn d i = ((decide (i ≠ 0) || decide (zA2 d i = -1)) && (decide (i = 0) || !decide (zMS (zA2 d i) (zA7 d i ((i : Int) - 1)) = []))) := by
 unfold yDn
 by_cases h : i = 0
 ·simp [h]
 ·have := zQJ (u := zA2 d i) (zA7 d i ((i : Int) - 1))
  simp only [h, if_false, ne_eq, not_false_eq_true, decide_true, Bool.true_or, Bool.true_and, decide_false, Bool.false_or, this]
  simp
theorem zYX {d : List Nd} : ∀ (f : Nat) (k : Int), (zA7 d f k).length ≤ f
 | 0, _ => by simp [zA7]
 | f + 1, k => by
  simp only [zA7]
  split
  ·simp
  ·have := zYX (d := d) f (zA2 d k.toNat)
   simp; omega
theorem yEj (n : Nat) : ((((n + 1 : Nat) : Int)) - 1).toNat = n := by omega
theorem yEk {d : List Nd} {i : Nat} (hl : 1 ≤ d.length ∧ d.length ≤ 64) (hi : i < d.length) (h : zWz d i = false) : zAH d = 1 := by
 have : zCC d d.length = false := by
  cases hd : zCC d d.length with
  | false => rfl
  | true => rw [zAS hd hi] at h; cases h
 simp [zAH, hl, this]
theorem yAJ (d : List Nd) : Contract Tryz.prog zHD [.val (zDb d)] { res := .val (iv (zAH d)) } := by
 unfold zDb
 refine zXf (base := 0) ⟨Nat.le_of_ble_eq_true rfl, Nat.le_of_ble_eq_true rfl, Nat.le_of_ble_eq_true rfl, rfl⟩ (fun hfit => ?_)
 unfold F0 zGW
 simp (maxSteps := 2000000) only [zAE, List.set_cons_succ, List.set_cons_zero, List.map_cons, List.map_nil, zAD, zAb, ioOf, List.length_cons, List.length_nil, Nat.reduceAdd, Nat.reduceSub, List.replicate, List.cons_append, List.nil_append]
 try simp (maxSteps := 2000000) only [go_sem]
 repeat with_reducible refine zAd ?_
 refine zAc (by rfl) trivial (fun h => ?_) (fun h => ?_)
 ·try simp (maxSteps := 2000000) only [go_sem]
  repeat with_reducible refine zAd ?_
  refine zAe rfl trivial (.inl ?_)
  congr 3
  have hl : ¬ (1 ≤ d.length ∧ d.length ≤ 64) := by
   simp at h; omega
  simp [zAH, hl]
 have hl : 1 ≤ d.length ∧ d.length ≤ 64 := by
  simp at h; omega
 try simp (maxSteps := 2000000) only [go_sem]
 repeat with_reducible refine zAd ?_
 refine zAn (fun i : Nat => [(3, .stk zE8 1 (zB0 (zA7 d i ((i : Int) - 1)).reverse)), (4, .un), (5, .un), (19, .pv (iv i)), (20, .un), (37, .un), (63, .un), (69, .un), (70, .un), (71, .un), (72, .un), (73, .un)]) (fun i : Nat => d.length - i) (fun i : Nat => i ≤ d.length ∧ zCC d i = true) (0) ?_ ⟨Nat.zero_le _, rfl⟩ ?_
 focus (simp (maxSteps := 2000000) only [go_sem, zAf, zAk, zAu, zAg]; all_goals (repeat' (first | exact trivial | exact zAl (by omega) | exact zAh rfl | exact zAs rfl | exact zAm | exact le_refl _ | refine And.intro ?_ ?_)))
 intro i ⟨hi, hok⟩
 try simp (maxSteps := 2000000) only [go_sem]
 repeat with_reducible refine zAd ?_
 refine zAc (by rfl) trivial (fun h2 => ?_) (fun h2 => ?_)
 ·have hlt : i < d.length := by simpa using h2
  try simp (maxSteps := 2000000) only [go_sem, zA5 _ _ hlt]
  repeat with_reducible refine zAd ?_
  have hcl := zYX (d := d) i ((i : Int) - 1)
  have hx : zA2 d i = (d.getD i default).up := rfl
  refine zAn (fun c : List Int => [(3, .stk zE8 1 (zB0 c.reverse)), (37, .un)]) (fun c : List Int => c.length) (fun c : List Int => c.length ≤ i ∧ zMS (zA2 d i) c = zMS (zA2 d i) (zA7 d i ((i : Int) - 1))) ((zA7 d i ((i : Int) - 1))) ?_ ⟨hcl, rfl⟩ ?_
  focus (simp (maxSteps := 2000000) only [go_sem, zAf, zAk, zAu, zAg]; all_goals (repeat' (first | exact trivial | exact zAl (by omega) | exact zAh rfl | exact zAs rfl | exact zAm | exact le_refl _ | refine And.intro ?_ ?_)))
  intro c ⟨hcl, hc⟩
  cases c with
  | nil =>
   have hpop : zMS (zA2 d i) (zA7 d i ((i : Int) - 1)) = [] := by rw [← hc]; rfl
   have hup := zYW (d := d) (i := i)
   rw [hpop] at hup
   try simp (maxSteps := 2000000) only [go_sem, List.reverse_nil, yEi, List.getD_nil, List.headD_nil]
   repeat with_reducible refine zAd ?_
   refine zAc (by rfl) trivial (fun h3 => ?_) (fun h3 => ?_)
   ·simp at h3
   try simp (maxSteps := 2000000) only [go_sem]
   repeat with_reducible refine zAd ?_
   refine zWu (by repeat' constructor) (zTm (d.getD i default)) ?_
   try simp (maxSteps := 2000000) only [go_sem]
   repeat with_reducible refine zAd ?_
   refine zAc (by rfl) trivial (fun h4 => ?_) (fun h4 => ?_)
   ·try simp (maxSteps := 2000000) only [go_sem]
    repeat with_reducible refine zAd ?_
    refine zAe rfl trivial (.inl ?_)
    congr 3
    refine yEk hl hlt ?_
    rw [zWz, hup]
    grind
   ·try simp (maxSteps := 2000000) only [go_sem]
    repeat with_reducible refine zAd ?_
    have h5 : i = 0 := by grind
    have h6 : zWz d i = true := by
     rw [zWz, hup]
     grind
    refine ⟨i + 1, by omega, ⟨by omega, by rw [zME, hok, h6]; rfl⟩, ?_⟩
    simp (maxSteps := 2000000) only [go_sem, zAf, zAk, zAu, zAg]
    all_goals (repeat' (first | exact trivial | exact zAl (by omega) | exact zAh rfl | exact zAs rfl | exact zAm | exact le_refl _ | refine And.intro ?_ ?_))
    refine zAs ?_
    subst h5
    have : zA2 d 0 = -1 := by grind
    simp [zA7, this, zB0]
  | cons x c =>
   have hlen : c.length + 1 ≤ 64 := by simp at hcl; omega
   try simp (maxSteps := 2000000) only [go_sem, List.length_reverse, yEj, zTn, zTo]
   repeat with_reducible refine zAd ?_
   refine zAc (by rfl) trivial (fun h3 => ?_) (fun h3 => ?_)
   ·try simp (maxSteps := 2000000) only [go_sem, List.length_reverse, yEj, zTn, zTo]
    repeat with_reducible refine zAd ?_
    refine ⟨c, by omega, ⟨by simp at hcl; omega, ?_⟩, ?_⟩
    ·rw [← hc]
     simp only [zMS, List.dropWhile_cons]
     grind
    ·simp (maxSteps := 2000000) only [go_sem, zAf, zAk, zAu, zAg]
     all_goals (repeat' (first | exact trivial | exact zAl (by omega) | exact zAh rfl | exact zAs rfl | exact zAm | exact le_refl _ | refine And.intro ?_ ?_))
   have hxu : x = zA2 d i := by grind
   have hpop : zMS (zA2 d i) (zA7 d i ((i : Int) - 1)) = x :: c := by rw [← hc]; simp [zMS, hxu]
   have hup := zYW (d := d) (i := i)
   rw [hpop] at hup
   try simp (maxSteps := 2000000) only [go_sem, List.length_reverse]
   repeat with_reducible refine zAd ?_
   refine zWu (by repeat' constructor) (zTm (d.getD i default)) ?_
   try simp (maxSteps := 2000000) only [go_sem]
   repeat with_reducible refine zAd ?_
   refine zAc (by rfl) trivial (fun h4 => ?_) (fun h4 => ?_)
   ·try simp (maxSteps := 2000000) only [go_sem]
    repeat with_reducible refine zAd ?_
    refine zAe rfl trivial (.inl ?_)
    congr 3
    refine yEk hl hlt ?_
    rw [zWz, hup]
    grind
   ·try simp (maxSteps := 2000000) only [go_sem]
    repeat with_reducible refine zAd ?_
    have hmem : zA2 d i ∈ zA7 d i ((i : Int) - 1) := by
     have := zQJ (u := zA2 d i) (zA7 d i ((i : Int) - 1))
     rw [hpop] at this
     simpa using this
    have h5 : i ≠ 0 := by intro h0; subst h0; simp [zA7] at hmem
    have h6 : zWz d i = true := by
     rw [zWz, hup]
     grind
    refine ⟨i + 1, by omega, ⟨by omega, by rw [zME, hok, h6]; rfl⟩, ?_⟩
    simp (maxSteps := 2000000) only [go_sem, zAf, zAk, zAu, zAg]
    all_goals (repeat' (first | exact trivial | exact zAl (by omega) | exact zAh rfl | exact zAs rfl | exact zAm | exact le_refl _ | refine And.intro ?_ ?_))
    refine zAs ?_
    have hups : ∀ j : Nat, (j : Int) ≤ (i : Int) - 1 → zA2 d j < j := fun j hj => (zBe hok j (by omega)).2
    have hb := zDZ i ((i : Int) - 1) hups _ hmem
    have hch := zQK i ((i : Int) - 1) hups (by omega) hmem i (by omega)
    rw [hpop] at hch
    have : zA7 d (i + 1) (((i + 1 : Nat) : Int) - 1) = (i : Int) :: x :: c := by
     rw [show (((i + 1 : Nat) : Int) - 1) = (i : Int) by omega]
     simp only [zA7]
     rw [if_neg (by omega), hch]
     simp
    rw [this]
    simp [zB0]
 ·try simp (maxSteps := 2000000) only [go_sem]
  repeat with_reducible refine zAd ?_
  refine zAe rfl trivial (.inl ?_)
  congr 3
  have hi2 : i = d.length := by simp at h2; omega
  subst hi2
  simp [zAH, hl, hok]
end Go.Hx
end
