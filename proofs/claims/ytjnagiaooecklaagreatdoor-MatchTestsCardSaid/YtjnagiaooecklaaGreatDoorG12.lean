/-
  Walks of functions of the program over an abstract layer, and the laws that they use: each contract says what the function computes, for every input that its conditions let by. No other condition.
-/
import Derived.Test.YtjnagiaooecklaaGreatDoorG11
import Derived.Test.YtjnagiaooecklaaGreatDoorG10
import Derived.Test.YtjnagiaooecklaaGreatDoorG8
import Derived.Test.YtjnagiaooecklaaGreatDoorG9
set_option linter.all false
section
set_option maxRecDepth 100000
set_option linter.unusedSimpArgs false
namespace Go.Hx
open Go.Proofs
variable [Glob]
attribute [local go_sem] zAz zAA zAy zAt ndV zAw
attribute [local go_sem] reduceCtorEq Nat.reduceAdd Nat.reduceEqDiff reduceIte Nat.reduceLeDiff Nat.reduceLT Nat.reduceSub
theorem zME {d : List Nd} {i : Nat} : zCC d (i + 1) = (zCC d i && zWz d i) := zCZ
theorem zJj (d : List Nd) : Contract Tryz.prog zDy [.val (zDb d)] { res := .val (iv (zAH d)) } := by
 unfold zDb
 refine zPp (base := 0) ⟨Nat.le_of_ble_eq_true rfl, Nat.le_of_ble_eq_true rfl, Nat.le_of_ble_eq_true rfl, rfl⟩ (fun hfit => ?_)
 unfold F0 zD7
 simp (maxSteps := 2000000) only [zAE, List.set_cons_succ, List.set_cons_zero, List.map_cons, List.map_nil, zAD, zAb, ioOf, List.length_cons, List.length_nil, Nat.reduceAdd, Nat.reduceSub, List.replicate, List.cons_append, List.nil_append]
 try simp (maxSteps := 2000000) only [go_sem]
 repeat with_reducible refine zAd ?_
 try simp (maxSteps := 2000000) only [go_sem, zAz]
 repeat with_reducible refine zAd ?_
 refine zAi (by repeat' constructor) (zBo _ _ _) ?_
 try simp (maxSteps := 2000000) only [go_sem]
 repeat with_reducible refine zAd ?_
 refine zAc (by rfl) trivial (fun h => ?_) (fun h => ?_)
 ·try simp (maxSteps := 2000000) only [go_sem]
  repeat with_reducible refine zAd ?_
  refine zAe rfl trivial (.inl ?_)
  congr 3
  have h2 : ¬ (1 ≤ d.length ∧ d.length ≤ 64) := by simp at h; omega
  simp [zAH, h2]
 have hr : 1 ≤ d.length ∧ d.length ≤ 64 := by simp at h; omega
 obtain ⟨hr1, hr2⟩ := hr
 try simp (maxSteps := 2000000) only [go_sem]
 repeat with_reducible refine zAd ?_
 refine zAn (fun i : Nat => [(3, .pv (iv i)), (4, .un), (5, .un), (15, .un), (37, .un), (47, .un), (63, .un)]) (fun i : Nat => d.length - i) (fun i : Nat => i ≤ d.length ∧ zCC d i = true) (0) ?_ ⟨Nat.zero_le _, rfl⟩ ?_
 focus (simp (maxSteps := 2000000) only [go_sem, zAf, zAk, zAu, zAg]; all_goals (repeat' (first | exact trivial | exact zAl (by omega) | exact zAh rfl | exact zAs rfl | exact zAm | exact le_refl _ | refine And.intro ?_ ?_)))
 intro i ⟨hi, hok⟩
 try simp (maxSteps := 2000000) only [go_sem, zAz]
 repeat with_reducible refine zAd ?_
 refine zAc (by rfl) trivial (fun h2 => ?_) (fun h2 => ?_)
 ·have hlt : i < d.length := by simpa using h2
  try simp (maxSteps := 2000000) only [go_sem, zAz, zA5 _ _ hlt]
  repeat with_reducible refine zAd ?_
  refine zAi (by repeat' constructor) (zSA _) ?_
  try simp (maxSteps := 2000000) only [go_sem, zAz, zA5 _ _ hlt, ndV]
  repeat with_reducible refine zAd ?_
  refine zAc (by rfl) trivial (fun h3 => ?_) (fun h3 => ?_)
  ·try simp (maxSteps := 2000000) only [go_sem]
   repeat with_reducible refine zAd ?_
   refine zAe rfl trivial (.inl ?_)
   congr 3
   have : zCC d d.length = false := by
    cases hn : zCC d d.length with
    | false => rfl
    | true =>
     exfalso
     have h4 := zAS hn hlt
     simp only [zWz, yDn, zA2, Bool.and_eq_true] at h4
     rw [h4.1] at h3
     by_cases h5 : i = 0
     ·subst h5; simp at h3 h4; omega
     ·simp at h3; omega
   simp [zAH, hr1, hr2, this]
  have hn : zBS (d.getD i default) = true := by
   cases hn : zBS (d.getD i default) with
   | true => rfl
   | false => rw [hn] at h3; simp at h3
  rw [hn] at h3
  have h4 : i = 0 → zA2 d i = -1 := by
   intro h5; subst h5; simpa [zA2] using h3
  have hup := zBe hok
  try simp (maxSteps := 2000000) only [go_sem]
  repeat with_reducible refine zAd ?_
  refine zAn (fun x : Int × Bool => [(4, .pv (bv x.2)), (5, .pv (iv x.1)), (47, .un)]) (fun x : Int × Bool => (x.1 + 1).toNat) (fun x : Int × Bool => -1 ≤ x.1 ∧ x.1 < i ∧ (x.2 = true → yDn d i = true) ∧ (x.2 = false → yDn d i = (zA7 d (x.1 + 1).toNat x.1).contains (zA2 d i))) (((i : Int) - 1, (i : Int) == 0)) ?_ ⟨by show -1 ≤ (i : Int) - 1; omega, by show (i : Int) - 1 < i; omega, fun h => by simp at h; subst h; simp [yDn, h4], fun h => by simp at h; simp [yDn, h]⟩ ?_
  focus (simp (maxSteps := 2000000) only [go_sem, zAf, zAk, zAu, zAg]; all_goals (repeat' (first | exact trivial | exact zAl (by omega) | exact zAh rfl | exact zAs rfl | exact zAm | exact le_refl _ | refine And.intro ?_ ?_)))
  intro ⟨k, fine⟩ ⟨hk1, hk2, hk3, hk4⟩
  simp only at hk1 hk2 hk3 hk4
  try simp (maxSteps := 2000000) only [go_sem]
  repeat with_reducible refine zAd ?_
  refine zAc (by rfl) trivial (fun h5 => ?_) (fun h5 => ?_)
  ·have hk5 : 0 ≤ k ∧ fine = false := by simp at h5; exact h5
   obtain ⟨hk5, rfl⟩ := hk5
   have hkn : k.toNat < d.length := by omega
   try simp (maxSteps := 2000000) only [go_sem, zA5 _ _ hlt, zA5 _ _ hkn]
   repeat with_reducible refine zAd ?_
   have h6 := hup k.toNat (by omega)
   refine ⟨(zA2 d k.toNat, k == zA2 d i), ?_, ⟨h6.1, ?_, ?_, ?_⟩, ?_⟩
   ·simp only; omega
   ·simp only; omega
   ·simp only
    intro h7
    have h8 : k = zA2 d i := by simpa using h7
    rw [hk4 rfl, show (k + 1).toNat = k.toNat + 1 by omega, zA7, if_neg (by omega), h8]
    simp
   ·simp only
    intro h7
    have h8 : ¬ k = zA2 d i := by simpa using h7
    rw [hk4 rfl, show (k + 1).toNat = k.toNat + 1 by omega, zA7, if_neg (by omega), List.contains_cons]
    rw [zEW k.toNat (zA2 d k.toNat + 1).toNat _ (fun j hj => (hup j (by omega)).2) (by omega) (by omega)]
    simp [Ne.symm h8]
   ·simp (maxSteps := 2000000) only [go_sem, zAf, zAk, zAu, zAg]
    all_goals (repeat' (first | exact trivial | exact zAl (by omega) | exact zAh rfl | exact zAs rfl | exact zAm | exact le_refl _ | refine And.intro ?_ ?_))
  ·try simp (maxSteps := 2000000) only [go_sem]
   repeat with_reducible refine zAd ?_
   refine zAc (by rfl) trivial (fun h6 => ?_) (fun h6 => ?_)
   ·try simp (maxSteps := 2000000) only [go_sem]
    repeat with_reducible refine zAd ?_
    refine zAe rfl trivial (.inl ?_)
    congr 3
    have hf : fine = false := by simpa using h6
    subst hf
    have hk : k = -1 := by simp at h5; omega
    subst hk
    have : zCC d d.length = false := by
     cases hn : zCC d d.length with
     | false => rfl
     | true =>
      exfalso
      have h7 := zAS hn hlt
      simp only [zWz, Bool.and_eq_true] at h7
      rw [hk4 rfl] at h7
      simp [zA7] at h7
    simp [zAH, hr1, hr2, this]
   ·have hf : fine = true := by simpa using h6
    subst hf
    try simp (maxSteps := 2000000) only [go_sem]
    repeat with_reducible refine zAd ?_
    refine ⟨i + 1, by omega, ⟨hlt, ?_⟩, ?_⟩
    ·rw [zME, hok, zWz, hn, hk3 rfl]; rfl
    ·simp (maxSteps := 2000000) only [go_sem, zAf, zAk, zAu, zAg]
     all_goals (repeat' (first | exact trivial | exact zAl (by omega) | exact zAh rfl | exact zAs rfl | exact zAm | exact le_refl _ | refine And.intro ?_ ?_))
 ·try simp (maxSteps := 2000000) only [go_sem]
  repeat with_reducible refine zAd ?_
  refine zAe rfl trivial (.inl ?_)
  congr 3
  have : i = d.length := by simp at h2; omega
  subst this
  simp [zAH, hr1, hr2, hok]
end Go.Hx
end

section
set_option maxRecDepth 100000
set_option linter.unusedSimpArgs false
namespace Go.Hx
open Go.Proofs
variable [Glob]
attribute [local go_sem] zAz zAA zAy zAt ndV zAw
attribute [local go_sem] reduceCtorEq Nat.reduceAdd Nat.reduceEqDiff reduceIte Nat.reduceLeDiff Nat.reduceLT Nat.reduceSub
def zS9 (d : List Nd) (k : Int) : Int := if zAH d = 0 then (if 0 ≤ k ∧ k ≤ (d.length : Int) - 1 then 0 else 5) else zAH d
theorem zZ4 (d : List Nd) (k : Int) : Contract Tryz.prog zHC [.val (zDb d), .val (iv k)] { res := .val (iv (zS9 d k)) } := by
 unfold zDb
 refine zW0 (base := 0) ⟨Nat.le_of_ble_eq_true rfl, Nat.le_of_ble_eq_true rfl, Nat.le_of_ble_eq_true rfl, rfl⟩ (fun hfit => ?_)
 unfold F0 zGU
 simp (maxSteps := 2000000) only [zAE, List.set_cons_succ, List.set_cons_zero, List.map_cons, List.map_nil, zAD, zAb, ioOf, List.length_cons, List.length_nil, Nat.reduceAdd, Nat.reduceSub, List.replicate, List.cons_append, List.nil_append]
 try simp (maxSteps := 2000000) only [go_sem]
 repeat with_reducible refine zAd ?_
 have hm := zFZ (k := 5) (hfit.1.1)
 rw [zAz] at hm
 refine zAi (by repeat' constructor) (zJj _) ?_
 try simp (maxSteps := 2000000) only [go_sem]
 repeat with_reducible refine zAd ?_
 refine zAc (by rfl) trivial (fun h => ?_) (fun h => ?_)
 ·try simp (maxSteps := 2000000) only [go_sem]
  repeat with_reducible refine zAd ?_
  refine zAe rfl trivial (.inl ?_)
  congr 3
  have h2 : ¬ zAH d = 0 := by simpa using h
  simp [zS9, h2]
 have h2 : zAH d = 0 := by simpa using h
 try simp (maxSteps := 2000000) only [go_sem]
 repeat with_reducible refine zAd ?_
 refine zAi (by repeat' constructor) (zBo _ _ _) ?_
 try simp (maxSteps := 2000000) only [go_sem]
 repeat with_reducible refine zAd ?_
 refine zAc (by rfl) trivial (fun h3 => ?_) (fun h3 => ?_)
 ·try simp (maxSteps := 2000000) only [go_sem]
  repeat with_reducible refine zAd ?_
  refine zAe rfl trivial (.inl ?_)
  congr 3
  have h4 : ¬ (0 ≤ k ∧ k ≤ (d.length : Int) - 1) := by simp at h3; omega
  simp only [zS9, h2, h4, if_true, if_false]
 ·try simp (maxSteps := 2000000) only [go_sem]
  repeat with_reducible refine zAd ?_
  refine zAe rfl trivial (.inl ?_)
  congr 3
  have h4 : (0 ≤ k ∧ k ≤ (d.length : Int) - 1) := by simp at h3; omega
  simp only [zS9, h2, h4, if_true, and_self]
def zA0 (d : List Nd) (n : Int) (k : Nat) : Int := ((List.range k).filter fun i => (zA7 d d.length (zA2 d i)).contains n).length
def zCV (d : List Nd) (n : Int) : Int := zA0 d n d.length
theorem zHQ {d : List Nd} {n : Int} {k : Nat} : zA0 d n (k + 1) = zA0 d n k + (if (zA7 d d.length (zA2 d k)).contains n then 1 else 0) := by
 unfold zA0
 rw [List.range_succ, List.filter_append, List.length_append, List.filter_cons, List.filter_nil]
 split <;> simp
theorem zEX {d : List Nd} {n : Int} : ∀ k : Nat, 0 ≤ zA0 d n k ∧ zA0 d n k ≤ k
 | 0 => by simp [zA0]
 | k + 1 => by have := zEX (d := d) (n := n) k; rw [zHQ]; split <;> omega
def zAK (d : List Nd) (n : Int) (k : Nat) : List Int := ((List.range k).filter fun i => decide (zA2 d i = n)).map Int.ofNat
def zEy (d : List Nd) (n : Int) : List Int := zAK d n d.length
theorem zAP {d : List Nd} {n : Int} {k : Nat} : zAK d n (k + 1) = if zA2 d k = n then zAK d n k ++ [(k : Int)] else zAK d n k := by
 unfold zAK
 rw [List.range_succ, List.filter_append, List.map_append]
 by_cases h : zA2 d k = n <;> simp [List.filter, h]
theorem zD1 {d : List Nd} {n : Int} (k : Nat) : (zAK d n k).length ≤ k := by
 unfold zAK
 rw [List.length_map]
 exact Nat.le_trans (List.length_filter_le _ _) (by simp)
theorem zNg (d : List Nd) (n : Int) (hd : d.length ≤ 64) : Contract Tryz.prog zEF [.val (zDb d), .val (iv n)] { res := .own zE8 1 (zB0 (zEy d n)) } := by
 unfold zDb
 refine zUi (base := 0) ⟨Nat.le_of_ble_eq_true rfl, Nat.le_of_ble_eq_true rfl, Nat.le_of_ble_eq_true rfl, rfl⟩ (fun hfit => ?_)
 unfold F0 zFD
 simp (maxSteps := 2000000) only [zAE, List.set_cons_succ, List.set_cons_zero, List.map_cons, List.map_nil, zAD, zAb, ioOf, List.length_cons, List.length_nil, Nat.reduceAdd, Nat.reduceSub, List.replicate, List.cons_append, List.nil_append]
 try simp (maxSteps := 2000000) only [go_sem]
 repeat with_reducible refine zAd ?_
 have hm := zFZ (k := 5) (hfit.1.1)
 rw [zAz] at hm
 refine zAn (fun i : Nat => [(5, .own zE8 1 (zB0 (zAK d n i))), (6, .pv (iv i)), (11, .un), (21, .un)]) (fun i : Nat => d.length - i) (fun i : Nat => i ≤ d.length) (0) ?_ (Nat.zero_le _) ?_
 focus (simp (maxSteps := 2000000) only [go_sem, zAf, zAk, zAu, zAg]; all_goals (repeat' (first | exact trivial | exact zAl (by omega) | exact zAh rfl | exact zAs rfl | exact zAm | exact le_refl _ | refine And.intro ?_ ?_)))
 intro i hi
 try simp (maxSteps := 2000000) only [go_sem]
 repeat with_reducible refine zAd ?_
 have hu := zD1 (d := d) (n := n) i
 refine zAc (by rfl) trivial (fun h => ?_) (fun h => ?_)
 ·have hlt : i < d.length := by simpa using h
  try simp (maxSteps := 2000000) only [go_sem, zA5 _ _ hlt]
  repeat with_reducible refine zAd ?_
  refine zAc (by rfl) trivial (fun h2 => ?_) (fun h2 => ?_)
  ·try simp (maxSteps := 2000000) only [go_sem]
   repeat with_reducible refine zAd ?_
   refine ⟨i + 1, by omega, hlt, ?_⟩
   simp (maxSteps := 2000000) only [go_sem, zAf, zAk, zAu, zAg]
   all_goals (repeat' (first | exact trivial | exact zAl (by omega) | exact zAh rfl | exact zAs rfl | exact zAm | exact le_refl _ | refine And.intro ?_ ?_))
   refine yBe ?_
   have h3 : zA2 d i = n := by simpa [zA2] using h2
   simp [zAP, h3, zB0]
  ·try simp (maxSteps := 2000000) only [go_sem]
   repeat with_reducible refine zAd ?_
   refine ⟨i + 1, by omega, hlt, ?_⟩
   simp (maxSteps := 2000000) only [go_sem, zAf, zAk, zAu, zAg]
   all_goals (repeat' (first | exact trivial | exact zAl (by omega) | exact zAh rfl | exact zAs rfl | exact zAm | exact le_refl _ | refine And.intro ?_ ?_))
   refine yBe ?_
   have h3 : ¬ zA2 d i = n := by simpa [zA2] using h2
   simp [zAP, h3, zB0]
 ·try simp (maxSteps := 2000000) only [go_sem]
  repeat with_reducible refine zAd ?_
  have : i = d.length := by simp at h; omega
  subst this
  exact zZk rfl
end Go.Hx
end

section
set_option maxRecDepth 100000
set_option linter.unusedSimpArgs false
namespace Go.Hx
open Go.Proofs
variable [Glob]
attribute [local go_sem] zAz zAA zAy zAt ndV zAw zAp
attribute [local go_sem] reduceCtorEq Nat.reduceAdd Nat.reduceEqDiff reduceIte Nat.reduceLeDiff Nat.reduceLT Nat.reduceSub
theorem zNh (n lo hi : Int) : Contract Tryz.prog zAJ [.val (iv n), .val (iv lo), .val (iv hi)] { res := .val (bv (decide (lo ≤ n ∧ n ≤ hi))) } := by
 refine zKD (base := 0) ⟨Nat.le_of_ble_eq_true rfl, Nat.le_of_ble_eq_true rfl, Nat.le_of_ble_eq_true rfl, rfl⟩ (fun hfit => ?_)
 unfold F0 zEi
 simp (maxSteps := 2000000) only [zAE, List.set_cons_succ, List.set_cons_zero, List.map_cons, List.map_nil, zAD, zAb, ioOf, List.length_cons, List.length_nil, Nat.reduceAdd, Nat.reduceSub, List.replicate, List.cons_append, List.nil_append]
 try simp (maxSteps := 2000000) only [go_sem]
 repeat with_reducible refine zAd ?_
 refine zAe rfl trivial (.inl ?_)
 congr 3
 by_cases h1 : lo ≤ n <;> by_cases h2 : n ≤ hi <;> simp [h1, h2]
theorem yDI {a b : Int} (h : zNm a b = 0) : (-1048576 ≤ a ∧ a ≤ 1048576) ∧ (-1048576 ≤ b ∧ b ≤ 1048576) := by
 unfold zNm at h
 split at h
 ·rename_i h1; simpa [zO3] using h1
 ·cases h
def yFa (a b : Int) : PVal := .agg [bI a, bI b]
theorem zJk (a b : Int) : Contract Tryz.prog zDA [.val (yFa a b)] { res := .val (iv (zNm a b)) } := by
 unfold yFa
 refine zPE (base := 0) ⟨Nat.le_of_ble_eq_true rfl, Nat.le_of_ble_eq_true rfl, Nat.le_of_ble_eq_true rfl, rfl⟩ (fun hfit => ?_)
 unfold F0 zD9
 simp (maxSteps := 2000000) only [zAE, List.set_cons_succ, List.set_cons_zero, List.map_cons, List.map_nil, zAD, zAb, ioOf, List.length_cons, List.length_nil, Nat.reduceAdd, Nat.reduceSub, List.replicate, List.cons_append, List.nil_append]
 try simp (maxSteps := 2000000) only [go_sem]
 repeat with_reducible refine zAd ?_
 refine zAi (by repeat' constructor) (zNh a (-1048576) 1048576) ?_
 try simp (maxSteps := 2000000) only [go_sem]
 repeat with_reducible refine zAd ?_
 apply zAq (h2 := fun _ => zNh b (-1048576) 1048576)
 ·(simp (maxSteps := 2000000) only [go_sem]; rfl)
 ·intro h; repeat' (first | exact trivial | exact h | refine And.intro ?_ ?_)
 try simp (maxSteps := 2000000) only [go_sem]
 repeat with_reducible refine zAd ?_
 refine zAc (by rfl) trivial (fun h => ?_) (fun h => ?_)
 ·try simp (maxSteps := 2000000) only [go_sem]
  repeat with_reducible refine zAd ?_
  refine zAe rfl trivial (.inl ?_)
  congr 3
  unfold zNm zO3
  rw [if_neg]
  simp at h ⊢
  omega
 ·try simp (maxSteps := 2000000) only [go_sem]
  repeat with_reducible refine zAd ?_
  refine zAe rfl trivial (.inl ?_)
  congr 3
  unfold zNm zO3
  rw [if_pos]
  simp at h ⊢
  omega
theorem zQq (a b : Int) : Contract Tryz.prog zFJ [.val (yFa a b)] { res := .val (iv (zNm a b)) } := by
 unfold yFa
 refine zXv (base := 0) ⟨Nat.le_of_ble_eq_true rfl, Nat.le_of_ble_eq_true rfl, Nat.le_of_ble_eq_true rfl, rfl⟩ (fun hfit => ?_)
 unfold F0 zGZ
 simp (maxSteps := 2000000) only [zAE, List.set_cons_succ, List.set_cons_zero, List.map_cons, List.map_nil, zAD, zAb, ioOf, List.length_cons, List.length_nil, Nat.reduceAdd, Nat.reduceSub, List.replicate, List.cons_append, List.nil_append]
 try simp (maxSteps := 2000000) only [go_sem]
 repeat with_reducible refine zAd ?_
 refine zAn (fun i : Nat => [(4, .un), (10, .pv (iv i)), (11, .un), (18, .un)]) (fun i : Nat => 2 - i) (fun i : Nat => i ≤ 2 ∧ (1 ≤ i → zO3 a = true) ∧ (2 ≤ i → zO3 b = true)) (0) ?_ ⟨by omega, by omega, by omega⟩ ?_
 focus (simp (maxSteps := 2000000) only [go_sem, zAf, zAk, zAu, zAg]; all_goals (repeat' (first | exact trivial | exact zAl (by omega) | exact zAh rfl | exact zAs rfl | exact zAm | exact le_refl _ | refine And.intro ?_ ?_)))
 intro i hi
 obtain ⟨h1, h2, h3⟩ := hi
 try simp (maxSteps := 2000000) only [go_sem]
 repeat with_reducible refine zAd ?_
 refine zAc (by rfl) trivial (fun h => ?_) (fun h => ?_)
 ·have hlt : i < 2 := by simp at h; omega
  have hcase : i = 0 ∨ i = 1 := by omega
  rcases hcase with rfl | rfl
  ·try simp (maxSteps := 2000000) only [go_sem, List.getD_cons_zero, Int.toNat_natCast, Int.cast_ofNat_Int, Int.toNat_zero, PV.norm]
   repeat with_reducible refine zAd ?_
   refine zAc (by rfl) trivial (fun h9 => ?_) (fun h9 => ?_)
   ·try simp (maxSteps := 2000000) only [go_sem]
    repeat with_reducible refine zAd ?_
    refine zAe rfl trivial (.inl ?_)
    congr 3
    unfold zNm
    rw [if_neg]
    simp [zO3] at h9 ⊢
    omega
   ·try simp (maxSteps := 2000000) only [go_sem]
    repeat with_reducible refine zAd ?_
    refine ⟨1, by omega, ⟨by omega, fun _ => ?_, by omega⟩, ?_⟩
    ·simp [zO3] at h9 ⊢; omega
    ·simp (maxSteps := 2000000) only [go_sem, zAf, zAk, zAu, zAg]
     all_goals (repeat' (first | exact trivial | exact zAl (by omega) | exact zAh rfl | exact zAs rfl | exact zAm | exact le_refl _ | refine And.intro ?_ ?_))
  ·try simp (maxSteps := 2000000) only [go_sem, List.getD_cons_zero, List.getD_cons_succ, Int.toNat_natCast, Int.cast_ofNat_Int, Int.toNat_one, PV.norm]
   repeat with_reducible refine zAd ?_
   refine zAc (by rfl) trivial (fun h9 => ?_) (fun h9 => ?_)
   ·try simp (maxSteps := 2000000) only [go_sem]
    repeat with_reducible refine zAd ?_
    refine zAe rfl trivial (.inl ?_)
    congr 3
    unfold zNm
    rw [if_neg]
    simp [zO3] at h9 ⊢
    omega
   ·try simp (maxSteps := 2000000) only [go_sem]
    repeat with_reducible refine zAd ?_
    refine ⟨2, by omega, ⟨by omega, fun _ => h2 (by omega), fun _ => ?_⟩, ?_⟩
    ·simp [zO3] at h9 ⊢; omega
    ·simp (maxSteps := 2000000) only [go_sem, zAf, zAk, zAu, zAg]
     all_goals (repeat' (first | exact trivial | exact zAl (by omega) | exact zAh rfl | exact zAs rfl | exact zAm | exact le_refl _ | refine And.intro ?_ ?_))
 ·try simp (maxSteps := 2000000) only [go_sem]
  repeat with_reducible refine zAd ?_
  have : i = 2 := by simp at h; omega
  refine zAe rfl trivial (.inl ?_)
  congr 3
  unfold zNm
  rw [h2 (by omega), h3 (by omega)]
  rfl
def zFR (a b i : Int) : Bool := decide (zNm a b = 0 ∧ 1 ≤ i ∧ i ≤ 1073741824) && (if a = 0 then decide (i - b = 0) else decide ((i - b).tmod a = 0) && decide (0 ≤ (i - b).tdiv a))
theorem yCm {x y : Int} (h1 : -2147483648 ≤ x) (h2 : x ≤ 2147483648) : -2147483648 ≤ x.tdiv y ∧ x.tdiv y ≤ 2147483648 := by
 have h := Int.natAbs_tdiv_le_natAbs x y
 omega
theorem zQr (a b i : Int) : Contract Tryz.prog zFK [.val (yFa a b), .val (iv i)] { res := .val (bv (zFR a b i)) } := by
 unfold yFa
 refine zXD (base := 0) ⟨Nat.le_of_ble_eq_true rfl, Nat.le_of_ble_eq_true rfl, Nat.le_of_ble_eq_true rfl, rfl⟩ (fun hfit => ?_)
 unfold F0 zG0
 simp (maxSteps := 2000000) only [zAE, List.set_cons_succ, List.set_cons_zero, List.map_cons, List.map_nil, zAD, zAb, ioOf, List.length_cons, List.length_nil, Nat.reduceAdd, Nat.reduceSub, List.replicate, List.cons_append, List.nil_append]
 try simp (maxSteps := 2000000) only [go_sem]
 repeat with_reducible refine zAd ?_
 refine zAi (by repeat' constructor) (zQq a b) ?_
 try simp (maxSteps := 2000000) only [go_sem]
 repeat with_reducible refine zAd ?_
 refine zAc (by rfl) trivial (fun h => ?_) (fun h => ?_)
 ·try simp (maxSteps := 2000000) only [go_sem]
  repeat with_reducible refine zAd ?_
  refine zAe rfl trivial (.inl ?_)
  congr 3
  unfold zFR
  rw [decide_eq_false]
  ·rfl
  ·simp at h; omega
 have h2 : zNm a b = 0 ∧ 1 ≤ i ∧ i ≤ 1073741824 := by simp at h; omega
 obtain ⟨h3, h4⟩ := yDI h2.1
 try simp (maxSteps := 2000000) only [go_sem]
 repeat with_reducible refine zAd ?_
 have hh : zFR a b i = (if a = 0 then decide (i - b = 0) else decide ((i - b).tmod a = 0) && decide (0 ≤ (i - b).tdiv a)) := by
  unfold zFR
  rw [decide_eq_true h2, Bool.true_and]
 refine zAc (by rfl) trivial (fun h5 => ?_) (fun h5 => ?_)
 ·try simp (maxSteps := 2000000) only [go_sem]
  repeat with_reducible refine zAd ?_
  refine zAe rfl trivial (.inl ?_)
  congr 3
  rw [hh, if_pos (by simpa using h5)]
  grind
 ·have ha : a ≠ 0 := by simpa using h5
  have hd := yCm (x := i - b) (y := a) (by omega) (by omega)
  try simp (maxSteps := 2000000) only [go_sem, ha]
  repeat with_reducible refine zAd ?_
  refine zAe rfl trivial (.inl ?_)
  congr 3
  rw [hh, if_neg ha]
  grind
def zER (a b i : Int) : Bool := if zNm a b = 0 ∧ 1 ≤ i ∧ i ≤ 1073741824 then (if a = 0 ∨ i = b then decide (i = b) else if 0 < a then decide (b < i) && decide ((i - b).tmod a = 0) else decide (i < b) && decide ((b - i).tmod (-a) = 0)) else false
theorem zJl (a b i : Int) : Contract Tryz.prog zDB [.val (yFa a b), .val (iv i)] { res := .val (bv (zER a b i)) } := by
 unfold yFa
 refine zPN (base := 0) ⟨Nat.le_of_ble_eq_true rfl, Nat.le_of_ble_eq_true rfl, Nat.le_of_ble_eq_true rfl, rfl⟩ (fun hfit => ?_)
 unfold F0 zEa
 simp (maxSteps := 2000000) only [zAE, List.set_cons_succ, List.set_cons_zero, List.map_cons, List.map_nil, zAD, zAb, ioOf, List.length_cons, List.length_nil, Nat.reduceAdd, Nat.reduceSub, List.replicate, List.cons_append, List.nil_append]
 try simp (maxSteps := 2000000) only [go_sem]
 repeat with_reducible refine zAd ?_
 refine zAi (by repeat' constructor) (zJk a b) ?_
 try simp (maxSteps := 2000000) only [go_sem]
 repeat with_reducible refine zAd ?_
 refine zAc (by rfl) trivial (fun h => ?_) (fun h => ?_)
 ·try simp (maxSteps := 2000000) only [go_sem]
  repeat with_reducible refine zAd ?_
  refine zAe rfl trivial (.inl ?_)
  congr 3
  unfold zER
  rw [if_neg (by simp at h; omega)]
 have h2 : zNm a b = 0 ∧ 1 ≤ i ∧ i ≤ 1073741824 := by simp at h; omega
 obtain ⟨h3, h4⟩ := yDI h2.1
 try simp (maxSteps := 2000000) only [go_sem]
 repeat with_reducible refine zAd ?_
 have hh : zER a b i = (if a = 0 ∨ i = b then decide (i = b) else if 0 < a then decide (b < i) && decide ((i - b).tmod a = 0) else decide (i < b) && decide ((b - i).tmod (-a) = 0)) := by
  unfold zER
  rw [if_pos h2]
 refine zAc (by rfl) trivial (fun h5 => ?_) (fun h5 => ?_)
 ·try simp (maxSteps := 2000000) only [go_sem]
  repeat with_reducible refine zAd ?_
  refine zAe rfl trivial (.inl ?_)
  congr 3
  rw [hh, if_pos (by simp at h5; omega)]
  grind
 have h6 : ¬ (a = 0 ∨ i = b) := by simp at h5; omega
 have ha : a ≠ 0 := by omega
 try simp (maxSteps := 2000000) only [go_sem]
 repeat with_reducible refine zAd ?_
 refine zAc (by rfl) trivial (fun h7 => ?_) (fun h7 => ?_)
 ·have h8 : 0 < a := by simpa using h7
  try simp (maxSteps := 2000000) only [go_sem, ha]
  repeat with_reducible refine zAd ?_
  refine zAe rfl trivial (.inl ?_)
  congr 3
  rw [hh, if_neg h6, if_pos h8]
  grind
 ·have h8 : ¬ 0 < a := by simpa using h7
  have hna : -a ≠ 0 := by omega
  try simp (maxSteps := 2000000) only [go_sem, hna]
  repeat with_reducible refine zAd ?_
  refine zAe rfl trivial (.inl ?_)
  congr 3
  rw [hh, if_neg h6, if_neg h8]
  grind
end Go.Hx
end

section
set_option maxRecDepth 100000
set_option linter.unusedSimpArgs false
namespace Go.Hx
open Go.Proofs
variable [Glob]
attribute [local go_sem] zAz zAA zAy zAt ndV zAw zAp zDb
attribute [local go_sem] reduceCtorEq Nat.reduceAdd Nat.reduceEqDiff reduceIte Nat.reduceLeDiff Nat.reduceLT Nat.reduceSub
theorem yDJ {α : Type} {p : α → Bool} {l : List α} {i : Nat} (d : α) (h : i < l.length) (h0 : (l.take i).find? p = none) : (p (l.getD i d) = true → l.find? p = some (l.getD i d)) ∧ (p (l.getD i d) = false → (l.take (i + 1)).find? p = none) := by
 have e1 : l = l.take i ++ l.getD i d :: l.drop (i + 1) := by
  have : l.drop i = l.getD i d :: l.drop (i + 1) := by
   rw [List.getD_eq_getElem?_getD, List.getElem?_eq_getElem h]; exact List.drop_eq_getElem_cons h
  rw [← this, List.take_append_drop]
 have e2 : l.take (i + 1) = l.take i ++ [l.getD i d] := by
  rw [List.take_add_one]; simp [h]
 refine ⟨fun hp => ?_, fun hp => ?_⟩
 ·rw [e1, List.find?_append, h0, Option.none_or]
  rw [← e1, List.find?_cons, hp]
 ·rw [e2, List.find?_append, h0, Option.none_or, List.find?_cons, hp]
  rfl
theorem zXR (x : Nd) (nm : Bys) (h : x.att.length ≤ 64) : Contract Tryz.prog zG3 [.val (.agg (ndV x)), .val (sv nm)] { res := .tup [sv ((zC0 x.att nm).getD []), bv (zC0 x.att nm).isSome] } := by
 unfold ndV
 refine zVa (base := 0) ⟨Nat.le_of_ble_eq_true rfl, Nat.le_of_ble_eq_true rfl, Nat.le_of_ble_eq_true rfl, rfl⟩ (fun hfit => ?_)
 unfold F0 zFO
 simp (maxSteps := 2000000) only [zAE, List.set_cons_succ, List.set_cons_zero, List.map_cons, List.map_nil, zAD, zAb, ioOf, List.length_cons, List.length_nil, Nat.reduceAdd, Nat.reduceSub, List.replicate, List.cons_append, List.nil_append]
 try simp (maxSteps := 2000000) only [go_sem]
 repeat with_reducible refine zAd ?_
 refine zAn (fun i : Nat => [(6, .pv (iv i)), (4, .un), (5, .un), (11, .un), (21, .un)]) (fun i : Nat => x.att.length - i) (fun i : Nat => i ≤ x.att.length ∧ (x.att.take i).find? (fun a => decide (a.1 = nm)) = none) (0) ?_ ⟨Nat.zero_le _, by simp⟩ ?_
 focus (simp (maxSteps := 2000000) only [go_sem, zAf, zAk, zAu, zAg]; all_goals (repeat' (first | exact trivial | exact zAl (by omega) | exact zAh rfl | exact zAs rfl | exact zAm | exact le_refl _ | refine And.intro ?_ ?_)))
 rintro i ⟨hi, hf⟩
 try simp (maxSteps := 2000000) only [go_sem]
 repeat with_reducible refine zAd ?_
 refine zAc (by rfl) trivial (fun g1 => ?_) (fun g1 => ?_)
 ·have hil : i < x.att.length := by simpa using g1
  have hv := zED x.att i hil
  obtain ⟨h1, h2⟩ := yDJ default hil hf
  obtain ⟨y, hy⟩ : ∃ y, y = x.att.getD i default := ⟨_, rfl⟩
  rw [← hy] at h1 h2 hv
  try simp (maxSteps := 2000000) only [go_sem, hv]
  repeat with_reducible refine zAd ?_
  refine zAc (by rfl) trivial (fun g2 => ?_) (fun g2 => ?_)
  ·try simp (maxSteps := 2000000) only [go_sem, hv]
   repeat with_reducible refine zAd ?_
   have e := h1 (by simpa using g2)
   exact zBI (by simp) ⟨zAR rfl trivial (.inl (by rw [zC0, e]; rfl)), zAR rfl trivial (.inl (by rw [zC0, e]; rfl)), rfl⟩
  ·try simp (maxSteps := 2000000) only [go_sem]
   repeat with_reducible refine zAd ?_
   refine ⟨i + 1, by omega, ⟨by omega, h2 (by simpa using g2)⟩, ?_⟩
   simp (maxSteps := 2000000) only [go_sem, zAf, zAk, zAu, zAg]
   all_goals (repeat' (first | exact trivial | exact zAl (by omega) | exact zAh rfl | exact zAs rfl | exact zAm | exact le_refl _ | refine And.intro ?_ ?_))
 ·try simp (maxSteps := 2000000) only [go_sem]
  repeat with_reducible refine zAd ?_
  have hil : i = x.att.length := by simp at g1; omega
  rw [hil, List.take_length] at hf
  exact zBI (by simp) ⟨zAR rfl trivial (.inl (by rw [zC0, hf]; rfl)), zAR rfl trivial (.inl (by rw [zC0, hf]; rfl)), rfl⟩
theorem zQs (s t : Bys) (i : Int) : (bif bif decide (0 ≤ i) then decide (i + t.length ≤ s.length) else false then ((s.take (i + t.length).toNat).drop i.toNat == t) else false) = zAT s t i := by
 by_cases h1 : 0 ≤ i
 ·by_cases h2 : i + t.length ≤ s.length
  ·have e : (i + (t.length : Int)).toNat = i.toNat + t.length := by omega
   have e2 : (s.take (i.toNat + t.length)).drop i.toNat = (s.drop i.toNat).take t.length := by rw [List.drop_take]; congr 1; omega
   simp only [zAT, h1, h2, e, e2, decide_true, cond_true, and_self, Bool.true_and]
   rw [Bool.eq_iff_iff, beq_iff_eq, decide_eq_true_eq]
  ·simp [zAT, h1, h2]
 ·simp [zAT, h1]
theorem zBD (s t : Bys) (i : Int) (hs : s.length ≤ 64) (ht : t.length ≤ 64) (hi : -100 ≤ i ∧ i ≤ 100) : Contract Tryz.prog zB9 [.val (sv s), .val (sv t), .val (iv i)] { res := .val (bv (zAT s t i)) } := by
 by_cases h1 : 0 ≤ i
 ·by_cases h2 : i + t.length ≤ s.length
  ·refine zFd (base := 0) ⟨Nat.le_of_ble_eq_true rfl, Nat.le_of_ble_eq_true rfl, Nat.le_of_ble_eq_true rfl, rfl⟩ (fun hfit => ?_)
   unfold F0 zCr
   simp (maxSteps := 2000000) only [zAE, List.set_cons_succ, List.set_cons_zero, List.map_cons, List.map_nil, zAD, zAb, ioOf, List.length_cons, List.length_nil, Nat.reduceAdd, Nat.reduceSub, List.replicate, List.cons_append, List.nil_append]
   try simp (maxSteps := 2000000) only [go_sem]
   repeat with_reducible refine zAd ?_
   exact zAe rfl trivial (.inl (by rw [zQs]))
  ·refine zFd (base := 0) ⟨Nat.le_of_ble_eq_true rfl, Nat.le_of_ble_eq_true rfl, Nat.le_of_ble_eq_true rfl, rfl⟩ (fun hfit => ?_)
   unfold F0 zCr
   simp (maxSteps := 2000000) only [zAE, List.set_cons_succ, List.set_cons_zero, List.map_cons, List.map_nil, zAD, zAb, ioOf, List.length_cons, List.length_nil, Nat.reduceAdd, Nat.reduceSub, List.replicate, List.cons_append, List.nil_append]
   try simp (maxSteps := 2000000) only [go_sem]
   repeat with_reducible refine zAd ?_
   exact zAe rfl trivial (.inl (by rw [zQs]))
 ·refine zFd (base := 0) ⟨Nat.le_of_ble_eq_true rfl, Nat.le_of_ble_eq_true rfl, Nat.le_of_ble_eq_true rfl, rfl⟩ (fun hfit => ?_)
  unfold F0 zCr
  simp (maxSteps := 2000000) only [zAE, List.set_cons_succ, List.set_cons_zero, List.map_cons, List.map_nil, zAD, zAb, ioOf, List.length_cons, List.length_nil, Nat.reduceAdd, Nat.reduceSub, List.replicate, List.cons_append, List.nil_append]
  try simp (maxSteps := 2000000) only [go_sem]
  repeat with_reducible refine zAd ?_
  exact zAe rfl trivial (.inl (by rw [zQs]))
theorem yDK {s t : Bys} {i : Nat} (h : zAT s t i = true) : i + t.length ≤ s.length := by
 simp only [zAT, Bool.and_eq_true, decide_eq_true_eq] at h
 omega
theorem zC1 {p : Nat → Bool} {n : Nat} : (List.range (n + 1)).any p = ((List.range n).any p || p n) := by
 rw [List.range_succ, List.any_append]; simp
theorem yG3 (c k : UInt8) : (((c.toNat : Int) == (k.toNat : Int)) : Bool) = decide (c = k) := by
 rw [Bool.eq_iff_iff, beq_iff_eq, decide_eq_true_eq, Int.ofNat_inj, UInt8.toNat_inj]
theorem yCn (s t : Bys) (hs : s.length ≤ 64) (ht : t.length ≤ 64) : Contract Tryz.prog zJF [.val (sv s), .val (sv t)] { res := .val (bv (zQV s t)) } := by
 have hb32 : ∀ c : UInt8, (((c.toNat : Int) == 32) : Bool) = decide (c = 32) := fun c => yG3 c 32
 refine zZ1 (base := 0) ⟨Nat.le_of_ble_eq_true rfl, Nat.le_of_ble_eq_true rfl, Nat.le_of_ble_eq_true rfl, rfl⟩ (fun hfit => ?_)
 unfold F0 zIE
 simp (maxSteps := 2000000) only [zAE, List.set_cons_succ, List.set_cons_zero, List.map_cons, List.map_nil, zAD, zAb, ioOf, List.length_cons, List.length_nil, Nat.reduceAdd, Nat.reduceSub, List.replicate, List.cons_append, List.nil_append]
 try simp (maxSteps := 2000000) only [go_sem]
 repeat with_reducible refine zAd ?_
 refine zAc (by rfl) trivial (fun g1 => ?_) (fun g1 => ?_)
 ·try simp (maxSteps := 2000000) only [go_sem]
  repeat with_reducible refine zAd ?_
  refine zAe rfl trivial (.inl ?_)
  congr 3
  have ht0 : t = [] := by simpa using g1
  simp [zQV, ht0]
 have ht0 : t ≠ [] := by simpa using g1
 try simp (maxSteps := 2000000) only [go_sem]
 repeat with_reducible refine zAd ?_
 refine zAn (fun i : Nat => [(5, .pv (iv i)), (4, .un), (12, .un), (18, .un)]) (fun i : Nat => t.length - i) (fun i : Nat => i ≤ t.length ∧ (t.take i).all (fun c => decide (c ≠ 32)) = true) (0) ?_ ⟨Nat.zero_le _, rfl⟩ ?_
 focus (simp (maxSteps := 2000000) only [go_sem, zAf, zAk, zAu, zAg]; all_goals (repeat' (first | exact trivial | exact zAl (by omega) | exact zAh rfl | exact zAs rfl | exact zAm | exact le_refl _ | refine And.intro ?_ ?_)))
 rintro i ⟨hi, ha⟩
 try simp (maxSteps := 2000000) only [go_sem]
 repeat with_reducible refine zAd ?_
 refine zAc (by rfl) trivial (fun g2 => ?_) (fun g2 => ?_)
 ·have hil : i < t.length := by simpa using g2
  have hst := zGR (p := fun c => decide (c ≠ (32 : UInt8))) (d := 0) hil
  try simp (maxSteps := 2000000) only [go_sem]
  repeat with_reducible refine zAd ?_
  refine zAc (by rfl) trivial (fun g3 => ?_) (fun g3 => ?_)
  ·try simp (maxSteps := 2000000) only [go_sem]
   repeat with_reducible refine zAd ?_
   have h32 : t.getD i 0 = 32 := by rw [hb32] at g3; simpa using g3
   refine zAe rfl trivial (.inl ?_)
   have : t.all (fun c => decide (c ≠ (32 : UInt8))) = false := by
    rw [List.all_eq_false]
    exact ⟨t.getD i 0, by simp [hil], by rw [h32]; simp⟩
   rw [zQV, this]
   simp
  ·try simp (maxSteps := 2000000) only [go_sem]
   repeat with_reducible refine zAd ?_
   refine ⟨i + 1, by omega, ⟨by omega, ?_⟩, ?_⟩
   ·rw [hst, ha]
    rw [hb32] at g3
    simpa using g3
   ·simp (maxSteps := 2000000) only [go_sem, zAf, zAk, zAu, zAg]
    all_goals (repeat' (first | exact trivial | exact zAl (by omega) | exact zAh rfl | exact zAs rfl | exact zAm | exact le_refl _ | refine And.intro ?_ ?_))
 ·have hil : i = t.length := by simp at g2; omega
  rw [hil, List.take_length] at ha
  have hin : ∀ j, j ≤ s.length → zEh s t j = true → zQV s t = true := by
   intro j hj h
   simp only [zQV, ha, Bool.and_true, Bool.and_eq_true, List.any_eq_true, List.mem_range]
   exact ⟨by simpa using ht0, j, by omega, h⟩
  try simp (maxSteps := 2000000) only [go_sem]
  repeat with_reducible refine zAd ?_
  refine zAn (fun j : Nat => [(6, .pv (iv j)), (4, .un), (22, .un), (57, .un)]) (fun j : Nat => s.length + 1 - j) (fun j : Nat => j ≤ s.length + 1 ∧ (List.range j).any (zEh s t) = false) (0) ?_ ⟨Nat.zero_le _, rfl⟩ ?_
  focus (simp (maxSteps := 2000000) only [go_sem, zAf, zAk, zAu, zAg]; all_goals (repeat' (first | exact trivial | exact zAl (by omega) | exact zAh rfl | exact zAs rfl | exact zAm | exact le_refl _ | refine And.intro ?_ ?_)))
  rintro j ⟨hj, hw⟩
  try simp (maxSteps := 2000000) only [go_sem]
  repeat with_reducible refine zAd ?_
  refine zAc (by rfl) trivial (fun g4 => ?_) (fun g4 => ?_)
  ·have hjl : j ≤ s.length := by simp at g4; omega
   have hsucc := zC1 (p := zEh s t) (n := j)
   try simp (maxSteps := 2000000) only [go_sem]
   repeat with_reducible refine zAd ?_
   cases hb : zAT s t j with
   | false =>
    refine zAi (by repeat' constructor) (zBD s t j hs ht (by omega)) ?_
    try simp (maxSteps := 2000000) only [go_sem, hb]
    repeat with_reducible refine zAd ?_
    refine zAc (by rfl) trivial (fun g5 => ?_) (fun g5 => ?_)
    ·try simp (maxSteps := 2000000) only [go_sem]
     repeat with_reducible refine zAd ?_
     exact zAe rfl trivial (.inl (by rw [hin j (by omega) (by revert g5; simp [zEh, hb, hb32])]))
    ·try simp (maxSteps := 2000000) only [go_sem]
     repeat with_reducible refine zAd ?_
     refine ⟨j + 1, by omega, ⟨by omega, ?_⟩, ?_⟩
     ·rw [hsucc, hw, Bool.false_or]
      revert g5
      simp [zEh, hb, hb32]
     ·simp (maxSteps := 2000000) only [go_sem, zAf, zAk, zAu, zAg]
      all_goals (repeat' (first | exact trivial | exact zAl (by omega) | exact zAh rfl | exact zAs rfl | exact zAm | exact le_refl _ | refine And.intro ?_ ?_))
   | true =>
    have hle := yDK hb
    by_cases hj0 : j = 0
    ·subst hj0
     have e0 : (((0 : Nat) : Int) + (t.length : Int)).toNat = t.length := by omega
     have hei : (((t.length : Nat) : Int) = (s.length : Int)) ↔ t.length = s.length := by omega
     have hb0 : zAT s t 0 = true := hb
     by_cases he : t.length = s.length
     ·refine zAi (by repeat' constructor) (zBD s t (0 : Nat) hs ht (by omega)) ?_
      try simp (maxSteps := 2000000) only [go_sem, hb, he]
      repeat with_reducible refine zAd ?_
      refine zAc (by rfl) trivial (fun g5 => ?_) (fun g5 => ?_)
      ·try simp (maxSteps := 2000000) only [go_sem]
       repeat with_reducible refine zAd ?_
       exact zAe rfl trivial (.inl (by rw [hin 0 (by omega) (by revert g5; simp [zEh, hb0, hb32, hei, he])]))
      ·try simp (maxSteps := 2000000) only [go_sem]
       repeat with_reducible refine zAd ?_
       refine ⟨0 + 1, by omega, ⟨by omega, ?_⟩, ?_⟩
       ·rw [hsucc, hw, Bool.false_or]
        revert g5
        simp [zEh, hb0, hb32, hei, he]
       ·simp (maxSteps := 2000000) only [go_sem, zAf, zAk, zAu, zAg]
        all_goals (repeat' (first | exact trivial | exact zAl (by omega) | exact zAh rfl | exact zAs rfl | exact zAm | exact le_refl _ | refine And.intro ?_ ?_))
     ·refine zAi (by repeat' constructor) (zBD s t (0 : Nat) hs ht (by omega)) ?_
      try simp (maxSteps := 2000000) only [go_sem, hb, e0]
      repeat with_reducible refine zAd ?_
      refine zAc (by rfl) trivial (fun g5 => ?_) (fun g5 => ?_)
      ·try simp (maxSteps := 2000000) only [go_sem]
       repeat with_reducible refine zAd ?_
       exact zAe rfl trivial (.inl (by rw [hin 0 (by omega) (by revert g5; simp [zEh, hb0, hb32, hei, he])]))
      ·try simp (maxSteps := 2000000) only [go_sem]
       repeat with_reducible refine zAd ?_
       refine ⟨0 + 1, by omega, ⟨by omega, ?_⟩, ?_⟩
       ·rw [hsucc, hw, Bool.false_or]
        revert g5
        simp [zEh, hb0, hb32, hei, he]
       ·simp (maxSteps := 2000000) only [go_sem, zAf, zAk, zAu, zAg]
        all_goals (repeat' (first | exact trivial | exact zAl (by omega) | exact zAh rfl | exact zAs rfl | exact zAm | exact le_refl _ | refine And.intro ?_ ?_))
    ·have e0 : ((j : Int) - 1).toNat = j - 1 := by omega
     have e1 : ((j : Int) + (t.length : Int)).toNat = j + t.length := by omega
     have hei : ((j : Int) + (t.length : Int) = (s.length : Int)) ↔ j + t.length = s.length := by omega
     by_cases he : j + t.length = s.length
     ·refine zAi (by repeat' constructor) (zBD s t j hs ht (by omega)) ?_
      try simp (maxSteps := 2000000) only [go_sem, hb, he, e0, e1]
      repeat with_reducible refine zAd ?_
      refine zAc (by rfl) trivial (fun g5 => ?_) (fun g5 => ?_)
      ·try simp (maxSteps := 2000000) only [go_sem]
       repeat with_reducible refine zAd ?_
       exact zAe rfl trivial (.inl (by rw [hin j (by omega) (by revert g5; simp [zEh, hb, hb32, hei, he, hj0])]))
      ·try simp (maxSteps := 2000000) only [go_sem]
       repeat with_reducible refine zAd ?_
       refine ⟨j + 1, by omega, ⟨by omega, ?_⟩, ?_⟩
       ·rw [hsucc, hw, Bool.false_or]
        revert g5
        simp [zEh, hb, hb32, hei, he, hj0]
       ·simp (maxSteps := 2000000) only [go_sem, zAf, zAk, zAu, zAg]
        all_goals (repeat' (first | exact trivial | exact zAl (by omega) | exact zAh rfl | exact zAs rfl | exact zAm | exact le_refl _ | refine And.intro ?_ ?_))
     ·refine zAi (by repeat' constructor) (zBD s t j hs ht (by omega)) ?_
      try simp (maxSteps := 2000000) only [go_sem, hb, e0, e1]
      repeat with_reducible refine zAd ?_
      refine zAc (by rfl) trivial (fun g5 => ?_) (fun g5 => ?_)
      ·try simp (maxSteps := 2000000) only [go_sem]
       repeat with_reducible refine zAd ?_
       exact zAe rfl trivial (.inl (by rw [hin j (by omega) (by revert g5; simp [zEh, hb, hb32, hei, he, hj0])]))
      ·try simp (maxSteps := 2000000) only [go_sem]
       repeat with_reducible refine zAd ?_
       refine ⟨j + 1, by omega, ⟨by omega, ?_⟩, ?_⟩
       ·rw [hsucc, hw, Bool.false_or]
        revert g5
        simp [zEh, hb, hb32, hei, he, hj0]
       ·simp (maxSteps := 2000000) only [go_sem, zAf, zAk, zAu, zAg]
        all_goals (repeat' (first | exact trivial | exact zAl (by omega) | exact zAh rfl | exact zAs rfl | exact zAm | exact le_refl _ | refine And.intro ?_ ?_))
  ·try simp (maxSteps := 2000000) only [go_sem]
   repeat with_reducible refine zAd ?_
   have hjl : j = s.length + 1 := by simp at g4; omega
   rw [hjl] at hw
   exact zAe rfl trivial (.inl (by rw [zQV, hw]; simp))
end Go.Hx
end

section
set_option maxRecDepth 100000
set_option linter.unusedSimpArgs false
namespace Go.Hx
open Go.Proofs
variable [Glob]
attribute [local go_sem] zAz zAA zAy zAt ndV zAw zAp zDb
attribute [local go_sem] reduceCtorEq Nat.reduceAdd Nat.reduceEqDiff reduceIte Nat.reduceLeDiff Nat.reduceLT Nat.reduceSub
theorem zMF (k : Int) (s t : Bys) (hs : s.length ≤ 64) (ht : t.length ≤ 64) : Contract Tryz.prog zDD [.val (iv k), .val (sv s), .val (sv t)] { res := .val (bv (zCU k s t)) } := by
 refine zK6 (base := 0) ⟨Nat.le_of_ble_eq_true rfl, Nat.le_of_ble_eq_true rfl, Nat.le_of_ble_eq_true rfl, rfl⟩ (fun hfit => ?_)
 unfold F0 zCN
 simp (maxSteps := 2000000) only [zAE, List.set_cons_succ, List.set_cons_zero, List.map_cons, List.map_nil, zAD, zAb, ioOf, List.length_cons, List.length_nil, Nat.reduceAdd, Nat.reduceSub, List.replicate, List.cons_append, List.nil_append]
 try simp (maxSteps := 2000000) only [go_sem]
 repeat with_reducible refine zAd ?_
 refine zAc (by rfl) trivial (fun g3 => ?_) (fun g3 => ?_)
 ·have hk : k = 3 := by simpa using g3
  try simp (maxSteps := 2000000) only [go_sem]
  repeat with_reducible refine zAd ?_
  exact zAe rfl trivial (.inl (by simp [zCU, hk]))
 have k3 : k ≠ 3 := by simpa using g3
 try simp (maxSteps := 2000000) only [go_sem]
 repeat with_reducible refine zAd ?_
 refine zAc (by rfl) trivial (fun g4 => ?_) (fun g4 => ?_)
 ·have hk : k = 4 := by simpa using g4
  try simp (maxSteps := 2000000) only [go_sem]
  repeat with_reducible refine zAd ?_
  refine zAe rfl trivial (.inl ?_)
  rw [zCU, if_neg k3, if_pos hk]
  congr 3
  rw [Bool.eq_iff_iff]; simp
 have k4 : k ≠ 4 := by simpa using g4
 try simp (maxSteps := 2000000) only [go_sem]
 repeat with_reducible refine zAd ?_
 refine zAc (by rfl) trivial (fun g8 => ?_) (fun g8 => ?_)
 ·have hk : k = 8 := by simpa using g8
  try simp (maxSteps := 2000000) only [go_sem]
  repeat with_reducible refine zAd ?_
  refine zAi (by repeat' constructor) (yCn s t hs ht) ?_
  try simp (maxSteps := 2000000) only [go_sem]
  repeat with_reducible refine zAd ?_
  refine zAe rfl trivial (.inl ?_)
  rw [zCU, if_neg k3, if_neg k4, if_pos hk]
 have k8 : k ≠ 8 := by simpa using g8
 try simp (maxSteps := 2000000) only [go_sem]
 repeat with_reducible refine zAd ?_
 have hv : zCU k s t = (if t = [] then false else if k = 5 then zAT s t 0 else if k = 6 then zAT s t ((s.length : Int) - t.length) else (List.range s.length).any fun i => zAT s t i) := by
  rw [zCU, if_neg k3, if_neg k4, if_neg k8]
 rw [hv]
 refine zAc (by rfl) trivial (fun g1 => ?_) (fun g1 => ?_)
 ·have h0 : t = [] := by simpa using g1
  try simp (maxSteps := 2000000) only [go_sem]
  repeat with_reducible refine zAd ?_
  exact zAe rfl trivial (.inl (by rw [if_pos h0]))
 have h0 : t ≠ [] := by simpa using g1
 rw [if_neg h0]
 try simp (maxSteps := 2000000) only [go_sem]
 repeat with_reducible refine zAd ?_
 refine zAc (by rfl) trivial (fun g5 => ?_) (fun g5 => ?_)
 ·have hk : k = 5 := by simpa using g5
  try simp (maxSteps := 2000000) only [go_sem]
  repeat with_reducible refine zAd ?_
  refine zAi (by repeat' constructor) (zBD s t 0 hs ht (by omega)) ?_
  try simp (maxSteps := 2000000) only [go_sem]
  repeat with_reducible refine zAd ?_
  exact zAe rfl trivial (.inl (by rw [if_pos hk]))
 have k5 : k ≠ 5 := by simpa using g5
 try simp (maxSteps := 2000000) only [go_sem]
 repeat with_reducible refine zAd ?_
 refine zAc (by rfl) trivial (fun g6 => ?_) (fun g6 => ?_)
 ·have hk : k = 6 := by simpa using g6
  try simp (maxSteps := 2000000) only [go_sem]
  repeat with_reducible refine zAd ?_
  refine zAi (by repeat' constructor) (zBD s t _ hs ht (by omega)) ?_
  try simp (maxSteps := 2000000) only [go_sem]
  repeat with_reducible refine zAd ?_
  exact zAe rfl trivial (.inl (by rw [if_neg k5, if_pos hk]))
 have k6 : k ≠ 6 := by simpa using g6
 try simp (maxSteps := 2000000) only [go_sem]
 repeat with_reducible refine zAd ?_
 rw [if_neg k5, if_neg k6]
 refine zAn (fun i : Nat => [(7, .pv (iv i)), (6, .un), (42, .un), (48, .un)]) (fun i : Nat => s.length - i) (fun i : Nat => i ≤ s.length ∧ (List.range i).any (fun i : Nat => zAT s t i) = false) (0) ?_ ⟨Nat.zero_le _, rfl⟩ ?_
 focus (simp (maxSteps := 2000000) only [go_sem, zAf, zAk, zAu, zAg]; all_goals (repeat' (first | exact trivial | exact zAl (by omega) | exact zAh rfl | exact zAs rfl | exact zAm | exact le_refl _ | refine And.intro ?_ ?_)))
 rintro i ⟨hi, hw⟩
 try simp (maxSteps := 2000000) only [go_sem]
 repeat with_reducible refine zAd ?_
 refine zAc (by rfl) trivial (fun g2 => ?_) (fun g2 => ?_)
 ·have hil : i < s.length := by simpa using g2
  try simp (maxSteps := 2000000) only [go_sem]
  repeat with_reducible refine zAd ?_
  refine zAi (by repeat' constructor) (zBD s t i hs ht (by omega)) ?_
  try simp (maxSteps := 2000000) only [go_sem]
  repeat with_reducible refine zAd ?_
  refine zAc (by rfl) trivial (fun g7 => ?_) (fun g7 => ?_)
  ·try simp (maxSteps := 2000000) only [go_sem]
   repeat with_reducible refine zAd ?_
   exact zAe rfl trivial (.inl (by rw [List.any_eq_true.2 ⟨i, List.mem_range.2 hil, g7⟩]))
  ·try simp (maxSteps := 2000000) only [go_sem]
   repeat with_reducible refine zAd ?_
   refine ⟨i + 1, by omega, ⟨by omega, ?_⟩, ?_⟩
   ·rw [zC1, hw, g7]; rfl
   ·simp (maxSteps := 2000000) only [go_sem, zAf, zAk, zAu, zAg]
    all_goals (repeat' (first | exact trivial | exact zAl (by omega) | exact zAh rfl | exact zAs rfl | exact zAm | exact le_refl _ | refine And.intro ?_ ?_))
 ·try simp (maxSteps := 2000000) only [go_sem]
  repeat with_reducible refine zAd ?_
  have hil : i = s.length := by simp at g2; omega
  rw [hil] at hw
  exact zAe rfl trivial (.inl (by rw [hw]))
theorem zVu (d : List Nd) (n : Nat) : zCD d n = if n = 0 then [0] else zEy d (zA2 d n) := rfl
theorem zNi (d : List Nd) (n : Nat) (hl : d.length ≤ 64) (hn : n < d.length) : Contract Tryz.prog zEO [.val (zDb d), .val (iv n)] { res := .own zE8 1 (zB0 (zCD d n)) } := by
 have hv := zA5 d n hn
 unfold zDb
 refine zVf (base := 0) ⟨Nat.le_of_ble_eq_true rfl, Nat.le_of_ble_eq_true rfl, Nat.le_of_ble_eq_true rfl, rfl⟩ (fun hfit => ?_)
 unfold F0 zFP
 simp (maxSteps := 2000000) only [zAE, List.set_cons_succ, List.set_cons_zero, List.map_cons, List.map_nil, zAD, zAb, ioOf, List.length_cons, List.length_nil, Nat.reduceAdd, Nat.reduceSub, List.replicate, List.cons_append, List.nil_append]
 try simp (maxSteps := 2000000) only [go_sem]
 repeat with_reducible refine zAd ?_
 refine zAc (by rfl) trivial (fun g1 => ?_) (fun g1 => ?_)
 ·have h0 : n = 0 := by simpa using g1
  try simp (maxSteps := 2000000) only [go_sem]
  repeat with_reducible refine zAd ?_
  refine zZk ?_
  rw [zVu, if_pos h0]
  rfl
 ·have h0 : n ≠ 0 := by simpa using g1
  have hk := zNg d (zA2 d n) hl
  try simp (maxSteps := 2000000) only [go_sem, hv, ndV]
  repeat with_reducible refine zAd ?_
  refine zOo (by repeat' constructor) (hk) ?_
  try simp (maxSteps := 2000000) only [go_sem]
  repeat with_reducible refine zAd ?_
  refine zZk ?_
  rw [zVu, if_neg h0]
  rfl
theorem zJ0 {α : Type} {l : List α} {i : Nat} (d : α) (h : i < l.length) : l.take (i + 1) = l.take i ++ [l.getD i d] := by
 rw [List.take_add_one]; simp [h]
theorem yCo {l : List Int} {n : Int} {i : Nat} (h : i < l.length) (h0 : (l.take i).findIdx? (fun x => decide (x = n)) = none) : (l.getD i 0 = n → zAZ l n = i) ∧ (l.getD i 0 ≠ n → (l.take (i + 1)).findIdx? (fun x => decide (x = n)) = none) := by
 rw [List.findIdx?_eq_none_iff] at h0
 refine ⟨fun e => ?_, fun e => ?_⟩
 ·unfold zAZ
  have : l.findIdx? (fun x => decide (x = n)) = some i := by
   rw [List.findIdx?_eq_some_iff_getElem]
   refine ⟨h, by simpa [h] using e, fun j hj => ?_⟩
   have := h0 l[j] (by rw [List.mem_take_iff_getElem]; exact ⟨j, by omega, rfl⟩)
   simpa using this
  rw [this]
 ·rw [List.findIdx?_eq_none_iff, zJ0 0 h]
  intro x hx
  rcases List.mem_append.1 hx with hx | hx
  ·exact h0 x hx
  ·rw [List.mem_singleton.1 hx]
   simpa using e
theorem zES (l : List Int) (n : Int) (hl : l.length ≤ 64) : Contract Tryz.prog zCq [.val (.one (.sl 1 (zB0 l))), .val (iv n)] { res := .val (iv (zAZ l n)) } := by
 refine zR0 (base := 0) ⟨Nat.le_of_ble_eq_true rfl, Nat.le_of_ble_eq_true rfl, Nat.le_of_ble_eq_true rfl, rfl⟩ (fun hfit => ?_)
 unfold F0 zEP
 simp (maxSteps := 2000000) only [zAE, List.set_cons_succ, List.set_cons_zero, List.map_cons, List.map_nil, zAD, zAb, ioOf, List.length_cons, List.length_nil, Nat.reduceAdd, Nat.reduceSub, List.replicate, List.cons_append, List.nil_append]
 try simp (maxSteps := 2000000) only [go_sem]
 repeat with_reducible refine zAd ?_
 refine zAn (fun i : Nat => [(5, .pv (iv i)), (4, .un), (9, .un), (17, .un)]) (fun i : Nat => l.length - i) (fun i : Nat => i ≤ l.length ∧ (l.take i).findIdx? (fun x => decide (x = n)) = none) (0) ?_ ⟨Nat.zero_le _, by simp⟩ ?_
 focus (simp (maxSteps := 2000000) only [go_sem, zAf, zAk, zAu, zAg]; all_goals (repeat' (first | exact trivial | exact zAl (by omega) | exact zAh rfl | exact zAs rfl | exact zAm | exact le_refl _ | refine And.intro ?_ ?_)))
 rintro i ⟨hi, hw⟩
 try simp (maxSteps := 2000000) only [go_sem]
 repeat with_reducible refine zAd ?_
 refine zAc (by rfl) trivial (fun g1 => ?_) (fun g1 => ?_)
 ·have hil : i < l.length := by simpa using g1
  have hv := zE4 l i hil
  obtain ⟨h1, h2⟩ := yCo hil hw
  obtain ⟨y, hy⟩ : ∃ y, y = l.getD i 0 := ⟨_, rfl⟩
  rw [← hy] at h1 h2 hv
  try simp (maxSteps := 2000000) only [go_sem, hv]
  repeat with_reducible refine zAd ?_
  refine zAc (by rfl) trivial (fun g2 => ?_) (fun g2 => ?_)
  ·try simp (maxSteps := 2000000) only [go_sem]
   repeat with_reducible refine zAd ?_
   exact zAe rfl trivial (.inl (by rw [h1 (by simpa using g2)]))
  ·try simp (maxSteps := 2000000) only [go_sem]
   repeat with_reducible refine zAd ?_
   refine ⟨i + 1, by omega, ⟨by omega, h2 (by simpa using g2)⟩, ?_⟩
   simp (maxSteps := 2000000) only [go_sem, zAf, zAk, zAu, zAg]
   all_goals (repeat' (first | exact trivial | exact zAl (by omega) | exact zAh rfl | exact zAs rfl | exact zAm | exact le_refl _ | refine And.intro ?_ ?_))
 ·try simp (maxSteps := 2000000) only [go_sem]
  repeat with_reducible refine zAd ?_
  have hil : i = l.length := by simp at g1; omega
  rw [hil, List.take_length] at hw
  exact zAe rfl trivial (.inl (by unfold zAZ; rw [hw]))
end Go.Hx
end

section
set_option maxRecDepth 100000
set_option linter.unusedSimpArgs false
namespace Go.Hx
open Go.Proofs
variable [Glob]
attribute [local go_sem] zAz zAA zAy zAt ndV zAw zAp zDb List.take_nil
attribute [local go_sem] reduceCtorEq Nat.reduceAdd Nat.reduceEqDiff reduceIte Nat.reduceLeDiff Nat.reduceLT Nat.reduceSub
theorem zXS (d : List Nd) (n : Nat) (hl : d.length ≤ 64) : (zCD d n).length ≤ 64 := by
 rw [zVu]
 split
 ·simp
 ·exact Nat.le_trans (zD1 _) hl
theorem zQt (l : List Int) (n : Int) (hl : l.length ≤ 64) : -1 ≤ zAZ l n ∧ zAZ l n ≤ 64 := by
 unfold zAZ
 split
 ·rename_i i hi
  have := (List.findIdx?_eq_some_iff_getElem.1 hi).1
  omega
 ·omega
theorem zLi (d : List Nd) (hd : zCC d d.length = true) (hl : d.length ≤ 64) (lk : Int) (m n : Nat) (hn : n < d.length) : Contract Tryz.prog zF0 [.val (zDb d), .val (iv lk), .val (iv m), .val (iv n)] { res := .val (bv (zDx d lk m n)) } := by
 have hv := zA5 d n hn
 have hfl := zXS d n hl
 have hp1 := zQt (zCD d n) m hfl
 have hp2 := zQt (zCD d n) n hfl
 unfold zDb
 refine zSy (base := 0) ⟨Nat.le_of_ble_eq_true rfl, Nat.le_of_ble_eq_true rfl, Nat.le_of_ble_eq_true rfl, rfl⟩ (fun hfit => ?_)
 unfold F0 zEQ
 simp (maxSteps := 2000000) only [zAE, List.set_cons_succ, List.set_cons_zero, List.map_cons, List.map_nil, zAD, zAb, ioOf, List.length_cons, List.length_nil, Nat.reduceAdd, Nat.reduceSub, List.replicate, List.cons_append, List.nil_append]
 try simp (maxSteps := 2000000) only [go_sem]
 repeat with_reducible refine zAd ?_
 refine zAc (by rfl) trivial (fun g1 => ?_) (fun g1 => ?_)
 ·have h1 : lk = 1 := by simpa using g1
  try simp (maxSteps := 2000000) only [go_sem]
  repeat with_reducible refine zAd ?_
  refine zAi (by repeat' constructor) (zQp d hd m n hn) ?_
  try simp (maxSteps := 2000000) only [go_sem]
  repeat with_reducible refine zAd ?_
  exact zAe rfl trivial (.inl (by rw [zDx, if_pos h1]; rfl))
 have h1 : lk ≠ 1 := by simpa using g1
 try simp (maxSteps := 2000000) only [go_sem]
 repeat with_reducible refine zAd ?_
 refine zAc (by rfl) trivial (fun g2 => ?_) (fun g2 => ?_)
 ·have h2 : lk = 2 := by simpa using g2
  try simp (maxSteps := 2000000) only [go_sem, hv, ndV]
  repeat with_reducible refine zAd ?_
  refine zAe rfl trivial (.inl ?_)
  rw [zDx, if_neg h1, if_pos h2]
  congr 3
  try (rw [Bool.eq_iff_iff]; simp [zA2])
 have h2 : lk ≠ 2 := by simpa using g2
 try simp (maxSteps := 2000000) only [go_sem]
 repeat with_reducible refine zAd ?_
 refine zOo (by repeat' constructor) (zNi d n hl hn) ?_
 try simp (maxSteps := 2000000) only [go_sem]
 repeat with_reducible refine zAd ?_
 refine zAi (by repeat' constructor) (zES (zCD d n) m hfl) ?_
 try simp (maxSteps := 2000000) only [go_sem]
 repeat with_reducible refine zAd ?_
 refine zAi (by repeat' constructor) (zES (zCD d n) n hfl) ?_
 try simp (maxSteps := 2000000) only [go_sem]
 repeat with_reducible refine zAd ?_
 refine zAc (by rfl) trivial (fun g3 => ?_) (fun g3 => ?_)
 ·have h3 : lk = 3 := by simpa using g3
  try simp (maxSteps := 2000000) only [go_sem]
  repeat with_reducible refine zAd ?_
  refine zAe rfl trivial (.inl ?_)
  rw [zDx, if_neg h1, if_neg h2, if_pos h3]
  congr 3
  by_cases h0 : 0 ≤ zAZ (zCD d n) m <;> simp [h0]
  try (rw [Bool.eq_iff_iff]; simp)
 have h3 : lk ≠ 3 := by simpa using g3
 try simp (maxSteps := 2000000) only [go_sem]
 repeat with_reducible refine zAd ?_
 refine zAe rfl trivial (.inl ?_)
 rw [zDx, if_neg h1, if_neg h2, if_neg h3]
 congr 3
 by_cases h0 : 0 ≤ zAZ (zCD d n) m <;> simp [h0]
theorem zXT {s : Bys} (h : zCB s = true) : s.length ≤ 16 := by
 simp only [zCB, Bool.and_eq_true, decide_eq_true_eq] at h
 exact h.1
theorem yDL {l : List (Bys × Bys)} {i : Nat} (h : okA l l.length = true) (hi : i < l.length) : (l.getD i default).2.length ≤ 16 := by
 have := zAS h hi
 simp only [aOk, Bool.and_eq_true] at this
 exact zXT this.1.2
theorem yCp {l : List (Bys × Bys)} {nm s : Bys} (h : okA l l.length = true) (hs : zC0 l nm = some s) : s.length ≤ 16 := by
 unfold zC0 at hs
 rw [Option.map_eq_some_iff] at hs
 obtain ⟨a, ha, rfl⟩ := hs
 obtain ⟨i, hi, rfl⟩ := List.getElem_of_mem (List.mem_of_find?_eq_some ha)
 have := yDL h hi
 simpa [hi] using this
theorem yCq {x : Nd} (h : zBS x = true) : x.cls.length ≤ 6 ∧ x.att.length ≤ 4 ∧ okA x.att x.att.length = true := by
 simp only [zBS, Bool.and_eq_true, decide_eq_true_eq] at h
 exact ⟨h.1.1.1.2, h.1.1.2, h.2⟩
theorem yCr {d : List Nd} (hd : zCC d d.length = true) {n : Nat} (hn : n < d.length) : zBS (d.getD n default) = true := by
 have := zAS hd hn
 simp only [zWz, Bool.and_eq_true] at this
 exact this.1
theorem zTa {α : Type} {p : α → Bool} {l : List α} {i : Nat} (d : α) (h : i < l.length) : (l.take (i + 1)).any p = ((l.take i).any p || p (l.getD i d)) := by
 rw [zJ0 d h, List.any_append]; simp
theorem zIF {α : Type} {p : α → Bool} {l : List α} {i : Nat} (d : α) (h : i < l.length) : (l.take (i + 1)).all p = ((l.take i).all p && p (l.getD i d)) := by
 rw [zJ0 d h, List.all_append]; simp
theorem zXU {α : Type} {p : α → Bool} {l : List α} {i : Nat} {d : α} (h : i < l.length) (hp : p (l.getD i d) = true) : l.any p = true :=
 List.any_eq_true.2 ⟨l.getD i d, by simp [h], hp⟩
theorem zLj {α : Type} {p : α → Bool} {l : List α} {i : Nat} {d : α} (h : i < l.length) (hp : p (l.getD i d) = false) : l.all p = false :=
 List.all_eq_false.2 ⟨l.getD i d, by simp [h], by simp only [hp]; simp⟩
theorem yDM (d : List Nd) (n : Nat) : (zEy d n).length = (yBR d n).length := by
 unfold zEy zAK yBR
 rw [List.length_map]
end Go.Hx
end

section
set_option maxRecDepth 100000
set_option linter.unusedSimpArgs false
namespace Go.Hx
open Go.Proofs
variable [Glob]
attribute [local go_sem] zAz zAA zAy zAt ndV zAw zAp zDb List.take_nil
attribute [local go_sem] reduceCtorEq Nat.reduceAdd Nat.reduceEqDiff reduceIte Nat.reduceLeDiff Nat.reduceLT Nat.reduceSub
theorem zZ5 {v : Bys} {k : Int} (h : if 4 ≤ k ∧ k ≤ 8 then zCB v = true else v = []) : v.length ≤ 64 := by
 split at h
 ·have := zXT h; omega
 ·rw [h]; simp
set_option maxHeartbeats 16000000 in
theorem zXV (d : List Nd) (hd : zCC d d.length = true) (hl : d.length ≤ 64) (e : Nat) (t : Ts) (ht : GT t e)
  (hL : 13 ≤ t.kind → ∀ m : Nat, m < d.length → Contract Tryz.prog zBd [.val (zDb d), .val (zAU t.list), .val (iv m)] { res := .val (bv (lM d t.list m)) })
  (n : Nat) (hn : n < d.length) : Contract Tryz.prog zCM [.val (zDb d), .val (.agg (tsV t)), .val (iv n)] { res := .val (bv (tM d t n)) } := by
 have hv := zA5 d n hn
 have hnf := yCr hd hn
 have hfl := zXS d n hl
 have hp := zQt (zCD d n) n hfl
 have hk := zNg d n hl
 obtain ⟨k, nm, v, a, b, l⟩ := t
 obtain ⟨k1, _, hval, _, hnth, _⟩ := ht.parts
 have hvl := zZ5 hval
 have hL' : 13 ≤ k → ∀ m : Nat, m < d.length → Contract Tryz.prog zBd [.val (zDb d), .val (zAU l), .val (iv m)] { res := .val (bv (lM d l m)) } := hL
 rw [tM]
 obtain ⟨x, hx⟩ : ∃ x, x = d.getD n default := ⟨_, rfl⟩
 obtain ⟨x1, x2, x3⟩ := yCq (hx ▸ hnf)
 have hx0 := hx
 rw [← hx] at hv
 have hA := zXR x nm (by omega)
 unfold zDb
 unfold tsV
 unfold zDb at hL' hk
 unfold zAU at hL'
 rw [ndV] at hv hA
 have hfam := zNi d n hl hn
 unfold zDb at hfam
 refine zVr (base := 0) ⟨Nat.le_of_ble_eq_true rfl, Nat.le_of_ble_eq_true rfl, Nat.le_of_ble_eq_true rfl, rfl⟩ (fun hfit => ?_)
 unfold F0 zFQ
 simp (maxSteps := 2000000) only [zAE, List.set_cons_succ, List.set_cons_zero, List.map_cons, List.map_nil, zAD, zAb, ioOf, List.length_cons, List.length_nil, Nat.reduceAdd, Nat.reduceSub, List.replicate, List.cons_append, List.nil_append]
 try simp (maxSteps := 2000000) only [go_sem]
 repeat with_reducible refine zAd ?_
 try simp (maxSteps := 2000000) only [go_sem, hv]
 repeat with_reducible refine zAd ?_
 refine zOo (by repeat' constructor) (hfam) ?_
 try simp (maxSteps := 2000000) only [go_sem]
 repeat with_reducible refine zAd ?_
 refine zAc (by rfl) trivial (fun g1 => ?_) (fun g1 => ?_)
 ·have h1 : k = 1 := by simpa using g1
  subst h1
  try simp (maxSteps := 2000000) only [go_sem]
  repeat with_reducible refine zAd ?_
  refine zAn (fun i : Nat => [(9, .pv (iv i)), (6, .un), (29, .un), (39, .un)]) (fun i : Nat => x.cls.length - i) (fun i : Nat => i ≤ x.cls.length ∧ (x.cls.take i).any (fun c => decide (c = nm)) = false) (0) ?_ ⟨Nat.zero_le _, by simp⟩ ?_
  focus (simp (maxSteps := 2000000) only [go_sem, zAf, zAk, zAu, zAg]; all_goals (repeat' (first | exact trivial | exact zAl (by omega) | exact zAh rfl | exact zAs rfl | exact zAm | exact le_refl _ | refine And.intro ?_ ?_)))
  rintro i ⟨hi, hw⟩
  try simp (maxSteps := 2000000) only [go_sem]
  repeat with_reducible refine zAd ?_
  refine zAc (by rfl) trivial (fun g2 => ?_) (fun g2 => ?_)
  ·have hil : i < x.cls.length := by simpa using g2
   have hcv := zIA x.cls i hil
   have hcs := zTa (p := fun c => decide (c = nm)) ([] : Bys) hil
   obtain ⟨y, hy⟩ : ∃ y, y = x.cls.getD i [] := ⟨_, rfl⟩
   have hany := zXU (p := fun c => decide (c = nm)) (d := ([] : Bys)) hil
   rw [← hy] at hcv hcs hany
   try simp (maxSteps := 2000000) only [go_sem, hcv]
   repeat with_reducible refine zAd ?_
   refine zAc (by rfl) trivial (fun g3 => ?_) (fun g3 => ?_)
   ·try simp (maxSteps := 2000000) only [go_sem]
    repeat with_reducible refine zAd ?_
    refine zAe rfl trivial (.inl ?_)
    have e : y = nm := by simpa using g3
    simp only [zE5, ← hx0, if_true]
    rw [hany (by simpa using e)]
   ·try simp (maxSteps := 2000000) only [go_sem]
    repeat with_reducible refine zAd ?_
    refine ⟨i + 1, by omega, ⟨by omega, ?_⟩, ?_⟩
    ·rw [hcs, hw]; simpa using g3
    ·simp (maxSteps := 2000000) only [go_sem, zAf, zAk, zAu, zAg]
     all_goals (repeat' (first | exact trivial | exact zAl (by omega) | exact zAh rfl | exact zAs rfl | exact zAm | exact le_refl _ | refine And.intro ?_ ?_))
  ·try simp (maxSteps := 2000000) only [go_sem]
   repeat with_reducible refine zAd ?_
   have hil : i = x.cls.length := by simp at g2; omega
   rw [hil, List.take_length] at hw
   refine zAe rfl trivial (.inl ?_)
   simp only [zE5, ← hx0, if_true]
   rw [hw]
 have h1 : k ≠ 1 := by simpa using g1
 try simp (maxSteps := 2000000) only [go_sem]
 repeat with_reducible refine zAd ?_
 refine zAc (by rfl) trivial (fun g2 => ?_) (fun g2 => ?_)
 ·have h2 : k = 2 := by simpa using g2
  subst h2
  try simp (maxSteps := 2000000) only [go_sem]
  repeat with_reducible refine zAd ?_
  refine zAe rfl trivial (.inl ?_)
  simp only [zE5, ← hx0, if_true]
  rw [if_neg (by decide)]
  congr 3
  try (rw [Bool.eq_iff_iff]; simp)
 have h2 : k ≠ 2 := by simpa using g2
 try simp (maxSteps := 2000000) only [go_sem]
 repeat with_reducible refine zAd ?_
 refine zAi (by repeat' constructor) (zBo k 3 8) ?_
 try simp (maxSteps := 2000000) only [go_sem]
 repeat with_reducible refine zAd ?_
 refine zAc (by rfl) trivial (fun g3 => ?_) (fun g3 => ?_)
 ·have h3 : 3 ≤ k ∧ k ≤ 8 := by simpa using g3
  try simp (maxSteps := 2000000) only [go_sem]
  repeat with_reducible refine zAd ?_
  refine zB2 (by repeat' constructor) (hA) ?_
  try simp (maxSteps := 2000000) only [go_sem]
  repeat with_reducible refine zAd ?_
  have hres : zE5 d k nm v a b (lM d l) n = (match zC0 x.att nm with | some s => zCU k s v | none => false) := by
   simp only [zE5, ← hx0]
   rw [if_neg h1, if_neg h2, if_pos h3.2]
   rfl
  rw [hres]
  cases hat : zC0 x.att nm with
  | none =>
   try simp (maxSteps := 2000000) only [go_sem, Option.isSome_none, Option.getD_none]
   repeat with_reducible refine zAd ?_
   refine zLk (by rfl) ?_
   try simp (maxSteps := 2000000) only [go_sem]
   repeat with_reducible refine zAd ?_
   exact zAe rfl trivial (.inl rfl)
  | some s =>
   have hsl := yCp x3 hat
   try simp (maxSteps := 2000000) only [go_sem, Option.isSome_some, Option.getD_some]
   repeat with_reducible refine zAd ?_
   apply zAq (h2 := fun _ => zMF k s v (by omega) hvl)
   ·(simp (maxSteps := 2000000) only [go_sem]; rfl)
   ·intro h; repeat' (first | exact trivial | exact h | refine And.intro ?_ ?_)
   try simp (maxSteps := 2000000) only [go_sem]
   repeat with_reducible refine zAd ?_
   exact zAe rfl trivial (.inl (by simp))
 have h3 : ¬ (3 ≤ k ∧ k ≤ 8) := by simpa using g3
 have h8 : ¬ k ≤ 8 := by omega
 have hnr : ∀ i, zER a b i = zWF a b i := fun _ => rfl
 try simp (maxSteps := 2000000) only [go_sem]
 repeat with_reducible refine zAd ?_
 refine zAc (by rfl) trivial (fun g9 => ?_) (fun g9 => ?_)
 ·have h9 : k = 9 := by simpa using g9
  try simp (maxSteps := 2000000) only [go_sem]
  repeat with_reducible refine zAd ?_
  refine zAi (by repeat' constructor) (zES (zCD d n) n hfl) ?_
  try simp (maxSteps := 2000000) only [go_sem]
  repeat with_reducible refine zAd ?_
  refine zAi (by repeat' constructor) (zJl a b _) ?_
  try simp (maxSteps := 2000000) only [go_sem]
  repeat with_reducible refine zAd ?_
  refine zAe rfl trivial (.inl ?_)
  simp only [zE5]
  rw [if_neg h1, if_neg h2, if_neg h8, if_pos h9]
  rfl
 have h9 : k ≠ 9 := by simpa using g9
 try simp (maxSteps := 2000000) only [go_sem]
 repeat with_reducible refine zAd ?_
 refine zAc (by rfl) trivial (fun g10 => ?_) (fun g10 => ?_)
 ·have h10 : k = 10 := by simpa using g10
  try simp (maxSteps := 2000000) only [go_sem]
  repeat with_reducible refine zAd ?_
  refine zAi (by repeat' constructor) (zES (zCD d n) n hfl) ?_
  try simp (maxSteps := 2000000) only [go_sem]
  repeat with_reducible refine zAd ?_
  refine zAi (by repeat' constructor) (zJl a b _) ?_
  try simp (maxSteps := 2000000) only [go_sem]
  repeat with_reducible refine zAd ?_
  refine zAe rfl trivial (.inl ?_)
  simp only [zE5]
  rw [if_neg h1, if_neg h2, if_neg h8, if_neg h9, if_pos h10]
  rfl
 have h10 : k ≠ 10 := by simpa using g10
 try simp (maxSteps := 2000000) only [go_sem]
 repeat with_reducible refine zAd ?_
 refine zAc (by rfl) trivial (fun g11 => ?_) (fun g11 => ?_)
 ·have h11 : k = 11 := by simpa using g11
  try simp (maxSteps := 2000000) only [go_sem]
  repeat with_reducible refine zAd ?_
  refine zOo (by repeat' constructor) (hk) ?_
  try simp (maxSteps := 2000000) only [go_sem]
  repeat with_reducible refine zAd ?_
  refine zAe rfl trivial (.inl ?_)
  simp only [zE5]
  rw [if_neg h1, if_neg h2, if_neg h8, if_neg h9, if_neg h10, if_pos h11]
  have := yDM d n
  have e : decide (yBR d n = []) = (((zEy d n).length : Int) == 0) := by
   rw [Bool.eq_iff_iff]
   simp only [decide_eq_true_eq, beq_iff_eq]
   rw [← List.length_eq_zero_iff]
   omega
  rw [e]
 have h11 : k ≠ 11 := by simpa using g11
 try simp (maxSteps := 2000000) only [go_sem]
 repeat with_reducible refine zAd ?_
 refine zAc (by rfl) trivial (fun g12 => ?_) (fun g12 => ?_)
 ·have h12 : k = 12 := by simpa using g12
  try simp (maxSteps := 2000000) only [go_sem]
  repeat with_reducible refine zAd ?_
  refine zAe rfl trivial (.inl ?_)
  simp only [zE5]
  rw [if_neg h1, if_neg h2, if_neg h8, if_neg h9, if_neg h10, if_neg h11, if_pos h12]
  have e : decide (n = 0) = ((n : Int) == 0) := by
   rw [Bool.eq_iff_iff]
   simp only [decide_eq_true_eq, beq_iff_eq]
   omega
  rw [e]
 have h12 : k ≠ 12 := by simpa using g12
 have hL := hL' (by omega)
 try simp (maxSteps := 2000000) only [go_sem]
 repeat with_reducible refine zAd ?_
 refine zAc (by rfl) trivial (fun g13 => ?_) (fun g13 => ?_)
 ·have h13 : k = 13 := by simpa using g13
  try simp (maxSteps := 2000000) only [go_sem]
  repeat with_reducible refine zAd ?_
  refine zAi (by repeat' constructor) (hL n hn) ?_
  try simp (maxSteps := 2000000) only [go_sem]
  repeat with_reducible refine zAd ?_
  refine zAe rfl trivial (.inl ?_)
  simp only [zE5]
  rw [if_neg h1, if_neg h2, if_neg h8, if_neg h9, if_neg h10, if_neg h11, if_neg h12, if_pos h13]
 have h13 : k ≠ 13 := by simpa using g13
 try simp (maxSteps := 2000000) only [go_sem]
 repeat with_reducible refine zAd ?_
 refine zAc (by rfl) trivial (fun g14 => ?_) (fun g14 => ?_)
 ·have h14 : k = 14 := by simpa using g14
  try simp (maxSteps := 2000000) only [go_sem]
  repeat with_reducible refine zAd ?_
  refine zAi (by repeat' constructor) (hL n hn) ?_
  try simp (maxSteps := 2000000) only [go_sem]
  repeat with_reducible refine zAd ?_
  refine zAe rfl trivial (.inl ?_)
  simp only [zE5]
  rw [if_neg h1, if_neg h2, if_neg h8, if_neg h9, if_neg h10, if_neg h11, if_neg h12, if_neg h13, if_pos h14]
 have h14 : k ≠ 14 := by simpa using g14
 have hres : zE5 d k nm v a b (lM d l) n = (List.range d.length).any fun m => zEx d n m && lM d l m := by
  simp only [zE5]
  rw [if_neg h1, if_neg h2, if_neg h8, if_neg h9, if_neg h10, if_neg h11, if_neg h12, if_neg h13, if_neg h14]
 rw [hres]
 try simp (maxSteps := 2000000) only [go_sem]
 repeat with_reducible refine zAd ?_
 refine zAn (fun i : Nat => [(12, .pv (iv i)), (6, .un), (131, .un), (144, .un)]) (fun i : Nat => d.length - i) (fun i : Nat => i ≤ d.length ∧ (List.range i).any (fun m => zEx d n m && lM d l m) = false) (0) ?_ ⟨Nat.zero_le _, rfl⟩ ?_
 focus (simp (maxSteps := 2000000) only [go_sem, zAf, zAk, zAu, zAg]; all_goals (repeat' (first | exact trivial | exact zAl (by omega) | exact zAh rfl | exact zAs rfl | exact zAm | exact le_refl _ | refine And.intro ?_ ?_)))
 rintro i ⟨hi, hw⟩
 try simp (maxSteps := 2000000) only [go_sem]
 repeat with_reducible refine zAd ?_
 refine zAc (by rfl) trivial (fun g15 => ?_) (fun g15 => ?_)
 ·have hil : i < d.length := by simpa using g15
  have hsucc := zC1 (p := fun m => zEx d n m && lM d l m) (n := i)
  have hab := zQp d hd n i hil
  have hin : (zEx d n i && lM d l i) = true → (List.range d.length).any (fun m => zEx d n m && lM d l m) = true := fun h => List.any_eq_true.2 ⟨i, List.mem_range.2 hil, h⟩
  have hab' : (zA7 d d.length (zA2 d i)).contains (n : Int) = zEx d n i := rfl
  rw [hab'] at hab
  unfold zDb at hab
  try simp (maxSteps := 2000000) only [go_sem]
  repeat with_reducible refine zAd ?_
  cases hb : zEx d n i with
  | false =>
   rw [hb] at hab hin hsucc
   refine zAi (by repeat' constructor) (hab) ?_
   try simp (maxSteps := 2000000) only [go_sem]
   repeat with_reducible refine zAd ?_
   refine zLk (by rfl) ?_
   try simp (maxSteps := 2000000) only [go_sem]
   repeat with_reducible refine zAd ?_
   refine zAc (by rfl) trivial (fun g16 => ?_) (fun g16 => ?_)
   ·simp at g16
   ·try simp (maxSteps := 2000000) only [go_sem]
    repeat with_reducible refine zAd ?_
    refine ⟨i + 1, by omega, ⟨by omega, by rw [hsucc, hw]; rfl⟩, ?_⟩
    simp (maxSteps := 2000000) only [go_sem, zAf, zAk, zAu, zAg]
    all_goals (repeat' (first | exact trivial | exact zAl (by omega) | exact zAh rfl | exact zAs rfl | exact zAm | exact le_refl _ | refine And.intro ?_ ?_))
  | true =>
   rw [hb] at hab hin hsucc
   refine zAi (by repeat' constructor) (hab) ?_
   try simp (maxSteps := 2000000) only [go_sem]
   repeat with_reducible refine zAd ?_
   apply zAq (h2 := fun _ => hL i hil)
   ·(simp (maxSteps := 2000000) only [go_sem]; rfl)
   ·intro h; repeat' (first | exact trivial | exact h | refine And.intro ?_ ?_)
   try simp (maxSteps := 2000000) only [go_sem]
   repeat with_reducible refine zAd ?_
   refine zAc (by rfl) trivial (fun g16 => ?_) (fun g16 => ?_)
   ·try simp (maxSteps := 2000000) only [go_sem]
    repeat with_reducible refine zAd ?_
    have e : lM d l i = true := by simpa using g16
    exact zAe rfl trivial (.inl (by rw [hin (by rw [e]; rfl)]))
   ·try simp (maxSteps := 2000000) only [go_sem]
    repeat with_reducible refine zAd ?_
    have e : lM d l i = false := by simpa using g16
    refine ⟨i + 1, by omega, ⟨by omega, by rw [hsucc, hw, e]; rfl⟩, ?_⟩
    simp (maxSteps := 2000000) only [go_sem, zAf, zAk, zAu, zAg]
    all_goals (repeat' (first | exact trivial | exact zAl (by omega) | exact zAh rfl | exact zAs rfl | exact zAm | exact le_refl _ | refine And.intro ?_ ?_))
 ·try simp (maxSteps := 2000000) only [go_sem]
  repeat with_reducible refine zAd ?_
  have hil : i = d.length := by simp at g15; omega
  rw [hil] at hw
  exact zAe rfl trivial (.inl (by rw [hw]))
end Go.Hx
end

section
set_option maxRecDepth 100000
set_option linter.unusedSimpArgs false
namespace Go.Hx
open Go.Proofs
variable [Glob]
attribute [local go_sem] zAz zAA zAy zAt ndV zAw zAp zDb List.take_nil zBz zBy
attribute [local go_sem] reduceCtorEq Nat.reduceAdd Nat.reduceEqDiff reduceIte Nat.reduceLeDiff Nat.reduceLT Nat.reduceSub
theorem yCs (l : List St) (n : Nat) : (zLP l).take n = zLP (l.take n) := by rw [zIB, zIB, List.map_take]
theorem zZ6 (l : List Int) (n : Nat) : (zB0 l).take n = zB0 (l.take n) := by simp [zB0]
theorem zJ1 {α : Type} {l : List α} {i n : Nat} {d : α} (h : i < n) : (l.take n).getD i d = l.getD i d := by
 simp [List.getD_eq_getElem?_getD, List.getElem?_take, h]
set_option maxHeartbeats 16000000 in
theorem zSC (d : List Nd) (hd : zCC d d.length = true) (hl : d.length ≤ 64) (p : Pt) (hp1 : 1 ≤ p.steps.length) (hp5 : p.steps.length ≤ 5) (hlk : p.links.length + 1 = p.steps.length)
  (hT : ∀ s ∈ p.steps, s.tests.length ≤ 6 ∧ ∀ t ∈ s.tests, ∀ n : Nat, n < d.length → Contract Tryz.prog zCM [.val (zDb d), .val (.agg (tsV t)), .val (iv n)] { res := .val (bv (tM d t n)) }) :
  ∀ k : Nat, k < p.steps.length → ∀ n : Nat, n < d.length → Contract Tryz.prog zBU [.val (zDb d), .val (.agg [.sl 2 (zLP (p.steps.take (k + 1))), .sl 1 (zB0 (p.links.take k))]), .val (iv n)] { res := .val (bv (zB1 d (p.steps.map (sM d)) p.links k n)) } := by
 intro k
 have hnn : (([] : Bys) == []) = true := rfl
 induction k with
 | zero =>
  intro hk n hn
  have hv := zA5 d n hn
  rw [ndV] at hv
  obtain ⟨S, hS⟩ : ∃ S, S = p.steps.take (0 + 1) := ⟨_, rfl⟩
  have hSl : S.length = 1 := by rw [hS, List.length_take]; omega
  have hst : S.getD 0 default = p.steps.getD 0 default := by rw [hS]; exact zJ1 (by omega)
  have hsv := zEE S 0 (by omega)
  rw [hst] at hsv
  obtain ⟨x, hx⟩ : ∃ x, x = p.steps.getD 0 default := ⟨_, rfl⟩
  rw [← hx, zHd] at hsv
  have hmem : x ∈ p.steps := by rw [hx, List.getD_eq_getElem?_getD, List.getElem?_eq_getElem hk]; exact List.getElem_mem hk
  obtain ⟨hx6, hxT⟩ := hT x hmem
  obtain ⟨L, hL⟩ : ∃ L, L = p.links.take 0 := ⟨_, rfl⟩
  have hpm : zB1 d (p.steps.map (sM d)) p.links 0 n = sM d x n := by
   rw [zB1]
   have e : (p.steps.map (sM d)).getD 0 (fun _ => false) = sM d x := by
    rw [hx]
    simp [List.getD_eq_getElem?_getD, List.getElem?_eq_getElem hk]
   rw [e]
  rw [hpm, yG0, ← hS, ← hL]
  have e1 : (((1 : Nat) : Int) - 1).toNat = 0 := by omega
  have e2 : (((1 : Nat) : Int) - 1) = ((0 : Nat) : Int) := by omega
  obtain ⟨nd, hnd⟩ : ∃ nd, nd = d.getD n default := ⟨_, rfl⟩
  rw [← hnd] at hv ⊢
  unfold zDb at hxT ⊢
  by_cases htag : x.tag = []
  ·refine zCx (base := 0) ⟨Nat.le_of_ble_eq_true rfl, Nat.le_of_ble_eq_true rfl, Nat.le_of_ble_eq_true rfl, rfl⟩ (fun hfit => ?_)
   unfold F0 zBj
   simp (maxSteps := 2000000) only [zAE, List.set_cons_succ, List.set_cons_zero, List.map_cons, List.map_nil, zAD, zAb, ioOf, List.length_cons, List.length_nil, Nat.reduceAdd, Nat.reduceSub, List.replicate, List.cons_append, List.nil_append]
   try simp (maxSteps := 2000000) only [go_sem]
   repeat with_reducible refine zAd ?_
   try simp (maxSteps := 2000000) only [go_sem, hSl, e1, e2, hsv, htag, hnn, Bool.not_true, hv]
   repeat with_reducible refine zAd ?_
   refine zAc (by rfl) trivial (fun g1 => ?_) (fun g1 => ?_)
   ·cases g1
   try simp (maxSteps := 2000000) only [go_sem, hSl]
   repeat with_reducible refine zAd ?_
   refine zAn (fun j : Nat => [(9, .pv (iv j)), (6, .un), (39, .un), (50, .un)]) (fun j : Nat => x.tests.length - j) (fun j : Nat => j ≤ x.tests.length ∧ (x.tests.take j).all (fun t => tM d t n) = true) (0) ?_ ⟨Nat.zero_le _, rfl⟩ ?_
   focus (simp (maxSteps := 2000000) only [go_sem, zAf, zAk, zAu, zAg]; all_goals (repeat' (first | exact trivial | exact zAl (by omega) | exact zAh rfl | exact zAs rfl | exact zAm | exact le_refl _ | refine And.intro ?_ ?_)))
   rintro j ⟨hj, hall⟩
   try simp (maxSteps := 2000000) only [go_sem]
   repeat with_reducible refine zAd ?_
   refine zAc (by rfl) trivial (fun g2 => ?_) (fun g2 => ?_)
   ·have hjl : j < x.tests.length := by simpa using g2
    have htv := zD4 x.tests j hjl
    have hall2 := zIF (p := fun t => tM d t n) (default : Ts) hjl
    have hnot := zLj (p := fun t => tM d t n) (d := (default : Ts)) hjl
    obtain ⟨t, ht⟩ : ∃ t, t = x.tests.getD j default := ⟨_, rfl⟩
    have htm : t ∈ x.tests := by rw [ht, List.getD_eq_getElem?_getD, List.getElem?_eq_getElem hjl]; exact List.getElem_mem hjl
    rw [← ht] at htv hall2 hnot
    have hc := hxT t htm n hn
    rw [zDw] at htv hc
    try simp (maxSteps := 2000000) only [go_sem, htv]
    repeat with_reducible refine zAd ?_
    refine zAi (by repeat' constructor) (hc) ?_
    try simp (maxSteps := 2000000) only [go_sem]
    repeat with_reducible refine zAd ?_
    refine zAc (by rfl) trivial (fun g3 => ?_) (fun g3 => ?_)
    ·try simp (maxSteps := 2000000) only [go_sem]
     repeat with_reducible refine zAd ?_
     have e : tM d t n = false := by simpa using g3
     exact zAe rfl trivial (.inl (by rw [hnot e]; simp))
    ·try simp (maxSteps := 2000000) only [go_sem]
     repeat with_reducible refine zAd ?_
     have e : tM d t n = true := by simpa using g3
     refine ⟨j + 1, by omega, ⟨by omega, by rw [hall2, hall, e]; rfl⟩, ?_⟩
     simp (maxSteps := 2000000) only [go_sem, zAf, zAk, zAu, zAg]
     all_goals (repeat' (first | exact trivial | exact zAl (by omega) | exact zAh rfl | exact zAs rfl | exact zAm | exact le_refl _ | refine And.intro ?_ ?_))
   ·have hjl : j = x.tests.length := by simp at g2; omega
    rw [hjl, List.take_length] at hall
    try simp (maxSteps := 2000000) only [go_sem, hSl]
    repeat with_reducible refine zAd ?_
    refine zAc (by rfl) trivial (fun g4 => ?_) (fun g4 => ?_)
    ·try simp (maxSteps := 2000000) only [go_sem]
     repeat with_reducible refine zAd ?_
     exact zAe rfl trivial (.inl (by rw [hall]; simp [htag]))
    ·exact absurd g4 (by simp)
  ·have htb : (x.tag == ([] : Bys)) = false := by simpa using htag
   refine zCx (base := 0) ⟨Nat.le_of_ble_eq_true rfl, Nat.le_of_ble_eq_true rfl, Nat.le_of_ble_eq_true rfl, rfl⟩ (fun hfit => ?_)
   unfold F0 zBj
   simp (maxSteps := 2000000) only [zAE, List.set_cons_succ, List.set_cons_zero, List.map_cons, List.map_nil, zAD, zAb, ioOf, List.length_cons, List.length_nil, Nat.reduceAdd, Nat.reduceSub, List.replicate, List.cons_append, List.nil_append]
   try simp (maxSteps := 2000000) only [go_sem]
   repeat with_reducible refine zAd ?_
   try simp (maxSteps := 2000000) only [go_sem, hSl, e1, e2, hsv, htb, Bool.not_false, hv]
   repeat with_reducible refine zAd ?_
   refine zAc (by rfl) trivial (fun g1 => ?_) (fun g1 => ?_)
   ·try simp (maxSteps := 2000000) only [go_sem]
    repeat with_reducible refine zAd ?_
    have htg : x.tag ≠ nd.tag := by simpa using g1
    exact zAe rfl trivial (.inl (by simp [htag, htg]))
   have htg : x.tag = nd.tag := by simpa using g1
   try simp (maxSteps := 2000000) only [go_sem, hSl]
   repeat with_reducible refine zAd ?_
   refine zAn (fun j : Nat => [(9, .pv (iv j)), (6, .un), (39, .un), (50, .un)]) (fun j : Nat => x.tests.length - j) (fun j : Nat => j ≤ x.tests.length ∧ (x.tests.take j).all (fun t => tM d t n) = true) (0) ?_ ⟨Nat.zero_le _, rfl⟩ ?_
   focus (simp (maxSteps := 2000000) only [go_sem, zAf, zAk, zAu, zAg]; all_goals (repeat' (first | exact trivial | exact zAl (by omega) | exact zAh rfl | exact zAs rfl | exact zAm | exact le_refl _ | refine And.intro ?_ ?_)))
   rintro j ⟨hj, hall⟩
   try simp (maxSteps := 2000000) only [go_sem]
   repeat with_reducible refine zAd ?_
   refine zAc (by rfl) trivial (fun g2 => ?_) (fun g2 => ?_)
   ·have hjl : j < x.tests.length := by simpa using g2
    have htv := zD4 x.tests j hjl
    have hall2 := zIF (p := fun t => tM d t n) (default : Ts) hjl
    have hnot := zLj (p := fun t => tM d t n) (d := (default : Ts)) hjl
    obtain ⟨t, ht⟩ : ∃ t, t = x.tests.getD j default := ⟨_, rfl⟩
    have htm : t ∈ x.tests := by rw [ht, List.getD_eq_getElem?_getD, List.getElem?_eq_getElem hjl]; exact List.getElem_mem hjl
    rw [← ht] at htv hall2 hnot
    have hc := hxT t htm n hn
    rw [zDw] at htv hc
    try simp (maxSteps := 2000000) only [go_sem, htv]
    repeat with_reducible refine zAd ?_
    refine zAi (by repeat' constructor) (hc) ?_
    try simp (maxSteps := 2000000) only [go_sem]
    repeat with_reducible refine zAd ?_
    refine zAc (by rfl) trivial (fun g3 => ?_) (fun g3 => ?_)
    ·try simp (maxSteps := 2000000) only [go_sem]
     repeat with_reducible refine zAd ?_
     have e : tM d t n = false := by simpa using g3
     exact zAe rfl trivial (.inl (by rw [hnot e]; simp))
    ·try simp (maxSteps := 2000000) only [go_sem]
     repeat with_reducible refine zAd ?_
     have e : tM d t n = true := by simpa using g3
     refine ⟨j + 1, by omega, ⟨by omega, by rw [hall2, hall, e]; rfl⟩, ?_⟩
     simp (maxSteps := 2000000) only [go_sem, zAf, zAk, zAu, zAg]
     all_goals (repeat' (first | exact trivial | exact zAl (by omega) | exact zAh rfl | exact zAs rfl | exact zAm | exact le_refl _ | refine And.intro ?_ ?_))
   ·have hjl : j = x.tests.length := by simp at g2; omega
    rw [hjl, List.take_length] at hall
    try simp (maxSteps := 2000000) only [go_sem, hSl]
    repeat with_reducible refine zAd ?_
    refine zAc (by rfl) trivial (fun g4 => ?_) (fun g4 => ?_)
    ·try simp (maxSteps := 2000000) only [go_sem]
     repeat with_reducible refine zAd ?_
     exact zAe rfl trivial (.inl (by rw [hall]; simp [htg]))
    ·exact absurd g4 (by simp)
 | succ k ih =>
  intro hk n hn
  have hv := zA5 d n hn
  rw [ndV] at hv
  obtain ⟨S, hS⟩ : ∃ S, S = p.steps.take (k + 1 + 1) := ⟨_, rfl⟩
  have hSl : S.length = k + 2 := by rw [hS, List.length_take]; omega
  have hst : S.getD (k + 1) default = p.steps.getD (k + 1) default := by rw [hS]; exact zJ1 (by omega)
  have hsv := zEE S (k + 1) (by omega)
  rw [hst] at hsv
  obtain ⟨x, hx⟩ : ∃ x, x = p.steps.getD (k + 1) default := ⟨_, rfl⟩
  rw [← hx, zHd] at hsv
  have hmem : x ∈ p.steps := by rw [hx, List.getD_eq_getElem?_getD, List.getElem?_eq_getElem hk]; exact List.getElem_mem hk
  obtain ⟨hx6, hxT⟩ := hT x hmem
  obtain ⟨L, hL⟩ : ∃ L, L = p.links.take (k + 1) := ⟨_, rfl⟩
  have hLl : L.length = k + 1 := by rw [hL, List.length_take]; omega
  have hlv := zE4 L k (by omega)
  have hlg : L.getD k 0 = p.links.getD k 0 := by rw [hL]; exact zJ1 (by omega)
  rw [hlg] at hlv
  have hS2 : (zLP S).take (k + 1) = zLP (p.steps.take (k + 1)) := by rw [yCs, hS, List.take_take]; congr 2; omega
  have hL2 : (zB0 L).take k = zB0 (p.links.take k) := by rw [zZ6, hL, List.take_take]; congr 2; omega
  have hpm : zB1 d (p.steps.map (sM d)) p.links (k + 1) n = (sM d x n && (List.range n).any fun m => zDx d (p.links.getD k 0) m n && zB1 d (p.steps.map (sM d)) p.links k m) := by
   rw [zB1]
   have e : (p.steps.map (sM d)).getD (k + 1) (fun _ => false) = sM d x := by
    rw [hx]
    simp [List.getD_eq_getElem?_getD, hk]
   rw [e]
  rw [hpm, yG0, ← hS, ← hL]
  have e1 : (((k + 2 : Nat) : Int) - 1).toNat = k + 1 := by omega
  have e2 : (((k + 2 : Nat) : Int) - 1) = ((k + 1 : Nat) : Int) := by omega
  have e3 : (((k + 1 : Nat) : Int) - 1).toNat = k := by omega
  obtain ⟨nd, hnd⟩ : ∃ nd, nd = d.getD n default := ⟨_, rfl⟩
  rw [← hnd] at hv ⊢
  unfold zDb at hxT ih ⊢
  by_cases htag : x.tag = []
  ·refine zCx (base := 0) ⟨Nat.le_of_ble_eq_true rfl, Nat.le_of_ble_eq_true rfl, Nat.le_of_ble_eq_true rfl, rfl⟩ (fun hfit => ?_)
   unfold F0 zBj
   simp (maxSteps := 2000000) only [zAE, List.set_cons_succ, List.set_cons_zero, List.map_cons, List.map_nil, zAD, zAb, ioOf, List.length_cons, List.length_nil, Nat.reduceAdd, Nat.reduceSub, List.replicate, List.cons_append, List.nil_append]
   try simp (maxSteps := 2000000) only [go_sem]
   repeat with_reducible refine zAd ?_
   try simp (maxSteps := 2000000) only [go_sem, hSl, e1, e2, hsv, htag, hnn, Bool.not_true, hv]
   repeat with_reducible refine zAd ?_
   refine zAc (by rfl) trivial (fun g1 => ?_) (fun g1 => ?_)
   ·cases g1
   try simp (maxSteps := 2000000) only [go_sem, hSl]
   repeat with_reducible refine zAd ?_
   refine zAn (fun j : Nat => [(9, .pv (iv j)), (6, .un), (39, .un), (50, .un)]) (fun j : Nat => x.tests.length - j) (fun j : Nat => j ≤ x.tests.length ∧ (x.tests.take j).all (fun t => tM d t n) = true) (0) ?_ ⟨Nat.zero_le _, rfl⟩ ?_
   focus (simp (maxSteps := 2000000) only [go_sem, zAf, zAk, zAu, zAg]; all_goals (repeat' (first | exact trivial | exact zAl (by omega) | exact zAh rfl | exact zAs rfl | exact zAm | exact le_refl _ | refine And.intro ?_ ?_)))
   rintro j ⟨hj, hall⟩
   try simp (maxSteps := 2000000) only [go_sem]
   repeat with_reducible refine zAd ?_
   refine zAc (by rfl) trivial (fun g2 => ?_) (fun g2 => ?_)
   ·have hjl : j < x.tests.length := by simpa using g2
    have htv := zD4 x.tests j hjl
    have hall2 := zIF (p := fun t => tM d t n) (default : Ts) hjl
    have hnot := zLj (p := fun t => tM d t n) (d := (default : Ts)) hjl
    obtain ⟨t, ht⟩ : ∃ t, t = x.tests.getD j default := ⟨_, rfl⟩
    have htm : t ∈ x.tests := by rw [ht, List.getD_eq_getElem?_getD, List.getElem?_eq_getElem hjl]; exact List.getElem_mem hjl
    rw [← ht] at htv hall2 hnot
    have hc := hxT t htm n hn
    rw [zDw] at htv hc
    try simp (maxSteps := 2000000) only [go_sem, htv]
    repeat with_reducible refine zAd ?_
    refine zAi (by repeat' constructor) (hc) ?_
    try simp (maxSteps := 2000000) only [go_sem]
    repeat with_reducible refine zAd ?_
    refine zAc (by rfl) trivial (fun g3 => ?_) (fun g3 => ?_)
    ·try simp (maxSteps := 2000000) only [go_sem]
     repeat with_reducible refine zAd ?_
     have e : tM d t n = false := by simpa using g3
     exact zAe rfl trivial (.inl (by rw [hnot e]; simp))
    ·try simp (maxSteps := 2000000) only [go_sem]
     repeat with_reducible refine zAd ?_
     have e : tM d t n = true := by simpa using g3
     refine ⟨j + 1, by omega, ⟨by omega, by rw [hall2, hall, e]; rfl⟩, ?_⟩
     simp (maxSteps := 2000000) only [go_sem, zAf, zAk, zAu, zAg]
     all_goals (repeat' (first | exact trivial | exact zAl (by omega) | exact zAh rfl | exact zAs rfl | exact zAm | exact le_refl _ | refine And.intro ?_ ?_))
   ·have hjl : j = x.tests.length := by simp at g2; omega
    rw [hjl, List.take_length] at hall
    try simp (maxSteps := 2000000) only [go_sem, hSl]
    repeat with_reducible refine zAd ?_
    refine zAc (by rfl) trivial (fun g4 => ?_) (fun g4 => ?_)
    ·exact absurd g4 (by simp; omega)
    try simp (maxSteps := 2000000) only [go_sem, hSl, hLl, e1, e2, e3, hS2, hL2]
    repeat with_reducible refine zAd ?_
    refine zAn (fun m : Nat => [(11, .pv (iv m)), (6, .un), (65, .un), (83, .un)]) (fun m : Nat => n - m) (fun m : Nat => m ≤ n ∧ (List.range m).any (fun m => zDx d (p.links.getD k 0) m n && zB1 d (p.steps.map (sM d)) p.links k m) = false) (0) ?_ ⟨Nat.zero_le _, rfl⟩ ?_
    focus (simp (maxSteps := 2000000) only [go_sem, zAf, zAk, zAu, zAg]; all_goals (repeat' (first | exact trivial | exact zAl (by omega) | exact zAh rfl | exact zAs rfl | exact zAm | exact le_refl _ | refine And.intro ?_ ?_)))
    rintro m ⟨hm, hw⟩
    try simp (maxSteps := 2000000) only [go_sem]
    repeat with_reducible refine zAd ?_
    refine zAc (by rfl) trivial (fun g5 => ?_) (fun g5 => ?_)
    ·have hml : m < n := by simpa using g5
     have hsucc := zC1 (p := fun m => zDx d (p.links.getD k 0) m n && zB1 d (p.steps.map (sM d)) p.links k m) (n := m)
     have hin : (zDx d (p.links.getD k 0) m n && zB1 d (p.steps.map (sM d)) p.links k m) = true → (List.range n).any (fun m => zDx d (p.links.getD k 0) m n && zB1 d (p.steps.map (sM d)) p.links k m) = true := fun h => List.any_eq_true.2 ⟨m, List.mem_range.2 hml, h⟩
     have hr := zLi d hd hl (p.links.getD k 0) m n hn
     unfold zDb at hr
     have hih := ih (by omega) m (by omega)
     try simp (maxSteps := 2000000) only [go_sem, hLl, e2, e3, hlv]
     repeat with_reducible refine zAd ?_
     cases hb : zDx d (p.links.getD k 0) m n with
     | false =>
      rw [hb] at hr hin hsucc
      refine zAi (by repeat' constructor) (hr) ?_
      try simp (maxSteps := 2000000) only [go_sem]
      repeat with_reducible refine zAd ?_
      refine zLk (by rfl) ?_
      try simp (maxSteps := 2000000) only [go_sem]
      repeat with_reducible refine zAd ?_
      refine zAc (by rfl) trivial (fun g6 => ?_) (fun g6 => ?_)
      ·simp at g6
      ·try simp (maxSteps := 2000000) only [go_sem]
       repeat with_reducible refine zAd ?_
       refine ⟨m + 1, by omega, ⟨by omega, by rw [hsucc, hw]; rfl⟩, ?_⟩
       simp (maxSteps := 2000000) only [go_sem, zAf, zAk, zAu, zAg]
       all_goals (repeat' (first | exact trivial | exact zAl (by omega) | exact zAh rfl | exact zAs rfl | exact zAm | exact le_refl _ | refine And.intro ?_ ?_))
     | true =>
      rw [hb] at hr hin hsucc
      refine zAi (by repeat' constructor) (hr) ?_
      try simp (maxSteps := 2000000) only [go_sem]
      repeat with_reducible refine zAd ?_
      apply zAq (h2 := fun _ => hih)
      ·(simp (maxSteps := 2000000) only [go_sem]; rfl)
      ·intro h; repeat' (first | exact trivial | exact h | refine And.intro ?_ ?_)
      try simp (maxSteps := 2000000) only [go_sem]
      repeat with_reducible refine zAd ?_
      refine zAc (by rfl) trivial (fun g6 => ?_) (fun g6 => ?_)
      ·try simp (maxSteps := 2000000) only [go_sem]
       repeat with_reducible refine zAd ?_
       have e : zB1 d (p.steps.map (sM d)) p.links k m = true := by simpa using g6
       exact zAe rfl trivial (.inl (by rw [hall, hin (by rw [e]; rfl)]; simp [htag]))
      ·try simp (maxSteps := 2000000) only [go_sem]
       repeat with_reducible refine zAd ?_
       have e : zB1 d (p.steps.map (sM d)) p.links k m = false := by simpa using g6
       refine ⟨m + 1, by omega, ⟨by omega, by rw [hsucc, hw, e]; rfl⟩, ?_⟩
       simp (maxSteps := 2000000) only [go_sem, zAf, zAk, zAu, zAg]
       all_goals (repeat' (first | exact trivial | exact zAl (by omega) | exact zAh rfl | exact zAs rfl | exact zAm | exact le_refl _ | refine And.intro ?_ ?_))
    ·try simp (maxSteps := 2000000) only [go_sem]
     repeat with_reducible refine zAd ?_
     have hml : m = n := by simp at g5; omega
     rw [hml] at hw
     exact zAe rfl trivial (.inl (by rw [hw]; simp))
  ·have htb : (x.tag == ([] : Bys)) = false := by simpa using htag
   refine zCx (base := 0) ⟨Nat.le_of_ble_eq_true rfl, Nat.le_of_ble_eq_true rfl, Nat.le_of_ble_eq_true rfl, rfl⟩ (fun hfit => ?_)
   unfold F0 zBj
   simp (maxSteps := 2000000) only [zAE, List.set_cons_succ, List.set_cons_zero, List.map_cons, List.map_nil, zAD, zAb, ioOf, List.length_cons, List.length_nil, Nat.reduceAdd, Nat.reduceSub, List.replicate, List.cons_append, List.nil_append]
   try simp (maxSteps := 2000000) only [go_sem]
   repeat with_reducible refine zAd ?_
   try simp (maxSteps := 2000000) only [go_sem, hSl, e1, e2, hsv, htb, Bool.not_false, hv]
   repeat with_reducible refine zAd ?_
   refine zAc (by rfl) trivial (fun g1 => ?_) (fun g1 => ?_)
   ·try simp (maxSteps := 2000000) only [go_sem]
    repeat with_reducible refine zAd ?_
    have htg : x.tag ≠ nd.tag := by simpa using g1
    exact zAe rfl trivial (.inl (by simp [htag, htg]))
   have htg : x.tag = nd.tag := by simpa using g1
   try simp (maxSteps := 2000000) only [go_sem, hSl]
   repeat with_reducible refine zAd ?_
   refine zAn (fun j : Nat => [(9, .pv (iv j)), (6, .un), (39, .un), (50, .un)]) (fun j : Nat => x.tests.length - j) (fun j : Nat => j ≤ x.tests.length ∧ (x.tests.take j).all (fun t => tM d t n) = true) (0) ?_ ⟨Nat.zero_le _, rfl⟩ ?_
   focus (simp (maxSteps := 2000000) only [go_sem, zAf, zAk, zAu, zAg]; all_goals (repeat' (first | exact trivial | exact zAl (by omega) | exact zAh rfl | exact zAs rfl | exact zAm | exact le_refl _ | refine And.intro ?_ ?_)))
   rintro j ⟨hj, hall⟩
   try simp (maxSteps := 2000000) only [go_sem]
   repeat with_reducible refine zAd ?_
   refine zAc (by rfl) trivial (fun g2 => ?_) (fun g2 => ?_)
   ·have hjl : j < x.tests.length := by simpa using g2
    have htv := zD4 x.tests j hjl
    have hall2 := zIF (p := fun t => tM d t n) (default : Ts) hjl
    have hnot := zLj (p := fun t => tM d t n) (d := (default : Ts)) hjl
    obtain ⟨t, ht⟩ : ∃ t, t = x.tests.getD j default := ⟨_, rfl⟩
    have htm : t ∈ x.tests := by rw [ht, List.getD_eq_getElem?_getD, List.getElem?_eq_getElem hjl]; exact List.getElem_mem hjl
    rw [← ht] at htv hall2 hnot
    have hc := hxT t htm n hn
    rw [zDw] at htv hc
    try simp (maxSteps := 2000000) only [go_sem, htv]
    repeat with_reducible refine zAd ?_
    refine zAi (by repeat' constructor) (hc) ?_
    try simp (maxSteps := 2000000) only [go_sem]
    repeat with_reducible refine zAd ?_
    refine zAc (by rfl) trivial (fun g3 => ?_) (fun g3 => ?_)
    ·try simp (maxSteps := 2000000) only [go_sem]
     repeat with_reducible refine zAd ?_
     have e : tM d t n = false := by simpa using g3
     exact zAe rfl trivial (.inl (by rw [hnot e]; simp))
    ·try simp (maxSteps := 2000000) only [go_sem]
     repeat with_reducible refine zAd ?_
     have e : tM d t n = true := by simpa using g3
     refine ⟨j + 1, by omega, ⟨by omega, by rw [hall2, hall, e]; rfl⟩, ?_⟩
     simp (maxSteps := 2000000) only [go_sem, zAf, zAk, zAu, zAg]
     all_goals (repeat' (first | exact trivial | exact zAl (by omega) | exact zAh rfl | exact zAs rfl | exact zAm | exact le_refl _ | refine And.intro ?_ ?_))
   ·have hjl : j = x.tests.length := by simp at g2; omega
    rw [hjl, List.take_length] at hall
    try simp (maxSteps := 2000000) only [go_sem, hSl]
    repeat with_reducible refine zAd ?_
    refine zAc (by rfl) trivial (fun g4 => ?_) (fun g4 => ?_)
    ·exact absurd g4 (by simp; omega)
    try simp (maxSteps := 2000000) only [go_sem, hSl, hLl, e1, e2, e3, hS2, hL2]
    repeat with_reducible refine zAd ?_
    refine zAn (fun m : Nat => [(11, .pv (iv m)), (6, .un), (65, .un), (83, .un)]) (fun m : Nat => n - m) (fun m : Nat => m ≤ n ∧ (List.range m).any (fun m => zDx d (p.links.getD k 0) m n && zB1 d (p.steps.map (sM d)) p.links k m) = false) (0) ?_ ⟨Nat.zero_le _, rfl⟩ ?_
    focus (simp (maxSteps := 2000000) only [go_sem, zAf, zAk, zAu, zAg]; all_goals (repeat' (first | exact trivial | exact zAl (by omega) | exact zAh rfl | exact zAs rfl | exact zAm | exact le_refl _ | refine And.intro ?_ ?_)))
    rintro m ⟨hm, hw⟩
    try simp (maxSteps := 2000000) only [go_sem]
    repeat with_reducible refine zAd ?_
    refine zAc (by rfl) trivial (fun g5 => ?_) (fun g5 => ?_)
    ·have hml : m < n := by simpa using g5
     have hsucc := zC1 (p := fun m => zDx d (p.links.getD k 0) m n && zB1 d (p.steps.map (sM d)) p.links k m) (n := m)
     have hin : (zDx d (p.links.getD k 0) m n && zB1 d (p.steps.map (sM d)) p.links k m) = true → (List.range n).any (fun m => zDx d (p.links.getD k 0) m n && zB1 d (p.steps.map (sM d)) p.links k m) = true := fun h => List.any_eq_true.2 ⟨m, List.mem_range.2 hml, h⟩
     have hr := zLi d hd hl (p.links.getD k 0) m n hn
     unfold zDb at hr
     have hih := ih (by omega) m (by omega)
     try simp (maxSteps := 2000000) only [go_sem, hLl, e2, e3, hlv]
     repeat with_reducible refine zAd ?_
     cases hb : zDx d (p.links.getD k 0) m n with
     | false =>
      rw [hb] at hr hin hsucc
      refine zAi (by repeat' constructor) (hr) ?_
      try simp (maxSteps := 2000000) only [go_sem]
      repeat with_reducible refine zAd ?_
      refine zLk (by rfl) ?_
      try simp (maxSteps := 2000000) only [go_sem]
      repeat with_reducible refine zAd ?_
      refine zAc (by rfl) trivial (fun g6 => ?_) (fun g6 => ?_)
      ·simp at g6
      ·try simp (maxSteps := 2000000) only [go_sem]
       repeat with_reducible refine zAd ?_
       refine ⟨m + 1, by omega, ⟨by omega, by rw [hsucc, hw]; rfl⟩, ?_⟩
       simp (maxSteps := 2000000) only [go_sem, zAf, zAk, zAu, zAg]
       all_goals (repeat' (first | exact trivial | exact zAl (by omega) | exact zAh rfl | exact zAs rfl | exact zAm | exact le_refl _ | refine And.intro ?_ ?_))
     | true =>
      rw [hb] at hr hin hsucc
      refine zAi (by repeat' constructor) (hr) ?_
      try simp (maxSteps := 2000000) only [go_sem]
      repeat with_reducible refine zAd ?_
      apply zAq (h2 := fun _ => hih)
      ·(simp (maxSteps := 2000000) only [go_sem]; rfl)
      ·intro h; repeat' (first | exact trivial | exact h | refine And.intro ?_ ?_)
      try simp (maxSteps := 2000000) only [go_sem]
      repeat with_reducible refine zAd ?_
      refine zAc (by rfl) trivial (fun g6 => ?_) (fun g6 => ?_)
      ·try simp (maxSteps := 2000000) only [go_sem]
       repeat with_reducible refine zAd ?_
       have e : zB1 d (p.steps.map (sM d)) p.links k m = true := by simpa using g6
       exact zAe rfl trivial (.inl (by rw [hall, hin (by rw [e]; rfl)]; simp [htg]))
      ·try simp (maxSteps := 2000000) only [go_sem]
       repeat with_reducible refine zAd ?_
       have e : zB1 d (p.steps.map (sM d)) p.links k m = false := by simpa using g6
       refine ⟨m + 1, by omega, ⟨by omega, by rw [hsucc, hw, e]; rfl⟩, ?_⟩
       simp (maxSteps := 2000000) only [go_sem, zAf, zAk, zAu, zAg]
       all_goals (repeat' (first | exact trivial | exact zAl (by omega) | exact zAh rfl | exact zAs rfl | exact zAm | exact le_refl _ | refine And.intro ?_ ?_))
    ·try simp (maxSteps := 2000000) only [go_sem]
     repeat with_reducible refine zAd ?_
     have hml : m = n := by simp at g5; omega
     rw [hml] at hw
     exact zAe rfl trivial (.inl (by rw [hw]; simp))
end Go.Hx
end

section
set_option maxRecDepth 100000
set_option linter.unusedSimpArgs false
namespace Go.Hx
open Go.Proofs
variable [Glob]
attribute [local go_sem] zAz zAA zAy zAt ndV zAw zAp zDb List.take_nil zBl
attribute [local go_sem] reduceCtorEq Nat.reduceAdd Nat.reduceEqDiff reduceIte Nat.reduceLeDiff Nat.reduceLT Nat.reduceSub
theorem zXW (d : List Nd) (hl : d.length ≤ 64) (l : List Pt) (hl5 : l.length ≤ 64)
  (hP : ∀ p ∈ l, ∀ n : Nat, n < d.length → Contract Tryz.prog zBU [.val (zDb d), .val (.agg (ptV p)), .val (iv n)] { res := .val (bv (pM d p n)) }) (n : Nat) (hn : n < d.length) :
  Contract Tryz.prog zBd [.val (zDb d), .val (zAU l), .val (iv n)] { res := .val (bv (lM d l n)) } := by
 rw [yDw]
 unfold zAU
 unfold zDb at hP ⊢
 refine zNU (base := 0) ⟨Nat.le_of_ble_eq_true rfl, Nat.le_of_ble_eq_true rfl, Nat.le_of_ble_eq_true rfl, rfl⟩ (fun hfit => ?_)
 unfold F0 zDE
 simp (maxSteps := 2000000) only [zAE, List.set_cons_succ, List.set_cons_zero, List.map_cons, List.map_nil, zAD, zAb, ioOf, List.length_cons, List.length_nil, Nat.reduceAdd, Nat.reduceSub, List.replicate, List.cons_append, List.nil_append]
 try simp (maxSteps := 2000000) only [go_sem]
 repeat with_reducible refine zAd ?_
 refine zAn (fun i : Nat => [(7, .pv (iv i)), (6, .un), (11, .un), (20, .un)]) (fun i : Nat => l.length - i) (fun i : Nat => i ≤ l.length ∧ (l.take i).any (fun p => pM d p n) = false) (0) ?_ ⟨Nat.zero_le _, rfl⟩ ?_
 focus (simp (maxSteps := 2000000) only [go_sem, zAf, zAk, zAu, zAg]; all_goals (repeat' (first | exact trivial | exact zAl (by omega) | exact zAh rfl | exact zAs rfl | exact zAm | exact le_refl _ | refine And.intro ?_ ?_)))
 rintro i ⟨hi, hw⟩
 try simp (maxSteps := 2000000) only [go_sem]
 repeat with_reducible refine zAd ?_
 refine zAc (by rfl) trivial (fun g1 => ?_) (fun g1 => ?_)
 ·have hil : i < l.length := by simpa using g1
  have hv := zFA l i hil
  have hsucc := zTa (p := fun p => pM d p n) (default : Pt) hil
  have hany := zXU (p := fun p => pM d p n) (d := (default : Pt)) hil
  obtain ⟨p, hp⟩ : ∃ p, p = l.getD i default := ⟨_, rfl⟩
  have hm : p ∈ l := by rw [hp, List.getD_eq_getElem?_getD, List.getElem?_eq_getElem hil]; exact List.getElem_mem hil
  rw [← hp] at hv hsucc hany
  have hc := hP p hm n hn
  rw [zEw] at hv hc
  try simp (maxSteps := 2000000) only [go_sem, hv]
  repeat with_reducible refine zAd ?_
  refine zAi (by repeat' constructor) (hc) ?_
  try simp (maxSteps := 2000000) only [go_sem]
  repeat with_reducible refine zAd ?_
  refine zAc (by rfl) trivial (fun g2 => ?_) (fun g2 => ?_)
  ·try simp (maxSteps := 2000000) only [go_sem]
   repeat with_reducible refine zAd ?_
   exact zAe rfl trivial (.inl (by rw [hany (by simpa using g2)]))
  ·try simp (maxSteps := 2000000) only [go_sem]
   repeat with_reducible refine zAd ?_
   refine ⟨i + 1, by omega, ⟨by omega, by rw [hsucc, hw]; simpa using g2⟩, ?_⟩
   simp (maxSteps := 2000000) only [go_sem, zAf, zAk, zAu, zAg]
   all_goals (repeat' (first | exact trivial | exact zAl (by omega) | exact zAh rfl | exact zAs rfl | exact zAm | exact le_refl _ | refine And.intro ?_ ?_))
 ·try simp (maxSteps := 2000000) only [go_sem]
  repeat with_reducible refine zAd ?_
  have hil : i = l.length := by simp at g1; omega
  rw [hil, List.take_length] at hw
  exact zAe rfl trivial (.inl (by rw [hw]))
theorem yDN : ∀ {l : List Pt} {e : Nat}, GPs l e → ∀ p ∈ l, GP p e := fun h p hp => by
 obtain ⟨i, hi, rfl⟩ := List.getElem_of_mem hp
 have := h.get i hi
 simpa [hi] using this
theorem yDO : ∀ {l : List St} {e : Nat}, GSs l e → ∀ p ∈ l, GS p e := fun h p hp => by
 obtain ⟨i, hi, rfl⟩ := List.getElem_of_mem hp
 have := h.get i hi
 simpa [hi] using this
theorem yDP : ∀ {l : List Ts} {e : Nat}, GTs l e → ∀ p ∈ l, GT p e := fun h p hp => by
 obtain ⟨i, hi, rfl⟩ := List.getElem_of_mem hp
 have := h.get i hi
 simpa [hi] using this
theorem zHR (d : List Nd) (hd : zCC d d.length = true) (hl : d.length ≤ 64) : ∀ (f e : Nat), e + f = 4 → ∀ l : List Pt, GL l e → ∀ n : Nat, n < d.length → Contract Tryz.prog zBd [.val (zDb d), .val (zAU l), .val (iv n)] { res := .val (bv (lM d l n)) }
 | 0, e, he, l, hg, n, hn => by exact absurd hg.1 (by omega)
 | f + 1, e, he, l, hg, n, hn => by
  have hl5 := hg.2.2.1
  refine zXW d hl l (by omega) (fun p hp n hn => ?_) n hn
  obtain ⟨p1, p2, p3, _, p5⟩ := (yDN hg.2.2.2 p hp).parts'
  have := zSC d hd hl p p1 p2 p3 (fun s hs => by
   obtain ⟨s1, s2⟩ := (yDO p5 s hs).parts'
   refine ⟨s1, fun t ht n hn => ?_⟩
   have hgt := yDP s2 t ht
   exact zXV d hd hl e t hgt (fun hk m hm => zHR d hd hl f (e + 1) (by omega) t.list (hgt.parts'.2 hk) m hm) n hn) (p.steps.length - 1) (by omega) n hn
  have e1 : p.steps.length - 1 + 1 = p.steps.length := by omega
  have e2 : p.steps.length - 1 = p.links.length := by omega
  rw [yIQ, zEw]
  rw [e1, List.take_length] at this
  have e3 : p.links.take (p.steps.length - 1) = p.links := by rw [e2, List.take_length]
  rw [e3] at this
  exact this
theorem zXX (d : List Nd) (hd : zCC d d.length = true) (hl : d.length ≤ 64) (t : Ts) (h : GT t 1) (n : Nat) (hn : n < d.length) : Contract Tryz.prog zCM [.val (zDb d), .val (.agg (tsV t)), .val (iv n)] { res := .val (bv (tM d t n)) } :=
 zXV d hd hl 1 t h (fun hk m hm => zHR d hd hl 2 2 rfl t.list (h.parts'.2 hk) m hm) n hn
end Go.Hx
end

section
set_option maxRecDepth 100000
set_option linter.unusedSimpArgs false
namespace Go.Hx
open Go.Proofs
variable [Glob]
attribute [local go_sem] zAz zAA zAy zAt ndV zAw zAp fdV Fd.add fM fF fR fK Nat.add_zero
attribute [local go_sem] reduceCtorEq Nat.reduceAdd Nat.reduceEqDiff reduceIte Nat.reduceLeDiff Nat.reduceLT Nat.reduceSub
theorem zCs {F : List Ct} {E : Env} {base : Nat} {av : List AV} {cells io : List PV} (hio : ioOf av = some cells) (hc : zA6 F base cells.length = some io) : zBO E base av [] { res := .tup [], io := io } .normal F :=
 ⟨rfl, fun cs h => by rw [hio] at h; injection h with h; subst h; exact hc⟩
theorem zVv (c : Fd) (b : Bool) (h : c.m ≤ 1000000000) : Contract Tryz.prog zAB [.io (fdV c), .val (bv b), .val (iv 2)] { res := .tup [], io := fdV (c.add (fM b)) } := by
 unfold fdV
 refine zCL (base := 17) ⟨Nat.le_of_ble_eq_true rfl, Nat.le_of_ble_eq_true rfl, Nat.le_of_ble_eq_true rfl, ⟨rfl, rfl⟩⟩ (fun hfit => ?_)
 unfold F0 zBu
 simp (maxSteps := 2000000) only [zAE, List.set_cons_succ, List.set_cons_zero, List.map_cons, List.map_nil, zAD, zAb, ioOf, List.length_cons, List.length_nil, Nat.reduceAdd, Nat.reduceSub, List.replicate, List.cons_append, List.nil_append]
 try simp (maxSteps := 2000000) only [go_sem]
 repeat with_reducible refine zAd ?_
 refine zAc (by rfl) trivial (fun hb => ?_) (fun hb => ?_)
 ·subst hb
  try simp (maxSteps := 2000000) only [go_sem, Int.reduceToNat]
  repeat with_reducible refine zAd ?_
  exact zCs rfl rfl
 ·subst hb
  try simp (maxSteps := 2000000) only [go_sem]
  repeat with_reducible refine zAd ?_
  exact zCs rfl rfl
theorem zOr (c : Fd) (b : Bool) (h : c.f ≤ 1000000000) : Contract Tryz.prog zAB [.io (fdV c), .val (bv b), .val (iv 1)] { res := .tup [], io := fdV (c.add (fF b)) } := by
 unfold fdV
 refine zCL (base := 17) ⟨Nat.le_of_ble_eq_true rfl, Nat.le_of_ble_eq_true rfl, Nat.le_of_ble_eq_true rfl, ⟨rfl, rfl⟩⟩ (fun hfit => ?_)
 unfold F0 zBu
 simp (maxSteps := 2000000) only [zAE, List.set_cons_succ, List.set_cons_zero, List.map_cons, List.map_nil, zAD, zAb, ioOf, List.length_cons, List.length_nil, Nat.reduceAdd, Nat.reduceSub, List.replicate, List.cons_append, List.nil_append]
 try simp (maxSteps := 2000000) only [go_sem]
 repeat with_reducible refine zAd ?_
 refine zAc (by rfl) trivial (fun hb => ?_) (fun hb => ?_)
 ·subst hb
  try simp (maxSteps := 2000000) only [go_sem, Int.reduceToNat]
  repeat with_reducible refine zAd ?_
  exact zCs rfl rfl
 ·subst hb
  try simp (maxSteps := 2000000) only [go_sem]
  repeat with_reducible refine zAd ?_
  exact zCs rfl rfl
theorem yFb (c : Fd) (b : Bool) (h : c.r ≤ 1000000000) : Contract Tryz.prog zAB [.io (fdV c), .val (bv b), .val (iv 3)] { res := .tup [], io := fdV (c.add (fR b)) } := by
 unfold fdV
 refine zCL (base := 17) ⟨Nat.le_of_ble_eq_true rfl, Nat.le_of_ble_eq_true rfl, Nat.le_of_ble_eq_true rfl, ⟨rfl, rfl⟩⟩ (fun hfit => ?_)
 unfold F0 zBu
 simp (maxSteps := 2000000) only [zAE, List.set_cons_succ, List.set_cons_zero, List.map_cons, List.map_nil, zAD, zAb, ioOf, List.length_cons, List.length_nil, Nat.reduceAdd, Nat.reduceSub, List.replicate, List.cons_append, List.nil_append]
 try simp (maxSteps := 2000000) only [go_sem]
 repeat with_reducible refine zAd ?_
 refine zAc (by rfl) trivial (fun hb => ?_) (fun hb => ?_)
 ·subst hb
  try simp (maxSteps := 2000000) only [go_sem, Int.reduceToNat]
  repeat with_reducible refine zAd ?_
  exact zCs rfl rfl
 ·subst hb
  try simp (maxSteps := 2000000) only [go_sem]
  repeat with_reducible refine zAd ?_
  exact zCs rfl rfl
theorem yBk (c : Fd) (b : Bool) (h : c.k ≤ 1000000000) : Contract Tryz.prog zAB [.io (fdV c), .val (bv b), .val (iv 4)] { res := .tup [], io := fdV (c.add (fK b)) } := by
 unfold fdV
 refine zCL (base := 17) ⟨Nat.le_of_ble_eq_true rfl, Nat.le_of_ble_eq_true rfl, Nat.le_of_ble_eq_true rfl, ⟨rfl, rfl⟩⟩ (fun hfit => ?_)
 unfold F0 zBu
 simp (maxSteps := 2000000) only [zAE, List.set_cons_succ, List.set_cons_zero, List.map_cons, List.map_nil, zAD, zAb, ioOf, List.length_cons, List.length_nil, Nat.reduceAdd, Nat.reduceSub, List.replicate, List.cons_append, List.nil_append]
 try simp (maxSteps := 2000000) only [go_sem]
 repeat with_reducible refine zAd ?_
 refine zAc (by rfl) trivial (fun hb => ?_) (fun hb => ?_)
 ·subst hb
  try simp (maxSteps := 2000000) only [go_sem, Int.reduceToNat]
  repeat with_reducible refine zAd ?_
  exact zCs rfl rfl
 ·subst hb
  try simp (maxSteps := 2000000) only [go_sem]
  repeat with_reducible refine zAd ?_
  exact zCs rfl rfl
def shV (k : Int) : PVal := .agg [bB (zWB k), bB (zNf k), bB (yFN k), bB (zHf k)]
def kOk (k : Int) : Bool := decide (1 ≤ k ∧ k ≤ 15)
theorem yDQ (k : Int) : Contract Tryz.prog zL4 [.val (iv k)] { res := .tup [shV k, bv (kOk k)] } := by
 refine yCb (base := 0) ⟨Nat.le_of_ble_eq_true rfl, Nat.le_of_ble_eq_true rfl, Nat.le_of_ble_eq_true rfl, rfl⟩ (fun hfit => ?_)
 unfold F0 zKG
 simp (maxSteps := 2000000) only [zAE, List.set_cons_succ, List.set_cons_zero, List.map_cons, List.map_nil, zAD, zAb, ioOf, List.length_cons, List.length_nil, Nat.reduceAdd, Nat.reduceSub, List.replicate, List.cons_append, List.nil_append]
 try simp (maxSteps := 2000000) only [go_sem]
 repeat with_reducible refine zAd ?_
 by_cases hk : 1 ≤ k ∧ k ≤ 15
 ·have hn : k = 1 ∨ k = 2 ∨ k = 3 ∨ k = 4 ∨ k = 5 ∨ k = 6 ∨ k = 7 ∨ k = 8 ∨ k = 9 ∨ k = 10 ∨ k = 11 ∨ k = 12 ∨ k = 13 ∨ k = 14 ∨ k = 15 := by omega
  rcases hn with rfl | rfl | rfl | rfl | rfl | rfl | rfl | rfl | rfl | rfl | rfl | rfl | rfl | rfl | rfl
  all_goals
   repeat (first | (refine yIp (by rfl) trivial ?_; (try simp (maxSteps := 2000000) only [go_sem])) | (refine yFL (by rfl) trivial ?_; (try simp (maxSteps := 2000000) only [go_sem])))
   exact zBI (by simp) ⟨yBf rfl rfl (.inl rfl), zAR rfl trivial (.inl rfl), rfl⟩
 ·have e : ∀ n : Int, 1 ≤ n → n ≤ 15 → (k == n) = false := by intro n h1 h2; simp; omega
  have hs : shV k = .agg [bB false, bB false, bB false, bB false] := by
   unfold shV
   congr 2
   ·unfold zWB; congr 2; simp; omega
   ·congr 1
    ·unfold zNf; congr 2; simp; omega
    ·congr 1
     ·unfold yFN; congr 2; simp; omega
     ·congr 1
      unfold zHf; congr 2; simp; omega
  have ho : kOk k = false := by unfold kOk; simp; omega
  rw [hs, ho]
  try simp (maxSteps := 2000000) only [go_sem, e 1 (by omega) (by omega), e 2 (by omega) (by omega), e 3 (by omega) (by omega), e 4 (by omega) (by omega), e 5 (by omega) (by omega), e 6 (by omega) (by omega), e 7 (by omega) (by omega), e 8 (by omega) (by omega), e 9 (by omega) (by omega), e 10 (by omega) (by omega), e 11 (by omega) (by omega), e 12 (by omega) (by omega), e 13 (by omega) (by omega), e 14 (by omega) (by omega), e 15 (by omega) (by omega)]
  repeat (refine yFL (by rfl) trivial ?_; (try simp (maxSteps := 2000000) only [go_sem, e 1 (by omega) (by omega), e 2 (by omega) (by omega), e 3 (by omega) (by omega), e 4 (by omega) (by omega), e 5 (by omega) (by omega), e 6 (by omega) (by omega), e 7 (by omega) (by omega), e 8 (by omega) (by omega), e 9 (by omega) (by omega), e 10 (by omega) (by omega), e 11 (by omega) (by omega), e 12 (by omega) (by omega), e 13 (by omega) (by omega), e 14 (by omega) (by omega), e 15 (by omega) (by omega)]))
  exact zBI (by simp) ⟨yBf rfl rfl (.inl rfl), zAR rfl trivial (.inl rfl), rfl⟩
theorem zXY : Contract Tryz.prog zG2 [] { res := .val (.agg [bI 2, bI 4, bI 1, bI 3]) } := by
 refine zUC (base := 0) ⟨Nat.le_of_ble_eq_true rfl, Nat.le_of_ble_eq_true rfl, Nat.le_of_ble_eq_true rfl, rfl⟩ (fun hfit => ?_)
 unfold F0 zFL
 simp (maxSteps := 2000000) only [zAE, List.set_cons_succ, List.set_cons_zero, List.map_cons, List.map_nil, zAD, zAb, ioOf, List.length_cons, List.length_nil, Nat.reduceAdd, Nat.reduceSub, List.replicate, List.cons_append, List.nil_append]
 try simp (maxSteps := 2000000) only [go_sem]
 repeat with_reducible refine zAd ?_
 exact zWw rfl rfl rfl
end Go.Hx
end
