/-
  Walks of functions of the program: each contract says what the function computes, for every input that its conditions let by. No other condition.
-/
import Derived.Test.YtjnagiaooecklaaDoorPQ1
set_option linter.all false
-- DOM getO, u8s, Option.map_some
set_option maxRecDepth 100000
set_option linter.unusedSimpArgs false
namespace Go.Hx
open Go.Proofs
attribute [local instance] globNum

theorem dd_big {u : Nat} (h : ¬ u < 10) : Lib.decDigits u = Lib.decDigits (u / 10) ++ Lib.decDigits (u % 10) := by
  rw [Lib.decDigits, dif_neg h, Lib.decDigits_one (show u % 10 < 10 by omega)]
theorem itoa_neg {n : Int} (h : n < 0) : Lib.itoa n = 45 :: Lib.itoa (-n) := by
  unfold Lib.itoa
  rw [if_pos h, if_neg (by omega)]
  congr 2
  omega
theorem itoa_big {n : Int} (h : 10 ≤ n) : Lib.itoa n = Lib.itoa (n.tdiv 10) ++ Lib.itoa (n.tmod 10) := by
  obtain ⟨u, rfl⟩ : ∃ u : Nat, n = u := ⟨n.toNat, by omega⟩
  have e1 : (u : Int).tdiv 10 = ((u / 10 : Nat) : Int) := by rw [Int.tdiv_eq_ediv_of_nonneg (by omega)]; omega
  have e2 : (u : Int).tmod 10 = ((u % 10 : Nat) : Int) := by rw [Int.tmod_eq_emod_of_nonneg (by omega)]; omega
  rw [e1, e2]
  unfold Lib.itoa
  rw [if_neg (by omega), if_neg (by omega), if_neg (by omega), Int.toNat_natCast, Int.toNat_natCast, Int.toNat_natCast]
  exact dd_big (by omega)
theorem itoa_nbig {n : Int} (h : n ≤ -10) : Lib.itoa n = Lib.itoa (n.tdiv 10) ++ Lib.itoa (-(n.tmod 10)) := by
  have e1 : n.tdiv 10 = -((-n).tdiv 10) := by rw [Int.neg_tdiv]; omega
  have e2 : n.tmod 10 = -((-n).tmod 10) := by rw [Int.neg_tmod]; omega
  have h3 : (-n).tdiv 10 = -n / 10 := Int.tdiv_eq_ediv_of_nonneg (by omega)
  rw [itoa_neg (by omega), itoa_big (by omega), e1, e2, Int.neg_neg, itoa_neg (n := -((-n).tdiv 10)) (by rw [h3]; omega), Int.neg_neg]
  rfl
theorem div10 {n : Int} (h : -1048576 ≤ n ∧ n ≤ 1048576) : (0 ≤ n → n.tdiv 10 = n / 10 ∧ n.tmod 10 = n % 10) ∧ (n ≤ 0 → n.tdiv 10 = -(-n / 10) ∧ n.tmod 10 = -(-n % 10)) := by
  refine ⟨fun h0 => ⟨Int.tdiv_eq_ediv_of_nonneg h0, Int.tmod_eq_emod_of_nonneg h0⟩, fun h0 => ?_⟩
  have h3 : (-n).tdiv 10 = -n / 10 := Int.tdiv_eq_ediv_of_nonneg (by omega)
  have h4 : (-n).tmod 10 = -n % 10 := Int.tmod_eq_emod_of_nonneg (by omega)
  rw [← h3, ← h4, Int.neg_tdiv, Int.neg_tmod]
  omega

theorem c_ref_Digits : ∀ (k : Nat) (n : Int), 2 * n.natAbs + (if n < 0 then 1 else 0) < k → (-1048576 ≤ n ∧ n ≤ 1048576) → Contract Tryd.prog fn_ref_Digits [.val (iv n)] { res := .val (sv (Lib.itoa n)) }
  | 0, n, hk, _ => by omega
  | k + 1, n, hk, hn => by
    have hl := itoa_short hn
    obtain ⟨hd1, hd2⟩ := div10 hn
    have hm0 : maxLen = 9223372036854775807 := rfl
    refine mk_ref_Digits (base := 0) ⟨Nat.le_of_ble_eq_true rfl, Nat.le_of_ble_eq_true rfl, Nat.le_of_ble_eq_true rfl, rfl⟩ (fun hfit => ?_)
    unfold F0 ref_Digits_E
    simp (config := { maxSteps := 2000000 }) only [markU, List.set_cons_succ, List.set_cons_zero, List.map_cons, List.map_nil, argCt, setCells, ioOf, List.length_cons, List.length_nil, Nat.reduceAdd, Nat.reduceSub, List.replicate, List.cons_append, List.nil_append]
    try simp (config := { maxSteps := 2000000 }) only [go_sem, reduceCtorEq, Nat.reduceAdd, Nat.reduceEqDiff, reduceIte, Nat.reduceLeDiff, Nat.reduceLT, Nat.reduceSub, getO, u8s, Option.map_some, ndsV_len, clsV_len, attV_len, intsR_len, ndV, cellsEq]
    all_goals (repeat (with_reducible refine And.intro (by (first | omega | exact inR_small (by omega) (by omega) | exact fun _ => inR_small (by omega) (by omega) | assumption | trivial | (intros; omega) | (simp_all; done) | (intros; simp [*]; done) | (simp_all; omega) | grind)) ?_))
    refine cond_of (by rfl) trivial (fun h => ?_) (fun h => ?_)
    · have h2 : n < 0 ∧ -10 < n := by simp at h; omega
      have l1 := itoa_short (a := -n) (by omega)
      try simp (config := { maxSteps := 2000000 }) only [go_sem, reduceCtorEq, Nat.reduceAdd, Nat.reduceEqDiff, reduceIte, Nat.reduceLeDiff, Nat.reduceLT, Nat.reduceSub, getO, u8s, Option.map_some, ndsV_len, clsV_len, attV_len, intsR_len, ndV, cellsEq]
      all_goals (repeat (with_reducible refine And.intro (by (first | omega | exact inR_small (by omega) (by omega) | exact fun _ => inR_small (by omega) (by omega) | assumption | trivial | (intros; omega) | (simp_all; done) | (intros; simp [*]; done) | (simp_all; omega) | grind)) ?_))
      refine call_val (by repeat' constructor) (c_ref_Digits k (-n) (by split at hk <;> split <;> omega) (by omega)) ?_
      try simp (config := { maxSteps := 2000000 }) only [go_sem, reduceCtorEq, Nat.reduceAdd, Nat.reduceEqDiff, reduceIte, Nat.reduceLeDiff, Nat.reduceLT, Nat.reduceSub, getO, u8s, Option.map_some, ndsV_len, clsV_len, attV_len, intsR_len, ndV, cellsEq, List.length_append, List.length_cons, List.length_nil, Nat.zero_add]
      all_goals (repeat (with_reducible refine And.intro (by (first | omega | exact inR_small (by omega) (by omega) | exact fun _ => inR_small (by omega) (by omega) | assumption | trivial | (intros; omega) | (simp_all; done) | (intros; simp [*]; done) | (simp_all; omega) | grind)) ?_))
      refine fin_val rfl trivial (.inl ?_)
      rw [itoa_neg h2.1]
    try simp (config := { maxSteps := 2000000 }) only [go_sem, reduceCtorEq, Nat.reduceAdd, Nat.reduceEqDiff, reduceIte, Nat.reduceLeDiff, Nat.reduceLT, Nat.reduceSub, getO, u8s, Option.map_some, ndsV_len, clsV_len, attV_len, intsR_len, ndV, cellsEq]
    all_goals (repeat (with_reducible refine And.intro (by (first | omega | exact inR_small (by omega) (by omega) | exact fun _ => inR_small (by omega) (by omega) | assumption | trivial | (intros; omega) | (simp_all; done) | (intros; simp [*]; done) | (simp_all; omega) | grind)) ?_))
    refine cond_of (by rfl) trivial (fun h3 => ?_) (fun h3 => ?_)
    · have h4 : n ≤ -10 := by simp at h h3; omega
      have e := hd2 (by omega)
      have hm : -1048576 ≤ n.tdiv 10 ∧ n.tdiv 10 ≤ 1048576 := by omega
      have hm2 : -1048576 ≤ -(n.tmod 10) ∧ -(n.tmod 10) ≤ 1048576 := by omega
      have l1 := itoa_short hm
      have l2 := itoa_short hm2
      have hq : ¬ (10 : Int) = 0 ∧ inR .i64 (n.tdiv 10) := ⟨by decide, inR_small (by omega) (by omega)⟩
      try simp (config := { maxSteps := 2000000 }) only [go_sem, reduceCtorEq, Nat.reduceAdd, Nat.reduceEqDiff, reduceIte, Nat.reduceLeDiff, Nat.reduceLT, Nat.reduceSub, getO, u8s, Option.map_some, ndsV_len, clsV_len, attV_len, intsR_len, ndV, cellsEq]
      all_goals (repeat (with_reducible refine And.intro (by (first | omega | exact inR_small (by omega) (by omega) | exact fun _ => inR_small (by omega) (by omega) | assumption | trivial | (intros; omega) | (simp_all; done) | (intros; simp [*]; done) | (simp_all; omega) | grind)) ?_))
      refine call_val (by repeat' constructor) (c_ref_Digits k (n.tdiv 10) (by split at hk <;> split <;> omega) hm) ?_
      try simp (config := { maxSteps := 2000000 }) only [go_sem, reduceCtorEq, Nat.reduceAdd, Nat.reduceEqDiff, reduceIte, Nat.reduceLeDiff, Nat.reduceLT, Nat.reduceSub, getO, u8s, Option.map_some, ndsV_len, clsV_len, attV_len, intsR_len, ndV, cellsEq]
      all_goals (repeat (with_reducible refine And.intro (by (first | omega | exact inR_small (by omega) (by omega) | exact fun _ => inR_small (by omega) (by omega) | assumption | trivial | (intros; omega) | (simp_all; done) | (intros; simp [*]; done) | (simp_all; omega) | grind)) ?_))
      refine call_val (by repeat' constructor) (c_ref_Digits k (-(n.tmod 10)) (by split at hk <;> split <;> omega) hm2) ?_
      try simp (config := { maxSteps := 2000000 }) only [go_sem, reduceCtorEq, Nat.reduceAdd, Nat.reduceEqDiff, reduceIte, Nat.reduceLeDiff, Nat.reduceLT, Nat.reduceSub, getO, u8s, Option.map_some, ndsV_len, clsV_len, attV_len, intsR_len, ndV, cellsEq]
      all_goals (repeat (with_reducible refine And.intro (by (first | omega | exact inR_small (by omega) (by omega) | exact fun _ => inR_small (by omega) (by omega) | assumption | trivial | (intros; omega) | (simp_all; done) | (intros; simp [*]; done) | (simp_all; omega) | grind)) ?_))
      refine fin_val rfl trivial (.inl ?_)
      rw [itoa_nbig h4]
    have h4 : 0 ≤ n := by simpa using h3
    have e := hd1 (by omega)
    try simp (config := { maxSteps := 2000000 }) only [go_sem, reduceCtorEq, Nat.reduceAdd, Nat.reduceEqDiff, reduceIte, Nat.reduceLeDiff, Nat.reduceLT, Nat.reduceSub, getO, u8s, Option.map_some, ndsV_len, clsV_len, attV_len, intsR_len, ndV, cellsEq]
    all_goals (repeat (with_reducible refine And.intro (by (first | omega | exact inR_small (by omega) (by omega) | exact fun _ => inR_small (by omega) (by omega) | assumption | trivial | (intros; omega) | (simp_all; done) | (intros; simp [*]; done) | (simp_all; omega) | grind)) ?_))
    refine cond_of (by rfl) trivial (fun h5 => ?_) (fun h5 => ?_)
    · have h6 : n < 10 := by simpa using h5
      have hq : inR .u8 (48 + n) := ⟨show (0 : Int) ≤ 48 + n by omega, show 48 + n ≤ (255 : Int) by omega⟩
      try simp (config := { maxSteps := 2000000 }) only [go_sem, reduceCtorEq, Nat.reduceAdd, Nat.reduceEqDiff, reduceIte, Nat.reduceLeDiff, Nat.reduceLT, Nat.reduceSub, getO, u8s, Option.map_some, ndsV_len, clsV_len, attV_len, intsR_len, ndV, cellsEq]
      all_goals (repeat (with_reducible refine And.intro (by (first | omega | exact inR_small (by omega) (by omega) | exact fun _ => inR_small (by omega) (by omega) | assumption | trivial | (intros; omega) | (simp_all; done) | (intros; simp [*]; done) | (simp_all; omega) | grind)) ?_))
      refine fin_val rfl trivial (.inl ?_)
      have e1 : Lib.itoa n = [UInt8.ofNat (48 + n.toNat)] := by
        unfold Lib.itoa
        rw [if_neg (by omega), Lib.decDigits_one (by omega)]
      rw [e1]
      have e2 : (48 + n).toNat = 48 + n.toNat := by omega
      rw [e2]
    · have h6 : 10 ≤ n := by simpa using h5
      have hm : -1048576 ≤ n.tdiv 10 ∧ n.tdiv 10 ≤ 1048576 := by omega
      have hm2 : -1048576 ≤ n.tmod 10 ∧ n.tmod 10 ≤ 1048576 := by omega
      have l1 := itoa_short hm
      have l2 := itoa_short hm2
      have hq : ¬ (10 : Int) = 0 ∧ inR .i64 (n.tdiv 10) := ⟨by decide, inR_small (by omega) (by omega)⟩
      try simp (config := { maxSteps := 2000000 }) only [go_sem, reduceCtorEq, Nat.reduceAdd, Nat.reduceEqDiff, reduceIte, Nat.reduceLeDiff, Nat.reduceLT, Nat.reduceSub, getO, u8s, Option.map_some, ndsV_len, clsV_len, attV_len, intsR_len, ndV, cellsEq]
      all_goals (repeat (with_reducible refine And.intro (by (first | omega | exact inR_small (by omega) (by omega) | exact fun _ => inR_small (by omega) (by omega) | assumption | trivial | (intros; omega) | (simp_all; done) | (intros; simp [*]; done) | (simp_all; omega) | grind)) ?_))
      refine call_val (by repeat' constructor) (c_ref_Digits k (n.tdiv 10) (by split at hk <;> split <;> omega) hm) ?_
      try simp (config := { maxSteps := 2000000 }) only [go_sem, reduceCtorEq, Nat.reduceAdd, Nat.reduceEqDiff, reduceIte, Nat.reduceLeDiff, Nat.reduceLT, Nat.reduceSub, getO, u8s, Option.map_some, ndsV_len, clsV_len, attV_len, intsR_len, ndV, cellsEq]
      all_goals (repeat (with_reducible refine And.intro (by (first | omega | exact inR_small (by omega) (by omega) | exact fun _ => inR_small (by omega) (by omega) | assumption | trivial | (intros; omega) | (simp_all; done) | (intros; simp [*]; done) | (simp_all; omega) | grind)) ?_))
      refine call_val (by repeat' constructor) (c_ref_Digits k (n.tmod 10) (by split at hk <;> split <;> omega) hm2) ?_
      try simp (config := { maxSteps := 2000000 }) only [go_sem, reduceCtorEq, Nat.reduceAdd, Nat.reduceEqDiff, reduceIte, Nat.reduceLeDiff, Nat.reduceLT, Nat.reduceSub, getO, u8s, Option.map_some, ndsV_len, clsV_len, attV_len, intsR_len, ndV, cellsEq]
      all_goals (repeat (with_reducible refine And.intro (by (first | omega | exact inR_small (by omega) (by omega) | exact fun _ => inR_small (by omega) (by omega) | assumption | trivial | (intros; omega) | (simp_all; done) | (intros; simp [*]; done) | (simp_all; omega) | grind)) ?_))
      refine fin_val rfl trivial (.inl ?_)
      rw [itoa_big h6]
end Go.Hx
