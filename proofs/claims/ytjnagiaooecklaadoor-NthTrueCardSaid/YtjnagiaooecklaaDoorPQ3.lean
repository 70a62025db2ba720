/-
  Walks of functions of the program: each contract says what the function computes, for every input that its conditions let by. No other condition.
-/
import Derived.Test.YtjnagiaooecklaaDoorPQ2
set_option linter.all false
-- DOM getO, nthV
set_option maxRecDepth 100000
set_option linter.unusedSimpArgs false
namespace Go.Hx
open Go.Proofs
attribute [local instance] globNum

theorem q_Digits (n : Int) (hn : -1048576 ≤ n ∧ n ≤ 1048576) : Contract Tryd.prog fn_ref_Digits [.val (iv n)] { res := .val (sv (Lib.itoa n)) } := c_ref_Digits _ n (Nat.lt_succ_self _) hn

theorem c_ref_NthText (a b : Int) (h : nthE a b = 0) : Contract Tryd.prog fn_ref_NthText [.val (nthV a b)] { res := .val (sv (nthText a b)) } := by
  obtain ⟨h3, h4⟩ := nthE_ok h
  have l1 := itoa_short h3
  have l2 := itoa_short h4
  have hm0 : maxLen = 9223372036854775807 := rfl
  refine mk_ref_NthText (base := 0) ⟨Nat.le_of_ble_eq_true rfl, Nat.le_of_ble_eq_true rfl, Nat.le_of_ble_eq_true rfl, rfl⟩ (fun hfit => ?_)
  unfold F0 ref_NthText_E
  simp (config := { maxSteps := 2000000 }) only [markU, List.set_cons_succ, List.set_cons_zero, List.map_cons, List.map_nil, argCt, setCells, ioOf, List.length_cons, List.length_nil, Nat.reduceAdd, Nat.reduceSub, List.replicate, List.cons_append, List.nil_append]
  try simp (config := { maxSteps := 2000000 }) only [go_sem, reduceCtorEq, Nat.reduceAdd, Nat.reduceEqDiff, reduceIte, Nat.reduceLeDiff, Nat.reduceLT, Nat.reduceSub, getO, nthV, ndsV_len, clsV_len, attV_len, intsR_len, ndV, cellsEq]
  all_goals (repeat (with_reducible refine And.intro (by (first | omega | exact inR_small (by omega) (by omega) | exact fun _ => inR_small (by omega) (by omega) | assumption | trivial | (intros; omega) | (simp_all; done) | (intros; simp [*]; done) | (simp_all; omega) | grind)) ?_))
  refine cond_of (by rfl) trivial (fun h5 => ?_) (fun h5 => ?_)
  · have h6 : b < 0 := by simpa using h5
    have l3 := itoa_short (a := -b) (by omega)
    try simp (config := { maxSteps := 2000000 }) only [go_sem, reduceCtorEq, Nat.reduceAdd, Nat.reduceEqDiff, reduceIte, Nat.reduceLeDiff, Nat.reduceLT, Nat.reduceSub, getO, nthV, ndsV_len, clsV_len, attV_len, intsR_len, ndV, cellsEq]
    all_goals (repeat (with_reducible refine And.intro (by (first | omega | exact inR_small (by omega) (by omega) | exact fun _ => inR_small (by omega) (by omega) | assumption | trivial | (intros; omega) | (simp_all; done) | (intros; simp [*]; done) | (simp_all; omega) | grind)) ?_))
    refine call_val (by repeat' constructor) (q_Digits a h3) ?_
    try simp (config := { maxSteps := 2000000 }) only [go_sem, reduceCtorEq, Nat.reduceAdd, Nat.reduceEqDiff, reduceIte, Nat.reduceLeDiff, Nat.reduceLT, Nat.reduceSub, getO, nthV, ndsV_len, clsV_len, attV_len, intsR_len, ndV, cellsEq, List.length_append, List.length_cons, List.length_nil, Nat.zero_add]
    all_goals (repeat (with_reducible refine And.intro (by (first | omega | exact inR_small (by omega) (by omega) | exact fun _ => inR_small (by omega) (by omega) | assumption | trivial | (intros; omega) | (simp_all; done) | (intros; simp [*]; done) | (simp_all; omega) | grind)) ?_))
    refine call_val (by repeat' constructor) (q_Digits (-b) (by omega)) ?_
    try simp (config := { maxSteps := 2000000 }) only [go_sem, reduceCtorEq, Nat.reduceAdd, Nat.reduceEqDiff, reduceIte, Nat.reduceLeDiff, Nat.reduceLT, Nat.reduceSub, getO, nthV, ndsV_len, clsV_len, attV_len, intsR_len, ndV, cellsEq, List.length_append, List.length_cons, List.length_nil, Nat.zero_add]
    all_goals (repeat (with_reducible refine And.intro (by (first | omega | exact inR_small (by omega) (by omega) | exact fun _ => inR_small (by omega) (by omega) | assumption | trivial | (intros; omega) | (simp_all; done) | (intros; simp [*]; done) | (simp_all; omega) | grind)) ?_))
    refine fin_val rfl trivial (.inl ?_)
    unfold nthText
    rw [if_neg (by omega), itoa_neg h6]
    simp
  · have h6 : 0 ≤ b := by simpa using h5
    try simp (config := { maxSteps := 2000000 }) only [go_sem, reduceCtorEq, Nat.reduceAdd, Nat.reduceEqDiff, reduceIte, Nat.reduceLeDiff, Nat.reduceLT, Nat.reduceSub, getO, nthV, ndsV_len, clsV_len, attV_len, intsR_len, ndV, cellsEq]
    all_goals (repeat (with_reducible refine And.intro (by (first | omega | exact inR_small (by omega) (by omega) | exact fun _ => inR_small (by omega) (by omega) | assumption | trivial | (intros; omega) | (simp_all; done) | (intros; simp [*]; done) | (simp_all; omega) | grind)) ?_))
    refine call_val (by repeat' constructor) (q_Digits a h3) ?_
    try simp (config := { maxSteps := 2000000 }) only [go_sem, reduceCtorEq, Nat.reduceAdd, Nat.reduceEqDiff, reduceIte, Nat.reduceLeDiff, Nat.reduceLT, Nat.reduceSub, getO, nthV, ndsV_len, clsV_len, attV_len, intsR_len, ndV, cellsEq, List.length_append, List.length_cons, List.length_nil, Nat.zero_add]
    all_goals (repeat (with_reducible refine And.intro (by (first | omega | exact inR_small (by omega) (by omega) | exact fun _ => inR_small (by omega) (by omega) | assumption | trivial | (intros; omega) | (simp_all; done) | (intros; simp [*]; done) | (simp_all; omega) | grind)) ?_))
    refine call_val (by repeat' constructor) (q_Digits b h4) ?_
    try simp (config := { maxSteps := 2000000 }) only [go_sem, reduceCtorEq, Nat.reduceAdd, Nat.reduceEqDiff, reduceIte, Nat.reduceLeDiff, Nat.reduceLT, Nat.reduceSub, getO, nthV, ndsV_len, clsV_len, attV_len, intsR_len, ndV, cellsEq, List.length_append, List.length_cons, List.length_nil, Nat.zero_add]
    all_goals (repeat (with_reducible refine And.intro (by (first | omega | exact inR_small (by omega) (by omega) | exact fun _ => inR_small (by omega) (by omega) | assumption | trivial | (intros; omega) | (simp_all; done) | (intros; simp [*]; done) | (simp_all; omega) | grind)) ?_))
    refine fin_val rfl trivial (.inl ?_)
    unfold nthText
    rw [if_pos h6]
    simp

/-- NthHolds, as it is written. -/
def refHolds (a b i : Int) : Bool := if nthE a b = 0 ∧ 1 ≤ i ∧ i ≤ 1073741824 then (if a = 0 ∨ i = b then decide (i = b) else if 0 < a then decide (b < i) && decide ((i - b).tmod a = 0) else decide (i < b) && decide ((b - i).tmod (-a) = 0)) else false
theorem c_ref_NthHolds (a b i : Int) : Contract Tryd.prog fn_ref_NthHolds [.val (nthV a b), .val (iv i)] { res := .val (bv (refHolds a b i)) } := by
  refine mk_ref_NthHolds (base := 0) ⟨Nat.le_of_ble_eq_true rfl, Nat.le_of_ble_eq_true rfl, Nat.le_of_ble_eq_true rfl, rfl⟩ (fun hfit => ?_)
  unfold F0 ref_NthHolds_E
  simp (config := { maxSteps := 2000000 }) only [markU, List.set_cons_succ, List.set_cons_zero, List.map_cons, List.map_nil, argCt, setCells, ioOf, List.length_cons, List.length_nil, Nat.reduceAdd, Nat.reduceSub, List.replicate, List.cons_append, List.nil_append]
  try simp (config := { maxSteps := 2000000 }) only [go_sem, reduceCtorEq, Nat.reduceAdd, Nat.reduceEqDiff, reduceIte, Nat.reduceLeDiff, Nat.reduceLT, Nat.reduceSub, getO, nthV, ndsV_len, clsV_len, attV_len, intsR_len, ndV, cellsEq]
  all_goals (repeat (with_reducible refine And.intro (by (first | omega | exact inR_small (by omega) (by omega) | exact fun _ => inR_small (by omega) (by omega) | assumption | trivial | (intros; omega) | (simp_all; done) | (intros; simp [*]; done) | (simp_all; omega) | grind)) ?_))
  refine call_val (by repeat' constructor) (c_ref_CheckNth a b) ?_
  try simp (config := { maxSteps := 2000000 }) only [go_sem, reduceCtorEq, Nat.reduceAdd, Nat.reduceEqDiff, reduceIte, Nat.reduceLeDiff, Nat.reduceLT, Nat.reduceSub, getO, nthV, ndsV_len, clsV_len, attV_len, intsR_len, ndV, cellsEq]
  all_goals (repeat (with_reducible refine And.intro (by (first | omega | exact inR_small (by omega) (by omega) | exact fun _ => inR_small (by omega) (by omega) | assumption | trivial | (intros; omega) | (simp_all; done) | (intros; simp [*]; done) | (simp_all; omega) | grind)) ?_))
  refine cond_of (by rfl) trivial (fun h => ?_) (fun h => ?_)
  · try simp (config := { maxSteps := 2000000 }) only [go_sem, reduceCtorEq, Nat.reduceAdd, Nat.reduceEqDiff, reduceIte, Nat.reduceLeDiff, Nat.reduceLT, Nat.reduceSub, getO, nthV, ndsV_len, clsV_len, attV_len, intsR_len, ndV, cellsEq]
    all_goals (repeat (with_reducible refine And.intro (by (first | omega | exact inR_small (by omega) (by omega) | exact fun _ => inR_small (by omega) (by omega) | assumption | trivial | (intros; omega) | (simp_all; done) | (intros; simp [*]; done) | (simp_all; omega) | grind)) ?_))
    refine fin_val rfl trivial (.inl ?_)
    congr 3
    unfold refHolds
    rw [if_neg (by simp at h; omega)]
  have h2 : nthE a b = 0 ∧ 1 ≤ i ∧ i ≤ 1073741824 := by simp at h; omega
  obtain ⟨h3, h4⟩ := nthE_ok h2.1
  try simp (config := { maxSteps := 2000000 }) only [go_sem, reduceCtorEq, Nat.reduceAdd, Nat.reduceEqDiff, reduceIte, Nat.reduceLeDiff, Nat.reduceLT, Nat.reduceSub, getO, nthV, ndsV_len, clsV_len, attV_len, intsR_len, ndV, cellsEq]
  all_goals (repeat (with_reducible refine And.intro (by (first | omega | exact inR_small (by omega) (by omega) | exact fun _ => inR_small (by omega) (by omega) | assumption | trivial | (intros; omega) | (simp_all; done) | (intros; simp [*]; done) | (simp_all; omega) | grind)) ?_))
  have hh : refHolds a b i = (if a = 0 ∨ i = b then decide (i = b) else if 0 < a then decide (b < i) && decide ((i - b).tmod a = 0) else decide (i < b) && decide ((b - i).tmod (-a) = 0)) := by
    unfold refHolds
    rw [if_pos h2]
  refine cond_of (by rfl) trivial (fun h5 => ?_) (fun h5 => ?_)
  · try simp (config := { maxSteps := 2000000 }) only [go_sem, reduceCtorEq, Nat.reduceAdd, Nat.reduceEqDiff, reduceIte, Nat.reduceLeDiff, Nat.reduceLT, Nat.reduceSub, getO, nthV, ndsV_len, clsV_len, attV_len, intsR_len, ndV, cellsEq]
    all_goals (repeat (with_reducible refine And.intro (by (first | omega | exact inR_small (by omega) (by omega) | exact fun _ => inR_small (by omega) (by omega) | assumption | trivial | (intros; omega) | (simp_all; done) | (intros; simp [*]; done) | (simp_all; omega) | grind)) ?_))
    refine fin_val rfl trivial (.inl ?_)
    congr 3
    rw [hh, if_pos (by simp at h5; omega)]
    grind
  have h6 : ¬ (a = 0 ∨ i = b) := by simp at h5; omega
  have ha : a ≠ 0 := by omega
  try simp (config := { maxSteps := 2000000 }) only [go_sem, reduceCtorEq, Nat.reduceAdd, Nat.reduceEqDiff, reduceIte, Nat.reduceLeDiff, Nat.reduceLT, Nat.reduceSub, getO, nthV, ndsV_len, clsV_len, attV_len, intsR_len, ndV, cellsEq]
  all_goals (repeat (with_reducible refine And.intro (by (first | omega | exact inR_small (by omega) (by omega) | exact fun _ => inR_small (by omega) (by omega) | assumption | trivial | (intros; omega) | (simp_all; done) | (intros; simp [*]; done) | (simp_all; omega) | grind)) ?_))
  refine cond_of (by rfl) trivial (fun h7 => ?_) (fun h7 => ?_)
  · have h8 : 0 < a := by simpa using h7
    try simp (config := { maxSteps := 2000000 }) only [go_sem, reduceCtorEq, Nat.reduceAdd, Nat.reduceEqDiff, reduceIte, Nat.reduceLeDiff, Nat.reduceLT, Nat.reduceSub, getO, nthV, ndsV_len, clsV_len, attV_len, intsR_len, ndV, cellsEq, ha]
    all_goals (repeat (with_reducible refine And.intro (by (first | omega | exact inR_small (by omega) (by omega) | exact fun _ => inR_small (by omega) (by omega) | assumption | trivial | (intros; omega) | (simp_all; done) | (intros; simp [*]; done) | (simp_all; omega) | grind)) ?_))
    refine fin_val rfl trivial (.inl ?_)
    congr 3
    rw [hh, if_neg h6, if_pos h8]
    grind
  · have h8 : ¬ 0 < a := by simpa using h7
    have hna : -a ≠ 0 := by omega
    try simp (config := { maxSteps := 2000000 }) only [go_sem, reduceCtorEq, Nat.reduceAdd, Nat.reduceEqDiff, reduceIte, Nat.reduceLeDiff, Nat.reduceLT, Nat.reduceSub, getO, nthV, ndsV_len, clsV_len, attV_len, intsR_len, ndV, cellsEq, hna]
    all_goals (repeat (with_reducible refine And.intro (by (first | omega | exact inR_small (by omega) (by omega) | exact fun _ => inR_small (by omega) (by omega) | assumption | trivial | (intros; omega) | (simp_all; done) | (intros; simp [*]; done) | (simp_all; omega) | grind)) ?_))
    refine fin_val rfl trivial (.inl ?_)
    congr 3
    rw [hh, if_neg h6, if_neg h8]
    grind

/-! ### The reader -/

def signOk (s t : Bys) : Bool := decide (t.length ≤ s.length) && (s.take t.length == t)
def signR (s t : Bys) : Bys := if signOk s t then s.drop t.length else s
theorem c_ref_reader_sign (s t : Bys) : Contract Tryd.prog fn_ref_reader_sign [.io [bS s], .val (sv t)] { res := .val (bv (signOk s t)), io := [bS (signR s t)] } := by
  refine mk_ref_reader_sign (base := 34) ⟨Nat.le_of_ble_eq_true rfl, Nat.le_of_ble_eq_true rfl, Nat.le_of_ble_eq_true rfl, ⟨rfl, rfl⟩⟩ (fun hfit => ?_)
  unfold F0 ref_reader_sign_E
  simp (config := { maxSteps := 2000000 }) only [markU, List.set_cons_succ, List.set_cons_zero, List.map_cons, List.map_nil, argCt, setCells, ioOf, List.length_cons, List.length_nil, Nat.reduceAdd, Nat.reduceSub, List.replicate, List.cons_append, List.nil_append]
  try simp (config := { maxSteps := 2000000 }) only [go_sem, reduceCtorEq, Nat.reduceAdd, Nat.reduceEqDiff, reduceIte, Nat.reduceLeDiff, Nat.reduceLT, Nat.reduceSub, getO, nthV, ndsV_len, clsV_len, attV_len, intsR_len, ndV, cellsEq]
  all_goals (repeat (with_reducible refine And.intro (by (first | omega | exact inR_small (by omega) (by omega) | exact fun _ => inR_small (by omega) (by omega) | assumption | trivial | (intros; omega) | (simp_all; done) | (intros; simp [*]; done) | (simp_all; omega) | grind)) ?_))
  cases hd : decide ((s.length : Int) < (t.length : Int)) with
  | true =>
    try simp (config := { maxSteps := 2000000 }) only [go_sem, reduceCtorEq, Nat.reduceAdd, Nat.reduceEqDiff, reduceIte, Nat.reduceLeDiff, Nat.reduceLT, Nat.reduceSub, getO, nthV, ndsV_len, clsV_len, attV_len, intsR_len, ndV, cellsEq, Bool.not_true, Bool.not_false]
    all_goals (repeat (with_reducible refine And.intro (by (first | omega | exact inR_small (by omega) (by omega) | exact fun _ => inR_small (by omega) (by omega) | assumption | trivial | (intros; omega) | (simp_all; done) | (intros; simp [*]; done) | (simp_all; omega) | grind)) ?_))
    refine cond_of (by rfl) trivial (fun h => ?_) (fun h => ?_)
    · try simp (config := { maxSteps := 2000000 }) only [go_sem, reduceCtorEq, Nat.reduceAdd, Nat.reduceEqDiff, reduceIte, Nat.reduceLeDiff, Nat.reduceLT, Nat.reduceSub, getO, nthV, ndsV_len, clsV_len, attV_len, intsR_len, ndV, cellsEq]
      all_goals (repeat (with_reducible refine And.intro (by (first | omega | exact inR_small (by omega) (by omega) | exact fun _ => inR_small (by omega) (by omega) | assumption | trivial | (intros; omega) | (simp_all; done) | (intros; simp [*]; done) | (simp_all; omega) | grind)) ?_))
      have h2 : signOk s t = false := by
        have : s.length < t.length := by simpa using hd
        unfold signOk
        rw [decide_eq_false (by omega)]; rfl
      unfold signR
      rw [h2]
      exact fin_valio rfl trivial (.inl rfl) rfl rfl
    · simp at h
  | false =>
    have h1 : t.length ≤ s.length := by simpa using hd
    try simp (config := { maxSteps := 2000000 }) only [go_sem, reduceCtorEq, Nat.reduceAdd, Nat.reduceEqDiff, reduceIte, Nat.reduceLeDiff, Nat.reduceLT, Nat.reduceSub, getO, nthV, ndsV_len, clsV_len, attV_len, intsR_len, ndV, cellsEq, Bool.not_true, Bool.not_false, Int.toNat_natCast, Int.toNat_zero, List.drop_zero, Int.cast_ofNat_Int]
    all_goals (repeat (with_reducible refine And.intro (by (first | omega | exact inR_small (by omega) (by omega) | exact fun _ => inR_small (by omega) (by omega) | assumption | trivial | (intros; omega) | (simp_all; done) | (intros; simp [*]; done) | (simp_all; omega) | grind)) ?_))
    refine cond_of (by rfl) trivial (fun h => ?_) (fun h => ?_)
    · try simp (config := { maxSteps := 2000000 }) only [go_sem, reduceCtorEq, Nat.reduceAdd, Nat.reduceEqDiff, reduceIte, Nat.reduceLeDiff, Nat.reduceLT, Nat.reduceSub, getO, nthV, ndsV_len, clsV_len, attV_len, intsR_len, ndV, cellsEq]
      all_goals (repeat (with_reducible refine And.intro (by (first | omega | exact inR_small (by omega) (by omega) | exact fun _ => inR_small (by omega) (by omega) | assumption | trivial | (intros; omega) | (simp_all; done) | (intros; simp [*]; done) | (simp_all; omega) | grind)) ?_))
      have h2 : signOk s t = false := by
        unfold signOk
        rw [decide_eq_true h1]
        simpa using h
      unfold signR
      rw [h2]
      exact fin_valio rfl trivial (.inl rfl) rfl rfl
    · try simp (config := { maxSteps := 2000000 }) only [go_sem, reduceCtorEq, Nat.reduceAdd, Nat.reduceEqDiff, reduceIte, Nat.reduceLeDiff, Nat.reduceLT, Nat.reduceSub, getO, nthV, ndsV_len, clsV_len, attV_len, intsR_len, ndV, cellsEq, Int.toNat_natCast, List.take_length]
      all_goals (repeat (with_reducible refine And.intro (by (first | omega | exact inR_small (by omega) (by omega) | exact fun _ => inR_small (by omega) (by omega) | assumption | trivial | (intros; omega) | (simp_all; done) | (intros; simp [*]; done) | (simp_all; omega) | grind)) ?_))
      have h2 : signOk s t = true := by
        unfold signOk
        rw [decide_eq_true h1]
        simpa using h
      unfold signR
      rw [h2]
      exact fin_valio rfl trivial (.inl rfl) rfl rfl
/-- Digits, at most f of them. -/
def numF : Nat → Int → Bys → Int × Bys
  | 0, n, s => (n, s)
  | _ + 1, n, [] => (n, [])
  | f + 1, n, c :: s => if 48 ≤ c.toNat ∧ c.toNat ≤ 57 then numF f (10 * n + ((c.toNat : Int) - 48)) s else (n, c :: s)
def numR (s : Bys) : Int × Bys := numF 8 0 s
theorem p10 : ∀ i : Nat, i ≤ 8 → (10 : Int) ^ i ≤ 100000000
  | 0, _ | 1, _ | 2, _ | 3, _ | 4, _ | 5, _ | 6, _ | 7, _ | 8, _ => by decide
  | n + 9, h => by omega
theorem numF_bound : ∀ (f k : Nat) (n : Int) (s : Bys), f + k = 8 → 0 ≤ n → n < 10 ^ k → 0 ≤ (numF f n s).1 ∧ (numF f n s).1 < 100000000
  | 0, k, n, s, hk, h0, h1 => by
    have := p10 k (by omega)
    exact ⟨h0, Int.lt_of_lt_of_le h1 this⟩
  | f + 1, k, n, [], hk, h0, h1 => by
    have := p10 k (by omega)
    exact ⟨h0, Int.lt_of_lt_of_le h1 this⟩
  | f + 1, k, n, c :: s, hk, h0, h1 => by
    simp only [numF]
    split
    · have h2 : (10 : Int) ^ (k + 1) = 10 * 10 ^ k := by rw [Int.pow_succ, Int.mul_comm]
      exact numF_bound f (k + 1) _ s (by omega) (by omega) (by omega)
    · have := p10 k (by omega)
      exact ⟨h0, Int.lt_of_lt_of_le h1 this⟩
theorem numR_bound (s : Bys) : 0 ≤ (numR s).1 ∧ (numR s).1 < 100000000 := by
  have := numF_bound 8 0 0 s rfl (by omega) (by simp)
  exact this

theorem c_ref_reader_number (s : Bys) : Contract Tryd.prog fn_ref_reader_number [.io [bS s]] { res := .val (iv (numR s).1), io := [bS (numR s).2] } := by
  refine mk_ref_reader_number (base := 52) ⟨Nat.le_of_ble_eq_true rfl, Nat.le_of_ble_eq_true rfl, Nat.le_of_ble_eq_true rfl, ⟨rfl, rfl⟩⟩ (fun hfit => ?_)
  unfold F0 ref_reader_number_E
  simp (config := { maxSteps := 2000000 }) only [markU, List.set_cons_succ, List.set_cons_zero, List.map_cons, List.map_nil, argCt, setCells, ioOf, List.length_cons, List.length_nil, Nat.reduceAdd, Nat.reduceSub, List.replicate, List.cons_append, List.nil_append]
  try simp (config := { maxSteps := 2000000 }) only [go_sem, reduceCtorEq, Nat.reduceAdd, Nat.reduceEqDiff, reduceIte, Nat.reduceLeDiff, Nat.reduceLT, Nat.reduceSub, getO, nthV, ndsV_len, clsV_len, attV_len, intsR_len, ndV, cellsEq]
  all_goals (repeat (with_reducible refine And.intro (by (first | omega | exact inR_small (by omega) (by omega) | exact fun _ => inR_small (by omega) (by omega) | assumption | trivial | (intros; omega) | (simp_all; done) | (intros; simp [*]; done) | (simp_all; omega) | grind)) ?_))
  refine loop_sets (fun x : Nat × Int × Bys => [(3, .pv (iv x.2.1)), (4, .pv (iv x.1)), (30, .un), (52, .pv (.one (bS x.2.2)))]) (fun x : Nat × Int × Bys => 8 - x.1) (fun x : Nat × Int × Bys => x.1 ≤ 8 ∧ 0 ≤ x.2.1 ∧ x.2.1 < 10 ^ x.1 ∧ numF (8 - x.1) x.2.1 x.2.2 = numR s) ((0, 0, s)) ?_ ⟨Nat.zero_le _, Int.le_refl _, by simp, rfl⟩ ?_
  focus (simp (config := { maxSteps := 2000000 }) only [go_sem, reduceCtorEq, Nat.reduceAdd, Nat.reduceEqDiff, reduceIte, Nat.reduceLeDiff, Nat.reduceLT, Nat.reduceSub, getO, nthV, ndsV_len, clsV_len, attV_len, intsR_len, ndV, cellsEq, le_cons, le_nil, le_un, le_same]; all_goals (repeat' (first | exact trivial | exact le_int (by omega) | exact le_bool rfl | exact le_eq rfl | exact le_nlo | exact le_refl _ | refine And.intro ?_ ?_)))
  rintro ⟨i, n, r⟩ ⟨h1, h2, h3, h4⟩
  simp only at h1 h2 h3 h4
  have hp := p10 i h1
  by_cases hi : i < 8
  · have hd : decide ((i : Int) < 8) = true := by simp; omega
    cases hl : decide ((r.length : Int) > 0) with
    | false =>
      have hr : r = [] := by
        cases r with
        | nil => rfl
        | cons c r => simp at hl
      try simp (config := { maxSteps := 2000000 }) only [go_sem, reduceCtorEq, Nat.reduceAdd, Nat.reduceEqDiff, reduceIte, Nat.reduceLeDiff, Nat.reduceLT, Nat.reduceSub, getO, nthV, ndsV_len, clsV_len, attV_len, intsR_len, ndV, cellsEq, hd, hl]
      all_goals (repeat (with_reducible refine And.intro (by (first | omega | exact inR_small (by omega) (by omega) | exact fun _ => inR_small (by omega) (by omega) | assumption | trivial | (intros; omega) | (simp_all; done) | (intros; simp [*]; done) | (simp_all; omega) | grind)) ?_))
      refine cond_of (by rfl) trivial (fun h => ?_) (fun h => ?_)
      · simp at h
      · try simp (config := { maxSteps := 2000000 }) only [go_sem, reduceCtorEq, Nat.reduceAdd, Nat.reduceEqDiff, reduceIte, Nat.reduceLeDiff, Nat.reduceLT, Nat.reduceSub, getO, nthV, ndsV_len, clsV_len, attV_len, intsR_len, ndV, cellsEq]
        all_goals (repeat (with_reducible refine And.intro (by (first | omega | exact inR_small (by omega) (by omega) | exact fun _ => inR_small (by omega) (by omega) | assumption | trivial | (intros; omega) | (simp_all; done) | (intros; simp [*]; done) | (simp_all; omega) | grind)) ?_))
        subst hr
        obtain ⟨f, hf⟩ : ∃ f, 8 - i = f + 1 := ⟨8 - i - 1, by omega⟩
        rw [hf] at h4
        simp only [numF] at h4
        rw [← h4]
        exact fin_valio rfl trivial (.inl rfl) rfl rfl
    | true =>
      obtain ⟨c, r', hr⟩ : ∃ c r', r = c :: r' := by
        cases r with
        | nil => simp at hl
        | cons c r => exact ⟨c, r, rfl⟩
      obtain ⟨f, hf⟩ : ∃ f, 8 - i = f + 1 := ⟨8 - i - 1, by omega⟩
      rw [hf, hr] at h4
      simp only [numF] at h4
      have hb := c.toNat_lt
      have hlen : ((r.length : Nat) : Int) = r'.length + 1 := by rw [hr]; simp
      have hg : r.getD (0 : Int).toNat 0 = c := by rw [hr]; rfl
      have hdr : List.drop 1 r = r' := by rw [hr]; rfl
      cases hc1 : decide (((r.getD (0 : Int).toNat 0).toNat : Int) ≥ 48) with
      | false =>
        have hc2 : ¬ 48 ≤ c.toNat := by rw [hg] at hc1; simp at hc1; omega
        try simp (config := { maxSteps := 2000000 }) only [go_sem, reduceCtorEq, Nat.reduceAdd, Nat.reduceEqDiff, reduceIte, Nat.reduceLeDiff, Nat.reduceLT, Nat.reduceSub, getO, nthV, ndsV_len, clsV_len, attV_len, intsR_len, ndV, cellsEq, hd, hl, hc1]
        all_goals (repeat (with_reducible refine And.intro (by (first | omega | exact inR_small (by omega) (by omega) | exact fun _ => inR_small (by omega) (by omega) | assumption | trivial | (intros; omega) | (simp_all; done) | (intros; simp [*]; done) | (simp_all; omega) | grind)) ?_))
        refine cond_of (by rfl) trivial (fun h => ?_) (fun h => ?_)
        · simp at h
        · try simp (config := { maxSteps := 2000000 }) only [go_sem, reduceCtorEq, Nat.reduceAdd, Nat.reduceEqDiff, reduceIte, Nat.reduceLeDiff, Nat.reduceLT, Nat.reduceSub, getO, nthV, ndsV_len, clsV_len, attV_len, intsR_len, ndV, cellsEq]
          all_goals (repeat (with_reducible refine And.intro (by (first | omega | exact inR_small (by omega) (by omega) | exact fun _ => inR_small (by omega) (by omega) | assumption | trivial | (intros; omega) | (simp_all; done) | (intros; simp [*]; done) | (simp_all; omega) | grind)) ?_))
          rw [if_neg (by omega)] at h4
          rw [← h4]
          subst hr
          exact fin_valio rfl trivial (.inl rfl) rfl rfl
      | true =>
        have hc2 : 48 ≤ c.toNat := by rw [hg] at hc1; simp at hc1; omega
        try simp (config := { maxSteps := 2000000 }) only [go_sem, reduceCtorEq, Nat.reduceAdd, Nat.reduceEqDiff, reduceIte, Nat.reduceLeDiff, Nat.reduceLT, Nat.reduceSub, getO, nthV, ndsV_len, clsV_len, attV_len, intsR_len, ndV, cellsEq, hd, hl, hc1]
        all_goals (repeat (with_reducible refine And.intro (by (first | omega | exact inR_small (by omega) (by omega) | exact fun _ => inR_small (by omega) (by omega) | assumption | trivial | (intros; omega) | (simp_all; done) | (intros; simp [*]; done) | (simp_all; omega) | grind)) ?_))
        refine cond_of (by rfl) trivial (fun h => ?_) (fun h => ?_)
        · have hc3 : c.toNat ≤ 57 := by rw [hg] at h; simp at h; omega
          rw [if_pos ⟨hc2, hc3⟩] at h4
          have hg0 : r.getD 0 0 = c := hg
          have hu8 : inR .u8 ((c.toNat : Int) - 48) := ⟨show (0 : Int) ≤ (c.toNat : Int) - 48 by omega, show (c.toNat : Int) - 48 ≤ (255 : Int) by omega⟩
          have hsl : (0 : Int) ≤ 1 ∧ (1 : Int) ≤ r.length ∧ (r.length : Int) ≤ r.length := by omega
          have hpw : (10 : Int) ^ (i + 1) = 10 * 10 ^ i := by rw [Int.pow_succ, Int.mul_comm]
          try simp (config := { maxSteps := 2000000 }) only [go_sem, reduceCtorEq, Nat.reduceAdd, Nat.reduceEqDiff, reduceIte, Nat.reduceLeDiff, Nat.reduceLT, Nat.reduceSub, getO, nthV, ndsV_len, clsV_len, attV_len, intsR_len, ndV, cellsEq, Int.toNat_zero, hg0]
          all_goals (repeat (with_reducible refine And.intro (by (first | omega | exact inR_small (by omega) (by omega) | exact fun _ => inR_small (by omega) (by omega) | assumption | trivial | (intros; omega) | (simp_all; done) | (intros; simp [*]; done) | (simp_all; omega) | grind)) ?_))
          have e : 8 - (i + 1) = f := by omega
          refine ⟨(i + 1, 10 * n + ((c.toNat : Int) - 48), r'), by simp only; omega, ⟨by simp only; omega, by simp only; omega, by simp only; omega, by simp only; rw [e]; exact h4⟩, ?_⟩
          simp (config := { maxSteps := 2000000 }) only [go_sem, reduceCtorEq, Nat.reduceAdd, Nat.reduceEqDiff, reduceIte, Nat.reduceLeDiff, Nat.reduceLT, Nat.reduceSub, getO, nthV, ndsV_len, clsV_len, attV_len, intsR_len, ndV, cellsEq, le_cons, le_nil, le_un, le_same]
          all_goals (repeat' (first | exact trivial | exact le_int (by omega) | exact le_bool rfl | exact le_eq rfl | exact le_nlo | exact le_refl _ | refine And.intro ?_ ?_))
          refine le_eq ?_
          rw [List.take_length]
          congr 4
        · try simp (config := { maxSteps := 2000000 }) only [go_sem, reduceCtorEq, Nat.reduceAdd, Nat.reduceEqDiff, reduceIte, Nat.reduceLeDiff, Nat.reduceLT, Nat.reduceSub, getO, nthV, ndsV_len, clsV_len, attV_len, intsR_len, ndV, cellsEq]
          all_goals (repeat (with_reducible refine And.intro (by (first | omega | exact inR_small (by omega) (by omega) | exact fun _ => inR_small (by omega) (by omega) | assumption | trivial | (intros; omega) | (simp_all; done) | (intros; simp [*]; done) | (simp_all; omega) | grind)) ?_))
          have hc3 : ¬ c.toNat ≤ 57 := by rw [hg] at h; simp at h; omega
          rw [if_neg (by omega)] at h4
          rw [← h4]
          subst hr
          exact fin_valio rfl trivial (.inl rfl) rfl rfl
  · have hd : decide ((i : Int) < 8) = false := by simp; omega
    try simp (config := { maxSteps := 2000000 }) only [go_sem, reduceCtorEq, Nat.reduceAdd, Nat.reduceEqDiff, reduceIte, Nat.reduceLeDiff, Nat.reduceLT, Nat.reduceSub, getO, nthV, ndsV_len, clsV_len, attV_len, intsR_len, ndV, cellsEq, hd]
    all_goals (repeat (with_reducible refine And.intro (by (first | omega | exact inR_small (by omega) (by omega) | exact fun _ => inR_small (by omega) (by omega) | assumption | trivial | (intros; omega) | (simp_all; done) | (intros; simp [*]; done) | (simp_all; omega) | grind)) ?_))
    refine cond_of (by rfl) trivial (fun h => ?_) (fun h => ?_)
    · simp at h
    · try simp (config := { maxSteps := 2000000 }) only [go_sem, reduceCtorEq, Nat.reduceAdd, Nat.reduceEqDiff, reduceIte, Nat.reduceLeDiff, Nat.reduceLT, Nat.reduceSub, getO, nthV, ndsV_len, clsV_len, attV_len, intsR_len, ndV, cellsEq]
      all_goals (repeat (with_reducible refine And.intro (by (first | omega | exact inR_small (by omega) (by omega) | exact fun _ => inR_small (by omega) (by omega) | assumption | trivial | (intros; omega) | (simp_all; done) | (intros; simp [*]; done) | (simp_all; omega) | grind)) ?_))
      have e : 8 - i = 0 := by omega
      rw [e] at h4
      simp only [numF] at h4
      rw [← h4]
      exact fin_valio rfl trivial (.inl rfl) rfl rfl
end Go.Hx
