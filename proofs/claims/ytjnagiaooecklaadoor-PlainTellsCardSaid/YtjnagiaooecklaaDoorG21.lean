/-
  Walks of functions of the program over an abstract layer, and the laws that they use: each contract says what the function computes, for every input that its conditions let by. No other condition.
-/
import Derived.Test.YtjnagiaooecklaaDoorG20
import Derived.Test.YtjnagiaooecklaaDoorG16
import Derived.Test.YtjnagiaooecklaaDoorG9
set_option linter.all false
section
-- DOM getO, listV, intsR_len, ptsV_len, stsV_len, tssV_len
set_option maxRecDepth 100000
set_option linter.unusedSimpArgs false
set_option maxHeartbeats 2000000
namespace Go.Hx
open Go.Proofs
variable [Glob]

attribute [local go_sem] ndsV_len clsV_len attV_len intsR_len ndV cellsEq getO listV ptsV_len stsV_len tssV_len
theorem intsR_app (a b : List Int) : intsR (a ++ b) = intsR a ++ intsR b := by simp [intsR]
theorem c_Clone_int (l : List Int) (h : l.length ≤ 1000000) : Contract Tryd.prog fn_slices_Clone_int [.val (.one (.sl 1 (intsR l)))] { res := .own ty_int 1 (intsR l) } := by
  refine mk_slices_Clone_int (base := 0) ⟨Nat.le_of_ble_eq_true rfl, Nat.le_of_ble_eq_true rfl, Nat.le_of_ble_eq_true rfl, rfl⟩ (fun hfit => ?_)
  unfold F0 slices_Clone_int_E
  simp (config := { maxSteps := 2000000 }) only [markU, List.set_cons_succ, List.set_cons_zero, List.map_cons, List.map_nil, argCt, setCells, ioOf, List.length_cons, List.length_nil, Nat.reduceAdd, Nat.reduceSub, List.replicate, List.cons_append, List.nil_append]
  try simp (config := { maxSteps := 2000000 }) only [go_sem, reduceCtorEq, Nat.reduceAdd, Nat.reduceEqDiff, reduceIte, Nat.reduceLeDiff, Nat.reduceLT, Nat.reduceSub]
  all_goals (repeat (with_reducible refine sAnd ?_))
  intro b hb
  refine cond_of (by rfl) trivial (fun h1 => ?_) (fun h1 => ?_)
  · try simp (config := { maxSteps := 2000000 }) only [go_sem, reduceCtorEq, Nat.reduceAdd, Nat.reduceEqDiff, reduceIte, Nat.reduceLeDiff, Nat.reduceLT, Nat.reduceSub]
    all_goals (repeat (with_reducible refine sAnd ?_))
    have : intsR l = [] := by
      cases hl : intsR l with
      | nil => rfl
      | cons x y => have := hb (by rw [hl]; simp); rw [this] at h1; cases h1
    rw [this]
    exact fin_own rfl
  · try simp (config := { maxSteps := 2000000 }) only [go_sem, reduceCtorEq, Nat.reduceAdd, Nat.reduceEqDiff, reduceIte, Nat.reduceLeDiff, Nat.reduceLT, Nat.reduceSub]
    all_goals (repeat (with_reducible refine sAnd ?_))
    exact fin_own rfl
theorem c_Equal_int (a b : List Int) : Contract Tryd.prog fn_slices_Equal_int [.val (.one (.sl 1 (intsR a))), .val (.one (.sl 1 (intsR b)))] { res := .val (bv (a == b)) } := by
  refine mk_slices_Equal_int (base := 0) ⟨Nat.le_of_ble_eq_true rfl, Nat.le_of_ble_eq_true rfl, Nat.le_of_ble_eq_true rfl, rfl⟩ (fun hfit => ?_)
  unfold F0 slices_Equal_int_E
  simp (config := { maxSteps := 2000000 }) only [markU, List.set_cons_succ, List.set_cons_zero, List.map_cons, List.map_nil, argCt, setCells, ioOf, List.length_cons, List.length_nil, Nat.reduceAdd, Nat.reduceSub, List.replicate, List.cons_append, List.nil_append]
  try simp (config := { maxSteps := 2000000 }) only [go_sem, reduceCtorEq, Nat.reduceAdd, Nat.reduceEqDiff, reduceIte, Nat.reduceLeDiff, Nat.reduceLT, Nat.reduceSub]
  all_goals (repeat (with_reducible refine sAnd ?_))
  have ha := fits_sl (k := 1) hfit.1
  rw [intsR_len] at ha
  refine cond_of (by rfl) trivial (fun h1 => ?_) (fun h1 => ?_)
  · try simp (config := { maxSteps := 2000000 }) only [go_sem, reduceCtorEq, Nat.reduceAdd, Nat.reduceEqDiff, reduceIte, Nat.reduceLeDiff, Nat.reduceLT, Nat.reduceSub]
    all_goals (repeat (with_reducible refine sAnd ?_))
    refine fin_val rfl trivial (.inl ?_)
    congr 3
    have : a ≠ b := by rintro rfl; simp at h1
    simp [this]
  have hl : a.length = b.length := by simp at h1; omega
  try simp (config := { maxSteps := 2000000 }) only [go_sem, reduceCtorEq, Nat.reduceAdd, Nat.reduceEqDiff, reduceIte, Nat.reduceLeDiff, Nat.reduceLT, Nat.reduceSub]
  all_goals (repeat (with_reducible refine sAnd ?_))
  refine loop_sets (fun i : Nat => [(13, .pv (iv i)), (4, .un), (5, .un), (14, .un), (24, .un)]) (fun i : Nat => a.length - i) (fun i : Nat => i ≤ a.length ∧ (a.drop i == b.drop i) = (a == b)) (0) ?_ ⟨Nat.zero_le _, rfl⟩ ?_
  focus (simp (config := { maxSteps := 2000000 }) only [go_sem, reduceCtorEq, Nat.reduceAdd, Nat.reduceEqDiff, reduceIte, Nat.reduceLeDiff, Nat.reduceLT, Nat.reduceSub, le_cons, le_nil, le_un, le_same]; all_goals (repeat' (first | exact trivial | exact le_int (by omega) | exact le_bool rfl | exact le_eq rfl | exact le_nlo | exact le_refl _ | refine And.intro ?_ ?_)))
  rintro i ⟨hi, hinv⟩
  try simp (config := { maxSteps := 2000000 }) only [go_sem, reduceCtorEq, Nat.reduceAdd, Nat.reduceEqDiff, reduceIte, Nat.reduceLeDiff, Nat.reduceLT, Nat.reduceSub]
  all_goals (repeat (with_reducible refine sAnd ?_))
  refine cond_of (by rfl) trivial (fun h2 => ?_) (fun h2 => ?_)
  · have hil : i < a.length := by simp at h2; omega
    have hib : i < b.length := by omega
    rw [drop_get (d := 0) hil, drop_get (d := 0) hib] at hinv
    have e1 := intsR_get a i hil
    have e2 := intsR_get b i hib
    try simp (config := { maxSteps := 2000000 }) only [go_sem, reduceCtorEq, Nat.reduceAdd, Nat.reduceEqDiff, reduceIte, Nat.reduceLeDiff, Nat.reduceLT, Nat.reduceSub, e1, e2]
    all_goals (repeat (with_reducible refine sAnd ?_))
    refine cond_of (by rfl) trivial (fun h3 => ?_) (fun h3 => ?_)
    · try simp (config := { maxSteps := 2000000 }) only [go_sem, reduceCtorEq, Nat.reduceAdd, Nat.reduceEqDiff, reduceIte, Nat.reduceLeDiff, Nat.reduceLT, Nat.reduceSub]
      all_goals (repeat (with_reducible refine sAnd ?_))
      refine fin_val rfl trivial (.inl ?_)
      congr 3
      rw [← hinv]
      have : (a.getD i 0 == b.getD i 0) = false := by
        have h4 : a.getD i 0 ≠ b.getD i 0 := by simpa using h3
        exact beq_false_of_ne h4
      simp only [List.cons_beq_cons, this, Bool.false_and]
    · have h4 : a.getD i 0 = b.getD i 0 := by simpa using h3
      rw [h4] at hinv
      simp only [List.cons_beq_cons, beq_self_eq_true, Bool.true_and] at hinv
      try simp (config := { maxSteps := 2000000 }) only [go_sem, reduceCtorEq, Nat.reduceAdd, Nat.reduceEqDiff, reduceIte, Nat.reduceLeDiff, Nat.reduceLT, Nat.reduceSub]
      all_goals (repeat (with_reducible refine sAnd ?_))
      refine ⟨i + 1, by omega, ⟨by omega, hinv⟩, ?_⟩
      simp (config := { maxSteps := 2000000 }) only [go_sem, reduceCtorEq, Nat.reduceAdd, Nat.reduceEqDiff, reduceIte, Nat.reduceLeDiff, Nat.reduceLT, Nat.reduceSub, le_cons, le_nil, le_un, le_same]
      all_goals (repeat' (first | exact trivial | exact le_int (by omega) | exact le_bool rfl | exact le_eq rfl | exact le_nlo | exact le_refl _ | refine And.intro ?_ ?_))
  · have hil : i = a.length := by simp at h2; omega
    try simp (config := { maxSteps := 2000000 }) only [go_sem, reduceCtorEq, Nat.reduceAdd, Nat.reduceEqDiff, reduceIte, Nat.reduceLeDiff, Nat.reduceLT, Nat.reduceSub]
    all_goals (repeat (with_reducible refine sAnd ?_))
    refine fin_val rfl trivial (.inl ?_)
    congr 3
    rw [← hinv, hil, List.drop_length, hl, List.drop_length]
    rfl

theorem c_EqF_Path (f : Nat) (a b : List Pt) (h : ∀ i, i < a.length → i < b.length → Contract Tryd.prog f [.val (.agg [.sl 2 (stsV (a.getD i default).steps), .sl 1 (intsR (a.getD i default).links)]), .val (.agg [.sl 2 (stsV (b.getD i default).steps), .sl 1 (intsR (b.getD i default).links)])] { res := .val (bv (sameP (a.getD i default) (b.getD i default))) }) :
    Contract Tryd.prog fn_slices_EqualFunc_Path [.val (.one (.sl 2 (ptsV a))), .val (.one (.sl 2 (ptsV b))), .val (.one (.clo f []))] { res := .val (bv (samePs a b)) } := by
  refine mk_slices_EqualFunc_Path (base := 0) ⟨Nat.le_of_ble_eq_true rfl, Nat.le_of_ble_eq_true rfl, Nat.le_of_ble_eq_true rfl, rfl⟩ (fun hfit => ?_)
  unfold F0 slices_EqualFunc_Path_E
  simp (config := { maxSteps := 2000000 }) only [markU, List.set_cons_succ, List.set_cons_zero, List.map_cons, List.map_nil, argCt, setCells, ioOf, List.length_cons, List.length_nil, Nat.reduceAdd, Nat.reduceSub, List.replicate, List.cons_append, List.nil_append]
  try simp (config := { maxSteps := 2000000 }) only [go_sem, reduceCtorEq, Nat.reduceAdd, Nat.reduceEqDiff, reduceIte, Nat.reduceLeDiff, Nat.reduceLT, Nat.reduceSub]
  all_goals (repeat (with_reducible refine sAnd ?_))
  have ha := fits_sl (k := 2) hfit.1
  rw [ptsV_len] at ha
  refine cond_of (by rfl) trivial (fun h1 => ?_) (fun h1 => ?_)
  · try simp (config := { maxSteps := 2000000 }) only [go_sem, reduceCtorEq, Nat.reduceAdd, Nat.reduceEqDiff, reduceIte, Nat.reduceLeDiff, Nat.reduceLT, Nat.reduceSub]
    all_goals (repeat (with_reducible refine sAnd ?_))
    refine fin_val rfl trivial (.inl ?_)
    congr 3
    have : a.length ≠ b.length := by simp at h1; omega
    rw [samePs_len this]
  have hl : a.length = b.length := by simp at h1; omega
  try simp (config := { maxSteps := 2000000 }) only [go_sem, reduceCtorEq, Nat.reduceAdd, Nat.reduceEqDiff, reduceIte, Nat.reduceLeDiff, Nat.reduceLT, Nat.reduceSub]
  all_goals (repeat (with_reducible refine sAnd ?_))
  refine loop_sets (fun i : Nat => [(17, .pv (iv i)), (6, .un), (7, .un), (8, .un), (9, .un), (18, .un), (30, .un), (32, .un), (33, .un), (34, .un), (35, .un)]) (fun i : Nat => a.length - i) (fun i : Nat => i ≤ a.length ∧ samePs (a.drop i) (b.drop i) = samePs a b) (0) ?_ ⟨Nat.zero_le _, rfl⟩ ?_
  focus (simp (config := { maxSteps := 2000000 }) only [go_sem, reduceCtorEq, Nat.reduceAdd, Nat.reduceEqDiff, reduceIte, Nat.reduceLeDiff, Nat.reduceLT, Nat.reduceSub, le_cons, le_nil, le_un, le_same]; all_goals (repeat' (first | exact trivial | exact le_int (by omega) | exact le_bool rfl | exact le_eq rfl | exact le_nlo | exact le_refl _ | refine And.intro ?_ ?_)))
  rintro i ⟨hi, hinv⟩
  try simp (config := { maxSteps := 2000000 }) only [go_sem, reduceCtorEq, Nat.reduceAdd, Nat.reduceEqDiff, reduceIte, Nat.reduceLeDiff, Nat.reduceLT, Nat.reduceSub]
  all_goals (repeat (with_reducible refine sAnd ?_))
  refine cond_of (by rfl) trivial (fun h2 => ?_) (fun h2 => ?_)
  · have hil : i < a.length := by simp at h2; omega
    have hib : i < b.length := by omega
    rw [drop_get (d := default) hil, drop_get (d := default) hib, samePs] at hinv
    have e1 := ptsV_get a i hil
    have e2 := ptsV_get b i hib
    rw [ptV_eq] at e1 e2
    have hc := h i hil hib
    try simp (config := { maxSteps := 2000000 }) only [go_sem, reduceCtorEq, Nat.reduceAdd, Nat.reduceEqDiff, reduceIte, Nat.reduceLeDiff, Nat.reduceLT, Nat.reduceSub, e1, e2]
    all_goals (repeat (with_reducible refine sAnd ?_))
    refine callv_val (by rfl) trivial (by repeat' constructor) (hc) ?_
    try simp (config := { maxSteps := 2000000 }) only [go_sem, reduceCtorEq, Nat.reduceAdd, Nat.reduceEqDiff, reduceIte, Nat.reduceLeDiff, Nat.reduceLT, Nat.reduceSub]
    all_goals (repeat (with_reducible refine sAnd ?_))
    refine cond_of (by rfl) trivial (fun h3 => ?_) (fun h3 => ?_)
    · try simp (config := { maxSteps := 2000000 }) only [go_sem, reduceCtorEq, Nat.reduceAdd, Nat.reduceEqDiff, reduceIte, Nat.reduceLeDiff, Nat.reduceLT, Nat.reduceSub]
      all_goals (repeat (with_reducible refine sAnd ?_))
      refine fin_val rfl trivial (.inl ?_)
      congr 3
      rw [← hinv]
      have h4 : sameP (a.getD i default) (b.getD i default) = false := by simpa using h3
      rw [h4]; rfl
    · have h4 : sameP (a.getD i default) (b.getD i default) = true := by simpa using h3
      rw [h4, Bool.true_and] at hinv
      try simp (config := { maxSteps := 2000000 }) only [go_sem, reduceCtorEq, Nat.reduceAdd, Nat.reduceEqDiff, reduceIte, Nat.reduceLeDiff, Nat.reduceLT, Nat.reduceSub]
      all_goals (repeat (with_reducible refine sAnd ?_))
      refine ⟨i + 1, by omega, ⟨by omega, hinv⟩, ?_⟩
      simp (config := { maxSteps := 2000000 }) only [go_sem, reduceCtorEq, Nat.reduceAdd, Nat.reduceEqDiff, reduceIte, Nat.reduceLeDiff, Nat.reduceLT, Nat.reduceSub, le_cons, le_nil, le_un, le_same]
      all_goals (repeat' (first | exact trivial | exact le_int (by omega) | exact le_bool rfl | exact le_eq rfl | exact le_nlo | exact le_refl _ | refine And.intro ?_ ?_))
  · have hil : i = a.length := by simp at h2; omega
    try simp (config := { maxSteps := 2000000 }) only [go_sem, reduceCtorEq, Nat.reduceAdd, Nat.reduceEqDiff, reduceIte, Nat.reduceLeDiff, Nat.reduceLT, Nat.reduceSub]
    all_goals (repeat (with_reducible refine sAnd ?_))
    refine fin_val rfl trivial (.inl ?_)
    congr 3
    rw [← hinv, hil, List.drop_length, hl, List.drop_length]
    simp only [samePs]

theorem c_EqF_Step (f : Nat) (a b : List St) (h : ∀ i, i < a.length → i < b.length → Contract Tryd.prog f [.val (.agg [bS (a.getD i default).tag, .sl 6 (tssV (a.getD i default).tests)]), .val (.agg [bS (b.getD i default).tag, .sl 6 (tssV (b.getD i default).tests)])] { res := .val (bv (sameS (a.getD i default) (b.getD i default))) }) :
    Contract Tryd.prog fn_slices_EqualFunc_Step [.val (.one (.sl 2 (stsV a))), .val (.one (.sl 2 (stsV b))), .val (.one (.clo f []))] { res := .val (bv (sameSs a b)) } := by
  refine mk_slices_EqualFunc_Step (base := 0) ⟨Nat.le_of_ble_eq_true rfl, Nat.le_of_ble_eq_true rfl, Nat.le_of_ble_eq_true rfl, rfl⟩ (fun hfit => ?_)
  unfold F0 slices_EqualFunc_Step_E
  simp (config := { maxSteps := 2000000 }) only [markU, List.set_cons_succ, List.set_cons_zero, List.map_cons, List.map_nil, argCt, setCells, ioOf, List.length_cons, List.length_nil, Nat.reduceAdd, Nat.reduceSub, List.replicate, List.cons_append, List.nil_append]
  try simp (config := { maxSteps := 2000000 }) only [go_sem, reduceCtorEq, Nat.reduceAdd, Nat.reduceEqDiff, reduceIte, Nat.reduceLeDiff, Nat.reduceLT, Nat.reduceSub]
  all_goals (repeat (with_reducible refine sAnd ?_))
  have ha := fits_sl (k := 2) hfit.1
  rw [stsV_len] at ha
  refine cond_of (by rfl) trivial (fun h1 => ?_) (fun h1 => ?_)
  · try simp (config := { maxSteps := 2000000 }) only [go_sem, reduceCtorEq, Nat.reduceAdd, Nat.reduceEqDiff, reduceIte, Nat.reduceLeDiff, Nat.reduceLT, Nat.reduceSub]
    all_goals (repeat (with_reducible refine sAnd ?_))
    refine fin_val rfl trivial (.inl ?_)
    congr 3
    have : a.length ≠ b.length := by simp at h1; omega
    rw [sameSs_len this]
  have hl : a.length = b.length := by simp at h1; omega
  try simp (config := { maxSteps := 2000000 }) only [go_sem, reduceCtorEq, Nat.reduceAdd, Nat.reduceEqDiff, reduceIte, Nat.reduceLeDiff, Nat.reduceLT, Nat.reduceSub]
  all_goals (repeat (with_reducible refine sAnd ?_))
  refine loop_sets (fun i : Nat => [(17, .pv (iv i)), (6, .un), (7, .un), (8, .un), (9, .un), (18, .un), (30, .un), (32, .un), (33, .un), (34, .un), (35, .un)]) (fun i : Nat => a.length - i) (fun i : Nat => i ≤ a.length ∧ sameSs (a.drop i) (b.drop i) = sameSs a b) (0) ?_ ⟨Nat.zero_le _, rfl⟩ ?_
  focus (simp (config := { maxSteps := 2000000 }) only [go_sem, reduceCtorEq, Nat.reduceAdd, Nat.reduceEqDiff, reduceIte, Nat.reduceLeDiff, Nat.reduceLT, Nat.reduceSub, le_cons, le_nil, le_un, le_same]; all_goals (repeat' (first | exact trivial | exact le_int (by omega) | exact le_bool rfl | exact le_eq rfl | exact le_nlo | exact le_refl _ | refine And.intro ?_ ?_)))
  rintro i ⟨hi, hinv⟩
  try simp (config := { maxSteps := 2000000 }) only [go_sem, reduceCtorEq, Nat.reduceAdd, Nat.reduceEqDiff, reduceIte, Nat.reduceLeDiff, Nat.reduceLT, Nat.reduceSub]
  all_goals (repeat (with_reducible refine sAnd ?_))
  refine cond_of (by rfl) trivial (fun h2 => ?_) (fun h2 => ?_)
  · have hil : i < a.length := by simp at h2; omega
    have hib : i < b.length := by omega
    rw [drop_get (d := default) hil, drop_get (d := default) hib, sameSs] at hinv
    have e1 := stsV_get a i hil
    have e2 := stsV_get b i hib
    rw [stV_eq] at e1 e2
    have hc := h i hil hib
    try simp (config := { maxSteps := 2000000 }) only [go_sem, reduceCtorEq, Nat.reduceAdd, Nat.reduceEqDiff, reduceIte, Nat.reduceLeDiff, Nat.reduceLT, Nat.reduceSub, e1, e2]
    all_goals (repeat (with_reducible refine sAnd ?_))
    refine callv_val (by rfl) trivial (by repeat' constructor) (hc) ?_
    try simp (config := { maxSteps := 2000000 }) only [go_sem, reduceCtorEq, Nat.reduceAdd, Nat.reduceEqDiff, reduceIte, Nat.reduceLeDiff, Nat.reduceLT, Nat.reduceSub]
    all_goals (repeat (with_reducible refine sAnd ?_))
    refine cond_of (by rfl) trivial (fun h3 => ?_) (fun h3 => ?_)
    · try simp (config := { maxSteps := 2000000 }) only [go_sem, reduceCtorEq, Nat.reduceAdd, Nat.reduceEqDiff, reduceIte, Nat.reduceLeDiff, Nat.reduceLT, Nat.reduceSub]
      all_goals (repeat (with_reducible refine sAnd ?_))
      refine fin_val rfl trivial (.inl ?_)
      congr 3
      rw [← hinv]
      have h4 : sameS (a.getD i default) (b.getD i default) = false := by simpa using h3
      rw [h4]; rfl
    · have h4 : sameS (a.getD i default) (b.getD i default) = true := by simpa using h3
      rw [h4, Bool.true_and] at hinv
      try simp (config := { maxSteps := 2000000 }) only [go_sem, reduceCtorEq, Nat.reduceAdd, Nat.reduceEqDiff, reduceIte, Nat.reduceLeDiff, Nat.reduceLT, Nat.reduceSub]
      all_goals (repeat (with_reducible refine sAnd ?_))
      refine ⟨i + 1, by omega, ⟨by omega, hinv⟩, ?_⟩
      simp (config := { maxSteps := 2000000 }) only [go_sem, reduceCtorEq, Nat.reduceAdd, Nat.reduceEqDiff, reduceIte, Nat.reduceLeDiff, Nat.reduceLT, Nat.reduceSub, le_cons, le_nil, le_un, le_same]
      all_goals (repeat' (first | exact trivial | exact le_int (by omega) | exact le_bool rfl | exact le_eq rfl | exact le_nlo | exact le_refl _ | refine And.intro ?_ ?_))
  · have hil : i = a.length := by simp at h2; omega
    try simp (config := { maxSteps := 2000000 }) only [go_sem, reduceCtorEq, Nat.reduceAdd, Nat.reduceEqDiff, reduceIte, Nat.reduceLeDiff, Nat.reduceLT, Nat.reduceSub]
    all_goals (repeat (with_reducible refine sAnd ?_))
    refine fin_val rfl trivial (.inl ?_)
    congr 3
    rw [← hinv, hil, List.drop_length, hl, List.drop_length]
    simp only [sameSs]

theorem c_EqF_Test (f : Nat) (a b : List Ts) (h : ∀ i, i < a.length → i < b.length → Contract Tryd.prog f [.val (.agg [bI (a.getD i default).kind, bS (a.getD i default).name, bS (a.getD i default).value, bI (a.getD i default).na, bI (a.getD i default).nb, .sl 2 (ptsV (a.getD i default).list)]), .val (.agg [bI (b.getD i default).kind, bS (b.getD i default).name, bS (b.getD i default).value, bI (b.getD i default).na, bI (b.getD i default).nb, .sl 2 (ptsV (b.getD i default).list)])] { res := .val (bv (sameT (a.getD i default) (b.getD i default))) }) :
    Contract Tryd.prog fn_slices_EqualFunc_Test [.val (.one (.sl 6 (tssV a))), .val (.one (.sl 6 (tssV b))), .val (.one (.clo f []))] { res := .val (bv (sameTs a b)) } := by
  refine mk_slices_EqualFunc_Test (base := 0) ⟨Nat.le_of_ble_eq_true rfl, Nat.le_of_ble_eq_true rfl, Nat.le_of_ble_eq_true rfl, rfl⟩ (fun hfit => ?_)
  unfold F0 slices_EqualFunc_Test_E
  simp (config := { maxSteps := 2000000 }) only [markU, List.set_cons_succ, List.set_cons_zero, List.map_cons, List.map_nil, argCt, setCells, ioOf, List.length_cons, List.length_nil, Nat.reduceAdd, Nat.reduceSub, List.replicate, List.cons_append, List.nil_append]
  try simp (config := { maxSteps := 2000000 }) only [go_sem, reduceCtorEq, Nat.reduceAdd, Nat.reduceEqDiff, reduceIte, Nat.reduceLeDiff, Nat.reduceLT, Nat.reduceSub]
  all_goals (repeat (with_reducible refine sAnd ?_))
  have ha := fits_sl (k := 6) hfit.1
  rw [tssV_len] at ha
  refine cond_of (by rfl) trivial (fun h1 => ?_) (fun h1 => ?_)
  · try simp (config := { maxSteps := 2000000 }) only [go_sem, reduceCtorEq, Nat.reduceAdd, Nat.reduceEqDiff, reduceIte, Nat.reduceLeDiff, Nat.reduceLT, Nat.reduceSub]
    all_goals (repeat (with_reducible refine sAnd ?_))
    refine fin_val rfl trivial (.inl ?_)
    congr 3
    have : a.length ≠ b.length := by simp at h1; omega
    rw [sameTs_len this]
  have hl : a.length = b.length := by simp at h1; omega
  try simp (config := { maxSteps := 2000000 }) only [go_sem, reduceCtorEq, Nat.reduceAdd, Nat.reduceEqDiff, reduceIte, Nat.reduceLeDiff, Nat.reduceLT, Nat.reduceSub]
  all_goals (repeat (with_reducible refine sAnd ?_))
  refine loop_sets (fun i : Nat => [(17, .pv (iv i)), (6, .un), (7, .un), (8, .un), (9, .un), (18, .un), (30, .un), (32, .un), (33, .un), (34, .un), (35, .un), (36, .un), (37, .un), (38, .un), (39, .un), (40, .un), (41, .un), (42, .un), (43, .un)]) (fun i : Nat => a.length - i) (fun i : Nat => i ≤ a.length ∧ sameTs (a.drop i) (b.drop i) = sameTs a b) (0) ?_ ⟨Nat.zero_le _, rfl⟩ ?_
  focus (simp (config := { maxSteps := 2000000 }) only [go_sem, reduceCtorEq, Nat.reduceAdd, Nat.reduceEqDiff, reduceIte, Nat.reduceLeDiff, Nat.reduceLT, Nat.reduceSub, le_cons, le_nil, le_un, le_same]; all_goals (repeat' (first | exact trivial | exact le_int (by omega) | exact le_bool rfl | exact le_eq rfl | exact le_nlo | exact le_refl _ | refine And.intro ?_ ?_)))
  rintro i ⟨hi, hinv⟩
  try simp (config := { maxSteps := 2000000 }) only [go_sem, reduceCtorEq, Nat.reduceAdd, Nat.reduceEqDiff, reduceIte, Nat.reduceLeDiff, Nat.reduceLT, Nat.reduceSub]
  all_goals (repeat (with_reducible refine sAnd ?_))
  refine cond_of (by rfl) trivial (fun h2 => ?_) (fun h2 => ?_)
  · have hil : i < a.length := by simp at h2; omega
    have hib : i < b.length := by omega
    rw [drop_get (d := default) hil, drop_get (d := default) hib, sameTs] at hinv
    have e1 := tssV_get a i hil
    have e2 := tssV_get b i hib
    rw [tsV_eq] at e1 e2
    have hc := h i hil hib
    try simp (config := { maxSteps := 2000000 }) only [go_sem, reduceCtorEq, Nat.reduceAdd, Nat.reduceEqDiff, reduceIte, Nat.reduceLeDiff, Nat.reduceLT, Nat.reduceSub, e1, e2]
    all_goals (repeat (with_reducible refine sAnd ?_))
    refine callv_val (by rfl) trivial (by repeat' constructor) (hc) ?_
    try simp (config := { maxSteps := 2000000 }) only [go_sem, reduceCtorEq, Nat.reduceAdd, Nat.reduceEqDiff, reduceIte, Nat.reduceLeDiff, Nat.reduceLT, Nat.reduceSub]
    all_goals (repeat (with_reducible refine sAnd ?_))
    refine cond_of (by rfl) trivial (fun h3 => ?_) (fun h3 => ?_)
    · try simp (config := { maxSteps := 2000000 }) only [go_sem, reduceCtorEq, Nat.reduceAdd, Nat.reduceEqDiff, reduceIte, Nat.reduceLeDiff, Nat.reduceLT, Nat.reduceSub]
      all_goals (repeat (with_reducible refine sAnd ?_))
      refine fin_val rfl trivial (.inl ?_)
      congr 3
      rw [← hinv]
      have h4 : sameT (a.getD i default) (b.getD i default) = false := by simpa using h3
      rw [h4]; rfl
    · have h4 : sameT (a.getD i default) (b.getD i default) = true := by simpa using h3
      rw [h4, Bool.true_and] at hinv
      try simp (config := { maxSteps := 2000000 }) only [go_sem, reduceCtorEq, Nat.reduceAdd, Nat.reduceEqDiff, reduceIte, Nat.reduceLeDiff, Nat.reduceLT, Nat.reduceSub]
      all_goals (repeat (with_reducible refine sAnd ?_))
      refine ⟨i + 1, by omega, ⟨by omega, hinv⟩, ?_⟩
      simp (config := { maxSteps := 2000000 }) only [go_sem, reduceCtorEq, Nat.reduceAdd, Nat.reduceEqDiff, reduceIte, Nat.reduceLeDiff, Nat.reduceLT, Nat.reduceSub, le_cons, le_nil, le_un, le_same]
      all_goals (repeat' (first | exact trivial | exact le_int (by omega) | exact le_bool rfl | exact le_eq rfl | exact le_nlo | exact le_refl _ | refine And.intro ?_ ?_))
  · have hil : i = a.length := by simp at h2; omega
    try simp (config := { maxSteps := 2000000 }) only [go_sem, reduceCtorEq, Nat.reduceAdd, Nat.reduceEqDiff, reduceIte, Nat.reduceLeDiff, Nat.reduceLT, Nat.reduceSub]
    all_goals (repeat (with_reducible refine sAnd ?_))
    refine fin_val rfl trivial (.inl ?_)
    congr 3
    rw [← hinv, hil, List.drop_length, hl, List.drop_length]
    simp only [sameTs]

def GoodE (P : Go.Program) (N : Nat) : Prop := ∀ a b : Ts, SizeOf.sizeOf a ≤ N → Contract P fn_plain_sameTests [.val (.agg (tsV a)), .val (.agg (tsV b))] { res := .val (bv (sameT a b)) }
theorem c_sameS_of {N : Nat} (ih : GoodE Tryd.prog N) (s u : St) (hs : SizeOf.sizeOf s ≤ N) : Contract Tryd.prog fn_plain_samePaths_1 [.val (.agg (stV s)), .val (.agg (stV u))] { res := .val (bv (sameS s u)) } := by
  rw [stV_eq, stV_eq]
  have hc := c_EqF_Test fn_plain_sameTests s.tests u.tests (fun i hi hj => by
    have h1 := lt_ts hi
    have h2 := lt_tests s
    have := ih (s.tests.getD i default) (u.tests.getD i default) (by omega)
    rwa [tsV_eq, tsV_eq] at this)
  refine mk_plain_samePaths_1 (base := 0) ⟨Nat.le_of_ble_eq_true rfl, Nat.le_of_ble_eq_true rfl, Nat.le_of_ble_eq_true rfl, rfl⟩ (fun hfit => ?_)
  unfold F0 plain_samePaths_1_E
  simp (config := { maxSteps := 2000000 }) only [markU, List.set_cons_succ, List.set_cons_zero, List.map_cons, List.map_nil, argCt, setCells, ioOf, List.length_cons, List.length_nil, Nat.reduceAdd, Nat.reduceSub, List.replicate, List.cons_append, List.nil_append]
  try simp (config := { maxSteps := 2000000 }) only [go_sem, reduceCtorEq, Nat.reduceAdd, Nat.reduceEqDiff, reduceIte, Nat.reduceLeDiff, Nat.reduceLT, Nat.reduceSub]
  all_goals (repeat (with_reducible refine sAnd ?_))
  apply call_guard (h2 := fun _ => hc)
  · (simp (config := { maxSteps := 2000000 }) only [go_sem, reduceCtorEq, Nat.reduceAdd, Nat.reduceEqDiff, reduceIte, Nat.reduceLeDiff, Nat.reduceLT, Nat.reduceSub]; rfl)
  · intro h; repeat' (first | exact trivial | exact h | refine And.intro ?_ ?_)
  try simp (config := { maxSteps := 2000000 }) only [go_sem, reduceCtorEq, Nat.reduceAdd, Nat.reduceEqDiff, reduceIte, Nat.reduceLeDiff, Nat.reduceLT, Nat.reduceSub]
  all_goals (repeat (with_reducible refine sAnd ?_))
  refine fin_val rfl trivial (.inl ?_)
  congr 3
  rw [sameS_eq]
  simp [Bool.cond_false_right]
theorem c_sameP_of {N : Nat} (ih : GoodE Tryd.prog N) (s u : Pt) (hs : SizeOf.sizeOf s ≤ N) : Contract Tryd.prog fn_plain_samePaths [.val (.agg (ptV s)), .val (.agg (ptV u))] { res := .val (bv (sameP s u)) } := by
  rw [ptV_eq, ptV_eq]
  have hc := c_EqF_Step fn_plain_samePaths_1 s.steps u.steps (fun i hi hj => by
    have h1 := lt_st hi
    have h2 := lt_steps s
    have := c_sameS_of ih (s.steps.getD i default) (u.steps.getD i default) (by omega)
    rwa [stV_eq, stV_eq] at this)
  refine mk_plain_samePaths (base := 0) ⟨Nat.le_of_ble_eq_true rfl, Nat.le_of_ble_eq_true rfl, Nat.le_of_ble_eq_true rfl, rfl⟩ (fun hfit => ?_)
  unfold F0 plain_samePaths_E
  simp (config := { maxSteps := 2000000 }) only [markU, List.set_cons_succ, List.set_cons_zero, List.map_cons, List.map_nil, argCt, setCells, ioOf, List.length_cons, List.length_nil, Nat.reduceAdd, Nat.reduceSub, List.replicate, List.cons_append, List.nil_append]
  try simp (config := { maxSteps := 2000000 }) only [go_sem, reduceCtorEq, Nat.reduceAdd, Nat.reduceEqDiff, reduceIte, Nat.reduceLeDiff, Nat.reduceLT, Nat.reduceSub]
  all_goals (repeat (with_reducible refine sAnd ?_))
  refine call_val (by repeat' constructor) (c_Equal_int s.links u.links) ?_
  try simp (config := { maxSteps := 2000000 }) only [go_sem, reduceCtorEq, Nat.reduceAdd, Nat.reduceEqDiff, reduceIte, Nat.reduceLeDiff, Nat.reduceLT, Nat.reduceSub]
  all_goals (repeat (with_reducible refine sAnd ?_))
  apply call_guard (h2 := fun _ => hc)
  · (simp (config := { maxSteps := 2000000 }) only [go_sem, reduceCtorEq, Nat.reduceAdd, Nat.reduceEqDiff, reduceIte, Nat.reduceLeDiff, Nat.reduceLT, Nat.reduceSub]; rfl)
  · intro h; repeat' (first | exact trivial | exact h | refine And.intro ?_ ?_)
  try simp (config := { maxSteps := 2000000 }) only [go_sem, reduceCtorEq, Nat.reduceAdd, Nat.reduceEqDiff, reduceIte, Nat.reduceLeDiff, Nat.reduceLT, Nat.reduceSub]
  all_goals (repeat (with_reducible refine sAnd ?_))
  refine fin_val rfl trivial (.inl ?_)
  congr 3
  rw [sameP_eq]
  simp [Bool.cond_false_right]
theorem sz_pos_ts (s : Ts) : 0 < SizeOf.sizeOf s := by cases s; simp only [Ts.mk.sizeOf_spec]; omega
theorem good_same : ∀ N, GoodE Tryd.prog N
  | 0 => fun a b h => by have := sz_pos_ts a; omega
  | N + 1 => fun a b h => by
    have ih := good_same N
    rw [tsV_eq, tsV_eq]
    have hc := c_EqF_Path fn_plain_samePaths a.list b.list (fun i hi hj => by
      have h1 := lt_pt hi
      have h2 := lt_list a
      have := c_sameP_of ih (a.list.getD i default) (b.list.getD i default) (by omega)
      rwa [ptV_eq, ptV_eq] at this)
    refine mk_plain_sameTests (base := 0) ⟨Nat.le_of_ble_eq_true rfl, Nat.le_of_ble_eq_true rfl, Nat.le_of_ble_eq_true rfl, rfl⟩ (fun hfit => ?_)
    unfold F0 plain_sameTests_E
    simp (config := { maxSteps := 2000000 }) only [markU, List.set_cons_succ, List.set_cons_zero, List.map_cons, List.map_nil, argCt, setCells, ioOf, List.length_cons, List.length_nil, Nat.reduceAdd, Nat.reduceSub, List.replicate, List.cons_append, List.nil_append]
    try simp (config := { maxSteps := 2000000 }) only [go_sem, reduceCtorEq, Nat.reduceAdd, Nat.reduceEqDiff, reduceIte, Nat.reduceLeDiff, Nat.reduceLT, Nat.reduceSub]
    all_goals (repeat (with_reducible refine sAnd ?_))
    apply call_guard (h2 := fun _ => hc)
    · (simp (config := { maxSteps := 2000000 }) only [go_sem, reduceCtorEq, Nat.reduceAdd, Nat.reduceEqDiff, reduceIte, Nat.reduceLeDiff, Nat.reduceLT, Nat.reduceSub]; rfl)
    · intro h; repeat' (first | exact trivial | exact h | refine And.intro ?_ ?_)
    try simp (config := { maxSteps := 2000000 }) only [go_sem, reduceCtorEq, Nat.reduceAdd, Nat.reduceEqDiff, reduceIte, Nat.reduceLeDiff, Nat.reduceLT, Nat.reduceSub]
    all_goals (repeat (with_reducible refine sAnd ?_))
    refine fin_val rfl trivial (.inl ?_)
    congr 3
    rw [sameT_eq]
    simp [Bool.cond_false_right, Bool.and_assoc]
theorem c_sameTests (a b : Ts) : Contract Tryd.prog fn_plain_sameTests [.val (.agg (tsV a)), .val (.agg (tsV b))] { res := .val (bv (sameT a b)) } := good_same _ a b (Nat.le_refl _)
theorem c_samePaths (a b : Pt) : Contract Tryd.prog fn_plain_samePaths [.val (.agg (ptV a)), .val (.agg (ptV b))] { res := .val (bv (sameP a b)) } := c_sameP_of (good_same _) a b (Nat.le_refl _)
end Go.Hx
end

section
-- DOM getO, listV, intsR_len, ptsV_len, stsV_len, tssV_len, List.getD_nil, List.take_nil, List.headD_nil, List.headD_cons, List.getD_cons_zero, List.length_cons, i_nz0, i_nz1, i_nz2, i_toNat0, List.drop_zero, List.take_succ_cons, List.take_zero, List.map_nil, List.map_cons
set_option maxRecDepth 100000
set_option linter.unusedSimpArgs false
set_option maxHeartbeats 2000000
namespace Go.Hx
open Go.Proofs
variable [Glob]

attribute [local go_sem] ndsV_len clsV_len attV_len intsR_len ndV cellsEq getO listV ptsV_len stsV_len tssV_len List.getD_nil List.take_nil List.headD_nil List.headD_cons List.getD_cons_zero List.length_cons List.drop_zero List.take_succ_cons List.take_zero List.map_nil List.map_cons
theorem i_nz0 : (((0 : Nat) : Int) != 1) = true := rfl
attribute [local go_sem] i_nz0
theorem i_nz1 : (((1 : Nat) : Int) != 1) = false := rfl
attribute [local go_sem] i_nz1
theorem i_nz2 (n : Nat) : (((n + 1 + 1 : Nat) : Int) != 1) = true := by simp; omega
attribute [local go_sem] i_nz2
theorem i_toNat0 : Int.toNat 0 = 0 := rfl

attribute [local go_sem] i_toNat0
/-- Where the first one of a kind lies. -/
def fidx {α : Type} (p : α → Bool) (l : List α) : Int := if l.any p then (l.findIdx p : Int) else -1
theorem fidx_any {α : Type} (p : α → Bool) (l : List α) : decide (0 ≤ fidx p l) = l.any p := by
  unfold fidx
  cases h : l.any p <;> simp
theorem fidx_none {α : Type} {d : α} {p : α → Bool} {l : List α} (h : ∀ k, k < l.length → p (l.getD k d) = false) : fidx p l = -1 := by
  unfold fidx
  have : l.any p = false := by
    rw [List.any_eq_false]
    intro x hx
    obtain ⟨k, hk, rfl⟩ := List.getElem_of_mem hx
    have := h k hk
    simp [hk] at this
    simp [this]
  rw [this]; rfl
theorem fidx_some {α : Type} {d : α} {p : α → Bool} {l : List α} {i : Nat} (hi : i < l.length) (h1 : p (l.getD i d) = true) (h : ∀ k, k < i → p (l.getD k d) = false) : fidx p l = i := by
  unfold fidx
  have h2 : p l[i] = true := by simpa [hi] using h1
  have : l.any p = true := List.any_eq_true.2 ⟨l[i], List.getElem_mem hi, h2⟩
  rw [if_pos this, (List.findIdx_eq hi).2 ⟨h2, fun j hj => by have := h j hj; simpa [show j < l.length by omega] using this⟩]
theorem ptsV_app (a b : List Pt) : ptsV (a ++ b) = ptsV a ++ ptsV b := by simp [ptsV_map]
theorem stsV_app (a b : List St) : stsV (a ++ b) = stsV a ++ stsV b := by simp [stsV_map]
theorem tssV_app (a b : List Ts) : tssV (a ++ b) = tssV a ++ tssV b := by simp [tssV_map]
theorem map_norm_pt (p : Pt) : (ptV p).map PV.norm = ptV p := by rw [ptV_eq]; rfl
theorem map_norm_st (p : St) : (stV p).map PV.norm = stV p := by rw [stV_eq]; rfl
theorem map_norm_ts (p : Ts) : (tsV p).map PV.norm = tsV p := by rw [tsV_eq]; rfl

theorem c_IdxF_Path (f : Nat) (caps : List PV) (l : List Pt) (p : Pt → Bool) (h : ∀ i, i < l.length → Contract Tryd.prog f ([.val (.agg [.sl 2 (stsV (l.getD i default).steps), .sl 1 (intsR (l.getD i default).links)])] ++ caps.map fun c => .val (.one c)) { res := .val (bv (p (l.getD i default))) }) :
    Contract Tryd.prog fn_slices_IndexFunc_Path [.val (.one (.sl 2 (ptsV l))), .val (.one (.clo f caps))] { res := .val (iv (fidx p l)) } := by
  refine mk_slices_IndexFunc_Path (base := 0) ⟨Nat.le_of_ble_eq_true rfl, Nat.le_of_ble_eq_true rfl, Nat.le_of_ble_eq_true rfl, rfl⟩ (fun hfit => ?_)
  unfold F0 slices_IndexFunc_Path_E
  simp (config := { maxSteps := 2000000 }) only [markU, List.set_cons_succ, List.set_cons_zero, List.map_cons, List.map_nil, argCt, setCells, ioOf, List.length_cons, List.length_nil, Nat.reduceAdd, Nat.reduceSub, List.replicate, List.cons_append, List.nil_append]
  try simp (config := { maxSteps := 2000000 }) only [go_sem, reduceCtorEq, Nat.reduceAdd, Nat.reduceEqDiff, reduceIte, Nat.reduceLeDiff, Nat.reduceLT, Nat.reduceSub]
  all_goals (repeat (with_reducible refine sAnd ?_))
  have ha := fits_sl (k := 2) hfit.1
  rw [ptsV_len] at ha
  refine loop_sets (fun i : Nat => [(8, .pv (iv i)), (4, .un), (5, .un), (9, .un), (16, .un)]) (fun i : Nat => l.length - i) (fun i : Nat => i ≤ l.length ∧ ∀ k, k < i → p (l.getD k default) = false) (0) ?_ ⟨Nat.zero_le _, fun k hk => by omega⟩ ?_
  focus (simp (config := { maxSteps := 2000000 }) only [go_sem, reduceCtorEq, Nat.reduceAdd, Nat.reduceEqDiff, reduceIte, Nat.reduceLeDiff, Nat.reduceLT, Nat.reduceSub, le_cons, le_nil, le_un, le_same]; all_goals (repeat' (first | exact trivial | exact le_int (by omega) | exact le_bool rfl | exact le_eq rfl | exact le_nlo | exact le_refl _ | refine And.intro ?_ ?_)))
  rintro i ⟨hi, hinv⟩
  try simp (config := { maxSteps := 2000000 }) only [go_sem, reduceCtorEq, Nat.reduceAdd, Nat.reduceEqDiff, reduceIte, Nat.reduceLeDiff, Nat.reduceLT, Nat.reduceSub]
  all_goals (repeat (with_reducible refine sAnd ?_))
  refine cond_of (by rfl) trivial (fun h2 => ?_) (fun h2 => ?_)
  · have hil : i < l.length := by simp at h2; omega
    have e1 := ptsV_get l i hil
    rw [ptV_eq] at e1
    have hc := h i hil
    try simp (config := { maxSteps := 2000000 }) only [go_sem, reduceCtorEq, Nat.reduceAdd, Nat.reduceEqDiff, reduceIte, Nat.reduceLeDiff, Nat.reduceLT, Nat.reduceSub, e1]
    all_goals (repeat (with_reducible refine sAnd ?_))
    refine callv_val (by rfl) trivial (by repeat' constructor) (hc) ?_
    try simp (config := { maxSteps := 2000000 }) only [go_sem, reduceCtorEq, Nat.reduceAdd, Nat.reduceEqDiff, reduceIte, Nat.reduceLeDiff, Nat.reduceLT, Nat.reduceSub]
    all_goals (repeat (with_reducible refine sAnd ?_))
    refine cond_of (by rfl) trivial (fun h3 => ?_) (fun h3 => ?_)
    · try simp (config := { maxSteps := 2000000 }) only [go_sem, reduceCtorEq, Nat.reduceAdd, Nat.reduceEqDiff, reduceIte, Nat.reduceLeDiff, Nat.reduceLT, Nat.reduceSub]
      all_goals (repeat (with_reducible refine sAnd ?_))
      refine fin_val rfl trivial (.inl ?_)
      congr 3
      exact fidx_some hil h3 hinv
    · try simp (config := { maxSteps := 2000000 }) only [go_sem, reduceCtorEq, Nat.reduceAdd, Nat.reduceEqDiff, reduceIte, Nat.reduceLeDiff, Nat.reduceLT, Nat.reduceSub]
      all_goals (repeat (with_reducible refine sAnd ?_))
      refine ⟨i + 1, by omega, ⟨by omega, fun k hk => ?_⟩, ?_⟩
      · by_cases e : k = i
        · rw [e]; exact h3
        · exact hinv k (by omega)
      · simp (config := { maxSteps := 2000000 }) only [go_sem, reduceCtorEq, Nat.reduceAdd, Nat.reduceEqDiff, reduceIte, Nat.reduceLeDiff, Nat.reduceLT, Nat.reduceSub, le_cons, le_nil, le_un, le_same]
        all_goals (repeat' (first | exact trivial | exact le_int (by omega) | exact le_bool rfl | exact le_eq rfl | exact le_nlo | exact le_refl _ | refine And.intro ?_ ?_))
  · have hil : i = l.length := by simp at h2; omega
    try simp (config := { maxSteps := 2000000 }) only [go_sem, reduceCtorEq, Nat.reduceAdd, Nat.reduceEqDiff, reduceIte, Nat.reduceLeDiff, Nat.reduceLT, Nat.reduceSub]
    all_goals (repeat (with_reducible refine sAnd ?_))
    refine fin_val rfl trivial (.inl ?_)
    congr 3
    exact fidx_none fun k hk => hinv k (by omega)
theorem c_ConF_Path (f : Nat) (caps : List PV) (l : List Pt) (p : Pt → Bool) (h : ∀ i, i < l.length → Contract Tryd.prog f ([.val (.agg [.sl 2 (stsV (l.getD i default).steps), .sl 1 (intsR (l.getD i default).links)])] ++ caps.map fun c => .val (.one c)) { res := .val (bv (p (l.getD i default))) }) :
    Contract Tryd.prog fn_slices_ContainsFunc_Path [.val (.one (.sl 2 (ptsV l))), .val (.one (.clo f caps))] { res := .val (bv (l.any p)) } := by
  refine mk_slices_ContainsFunc_Path (base := 0) ⟨Nat.le_of_ble_eq_true rfl, Nat.le_of_ble_eq_true rfl, Nat.le_of_ble_eq_true rfl, rfl⟩ (fun hfit => ?_)
  unfold F0 slices_ContainsFunc_Path_E
  simp (config := { maxSteps := 2000000 }) only [markU, List.set_cons_succ, List.set_cons_zero, List.map_cons, List.map_nil, argCt, setCells, ioOf, List.length_cons, List.length_nil, Nat.reduceAdd, Nat.reduceSub, List.replicate, List.cons_append, List.nil_append]
  try simp (config := { maxSteps := 2000000 }) only [go_sem, reduceCtorEq, Nat.reduceAdd, Nat.reduceEqDiff, reduceIte, Nat.reduceLeDiff, Nat.reduceLT, Nat.reduceSub]
  all_goals (repeat (with_reducible refine sAnd ?_))
  refine call_val (by repeat' constructor) (c_IdxF_Path f caps l p h) ?_
  try simp (config := { maxSteps := 2000000 }) only [go_sem, reduceCtorEq, Nat.reduceAdd, Nat.reduceEqDiff, reduceIte, Nat.reduceLeDiff, Nat.reduceLT, Nat.reduceSub]
  all_goals (repeat (with_reducible refine sAnd ?_))
  refine fin_val rfl trivial (.inl ?_)
  congr 3
  rw [← fidx_any]
theorem c_fst1_Path (g : Nat) (x y : Pt) (b : Bool) (h : Contract Tryd.prog g [.val (.agg (ptV x)), .val (.agg (ptV y))] { res := .val (bv b) }) :
    Contract Tryd.prog fn_plain_firsts_api_Path_1 [.val (.agg (ptV y)), .val (.one (.fp [.clo g []])), .val (.one (.fp (ptV x)))] { res := .val (bv b) } := by
  rw [ptV_eq, ptV_eq] at h ⊢
  refine mk_plain_firsts_api_Path_1 (base := 0) ⟨Nat.le_of_ble_eq_true rfl, Nat.le_of_ble_eq_true rfl, Nat.le_of_ble_eq_true rfl, rfl⟩ (fun hfit => ?_)
  unfold F0 plain_firsts_api_Path_1_E
  simp (config := { maxSteps := 2000000 }) only [markU, List.set_cons_succ, List.set_cons_zero, List.map_cons, List.map_nil, argCt, setCells, ioOf, List.length_cons, List.length_nil, Nat.reduceAdd, Nat.reduceSub, List.replicate, List.cons_append, List.nil_append]
  try simp (config := { maxSteps := 2000000 }) only [go_sem, reduceCtorEq, Nat.reduceAdd, Nat.reduceEqDiff, reduceIte, Nat.reduceLeDiff, Nat.reduceLT, Nat.reduceSub]
  all_goals (repeat (with_reducible refine sAnd ?_))
  refine callv_val (by rfl) trivial (by repeat' constructor) (h) ?_
  try simp (config := { maxSteps := 2000000 }) only [go_sem, reduceCtorEq, Nat.reduceAdd, Nat.reduceEqDiff, reduceIte, Nat.reduceLeDiff, Nat.reduceLT, Nat.reduceSub]
  all_goals (repeat (with_reducible refine sAnd ?_))
  exact fin_val rfl trivial (.inl rfl)
theorem c_firsts_Path (g : Nat) (l : List Pt) (hl : l.length ≤ 1000000) (h : ∀ x y, Contract Tryd.prog g [.val (.agg (ptV x)), .val (.agg (ptV y))] { res := .val (bv (sameP x y)) }) :
    Contract Tryd.prog fn_plain_firsts_api_Path [.val (.one (.sl 2 (ptsV l))), .val (.one (.clo g []))] { res := .own ty_api_Path 2 (ptsV (firsts sameP l)) } := by
  refine mk_plain_firsts_api_Path (base := 0) ⟨Nat.le_of_ble_eq_true rfl, Nat.le_of_ble_eq_true rfl, Nat.le_of_ble_eq_true rfl, rfl⟩ (fun hfit => ?_)
  unfold F0 plain_firsts_api_Path_E
  simp (config := { maxSteps := 2000000 }) only [markU, List.set_cons_succ, List.set_cons_zero, List.map_cons, List.map_nil, argCt, setCells, ioOf, List.length_cons, List.length_nil, Nat.reduceAdd, Nat.reduceSub, List.replicate, List.cons_append, List.nil_append]
  try simp (config := { maxSteps := 2000000 }) only [go_sem, reduceCtorEq, Nat.reduceAdd, Nat.reduceEqDiff, reduceIte, Nat.reduceLeDiff, Nat.reduceLT, Nat.reduceSub]
  all_goals (repeat (with_reducible refine sAnd ?_))
  refine loop_sets (fun i : Nat => [(10, .pv (iv i)), (5, .own ty_api_Path 2 (ptsV (firsts sameP (l.take i)))), (7, .un), (11, .un), (17, .un)]) (fun i : Nat => l.length - i) (fun i : Nat => i ≤ l.length) (0) ?_ (Nat.zero_le _) ?_
  focus (simp (config := { maxSteps := 2000000 }) only [go_sem, reduceCtorEq, Nat.reduceAdd, Nat.reduceEqDiff, reduceIte, Nat.reduceLeDiff, Nat.reduceLT, Nat.reduceSub, le_cons, le_nil, le_un, le_same]; all_goals (repeat' (first | exact trivial | exact le_int (by omega) | exact le_bool rfl | exact le_eq rfl | exact le_nlo | exact le_refl _ | refine And.intro ?_ ?_)))
  rintro i hi
  try simp (config := { maxSteps := 2000000 }) only [go_sem, reduceCtorEq, Nat.reduceAdd, Nat.reduceEqDiff, reduceIte, Nat.reduceLeDiff, Nat.reduceLT, Nat.reduceSub]
  all_goals (repeat (with_reducible refine sAnd ?_))
  refine cond_of (by rfl) trivial (fun h2 => ?_) (fun h2 => ?_)
  · have hil : i < l.length := by simp at h2; omega
    obtain ⟨x, hx⟩ : ∃ x, x = l.getD i default := ⟨_, rfl⟩
    have e1 := ptsV_get l i hil
    rw [← hx, ptV_eq] at e1
    have hfl := firsts_len sameP (l.take i)
    rw [List.length_take] at hfl
    have htk := firsts_take sameP l i hil
    have hx2 : l[i] = x := by rw [hx]; simp [hil]
    rw [hx2] at htk
    try simp (config := { maxSteps := 2000000 }) only [go_sem, reduceCtorEq, Nat.reduceAdd, Nat.reduceEqDiff, reduceIte, Nat.reduceLeDiff, Nat.reduceLT, Nat.reduceSub, e1]
    all_goals (repeat (with_reducible refine sAnd ?_))
    have hc := c_ConF_Path fn_plain_firsts_api_Path_1 [.fp [.clo g []], .fp (ptV x)] (firsts sameP (l.take i)) (fun y => sameP x y) (fun j hj => by
      have := c_fst1_Path g x ((firsts sameP (l.take i)).getD j default) _ (h _ _)
      rw [ptV_eq ((firsts sameP (l.take i)).getD j default)] at this
      exact this)
    rw [ptV_eq x] at hc
    refine call_val (by repeat' constructor) (hc) ?_
    try simp (config := { maxSteps := 2000000 }) only [go_sem, reduceCtorEq, Nat.reduceAdd, Nat.reduceEqDiff, reduceIte, Nat.reduceLeDiff, Nat.reduceLT, Nat.reduceSub]
    all_goals (repeat (with_reducible refine sAnd ?_))
    refine cond_of (by rfl) trivial (fun h3 => ?_) (fun h3 => ?_)
    · try simp (config := { maxSteps := 2000000 }) only [go_sem, reduceCtorEq, Nat.reduceAdd, Nat.reduceEqDiff, reduceIte, Nat.reduceLeDiff, Nat.reduceLT, Nat.reduceSub]
      all_goals (repeat (with_reducible refine sAnd ?_))
      refine ⟨i + 1, by omega, by omega, ?_⟩
      simp (config := { maxSteps := 2000000 }) only [go_sem, reduceCtorEq, Nat.reduceAdd, Nat.reduceEqDiff, reduceIte, Nat.reduceLeDiff, Nat.reduceLT, Nat.reduceSub, le_cons, le_nil, le_un, le_same]
      all_goals (repeat' (first | exact trivial | exact le_int (by omega) | exact le_bool rfl | exact le_eq rfl | exact le_nlo | exact le_refl _ | refine And.intro ?_ ?_))
      refine le_own ?_
      rw [htk, addNew, if_neg (by simpa using h3), ptsV_app]
      simp only [ptsV, ptV_eq]
    · try simp (config := { maxSteps := 2000000 }) only [go_sem, reduceCtorEq, Nat.reduceAdd, Nat.reduceEqDiff, reduceIte, Nat.reduceLeDiff, Nat.reduceLT, Nat.reduceSub]
      all_goals (repeat (with_reducible refine sAnd ?_))
      refine ⟨i + 1, by omega, by omega, ?_⟩
      simp (config := { maxSteps := 2000000 }) only [go_sem, reduceCtorEq, Nat.reduceAdd, Nat.reduceEqDiff, reduceIte, Nat.reduceLeDiff, Nat.reduceLT, Nat.reduceSub, le_cons, le_nil, le_un, le_same]
      all_goals (repeat' (first | exact trivial | exact le_int (by omega) | exact le_bool rfl | exact le_eq rfl | exact le_nlo | exact le_refl _ | refine And.intro ?_ ?_))
      refine le_own ?_
      rw [htk, addNew, if_pos (by simpa using h3)]
  · have hil : i = l.length := by simp at h2; omega
    try simp (config := { maxSteps := 2000000 }) only [go_sem, reduceCtorEq, Nat.reduceAdd, Nat.reduceEqDiff, reduceIte, Nat.reduceLeDiff, Nat.reduceLT, Nat.reduceSub]
    all_goals (repeat (with_reducible refine sAnd ?_))
    rw [hil, List.take_length]
    exact fin_own rfl

theorem c_IdxF_Test (f : Nat) (caps : List PV) (l : List Ts) (p : Ts → Bool) (h : ∀ i, i < l.length → Contract Tryd.prog f ([.val (.agg [bI (l.getD i default).kind, bS (l.getD i default).name, bS (l.getD i default).value, bI (l.getD i default).na, bI (l.getD i default).nb, .sl 2 (ptsV (l.getD i default).list)])] ++ caps.map fun c => .val (.one c)) { res := .val (bv (p (l.getD i default))) }) :
    Contract Tryd.prog fn_slices_IndexFunc_Test [.val (.one (.sl 6 (tssV l))), .val (.one (.clo f caps))] { res := .val (iv (fidx p l)) } := by
  refine mk_slices_IndexFunc_Test (base := 0) ⟨Nat.le_of_ble_eq_true rfl, Nat.le_of_ble_eq_true rfl, Nat.le_of_ble_eq_true rfl, rfl⟩ (fun hfit => ?_)
  unfold F0 slices_IndexFunc_Test_E
  simp (config := { maxSteps := 2000000 }) only [markU, List.set_cons_succ, List.set_cons_zero, List.map_cons, List.map_nil, argCt, setCells, ioOf, List.length_cons, List.length_nil, Nat.reduceAdd, Nat.reduceSub, List.replicate, List.cons_append, List.nil_append]
  try simp (config := { maxSteps := 2000000 }) only [go_sem, reduceCtorEq, Nat.reduceAdd, Nat.reduceEqDiff, reduceIte, Nat.reduceLeDiff, Nat.reduceLT, Nat.reduceSub]
  all_goals (repeat (with_reducible refine sAnd ?_))
  have ha := fits_sl (k := 6) hfit.1
  rw [tssV_len] at ha
  refine loop_sets (fun i : Nat => [(8, .pv (iv i)), (4, .un), (5, .un), (9, .un), (16, .un)]) (fun i : Nat => l.length - i) (fun i : Nat => i ≤ l.length ∧ ∀ k, k < i → p (l.getD k default) = false) (0) ?_ ⟨Nat.zero_le _, fun k hk => by omega⟩ ?_
  focus (simp (config := { maxSteps := 2000000 }) only [go_sem, reduceCtorEq, Nat.reduceAdd, Nat.reduceEqDiff, reduceIte, Nat.reduceLeDiff, Nat.reduceLT, Nat.reduceSub, le_cons, le_nil, le_un, le_same]; all_goals (repeat' (first | exact trivial | exact le_int (by omega) | exact le_bool rfl | exact le_eq rfl | exact le_nlo | exact le_refl _ | refine And.intro ?_ ?_)))
  rintro i ⟨hi, hinv⟩
  try simp (config := { maxSteps := 2000000 }) only [go_sem, reduceCtorEq, Nat.reduceAdd, Nat.reduceEqDiff, reduceIte, Nat.reduceLeDiff, Nat.reduceLT, Nat.reduceSub]
  all_goals (repeat (with_reducible refine sAnd ?_))
  refine cond_of (by rfl) trivial (fun h2 => ?_) (fun h2 => ?_)
  · have hil : i < l.length := by simp at h2; omega
    have e1 := tssV_get l i hil
    rw [tsV_eq] at e1
    have hc := h i hil
    try simp (config := { maxSteps := 2000000 }) only [go_sem, reduceCtorEq, Nat.reduceAdd, Nat.reduceEqDiff, reduceIte, Nat.reduceLeDiff, Nat.reduceLT, Nat.reduceSub, e1]
    all_goals (repeat (with_reducible refine sAnd ?_))
    refine callv_val (by rfl) trivial (by repeat' constructor) (hc) ?_
    try simp (config := { maxSteps := 2000000 }) only [go_sem, reduceCtorEq, Nat.reduceAdd, Nat.reduceEqDiff, reduceIte, Nat.reduceLeDiff, Nat.reduceLT, Nat.reduceSub]
    all_goals (repeat (with_reducible refine sAnd ?_))
    refine cond_of (by rfl) trivial (fun h3 => ?_) (fun h3 => ?_)
    · try simp (config := { maxSteps := 2000000 }) only [go_sem, reduceCtorEq, Nat.reduceAdd, Nat.reduceEqDiff, reduceIte, Nat.reduceLeDiff, Nat.reduceLT, Nat.reduceSub]
      all_goals (repeat (with_reducible refine sAnd ?_))
      refine fin_val rfl trivial (.inl ?_)
      congr 3
      exact fidx_some hil h3 hinv
    · try simp (config := { maxSteps := 2000000 }) only [go_sem, reduceCtorEq, Nat.reduceAdd, Nat.reduceEqDiff, reduceIte, Nat.reduceLeDiff, Nat.reduceLT, Nat.reduceSub]
      all_goals (repeat (with_reducible refine sAnd ?_))
      refine ⟨i + 1, by omega, ⟨by omega, fun k hk => ?_⟩, ?_⟩
      · by_cases e : k = i
        · rw [e]; exact h3
        · exact hinv k (by omega)
      · simp (config := { maxSteps := 2000000 }) only [go_sem, reduceCtorEq, Nat.reduceAdd, Nat.reduceEqDiff, reduceIte, Nat.reduceLeDiff, Nat.reduceLT, Nat.reduceSub, le_cons, le_nil, le_un, le_same]
        all_goals (repeat' (first | exact trivial | exact le_int (by omega) | exact le_bool rfl | exact le_eq rfl | exact le_nlo | exact le_refl _ | refine And.intro ?_ ?_))
  · have hil : i = l.length := by simp at h2; omega
    try simp (config := { maxSteps := 2000000 }) only [go_sem, reduceCtorEq, Nat.reduceAdd, Nat.reduceEqDiff, reduceIte, Nat.reduceLeDiff, Nat.reduceLT, Nat.reduceSub]
    all_goals (repeat (with_reducible refine sAnd ?_))
    refine fin_val rfl trivial (.inl ?_)
    congr 3
    exact fidx_none fun k hk => hinv k (by omega)
theorem c_ConF_Test (f : Nat) (caps : List PV) (l : List Ts) (p : Ts → Bool) (h : ∀ i, i < l.length → Contract Tryd.prog f ([.val (.agg [bI (l.getD i default).kind, bS (l.getD i default).name, bS (l.getD i default).value, bI (l.getD i default).na, bI (l.getD i default).nb, .sl 2 (ptsV (l.getD i default).list)])] ++ caps.map fun c => .val (.one c)) { res := .val (bv (p (l.getD i default))) }) :
    Contract Tryd.prog fn_slices_ContainsFunc_Test [.val (.one (.sl 6 (tssV l))), .val (.one (.clo f caps))] { res := .val (bv (l.any p)) } := by
  refine mk_slices_ContainsFunc_Test (base := 0) ⟨Nat.le_of_ble_eq_true rfl, Nat.le_of_ble_eq_true rfl, Nat.le_of_ble_eq_true rfl, rfl⟩ (fun hfit => ?_)
  unfold F0 slices_ContainsFunc_Test_E
  simp (config := { maxSteps := 2000000 }) only [markU, List.set_cons_succ, List.set_cons_zero, List.map_cons, List.map_nil, argCt, setCells, ioOf, List.length_cons, List.length_nil, Nat.reduceAdd, Nat.reduceSub, List.replicate, List.cons_append, List.nil_append]
  try simp (config := { maxSteps := 2000000 }) only [go_sem, reduceCtorEq, Nat.reduceAdd, Nat.reduceEqDiff, reduceIte, Nat.reduceLeDiff, Nat.reduceLT, Nat.reduceSub]
  all_goals (repeat (with_reducible refine sAnd ?_))
  refine call_val (by repeat' constructor) (c_IdxF_Test f caps l p h) ?_
  try simp (config := { maxSteps := 2000000 }) only [go_sem, reduceCtorEq, Nat.reduceAdd, Nat.reduceEqDiff, reduceIte, Nat.reduceLeDiff, Nat.reduceLT, Nat.reduceSub]
  all_goals (repeat (with_reducible refine sAnd ?_))
  refine fin_val rfl trivial (.inl ?_)
  congr 3
  rw [← fidx_any]
theorem c_fst1_Test (g : Nat) (x y : Ts) (b : Bool) (h : Contract Tryd.prog g [.val (.agg (tsV x)), .val (.agg (tsV y))] { res := .val (bv b) }) :
    Contract Tryd.prog fn_plain_firsts_api_Test_1 [.val (.agg (tsV y)), .val (.one (.fp [.clo g []])), .val (.one (.fp (tsV x)))] { res := .val (bv b) } := by
  rw [tsV_eq, tsV_eq] at h ⊢
  refine mk_plain_firsts_api_Test_1 (base := 0) ⟨Nat.le_of_ble_eq_true rfl, Nat.le_of_ble_eq_true rfl, Nat.le_of_ble_eq_true rfl, rfl⟩ (fun hfit => ?_)
  unfold F0 plain_firsts_api_Test_1_E
  simp (config := { maxSteps := 2000000 }) only [markU, List.set_cons_succ, List.set_cons_zero, List.map_cons, List.map_nil, argCt, setCells, ioOf, List.length_cons, List.length_nil, Nat.reduceAdd, Nat.reduceSub, List.replicate, List.cons_append, List.nil_append]
  try simp (config := { maxSteps := 2000000 }) only [go_sem, reduceCtorEq, Nat.reduceAdd, Nat.reduceEqDiff, reduceIte, Nat.reduceLeDiff, Nat.reduceLT, Nat.reduceSub]
  all_goals (repeat (with_reducible refine sAnd ?_))
  refine callv_val (by rfl) trivial (by repeat' constructor) (h) ?_
  try simp (config := { maxSteps := 2000000 }) only [go_sem, reduceCtorEq, Nat.reduceAdd, Nat.reduceEqDiff, reduceIte, Nat.reduceLeDiff, Nat.reduceLT, Nat.reduceSub]
  all_goals (repeat (with_reducible refine sAnd ?_))
  exact fin_val rfl trivial (.inl rfl)
theorem c_firsts_Test (g : Nat) (l : List Ts) (hl : l.length ≤ 1000000) (h : ∀ x y, Contract Tryd.prog g [.val (.agg (tsV x)), .val (.agg (tsV y))] { res := .val (bv (sameT x y)) }) :
    Contract Tryd.prog fn_plain_firsts_api_Test [.val (.one (.sl 6 (tssV l))), .val (.one (.clo g []))] { res := .own ty_api_Test 6 (tssV (firsts sameT l)) } := by
  refine mk_plain_firsts_api_Test (base := 0) ⟨Nat.le_of_ble_eq_true rfl, Nat.le_of_ble_eq_true rfl, Nat.le_of_ble_eq_true rfl, rfl⟩ (fun hfit => ?_)
  unfold F0 plain_firsts_api_Test_E
  simp (config := { maxSteps := 2000000 }) only [markU, List.set_cons_succ, List.set_cons_zero, List.map_cons, List.map_nil, argCt, setCells, ioOf, List.length_cons, List.length_nil, Nat.reduceAdd, Nat.reduceSub, List.replicate, List.cons_append, List.nil_append]
  try simp (config := { maxSteps := 2000000 }) only [go_sem, reduceCtorEq, Nat.reduceAdd, Nat.reduceEqDiff, reduceIte, Nat.reduceLeDiff, Nat.reduceLT, Nat.reduceSub]
  all_goals (repeat (with_reducible refine sAnd ?_))
  refine loop_sets (fun i : Nat => [(10, .pv (iv i)), (5, .own ty_api_Test 6 (tssV (firsts sameT (l.take i)))), (7, .un), (11, .un), (17, .un)]) (fun i : Nat => l.length - i) (fun i : Nat => i ≤ l.length) (0) ?_ (Nat.zero_le _) ?_
  focus (simp (config := { maxSteps := 2000000 }) only [go_sem, reduceCtorEq, Nat.reduceAdd, Nat.reduceEqDiff, reduceIte, Nat.reduceLeDiff, Nat.reduceLT, Nat.reduceSub, le_cons, le_nil, le_un, le_same]; all_goals (repeat' (first | exact trivial | exact le_int (by omega) | exact le_bool rfl | exact le_eq rfl | exact le_nlo | exact le_refl _ | refine And.intro ?_ ?_)))
  rintro i hi
  try simp (config := { maxSteps := 2000000 }) only [go_sem, reduceCtorEq, Nat.reduceAdd, Nat.reduceEqDiff, reduceIte, Nat.reduceLeDiff, Nat.reduceLT, Nat.reduceSub]
  all_goals (repeat (with_reducible refine sAnd ?_))
  refine cond_of (by rfl) trivial (fun h2 => ?_) (fun h2 => ?_)
  · have hil : i < l.length := by simp at h2; omega
    obtain ⟨x, hx⟩ : ∃ x, x = l.getD i default := ⟨_, rfl⟩
    have e1 := tssV_get l i hil
    rw [← hx, tsV_eq] at e1
    have hfl := firsts_len sameT (l.take i)
    rw [List.length_take] at hfl
    have htk := firsts_take sameT l i hil
    have hx2 : l[i] = x := by rw [hx]; simp [hil]
    rw [hx2] at htk
    try simp (config := { maxSteps := 2000000 }) only [go_sem, reduceCtorEq, Nat.reduceAdd, Nat.reduceEqDiff, reduceIte, Nat.reduceLeDiff, Nat.reduceLT, Nat.reduceSub, e1]
    all_goals (repeat (with_reducible refine sAnd ?_))
    have hc := c_ConF_Test fn_plain_firsts_api_Test_1 [.fp [.clo g []], .fp (tsV x)] (firsts sameT (l.take i)) (fun y => sameT x y) (fun j hj => by
      have := c_fst1_Test g x ((firsts sameT (l.take i)).getD j default) _ (h _ _)
      rw [tsV_eq ((firsts sameT (l.take i)).getD j default)] at this
      exact this)
    rw [tsV_eq x] at hc
    refine call_val (by repeat' constructor) (hc) ?_
    try simp (config := { maxSteps := 2000000 }) only [go_sem, reduceCtorEq, Nat.reduceAdd, Nat.reduceEqDiff, reduceIte, Nat.reduceLeDiff, Nat.reduceLT, Nat.reduceSub]
    all_goals (repeat (with_reducible refine sAnd ?_))
    refine cond_of (by rfl) trivial (fun h3 => ?_) (fun h3 => ?_)
    · try simp (config := { maxSteps := 2000000 }) only [go_sem, reduceCtorEq, Nat.reduceAdd, Nat.reduceEqDiff, reduceIte, Nat.reduceLeDiff, Nat.reduceLT, Nat.reduceSub]
      all_goals (repeat (with_reducible refine sAnd ?_))
      refine ⟨i + 1, by omega, by omega, ?_⟩
      simp (config := { maxSteps := 2000000 }) only [go_sem, reduceCtorEq, Nat.reduceAdd, Nat.reduceEqDiff, reduceIte, Nat.reduceLeDiff, Nat.reduceLT, Nat.reduceSub, le_cons, le_nil, le_un, le_same]
      all_goals (repeat' (first | exact trivial | exact le_int (by omega) | exact le_bool rfl | exact le_eq rfl | exact le_nlo | exact le_refl _ | refine And.intro ?_ ?_))
      refine le_own ?_
      rw [htk, addNew, if_neg (by simpa using h3), tssV_app]
      simp only [tssV, tsV_eq]
    · try simp (config := { maxSteps := 2000000 }) only [go_sem, reduceCtorEq, Nat.reduceAdd, Nat.reduceEqDiff, reduceIte, Nat.reduceLeDiff, Nat.reduceLT, Nat.reduceSub]
      all_goals (repeat (with_reducible refine sAnd ?_))
      refine ⟨i + 1, by omega, by omega, ?_⟩
      simp (config := { maxSteps := 2000000 }) only [go_sem, reduceCtorEq, Nat.reduceAdd, Nat.reduceEqDiff, reduceIte, Nat.reduceLeDiff, Nat.reduceLT, Nat.reduceSub, le_cons, le_nil, le_un, le_same]
      all_goals (repeat' (first | exact trivial | exact le_int (by omega) | exact le_bool rfl | exact le_eq rfl | exact le_nlo | exact le_refl _ | refine And.intro ?_ ?_))
      refine le_own ?_
      rw [htk, addNew, if_pos (by simpa using h3)]
  · have hil : i = l.length := by simp at h2; omega
    try simp (config := { maxSteps := 2000000 }) only [go_sem, reduceCtorEq, Nat.reduceAdd, Nat.reduceEqDiff, reduceIte, Nat.reduceLeDiff, Nat.reduceLT, Nat.reduceSub]
    all_goals (repeat (with_reducible refine sAnd ?_))
    rw [hil, List.take_length]
    exact fin_own rfl

/-- The one step of a test's list; nil: there is more. -/
def innerV (l : List Pt) : PVal := match single l with
  | some x => .one (.fp (stV x))
  | none => .one (.v (.pointer none))
theorem c_inner (t : Ts) : Contract Tryd.prog fn_plain_inner [.val (.agg (tsV t))] { res := .val (innerV t.list) } := by
  rw [tsV_eq]
  rcases hl : t.list with _ | ⟨p, _ | ⟨q, r⟩⟩
  · simp only [ptsV]
    refine mk_plain_inner (base := 0) ⟨Nat.le_of_ble_eq_true rfl, Nat.le_of_ble_eq_true rfl, Nat.le_of_ble_eq_true rfl, rfl⟩ (fun hfit => ?_)
    unfold F0 plain_inner_E
    simp (config := { maxSteps := 2000000 }) only [markU, List.set_cons_succ, List.set_cons_zero, List.map_cons, List.map_nil, argCt, setCells, ioOf, List.length_cons, List.length_nil, Nat.reduceAdd, Nat.reduceSub, List.replicate, List.cons_append, List.nil_append]
    try simp (config := { maxSteps := 2000000 }) only [go_sem, reduceCtorEq, Nat.reduceAdd, Nat.reduceEqDiff, reduceIte, Nat.reduceLeDiff, Nat.reduceLT, Nat.reduceSub]
    all_goals (repeat (with_reducible refine sAnd ?_))
    refine cond_t (by rfl) trivial ?_
    try simp (config := { maxSteps := 2000000 }) only [go_sem, reduceCtorEq, Nat.reduceAdd, Nat.reduceEqDiff, reduceIte, Nat.reduceLeDiff, Nat.reduceLT, Nat.reduceSub]
    all_goals (repeat (with_reducible refine sAnd ?_))
    exact fin_val rfl trivial (.inl rfl)
  · simp only [ptsV, ptV_eq]
    rcases hs : p.steps with _ | ⟨x, _ | ⟨y, r⟩⟩
    · simp only [stsV]
      refine mk_plain_inner (base := 0) ⟨Nat.le_of_ble_eq_true rfl, Nat.le_of_ble_eq_true rfl, Nat.le_of_ble_eq_true rfl, rfl⟩ (fun hfit => ?_)
      unfold F0 plain_inner_E
      simp (config := { maxSteps := 2000000 }) only [markU, List.set_cons_succ, List.set_cons_zero, List.map_cons, List.map_nil, argCt, setCells, ioOf, List.length_cons, List.length_nil, Nat.reduceAdd, Nat.reduceSub, List.replicate, List.cons_append, List.nil_append]
      try simp (config := { maxSteps := 2000000 }) only [go_sem, reduceCtorEq, Nat.reduceAdd, Nat.reduceEqDiff, reduceIte, Nat.reduceLeDiff, Nat.reduceLT, Nat.reduceSub]
      all_goals (repeat (with_reducible refine sAnd ?_))
      refine cond_t (by rfl) trivial ?_
      try simp (config := { maxSteps := 2000000 }) only [go_sem, reduceCtorEq, Nat.reduceAdd, Nat.reduceEqDiff, reduceIte, Nat.reduceLeDiff, Nat.reduceLT, Nat.reduceSub]
      all_goals (repeat (with_reducible refine sAnd ?_))
      refine fin_val rfl trivial (.inl ?_)
      simp only [innerV, single, hs]
    · simp only [stsV]
      refine mk_plain_inner (base := 0) ⟨Nat.le_of_ble_eq_true rfl, Nat.le_of_ble_eq_true rfl, Nat.le_of_ble_eq_true rfl, rfl⟩ (fun hfit => ?_)
      unfold F0 plain_inner_E
      simp (config := { maxSteps := 2000000 }) only [markU, List.set_cons_succ, List.set_cons_zero, List.map_cons, List.map_nil, argCt, setCells, ioOf, List.length_cons, List.length_nil, Nat.reduceAdd, Nat.reduceSub, List.replicate, List.cons_append, List.nil_append]
      try simp (config := { maxSteps := 2000000 }) only [go_sem, reduceCtorEq, Nat.reduceAdd, Nat.reduceEqDiff, reduceIte, Nat.reduceLeDiff, Nat.reduceLT, Nat.reduceSub]
      all_goals (repeat (with_reducible refine sAnd ?_))
      refine cond_f (by rfl) trivial ?_
      try simp (config := { maxSteps := 2000000 }) only [go_sem, reduceCtorEq, Nat.reduceAdd, Nat.reduceEqDiff, reduceIte, Nat.reduceLeDiff, Nat.reduceLT, Nat.reduceSub]
      all_goals (repeat (with_reducible refine sAnd ?_))
      refine fin_val rfl trivial (.inl ?_)
      simp only [innerV, single, hs]
    · simp only [stsV]
      refine mk_plain_inner (base := 0) ⟨Nat.le_of_ble_eq_true rfl, Nat.le_of_ble_eq_true rfl, Nat.le_of_ble_eq_true rfl, rfl⟩ (fun hfit => ?_)
      unfold F0 plain_inner_E
      simp (config := { maxSteps := 2000000 }) only [markU, List.set_cons_succ, List.set_cons_zero, List.map_cons, List.map_nil, argCt, setCells, ioOf, List.length_cons, List.length_nil, Nat.reduceAdd, Nat.reduceSub, List.replicate, List.cons_append, List.nil_append]
      try simp (config := { maxSteps := 2000000 }) only [go_sem, reduceCtorEq, Nat.reduceAdd, Nat.reduceEqDiff, reduceIte, Nat.reduceLeDiff, Nat.reduceLT, Nat.reduceSub]
      all_goals (repeat (with_reducible refine sAnd ?_))
      refine cond_t (by rfl) trivial ?_
      try simp (config := { maxSteps := 2000000 }) only [go_sem, reduceCtorEq, Nat.reduceAdd, Nat.reduceEqDiff, reduceIte, Nat.reduceLeDiff, Nat.reduceLT, Nat.reduceSub]
      all_goals (repeat (with_reducible refine sAnd ?_))
      refine fin_val rfl trivial (.inl ?_)
      simp only [innerV, single, hs]
  · simp only [ptsV, ptV_eq p]
    refine mk_plain_inner (base := 0) ⟨Nat.le_of_ble_eq_true rfl, Nat.le_of_ble_eq_true rfl, Nat.le_of_ble_eq_true rfl, rfl⟩ (fun hfit => ?_)
    unfold F0 plain_inner_E
    simp (config := { maxSteps := 2000000 }) only [markU, List.set_cons_succ, List.set_cons_zero, List.map_cons, List.map_nil, argCt, setCells, ioOf, List.length_cons, List.length_nil, Nat.reduceAdd, Nat.reduceSub, List.replicate, List.cons_append, List.nil_append]
    try simp (config := { maxSteps := 2000000 }) only [go_sem, reduceCtorEq, Nat.reduceAdd, Nat.reduceEqDiff, reduceIte, Nat.reduceLeDiff, Nat.reduceLT, Nat.reduceSub]
    all_goals (repeat (with_reducible refine sAnd ?_))
    refine cond_t (by rfl) trivial ?_
    try simp (config := { maxSteps := 2000000 }) only [go_sem, reduceCtorEq, Nat.reduceAdd, Nat.reduceEqDiff, reduceIte, Nat.reduceLeDiff, Nat.reduceLT, Nat.reduceSub]
    all_goals (repeat (with_reducible refine sAnd ?_))
    exact fin_val rfl trivial (.inl rfl)
end Go.Hx
end

section
-- DOM getO, listV, intsR_len, ptsV_len, stsV_len, tssV_len, List.getD_nil, List.take_nil, List.headD_nil, List.headD_cons, List.getD_cons_zero, List.length_cons, List.length_nil, i_ez0, i_ez1, i_ez2, i_toNat0, i_toNat1, bif_ff, List.drop_zero, List.take_succ_cons, List.take_zero, List.map_nil, List.map_cons, List.length_drop, List.length_take, List.take_length
set_option maxRecDepth 100000
set_option linter.unusedSimpArgs false
set_option maxHeartbeats 40000000
namespace Go.Hx
open Go.Proofs
variable [Glob]

attribute [local go_sem] ndsV_len clsV_len attV_len intsR_len ndV cellsEq getO listV ptsV_len stsV_len tssV_len List.getD_nil List.take_nil List.headD_nil List.headD_cons List.getD_cons_zero List.length_cons List.length_nil i_toNat0 List.drop_zero List.take_succ_cons List.take_zero List.map_nil List.map_cons List.length_drop List.length_take List.take_length
theorem i_ez0 : (((0 : Nat) : Int) == 1) = false := rfl
attribute [local go_sem] i_ez0
theorem i_ez1 : (((1 : Nat) : Int) == 1) = true := rfl
attribute [local go_sem] i_ez1
theorem i_ez2 (n : Nat) : (((n + 1 + 1 : Nat) : Int) == 1) = false := by
  rw [beq_eq_false_iff_ne]; omega
attribute [local go_sem] i_ez2
theorem bif_ff (c : Bool) : (bif c then false else false) = false := by cases c <;> rfl
attribute [local go_sem] bif_ff
theorem i_toNat1 (i : Nat) : Int.toNat ((i : Int) + 1) = i + 1 := by omega
attribute [local go_sem] i_toNat1
theorem Ts.kind_mk (k : Int) (n v : Bys) (a b : Int) (l : List Pt) : (Ts.mk k n v a b l).kind = k := rfl
theorem Ts.list_mk (k : Int) (n v : Bys) (a b : Int) (l : List Pt) : (Ts.mk k n v a b l).list = l := rfl
theorem onTs_len (l : List Ts) : (onTs l).length = l.length := by simp [onTs_map]
theorem flatT_cons (o : St) (t : Ts) (r : List Ts) : flatT o (t :: r) = flatT (flat1 o t r.length) r := rfl
theorem fp_bB (b : Bool) : (bif b then true else false) = b := by cases b <;> rfl

def GoodO (P : Go.Program) (N : Nat) : Prop := ∀ l : List Pt, SizeOf.sizeOf l ≤ N → shL l = true → Contract P fn_plain_once [.val (.one (.sl 2 (ptsV l)))] { res := .own ty_api_Path 2 (ptsV (onL l)) }

theorem sh_tests {s : St} (h : shS s = true) : s.tests.length ≤ 6 ∧ ∀ i, i < s.tests.length → shL (s.tests.getD i default).list = true := by
  rw [shS_eq] at h
  simp only [Bool.and_eq_true, decide_eq_true_eq] at h
  refine ⟨h.1, fun i hi => ?_⟩
  rw [← shT_eq]
  exact (shTs_iff _).1 h.2 _ (getD_mem hi)
theorem sh_steps {p : Pt} (h : shP p = true) : p.steps.length ≤ 6 ∧ p.links.length ≤ 6 ∧ ∀ i, i < p.steps.length → shS (p.steps.getD i default) = true := by
  rw [shP_eq] at h
  simp only [Bool.and_eq_true, decide_eq_true_eq] at h
  exact ⟨h.1.1, h.1.2, fun i hi => (shSs_iff _).1 h.2 _ (getD_mem hi)⟩
theorem sh_paths {l : List Pt} (h : shL l = true) : l.length ≤ 6 ∧ ∀ i, i < l.length → shP (l.getD i default) = true := by
  unfold shL at h
  simp only [Bool.and_eq_true, decide_eq_true_eq] at h
  exact ⟨h.1, fun i hi => (shPs_iff _).1 h.2 _ (getD_mem hi)⟩
theorem sh_single {l : List Pt} {x : St} (h : shL l = true) (hs : single l = some x) : x.tests.length ≤ 6 := by
  obtain ⟨lk, rfl⟩ := single_some hs
  have h1 := (sh_paths h).2 0 (by simp)
  have h2 := (sh_steps h1).2.2 0 (by simp [Pt.steps])
  exact (sh_tests h2).1

theorem flat1_one {o : St} {t : Ts} {r : Nat} (hs : single t.list = none) : flat1 o t r = .mk o.tag (o.tests ++ [t]) := by
  unfold flat1; simp only [hs]
theorem flat1_nn {o : St} {t u : Ts} {x : St} {r : Nat} (hs : single t.list = some x) (hn : notNot t x = some u) : flat1 o t r = .mk o.tag (o.tests ++ [.mk 14 [] [] 0 0 u.list]) := by
  unfold flat1; simp only [hs, hn]
theorem flat1_fit {o : St} {t : Ts} {x : St} {r : Nat} (hs : single t.list = some x) (hn : notNot t x = none) (hc : t.kind = 14 ∧ (x.tag = [] ∨ o.tag = [] ∨ x.tag = o.tag) ∧ o.tests.length + x.tests.length + r ≤ 6) : flat1 o t r = .mk (if o.tag = [] then x.tag else o.tag) (o.tests ++ x.tests) := by
  unfold flat1; simp only [hs, hn]; rw [if_pos hc]
theorem flat1_not {o : St} {t : Ts} {x : St} {r : Nat} (hs : single t.list = some x) (hn : notNot t x = none) (hc : ¬ (t.kind = 14 ∧ (x.tag = [] ∨ o.tag = [] ∨ x.tag = o.tag) ∧ o.tests.length + x.tests.length + r ≤ 6)) : flat1 o t r = .mk o.tag (o.tests ++ [t]) := by
  unfold flat1; simp only [hs, hn]; rw [if_neg hc]
theorem notNot_of {t u : Ts} {x : St} (h1 : t.kind = 13) (h2 : x.tag = []) (h3 : x.tests = [u]) (h4 : u.kind = 13) : notNot t x = some u := by
  unfold notNot; rw [if_pos ⟨h1, h2⟩, h3]; simp only; rw [if_pos h4]
theorem notNot_no {t u : Ts} {x : St} (h3 : x.tests = [u]) (h : ¬ (t.kind = 13 ∧ x.tag = [] ∧ u.kind = 13)) : notNot t x = none := by
  unfold notNot
  split
  · rename_i hk
    rw [h3]
    simp only
    rw [if_neg fun hu => h ⟨hk.1, hk.2, hu⟩]
  · rfl

/-- Is it a not of one not? -/
def nnB (k : Int) (x : St) : Bool := (k == 13) && (x.tag == []) && (match x.tests with | [u] => u.kind == 13 | _ => false)
theorem nnB_none {t : Ts} {x : St} (h : nnB t.kind x = false) : notNot t x = none := by
  unfold nnB at h
  unfold notNot
  split
  · rename_i hk
    rw [hk.1, hk.2] at h
    split
    · rename_i u hu
      rw [hu] at h
      rw [if_neg]
      intro hc
      simp [hc] at h
    · rfl
  · rfl
theorem nnB_some {t : Ts} {x : St} (h : nnB t.kind x = true) : ∃ u, notNot t x = some u ∧ x.tests = [u] := by
  unfold nnB at h
  simp only [Bool.and_eq_true, beq_iff_eq] at h
  obtain ⟨⟨h1, h2⟩, h3⟩ := h
  split at h3
  · rename_i u hu
    exact ⟨u, notNot_of h1 h2 hu (by simpa using h3), hu⟩
  · cases h3
theorem st_r8 {Q : Exit → List Ct → Prop} {R : HCode} (s o x : St) (i : Nat) (k na nb : Int) (nm vl : Bys) (c2 : List (List PV)) (c14 c24 : Ct)
    (h : ∀ b, b = nnB k x → hwp Tryd.prog R Q [.pv (.agg [bS s.tag, .sl 6 (tssV s.tests)]), .pv (.one (.fp [bS s.tag, .sl 6 (tssV s.tests)])), .ptr 0 0, .ptr 1 0, .pv (iv i), .ptr 2 0, .pv (.one (.fp [bS x.tag, .sl 6 (tssV x.tests)])), .un, .un, .un, .un, .pv (.one (.sl 6 (tssV s.tests))), .pv (iv s.tests.length), .pv (iv i), c14, .un, .un, .un, .un, .un, .un, .un, .un, .un, c24, .un, .un, .pv (bv b), .un, .un, .un, .un, .un, .un, .un, .un, .un, .un, .un, .un, .un, .un, .un, .un, .un, .un, .un, .un, .un, .un, .un, .un, .un, .un, .un, .un, .un, .un, .un, .un, .un, .un, .un, .un, .un, .un, .un, .un, .un, .un, .un, .un, .un, .un, .un, .un, .un, .un, .un, .un, .un, .un, .un, .un, .un, .un, .un, .un, .un, .un, .un, .un, .un, .un, .un, .un, .un, .un, .un, .un, .un, .un, .un, .un, .un, .un, .un, .un, .un, .un, .un, .un, .un, .un, .un, .un, .un, .un, .un, .un, .un, .un, .un, .un, .un, .un, .un, .un, .un, .un, .un, .un, .un, .un, .un, .un, .pv (.one (.v (mkS []))), .pv (.one (.nl 6)), .pv (.one (bS o.tag)), .own ty_api_Test 6 (tssV o.tests), .pv (.one (bI k)), .pv (.one (bS nm)), .pv (.one (bS vl)), .pv (.one (bI na)), .pv (.one (bI nb)), .pv (.one (.sl 2 c2))]) :
    hwp Tryd.prog (.seq plain_step_r8 R) Q [.pv (.agg [bS s.tag, .sl 6 (tssV s.tests)]), .pv (.one (.fp [bS s.tag, .sl 6 (tssV s.tests)])), .ptr 0 0, .ptr 1 0, .pv (iv i), .ptr 2 0, .pv (.one (.fp [bS x.tag, .sl 6 (tssV x.tests)])), .un, .un, .un, .un, .pv (.one (.sl 6 (tssV s.tests))), .pv (iv s.tests.length), .pv (iv i), c14, .un, .un, .un, .un, .un, .un, .un, .un, .un, c24, .un, .un, .un, .un, .un, .un, .un, .un, .un, .un, .un, .un, .un, .un, .un, .un, .un, .un, .un, .un, .un, .un, .un, .un, .un, .un, .un, .un, .un, .un, .un, .un, .un, .un, .un, .un, .un, .un, .un, .un, .un, .un, .un, .un, .un, .un, .un, .un, .un, .un, .un, .un, .un, .un, .un, .un, .un, .un, .un, .un, .un, .un, .un, .un, .un, .un, .un, .un, .un, .un, .un, .un, .un, .un, .un, .un, .un, .un, .un, .un, .un, .un, .un, .un, .un, .un, .un, .un, .un, .un, .un, .un, .un, .un, .un, .un, .un, .un, .un, .un, .un, .un, .un, .un, .un, .un, .un, .un, .un, .un, .un, .pv (.one (.v (mkS []))), .pv (.one (.nl 6)), .pv (.one (bS o.tag)), .own ty_api_Test 6 (tssV o.tests), .pv (.one (bI k)), .pv (.one (bS nm)), .pv (.one (bS vl)), .pv (.one (bI na)), .pv (.one (bI nb)), .pv (.one (.sl 2 c2))] := by
  unfold nnB at h
  obtain ⟨xt, xl⟩ := x
  simp only [St.tag_mk, St.tests_mk] at h ⊢
  rcases xl with _ | ⟨u, _ | ⟨v, w⟩⟩
  · simp only [tssV] at h ⊢
    by_cases hk : k = 13
    · have e1 : (k == 13) = true := by simp [hk]
      by_cases ha : xt = []
      · have e2 : (xt == []) = true := by simp [ha]
        try simp (config := { maxSteps := 2000000 }) only [go_sem, reduceCtorEq, Nat.reduceAdd, Nat.reduceEqDiff, reduceIte, Nat.reduceLeDiff, Nat.reduceLT, Nat.reduceSub, e1, e2, Bool.not_true, Bool.not_false]
        all_goals (repeat (with_reducible refine sAnd ?_))
        exact h _ (by simp)
      · have e2 : (xt == []) = false := by simp [ha]
        try simp (config := { maxSteps := 2000000 }) only [go_sem, reduceCtorEq, Nat.reduceAdd, Nat.reduceEqDiff, reduceIte, Nat.reduceLeDiff, Nat.reduceLT, Nat.reduceSub, e1, e2, Bool.not_true, Bool.not_false]
        all_goals (repeat (with_reducible refine sAnd ?_))
        exact h _ (by simp)
    · have e1 : (k == 13) = false := by simp [hk]
      try simp (config := { maxSteps := 2000000 }) only [go_sem, reduceCtorEq, Nat.reduceAdd, Nat.reduceEqDiff, reduceIte, Nat.reduceLeDiff, Nat.reduceLT, Nat.reduceSub, e1, Bool.not_true, Bool.not_false]
      all_goals (repeat (with_reducible refine sAnd ?_))
      exact h _ (by simp)
  · simp only [tssV, tsV_eq u] at h ⊢
    by_cases hk : k = 13
    · have e1 : (k == 13) = true := by simp [hk]
      by_cases ha : xt = []
      · have e2 : (xt == []) = true := by simp [ha]
        try simp (config := { maxSteps := 2000000 }) only [go_sem, reduceCtorEq, Nat.reduceAdd, Nat.reduceEqDiff, reduceIte, Nat.reduceLeDiff, Nat.reduceLT, Nat.reduceSub, e1, e2, Bool.not_true, Bool.not_false]
        all_goals (repeat (with_reducible refine sAnd ?_))
        exact h _ (by rw [e1, e2]; rfl)
      · have e2 : (xt == []) = false := by simp [ha]
        try simp (config := { maxSteps := 2000000 }) only [go_sem, reduceCtorEq, Nat.reduceAdd, Nat.reduceEqDiff, reduceIte, Nat.reduceLeDiff, Nat.reduceLT, Nat.reduceSub, e1, e2, Bool.not_true, Bool.not_false]
        all_goals (repeat (with_reducible refine sAnd ?_))
        exact h _ (by rw [e1, e2]; rfl)
    · have e1 : (k == 13) = false := by simp [hk]
      try simp (config := { maxSteps := 2000000 }) only [go_sem, reduceCtorEq, Nat.reduceAdd, Nat.reduceEqDiff, reduceIte, Nat.reduceLeDiff, Nat.reduceLT, Nat.reduceSub, e1, Bool.not_true, Bool.not_false]
      all_goals (repeat (with_reducible refine sAnd ?_))
      exact h _ (by rw [e1]; rfl)
  · simp only [tssV, tsV_eq u] at h ⊢
    by_cases hk : k = 13
    · have e1 : (k == 13) = true := by simp [hk]
      by_cases ha : xt = []
      · have e2 : (xt == []) = true := by simp [ha]
        try simp (config := { maxSteps := 2000000 }) only [go_sem, reduceCtorEq, Nat.reduceAdd, Nat.reduceEqDiff, reduceIte, Nat.reduceLeDiff, Nat.reduceLT, Nat.reduceSub, e1, e2, Bool.not_true, Bool.not_false]
        all_goals (repeat (with_reducible refine sAnd ?_))
        exact h _ (by simp)
      · have e2 : (xt == []) = false := by simp [ha]
        try simp (config := { maxSteps := 2000000 }) only [go_sem, reduceCtorEq, Nat.reduceAdd, Nat.reduceEqDiff, reduceIte, Nat.reduceLeDiff, Nat.reduceLT, Nat.reduceSub, e1, e2, Bool.not_true, Bool.not_false]
        all_goals (repeat (with_reducible refine sAnd ?_))
        exact h _ (by simp)
    · have e1 : (k == 13) = false := by simp [hk]
      try simp (config := { maxSteps := 2000000 }) only [go_sem, reduceCtorEq, Nat.reduceAdd, Nat.reduceEqDiff, reduceIte, Nat.reduceLeDiff, Nat.reduceLT, Nat.reduceSub, e1, Bool.not_true, Bool.not_false]
      all_goals (repeat (with_reducible refine sAnd ?_))
      exact h _ (by simp)

/-- Does a test's one step fit? -/
def fitB (s o : St) (i : Nat) (k : Int) (xt : Bys) (lx : Nat) : Bool := (k == 14) && ((xt == []) || (o.tag == []) || (xt == o.tag)) && decide (o.tests.length + lx + (s.tests.length - (i + 1)) ≤ 6)
theorem st_r10 {Q : Exit → List Ct → Prop} {R : HCode} (s o : St) (i : Nat) (hi : i < s.tests.length) (hs6 : s.tests.length ≤ 6) (hol : o.tests.length ≤ 6) (k na nb : Int) (xt nm vl : Bys) (rx c2 : List (List PV)) (hx : rx.length ≤ 6) (c14 c24 c27 : Ct)
    (h : ∀ b, b = fitB s o i k xt rx.length → hwp Tryd.prog R Q [.pv (.agg [bS s.tag, .sl 6 (tssV s.tests)]), .pv (.one (.fp [bS s.tag, .sl 6 (tssV s.tests)])), .ptr 0 0, .ptr 1 0, .pv (iv i), .ptr 2 0, .pv (.one (.fp [bS xt, .sl 6 rx])), .un, .un, .un, .un, .pv (.one (.sl 6 (tssV s.tests))), .pv (iv s.tests.length), .pv (iv i), c14, .un, .un, .un, .un, .un, .un, .un, .un, .un, c24, .un, .un, c27, .un, .un, .un, .un, .un, .un, .un, .un, .un, .un, .un, .un, .un, .un, .un, .un, .un, .un, .un, .un, .un, .un, .un, .un, .un, .un, .un, .un, .un, .un, .un, .un, .un, .un, .un, .un, .pv (bv b), .un, .un, .un, .un, .un, .un, .un, .un, .un, .un, .un, .un, .un, .un, .un, .un, .un, .un, .un, .un, .un, .un, .un, .un, .un, .un, .un, .un, .un, .un, .un, .un, .un, .un, .un, .un, .un, .un, .un, .un, .un, .un, .un, .un, .un, .un, .un, .un, .un, .un, .un, .un, .un, .un, .un, .un, .un, .un, .un, .un, .un, .un, .un, .un, .un, .un, .un, .un, .un, .un, .un, .pv (.one (.v (mkS []))), .pv (.one (.nl 6)), .pv (.one (bS o.tag)), .own ty_api_Test 6 (tssV o.tests), .pv (.one (bI k)), .pv (.one (bS nm)), .pv (.one (bS vl)), .pv (.one (bI na)), .pv (.one (bI nb)), .pv (.one (.sl 2 c2))]) :
    hwp Tryd.prog (.seq plain_step_r10 R) Q [.pv (.agg [bS s.tag, .sl 6 (tssV s.tests)]), .pv (.one (.fp [bS s.tag, .sl 6 (tssV s.tests)])), .ptr 0 0, .ptr 1 0, .pv (iv i), .ptr 2 0, .pv (.one (.fp [bS xt, .sl 6 rx])), .un, .un, .un, .un, .pv (.one (.sl 6 (tssV s.tests))), .pv (iv s.tests.length), .pv (iv i), c14, .un, .un, .un, .un, .un, .un, .un, .un, .un, c24, .un, .un, c27, .un, .un, .un, .un, .un, .un, .un, .un, .un, .un, .un, .un, .un, .un, .un, .un, .un, .un, .un, .un, .un, .un, .un, .un, .un, .un, .un, .un, .un, .un, .un, .un, .un, .un, .un, .un, .un, .un, .un, .un, .un, .un, .un, .un, .un, .un, .un, .un, .un, .un, .un, .un, .un, .un, .un, .un, .un, .un, .un, .un, .un, .un, .un, .un, .un, .un, .un, .un, .un, .un, .un, .un, .un, .un, .un, .un, .un, .un, .un, .un, .un, .un, .un, .un, .un, .un, .un, .un, .un, .un, .un, .un, .un, .un, .un, .un, .un, .un, .un, .un, .un, .un, .un, .un, .un, .un, .un, .un, .pv (.one (.v (mkS []))), .pv (.one (.nl 6)), .pv (.one (bS o.tag)), .own ty_api_Test 6 (tssV o.tests), .pv (.one (bI k)), .pv (.one (bS nm)), .pv (.one (bS vl)), .pv (.one (bI na)), .pv (.one (bI nb)), .pv (.one (.sl 2 c2))] := by
  have hfin : ∀ a b c : Nat, decide ((a : Int) + (b : Int) + ((min c c - (i + 1) : Nat) : Int) ≤ 6) = decide (a + b + (c - (i + 1)) ≤ 6) := fun a b c => decide_eq_decide.2 (by omega)
  by_cases hk : k = 14
  · have e1 : (k == 14) = true := by simp [hk]
    by_cases ha : xt = []
    · have e2 : (xt == []) = true := by simp [ha]
      try simp (config := { maxSteps := 2000000 }) only [go_sem, reduceCtorEq, Nat.reduceAdd, Nat.reduceEqDiff, reduceIte, Nat.reduceLeDiff, Nat.reduceLT, Nat.reduceSub, e1, e2, Bool.not_true, Bool.not_false, Nat.min_self]
      all_goals (repeat (with_reducible refine sAnd ?_))
      refine h _ ?_
      unfold fitB
      rw [e1, e2]
      simp
      omega
    · have e2 : (xt == []) = false := by simp [ha]
      by_cases hb : o.tag = []
      · have e3 : (o.tag == []) = true := by simp [hb]
        try simp (config := { maxSteps := 2000000 }) only [go_sem, reduceCtorEq, Nat.reduceAdd, Nat.reduceEqDiff, reduceIte, Nat.reduceLeDiff, Nat.reduceLT, Nat.reduceSub, e1, e2, e3, Bool.not_true, Bool.not_false, Nat.min_self]
        all_goals (repeat (with_reducible refine sAnd ?_))
        refine h _ ?_
        unfold fitB
        rw [e1, e2, e3]
        simp
        omega
      · have e3 : (o.tag == []) = false := by simp [hb]
        by_cases hc : xt = o.tag
        · have e4 : (xt == o.tag) = true := by simp [hc]
          try simp (config := { maxSteps := 2000000 }) only [go_sem, reduceCtorEq, Nat.reduceAdd, Nat.reduceEqDiff, reduceIte, Nat.reduceLeDiff, Nat.reduceLT, Nat.reduceSub, e1, e2, e3, e4, Bool.not_true, Bool.not_false, Nat.min_self]
          all_goals (repeat (with_reducible refine sAnd ?_))
          refine h _ ?_
          unfold fitB
          rw [e1, e2, e3, e4]
          simp
          omega
        · have e4 : (xt == o.tag) = false := by simp [hc]
          try simp (config := { maxSteps := 2000000 }) only [go_sem, reduceCtorEq, Nat.reduceAdd, Nat.reduceEqDiff, reduceIte, Nat.reduceLeDiff, Nat.reduceLT, Nat.reduceSub, e1, e2, e3, e4, Bool.not_true, Bool.not_false, Nat.min_self]
          all_goals (repeat (with_reducible refine sAnd ?_))
          refine h _ ?_
          unfold fitB
          rw [e1, e2, e3, e4]
          rfl
  · have e1 : (k == 14) = false := by simp [hk]
    try simp (config := { maxSteps := 2000000 }) only [go_sem, reduceCtorEq, Nat.reduceAdd, Nat.reduceEqDiff, reduceIte, Nat.reduceLeDiff, Nat.reduceLT, Nat.reduceSub, e1, Bool.not_true, Bool.not_false, Nat.min_self]
    all_goals (repeat (with_reducible refine sAnd ?_))
    refine h _ ?_
    unfold fitB
    rw [e1]
    rfl

end Go.Hx
end

section
-- DOM getO, listV, intsR_len, ptsV_len, stsV_len, tssV_len, List.getD_nil, List.take_nil, List.headD_nil, List.headD_cons, List.getD_cons_zero, List.length_cons, List.length_nil, i_ez0, i_ez1, i_ez2, i_toNat0, i_toNat1, bif_ff, List.drop_zero, List.take_succ_cons, List.take_zero, List.map_nil, List.map_cons, List.length_drop, List.length_take, List.take_length
set_option maxRecDepth 100000
set_option linter.unusedSimpArgs false
set_option maxHeartbeats 40000000
namespace Go.Hx
open Go.Proofs
variable [Glob]

attribute [local go_sem] ndsV_len clsV_len attV_len intsR_len ndV cellsEq getO listV ptsV_len stsV_len tssV_len List.getD_nil List.take_nil List.headD_nil List.headD_cons List.getD_cons_zero List.length_cons List.length_nil i_ez0 i_ez1 i_ez2 i_toNat0 i_toNat1 bif_ff List.drop_zero List.take_succ_cons List.take_zero List.map_nil List.map_cons List.length_drop List.length_take List.take_length
theorem c_step_of {N : Nat} (ih : GoodO Tryd.prog N) (s : St) (hs : SizeOf.sizeOf s ≤ N) (hsh : shS s = true) : Contract Tryd.prog fn_plain_step [.val (.agg (stV s))] { res := .val (.agg (stV (onS s))) } := by
  obtain ⟨hlen, hshl⟩ := sh_tests hsh
  rw [stV_eq]
  refine mk_plain_step (base := 0) ⟨Nat.le_of_ble_eq_true rfl, Nat.le_of_ble_eq_true rfl, Nat.le_of_ble_eq_true rfl, rfl⟩ (fun hfit => ?_)
  unfold F0 plain_step_E
  simp (config := { maxSteps := 2000000 }) only [markU, List.set_cons_succ, List.set_cons_zero, List.map_cons, List.map_nil, argCt, setCells, ioOf, List.length_cons, List.length_nil, Nat.reduceAdd, Nat.reduceSub, List.replicate, List.cons_append, List.nil_append]
  try simp (config := { maxSteps := 2000000 }) only [go_sem, reduceCtorEq, Nat.reduceAdd, Nat.reduceEqDiff, reduceIte, Nat.reduceLeDiff, Nat.reduceLT, Nat.reduceSub]
  all_goals (repeat (with_reducible refine sAnd ?_))
  refine loop_sets (fun x : Nat × St => [(13, .pv (iv x.1)), (138, .pv (.one (bS x.2.tag))), (139, .own ty_api_Test 6 (tssV x.2.tests)), (4, .un), (5, .un), (6, .un), (14, .un), (24, .un), (27, .un), (64, .un), (110, .un), (140, .un), (141, .un), (142, .un), (143, .un), (144, .un), (145, .un)]) (fun x : Nat × St => s.tests.length - x.1) (fun x : Nat × St => x.1 ≤ s.tests.length ∧ flatT x.2 (onTs (s.tests.drop x.1)) = flatT (.mk s.tag []) (onTs s.tests) ∧ x.2.tests.length + (s.tests.length - x.1) ≤ 6) ((0, .mk s.tag [])) ?_ ⟨Nat.zero_le _, rfl, by simpa [St.tests_mk] using hlen⟩ ?_
  focus (simp (config := { maxSteps := 2000000 }) only [go_sem, reduceCtorEq, Nat.reduceAdd, Nat.reduceEqDiff, reduceIte, Nat.reduceLeDiff, Nat.reduceLT, Nat.reduceSub, le_cons, le_nil, le_un, le_same]; all_goals (repeat' (first | exact trivial | exact le_int (by omega) | exact le_bool rfl | exact le_eq rfl | exact le_nlo | exact le_refl _ | refine And.intro ?_ ?_)))
  rintro ⟨i, o⟩ ⟨hi, hinv, hol⟩
  simp only at hi hinv hol
  try simp (config := { maxSteps := 2000000 }) only [go_sem, reduceCtorEq, Nat.reduceAdd, Nat.reduceEqDiff, reduceIte, Nat.reduceLeDiff, Nat.reduceLT, Nat.reduceSub]
  all_goals (repeat (with_reducible refine sAnd ?_))
  refine cond_of (by rfl) trivial (fun h2 => ?_) (fun h2 => ?_)
  · have hil : i < s.tests.length := by simp at h2; omega
    obtain ⟨t, ht⟩ : ∃ t, t = s.tests.getD i default := ⟨_, rfl⟩
    have e1 := tssV_get s.tests i hil
    rw [← ht, tsV_eq] at e1
    have hst := hshl i hil
    rw [← ht] at hst
    have hsz : SizeOf.sizeOf t.list ≤ N := by
      have h3 := lt_ts hil
      have h4 := lt_tests s
      have h5 := lt_list t
      rw [← ht] at h3
      omega
    have hon := ih t.list hsz hst
    have hshL := sh_onL _ hst
    obtain ⟨L, hL⟩ : ∃ L, L = onL t.list := ⟨_, rfl⟩
    rw [← hL] at hon hshL
    rw [drop_get (d := default) hil, ← ht, onTs, flatT_cons, onTs_len, List.length_drop, onT_eq, ← hL] at hinv
    have hrest : s.tests.length - (i + 1) + 1 = s.tests.length - i := by omega
    have hin := c_inner (.mk t.kind t.name t.value t.na t.nb L)
    simp only [tsV, Ts.list_mk, innerV] at hin
    try simp (config := { maxSteps := 2000000 }) only [go_sem, reduceCtorEq, Nat.reduceAdd, Nat.reduceEqDiff, reduceIte, Nat.reduceLeDiff, Nat.reduceLT, Nat.reduceSub, e1]
    all_goals (repeat (with_reducible refine sAnd ?_))
    refine call_own (by repeat' constructor) (hon) ?_
    try simp (config := { maxSteps := 2000000 }) only [go_sem, reduceCtorEq, Nat.reduceAdd, Nat.reduceEqDiff, reduceIte, Nat.reduceLeDiff, Nat.reduceLT, Nat.reduceSub]
    all_goals (repeat (with_reducible refine sAnd ?_))
    rcases hsg : single L with _ | x
    · have hf : flat1 o (.mk t.kind t.name t.value t.na t.nb L) (s.tests.length - (i + 1)) = .mk o.tag (o.tests ++ [.mk t.kind t.name t.value t.na t.nb L]) := flat1_one hsg
      rw [hsg] at hin
      simp only at hin
      refine call_val (by repeat' constructor) (hin) ?_
      try simp (config := { maxSteps := 2000000 }) only [go_sem, reduceCtorEq, Nat.reduceAdd, Nat.reduceEqDiff, reduceIte, Nat.reduceLeDiff, Nat.reduceLT, Nat.reduceSub]
      all_goals (repeat (with_reducible refine sAnd ?_))
      refine cond_t (by rfl) trivial ?_
      try simp (config := { maxSteps := 2000000 }) only [go_sem, reduceCtorEq, Nat.reduceAdd, Nat.reduceEqDiff, reduceIte, Nat.reduceLeDiff, Nat.reduceLT, Nat.reduceSub]
      all_goals (repeat (with_reducible refine sAnd ?_))
      refine ⟨(i + 1, .mk o.tag (o.tests ++ [.mk t.kind t.name t.value t.na t.nb L])), by simp only; omega, ⟨by simp only; omega, by simp only; rw [← hf]; exact hinv, by simp only [St.tests_mk, List.length_append, List.length_cons, List.length_nil]; omega⟩, ?_⟩
      simp (config := { maxSteps := 2000000 }) only [go_sem, reduceCtorEq, Nat.reduceAdd, Nat.reduceEqDiff, reduceIte, Nat.reduceLeDiff, Nat.reduceLT, Nat.reduceSub, le_cons, le_nil, le_un, le_same]
      all_goals (repeat' (first | exact trivial | exact le_int (by omega) | exact le_bool rfl | exact le_eq rfl | exact le_nlo | exact le_refl _ | refine And.intro ?_ ?_))
      all_goals (first | exact le_eq (by simp only [St.tag_mk]) | (refine le_own ?_; simp only [St.tests_mk, tssV_app, tssV, tsV]))
    · rw [hsg] at hin
      simp only [stV_eq] at hin
      have hxl := sh_single hshL hsg
      refine call_val (by repeat' constructor) (hin) ?_
      try simp (config := { maxSteps := 2000000 }) only [go_sem, reduceCtorEq, Nat.reduceAdd, Nat.reduceEqDiff, reduceIte, Nat.reduceLeDiff, Nat.reduceLT, Nat.reduceSub]
      all_goals (repeat (with_reducible refine sAnd ?_))
      refine cond_f (by rfl) trivial ?_
      refine st_r8 s o x i _ _ _ _ _ _ _ _ (fun b8 hb8 => ?_)
      try simp (config := { maxSteps := 2000000 }) only [go_sem, reduceCtorEq, Nat.reduceAdd, Nat.reduceEqDiff, reduceIte, Nat.reduceLeDiff, Nat.reduceLT, Nat.reduceSub]
      refine cond_of (by rfl) trivial (fun h8 => ?_) (fun h8 => ?_)
      · rw [hb8] at h8
        obtain ⟨u, hnn, hts⟩ := nnB_some (t := .mk t.kind t.name t.value t.na t.nb L) h8
        have hf : flat1 o (.mk t.kind t.name t.value t.na t.nb L) (s.tests.length - (i + 1)) = .mk o.tag (o.tests ++ [.mk 14 [] [] 0 0 u.list]) := flat1_nn (t := .mk t.kind t.name t.value t.na t.nb L) hsg hnn
        rw [hts]
        simp only [tssV, tsV_eq u]
        try simp (config := { maxSteps := 2000000 }) only [go_sem, reduceCtorEq, Nat.reduceAdd, Nat.reduceEqDiff, reduceIte, Nat.reduceLeDiff, Nat.reduceLT, Nat.reduceSub]
        all_goals (repeat (with_reducible refine sAnd ?_))
        refine ⟨(i + 1, .mk o.tag (o.tests ++ [.mk 14 [] [] 0 0 u.list])), by simp only; omega, ⟨by simp only; omega, by simp only; rw [← hf]; exact hinv, by simp only [St.tests_mk, List.length_append, List.length_cons, List.length_nil]; omega⟩, ?_⟩
        simp (config := { maxSteps := 2000000 }) only [go_sem, reduceCtorEq, Nat.reduceAdd, Nat.reduceEqDiff, reduceIte, Nat.reduceLeDiff, Nat.reduceLT, Nat.reduceSub, le_cons, le_nil, le_un, le_same]
        all_goals (repeat' (first | exact trivial | exact le_int (by omega) | exact le_bool rfl | exact le_eq rfl | exact le_nlo | exact le_refl _ | refine And.intro ?_ ?_))
        all_goals (first | exact le_eq (by simp only [St.tag_mk]) | (refine le_own ?_; simp only [St.tests_mk, tssV_app, tssV, tsV] ; done) | (refine le_own ?_; simp only [St.tests_mk, tssV_app, tssV, tsV_eq]))
      · rw [hb8] at h8
        have hnn : notNot (.mk t.kind t.name t.value t.na t.nb L) x = none := nnB_none (t := .mk t.kind t.name t.value t.na t.nb L) h8
        refine st_r10 s o i hil hlen (by omega) _ _ _ _ _ _ _ _ (by rw [tssV_len]; exact hxl) _ _ _ (fun b10 hb10 => ?_)
        try simp (config := { maxSteps := 2000000 }) only [go_sem, reduceCtorEq, Nat.reduceAdd, Nat.reduceEqDiff, reduceIte, Nat.reduceLeDiff, Nat.reduceLT, Nat.reduceSub]
        refine cond_of (by rfl) trivial (fun h10 => ?_) (fun h10 => ?_)
        · have hc : t.kind = 14 ∧ (x.tag = [] ∨ o.tag = [] ∨ x.tag = o.tag) ∧ o.tests.length + x.tests.length + (s.tests.length - (i + 1)) ≤ 6 := by
            rw [hb10] at h10
            simp only [fitB, tssV_len] at h10
            simp at h10 ⊢
            grind
          by_cases hot : o.tag = []
          · have hf : flat1 o (.mk t.kind t.name t.value t.na t.nb L) (s.tests.length - (i + 1)) = .mk x.tag (o.tests ++ x.tests) := by
              rw [flat1_fit (t := .mk t.kind t.name t.value t.na t.nb L) hsg hnn hc, if_pos hot]
            try simp (config := { maxSteps := 2000000 }) only [go_sem, reduceCtorEq, Nat.reduceAdd, Nat.reduceEqDiff, reduceIte, Nat.reduceLeDiff, Nat.reduceLT, Nat.reduceSub]
            all_goals (repeat (with_reducible refine sAnd ?_))
            refine cond_t (by simp only [hot]; rfl) trivial ?_
            try simp (config := { maxSteps := 2000000 }) only [go_sem, reduceCtorEq, Nat.reduceAdd, Nat.reduceEqDiff, reduceIte, Nat.reduceLeDiff, Nat.reduceLT, Nat.reduceSub]
            all_goals (repeat (with_reducible refine sAnd ?_))
            refine ⟨(i + 1, .mk x.tag (o.tests ++ x.tests)), by simp only; omega, ⟨by simp only; omega, by simp only; rw [← hf]; exact hinv, by simp only [St.tests_mk, List.length_append, List.length_cons, List.length_nil]; omega⟩, ?_⟩
            simp (config := { maxSteps := 2000000 }) only [go_sem, reduceCtorEq, Nat.reduceAdd, Nat.reduceEqDiff, reduceIte, Nat.reduceLeDiff, Nat.reduceLT, Nat.reduceSub, le_cons, le_nil, le_un, le_same]
            all_goals (repeat' (first | exact trivial | exact le_int (by omega) | exact le_bool rfl | exact le_eq rfl | exact le_nlo | exact le_refl _ | refine And.intro ?_ ?_))
            all_goals (first | exact le_eq (by simp only [St.tag_mk]) | (refine le_own ?_; simp only [St.tests_mk, tssV_app, tssV, tsV] ; done) | (refine le_own ?_; simp only [St.tests_mk, tssV_app, tssV, tsV_eq]))
          · have hf : flat1 o (.mk t.kind t.name t.value t.na t.nb L) (s.tests.length - (i + 1)) = .mk o.tag (o.tests ++ x.tests) := by
              rw [flat1_fit (t := .mk t.kind t.name t.value t.na t.nb L) hsg hnn hc, if_neg hot]
            try simp (config := { maxSteps := 2000000 }) only [go_sem, reduceCtorEq, Nat.reduceAdd, Nat.reduceEqDiff, reduceIte, Nat.reduceLeDiff, Nat.reduceLT, Nat.reduceSub]
            all_goals (repeat (with_reducible refine sAnd ?_))
            refine cond_of (by rfl) trivial (fun h11 => ?_) (fun h11 => ?_)
            · exact (hot (by simpa using h11)).elim
            try simp (config := { maxSteps := 2000000 }) only [go_sem, reduceCtorEq, Nat.reduceAdd, Nat.reduceEqDiff, reduceIte, Nat.reduceLeDiff, Nat.reduceLT, Nat.reduceSub]
            all_goals (repeat (with_reducible refine sAnd ?_))
            refine ⟨(i + 1, .mk o.tag (o.tests ++ x.tests)), by simp only; omega, ⟨by simp only; omega, by simp only; rw [← hf]; exact hinv, by simp only [St.tests_mk, List.length_append, List.length_cons, List.length_nil]; omega⟩, ?_⟩
            simp (config := { maxSteps := 2000000 }) only [go_sem, reduceCtorEq, Nat.reduceAdd, Nat.reduceEqDiff, reduceIte, Nat.reduceLeDiff, Nat.reduceLT, Nat.reduceSub, le_cons, le_nil, le_un, le_same]
            all_goals (repeat' (first | exact trivial | exact le_int (by omega) | exact le_bool rfl | exact le_eq rfl | exact le_nlo | exact le_refl _ | refine And.intro ?_ ?_))
            all_goals (first | exact le_eq (by simp only [St.tag_mk]) | (refine le_own ?_; simp only [St.tests_mk, tssV_app, tssV, tsV] ; done) | (refine le_own ?_; simp only [St.tests_mk, tssV_app, tssV, tsV_eq]))
        · have hc : ¬ (t.kind = 14 ∧ (x.tag = [] ∨ o.tag = [] ∨ x.tag = o.tag) ∧ o.tests.length + x.tests.length + (s.tests.length - (i + 1)) ≤ 6) := by
            rw [hb10] at h10
            simp only [fitB, tssV_len] at h10
            simp at h10 ⊢
            grind
          have hf : flat1 o (.mk t.kind t.name t.value t.na t.nb L) (s.tests.length - (i + 1)) = .mk o.tag (o.tests ++ [.mk t.kind t.name t.value t.na t.nb L]) := flat1_not (t := .mk t.kind t.name t.value t.na t.nb L) hsg hnn hc
          try simp (config := { maxSteps := 2000000 }) only [go_sem, reduceCtorEq, Nat.reduceAdd, Nat.reduceEqDiff, reduceIte, Nat.reduceLeDiff, Nat.reduceLT, Nat.reduceSub]
          all_goals (repeat (with_reducible refine sAnd ?_))
          refine ⟨(i + 1, .mk o.tag (o.tests ++ [.mk t.kind t.name t.value t.na t.nb L])), by simp only; omega, ⟨by simp only; omega, by simp only; rw [← hf]; exact hinv, by simp only [St.tests_mk, List.length_append, List.length_cons, List.length_nil]; omega⟩, ?_⟩
          simp (config := { maxSteps := 2000000 }) only [go_sem, reduceCtorEq, Nat.reduceAdd, Nat.reduceEqDiff, reduceIte, Nat.reduceLeDiff, Nat.reduceLT, Nat.reduceSub, le_cons, le_nil, le_un, le_same]
          all_goals (repeat' (first | exact trivial | exact le_int (by omega) | exact le_bool rfl | exact le_eq rfl | exact le_nlo | exact le_refl _ | refine And.intro ?_ ?_))
          all_goals (first | exact le_eq (by simp only [St.tag_mk]) | (refine le_own ?_; simp only [St.tests_mk, tssV_app, tssV, tsV] ; done) | (refine le_own ?_; simp only [St.tests_mk, tssV_app, tssV, tsV_eq]))
  · have hil : i = s.tests.length := by simp at h2; omega
    rw [hil, List.drop_length] at hinv
    have hR : o = flatT (.mk s.tag []) (onTs s.tests) := hinv
    try simp (config := { maxSteps := 2000000 }) only [go_sem, reduceCtorEq, Nat.reduceAdd, Nat.reduceEqDiff, reduceIte, Nat.reduceLeDiff, Nat.reduceLT, Nat.reduceSub]
    all_goals (repeat (with_reducible refine sAnd ?_))
    refine call_own (by repeat' constructor) (c_firsts_Test fn_plain_sameTests o.tests (by omega) c_sameTests) ?_
    try simp (config := { maxSteps := 2000000 }) only [go_sem, reduceCtorEq, Nat.reduceAdd, Nat.reduceEqDiff, reduceIte, Nat.reduceLeDiff, Nat.reduceLT, Nat.reduceSub]
    all_goals (repeat (with_reducible refine sAnd ?_))
    refine fin_cellB rfl rfl ?_
    rw [onS_eq, onceS]
    simp only [St.tag_mk, St.tests_mk]
    rw [← hR]
    rfl
end Go.Hx
end

section
-- DOM getO, listV, intsR_len, ptsV_len, stsV_len, tssV_len, List.length_drop, List.length_take, List.take_length, List.length_nil
set_option maxRecDepth 100000
set_option linter.unusedSimpArgs false
set_option maxHeartbeats 4000000
namespace Go.Hx
open Go.Proofs
variable [Glob]

attribute [local go_sem] ndsV_len clsV_len attV_len intsR_len ndV cellsEq getO listV ptsV_len stsV_len tssV_len List.length_drop List.length_take List.take_length List.length_nil
theorem take_succ_pp {α : Type} {l : List α} {i : Nat} (d : α) (h : i < l.length) : l.take (i + 1) = l.take i ++ [l.getD i d] := by
  rw [List.take_succ_eq_append_getElem h]; simp [h]

theorem sz_pt_lt {l : List Pt} {i : Nat} (hi : i < l.length) {N : Nat} (h : SizeOf.sizeOf l ≤ N + 1) : SizeOf.sizeOf (l.getD i default).steps ≤ N := by
  have h1 := lt_pt hi
  have h2 := lt_steps (l.getD i default)
  omega
theorem good_once : ∀ N, GoodO Tryd.prog N
  | 0 => fun l h _ => by have := sz_pos_pt l; omega
  | N + 1 => fun l hN hsh => by
    have ih := good_once N
    obtain ⟨hlen, hshl⟩ := sh_paths hsh
    refine mk_plain_once (base := 0) ⟨Nat.le_of_ble_eq_true rfl, Nat.le_of_ble_eq_true rfl, Nat.le_of_ble_eq_true rfl, rfl⟩ (fun hfit => ?_)
    unfold F0 plain_once_E
    simp (config := { maxSteps := 2000000 }) only [markU, List.set_cons_succ, List.set_cons_zero, List.map_cons, List.map_nil, argCt, setCells, ioOf, List.length_cons, List.length_nil, Nat.reduceAdd, Nat.reduceSub, List.replicate, List.cons_append, List.nil_append]
    try simp (config := { maxSteps := 2000000 }) only [go_sem, reduceCtorEq, Nat.reduceAdd, Nat.reduceEqDiff, reduceIte, Nat.reduceLeDiff, Nat.reduceLT, Nat.reduceSub]
    all_goals (repeat (with_reducible refine sAnd ?_))
    refine loop_sets (fun i : Nat => [(11, .pv (iv i)), (3, .own ty_api_Path 2 (ptsV (onPs (l.take i)))), (5, .un), (6, .un), (8, .un), (12, .un), (20, .un), (21, .un), (22, .un), (23, .un), (41, .un), (42, .un), (43, .un), (44, .un), (45, .un), (46, .un)]) (fun i : Nat => l.length - i) (fun i : Nat => i ≤ l.length) (0) ?_ (Nat.zero_le _) ?_
    focus (simp (config := { maxSteps := 2000000 }) only [go_sem, reduceCtorEq, Nat.reduceAdd, Nat.reduceEqDiff, reduceIte, Nat.reduceLeDiff, Nat.reduceLT, Nat.reduceSub, le_cons, le_nil, le_un, le_same]; all_goals (repeat' (first | exact trivial | exact le_int (by omega) | exact le_bool rfl | exact le_eq rfl | exact le_nlo | exact le_refl _ | refine And.intro ?_ ?_)))
    rintro i hi
    try simp (config := { maxSteps := 2000000 }) only [go_sem, reduceCtorEq, Nat.reduceAdd, Nat.reduceEqDiff, reduceIte, Nat.reduceLeDiff, Nat.reduceLT, Nat.reduceSub]
    all_goals (repeat (with_reducible refine sAnd ?_))
    refine cond_of (by rfl) trivial (fun h2 => ?_) (fun h2 => ?_)
    · have hil : i < l.length := by simp at h2; omega
      obtain ⟨p, hp⟩ : ∃ p, p = l.getD i default := ⟨_, rfl⟩
      have e1 := ptsV_get l i hil
      rw [← hp, ptV_eq] at e1
      have hpl := sz_pt_lt hil hN
      have hps := hshl i hil
      rw [← hp] at hpl hps
      obtain ⟨hs1, hs2, hs3⟩ := sh_steps hps
      have hon : (onPs (l.take i)).length = i := by simp [onPs_map]; omega
      try simp (config := { maxSteps := 2000000 }) only [go_sem, reduceCtorEq, Nat.reduceAdd, Nat.reduceEqDiff, reduceIte, Nat.reduceLeDiff, Nat.reduceLT, Nat.reduceSub, e1]
      all_goals (repeat (with_reducible refine sAnd ?_))
      refine call_own (by repeat' constructor) (c_Clone_int p.links (by omega)) ?_
      try simp (config := { maxSteps := 2000000 }) only [go_sem, reduceCtorEq, Nat.reduceAdd, Nat.reduceEqDiff, reduceIte, Nat.reduceLeDiff, Nat.reduceLT, Nat.reduceSub]
      all_goals (repeat (with_reducible refine sAnd ?_))
      refine loop_sets (fun j : Nat => [(22, .pv (iv j)), (43, .own ty_api_Step 2 (stsV (onSs (p.steps.take j)))), (8, .un), (23, .un), (45, .un), (46, .un)]) (fun j : Nat => p.steps.length - j) (fun j : Nat => j ≤ p.steps.length) (0) ?_ (Nat.zero_le _) ?_
      focus (simp (config := { maxSteps := 2000000 }) only [go_sem, reduceCtorEq, Nat.reduceAdd, Nat.reduceEqDiff, reduceIte, Nat.reduceLeDiff, Nat.reduceLT, Nat.reduceSub, le_cons, le_nil, le_un, le_same]; all_goals (repeat' (first | exact trivial | exact le_int (by omega) | exact le_bool rfl | exact le_eq rfl | exact le_nlo | exact le_refl _ | refine And.intro ?_ ?_)))
      rintro j hj
      try simp (config := { maxSteps := 2000000 }) only [go_sem, reduceCtorEq, Nat.reduceAdd, Nat.reduceEqDiff, reduceIte, Nat.reduceLeDiff, Nat.reduceLT, Nat.reduceSub]
      all_goals (repeat (with_reducible refine sAnd ?_))
      refine cond_of (by rfl) trivial (fun h4 => ?_) (fun h4 => ?_)
      · have hjl : j < p.steps.length := by simp at h4; omega
        obtain ⟨q, hq⟩ : ∃ q, q = p.steps.getD j default := ⟨_, rfl⟩
        have e2 := stsV_get p.steps j hjl
        rw [← hq, stV_eq] at e2
        have hsj := hs3 j hjl
        have hszq := lt_st hjl
        rw [← hq] at hsj hszq
        have hon2 : (onSs (p.steps.take j)).length = j := by simp [onSs_map]; omega
        have hst := c_step_of ih q (by omega) hsj
        rw [stV_eq, stV_eq] at hst
        try simp (config := { maxSteps := 2000000 }) only [go_sem, reduceCtorEq, Nat.reduceAdd, Nat.reduceEqDiff, reduceIte, Nat.reduceLeDiff, Nat.reduceLT, Nat.reduceSub, e2]
        all_goals (repeat (with_reducible refine sAnd ?_))
        refine call_val (by repeat' constructor) (hst) ?_
        try simp (config := { maxSteps := 2000000 }) only [go_sem, reduceCtorEq, Nat.reduceAdd, Nat.reduceEqDiff, reduceIte, Nat.reduceLeDiff, Nat.reduceLT, Nat.reduceSub]
        all_goals (repeat (with_reducible refine sAnd ?_))
        try simp (config := { maxSteps := 2000000 }) only [go_sem, reduceCtorEq, Nat.reduceAdd, Nat.reduceEqDiff, reduceIte, Nat.reduceLeDiff, Nat.reduceLT, Nat.reduceSub]
        all_goals (repeat (with_reducible refine sAnd ?_))
        refine ⟨j + 1, by omega, by omega, ?_⟩
        simp (config := { maxSteps := 2000000 }) only [go_sem, reduceCtorEq, Nat.reduceAdd, Nat.reduceEqDiff, reduceIte, Nat.reduceLeDiff, Nat.reduceLT, Nat.reduceSub, le_cons, le_nil, le_un, le_same]
        all_goals (repeat' (first | exact trivial | exact le_int (by omega) | exact le_bool rfl | exact le_eq rfl | exact le_nlo | exact le_refl _ | refine And.intro ?_ ?_))
        refine le_own ?_
        rw [take_succ_pp default hjl, ← hq]
        simp only [onSs_map, List.map_append, stsV_app, List.map_cons, List.map_nil, stsV, stV_eq]
      · have hjl : j = p.steps.length := by simp at h4; omega
        subst hjl
        rw [List.take_length]
        try simp (config := { maxSteps := 2000000 }) only [go_sem, reduceCtorEq, Nat.reduceAdd, Nat.reduceEqDiff, reduceIte, Nat.reduceLeDiff, Nat.reduceLT, Nat.reduceSub]
        all_goals (repeat (with_reducible refine sAnd ?_))
        refine ⟨i + 1, by omega, by omega, ?_⟩
        simp (config := { maxSteps := 2000000 }) only [go_sem, reduceCtorEq, Nat.reduceAdd, Nat.reduceEqDiff, reduceIte, Nat.reduceLeDiff, Nat.reduceLT, Nat.reduceSub, le_cons, le_nil, le_un, le_same]
        all_goals (repeat' (first | exact trivial | exact le_int (by omega) | exact le_bool rfl | exact le_eq rfl | exact le_nlo | exact le_refl _ | refine And.intro ?_ ?_))
        refine le_own ?_
        rw [take_succ_pp default hil, ← hp]
        simp only [onPs_map, List.map_append, ptsV_app, List.map_cons, List.map_nil, ptsV, ptV_eq, onP_eq]
        rfl
    · have hil : i = l.length := by simp at h2; omega
      subst hil
      rw [List.take_length]
      try simp (config := { maxSteps := 2000000 }) only [go_sem, reduceCtorEq, Nat.reduceAdd, Nat.reduceEqDiff, reduceIte, Nat.reduceLeDiff, Nat.reduceLT, Nat.reduceSub]
      all_goals (repeat (with_reducible refine sAnd ?_))
      refine call_own (by repeat' constructor) (c_firsts_Path fn_plain_samePaths (onPs l) (by simp [onPs_map]; omega) c_samePaths) ?_
      try simp (config := { maxSteps := 2000000 }) only [go_sem, reduceCtorEq, Nat.reduceAdd, Nat.reduceEqDiff, reduceIte, Nat.reduceLeDiff, Nat.reduceLT, Nat.reduceSub]
      all_goals (repeat (with_reducible refine sAnd ?_))
      exact fin_own rfl
theorem c_plain_once (l : List Pt) (h : shL l = true) : Contract Tryd.prog fn_plain_once [.val (.one (.sl 2 (ptsV l)))] { res := .own ty_api_Path 2 (ptsV (onL l)) } := good_once _ l (Nat.le_refl _) h

theorem c_plain_Once (l : List Pt) : Contract Tryd.prog fn_plain_Once [.val (.one (.sl 2 (ptsV l)))] { res := .tup [.one (.sl 2 (ptsV (if checkL l = 0 then onL l else []))), iv (checkL l)] } := by
  have hc := c_path_Check l
  unfold listV at hc
  refine mk_plain_Once (base := 0) ⟨Nat.le_of_ble_eq_true rfl, Nat.le_of_ble_eq_true rfl, Nat.le_of_ble_eq_true rfl, rfl⟩ (fun hfit => ?_)
  unfold F0 plain_Once_E
  simp (config := { maxSteps := 2000000 }) only [markU, List.set_cons_succ, List.set_cons_zero, List.map_cons, List.map_nil, argCt, setCells, ioOf, List.length_cons, List.length_nil, Nat.reduceAdd, Nat.reduceSub, List.replicate, List.cons_append, List.nil_append]
  try simp (config := { maxSteps := 2000000 }) only [go_sem, reduceCtorEq, Nat.reduceAdd, Nat.reduceEqDiff, reduceIte, Nat.reduceLeDiff, Nat.reduceLT, Nat.reduceSub]
  all_goals (repeat (with_reducible refine sAnd ?_))
  refine call_val (by repeat' constructor) (hc) ?_
  try simp (config := { maxSteps := 2000000 }) only [go_sem, reduceCtorEq, Nat.reduceAdd, Nat.reduceEqDiff, reduceIte, Nat.reduceLeDiff, Nat.reduceLT, Nat.reduceSub]
  all_goals (repeat (with_reducible refine sAnd ?_))
  refine cond_of (by rfl) trivial (fun h => ?_) (fun h => ?_)
  · have h2 : ¬ checkL l = 0 := by simpa using h
    rw [if_neg h2]
    try simp (config := { maxSteps := 2000000 }) only [go_sem, reduceCtorEq, Nat.reduceAdd, Nat.reduceEqDiff, reduceIte, Nat.reduceLeDiff, Nat.reduceLT, Nat.reduceSub]
    all_goals (repeat (with_reducible refine sAnd ?_))
    exact fin_tup (by simp) ⟨rs_tmp rfl trivial (.inr rfl), rs_tmp rfl trivial (.inl rfl), rfl⟩
  · have h2 : checkL l = 0 := by simpa using h
    rw [if_pos h2]
    try simp (config := { maxSteps := 2000000 }) only [go_sem, reduceCtorEq, Nat.reduceAdd, Nat.reduceEqDiff, reduceIte, Nat.reduceLeDiff, Nat.reduceLT, Nat.reduceSub]
    all_goals (repeat (with_reducible refine sAnd ?_))
    refine call_own (by repeat' constructor) (c_plain_once l (sh_of l h2)) ?_
    try simp (config := { maxSteps := 2000000 }) only [go_sem, reduceCtorEq, Nat.reduceAdd, Nat.reduceEqDiff, reduceIte, Nat.reduceLeDiff, Nat.reduceLT, Nat.reduceSub]
    all_goals (repeat (with_reducible refine sAnd ?_))
    rw [h2]
    exact fin_tup (by simp) ⟨rs_tmp rfl trivial (.inl rfl), rs_tmp rfl trivial (.inl rfl), rfl⟩

theorem c_plain_Plain (l : List Pt) : Contract Tryd.prog fn_plain_Plain [.val (.one (.sl 2 (ptsV l)))] { res := .tup [.one (.sl 2 (ptsV (if checkL l = 0 then plL l else []))), iv (checkL l)] } := by
  have hc := c_path_Check l
  unfold listV at hc
  refine mk_plain_Plain (base := 0) ⟨Nat.le_of_ble_eq_true rfl, Nat.le_of_ble_eq_true rfl, Nat.le_of_ble_eq_true rfl, rfl⟩ (fun hfit => ?_)
  unfold F0 plain_Plain_E
  simp (config := { maxSteps := 2000000 }) only [markU, List.set_cons_succ, List.set_cons_zero, List.map_cons, List.map_nil, argCt, setCells, ioOf, List.length_cons, List.length_nil, Nat.reduceAdd, Nat.reduceSub, List.replicate, List.cons_append, List.nil_append]
  try simp (config := { maxSteps := 2000000 }) only [go_sem, reduceCtorEq, Nat.reduceAdd, Nat.reduceEqDiff, reduceIte, Nat.reduceLeDiff, Nat.reduceLT, Nat.reduceSub]
  all_goals (repeat (with_reducible refine sAnd ?_))
  refine call_val (by repeat' constructor) (hc) ?_
  try simp (config := { maxSteps := 2000000 }) only [go_sem, reduceCtorEq, Nat.reduceAdd, Nat.reduceEqDiff, reduceIte, Nat.reduceLeDiff, Nat.reduceLT, Nat.reduceSub]
  all_goals (repeat (with_reducible refine sAnd ?_))
  refine cond_of (by rfl) trivial (fun h => ?_) (fun h => ?_)
  · have h2 : ¬ checkL l = 0 := by simpa using h
    rw [if_neg h2]
    try simp (config := { maxSteps := 2000000 }) only [go_sem, reduceCtorEq, Nat.reduceAdd, Nat.reduceEqDiff, reduceIte, Nat.reduceLeDiff, Nat.reduceLT, Nat.reduceSub]
    all_goals (repeat (with_reducible refine sAnd ?_))
    exact fin_tup (by simp) ⟨rs_tmp rfl trivial (.inr rfl), rs_tmp rfl trivial (.inl rfl), rfl⟩
  have h2 : checkL l = 0 := by simpa using h
  rw [if_pos h2, h2]
  try simp (config := { maxSteps := 2000000 }) only [go_sem, reduceCtorEq, Nat.reduceAdd, Nat.reduceEqDiff, reduceIte, Nat.reduceLeDiff, Nat.reduceLT, Nat.reduceSub]
  all_goals (repeat (with_reducible refine sAnd ?_))
  refine loop_sets (fun m : List Pt => [(0, .pv (.one (.sl 2 (ptsV m)))), (2, .un), (3, .un), (5, .un), (15, .un)]) (fun m : List Pt => msPs m) (fun m : List Pt => shL m = true ∧ plL m = plL l) (l) ?_ ⟨sh_of l h2, rfl⟩ ?_
  focus (simp (config := { maxSteps := 2000000 }) only [go_sem, reduceCtorEq, Nat.reduceAdd, Nat.reduceEqDiff, reduceIte, Nat.reduceLeDiff, Nat.reduceLT, Nat.reduceSub, le_cons, le_nil, le_un, le_same]; all_goals (repeat' (first | exact trivial | exact le_int (by omega) | exact le_bool rfl | exact le_eq rfl | exact le_nlo | exact le_refl _ | refine And.intro ?_ ?_)))
  rintro m ⟨hsh, hpl⟩
  try simp (config := { maxSteps := 2000000 }) only [go_sem, reduceCtorEq, Nat.reduceAdd, Nat.reduceEqDiff, reduceIte, Nat.reduceLeDiff, Nat.reduceLT, Nat.reduceSub]
  all_goals (repeat (with_reducible refine sAnd ?_))
  refine call_own (by repeat' constructor) (c_plain_once m hsh) ?_
  try simp (config := { maxSteps := 2000000 }) only [go_sem, reduceCtorEq, Nat.reduceAdd, Nat.reduceEqDiff, reduceIte, Nat.reduceLeDiff, Nat.reduceLT, Nat.reduceSub]
  all_goals (repeat (with_reducible refine sAnd ?_))
  have hc := c_EqF_Path fn_plain_samePaths m (onL m) (fun i hi hj => by
    have := c_samePaths (m.getD i default) ((onL m).getD i default)
    rwa [ptV_eq, ptV_eq] at this)
  refine call_val (by repeat' constructor) (hc) ?_
  try simp (config := { maxSteps := 2000000 }) only [go_sem, reduceCtorEq, Nat.reduceAdd, Nat.reduceEqDiff, reduceIte, Nat.reduceLeDiff, Nat.reduceLT, Nat.reduceSub]
  all_goals (repeat (with_reducible refine sAnd ?_))
  refine cond_of (by rfl) trivial (fun h4 => ?_) (fun h4 => ?_)
  · try simp (config := { maxSteps := 2000000 }) only [go_sem, reduceCtorEq, Nat.reduceAdd, Nat.reduceEqDiff, reduceIte, Nat.reduceLeDiff, Nat.reduceLT, Nat.reduceSub]
    all_goals (repeat (with_reducible refine sAnd ?_))
    rw [← hpl, plL_end h4]
    exact fin_tup (by simp) ⟨rs_tmp rfl trivial (.inl rfl), rs_tmp rfl trivial (.inl rfl), rfl⟩
  · obtain ⟨g1, g2⟩ := plL_go h4
    try simp (config := { maxSteps := 2000000 }) only [go_sem, reduceCtorEq, Nat.reduceAdd, Nat.reduceEqDiff, reduceIte, Nat.reduceLeDiff, Nat.reduceLT, Nat.reduceSub]
    all_goals (repeat (with_reducible refine sAnd ?_))
    refine ⟨onL m, g2, ⟨sh_onL m hsh, by rw [← g1]; exact hpl⟩, ?_⟩
    simp (config := { maxSteps := 2000000 }) only [go_sem, reduceCtorEq, Nat.reduceAdd, Nat.reduceEqDiff, reduceIte, Nat.reduceLeDiff, Nat.reduceLT, Nat.reduceSub, le_cons, le_nil, le_un, le_same]
    all_goals (repeat' (first | exact trivial | exact le_int (by omega) | exact le_bool rfl | exact le_eq rfl | exact le_nlo | exact le_refl _ | refine And.intro ?_ ?_))
end Go.Hx
end
