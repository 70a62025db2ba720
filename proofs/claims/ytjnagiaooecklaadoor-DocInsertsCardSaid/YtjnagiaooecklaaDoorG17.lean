/-
  Walks of functions of the program over an abstract layer, and the laws that they use: each contract says what the function computes, for every input that its conditions let by. No other condition.
-/
import Derived.Test.YtjnagiaooecklaaDoorG15
import Derived.Test.YtjnagiaooecklaaDoorG12
import Derived.Test.YtjnagiaooecklaaDoorG11
import Derived.Test.YtjnagiaooecklaaDoorG16
set_option linter.all false
section
set_option maxRecDepth 100000
set_option linter.unusedSimpArgs false
namespace Go.Hx
open Go.Proofs
variable [Glob]

attribute [local go_sem] ndsV_len clsV_len attV_len intsR_len ndV cellsEq
theorem c_doc_Fine_1 (s : Bys) : Contract Tryd.prog fn_doc_Fine_1 [.val (sv s)] { res := .val (sv s) } := by
  refine mk_doc_Fine_1 (base := 0) ⟨Nat.le_of_ble_eq_true rfl, Nat.le_of_ble_eq_true rfl, Nat.le_of_ble_eq_true rfl, rfl⟩ (fun hfit => ?_)
  unfold F0 doc_Fine_1_E
  simp (config := { maxSteps := 2000000 }) only [markU, List.set_cons_succ, List.set_cons_zero, List.map_cons, List.map_nil, argCt, setCells, ioOf, List.length_cons, List.length_nil, Nat.reduceAdd, Nat.reduceSub, List.replicate, List.cons_append, List.nil_append]
  try simp (config := { maxSteps := 2000000 }) only [go_sem, reduceCtorEq, Nat.reduceAdd, Nat.reduceEqDiff, reduceIte, Nat.reduceLeDiff, Nat.reduceLT, Nat.reduceSub]
  all_goals (repeat (with_reducible refine sAnd ?_))
  try simp (config := { maxSteps := 2000000 }) only [go_sem, reduceCtorEq, Nat.reduceAdd, Nat.reduceEqDiff, reduceIte, Nat.reduceLeDiff, Nat.reduceLT, Nat.reduceSub]
  all_goals (repeat (with_reducible refine sAnd ?_))
  refine fin_val rfl trivial (.inl ?_)
  congr 3
theorem c_doc_Fine_2 (a b : Bys) : Contract Tryd.prog fn_doc_Fine_2 [.val (.agg [bS a, bS b])] { res := .val (sv a) } := by
  refine mk_doc_Fine_2 (base := 0) ⟨Nat.le_of_ble_eq_true rfl, Nat.le_of_ble_eq_true rfl, Nat.le_of_ble_eq_true rfl, rfl⟩ (fun hfit => ?_)
  unfold F0 doc_Fine_2_E
  simp (config := { maxSteps := 2000000 }) only [markU, List.set_cons_succ, List.set_cons_zero, List.map_cons, List.map_nil, argCt, setCells, ioOf, List.length_cons, List.length_nil, Nat.reduceAdd, Nat.reduceSub, List.replicate, List.cons_append, List.nil_append]
  try simp (config := { maxSteps := 2000000 }) only [go_sem, reduceCtorEq, Nat.reduceAdd, Nat.reduceEqDiff, reduceIte, Nat.reduceLeDiff, Nat.reduceLT, Nat.reduceSub]
  all_goals (repeat (with_reducible refine sAnd ?_))
  try simp (config := { maxSteps := 2000000 }) only [go_sem, reduceCtorEq, Nat.reduceAdd, Nat.reduceEqDiff, reduceIte, Nat.reduceLeDiff, Nat.reduceLT, Nat.reduceSub]
  all_goals (repeat (with_reducible refine sAnd ?_))
  refine fin_val rfl trivial (.inl ?_)
  congr 3
theorem c_doc_Fine_3 (a b : Bys) : Contract Tryd.prog fn_doc_Fine_3 [.val (.agg [bS a, bS b])] { res := .val (bv (!isValue b)) } := by
  refine mk_doc_Fine_3 (base := 0) ⟨Nat.le_of_ble_eq_true rfl, Nat.le_of_ble_eq_true rfl, Nat.le_of_ble_eq_true rfl, rfl⟩ (fun hfit => ?_)
  unfold F0 doc_Fine_3_E
  simp (config := { maxSteps := 2000000 }) only [markU, List.set_cons_succ, List.set_cons_zero, List.map_cons, List.map_nil, argCt, setCells, ioOf, List.length_cons, List.length_nil, Nat.reduceAdd, Nat.reduceSub, List.replicate, List.cons_append, List.nil_append]
  try simp (config := { maxSteps := 2000000 }) only [go_sem, reduceCtorEq, Nat.reduceAdd, Nat.reduceEqDiff, reduceIte, Nat.reduceLeDiff, Nat.reduceLT, Nat.reduceSub]
  all_goals (repeat (with_reducible refine sAnd ?_))
  refine call_val (by repeat' constructor) (c_doc_Value _) ?_
  try simp (config := { maxSteps := 2000000 }) only [go_sem, reduceCtorEq, Nat.reduceAdd, Nat.reduceEqDiff, reduceIte, Nat.reduceLeDiff, Nat.reduceLT, Nat.reduceSub]
  all_goals (repeat (with_reducible refine sAnd ?_))
  try simp (config := { maxSteps := 2000000 }) only [go_sem, reduceCtorEq, Nat.reduceAdd, Nat.reduceEqDiff, reduceIte, Nat.reduceLeDiff, Nat.reduceLT, Nat.reduceSub]
  all_goals (repeat (with_reducible refine sAnd ?_))
  refine fin_val rfl trivial (.inl ?_)
  congr 3

theorem okC_succ {l : List Bys} {i : Nat} : okC l (i + 1) = (okC l i && cOk l i) := range_all_succ
theorem okA_succ {l : List (Bys × Bys)} {i : Nat} : okA l (i + 1) = (okA l i && aOk l i) := range_all_succ

theorem less_asymm : ∀ {x y : Bys}, Op.bytesLess x y = true → Op.bytesLess y x = false
  | [], _, h => by rename_i y; cases y <;> rfl
  | a :: x, [], h => by simp [Op.bytesLess] at h
  | a :: x, b :: y, h => by
    simp only [Op.bytesLess, Bool.or_eq_true, Bool.and_eq_true, decide_eq_true_eq, beq_iff_eq] at h
    simp only [Op.bytesLess, Bool.or_eq_false_iff, Bool.and_eq_false_iff, decide_eq_false_iff_not, beq_eq_false_iff_ne]
    rcases h with h | ⟨rfl, h⟩
    · exact ⟨UInt8.lt_asymm h, .inl (fun e => by subst e; exact UInt8.lt_irrefl _ h)⟩
    · exact ⟨UInt8.lt_irrefl _, .inr (less_asymm h)⟩
theorem less_irrefl (x : Bys) : Op.bytesLess x x = false := by
  cases h : Op.bytesLess x x with
  | false => rfl
  | true => rw [less_asymm h] at h; cases h
theorem less_total : ∀ {x y : Bys}, Op.bytesLess x y = false → x ≠ y → Op.bytesLess y x = true
  | [], [], _, h => (h rfl).elim
  | [], b :: y, h, _ => by simp [Op.bytesLess] at h
  | a :: x, [], _, _ => rfl
  | a :: x, b :: y, h, hn => by
    simp only [Op.bytesLess, Bool.or_eq_false_iff, Bool.and_eq_false_iff, decide_eq_false_iff_not, beq_eq_false_iff_ne] at h
    simp only [Op.bytesLess, Bool.or_eq_true, Bool.and_eq_true, decide_eq_true_eq, beq_iff_eq]
    obtain ⟨h1, h2⟩ := h
    by_cases e : a = b
    · subst e
      refine .inr ⟨rfl, less_total (h2.resolve_left (fun h => h rfl)) (fun e => hn (by rw [e]))⟩
    · refine .inl ?_
      have h3 : b ≤ a := UInt8.not_lt.1 h1
      exact UInt8.lt_of_le_of_ne h3 (Ne.symm e)
theorem rises_step {x y : Bys} : (Op.bytesLess x y || x == y) = !Op.bytesLess y x := by
  cases h : Op.bytesLess y x with
  | true =>
    have h1 := less_asymm h
    have : ¬ x = y := fun e => by subst e; rw [h1] at h; cases h
    simp [h1, this]
  | false =>
    by_cases e : x = y
    · subst e; simp
    · simp [less_total h (Ne.symm e)]
theorem less_empty (s : Bys) : Op.bytesLess s [] = false := by cases s <;> rfl
theorem name_ne {s : Bys} (h : isName s = true) : (s == ([] : Bys)) = false := by
  cases s with
  | nil => simp [isName] at h
  | cons a l => rfl

theorem c_doc_rises_string (l : List Bys) : Contract Tryd.prog fn_doc_rises_string [.val (.one (.sl 1 (clsV l))), .val (.one (.clo fn_doc_Fine_1 []))] { res := .val (bv (okC l l.length)) } := by
  refine mk_doc_rises_string (base := 0) ⟨Nat.le_of_ble_eq_true rfl, Nat.le_of_ble_eq_true rfl, Nat.le_of_ble_eq_true rfl, rfl⟩ (fun hfit => ?_)
  unfold F0 doc_rises_string_E
  simp (config := { maxSteps := 2000000 }) only [markU, List.set_cons_succ, List.set_cons_zero, List.map_cons, List.map_nil, argCt, setCells, ioOf, List.length_cons, List.length_nil, Nat.reduceAdd, Nat.reduceSub, List.replicate, List.cons_append, List.nil_append]
  try simp (config := { maxSteps := 2000000 }) only [go_sem, reduceCtorEq, Nat.reduceAdd, Nat.reduceEqDiff, reduceIte, Nat.reduceLeDiff, Nat.reduceLT, Nat.reduceSub]
  all_goals (repeat (with_reducible refine sAnd ?_))
  have hm := fits_sl (k := 1) hfit.1
  rw [clsV_len] at hm
  refine loop_sets (fun i : Nat => [(5, .pv (sv (if i = 0 then [] else l.getD (i - 1) []))), (7, .un), (10, .pv (iv i)), (11, .un), (25, .un)]) (fun i : Nat => l.length - i) (fun i : Nat => i ≤ l.length ∧ okC l i = true) (0) ?_ ⟨Nat.zero_le _, rfl⟩ ?_
  focus (simp (config := { maxSteps := 2000000 }) only [go_sem, reduceCtorEq, Nat.reduceAdd, Nat.reduceEqDiff, reduceIte, Nat.reduceLeDiff, Nat.reduceLT, Nat.reduceSub, le_cons, le_nil, le_un, le_same]; all_goals (repeat' (first | exact trivial | exact le_int (by omega) | exact le_bool rfl | exact le_eq rfl | exact le_nlo | exact le_refl _ | refine And.intro ?_ ?_)))
  intro i ⟨hi, hok⟩
  try simp (config := { maxSteps := 2000000 }) only [go_sem, reduceCtorEq, Nat.reduceAdd, Nat.reduceEqDiff, reduceIte, Nat.reduceLeDiff, Nat.reduceLT, Nat.reduceSub]
  all_goals (repeat (with_reducible refine sAnd ?_))
  refine cond_of (by rfl) trivial (fun h => ?_) (fun h => ?_)
  · have hlt : i < l.length := by simpa using h
    try simp (config := { maxSteps := 2000000 }) only [go_sem, reduceCtorEq, Nat.reduceAdd, Nat.reduceEqDiff, reduceIte, Nat.reduceLeDiff, Nat.reduceLT, Nat.reduceSub, clsV_get _ _ hlt]
    all_goals (repeat (with_reducible refine sAnd ?_))
    refine callv_val (by rfl) trivial (by repeat' constructor) (c_doc_Fine_1 _) ?_
    try simp (config := { maxSteps := 2000000 }) only [go_sem, reduceCtorEq, Nat.reduceAdd, Nat.reduceEqDiff, reduceIte, Nat.reduceLeDiff, Nat.reduceLT, Nat.reduceSub]
    all_goals (repeat (with_reducible refine sAnd ?_))
    refine call_val (by repeat' constructor) (c_doc_Name _) ?_
    try simp (config := { maxSteps := 2000000 }) only [go_sem, reduceCtorEq, Nat.reduceAdd, Nat.reduceEqDiff, reduceIte, Nat.reduceLeDiff, Nat.reduceLT, Nat.reduceSub]
    all_goals (repeat (with_reducible refine sAnd ?_))
    refine callv_guard (by simp (config := { maxSteps := 2000000 }) only [go_sem, reduceCtorEq, Nat.reduceAdd, Nat.reduceEqDiff, reduceIte, Nat.reduceLeDiff, Nat.reduceLT, Nat.reduceSub]; rfl) (by rfl) (by first | exact fun _ => trivial | exact fun h => h) (by intro h; repeat' (first | exact trivial | exact h | refine And.intro ?_ ?_)) (fun _ => c_doc_Fine_1 _) ?_
    try simp (config := { maxSteps := 2000000 }) only [go_sem, reduceCtorEq, Nat.reduceAdd, Nat.reduceEqDiff, reduceIte, Nat.reduceLeDiff, Nat.reduceLT, Nat.reduceSub]
    all_goals (repeat (with_reducible refine sAnd ?_))
    rw [rises_step]
    refine cond_of (by rfl) trivial (fun h2 => ?_) (fun h2 => ?_)
    · try simp (config := { maxSteps := 2000000 }) only [go_sem, reduceCtorEq, Nat.reduceAdd, Nat.reduceEqDiff, reduceIte, Nat.reduceLeDiff, Nat.reduceLT, Nat.reduceSub]
      all_goals (repeat (with_reducible refine sAnd ?_))
      refine fin_val rfl trivial (.inl ?_)
      congr 3
      cases hn : okC l l.length with
      | false => rfl
      | true =>
        exfalso
        have h4 := range_all_get hn hlt
        simp only [cOk, Bool.and_eq_true, Bool.or_eq_true, decide_eq_true_eq] at h4
        rw [h4.1] at h2
        by_cases h0 : i = 0
        · subst h0
          cases hx : l.getD 0 [] with
          | nil => rw [hx] at h4; simp [isName] at h4
          | cons a r => rw [hx] at h2; simp [Op.bytesLess] at h2
        · rw [if_neg h0, h4.2.resolve_left h0] at h2
          simp at h2
    · try simp (config := { maxSteps := 2000000 }) only [go_sem, reduceCtorEq, Nat.reduceAdd, Nat.reduceEqDiff, reduceIte, Nat.reduceLeDiff, Nat.reduceLT, Nat.reduceSub]
      all_goals (repeat (with_reducible refine sAnd ?_))
      refine callv_val (by rfl) trivial (by repeat' constructor) (c_doc_Fine_1 _) ?_
      try simp (config := { maxSteps := 2000000 }) only [go_sem, reduceCtorEq, Nat.reduceAdd, Nat.reduceEqDiff, reduceIte, Nat.reduceLeDiff, Nat.reduceLT, Nat.reduceSub]
      all_goals (repeat (with_reducible refine sAnd ?_))
      refine ⟨i + 1, by omega, ⟨hlt, ?_⟩, ?_⟩
      · rw [okC_succ, hok]
        simp only [Bool.true_and, cOk]
        cases hn : isName (l.getD i []) with
        | false => rw [hn] at h2; simp at h2
        | true =>
          rw [hn] at h2
          by_cases h0 : i = 0
          · simp [h0]
          · rw [if_neg h0] at h2
            simp at h2
            simp [h0, h2]
      · simp (config := { maxSteps := 2000000 }) only [go_sem, reduceCtorEq, Nat.reduceAdd, Nat.reduceEqDiff, reduceIte, Nat.reduceLeDiff, Nat.reduceLT, Nat.reduceSub, le_cons, le_nil, le_un, le_same]
        all_goals (repeat' (first | exact trivial | exact le_int (by omega) | exact le_bool rfl | exact le_eq rfl | exact le_nlo | exact le_refl _ | refine And.intro ?_ ?_))
  · try simp (config := { maxSteps := 2000000 }) only [go_sem, reduceCtorEq, Nat.reduceAdd, Nat.reduceEqDiff, reduceIte, Nat.reduceLeDiff, Nat.reduceLT, Nat.reduceSub]
    all_goals (repeat (with_reducible refine sAnd ?_))
    refine fin_val rfl trivial (.inl ?_)
    congr 3
    have : i = l.length := by simp at h; omega
    rw [← this]; exact hok
def rOk (l : List (Bys × Bys)) (k : Nat) : Bool := isName (l.getD k default).1 && (decide (k = 0) || Op.bytesLess (l.getD (k - 1) default).1 (l.getD k default).1)
def riseTo (l : List (Bys × Bys)) (i : Nat) : Bool := (List.range i).all (rOk l)
abbrev riseA (l : List (Bys × Bys)) : Bool := riseTo l l.length
theorem riseTo_succ {l : List (Bys × Bys)} {i : Nat} : riseTo l (i + 1) = (riseTo l i && rOk l i) := range_all_succ
theorem c_doc_rises_Attr (l : List (Bys × Bys)) : Contract Tryd.prog fn_doc_rises_api_Attr [.val (.one (.sl 2 (attV l))), .val (.one (.clo fn_doc_Fine_2 []))] { res := .val (bv (riseA l)) } := by
  refine mk_doc_rises_api_Attr (base := 0) ⟨Nat.le_of_ble_eq_true rfl, Nat.le_of_ble_eq_true rfl, Nat.le_of_ble_eq_true rfl, rfl⟩ (fun hfit => ?_)
  unfold F0 doc_rises_api_Attr_E
  simp (config := { maxSteps := 2000000 }) only [markU, List.set_cons_succ, List.set_cons_zero, List.map_cons, List.map_nil, argCt, setCells, ioOf, List.length_cons, List.length_nil, Nat.reduceAdd, Nat.reduceSub, List.replicate, List.cons_append, List.nil_append]
  try simp (config := { maxSteps := 2000000 }) only [go_sem, reduceCtorEq, Nat.reduceAdd, Nat.reduceEqDiff, reduceIte, Nat.reduceLeDiff, Nat.reduceLT, Nat.reduceSub]
  all_goals (repeat (with_reducible refine sAnd ?_))
  have hm := fits_sl (k := 2) hfit.1
  rw [attV_len] at hm
  refine loop_sets (fun i : Nat => [(5, .pv (sv (if i = 0 then [] else (l.getD (i - 1) default).1))), (7, .un), (30, .un), (31, .un), (10, .pv (iv i)), (11, .un), (25, .un)]) (fun i : Nat => l.length - i) (fun i : Nat => i ≤ l.length ∧ riseTo l i = true) (0) ?_ ⟨Nat.zero_le _, rfl⟩ ?_
  focus (simp (config := { maxSteps := 2000000 }) only [go_sem, reduceCtorEq, Nat.reduceAdd, Nat.reduceEqDiff, reduceIte, Nat.reduceLeDiff, Nat.reduceLT, Nat.reduceSub, le_cons, le_nil, le_un, le_same]; all_goals (repeat' (first | exact trivial | exact le_int (by omega) | exact le_bool rfl | exact le_eq rfl | exact le_nlo | exact le_refl _ | refine And.intro ?_ ?_)))
  intro i ⟨hi, hok⟩
  try simp (config := { maxSteps := 2000000 }) only [go_sem, reduceCtorEq, Nat.reduceAdd, Nat.reduceEqDiff, reduceIte, Nat.reduceLeDiff, Nat.reduceLT, Nat.reduceSub]
  all_goals (repeat (with_reducible refine sAnd ?_))
  refine cond_of (by rfl) trivial (fun h => ?_) (fun h => ?_)
  · have hlt : i < l.length := by simpa using h
    try simp (config := { maxSteps := 2000000 }) only [go_sem, reduceCtorEq, Nat.reduceAdd, Nat.reduceEqDiff, reduceIte, Nat.reduceLeDiff, Nat.reduceLT, Nat.reduceSub, attV_get _ _ hlt]
    all_goals (repeat (with_reducible refine sAnd ?_))
    refine callv_val (by rfl) trivial (by repeat' constructor) (c_doc_Fine_2 _ _) ?_
    try simp (config := { maxSteps := 2000000 }) only [go_sem, reduceCtorEq, Nat.reduceAdd, Nat.reduceEqDiff, reduceIte, Nat.reduceLeDiff, Nat.reduceLT, Nat.reduceSub]
    all_goals (repeat (with_reducible refine sAnd ?_))
    refine call_val (by repeat' constructor) (c_doc_Name _) ?_
    try simp (config := { maxSteps := 2000000 }) only [go_sem, reduceCtorEq, Nat.reduceAdd, Nat.reduceEqDiff, reduceIte, Nat.reduceLeDiff, Nat.reduceLT, Nat.reduceSub]
    all_goals (repeat (with_reducible refine sAnd ?_))
    refine callv_guard (by simp (config := { maxSteps := 2000000 }) only [go_sem, reduceCtorEq, Nat.reduceAdd, Nat.reduceEqDiff, reduceIte, Nat.reduceLeDiff, Nat.reduceLT, Nat.reduceSub]; rfl) (by rfl) (by first | exact fun _ => trivial | exact fun h => h) (by intro h; repeat' (first | exact trivial | exact h | refine And.intro ?_ ?_)) (fun _ => c_doc_Fine_2 _ _) ?_
    try simp (config := { maxSteps := 2000000 }) only [go_sem, reduceCtorEq, Nat.reduceAdd, Nat.reduceEqDiff, reduceIte, Nat.reduceLeDiff, Nat.reduceLT, Nat.reduceSub]
    all_goals (repeat (with_reducible refine sAnd ?_))
    rw [rises_step]
    refine cond_of (by rfl) trivial (fun h2 => ?_) (fun h2 => ?_)
    · try simp (config := { maxSteps := 2000000 }) only [go_sem, reduceCtorEq, Nat.reduceAdd, Nat.reduceEqDiff, reduceIte, Nat.reduceLeDiff, Nat.reduceLT, Nat.reduceSub]
      all_goals (repeat (with_reducible refine sAnd ?_))
      refine fin_val rfl trivial (.inl ?_)
      congr 3
      cases hn : riseA l with
      | false => rfl
      | true =>
        exfalso
        have h4 := range_all_get hn hlt
        simp only [rOk, Bool.and_eq_true, Bool.or_eq_true, decide_eq_true_eq] at h4
        rw [h4.1] at h2
        by_cases h0 : i = 0
        · subst h0
          cases hx : (l.getD 0 default).1 with
          | nil => rw [hx] at h4; simp [isName] at h4
          | cons a r => rw [hx] at h2; simp [Op.bytesLess] at h2
        · rw [if_neg h0, h4.2.resolve_left h0] at h2
          simp at h2
    · try simp (config := { maxSteps := 2000000 }) only [go_sem, reduceCtorEq, Nat.reduceAdd, Nat.reduceEqDiff, reduceIte, Nat.reduceLeDiff, Nat.reduceLT, Nat.reduceSub]
      all_goals (repeat (with_reducible refine sAnd ?_))
      refine callv_val (by rfl) trivial (by repeat' constructor) (c_doc_Fine_2 _ _) ?_
      try simp (config := { maxSteps := 2000000 }) only [go_sem, reduceCtorEq, Nat.reduceAdd, Nat.reduceEqDiff, reduceIte, Nat.reduceLeDiff, Nat.reduceLT, Nat.reduceSub]
      all_goals (repeat (with_reducible refine sAnd ?_))
      refine ⟨i + 1, by omega, ⟨hlt, ?_⟩, ?_⟩
      · rw [riseTo_succ, hok]
        simp only [Bool.true_and, rOk]
        cases hn : isName ((l.getD i default).1) with
        | false => rw [hn] at h2; simp at h2
        | true =>
          rw [hn] at h2
          by_cases h0 : i = 0
          · simp [h0]
          · rw [if_neg h0] at h2
            simp at h2
            simp [h0, h2]
      · simp (config := { maxSteps := 2000000 }) only [go_sem, reduceCtorEq, Nat.reduceAdd, Nat.reduceEqDiff, reduceIte, Nat.reduceLeDiff, Nat.reduceLT, Nat.reduceSub, le_cons, le_nil, le_un, le_same]
        all_goals (repeat' (first | exact trivial | exact le_int (by omega) | exact le_bool rfl | exact le_eq rfl | exact le_nlo | exact le_refl _ | refine And.intro ?_ ?_))
  · try simp (config := { maxSteps := 2000000 }) only [go_sem, reduceCtorEq, Nat.reduceAdd, Nat.reduceEqDiff, reduceIte, Nat.reduceLeDiff, Nat.reduceLT, Nat.reduceSub]
    all_goals (repeat (with_reducible refine sAnd ?_))
    refine fin_val rfl trivial (.inl ?_)
    congr 3
    have : i = l.length := by simp at h; omega
    subst this; exact hok

def badAt (l : List (Bys × Bys)) (i : Nat) : Bool := !isValue (l.getD i default).2
def badIdx (l : List (Bys × Bys)) : Int := match (List.range l.length).find? (badAt l) with | some i => i | none => -1
theorem c_slices_IndexFunc_Attr (l : List (Bys × Bys)) : Contract Tryd.prog fn_slices_IndexFunc_Attr [.val (.one (.sl 2 (attV l))), .val (.one (.clo fn_doc_Fine_3 []))] { res := .val (iv (badIdx l)) } := by
  refine mk_slices_IndexFunc_Attr (base := 0) ⟨Nat.le_of_ble_eq_true rfl, Nat.le_of_ble_eq_true rfl, Nat.le_of_ble_eq_true rfl, rfl⟩ (fun hfit => ?_)
  unfold F0 slices_IndexFunc_Attr_E
  simp (config := { maxSteps := 2000000 }) only [markU, List.set_cons_succ, List.set_cons_zero, List.map_cons, List.map_nil, argCt, setCells, ioOf, List.length_cons, List.length_nil, Nat.reduceAdd, Nat.reduceSub, List.replicate, List.cons_append, List.nil_append]
  try simp (config := { maxSteps := 2000000 }) only [go_sem, reduceCtorEq, Nat.reduceAdd, Nat.reduceEqDiff, reduceIte, Nat.reduceLeDiff, Nat.reduceLT, Nat.reduceSub]
  all_goals (repeat (with_reducible refine sAnd ?_))
  have hm := fits_sl (k := 2) hfit.1
  rw [attV_len] at hm
  refine loop_sets (fun i : Nat => [(5, .un), (8, .pv (iv i)), (9, .un), (16, .un)]) (fun i : Nat => l.length - i) (fun i : Nat => i ≤ l.length ∧ ∀ k, k < i → badAt l k = false) (0) ?_ ⟨Nat.zero_le _, fun k hk => by omega⟩ ?_
  focus (simp (config := { maxSteps := 2000000 }) only [go_sem, reduceCtorEq, Nat.reduceAdd, Nat.reduceEqDiff, reduceIte, Nat.reduceLeDiff, Nat.reduceLT, Nat.reduceSub, le_cons, le_nil, le_un, le_same]; all_goals (repeat' (first | exact trivial | exact le_int (by omega) | exact le_bool rfl | exact le_eq rfl | exact le_nlo | exact le_refl _ | refine And.intro ?_ ?_)))
  intro i ⟨hi, hok⟩
  try simp (config := { maxSteps := 2000000 }) only [go_sem, reduceCtorEq, Nat.reduceAdd, Nat.reduceEqDiff, reduceIte, Nat.reduceLeDiff, Nat.reduceLT, Nat.reduceSub]
  all_goals (repeat (with_reducible refine sAnd ?_))
  refine cond_of (by rfl) trivial (fun h => ?_) (fun h => ?_)
  · have hlt : i < l.length := by simpa using h
    try simp (config := { maxSteps := 2000000 }) only [go_sem, reduceCtorEq, Nat.reduceAdd, Nat.reduceEqDiff, reduceIte, Nat.reduceLeDiff, Nat.reduceLT, Nat.reduceSub, attV_get _ _ hlt]
    all_goals (repeat (with_reducible refine sAnd ?_))
    refine callv_val (by rfl) trivial (by repeat' constructor) (c_doc_Fine_3 _ _) ?_
    try simp (config := { maxSteps := 2000000 }) only [go_sem, reduceCtorEq, Nat.reduceAdd, Nat.reduceEqDiff, reduceIte, Nat.reduceLeDiff, Nat.reduceLT, Nat.reduceSub]
    all_goals (repeat (with_reducible refine sAnd ?_))
    refine cond_of (by rfl) trivial (fun h2 => ?_) (fun h2 => ?_)
    · try simp (config := { maxSteps := 2000000 }) only [go_sem, reduceCtorEq, Nat.reduceAdd, Nat.reduceEqDiff, reduceIte, Nat.reduceLeDiff, Nat.reduceLT, Nat.reduceSub]
      all_goals (repeat (with_reducible refine sAnd ?_))
      refine fin_val rfl trivial (.inl ?_)
      congr 3
      have h3 : (List.range l.length).find? (badAt l) = some i := List.find?_range_eq_some.2 ⟨h2, List.mem_range.2 hlt, fun j hj => by rw [hok j hj]; rfl⟩
      rw [badIdx, h3]
    · try simp (config := { maxSteps := 2000000 }) only [go_sem, reduceCtorEq, Nat.reduceAdd, Nat.reduceEqDiff, reduceIte, Nat.reduceLeDiff, Nat.reduceLT, Nat.reduceSub]
      all_goals (repeat (with_reducible refine sAnd ?_))
      refine ⟨i + 1, by omega, ⟨hlt, fun k hk => ?_⟩, ?_⟩
      · by_cases e : k = i
        · rw [e]; exact h2
        · exact hok k (by omega)
      · simp (config := { maxSteps := 2000000 }) only [go_sem, reduceCtorEq, Nat.reduceAdd, Nat.reduceEqDiff, reduceIte, Nat.reduceLeDiff, Nat.reduceLT, Nat.reduceSub, le_cons, le_nil, le_un, le_same]
        all_goals (repeat' (first | exact trivial | exact le_int (by omega) | exact le_bool rfl | exact le_eq rfl | exact le_nlo | exact le_refl _ | refine And.intro ?_ ?_))
  · try simp (config := { maxSteps := 2000000 }) only [go_sem, reduceCtorEq, Nat.reduceAdd, Nat.reduceEqDiff, reduceIte, Nat.reduceLeDiff, Nat.reduceLT, Nat.reduceSub]
    all_goals (repeat (with_reducible refine sAnd ?_))
    refine fin_val rfl trivial (.inl ?_)
    congr 3
    have : i = l.length := by simp at h; omega
    have h3 : (List.range l.length).find? (badAt l) = none := List.find?_eq_none.2 fun x hx => by rw [hok x (by rw [this]; exact List.mem_range.1 hx)]; simp
    rw [badIdx, h3]
def anyBad (l : List (Bys × Bys)) : Bool := (List.range l.length).any (badAt l)
theorem badIdx_any (l : List (Bys × Bys)) : decide (0 ≤ badIdx l) = anyBad l := by
  unfold badIdx anyBad
  cases h : (List.range l.length).find? (badAt l) with
  | none =>
    have := List.find?_eq_none.1 h
    have h2 : (List.range l.length).any (badAt l) = false := by
      rw [List.any_eq_false]; exact this
    rw [h2]; rfl
  | some i =>
    have := List.find?_range_eq_some.1 h
    have h2 : (List.range l.length).any (badAt l) = true := List.any_eq_true.2 ⟨i, this.2.1, this.1⟩
    rw [h2]
    simp
theorem c_slices_ContainsFunc_Attr (l : List (Bys × Bys)) : Contract Tryd.prog fn_slices_ContainsFunc_Attr [.val (.one (.sl 2 (attV l))), .val (.one (.clo fn_doc_Fine_3 []))] { res := .val (bv (anyBad l)) } := by
  refine mk_slices_ContainsFunc_Attr (base := 0) ⟨Nat.le_of_ble_eq_true rfl, Nat.le_of_ble_eq_true rfl, Nat.le_of_ble_eq_true rfl, rfl⟩ (fun hfit => ?_)
  unfold F0 slices_ContainsFunc_Attr_E
  simp (config := { maxSteps := 2000000 }) only [markU, List.set_cons_succ, List.set_cons_zero, List.map_cons, List.map_nil, argCt, setCells, ioOf, List.length_cons, List.length_nil, Nat.reduceAdd, Nat.reduceSub, List.replicate, List.cons_append, List.nil_append]
  try simp (config := { maxSteps := 2000000 }) only [go_sem, reduceCtorEq, Nat.reduceAdd, Nat.reduceEqDiff, reduceIte, Nat.reduceLeDiff, Nat.reduceLT, Nat.reduceSub]
  all_goals (repeat (with_reducible refine sAnd ?_))
  refine call_val (by repeat' constructor) (c_slices_IndexFunc_Attr _) ?_
  try simp (config := { maxSteps := 2000000 }) only [go_sem, reduceCtorEq, Nat.reduceAdd, Nat.reduceEqDiff, reduceIte, Nat.reduceLeDiff, Nat.reduceLT, Nat.reduceSub]
  all_goals (repeat (with_reducible refine sAnd ?_))
  try simp (config := { maxSteps := 2000000 }) only [go_sem, reduceCtorEq, Nat.reduceAdd, Nat.reduceEqDiff, reduceIte, Nat.reduceLeDiff, Nat.reduceLT, Nat.reduceSub]
  all_goals (repeat (with_reducible refine sAnd ?_))
  refine fin_val rfl trivial (.inl ?_)
  congr 3
  rw [← badIdx_any]

theorem fine_split (l : List (Bys × Bys)) : okA l l.length = (riseA l && !anyBad l) := by
  rw [Bool.eq_iff_iff]
  simp only [okA, riseTo, anyBad, Bool.and_eq_true, Bool.not_eq_true', List.all_eq_true, List.any_eq_false, List.mem_range]
  constructor
  · intro h
    refine ⟨fun k hk => ?_, fun k hk => ?_⟩
    · have := h k hk
      simp only [aOk, rOk, Bool.and_eq_true] at this ⊢
      exact ⟨this.1.1, this.2⟩
    · have := h k hk
      simp only [aOk, badAt, Bool.and_eq_true] at this ⊢
      rw [this.1.2]; simp
  · intro ⟨h1, h2⟩ k hk
    have h3 := h1 k hk
    have h4 := h2 k hk
    simp only [aOk, rOk, badAt, Bool.and_eq_true, Bool.not_eq_true, Bool.not_eq_false'] at h3 h4 ⊢
    exact ⟨⟨h3.1, h4⟩, h3.2⟩

theorem c_doc_Fine (x : Nd) : Contract Tryd.prog fn_doc_Fine [.val (.agg (ndV x))] { res := .val (bv (nodeFine x)) } := by
  unfold ndV
  refine mk_doc_Fine (base := 0) ⟨Nat.le_of_ble_eq_true rfl, Nat.le_of_ble_eq_true rfl, Nat.le_of_ble_eq_true rfl, rfl⟩ (fun hfit => ?_)
  unfold F0 doc_Fine_E
  simp (config := { maxSteps := 2000000 }) only [markU, List.set_cons_succ, List.set_cons_zero, List.map_cons, List.map_nil, argCt, setCells, ioOf, List.length_cons, List.length_nil, Nat.reduceAdd, Nat.reduceSub, List.replicate, List.cons_append, List.nil_append]
  try simp (config := { maxSteps := 2000000 }) only [go_sem, reduceCtorEq, Nat.reduceAdd, Nat.reduceEqDiff, reduceIte, Nat.reduceLeDiff, Nat.reduceLT, Nat.reduceSub]
  all_goals (repeat (with_reducible refine sAnd ?_))
  refine call_val (by repeat' constructor) (c_doc_Name _) ?_
  try simp (config := { maxSteps := 2000000 }) only [go_sem, reduceCtorEq, Nat.reduceAdd, Nat.reduceEqDiff, reduceIte, Nat.reduceLeDiff, Nat.reduceLT, Nat.reduceSub]
  all_goals (repeat (with_reducible refine sAnd ?_))
  apply call_guard (h2 := fun _ => c_doc_Name _)
  · (simp (config := { maxSteps := 2000000 }) only [go_sem, reduceCtorEq, Nat.reduceAdd, Nat.reduceEqDiff, reduceIte, Nat.reduceLeDiff, Nat.reduceLT, Nat.reduceSub]; rfl)
  · intro h; repeat' (first | exact trivial | exact h | refine And.intro ?_ ?_)
  try simp (config := { maxSteps := 2000000 }) only [go_sem, reduceCtorEq, Nat.reduceAdd, Nat.reduceEqDiff, reduceIte, Nat.reduceLeDiff, Nat.reduceLT, Nat.reduceSub]
  all_goals (repeat (with_reducible refine sAnd ?_))
  apply call_guard (h2 := fun _ => c_doc_rises_string _)
  · (simp (config := { maxSteps := 2000000 }) only [go_sem, reduceCtorEq, Nat.reduceAdd, Nat.reduceEqDiff, reduceIte, Nat.reduceLeDiff, Nat.reduceLT, Nat.reduceSub]; rfl)
  · intro h; repeat' (first | exact trivial | exact h | refine And.intro ?_ ?_)
  try simp (config := { maxSteps := 2000000 }) only [go_sem, reduceCtorEq, Nat.reduceAdd, Nat.reduceEqDiff, reduceIte, Nat.reduceLeDiff, Nat.reduceLT, Nat.reduceSub]
  all_goals (repeat (with_reducible refine sAnd ?_))
  apply call_guard (h2 := fun _ => c_doc_rises_Attr _)
  · (simp (config := { maxSteps := 2000000 }) only [go_sem, reduceCtorEq, Nat.reduceAdd, Nat.reduceEqDiff, reduceIte, Nat.reduceLeDiff, Nat.reduceLT, Nat.reduceSub]; rfl)
  · intro h; repeat' (first | exact trivial | exact h | refine And.intro ?_ ?_)
  try simp (config := { maxSteps := 2000000 }) only [go_sem, reduceCtorEq, Nat.reduceAdd, Nat.reduceEqDiff, reduceIte, Nat.reduceLeDiff, Nat.reduceLT, Nat.reduceSub]
  all_goals (repeat (with_reducible refine sAnd ?_))
  apply call_guard (h2 := fun _ => c_slices_ContainsFunc_Attr _)
  · (simp (config := { maxSteps := 2000000 }) only [go_sem, reduceCtorEq, Nat.reduceAdd, Nat.reduceEqDiff, reduceIte, Nat.reduceLeDiff, Nat.reduceLT, Nat.reduceSub]; rfl)
  · intro h; repeat' (first | exact trivial | exact h | refine And.intro ?_ ?_)
  try simp (config := { maxSteps := 2000000 }) only [go_sem, reduceCtorEq, Nat.reduceAdd, Nat.reduceEqDiff, reduceIte, Nat.reduceLeDiff, Nat.reduceLT, Nat.reduceSub]
  all_goals (repeat (with_reducible refine sAnd ?_))
  refine fin_val rfl trivial (.inl ?_)
  congr 3
  simp only [nodeFine, fine_split]
  grind
end Go.Hx
end

section
set_option maxRecDepth 100000
set_option linter.unusedSimpArgs false
namespace Go.Hx
open Go.Proofs
variable [Glob]

attribute [local go_sem] ndsV_len clsV_len attV_len intsR_len ndV cellsEq
def popTo (u : Int) (c : List Int) : List Int := c.dropWhile fun x => decide (x ≠ u)
theorem popTo_mem {u : Int} : ∀ c : List Int, (popTo u c = []) ↔ u ∉ c
  | [] => by simp [popTo]
  | x :: c => by
    simp only [popTo, List.dropWhile_cons]
    by_cases h : x = u
    · simp [h]
    · have := popTo_mem (u := u) c
      simp only [popTo] at this
      simp only [ne_eq, decide_not] at this
      simp [h, this, Ne.symm h]
theorem popTo_chain {d : List Nd} {u : Int} : ∀ (f : Nat) (k : Int), (∀ j : Nat, (j : Int) ≤ k → upOf d j < j) → k < f → u ∈ chain d f k → ∀ g : Nat, u < g → popTo u (chain d f k) = chain d g u
  | 0, k, _, _, hu => by simp [chain] at hu
  | f + 1, k, h, hf, hu => by
    intro g hg
    have hb := chain_bound (f + 1) k h _ hu
    simp only [chain] at hu ⊢
    split at hu
    · cases hu
    · rename_i hk
      rw [if_neg hk]
      simp only [popTo, List.dropWhile_cons]
      by_cases e : k = u
      · subst e
        simp only [ne_eq, not_true_eq_false, decide_false, Bool.false_eq_true, if_false]
        have : k :: chain d f (upOf d k.toNat) = chain d (f + 1) k := by simp [chain, hk]
        rw [this]
        exact chain_fuel _ _ _ h hf hg
      · simp only [ne_eq, e, not_false_eq_true, decide_true, if_true]
        have h1 := h k.toNat (by omega)
        exact popTo_chain f (upOf d k.toNat) (fun j hj => h j (by omega)) (by omega) ((List.mem_cons.1 hu).resolve_left (Ne.symm e)) g hg
theorem intsR_app (a b : List Int) : intsR (a ++ b) = intsR a ++ intsR b := by simp [intsR]
theorem intsR_last (c : List Int) (x : Int) : (intsR ((x :: c).reverse)).getD c.length [] = [bI x] := by
  simp [intsR]
theorem intsR_take (c : List Int) (x : Int) : (intsR ((x :: c).reverse)).take c.length = intsR c.reverse := by
  simp [intsR]
theorem intsR_nil : intsR [] = [] := rfl

theorem okUp_road {d : List Nd} {i : Nat} : okUp d i = ((decide (i ≠ 0) || decide (upOf d i = -1)) && (decide (i = 0) || !decide (popTo (upOf d i) (chain d i ((i : Int) - 1)) = []))) := by
  unfold okUp
  by_cases h : i = 0
  · simp [h]
  · have := popTo_mem (u := upOf d i) (chain d i ((i : Int) - 1))
    simp only [h, if_false, ne_eq, not_false_eq_true, decide_true, Bool.true_or, Bool.true_and, decide_false, Bool.false_or, this]
    simp

theorem chain_len {d : List Nd} : ∀ (f : Nat) (k : Int), (chain d f k).length ≤ f
  | 0, _ => by simp [chain]
  | f + 1, k => by
    simp only [chain]
    split
    · simp
    · have := chain_len (d := d) f (upOf d k.toNat)
      simp; omega
theorem toNat_s (n : Nat) : ((((n + 1 : Nat) : Int)) - 1).toNat = n := by omega
theorem fail_at {d : List Nd} {i : Nat} (hl : 1 ≤ d.length ∧ d.length ≤ 64) (hi : i < d.length) (h : okAt d i = false) : checkDoc d = 1 := by
  have : docOk d d.length = false := by
    cases hd : docOk d d.length with
    | false => rfl
    | true => rw [range_all_get hd hi] at h; cases h
  simp [checkDoc, hl, this]

theorem c_doc_Check (d : List Nd) : Contract Tryd.prog fn_doc_Check [.val (docV d)] { res := .val (iv (checkDoc d)) } := by
  unfold docV
  refine mk_doc_Check (base := 0) ⟨Nat.le_of_ble_eq_true rfl, Nat.le_of_ble_eq_true rfl, Nat.le_of_ble_eq_true rfl, rfl⟩ (fun hfit => ?_)
  unfold F0 doc_Check_E
  simp (config := { maxSteps := 2000000 }) only [markU, List.set_cons_succ, List.set_cons_zero, List.map_cons, List.map_nil, argCt, setCells, ioOf, List.length_cons, List.length_nil, Nat.reduceAdd, Nat.reduceSub, List.replicate, List.cons_append, List.nil_append]
  try simp (config := { maxSteps := 2000000 }) only [go_sem, reduceCtorEq, Nat.reduceAdd, Nat.reduceEqDiff, reduceIte, Nat.reduceLeDiff, Nat.reduceLT, Nat.reduceSub]
  all_goals (repeat (with_reducible refine sAnd ?_))
  refine cond_of (by rfl) trivial (fun h => ?_) (fun h => ?_)
  · try simp (config := { maxSteps := 2000000 }) only [go_sem, reduceCtorEq, Nat.reduceAdd, Nat.reduceEqDiff, reduceIte, Nat.reduceLeDiff, Nat.reduceLT, Nat.reduceSub]
    all_goals (repeat (with_reducible refine sAnd ?_))
    refine fin_val rfl trivial (.inl ?_)
    congr 3
    have hl : ¬ (1 ≤ d.length ∧ d.length ≤ 64) := by
      simp at h; omega
    simp [checkDoc, hl]
  have hl : 1 ≤ d.length ∧ d.length ≤ 64 := by
    simp at h; omega
  try simp (config := { maxSteps := 2000000 }) only [go_sem, reduceCtorEq, Nat.reduceAdd, Nat.reduceEqDiff, reduceIte, Nat.reduceLeDiff, Nat.reduceLT, Nat.reduceSub]
  all_goals (repeat (with_reducible refine sAnd ?_))
  refine loop_sets (fun i : Nat => [(3, .stk ty_int 1 (intsR (chain d i ((i : Int) - 1)).reverse)), (4, .un), (5, .un), (19, .pv (iv i)), (20, .un), (37, .un), (63, .un), (69, .un), (70, .un), (71, .un), (72, .un), (73, .un)]) (fun i : Nat => d.length - i) (fun i : Nat => i ≤ d.length ∧ docOk d i = true) (0) ?_ ⟨Nat.zero_le _, rfl⟩ ?_
  focus (simp (config := { maxSteps := 2000000 }) only [go_sem, reduceCtorEq, Nat.reduceAdd, Nat.reduceEqDiff, reduceIte, Nat.reduceLeDiff, Nat.reduceLT, Nat.reduceSub, le_cons, le_nil, le_un, le_same]; all_goals (repeat' (first | exact trivial | exact le_int (by omega) | exact le_bool rfl | exact le_eq rfl | exact le_nlo | exact le_refl _ | refine And.intro ?_ ?_)))
  intro i ⟨hi, hok⟩
  try simp (config := { maxSteps := 2000000 }) only [go_sem, reduceCtorEq, Nat.reduceAdd, Nat.reduceEqDiff, reduceIte, Nat.reduceLeDiff, Nat.reduceLT, Nat.reduceSub]
  all_goals (repeat (with_reducible refine sAnd ?_))
  refine cond_of (by rfl) trivial (fun h2 => ?_) (fun h2 => ?_)
  · have hlt : i < d.length := by simpa using h2
    try simp (config := { maxSteps := 2000000 }) only [go_sem, reduceCtorEq, Nat.reduceAdd, Nat.reduceEqDiff, reduceIte, Nat.reduceLeDiff, Nat.reduceLT, Nat.reduceSub, ndsV_get _ _ hlt]
    all_goals (repeat (with_reducible refine sAnd ?_))
    have hcl := chain_len (d := d) i ((i : Int) - 1)
    have hx : upOf d i = (d.getD i default).up := rfl
    refine loop_sets (fun c : List Int => [(3, .stk ty_int 1 (intsR c.reverse)), (37, .un)]) (fun c : List Int => c.length) (fun c : List Int => c.length ≤ i ∧ popTo (upOf d i) c = popTo (upOf d i) (chain d i ((i : Int) - 1))) ((chain d i ((i : Int) - 1))) ?_ ⟨hcl, rfl⟩ ?_
    focus (simp (config := { maxSteps := 2000000 }) only [go_sem, reduceCtorEq, Nat.reduceAdd, Nat.reduceEqDiff, reduceIte, Nat.reduceLeDiff, Nat.reduceLT, Nat.reduceSub, le_cons, le_nil, le_un, le_same]; all_goals (repeat' (first | exact trivial | exact le_int (by omega) | exact le_bool rfl | exact le_eq rfl | exact le_nlo | exact le_refl _ | refine And.intro ?_ ?_)))
    intro c ⟨hcl, hc⟩
    cases c with
    | nil =>
      have hpop : popTo (upOf d i) (chain d i ((i : Int) - 1)) = [] := by rw [← hc]; rfl
      have hup := okUp_road (d := d) (i := i)
      rw [hpop] at hup
      try simp (config := { maxSteps := 2000000 }) only [go_sem, reduceCtorEq, Nat.reduceAdd, Nat.reduceEqDiff, reduceIte, Nat.reduceLeDiff, Nat.reduceLT, Nat.reduceSub, List.reverse_nil, intsR_nil, List.getD_nil, List.headD_nil]
      all_goals (repeat (with_reducible refine sAnd ?_))
      refine cond_of (by rfl) trivial (fun h3 => ?_) (fun h3 => ?_)
      · simp at h3
      try simp (config := { maxSteps := 2000000 }) only [go_sem, reduceCtorEq, Nat.reduceAdd, Nat.reduceEqDiff, reduceIte, Nat.reduceLeDiff, Nat.reduceLT, Nat.reduceSub]
      all_goals (repeat (with_reducible refine sAnd ?_))
      refine dcall_val (by repeat' constructor) (c_doc_Fine (d.getD i default)) ?_
      try simp (config := { maxSteps := 2000000 }) only [go_sem, reduceCtorEq, Nat.reduceAdd, Nat.reduceEqDiff, reduceIte, Nat.reduceLeDiff, Nat.reduceLT, Nat.reduceSub]
      all_goals (repeat (with_reducible refine sAnd ?_))
      refine cond_of (by rfl) trivial (fun h4 => ?_) (fun h4 => ?_)
      · try simp (config := { maxSteps := 2000000 }) only [go_sem, reduceCtorEq, Nat.reduceAdd, Nat.reduceEqDiff, reduceIte, Nat.reduceLeDiff, Nat.reduceLT, Nat.reduceSub]
        all_goals (repeat (with_reducible refine sAnd ?_))
        refine fin_val rfl trivial (.inl ?_)
        congr 3
        refine fail_at hl hlt ?_
        rw [okAt, hup]
        grind
      · try simp (config := { maxSteps := 2000000 }) only [go_sem, reduceCtorEq, Nat.reduceAdd, Nat.reduceEqDiff, reduceIte, Nat.reduceLeDiff, Nat.reduceLT, Nat.reduceSub]
        all_goals (repeat (with_reducible refine sAnd ?_))
        have h5 : i = 0 := by grind
        have h6 : okAt d i = true := by
          rw [okAt, hup]
          grind
        refine ⟨i + 1, by omega, ⟨by omega, by rw [docOk_succ, hok, h6]; rfl⟩, ?_⟩
        simp (config := { maxSteps := 2000000 }) only [go_sem, reduceCtorEq, Nat.reduceAdd, Nat.reduceEqDiff, reduceIte, Nat.reduceLeDiff, Nat.reduceLT, Nat.reduceSub, le_cons, le_nil, le_un, le_same]
        all_goals (repeat' (first | exact trivial | exact le_int (by omega) | exact le_bool rfl | exact le_eq rfl | exact le_nlo | exact le_refl _ | refine And.intro ?_ ?_))
        refine le_eq ?_
        subst h5
        have : upOf d 0 = -1 := by grind
        simp [chain, this, intsR]
    | cons x c =>
      have hlen : c.length + 1 ≤ 64 := by simp at hcl; omega
      try simp (config := { maxSteps := 2000000 }) only [go_sem, reduceCtorEq, Nat.reduceAdd, Nat.reduceEqDiff, reduceIte, Nat.reduceLeDiff, Nat.reduceLT, Nat.reduceSub, List.length_reverse, toNat_s, intsR_last, intsR_take]
      all_goals (repeat (with_reducible refine sAnd ?_))
      refine cond_of (by rfl) trivial (fun h3 => ?_) (fun h3 => ?_)
      · try simp (config := { maxSteps := 2000000 }) only [go_sem, reduceCtorEq, Nat.reduceAdd, Nat.reduceEqDiff, reduceIte, Nat.reduceLeDiff, Nat.reduceLT, Nat.reduceSub, List.length_reverse, toNat_s, intsR_last, intsR_take]
        all_goals (repeat (with_reducible refine sAnd ?_))
        refine ⟨c, by omega, ⟨by simp at hcl; omega, ?_⟩, ?_⟩
        · rw [← hc]
          simp only [popTo, List.dropWhile_cons]
          grind
        · simp (config := { maxSteps := 2000000 }) only [go_sem, reduceCtorEq, Nat.reduceAdd, Nat.reduceEqDiff, reduceIte, Nat.reduceLeDiff, Nat.reduceLT, Nat.reduceSub, le_cons, le_nil, le_un, le_same]
          all_goals (repeat' (first | exact trivial | exact le_int (by omega) | exact le_bool rfl | exact le_eq rfl | exact le_nlo | exact le_refl _ | refine And.intro ?_ ?_))
      have hxu : x = upOf d i := by grind
      have hpop : popTo (upOf d i) (chain d i ((i : Int) - 1)) = x :: c := by rw [← hc]; simp [popTo, hxu]
      have hup := okUp_road (d := d) (i := i)
      rw [hpop] at hup
      try simp (config := { maxSteps := 2000000 }) only [go_sem, reduceCtorEq, Nat.reduceAdd, Nat.reduceEqDiff, reduceIte, Nat.reduceLeDiff, Nat.reduceLT, Nat.reduceSub, List.length_reverse]
      all_goals (repeat (with_reducible refine sAnd ?_))
      refine dcall_val (by repeat' constructor) (c_doc_Fine (d.getD i default)) ?_
      try simp (config := { maxSteps := 2000000 }) only [go_sem, reduceCtorEq, Nat.reduceAdd, Nat.reduceEqDiff, reduceIte, Nat.reduceLeDiff, Nat.reduceLT, Nat.reduceSub]
      all_goals (repeat (with_reducible refine sAnd ?_))
      refine cond_of (by rfl) trivial (fun h4 => ?_) (fun h4 => ?_)
      · try simp (config := { maxSteps := 2000000 }) only [go_sem, reduceCtorEq, Nat.reduceAdd, Nat.reduceEqDiff, reduceIte, Nat.reduceLeDiff, Nat.reduceLT, Nat.reduceSub]
        all_goals (repeat (with_reducible refine sAnd ?_))
        refine fin_val rfl trivial (.inl ?_)
        congr 3
        refine fail_at hl hlt ?_
        rw [okAt, hup]
        grind
      · try simp (config := { maxSteps := 2000000 }) only [go_sem, reduceCtorEq, Nat.reduceAdd, Nat.reduceEqDiff, reduceIte, Nat.reduceLeDiff, Nat.reduceLT, Nat.reduceSub]
        all_goals (repeat (with_reducible refine sAnd ?_))
        have hmem : upOf d i ∈ chain d i ((i : Int) - 1) := by
          have := popTo_mem (u := upOf d i) (chain d i ((i : Int) - 1))
          rw [hpop] at this
          simpa using this
        have h5 : i ≠ 0 := by intro h0; subst h0; simp [chain] at hmem
        have h6 : okAt d i = true := by
          rw [okAt, hup]
          grind
        refine ⟨i + 1, by omega, ⟨by omega, by rw [docOk_succ, hok, h6]; rfl⟩, ?_⟩
        simp (config := { maxSteps := 2000000 }) only [go_sem, reduceCtorEq, Nat.reduceAdd, Nat.reduceEqDiff, reduceIte, Nat.reduceLeDiff, Nat.reduceLT, Nat.reduceSub, le_cons, le_nil, le_un, le_same]
        all_goals (repeat' (first | exact trivial | exact le_int (by omega) | exact le_bool rfl | exact le_eq rfl | exact le_nlo | exact le_refl _ | refine And.intro ?_ ?_))
        refine le_eq ?_
        have hups : ∀ j : Nat, (j : Int) ≤ (i : Int) - 1 → upOf d j < j := fun j hj => (docOk_up hok j (by omega)).2
        have hb := chain_bound i ((i : Int) - 1) hups _ hmem
        have hch := popTo_chain i ((i : Int) - 1) hups (by omega) hmem i (by omega)
        rw [hpop] at hch
        have : chain d (i + 1) (((i + 1 : Nat) : Int) - 1) = (i : Int) :: x :: c := by
          rw [show (((i + 1 : Nat) : Int) - 1) = (i : Int) by omega]
          simp only [chain]
          rw [if_neg (by omega), hch]
          simp
        rw [this]
        simp [intsR]
  · try simp (config := { maxSteps := 2000000 }) only [go_sem, reduceCtorEq, Nat.reduceAdd, Nat.reduceEqDiff, reduceIte, Nat.reduceLeDiff, Nat.reduceLT, Nat.reduceSub]
    all_goals (repeat (with_reducible refine sAnd ?_))
    refine fin_val rfl trivial (.inl ?_)
    congr 3
    have hi2 : i = d.length := by simp at h2; omega
    subst hi2
    simp [checkDoc, hl, hok]
end Go.Hx
end

section
set_option maxRecDepth 100000
set_option linter.unusedSimpArgs false
namespace Go.Hx
open Go.Proofs
variable [Glob]

attribute [local go_sem] ndsV_len clsV_len attV_len intsR_len ndV cellsEq
def behF (d : List Nd) (n : Nat) : Nat → Nat → Nat
  | 0, e => e
  | f + 1, e => if (n : Int) ≤ upOf d e then behF d n f (e + 1) else e
def behind (d : List Nd) (n : Nat) : Nat := behF d n (d.length - (n + 1)) (n + 1)
theorem behF_le {d : List Nd} {n : Nat} : ∀ (f e : Nat), e ≤ behF d n f e ∧ behF d n f e ≤ e + f
  | 0, e => by simp [behF]
  | f + 1, e => by
    simp only [behF]
    split
    · have := behF_le (d := d) (n := n) f (e + 1); omega
    · omega
theorem behind_le {d : List Nd} {n : Nat} (h : n < d.length) : n < behind d n ∧ behind d n ≤ d.length := by
  have := behF_le (d := d) (n := n) (d.length - (n + 1)) (n + 1)
  simp only [behind]; omega

theorem ndsV_out (d : List Nd) (i : Nat) (h : d.length ≤ i) : (ndsV d).getD i [] = [] := by simp [ndsV, h]
theorem c_doc_behind (d : List Nd) (n : Nat) (hn : n < d.length) : Contract Tryd.prog fn_doc_behind [.val (docV d), .val (iv n)] { res := .val (iv (behind d n)) } := by
  unfold docV
  refine mk_doc_behind (base := 0) ⟨Nat.le_of_ble_eq_true rfl, Nat.le_of_ble_eq_true rfl, Nat.le_of_ble_eq_true rfl, rfl⟩ (fun hfit => ?_)
  unfold F0 doc_behind_E
  simp (config := { maxSteps := 2000000 }) only [markU, List.set_cons_succ, List.set_cons_zero, List.map_cons, List.map_nil, argCt, setCells, ioOf, List.length_cons, List.length_nil, Nat.reduceAdd, Nat.reduceSub, List.replicate, List.cons_append, List.nil_append]
  try simp (config := { maxSteps := 2000000 }) only [go_sem, reduceCtorEq, Nat.reduceAdd, Nat.reduceEqDiff, reduceIte, Nat.reduceLeDiff, Nat.reduceLT, Nat.reduceSub]
  all_goals (repeat (with_reducible refine sAnd ?_))
  have hm := fits_sl (k := 5) hfit.1.1
  rw [ndsV_len] at hm
  try simp (config := { maxSteps := 2000000 }) only [go_sem, reduceCtorEq, Nat.reduceAdd, Nat.reduceEqDiff, reduceIte, Nat.reduceLeDiff, Nat.reduceLT, Nat.reduceSub]
  all_goals (repeat (with_reducible refine sAnd ?_))
  refine loop_sets (fun e : Nat => [(5, .pv (iv e)), (22, .un)]) (fun e : Nat => d.length - e) (fun e : Nat => n < e ∧ e ≤ d.length ∧ behF d n (d.length - e) e = behind d n) ((n + 1)) ?_ ⟨by omega, by omega, rfl⟩ ?_
  focus (simp (config := { maxSteps := 2000000 }) only [go_sem, reduceCtorEq, Nat.reduceAdd, Nat.reduceEqDiff, reduceIte, Nat.reduceLeDiff, Nat.reduceLT, Nat.reduceSub, le_cons, le_nil, le_un, le_same]; all_goals (repeat' (first | exact trivial | exact le_int (by omega) | exact le_bool rfl | exact le_eq rfl | exact le_nlo | exact le_refl _ | refine And.intro ?_ ?_)))
  intro e ⟨he, he2, hb⟩
  by_cases hlt : e < d.length
  · have hlt' : (e : Int) < d.length := by omega
    try simp (config := { maxSteps := 2000000 }) only [go_sem, reduceCtorEq, Nat.reduceAdd, Nat.reduceEqDiff, reduceIte, Nat.reduceLeDiff, Nat.reduceLT, Nat.reduceSub, ndsV_get _ _ hlt]
    all_goals (repeat (with_reducible refine sAnd ?_))
    refine cond_of (by rfl) trivial (fun h => ?_) (fun h => ?_)
    · try simp (config := { maxSteps := 2000000 }) only [go_sem, reduceCtorEq, Nat.reduceAdd, Nat.reduceEqDiff, reduceIte, Nat.reduceLeDiff, Nat.reduceLT, Nat.reduceSub]
      all_goals (repeat (with_reducible refine sAnd ?_))
      refine ⟨e + 1, by omega, ⟨by omega, by omega, ?_⟩, ?_⟩
      · rw [← hb, show d.length - e = (d.length - (e + 1)) + 1 by omega]
        simp only [behF]
        rw [if_pos]
        simp [upOf] at h ⊢
        grind
      · simp (config := { maxSteps := 2000000 }) only [go_sem, reduceCtorEq, Nat.reduceAdd, Nat.reduceEqDiff, reduceIte, Nat.reduceLeDiff, Nat.reduceLT, Nat.reduceSub, le_cons, le_nil, le_un, le_same]
        all_goals (repeat' (first | exact trivial | exact le_int (by omega) | exact le_bool rfl | exact le_eq rfl | exact le_nlo | exact le_refl _ | refine And.intro ?_ ?_))
    · try simp (config := { maxSteps := 2000000 }) only [go_sem, reduceCtorEq, Nat.reduceAdd, Nat.reduceEqDiff, reduceIte, Nat.reduceLeDiff, Nat.reduceLT, Nat.reduceSub]
      all_goals (repeat (with_reducible refine sAnd ?_))
      refine fin_val rfl trivial (.inl ?_)
      congr 3
      rw [← hb, show d.length - e = (d.length - (e + 1)) + 1 by omega]
      simp only [behF]
      rw [if_neg]
      simp [upOf] at h ⊢
      grind
  · have hge : d.length ≤ e := by omega
    have hd : decide ((e : Int) < (d.length : Int)) = false := by simp; omega
    try simp (config := { maxSteps := 2000000 }) only [go_sem, reduceCtorEq, Nat.reduceAdd, Nat.reduceEqDiff, reduceIte, Nat.reduceLeDiff, Nat.reduceLT, Nat.reduceSub, hd, ndsV_out _ _ hge, List.take_nil, List.headD_nil]
    all_goals (repeat (with_reducible refine sAnd ?_))
    refine cond_of (by rfl) trivial (fun h => ?_) (fun h => ?_)
    · simp at h; try omega
    · try simp (config := { maxSteps := 2000000 }) only [go_sem, reduceCtorEq, Nat.reduceAdd, Nat.reduceEqDiff, reduceIte, Nat.reduceLeDiff, Nat.reduceLT, Nat.reduceSub]
      all_goals (repeat (with_reducible refine sAnd ?_))
      refine fin_val rfl trivial (.inl ?_)
      congr 3
      rw [← hb, show d.length - e = 0 by omega]
      rfl

theorem c_doc_there (d : List Nd) (k : Int) : Contract Tryd.prog fn_doc_there [.val (docV d), .val (iv k)] { res := .val (iv (thereE d k)) } := by
  unfold docV
  refine mk_doc_there (base := 0) ⟨Nat.le_of_ble_eq_true rfl, Nat.le_of_ble_eq_true rfl, Nat.le_of_ble_eq_true rfl, rfl⟩ (fun hfit => ?_)
  unfold F0 doc_there_E
  simp (config := { maxSteps := 2000000 }) only [markU, List.set_cons_succ, List.set_cons_zero, List.map_cons, List.map_nil, argCt, setCells, ioOf, List.length_cons, List.length_nil, Nat.reduceAdd, Nat.reduceSub, List.replicate, List.cons_append, List.nil_append]
  try simp (config := { maxSteps := 2000000 }) only [go_sem, reduceCtorEq, Nat.reduceAdd, Nat.reduceEqDiff, reduceIte, Nat.reduceLeDiff, Nat.reduceLT, Nat.reduceSub]
  all_goals (repeat (with_reducible refine sAnd ?_))
  refine call_val (by repeat' constructor) (c_doc_Check d) ?_
  try simp (config := { maxSteps := 2000000 }) only [go_sem, reduceCtorEq, Nat.reduceAdd, Nat.reduceEqDiff, reduceIte, Nat.reduceLeDiff, Nat.reduceLT, Nat.reduceSub]
  all_goals (repeat (with_reducible refine sAnd ?_))
  refine cond_of (by rfl) trivial (fun h => ?_) (fun h => ?_)
  · try simp (config := { maxSteps := 2000000 }) only [go_sem, reduceCtorEq, Nat.reduceAdd, Nat.reduceEqDiff, reduceIte, Nat.reduceLeDiff, Nat.reduceLT, Nat.reduceSub]
    all_goals (repeat (with_reducible refine sAnd ?_))
    refine fin_val rfl trivial (.inl ?_)
    congr 3
    simp at h
    simp [thereE, h]
  try simp (config := { maxSteps := 2000000 }) only [go_sem, reduceCtorEq, Nat.reduceAdd, Nat.reduceEqDiff, reduceIte, Nat.reduceLeDiff, Nat.reduceLT, Nat.reduceSub]
  all_goals (repeat (with_reducible refine sAnd ?_))
  have hc : checkDoc d = 0 := by simpa using h
  refine cond_of (by rfl) trivial (fun h2 => ?_) (fun h2 => ?_)
  · try simp (config := { maxSteps := 2000000 }) only [go_sem, reduceCtorEq, Nat.reduceAdd, Nat.reduceEqDiff, reduceIte, Nat.reduceLeDiff, Nat.reduceLT, Nat.reduceSub]
    all_goals (repeat (with_reducible refine sAnd ?_))
    refine fin_val rfl trivial (.inl ?_)
    congr 3
    rw [thereE, if_pos hc, if_neg (by grind)]
  · try simp (config := { maxSteps := 2000000 }) only [go_sem, reduceCtorEq, Nat.reduceAdd, Nat.reduceEqDiff, reduceIte, Nat.reduceLeDiff, Nat.reduceLT, Nat.reduceSub]
    all_goals (repeat (with_reducible refine sAnd ?_))
    refine fin_val rfl trivial (.inl ?_)
    congr 3
    rw [thereE, if_pos hc, if_pos (by grind)]

def kidsF (d : List Nd) (n : Nat) : Nat → Nat → List Int
  | 0, _ => []
  | f + 1, i => if i < behind d n then (i : Int) :: kidsF d n f (behind d i) else []
def docKids (d : List Nd) (n : Nat) : List Int := kidsF d n d.length (n + 1)

theorem c_doc_kids (d : List Nd) (n : Nat) (hn : n < d.length) (hd : d.length ≤ 64) : Contract Tryd.prog fn_doc_kids [.val (docV d), .val (iv n)] { res := .own ty_int 1 (intsR (docKids d n)) } := by
  unfold docV
  refine mk_doc_kids (base := 0) ⟨Nat.le_of_ble_eq_true rfl, Nat.le_of_ble_eq_true rfl, Nat.le_of_ble_eq_true rfl, rfl⟩ (fun hfit => ?_)
  unfold F0 doc_kids_E
  simp (config := { maxSteps := 2000000 }) only [markU, List.set_cons_succ, List.set_cons_zero, List.map_cons, List.map_nil, argCt, setCells, ioOf, List.length_cons, List.length_nil, Nat.reduceAdd, Nat.reduceSub, List.replicate, List.cons_append, List.nil_append]
  try simp (config := { maxSteps := 2000000 }) only [go_sem, reduceCtorEq, Nat.reduceAdd, Nat.reduceEqDiff, reduceIte, Nat.reduceLeDiff, Nat.reduceLT, Nat.reduceSub]
  all_goals (repeat (with_reducible refine sAnd ?_))
  have hbn := behind_le hn
  refine loop_sets (fun s : List Int × Nat × Nat => [(5, .own ty_int 1 (intsR s.1)), (6, .pv (iv s.2.1)), (13, .un)]) (fun s : List Int × Nat × Nat => s.2.2) (fun s : List Int × Nat × Nat => s.1.length ≤ s.2.1 ∧ s.2.1 ≤ d.length ∧ d.length ≤ s.2.1 + s.2.2 ∧ s.1 ++ kidsF d n s.2.2 s.2.1 = docKids d n) (([], n + 1, d.length)) ?_ ⟨by simp, by simp; omega, by simp, by simp [docKids]⟩ ?_
  focus (simp (config := { maxSteps := 2000000 }) only [go_sem, reduceCtorEq, Nat.reduceAdd, Nat.reduceEqDiff, reduceIte, Nat.reduceLeDiff, Nat.reduceLT, Nat.reduceSub, le_cons, le_nil, le_un, le_same]; all_goals (repeat' (first | exact trivial | exact le_int (by omega) | exact le_bool rfl | exact le_eq rfl | exact le_nlo | exact le_refl _ | refine And.intro ?_ ?_)))
  intro ⟨out, i, f⟩ ⟨h1, h2, h3, h4⟩
  simp only at h1 h2 h3 h4 ⊢
  try simp (config := { maxSteps := 2000000 }) only [go_sem, reduceCtorEq, Nat.reduceAdd, Nat.reduceEqDiff, reduceIte, Nat.reduceLeDiff, Nat.reduceLT, Nat.reduceSub]
  all_goals (repeat (with_reducible refine sAnd ?_))
  refine call_val (by repeat' constructor) (c_doc_behind d n hn) ?_
  try simp (config := { maxSteps := 2000000 }) only [go_sem, reduceCtorEq, Nat.reduceAdd, Nat.reduceEqDiff, reduceIte, Nat.reduceLeDiff, Nat.reduceLT, Nat.reduceSub]
  all_goals (repeat (with_reducible refine sAnd ?_))
  refine cond_of (by rfl) trivial (fun h => ?_) (fun h => ?_)
  · have hi : i < behind d n := by simpa using h
    have hil : i < d.length := by omega
    have hbi := behind_le hil
    try simp (config := { maxSteps := 2000000 }) only [go_sem, reduceCtorEq, Nat.reduceAdd, Nat.reduceEqDiff, reduceIte, Nat.reduceLeDiff, Nat.reduceLT, Nat.reduceSub]
    all_goals (repeat (with_reducible refine sAnd ?_))
    refine call_val (by repeat' constructor) (c_doc_behind d i hil) ?_
    try simp (config := { maxSteps := 2000000 }) only [go_sem, reduceCtorEq, Nat.reduceAdd, Nat.reduceEqDiff, reduceIte, Nat.reduceLeDiff, Nat.reduceLT, Nat.reduceSub]
    all_goals (repeat (with_reducible refine sAnd ?_))
    cases f with
    | zero => omega
    | succ f =>
      refine ⟨(out ++ [(i : Int)], behind d i, f), by simp, ⟨by simp; omega, by simp; omega, by simp; omega, ?_⟩, ?_⟩
      · rw [← h4]
        simp only [kidsF]
        rw [if_pos hi]
        simp
      · simp (config := { maxSteps := 2000000 }) only [go_sem, reduceCtorEq, Nat.reduceAdd, Nat.reduceEqDiff, reduceIte, Nat.reduceLeDiff, Nat.reduceLT, Nat.reduceSub, le_cons, le_nil, le_un, le_same]
        all_goals (repeat' (first | exact trivial | exact le_int (by omega) | exact le_bool rfl | exact le_eq rfl | exact le_nlo | exact le_refl _ | refine And.intro ?_ ?_))
        exact le_own (by simp [intsR])
  · try simp (config := { maxSteps := 2000000 }) only [go_sem, reduceCtorEq, Nat.reduceAdd, Nat.reduceEqDiff, reduceIte, Nat.reduceLeDiff, Nat.reduceLT, Nat.reduceSub]
    all_goals (repeat (with_reducible refine sAnd ?_))
    have hi : ¬ i < behind d n := by simpa using h
    have : out = docKids d n := by
      rw [← h4]
      cases f with
      | zero => simp [kidsF]
      | succ f => simp [kidsF, hi]
    rw [← this]
    exact fin_own rfl

theorem intsR_nil' : intsR [] = [] := rfl
theorem c_doc_Kids (d : List Nd) (k : Int) : Contract Tryd.prog fn_doc_Kids [.val (docV d), .val (iv k)] { res := .tup [.one (.sl 1 (intsR (if thereE d k = 0 then docKids d k.toNat else []))), iv (thereE d k)] } := by
  unfold docV
  refine mk_doc_Kids (base := 0) ⟨Nat.le_of_ble_eq_true rfl, Nat.le_of_ble_eq_true rfl, Nat.le_of_ble_eq_true rfl, rfl⟩ (fun hfit => ?_)
  unfold F0 doc_Kids_E
  simp (config := { maxSteps := 2000000 }) only [markU, List.set_cons_succ, List.set_cons_zero, List.map_cons, List.map_nil, argCt, setCells, ioOf, List.length_cons, List.length_nil, Nat.reduceAdd, Nat.reduceSub, List.replicate, List.cons_append, List.nil_append]
  try simp (config := { maxSteps := 2000000 }) only [go_sem, reduceCtorEq, Nat.reduceAdd, Nat.reduceEqDiff, reduceIte, Nat.reduceLeDiff, Nat.reduceLT, Nat.reduceSub]
  all_goals (repeat (with_reducible refine sAnd ?_))
  refine call_val (by repeat' constructor) (c_doc_there d k) ?_
  try simp (config := { maxSteps := 2000000 }) only [go_sem, reduceCtorEq, Nat.reduceAdd, Nat.reduceEqDiff, reduceIte, Nat.reduceLeDiff, Nat.reduceLT, Nat.reduceSub]
  all_goals (repeat (with_reducible refine sAnd ?_))
  refine cond_of (by rfl) trivial (fun h => ?_) (fun h => ?_)
  · try simp (config := { maxSteps := 2000000 }) only [go_sem, reduceCtorEq, Nat.reduceAdd, Nat.reduceEqDiff, reduceIte, Nat.reduceLeDiff, Nat.reduceLT, Nat.reduceSub]
    all_goals (repeat (with_reducible refine sAnd ?_))
    have h2 : ¬ thereE d k = 0 := by simpa using h
    rw [if_neg h2]
    exact fin_tup (by simp) ⟨rs_tmp rfl trivial (.inr rfl), rs_tmp rfl trivial (.inl rfl), rfl⟩
  · try simp (config := { maxSteps := 2000000 }) only [go_sem, reduceCtorEq, Nat.reduceAdd, Nat.reduceEqDiff, reduceIte, Nat.reduceLeDiff, Nat.reduceLT, Nat.reduceSub]
    all_goals (repeat (with_reducible refine sAnd ?_))
    have h2 : thereE d k = 0 := by simpa using h
    obtain ⟨h3, h4, h5⟩ := thereE_ok h2
    obtain ⟨h6, h7, h8⟩ := checkDoc_ok h3
    rw [if_pos h2]
    obtain ⟨m, rfl⟩ : ∃ m : Nat, k = m := ⟨k.toNat, by omega⟩
    refine call_own (by repeat' constructor) (Contract.av (c_doc_kids d m (by omega) h7) (by first | rfl | (simp (config := { maxSteps := 2000000 }) only [go_sem, reduceCtorEq, Nat.reduceAdd, Nat.reduceEqDiff, reduceIte, Nat.reduceLeDiff, Nat.reduceLT, Nat.reduceSub]; done) | (simp (config := { maxSteps := 2000000 }) only [go_sem, reduceCtorEq, Nat.reduceAdd, Nat.reduceEqDiff, reduceIte, Nat.reduceLeDiff, Nat.reduceLT, Nat.reduceSub]; rfl))) ?_
    try simp (config := { maxSteps := 2000000 }) only [go_sem, reduceCtorEq, Nat.reduceAdd, Nat.reduceEqDiff, reduceIte, Nat.reduceLeDiff, Nat.reduceLT, Nat.reduceSub]
    all_goals (repeat (with_reducible refine sAnd ?_))
    rw [h2]
    exact fin_tup (by simp) ⟨rs_tmp rfl trivial (.inl rfl), rs_tmp rfl trivial (.inl rfl), rfl⟩

theorem c_doc_Under (d : List Nd) (k : Int) : Contract Tryd.prog fn_doc_Under [.val (docV d), .val (iv k)] { res := .tup [iv (if thereE d k = 0 then (behind d k.toNat : Int) - k - 1 else 0), iv (thereE d k)] } := by
  unfold docV
  refine mk_doc_Under (base := 0) ⟨Nat.le_of_ble_eq_true rfl, Nat.le_of_ble_eq_true rfl, Nat.le_of_ble_eq_true rfl, rfl⟩ (fun hfit => ?_)
  unfold F0 doc_Under_E
  simp (config := { maxSteps := 2000000 }) only [markU, List.set_cons_succ, List.set_cons_zero, List.map_cons, List.map_nil, argCt, setCells, ioOf, List.length_cons, List.length_nil, Nat.reduceAdd, Nat.reduceSub, List.replicate, List.cons_append, List.nil_append]
  try simp (config := { maxSteps := 2000000 }) only [go_sem, reduceCtorEq, Nat.reduceAdd, Nat.reduceEqDiff, reduceIte, Nat.reduceLeDiff, Nat.reduceLT, Nat.reduceSub]
  all_goals (repeat (with_reducible refine sAnd ?_))
  refine call_val (by repeat' constructor) (c_doc_there d k) ?_
  try simp (config := { maxSteps := 2000000 }) only [go_sem, reduceCtorEq, Nat.reduceAdd, Nat.reduceEqDiff, reduceIte, Nat.reduceLeDiff, Nat.reduceLT, Nat.reduceSub]
  all_goals (repeat (with_reducible refine sAnd ?_))
  refine cond_of (by rfl) trivial (fun h => ?_) (fun h => ?_)
  · try simp (config := { maxSteps := 2000000 }) only [go_sem, reduceCtorEq, Nat.reduceAdd, Nat.reduceEqDiff, reduceIte, Nat.reduceLeDiff, Nat.reduceLT, Nat.reduceSub]
    all_goals (repeat (with_reducible refine sAnd ?_))
    have h2 : ¬ thereE d k = 0 := by simpa using h
    rw [if_neg h2]
    exact fin_tup (by simp) ⟨rs_tmp rfl trivial (.inl rfl), rs_tmp rfl trivial (.inl rfl), rfl⟩
  · try simp (config := { maxSteps := 2000000 }) only [go_sem, reduceCtorEq, Nat.reduceAdd, Nat.reduceEqDiff, reduceIte, Nat.reduceLeDiff, Nat.reduceLT, Nat.reduceSub]
    all_goals (repeat (with_reducible refine sAnd ?_))
    have h2 : thereE d k = 0 := by simpa using h
    obtain ⟨h3, h4, h5⟩ := thereE_ok h2
    obtain ⟨h6, h7, h8⟩ := checkDoc_ok h3
    rw [if_pos h2]
    obtain ⟨m, rfl⟩ : ∃ m : Nat, k = m := ⟨k.toNat, by omega⟩
    have hb := behind_le (d := d) (n := m) (by omega)
    refine call_val (by repeat' constructor) (Contract.av (c_doc_behind d m (by omega)) (by first | rfl | (simp (config := { maxSteps := 2000000 }) only [go_sem, reduceCtorEq, Nat.reduceAdd, Nat.reduceEqDiff, reduceIte, Nat.reduceLeDiff, Nat.reduceLT, Nat.reduceSub]; done) | (simp (config := { maxSteps := 2000000 }) only [go_sem, reduceCtorEq, Nat.reduceAdd, Nat.reduceEqDiff, reduceIte, Nat.reduceLeDiff, Nat.reduceLT, Nat.reduceSub]; rfl))) ?_
    try simp (config := { maxSteps := 2000000 }) only [go_sem, reduceCtorEq, Nat.reduceAdd, Nat.reduceEqDiff, reduceIte, Nat.reduceLeDiff, Nat.reduceLT, Nat.reduceSub]
    all_goals (repeat (with_reducible refine sAnd ?_))
    rw [h2]
    exact fin_tup (by simp) ⟨rs_tmp rfl trivial (.inl rfl), rs_tmp rfl trivial (.inl rfl), rfl⟩

end Go.Hx
end

section
set_option maxRecDepth 100000
set_option linter.unusedSimpArgs false
namespace Go.Hx
open Go.Proofs
variable [Glob]

attribute [local go_sem] ndsV_len clsV_len attV_len intsR_len ndV cellsEq
theorem c_slices_Clone_string (l : List Bys) (hl : l.length ≤ 64) : Contract Tryd.prog fn_slices_Clone_string [.val (.one (.sl 1 (clsV l)))] { res := .own ty_string 1 (clsV l) } := by
  refine mk_slices_Clone_string (base := 0) ⟨Nat.le_of_ble_eq_true rfl, Nat.le_of_ble_eq_true rfl, Nat.le_of_ble_eq_true rfl, rfl⟩ (fun hfit => ?_)
  unfold F0 slices_Clone_string_E
  simp (config := { maxSteps := 2000000 }) only [markU, List.set_cons_succ, List.set_cons_zero, List.map_cons, List.map_nil, argCt, setCells, ioOf, List.length_cons, List.length_nil, Nat.reduceAdd, Nat.reduceSub, List.replicate, List.cons_append, List.nil_append]
  try simp (config := { maxSteps := 2000000 }) only [go_sem, reduceCtorEq, Nat.reduceAdd, Nat.reduceEqDiff, reduceIte, Nat.reduceLeDiff, Nat.reduceLT, Nat.reduceSub]
  all_goals (repeat (with_reducible refine sAnd ?_))
  intro b hb
  refine cond_of (by rfl) trivial (fun h => ?_) (fun h => ?_)
  · try simp (config := { maxSteps := 2000000 }) only [go_sem, reduceCtorEq, Nat.reduceAdd, Nat.reduceEqDiff, reduceIte, Nat.reduceLeDiff, Nat.reduceLT, Nat.reduceSub]
    all_goals (repeat (with_reducible refine sAnd ?_))
    have : clsV l = [] := by
      apply Classical.byContradiction
      intro h2; rw [hb h2] at h; cases h
    rw [this]
    exact fin_own rfl
  · try simp (config := { maxSteps := 2000000 }) only [go_sem, reduceCtorEq, Nat.reduceAdd, Nat.reduceEqDiff, reduceIte, Nat.reduceLeDiff, Nat.reduceLT, Nat.reduceSub]
    all_goals (repeat (with_reducible refine sAnd ?_))
    exact fin_own rfl
theorem c_slices_Clone_Attr (l : List (Bys × Bys)) (hl : l.length ≤ 64) : Contract Tryd.prog fn_slices_Clone_Attr [.val (.one (.sl 2 (attV l)))] { res := .own ty_api_Attr 2 (attV l) } := by
  refine mk_slices_Clone_Attr (base := 0) ⟨Nat.le_of_ble_eq_true rfl, Nat.le_of_ble_eq_true rfl, Nat.le_of_ble_eq_true rfl, rfl⟩ (fun hfit => ?_)
  unfold F0 slices_Clone_Attr_E
  simp (config := { maxSteps := 2000000 }) only [markU, List.set_cons_succ, List.set_cons_zero, List.map_cons, List.map_nil, argCt, setCells, ioOf, List.length_cons, List.length_nil, Nat.reduceAdd, Nat.reduceSub, List.replicate, List.cons_append, List.nil_append]
  try simp (config := { maxSteps := 2000000 }) only [go_sem, reduceCtorEq, Nat.reduceAdd, Nat.reduceEqDiff, reduceIte, Nat.reduceLeDiff, Nat.reduceLT, Nat.reduceSub]
  all_goals (repeat (with_reducible refine sAnd ?_))
  intro b hb
  refine cond_of (by rfl) trivial (fun h => ?_) (fun h => ?_)
  · try simp (config := { maxSteps := 2000000 }) only [go_sem, reduceCtorEq, Nat.reduceAdd, Nat.reduceEqDiff, reduceIte, Nat.reduceLeDiff, Nat.reduceLT, Nat.reduceSub]
    all_goals (repeat (with_reducible refine sAnd ?_))
    have : attV l = [] := by
      apply Classical.byContradiction
      intro h2; rw [hb h2] at h; cases h
    rw [this]
    exact fin_own rfl
  · try simp (config := { maxSteps := 2000000 }) only [go_sem, reduceCtorEq, Nat.reduceAdd, Nat.reduceEqDiff, reduceIte, Nat.reduceLeDiff, Nat.reduceLT, Nat.reduceSub]
    all_goals (repeat (with_reducible refine sAnd ?_))
    exact fin_own rfl

def turnUp (g : Int → Int) (x : Nd) : Nd := { x with up := g x.up }
def smallNd (x : Nd) : Prop := x.cls.length ≤ 64 ∧ x.att.length ≤ 64
theorem mem_getD {l : List Nd} {i : Nat} (h : i < l.length) : l.getD i default ∈ l := by
  simp [h]
theorem c_doc_own (l : List Nd) (f : Nat) (caps : List PV) (g : Int → Int) (hl : l.length ≤ 64) (hs : ∀ x ∈ l, smallNd x)
    (hg : ∀ x ∈ l, Contract Tryd.prog f ([.val (iv x.up)] ++ caps.map fun c => .val (.one c)) { res := .val (iv (g x.up)) }) :
    Contract Tryd.prog fn_doc_own [.val (.one (.sl 5 (ndsV l))), .val (.one (.clo f caps))] { res := .own ty_api_Node 5 (ndsV (l.map (turnUp g))) } := by
  refine mk_doc_own (base := 0) ⟨Nat.le_of_ble_eq_true rfl, Nat.le_of_ble_eq_true rfl, Nat.le_of_ble_eq_true rfl, rfl⟩ (fun hfit => ?_)
  unfold F0 doc_own_E
  simp (config := { maxSteps := 2000000 }) only [markU, List.set_cons_succ, List.set_cons_zero, List.map_cons, List.map_nil, argCt, setCells, ioOf, List.length_cons, List.length_nil, Nat.reduceAdd, Nat.reduceSub, List.replicate, List.cons_append, List.nil_append]
  try simp (config := { maxSteps := 2000000 }) only [go_sem, reduceCtorEq, Nat.reduceAdd, Nat.reduceEqDiff, reduceIte, Nat.reduceLeDiff, Nat.reduceLT, Nat.reduceSub]
  all_goals (repeat (with_reducible refine sAnd ?_))
  refine loop_sets (fun i : Nat => [(5, .own ty_api_Node 5 (ndsV ((l.take i).map (turnUp g)))), (7, .un), (10, .pv (iv i)), (11, .un), (33, .un), (34, .un), (35, .un), (36, .un), (37, .un)]) (fun i : Nat => l.length - i) (fun i : Nat => i ≤ l.length) (0) ?_ (Nat.zero_le _) ?_
  focus (simp (config := { maxSteps := 2000000 }) only [go_sem, reduceCtorEq, Nat.reduceAdd, Nat.reduceEqDiff, reduceIte, Nat.reduceLeDiff, Nat.reduceLT, Nat.reduceSub, le_cons, le_nil, le_un, le_same]; all_goals (repeat' (first | exact trivial | exact le_int (by omega) | exact le_bool rfl | exact le_eq rfl | exact le_nlo | exact le_refl _ | refine And.intro ?_ ?_)))
  intro i hi
  try simp (config := { maxSteps := 2000000 }) only [go_sem, reduceCtorEq, Nat.reduceAdd, Nat.reduceEqDiff, reduceIte, Nat.reduceLeDiff, Nat.reduceLT, Nat.reduceSub]
  all_goals (repeat (with_reducible refine sAnd ?_))
  refine cond_of (by rfl) trivial (fun h => ?_) (fun h => ?_)
  · have hlt : i < l.length := by simpa using h
    have hmem := mem_getD hlt
    obtain ⟨hs1, hs2⟩ := hs _ hmem
    try simp (config := { maxSteps := 2000000 }) only [go_sem, reduceCtorEq, Nat.reduceAdd, Nat.reduceEqDiff, reduceIte, Nat.reduceLeDiff, Nat.reduceLT, Nat.reduceSub, ndsV_get _ _ hlt]
    all_goals (repeat (with_reducible refine sAnd ?_))
    refine callv_val (by rfl) trivial (by repeat' constructor) (hg _ hmem) ?_
    try simp (config := { maxSteps := 2000000 }) only [go_sem, reduceCtorEq, Nat.reduceAdd, Nat.reduceEqDiff, reduceIte, Nat.reduceLeDiff, Nat.reduceLT, Nat.reduceSub]
    all_goals (repeat (with_reducible refine sAnd ?_))
    refine call_own (by repeat' constructor) (c_slices_Clone_string _ hs1) ?_
    try simp (config := { maxSteps := 2000000 }) only [go_sem, reduceCtorEq, Nat.reduceAdd, Nat.reduceEqDiff, reduceIte, Nat.reduceLeDiff, Nat.reduceLT, Nat.reduceSub]
    all_goals (repeat (with_reducible refine sAnd ?_))
    refine call_own (by repeat' constructor) (c_slices_Clone_Attr _ hs2) ?_
    try simp (config := { maxSteps := 2000000 }) only [go_sem, reduceCtorEq, Nat.reduceAdd, Nat.reduceEqDiff, reduceIte, Nat.reduceLeDiff, Nat.reduceLT, Nat.reduceSub]
    all_goals (repeat (with_reducible refine sAnd ?_))
    refine ⟨i + 1, by omega, hlt, ?_⟩
    simp (config := { maxSteps := 2000000 }) only [go_sem, reduceCtorEq, Nat.reduceAdd, Nat.reduceEqDiff, reduceIte, Nat.reduceLeDiff, Nat.reduceLT, Nat.reduceSub, le_cons, le_nil, le_un, le_same]
    all_goals (repeat' (first | exact trivial | exact le_int (by omega) | exact le_bool rfl | exact le_eq rfl | exact le_nlo | exact le_refl _ | refine And.intro ?_ ?_))
    refine le_own ?_
    rw [take_map_succ default hlt, ndsV_app]
    rfl
  · try simp (config := { maxSteps := 2000000 }) only [go_sem, reduceCtorEq, Nat.reduceAdd, Nat.reduceEqDiff, reduceIte, Nat.reduceLeDiff, Nat.reduceLT, Nat.reduceSub]
    all_goals (repeat (with_reducible refine sAnd ?_))
    have : i = l.length := by simp at h; omega
    subst this
    rw [List.take_length]
    exact fin_own rfl

theorem c_doc_Part_1 (up n : Int) (h1 : -1000 ≤ up ∧ up ≤ 1000) (h2 : -1000 ≤ n ∧ n ≤ 1000) : Contract Tryd.prog fn_doc_Part_1 [.val (iv up), .val (.one (.fp [bI n]))] { res := .val (iv (max (up - n) (-1))) } := by
  refine mk_doc_Part_1 (base := 0) ⟨Nat.le_of_ble_eq_true rfl, Nat.le_of_ble_eq_true rfl, Nat.le_of_ble_eq_true rfl, rfl⟩ (fun hfit => ?_)
  unfold F0 doc_Part_1_E
  simp (config := { maxSteps := 2000000 }) only [markU, List.set_cons_succ, List.set_cons_zero, List.map_cons, List.map_nil, argCt, setCells, ioOf, List.length_cons, List.length_nil, Nat.reduceAdd, Nat.reduceSub, List.replicate, List.cons_append, List.nil_append]
  try simp (config := { maxSteps := 2000000 }) only [go_sem, reduceCtorEq, Nat.reduceAdd, Nat.reduceEqDiff, reduceIte, Nat.reduceLeDiff, Nat.reduceLT, Nat.reduceSub]
  all_goals (repeat (with_reducible refine sAnd ?_))
  try simp (config := { maxSteps := 2000000 }) only [go_sem, reduceCtorEq, Nat.reduceAdd, Nat.reduceEqDiff, reduceIte, Nat.reduceLeDiff, Nat.reduceLT, Nat.reduceSub]
  all_goals (repeat (with_reducible refine sAnd ?_))
  refine fin_val rfl trivial (.inl ?_)
  congr 3
  omega
theorem c_doc_Put_1 (up : Int) : Contract Tryd.prog fn_doc_Put_1 [.val (iv up)] { res := .val (iv up) } := by
  refine mk_doc_Put_1 (base := 0) ⟨Nat.le_of_ble_eq_true rfl, Nat.le_of_ble_eq_true rfl, Nat.le_of_ble_eq_true rfl, rfl⟩ (fun hfit => ?_)
  unfold F0 doc_Put_1_E
  simp (config := { maxSteps := 2000000 }) only [markU, List.set_cons_succ, List.set_cons_zero, List.map_cons, List.map_nil, argCt, setCells, ioOf, List.length_cons, List.length_nil, Nat.reduceAdd, Nat.reduceSub, List.replicate, List.cons_append, List.nil_append]
  try simp (config := { maxSteps := 2000000 }) only [go_sem, reduceCtorEq, Nat.reduceAdd, Nat.reduceEqDiff, reduceIte, Nat.reduceLeDiff, Nat.reduceLT, Nat.reduceSub]
  all_goals (repeat (with_reducible refine sAnd ?_))
  try simp (config := { maxSteps := 2000000 }) only [go_sem, reduceCtorEq, Nat.reduceAdd, Nat.reduceEqDiff, reduceIte, Nat.reduceLeDiff, Nat.reduceLT, Nat.reduceSub]
  all_goals (repeat (with_reducible refine sAnd ?_))
  refine fin_val rfl trivial (.inl ?_)
  congr 3
theorem c_doc_Remove_1 (up n e : Int) (h1 : -1000 ≤ up ∧ up ≤ 1000) (h2 : -1000 ≤ n ∧ n ≤ 1000) (h3 : -1000 ≤ e ∧ e ≤ 1000) : Contract Tryd.prog fn_doc_Remove_1 [.val (iv up), .val (.one (.fp [bI e])), .val (.one (.fp [bI n]))] { res := .val (iv (if up ≥ e then up - e + n else up)) } := by
  refine mk_doc_Remove_1 (base := 0) ⟨Nat.le_of_ble_eq_true rfl, Nat.le_of_ble_eq_true rfl, Nat.le_of_ble_eq_true rfl, rfl⟩ (fun hfit => ?_)
  unfold F0 doc_Remove_1_E
  simp (config := { maxSteps := 2000000 }) only [markU, List.set_cons_succ, List.set_cons_zero, List.map_cons, List.map_nil, argCt, setCells, ioOf, List.length_cons, List.length_nil, Nat.reduceAdd, Nat.reduceSub, List.replicate, List.cons_append, List.nil_append]
  try simp (config := { maxSteps := 2000000 }) only [go_sem, reduceCtorEq, Nat.reduceAdd, Nat.reduceEqDiff, reduceIte, Nat.reduceLeDiff, Nat.reduceLT, Nat.reduceSub]
  all_goals (repeat (with_reducible refine sAnd ?_))
  refine cond_of (by rfl) trivial (fun h => ?_) (fun h => ?_)
  · try simp (config := { maxSteps := 2000000 }) only [go_sem, reduceCtorEq, Nat.reduceAdd, Nat.reduceEqDiff, reduceIte, Nat.reduceLeDiff, Nat.reduceLT, Nat.reduceSub]
    all_goals (repeat (with_reducible refine sAnd ?_))
    refine fin_val rfl trivial (.inl ?_)
    congr 3
    rw [if_pos (by simpa using h)]
  · try simp (config := { maxSteps := 2000000 }) only [go_sem, reduceCtorEq, Nat.reduceAdd, Nat.reduceEqDiff, reduceIte, Nat.reduceLeDiff, Nat.reduceLT, Nat.reduceSub]
    all_goals (repeat (with_reducible refine sAnd ?_))
    refine fin_val rfl trivial (.inl ?_)
    congr 3
    rw [if_neg (by simpa using h)]
theorem c_doc_Insert_1 (up n : Int) (e : List Nd) (h1 : -1000 ≤ up ∧ up ≤ 1000) (h2 : -1000 ≤ n ∧ n ≤ 1000) (h3 : e.length ≤ 64) : Contract Tryd.prog fn_doc_Insert_1 [.val (iv up), .val (.one (.fp [bI n])), .val (.one (.fp [.sl 5 (ndsV e)]))] { res := .val (iv (if up ≥ n then up + e.length else up)) } := by
  refine mk_doc_Insert_1 (base := 0) ⟨Nat.le_of_ble_eq_true rfl, Nat.le_of_ble_eq_true rfl, Nat.le_of_ble_eq_true rfl, rfl⟩ (fun hfit => ?_)
  unfold F0 doc_Insert_1_E
  simp (config := { maxSteps := 2000000 }) only [markU, List.set_cons_succ, List.set_cons_zero, List.map_cons, List.map_nil, argCt, setCells, ioOf, List.length_cons, List.length_nil, Nat.reduceAdd, Nat.reduceSub, List.replicate, List.cons_append, List.nil_append]
  try simp (config := { maxSteps := 2000000 }) only [go_sem, reduceCtorEq, Nat.reduceAdd, Nat.reduceEqDiff, reduceIte, Nat.reduceLeDiff, Nat.reduceLT, Nat.reduceSub]
  all_goals (repeat (with_reducible refine sAnd ?_))
  refine cond_of (by rfl) trivial (fun h => ?_) (fun h => ?_)
  · try simp (config := { maxSteps := 2000000 }) only [go_sem, reduceCtorEq, Nat.reduceAdd, Nat.reduceEqDiff, reduceIte, Nat.reduceLeDiff, Nat.reduceLT, Nat.reduceSub]
    all_goals (repeat (with_reducible refine sAnd ?_))
    refine fin_val rfl trivial (.inl ?_)
    congr 3
    rw [if_pos (by simpa using h)]
  · try simp (config := { maxSteps := 2000000 }) only [go_sem, reduceCtorEq, Nat.reduceAdd, Nat.reduceEqDiff, reduceIte, Nat.reduceLeDiff, Nat.reduceLT, Nat.reduceSub]
    all_goals (repeat (with_reducible refine sAnd ?_))
    refine fin_val rfl trivial (.inl ?_)
    congr 3
    rw [if_neg (by simpa using h)]
theorem c_doc_Insert_2 (k n up : Int) (h1 : -1000 ≤ k ∧ k ≤ 1000) (h2 : -1000 ≤ n ∧ n ≤ 1000) : Contract Tryd.prog fn_doc_Insert_2 [.val (iv k), .val (.one (.fp [bI up])), .val (.one (.fp [bI n]))] { res := .val (iv (if k < 0 then up else k + n)) } := by
  refine mk_doc_Insert_2 (base := 0) ⟨Nat.le_of_ble_eq_true rfl, Nat.le_of_ble_eq_true rfl, Nat.le_of_ble_eq_true rfl, rfl⟩ (fun hfit => ?_)
  unfold F0 doc_Insert_2_E
  simp (config := { maxSteps := 2000000 }) only [markU, List.set_cons_succ, List.set_cons_zero, List.map_cons, List.map_nil, argCt, setCells, ioOf, List.length_cons, List.length_nil, Nat.reduceAdd, Nat.reduceSub, List.replicate, List.cons_append, List.nil_append]
  try simp (config := { maxSteps := 2000000 }) only [go_sem, reduceCtorEq, Nat.reduceAdd, Nat.reduceEqDiff, reduceIte, Nat.reduceLeDiff, Nat.reduceLT, Nat.reduceSub]
  all_goals (repeat (with_reducible refine sAnd ?_))
  refine cond_of (by rfl) trivial (fun h => ?_) (fun h => ?_)
  · try simp (config := { maxSteps := 2000000 }) only [go_sem, reduceCtorEq, Nat.reduceAdd, Nat.reduceEqDiff, reduceIte, Nat.reduceLeDiff, Nat.reduceLT, Nat.reduceSub]
    all_goals (repeat (with_reducible refine sAnd ?_))
    refine fin_val rfl trivial (.inl ?_)
    congr 3
    rw [if_pos (by simpa using h)]
  · try simp (config := { maxSteps := 2000000 }) only [go_sem, reduceCtorEq, Nat.reduceAdd, Nat.reduceEqDiff, reduceIte, Nat.reduceLeDiff, Nat.reduceLT, Nat.reduceSub]
    all_goals (repeat (with_reducible refine sAnd ?_))
    refine fin_val rfl trivial (.inl ?_)
    congr 3
    rw [if_neg (by simpa using h)]

theorem c_slices_Grow_Node (n : Nat) (hn : n ≤ 1000) : Contract Tryd.prog fn_slices_Grow_Node [.val (.one (.nl 5)), .val (iv n)] { res := .own ty_api_Node 5 [] } := Go.Proofs.c_slices_Grow_Node n hn

def sls (ls : List (List Nd)) : List (List PV) := ls.map fun l => [.sl 5 (ndsV l)]
theorem sls_len (ls : List (List Nd)) : (sls ls).length = ls.length := by simp [sls]
theorem sls_get (ls : List (List Nd)) (i : Nat) (h : i < ls.length) : (sls ls).getD i [] = [.sl 5 (ndsV (ls.getD i []))] := by simp [sls, h]
theorem flat_take_succ (ls : List (List Nd)) (i : Nat) (h : i < ls.length) : (ls.take (i + 1)).flatten = (ls.take i).flatten ++ ls.getD i [] := by
  rw [take_succ_d [] h]; simp
theorem flat_len (ls : List (List Nd)) (i : Nat) (h : i < ls.length) : (ls.take i).flatten.length + (ls.getD i []).length ≤ ls.flatten.length := by
  have e : ls.flatten = (ls.take (i + 1)).flatten ++ (ls.drop (i + 1)).flatten := by rw [← List.flatten_append, List.take_append_drop]
  rw [e, flat_take_succ ls i h]; simp
theorem c_slices_Concat_Node (ls : List (List Nd)) (hl : ls.flatten.length ≤ 1000) (hn : ls.length ≤ 10) : Contract Tryd.prog fn_slices_Concat_Node [.val (.one (.sl 1 (sls ls)))] { res := .own ty_api_Node 5 (ndsV ls.flatten) } := by
  refine mk_slices_Concat_Node (base := 0) ⟨Nat.le_of_ble_eq_true rfl, Nat.le_of_ble_eq_true rfl, Nat.le_of_ble_eq_true rfl, rfl⟩ (fun hfit => ?_)
  unfold F0 slices_Concat_Node_E
  simp (config := { maxSteps := 2000000 }) only [markU, List.set_cons_succ, List.set_cons_zero, List.map_cons, List.map_nil, argCt, setCells, ioOf, List.length_cons, List.length_nil, Nat.reduceAdd, Nat.reduceSub, List.replicate, List.cons_append, List.nil_append]
  try simp (config := { maxSteps := 2000000 }) only [go_sem, reduceCtorEq, Nat.reduceAdd, Nat.reduceEqDiff, reduceIte, Nat.reduceLeDiff, Nat.reduceLT, Nat.reduceSub]
  all_goals (repeat (with_reducible refine sAnd ?_))
  try simp (config := { maxSteps := 2000000 }) only [go_sem, reduceCtorEq, Nat.reduceAdd, Nat.reduceEqDiff, reduceIte, Nat.reduceLeDiff, Nat.reduceLT, Nat.reduceSub, sls_len]
  all_goals (repeat (with_reducible refine sAnd ?_))
  refine loop_sets (fun i : Nat => [(3, .pv (iv ((ls.take i).flatten.length))), (5, .un), (11, .pv (iv i)), (12, .un), (20, .un)]) (fun i : Nat => ls.length - i) (fun i : Nat => i ≤ ls.length) (0) ?_ (Nat.zero_le _) ?_
  focus (simp (config := { maxSteps := 2000000 }) only [go_sem, reduceCtorEq, Nat.reduceAdd, Nat.reduceEqDiff, reduceIte, Nat.reduceLeDiff, Nat.reduceLT, Nat.reduceSub, le_cons, le_nil, le_un, le_same]; all_goals (repeat' (first | exact trivial | exact le_int (by omega) | exact le_bool rfl | exact le_eq rfl | exact le_nlo | exact le_refl _ | refine And.intro ?_ ?_)))
  intro i hi
  try simp (config := { maxSteps := 2000000 }) only [go_sem, reduceCtorEq, Nat.reduceAdd, Nat.reduceEqDiff, reduceIte, Nat.reduceLeDiff, Nat.reduceLT, Nat.reduceSub]
  all_goals (repeat (with_reducible refine sAnd ?_))
  refine cond_of (by rfl) trivial (fun h => ?_) (fun h => ?_)
  · have hlt : i < ls.length := by simpa using h
    have hfl := flat_len ls i hlt
    try simp (config := { maxSteps := 2000000 }) only [go_sem, reduceCtorEq, Nat.reduceAdd, Nat.reduceEqDiff, reduceIte, Nat.reduceLeDiff, Nat.reduceLT, Nat.reduceSub, sls_len, sls_get _ _ hlt]
    all_goals (repeat (with_reducible refine sAnd ?_))
    refine cond_of (by rfl) trivial (fun h2 => ?_) (fun h2 => ?_)
    · exfalso; simp at h2; omega
    · try simp (config := { maxSteps := 2000000 }) only [go_sem, reduceCtorEq, Nat.reduceAdd, Nat.reduceEqDiff, reduceIte, Nat.reduceLeDiff, Nat.reduceLT, Nat.reduceSub]
      all_goals (repeat (with_reducible refine sAnd ?_))
      refine ⟨i + 1, by omega, hlt, ?_⟩
      simp (config := { maxSteps := 2000000 }) only [go_sem, reduceCtorEq, Nat.reduceAdd, Nat.reduceEqDiff, reduceIte, Nat.reduceLeDiff, Nat.reduceLT, Nat.reduceSub, le_cons, le_nil, le_un, le_same]
      all_goals (repeat' (first | exact trivial | exact le_int (by omega) | exact le_bool rfl | exact le_eq rfl | exact le_nlo | exact le_refl _ | refine And.intro ?_ ?_))
      rw [flat_take_succ ls i hlt]
      exact le_int (by simp)
  try simp (config := { maxSteps := 2000000 }) only [go_sem, reduceCtorEq, Nat.reduceAdd, Nat.reduceEqDiff, reduceIte, Nat.reduceLeDiff, Nat.reduceLT, Nat.reduceSub]
  all_goals (repeat (with_reducible refine sAnd ?_))
  have hi2 : i = ls.length := by simp at h; omega
  subst hi2
  rw [List.take_length]
  refine call_own (by repeat' constructor) (c_slices_Grow_Node _ hl) ?_
  try simp (config := { maxSteps := 2000000 }) only [go_sem, reduceCtorEq, Nat.reduceAdd, Nat.reduceEqDiff, reduceIte, Nat.reduceLeDiff, Nat.reduceLT, Nat.reduceSub]
  all_goals (repeat (with_reducible refine sAnd ?_))
  try simp (config := { maxSteps := 2000000 }) only [go_sem, reduceCtorEq, Nat.reduceAdd, Nat.reduceEqDiff, reduceIte, Nat.reduceLeDiff, Nat.reduceLT, Nat.reduceSub, sls_len]
  all_goals (repeat (with_reducible refine sAnd ?_))
  refine loop_sets (fun i : Nat => [(6, .own ty_api_Node 5 (ndsV (ls.take i).flatten)), (8, .un), (27, .pv (iv i)), (28, .un)]) (fun i : Nat => ls.length - i) (fun i : Nat => i ≤ ls.length) (0) ?_ (Nat.zero_le _) ?_
  focus (simp (config := { maxSteps := 2000000 }) only [go_sem, reduceCtorEq, Nat.reduceAdd, Nat.reduceEqDiff, reduceIte, Nat.reduceLeDiff, Nat.reduceLT, Nat.reduceSub, le_cons, le_nil, le_un, le_same]; all_goals (repeat' (first | exact trivial | exact le_int (by omega) | exact le_bool rfl | exact le_eq rfl | exact le_nlo | exact le_refl _ | refine And.intro ?_ ?_)))
  intro i hi
  try simp (config := { maxSteps := 2000000 }) only [go_sem, reduceCtorEq, Nat.reduceAdd, Nat.reduceEqDiff, reduceIte, Nat.reduceLeDiff, Nat.reduceLT, Nat.reduceSub]
  all_goals (repeat (with_reducible refine sAnd ?_))
  refine cond_of (by rfl) trivial (fun h => ?_) (fun h => ?_)
  · have hlt : i < ls.length := by simpa using h
    have hfl := flat_len ls i hlt
    try simp (config := { maxSteps := 2000000 }) only [go_sem, reduceCtorEq, Nat.reduceAdd, Nat.reduceEqDiff, reduceIte, Nat.reduceLeDiff, Nat.reduceLT, Nat.reduceSub, sls_len, sls_get _ _ hlt]
    all_goals (repeat (with_reducible refine sAnd ?_))
    refine ⟨i + 1, by omega, hlt, ?_⟩
    simp (config := { maxSteps := 2000000 }) only [go_sem, reduceCtorEq, Nat.reduceAdd, Nat.reduceEqDiff, reduceIte, Nat.reduceLeDiff, Nat.reduceLT, Nat.reduceSub, le_cons, le_nil, le_un, le_same]
    all_goals (repeat' (first | exact trivial | exact le_int (by omega) | exact le_bool rfl | exact le_eq rfl | exact le_nlo | exact le_refl _ | refine And.intro ?_ ?_))
    rw [flat_take_succ ls i hlt, ndsV_app]
    exact le_own rfl
  try simp (config := { maxSteps := 2000000 }) only [go_sem, reduceCtorEq, Nat.reduceAdd, Nat.reduceEqDiff, reduceIte, Nat.reduceLeDiff, Nat.reduceLT, Nat.reduceSub]
  all_goals (repeat (with_reducible refine sAnd ?_))
  have hi2 : i = ls.length := by simp at h; omega
  subst hi2
  rw [List.take_length]
  exact fin_own rfl
end Go.Hx
end

section
-- DOM ndsV_take, ndsV_drop, List.take_length
set_option maxRecDepth 100000
set_option linter.unusedSimpArgs false
namespace Go.Hx
open Go.Proofs
variable [Glob]

attribute [local go_sem] ndsV_len clsV_len attV_len intsR_len ndV cellsEq List.take_length
theorem ndsV_take (d : List Nd) (n : Nat) : (ndsV d).take n = ndsV (d.take n) := by simp [ndsV]
attribute [local go_sem] ndsV_take
theorem ndsV_drop (d : List Nd) (n : Nat) : (ndsV d).drop n = ndsV (d.drop n) := by simp [ndsV]
attribute [local go_sem] ndsV_drop
theorem getD_mem {l : List Int} {i : Nat} (h : i < l.length) : l.getD i 0 ∈ l := by simp [h]
theorem mem_idx {d : List Nd} {x : Nd} (h : x ∈ d) : ∃ i, i < d.length ∧ d.getD i default = x := by
  obtain ⟨i, hi, e⟩ := List.getElem_of_mem h
  exact ⟨i, hi, by simp [hi, e]⟩
theorem right_mem {d : List Nd} (hd : docOk d d.length = true) (hl : d.length ≤ 64) {x : Nd} (h : x ∈ d) : smallNd x ∧ -1000 ≤ x.up ∧ x.up ≤ 1000 := by
  obtain ⟨i, hi, rfl⟩ := mem_idx h
  have h1 := nodeFine_len (docOk_node hd hi)
  have h2 := docOk_up hd i hi
  simp only [upOf] at h2
  exact ⟨⟨by omega, by omega⟩, by omega, by omega⟩

def docPart (d : List Nd) (n : Nat) : List Nd := ((d.take (behind d n)).drop n).map (turnUp fun up => max (up - n) (-1))
theorem c_doc_Part (d : List Nd) (k : Int) : Contract Tryd.prog fn_doc_Part [.val (docV d), .val (iv k)] { res := .tup [docV (if thereE d k = 0 then docPart d k.toNat else []), iv (thereE d k)] } := by
  unfold docV
  refine mk_doc_Part (base := 0) ⟨Nat.le_of_ble_eq_true rfl, Nat.le_of_ble_eq_true rfl, Nat.le_of_ble_eq_true rfl, rfl⟩ (fun hfit => ?_)
  unfold F0 doc_Part_E
  simp (config := { maxSteps := 2000000 }) only [markU, List.set_cons_succ, List.set_cons_zero, List.map_cons, List.map_nil, argCt, setCells, ioOf, List.length_cons, List.length_nil, Nat.reduceAdd, Nat.reduceSub, List.replicate, List.cons_append, List.nil_append]
  try simp (config := { maxSteps := 2000000 }) only [go_sem, reduceCtorEq, Nat.reduceAdd, Nat.reduceEqDiff, reduceIte, Nat.reduceLeDiff, Nat.reduceLT, Nat.reduceSub]
  all_goals (repeat (with_reducible refine sAnd ?_))
  refine call_val (by repeat' constructor) (c_doc_there d k) ?_
  try simp (config := { maxSteps := 2000000 }) only [go_sem, reduceCtorEq, Nat.reduceAdd, Nat.reduceEqDiff, reduceIte, Nat.reduceLeDiff, Nat.reduceLT, Nat.reduceSub]
  all_goals (repeat (with_reducible refine sAnd ?_))
  refine cond_of (by rfl) trivial (fun h => ?_) (fun h => ?_)
  · try simp (config := { maxSteps := 2000000 }) only [go_sem, reduceCtorEq, Nat.reduceAdd, Nat.reduceEqDiff, reduceIte, Nat.reduceLeDiff, Nat.reduceLT, Nat.reduceSub]
    all_goals (repeat (with_reducible refine sAnd ?_))
    have h2 : ¬ thereE d k = 0 := by simpa using h
    rw [if_neg h2]
    exact fin_tup (by simp) ⟨rs_cellB rfl rfl (.inr rfl), rs_tmp rfl trivial (.inl rfl), rfl⟩
  · try simp (config := { maxSteps := 2000000 }) only [go_sem, reduceCtorEq, Nat.reduceAdd, Nat.reduceEqDiff, reduceIte, Nat.reduceLeDiff, Nat.reduceLT, Nat.reduceSub]
    all_goals (repeat (with_reducible refine sAnd ?_))
    have h2 : thereE d k = 0 := by simpa using h
    obtain ⟨h3, h4, h5⟩ := thereE_ok h2
    obtain ⟨h6, h7, h8⟩ := checkDoc_ok h3
    rw [if_pos h2]
    obtain ⟨m, rfl⟩ : ∃ m : Nat, k = m := ⟨k.toNat, by omega⟩
    have hm : m < d.length := by omega
    have hb := behind_le hm
    refine call_val (by repeat' constructor) (Contract.av (c_doc_behind d m hm) (by first | rfl | (simp (config := { maxSteps := 2000000 }) only [go_sem, reduceCtorEq, Nat.reduceAdd, Nat.reduceEqDiff, reduceIte, Nat.reduceLeDiff, Nat.reduceLT, Nat.reduceSub]; done) | (simp (config := { maxSteps := 2000000 }) only [go_sem, reduceCtorEq, Nat.reduceAdd, Nat.reduceEqDiff, reduceIte, Nat.reduceLeDiff, Nat.reduceLT, Nat.reduceSub]; rfl))) ?_
    try simp (config := { maxSteps := 2000000 }) only [go_sem, reduceCtorEq, Nat.reduceAdd, Nat.reduceEqDiff, reduceIte, Nat.reduceLeDiff, Nat.reduceLT, Nat.reduceSub]
    all_goals (repeat (with_reducible refine sAnd ?_))
    have hsub : ∀ x ∈ (d.take (behind d m)).drop m, x ∈ d := fun x hx => List.mem_of_mem_take (List.mem_of_mem_drop hx)
    refine call_own (by repeat' constructor) (Contract.av (c_doc_own ((d.take (behind d m)).drop m) fn_doc_Part_1 [.fp [bI m]] (fun up => max (up - m) (-1)) (by simp; omega) (fun x hx => (right_mem h8 h7 (hsub x hx)).1) (fun x hx => c_doc_Part_1 x.up m (right_mem h8 h7 (hsub x hx)).2 (by omega))) (by first | rfl | (simp (config := { maxSteps := 2000000 }) only [go_sem, reduceCtorEq, Nat.reduceAdd, Nat.reduceEqDiff, reduceIte, Nat.reduceLeDiff, Nat.reduceLT, Nat.reduceSub]; done) | (simp (config := { maxSteps := 2000000 }) only [go_sem, reduceCtorEq, Nat.reduceAdd, Nat.reduceEqDiff, reduceIte, Nat.reduceLeDiff, Nat.reduceLT, Nat.reduceSub]; rfl))) ?_
    try simp (config := { maxSteps := 2000000 }) only [go_sem, reduceCtorEq, Nat.reduceAdd, Nat.reduceEqDiff, reduceIte, Nat.reduceLeDiff, Nat.reduceLT, Nat.reduceSub]
    all_goals (repeat (with_reducible refine sAnd ?_))
    rw [h2]
    exact fin_tup (by simp) ⟨rs_cellB rfl rfl (.inl rfl), rs_tmp rfl trivial (.inl rfl), rfl⟩

def docRemove (d : List Nd) (n : Nat) : List Nd := [(d.take n).map (turnUp fun k => if k ≥ behind d n then k - behind d n + n else k), (d.drop (behind d n)).map (turnUp fun k => if k ≥ behind d n then k - behind d n + n else k)].flatten
def remE (d : List Nd) (k : Int) : Int := if thereE d k = 0 then (if k = 0 then 3 else 0) else thereE d k
theorem c_doc_Remove (d : List Nd) (k : Int) : Contract Tryd.prog fn_doc_Remove [.val (docV d), .val (iv k)] { res := .tup [docV (if remE d k = 0 then docRemove d k.toNat else []), iv (remE d k)] } := by
  unfold docV
  refine mk_doc_Remove (base := 0) ⟨Nat.le_of_ble_eq_true rfl, Nat.le_of_ble_eq_true rfl, Nat.le_of_ble_eq_true rfl, rfl⟩ (fun hfit => ?_)
  unfold F0 doc_Remove_E
  simp (config := { maxSteps := 2000000 }) only [markU, List.set_cons_succ, List.set_cons_zero, List.map_cons, List.map_nil, argCt, setCells, ioOf, List.length_cons, List.length_nil, Nat.reduceAdd, Nat.reduceSub, List.replicate, List.cons_append, List.nil_append]
  try simp (config := { maxSteps := 2000000 }) only [go_sem, reduceCtorEq, Nat.reduceAdd, Nat.reduceEqDiff, reduceIte, Nat.reduceLeDiff, Nat.reduceLT, Nat.reduceSub]
  all_goals (repeat (with_reducible refine sAnd ?_))
  refine call_val (by repeat' constructor) (c_doc_there d k) ?_
  try simp (config := { maxSteps := 2000000 }) only [go_sem, reduceCtorEq, Nat.reduceAdd, Nat.reduceEqDiff, reduceIte, Nat.reduceLeDiff, Nat.reduceLT, Nat.reduceSub]
  all_goals (repeat (with_reducible refine sAnd ?_))
  refine cond_of (by rfl) trivial (fun h => ?_) (fun h => ?_)
  · try simp (config := { maxSteps := 2000000 }) only [go_sem, reduceCtorEq, Nat.reduceAdd, Nat.reduceEqDiff, reduceIte, Nat.reduceLeDiff, Nat.reduceLT, Nat.reduceSub]
    all_goals (repeat (with_reducible refine sAnd ?_))
    have h2 : ¬ thereE d k = 0 := by simpa using h
    have h3 : remE d k = thereE d k := by simp [remE, h2]
    rw [h3, if_neg h2]
    exact fin_tup (by simp) ⟨rs_cellB rfl rfl (.inr rfl), rs_tmp rfl trivial (.inl rfl), rfl⟩
  have h2 : thereE d k = 0 := by simpa using h
  obtain ⟨h3, h4, h5⟩ := thereE_ok h2
  obtain ⟨h6, h7, h8⟩ := checkDoc_ok h3
  obtain ⟨m, rfl⟩ : ∃ m : Nat, k = m := ⟨k.toNat, by omega⟩
  try simp (config := { maxSteps := 2000000 }) only [go_sem, reduceCtorEq, Nat.reduceAdd, Nat.reduceEqDiff, reduceIte, Nat.reduceLeDiff, Nat.reduceLT, Nat.reduceSub]
  all_goals (repeat (with_reducible refine sAnd ?_))
  refine cond_of (by rfl) trivial (fun h9 => ?_) (fun h9 => ?_)
  · try simp (config := { maxSteps := 2000000 }) only [go_sem, reduceCtorEq, Nat.reduceAdd, Nat.reduceEqDiff, reduceIte, Nat.reduceLeDiff, Nat.reduceLT, Nat.reduceSub]
    all_goals (repeat (with_reducible refine sAnd ?_))
    have h10 : (m : Int) = 0 := by simpa using h9
    have h3 : remE d m = 3 := by rw [remE, if_pos h2, if_pos h10]
    rw [h3, if_neg (by omega)]
    exact fin_tup (by simp) ⟨rs_cellB rfl rfl (.inr rfl), rs_tmp rfl trivial (.inl rfl), rfl⟩
  have h10 : ¬ (m : Int) = 0 := by simpa using h9
  have hr : remE d m = 0 := by simp only [remE, h2, h10, if_true, if_false]
  rw [hr, if_pos rfl]
  have hm : m < d.length := by omega
  have hb := behind_le hm
  try simp (config := { maxSteps := 2000000 }) only [go_sem, reduceCtorEq, Nat.reduceAdd, Nat.reduceEqDiff, reduceIte, Nat.reduceLeDiff, Nat.reduceLT, Nat.reduceSub]
  all_goals (repeat (with_reducible refine sAnd ?_))
  refine call_val (by repeat' constructor) (Contract.av (c_doc_behind d m hm) (by first | rfl | (simp (config := { maxSteps := 2000000 }) only [go_sem, reduceCtorEq, Nat.reduceAdd, Nat.reduceEqDiff, reduceIte, Nat.reduceLeDiff, Nat.reduceLT, Nat.reduceSub]; done) | (simp (config := { maxSteps := 2000000 }) only [go_sem, reduceCtorEq, Nat.reduceAdd, Nat.reduceEqDiff, reduceIte, Nat.reduceLeDiff, Nat.reduceLT, Nat.reduceSub]; rfl))) ?_
  try simp (config := { maxSteps := 2000000 }) only [go_sem, reduceCtorEq, Nat.reduceAdd, Nat.reduceEqDiff, reduceIte, Nat.reduceLeDiff, Nat.reduceLT, Nat.reduceSub]
  all_goals (repeat (with_reducible refine sAnd ?_))
  have hs1 : ∀ x ∈ d.take m, x ∈ d := fun x hx => List.mem_of_mem_take hx
  have hs2 : ∀ x ∈ d.drop (behind d m), x ∈ d := fun x hx => List.mem_of_mem_drop hx
  refine call_own (by repeat' constructor) (Contract.av (c_doc_own (d.take m) fn_doc_Remove_1 [.fp [bI (behind d m)], .fp [bI m]] (fun k => if k ≥ behind d m then k - behind d m + m else k) (by simp; omega) (fun x hx => (right_mem h8 h7 (hs1 x hx)).1) (fun x hx => c_doc_Remove_1 x.up m (behind d m) (right_mem h8 h7 (hs1 x hx)).2 (by omega) (by omega))) (by first | rfl | (simp (config := { maxSteps := 2000000 }) only [go_sem, reduceCtorEq, Nat.reduceAdd, Nat.reduceEqDiff, reduceIte, Nat.reduceLeDiff, Nat.reduceLT, Nat.reduceSub]; done) | (simp (config := { maxSteps := 2000000 }) only [go_sem, reduceCtorEq, Nat.reduceAdd, Nat.reduceEqDiff, reduceIte, Nat.reduceLeDiff, Nat.reduceLT, Nat.reduceSub]; rfl))) ?_
  try simp (config := { maxSteps := 2000000 }) only [go_sem, reduceCtorEq, Nat.reduceAdd, Nat.reduceEqDiff, reduceIte, Nat.reduceLeDiff, Nat.reduceLT, Nat.reduceSub]
  all_goals (repeat (with_reducible refine sAnd ?_))
  refine call_own (by repeat' constructor) (Contract.av (c_doc_own (d.drop (behind d m)) fn_doc_Remove_1 [.fp [bI (behind d m)], .fp [bI m]] (fun k => if k ≥ behind d m then k - behind d m + m else k) (by simp; omega) (fun x hx => (right_mem h8 h7 (hs2 x hx)).1) (fun x hx => c_doc_Remove_1 x.up m (behind d m) (right_mem h8 h7 (hs2 x hx)).2 (by omega) (by omega))) (by first | rfl | (simp (config := { maxSteps := 2000000 }) only [go_sem, reduceCtorEq, Nat.reduceAdd, Nat.reduceEqDiff, reduceIte, Nat.reduceLeDiff, Nat.reduceLT, Nat.reduceSub]; done) | (simp (config := { maxSteps := 2000000 }) only [go_sem, reduceCtorEq, Nat.reduceAdd, Nat.reduceEqDiff, reduceIte, Nat.reduceLeDiff, Nat.reduceLT, Nat.reduceSub]; rfl))) ?_
  try simp (config := { maxSteps := 2000000 }) only [go_sem, reduceCtorEq, Nat.reduceAdd, Nat.reduceEqDiff, reduceIte, Nat.reduceLeDiff, Nat.reduceLT, Nat.reduceSub]
  all_goals (repeat (with_reducible refine sAnd ?_))
  refine call_own (by repeat' constructor) (Contract.av (c_slices_Concat_Node [(d.take m).map (turnUp fun k => if k ≥ behind d m then k - behind d m + m else k), (d.drop (behind d m)).map (turnUp fun k => if k ≥ behind d m then k - behind d m + m else k)] (by simp; omega) (by simp)) (by first | rfl | (simp (config := { maxSteps := 2000000 }) only [go_sem, reduceCtorEq, Nat.reduceAdd, Nat.reduceEqDiff, reduceIte, Nat.reduceLeDiff, Nat.reduceLT, Nat.reduceSub]; done) | (simp (config := { maxSteps := 2000000 }) only [go_sem, reduceCtorEq, Nat.reduceAdd, Nat.reduceEqDiff, reduceIte, Nat.reduceLeDiff, Nat.reduceLT, Nat.reduceSub]; rfl))) ?_
  try simp (config := { maxSteps := 2000000 }) only [go_sem, reduceCtorEq, Nat.reduceAdd, Nat.reduceEqDiff, reduceIte, Nat.reduceLeDiff, Nat.reduceLT, Nat.reduceSub]
  all_goals (repeat (with_reducible refine sAnd ?_))
  exact fin_tup (by simp) ⟨rs_cellB rfl rfl (.inl rfl), rs_tmp rfl trivial (.inl rfl), rfl⟩

/-! Insert -/
theorem kidsF_mem {d : List Nd} {n : Nat} (hb : behind d n ≤ d.length) : ∀ (f i : Nat), (kidsF d n f i).length ≤ f ∧ ∀ x ∈ kidsF d n f i, (i : Int) ≤ x ∧ x < d.length
  | 0, i => by simp [kidsF]
  | f + 1, i => by
    simp only [kidsF]
    split
    · rename_i h
      have h1 := behind_le (d := d) (n := i) (by omega)
      have h2 := kidsF_mem hb f (behind d i)
      refine ⟨by simp; omega, fun x hx => ?_⟩
      rcases List.mem_cons.1 hx with rfl | hx
      · omega
      · have := h2.2 x hx; omega
    · simp
theorem docPlaces_mem {d : List Nd} {n : Nat} (hn : n < d.length) : (docKids d n).length ≤ d.length ∧ ∀ x ∈ docKids d n ++ [(behind d n : Int)], (n : Int) < x ∧ x ≤ d.length := by
  have hb := behind_le hn
  have h := kidsF_mem hb.2 d.length (n + 1)
  refine ⟨h.1, fun x hx => ?_⟩
  rcases List.mem_append.1 hx with hx | hx
  · have := h.2 x hx; omega
  · simp at hx; omega
def docPlaces (d : List Nd) (up : Nat) : List Int := docKids d up ++ [(behind d up : Int)]
def insE (d : List Nd) (up at' : Int) (e : List Nd) : Int :=
  if checkDoc d = 0 then (if checkDoc e = 0 then (if up < 0 ∨ up ≥ d.length then 5 else if at' < 0 ∨ at' ≥ (docPlaces d up.toNat).length then 3 else if d.length + e.length > 64 then 2 else 0) else checkDoc e) else checkDoc d
def docInsertAt (d : List Nd) (up : Int) (n : Nat) (e : List Nd) : List Nd :=
  [(d.take n).map (turnUp fun k => if k ≥ n then k + e.length else k), e.map (turnUp fun k => if k < 0 then up else k + n), (d.drop n).map (turnUp fun k => if k ≥ n then k + e.length else k)].flatten
def docInsert (d : List Nd) (up at' : Int) (e : List Nd) : List Nd := docInsertAt d up ((docPlaces d up.toNat).getD at'.toNat 0).toNat e
theorem c_doc_Insert (d : List Nd) (up at' : Int) (e : List Nd) : Contract Tryd.prog fn_doc_Insert [.val (docV d), .val (iv up), .val (iv at'), .val (docV e)] { res := .tup [docV (if insE d up at' e = 0 then docInsert d up at' e else []), iv (insE d up at' e)] } := by
  unfold docV
  refine mk_doc_Insert (base := 0) ⟨Nat.le_of_ble_eq_true rfl, Nat.le_of_ble_eq_true rfl, Nat.le_of_ble_eq_true rfl, rfl⟩ (fun hfit => ?_)
  unfold F0 doc_Insert_E
  simp (config := { maxSteps := 2000000 }) only [markU, List.set_cons_succ, List.set_cons_zero, List.map_cons, List.map_nil, argCt, setCells, ioOf, List.length_cons, List.length_nil, Nat.reduceAdd, Nat.reduceSub, List.replicate, List.cons_append, List.nil_append]
  try simp (config := { maxSteps := 2000000 }) only [go_sem, reduceCtorEq, Nat.reduceAdd, Nat.reduceEqDiff, reduceIte, Nat.reduceLeDiff, Nat.reduceLT, Nat.reduceSub]
  all_goals (repeat (with_reducible refine sAnd ?_))
  refine call_val (by repeat' constructor) (c_doc_Check d) ?_
  try simp (config := { maxSteps := 2000000 }) only [go_sem, reduceCtorEq, Nat.reduceAdd, Nat.reduceEqDiff, reduceIte, Nat.reduceLeDiff, Nat.reduceLT, Nat.reduceSub]
  all_goals (repeat (with_reducible refine sAnd ?_))
  refine cond_of (by rfl) trivial (fun h => ?_) (fun h => ?_)
  · try simp (config := { maxSteps := 2000000 }) only [go_sem, reduceCtorEq, Nat.reduceAdd, Nat.reduceEqDiff, reduceIte, Nat.reduceLeDiff, Nat.reduceLT, Nat.reduceSub]
    all_goals (repeat (with_reducible refine sAnd ?_))
    have h2 : ¬ checkDoc d = 0 := by simpa using h
    have h3 : insE d up at' e = checkDoc d := by rw [insE, if_neg h2]
    rw [h3, if_neg h2]
    exact fin_tup (by simp) ⟨rs_cellB rfl rfl (.inr rfl), rs_tmp rfl trivial (.inl rfl), rfl⟩
  have h2 : checkDoc d = 0 := by simpa using h
  obtain ⟨h6, h7, h8⟩ := checkDoc_ok h2
  try simp (config := { maxSteps := 2000000 }) only [go_sem, reduceCtorEq, Nat.reduceAdd, Nat.reduceEqDiff, reduceIte, Nat.reduceLeDiff, Nat.reduceLT, Nat.reduceSub]
  all_goals (repeat (with_reducible refine sAnd ?_))
  refine call_val (by repeat' constructor) (c_doc_Check e) ?_
  try simp (config := { maxSteps := 2000000 }) only [go_sem, reduceCtorEq, Nat.reduceAdd, Nat.reduceEqDiff, reduceIte, Nat.reduceLeDiff, Nat.reduceLT, Nat.reduceSub]
  all_goals (repeat (with_reducible refine sAnd ?_))
  refine cond_of (by rfl) trivial (fun h => ?_) (fun h => ?_)
  · try simp (config := { maxSteps := 2000000 }) only [go_sem, reduceCtorEq, Nat.reduceAdd, Nat.reduceEqDiff, reduceIte, Nat.reduceLeDiff, Nat.reduceLT, Nat.reduceSub]
    all_goals (repeat (with_reducible refine sAnd ?_))
    have h3 : ¬ checkDoc e = 0 := by simpa using h
    have h4 : insE d up at' e = checkDoc e := by rw [insE, if_pos h2, if_neg h3]
    rw [h4, if_neg h3]
    exact fin_tup (by simp) ⟨rs_cellB rfl rfl (.inr rfl), rs_tmp rfl trivial (.inl rfl), rfl⟩
  have h3 : checkDoc e = 0 := by simpa using h
  obtain ⟨g6, g7, g8⟩ := checkDoc_ok h3
  try simp (config := { maxSteps := 2000000 }) only [go_sem, reduceCtorEq, Nat.reduceAdd, Nat.reduceEqDiff, reduceIte, Nat.reduceLeDiff, Nat.reduceLT, Nat.reduceSub]
  all_goals (repeat (with_reducible refine sAnd ?_))
  refine cond_of (by rfl) trivial (fun h => ?_) (fun h => ?_)
  · try simp (config := { maxSteps := 2000000 }) only [go_sem, reduceCtorEq, Nat.reduceAdd, Nat.reduceEqDiff, reduceIte, Nat.reduceLeDiff, Nat.reduceLT, Nat.reduceSub]
    all_goals (repeat (with_reducible refine sAnd ?_))
    have h4 : up < 0 ∨ up ≥ d.length := by grind
    have h5 : insE d up at' e = 5 := by rw [insE, if_pos h2, if_pos h3, if_pos h4]
    rw [h5, if_neg (by omega)]
    exact fin_tup (by simp) ⟨rs_cellB rfl rfl (.inr rfl), rs_tmp rfl trivial (.inl rfl), rfl⟩
  have h4 : ¬ (up < 0 ∨ up ≥ d.length) := by grind
  obtain ⟨m, rfl⟩ : ∃ m : Nat, up = m := ⟨up.toNat, by omega⟩
  have hm : m < d.length := by omega
  have hb := behind_le hm
  obtain ⟨hkl, hpl⟩ := docPlaces_mem hm
  try simp (config := { maxSteps := 2000000 }) only [go_sem, reduceCtorEq, Nat.reduceAdd, Nat.reduceEqDiff, reduceIte, Nat.reduceLeDiff, Nat.reduceLT, Nat.reduceSub]
  all_goals (repeat (with_reducible refine sAnd ?_))
  refine call_own (by repeat' constructor) (Contract.av (c_doc_kids d m hm h7) (by first | rfl | (simp (config := { maxSteps := 2000000 }) only [go_sem, reduceCtorEq, Nat.reduceAdd, Nat.reduceEqDiff, reduceIte, Nat.reduceLeDiff, Nat.reduceLT, Nat.reduceSub]; done) | (simp (config := { maxSteps := 2000000 }) only [go_sem, reduceCtorEq, Nat.reduceAdd, Nat.reduceEqDiff, reduceIte, Nat.reduceLeDiff, Nat.reduceLT, Nat.reduceSub]; rfl))) ?_
  try simp (config := { maxSteps := 2000000 }) only [go_sem, reduceCtorEq, Nat.reduceAdd, Nat.reduceEqDiff, reduceIte, Nat.reduceLeDiff, Nat.reduceLT, Nat.reduceSub]
  all_goals (repeat (with_reducible refine sAnd ?_))
  refine call_val (by repeat' constructor) (Contract.av (c_doc_behind d m hm) (by first | rfl | (simp (config := { maxSteps := 2000000 }) only [go_sem, reduceCtorEq, Nat.reduceAdd, Nat.reduceEqDiff, reduceIte, Nat.reduceLeDiff, Nat.reduceLT, Nat.reduceSub]; done) | (simp (config := { maxSteps := 2000000 }) only [go_sem, reduceCtorEq, Nat.reduceAdd, Nat.reduceEqDiff, reduceIte, Nat.reduceLeDiff, Nat.reduceLT, Nat.reduceSub]; rfl))) ?_
  try simp (config := { maxSteps := 2000000 }) only [go_sem, reduceCtorEq, Nat.reduceAdd, Nat.reduceEqDiff, reduceIte, Nat.reduceLeDiff, Nat.reduceLT, Nat.reduceSub]
  all_goals (repeat (with_reducible refine sAnd ?_))
  have hpl' : (docKids d m).length ≤ 64 := by omega
  have happ : intsR (docKids d m) ++ [[PV.v (Value.int IntKind.i64 ↑(behind d m))]] = intsR (docPlaces d m) := by simp [docPlaces, intsR]
  rw [happ]
  have hlp : (docPlaces d m).length = (docKids d m).length + 1 := by simp [docPlaces]
  try simp (config := { maxSteps := 2000000 }) only [go_sem, reduceCtorEq, Nat.reduceAdd, Nat.reduceEqDiff, reduceIte, Nat.reduceLeDiff, Nat.reduceLT, Nat.reduceSub]
  all_goals (repeat (with_reducible refine sAnd ?_))
  refine cond_of (by rfl) trivial (fun h => ?_) (fun h => ?_)
  · try simp (config := { maxSteps := 2000000 }) only [go_sem, reduceCtorEq, Nat.reduceAdd, Nat.reduceEqDiff, reduceIte, Nat.reduceLeDiff, Nat.reduceLT, Nat.reduceSub]
    all_goals (repeat (with_reducible refine sAnd ?_))
    have h5 : at' < 0 ∨ at' ≥ (docPlaces d (m : Int).toNat).length := by grind
    have h6 : insE d m at' e = 3 := by rw [insE, if_pos h2, if_pos h3, if_neg h4, if_pos h5]
    rw [h6, if_neg (by omega)]
    exact fin_tup (by simp) ⟨rs_cellB rfl rfl (.inr rfl), rs_tmp rfl trivial (.inl rfl), rfl⟩
  have h5 : ¬ (at' < 0 ∨ at' ≥ (docPlaces d (m : Int).toNat).length) := by grind
  obtain ⟨p, rfl⟩ : ∃ p : Nat, at' = p := ⟨at'.toNat, by omega⟩
  have hp : p < (docPlaces d m).length := by simp at h5; omega
  try simp (config := { maxSteps := 2000000 }) only [go_sem, reduceCtorEq, Nat.reduceAdd, Nat.reduceEqDiff, reduceIte, Nat.reduceLeDiff, Nat.reduceLT, Nat.reduceSub]
  all_goals (repeat (with_reducible refine sAnd ?_))
  refine cond_of (by rfl) trivial (fun h => ?_) (fun h => ?_)
  · try simp (config := { maxSteps := 2000000 }) only [go_sem, reduceCtorEq, Nat.reduceAdd, Nat.reduceEqDiff, reduceIte, Nat.reduceLeDiff, Nat.reduceLT, Nat.reduceSub]
    all_goals (repeat (with_reducible refine sAnd ?_))
    have h6 : d.length + e.length > 64 := by simp at h; omega
    have h7 : insE d m p e = 2 := by rw [insE, if_pos h2, if_pos h3, if_neg h4, if_neg h5, if_pos h6]
    rw [h7, if_neg (by omega)]
    exact fin_tup (by simp) ⟨rs_cellB rfl rfl (.inr rfl), rs_tmp rfl trivial (.inl rfl), rfl⟩
  have h6' : ¬ d.length + e.length > 64 := by simp at h; omega
  have hie : insE d m p e = 0 := by rw [insE, if_pos h2, if_pos h3, if_neg h4, if_neg h5, if_neg h6']
  rw [hie, if_pos rfl]
  have hx := hpl ((docPlaces d m).getD p 0) (getD_mem (l := docPlaces d m) hp)
  obtain ⟨n, hn⟩ : ∃ n : Nat, (docPlaces d m).getD p 0 = n := ⟨((docPlaces d m).getD p 0).toNat, by omega⟩
  have hdi : docInsert d m p e = docInsertAt d m n e := by simp only [docInsert, Int.toNat_natCast, hn]
  rw [hdi]
  rw [hn] at hx
  try simp (config := { maxSteps := 2000000 }) only [go_sem, reduceCtorEq, Nat.reduceAdd, Nat.reduceEqDiff, reduceIte, Nat.reduceLeDiff, Nat.reduceLT, Nat.reduceSub, intsR_get _ _ hp, hn]
  all_goals (repeat (with_reducible refine sAnd ?_))
  have hs1 : ∀ x ∈ d.take n, x ∈ d := fun x hx => List.mem_of_mem_take hx
  have hs2 : ∀ x ∈ d.drop n, x ∈ d := fun x hx => List.mem_of_mem_drop hx
  refine call_own (by repeat' constructor) (Contract.av (c_doc_own (d.take n) fn_doc_Insert_1 [.fp [bI n], .fp [.sl 5 (ndsV e)]] (fun k => if k ≥ n then k + e.length else k) (by simp; omega) (fun x hx => (right_mem h8 h7 (hs1 x hx)).1) (fun x hx => c_doc_Insert_1 x.up n e (right_mem h8 h7 (hs1 x hx)).2 (by omega) (by omega))) (by first | rfl | (simp (config := { maxSteps := 2000000 }) only [go_sem, reduceCtorEq, Nat.reduceAdd, Nat.reduceEqDiff, reduceIte, Nat.reduceLeDiff, Nat.reduceLT, Nat.reduceSub]; done) | (simp (config := { maxSteps := 2000000 }) only [go_sem, reduceCtorEq, Nat.reduceAdd, Nat.reduceEqDiff, reduceIte, Nat.reduceLeDiff, Nat.reduceLT, Nat.reduceSub]; rfl))) ?_
  try simp (config := { maxSteps := 2000000 }) only [go_sem, reduceCtorEq, Nat.reduceAdd, Nat.reduceEqDiff, reduceIte, Nat.reduceLeDiff, Nat.reduceLT, Nat.reduceSub]
  all_goals (repeat (with_reducible refine sAnd ?_))
  refine call_own (by repeat' constructor) (Contract.av (c_doc_own e fn_doc_Insert_2 [.fp [bI m], .fp [bI n]] (fun k => if k < 0 then (m : Int) else k + n) (by omega) (fun x hx => (right_mem g8 g7 hx).1) (fun x hx => c_doc_Insert_2 x.up n m (right_mem g8 g7 hx).2 (by omega))) (by first | rfl | (simp (config := { maxSteps := 2000000 }) only [go_sem, reduceCtorEq, Nat.reduceAdd, Nat.reduceEqDiff, reduceIte, Nat.reduceLeDiff, Nat.reduceLT, Nat.reduceSub]; done) | (simp (config := { maxSteps := 2000000 }) only [go_sem, reduceCtorEq, Nat.reduceAdd, Nat.reduceEqDiff, reduceIte, Nat.reduceLeDiff, Nat.reduceLT, Nat.reduceSub]; rfl))) ?_
  try simp (config := { maxSteps := 2000000 }) only [go_sem, reduceCtorEq, Nat.reduceAdd, Nat.reduceEqDiff, reduceIte, Nat.reduceLeDiff, Nat.reduceLT, Nat.reduceSub]
  all_goals (repeat (with_reducible refine sAnd ?_))
  refine call_own (by repeat' constructor) (Contract.av (c_doc_own (d.drop n) fn_doc_Insert_1 [.fp [bI n], .fp [.sl 5 (ndsV e)]] (fun k => if k ≥ n then k + e.length else k) (by simp; omega) (fun x hx => (right_mem h8 h7 (hs2 x hx)).1) (fun x hx => c_doc_Insert_1 x.up n e (right_mem h8 h7 (hs2 x hx)).2 (by omega) (by omega))) (by first | rfl | (simp (config := { maxSteps := 2000000 }) only [go_sem, reduceCtorEq, Nat.reduceAdd, Nat.reduceEqDiff, reduceIte, Nat.reduceLeDiff, Nat.reduceLT, Nat.reduceSub]; done) | (simp (config := { maxSteps := 2000000 }) only [go_sem, reduceCtorEq, Nat.reduceAdd, Nat.reduceEqDiff, reduceIte, Nat.reduceLeDiff, Nat.reduceLT, Nat.reduceSub]; rfl))) ?_
  try simp (config := { maxSteps := 2000000 }) only [go_sem, reduceCtorEq, Nat.reduceAdd, Nat.reduceEqDiff, reduceIte, Nat.reduceLeDiff, Nat.reduceLT, Nat.reduceSub]
  all_goals (repeat (with_reducible refine sAnd ?_))
  refine call_own (by repeat' constructor) (Contract.av (c_slices_Concat_Node [(d.take n).map (turnUp fun k => if k ≥ n then k + e.length else k), e.map (turnUp fun k => if k < 0 then (m : Int) else k + n), (d.drop n).map (turnUp fun k => if k ≥ n then k + e.length else k)] (by simp; omega) (by simp)) (by first | rfl | (simp (config := { maxSteps := 2000000 }) only [go_sem, reduceCtorEq, Nat.reduceAdd, Nat.reduceEqDiff, reduceIte, Nat.reduceLeDiff, Nat.reduceLT, Nat.reduceSub]; done) | (simp (config := { maxSteps := 2000000 }) only [go_sem, reduceCtorEq, Nat.reduceAdd, Nat.reduceEqDiff, reduceIte, Nat.reduceLeDiff, Nat.reduceLT, Nat.reduceSub]; rfl))) ?_
  try simp (config := { maxSteps := 2000000 }) only [go_sem, reduceCtorEq, Nat.reduceAdd, Nat.reduceEqDiff, reduceIte, Nat.reduceLeDiff, Nat.reduceLT, Nat.reduceSub]
  all_goals (repeat (with_reducible refine sAnd ?_))
  exact fin_tup (by simp) ⟨rs_cellB rfl rfl (.inl rfl), rs_tmp rfl trivial (.inl rfl), rfl⟩
end Go.Hx
end
