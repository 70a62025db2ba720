/-
  Walks of functions of the program over an abstract layer, and the laws that they use: each contract says what the function computes, for every input that its conditions let by. No other condition.
-/
import Derived.Test.YtjnagiaooecklaaDoorG12
import Derived.Test.YtjnagiaooecklaaDoorG9
import Derived.Test.YtjnagiaooecklaaDoorG19
set_option linter.all false
section
set_option maxRecDepth 100000
set_option linter.unusedSimpArgs false
namespace Go.Hx
open Go.Proofs
variable [Glob]

attribute [local go_sem] ndsV_len clsV_len attV_len intsR_len ndV cellsEq
theorem c_doc_Fine_1 (s : Bys) : Contract Tryd.prog fn_doc_Fine_1 [.val (sv s)] { res := .val (sv s) } := by
  refine mk_doc_Fine_1 (base := 0) ⟨Nat.le_of_ble_eq_true rfl, Nat.le_of_ble_eq_true rfl, Nat.le_of_ble_eq_true rfl, rfl⟩ (fun hfit => ?_)
  unfold F0 doc_Fine_1_E
  simp (config := { maxSteps := 2000000 }) only [markU, List.set_cons_succ, List.set_cons_zero, List.map_cons, List.map_nil, argCt, setCells, ioOf, List.length_cons, List.length_nil, Nat.reduceAdd, Nat.reduceSub, List.replicate, List.cons_append, List.nil_append]
  try simp (config := { maxSteps := 2000000 }) only [go_sem, reduceCtorEq, Nat.reduceAdd, Nat.reduceEqDiff, reduceIte, Nat.reduceLeDiff, Nat.reduceLT, Nat.reduceSub]
  all_goals (repeat (with_reducible refine sAnd ?_))
  try simp (config := { maxSteps := 2000000 }) only [go_sem, reduceCtorEq, Nat.reduceAdd, Nat.reduceEqDiff, reduceIte, Nat.reduceLeDiff, Nat.reduceLT, Nat.reduceSub]
  all_goals (repeat (with_reducible refine sAnd ?_))
  refine fin_val rfl trivial (.inl ?_)
  congr 3
theorem c_doc_Fine_2 (a b : Bys) : Contract Tryd.prog fn_doc_Fine_2 [.val (.agg [bS a, bS b])] { res := .val (sv a) } := by
  refine mk_doc_Fine_2 (base := 0) ⟨Nat.le_of_ble_eq_true rfl, Nat.le_of_ble_eq_true rfl, Nat.le_of_ble_eq_true rfl, rfl⟩ (fun hfit => ?_)
  unfold F0 doc_Fine_2_E
  simp (config := { maxSteps := 2000000 }) only [markU, List.set_cons_succ, List.set_cons_zero, List.map_cons, List.map_nil, argCt, setCells, ioOf, List.length_cons, List.length_nil, Nat.reduceAdd, Nat.reduceSub, List.replicate, List.cons_append, List.nil_append]
  try simp (config := { maxSteps := 2000000 }) only [go_sem, reduceCtorEq, Nat.reduceAdd, Nat.reduceEqDiff, reduceIte, Nat.reduceLeDiff, Nat.reduceLT, Nat.reduceSub]
  all_goals (repeat (with_reducible refine sAnd ?_))
  try simp (config := { maxSteps := 2000000 }) only [go_sem, reduceCtorEq, Nat.reduceAdd, Nat.reduceEqDiff, reduceIte, Nat.reduceLeDiff, Nat.reduceLT, Nat.reduceSub]
  all_goals (repeat (with_reducible refine sAnd ?_))
  refine fin_val rfl trivial (.inl ?_)
  congr 3
theorem c_doc_Fine_3 (a b : Bys) : Contract Tryd.prog fn_doc_Fine_3 [.val (.agg [bS a, bS b])] { res := .val (bv (!isValue b)) } := by
  refine mk_doc_Fine_3 (base := 0) ⟨Nat.le_of_ble_eq_true rfl, Nat.le_of_ble_eq_true rfl, Nat.le_of_ble_eq_true rfl, rfl⟩ (fun hfit => ?_)
  unfold F0 doc_Fine_3_E
  simp (config := { maxSteps := 2000000 }) only [markU, List.set_cons_succ, List.set_cons_zero, List.map_cons, List.map_nil, argCt, setCells, ioOf, List.length_cons, List.length_nil, Nat.reduceAdd, Nat.reduceSub, List.replicate, List.cons_append, List.nil_append]
  try simp (config := { maxSteps := 2000000 }) only [go_sem, reduceCtorEq, Nat.reduceAdd, Nat.reduceEqDiff, reduceIte, Nat.reduceLeDiff, Nat.reduceLT, Nat.reduceSub]
  all_goals (repeat (with_reducible refine sAnd ?_))
  refine call_val (by repeat' constructor) (c_doc_Value _) ?_
  try simp (config := { maxSteps := 2000000 }) only [go_sem, reduceCtorEq, Nat.reduceAdd, Nat.reduceEqDiff, reduceIte, Nat.reduceLeDiff, Nat.reduceLT, Nat.reduceSub]
  all_goals (repeat (with_reducible refine sAnd ?_))
  try simp (config := { maxSteps := 2000000 }) only [go_sem, reduceCtorEq, Nat.reduceAdd, Nat.reduceEqDiff, reduceIte, Nat.reduceLeDiff, Nat.reduceLT, Nat.reduceSub]
  all_goals (repeat (with_reducible refine sAnd ?_))
  refine fin_val rfl trivial (.inl ?_)
  congr 3

theorem okC_succ {l : List Bys} {i : Nat} : okC l (i + 1) = (okC l i && cOk l i) := range_all_succ
theorem less_asymm : ∀ {x y : Bys}, Op.bytesLess x y = true → Op.bytesLess y x = false
  | [], _, h => by rename_i y; cases y <;> rfl
  | a :: x, [], h => by simp [Op.bytesLess] at h
  | a :: x, b :: y, h => by
    simp only [Op.bytesLess, Bool.or_eq_true, Bool.and_eq_true, decide_eq_true_eq, beq_iff_eq] at h
    simp only [Op.bytesLess, Bool.or_eq_false_iff, Bool.and_eq_false_iff, decide_eq_false_iff_not, beq_eq_false_iff_ne]
    rcases h with h | ⟨rfl, h⟩
    · exact ⟨UInt8.lt_asymm h, .inl (fun e => by subst e; exact UInt8.lt_irrefl _ h)⟩
    · exact ⟨UInt8.lt_irrefl _, .inr (less_asymm h)⟩
theorem less_total : ∀ {x y : Bys}, Op.bytesLess x y = false → x ≠ y → Op.bytesLess y x = true
  | [], [], _, h => (h rfl).elim
  | [], b :: y, h, _ => by simp [Op.bytesLess] at h
  | a :: x, [], _, _ => rfl
  | a :: x, b :: y, h, hn => by
    simp only [Op.bytesLess, Bool.or_eq_false_iff, Bool.and_eq_false_iff, decide_eq_false_iff_not, beq_eq_false_iff_ne] at h
    simp only [Op.bytesLess, Bool.or_eq_true, Bool.and_eq_true, decide_eq_true_eq, beq_iff_eq]
    obtain ⟨h1, h2⟩ := h
    by_cases e : a = b
    · subst e
      refine .inr ⟨rfl, less_total (h2.resolve_left (fun h => h rfl)) (fun e => hn (by rw [e]))⟩
    · refine .inl ?_
      have h3 : b ≤ a := UInt8.not_lt.1 h1
      exact UInt8.lt_of_le_of_ne h3 (Ne.symm e)
theorem rises_step {x y : Bys} : (Op.bytesLess x y || x == y) = !Op.bytesLess y x := by
  cases h : Op.bytesLess y x with
  | true =>
    have h1 := less_asymm h
    have : ¬ x = y := fun e => by subst e; rw [h1] at h; cases h
    simp [h1, this]
  | false =>
    by_cases e : x = y
    · subst e; simp
    · simp [less_total h (Ne.symm e)]
theorem c_doc_rises_string (l : List Bys) : Contract Tryd.prog fn_doc_rises_string [.val (.one (.sl 1 (clsV l))), .val (.one (.clo fn_doc_Fine_1 []))] { res := .val (bv (okC l l.length)) } := by
  refine mk_doc_rises_string (base := 0) ⟨Nat.le_of_ble_eq_true rfl, Nat.le_of_ble_eq_true rfl, Nat.le_of_ble_eq_true rfl, rfl⟩ (fun hfit => ?_)
  unfold F0 doc_rises_string_E
  simp (config := { maxSteps := 2000000 }) only [markU, List.set_cons_succ, List.set_cons_zero, List.map_cons, List.map_nil, argCt, setCells, ioOf, List.length_cons, List.length_nil, Nat.reduceAdd, Nat.reduceSub, List.replicate, List.cons_append, List.nil_append]
  try simp (config := { maxSteps := 2000000 }) only [go_sem, reduceCtorEq, Nat.reduceAdd, Nat.reduceEqDiff, reduceIte, Nat.reduceLeDiff, Nat.reduceLT, Nat.reduceSub]
  all_goals (repeat (with_reducible refine sAnd ?_))
  have hm := fits_sl (k := 1) hfit.1
  rw [clsV_len] at hm
  refine loop_sets (fun i : Nat => [(5, .pv (sv (if i = 0 then [] else l.getD (i - 1) []))), (7, .un), (10, .pv (iv i)), (11, .un), (25, .un)]) (fun i : Nat => l.length - i) (fun i : Nat => i ≤ l.length ∧ okC l i = true) (0) ?_ ⟨Nat.zero_le _, rfl⟩ ?_
  focus (simp (config := { maxSteps := 2000000 }) only [go_sem, reduceCtorEq, Nat.reduceAdd, Nat.reduceEqDiff, reduceIte, Nat.reduceLeDiff, Nat.reduceLT, Nat.reduceSub, le_cons, le_nil, le_un, le_same]; all_goals (repeat' (first | exact trivial | exact le_int (by omega) | exact le_bool rfl | exact le_eq rfl | exact le_nlo | exact le_refl _ | refine And.intro ?_ ?_)))
  intro i ⟨hi, hok⟩
  try simp (config := { maxSteps := 2000000 }) only [go_sem, reduceCtorEq, Nat.reduceAdd, Nat.reduceEqDiff, reduceIte, Nat.reduceLeDiff, Nat.reduceLT, Nat.reduceSub]
  all_goals (repeat (with_reducible refine sAnd ?_))
  refine cond_of (by rfl) trivial (fun h => ?_) (fun h => ?_)
  · have hlt : i < l.length := by simpa using h
    try simp (config := { maxSteps := 2000000 }) only [go_sem, reduceCtorEq, Nat.reduceAdd, Nat.reduceEqDiff, reduceIte, Nat.reduceLeDiff, Nat.reduceLT, Nat.reduceSub, clsV_get _ _ hlt]
    all_goals (repeat (with_reducible refine sAnd ?_))
    refine callv_val (by rfl) trivial (by repeat' constructor) (c_doc_Fine_1 _) ?_
    try simp (config := { maxSteps := 2000000 }) only [go_sem, reduceCtorEq, Nat.reduceAdd, Nat.reduceEqDiff, reduceIte, Nat.reduceLeDiff, Nat.reduceLT, Nat.reduceSub]
    all_goals (repeat (with_reducible refine sAnd ?_))
    refine call_val (by repeat' constructor) (c_doc_Name _) ?_
    try simp (config := { maxSteps := 2000000 }) only [go_sem, reduceCtorEq, Nat.reduceAdd, Nat.reduceEqDiff, reduceIte, Nat.reduceLeDiff, Nat.reduceLT, Nat.reduceSub]
    all_goals (repeat (with_reducible refine sAnd ?_))
    refine callv_guard (by simp (config := { maxSteps := 2000000 }) only [go_sem, reduceCtorEq, Nat.reduceAdd, Nat.reduceEqDiff, reduceIte, Nat.reduceLeDiff, Nat.reduceLT, Nat.reduceSub]; rfl) (by rfl) (by first | exact fun _ => trivial | exact fun h => h) (by intro h; repeat' (first | exact trivial | exact h | refine And.intro ?_ ?_)) (fun _ => c_doc_Fine_1 _) ?_
    try simp (config := { maxSteps := 2000000 }) only [go_sem, reduceCtorEq, Nat.reduceAdd, Nat.reduceEqDiff, reduceIte, Nat.reduceLeDiff, Nat.reduceLT, Nat.reduceSub]
    all_goals (repeat (with_reducible refine sAnd ?_))
    rw [rises_step]
    refine cond_of (by rfl) trivial (fun h2 => ?_) (fun h2 => ?_)
    · try simp (config := { maxSteps := 2000000 }) only [go_sem, reduceCtorEq, Nat.reduceAdd, Nat.reduceEqDiff, reduceIte, Nat.reduceLeDiff, Nat.reduceLT, Nat.reduceSub]
      all_goals (repeat (with_reducible refine sAnd ?_))
      refine fin_val rfl trivial (.inl ?_)
      congr 3
      cases hn : okC l l.length with
      | false => rfl
      | true =>
        exfalso
        have h4 := range_all_get hn hlt
        simp only [cOk, Bool.and_eq_true, Bool.or_eq_true, decide_eq_true_eq] at h4
        rw [h4.1] at h2
        by_cases h0 : i = 0
        · subst h0
          cases hx : l.getD 0 [] with
          | nil => rw [hx] at h4; simp [isName] at h4
          | cons a r => rw [hx] at h2; simp [Op.bytesLess] at h2
        · rw [if_neg h0, h4.2.resolve_left h0] at h2
          simp at h2
    · try simp (config := { maxSteps := 2000000 }) only [go_sem, reduceCtorEq, Nat.reduceAdd, Nat.reduceEqDiff, reduceIte, Nat.reduceLeDiff, Nat.reduceLT, Nat.reduceSub]
      all_goals (repeat (with_reducible refine sAnd ?_))
      refine callv_val (by rfl) trivial (by repeat' constructor) (c_doc_Fine_1 _) ?_
      try simp (config := { maxSteps := 2000000 }) only [go_sem, reduceCtorEq, Nat.reduceAdd, Nat.reduceEqDiff, reduceIte, Nat.reduceLeDiff, Nat.reduceLT, Nat.reduceSub]
      all_goals (repeat (with_reducible refine sAnd ?_))
      refine ⟨i + 1, by omega, ⟨hlt, ?_⟩, ?_⟩
      · rw [okC_succ, hok]
        simp only [Bool.true_and, cOk]
        cases hn : isName (l.getD i []) with
        | false => rw [hn] at h2; simp at h2
        | true =>
          rw [hn] at h2
          by_cases h0 : i = 0
          · simp [h0]
          · rw [if_neg h0] at h2
            simp at h2
            simp [h0, h2]
      · simp (config := { maxSteps := 2000000 }) only [go_sem, reduceCtorEq, Nat.reduceAdd, Nat.reduceEqDiff, reduceIte, Nat.reduceLeDiff, Nat.reduceLT, Nat.reduceSub, le_cons, le_nil, le_un, le_same]
        all_goals (repeat' (first | exact trivial | exact le_int (by omega) | exact le_bool rfl | exact le_eq rfl | exact le_nlo | exact le_refl _ | refine And.intro ?_ ?_))
  · try simp (config := { maxSteps := 2000000 }) only [go_sem, reduceCtorEq, Nat.reduceAdd, Nat.reduceEqDiff, reduceIte, Nat.reduceLeDiff, Nat.reduceLT, Nat.reduceSub]
    all_goals (repeat (with_reducible refine sAnd ?_))
    refine fin_val rfl trivial (.inl ?_)
    congr 3
    have : i = l.length := by simp at h; omega
    rw [← this]; exact hok
def rOk (l : List (Bys × Bys)) (k : Nat) : Bool := isName (l.getD k default).1 && (decide (k = 0) || Op.bytesLess (l.getD (k - 1) default).1 (l.getD k default).1)
def riseTo (l : List (Bys × Bys)) (i : Nat) : Bool := (List.range i).all (rOk l)
abbrev riseA (l : List (Bys × Bys)) : Bool := riseTo l l.length
theorem riseTo_succ {l : List (Bys × Bys)} {i : Nat} : riseTo l (i + 1) = (riseTo l i && rOk l i) := range_all_succ
theorem c_doc_rises_Attr (l : List (Bys × Bys)) : Contract Tryd.prog fn_doc_rises_api_Attr [.val (.one (.sl 2 (attV l))), .val (.one (.clo fn_doc_Fine_2 []))] { res := .val (bv (riseA l)) } := by
  refine mk_doc_rises_api_Attr (base := 0) ⟨Nat.le_of_ble_eq_true rfl, Nat.le_of_ble_eq_true rfl, Nat.le_of_ble_eq_true rfl, rfl⟩ (fun hfit => ?_)
  unfold F0 doc_rises_api_Attr_E
  simp (config := { maxSteps := 2000000 }) only [markU, List.set_cons_succ, List.set_cons_zero, List.map_cons, List.map_nil, argCt, setCells, ioOf, List.length_cons, List.length_nil, Nat.reduceAdd, Nat.reduceSub, List.replicate, List.cons_append, List.nil_append]
  try simp (config := { maxSteps := 2000000 }) only [go_sem, reduceCtorEq, Nat.reduceAdd, Nat.reduceEqDiff, reduceIte, Nat.reduceLeDiff, Nat.reduceLT, Nat.reduceSub]
  all_goals (repeat (with_reducible refine sAnd ?_))
  have hm := fits_sl (k := 2) hfit.1
  rw [attV_len] at hm
  refine loop_sets (fun i : Nat => [(5, .pv (sv (if i = 0 then [] else (l.getD (i - 1) default).1))), (7, .un), (30, .un), (31, .un), (10, .pv (iv i)), (11, .un), (25, .un)]) (fun i : Nat => l.length - i) (fun i : Nat => i ≤ l.length ∧ riseTo l i = true) (0) ?_ ⟨Nat.zero_le _, rfl⟩ ?_
  focus (simp (config := { maxSteps := 2000000 }) only [go_sem, reduceCtorEq, Nat.reduceAdd, Nat.reduceEqDiff, reduceIte, Nat.reduceLeDiff, Nat.reduceLT, Nat.reduceSub, le_cons, le_nil, le_un, le_same]; all_goals (repeat' (first | exact trivial | exact le_int (by omega) | exact le_bool rfl | exact le_eq rfl | exact le_nlo | exact le_refl _ | refine And.intro ?_ ?_)))
  intro i ⟨hi, hok⟩
  try simp (config := { maxSteps := 2000000 }) only [go_sem, reduceCtorEq, Nat.reduceAdd, Nat.reduceEqDiff, reduceIte, Nat.reduceLeDiff, Nat.reduceLT, Nat.reduceSub]
  all_goals (repeat (with_reducible refine sAnd ?_))
  refine cond_of (by rfl) trivial (fun h => ?_) (fun h => ?_)
  · have hlt : i < l.length := by simpa using h
    try simp (config := { maxSteps := 2000000 }) only [go_sem, reduceCtorEq, Nat.reduceAdd, Nat.reduceEqDiff, reduceIte, Nat.reduceLeDiff, Nat.reduceLT, Nat.reduceSub, attV_get _ _ hlt]
    all_goals (repeat (with_reducible refine sAnd ?_))
    refine callv_val (by rfl) trivial (by repeat' constructor) (c_doc_Fine_2 _ _) ?_
    try simp (config := { maxSteps := 2000000 }) only [go_sem, reduceCtorEq, Nat.reduceAdd, Nat.reduceEqDiff, reduceIte, Nat.reduceLeDiff, Nat.reduceLT, Nat.reduceSub]
    all_goals (repeat (with_reducible refine sAnd ?_))
    refine call_val (by repeat' constructor) (c_doc_Name _) ?_
    try simp (config := { maxSteps := 2000000 }) only [go_sem, reduceCtorEq, Nat.reduceAdd, Nat.reduceEqDiff, reduceIte, Nat.reduceLeDiff, Nat.reduceLT, Nat.reduceSub]
    all_goals (repeat (with_reducible refine sAnd ?_))
    refine callv_guard (by simp (config := { maxSteps := 2000000 }) only [go_sem, reduceCtorEq, Nat.reduceAdd, Nat.reduceEqDiff, reduceIte, Nat.reduceLeDiff, Nat.reduceLT, Nat.reduceSub]; rfl) (by rfl) (by first | exact fun _ => trivial | exact fun h => h) (by intro h; repeat' (first | exact trivial | exact h | refine And.intro ?_ ?_)) (fun _ => c_doc_Fine_2 _ _) ?_
    try simp (config := { maxSteps := 2000000 }) only [go_sem, reduceCtorEq, Nat.reduceAdd, Nat.reduceEqDiff, reduceIte, Nat.reduceLeDiff, Nat.reduceLT, Nat.reduceSub]
    all_goals (repeat (with_reducible refine sAnd ?_))
    rw [rises_step]
    refine cond_of (by rfl) trivial (fun h2 => ?_) (fun h2 => ?_)
    · try simp (config := { maxSteps := 2000000 }) only [go_sem, reduceCtorEq, Nat.reduceAdd, Nat.reduceEqDiff, reduceIte, Nat.reduceLeDiff, Nat.reduceLT, Nat.reduceSub]
      all_goals (repeat (with_reducible refine sAnd ?_))
      refine fin_val rfl trivial (.inl ?_)
      congr 3
      cases hn : riseA l with
      | false => rfl
      | true =>
        exfalso
        have h4 := range_all_get hn hlt
        simp only [rOk, Bool.and_eq_true, Bool.or_eq_true, decide_eq_true_eq] at h4
        rw [h4.1] at h2
        by_cases h0 : i = 0
        · subst h0
          cases hx : (l.getD 0 default).1 with
          | nil => rw [hx] at h4; simp [isName] at h4
          | cons a r => rw [hx] at h2; simp [Op.bytesLess] at h2
        · rw [if_neg h0, h4.2.resolve_left h0] at h2
          simp at h2
    · try simp (config := { maxSteps := 2000000 }) only [go_sem, reduceCtorEq, Nat.reduceAdd, Nat.reduceEqDiff, reduceIte, Nat.reduceLeDiff, Nat.reduceLT, Nat.reduceSub]
      all_goals (repeat (with_reducible refine sAnd ?_))
      refine callv_val (by rfl) trivial (by repeat' constructor) (c_doc_Fine_2 _ _) ?_
      try simp (config := { maxSteps := 2000000 }) only [go_sem, reduceCtorEq, Nat.reduceAdd, Nat.reduceEqDiff, reduceIte, Nat.reduceLeDiff, Nat.reduceLT, Nat.reduceSub]
      all_goals (repeat (with_reducible refine sAnd ?_))
      refine ⟨i + 1, by omega, ⟨hlt, ?_⟩, ?_⟩
      · rw [riseTo_succ, hok]
        simp only [Bool.true_and, rOk]
        cases hn : isName ((l.getD i default).1) with
        | false => rw [hn] at h2; simp at h2
        | true =>
          rw [hn] at h2
          by_cases h0 : i = 0
          · simp [h0]
          · rw [if_neg h0] at h2
            simp at h2
            simp [h0, h2]
      · simp (config := { maxSteps := 2000000 }) only [go_sem, reduceCtorEq, Nat.reduceAdd, Nat.reduceEqDiff, reduceIte, Nat.reduceLeDiff, Nat.reduceLT, Nat.reduceSub, le_cons, le_nil, le_un, le_same]
        all_goals (repeat' (first | exact trivial | exact le_int (by omega) | exact le_bool rfl | exact le_eq rfl | exact le_nlo | exact le_refl _ | refine And.intro ?_ ?_))
  · try simp (config := { maxSteps := 2000000 }) only [go_sem, reduceCtorEq, Nat.reduceAdd, Nat.reduceEqDiff, reduceIte, Nat.reduceLeDiff, Nat.reduceLT, Nat.reduceSub]
    all_goals (repeat (with_reducible refine sAnd ?_))
    refine fin_val rfl trivial (.inl ?_)
    congr 3
    have : i = l.length := by simp at h; omega
    subst this; exact hok

def badAt (l : List (Bys × Bys)) (i : Nat) : Bool := !isValue (l.getD i default).2
def badIdx (l : List (Bys × Bys)) : Int := match (List.range l.length).find? (badAt l) with | some i => i | none => -1
theorem c_slices_IndexFunc_Attr (l : List (Bys × Bys)) : Contract Tryd.prog fn_slices_IndexFunc_Attr [.val (.one (.sl 2 (attV l))), .val (.one (.clo fn_doc_Fine_3 []))] { res := .val (iv (badIdx l)) } := by
  refine mk_slices_IndexFunc_Attr (base := 0) ⟨Nat.le_of_ble_eq_true rfl, Nat.le_of_ble_eq_true rfl, Nat.le_of_ble_eq_true rfl, rfl⟩ (fun hfit => ?_)
  unfold F0 slices_IndexFunc_Attr_E
  simp (config := { maxSteps := 2000000 }) only [markU, List.set_cons_succ, List.set_cons_zero, List.map_cons, List.map_nil, argCt, setCells, ioOf, List.length_cons, List.length_nil, Nat.reduceAdd, Nat.reduceSub, List.replicate, List.cons_append, List.nil_append]
  try simp (config := { maxSteps := 2000000 }) only [go_sem, reduceCtorEq, Nat.reduceAdd, Nat.reduceEqDiff, reduceIte, Nat.reduceLeDiff, Nat.reduceLT, Nat.reduceSub]
  all_goals (repeat (with_reducible refine sAnd ?_))
  have hm := fits_sl (k := 2) hfit.1
  rw [attV_len] at hm
  refine loop_sets (fun i : Nat => [(5, .un), (8, .pv (iv i)), (9, .un), (16, .un)]) (fun i : Nat => l.length - i) (fun i : Nat => i ≤ l.length ∧ ∀ k, k < i → badAt l k = false) (0) ?_ ⟨Nat.zero_le _, fun k hk => by omega⟩ ?_
  focus (simp (config := { maxSteps := 2000000 }) only [go_sem, reduceCtorEq, Nat.reduceAdd, Nat.reduceEqDiff, reduceIte, Nat.reduceLeDiff, Nat.reduceLT, Nat.reduceSub, le_cons, le_nil, le_un, le_same]; all_goals (repeat' (first | exact trivial | exact le_int (by omega) | exact le_bool rfl | exact le_eq rfl | exact le_nlo | exact le_refl _ | refine And.intro ?_ ?_)))
  intro i ⟨hi, hok⟩
  try simp (config := { maxSteps := 2000000 }) only [go_sem, reduceCtorEq, Nat.reduceAdd, Nat.reduceEqDiff, reduceIte, Nat.reduceLeDiff, Nat.reduceLT, Nat.reduceSub]
  all_goals (repeat (with_reducible refine sAnd ?_))
  refine cond_of (by rfl) trivial (fun h => ?_) (fun h => ?_)
  · have hlt : i < l.length := by simpa using h
    try simp (config := { maxSteps := 2000000 }) only [go_sem, reduceCtorEq, Nat.reduceAdd, Nat.reduceEqDiff, reduceIte, Nat.reduceLeDiff, Nat.reduceLT, Nat.reduceSub, attV_get _ _ hlt]
    all_goals (repeat (with_reducible refine sAnd ?_))
    refine callv_val (by rfl) trivial (by repeat' constructor) (c_doc_Fine_3 _ _) ?_
    try simp (config := { maxSteps := 2000000 }) only [go_sem, reduceCtorEq, Nat.reduceAdd, Nat.reduceEqDiff, reduceIte, Nat.reduceLeDiff, Nat.reduceLT, Nat.reduceSub]
    all_goals (repeat (with_reducible refine sAnd ?_))
    refine cond_of (by rfl) trivial (fun h2 => ?_) (fun h2 => ?_)
    · try simp (config := { maxSteps := 2000000 }) only [go_sem, reduceCtorEq, Nat.reduceAdd, Nat.reduceEqDiff, reduceIte, Nat.reduceLeDiff, Nat.reduceLT, Nat.reduceSub]
      all_goals (repeat (with_reducible refine sAnd ?_))
      refine fin_val rfl trivial (.inl ?_)
      congr 3
      have h3 : (List.range l.length).find? (badAt l) = some i := List.find?_range_eq_some.2 ⟨h2, List.mem_range.2 hlt, fun j hj => by rw [hok j hj]; rfl⟩
      rw [badIdx, h3]
    · try simp (config := { maxSteps := 2000000 }) only [go_sem, reduceCtorEq, Nat.reduceAdd, Nat.reduceEqDiff, reduceIte, Nat.reduceLeDiff, Nat.reduceLT, Nat.reduceSub]
      all_goals (repeat (with_reducible refine sAnd ?_))
      refine ⟨i + 1, by omega, ⟨hlt, fun k hk => ?_⟩, ?_⟩
      · by_cases e : k = i
        · rw [e]; exact h2
        · exact hok k (by omega)
      · simp (config := { maxSteps := 2000000 }) only [go_sem, reduceCtorEq, Nat.reduceAdd, Nat.reduceEqDiff, reduceIte, Nat.reduceLeDiff, Nat.reduceLT, Nat.reduceSub, le_cons, le_nil, le_un, le_same]
        all_goals (repeat' (first | exact trivial | exact le_int (by omega) | exact le_bool rfl | exact le_eq rfl | exact le_nlo | exact le_refl _ | refine And.intro ?_ ?_))
  · try simp (config := { maxSteps := 2000000 }) only [go_sem, reduceCtorEq, Nat.reduceAdd, Nat.reduceEqDiff, reduceIte, Nat.reduceLeDiff, Nat.reduceLT, Nat.reduceSub]
    all_goals (repeat (with_reducible refine sAnd ?_))
    refine fin_val rfl trivial (.inl ?_)
    congr 3
    have : i = l.length := by simp at h; omega
    have h3 : (List.range l.length).find? (badAt l) = none := List.find?_eq_none.2 fun x hx => by rw [hok x (by rw [this]; exact List.mem_range.1 hx)]; simp
    rw [badIdx, h3]
def anyBad (l : List (Bys × Bys)) : Bool := (List.range l.length).any (badAt l)
theorem badIdx_any (l : List (Bys × Bys)) : decide (0 ≤ badIdx l) = anyBad l := by
  unfold badIdx anyBad
  cases h : (List.range l.length).find? (badAt l) with
  | none =>
    have := List.find?_eq_none.1 h
    have h2 : (List.range l.length).any (badAt l) = false := by
      rw [List.any_eq_false]; exact this
    rw [h2]; rfl
  | some i =>
    have := List.find?_range_eq_some.1 h
    have h2 : (List.range l.length).any (badAt l) = true := List.any_eq_true.2 ⟨i, this.2.1, this.1⟩
    rw [h2]
    simp
theorem c_slices_ContainsFunc_Attr (l : List (Bys × Bys)) : Contract Tryd.prog fn_slices_ContainsFunc_Attr [.val (.one (.sl 2 (attV l))), .val (.one (.clo fn_doc_Fine_3 []))] { res := .val (bv (anyBad l)) } := by
  refine mk_slices_ContainsFunc_Attr (base := 0) ⟨Nat.le_of_ble_eq_true rfl, Nat.le_of_ble_eq_true rfl, Nat.le_of_ble_eq_true rfl, rfl⟩ (fun hfit => ?_)
  unfold F0 slices_ContainsFunc_Attr_E
  simp (config := { maxSteps := 2000000 }) only [markU, List.set_cons_succ, List.set_cons_zero, List.map_cons, List.map_nil, argCt, setCells, ioOf, List.length_cons, List.length_nil, Nat.reduceAdd, Nat.reduceSub, List.replicate, List.cons_append, List.nil_append]
  try simp (config := { maxSteps := 2000000 }) only [go_sem, reduceCtorEq, Nat.reduceAdd, Nat.reduceEqDiff, reduceIte, Nat.reduceLeDiff, Nat.reduceLT, Nat.reduceSub]
  all_goals (repeat (with_reducible refine sAnd ?_))
  refine call_val (by repeat' constructor) (c_slices_IndexFunc_Attr _) ?_
  try simp (config := { maxSteps := 2000000 }) only [go_sem, reduceCtorEq, Nat.reduceAdd, Nat.reduceEqDiff, reduceIte, Nat.reduceLeDiff, Nat.reduceLT, Nat.reduceSub]
  all_goals (repeat (with_reducible refine sAnd ?_))
  try simp (config := { maxSteps := 2000000 }) only [go_sem, reduceCtorEq, Nat.reduceAdd, Nat.reduceEqDiff, reduceIte, Nat.reduceLeDiff, Nat.reduceLT, Nat.reduceSub]
  all_goals (repeat (with_reducible refine sAnd ?_))
  refine fin_val rfl trivial (.inl ?_)
  congr 3
  rw [← badIdx_any]

theorem fine_split (l : List (Bys × Bys)) : okA l l.length = (riseA l && !anyBad l) := by
  rw [Bool.eq_iff_iff]
  simp only [okA, riseTo, anyBad, Bool.and_eq_true, Bool.not_eq_true', List.all_eq_true, List.any_eq_false, List.mem_range]
  constructor
  · intro h
    refine ⟨fun k hk => ?_, fun k hk => ?_⟩
    · have := h k hk
      simp only [aOk, rOk, Bool.and_eq_true] at this ⊢
      exact ⟨this.1.1, this.2⟩
    · have := h k hk
      simp only [aOk, badAt, Bool.and_eq_true] at this ⊢
      rw [this.1.2]; simp
  · intro ⟨h1, h2⟩ k hk
    have h3 := h1 k hk
    have h4 := h2 k hk
    simp only [aOk, rOk, badAt, Bool.and_eq_true, Bool.not_eq_true, Bool.not_eq_false'] at h3 h4 ⊢
    exact ⟨⟨h3.1, h4⟩, h3.2⟩

theorem c_doc_Fine (x : Nd) : Contract Tryd.prog fn_doc_Fine [.val (.agg (ndV x))] { res := .val (bv (nodeFine x)) } := by
  unfold ndV
  refine mk_doc_Fine (base := 0) ⟨Nat.le_of_ble_eq_true rfl, Nat.le_of_ble_eq_true rfl, Nat.le_of_ble_eq_true rfl, rfl⟩ (fun hfit => ?_)
  unfold F0 doc_Fine_E
  simp (config := { maxSteps := 2000000 }) only [markU, List.set_cons_succ, List.set_cons_zero, List.map_cons, List.map_nil, argCt, setCells, ioOf, List.length_cons, List.length_nil, Nat.reduceAdd, Nat.reduceSub, List.replicate, List.cons_append, List.nil_append]
  try simp (config := { maxSteps := 2000000 }) only [go_sem, reduceCtorEq, Nat.reduceAdd, Nat.reduceEqDiff, reduceIte, Nat.reduceLeDiff, Nat.reduceLT, Nat.reduceSub]
  all_goals (repeat (with_reducible refine sAnd ?_))
  refine call_val (by repeat' constructor) (c_doc_Name _) ?_
  try simp (config := { maxSteps := 2000000 }) only [go_sem, reduceCtorEq, Nat.reduceAdd, Nat.reduceEqDiff, reduceIte, Nat.reduceLeDiff, Nat.reduceLT, Nat.reduceSub]
  all_goals (repeat (with_reducible refine sAnd ?_))
  apply call_guard (h2 := fun _ => c_doc_Name _)
  · (simp (config := { maxSteps := 2000000 }) only [go_sem, reduceCtorEq, Nat.reduceAdd, Nat.reduceEqDiff, reduceIte, Nat.reduceLeDiff, Nat.reduceLT, Nat.reduceSub]; rfl)
  · intro h; repeat' (first | exact trivial | exact h | refine And.intro ?_ ?_)
  try simp (config := { maxSteps := 2000000 }) only [go_sem, reduceCtorEq, Nat.reduceAdd, Nat.reduceEqDiff, reduceIte, Nat.reduceLeDiff, Nat.reduceLT, Nat.reduceSub]
  all_goals (repeat (with_reducible refine sAnd ?_))
  apply call_guard (h2 := fun _ => c_doc_rises_string _)
  · (simp (config := { maxSteps := 2000000 }) only [go_sem, reduceCtorEq, Nat.reduceAdd, Nat.reduceEqDiff, reduceIte, Nat.reduceLeDiff, Nat.reduceLT, Nat.reduceSub]; rfl)
  · intro h; repeat' (first | exact trivial | exact h | refine And.intro ?_ ?_)
  try simp (config := { maxSteps := 2000000 }) only [go_sem, reduceCtorEq, Nat.reduceAdd, Nat.reduceEqDiff, reduceIte, Nat.reduceLeDiff, Nat.reduceLT, Nat.reduceSub]
  all_goals (repeat (with_reducible refine sAnd ?_))
  apply call_guard (h2 := fun _ => c_doc_rises_Attr _)
  · (simp (config := { maxSteps := 2000000 }) only [go_sem, reduceCtorEq, Nat.reduceAdd, Nat.reduceEqDiff, reduceIte, Nat.reduceLeDiff, Nat.reduceLT, Nat.reduceSub]; rfl)
  · intro h; repeat' (first | exact trivial | exact h | refine And.intro ?_ ?_)
  try simp (config := { maxSteps := 2000000 }) only [go_sem, reduceCtorEq, Nat.reduceAdd, Nat.reduceEqDiff, reduceIte, Nat.reduceLeDiff, Nat.reduceLT, Nat.reduceSub]
  all_goals (repeat (with_reducible refine sAnd ?_))
  apply call_guard (h2 := fun _ => c_slices_ContainsFunc_Attr _)
  · (simp (config := { maxSteps := 2000000 }) only [go_sem, reduceCtorEq, Nat.reduceAdd, Nat.reduceEqDiff, reduceIte, Nat.reduceLeDiff, Nat.reduceLT, Nat.reduceSub]; rfl)
  · intro h; repeat' (first | exact trivial | exact h | refine And.intro ?_ ?_)
  try simp (config := { maxSteps := 2000000 }) only [go_sem, reduceCtorEq, Nat.reduceAdd, Nat.reduceEqDiff, reduceIte, Nat.reduceLeDiff, Nat.reduceLT, Nat.reduceSub]
  all_goals (repeat (with_reducible refine sAnd ?_))
  refine fin_val rfl trivial (.inl ?_)
  congr 3
  simp only [nodeFine, fine_split]
  grind
end Go.Hx
end

section
set_option maxRecDepth 100000
set_option linter.unusedSimpArgs false
namespace Go.Hx
open Go.Proofs
variable [Glob]

attribute [local go_sem] ndsV_len clsV_len attV_len intsR_len ndV cellsEq
def popTo (u : Int) (c : List Int) : List Int := c.dropWhile fun x => decide (x ≠ u)
theorem popTo_mem {u : Int} : ∀ c : List Int, (popTo u c = []) ↔ u ∉ c
  | [] => by simp [popTo]
  | x :: c => by
    simp only [popTo, List.dropWhile_cons]
    by_cases h : x = u
    · simp [h]
    · have := popTo_mem (u := u) c
      simp only [popTo] at this
      simp only [ne_eq, decide_not] at this
      simp [h, this, Ne.symm h]
theorem popTo_chain {d : List Nd} {u : Int} : ∀ (f : Nat) (k : Int), (∀ j : Nat, (j : Int) ≤ k → upOf d j < j) → k < f → u ∈ chain d f k → ∀ g : Nat, u < g → popTo u (chain d f k) = chain d g u
  | 0, k, _, _, hu => by simp [chain] at hu
  | f + 1, k, h, hf, hu => by
    intro g hg
    have hb := chain_bound (f + 1) k h _ hu
    simp only [chain] at hu ⊢
    split at hu
    · cases hu
    · rename_i hk
      rw [if_neg hk]
      simp only [popTo, List.dropWhile_cons]
      by_cases e : k = u
      · subst e
        simp only [ne_eq, not_true_eq_false, decide_false, Bool.false_eq_true, if_false]
        have : k :: chain d f (upOf d k.toNat) = chain d (f + 1) k := by simp [chain, hk]
        rw [this]
        exact chain_fuel _ _ _ h hf hg
      · simp only [ne_eq, e, not_false_eq_true, decide_true, if_true]
        have h1 := h k.toNat (by omega)
        exact popTo_chain f (upOf d k.toNat) (fun j hj => h j (by omega)) (by omega) ((List.mem_cons.1 hu).resolve_left (Ne.symm e)) g hg
theorem intsR_last (c : List Int) (x : Int) : (intsR ((x :: c).reverse)).getD c.length [] = [bI x] := by
  simp [intsR]
theorem intsR_take (c : List Int) (x : Int) : (intsR ((x :: c).reverse)).take c.length = intsR c.reverse := by
  simp [intsR]
theorem intsR_nil : intsR [] = [] := rfl

theorem okUp_road {d : List Nd} {i : Nat} : okUp d i = ((decide (i ≠ 0) || decide (upOf d i = -1)) && (decide (i = 0) || !decide (popTo (upOf d i) (chain d i ((i : Int) - 1)) = []))) := by
  unfold okUp
  by_cases h : i = 0
  · simp [h]
  · have := popTo_mem (u := upOf d i) (chain d i ((i : Int) - 1))
    simp only [h, if_false, ne_eq, not_false_eq_true, decide_true, Bool.true_or, Bool.true_and, decide_false, Bool.false_or, this]
    simp

theorem chain_len {d : List Nd} : ∀ (f : Nat) (k : Int), (chain d f k).length ≤ f
  | 0, _ => by simp [chain]
  | f + 1, k => by
    simp only [chain]
    split
    · simp
    · have := chain_len (d := d) f (upOf d k.toNat)
      simp; omega
theorem toNat_s (n : Nat) : ((((n + 1 : Nat) : Int)) - 1).toNat = n := by omega
theorem fail_at {d : List Nd} {i : Nat} (hl : 1 ≤ d.length ∧ d.length ≤ 64) (hi : i < d.length) (h : okAt d i = false) : checkDoc d = 1 := by
  have : docOk d d.length = false := by
    cases hd : docOk d d.length with
    | false => rfl
    | true => rw [range_all_get hd hi] at h; cases h
  simp [checkDoc, hl, this]

theorem c_doc_Check (d : List Nd) : Contract Tryd.prog fn_doc_Check [.val (docV d)] { res := .val (iv (checkDoc d)) } := by
  unfold docV
  refine mk_doc_Check (base := 0) ⟨Nat.le_of_ble_eq_true rfl, Nat.le_of_ble_eq_true rfl, Nat.le_of_ble_eq_true rfl, rfl⟩ (fun hfit => ?_)
  unfold F0 doc_Check_E
  simp (config := { maxSteps := 2000000 }) only [markU, List.set_cons_succ, List.set_cons_zero, List.map_cons, List.map_nil, argCt, setCells, ioOf, List.length_cons, List.length_nil, Nat.reduceAdd, Nat.reduceSub, List.replicate, List.cons_append, List.nil_append]
  try simp (config := { maxSteps := 2000000 }) only [go_sem, reduceCtorEq, Nat.reduceAdd, Nat.reduceEqDiff, reduceIte, Nat.reduceLeDiff, Nat.reduceLT, Nat.reduceSub]
  all_goals (repeat (with_reducible refine sAnd ?_))
  refine cond_of (by rfl) trivial (fun h => ?_) (fun h => ?_)
  · try simp (config := { maxSteps := 2000000 }) only [go_sem, reduceCtorEq, Nat.reduceAdd, Nat.reduceEqDiff, reduceIte, Nat.reduceLeDiff, Nat.reduceLT, Nat.reduceSub]
    all_goals (repeat (with_reducible refine sAnd ?_))
    refine fin_val rfl trivial (.inl ?_)
    congr 3
    have hl : ¬ (1 ≤ d.length ∧ d.length ≤ 64) := by
      simp at h; omega
    simp [checkDoc, hl]
  have hl : 1 ≤ d.length ∧ d.length ≤ 64 := by
    simp at h; omega
  try simp (config := { maxSteps := 2000000 }) only [go_sem, reduceCtorEq, Nat.reduceAdd, Nat.reduceEqDiff, reduceIte, Nat.reduceLeDiff, Nat.reduceLT, Nat.reduceSub]
  all_goals (repeat (with_reducible refine sAnd ?_))
  refine loop_sets (fun i : Nat => [(3, .stk ty_int 1 (intsR (chain d i ((i : Int) - 1)).reverse)), (4, .un), (5, .un), (19, .pv (iv i)), (20, .un), (37, .un), (63, .un), (69, .un), (70, .un), (71, .un), (72, .un), (73, .un)]) (fun i : Nat => d.length - i) (fun i : Nat => i ≤ d.length ∧ docOk d i = true) (0) ?_ ⟨Nat.zero_le _, rfl⟩ ?_
  focus (simp (config := { maxSteps := 2000000 }) only [go_sem, reduceCtorEq, Nat.reduceAdd, Nat.reduceEqDiff, reduceIte, Nat.reduceLeDiff, Nat.reduceLT, Nat.reduceSub, le_cons, le_nil, le_un, le_same]; all_goals (repeat' (first | exact trivial | exact le_int (by omega) | exact le_bool rfl | exact le_eq rfl | exact le_nlo | exact le_refl _ | refine And.intro ?_ ?_)))
  intro i ⟨hi, hok⟩
  try simp (config := { maxSteps := 2000000 }) only [go_sem, reduceCtorEq, Nat.reduceAdd, Nat.reduceEqDiff, reduceIte, Nat.reduceLeDiff, Nat.reduceLT, Nat.reduceSub]
  all_goals (repeat (with_reducible refine sAnd ?_))
  refine cond_of (by rfl) trivial (fun h2 => ?_) (fun h2 => ?_)
  · have hlt : i < d.length := by simpa using h2
    try simp (config := { maxSteps := 2000000 }) only [go_sem, reduceCtorEq, Nat.reduceAdd, Nat.reduceEqDiff, reduceIte, Nat.reduceLeDiff, Nat.reduceLT, Nat.reduceSub, ndsV_get _ _ hlt]
    all_goals (repeat (with_reducible refine sAnd ?_))
    have hcl := chain_len (d := d) i ((i : Int) - 1)
    have hx : upOf d i = (d.getD i default).up := rfl
    refine loop_sets (fun c : List Int => [(3, .stk ty_int 1 (intsR c.reverse)), (37, .un)]) (fun c : List Int => c.length) (fun c : List Int => c.length ≤ i ∧ popTo (upOf d i) c = popTo (upOf d i) (chain d i ((i : Int) - 1))) ((chain d i ((i : Int) - 1))) ?_ ⟨hcl, rfl⟩ ?_
    focus (simp (config := { maxSteps := 2000000 }) only [go_sem, reduceCtorEq, Nat.reduceAdd, Nat.reduceEqDiff, reduceIte, Nat.reduceLeDiff, Nat.reduceLT, Nat.reduceSub, le_cons, le_nil, le_un, le_same]; all_goals (repeat' (first | exact trivial | exact le_int (by omega) | exact le_bool rfl | exact le_eq rfl | exact le_nlo | exact le_refl _ | refine And.intro ?_ ?_)))
    intro c ⟨hcl, hc⟩
    cases c with
    | nil =>
      have hpop : popTo (upOf d i) (chain d i ((i : Int) - 1)) = [] := by rw [← hc]; rfl
      have hup := okUp_road (d := d) (i := i)
      rw [hpop] at hup
      try simp (config := { maxSteps := 2000000 }) only [go_sem, reduceCtorEq, Nat.reduceAdd, Nat.reduceEqDiff, reduceIte, Nat.reduceLeDiff, Nat.reduceLT, Nat.reduceSub, List.reverse_nil, intsR_nil, List.getD_nil, List.headD_nil]
      all_goals (repeat (with_reducible refine sAnd ?_))
      refine cond_of (by rfl) trivial (fun h3 => ?_) (fun h3 => ?_)
      · simp at h3
      try simp (config := { maxSteps := 2000000 }) only [go_sem, reduceCtorEq, Nat.reduceAdd, Nat.reduceEqDiff, reduceIte, Nat.reduceLeDiff, Nat.reduceLT, Nat.reduceSub]
      all_goals (repeat (with_reducible refine sAnd ?_))
      refine dcall_val (by repeat' constructor) (c_doc_Fine (d.getD i default)) ?_
      try simp (config := { maxSteps := 2000000 }) only [go_sem, reduceCtorEq, Nat.reduceAdd, Nat.reduceEqDiff, reduceIte, Nat.reduceLeDiff, Nat.reduceLT, Nat.reduceSub]
      all_goals (repeat (with_reducible refine sAnd ?_))
      refine cond_of (by rfl) trivial (fun h4 => ?_) (fun h4 => ?_)
      · try simp (config := { maxSteps := 2000000 }) only [go_sem, reduceCtorEq, Nat.reduceAdd, Nat.reduceEqDiff, reduceIte, Nat.reduceLeDiff, Nat.reduceLT, Nat.reduceSub]
        all_goals (repeat (with_reducible refine sAnd ?_))
        refine fin_val rfl trivial (.inl ?_)
        congr 3
        refine fail_at hl hlt ?_
        rw [okAt, hup]
        grind
      · try simp (config := { maxSteps := 2000000 }) only [go_sem, reduceCtorEq, Nat.reduceAdd, Nat.reduceEqDiff, reduceIte, Nat.reduceLeDiff, Nat.reduceLT, Nat.reduceSub]
        all_goals (repeat (with_reducible refine sAnd ?_))
        have h5 : i = 0 := by grind
        have h6 : okAt d i = true := by
          rw [okAt, hup]
          grind
        refine ⟨i + 1, by omega, ⟨by omega, by rw [docOk_succ, hok, h6]; rfl⟩, ?_⟩
        simp (config := { maxSteps := 2000000 }) only [go_sem, reduceCtorEq, Nat.reduceAdd, Nat.reduceEqDiff, reduceIte, Nat.reduceLeDiff, Nat.reduceLT, Nat.reduceSub, le_cons, le_nil, le_un, le_same]
        all_goals (repeat' (first | exact trivial | exact le_int (by omega) | exact le_bool rfl | exact le_eq rfl | exact le_nlo | exact le_refl _ | refine And.intro ?_ ?_))
        refine le_eq ?_
        subst h5
        have : upOf d 0 = -1 := by grind
        simp [chain, this, intsR]
    | cons x c =>
      have hlen : c.length + 1 ≤ 64 := by simp at hcl; omega
      try simp (config := { maxSteps := 2000000 }) only [go_sem, reduceCtorEq, Nat.reduceAdd, Nat.reduceEqDiff, reduceIte, Nat.reduceLeDiff, Nat.reduceLT, Nat.reduceSub, List.length_reverse, toNat_s, intsR_last, intsR_take]
      all_goals (repeat (with_reducible refine sAnd ?_))
      refine cond_of (by rfl) trivial (fun h3 => ?_) (fun h3 => ?_)
      · try simp (config := { maxSteps := 2000000 }) only [go_sem, reduceCtorEq, Nat.reduceAdd, Nat.reduceEqDiff, reduceIte, Nat.reduceLeDiff, Nat.reduceLT, Nat.reduceSub, List.length_reverse, toNat_s, intsR_last, intsR_take]
        all_goals (repeat (with_reducible refine sAnd ?_))
        refine ⟨c, by omega, ⟨by simp at hcl; omega, ?_⟩, ?_⟩
        · rw [← hc]
          simp only [popTo, List.dropWhile_cons]
          grind
        · simp (config := { maxSteps := 2000000 }) only [go_sem, reduceCtorEq, Nat.reduceAdd, Nat.reduceEqDiff, reduceIte, Nat.reduceLeDiff, Nat.reduceLT, Nat.reduceSub, le_cons, le_nil, le_un, le_same]
          all_goals (repeat' (first | exact trivial | exact le_int (by omega) | exact le_bool rfl | exact le_eq rfl | exact le_nlo | exact le_refl _ | refine And.intro ?_ ?_))
      have hxu : x = upOf d i := by grind
      have hpop : popTo (upOf d i) (chain d i ((i : Int) - 1)) = x :: c := by rw [← hc]; simp [popTo, hxu]
      have hup := okUp_road (d := d) (i := i)
      rw [hpop] at hup
      try simp (config := { maxSteps := 2000000 }) only [go_sem, reduceCtorEq, Nat.reduceAdd, Nat.reduceEqDiff, reduceIte, Nat.reduceLeDiff, Nat.reduceLT, Nat.reduceSub, List.length_reverse]
      all_goals (repeat (with_reducible refine sAnd ?_))
      refine dcall_val (by repeat' constructor) (c_doc_Fine (d.getD i default)) ?_
      try simp (config := { maxSteps := 2000000 }) only [go_sem, reduceCtorEq, Nat.reduceAdd, Nat.reduceEqDiff, reduceIte, Nat.reduceLeDiff, Nat.reduceLT, Nat.reduceSub]
      all_goals (repeat (with_reducible refine sAnd ?_))
      refine cond_of (by rfl) trivial (fun h4 => ?_) (fun h4 => ?_)
      · try simp (config := { maxSteps := 2000000 }) only [go_sem, reduceCtorEq, Nat.reduceAdd, Nat.reduceEqDiff, reduceIte, Nat.reduceLeDiff, Nat.reduceLT, Nat.reduceSub]
        all_goals (repeat (with_reducible refine sAnd ?_))
        refine fin_val rfl trivial (.inl ?_)
        congr 3
        refine fail_at hl hlt ?_
        rw [okAt, hup]
        grind
      · try simp (config := { maxSteps := 2000000 }) only [go_sem, reduceCtorEq, Nat.reduceAdd, Nat.reduceEqDiff, reduceIte, Nat.reduceLeDiff, Nat.reduceLT, Nat.reduceSub]
        all_goals (repeat (with_reducible refine sAnd ?_))
        have hmem : upOf d i ∈ chain d i ((i : Int) - 1) := by
          have := popTo_mem (u := upOf d i) (chain d i ((i : Int) - 1))
          rw [hpop] at this
          simpa using this
        have h5 : i ≠ 0 := by intro h0; subst h0; simp [chain] at hmem
        have h6 : okAt d i = true := by
          rw [okAt, hup]
          grind
        refine ⟨i + 1, by omega, ⟨by omega, by rw [docOk_succ, hok, h6]; rfl⟩, ?_⟩
        simp (config := { maxSteps := 2000000 }) only [go_sem, reduceCtorEq, Nat.reduceAdd, Nat.reduceEqDiff, reduceIte, Nat.reduceLeDiff, Nat.reduceLT, Nat.reduceSub, le_cons, le_nil, le_un, le_same]
        all_goals (repeat' (first | exact trivial | exact le_int (by omega) | exact le_bool rfl | exact le_eq rfl | exact le_nlo | exact le_refl _ | refine And.intro ?_ ?_))
        refine le_eq ?_
        have hups : ∀ j : Nat, (j : Int) ≤ (i : Int) - 1 → upOf d j < j := fun j hj => (docOk_up hok j (by omega)).2
        have hb := chain_bound i ((i : Int) - 1) hups _ hmem
        have hch := popTo_chain i ((i : Int) - 1) hups (by omega) hmem i (by omega)
        rw [hpop] at hch
        have : chain d (i + 1) (((i + 1 : Nat) : Int) - 1) = (i : Int) :: x :: c := by
          rw [show (((i + 1 : Nat) : Int) - 1) = (i : Int) by omega]
          simp only [chain]
          rw [if_neg (by omega), hch]
          simp
        rw [this]
        simp [intsR]
  · try simp (config := { maxSteps := 2000000 }) only [go_sem, reduceCtorEq, Nat.reduceAdd, Nat.reduceEqDiff, reduceIte, Nat.reduceLeDiff, Nat.reduceLT, Nat.reduceSub]
    all_goals (repeat (with_reducible refine sAnd ?_))
    refine fin_val rfl trivial (.inl ?_)
    congr 3
    have hi2 : i = d.length := by simp at h2; omega
    subst hi2
    simp [checkDoc, hl, hok]
end Go.Hx
end

section
set_option maxRecDepth 100000
set_option linter.unusedSimpArgs false
namespace Go.Hx
open Go.Proofs
variable [Glob]

attribute [local go_sem] ndsV_len clsV_len attV_len intsR_len ndV cellsEq
def behF (d : List Nd) (n : Nat) : Nat → Nat → Nat
  | 0, e => e
  | f + 1, e => if (n : Int) ≤ upOf d e then behF d n f (e + 1) else e
def behind (d : List Nd) (n : Nat) : Nat := behF d n (d.length - (n + 1)) (n + 1)
theorem behF_le {d : List Nd} {n : Nat} : ∀ (f e : Nat), e ≤ behF d n f e ∧ behF d n f e ≤ e + f
  | 0, e => by simp [behF]
  | f + 1, e => by
    simp only [behF]
    split
    · have := behF_le (d := d) (n := n) f (e + 1); omega
    · omega
theorem behind_le {d : List Nd} {n : Nat} (h : n < d.length) : n < behind d n ∧ behind d n ≤ d.length := by
  have := behF_le (d := d) (n := n) (d.length - (n + 1)) (n + 1)
  simp only [behind]; omega

def kidsF (d : List Nd) (n : Nat) : Nat → Nat → List Int
  | 0, _ => []
  | f + 1, i => if i < behind d n then (i : Int) :: kidsF d n f (behind d i) else []
def docKids (d : List Nd) (n : Nat) : List Int := kidsF d n d.length (n + 1)

end Go.Hx
end

section
set_option maxRecDepth 100000
set_option linter.unusedSimpArgs false
namespace Go.Hx
open Go.Proofs
variable [Glob]

attribute [local go_sem] ndsV_len clsV_len attV_len intsR_len ndV cellsEq
def sls (ls : List (List Nd)) : List (List PV) := ls.map fun l => [.sl 5 (ndsV l)]
end Go.Hx
end

section
-- DOM ndsV_take, ndsV_drop, List.take_length
set_option maxRecDepth 100000
set_option linter.unusedSimpArgs false
namespace Go.Hx
open Go.Proofs
variable [Glob]

attribute [local go_sem] ndsV_len clsV_len attV_len intsR_len ndV cellsEq List.take_length
end Go.Hx
end

section
/-
  Right documents: what lies under an element are the elements right behind it; its kids; its part. Plain Lean, no program in sight. No condition.
-/
namespace Go.Hx
variable [Glob]

/-- Element k and what is above it. -/
def C (d : List Nd) (k : Int) : List Int := chain d d.length k

section
variable {d : List Nd} (hd : docOk d d.length = true)
include hd

theorem C_neg {k : Int} (h : k < 0) : C d k = [] := by
  unfold C
  cases d.length <;> simp [chain, h]

theorem C_step {k : Nat} (hk : k < d.length) : C d k = (k : Int) :: C d (upOf d k) := by
  unfold C
  have hu := docOk_up hd k hk
  obtain ⟨f, hf⟩ : ∃ f, d.length = f + 1 := ⟨d.length - 1, by omega⟩
  rw [hf]
  have e := chain_fuel (d := d) f (f + 1) (upOf d k) (fun j hj => (docOk_up hd j (by omega)).2) (by omega) (by omega)
  rw [← e]
  simp only [chain, Int.toNat_natCast]
  rw [if_neg (by omega)]

theorem C_le {k : Int} (hk : k < d.length) {x : Int} (hx : x ∈ C d k) : 0 ≤ x ∧ x ≤ k :=
  chain_bound d.length k (fun j hj => (docOk_up hd j (by omega)).2) x hx

theorem C_ind {p : Nat → Prop} (h : ∀ k, k < d.length → (∀ j : Nat, upOf d k = (j : Int) → j < k → p j) → p k) : ∀ k, k < d.length → p k := by
  intro k
  induction k using Nat.strongRecOn with
  | ind k ih => intro hk; exact h k hk fun j _ hj => ih j hj (by omega)

theorem up_cases {k : Nat} (hk : k < d.length) : upOf d k < 0 ∨ ∃ j : Nat, upOf d k = j ∧ j < k := by
  have := docOk_up hd k hk
  by_cases h : upOf d k < 0
  · exact .inl h
  · exact .inr ⟨(upOf d k).toNat, by omega, by omega⟩

theorem C_sub : ∀ k, k < d.length → ∀ {u x : Int}, u ∈ C d k → x ∈ C d u → x ∈ C d k := by
  refine C_ind hd fun k hk ih u x hu hx => ?_
  rw [C_step hd hk] at hu ⊢
  rcases List.mem_cons.1 hu with rfl | hu
  · rw [C_step hd hk] at hx; exact hx
  · refine List.mem_cons_of_mem _ ?_
    rcases up_cases hd hk with h | ⟨j, h, hj⟩
    · rw [C_neg hd h] at hu; cases hu
    · rw [h] at hu ⊢
      exact ih j h hj hu hx

/-- Of two above the same, the higher one is above the other's up. -/
theorem C_two : ∀ k, k < d.length → ∀ {i : Nat} {x : Int}, (i : Int) ∈ C d k → x ∈ C d k → x < i → x ∈ C d (upOf d i) := by
  refine C_ind hd fun k hk ih i x hi hx hlt => ?_
  have hb := C_le hd (by omega) hi
  rw [C_step hd hk] at hi hx
  rcases List.mem_cons.1 hi with e | hi
  · have e : i = k := by omega
    subst e
    exact (List.mem_cons.1 hx).resolve_left (by omega)
  · have hx := (List.mem_cons.1 hx).resolve_left (by omega)
    rcases up_cases hd hk with h | ⟨j, h, hj⟩
    · rw [C_neg hd h] at hi; cases hi
    · rw [h] at hi hx
      exact ih j h hj hi hx hlt

theorem up_mem {k : Nat} (hk : k + 1 < d.length) : upOf d (k + 1) ∈ C d k := by
  have h := range_all_get hd hk
  simp only [okAt, okUp, Bool.and_eq_true] at h
  have h2 := h.2
  rw [if_neg (by omega)] at h2
  have h3 : upOf d (k + 1) ∈ chain d (k + 1) (((k + 1 : Nat) : Int) - 1) := by simpa using h2
  rw [show (((k + 1 : Nat) : Int) - 1) = k by omega] at h3
  unfold C
  rw [chain_fuel d.length (k + 1) k (fun j hj => (docOk_up hd j (by omega)).2) (by omega) (by omega)]
  exact h3

omit hd in
theorem behF_spec {n : Nat} : ∀ (f e : Nat), e + f = d.length → (∀ k, e ≤ k → k < behF d n f e → (n : Int) ≤ upOf d k) ∧ (behF d n f e < d.length → upOf d (behF d n f e) < n)
  | 0, e, h => ⟨fun k h1 h2 => by simp [behF] at h2; omega, fun h2 => by simp [behF] at h2; omega⟩
  | f + 1, e, h => by
    simp only [behF]
    split
    · rename_i h1
      have ih := behF_spec (n := n) f (e + 1) (by omega)
      refine ⟨fun k h2 h3 => ?_, ih.2⟩
      by_cases e1 : k = e
      · subst e1; exact h1
      · exact ih.1 k (by omega) h3
    · rename_i h1
      exact ⟨fun k h2 h3 => by omega, fun _ => by omega⟩
omit hd in
theorem behind_in {n : Nat} (hn : n < d.length) {k : Nat} (h1 : n < k) (h2 : k < behind d n) : (n : Int) ≤ upOf d k :=
  (behF_spec (d.length - (n + 1)) (n + 1) (by omega)).1 k h1 h2
omit hd in
theorem behind_out {n : Nat} (hn : n < d.length) (h : behind d n < d.length) : upOf d (behind d n) < n :=
  (behF_spec (d.length - (n + 1)) (n + 1) (by omega)).2 h

theorem under_in {n : Nat} (hn : n < d.length) : ∀ k, k < d.length → n < k → k < behind d n → (n : Int) ∈ C d (upOf d k) := by
  refine C_ind hd fun k hk ih h1 h2 => ?_
  have h3 := behind_in hn h1 h2
  have hb := behind_le hn
  rcases up_cases hd hk with h | ⟨j, h, hj⟩
  · omega
  · rw [h] at h3 ⊢
    rw [C_step hd (by omega)]
    by_cases e : n = j
    · subst e; exact List.mem_cons_self
    · exact List.mem_cons_of_mem _ (ih j h hj (by omega) (by omega))

theorem under_out {n : Nat} (hn : n < d.length) : ∀ k, k < d.length → behind d n ≤ k → (n : Int) ∉ C d k := by
  have hb := behind_le hn
  intro k
  induction k with
  | zero => intro hk h1; omega
  | succ k ih =>
    intro hk h1 hx
    rw [C_step hd hk] at hx
    rcases List.mem_cons.1 hx with e | hx
    · omega
    · by_cases e : behind d n = k + 1
      · have := behind_out hn (by omega)
        rw [e] at this
        have := C_le hd (by omega) hx
        omega
      · exact ih (by omega) (by omega) (C_sub hd k (by omega) (up_mem hd hk) hx)
theorem under_out' {n : Nat} (hn : n < d.length) {k : Nat} (hk : k < d.length) (h : behind d n ≤ k) : (n : Int) ∉ C d (upOf d k) := by
  intro hx
  exact under_out hd hn k hk h (by rw [C_step hd hk]; exact List.mem_cons_of_mem _ hx)
omit hd in
theorem kidsTo_skip {n : Int} {a : Nat} : ∀ {b : Nat}, a ≤ b → (∀ j, a ≤ j → j < b → upOf d j ≠ n) → kidsTo d n b = kidsTo d n a
  | 0, h, _ => by rw [show a = 0 by omega]
  | b + 1, h, hs => by
    by_cases e : a = b + 1
    · rw [e]
    · rw [kidsTo_succ, if_neg (hs b (by omega) (by omega)), kidsTo_skip (by omega) fun j h1 h2 => hs j h1 (by omega)]

omit hd in
theorem behind_mono {n i : Nat} (hn : n < d.length) (h1 : n < i) (h2 : i < behind d n) : behind d i ≤ behind d n := by
  have hb := behind_le hn
  have hi : i < d.length := by omega
  apply Classical.byContradiction
  intro h3
  have hb2 := behind_le hi
  have h4 := behind_in hi (k := behind d n) (by omega) (by omega)
  have h5 := behind_out hn (by omega)
  omega

theorem next_kid {n i : Nat} (hn : n < d.length) (h1 : n < i) (h2 : i < behind d n) (h3 : upOf d i = n) (h4 : behind d i < behind d n) : upOf d (behind d i) = n := by
  have hb := behind_le hn
  have hi : i < d.length := by omega
  have hbi := behind_le hi
  have h5 := behind_in hn (k := behind d i) (by omega) h4
  have h6 := behind_out hi (by omega)
  obtain ⟨p, hp⟩ : ∃ p, behind d i = p + 1 := ⟨behind d i - 1, by omega⟩
  have h7 := up_mem hd (k := p) (by omega)
  rw [← hp] at h7
  have h8 : (i : Int) ∈ C d p := by
    rw [C_step hd (by omega)]
    by_cases e : i = p
    · subst e; exact List.mem_cons_self
    · exact List.mem_cons_of_mem _ (under_in hd hi p (by omega) (by omega) (by omega))
  have h9 := C_two hd p (by omega) h8 h7 h6
  rw [h3] at h9
  have := C_le hd (by omega) h9
  omega

theorem first_kid {n : Nat} (hn : n < d.length) (h : n + 1 < behind d n) : upOf d (n + 1) = n := by
  have hb := behind_le hn
  have h1 := behind_in hn (k := n + 1) (by omega) h
  have h2 := docOk_up hd (n + 1) (by omega)
  omega

theorem kidsF_eq {n : Nat} (hn : n < d.length) : ∀ (f i : Nat), n < i → i ≤ behind d n → (i < behind d n → upOf d i = n) → d.length ≤ i + f → kidsTo d n i ++ kidsF d n f i = kidsOf d n := by
  have hb := behind_le hn
  have hlast : kidsTo d n (behind d n) = kidsOf d n := by
    refine (kidsTo_skip hb.2 fun j h1 h2 e => ?_).symm
    have := under_out' hd hn h2 h1
    rw [e, C_step hd hn] at this
    exact this List.mem_cons_self
  intro f
  induction f with
  | zero =>
    intro i h1 h2 h3 h4
    have : i = behind d n := by omega
    subst this
    simp [kidsF, hlast]
  | succ f ih =>
    intro i h1 h2 h3 h4
    simp only [kidsF]
    split
    · rename_i h5
      have hi : i < d.length := by omega
      have hbi := behind_le hi
      have h6 := ih (behind d i) (by omega) (behind_mono hn h1 h5) (next_kid hd hn h1 h5 (h3 h5)) (by omega)
      have h7 : kidsTo d n (behind d i) = kidsTo d n (i + 1) := kidsTo_skip hbi.1 fun j h7 h8 => by
        have := behind_in hi (k := j) (by omega) h8
        omega
      rw [← h6, h7, kidsTo_succ, if_pos (h3 h5)]
      simp
    · have : i = behind d n := by omega
      subst this
      simp [hlast]
theorem docKids_eq {n : Nat} (hn : n < d.length) : docKids d n = kidsOf d n := by
  have hb := behind_le hn
  have h := kidsF_eq hd hn d.length (n + 1) (by omega) (by omega) (first_kid hd hn) (by omega)
  rw [kidsTo_skip (Nat.zero_le _) fun j _ h2 => by have := docOk_up hd j (by omega); omega] at h
  rw [docKids, ← h]; simp [kidsTo]

/-- Elements a up to b, moved by off. -/
def seg (d : List Nd) (off : Int) (a b : Nat) : List Nd := (List.range' a (b - a)).map fun j => { d.getD j default with up := upOf d j + off }
omit hd in
theorem seg_len (off : Int) (a b : Nat) : (seg d off a b).length = b - a := by simp [seg]
omit hd in
theorem seg_app (off : Int) {a b c : Nat} (h1 : a ≤ b) (h2 : b ≤ c) : seg d off a b ++ seg d off b c = seg d off a c := by
  unfold seg
  rw [← List.map_append]
  congr 1
  have := List.range'_append (s := a) (m := b - a) (n := c - b) (step := 1)
  rw [show a + 1 * (b - a) = b by omega, show b - a + (c - b) = c - a by omega] at this
  exact this
omit hd in
theorem seg_cons (off : Int) {a b : Nat} (h : a < b) : seg d off a b = { d.getD a default with up := upOf d a + off } :: seg d off (a + 1) b := by
  unfold seg
  rw [show b - a = (b - (a + 1)) + 1 by omega, List.range'_succ]
  rfl
omit hd in
theorem seg_nil (off : Int) (a : Nat) : seg d off a a = [] := by simp [seg]

theorem lay_kids {n : Nat} (hn : n < d.length) (f : Nat) (off : Int) (ih : ∀ i, n < i → i < d.length → ∀ (l : List Nd) (u : Int), (l.length : Int) = i + off → layT (treeF d f i) l u = l ++ { d.getD i default with up := u } :: seg d off (i + 1) (behind d i)) :
    ∀ (g i : Nat), n < i → i ≤ behind d n → (i < behind d n → upOf d i = n) → d.length ≤ i + g → ∀ l : List Nd, (l.length : Int) = i + off → layTs ((kidsF d n g i).map fun k => treeF d f k.toNat) l (n + off) = l ++ seg d off i (behind d n) := by
  have hb := behind_le hn
  intro g
  induction g with
  | zero =>
    intro i h1 h2 h3 h4 l hl
    have : i = behind d n := by omega
    subst this
    simp [kidsF, layTs, seg_nil]
  | succ g ihg =>
    intro i h1 h2 h3 h4 l hl
    simp only [kidsF]
    split
    · rename_i h5
      have hi : i < d.length := by omega
      have hbi := behind_le hi
      have hm := behind_mono hn h1 h5
      simp only [List.map_cons, layTs, Int.toNat_natCast]
      rw [ih i h1 hi l _ hl]
      have e : l ++ { d.getD i default with up := (n : Int) + off } :: seg d off (i + 1) (behind d i) = l ++ seg d off i (behind d i) := by
        rw [seg_cons off hbi.1, h3 h5]
      rw [e, ihg (behind d i) (by omega) hm (next_kid hd hn h1 h5 (h3 h5)) (by omega) _ (by rw [List.length_append, seg_len]; omega), List.append_assoc, seg_app off (by omega) hm]
    · have : i = behind d n := by omega
      subst this
      simp [layTs, seg_nil]

theorem lay_tree (off : Int) : ∀ (f n : Nat), n < d.length → d.length ≤ n + f → ∀ (l : List Nd) (u : Int), (l.length : Int) = n + off → layT (treeF d f n) l u = l ++ { d.getD n default with up := u } :: seg d off (n + 1) (behind d n)
  | 0, n, hn, h, l, u, hl => by omega
  | f + 1, n, hn, h, l, u, hl => by
    have hb := behind_le hn
    simp only [treeF, layT]
    rw [← docKids_eq hd hn, hl]
    rw [docKids, lay_kids hd hn f off (fun i h1 h2 l u hl => lay_tree off f i h2 (by omega) l u hl) d.length (n + 1) (by omega) (by omega) (first_kid hd hn) (by omega) _ (by simp; omega)]
    simp

theorem treeF_sz {n : Nat} (hn : n < d.length) : szT (treeF d d.length n) = behind d n - n := by
  have hb := behind_le hn
  have h1 := layT_len (treeF d d.length n) (List.replicate n default) 0
  rw [lay_tree hd 0 d.length n hn (by omega) (List.replicate n default) 0 (by simp)] at h1
  simp [seg_len] at h1
  omega

end
end Go.Hx
end

section
/-
  Right documents: what is left when an element is removed. Plain Lean, no program in sight. No condition.
-/
namespace Go.Hx
variable [Glob]

section
variable {d : List Nd} (hd : docOk d d.length = true)
include hd

theorem up_nonneg {k : Nat} (h0 : 0 < k) (hk : k < d.length) : 0 ≤ upOf d k := by
  obtain ⟨j, rfl⟩ : ∃ j, k = j + 1 := ⟨k - 1, by omega⟩
  exact (C_le hd (by omega) (up_mem hd hk)).1
theorem up_zero (h : 0 < d.length) : upOf d 0 = -1 := by
  have := range_all_get hd h
  simp only [okAt, okUp, Bool.and_eq_true] at this
  simpa using this.2
theorem behind_zero (h : 0 < d.length) : behind d 0 = d.length := by
  have hb := behind_le h
  apply Classical.byContradiction
  intro hne
  have h1 := behind_out h (by omega)
  have h2 := up_nonneg hd (k := behind d 0) (by omega) (by omega)
  omega

/-- Where an element lies when n, and all that is under it, is gone. -/
def pos (d : List Nd) (n : Nat) (j : Int) : Int := if j ≥ behind d n then j - behind d n + n else j
end
end Go.Hx
end

section
-- DOM ↓ o_vlp, ↓ o_vse, atV, ovRows_len, OVal.cells, layR, List.drop_succ_cons, List.drop_zero, List.take_succ_cons, List.getD_nil, frzL_p, plainL, Nat.sub_zero, List.map_nil, List.map_cons
set_option maxRecDepth 100000
set_option linter.unusedSimpArgs false
namespace Go.Hx
open Go.Proofs
variable [Glob]

attribute [local go_sem] ndsV_len clsV_len attV_len intsR_len ndV cellsEq atV OVal.cells layR List.drop_succ_cons List.drop_zero List.take_succ_cons List.getD_nil frzL_p plainL Nat.sub_zero List.map_nil List.map_cons
attribute [local go_sem ↓] o_vlp
end Go.Hx
end

section
-- DOM docV, List.getElem?_cons_zero, List.getElem?_cons_succ
set_option maxRecDepth 100000
set_option linter.unusedSimpArgs false
namespace Go.Hx
open Go.Proofs
variable [Glob]

attribute [local go_sem] ndsV_len clsV_len attV_len intsR_len ndV cellsEq docV List.getElem?_cons_zero List.getElem?_cons_succ
def smallD : List Nd := [
  { up := -1, tag := [108, 105, 115, 116], id := [116, 111, 112], cls := [], att := [] },
  { up := 0, tag := [105, 116, 101, 109], id := [], cls := [[97]], att := [] },
  { up := 0, tag := [105, 116, 101, 109], id := [], cls := [[98]], att := [] },
  { up := 2, tag := [108, 105, 110, 107], id := [], cls := [], att := [([116, 111], [111, 110, 101, 32, 116, 119, 111])] },
  { up := 0, tag := [105, 116, 101, 109], id := [], cls := [[97]], att := [] }]
theorem c_law_small : Contract Tryd.prog fn_law_small [] { res := .val (docV smallD) } := by
  refine mk_law_small (base := 0) ⟨Nat.le_of_ble_eq_true rfl, Nat.le_of_ble_eq_true rfl, Nat.le_of_ble_eq_true rfl, rfl⟩ (fun hfit => ?_)
  unfold F0 law_small_E
  simp (config := { maxSteps := 2000000 }) only [markU, List.set_cons_succ, List.set_cons_zero, List.map_cons, List.map_nil, argCt, setCells, ioOf, List.length_cons, List.length_nil, Nat.reduceAdd, Nat.reduceSub, List.replicate, List.cons_append, List.nil_append]
  try simp (config := { maxSteps := 2000000 }) only [go_sem, reduceCtorEq, Nat.reduceAdd, Nat.reduceEqDiff, reduceIte, Nat.reduceLeDiff, Nat.reduceLT, Nat.reduceSub]
  all_goals (repeat (with_reducible refine sAnd ?_))
  exact fin_cellB rfl rfl rfl

theorem z2 : (2 : Int).toNat = 2 := rfl
theorem z3 : (3 : Int).toNat = 3 := rfl
theorem s_check : checkDoc smallD = 0 := by kernel_rfl
theorem dec_self {α : Type} [DecidableEq α] (a : α) : decide (a = a) = true := by simp
end Go.Hx
end

section
-- DOM docV
set_option maxRecDepth 100000
set_option linter.unusedSimpArgs false
namespace Go.Hx
open Go.Proofs
variable [Glob]

attribute [local go_sem] ndsV_len clsV_len attV_len intsR_len ndV cellsEq docV
end Go.Hx
end
