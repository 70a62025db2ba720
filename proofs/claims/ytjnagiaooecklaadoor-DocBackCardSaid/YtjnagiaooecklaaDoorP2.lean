/-
  Walks of functions of the program: each contract says what the function computes, for every input that its conditions let by. No other condition.
-/
import Derived.Test.YtjnagiaooecklaaDoorP1
set_option linter.all false
set_option maxRecDepth 100000
set_option linter.unusedSimpArgs false
namespace Go.Hx
open Go.Proofs

theorem c_ref_NodeFine (x : Nd) : Contract Tryd.prog fn_ref_NodeFine [.val (.agg (ndV x))] { res := .val (bv (nodeFine x)) } := by
  unfold ndV
  refine mk_ref_NodeFine (base := 0) ⟨Nat.le_of_ble_eq_true rfl, Nat.le_of_ble_eq_true rfl, Nat.le_of_ble_eq_true rfl, rfl⟩ (fun hfit => ?_)
  unfold F0 ref_NodeFine_E
  simp (config := { maxSteps := 2000000 }) only [markU, List.set_cons_succ, List.set_cons_zero, List.map_cons, List.map_nil, argCt, setCells, ioOf, List.length_cons, List.length_nil, Nat.reduceAdd, Nat.reduceSub, List.replicate, List.cons_append, List.nil_append]
  try simp (config := { maxSteps := 2000000 }) only [go_sem, reduceCtorEq, Nat.reduceAdd, Nat.reduceEqDiff, reduceIte, Nat.reduceLeDiff, Nat.reduceLT, Nat.reduceSub, ndsV_len, clsV_len, attV_len, intsR_len, ndV, cellsEq]
  all_goals (repeat (with_reducible refine And.intro (by (first | omega | exact inR_small (by omega) (by omega) | exact fun _ => inR_small (by omega) (by omega) | assumption | trivial | (intros; omega) | (simp_all; done) | (intros; simp [*]; done) | (simp_all; omega) | grind)) ?_))
  refine call_val (by repeat' constructor) (c_ref_IsName _) ?_
  try simp (config := { maxSteps := 2000000 }) only [go_sem, reduceCtorEq, Nat.reduceAdd, Nat.reduceEqDiff, reduceIte, Nat.reduceLeDiff, Nat.reduceLT, Nat.reduceSub, ndsV_len, clsV_len, attV_len, intsR_len, ndV, cellsEq]
  all_goals (repeat (with_reducible refine And.intro (by (first | omega | exact inR_small (by omega) (by omega) | exact fun _ => inR_small (by omega) (by omega) | assumption | trivial | (intros; omega) | (simp_all; done) | (intros; simp [*]; done) | (simp_all; omega) | grind)) ?_))
  apply call_guard (h2 := fun _ => c_ref_IsName _)
  · (simp (config := { maxSteps := 2000000 }) only [go_sem, reduceCtorEq, Nat.reduceAdd, Nat.reduceEqDiff, reduceIte, Nat.reduceLeDiff, Nat.reduceLT, Nat.reduceSub, ndsV_len, clsV_len, attV_len, intsR_len, ndV, cellsEq]; rfl)
  · intro h; repeat' (first | exact trivial | exact h | refine And.intro ?_ ?_)
  try simp (config := { maxSteps := 2000000 }) only [go_sem, reduceCtorEq, Nat.reduceAdd, Nat.reduceEqDiff, reduceIte, Nat.reduceLeDiff, Nat.reduceLT, Nat.reduceSub, ndsV_len, clsV_len, attV_len, intsR_len, ndV, cellsEq, clsV_len, attV_len]
  all_goals (repeat (with_reducible refine And.intro (by (first | omega | exact inR_small (by omega) (by omega) | exact fun _ => inR_small (by omega) (by omega) | assumption | trivial | (intros; omega) | (simp_all; done) | (intros; simp [*]; done) | (simp_all; omega) | grind)) ?_))
  refine cond_of (by rfl) trivial (fun h => ?_) (fun h => ?_)
  · try simp (config := { maxSteps := 2000000 }) only [go_sem, reduceCtorEq, Nat.reduceAdd, Nat.reduceEqDiff, reduceIte, Nat.reduceLeDiff, Nat.reduceLT, Nat.reduceSub, ndsV_len, clsV_len, attV_len, intsR_len, ndV, cellsEq]
    all_goals (repeat (with_reducible refine And.intro (by (first | omega | exact inR_small (by omega) (by omega) | exact fun _ => inR_small (by omega) (by omega) | assumption | trivial | (intros; omega) | (simp_all; done) | (intros; simp [*]; done) | (simp_all; omega) | grind)) ?_))
    refine fin_val rfl trivial (.inl ?_)
    congr 3
    cases hn : nodeFine x with
    | false => rfl
    | true =>
      exfalso
      simp only [nodeFine, Bool.and_eq_true, Bool.or_eq_true, decide_eq_true_eq, beq_iff_eq] at hn
      obtain ⟨⟨⟨⟨⟨h1, h2⟩, h3⟩, h4⟩, _⟩, _⟩ := hn
      rcases h2 with h2 | h2
      · simp [h1, h2] at h; omega
      · simp [h1, h2] at h; omega
  have hh : isName x.tag = true ∧ (x.id = [] ∨ isName x.id = true) ∧ x.cls.length ≤ 6 ∧ x.att.length ≤ 4 := by
    simp at h
    refine ⟨h.1.1.1, ?_, by omega, by omega⟩
    by_cases h0 : x.id = []
    · exact .inl h0
    · exact .inr (h.1.1.2 h0)
  obtain ⟨hh1, hh2, hh3, hh4⟩ := hh
  try simp (config := { maxSteps := 2000000 }) only [go_sem, reduceCtorEq, Nat.reduceAdd, Nat.reduceEqDiff, reduceIte, Nat.reduceLeDiff, Nat.reduceLT, Nat.reduceSub, ndsV_len, clsV_len, attV_len, intsR_len, ndV, cellsEq]
  all_goals (repeat (with_reducible refine And.intro (by (first | omega | exact inR_small (by omega) (by omega) | exact fun _ => inR_small (by omega) (by omega) | assumption | trivial | (intros; omega) | (simp_all; done) | (intros; simp [*]; done) | (simp_all; omega) | grind)) ?_))
  refine loop_sets (fun i : Nat => [(3, .pv (iv i)), (36, .un), (63, .un)]) (fun i => x.cls.length - i) (fun i => i ≤ x.cls.length ∧ okC x.cls i = true) 0 ?_ ⟨Nat.zero_le _, rfl⟩ ?_
  · simp (config := { maxSteps := 2000000 }) only [go_sem, reduceCtorEq, Nat.reduceAdd, Nat.reduceEqDiff, reduceIte, Nat.reduceLeDiff, Nat.reduceLT, Nat.reduceSub, ndsV_len, clsV_len, attV_len, intsR_len, ndV, cellsEq, le_cons, le_nil, le_un, le_same]
  intro i ⟨hi, hok⟩
  try simp (config := { maxSteps := 2000000 }) only [go_sem, reduceCtorEq, Nat.reduceAdd, Nat.reduceEqDiff, reduceIte, Nat.reduceLeDiff, Nat.reduceLT, Nat.reduceSub, ndsV_len, clsV_len, attV_len, intsR_len, ndV, cellsEq, clsV_len]
  all_goals (repeat (with_reducible refine And.intro (by (first | omega | exact inR_small (by omega) (by omega) | exact fun _ => inR_small (by omega) (by omega) | assumption | trivial | (intros; omega) | (simp_all; done) | (intros; simp [*]; done) | (simp_all; omega) | grind)) ?_))
  refine cond_of (by rfl) trivial (fun h2 => ?_) (fun h2 => ?_)
  · have hlt : i < x.cls.length := by simpa using h2
    have e1 : ((i : Int) - 1).toNat = i - 1 := by omega
    try simp (config := { maxSteps := 2000000 }) only [go_sem, reduceCtorEq, Nat.reduceAdd, Nat.reduceEqDiff, reduceIte, Nat.reduceLeDiff, Nat.reduceLT, Nat.reduceSub, ndsV_len, clsV_len, attV_len, intsR_len, ndV, cellsEq, clsV_get _ _ hlt, clsV_len]
    all_goals (repeat (with_reducible refine And.intro (by (first | omega | exact inR_small (by omega) (by omega) | exact fun _ => inR_small (by omega) (by omega) | assumption | trivial | (intros; omega) | (simp_all; done) | (intros; simp [*]; done) | (simp_all; omega) | grind)) ?_))
    refine call_val (by repeat' constructor) (c_ref_IsName _) ?_
    try simp (config := { maxSteps := 2000000 }) only [go_sem, reduceCtorEq, Nat.reduceAdd, Nat.reduceEqDiff, reduceIte, Nat.reduceLeDiff, Nat.reduceLT, Nat.reduceSub, ndsV_len, clsV_len, attV_len, intsR_len, ndV, cellsEq, clsV_get _ _ hlt, clsV_len, e1, clsV_get _ _ (show i - 1 < x.cls.length by omega)]
    all_goals (repeat (with_reducible refine And.intro (by (first | omega | exact inR_small (by omega) (by omega) | exact fun _ => inR_small (by omega) (by omega) | assumption | trivial | (intros; omega) | (simp_all; done) | (intros; simp [*]; done) | (simp_all; omega) | grind)) ?_))
    refine cond_of (by rfl) trivial (fun h3 => ?_) (fun h3 => ?_)
    · try simp (config := { maxSteps := 2000000 }) only [go_sem, reduceCtorEq, Nat.reduceAdd, Nat.reduceEqDiff, reduceIte, Nat.reduceLeDiff, Nat.reduceLT, Nat.reduceSub, ndsV_len, clsV_len, attV_len, intsR_len, ndV, cellsEq]
      all_goals (repeat (with_reducible refine And.intro (by (first | omega | exact inR_small (by omega) (by omega) | exact fun _ => inR_small (by omega) (by omega) | assumption | trivial | (intros; omega) | (simp_all; done) | (intros; simp [*]; done) | (simp_all; omega) | grind)) ?_))
      refine fin_val rfl trivial (.inl ?_)
      congr 3
      cases hn : nodeFine x with
      | false => rfl
      | true =>
        exfalso
        simp only [nodeFine, Bool.and_eq_true] at hn
        have h4 := range_all_get hn.1.2 hlt
        simp [cOk, hlt] at h3 h4
        grind
    · try simp (config := { maxSteps := 2000000 }) only [go_sem, reduceCtorEq, Nat.reduceAdd, Nat.reduceEqDiff, reduceIte, Nat.reduceLeDiff, Nat.reduceLT, Nat.reduceSub, ndsV_len, clsV_len, attV_len, intsR_len, ndV, cellsEq]
      all_goals (repeat (with_reducible refine And.intro (by (first | omega | exact inR_small (by omega) (by omega) | exact fun _ => inR_small (by omega) (by omega) | assumption | trivial | (intros; omega) | (simp_all; done) | (intros; simp [*]; done) | (simp_all; omega) | grind)) ?_))
      refine ⟨i + 1, by omega, ⟨hlt, ?_⟩, ?_⟩
      · show (List.range (i + 1)).all (cOk x.cls) = true
        rw [range_all_succ]
        have hok' : (List.range i).all (cOk x.cls) = true := hok
        rw [hok']
        simp [cOk, hlt] at h3 ⊢
        refine ⟨h3.1, ?_⟩
        rcases Nat.eq_zero_or_pos i with h5 | h5
        · exact .inl h5
        · exact .inr (h3.2 h5)
      · simp (config := { maxSteps := 2000000 }) only [go_sem, reduceCtorEq, Nat.reduceAdd, Nat.reduceEqDiff, reduceIte, Nat.reduceLeDiff, Nat.reduceLT, Nat.reduceSub, ndsV_len, clsV_len, attV_len, intsR_len, ndV, cellsEq, le_cons, le_nil, le_un, le_same]
        exact le_int (by omega)
  try simp (config := { maxSteps := 2000000 }) only [go_sem, reduceCtorEq, Nat.reduceAdd, Nat.reduceEqDiff, reduceIte, Nat.reduceLeDiff, Nat.reduceLT, Nat.reduceSub, ndsV_len, clsV_len, attV_len, intsR_len, ndV, cellsEq]
  all_goals (repeat (with_reducible refine And.intro (by (first | omega | exact inR_small (by omega) (by omega) | exact fun _ => inR_small (by omega) (by omega) | assumption | trivial | (intros; omega) | (simp_all; done) | (intros; simp [*]; done) | (simp_all; omega) | grind)) ?_))
  have hi2 : i = x.cls.length := by simp at h2; omega
  refine loop_sets (fun i : Nat => [(4, .pv (iv i)), (68, .un), (108, .un)]) (fun i => x.att.length - i) (fun i => i ≤ x.att.length ∧ okA x.att i = true) 0 ?_ ⟨Nat.zero_le _, rfl⟩ ?_
  · simp (config := { maxSteps := 2000000 }) only [go_sem, reduceCtorEq, Nat.reduceAdd, Nat.reduceEqDiff, reduceIte, Nat.reduceLeDiff, Nat.reduceLT, Nat.reduceSub, ndsV_len, clsV_len, attV_len, intsR_len, ndV, cellsEq, le_cons, le_nil, le_un, le_same]
  intro k ⟨hk, hokA⟩
  try simp (config := { maxSteps := 2000000 }) only [go_sem, reduceCtorEq, Nat.reduceAdd, Nat.reduceEqDiff, reduceIte, Nat.reduceLeDiff, Nat.reduceLT, Nat.reduceSub, ndsV_len, clsV_len, attV_len, intsR_len, ndV, cellsEq, attV_len]
  all_goals (repeat (with_reducible refine And.intro (by (first | omega | exact inR_small (by omega) (by omega) | exact fun _ => inR_small (by omega) (by omega) | assumption | trivial | (intros; omega) | (simp_all; done) | (intros; simp [*]; done) | (simp_all; omega) | grind)) ?_))
  refine cond_of (by rfl) trivial (fun h3 => ?_) (fun h3 => ?_)
  · have hlt : k < x.att.length := by simpa using h3
    have e1 : ((k : Int) - 1).toNat = k - 1 := by omega
    try simp (config := { maxSteps := 2000000 }) only [go_sem, reduceCtorEq, Nat.reduceAdd, Nat.reduceEqDiff, reduceIte, Nat.reduceLeDiff, Nat.reduceLT, Nat.reduceSub, ndsV_len, clsV_len, attV_len, intsR_len, ndV, cellsEq, attV_get _ _ hlt, attV_len]
    all_goals (repeat (with_reducible refine And.intro (by (first | omega | exact inR_small (by omega) (by omega) | exact fun _ => inR_small (by omega) (by omega) | assumption | trivial | (intros; omega) | (simp_all; done) | (intros; simp [*]; done) | (simp_all; omega) | grind)) ?_))
    refine call_val (by repeat' constructor) (c_ref_IsName _) ?_
    try simp (config := { maxSteps := 2000000 }) only [go_sem, reduceCtorEq, Nat.reduceAdd, Nat.reduceEqDiff, reduceIte, Nat.reduceLeDiff, Nat.reduceLT, Nat.reduceSub, ndsV_len, clsV_len, attV_len, intsR_len, ndV, cellsEq, attV_get _ _ hlt, attV_len]
    all_goals (repeat (with_reducible refine And.intro (by (first | omega | exact inR_small (by omega) (by omega) | exact fun _ => inR_small (by omega) (by omega) | assumption | trivial | (intros; omega) | (simp_all; done) | (intros; simp [*]; done) | (simp_all; omega) | grind)) ?_))
    apply call_guard (h2 := fun _ => c_ref_IsValue _)
    · (simp (config := { maxSteps := 2000000 }) only [go_sem, reduceCtorEq, Nat.reduceAdd, Nat.reduceEqDiff, reduceIte, Nat.reduceLeDiff, Nat.reduceLT, Nat.reduceSub, ndsV_len, clsV_len, attV_len, intsR_len, ndV, cellsEq]; rfl)
    · intro h; repeat' (first | exact trivial | exact h | refine And.intro ?_ ?_)
    try simp (config := { maxSteps := 2000000 }) only [go_sem, reduceCtorEq, Nat.reduceAdd, Nat.reduceEqDiff, reduceIte, Nat.reduceLeDiff, Nat.reduceLT, Nat.reduceSub, ndsV_len, clsV_len, attV_len, intsR_len, ndV, cellsEq, attV_get _ _ hlt, attV_len, e1, attV_get _ _ (show k - 1 < x.att.length by omega)]
    all_goals (repeat (with_reducible refine And.intro (by (first | omega | exact inR_small (by omega) (by omega) | exact fun _ => inR_small (by omega) (by omega) | assumption | trivial | (intros; omega) | (simp_all; done) | (intros; simp [*]; done) | (simp_all; omega) | grind)) ?_))
    refine cond_of (by rfl) trivial (fun h4 => ?_) (fun h4 => ?_)
    · try simp (config := { maxSteps := 2000000 }) only [go_sem, reduceCtorEq, Nat.reduceAdd, Nat.reduceEqDiff, reduceIte, Nat.reduceLeDiff, Nat.reduceLT, Nat.reduceSub, ndsV_len, clsV_len, attV_len, intsR_len, ndV, cellsEq]
      all_goals (repeat (with_reducible refine And.intro (by (first | omega | exact inR_small (by omega) (by omega) | exact fun _ => inR_small (by omega) (by omega) | assumption | trivial | (intros; omega) | (simp_all; done) | (intros; simp [*]; done) | (simp_all; omega) | grind)) ?_))
      refine fin_val rfl trivial (.inl ?_)
      congr 3
      cases hn : nodeFine x with
      | false => rfl
      | true =>
        exfalso
        simp only [nodeFine, Bool.and_eq_true] at hn
        have h5 := range_all_get hn.2 hlt
        simp [aOk, hlt] at h4 h5
        grind
    · try simp (config := { maxSteps := 2000000 }) only [go_sem, reduceCtorEq, Nat.reduceAdd, Nat.reduceEqDiff, reduceIte, Nat.reduceLeDiff, Nat.reduceLT, Nat.reduceSub, ndsV_len, clsV_len, attV_len, intsR_len, ndV, cellsEq]
      all_goals (repeat (with_reducible refine And.intro (by (first | omega | exact inR_small (by omega) (by omega) | exact fun _ => inR_small (by omega) (by omega) | assumption | trivial | (intros; omega) | (simp_all; done) | (intros; simp [*]; done) | (simp_all; omega) | grind)) ?_))
      refine ⟨k + 1, by omega, ⟨hlt, ?_⟩, ?_⟩
      · show (List.range (k + 1)).all (aOk x.att) = true
        rw [range_all_succ]
        have hok' : (List.range k).all (aOk x.att) = true := hokA
        rw [hok']
        simp [aOk, hlt] at h4 ⊢
        refine ⟨h4.1, ?_⟩
        rcases Nat.eq_zero_or_pos k with h5 | h5
        · exact .inl h5
        · exact .inr (h4.2 h5)
      · simp (config := { maxSteps := 2000000 }) only [go_sem, reduceCtorEq, Nat.reduceAdd, Nat.reduceEqDiff, reduceIte, Nat.reduceLeDiff, Nat.reduceLT, Nat.reduceSub, ndsV_len, clsV_len, attV_len, intsR_len, ndV, cellsEq, le_cons, le_nil, le_un, le_same]
        exact le_int (by omega)
  · try simp (config := { maxSteps := 2000000 }) only [go_sem, reduceCtorEq, Nat.reduceAdd, Nat.reduceEqDiff, reduceIte, Nat.reduceLeDiff, Nat.reduceLT, Nat.reduceSub, ndsV_len, clsV_len, attV_len, intsR_len, ndV, cellsEq]
    all_goals (repeat (with_reducible refine And.intro (by (first | omega | exact inR_small (by omega) (by omega) | exact fun _ => inR_small (by omega) (by omega) | assumption | trivial | (intros; omega) | (simp_all; done) | (intros; simp [*]; done) | (simp_all; omega) | grind)) ?_))
    refine fin_val rfl trivial (.inl ?_)
    congr 3
    have hk2 : k = x.att.length := by simp at h3; omega
    subst hk2 hi2
    simp only [nodeFine, hh1, hok, hokA, hh3, hh4, decide_true, Bool.and_true, Bool.true_and]
    rcases hh2 with h | h <;> simp [h]

theorem c_ref_OwnNode (x : Nd) (h1 : x.cls.length ≤ 64) (h2 : x.att.length ≤ 64) : Contract Tryd.prog fn_ref_OwnNode [.val (.agg (ndV x))] { res := .val (.agg (ndV x)) } := by
  unfold ndV
  refine mk_ref_OwnNode (base := 0) ⟨Nat.le_of_ble_eq_true rfl, Nat.le_of_ble_eq_true rfl, Nat.le_of_ble_eq_true rfl, rfl⟩ (fun hfit => ?_)
  unfold F0 ref_OwnNode_E
  simp (config := { maxSteps := 2000000 }) only [markU, List.set_cons_succ, List.set_cons_zero, List.map_cons, List.map_nil, argCt, setCells, ioOf, List.length_cons, List.length_nil, Nat.reduceAdd, Nat.reduceSub, List.replicate, List.cons_append, List.nil_append]
  try simp (config := { maxSteps := 2000000 }) only [go_sem, reduceCtorEq, Nat.reduceAdd, Nat.reduceEqDiff, reduceIte, Nat.reduceLeDiff, Nat.reduceLT, Nat.reduceSub, ndsV_len, clsV_len, attV_len, intsR_len, ndV, cellsEq]
  all_goals (repeat (with_reducible refine And.intro (by (first | omega | exact inR_small (by omega) (by omega) | exact fun _ => inR_small (by omega) (by omega) | assumption | trivial | (intros; omega) | (simp_all; done) | (intros; simp [*]; done) | (simp_all; omega) | grind)) ?_))
  try simp (config := { maxSteps := 2000000 }) only [go_sem, reduceCtorEq, Nat.reduceAdd, Nat.reduceEqDiff, reduceIte, Nat.reduceLeDiff, Nat.reduceLT, Nat.reduceSub, ndsV_len, clsV_len, attV_len, intsR_len, ndV, cellsEq, clsV_len, attV_len]
  all_goals (repeat (with_reducible refine And.intro (by (first | omega | exact inR_small (by omega) (by omega) | exact fun _ => inR_small (by omega) (by omega) | assumption | trivial | (intros; omega) | (simp_all; done) | (intros; simp [*]; done) | (simp_all; omega) | grind)) ?_))
  exact fin_cellB rfl rfl rfl

theorem c_ref_Above (d : List Nd) (hd : docOk d d.length = true) (a : Int) (n : Nat) (hn : n < d.length) : Contract Tryd.prog fn_ref_Above [.val (docV d), .val (iv a), .val (iv n)] { res := .val (bv ((chain d d.length (upOf d n)).contains a)) } := by
  unfold docV
  refine mk_ref_Above (base := 0) ⟨Nat.le_of_ble_eq_true rfl, Nat.le_of_ble_eq_true rfl, Nat.le_of_ble_eq_true rfl, rfl⟩ (fun hfit => ?_)
  unfold F0 ref_Above_E
  simp (config := { maxSteps := 2000000 }) only [markU, List.set_cons_succ, List.set_cons_zero, List.map_cons, List.map_nil, argCt, setCells, ioOf, List.length_cons, List.length_nil, Nat.reduceAdd, Nat.reduceSub, List.replicate, List.cons_append, List.nil_append]
  try simp (config := { maxSteps := 2000000 }) only [go_sem, reduceCtorEq, Nat.reduceAdd, Nat.reduceEqDiff, reduceIte, Nat.reduceLeDiff, Nat.reduceLT, Nat.reduceSub, ndsV_len, clsV_len, attV_len, intsR_len, ndV, cellsEq]
  all_goals (repeat (with_reducible refine And.intro (by (first | omega | exact inR_small (by omega) (by omega) | exact fun _ => inR_small (by omega) (by omega) | assumption | trivial | (intros; omega) | (simp_all; done) | (intros; simp [*]; done) | (simp_all; omega) | grind)) ?_))
  try simp (config := { maxSteps := 2000000 }) only [go_sem, reduceCtorEq, Nat.reduceAdd, Nat.reduceEqDiff, reduceIte, Nat.reduceLeDiff, Nat.reduceLT, Nat.reduceSub, ndsV_len, clsV_len, attV_len, intsR_len, ndV, cellsEq, ndsV_len, ndsV_get _ _ hn, ndV]
  all_goals (repeat (with_reducible refine And.intro (by (first | omega | exact inR_small (by omega) (by omega) | exact fun _ => inR_small (by omega) (by omega) | assumption | trivial | (intros; omega) | (simp_all; done) | (intros; simp [*]; done) | (simp_all; omega) | grind)) ?_))
  have hup := docOk_up hd
  refine loop_sets (fun k : Int => [(7, .pv (iv k)), (15, .un), (24, .un)]) (fun k => (k + 1).toNat) (fun k => -1 ≤ k ∧ k < d.length ∧ (chain d d.length (upOf d n)).contains a = (chain d d.length k).contains a) (upOf d n) ?_ ⟨(hup n hn).1, by have := (hup n hn).2; omega, rfl⟩ ?_
  · simp (config := { maxSteps := 2000000 }) only [go_sem, reduceCtorEq, Nat.reduceAdd, Nat.reduceEqDiff, reduceIte, Nat.reduceLeDiff, Nat.reduceLT, Nat.reduceSub, ndsV_len, clsV_len, attV_len, intsR_len, ndV, cellsEq, le_cons, le_nil, le_un, le_same]
    exact le_int rfl
  intro k ⟨h1, h2, h3⟩
  try simp (config := { maxSteps := 2000000 }) only [go_sem, reduceCtorEq, Nat.reduceAdd, Nat.reduceEqDiff, reduceIte, Nat.reduceLeDiff, Nat.reduceLT, Nat.reduceSub, ndsV_len, clsV_len, attV_len, intsR_len, ndV, cellsEq]
  all_goals (repeat (with_reducible refine And.intro (by (first | omega | exact inR_small (by omega) (by omega) | exact fun _ => inR_small (by omega) (by omega) | assumption | trivial | (intros; omega) | (simp_all; done) | (intros; simp [*]; done) | (simp_all; omega) | grind)) ?_))
  refine cond_of (by rfl) trivial (fun h4 => ?_) (fun h4 => ?_)
  · have hk : 0 ≤ k := by simpa using h4
    have hkn : k.toNat < d.length := by omega
    have hk2 : k = (k.toNat : Int) := by omega
    try simp (config := { maxSteps := 2000000 }) only [go_sem, reduceCtorEq, Nat.reduceAdd, Nat.reduceEqDiff, reduceIte, Nat.reduceLeDiff, Nat.reduceLT, Nat.reduceSub, ndsV_len, clsV_len, attV_len, intsR_len, ndV, cellsEq]
    all_goals (repeat (with_reducible refine And.intro (by (first | omega | exact inR_small (by omega) (by omega) | exact fun _ => inR_small (by omega) (by omega) | assumption | trivial | (intros; omega) | (simp_all; done) | (intros; simp [*]; done) | (simp_all; omega) | grind)) ?_))
    refine cond_of (by rfl) trivial (fun h5 => ?_) (fun h5 => ?_)
    · try simp (config := { maxSteps := 2000000 }) only [go_sem, reduceCtorEq, Nat.reduceAdd, Nat.reduceEqDiff, reduceIte, Nat.reduceLeDiff, Nat.reduceLT, Nat.reduceSub, ndsV_len, clsV_len, attV_len, intsR_len, ndV, cellsEq]
      all_goals (repeat (with_reducible refine And.intro (by (first | omega | exact inR_small (by omega) (by omega) | exact fun _ => inR_small (by omega) (by omega) | assumption | trivial | (intros; omega) | (simp_all; done) | (intros; simp [*]; done) | (simp_all; omega) | grind)) ?_))
      refine fin_val rfl trivial (.inl ?_)
      congr 3
      rw [h3]
      have h6 : k = a := by simpa using h5
      subst h6
      cases hl : d.length with
      | zero => omega
      | succ f => simp [chain, show ¬ k < 0 by omega]
    · have h6 : ¬ k = a := by simpa using h5
      try simp (config := { maxSteps := 2000000 }) only [go_sem, reduceCtorEq, Nat.reduceAdd, Nat.reduceEqDiff, reduceIte, Nat.reduceLeDiff, Nat.reduceLT, Nat.reduceSub, ndsV_len, clsV_len, attV_len, intsR_len, ndV, cellsEq, ndsV_len, ndsV_get _ _ hkn, ndV]
      all_goals (repeat (with_reducible refine And.intro (by (first | omega | exact inR_small (by omega) (by omega) | exact fun _ => inR_small (by omega) (by omega) | assumption | trivial | (intros; omega) | (simp_all; done) | (intros; simp [*]; done) | (simp_all; omega) | grind)) ?_))
      refine ⟨upOf d k.toNat, ?_, ⟨(hup _ hkn).1, ?_, ?_⟩, ?_⟩
      · have := (hup _ hkn); omega
      · have := (hup _ hkn); omega
      · rw [h3]
        cases hl : d.length with
        | zero => omega
        | succ f =>
          have e : chain d (f + 1) k = k :: chain d f (upOf d k.toNat) := by simp [chain, show ¬ k < 0 by omega]
          rw [e, chain_fuel f (f + 1) (upOf d k.toNat) (fun j hj => (hup j (by have := hup _ hkn; omega)).2) (by have := hup _ hkn; omega) (by have := hup _ hkn; omega)]
          rw [List.contains_cons]
          simp [Ne.symm h6]
      · simp (config := { maxSteps := 2000000 }) only [go_sem, reduceCtorEq, Nat.reduceAdd, Nat.reduceEqDiff, reduceIte, Nat.reduceLeDiff, Nat.reduceLT, Nat.reduceSub, ndsV_len, clsV_len, attV_len, intsR_len, ndV, cellsEq, le_cons, le_nil, le_un, le_same]
        exact le_int rfl
  · try simp (config := { maxSteps := 2000000 }) only [go_sem, reduceCtorEq, Nat.reduceAdd, Nat.reduceEqDiff, reduceIte, Nat.reduceLeDiff, Nat.reduceLT, Nat.reduceSub, ndsV_len, clsV_len, attV_len, intsR_len, ndV, cellsEq]
    all_goals (repeat (with_reducible refine And.intro (by (first | omega | exact inR_small (by omega) (by omega) | exact fun _ => inR_small (by omega) (by omega) | assumption | trivial | (intros; omega) | (simp_all; done) | (intros; simp [*]; done) | (simp_all; omega) | grind)) ?_))
    refine fin_val rfl trivial (.inl ?_)
    congr 3
    rw [h3]
    have : k < 0 := by simp at h4; omega
    cases hl : d.length with
    | zero => simp [chain]
    | succ f => simp [chain, this]
end Go.Hx
