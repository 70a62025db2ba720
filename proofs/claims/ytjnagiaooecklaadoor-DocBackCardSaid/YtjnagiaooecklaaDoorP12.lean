/-
  Walks of functions of the program: each contract says what the function computes, for every input that its conditions let by. No other condition.
-/
import Derived.Test.YtjnagiaooecklaaDoorP11
import Derived.Test.YtjnagiaooecklaaDoorG1
set_option linter.all false
set_option maxRecDepth 100000
set_option linter.unusedSimpArgs false
namespace Go.Hx
open Go.Proofs

theorem c_slices_Clone_string (l : List Bys) (hl : l.length ≤ 64) : Contract Tryd.prog fn_slices_Clone_string [.val (.one (.sl 1 (clsV l)))] { res := .own ty_string 1 (clsV l) } := by
  refine mk_slices_Clone_string (base := 0) ⟨Nat.le_of_ble_eq_true rfl, Nat.le_of_ble_eq_true rfl, Nat.le_of_ble_eq_true rfl, rfl⟩ (fun hfit => ?_)
  unfold F0 slices_Clone_string_E
  simp (config := { maxSteps := 2000000 }) only [markU, List.set_cons_succ, List.set_cons_zero, List.map_cons, List.map_nil, argCt, setCells, ioOf, List.length_cons, List.length_nil, Nat.reduceAdd, Nat.reduceSub, List.replicate, List.cons_append, List.nil_append]
  try simp (config := { maxSteps := 2000000 }) only [go_sem, reduceCtorEq, Nat.reduceAdd, Nat.reduceEqDiff, reduceIte, Nat.reduceLeDiff, Nat.reduceLT, Nat.reduceSub, ndsV_len, clsV_len, attV_len, intsR_len, ndV, cellsEq]
  all_goals (repeat (with_reducible refine And.intro (by (first | omega | exact inR_small (by omega) (by omega) | exact fun _ => inR_small (by omega) (by omega) | assumption | trivial | (intros; omega) | (simp_all; done) | (intros; simp [*]; done) | (simp_all; omega) | grind)) ?_))
  intro b hb
  refine cond_of (by rfl) trivial (fun h => ?_) (fun h => ?_)
  · try simp (config := { maxSteps := 2000000 }) only [go_sem, reduceCtorEq, Nat.reduceAdd, Nat.reduceEqDiff, reduceIte, Nat.reduceLeDiff, Nat.reduceLT, Nat.reduceSub, ndsV_len, clsV_len, attV_len, intsR_len, ndV, cellsEq]
    all_goals (repeat (with_reducible refine And.intro (by (first | omega | exact inR_small (by omega) (by omega) | exact fun _ => inR_small (by omega) (by omega) | assumption | trivial | (intros; omega) | (simp_all; done) | (intros; simp [*]; done) | (simp_all; omega) | grind)) ?_))
    have : clsV l = [] := by
      apply Classical.byContradiction
      intro h2; rw [hb h2] at h; cases h
    rw [this]
    exact fin_own rfl
  · try simp (config := { maxSteps := 2000000 }) only [go_sem, reduceCtorEq, Nat.reduceAdd, Nat.reduceEqDiff, reduceIte, Nat.reduceLeDiff, Nat.reduceLT, Nat.reduceSub, ndsV_len, clsV_len, attV_len, intsR_len, ndV, cellsEq]
    all_goals (repeat (with_reducible refine And.intro (by (first | omega | exact inR_small (by omega) (by omega) | exact fun _ => inR_small (by omega) (by omega) | assumption | trivial | (intros; omega) | (simp_all; done) | (intros; simp [*]; done) | (simp_all; omega) | grind)) ?_))
    exact fin_own rfl
theorem c_slices_Clone_Attr (l : List (Bys × Bys)) (hl : l.length ≤ 64) : Contract Tryd.prog fn_slices_Clone_Attr [.val (.one (.sl 2 (attV l)))] { res := .own ty_api_Attr 2 (attV l) } := by
  refine mk_slices_Clone_Attr (base := 0) ⟨Nat.le_of_ble_eq_true rfl, Nat.le_of_ble_eq_true rfl, Nat.le_of_ble_eq_true rfl, rfl⟩ (fun hfit => ?_)
  unfold F0 slices_Clone_Attr_E
  simp (config := { maxSteps := 2000000 }) only [markU, List.set_cons_succ, List.set_cons_zero, List.map_cons, List.map_nil, argCt, setCells, ioOf, List.length_cons, List.length_nil, Nat.reduceAdd, Nat.reduceSub, List.replicate, List.cons_append, List.nil_append]
  try simp (config := { maxSteps := 2000000 }) only [go_sem, reduceCtorEq, Nat.reduceAdd, Nat.reduceEqDiff, reduceIte, Nat.reduceLeDiff, Nat.reduceLT, Nat.reduceSub, ndsV_len, clsV_len, attV_len, intsR_len, ndV, cellsEq]
  all_goals (repeat (with_reducible refine And.intro (by (first | omega | exact inR_small (by omega) (by omega) | exact fun _ => inR_small (by omega) (by omega) | assumption | trivial | (intros; omega) | (simp_all; done) | (intros; simp [*]; done) | (simp_all; omega) | grind)) ?_))
  intro b hb
  refine cond_of (by rfl) trivial (fun h => ?_) (fun h => ?_)
  · try simp (config := { maxSteps := 2000000 }) only [go_sem, reduceCtorEq, Nat.reduceAdd, Nat.reduceEqDiff, reduceIte, Nat.reduceLeDiff, Nat.reduceLT, Nat.reduceSub, ndsV_len, clsV_len, attV_len, intsR_len, ndV, cellsEq]
    all_goals (repeat (with_reducible refine And.intro (by (first | omega | exact inR_small (by omega) (by omega) | exact fun _ => inR_small (by omega) (by omega) | assumption | trivial | (intros; omega) | (simp_all; done) | (intros; simp [*]; done) | (simp_all; omega) | grind)) ?_))
    have : attV l = [] := by
      apply Classical.byContradiction
      intro h2; rw [hb h2] at h; cases h
    rw [this]
    exact fin_own rfl
  · try simp (config := { maxSteps := 2000000 }) only [go_sem, reduceCtorEq, Nat.reduceAdd, Nat.reduceEqDiff, reduceIte, Nat.reduceLeDiff, Nat.reduceLT, Nat.reduceSub, ndsV_len, clsV_len, attV_len, intsR_len, ndV, cellsEq]
    all_goals (repeat (with_reducible refine And.intro (by (first | omega | exact inR_small (by omega) (by omega) | exact fun _ => inR_small (by omega) (by omega) | assumption | trivial | (intros; omega) | (simp_all; done) | (intros; simp [*]; done) | (simp_all; omega) | grind)) ?_))
    exact fin_own rfl

def turnUp (g : Int → Int) (x : Nd) : Nd := { x with up := g x.up }
def smallNd (x : Nd) : Prop := x.cls.length ≤ 64 ∧ x.att.length ≤ 64
theorem mem_getD {l : List Nd} {i : Nat} (h : i < l.length) : l.getD i default ∈ l := by
  simp [h]
theorem c_doc_own (l : List Nd) (f : Nat) (caps : List PV) (g : Int → Int) (hl : l.length ≤ 64) (hs : ∀ x ∈ l, smallNd x)
    (hg : ∀ x ∈ l, Contract Tryd.prog f ([.val (iv x.up)] ++ caps.map fun c => .val (.one c)) { res := .val (iv (g x.up)) }) :
    Contract Tryd.prog fn_doc_own [.val (.one (.sl 5 (ndsV l))), .val (.one (.clo f caps))] { res := .own ty_api_Node 5 (ndsV (l.map (turnUp g))) } := by
  refine mk_doc_own (base := 0) ⟨Nat.le_of_ble_eq_true rfl, Nat.le_of_ble_eq_true rfl, Nat.le_of_ble_eq_true rfl, rfl⟩ (fun hfit => ?_)
  unfold F0 doc_own_E
  simp (config := { maxSteps := 2000000 }) only [markU, List.set_cons_succ, List.set_cons_zero, List.map_cons, List.map_nil, argCt, setCells, ioOf, List.length_cons, List.length_nil, Nat.reduceAdd, Nat.reduceSub, List.replicate, List.cons_append, List.nil_append]
  try simp (config := { maxSteps := 2000000 }) only [go_sem, reduceCtorEq, Nat.reduceAdd, Nat.reduceEqDiff, reduceIte, Nat.reduceLeDiff, Nat.reduceLT, Nat.reduceSub, ndsV_len, clsV_len, attV_len, intsR_len, ndV, cellsEq]
  all_goals (repeat (with_reducible refine And.intro (by (first | omega | exact inR_small (by omega) (by omega) | exact fun _ => inR_small (by omega) (by omega) | assumption | trivial | (intros; omega) | (simp_all; done) | (intros; simp [*]; done) | (simp_all; omega) | grind)) ?_))
  refine loop_sets (fun i : Nat => [(5, .own ty_api_Node 5 (ndsV ((l.take i).map (turnUp g)))), (7, .un), (10, .pv (iv i)), (11, .un), (33, .un), (34, .un), (35, .un), (36, .un), (37, .un)]) (fun i : Nat => l.length - i) (fun i : Nat => i ≤ l.length) (0) ?_ (Nat.zero_le _) ?_
  focus (simp (config := { maxSteps := 2000000 }) only [go_sem, reduceCtorEq, Nat.reduceAdd, Nat.reduceEqDiff, reduceIte, Nat.reduceLeDiff, Nat.reduceLT, Nat.reduceSub, ndsV_len, clsV_len, attV_len, intsR_len, ndV, cellsEq, le_cons, le_nil, le_un, le_same]; all_goals (repeat' (first | exact trivial | exact le_int (by omega) | exact le_bool rfl | exact le_eq rfl | exact le_nlo | exact le_refl _ | refine And.intro ?_ ?_)))
  intro i hi
  try simp (config := { maxSteps := 2000000 }) only [go_sem, reduceCtorEq, Nat.reduceAdd, Nat.reduceEqDiff, reduceIte, Nat.reduceLeDiff, Nat.reduceLT, Nat.reduceSub, ndsV_len, clsV_len, attV_len, intsR_len, ndV, cellsEq]
  all_goals (repeat (with_reducible refine And.intro (by (first | omega | exact inR_small (by omega) (by omega) | exact fun _ => inR_small (by omega) (by omega) | assumption | trivial | (intros; omega) | (simp_all; done) | (intros; simp [*]; done) | (simp_all; omega) | grind)) ?_))
  refine cond_of (by rfl) trivial (fun h => ?_) (fun h => ?_)
  · have hlt : i < l.length := by simpa using h
    have hmem := mem_getD hlt
    obtain ⟨hs1, hs2⟩ := hs _ hmem
    try simp (config := { maxSteps := 2000000 }) only [go_sem, reduceCtorEq, Nat.reduceAdd, Nat.reduceEqDiff, reduceIte, Nat.reduceLeDiff, Nat.reduceLT, Nat.reduceSub, ndsV_len, clsV_len, attV_len, intsR_len, ndV, cellsEq, ndsV_get _ _ hlt]
    all_goals (repeat (with_reducible refine And.intro (by (first | omega | exact inR_small (by omega) (by omega) | exact fun _ => inR_small (by omega) (by omega) | assumption | trivial | (intros; omega) | (simp_all; done) | (intros; simp [*]; done) | (simp_all; omega) | grind)) ?_))
    refine callv_val (by rfl) trivial (by repeat' constructor) (hg _ hmem) ?_
    try simp (config := { maxSteps := 2000000 }) only [go_sem, reduceCtorEq, Nat.reduceAdd, Nat.reduceEqDiff, reduceIte, Nat.reduceLeDiff, Nat.reduceLT, Nat.reduceSub, ndsV_len, clsV_len, attV_len, intsR_len, ndV, cellsEq]
    all_goals (repeat (with_reducible refine And.intro (by (first | omega | exact inR_small (by omega) (by omega) | exact fun _ => inR_small (by omega) (by omega) | assumption | trivial | (intros; omega) | (simp_all; done) | (intros; simp [*]; done) | (simp_all; omega) | grind)) ?_))
    refine call_own (by repeat' constructor) (c_slices_Clone_string _ hs1) ?_
    try simp (config := { maxSteps := 2000000 }) only [go_sem, reduceCtorEq, Nat.reduceAdd, Nat.reduceEqDiff, reduceIte, Nat.reduceLeDiff, Nat.reduceLT, Nat.reduceSub, ndsV_len, clsV_len, attV_len, intsR_len, ndV, cellsEq]
    all_goals (repeat (with_reducible refine And.intro (by (first | omega | exact inR_small (by omega) (by omega) | exact fun _ => inR_small (by omega) (by omega) | assumption | trivial | (intros; omega) | (simp_all; done) | (intros; simp [*]; done) | (simp_all; omega) | grind)) ?_))
    refine call_own (by repeat' constructor) (c_slices_Clone_Attr _ hs2) ?_
    try simp (config := { maxSteps := 2000000 }) only [go_sem, reduceCtorEq, Nat.reduceAdd, Nat.reduceEqDiff, reduceIte, Nat.reduceLeDiff, Nat.reduceLT, Nat.reduceSub, ndsV_len, clsV_len, attV_len, intsR_len, ndV, cellsEq]
    all_goals (repeat (with_reducible refine And.intro (by (first | omega | exact inR_small (by omega) (by omega) | exact fun _ => inR_small (by omega) (by omega) | assumption | trivial | (intros; omega) | (simp_all; done) | (intros; simp [*]; done) | (simp_all; omega) | grind)) ?_))
    refine ⟨i + 1, by omega, hlt, ?_⟩
    simp (config := { maxSteps := 2000000 }) only [go_sem, reduceCtorEq, Nat.reduceAdd, Nat.reduceEqDiff, reduceIte, Nat.reduceLeDiff, Nat.reduceLT, Nat.reduceSub, ndsV_len, clsV_len, attV_len, intsR_len, ndV, cellsEq, le_cons, le_nil, le_un, le_same]
    all_goals (repeat' (first | exact trivial | exact le_int (by omega) | exact le_bool rfl | exact le_eq rfl | exact le_nlo | exact le_refl _ | refine And.intro ?_ ?_))
    refine le_own ?_
    rw [take_map_succ default hlt, ndsV_app]
    rfl
  · try simp (config := { maxSteps := 2000000 }) only [go_sem, reduceCtorEq, Nat.reduceAdd, Nat.reduceEqDiff, reduceIte, Nat.reduceLeDiff, Nat.reduceLT, Nat.reduceSub, ndsV_len, clsV_len, attV_len, intsR_len, ndV, cellsEq]
    all_goals (repeat (with_reducible refine And.intro (by (first | omega | exact inR_small (by omega) (by omega) | exact fun _ => inR_small (by omega) (by omega) | assumption | trivial | (intros; omega) | (simp_all; done) | (intros; simp [*]; done) | (simp_all; omega) | grind)) ?_))
    have : i = l.length := by simp at h; omega
    subst this
    rw [List.take_length]
    exact fin_own rfl

theorem c_doc_Part_1 (up n : Int) (h1 : -1000 ≤ up ∧ up ≤ 1000) (h2 : -1000 ≤ n ∧ n ≤ 1000) : Contract Tryd.prog fn_doc_Part_1 [.val (iv up), .val (.one (.fp [bI n]))] { res := .val (iv (max (up - n) (-1))) } := by
  refine mk_doc_Part_1 (base := 0) ⟨Nat.le_of_ble_eq_true rfl, Nat.le_of_ble_eq_true rfl, Nat.le_of_ble_eq_true rfl, rfl⟩ (fun hfit => ?_)
  unfold F0 doc_Part_1_E
  simp (config := { maxSteps := 2000000 }) only [markU, List.set_cons_succ, List.set_cons_zero, List.map_cons, List.map_nil, argCt, setCells, ioOf, List.length_cons, List.length_nil, Nat.reduceAdd, Nat.reduceSub, List.replicate, List.cons_append, List.nil_append]
  try simp (config := { maxSteps := 2000000 }) only [go_sem, reduceCtorEq, Nat.reduceAdd, Nat.reduceEqDiff, reduceIte, Nat.reduceLeDiff, Nat.reduceLT, Nat.reduceSub, ndsV_len, clsV_len, attV_len, intsR_len, ndV, cellsEq]
  all_goals (repeat (with_reducible refine And.intro (by (first | omega | exact inR_small (by omega) (by omega) | exact fun _ => inR_small (by omega) (by omega) | assumption | trivial | (intros; omega) | (simp_all; done) | (intros; simp [*]; done) | (simp_all; omega) | grind)) ?_))
  try simp (config := { maxSteps := 2000000 }) only [go_sem, reduceCtorEq, Nat.reduceAdd, Nat.reduceEqDiff, reduceIte, Nat.reduceLeDiff, Nat.reduceLT, Nat.reduceSub, ndsV_len, clsV_len, attV_len, intsR_len, ndV, cellsEq]
  all_goals (repeat (with_reducible refine And.intro (by (first | omega | exact inR_small (by omega) (by omega) | exact fun _ => inR_small (by omega) (by omega) | assumption | trivial | (intros; omega) | (simp_all; done) | (intros; simp [*]; done) | (simp_all; omega) | grind)) ?_))
  refine fin_val rfl trivial (.inl ?_)
  congr 3
  omega
theorem c_doc_Put_1 (up : Int) : Contract Tryd.prog fn_doc_Put_1 [.val (iv up)] { res := .val (iv up) } := by
  refine mk_doc_Put_1 (base := 0) ⟨Nat.le_of_ble_eq_true rfl, Nat.le_of_ble_eq_true rfl, Nat.le_of_ble_eq_true rfl, rfl⟩ (fun hfit => ?_)
  unfold F0 doc_Put_1_E
  simp (config := { maxSteps := 2000000 }) only [markU, List.set_cons_succ, List.set_cons_zero, List.map_cons, List.map_nil, argCt, setCells, ioOf, List.length_cons, List.length_nil, Nat.reduceAdd, Nat.reduceSub, List.replicate, List.cons_append, List.nil_append]
  try simp (config := { maxSteps := 2000000 }) only [go_sem, reduceCtorEq, Nat.reduceAdd, Nat.reduceEqDiff, reduceIte, Nat.reduceLeDiff, Nat.reduceLT, Nat.reduceSub, ndsV_len, clsV_len, attV_len, intsR_len, ndV, cellsEq]
  all_goals (repeat (with_reducible refine And.intro (by (first | omega | exact inR_small (by omega) (by omega) | exact fun _ => inR_small (by omega) (by omega) | assumption | trivial | (intros; omega) | (simp_all; done) | (intros; simp [*]; done) | (simp_all; omega) | grind)) ?_))
  try simp (config := { maxSteps := 2000000 }) only [go_sem, reduceCtorEq, Nat.reduceAdd, Nat.reduceEqDiff, reduceIte, Nat.reduceLeDiff, Nat.reduceLT, Nat.reduceSub, ndsV_len, clsV_len, attV_len, intsR_len, ndV, cellsEq]
  all_goals (repeat (with_reducible refine And.intro (by (first | omega | exact inR_small (by omega) (by omega) | exact fun _ => inR_small (by omega) (by omega) | assumption | trivial | (intros; omega) | (simp_all; done) | (intros; simp [*]; done) | (simp_all; omega) | grind)) ?_))
  refine fin_val rfl trivial (.inl ?_)
  congr 3
theorem c_doc_Remove_1 (up n e : Int) (h1 : -1000 ≤ up ∧ up ≤ 1000) (h2 : -1000 ≤ n ∧ n ≤ 1000) (h3 : -1000 ≤ e ∧ e ≤ 1000) : Contract Tryd.prog fn_doc_Remove_1 [.val (iv up), .val (.one (.fp [bI e])), .val (.one (.fp [bI n]))] { res := .val (iv (if up ≥ e then up - e + n else up)) } := by
  refine mk_doc_Remove_1 (base := 0) ⟨Nat.le_of_ble_eq_true rfl, Nat.le_of_ble_eq_true rfl, Nat.le_of_ble_eq_true rfl, rfl⟩ (fun hfit => ?_)
  unfold F0 doc_Remove_1_E
  simp (config := { maxSteps := 2000000 }) only [markU, List.set_cons_succ, List.set_cons_zero, List.map_cons, List.map_nil, argCt, setCells, ioOf, List.length_cons, List.length_nil, Nat.reduceAdd, Nat.reduceSub, List.replicate, List.cons_append, List.nil_append]
  try simp (config := { maxSteps := 2000000 }) only [go_sem, reduceCtorEq, Nat.reduceAdd, Nat.reduceEqDiff, reduceIte, Nat.reduceLeDiff, Nat.reduceLT, Nat.reduceSub, ndsV_len, clsV_len, attV_len, intsR_len, ndV, cellsEq]
  all_goals (repeat (with_reducible refine And.intro (by (first | omega | exact inR_small (by omega) (by omega) | exact fun _ => inR_small (by omega) (by omega) | assumption | trivial | (intros; omega) | (simp_all; done) | (intros; simp [*]; done) | (simp_all; omega) | grind)) ?_))
  refine cond_of (by rfl) trivial (fun h => ?_) (fun h => ?_)
  · try simp (config := { maxSteps := 2000000 }) only [go_sem, reduceCtorEq, Nat.reduceAdd, Nat.reduceEqDiff, reduceIte, Nat.reduceLeDiff, Nat.reduceLT, Nat.reduceSub, ndsV_len, clsV_len, attV_len, intsR_len, ndV, cellsEq]
    all_goals (repeat (with_reducible refine And.intro (by (first | omega | exact inR_small (by omega) (by omega) | exact fun _ => inR_small (by omega) (by omega) | assumption | trivial | (intros; omega) | (simp_all; done) | (intros; simp [*]; done) | (simp_all; omega) | grind)) ?_))
    refine fin_val rfl trivial (.inl ?_)
    congr 3
    rw [if_pos (by simpa using h)]
  · try simp (config := { maxSteps := 2000000 }) only [go_sem, reduceCtorEq, Nat.reduceAdd, Nat.reduceEqDiff, reduceIte, Nat.reduceLeDiff, Nat.reduceLT, Nat.reduceSub, ndsV_len, clsV_len, attV_len, intsR_len, ndV, cellsEq]
    all_goals (repeat (with_reducible refine And.intro (by (first | omega | exact inR_small (by omega) (by omega) | exact fun _ => inR_small (by omega) (by omega) | assumption | trivial | (intros; omega) | (simp_all; done) | (intros; simp [*]; done) | (simp_all; omega) | grind)) ?_))
    refine fin_val rfl trivial (.inl ?_)
    congr 3
    rw [if_neg (by simpa using h)]
theorem c_doc_Insert_1 (up n : Int) (e : List Nd) (h1 : -1000 ≤ up ∧ up ≤ 1000) (h2 : -1000 ≤ n ∧ n ≤ 1000) (h3 : e.length ≤ 64) : Contract Tryd.prog fn_doc_Insert_1 [.val (iv up), .val (.one (.fp [bI n])), .val (.one (.fp [.sl 5 (ndsV e)]))] { res := .val (iv (if up ≥ n then up + e.length else up)) } := by
  refine mk_doc_Insert_1 (base := 0) ⟨Nat.le_of_ble_eq_true rfl, Nat.le_of_ble_eq_true rfl, Nat.le_of_ble_eq_true rfl, rfl⟩ (fun hfit => ?_)
  unfold F0 doc_Insert_1_E
  simp (config := { maxSteps := 2000000 }) only [markU, List.set_cons_succ, List.set_cons_zero, List.map_cons, List.map_nil, argCt, setCells, ioOf, List.length_cons, List.length_nil, Nat.reduceAdd, Nat.reduceSub, List.replicate, List.cons_append, List.nil_append]
  try simp (config := { maxSteps := 2000000 }) only [go_sem, reduceCtorEq, Nat.reduceAdd, Nat.reduceEqDiff, reduceIte, Nat.reduceLeDiff, Nat.reduceLT, Nat.reduceSub, ndsV_len, clsV_len, attV_len, intsR_len, ndV, cellsEq]
  all_goals (repeat (with_reducible refine And.intro (by (first | omega | exact inR_small (by omega) (by omega) | exact fun _ => inR_small (by omega) (by omega) | assumption | trivial | (intros; omega) | (simp_all; done) | (intros; simp [*]; done) | (simp_all; omega) | grind)) ?_))
  refine cond_of (by rfl) trivial (fun h => ?_) (fun h => ?_)
  · try simp (config := { maxSteps := 2000000 }) only [go_sem, reduceCtorEq, Nat.reduceAdd, Nat.reduceEqDiff, reduceIte, Nat.reduceLeDiff, Nat.reduceLT, Nat.reduceSub, ndsV_len, clsV_len, attV_len, intsR_len, ndV, cellsEq]
    all_goals (repeat (with_reducible refine And.intro (by (first | omega | exact inR_small (by omega) (by omega) | exact fun _ => inR_small (by omega) (by omega) | assumption | trivial | (intros; omega) | (simp_all; done) | (intros; simp [*]; done) | (simp_all; omega) | grind)) ?_))
    refine fin_val rfl trivial (.inl ?_)
    congr 3
    rw [if_pos (by simpa using h)]
  · try simp (config := { maxSteps := 2000000 }) only [go_sem, reduceCtorEq, Nat.reduceAdd, Nat.reduceEqDiff, reduceIte, Nat.reduceLeDiff, Nat.reduceLT, Nat.reduceSub, ndsV_len, clsV_len, attV_len, intsR_len, ndV, cellsEq]
    all_goals (repeat (with_reducible refine And.intro (by (first | omega | exact inR_small (by omega) (by omega) | exact fun _ => inR_small (by omega) (by omega) | assumption | trivial | (intros; omega) | (simp_all; done) | (intros; simp [*]; done) | (simp_all; omega) | grind)) ?_))
    refine fin_val rfl trivial (.inl ?_)
    congr 3
    rw [if_neg (by simpa using h)]
theorem c_doc_Insert_2 (k n up : Int) (h1 : -1000 ≤ k ∧ k ≤ 1000) (h2 : -1000 ≤ n ∧ n ≤ 1000) : Contract Tryd.prog fn_doc_Insert_2 [.val (iv k), .val (.one (.fp [bI up])), .val (.one (.fp [bI n]))] { res := .val (iv (if k < 0 then up else k + n)) } := by
  refine mk_doc_Insert_2 (base := 0) ⟨Nat.le_of_ble_eq_true rfl, Nat.le_of_ble_eq_true rfl, Nat.le_of_ble_eq_true rfl, rfl⟩ (fun hfit => ?_)
  unfold F0 doc_Insert_2_E
  simp (config := { maxSteps := 2000000 }) only [markU, List.set_cons_succ, List.set_cons_zero, List.map_cons, List.map_nil, argCt, setCells, ioOf, List.length_cons, List.length_nil, Nat.reduceAdd, Nat.reduceSub, List.replicate, List.cons_append, List.nil_append]
  try simp (config := { maxSteps := 2000000 }) only [go_sem, reduceCtorEq, Nat.reduceAdd, Nat.reduceEqDiff, reduceIte, Nat.reduceLeDiff, Nat.reduceLT, Nat.reduceSub, ndsV_len, clsV_len, attV_len, intsR_len, ndV, cellsEq]
  all_goals (repeat (with_reducible refine And.intro (by (first | omega | exact inR_small (by omega) (by omega) | exact fun _ => inR_small (by omega) (by omega) | assumption | trivial | (intros; omega) | (simp_all; done) | (intros; simp [*]; done) | (simp_all; omega) | grind)) ?_))
  refine cond_of (by rfl) trivial (fun h => ?_) (fun h => ?_)
  · try simp (config := { maxSteps := 2000000 }) only [go_sem, reduceCtorEq, Nat.reduceAdd, Nat.reduceEqDiff, reduceIte, Nat.reduceLeDiff, Nat.reduceLT, Nat.reduceSub, ndsV_len, clsV_len, attV_len, intsR_len, ndV, cellsEq]
    all_goals (repeat (with_reducible refine And.intro (by (first | omega | exact inR_small (by omega) (by omega) | exact fun _ => inR_small (by omega) (by omega) | assumption | trivial | (intros; omega) | (simp_all; done) | (intros; simp [*]; done) | (simp_all; omega) | grind)) ?_))
    refine fin_val rfl trivial (.inl ?_)
    congr 3
    rw [if_pos (by simpa using h)]
  · try simp (config := { maxSteps := 2000000 }) only [go_sem, reduceCtorEq, Nat.reduceAdd, Nat.reduceEqDiff, reduceIte, Nat.reduceLeDiff, Nat.reduceLT, Nat.reduceSub, ndsV_len, clsV_len, attV_len, intsR_len, ndV, cellsEq]
    all_goals (repeat (with_reducible refine And.intro (by (first | omega | exact inR_small (by omega) (by omega) | exact fun _ => inR_small (by omega) (by omega) | assumption | trivial | (intros; omega) | (simp_all; done) | (intros; simp [*]; done) | (simp_all; omega) | grind)) ?_))
    refine fin_val rfl trivial (.inl ?_)
    congr 3
    rw [if_neg (by simpa using h)]

theorem c_slices_Grow_Node (n : Nat) (hn : n ≤ 1000) : Contract Tryd.prog fn_slices_Grow_Node [.val (.one (.nl 5)), .val (iv n)] { res := .own ty_api_Node 5 [] } := Go.Proofs.c_slices_Grow_Node n hn

def sls (ls : List (List Nd)) : List (List PV) := ls.map fun l => [.sl 5 (ndsV l)]
theorem sls_len (ls : List (List Nd)) : (sls ls).length = ls.length := by simp [sls]
theorem sls_get (ls : List (List Nd)) (i : Nat) (h : i < ls.length) : (sls ls).getD i [] = [.sl 5 (ndsV (ls.getD i []))] := by simp [sls, h]
theorem flat_take_succ (ls : List (List Nd)) (i : Nat) (h : i < ls.length) : (ls.take (i + 1)).flatten = (ls.take i).flatten ++ ls.getD i [] := by
  rw [take_succ_d [] h]; simp
theorem flat_len (ls : List (List Nd)) (i : Nat) (h : i < ls.length) : (ls.take i).flatten.length + (ls.getD i []).length ≤ ls.flatten.length := by
  have e : ls.flatten = (ls.take (i + 1)).flatten ++ (ls.drop (i + 1)).flatten := by rw [← List.flatten_append, List.take_append_drop]
  rw [e, flat_take_succ ls i h]; simp
theorem c_slices_Concat_Node (ls : List (List Nd)) (hl : ls.flatten.length ≤ 1000) (hn : ls.length ≤ 10) : Contract Tryd.prog fn_slices_Concat_Node [.val (.one (.sl 1 (sls ls)))] { res := .own ty_api_Node 5 (ndsV ls.flatten) } := by
  refine mk_slices_Concat_Node (base := 0) ⟨Nat.le_of_ble_eq_true rfl, Nat.le_of_ble_eq_true rfl, Nat.le_of_ble_eq_true rfl, rfl⟩ (fun hfit => ?_)
  unfold F0 slices_Concat_Node_E
  simp (config := { maxSteps := 2000000 }) only [markU, List.set_cons_succ, List.set_cons_zero, List.map_cons, List.map_nil, argCt, setCells, ioOf, List.length_cons, List.length_nil, Nat.reduceAdd, Nat.reduceSub, List.replicate, List.cons_append, List.nil_append]
  try simp (config := { maxSteps := 2000000 }) only [go_sem, reduceCtorEq, Nat.reduceAdd, Nat.reduceEqDiff, reduceIte, Nat.reduceLeDiff, Nat.reduceLT, Nat.reduceSub, ndsV_len, clsV_len, attV_len, intsR_len, ndV, cellsEq]
  all_goals (repeat (with_reducible refine And.intro (by (first | omega | exact inR_small (by omega) (by omega) | exact fun _ => inR_small (by omega) (by omega) | assumption | trivial | (intros; omega) | (simp_all; done) | (intros; simp [*]; done) | (simp_all; omega) | grind)) ?_))
  try simp (config := { maxSteps := 2000000 }) only [go_sem, reduceCtorEq, Nat.reduceAdd, Nat.reduceEqDiff, reduceIte, Nat.reduceLeDiff, Nat.reduceLT, Nat.reduceSub, ndsV_len, clsV_len, attV_len, intsR_len, ndV, cellsEq, sls_len]
  all_goals (repeat (with_reducible refine And.intro (by (first | omega | exact inR_small (by omega) (by omega) | exact fun _ => inR_small (by omega) (by omega) | assumption | trivial | (intros; omega) | (simp_all; done) | (intros; simp [*]; done) | (simp_all; omega) | grind)) ?_))
  refine loop_sets (fun i : Nat => [(3, .pv (iv ((ls.take i).flatten.length))), (5, .un), (11, .pv (iv i)), (12, .un), (20, .un)]) (fun i : Nat => ls.length - i) (fun i : Nat => i ≤ ls.length) (0) ?_ (Nat.zero_le _) ?_
  focus (simp (config := { maxSteps := 2000000 }) only [go_sem, reduceCtorEq, Nat.reduceAdd, Nat.reduceEqDiff, reduceIte, Nat.reduceLeDiff, Nat.reduceLT, Nat.reduceSub, ndsV_len, clsV_len, attV_len, intsR_len, ndV, cellsEq, le_cons, le_nil, le_un, le_same]; all_goals (repeat' (first | exact trivial | exact le_int (by omega) | exact le_bool rfl | exact le_eq rfl | exact le_nlo | exact le_refl _ | refine And.intro ?_ ?_)))
  intro i hi
  try simp (config := { maxSteps := 2000000 }) only [go_sem, reduceCtorEq, Nat.reduceAdd, Nat.reduceEqDiff, reduceIte, Nat.reduceLeDiff, Nat.reduceLT, Nat.reduceSub, ndsV_len, clsV_len, attV_len, intsR_len, ndV, cellsEq]
  all_goals (repeat (with_reducible refine And.intro (by (first | omega | exact inR_small (by omega) (by omega) | exact fun _ => inR_small (by omega) (by omega) | assumption | trivial | (intros; omega) | (simp_all; done) | (intros; simp [*]; done) | (simp_all; omega) | grind)) ?_))
  refine cond_of (by rfl) trivial (fun h => ?_) (fun h => ?_)
  · have hlt : i < ls.length := by simpa using h
    have hfl := flat_len ls i hlt
    try simp (config := { maxSteps := 2000000 }) only [go_sem, reduceCtorEq, Nat.reduceAdd, Nat.reduceEqDiff, reduceIte, Nat.reduceLeDiff, Nat.reduceLT, Nat.reduceSub, ndsV_len, clsV_len, attV_len, intsR_len, ndV, cellsEq, sls_len, sls_get _ _ hlt]
    all_goals (repeat (with_reducible refine And.intro (by (first | omega | exact inR_small (by omega) (by omega) | exact fun _ => inR_small (by omega) (by omega) | assumption | trivial | (intros; omega) | (simp_all; done) | (intros; simp [*]; done) | (simp_all; omega) | grind)) ?_))
    refine cond_of (by rfl) trivial (fun h2 => ?_) (fun h2 => ?_)
    · exfalso; simp at h2; omega
    · try simp (config := { maxSteps := 2000000 }) only [go_sem, reduceCtorEq, Nat.reduceAdd, Nat.reduceEqDiff, reduceIte, Nat.reduceLeDiff, Nat.reduceLT, Nat.reduceSub, ndsV_len, clsV_len, attV_len, intsR_len, ndV, cellsEq]
      all_goals (repeat (with_reducible refine And.intro (by (first | omega | exact inR_small (by omega) (by omega) | exact fun _ => inR_small (by omega) (by omega) | assumption | trivial | (intros; omega) | (simp_all; done) | (intros; simp [*]; done) | (simp_all; omega) | grind)) ?_))
      refine ⟨i + 1, by omega, hlt, ?_⟩
      simp (config := { maxSteps := 2000000 }) only [go_sem, reduceCtorEq, Nat.reduceAdd, Nat.reduceEqDiff, reduceIte, Nat.reduceLeDiff, Nat.reduceLT, Nat.reduceSub, ndsV_len, clsV_len, attV_len, intsR_len, ndV, cellsEq, le_cons, le_nil, le_un, le_same]
      all_goals (repeat' (first | exact trivial | exact le_int (by omega) | exact le_bool rfl | exact le_eq rfl | exact le_nlo | exact le_refl _ | refine And.intro ?_ ?_))
      rw [flat_take_succ ls i hlt]
      exact le_int (by simp)
  try simp (config := { maxSteps := 2000000 }) only [go_sem, reduceCtorEq, Nat.reduceAdd, Nat.reduceEqDiff, reduceIte, Nat.reduceLeDiff, Nat.reduceLT, Nat.reduceSub, ndsV_len, clsV_len, attV_len, intsR_len, ndV, cellsEq]
  all_goals (repeat (with_reducible refine And.intro (by (first | omega | exact inR_small (by omega) (by omega) | exact fun _ => inR_small (by omega) (by omega) | assumption | trivial | (intros; omega) | (simp_all; done) | (intros; simp [*]; done) | (simp_all; omega) | grind)) ?_))
  have hi2 : i = ls.length := by simp at h; omega
  subst hi2
  rw [List.take_length]
  refine call_own (by repeat' constructor) (c_slices_Grow_Node _ hl) ?_
  try simp (config := { maxSteps := 2000000 }) only [go_sem, reduceCtorEq, Nat.reduceAdd, Nat.reduceEqDiff, reduceIte, Nat.reduceLeDiff, Nat.reduceLT, Nat.reduceSub, ndsV_len, clsV_len, attV_len, intsR_len, ndV, cellsEq]
  all_goals (repeat (with_reducible refine And.intro (by (first | omega | exact inR_small (by omega) (by omega) | exact fun _ => inR_small (by omega) (by omega) | assumption | trivial | (intros; omega) | (simp_all; done) | (intros; simp [*]; done) | (simp_all; omega) | grind)) ?_))
  try simp (config := { maxSteps := 2000000 }) only [go_sem, reduceCtorEq, Nat.reduceAdd, Nat.reduceEqDiff, reduceIte, Nat.reduceLeDiff, Nat.reduceLT, Nat.reduceSub, ndsV_len, clsV_len, attV_len, intsR_len, ndV, cellsEq, sls_len]
  all_goals (repeat (with_reducible refine And.intro (by (first | omega | exact inR_small (by omega) (by omega) | exact fun _ => inR_small (by omega) (by omega) | assumption | trivial | (intros; omega) | (simp_all; done) | (intros; simp [*]; done) | (simp_all; omega) | grind)) ?_))
  refine loop_sets (fun i : Nat => [(6, .own ty_api_Node 5 (ndsV (ls.take i).flatten)), (8, .un), (27, .pv (iv i)), (28, .un)]) (fun i : Nat => ls.length - i) (fun i : Nat => i ≤ ls.length) (0) ?_ (Nat.zero_le _) ?_
  focus (simp (config := { maxSteps := 2000000 }) only [go_sem, reduceCtorEq, Nat.reduceAdd, Nat.reduceEqDiff, reduceIte, Nat.reduceLeDiff, Nat.reduceLT, Nat.reduceSub, ndsV_len, clsV_len, attV_len, intsR_len, ndV, cellsEq, le_cons, le_nil, le_un, le_same]; all_goals (repeat' (first | exact trivial | exact le_int (by omega) | exact le_bool rfl | exact le_eq rfl | exact le_nlo | exact le_refl _ | refine And.intro ?_ ?_)))
  intro i hi
  try simp (config := { maxSteps := 2000000 }) only [go_sem, reduceCtorEq, Nat.reduceAdd, Nat.reduceEqDiff, reduceIte, Nat.reduceLeDiff, Nat.reduceLT, Nat.reduceSub, ndsV_len, clsV_len, attV_len, intsR_len, ndV, cellsEq]
  all_goals (repeat (with_reducible refine And.intro (by (first | omega | exact inR_small (by omega) (by omega) | exact fun _ => inR_small (by omega) (by omega) | assumption | trivial | (intros; omega) | (simp_all; done) | (intros; simp [*]; done) | (simp_all; omega) | grind)) ?_))
  refine cond_of (by rfl) trivial (fun h => ?_) (fun h => ?_)
  · have hlt : i < ls.length := by simpa using h
    have hfl := flat_len ls i hlt
    try simp (config := { maxSteps := 2000000 }) only [go_sem, reduceCtorEq, Nat.reduceAdd, Nat.reduceEqDiff, reduceIte, Nat.reduceLeDiff, Nat.reduceLT, Nat.reduceSub, ndsV_len, clsV_len, attV_len, intsR_len, ndV, cellsEq, sls_len, sls_get _ _ hlt]
    all_goals (repeat (with_reducible refine And.intro (by (first | omega | exact inR_small (by omega) (by omega) | exact fun _ => inR_small (by omega) (by omega) | assumption | trivial | (intros; omega) | (simp_all; done) | (intros; simp [*]; done) | (simp_all; omega) | grind)) ?_))
    refine ⟨i + 1, by omega, hlt, ?_⟩
    simp (config := { maxSteps := 2000000 }) only [go_sem, reduceCtorEq, Nat.reduceAdd, Nat.reduceEqDiff, reduceIte, Nat.reduceLeDiff, Nat.reduceLT, Nat.reduceSub, ndsV_len, clsV_len, attV_len, intsR_len, ndV, cellsEq, le_cons, le_nil, le_un, le_same]
    all_goals (repeat' (first | exact trivial | exact le_int (by omega) | exact le_bool rfl | exact le_eq rfl | exact le_nlo | exact le_refl _ | refine And.intro ?_ ?_))
    rw [flat_take_succ ls i hlt, ndsV_app]
    exact le_own rfl
  try simp (config := { maxSteps := 2000000 }) only [go_sem, reduceCtorEq, Nat.reduceAdd, Nat.reduceEqDiff, reduceIte, Nat.reduceLeDiff, Nat.reduceLT, Nat.reduceSub, ndsV_len, clsV_len, attV_len, intsR_len, ndV, cellsEq]
  all_goals (repeat (with_reducible refine And.intro (by (first | omega | exact inR_small (by omega) (by omega) | exact fun _ => inR_small (by omega) (by omega) | assumption | trivial | (intros; omega) | (simp_all; done) | (intros; simp [*]; done) | (simp_all; omega) | grind)) ?_))
  have hi2 : i = ls.length := by simp at h; omega
  subst hi2
  rw [List.take_length]
  exact fin_own rfl
end Go.Hx
