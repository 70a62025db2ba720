/-
  Walks of functions of the program: each contract says what the function computes, for every input that its conditions let by. No other condition.
-/
import Derived.Test.YtjnagiaooecklaaDoorP14
set_option linter.all false
-- DOM docV, List.getElem?_cons_zero, List.getElem?_cons_succ
set_option maxRecDepth 100000
set_option linter.unusedSimpArgs false
namespace Go.Hx
open Go.Proofs

def smallD : List Nd := [
  { up := -1, tag := [108, 105, 115, 116], id := [116, 111, 112], cls := [], att := [] },
  { up := 0, tag := [105, 116, 101, 109], id := [], cls := [[97]], att := [] },
  { up := 0, tag := [105, 116, 101, 109], id := [], cls := [[98]], att := [] },
  { up := 2, tag := [108, 105, 110, 107], id := [], cls := [], att := [([116, 111], [111, 110, 101, 32, 116, 119, 111])] },
  { up := 0, tag := [105, 116, 101, 109], id := [], cls := [[97]], att := [] }]
theorem c_law_small : Contract Tryd.prog fn_law_small [] { res := .val (docV smallD) } := by
  refine mk_law_small (base := 0) ⟨Nat.le_of_ble_eq_true rfl, Nat.le_of_ble_eq_true rfl, Nat.le_of_ble_eq_true rfl, rfl⟩ (fun hfit => ?_)
  unfold F0 law_small_E
  simp (config := { maxSteps := 2000000 }) only [markU, List.set_cons_succ, List.set_cons_zero, List.map_cons, List.map_nil, argCt, setCells, ioOf, List.length_cons, List.length_nil, Nat.reduceAdd, Nat.reduceSub, List.replicate, List.cons_append, List.nil_append]
  try simp (config := { maxSteps := 2000000 }) only [go_sem, reduceCtorEq, Nat.reduceAdd, Nat.reduceEqDiff, reduceIte, Nat.reduceLeDiff, Nat.reduceLT, Nat.reduceSub, docV, List.getElem?_cons_zero, List.getElem?_cons_succ, ndsV_len, clsV_len, attV_len, intsR_len, ndV, cellsEq]
  all_goals (repeat (with_reducible refine And.intro (by (first | omega | exact inR_small (by omega) (by omega) | exact fun _ => inR_small (by omega) (by omega) | assumption | trivial | (intros; omega) | (simp_all; done) | (intros; simp [*]; done) | (simp_all; omega) | grind)) ?_))
  exact fin_cellB rfl rfl rfl

def xNd : Nd := { up := 0, tag := [120], id := [], cls := [], att := [] }
theorem s_there0 : thereE smallD 0 = 0 := by kernel_rfl
theorem s_there2 : thereE smallD 2 = 0 := by kernel_rfl
theorem s_there3 : thereE smallD 3 = 0 := by kernel_rfl
theorem z2 : (2 : Int).toNat = 2 := rfl
theorem z3 : (3 : Int).toNat = 3 := rfl
theorem s_under : behind smallD 2 = 4 := by kernel_rfl
theorem s_check : checkDoc smallD = 0 := by kernel_rfl
theorem s_check0 : checkDoc [] = 2 := by kernel_rfl
theorem dec_self {α : Type} [DecidableEq α] (a : α) : decide (a = a) = true := by simp
theorem s_u : (((4 : Nat) : Int) - 2 - 1 == 1) = true := rfl
theorem s_remlen : (docRemove smallD 2).length = 3 := by kernel_rfl
theorem s_putlen : (putNd smallD 3 xNd).length = 5 := by kernel_rfl
theorem s_putat : (ndsV (putNd smallD 3 xNd)).getD (Int.toNat 3) [] = ndV { xNd with up := 2 } := by kernel_rfl
theorem s_kids : docKids smallD 0 = [1, 2, 4] := by kernel_rfl
theorem s_part : docPart smallD 2 = [
  { up := -1, tag := [105, 116, 101, 109], id := [], cls := [[98]], att := [] },
  { up := 0, tag := [108, 105, 110, 107], id := [], cls := [], att := [([116, 111], [111, 110, 101, 32, 116, 119, 111])] }] := by kernel_rfl
theorem s_rem : docRemove smallD 2 = [
  { up := -1, tag := [108, 105, 115, 116], id := [116, 111, 112], cls := [], att := [] },
  { up := 0, tag := [105, 116, 101, 109], id := [], cls := [[97]], att := [] },
  { up := 0, tag := [105, 116, 101, 109], id := [], cls := [[97]], att := [] }] := by kernel_rfl
theorem s_remE : remE smallD 2 = 0 := by kernel_rfl
theorem s_insE : insE (docRemove smallD 2) 0 1 (docPart smallD 2) = 0 := by kernel_rfl
theorem s_ins : docInsert (docRemove smallD 2) 0 1 (docPart smallD 2) = smallD := by kernel_rfl
theorem s_putE : putE smallD 3 xNd = 0 := by kernel_rfl

theorem c_law_docBegun : Contract Tryd.prog fn_law_docBegun [] { res := .val (bv true) } := by
  refine mk_law_docBegun (base := 0) ⟨Nat.le_of_ble_eq_true rfl, Nat.le_of_ble_eq_true rfl, Nat.le_of_ble_eq_true rfl, rfl⟩ (fun hfit => ?_)
  unfold F0 law_docBegun_E
  simp (config := { maxSteps := 2000000 }) only [markU, List.set_cons_succ, List.set_cons_zero, List.map_cons, List.map_nil, argCt, setCells, ioOf, List.length_cons, List.length_nil, Nat.reduceAdd, Nat.reduceSub, List.replicate, List.cons_append, List.nil_append]
  try simp (config := { maxSteps := 2000000 }) only [go_sem, reduceCtorEq, Nat.reduceAdd, Nat.reduceEqDiff, reduceIte, Nat.reduceLeDiff, Nat.reduceLT, Nat.reduceSub, docV, List.getElem?_cons_zero, List.getElem?_cons_succ, ndsV_len, clsV_len, attV_len, intsR_len, ndV, cellsEq]
  all_goals (repeat (with_reducible refine And.intro (by (first | omega | exact inR_small (by omega) (by omega) | exact fun _ => inR_small (by omega) (by omega) | assumption | trivial | (intros; omega) | (simp_all; done) | (intros; simp [*]; done) | (simp_all; omega) | grind)) ?_))
  refine call_val (by repeat' constructor) (c_law_small) ?_
  try simp (config := { maxSteps := 2000000 }) only [go_sem, reduceCtorEq, Nat.reduceAdd, Nat.reduceEqDiff, reduceIte, Nat.reduceLeDiff, Nat.reduceLT, Nat.reduceSub, docV, List.getElem?_cons_zero, List.getElem?_cons_succ, ndsV_len, clsV_len, attV_len, intsR_len, ndV, cellsEq]
  all_goals (repeat (with_reducible refine And.intro (by (first | omega | exact inR_small (by omega) (by omega) | exact fun _ => inR_small (by omega) (by omega) | assumption | trivial | (intros; omega) | (simp_all; done) | (intros; simp [*]; done) | (simp_all; omega) | grind)) ?_))
  refine call_tup (by repeat' constructor) (c_doc_Kids smallD 0) ?_
  try simp (config := { maxSteps := 2000000 }) only [go_sem, reduceCtorEq, Nat.reduceAdd, Nat.reduceEqDiff, reduceIte, Nat.reduceLeDiff, Nat.reduceLT, Nat.reduceSub, docV, List.getElem?_cons_zero, List.getElem?_cons_succ, ndsV_len, clsV_len, attV_len, intsR_len, ndV, cellsEq, s_there0, s_kids, Int.toNat_zero]
  all_goals (repeat (with_reducible refine And.intro (by (first | omega | exact inR_small (by omega) (by omega) | exact fun _ => inR_small (by omega) (by omega) | assumption | trivial | (intros; omega) | (simp_all; done) | (intros; simp [*]; done) | (simp_all; omega) | grind)) ?_))
  refine call_val (by repeat' constructor) (c_law_small) ?_
  try simp (config := { maxSteps := 2000000 }) only [go_sem, reduceCtorEq, Nat.reduceAdd, Nat.reduceEqDiff, reduceIte, Nat.reduceLeDiff, Nat.reduceLT, Nat.reduceSub, docV, List.getElem?_cons_zero, List.getElem?_cons_succ, ndsV_len, clsV_len, attV_len, intsR_len, ndV, cellsEq]
  all_goals (repeat (with_reducible refine And.intro (by (first | omega | exact inR_small (by omega) (by omega) | exact fun _ => inR_small (by omega) (by omega) | assumption | trivial | (intros; omega) | (simp_all; done) | (intros; simp [*]; done) | (simp_all; omega) | grind)) ?_))
  refine call_tup (by repeat' constructor) (c_doc_Under smallD 2) ?_
  try simp (config := { maxSteps := 2000000 }) only [go_sem, reduceCtorEq, Nat.reduceAdd, Nat.reduceEqDiff, reduceIte, Nat.reduceLeDiff, Nat.reduceLT, Nat.reduceSub, docV, List.getElem?_cons_zero, List.getElem?_cons_succ, ndsV_len, clsV_len, attV_len, intsR_len, ndV, cellsEq, s_there2, s_under, z2]
  all_goals (repeat (with_reducible refine And.intro (by (first | omega | exact inR_small (by omega) (by omega) | exact fun _ => inR_small (by omega) (by omega) | assumption | trivial | (intros; omega) | (simp_all; done) | (intros; simp [*]; done) | (simp_all; omega) | grind)) ?_))
  refine call_val (by repeat' constructor) (c_law_small) ?_
  try simp (config := { maxSteps := 2000000 }) only [go_sem, reduceCtorEq, Nat.reduceAdd, Nat.reduceEqDiff, reduceIte, Nat.reduceLeDiff, Nat.reduceLT, Nat.reduceSub, docV, List.getElem?_cons_zero, List.getElem?_cons_succ, ndsV_len, clsV_len, attV_len, intsR_len, ndV, cellsEq]
  all_goals (repeat (with_reducible refine And.intro (by (first | omega | exact inR_small (by omega) (by omega) | exact fun _ => inR_small (by omega) (by omega) | assumption | trivial | (intros; omega) | (simp_all; done) | (intros; simp [*]; done) | (simp_all; omega) | grind)) ?_))
  refine call_tup (by repeat' constructor) (c_doc_Part smallD 2) ?_
  try simp (config := { maxSteps := 2000000 }) only [go_sem, reduceCtorEq, Nat.reduceAdd, Nat.reduceEqDiff, reduceIte, Nat.reduceLeDiff, Nat.reduceLT, Nat.reduceSub, docV, List.getElem?_cons_zero, List.getElem?_cons_succ, ndsV_len, clsV_len, attV_len, intsR_len, ndV, cellsEq, s_there2, z2]
  all_goals (repeat (with_reducible refine And.intro (by (first | omega | exact inR_small (by omega) (by omega) | exact fun _ => inR_small (by omega) (by omega) | assumption | trivial | (intros; omega) | (simp_all; done) | (intros; simp [*]; done) | (simp_all; omega) | grind)) ?_))
  refine call_val (by repeat' constructor) (c_law_small) ?_
  try simp (config := { maxSteps := 2000000 }) only [go_sem, reduceCtorEq, Nat.reduceAdd, Nat.reduceEqDiff, reduceIte, Nat.reduceLeDiff, Nat.reduceLT, Nat.reduceSub, docV, List.getElem?_cons_zero, List.getElem?_cons_succ, ndsV_len, clsV_len, attV_len, intsR_len, ndV, cellsEq]
  all_goals (repeat (with_reducible refine And.intro (by (first | omega | exact inR_small (by omega) (by omega) | exact fun _ => inR_small (by omega) (by omega) | assumption | trivial | (intros; omega) | (simp_all; done) | (intros; simp [*]; done) | (simp_all; omega) | grind)) ?_))
  refine call_tup (by repeat' constructor) (c_doc_Remove smallD 2) ?_
  try simp (config := { maxSteps := 2000000 }) only [go_sem, reduceCtorEq, Nat.reduceAdd, Nat.reduceEqDiff, reduceIte, Nat.reduceLeDiff, Nat.reduceLT, Nat.reduceSub, docV, List.getElem?_cons_zero, List.getElem?_cons_succ, ndsV_len, clsV_len, attV_len, intsR_len, ndV, cellsEq, s_remE, z2]
  all_goals (repeat (with_reducible refine And.intro (by (first | omega | exact inR_small (by omega) (by omega) | exact fun _ => inR_small (by omega) (by omega) | assumption | trivial | (intros; omega) | (simp_all; done) | (intros; simp [*]; done) | (simp_all; omega) | grind)) ?_))
  refine call_tup (by repeat' constructor) (c_doc_Insert (docRemove smallD 2) 0 1 (docPart smallD 2)) ?_
  try simp (config := { maxSteps := 2000000 }) only [go_sem, reduceCtorEq, Nat.reduceAdd, Nat.reduceEqDiff, reduceIte, Nat.reduceLeDiff, Nat.reduceLT, Nat.reduceSub, docV, List.getElem?_cons_zero, List.getElem?_cons_succ, ndsV_len, clsV_len, attV_len, intsR_len, ndV, cellsEq, s_insE, s_ins]
  all_goals (repeat (with_reducible refine And.intro (by (first | omega | exact inR_small (by omega) (by omega) | exact fun _ => inR_small (by omega) (by omega) | assumption | trivial | (intros; omega) | (simp_all; done) | (intros; simp [*]; done) | (simp_all; omega) | grind)) ?_))
  refine call_val (by repeat' constructor) (c_law_small) ?_
  try simp (config := { maxSteps := 2000000 }) only [go_sem, reduceCtorEq, Nat.reduceAdd, Nat.reduceEqDiff, reduceIte, Nat.reduceLeDiff, Nat.reduceLT, Nat.reduceSub, docV, List.getElem?_cons_zero, List.getElem?_cons_succ, ndsV_len, clsV_len, attV_len, intsR_len, ndV, cellsEq]
  all_goals (repeat (with_reducible refine And.intro (by (first | omega | exact inR_small (by omega) (by omega) | exact fun _ => inR_small (by omega) (by omega) | assumption | trivial | (intros; omega) | (simp_all; done) | (intros; simp [*]; done) | (simp_all; omega) | grind)) ?_))
  refine call_tup (by repeat' constructor) (cV_doc_Put smallD 3 xNd) ?_
  try simp (config := { maxSteps := 2000000 }) only [go_sem, reduceCtorEq, Nat.reduceAdd, Nat.reduceEqDiff, reduceIte, Nat.reduceLeDiff, Nat.reduceLT, Nat.reduceSub, docV, List.getElem?_cons_zero, List.getElem?_cons_succ, ndsV_len, clsV_len, attV_len, intsR_len, ndV, cellsEq, s_putE, z3]
  all_goals (repeat (with_reducible refine And.intro (by (first | omega | exact inR_small (by omega) (by omega) | exact fun _ => inR_small (by omega) (by omega) | assumption | trivial | (intros; omega) | (simp_all; done) | (intros; simp [*]; done) | (simp_all; omega) | grind)) ?_))
  refine call_val (by repeat' constructor) (c_law_small) ?_
  try simp (config := { maxSteps := 2000000 }) only [go_sem, reduceCtorEq, Nat.reduceAdd, Nat.reduceEqDiff, reduceIte, Nat.reduceLeDiff, Nat.reduceLT, Nat.reduceSub, docV, List.getElem?_cons_zero, List.getElem?_cons_succ, ndsV_len, clsV_len, attV_len, intsR_len, ndV, cellsEq]
  all_goals (repeat (with_reducible refine And.intro (by (first | omega | exact inR_small (by omega) (by omega) | exact fun _ => inR_small (by omega) (by omega) | assumption | trivial | (intros; omega) | (simp_all; done) | (intros; simp [*]; done) | (simp_all; omega) | grind)) ?_))
  refine call_val (by repeat' constructor) (c_doc_Check smallD) ?_
  try simp (config := { maxSteps := 2000000 }) only [go_sem, reduceCtorEq, Nat.reduceAdd, Nat.reduceEqDiff, reduceIte, Nat.reduceLeDiff, Nat.reduceLT, Nat.reduceSub, docV, List.getElem?_cons_zero, List.getElem?_cons_succ, ndsV_len, clsV_len, attV_len, intsR_len, ndV, cellsEq, s_check, beq_self_eq_true]
  all_goals (repeat (with_reducible refine And.intro (by (first | omega | exact inR_small (by omega) (by omega) | exact fun _ => inR_small (by omega) (by omega) | assumption | trivial | (intros; omega) | (simp_all; done) | (intros; simp [*]; done) | (simp_all; omega) | grind)) ?_))
  apply call_guard (h2 := fun _ => c_doc_Check [])
  · (simp (config := { maxSteps := 2000000 }) only [go_sem, reduceCtorEq, Nat.reduceAdd, Nat.reduceEqDiff, reduceIte, Nat.reduceLeDiff, Nat.reduceLT, Nat.reduceSub, docV, List.getElem?_cons_zero, List.getElem?_cons_succ, ndsV_len, clsV_len, attV_len, intsR_len, ndV, cellsEq]; rfl)
  · intro h; repeat' (first | exact trivial | exact h | refine And.intro ?_ ?_)
  try simp (config := { maxSteps := 2000000 }) only [go_sem, reduceCtorEq, Nat.reduceAdd, Nat.reduceEqDiff, reduceIte, Nat.reduceLeDiff, Nat.reduceLT, Nat.reduceSub, docV, List.getElem?_cons_zero, List.getElem?_cons_succ, ndsV_len, clsV_len, attV_len, intsR_len, ndV, cellsEq, s_check0, beq_self_eq_true, cond_true]
  all_goals (repeat (with_reducible refine And.intro (by (first | omega | exact inR_small (by omega) (by omega) | exact fun _ => inR_small (by omega) (by omega) | assumption | trivial | (intros; omega) | (simp_all; done) | (intros; simp [*]; done) | (simp_all; omega) | grind)) ?_))
  apply call_guard (h2 := fun _ => c_ref_SameInts [1, 2, 4] [1, 2, 4])
  · (simp (config := { maxSteps := 2000000 }) only [go_sem, reduceCtorEq, Nat.reduceAdd, Nat.reduceEqDiff, reduceIte, Nat.reduceLeDiff, Nat.reduceLT, Nat.reduceSub, docV, List.getElem?_cons_zero, List.getElem?_cons_succ, ndsV_len, clsV_len, attV_len, intsR_len, ndV, cellsEq]; rfl)
  · intro h; repeat' (first | exact trivial | exact h | refine And.intro ?_ ?_)
  try simp (config := { maxSteps := 2000000 }) only [go_sem, reduceCtorEq, Nat.reduceAdd, Nat.reduceEqDiff, reduceIte, Nat.reduceLeDiff, Nat.reduceLT, Nat.reduceSub, docV, List.getElem?_cons_zero, List.getElem?_cons_succ, ndsV_len, clsV_len, attV_len, intsR_len, ndV, cellsEq, dec_self, beq_self_eq_true, cond_true, s_u, s_remlen]
  all_goals (repeat (with_reducible refine And.intro (by (first | omega | exact inR_small (by omega) (by omega) | exact fun _ => inR_small (by omega) (by omega) | assumption | trivial | (intros; omega) | (simp_all; done) | (intros; simp [*]; done) | (simp_all; omega) | grind)) ?_))
  apply call_guard (h2 := fun _ => c_law_small)
  · (simp (config := { maxSteps := 2000000 }) only [go_sem, reduceCtorEq, Nat.reduceAdd, Nat.reduceEqDiff, reduceIte, Nat.reduceLeDiff, Nat.reduceLT, Nat.reduceSub, docV, List.getElem?_cons_zero, List.getElem?_cons_succ, ndsV_len, clsV_len, attV_len, intsR_len, ndV, cellsEq]; rfl)
  · intro h; repeat' (first | exact trivial | exact h | refine And.intro ?_ ?_)
  try simp (config := { maxSteps := 2000000 }) only [go_sem, reduceCtorEq, Nat.reduceAdd, Nat.reduceEqDiff, reduceIte, Nat.reduceLeDiff, Nat.reduceLT, Nat.reduceSub, docV, List.getElem?_cons_zero, List.getElem?_cons_succ, ndsV_len, clsV_len, attV_len, intsR_len, ndV, cellsEq]
  all_goals (repeat (with_reducible refine And.intro (by (first | omega | exact inR_small (by omega) (by omega) | exact fun _ => inR_small (by omega) (by omega) | assumption | trivial | (intros; omega) | (simp_all; done) | (intros; simp [*]; done) | (simp_all; omega) | grind)) ?_))
  apply call_guard (h2 := fun _ => c_ref_SameDocs smallD smallD)
  · (simp (config := { maxSteps := 2000000 }) only [go_sem, reduceCtorEq, Nat.reduceAdd, Nat.reduceEqDiff, reduceIte, Nat.reduceLeDiff, Nat.reduceLT, Nat.reduceSub, docV, List.getElem?_cons_zero, List.getElem?_cons_succ, ndsV_len, clsV_len, attV_len, intsR_len, ndV, cellsEq]; rfl)
  · intro h; repeat' (first | exact trivial | exact h | refine And.intro ?_ ?_)
  try simp (config := { maxSteps := 2000000 }) only [go_sem, reduceCtorEq, Nat.reduceAdd, Nat.reduceEqDiff, reduceIte, Nat.reduceLeDiff, Nat.reduceLT, Nat.reduceSub, docV, List.getElem?_cons_zero, List.getElem?_cons_succ, ndsV_len, clsV_len, attV_len, intsR_len, ndV, cellsEq, dec_self, beq_self_eq_true, cond_true, s_putlen, s_putat]
  all_goals (repeat (with_reducible refine And.intro (by (first | omega | exact inR_small (by omega) (by omega) | exact fun _ => inR_small (by omega) (by omega) | assumption | trivial | (intros; omega) | (simp_all; done) | (intros; simp [*]; done) | (simp_all; omega) | grind)) ?_))
  refine fin_val rfl trivial (.inl ?_)
  simp [xNd]
end Go.Hx
