/-
  Walks of functions of the program: each contract says what the function computes, for every input that its conditions let by. No other condition.
-/
import Derived.Test.YtjnagiaooecklaaDoorP13
import Derived.Test.YtjnagiaooecklaaDoorC3
set_option linter.all false
-- DOM ↓ o_vlp, ↓ o_vse, atV, ovRows_len, OVal.cells, layR, List.drop_succ_cons, List.drop_zero, List.take_succ_cons, List.getD_nil, frzL_p, plainL, Nat.sub_zero, List.map_nil, List.map_cons
set_option maxRecDepth 100000
set_option linter.unusedSimpArgs false
namespace Go.Hx
open Go.Proofs

def ovRows (rows : List (List PV)) : List (List OV) := rows.map fun r => r.map .p
theorem ovRows_app (a b : List (List PV)) : ovRows (a ++ b) = ovRows a ++ ovRows b := by simp [ovRows]
theorem ovRows_len (a : List (List PV)) : (ovRows a).length = a.length := by simp [ovRows]

theorem ovRows_get (rows : List (List PV)) (i : Nat) : (ovRows rows).getD i [] = (rows.getD i []).map .p := by
  simp only [ovRows, List.getD_eq_getElem?_getD, List.getElem?_map]
  cases rows[i]? <;> rfl
theorem frz_ovRows {b : Option Nat} {e k : Nat} {rows : List (List PV)} : (OV.os b e k (ovRows rows)).frz = some (.sl k rows) := frz_os (frzRows_p rows)
theorem cV_doc_own (l : List Nd) (f : Nat) (caps : List PV) (g : Int → Int) (hl : l.length ≤ 64) (hs : ∀ x ∈ l, smallNd x)
    (hg : ∀ x ∈ l, Contract Tryd.prog f ([.val (iv x.up)] ++ caps.map fun c => .val (.one c)) { res := .val (iv (g x.up)) }) :
    Contract Tryd.prog fn_doc_own [.val (.one (.sl 5 (ndsV l))), .val (.one (.clo f caps))] { res := .ov (.one (.os none ty_api_Node 5 (ovRows (ndsV (l.map (turnUp g)))))) } := by
  refine mk_doc_ownV (base := 0) ⟨Nat.le_of_ble_eq_true rfl, Nat.le_of_ble_eq_true rfl, Nat.le_of_ble_eq_true rfl, rfl⟩ (fun hfit => ?_)
  unfold F0 doc_ownV_E
  simp (config := { maxSteps := 2000000 }) only [markU, List.set_cons_succ, List.set_cons_zero, List.map_cons, List.map_nil, argCt, setCells, ioOf, List.length_cons, List.length_nil, Nat.reduceAdd, Nat.reduceSub, List.replicate, List.cons_append, List.nil_append]
  try simp (config := { maxSteps := 2000000 }) only [go_sem, reduceCtorEq, Nat.reduceAdd, Nat.reduceEqDiff, reduceIte, Nat.reduceLeDiff, Nat.reduceLT, Nat.reduceSub, ↓ o_vlp, ↓ o_vse, atV, ovRows_len, OVal.cells, layR, List.drop_succ_cons, List.drop_zero, List.take_succ_cons, List.getD_nil, frzL_p, plainL, Nat.sub_zero, List.map_nil, List.map_cons, ndsV_len, clsV_len, attV_len, intsR_len, ndV, cellsEq]
  all_goals (repeat (with_reducible refine And.intro (by (first | omega | exact inR_small (by omega) (by omega) | exact fun _ => inR_small (by omega) (by omega) | assumption | trivial | (intros; omega) | (simp_all; done) | (intros; simp [*]; done) | (simp_all; omega) | grind)) ?_))
  refine loop_sets (fun i : Nat => [(5, .ov (.one (.os none ty_api_Node 5 (ovRows (ndsV ((l.take i).map (turnUp g))))))), (7, .un), (10, .pv (iv i)), (11, .un), (33, .un), (34, .un), (35, .un), (36, .un), (37, .un)]) (fun i : Nat => l.length - i) (fun i : Nat => i ≤ l.length) (0) ?_ (Nat.zero_le _) ?_
  focus (simp (config := { maxSteps := 2000000 }) only [go_sem, reduceCtorEq, Nat.reduceAdd, Nat.reduceEqDiff, reduceIte, Nat.reduceLeDiff, Nat.reduceLT, Nat.reduceSub, ↓ o_vlp, ↓ o_vse, atV, ovRows_len, OVal.cells, layR, List.drop_succ_cons, List.drop_zero, List.take_succ_cons, List.getD_nil, frzL_p, plainL, Nat.sub_zero, List.map_nil, List.map_cons, ndsV_len, clsV_len, attV_len, intsR_len, ndV, cellsEq, le_cons, le_nil, le_un, le_same]; all_goals (repeat' (first | exact trivial | exact le_int (by omega) | exact le_bool rfl | exact le_eq rfl | exact le_nlo | exact le_refl _ | refine And.intro ?_ ?_)))
  intro i hi
  try simp (config := { maxSteps := 2000000 }) only [go_sem, reduceCtorEq, Nat.reduceAdd, Nat.reduceEqDiff, reduceIte, Nat.reduceLeDiff, Nat.reduceLT, Nat.reduceSub, ↓ o_vlp, ↓ o_vse, atV, ovRows_len, OVal.cells, layR, List.drop_succ_cons, List.drop_zero, List.take_succ_cons, List.getD_nil, frzL_p, plainL, Nat.sub_zero, List.map_nil, List.map_cons, ndsV_len, clsV_len, attV_len, intsR_len, ndV, cellsEq]
  all_goals (repeat (with_reducible refine And.intro (by (first | omega | exact inR_small (by omega) (by omega) | exact fun _ => inR_small (by omega) (by omega) | assumption | trivial | (intros; omega) | (simp_all; done) | (intros; simp [*]; done) | (simp_all; omega) | grind)) ?_))
  refine cond_of (by rfl) trivial (fun h => ?_) (fun h => ?_)
  · have hlt : i < l.length := by simpa using h
    have hmem := mem_getD hlt
    obtain ⟨hs1, hs2⟩ := hs _ hmem
    try simp (config := { maxSteps := 2000000 }) only [go_sem, reduceCtorEq, Nat.reduceAdd, Nat.reduceEqDiff, reduceIte, Nat.reduceLeDiff, Nat.reduceLT, Nat.reduceSub, ↓ o_vlp, ↓ o_vse, atV, ovRows_len, OVal.cells, layR, List.drop_succ_cons, List.drop_zero, List.take_succ_cons, List.getD_nil, frzL_p, plainL, Nat.sub_zero, List.map_nil, List.map_cons, ndsV_len, clsV_len, attV_len, intsR_len, ndV, cellsEq, ndsV_get _ _ hlt]
    all_goals (repeat (with_reducible refine And.intro (by (first | omega | exact inR_small (by omega) (by omega) | exact fun _ => inR_small (by omega) (by omega) | assumption | trivial | (intros; omega) | (simp_all; done) | (intros; simp [*]; done) | (simp_all; omega) | grind)) ?_))
    refine callv_val (by rfl) trivial (by repeat' constructor) (hg _ hmem) ?_
    try simp (config := { maxSteps := 2000000 }) only [go_sem, reduceCtorEq, Nat.reduceAdd, Nat.reduceEqDiff, reduceIte, Nat.reduceLeDiff, Nat.reduceLT, Nat.reduceSub, ↓ o_vlp, ↓ o_vse, atV, ovRows_len, OVal.cells, layR, List.drop_succ_cons, List.drop_zero, List.take_succ_cons, List.getD_nil, frzL_p, plainL, Nat.sub_zero, List.map_nil, List.map_cons, ndsV_len, clsV_len, attV_len, intsR_len, ndV, cellsEq]
    all_goals (repeat (with_reducible refine And.intro (by (first | omega | exact inR_small (by omega) (by omega) | exact fun _ => inR_small (by omega) (by omega) | assumption | trivial | (intros; omega) | (simp_all; done) | (intros; simp [*]; done) | (simp_all; omega) | grind)) ?_))
    refine call_own (by repeat' constructor) (c_slices_Clone_string _ hs1) ?_
    try simp (config := { maxSteps := 2000000 }) only [go_sem, reduceCtorEq, Nat.reduceAdd, Nat.reduceEqDiff, reduceIte, Nat.reduceLeDiff, Nat.reduceLT, Nat.reduceSub, ↓ o_vlp, ↓ o_vse, atV, ovRows_len, OVal.cells, layR, List.drop_succ_cons, List.drop_zero, List.take_succ_cons, List.getD_nil, frzL_p, plainL, Nat.sub_zero, List.map_nil, List.map_cons, ndsV_len, clsV_len, attV_len, intsR_len, ndV, cellsEq]
    all_goals (repeat (with_reducible refine And.intro (by (first | omega | exact inR_small (by omega) (by omega) | exact fun _ => inR_small (by omega) (by omega) | assumption | trivial | (intros; omega) | (simp_all; done) | (intros; simp [*]; done) | (simp_all; omega) | grind)) ?_))
    refine call_own (by repeat' constructor) (c_slices_Clone_Attr _ hs2) ?_
    try simp (config := { maxSteps := 2000000 }) only [go_sem, reduceCtorEq, Nat.reduceAdd, Nat.reduceEqDiff, reduceIte, Nat.reduceLeDiff, Nat.reduceLT, Nat.reduceSub, ↓ o_vlp, ↓ o_vse, atV, ovRows_len, OVal.cells, layR, List.drop_succ_cons, List.drop_zero, List.take_succ_cons, List.getD_nil, frzL_p, plainL, Nat.sub_zero, List.map_nil, List.map_cons, ndsV_len, clsV_len, attV_len, intsR_len, ndV, cellsEq]
    all_goals (repeat (with_reducible refine And.intro (by (first | omega | exact inR_small (by omega) (by omega) | exact fun _ => inR_small (by omega) (by omega) | assumption | trivial | (intros; omega) | (simp_all; done) | (intros; simp [*]; done) | (simp_all; omega) | grind)) ?_))
    try simp (config := { maxSteps := 2000000 }) only [go_sem, reduceCtorEq, Nat.reduceAdd, Nat.reduceEqDiff, reduceIte, Nat.reduceLeDiff, Nat.reduceLT, Nat.reduceSub, ↓ o_vlp, ↓ o_vse, atV, ovRows_len, OVal.cells, layR, List.drop_succ_cons, List.drop_zero, List.take_succ_cons, List.getD_nil, frzL_p, plainL, Nat.sub_zero, List.map_nil, List.map_cons, ndsV_len, clsV_len, attV_len, intsR_len, ndV, cellsEq, ovRows_len]
    all_goals (repeat (with_reducible refine And.intro (by (first | omega | exact inR_small (by omega) (by omega) | exact fun _ => inR_small (by omega) (by omega) | assumption | trivial | (intros; omega) | (simp_all; done) | (intros; simp [*]; done) | (simp_all; omega) | grind)) ?_))
    refine ⟨i + 1, by omega, hlt, ?_⟩
    simp (config := { maxSteps := 2000000 }) only [go_sem, reduceCtorEq, Nat.reduceAdd, Nat.reduceEqDiff, reduceIte, Nat.reduceLeDiff, Nat.reduceLT, Nat.reduceSub, ↓ o_vlp, ↓ o_vse, atV, ovRows_len, OVal.cells, layR, List.drop_succ_cons, List.drop_zero, List.take_succ_cons, List.getD_nil, frzL_p, plainL, Nat.sub_zero, List.map_nil, List.map_cons, ndsV_len, clsV_len, attV_len, intsR_len, ndV, cellsEq, le_cons, le_nil, le_un, le_same]
    all_goals (repeat' (first | exact trivial | exact le_int (by omega) | exact le_bool rfl | exact le_eq rfl | exact le_nlo | exact le_refl _ | refine And.intro ?_ ?_))
    refine le_eq ?_
    rw [take_map_succ default hlt, ndsV_app, ovRows_app]
    rfl
  · try simp (config := { maxSteps := 2000000 }) only [go_sem, reduceCtorEq, Nat.reduceAdd, Nat.reduceEqDiff, reduceIte, Nat.reduceLeDiff, Nat.reduceLT, Nat.reduceSub, ↓ o_vlp, ↓ o_vse, atV, ovRows_len, OVal.cells, layR, List.drop_succ_cons, List.drop_zero, List.take_succ_cons, List.getD_nil, frzL_p, plainL, Nat.sub_zero, List.map_nil, List.map_cons, ndsV_len, clsV_len, attV_len, intsR_len, ndV, cellsEq]
    all_goals (repeat (with_reducible refine And.intro (by (first | omega | exact inR_small (by omega) (by omega) | exact fun _ => inR_small (by omega) (by omega) | assumption | trivial | (intros; omega) | (simp_all; done) | (intros; simp [*]; done) | (simp_all; omega) | grind)) ?_))
    have : i = l.length := by simp at h; omega
    subst this
    rw [List.take_length]
    exact fin_ov rfl

def putNd (d : List Nd) (n : Nat) (x : Nd) : List Nd := d.set n { x with up := upOf d n }
def putE (d : List Nd) (k : Int) (x : Nd) : Int := if thereE d k = 0 then (if nodeFine x then 0 else 1) else thereE d k
theorem map_id_turn (d : List Nd) : d.map (turnUp fun up => up) = d := by
  have : (turnUp fun up => up) = id := by funext x; rfl
  rw [this, List.map_id]
theorem cV_doc_Put (d : List Nd) (k : Int) (x : Nd) : Contract Tryd.prog fn_doc_Put [.val (docV d), .val (iv k), .val (.agg (ndV x))] { res := .tup [docV (if putE d k x = 0 then putNd d k.toNat x else []), iv (putE d k x)] } := by
  unfold docV ndV
  refine mk_doc_PutV (base := 0) ⟨Nat.le_of_ble_eq_true rfl, Nat.le_of_ble_eq_true rfl, Nat.le_of_ble_eq_true rfl, rfl⟩ (fun hfit => ?_)
  unfold F0 doc_PutV_E
  simp (config := { maxSteps := 2000000 }) only [markU, List.set_cons_succ, List.set_cons_zero, List.map_cons, List.map_nil, argCt, setCells, ioOf, List.length_cons, List.length_nil, Nat.reduceAdd, Nat.reduceSub, List.replicate, List.cons_append, List.nil_append]
  try simp (config := { maxSteps := 2000000 }) only [go_sem, reduceCtorEq, Nat.reduceAdd, Nat.reduceEqDiff, reduceIte, Nat.reduceLeDiff, Nat.reduceLT, Nat.reduceSub, ↓ o_vlp, ↓ o_vse, atV, ovRows_len, OVal.cells, layR, List.drop_succ_cons, List.drop_zero, List.take_succ_cons, List.getD_nil, frzL_p, plainL, Nat.sub_zero, List.map_nil, List.map_cons, ndsV_len, clsV_len, attV_len, intsR_len, ndV, cellsEq]
  all_goals (repeat (with_reducible refine And.intro (by (first | omega | exact inR_small (by omega) (by omega) | exact fun _ => inR_small (by omega) (by omega) | assumption | trivial | (intros; omega) | (simp_all; done) | (intros; simp [*]; done) | (simp_all; omega) | grind)) ?_))
  refine call_val (by repeat' constructor) (c_doc_there d k) ?_
  try simp (config := { maxSteps := 2000000 }) only [go_sem, reduceCtorEq, Nat.reduceAdd, Nat.reduceEqDiff, reduceIte, Nat.reduceLeDiff, Nat.reduceLT, Nat.reduceSub, ↓ o_vlp, ↓ o_vse, atV, ovRows_len, OVal.cells, layR, List.drop_succ_cons, List.drop_zero, List.take_succ_cons, List.getD_nil, frzL_p, plainL, Nat.sub_zero, List.map_nil, List.map_cons, ndsV_len, clsV_len, attV_len, intsR_len, ndV, cellsEq]
  all_goals (repeat (with_reducible refine And.intro (by (first | omega | exact inR_small (by omega) (by omega) | exact fun _ => inR_small (by omega) (by omega) | assumption | trivial | (intros; omega) | (simp_all; done) | (intros; simp [*]; done) | (simp_all; omega) | grind)) ?_))
  refine cond_of (by rfl) trivial (fun h => ?_) (fun h => ?_)
  · try simp (config := { maxSteps := 2000000 }) only [go_sem, reduceCtorEq, Nat.reduceAdd, Nat.reduceEqDiff, reduceIte, Nat.reduceLeDiff, Nat.reduceLT, Nat.reduceSub, ↓ o_vlp, ↓ o_vse, atV, ovRows_len, OVal.cells, layR, List.drop_succ_cons, List.drop_zero, List.take_succ_cons, List.getD_nil, frzL_p, plainL, Nat.sub_zero, List.map_nil, List.map_cons, ndsV_len, clsV_len, attV_len, intsR_len, ndV, cellsEq]
    all_goals (repeat (with_reducible refine And.intro (by (first | omega | exact inR_small (by omega) (by omega) | exact fun _ => inR_small (by omega) (by omega) | assumption | trivial | (intros; omega) | (simp_all; done) | (intros; simp [*]; done) | (simp_all; omega) | grind)) ?_))
    have h2 : ¬ thereE d k = 0 := by simpa using h
    have h3 : putE d k x = thereE d k := by rw [putE, if_neg h2]
    rw [h3, if_neg h2]
    exact fin_tup (by simp) ⟨rs_cellB rfl rfl (.inr rfl), rs_tmp rfl trivial (.inl rfl), rfl⟩
  have h2 : thereE d k = 0 := by simpa using h
  obtain ⟨h3, h4, h5⟩ := thereE_ok h2
  obtain ⟨h6, h7, h8⟩ := checkDoc_ok h3
  obtain ⟨m, rfl⟩ : ∃ m : Nat, k = m := ⟨k.toNat, by omega⟩
  have hm : m < d.length := by omega
  try simp (config := { maxSteps := 2000000 }) only [go_sem, reduceCtorEq, Nat.reduceAdd, Nat.reduceEqDiff, reduceIte, Nat.reduceLeDiff, Nat.reduceLT, Nat.reduceSub, ↓ o_vlp, ↓ o_vse, atV, ovRows_len, OVal.cells, layR, List.drop_succ_cons, List.drop_zero, List.take_succ_cons, List.getD_nil, frzL_p, plainL, Nat.sub_zero, List.map_nil, List.map_cons, ndsV_len, clsV_len, attV_len, intsR_len, ndV, cellsEq]
  all_goals (repeat (with_reducible refine And.intro (by (first | omega | exact inR_small (by omega) (by omega) | exact fun _ => inR_small (by omega) (by omega) | assumption | trivial | (intros; omega) | (simp_all; done) | (intros; simp [*]; done) | (simp_all; omega) | grind)) ?_))
  refine call_val (by repeat' constructor) (Contract.av (c_doc_Fine x) (by first | rfl | (simp (config := { maxSteps := 2000000 }) only [go_sem, reduceCtorEq, Nat.reduceAdd, Nat.reduceEqDiff, reduceIte, Nat.reduceLeDiff, Nat.reduceLT, Nat.reduceSub, ↓ o_vlp, ↓ o_vse, atV, ovRows_len, OVal.cells, layR, List.drop_succ_cons, List.drop_zero, List.take_succ_cons, List.getD_nil, frzL_p, plainL, Nat.sub_zero, List.map_nil, List.map_cons, ndsV_len, clsV_len, attV_len, intsR_len, ndV, cellsEq]; done) | (simp (config := { maxSteps := 2000000 }) only [go_sem, reduceCtorEq, Nat.reduceAdd, Nat.reduceEqDiff, reduceIte, Nat.reduceLeDiff, Nat.reduceLT, Nat.reduceSub, ↓ o_vlp, ↓ o_vse, atV, ovRows_len, OVal.cells, layR, List.drop_succ_cons, List.drop_zero, List.take_succ_cons, List.getD_nil, frzL_p, plainL, Nat.sub_zero, List.map_nil, List.map_cons, ndsV_len, clsV_len, attV_len, intsR_len, ndV, cellsEq]; rfl))) ?_
  try simp (config := { maxSteps := 2000000 }) only [go_sem, reduceCtorEq, Nat.reduceAdd, Nat.reduceEqDiff, reduceIte, Nat.reduceLeDiff, Nat.reduceLT, Nat.reduceSub, ↓ o_vlp, ↓ o_vse, atV, ovRows_len, OVal.cells, layR, List.drop_succ_cons, List.drop_zero, List.take_succ_cons, List.getD_nil, frzL_p, plainL, Nat.sub_zero, List.map_nil, List.map_cons, ndsV_len, clsV_len, attV_len, intsR_len, ndV, cellsEq]
  all_goals (repeat (with_reducible refine And.intro (by (first | omega | exact inR_small (by omega) (by omega) | exact fun _ => inR_small (by omega) (by omega) | assumption | trivial | (intros; omega) | (simp_all; done) | (intros; simp [*]; done) | (simp_all; omega) | grind)) ?_))
  refine cond_of (by rfl) trivial (fun h9 => ?_) (fun h9 => ?_)
  · try simp (config := { maxSteps := 2000000 }) only [go_sem, reduceCtorEq, Nat.reduceAdd, Nat.reduceEqDiff, reduceIte, Nat.reduceLeDiff, Nat.reduceLT, Nat.reduceSub, ↓ o_vlp, ↓ o_vse, atV, ovRows_len, OVal.cells, layR, List.drop_succ_cons, List.drop_zero, List.take_succ_cons, List.getD_nil, frzL_p, plainL, Nat.sub_zero, List.map_nil, List.map_cons, ndsV_len, clsV_len, attV_len, intsR_len, ndV, cellsEq]
    all_goals (repeat (with_reducible refine And.intro (by (first | omega | exact inR_small (by omega) (by omega) | exact fun _ => inR_small (by omega) (by omega) | assumption | trivial | (intros; omega) | (simp_all; done) | (intros; simp [*]; done) | (simp_all; omega) | grind)) ?_))
    have h10 : ¬ nodeFine x = true := by simpa using h9
    have h3 : putE d m x = 1 := by rw [putE, if_pos h2, if_neg h10]
    rw [h3, if_neg (by omega)]
    exact fin_tup (by simp) ⟨rs_cellB rfl rfl (.inr rfl), rs_tmp rfl trivial (.inl rfl), rfl⟩
  have h10 : nodeFine x = true := by simpa using h9
  have hr : putE d m x = 0 := by rw [putE, if_pos h2, if_pos h10]
  rw [hr, if_pos rfl]
  obtain ⟨hf1, hf2⟩ := nodeFine_len h10
  try simp (config := { maxSteps := 2000000 }) only [go_sem, reduceCtorEq, Nat.reduceAdd, Nat.reduceEqDiff, reduceIte, Nat.reduceLeDiff, Nat.reduceLT, Nat.reduceSub, ↓ o_vlp, ↓ o_vse, atV, ovRows_len, OVal.cells, layR, List.drop_succ_cons, List.drop_zero, List.take_succ_cons, List.getD_nil, frzL_p, plainL, Nat.sub_zero, List.map_nil, List.map_cons, ndsV_len, clsV_len, attV_len, intsR_len, ndV, cellsEq]
  all_goals (repeat (with_reducible refine And.intro (by (first | omega | exact inR_small (by omega) (by omega) | exact fun _ => inR_small (by omega) (by omega) | assumption | trivial | (intros; omega) | (simp_all; done) | (intros; simp [*]; done) | (simp_all; omega) | grind)) ?_))
  refine call_ov (by repeat' constructor) (Contract.av (cV_doc_own d fn_doc_Put_1 [] (fun up => up) h7 (fun x hx => (right_mem h8 h7 hx).1) (fun x hx => c_doc_Put_1 x.up)) (by first | rfl | (simp (config := { maxSteps := 2000000 }) only [go_sem, reduceCtorEq, Nat.reduceAdd, Nat.reduceEqDiff, reduceIte, Nat.reduceLeDiff, Nat.reduceLT, Nat.reduceSub, ↓ o_vlp, ↓ o_vse, atV, ovRows_len, OVal.cells, layR, List.drop_succ_cons, List.drop_zero, List.take_succ_cons, List.getD_nil, frzL_p, plainL, Nat.sub_zero, List.map_nil, List.map_cons, ndsV_len, clsV_len, attV_len, intsR_len, ndV, cellsEq]; done) | (simp (config := { maxSteps := 2000000 }) only [go_sem, reduceCtorEq, Nat.reduceAdd, Nat.reduceEqDiff, reduceIte, Nat.reduceLeDiff, Nat.reduceLT, Nat.reduceSub, ↓ o_vlp, ↓ o_vse, atV, ovRows_len, OVal.cells, layR, List.drop_succ_cons, List.drop_zero, List.take_succ_cons, List.getD_nil, frzL_p, plainL, Nat.sub_zero, List.map_nil, List.map_cons, ndsV_len, clsV_len, attV_len, intsR_len, ndV, cellsEq]; rfl))) ?_
  try simp (config := { maxSteps := 2000000 }) only [go_sem, reduceCtorEq, Nat.reduceAdd, Nat.reduceEqDiff, reduceIte, Nat.reduceLeDiff, Nat.reduceLT, Nat.reduceSub, ↓ o_vlp, ↓ o_vse, atV, ovRows_len, OVal.cells, layR, List.drop_succ_cons, List.drop_zero, List.take_succ_cons, List.getD_nil, frzL_p, plainL, Nat.sub_zero, List.map_nil, List.map_cons, ndsV_len, clsV_len, attV_len, intsR_len, ndV, cellsEq]
  all_goals (repeat (with_reducible refine And.intro (by (first | omega | exact inR_small (by omega) (by omega) | exact fun _ => inR_small (by omega) (by omega) | assumption | trivial | (intros; omega) | (simp_all; done) | (intros; simp [*]; done) | (simp_all; omega) | grind)) ?_))
  rw [map_id_turn]
  intro b
  try simp (config := { maxSteps := 2000000 }) only [go_sem, reduceCtorEq, Nat.reduceAdd, Nat.reduceEqDiff, reduceIte, Nat.reduceLeDiff, Nat.reduceLT, Nat.reduceSub, ↓ o_vlp, ↓ o_vse, atV, ovRows_len, OVal.cells, layR, List.drop_succ_cons, List.drop_zero, List.take_succ_cons, List.getD_nil, frzL_p, plainL, Nat.sub_zero, List.map_nil, List.map_cons, ndsV_len, clsV_len, attV_len, intsR_len, ndV, cellsEq, ovRows_get, ndsV_get _ _ hm]
  all_goals (repeat (with_reducible refine And.intro (by (first | omega | exact inR_small (by omega) (by omega) | exact fun _ => inR_small (by omega) (by omega) | assumption | trivial | (intros; omega) | (simp_all; done) | (intros; simp [*]; done) | (simp_all; omega) | grind)) ?_))
  refine call_own (by repeat' constructor) (c_slices_Clone_string _ (by omega)) ?_
  try simp (config := { maxSteps := 2000000 }) only [go_sem, reduceCtorEq, Nat.reduceAdd, Nat.reduceEqDiff, reduceIte, Nat.reduceLeDiff, Nat.reduceLT, Nat.reduceSub, ↓ o_vlp, ↓ o_vse, atV, ovRows_len, OVal.cells, layR, List.drop_succ_cons, List.drop_zero, List.take_succ_cons, List.getD_nil, frzL_p, plainL, Nat.sub_zero, List.map_nil, List.map_cons, ndsV_len, clsV_len, attV_len, intsR_len, ndV, cellsEq]
  all_goals (repeat (with_reducible refine And.intro (by (first | omega | exact inR_small (by omega) (by omega) | exact fun _ => inR_small (by omega) (by omega) | assumption | trivial | (intros; omega) | (simp_all; done) | (intros; simp [*]; done) | (simp_all; omega) | grind)) ?_))
  refine call_own (by repeat' constructor) (c_slices_Clone_Attr _ (by omega)) ?_
  try simp (config := { maxSteps := 2000000 }) only [go_sem, reduceCtorEq, Nat.reduceAdd, Nat.reduceEqDiff, reduceIte, Nat.reduceLeDiff, Nat.reduceLT, Nat.reduceSub, ↓ o_vlp, ↓ o_vse, atV, ovRows_len, OVal.cells, layR, List.drop_succ_cons, List.drop_zero, List.take_succ_cons, List.getD_nil, frzL_p, plainL, Nat.sub_zero, List.map_nil, List.map_cons, ndsV_len, clsV_len, attV_len, intsR_len, ndV, cellsEq]
  all_goals (repeat (with_reducible refine And.intro (by (first | omega | exact inR_small (by omega) (by omega) | exact fun _ => inR_small (by omega) (by omega) | assumption | trivial | (intros; omega) | (simp_all; done) | (intros; simp [*]; done) | (simp_all; omega) | grind)) ?_))
  try simp (config := { maxSteps := 2000000 }) only [go_sem, reduceCtorEq, Nat.reduceAdd, Nat.reduceEqDiff, reduceIte, Nat.reduceLeDiff, Nat.reduceLT, Nat.reduceSub, ↓ o_vlp, ↓ o_vse, atV, ovRows_len, OVal.cells, layR, List.drop_succ_cons, List.drop_zero, List.take_succ_cons, List.getD_nil, frzL_p, plainL, Nat.sub_zero, List.map_nil, List.map_cons, ndsV_len, clsV_len, attV_len, intsR_len, ndV, cellsEq, ovRows_get, ndsV_get _ _ hm]
  all_goals (repeat (with_reducible refine And.intro (by (first | omega | exact inR_small (by omega) (by omega) | exact fun _ => inR_small (by omega) (by omega) | assumption | trivial | (intros; omega) | (simp_all; done) | (intros; simp [*]; done) | (simp_all; omega) | grind)) ?_))
  have e : (ovRows (ndsV d)).set m [OV.p (bI (d.getD m default).up), OV.p (bS x.tag), OV.p (bS x.id), OV.p (PV.sl 1 (clsV x.cls)), OV.p (PV.sl 2 (attV x.att))] = ovRows (ndsV (putNd d m x)) := by
    simp only [ovRows, ndsV, putNd, List.map_set]
    rfl
  rw [e, frz_ovRows]
  try simp (config := { maxSteps := 2000000 }) only [go_sem, reduceCtorEq, Nat.reduceAdd, Nat.reduceEqDiff, reduceIte, Nat.reduceLeDiff, Nat.reduceLT, Nat.reduceSub, ↓ o_vlp, ↓ o_vse, atV, ovRows_len, OVal.cells, layR, List.drop_succ_cons, List.drop_zero, List.take_succ_cons, List.getD_nil, frzL_p, plainL, Nat.sub_zero, List.map_nil, List.map_cons, ndsV_len, clsV_len, attV_len, intsR_len, ndV, cellsEq]
  all_goals (repeat (with_reducible refine And.intro (by (first | omega | exact inR_small (by omega) (by omega) | exact fun _ => inR_small (by omega) (by omega) | assumption | trivial | (intros; omega) | (simp_all; done) | (intros; simp [*]; done) | (simp_all; omega) | grind)) ?_))
  exact fin_tup (by simp) ⟨rs_cellB rfl rfl (.inl rfl), rs_tmp rfl trivial (.inl rfl), rfl⟩
end Go.Hx
