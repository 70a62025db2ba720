/-
  Walks of functions of the program over an abstract layer, and the laws that they use: each contract says what the function computes, for every input that its conditions let by. No other condition.
-/
import Derived.Test.YtjnagiaooecklaaDoorG17
import Derived.Test.YtjnagiaooecklaaDoorG12
set_option linter.all false
section
-- DOM ↓ o_vlp, ↓ o_vse, atV, ovRows_len, OVal.cells, layR, List.drop_succ_cons, List.drop_zero, List.take_succ_cons, List.getD_nil, frzL_p, plainL, Nat.sub_zero, List.map_nil, List.map_cons
set_option maxRecDepth 100000
set_option linter.unusedSimpArgs false
namespace Go.Hx
open Go.Proofs
variable [Glob]

attribute [local go_sem] ndsV_len clsV_len attV_len intsR_len ndV cellsEq atV OVal.cells layR List.drop_succ_cons List.drop_zero List.take_succ_cons List.getD_nil frzL_p plainL Nat.sub_zero List.map_nil List.map_cons
attribute [local go_sem ↓] o_vlp o_vse
def ovRows (rows : List (List PV)) : List (List OV) := rows.map fun r => r.map .p
theorem ovRows_app (a b : List (List PV)) : ovRows (a ++ b) = ovRows a ++ ovRows b := by simp [ovRows]
theorem ovRows_len (a : List (List PV)) : (ovRows a).length = a.length := by simp [ovRows]

attribute [local go_sem] ovRows_len
theorem ovRows_get (rows : List (List PV)) (i : Nat) : (ovRows rows).getD i [] = (rows.getD i []).map .p := by
  simp only [ovRows, List.getD_eq_getElem?_getD, List.getElem?_map]
  cases rows[i]? <;> rfl
theorem frz_ovRows {b : Option Nat} {e k : Nat} {rows : List (List PV)} : (OV.os b e k (ovRows rows)).frz = some (.sl k rows) := frz_os (frzRows_p rows)
theorem cV_doc_own (l : List Nd) (f : Nat) (caps : List PV) (g : Int → Int) (hl : l.length ≤ 64) (hs : ∀ x ∈ l, smallNd x)
    (hg : ∀ x ∈ l, Contract Tryd.prog f ([.val (iv x.up)] ++ caps.map fun c => .val (.one c)) { res := .val (iv (g x.up)) }) :
    Contract Tryd.prog fn_doc_own [.val (.one (.sl 5 (ndsV l))), .val (.one (.clo f caps))] { res := .ov (.one (.os none ty_api_Node 5 (ovRows (ndsV (l.map (turnUp g)))))) } := by
  refine mk_doc_ownV (base := 0) ⟨Nat.le_of_ble_eq_true rfl, Nat.le_of_ble_eq_true rfl, Nat.le_of_ble_eq_true rfl, rfl⟩ (fun hfit => ?_)
  unfold F0 doc_ownV_E
  simp (config := { maxSteps := 2000000 }) only [markU, List.set_cons_succ, List.set_cons_zero, List.map_cons, List.map_nil, argCt, setCells, ioOf, List.length_cons, List.length_nil, Nat.reduceAdd, Nat.reduceSub, List.replicate, List.cons_append, List.nil_append]
  try simp (config := { maxSteps := 2000000 }) only [go_sem, reduceCtorEq, Nat.reduceAdd, Nat.reduceEqDiff, reduceIte, Nat.reduceLeDiff, Nat.reduceLT, Nat.reduceSub]
  all_goals (repeat (with_reducible refine sAnd ?_))
  refine loop_sets (fun i : Nat => [(5, .ov (.one (.os none ty_api_Node 5 (ovRows (ndsV ((l.take i).map (turnUp g))))))), (7, .un), (10, .pv (iv i)), (11, .un), (33, .un), (34, .un), (35, .un), (36, .un), (37, .un)]) (fun i : Nat => l.length - i) (fun i : Nat => i ≤ l.length) (0) ?_ (Nat.zero_le _) ?_
  focus (simp (config := { maxSteps := 2000000 }) only [go_sem, reduceCtorEq, Nat.reduceAdd, Nat.reduceEqDiff, reduceIte, Nat.reduceLeDiff, Nat.reduceLT, Nat.reduceSub, le_cons, le_nil, le_un, le_same]; all_goals (repeat' (first | exact trivial | exact le_int (by omega) | exact le_bool rfl | exact le_eq rfl | exact le_nlo | exact le_refl _ | refine And.intro ?_ ?_)))
  intro i hi
  try simp (config := { maxSteps := 2000000 }) only [go_sem, reduceCtorEq, Nat.reduceAdd, Nat.reduceEqDiff, reduceIte, Nat.reduceLeDiff, Nat.reduceLT, Nat.reduceSub]
  all_goals (repeat (with_reducible refine sAnd ?_))
  refine cond_of (by rfl) trivial (fun h => ?_) (fun h => ?_)
  · have hlt : i < l.length := by simpa using h
    have hmem := mem_getD hlt
    obtain ⟨hs1, hs2⟩ := hs _ hmem
    try simp (config := { maxSteps := 2000000 }) only [go_sem, reduceCtorEq, Nat.reduceAdd, Nat.reduceEqDiff, reduceIte, Nat.reduceLeDiff, Nat.reduceLT, Nat.reduceSub, ndsV_get _ _ hlt]
    all_goals (repeat (with_reducible refine sAnd ?_))
    refine callv_val (by rfl) trivial (by repeat' constructor) (hg _ hmem) ?_
    try simp (config := { maxSteps := 2000000 }) only [go_sem, reduceCtorEq, Nat.reduceAdd, Nat.reduceEqDiff, reduceIte, Nat.reduceLeDiff, Nat.reduceLT, Nat.reduceSub]
    all_goals (repeat (with_reducible refine sAnd ?_))
    refine call_own (by repeat' constructor) (c_slices_Clone_string _ hs1) ?_
    try simp (config := { maxSteps := 2000000 }) only [go_sem, reduceCtorEq, Nat.reduceAdd, Nat.reduceEqDiff, reduceIte, Nat.reduceLeDiff, Nat.reduceLT, Nat.reduceSub]
    all_goals (repeat (with_reducible refine sAnd ?_))
    refine call_own (by repeat' constructor) (c_slices_Clone_Attr _ hs2) ?_
    try simp (config := { maxSteps := 2000000 }) only [go_sem, reduceCtorEq, Nat.reduceAdd, Nat.reduceEqDiff, reduceIte, Nat.reduceLeDiff, Nat.reduceLT, Nat.reduceSub]
    all_goals (repeat (with_reducible refine sAnd ?_))
    try simp (config := { maxSteps := 2000000 }) only [go_sem, reduceCtorEq, Nat.reduceAdd, Nat.reduceEqDiff, reduceIte, Nat.reduceLeDiff, Nat.reduceLT, Nat.reduceSub, ovRows_len]
    all_goals (repeat (with_reducible refine sAnd ?_))
    refine ⟨i + 1, by omega, hlt, ?_⟩
    simp (config := { maxSteps := 2000000 }) only [go_sem, reduceCtorEq, Nat.reduceAdd, Nat.reduceEqDiff, reduceIte, Nat.reduceLeDiff, Nat.reduceLT, Nat.reduceSub, le_cons, le_nil, le_un, le_same]
    all_goals (repeat' (first | exact trivial | exact le_int (by omega) | exact le_bool rfl | exact le_eq rfl | exact le_nlo | exact le_refl _ | refine And.intro ?_ ?_))
    refine le_eq ?_
    rw [take_map_succ default hlt, ndsV_app, ovRows_app]
    rfl
  · try simp (config := { maxSteps := 2000000 }) only [go_sem, reduceCtorEq, Nat.reduceAdd, Nat.reduceEqDiff, reduceIte, Nat.reduceLeDiff, Nat.reduceLT, Nat.reduceSub]
    all_goals (repeat (with_reducible refine sAnd ?_))
    have : i = l.length := by simp at h; omega
    subst this
    rw [List.take_length]
    exact fin_ov rfl

def putNd (d : List Nd) (n : Nat) (x : Nd) : List Nd := d.set n { x with up := upOf d n }
def putE (d : List Nd) (k : Int) (x : Nd) : Int := if thereE d k = 0 then (if nodeFine x then 0 else 1) else thereE d k
theorem map_id_turn (d : List Nd) : d.map (turnUp fun up => up) = d := by
  have : (turnUp fun up => up) = id := by funext x; rfl
  rw [this, List.map_id]
theorem cV_doc_Put (d : List Nd) (k : Int) (x : Nd) : Contract Tryd.prog fn_doc_Put [.val (docV d), .val (iv k), .val (.agg (ndV x))] { res := .tup [docV (if putE d k x = 0 then putNd d k.toNat x else []), iv (putE d k x)] } := by
  unfold docV ndV
  refine mk_doc_PutV (base := 0) ⟨Nat.le_of_ble_eq_true rfl, Nat.le_of_ble_eq_true rfl, Nat.le_of_ble_eq_true rfl, rfl⟩ (fun hfit => ?_)
  unfold F0 doc_PutV_E
  simp (config := { maxSteps := 2000000 }) only [markU, List.set_cons_succ, List.set_cons_zero, List.map_cons, List.map_nil, argCt, setCells, ioOf, List.length_cons, List.length_nil, Nat.reduceAdd, Nat.reduceSub, List.replicate, List.cons_append, List.nil_append]
  try simp (config := { maxSteps := 2000000 }) only [go_sem, reduceCtorEq, Nat.reduceAdd, Nat.reduceEqDiff, reduceIte, Nat.reduceLeDiff, Nat.reduceLT, Nat.reduceSub]
  all_goals (repeat (with_reducible refine sAnd ?_))
  refine call_val (by repeat' constructor) (c_doc_there d k) ?_
  try simp (config := { maxSteps := 2000000 }) only [go_sem, reduceCtorEq, Nat.reduceAdd, Nat.reduceEqDiff, reduceIte, Nat.reduceLeDiff, Nat.reduceLT, Nat.reduceSub]
  all_goals (repeat (with_reducible refine sAnd ?_))
  refine cond_of (by rfl) trivial (fun h => ?_) (fun h => ?_)
  · try simp (config := { maxSteps := 2000000 }) only [go_sem, reduceCtorEq, Nat.reduceAdd, Nat.reduceEqDiff, reduceIte, Nat.reduceLeDiff, Nat.reduceLT, Nat.reduceSub]
    all_goals (repeat (with_reducible refine sAnd ?_))
    have h2 : ¬ thereE d k = 0 := by simpa using h
    have h3 : putE d k x = thereE d k := by rw [putE, if_neg h2]
    rw [h3, if_neg h2]
    exact fin_tup (by simp) ⟨rs_cellB rfl rfl (.inr rfl), rs_tmp rfl trivial (.inl rfl), rfl⟩
  have h2 : thereE d k = 0 := by simpa using h
  obtain ⟨h3, h4, h5⟩ := thereE_ok h2
  obtain ⟨h6, h7, h8⟩ := checkDoc_ok h3
  obtain ⟨m, rfl⟩ : ∃ m : Nat, k = m := ⟨k.toNat, by omega⟩
  have hm : m < d.length := by omega
  try simp (config := { maxSteps := 2000000 }) only [go_sem, reduceCtorEq, Nat.reduceAdd, Nat.reduceEqDiff, reduceIte, Nat.reduceLeDiff, Nat.reduceLT, Nat.reduceSub]
  all_goals (repeat (with_reducible refine sAnd ?_))
  refine call_val (by repeat' constructor) (Contract.av (c_doc_Fine x) (by first | rfl | (simp (config := { maxSteps := 2000000 }) only [go_sem, reduceCtorEq, Nat.reduceAdd, Nat.reduceEqDiff, reduceIte, Nat.reduceLeDiff, Nat.reduceLT, Nat.reduceSub]; done) | (simp (config := { maxSteps := 2000000 }) only [go_sem, reduceCtorEq, Nat.reduceAdd, Nat.reduceEqDiff, reduceIte, Nat.reduceLeDiff, Nat.reduceLT, Nat.reduceSub]; rfl))) ?_
  try simp (config := { maxSteps := 2000000 }) only [go_sem, reduceCtorEq, Nat.reduceAdd, Nat.reduceEqDiff, reduceIte, Nat.reduceLeDiff, Nat.reduceLT, Nat.reduceSub]
  all_goals (repeat (with_reducible refine sAnd ?_))
  refine cond_of (by rfl) trivial (fun h9 => ?_) (fun h9 => ?_)
  · try simp (config := { maxSteps := 2000000 }) only [go_sem, reduceCtorEq, Nat.reduceAdd, Nat.reduceEqDiff, reduceIte, Nat.reduceLeDiff, Nat.reduceLT, Nat.reduceSub]
    all_goals (repeat (with_reducible refine sAnd ?_))
    have h10 : ¬ nodeFine x = true := by simpa using h9
    have h3 : putE d m x = 1 := by rw [putE, if_pos h2, if_neg h10]
    rw [h3, if_neg (by omega)]
    exact fin_tup (by simp) ⟨rs_cellB rfl rfl (.inr rfl), rs_tmp rfl trivial (.inl rfl), rfl⟩
  have h10 : nodeFine x = true := by simpa using h9
  have hr : putE d m x = 0 := by rw [putE, if_pos h2, if_pos h10]
  rw [hr, if_pos rfl]
  obtain ⟨hf1, hf2⟩ := nodeFine_len h10
  try simp (config := { maxSteps := 2000000 }) only [go_sem, reduceCtorEq, Nat.reduceAdd, Nat.reduceEqDiff, reduceIte, Nat.reduceLeDiff, Nat.reduceLT, Nat.reduceSub]
  all_goals (repeat (with_reducible refine sAnd ?_))
  refine call_ov (by repeat' constructor) (Contract.av (cV_doc_own d fn_doc_Put_1 [] (fun up => up) h7 (fun x hx => (right_mem h8 h7 hx).1) (fun x hx => c_doc_Put_1 x.up)) (by first | rfl | (simp (config := { maxSteps := 2000000 }) only [go_sem, reduceCtorEq, Nat.reduceAdd, Nat.reduceEqDiff, reduceIte, Nat.reduceLeDiff, Nat.reduceLT, Nat.reduceSub]; done) | (simp (config := { maxSteps := 2000000 }) only [go_sem, reduceCtorEq, Nat.reduceAdd, Nat.reduceEqDiff, reduceIte, Nat.reduceLeDiff, Nat.reduceLT, Nat.reduceSub]; rfl))) ?_
  try simp (config := { maxSteps := 2000000 }) only [go_sem, reduceCtorEq, Nat.reduceAdd, Nat.reduceEqDiff, reduceIte, Nat.reduceLeDiff, Nat.reduceLT, Nat.reduceSub]
  all_goals (repeat (with_reducible refine sAnd ?_))
  rw [map_id_turn]
  intro b
  try simp (config := { maxSteps := 2000000 }) only [go_sem, reduceCtorEq, Nat.reduceAdd, Nat.reduceEqDiff, reduceIte, Nat.reduceLeDiff, Nat.reduceLT, Nat.reduceSub, ovRows_get, ndsV_get _ _ hm]
  all_goals (repeat (with_reducible refine sAnd ?_))
  refine call_own (by repeat' constructor) (c_slices_Clone_string _ (by omega)) ?_
  try simp (config := { maxSteps := 2000000 }) only [go_sem, reduceCtorEq, Nat.reduceAdd, Nat.reduceEqDiff, reduceIte, Nat.reduceLeDiff, Nat.reduceLT, Nat.reduceSub]
  all_goals (repeat (with_reducible refine sAnd ?_))
  refine call_own (by repeat' constructor) (c_slices_Clone_Attr _ (by omega)) ?_
  try simp (config := { maxSteps := 2000000 }) only [go_sem, reduceCtorEq, Nat.reduceAdd, Nat.reduceEqDiff, reduceIte, Nat.reduceLeDiff, Nat.reduceLT, Nat.reduceSub]
  all_goals (repeat (with_reducible refine sAnd ?_))
  try simp (config := { maxSteps := 2000000 }) only [go_sem, reduceCtorEq, Nat.reduceAdd, Nat.reduceEqDiff, reduceIte, Nat.reduceLeDiff, Nat.reduceLT, Nat.reduceSub, ovRows_get, ndsV_get _ _ hm]
  all_goals (repeat (with_reducible refine sAnd ?_))
  have e : (ovRows (ndsV d)).set m [OV.p (bI (d.getD m default).up), OV.p (bS x.tag), OV.p (bS x.id), OV.p (PV.sl 1 (clsV x.cls)), OV.p (PV.sl 2 (attV x.att))] = ovRows (ndsV (putNd d m x)) := by
    simp only [ovRows, ndsV, putNd, List.map_set]
    rfl
  rw [e, frz_ovRows]
  try simp (config := { maxSteps := 2000000 }) only [go_sem, reduceCtorEq, Nat.reduceAdd, Nat.reduceEqDiff, reduceIte, Nat.reduceLeDiff, Nat.reduceLT, Nat.reduceSub]
  all_goals (repeat (with_reducible refine sAnd ?_))
  exact fin_tup (by simp) ⟨rs_cellB rfl rfl (.inl rfl), rs_tmp rfl trivial (.inl rfl), rfl⟩
end Go.Hx
end

section
-- DOM docV, List.getElem?_cons_zero, List.getElem?_cons_succ
set_option maxRecDepth 100000
set_option linter.unusedSimpArgs false
namespace Go.Hx
open Go.Proofs
variable [Glob]

attribute [local go_sem] ndsV_len clsV_len attV_len intsR_len ndV cellsEq docV List.getElem?_cons_zero List.getElem?_cons_succ
def smallD : List Nd := [
  { up := -1, tag := [108, 105, 115, 116], id := [116, 111, 112], cls := [], att := [] },
  { up := 0, tag := [105, 116, 101, 109], id := [], cls := [[97]], att := [] },
  { up := 0, tag := [105, 116, 101, 109], id := [], cls := [[98]], att := [] },
  { up := 2, tag := [108, 105, 110, 107], id := [], cls := [], att := [([116, 111], [111, 110, 101, 32, 116, 119, 111])] },
  { up := 0, tag := [105, 116, 101, 109], id := [], cls := [[97]], att := [] }]
theorem c_law_small : Contract Tryd.prog fn_law_small [] { res := .val (docV smallD) } := by
  refine mk_law_small (base := 0) ⟨Nat.le_of_ble_eq_true rfl, Nat.le_of_ble_eq_true rfl, Nat.le_of_ble_eq_true rfl, rfl⟩ (fun hfit => ?_)
  unfold F0 law_small_E
  simp (config := { maxSteps := 2000000 }) only [markU, List.set_cons_succ, List.set_cons_zero, List.map_cons, List.map_nil, argCt, setCells, ioOf, List.length_cons, List.length_nil, Nat.reduceAdd, Nat.reduceSub, List.replicate, List.cons_append, List.nil_append]
  try simp (config := { maxSteps := 2000000 }) only [go_sem, reduceCtorEq, Nat.reduceAdd, Nat.reduceEqDiff, reduceIte, Nat.reduceLeDiff, Nat.reduceLT, Nat.reduceSub]
  all_goals (repeat (with_reducible refine sAnd ?_))
  exact fin_cellB rfl rfl rfl

def xNd : Nd := { up := 0, tag := [120], id := [], cls := [], att := [] }
theorem s_there0 : thereE smallD 0 = 0 := by kernel_rfl
theorem s_there2 : thereE smallD 2 = 0 := by kernel_rfl
theorem s_there3 : thereE smallD 3 = 0 := by kernel_rfl
theorem z2 : (2 : Int).toNat = 2 := rfl
theorem z3 : (3 : Int).toNat = 3 := rfl
theorem s_under : behind smallD 2 = 4 := by kernel_rfl
theorem s_check : checkDoc smallD = 0 := by kernel_rfl
theorem s_check0 : checkDoc [] = 2 := by kernel_rfl
theorem dec_self {α : Type} [DecidableEq α] (a : α) : decide (a = a) = true := by simp
theorem s_u : (((4 : Nat) : Int) - 2 - 1 == 1) = true := rfl
theorem s_remlen : (docRemove smallD 2).length = 3 := by kernel_rfl
theorem s_putlen : (putNd smallD 3 xNd).length = 5 := by kernel_rfl
theorem s_putat : (ndsV (putNd smallD 3 xNd)).getD (Int.toNat 3) [] = ndV { xNd with up := 2 } := by kernel_rfl
theorem s_kids : docKids smallD 0 = [1, 2, 4] := by kernel_rfl
theorem s_part : docPart smallD 2 = [
  { up := -1, tag := [105, 116, 101, 109], id := [], cls := [[98]], att := [] },
  { up := 0, tag := [108, 105, 110, 107], id := [], cls := [], att := [([116, 111], [111, 110, 101, 32, 116, 119, 111])] }] := by kernel_rfl
theorem s_rem : docRemove smallD 2 = [
  { up := -1, tag := [108, 105, 115, 116], id := [116, 111, 112], cls := [], att := [] },
  { up := 0, tag := [105, 116, 101, 109], id := [], cls := [[97]], att := [] },
  { up := 0, tag := [105, 116, 101, 109], id := [], cls := [[97]], att := [] }] := by kernel_rfl
theorem s_remE : remE smallD 2 = 0 := by kernel_rfl
theorem s_insE : insE (docRemove smallD 2) 0 1 (docPart smallD 2) = 0 := by kernel_rfl
theorem s_ins : docInsert (docRemove smallD 2) 0 1 (docPart smallD 2) = smallD := by kernel_rfl
theorem s_putE : putE smallD 3 xNd = 0 := by kernel_rfl

theorem c_law_docBegun : Contract Tryd.prog fn_law_docBegun [] { res := .val (bv true) } := by
  refine mk_law_docBegun (base := 0) ⟨Nat.le_of_ble_eq_true rfl, Nat.le_of_ble_eq_true rfl, Nat.le_of_ble_eq_true rfl, rfl⟩ (fun hfit => ?_)
  unfold F0 law_docBegun_E
  simp (config := { maxSteps := 2000000 }) only [markU, List.set_cons_succ, List.set_cons_zero, List.map_cons, List.map_nil, argCt, setCells, ioOf, List.length_cons, List.length_nil, Nat.reduceAdd, Nat.reduceSub, List.replicate, List.cons_append, List.nil_append]
  try simp (config := { maxSteps := 2000000 }) only [go_sem, reduceCtorEq, Nat.reduceAdd, Nat.reduceEqDiff, reduceIte, Nat.reduceLeDiff, Nat.reduceLT, Nat.reduceSub]
  all_goals (repeat (with_reducible refine sAnd ?_))
  refine call_val (by repeat' constructor) (c_law_small) ?_
  try simp (config := { maxSteps := 2000000 }) only [go_sem, reduceCtorEq, Nat.reduceAdd, Nat.reduceEqDiff, reduceIte, Nat.reduceLeDiff, Nat.reduceLT, Nat.reduceSub]
  all_goals (repeat (with_reducible refine sAnd ?_))
  refine call_tup (by repeat' constructor) (c_doc_Kids smallD 0) ?_
  try simp (config := { maxSteps := 2000000 }) only [go_sem, reduceCtorEq, Nat.reduceAdd, Nat.reduceEqDiff, reduceIte, Nat.reduceLeDiff, Nat.reduceLT, Nat.reduceSub, s_there0, s_kids, Int.toNat_zero]
  all_goals (repeat (with_reducible refine sAnd ?_))
  refine call_val (by repeat' constructor) (c_law_small) ?_
  try simp (config := { maxSteps := 2000000 }) only [go_sem, reduceCtorEq, Nat.reduceAdd, Nat.reduceEqDiff, reduceIte, Nat.reduceLeDiff, Nat.reduceLT, Nat.reduceSub]
  all_goals (repeat (with_reducible refine sAnd ?_))
  refine call_tup (by repeat' constructor) (c_doc_Under smallD 2) ?_
  try simp (config := { maxSteps := 2000000 }) only [go_sem, reduceCtorEq, Nat.reduceAdd, Nat.reduceEqDiff, reduceIte, Nat.reduceLeDiff, Nat.reduceLT, Nat.reduceSub, s_there2, s_under, z2]
  all_goals (repeat (with_reducible refine sAnd ?_))
  refine call_val (by repeat' constructor) (c_law_small) ?_
  try simp (config := { maxSteps := 2000000 }) only [go_sem, reduceCtorEq, Nat.reduceAdd, Nat.reduceEqDiff, reduceIte, Nat.reduceLeDiff, Nat.reduceLT, Nat.reduceSub]
  all_goals (repeat (with_reducible refine sAnd ?_))
  refine call_tup (by repeat' constructor) (c_doc_Part smallD 2) ?_
  try simp (config := { maxSteps := 2000000 }) only [go_sem, reduceCtorEq, Nat.reduceAdd, Nat.reduceEqDiff, reduceIte, Nat.reduceLeDiff, Nat.reduceLT, Nat.reduceSub, s_there2, z2]
  all_goals (repeat (with_reducible refine sAnd ?_))
  refine call_val (by repeat' constructor) (c_law_small) ?_
  try simp (config := { maxSteps := 2000000 }) only [go_sem, reduceCtorEq, Nat.reduceAdd, Nat.reduceEqDiff, reduceIte, Nat.reduceLeDiff, Nat.reduceLT, Nat.reduceSub]
  all_goals (repeat (with_reducible refine sAnd ?_))
  refine call_tup (by repeat' constructor) (c_doc_Remove smallD 2) ?_
  try simp (config := { maxSteps := 2000000 }) only [go_sem, reduceCtorEq, Nat.reduceAdd, Nat.reduceEqDiff, reduceIte, Nat.reduceLeDiff, Nat.reduceLT, Nat.reduceSub, s_remE, z2]
  all_goals (repeat (with_reducible refine sAnd ?_))
  refine call_tup (by repeat' constructor) (c_doc_Insert (docRemove smallD 2) 0 1 (docPart smallD 2)) ?_
  try simp (config := { maxSteps := 2000000 }) only [go_sem, reduceCtorEq, Nat.reduceAdd, Nat.reduceEqDiff, reduceIte, Nat.reduceLeDiff, Nat.reduceLT, Nat.reduceSub, s_insE, s_ins]
  all_goals (repeat (with_reducible refine sAnd ?_))
  refine call_val (by repeat' constructor) (c_law_small) ?_
  try simp (config := { maxSteps := 2000000 }) only [go_sem, reduceCtorEq, Nat.reduceAdd, Nat.reduceEqDiff, reduceIte, Nat.reduceLeDiff, Nat.reduceLT, Nat.reduceSub]
  all_goals (repeat (with_reducible refine sAnd ?_))
  refine call_tup (by repeat' constructor) (cV_doc_Put smallD 3 xNd) ?_
  try simp (config := { maxSteps := 2000000 }) only [go_sem, reduceCtorEq, Nat.reduceAdd, Nat.reduceEqDiff, reduceIte, Nat.reduceLeDiff, Nat.reduceLT, Nat.reduceSub, s_putE, z3]
  all_goals (repeat (with_reducible refine sAnd ?_))
  refine call_val (by repeat' constructor) (c_law_small) ?_
  try simp (config := { maxSteps := 2000000 }) only [go_sem, reduceCtorEq, Nat.reduceAdd, Nat.reduceEqDiff, reduceIte, Nat.reduceLeDiff, Nat.reduceLT, Nat.reduceSub]
  all_goals (repeat (with_reducible refine sAnd ?_))
  refine call_val (by repeat' constructor) (c_doc_Check smallD) ?_
  try simp (config := { maxSteps := 2000000 }) only [go_sem, reduceCtorEq, Nat.reduceAdd, Nat.reduceEqDiff, reduceIte, Nat.reduceLeDiff, Nat.reduceLT, Nat.reduceSub, s_check, beq_self_eq_true]
  all_goals (repeat (with_reducible refine sAnd ?_))
  apply call_guard (h2 := fun _ => c_doc_Check [])
  · (simp (config := { maxSteps := 2000000 }) only [go_sem, reduceCtorEq, Nat.reduceAdd, Nat.reduceEqDiff, reduceIte, Nat.reduceLeDiff, Nat.reduceLT, Nat.reduceSub]; rfl)
  · intro h; repeat' (first | exact trivial | exact h | refine And.intro ?_ ?_)
  try simp (config := { maxSteps := 2000000 }) only [go_sem, reduceCtorEq, Nat.reduceAdd, Nat.reduceEqDiff, reduceIte, Nat.reduceLeDiff, Nat.reduceLT, Nat.reduceSub, s_check0, beq_self_eq_true, cond_true]
  all_goals (repeat (with_reducible refine sAnd ?_))
  apply call_guard (h2 := fun _ => c_ref_SameInts [1, 2, 4] [1, 2, 4])
  · (simp (config := { maxSteps := 2000000 }) only [go_sem, reduceCtorEq, Nat.reduceAdd, Nat.reduceEqDiff, reduceIte, Nat.reduceLeDiff, Nat.reduceLT, Nat.reduceSub]; rfl)
  · intro h; repeat' (first | exact trivial | exact h | refine And.intro ?_ ?_)
  try simp (config := { maxSteps := 2000000 }) only [go_sem, reduceCtorEq, Nat.reduceAdd, Nat.reduceEqDiff, reduceIte, Nat.reduceLeDiff, Nat.reduceLT, Nat.reduceSub, dec_self, beq_self_eq_true, cond_true, s_u, s_remlen]
  all_goals (repeat (with_reducible refine sAnd ?_))
  apply call_guard (h2 := fun _ => c_law_small)
  · (simp (config := { maxSteps := 2000000 }) only [go_sem, reduceCtorEq, Nat.reduceAdd, Nat.reduceEqDiff, reduceIte, Nat.reduceLeDiff, Nat.reduceLT, Nat.reduceSub]; rfl)
  · intro h; repeat' (first | exact trivial | exact h | refine And.intro ?_ ?_)
  try simp (config := { maxSteps := 2000000 }) only [go_sem, reduceCtorEq, Nat.reduceAdd, Nat.reduceEqDiff, reduceIte, Nat.reduceLeDiff, Nat.reduceLT, Nat.reduceSub]
  all_goals (repeat (with_reducible refine sAnd ?_))
  apply call_guard (h2 := fun _ => c_ref_SameDocs smallD smallD)
  · (simp (config := { maxSteps := 2000000 }) only [go_sem, reduceCtorEq, Nat.reduceAdd, Nat.reduceEqDiff, reduceIte, Nat.reduceLeDiff, Nat.reduceLT, Nat.reduceSub]; rfl)
  · intro h; repeat' (first | exact trivial | exact h | refine And.intro ?_ ?_)
  try simp (config := { maxSteps := 2000000 }) only [go_sem, reduceCtorEq, Nat.reduceAdd, Nat.reduceEqDiff, reduceIte, Nat.reduceLeDiff, Nat.reduceLT, Nat.reduceSub, dec_self, beq_self_eq_true, cond_true, s_putlen, s_putat]
  all_goals (repeat (with_reducible refine sAnd ?_))
  refine fin_val rfl trivial (.inl ?_)
  simp [xNd]
end Go.Hx
end

section
/-
  Right documents: what lies under an element are the elements right behind it; its kids; its part. Plain Lean, no program in sight. No condition.
-/
namespace Go.Hx
variable [Glob]

/-- Element k and what is above it. -/
def C (d : List Nd) (k : Int) : List Int := chain d d.length k

section
variable {d : List Nd} (hd : docOk d d.length = true)
include hd

theorem C_neg {k : Int} (h : k < 0) : C d k = [] := by
  unfold C
  cases d.length <;> simp [chain, h]

theorem C_step {k : Nat} (hk : k < d.length) : C d k = (k : Int) :: C d (upOf d k) := by
  unfold C
  have hu := docOk_up hd k hk
  obtain ⟨f, hf⟩ : ∃ f, d.length = f + 1 := ⟨d.length - 1, by omega⟩
  rw [hf]
  have e := chain_fuel (d := d) f (f + 1) (upOf d k) (fun j hj => (docOk_up hd j (by omega)).2) (by omega) (by omega)
  rw [← e]
  simp only [chain, Int.toNat_natCast]
  rw [if_neg (by omega)]

theorem C_le {k : Int} (hk : k < d.length) {x : Int} (hx : x ∈ C d k) : 0 ≤ x ∧ x ≤ k :=
  chain_bound d.length k (fun j hj => (docOk_up hd j (by omega)).2) x hx

theorem C_ind {p : Nat → Prop} (h : ∀ k, k < d.length → (∀ j : Nat, upOf d k = (j : Int) → j < k → p j) → p k) : ∀ k, k < d.length → p k := by
  intro k
  induction k using Nat.strongRecOn with
  | ind k ih => intro hk; exact h k hk fun j _ hj => ih j hj (by omega)

theorem up_cases {k : Nat} (hk : k < d.length) : upOf d k < 0 ∨ ∃ j : Nat, upOf d k = j ∧ j < k := by
  have := docOk_up hd k hk
  by_cases h : upOf d k < 0
  · exact .inl h
  · exact .inr ⟨(upOf d k).toNat, by omega, by omega⟩

theorem C_sub : ∀ k, k < d.length → ∀ {u x : Int}, u ∈ C d k → x ∈ C d u → x ∈ C d k := by
  refine C_ind hd fun k hk ih u x hu hx => ?_
  rw [C_step hd hk] at hu ⊢
  rcases List.mem_cons.1 hu with rfl | hu
  · rw [C_step hd hk] at hx; exact hx
  · refine List.mem_cons_of_mem _ ?_
    rcases up_cases hd hk with h | ⟨j, h, hj⟩
    · rw [C_neg hd h] at hu; cases hu
    · rw [h] at hu ⊢
      exact ih j h hj hu hx

/-- Of two above the same, the higher one is above the other's up. -/
theorem C_two : ∀ k, k < d.length → ∀ {i : Nat} {x : Int}, (i : Int) ∈ C d k → x ∈ C d k → x < i → x ∈ C d (upOf d i) := by
  refine C_ind hd fun k hk ih i x hi hx hlt => ?_
  have hb := C_le hd (by omega) hi
  rw [C_step hd hk] at hi hx
  rcases List.mem_cons.1 hi with e | hi
  · have e : i = k := by omega
    subst e
    exact (List.mem_cons.1 hx).resolve_left (by omega)
  · have hx := (List.mem_cons.1 hx).resolve_left (by omega)
    rcases up_cases hd hk with h | ⟨j, h, hj⟩
    · rw [C_neg hd h] at hi; cases hi
    · rw [h] at hi hx
      exact ih j h hj hi hx hlt

theorem up_mem {k : Nat} (hk : k + 1 < d.length) : upOf d (k + 1) ∈ C d k := by
  have h := range_all_get hd hk
  simp only [okAt, okUp, Bool.and_eq_true] at h
  have h2 := h.2
  rw [if_neg (by omega)] at h2
  have h3 : upOf d (k + 1) ∈ chain d (k + 1) (((k + 1 : Nat) : Int) - 1) := by simpa using h2
  rw [show (((k + 1 : Nat) : Int) - 1) = k by omega] at h3
  unfold C
  rw [chain_fuel d.length (k + 1) k (fun j hj => (docOk_up hd j (by omega)).2) (by omega) (by omega)]
  exact h3

omit hd in
theorem behF_spec {n : Nat} : ∀ (f e : Nat), e + f = d.length → (∀ k, e ≤ k → k < behF d n f e → (n : Int) ≤ upOf d k) ∧ (behF d n f e < d.length → upOf d (behF d n f e) < n)
  | 0, e, h => ⟨fun k h1 h2 => by simp [behF] at h2; omega, fun h2 => by simp [behF] at h2; omega⟩
  | f + 1, e, h => by
    simp only [behF]
    split
    · rename_i h1
      have ih := behF_spec (n := n) f (e + 1) (by omega)
      refine ⟨fun k h2 h3 => ?_, ih.2⟩
      by_cases e1 : k = e
      · subst e1; exact h1
      · exact ih.1 k (by omega) h3
    · rename_i h1
      exact ⟨fun k h2 h3 => by omega, fun _ => by omega⟩
omit hd in
theorem behind_in {n : Nat} (hn : n < d.length) {k : Nat} (h1 : n < k) (h2 : k < behind d n) : (n : Int) ≤ upOf d k :=
  (behF_spec (d.length - (n + 1)) (n + 1) (by omega)).1 k h1 h2
omit hd in
theorem behind_out {n : Nat} (hn : n < d.length) (h : behind d n < d.length) : upOf d (behind d n) < n :=
  (behF_spec (d.length - (n + 1)) (n + 1) (by omega)).2 h

theorem under_in {n : Nat} (hn : n < d.length) : ∀ k, k < d.length → n < k → k < behind d n → (n : Int) ∈ C d (upOf d k) := by
  refine C_ind hd fun k hk ih h1 h2 => ?_
  have h3 := behind_in hn h1 h2
  have hb := behind_le hn
  rcases up_cases hd hk with h | ⟨j, h, hj⟩
  · omega
  · rw [h] at h3 ⊢
    rw [C_step hd (by omega)]
    by_cases e : n = j
    · subst e; exact List.mem_cons_self
    · exact List.mem_cons_of_mem _ (ih j h hj (by omega) (by omega))

theorem under_out {n : Nat} (hn : n < d.length) : ∀ k, k < d.length → behind d n ≤ k → (n : Int) ∉ C d k := by
  have hb := behind_le hn
  intro k
  induction k with
  | zero => intro hk h1; omega
  | succ k ih =>
    intro hk h1 hx
    rw [C_step hd hk] at hx
    rcases List.mem_cons.1 hx with e | hx
    · omega
    · by_cases e : behind d n = k + 1
      · have := behind_out hn (by omega)
        rw [e] at this
        have := C_le hd (by omega) hx
        omega
      · exact ih (by omega) (by omega) (C_sub hd k (by omega) (up_mem hd hk) hx)
theorem under_out' {n : Nat} (hn : n < d.length) {k : Nat} (hk : k < d.length) (h : behind d n ≤ k) : (n : Int) ∉ C d (upOf d k) := by
  intro hx
  exact under_out hd hn k hk h (by rw [C_step hd hk]; exact List.mem_cons_of_mem _ hx)
theorem under_self {n : Nat} {k : Nat} (hk : k < d.length) (h : k ≤ n) : (n : Int) ∉ C d (upOf d k) := by
  intro hx
  have := docOk_up hd k hk
  have := C_le hd (by omega) hx
  omega

theorem under_eq {n : Nat} (hn : n < d.length) : ∀ k, k ≤ d.length → underTo d n k = if k ≤ n + 1 then 0 else if k ≤ behind d n then (k : Int) - n - 1 else (behind d n : Int) - n - 1 := by
  have hb := behind_le hn
  intro k
  induction k with
  | zero => intro _; simp [underTo]
  | succ k ih =>
    intro hk
    rw [underTo_succ, ih (by omega)]
    by_cases h1 : k ≤ n
    · have := under_self hd (n := n) (k := k) (by omega) h1
      unfold C at this
      simp [this]; omega
    · by_cases h2 : k < behind d n
      · have := under_in hd hn k (by omega) (by omega) h2
        unfold C at this
        simp [this]
        split <;> split <;> omega
      · have := under_out' hd hn (k := k) (by omega) (by omega)
        unfold C at this
        simp [this]
        split <;> split <;> omega
theorem underOf_eq {n : Nat} (hn : n < d.length) : underOf d n = (behind d n : Int) - n - 1 := by
  have hb := behind_le hn
  rw [underOf, under_eq hd hn _ (Nat.le_refl _)]
  split
  · omega
  · split <;> omega

omit hd in
theorem kidsTo_skip {n : Int} {a : Nat} : ∀ {b : Nat}, a ≤ b → (∀ j, a ≤ j → j < b → upOf d j ≠ n) → kidsTo d n b = kidsTo d n a
  | 0, h, _ => by rw [show a = 0 by omega]
  | b + 1, h, hs => by
    by_cases e : a = b + 1
    · rw [e]
    · rw [kidsTo_succ, if_neg (hs b (by omega) (by omega)), kidsTo_skip (by omega) fun j h1 h2 => hs j h1 (by omega)]

omit hd in
theorem behind_mono {n i : Nat} (hn : n < d.length) (h1 : n < i) (h2 : i < behind d n) : behind d i ≤ behind d n := by
  have hb := behind_le hn
  have hi : i < d.length := by omega
  apply Classical.byContradiction
  intro h3
  have hb2 := behind_le hi
  have h4 := behind_in hi (k := behind d n) (by omega) (by omega)
  have h5 := behind_out hn (by omega)
  omega

theorem next_kid {n i : Nat} (hn : n < d.length) (h1 : n < i) (h2 : i < behind d n) (h3 : upOf d i = n) (h4 : behind d i < behind d n) : upOf d (behind d i) = n := by
  have hb := behind_le hn
  have hi : i < d.length := by omega
  have hbi := behind_le hi
  have h5 := behind_in hn (k := behind d i) (by omega) h4
  have h6 := behind_out hi (by omega)
  obtain ⟨p, hp⟩ : ∃ p, behind d i = p + 1 := ⟨behind d i - 1, by omega⟩
  have h7 := up_mem hd (k := p) (by omega)
  rw [← hp] at h7
  have h8 : (i : Int) ∈ C d p := by
    rw [C_step hd (by omega)]
    by_cases e : i = p
    · subst e; exact List.mem_cons_self
    · exact List.mem_cons_of_mem _ (under_in hd hi p (by omega) (by omega) (by omega))
  have h9 := C_two hd p (by omega) h8 h7 h6
  rw [h3] at h9
  have := C_le hd (by omega) h9
  omega

theorem first_kid {n : Nat} (hn : n < d.length) (h : n + 1 < behind d n) : upOf d (n + 1) = n := by
  have hb := behind_le hn
  have h1 := behind_in hn (k := n + 1) (by omega) h
  have h2 := docOk_up hd (n + 1) (by omega)
  omega

theorem kidsF_eq {n : Nat} (hn : n < d.length) : ∀ (f i : Nat), n < i → i ≤ behind d n → (i < behind d n → upOf d i = n) → d.length ≤ i + f → kidsTo d n i ++ kidsF d n f i = kidsOf d n := by
  have hb := behind_le hn
  have hlast : kidsTo d n (behind d n) = kidsOf d n := by
    refine (kidsTo_skip hb.2 fun j h1 h2 e => ?_).symm
    have := under_out' hd hn h2 h1
    rw [e, C_step hd hn] at this
    exact this List.mem_cons_self
  intro f
  induction f with
  | zero =>
    intro i h1 h2 h3 h4
    have : i = behind d n := by omega
    subst this
    simp [kidsF, hlast]
  | succ f ih =>
    intro i h1 h2 h3 h4
    simp only [kidsF]
    split
    · rename_i h5
      have hi : i < d.length := by omega
      have hbi := behind_le hi
      have h6 := ih (behind d i) (by omega) (behind_mono hn h1 h5) (next_kid hd hn h1 h5 (h3 h5)) (by omega)
      have h7 : kidsTo d n (behind d i) = kidsTo d n (i + 1) := kidsTo_skip hbi.1 fun j h7 h8 => by
        have := behind_in hi (k := j) (by omega) h8
        omega
      rw [← h6, h7, kidsTo_succ, if_pos (h3 h5)]
      simp
    · have : i = behind d n := by omega
      subst this
      simp [hlast]
theorem docKids_eq {n : Nat} (hn : n < d.length) : docKids d n = kidsOf d n := by
  have hb := behind_le hn
  have h := kidsF_eq hd hn d.length (n + 1) (by omega) (by omega) (first_kid hd hn) (by omega)
  rw [kidsTo_skip (Nat.zero_le _) fun j _ h2 => by have := docOk_up hd j (by omega); omega] at h
  rw [docKids, ← h]; simp [kidsTo]

/-- Elements a up to b, moved by off. -/
def seg (d : List Nd) (off : Int) (a b : Nat) : List Nd := (List.range' a (b - a)).map fun j => { d.getD j default with up := upOf d j + off }
omit hd in
theorem seg_len (off : Int) (a b : Nat) : (seg d off a b).length = b - a := by simp [seg]
omit hd in
theorem seg_app (off : Int) {a b c : Nat} (h1 : a ≤ b) (h2 : b ≤ c) : seg d off a b ++ seg d off b c = seg d off a c := by
  unfold seg
  rw [← List.map_append]
  congr 1
  have := List.range'_append (s := a) (m := b - a) (n := c - b) (step := 1)
  rw [show a + 1 * (b - a) = b by omega, show b - a + (c - b) = c - a by omega] at this
  exact this
omit hd in
theorem seg_cons (off : Int) {a b : Nat} (h : a < b) : seg d off a b = { d.getD a default with up := upOf d a + off } :: seg d off (a + 1) b := by
  unfold seg
  rw [show b - a = (b - (a + 1)) + 1 by omega, List.range'_succ]
  rfl
omit hd in
theorem seg_nil (off : Int) (a : Nat) : seg d off a a = [] := by simp [seg]

theorem lay_kids {n : Nat} (hn : n < d.length) (f : Nat) (off : Int) (ih : ∀ i, n < i → i < d.length → ∀ (l : List Nd) (u : Int), (l.length : Int) = i + off → layT (treeF d f i) l u = l ++ { d.getD i default with up := u } :: seg d off (i + 1) (behind d i)) :
    ∀ (g i : Nat), n < i → i ≤ behind d n → (i < behind d n → upOf d i = n) → d.length ≤ i + g → ∀ l : List Nd, (l.length : Int) = i + off → layTs ((kidsF d n g i).map fun k => treeF d f k.toNat) l (n + off) = l ++ seg d off i (behind d n) := by
  have hb := behind_le hn
  intro g
  induction g with
  | zero =>
    intro i h1 h2 h3 h4 l hl
    have : i = behind d n := by omega
    subst this
    simp [kidsF, layTs, seg_nil]
  | succ g ihg =>
    intro i h1 h2 h3 h4 l hl
    simp only [kidsF]
    split
    · rename_i h5
      have hi : i < d.length := by omega
      have hbi := behind_le hi
      have hm := behind_mono hn h1 h5
      simp only [List.map_cons, layTs, Int.toNat_natCast]
      rw [ih i h1 hi l _ hl]
      have e : l ++ { d.getD i default with up := (n : Int) + off } :: seg d off (i + 1) (behind d i) = l ++ seg d off i (behind d i) := by
        rw [seg_cons off hbi.1, h3 h5]
      rw [e, ihg (behind d i) (by omega) hm (next_kid hd hn h1 h5 (h3 h5)) (by omega) _ (by rw [List.length_append, seg_len]; omega), List.append_assoc, seg_app off (by omega) hm]
    · have : i = behind d n := by omega
      subst this
      simp [layTs, seg_nil]

theorem lay_tree (off : Int) : ∀ (f n : Nat), n < d.length → d.length ≤ n + f → ∀ (l : List Nd) (u : Int), (l.length : Int) = n + off → layT (treeF d f n) l u = l ++ { d.getD n default with up := u } :: seg d off (n + 1) (behind d n)
  | 0, n, hn, h, l, u, hl => by omega
  | f + 1, n, hn, h, l, u, hl => by
    have hb := behind_le hn
    simp only [treeF, layT]
    rw [← docKids_eq hd hn, hl]
    rw [docKids, lay_kids hd hn f off (fun i h1 h2 l u hl => lay_tree off f i h2 (by omega) l u hl) d.length (n + 1) (by omega) (by omega) (first_kid hd hn) (by omega) _ (by simp; omega)]
    simp

theorem treeF_sz {n : Nat} (hn : n < d.length) : szT (treeF d d.length n) = behind d n - n := by
  have hb := behind_le hn
  have h1 := layT_len (treeF d d.length n) (List.replicate n default) 0
  rw [lay_tree hd 0 d.length n hn (by omega) (List.replicate n default) 0 (by simp)] at h1
  simp [seg_len] at h1
  omega

omit hd in
theorem cut_eq {a b : Nat} (h : a ≤ b) (hb : b ≤ d.length) : (d.take b).drop a = (List.range' a (b - a)).map fun j => d.getD j default := by
  apply List.ext_getElem
  · simp; omega
  · intro i h1 h2
    simp at h1 h2
    simp [show a + i < d.length by omega]

theorem docPart_eq {n : Nat} (hn : n < d.length) : docPart d n = partF d n := by
  have hb := behind_le hn
  rw [partF, lay_tree hd (-(n : Int)) d.length n hn (by omega) [] (-1) (by simp; omega), docPart, cut_eq (by omega) hb.2, List.nil_append]
  rw [show behind d n - n = (behind d n - (n + 1)) + 1 by omega, List.range'_succ, List.map_cons, List.map_cons, List.map_map]
  congr 1
  · have := docOk_up hd n hn
    simp only [turnUp]
    congr 1
    simp only [upOf] at this
    omega
  · unfold seg
    apply List.map_congr_left
    intro j hj
    rw [List.mem_range'_1] at hj
    have := behind_in hn (k := j) (by omega) (by omega)
    simp only [Function.comp, turnUp]
    congr 1
    simp only [upOf] at this ⊢
    omega
end
end Go.Hx
end

section
-- DOM docV
set_option maxRecDepth 100000
set_option linter.unusedSimpArgs false
namespace Go.Hx
open Go.Proofs
variable [Glob]

attribute [local go_sem] ndsV_len clsV_len attV_len intsR_len ndV cellsEq docV
theorem dec_eq {α : Type} [DecidableEq α] {a b : α} (h : a = b) : decide (a = b) = true := by simp [h]
theorem c_law_DocTells (d : List Nd) (k : Int) : Contract Tryd.prog fn_law_DocTells [.val (docV d), .val (iv k)] { res := .val (bv true) } := by
  refine mk_law_DocTells (base := 0) ⟨Nat.le_of_ble_eq_true rfl, Nat.le_of_ble_eq_true rfl, Nat.le_of_ble_eq_true rfl, rfl⟩ (fun hfit => ?_)
  unfold F0 law_DocTells_E
  simp (config := { maxSteps := 2000000 }) only [markU, List.set_cons_succ, List.set_cons_zero, List.map_cons, List.map_nil, argCt, setCells, ioOf, List.length_cons, List.length_nil, Nat.reduceAdd, Nat.reduceSub, List.replicate, List.cons_append, List.nil_append]
  try simp (config := { maxSteps := 2000000 }) only [go_sem, reduceCtorEq, Nat.reduceAdd, Nat.reduceEqDiff, reduceIte, Nat.reduceLeDiff, Nat.reduceLT, Nat.reduceSub]
  all_goals (repeat (with_reducible refine sAnd ?_))
  refine call_tup (by repeat' constructor) (c_doc_Kids d k) ?_
  try simp (config := { maxSteps := 2000000 }) only [go_sem, reduceCtorEq, Nat.reduceAdd, Nat.reduceEqDiff, reduceIte, Nat.reduceLeDiff, Nat.reduceLT, Nat.reduceSub]
  all_goals (repeat (with_reducible refine sAnd ?_))
  refine call_tup (by repeat' constructor) (c_doc_Under d k) ?_
  try simp (config := { maxSteps := 2000000 }) only [go_sem, reduceCtorEq, Nat.reduceAdd, Nat.reduceEqDiff, reduceIte, Nat.reduceLeDiff, Nat.reduceLT, Nat.reduceSub]
  all_goals (repeat (with_reducible refine sAnd ?_))
  refine call_tup (by repeat' constructor) (c_doc_Part d k) ?_
  try simp (config := { maxSteps := 2000000 }) only [go_sem, reduceCtorEq, Nat.reduceAdd, Nat.reduceEqDiff, reduceIte, Nat.reduceLeDiff, Nat.reduceLT, Nat.reduceSub]
  all_goals (repeat (with_reducible refine sAnd ?_))
  refine call_val (by repeat' constructor) (Contract.av (c_ref_There d k) (by first | rfl | (simp (config := { maxSteps := 2000000 }) only [go_sem, reduceCtorEq, Nat.reduceAdd, Nat.reduceEqDiff, reduceIte, Nat.reduceLeDiff, Nat.reduceLT, Nat.reduceSub]; done) | (simp (config := { maxSteps := 2000000 }) only [go_sem, reduceCtorEq, Nat.reduceAdd, Nat.reduceEqDiff, reduceIte, Nat.reduceLeDiff, Nat.reduceLT, Nat.reduceSub]; rfl))) ?_
  try simp (config := { maxSteps := 2000000 }) only [go_sem, reduceCtorEq, Nat.reduceAdd, Nat.reduceEqDiff, reduceIte, Nat.reduceLeDiff, Nat.reduceLT, Nat.reduceSub]
  all_goals (repeat (with_reducible refine sAnd ?_))
  refine cond_of (by rfl) trivial (fun h => ?_) (fun h => ?_)
  · have h2 : thereE d k = 0 := by simpa using h
    obtain ⟨h3, h4, h5⟩ := thereE_ok h2
    obtain ⟨h6, h7, h8⟩ := checkDoc_ok h3
    obtain ⟨m, rfl⟩ : ∃ m : Nat, k = m := ⟨k.toNat, by omega⟩
    have hm : m < d.length := by omega
    have hb := behind_le hm
    rw [h2, if_pos rfl, if_pos rfl, if_pos rfl, Int.toNat_natCast, docKids_eq h8 hm, ← underOf_eq h8 hm, docPart_eq h8 hm]
    try simp (config := { maxSteps := 2000000 }) only [go_sem, reduceCtorEq, Nat.reduceAdd, Nat.reduceEqDiff, reduceIte, Nat.reduceLeDiff, Nat.reduceLT, Nat.reduceSub]
    all_goals (repeat (with_reducible refine sAnd ?_))
    refine call_own (by repeat' constructor) (Contract.av (c_ref_KidsOf d m h7) (by first | rfl | (simp (config := { maxSteps := 2000000 }) only [go_sem, reduceCtorEq, Nat.reduceAdd, Nat.reduceEqDiff, reduceIte, Nat.reduceLeDiff, Nat.reduceLT, Nat.reduceSub]; done) | (simp (config := { maxSteps := 2000000 }) only [go_sem, reduceCtorEq, Nat.reduceAdd, Nat.reduceEqDiff, reduceIte, Nat.reduceLeDiff, Nat.reduceLT, Nat.reduceSub]; rfl))) ?_
    try simp (config := { maxSteps := 2000000 }) only [go_sem, reduceCtorEq, Nat.reduceAdd, Nat.reduceEqDiff, reduceIte, Nat.reduceLeDiff, Nat.reduceLT, Nat.reduceSub]
    all_goals (repeat (with_reducible refine sAnd ?_))
    refine call_val (by repeat' constructor) (Contract.av (c_ref_UnderOf d m h8) (by first | rfl | (simp (config := { maxSteps := 2000000 }) only [go_sem, reduceCtorEq, Nat.reduceAdd, Nat.reduceEqDiff, reduceIte, Nat.reduceLeDiff, Nat.reduceLT, Nat.reduceSub]; done) | (simp (config := { maxSteps := 2000000 }) only [go_sem, reduceCtorEq, Nat.reduceAdd, Nat.reduceEqDiff, reduceIte, Nat.reduceLeDiff, Nat.reduceLT, Nat.reduceSub]; rfl))) ?_
    try simp (config := { maxSteps := 2000000 }) only [go_sem, reduceCtorEq, Nat.reduceAdd, Nat.reduceEqDiff, reduceIte, Nat.reduceLeDiff, Nat.reduceLT, Nat.reduceSub]
    all_goals (repeat (with_reducible refine sAnd ?_))
    refine call_val (by repeat' constructor) (Contract.av (c_ref_PartOf d h8 h7 m hm (by rw [treeF_sz h8 hm]; omega)) (by first | rfl | (simp (config := { maxSteps := 2000000 }) only [go_sem, reduceCtorEq, Nat.reduceAdd, Nat.reduceEqDiff, reduceIte, Nat.reduceLeDiff, Nat.reduceLT, Nat.reduceSub]; done) | (simp (config := { maxSteps := 2000000 }) only [go_sem, reduceCtorEq, Nat.reduceAdd, Nat.reduceEqDiff, reduceIte, Nat.reduceLeDiff, Nat.reduceLT, Nat.reduceSub]; rfl))) ?_
    try simp (config := { maxSteps := 2000000 }) only [go_sem, reduceCtorEq, Nat.reduceAdd, Nat.reduceEqDiff, reduceIte, Nat.reduceLeDiff, Nat.reduceLT, Nat.reduceSub]
    all_goals (repeat (with_reducible refine sAnd ?_))
    refine call_val (by repeat' constructor) (c_law_docBegun) ?_
    try simp (config := { maxSteps := 2000000 }) only [go_sem, reduceCtorEq, Nat.reduceAdd, Nat.reduceEqDiff, reduceIte, Nat.reduceLeDiff, Nat.reduceLT, Nat.reduceSub]
    all_goals (repeat (with_reducible refine sAnd ?_))
    apply call_guard (h2 := fun _ => c_doc_Check d)
    · (simp (config := { maxSteps := 2000000 }) only [go_sem, reduceCtorEq, Nat.reduceAdd, Nat.reduceEqDiff, reduceIte, Nat.reduceLeDiff, Nat.reduceLT, Nat.reduceSub]; rfl)
    · intro h; repeat' (first | exact trivial | exact h | refine And.intro ?_ ?_)
    try simp (config := { maxSteps := 2000000 }) only [go_sem, reduceCtorEq, Nat.reduceAdd, Nat.reduceEqDiff, reduceIte, Nat.reduceLeDiff, Nat.reduceLT, Nat.reduceSub]
    all_goals (repeat (with_reducible refine sAnd ?_))
    apply call_guard (h2 := fun _ => c_ref_CheckDoc d)
    · (simp (config := { maxSteps := 2000000 }) only [go_sem, reduceCtorEq, Nat.reduceAdd, Nat.reduceEqDiff, reduceIte, Nat.reduceLeDiff, Nat.reduceLT, Nat.reduceSub]; rfl)
    · intro h; repeat' (first | exact trivial | exact h | refine And.intro ?_ ?_)
    try simp (config := { maxSteps := 2000000 }) only [go_sem, reduceCtorEq, Nat.reduceAdd, Nat.reduceEqDiff, reduceIte, Nat.reduceLeDiff, Nat.reduceLT, Nat.reduceSub]
    all_goals (repeat (with_reducible refine sAnd ?_))
    apply call_guard (h2 := fun _ => c_ref_SameInts (kidsOf d m) (kidsOf d m))
    · (simp (config := { maxSteps := 2000000 }) only [go_sem, reduceCtorEq, Nat.reduceAdd, Nat.reduceEqDiff, reduceIte, Nat.reduceLeDiff, Nat.reduceLT, Nat.reduceSub]; rfl)
    · intro h; repeat' (first | exact trivial | exact h | refine And.intro ?_ ?_)
    try simp (config := { maxSteps := 2000000 }) only [go_sem, reduceCtorEq, Nat.reduceAdd, Nat.reduceEqDiff, reduceIte, Nat.reduceLeDiff, Nat.reduceLT, Nat.reduceSub, dec_self]
    all_goals (repeat (with_reducible refine sAnd ?_))
    apply call_guard (h2 := fun _ => c_ref_SameDocs (partF d m) (partF d m))
    · (simp (config := { maxSteps := 2000000 }) only [go_sem, reduceCtorEq, Nat.reduceAdd, Nat.reduceEqDiff, reduceIte, Nat.reduceLeDiff, Nat.reduceLT, Nat.reduceSub]; rfl)
    · intro h; repeat' (first | exact trivial | exact h | refine And.intro ?_ ?_)
    try simp (config := { maxSteps := 2000000 }) only [go_sem, reduceCtorEq, Nat.reduceAdd, Nat.reduceEqDiff, reduceIte, Nat.reduceLeDiff, Nat.reduceLT, Nat.reduceSub, dec_self]
    all_goals (repeat (with_reducible refine sAnd ?_))
    refine fin_val rfl trivial (.inl ?_)
    simp
  · have h2 : ¬ thereE d k = 0 := by simpa using h
    rw [if_neg h2, if_neg h2, if_neg h2]
    try simp (config := { maxSteps := 2000000 }) only [go_sem, reduceCtorEq, Nat.reduceAdd, Nat.reduceEqDiff, reduceIte, Nat.reduceLeDiff, Nat.reduceLT, Nat.reduceSub]
    all_goals (repeat (with_reducible refine sAnd ?_))
    refine call_val (by repeat' constructor) (c_law_docBegun) ?_
    try simp (config := { maxSteps := 2000000 }) only [go_sem, reduceCtorEq, Nat.reduceAdd, Nat.reduceEqDiff, reduceIte, Nat.reduceLeDiff, Nat.reduceLT, Nat.reduceSub]
    all_goals (repeat (with_reducible refine sAnd ?_))
    apply call_guard (h2 := fun _ => c_doc_Check d)
    · (simp (config := { maxSteps := 2000000 }) only [go_sem, reduceCtorEq, Nat.reduceAdd, Nat.reduceEqDiff, reduceIte, Nat.reduceLeDiff, Nat.reduceLT, Nat.reduceSub]; rfl)
    · intro h; repeat' (first | exact trivial | exact h | refine And.intro ?_ ?_)
    try simp (config := { maxSteps := 2000000 }) only [go_sem, reduceCtorEq, Nat.reduceAdd, Nat.reduceEqDiff, reduceIte, Nat.reduceLeDiff, Nat.reduceLT, Nat.reduceSub]
    all_goals (repeat (with_reducible refine sAnd ?_))
    apply call_guard (h2 := fun _ => c_ref_CheckDoc d)
    · (simp (config := { maxSteps := 2000000 }) only [go_sem, reduceCtorEq, Nat.reduceAdd, Nat.reduceEqDiff, reduceIte, Nat.reduceLeDiff, Nat.reduceLT, Nat.reduceSub]; rfl)
    · intro h; repeat' (first | exact trivial | exact h | refine And.intro ?_ ?_)
    try simp (config := { maxSteps := 2000000 }) only [go_sem, reduceCtorEq, Nat.reduceAdd, Nat.reduceEqDiff, reduceIte, Nat.reduceLeDiff, Nat.reduceLT, Nat.reduceSub]
    all_goals (repeat (with_reducible refine sAnd ?_))
    apply call_guard (h2 := fun _ => c_ref_SameInts [] [])
    · (simp (config := { maxSteps := 2000000 }) only [go_sem, reduceCtorEq, Nat.reduceAdd, Nat.reduceEqDiff, reduceIte, Nat.reduceLeDiff, Nat.reduceLT, Nat.reduceSub]; rfl)
    · intro h; repeat' (first | exact trivial | exact h | refine And.intro ?_ ?_)
    try simp (config := { maxSteps := 2000000 }) only [go_sem, reduceCtorEq, Nat.reduceAdd, Nat.reduceEqDiff, reduceIte, Nat.reduceLeDiff, Nat.reduceLT, Nat.reduceSub, dec_self]
    all_goals (repeat (with_reducible refine sAnd ?_))
    apply call_guard (h2 := fun _ => c_ref_SameDocs [] [])
    · (simp (config := { maxSteps := 2000000 }) only [go_sem, reduceCtorEq, Nat.reduceAdd, Nat.reduceEqDiff, reduceIte, Nat.reduceLeDiff, Nat.reduceLT, Nat.reduceSub]; rfl)
    · intro h; repeat' (first | exact trivial | exact h | refine And.intro ?_ ?_)
    try simp (config := { maxSteps := 2000000 }) only [go_sem, reduceCtorEq, Nat.reduceAdd, Nat.reduceEqDiff, reduceIte, Nat.reduceLeDiff, Nat.reduceLT, Nat.reduceSub, dec_self]
    all_goals (repeat (with_reducible refine sAnd ?_))
    refine fin_val rfl trivial (.inl ?_)
    simp
end Go.Hx
end

section
/-
  Right documents: what is left when an element is removed. Plain Lean, no program in sight. No condition.
-/
namespace Go.Hx
variable [Glob]

section
variable {d : List Nd} (hd : docOk d d.length = true)
include hd

theorem up_nonneg {k : Nat} (h0 : 0 < k) (hk : k < d.length) : 0 ≤ upOf d k := by
  obtain ⟨j, rfl⟩ : ∃ j, k = j + 1 := ⟨k - 1, by omega⟩
  exact (C_le hd (by omega) (up_mem hd hk)).1
theorem up_zero (h : 0 < d.length) : upOf d 0 = -1 := by
  have := range_all_get hd h
  simp only [okAt, okUp, Bool.and_eq_true] at this
  simpa using this.2
theorem behind_zero (h : 0 < d.length) : behind d 0 = d.length := by
  have hb := behind_le h
  apply Classical.byContradiction
  intro hne
  have h1 := behind_out h (by omega)
  have h2 := up_nonneg hd (k := behind d 0) (by omega) (by omega)
  omega

/-- Where an element lies when n, and all that is under it, is gone. -/
def pos (d : List Nd) (n : Nat) (j : Int) : Int := if j ≥ behind d n then j - behind d n + n else j
/-- Those of a up to b that are left. -/
def kept (d : List Nd) (n a b : Nat) : List Nd := ((List.range' a (b - a)).filter fun j => decide (j < n) || decide (behind d n ≤ j)).map fun j => { d.getD j default with up := pos d n (upOf d j) }
omit hd in
theorem kept_app (n : Nat) {a b c : Nat} (h1 : a ≤ b) (h2 : b ≤ c) : kept d n a b ++ kept d n b c = kept d n a c := by
  unfold kept
  rw [← List.map_append, ← List.filter_append]
  congr 2
  have := List.range'_append (s := a) (m := b - a) (n := c - b) (step := 1)
  rw [show a + 1 * (b - a) = b by omega, show b - a + (c - b) = c - a by omega] at this
  exact this
omit hd in
theorem kept_nil (n a : Nat) : kept d n a a = [] := by simp [kept]
omit hd in
theorem kept_cons {n a b : Nat} (h : a < b) (hk : a < n ∨ behind d n ≤ a) : kept d n a b = { d.getD a default with up := pos d n (upOf d a) } :: kept d n (a + 1) b := by
  unfold kept
  rw [show b - a = (b - (a + 1)) + 1 by omega, List.range'_succ, List.filter_cons_of_pos (by simpa using hk)]
  rfl
omit hd in
theorem kept_gone (n : Nat) : kept d n n (behind d n) = [] := by
  unfold kept
  rw [List.map_eq_nil_iff, List.filter_eq_nil_iff]
  intro j hj
  rw [List.mem_range'_1] at hj
  simp; omega
omit hd in
theorem kept_all {n a b : Nat} (h : b ≤ n ∨ behind d n ≤ a) : kept d n a b = (List.range' a (b - a)).map fun j => { d.getD j default with up := pos d n (upOf d j) } := by
  unfold kept
  congr 1
  rw [List.filter_eq_self]
  intro j hj
  rw [List.mem_range'_1] at hj
  simp; omega
omit hd in
theorem kept_len {n a b : Nat} (hn : n < d.length) (hab : a ≤ b) (ha : a ≤ n ∨ behind d n ≤ a) (hb : b ≤ n ∨ behind d n ≤ b) : ((kept d n a b).length : Int) = pos d n b - pos d n a := by
  have hbn := behind_le hn
  have h1 : ∀ {a b : Nat}, a ≤ b → (b ≤ n ∨ behind d n ≤ a) → (kept d n a b).length = b - a := by
    intro a b _ h
    rw [kept_all h]; simp
  unfold pos
  by_cases c1 : b ≤ n
  · rw [h1 hab (.inl c1), if_neg (by omega), if_neg (by omega)]; omega
  · by_cases c2 : behind d n ≤ a
    · rw [h1 hab (.inr c2), if_pos (by omega), if_pos (by omega)]; omega
    · have c3 : a ≤ n := by omega
      have c4 : behind d n ≤ b := by omega
      rw [← kept_app n c3 (by omega : n ≤ b), ← kept_app n (by omega : n ≤ behind d n) c4, kept_gone, List.length_append, List.nil_append, h1 c3 (.inl (Nat.le_refl _)), h1 c4 (.inr (Nat.le_refl _)), if_pos (by omega), if_neg (by omega)]
      omega

theorem rem_kids {n k : Nat} (hn : n < d.length) (hk : k < d.length) (hkept : k < n ∨ behind d n ≤ k) (f : Nat) (hkf : d.length ≤ k + (f + 1))
    (ih : ∀ i, k < i → i < d.length → (i < n ∨ behind d n ≤ i) → ∀ (l : List Nd) (u : Int), (l.length : Int) = pos d n i → layT (wosT (markF d f i) n) l u = l ++ { d.getD i default with up := u } :: kept d n (i + 1) (behind d i)) :
    ∀ (g i : Nat), k < i → i ≤ behind d k → (i < behind d k → upOf d i = k) → d.length ≤ i + g → ∀ l : List Nd, (l.length : Int) = pos d n i → layTs (wosTs ((kidsF d k g i).map fun j => markF d f j.toNat) n) l (pos d n k) = l ++ kept d n i (behind d k) := by
  have hb := behind_le hk
  have hbn := behind_le hn
  intro g
  induction g with
  | zero =>
    intro i h1 h2 h3 h4 l hl
    have : i = behind d k := by omega
    subst this
    simp [kidsF, wosTs, layTs, kept_nil]
  | succ g ihg =>
    intro i h1 h2 h3 h4 l hl
    simp only [kidsF]
    split
    · rename_i h5
      have hi : i < d.length := by omega
      have hbi := behind_le hi
      have hm := behind_mono hk h1 h5
      have hup := h3 h5
      have hnk := next_kid hd hk h1 h5 hup
      simp only [List.map_cons, wosTs, Int.toNat_natCast]
      have hf : ((markF d f i).nd.up = (n : Int)) ↔ i = n := by
        have : (markF d f i).nd.up = (i : Int) := markF_nd d f i (by omega)
        rw [this]; omega
      by_cases e : i = n
      · rw [if_pos (hf.2 e)]
        subst e
        rw [ihg (behind d i) (by omega) hm hnk (by omega) l (by rw [hl]; unfold pos; rw [if_neg (by omega), if_pos (by omega)]; omega)]
        rw [← kept_app i (by omega : i ≤ behind d i) hm, kept_gone, List.nil_append]
      · rw [if_neg (fun h => e (hf.1 h))]
        have hik : i < n ∨ behind d n ≤ i := by
          apply Classical.byContradiction
          intro hc
          have := behind_in hn (k := i) (by omega) (by omega)
          omega
        have hbik : behind d i ≤ n ∨ behind d n ≤ behind d i := by
          apply Classical.byContradiction
          intro hc
          have h6 : behind d i < behind d n := by omega
          have h7 := behind_in hn (k := behind d i) (by omega) h6
          have h8 := behind_out hi (by omega)
          omega
        simp only [layTs]
        rw [ih i h1 hi hik l _ hl]
        have e2 : l ++ { d.getD i default with up := pos d n k } :: kept d n (i + 1) (behind d i) = l ++ kept d n i (behind d i) := by
          rw [kept_cons hbi.1 hik, hup]
        have hlen := kept_len hn (Nat.le_of_lt hbi.1) (by omega : i ≤ n ∨ behind d n ≤ i) hbik
        rw [e2, ihg (behind d i) (by omega) hm hnk (by omega) _ (by rw [List.length_append]; omega), List.append_assoc, kept_app n (by omega) hm]
    · have : i = behind d k := by omega
      subst this
      simp [wosTs, layTs, kept_nil]

theorem rem_tree {n : Nat} (hn : n < d.length) : ∀ (f k : Nat), k < d.length → d.length ≤ k + f → (k < n ∨ behind d n ≤ k) → ∀ (l : List Nd) (u : Int), (l.length : Int) = pos d n k → layT (wosT (markF d f k) n) l u = l ++ { d.getD k default with up := u } :: kept d n (k + 1) (behind d k)
  | 0, k, hk, h, _, l, u, hl => by omega
  | f + 1, k, hk, h, hkept, l, u, hl => by
    have hb := behind_le hk
    have hbn := behind_le hn
    simp only [markF, wosT, layT]
    rw [← docKids_eq hd hk, hl]
    rw [docKids, rem_kids hd hn hk hkept f h (fun i h1 h2 h3 l u hl => rem_tree hn f i h2 (by omega) h3 l u hl) d.length (k + 1) (by omega) (by omega) (first_kid hd hk) (by omega) _ (by
      simp only [List.length_append, List.length_cons, List.length_nil]
      unfold pos at hl ⊢
      split at hl <;> split <;> omega)]
    simp

theorem docRemove_eq {n : Nat} (h0 : 0 < n) (hn : n < d.length) : docRemove d n = remF d n := by
  have hbn := behind_le hn
  have hb0 := behind_zero hd (by omega)
  rw [remF, show (0 : Nat) = (0 : Nat) from rfl, rem_tree hd hn d.length 0 (by omega) (by omega) (.inl h0) [] (-1) (by unfold pos; rw [if_neg (by omega)]; rfl), List.nil_append, hb0]
  have e : ({ d.getD 0 default with up := -1 } : Nd) :: kept d n 1 d.length = kept d n 0 d.length := by
    rw [kept_cons (by omega) (.inl h0), up_zero hd (by omega)]
    unfold pos
    rw [if_neg (by omega)]
  rw [e, ← kept_app n (Nat.zero_le n) (by omega : n ≤ d.length), ← kept_app n (by omega : n ≤ behind d n) hbn.2, kept_gone, List.nil_append, kept_all (.inl (Nat.le_refl _)), kept_all (.inr (Nat.le_refl _))]
  have c1 := cut_eq (d := d) (Nat.zero_le n) (Nat.le_of_lt hn)
  have c2 := cut_eq (d := d) hbn.2 (Nat.le_refl _)
  rw [List.drop_zero] at c1
  rw [List.take_length] at c2
  rw [docRemove, c1, c2]
  simp only [List.flatten_cons, List.flatten_nil, List.append_nil, List.map_map]
  rfl

omit hd in
theorem szT_mark : ∀ (f n : Nat), szT (markF d f n) = szT (treeF d f n)
  | 0, n => rfl
  | f + 1, n => by
    have h : ∀ ks : List Int, szTs (ks.map fun k => markF d f k.toNat) = szTs (ks.map fun k => treeF d f k.toNat) := by
      intro ks
      induction ks with
      | nil => rfl
      | cons k ks ih => simp only [List.map_cons, szTs]; rw [szT_mark f, ih]
    simp only [markF, treeF, szT]
    rw [h]
end
end Go.Hx
end

section
/-
  Right documents: what was inserted is the part there, and removed again leaves the document as it was; what was removed and inserted again leaves it as it was. Plain Lean, no program in sight. No condition.
-/
namespace Go.Hx
variable [Glob]

/-- The second is the first, or above it. -/
inductive Anc (u : Nat → Int) : Nat → Nat → Prop
  | refl (k : Nat) : Anc u k k
  | up {k j x : Nat} : u k = (j : Int) → Anc u j x → Anc u k x

section
variable {u v w : Nat → Int}
theorem Anc.trans {a b c : Nat} (h : Anc u a b) (k : Anc u b c) : Anc u a c := by
  induction h with
  | refl _ => exact k
  | up e _ ih => exact .up e (ih k)

/-- The ups of n elements are right. -/
def Ups (u : Nat → Int) (n : Nat) : Prop := (0 < n → u 0 = -1) ∧ ∀ i, i + 1 < n → ∃ p : Nat, u (i + 1) = p ∧ Anc u i p

theorem Ups.both {n : Nat} (h : Ups u n) : ∀ k, k < n → (-1 ≤ u k ∧ u k < k) ∧ ∀ p, Anc u k p → p ≤ k := by
  intro k
  induction k using Nat.strongRecOn with
  | ind k ih =>
    intro hk
    have h1 : -1 ≤ u k ∧ u k < k := by
      cases k with
      | zero => have := h.1 hk; omega
      | succ k =>
        obtain ⟨p, e, hp⟩ := h.2 k hk
        have := (ih k (by omega) (by omega)).2 p hp
        omega
    refine ⟨h1, fun p hp => ?_⟩
    cases hp with
    | refl _ => exact Nat.le_refl _
    | up e hp =>
      rename_i j
      have := (ih j (by omega) (by omega)).2 p hp
      omega
theorem Ups.lt {n k : Nat} (h : Ups u n) (hk : k < n) : -1 ≤ u k ∧ u k < k := (h.both k hk).1
theorem Ups.le {n k p : Nat} (h : Ups u n) (hk : k < n) (hp : Anc u k p) : p ≤ k := (h.both k hk).2 p hp
theorem Ups.root {n : Nat} (h : Ups u n) : ∀ k, k < n → Anc u k 0 := by
  intro k
  induction k using Nat.strongRecOn with
  | ind k ih =>
    intro hk
    cases k with
    | zero => exact .refl _
    | succ k =>
      obtain ⟨p, e, hp⟩ := h.2 k hk
      have := h.le (by omega) hp
      exact .up e (ih p (by omega) (by omega))
theorem Ups.two {n : Nat} (h : Ups u n) {a b c : Nat} (h1 : Anc u a b) : a < n → Anc u a c → c ≤ b → Anc u b c := by
  induction h1 with
  | refl _ => intro _ h2 _; exact h2
  | @up k j x e h3 ih =>
    intro ha h2 hc
    have hl := h.lt ha
    have hx := h.le (k := j) (by omega) h3
    cases h2 with
    | refl _ => omega
    | up e2 h4 =>
      rename_i j2
      have : j = j2 := by omega
      subst this
      exact ih (by omega) h4 hc

/-! ### The document's own words -/

theorem chain_anc {d : List Nd} : ∀ (f k : Nat), (∀ j : Nat, j ≤ k → upOf d j < j) → k < f → ∀ x : Int, x ∈ chain d f k ↔ ∃ y : Nat, x = y ∧ Anc (upOf d) k y
  | 0, k, _, h, _ => by omega
  | f + 1, k, hd, h, x => by
    simp only [chain, Int.toNat_natCast]
    rw [if_neg (by omega), List.mem_cons]
    have hk := hd k (Nat.le_refl _)
    by_cases hn : upOf d k < 0
    · have e : chain d f (upOf d k) = [] := by cases f <;> simp [chain, hn]
      rw [e]
      constructor
      · rintro (rfl | h1)
        · exact ⟨k, rfl, .refl _⟩
        · cases h1
      · rintro ⟨y, rfl, hy⟩
        cases hy with
        | refl _ => exact .inl rfl
        | up e2 _ => omega
    · obtain ⟨j, hj⟩ : ∃ j : Nat, upOf d k = j := ⟨(upOf d k).toNat, by omega⟩
      rw [hj, chain_anc f j (fun i hi => hd i (by omega)) (by omega) x]
      constructor
      · rintro (rfl | ⟨y, rfl, hy⟩)
        · exact ⟨k, rfl, .refl _⟩
        · exact ⟨y, rfl, .up hj hy⟩
      · rintro ⟨y, rfl, hy⟩
        cases hy with
        | refl _ => exact .inl rfl
        | up e2 h2 =>
          have e3 := hj.symm.trans e2
          rw [Int.natCast_inj] at e3
          subst e3
          exact .inr ⟨y, rfl, h2⟩

theorem docOk_iff {d : List Nd} : docOk d d.length = true ↔ (∀ x ∈ d, nodeFine x = true) ∧ Ups (upOf d) d.length := by
  constructor
  · intro h
    refine ⟨fun x hx => ?_, fun h0 => ?_, fun i hi => ?_⟩
    · obtain ⟨i, hi, rfl⟩ := List.mem_iff_getElem.1 hx
      have := range_all_get h hi
      simp only [okAt, Bool.and_eq_true] at this
      simpa [hi] using this.1
    · exact up_zero h h0
    · have h1 := up_mem h hi
      unfold C at h1
      rw [chain_anc _ _ (fun j hj => (docOk_up h j (by omega)).2) (by omega)] at h1
      exact h1
  · rintro ⟨h1, h2⟩
    refine List.all_eq_true.2 fun i hi => ?_
    have hi := List.mem_range.1 hi
    simp only [okAt, Bool.and_eq_true, okUp]
    refine ⟨h1 _ (mem_getD hi), ?_⟩
    split
    · rename_i e
      subst e
      simp [h2.1 hi]
    · obtain ⟨j, rfl⟩ : ∃ j, i = j + 1 := ⟨i - 1, by omega⟩
      obtain ⟨p, hp, ha⟩ := h2.2 j hi
      have := (chain_anc (d := d) (j + 1) j (fun i hi => (h2.lt (by omega)).2) (by omega) (upOf d (j + 1))).2 ⟨p, hp, ha⟩
      rw [show (((j + 1 : Nat) : Int) - 1) = j by omega]
      simpa using this
theorem checkDoc_iff {d : List Nd} : checkDoc d = 0 ↔ (1 ≤ d.length ∧ d.length ≤ 64) ∧ (∀ x ∈ d, nodeFine x = true) ∧ Ups (upOf d) d.length := by
  rw [← docOk_iff, checkDoc]
  split
  · rename_i h
    split
    · rename_i h2; exact ⟨fun _ => ⟨h, h2⟩, fun _ => rfl⟩
    · rename_i h2; exact ⟨fun h => (by cases h), fun h3 => absurd h3.2 h2⟩
  · rename_i h; exact ⟨fun h => (by cases h), fun h3 => absurd h3.1 h⟩
theorem C_anc {d : List Nd} (hd : docOk d d.length = true) {k : Nat} (hk : k < d.length) {x : Nat} : (x : Int) ∈ C d k ↔ Anc (upOf d) k x := by
  unfold C
  rw [chain_anc _ _ (fun j hj => (docOk_up hd j (by omega)).2) hk]
  constructor
  · rintro ⟨y, e, h⟩
    rw [Int.natCast_inj] at e
    subst e; exact h
  · intro h; exact ⟨x, rfl, h⟩
theorem thereE_iff {d : List Nd} {k : Int} : thereE d k = 0 ↔ checkDoc d = 0 ∧ 0 ≤ k ∧ k < d.length := by
  unfold thereE
  split
  · split <;> omega
  · rename_i h; simp [h]

/-! ### Ups behind an inserting, a removing -/

theorem Ups.ins {N E n k : Nat} (hu : Ups u N) (hv : Ups v E) (hE : 0 < E) (hn : n ≤ N) (hk : k < n) (ha : Anc u (n - 1) k) (hs : n < N → u n ≤ k)
    (w1 : ∀ i, i < n → w i = u i) (w2 : w n = k) (w3 : ∀ j, 0 < j → j < E → w (n + j) = v j + n) (w4 : ∀ i, n ≤ i → i < N → w (i + E) = if u i ≥ n then u i + E else u i) : Ups w (N + E) := by
  have a1 : ∀ {i p}, Anc u i p → i < n → Anc w i p := by
    intro i p h
    induction h with
    | refl _ => intro _; exact .refl _
    | @up i j x e _ ih =>
      intro hi
      have := hu.lt (k := i) (Nat.lt_of_lt_of_le hi hn)
      exact .up ((w1 _ hi).trans e) (ih (by omega))
  have a2 : ∀ {j q}, Anc v j q → j < E → Anc w (n + j) (n + q) := by
    intro j q h
    induction h with
    | refl _ => intro _; exact .refl _
    | @up k' j' x e _ ih =>
      intro hj
      have h0 := hv.lt hj
      have : 0 < k' := by
        rcases Nat.eq_zero_or_pos k' with e0 | e0
        · subst e0; have := hv.1 hE; omega
        · exact e0
      exact .up (j := n + j') (by rw [w3 _ this hj]; omega) (ih (by omega))
  have a3 : ∀ {j q}, j < E → Anc u k q → Anc w (n + j) q := fun hj hq => ((a2 (hv.root _ hj) hj).trans (.up w2 (.refl _))).trans (a1 hq hk)
  have a4 : ∀ {i p}, Anc u i p → i < N → Anc w (if i ≥ n then i + E else i) (if p ≥ n then p + E else p) := by
    intro i p h
    induction h with
    | refl _ => intro _; exact .refl _
    | @up i j x e _ ih =>
      intro hi
      have hl := hu.lt hi
      refine .up ?_ (ih (by omega))
      by_cases h1 : i ≥ n
      · rw [if_pos h1, w4 i h1 hi, e]
        by_cases h2 : j ≥ n
        · rw [if_pos (by omega), if_pos h2]; omega
        · rw [if_neg (by omega), if_neg h2]
      · rw [if_neg h1, w1 i (by omega), e, if_neg (by omega)]
  refine ⟨fun _ => by rw [w1 0 (by omega)]; exact hu.1 (by omega), fun i hi => ?_⟩
  rcases Nat.lt_trichotomy (i + 1) n with h1 | h1 | h1
  · obtain ⟨p, e, hp⟩ := hu.2 i (by omega)
    exact ⟨p, (w1 _ h1).trans e, a1 hp (by omega)⟩
  · refine ⟨k, by rw [h1]; exact w2, ?_⟩
    have : n - 1 = i := by omega
    rw [this] at ha
    exact a1 ha (by omega)
  · rcases Nat.lt_trichotomy (i + 1) (n + E) with h2 | h2 | h2
    · obtain ⟨j, rfl⟩ : ∃ j, i = n + j := ⟨i - n, by omega⟩
      obtain ⟨p, e, hp⟩ := hv.2 j (by omega)
      refine ⟨n + p, ?_, a2 hp (by omega)⟩
      rw [show n + j + 1 = n + (j + 1) by omega, w3 _ (by omega) (by omega), e]; omega
    · have hnN : n < N := by omega
      obtain ⟨m, rfl⟩ : ∃ m, n = m + 1 := ⟨n - 1, by omega⟩
      obtain ⟨p, e, hp⟩ := hu.2 m hnN
      have hm := hu.le (by omega) hp
      have hs := hs hnN
      refine ⟨p, ?_, ?_⟩
      · rw [h2, w4 _ (Nat.le_refl _) hnN, e, if_neg (by omega)]
      · rw [show i = m + 1 + (E - 1) by omega]
        exact a3 (by omega) (hu.two ha (by omega) hp (by omega))
    · obtain ⟨j, rfl⟩ : ∃ j, i = j + E := ⟨i - E, by omega⟩
      obtain ⟨p, e, hp⟩ := hu.2 j (by omega)
      refine ⟨if p ≥ n then p + E else p, ?_, ?_⟩
      · rw [show j + E + 1 = j + 1 + E by omega, w4 _ (by omega) (by omega), e]
        by_cases h3 : p ≥ n
        · rw [if_pos (by omega), if_pos h3]; omega
        · rw [if_neg (by omega), if_neg h3]
      · have := a4 hp (by omega)
        rw [if_pos (by omega)] at this
        exact this

theorem Ups.rem {N n b : Nat} (hu : Ups u N) (h0 : 0 < n) (hn : n < b) (hb : b ≤ N) (hin : ∀ i, n < i → i < b → Anc u i n) (hout : b < N → u b < n) (hreg : ∀ k j : Nat, b ≤ k → k < N → u k = j → j < n ∨ b ≤ j)
    (w1 : ∀ i, i < n → w i = u i) (w2 : ∀ i, n ≤ i → i + (b - n) < N → w i = if u (i + (b - n)) ≥ b then u (i + (b - n)) - b + n else u (i + (b - n))) : Ups w (N - (b - n)) := by
  have a1 : ∀ {i p}, Anc u i p → i < n → Anc w i p := by
    intro i p h
    induction h with
    | refl _ => intro _; exact .refl _
    | @up i j x e _ ih =>
      intro hi
      have := hu.lt (k := i) (Nat.lt_trans hi (Nat.lt_of_lt_of_le hn hb))
      exact .up ((w1 _ hi).trans e) (ih (by omega))
  have a4 : ∀ {i p}, Anc u i p → i < N → b ≤ i → (p < n ∨ b ≤ p) → Anc w (i - (b - n)) (if p ≥ b then p - (b - n) else p) := by
    intro i p h
    induction h with
    | refl _ => intro h1 h2 h3; rw [if_pos h2]; exact .refl _
    | @up i j x e h4 ih =>
      intro hi h2 h3
      have hl := hu.lt hi
      have hx := hu.le (k := j) (by omega) h4
      have hw := w2 (i - (b - n)) (by omega) (by omega)
      rw [show i - (b - n) + (b - n) = i by omega, e] at hw
      rcases hreg i j h2 hi e with h5 | h5
      · rw [if_neg (by omega)] at hw
        rw [if_neg (by omega)]
        exact .up hw (a1 h4 h5)
      · rw [if_pos (by omega)] at hw
        exact .up (j := j - (b - n)) (by omega) (ih (by omega) h5 h3)
  refine ⟨fun _ => by rw [w1 0 h0]; exact hu.1 (by omega), fun i hi => ?_⟩
  rcases Nat.lt_trichotomy (i + 1) n with h1 | h1 | h1
  · obtain ⟨p, e, hp⟩ := hu.2 i (by omega)
    exact ⟨p, (w1 _ h1).trans e, a1 hp (by omega)⟩
  · obtain ⟨c, rfl⟩ : ∃ c, b = c + 1 := ⟨b - 1, by omega⟩
    subst h1
    obtain ⟨q, e, hq⟩ := hu.2 c (by omega)
    have ho := hout (by omega)
    have hci : Anc u c (i + 1) := by
      rcases Nat.lt_or_ge (i + 1) c with h2 | h2
      · exact hin c h2 (by omega)
      · have : c = i + 1 := by omega
        subst this; exact .refl _
    have h3 := hu.two hci (by omega) hq (by omega)
    have h4 : Anc u i q := by
      cases h3 with
      | refl _ => omega
      | up e3 h5 =>
        obtain ⟨k, e4, hk⟩ := hu.2 i (by omega)
        have e5 := e4.symm.trans e3
        rw [Int.natCast_inj] at e5
        subst e5
        exact hk.trans h5
    refine ⟨q, ?_, a1 h4 (by omega)⟩
    have hw := w2 (i + 1) (Nat.le_refl _) (by omega)
    rw [show i + 1 + (c + 1 - (i + 1)) = c + 1 by omega, e, if_neg (by omega)] at hw
    exact hw
  · obtain ⟨q, e, hq⟩ := hu.2 (i + (b - n)) (by omega)
    have h2 := hreg _ q (by omega) (by omega) e
    have h3 := a4 hq (by omega) (by omega) h2
    rw [show i + (b - n) - (b - n) = i by omega] at h3
    refine ⟨_, ?_, h3⟩
    have hw := w2 (i + 1) (by omega) (by omega)
    rw [show i + 1 + (b - n) = i + (b - n) + 1 by omega, e] at hw
    rw [hw]
    by_cases h4 : q ≥ b
    · rw [if_pos (by omega), if_pos h4]; omega
    · rw [if_neg (by omega), if_neg h4]

theorem Ups.part {N n b : Nat} (hu : Ups u N) (hn : n < b) (hb : b ≤ N) (hin : ∀ i, n < i → i < b → (n : Int) ≤ u i)
    (w1 : ∀ j, n + j < b → w j = max (u (n + j) - n) (-1)) : Ups w (b - n) := by
  have a5 : ∀ {i q}, Anc u i q → n ≤ q → i < b → Anc w (i - n) (q - n) := by
    intro i q h
    induction h with
    | refl _ => intro _ _; exact .refl _
    | @up i j x e h4 ih =>
      intro h1 h2
      have hl := hu.lt (k := i) (by omega)
      have hx := hu.le (k := j) (by omega) h4
      refine .up (j := j - n) ?_ (ih h1 (by omega))
      rw [w1 (i - n) (by omega), show n + (i - n) = i by omega, e]
      omega
  refine ⟨fun _ => ?_, fun i hi => ?_⟩
  · have := hu.lt (k := n) (by omega)
    rw [w1 0 (by omega), Nat.add_zero]
    omega
  · obtain ⟨q, e, hq⟩ := hu.2 (n + i) (by omega)
    have h1 := hin (n + i + 1) (by omega) (by omega)
    refine ⟨q - n, ?_, ?_⟩
    · rw [w1 (i + 1) (by omega), ← Nat.add_assoc, e]; omega
    · have := a5 hq (by omega) (by omega)
      rw [show n + i - n = i by omega] at this
      exact this
end
end Go.Hx
end

section
/-
  Right documents, on lists: insert, then part and remove; remove, then insert. Plain Lean, no program in sight. No condition.
-/
namespace Go.Hx
variable [Glob]

theorem getD_lt {α : Type} {l : List α} {d : α} {i : Nat} (h : i < l.length) : l.getD i d = l[i] := by simp [h]
theorem upOf_app {a b : List Nd} {i : Nat} : upOf (a ++ b) i = if i < a.length then upOf a i else upOf b (i - a.length) := by
  unfold upOf
  split
  · rename_i h
    rw [List.getD_eq_getElem?_getD, List.getElem?_append_left h, ← List.getD_eq_getElem?_getD]
  · rename_i h
    rw [List.getD_eq_getElem?_getD, List.getElem?_append_right (by omega), ← List.getD_eq_getElem?_getD]
theorem upOf_map {g : Int → Int} {l : List Nd} {i : Nat} (h : i < l.length) : upOf (l.map (turnUp g)) i = g (upOf l i) := by
  simp [upOf, h, turnUp]
theorem upOf_take {d : List Nd} {n i : Nat} (h : i < n) : upOf (d.take n) i = upOf d i := by
  simp [upOf, h]
theorem upOf_drop {d : List Nd} {n i : Nat} : upOf (d.drop n) i = upOf d (n + i) := by
  simp [upOf, List.getElem?_drop]
theorem turn_turn {f g : Int → Int} {l : List Nd} (h : ∀ x ∈ l, f (g x.up) = x.up) : (l.map (turnUp g)).map (turnUp f) = l := by
  rw [List.map_map]
  refine (List.map_congr_left fun x hx => ?_).trans (List.map_id l)
  simp only [Function.comp, turnUp, h x hx, id]
theorem turn_same {g : Int → Int} {l : List Nd} (h : ∀ x ∈ l, g x.up = x.up) : l.map (turnUp g) = l := by
  refine (List.map_congr_left fun x hx => ?_).trans (List.map_id l)
  simp only [turnUp, h x hx, id]
theorem mem_ix {d : List Nd} {x : Nd} (h : x ∈ d) : ∃ i, i < d.length ∧ x.up = upOf d i := by
  obtain ⟨i, hi, rfl⟩ := List.mem_iff_getElem.1 h
  exact ⟨i, hi, by simp [upOf, hi]⟩
theorem mem_take_ix {d : List Nd} {n : Nat} {x : Nd} (h : x ∈ d.take n) : ∃ i, i < n ∧ i < d.length ∧ x.up = upOf d i := by
  obtain ⟨i, hi, e⟩ := mem_ix h
  rw [List.length_take] at hi
  rw [upOf_take (by omega)] at e
  exact ⟨i, by omega, by omega, e⟩
theorem mem_drop_ix {d : List Nd} {n : Nat} {x : Nd} (h : x ∈ d.drop n) : ∃ i, n ≤ i ∧ i < d.length ∧ x.up = upOf d i := by
  obtain ⟨i, hi, e⟩ := mem_ix h
  rw [List.length_drop] at hi
  rw [upOf_drop] at e
  exact ⟨n + i, by omega, by omega, e⟩
theorem mem_cut_ix {d : List Nd} {n b : Nat} {x : Nd} (h : x ∈ (d.take b).drop n) : ∃ i, n ≤ i ∧ i < b ∧ i < d.length ∧ x.up = upOf d i := by
  obtain ⟨i, h1, h2, e⟩ := mem_drop_ix h
  rw [List.length_take] at h2
  rw [upOf_take (by omega)] at e
  exact ⟨i, h1, by omega, by omega, e⟩
theorem fine_turn {g : Int → Int} {l : List Nd} (h : ∀ x ∈ l, nodeFine x = true) : ∀ x ∈ l.map (turnUp g), nodeFine x = true := by
  intro x hx
  obtain ⟨y, hy, rfl⟩ := List.mem_map.1 hx
  exact h y hy

theorem behind_uniq {d : List Nd} {n m : Nat} (h1 : n < m) (h2 : m ≤ d.length) (h3 : ∀ k, n < k → k < m → (n : Int) ≤ upOf d k) (h4 : m < d.length → upOf d m < n) : behind d n = m := by
  have hn : n < d.length := by omega
  have hb := behind_le hn
  rcases Nat.lt_trichotomy (behind d n) m with h | h | h
  · have := behind_out hn (by omega)
    have := h3 _ hb.1 h
    omega
  · exact h
  · have := behind_in hn h1 h
    have := h4 (by omega)
    omega

/-! ### Kids, in order -/

theorem kidsTo_pre {d : List Nd} {n : Int} {a b : Nat} (h : a ≤ b) : ∃ r, kidsTo d n b = kidsTo d n a ++ r := by
  induction b with
  | zero => exact ⟨[], by rw [show a = 0 by omega]; simp⟩
  | succ b ih =>
    by_cases e : a = b + 1
    · exact ⟨[], by rw [e]; simp⟩
    · obtain ⟨r, hr⟩ := ih (by omega)
      rw [kidsTo_succ, hr]
      split
      · exact ⟨r ++ [(b : Int)], by simp⟩
      · exact ⟨r, rfl⟩
theorem kidsTo_lt {d : List Nd} {n : Int} {a : Nat} : ∀ x ∈ kidsTo d n a, 0 ≤ x ∧ x < a := by
  intro x hx
  obtain ⟨i, hi, rfl⟩ := List.mem_map.1 hx
  have := List.mem_range.1 (List.mem_filter.1 hi).1
  simp only [Int.ofNat_eq_natCast]
  omega
theorem kidsTo_at {d : List Nd} {n : Int} : ∀ (b at' : Nat), at' < (kidsTo d n b).length → ∃ m : Nat, (kidsTo d n b).getD at' 0 = m ∧ upOf d m = n ∧ m < b ∧ (kidsTo d n m).length = at'
  | 0, at', h => by simp [kidsTo] at h
  | b + 1, at', h => by
    rw [kidsTo_succ] at h ⊢
    split
    · rename_i h1
      rw [if_pos h1] at h
      by_cases h2 : at' < (kidsTo d n b).length
      · obtain ⟨m, e1, e2, e3, e4⟩ := kidsTo_at b at' h2
        refine ⟨m, ?_, e2, by omega, e4⟩
        rw [List.getD_eq_getElem?_getD, List.getElem?_append_left h2, ← List.getD_eq_getElem?_getD, e1]
      · rw [List.length_append, List.length_singleton] at h
        have h3 : at' = (kidsTo d n b).length := by omega
        subst h3
        exact ⟨b, by simp, h1, by omega, rfl⟩
    · rename_i h1
      rw [if_neg h1] at h
      obtain ⟨m, e1, e2, e3, e4⟩ := kidsTo_at b at' h
      exact ⟨m, e1, e2, by omega, e4⟩
theorem kidsTo_same {d e : List Nd} {n : Int} {a : Nat} (h : ∀ i, i < a → upOf d i = upOf e i) : kidsTo d n a = kidsTo e n a := by
  unfold kidsTo
  congr 1
  refine List.filter_congr fun i hi => ?_
  rw [h i (List.mem_range.1 hi)]

section
variable {d : List Nd} (hd : docOk d d.length = true)
include hd
theorem kids_to_behind {k : Nat} (hk : k < d.length) : kidsTo d k (behind d k) = kidsOf d k := by
  have hb := behind_le hk
  refine (kidsTo_skip hb.2 fun j h1 h2 e => ?_).symm
  have := under_out' hd hk h2 h1
  rw [e, C_step hd hk] at this
  exact this List.mem_cons_self
/-- A place for a kid of k. -/
theorem place_at {k at' : Nat} (hk : k < d.length) (h : at' < (docPlaces d k).length) : ∃ n : Nat, (docPlaces d k).getD at' 0 = n ∧ k < n ∧ n ≤ d.length ∧ Anc (upOf d) (n - 1) k ∧ (n < d.length → upOf d n ≤ k) ∧ (kidsTo d k n).length = at' := by
  have hb := behind_le hk
  have hu := (docOk_iff.1 hd).2
  have key : ∀ n, k < n → n ≤ behind d k → Anc (upOf d) (n - 1) k := by
    intro n h1 h2
    rw [← C_anc hd (by omega)]
    rcases Nat.lt_or_ge k (n - 1) with h3 | h3
    · rw [C_step hd (by omega)]
      exact List.mem_cons_of_mem _ (under_in hd hk (n - 1) (by omega) h3 (by omega))
    · have : n - 1 = k := by omega
      rw [this, C_step hd hk]
      exact List.mem_cons_self
  unfold docPlaces at h ⊢
  rw [docKids_eq hd hk] at h ⊢
  by_cases h1 : at' < (kidsOf d k).length
  · obtain ⟨m, e1, e2, e3, e4⟩ := kidsTo_at d.length at' h1
    rw [List.getD_eq_getElem?_getD, List.getElem?_append_left h1, ← List.getD_eq_getElem?_getD]
    have hm := hu.lt e3
    have hmb : m < behind d k := by
      apply Classical.byContradiction
      intro hc
      have := under_out' hd hk e3 (by omega)
      rw [e2, C_step hd hk] at this
      exact this List.mem_cons_self
    exact ⟨m, e1, by omega, by omega, key m (by omega) (by omega), fun _ => by omega, e4⟩
  · rw [List.length_append, List.length_singleton] at h
    have h2 : at' = (kidsOf d k).length := by omega
    subst h2
    refine ⟨behind d k, by simp, hb.1, hb.2, key _ hb.1 (Nat.le_refl _), fun h3 => ?_, by rw [kids_to_behind hd hk]⟩
    have := behind_out hk h3
    omega
theorem at_place {k n : Nat} (hk : k < n) (hn : n ≤ d.length) (ha : Anc (upOf d) (n - 1) k) (hs : n < d.length → upOf d n ≤ k) : (kidsTo d k n).length < (docPlaces d k).length ∧ (docPlaces d k).getD (kidsTo d k n).length 0 = n := by
  have hkl : k < d.length := by omega
  have hb := behind_le hkl
  have hnb : n ≤ behind d k := by
    apply Classical.byContradiction
    intro hc
    exact under_out hd hkl (n - 1) (by omega) (by omega) ((C_anc hd (by omega)).2 ha)
  unfold docPlaces
  rw [docKids_eq hd hkl, ← kids_to_behind hd hkl]
  by_cases h : n = behind d k
  · rw [← h]; simp
  · have h1 := behind_in hkl hk (by omega)
    have h2 := hs (by omega)
    obtain ⟨r, hr⟩ := kidsTo_pre (d := d) (n := (k : Int)) (show n + 1 ≤ behind d k by omega)
    rw [hr, kidsTo_succ, if_pos (by omega)]
    simp
end

/-! ### Inserted, and gone again -/

section
variable {d e : List Nd} {n k : Nat}
theorem ins_app : docInsertAt d k n e = (d.take n).map (turnUp fun j => if j ≥ n then j + e.length else j) ++ (e.map (turnUp fun j => if j < 0 then (k : Int) else j + n) ++ (d.drop n).map (turnUp fun j => if j ≥ n then j + e.length else j)) := by
  simp [docInsertAt]
theorem ins_len (hn : n ≤ d.length) : (docInsertAt d k n e).length = d.length + e.length := by
  rw [ins_app]; simp; omega
theorem ins_up1 (hu : Ups (upOf d) d.length) (hn : n ≤ d.length) {i : Nat} (h : i < n) : upOf (docInsertAt d k n e) i = upOf d i := by
  rw [ins_app, upOf_app, if_pos (by simp; omega), upOf_map (by simp; omega), upOf_take h]
  have := hu.lt (k := i) (by omega)
  rw [if_neg (by omega)]
theorem ins_up2 (hn : n ≤ d.length) {j : Nat} (h : j < e.length) : upOf (docInsertAt d k n e) (n + j) = if upOf e j < 0 then (k : Int) else upOf e j + n := by
  rw [ins_app, upOf_app, if_neg (by simp; omega), upOf_app, if_pos (by simp; omega), upOf_map (by simp; omega)]
  simp only [List.length_map, List.length_take]
  rw [show n + j - min n d.length = j by omega]
theorem ins_up3 (hn : n ≤ d.length) {i : Nat} (h1 : n ≤ i) (h2 : i < d.length) : upOf (docInsertAt d k n e) (i + e.length) = if upOf d i ≥ n then upOf d i + e.length else upOf d i := by
  rw [ins_app, upOf_app, if_neg (by simp; omega), upOf_app, if_neg (by simp; omega)]
  simp only [List.length_map, List.length_take]
  rw [upOf_map (by simp; omega), upOf_drop, show n + (i + e.length - min n d.length - e.length) = i by omega]
theorem ins_ok (hd : checkDoc d = 0) (he : checkDoc e = 0) (hl : d.length + e.length ≤ 64) (hk : k < n) (hn : n ≤ d.length) (ha : Anc (upOf d) (n - 1) k) (hs : n < d.length → upOf d n ≤ k) : checkDoc (docInsertAt d k n e) = 0 := by
  obtain ⟨hd1, hd2, hd3⟩ := checkDoc_iff.1 hd
  obtain ⟨he1, he2, he3⟩ := checkDoc_iff.1 he
  refine checkDoc_iff.2 ⟨by rw [ins_len hn]; omega, ?_, ?_⟩
  · intro x hx
    rw [ins_app] at hx
    rcases List.mem_append.1 hx with hx | hx
    · exact fine_turn (fun y hy => hd2 y (List.mem_of_mem_take hy)) x hx
    · rcases List.mem_append.1 hx with hx | hx
      · exact fine_turn he2 x hx
      · exact fine_turn (fun y hy => hd2 y (List.mem_of_mem_drop hy)) x hx
  · rw [ins_len hn]
    refine Ups.ins hd3 he3 (by omega) hn hk ha hs (fun i hi => ins_up1 hd3 hn hi) ?_ (fun j h1 h2 => ?_) (fun i h1 h2 => ins_up3 hn h1 h2)
    · have := ins_up2 (k := k) hn (j := 0) (e := e) (by omega)
      rw [Nat.add_zero] at this
      rw [this, he3.1 (by omega), if_pos (by omega)]
    · rw [ins_up2 hn h2, if_neg]
      obtain ⟨i, rfl⟩ : ∃ i, j = i + 1 := ⟨j - 1, by omega⟩
      obtain ⟨p, hp, _⟩ := he3.2 i h2
      omega
theorem ins_behind (hd : checkDoc d = 0) (he : checkDoc e = 0) (hk : k < n) (hn : n ≤ d.length) (hs : n < d.length → upOf d n ≤ k) : behind (docInsertAt d k n e) n = n + e.length := by
  obtain ⟨hd1, hd2, hd3⟩ := checkDoc_iff.1 hd
  obtain ⟨he1, he2, he3⟩ := checkDoc_iff.1 he
  refine behind_uniq (by omega) (by rw [ins_len hn]; omega) (fun i h1 h2 => ?_) (fun h => ?_)
  · obtain ⟨j, rfl⟩ : ∃ j, i = n + j := ⟨i - n, by omega⟩
    rw [ins_up2 hn (by omega)]
    obtain ⟨i, rfl⟩ : ∃ i, j = i + 1 := ⟨j - 1, by omega⟩
    obtain ⟨p, hp, _⟩ := he3.2 i (by omega)
    rw [if_neg (by omega)]
    omega
  · rw [ins_len hn] at h
    have hs := hs (by omega)
    rw [ins_up3 hn (Nat.le_refl _) (by omega), if_neg (by omega)]
    omega
theorem ins_part (hd : checkDoc d = 0) (he : checkDoc e = 0) (hk : k < n) (hn : n ≤ d.length) (hs : n < d.length → upOf d n ≤ k) : docPart (docInsertAt d k n e) n = e := by
  obtain ⟨he1, he2, he3⟩ := checkDoc_iff.1 he
  rw [docPart, ins_behind hd he hk hn hs, ins_app, ← List.append_assoc]
  rw [List.take_append_of_le_length (by simp; omega), List.take_of_length_le (by simp; omega), List.drop_append_of_le_length (by simp; omega), List.drop_of_length_le (by simp; omega), List.nil_append]
  refine turn_turn fun x hx => ?_
  obtain ⟨i, hi, e1⟩ := mem_ix hx
  have := he3.lt hi
  rw [e1]
  split <;> omega
theorem ins_rem (hd : checkDoc d = 0) (he : checkDoc e = 0) (hk : k < n) (hn : n ≤ d.length) (hs : n < d.length → upOf d n ≤ k) : docRemove (docInsertAt d k n e) n = d := by
  obtain ⟨hd1, hd2, hd3⟩ := checkDoc_iff.1 hd
  rw [docRemove, ins_behind hd he hk hn hs, ins_app]
  rw [List.take_append_of_le_length (by simp; omega), List.take_of_length_le (by simp; omega), ← List.append_assoc, List.drop_append_of_le_length (by simp; omega), List.drop_of_length_le (by simp; omega), List.nil_append]
  rw [turn_turn, turn_turn]
  · simp
  · intro x hx
    split <;> split <;> omega
  · intro x hx
    obtain ⟨i, h1, h2, e1⟩ := mem_take_ix hx
    have := hd3.lt h2
    rw [e1]
    split <;> split <;> omega
end

/-- WHAT WAS INSERTED IS THE PART THERE, AND REMOVED AGAIN IT LEAVES THE DOCUMENT AS IT WAS. -/
theorem back_ins {d e : List Nd} {up at' : Int} (h : insE d up at' e = 0) : ∃ n : Nat, thereE (docInsert d up at' e) up = 0 ∧ checkDoc (docInsert d up at' e) = 0 ∧ 0 ≤ at' ∧ at'.toNat < (docKids (docInsert d up at' e) up.toNat).length ∧ (docKids (docInsert d up at' e) up.toNat).getD at'.toNat 0 = n ∧ thereE (docInsert d up at' e) n = 0 ∧ n ≠ 0 ∧ docPart (docInsert d up at' e) n = e ∧ docRemove (docInsert d up at' e) n = d := by
  unfold insE at h
  split at h
  case isFalse h1 => exact absurd h h1
  rename_i hd
  split at h
  case isFalse h1 => exact absurd h h1
  rename_i he
  split at h
  · cases h
  rename_i h1
  split at h
  · cases h
  rename_i h2
  split at h
  · cases h
  rename_i h3
  have hd0 := (checkDoc_ok hd).2.2
  obtain ⟨k, rfl⟩ : ∃ k : Nat, up = k := ⟨up.toNat, by omega⟩
  rw [Int.toNat_natCast] at h2
  obtain ⟨n, e1, hk, hn, ha, hs, hl⟩ := place_at hd0 (k := k) (at' := at'.toNat) (by omega) (by omega)
  have ex : docInsert d k at' e = docInsertAt d k n e := by rw [docInsert, Int.toNat_natCast, e1, Int.toNat_natCast]
  rw [ex]
  have hx := ins_ok hd he (by omega) hk hn ha hs
  have hx0 := (checkDoc_ok hx).2.2
  have hxl := ins_len (d := d) (e := e) (k := k) hn
  obtain ⟨he1, _, he3⟩ := checkDoc_iff.1 he
  obtain ⟨_, _, hd3⟩ := checkDoc_iff.1 hd
  have hup : upOf (docInsertAt d k n e) n = k := by
    have := ins_up2 (k := k) hn (j := 0) (e := e) (by omega)
    rw [Nat.add_zero] at this
    rw [this, he3.1 (by omega), if_pos (by omega)]
  obtain ⟨r, hr⟩ := kidsTo_pre (d := docInsertAt d k n e) (n := (k : Int)) (show n + 1 ≤ (docInsertAt d k n e).length by omega)
  have hkid : docKids (docInsertAt d k n e) k = kidsTo d k n ++ (n : Int) :: r := by
    rw [docKids_eq hx0 (by omega), kidsOf, hr, kidsTo_succ, if_pos hup, kidsTo_same (e := d) fun i hi => ins_up1 hd3 hn hi]
    simp
  rw [Int.toNat_natCast, hkid]
  refine ⟨n, thereE_iff.2 ⟨hx, by omega, by omega⟩, hx, by omega, ?_, ?_, thereE_iff.2 ⟨hx, by omega, by omega⟩, by omega, ins_part hd he hk hn hs, ins_rem hd he hk hn hs⟩
  · rw [List.length_append, List.length_cons]; omega
  · rw [← hl]; simp

/-! ### Removed, and back again -/

section
variable {d : List Nd} {n : Nat}
theorem rem_app : docRemove d n = (d.take n).map (turnUp fun j => if j ≥ behind d n then j - behind d n + n else j) ++ (d.drop (behind d n)).map (turnUp fun j => if j ≥ behind d n then j - behind d n + n else j) := by
  simp [docRemove]
theorem rem_len (hn : n < d.length) : (docRemove d n).length = d.length - (behind d n - n) := by
  have hb := behind_le hn
  rw [rem_app]; simp; omega
theorem rem_up1 (hu : Ups (upOf d) d.length) (hn : n < d.length) {i : Nat} (h : i < n) : upOf (docRemove d n) i = upOf d i := by
  have hb := behind_le hn
  rw [rem_app, upOf_app, if_pos (by simp; omega), upOf_map (by simp; omega), upOf_take h]
  have := hu.lt (k := i) (by omega)
  rw [if_neg (by omega)]
theorem rem_up2 (hn : n < d.length) {i : Nat} (h1 : n ≤ i) (h2 : i + (behind d n - n) < d.length) : upOf (docRemove d n) i = if upOf d (i + (behind d n - n)) ≥ behind d n then upOf d (i + (behind d n - n)) - behind d n + n else upOf d (i + (behind d n - n)) := by
  have hb := behind_le hn
  rw [rem_app, upOf_app, if_neg (by simp; omega)]
  simp only [List.length_map, List.length_take]
  rw [upOf_map (by simp; omega), upOf_drop, show behind d n + (i - min n d.length) = i + (behind d n - n) by omega]
theorem part_len (hn : n < d.length) : (docPart d n).length = behind d n - n := by
  have hb := behind_le hn
  simp [docPart]; omega
theorem part_up (hn : n < d.length) {j : Nat} (h : n + j < behind d n) : upOf (docPart d n) j = max (upOf d (n + j) - n) (-1) := by
  have hb := behind_le hn
  rw [docPart, upOf_map (by simp; omega), upOf_drop, upOf_take (by omega)]

theorem no_in (hd : docOk d d.length = true) (hn : n < d.length) {k j : Nat} (h1 : behind d n ≤ k) (h2 : k < d.length) (e : upOf d k = j) : j < n ∨ behind d n ≤ j := by
  apply Classical.byContradiction
  intro hc
  have h3 := under_out' hd hn h2 h1
  rw [e] at h3
  have hb := behind_le hn
  refine h3 ?_
  rw [C_step hd (by omega)]
  rcases Nat.lt_or_ge n j with h4 | h4
  · exact List.mem_cons_of_mem _ (under_in hd hn j (by omega) h4 (by omega))
  · have : n = j := by omega
    subst this; exact List.mem_cons_self
theorem rem_ok (hd : checkDoc d = 0) (h0 : 0 < n) (hn : n < d.length) : checkDoc (docRemove d n) = 0 := by
  obtain ⟨hd1, hd2, hd3⟩ := checkDoc_iff.1 hd
  have hd0 := (checkDoc_ok hd).2.2
  have hb := behind_le hn
  refine checkDoc_iff.2 ⟨by rw [rem_len hn]; omega, ?_, ?_⟩
  · intro x hx
    rw [rem_app] at hx
    rcases List.mem_append.1 hx with hx | hx
    · exact fine_turn (fun y hy => hd2 y (List.mem_of_mem_take hy)) x hx
    · exact fine_turn (fun y hy => hd2 y (List.mem_of_mem_drop hy)) x hx
  · rw [rem_len hn]
    refine Ups.rem hd3 h0 hb.1 hb.2 (fun i h1 h2 => ?_) (fun h => behind_out hn h) (fun k j h1 h2 e => no_in hd0 hn h1 h2 e) (fun i hi => rem_up1 hd3 hn hi) (fun i h1 h2 => rem_up2 hn h1 h2)
    rw [← C_anc hd0 (by omega), C_step hd0 (by omega)]
    exact List.mem_cons_of_mem _ (under_in hd0 hn i (by omega) h1 h2)
theorem part_ok (hd : checkDoc d = 0) (hn : n < d.length) : checkDoc (docPart d n) = 0 := by
  obtain ⟨hd1, hd2, hd3⟩ := checkDoc_iff.1 hd
  have hb := behind_le hn
  refine checkDoc_iff.2 ⟨by rw [part_len hn]; omega, ?_, ?_⟩
  · exact fine_turn fun y hy => hd2 y (List.mem_of_mem_take (List.mem_of_mem_drop hy))
  · rw [part_len hn]
    exact Ups.part hd3 hb.1 hb.2 (fun i h1 h2 => behind_in hn h1 h2) fun j h => part_up hn h
theorem rem_ins (hd : checkDoc d = 0) (h0 : 0 < n) (hn : n < d.length) {k : Nat} (hk : upOf d n = k) : docInsertAt (docRemove d n) k n (docPart d n) = d := by
  obtain ⟨hd1, hd2, hd3⟩ := checkDoc_iff.1 hd
  have hd0 := (checkDoc_ok hd).2.2
  have hb := behind_le hn
  rw [ins_app, rem_app, part_len hn]
  rw [List.take_append_of_le_length (by simp; omega), List.take_of_length_le (by simp; omega), List.drop_append_of_le_length (by simp; omega), List.drop_of_length_le (by simp; omega), List.nil_append]
  have hc := Nat.le_of_lt hb.1
  rw [turn_turn, turn_turn, docPart, turn_turn]
  · rw [← List.append_assoc]
    have : d.take n = (d.take (behind d n)).take n := by rw [List.take_take, Nat.min_eq_left hc]
    rw [this, List.take_append_drop, List.take_append_drop]
  · intro x hx
    obtain ⟨i, h1, h2, h3, e1⟩ := mem_cut_ix hx
    rw [e1]
    have hl := hd3.lt h3
    rcases Nat.lt_or_ge n i with h4 | h4
    · have := behind_in hn h4 h2
      rw [if_neg (by omega)]
      omega
    · have : i = n := by omega
      subst this
      rw [if_pos (by omega), hk]
  · intro x hx
    obtain ⟨i, h1, h2, e1⟩ := mem_drop_ix hx
    have hup := up_nonneg hd0 (k := i) (by omega) h2
    rw [e1]
    have := no_in hd0 hn h1 h2 (j := (upOf d i).toNat) (by omega)
    split <;> split <;> omega
  · intro x hx
    obtain ⟨i, h1, h2, e1⟩ := mem_take_ix hx
    have := hd3.lt h2
    rw [e1]
    split <;> split <;> omega
end

/-- WHAT WAS REMOVED AND INSERTED AGAIN LEAVES IT AS IT WAS. -/
theorem back_rem {d : List Nd} {n k : Nat} (hd : checkDoc d = 0) (h0 : 0 < n) (hn : n < d.length) (hk : upOf d n = k) : ∃ pl : Nat, thereE d k = 0 ∧ pl < (docKids d k).length ∧ (docKids d k).getD pl 0 = n ∧ (∀ i, i < pl → (docKids d k).getD i 0 ≠ n) ∧ insE (docRemove d n) k pl (docPart d n) = 0 ∧ docInsert (docRemove d n) k pl (docPart d n) = d := by
  obtain ⟨hd1, hd2, hd3⟩ := checkDoc_iff.1 hd
  have hd0 := (checkDoc_ok hd).2.2
  have hb := behind_le hn
  have hl := hd3.lt hn
  have hy := rem_ok hd h0 hn
  have hp := part_ok hd hn
  obtain ⟨hy1, hy2, hy3⟩ := checkDoc_iff.1 hy
  have hy0 := (checkDoc_ok hy).2.2
  have hyl := rem_len hn
  have hpl := part_len hn
  obtain ⟨r, hr⟩ := kidsTo_pre (d := d) (n := (k : Int)) (show n + 1 ≤ d.length by omega)
  have hkid : docKids d k = kidsTo d k n ++ (n : Int) :: r := by
    rw [docKids_eq hd0 (by omega), kidsOf, hr, kidsTo_succ, if_pos hk]
    simp
  have hsame : kidsTo (docRemove d n) k n = kidsTo d k n := kidsTo_same fun i hi => rem_up1 hd3 hn hi
  obtain ⟨m, rfl⟩ : ∃ m, n = m + 1 := ⟨n - 1, by omega⟩
  -- k is above, or is, the one before, there too
  obtain ⟨q, e1, hq⟩ := hd3.2 m hn
  have hkq : q = k := by rw [hk] at e1; omega
  subst hkq
  obtain ⟨h1, h2⟩ := at_place hy0 (k := q) (n := m + 1) (by omega) (by omega) (by
      rw [show m + 1 - 1 = m by omega]
      have : ∀ {i p}, Anc (upOf d) i p → i < m + 1 → Anc (upOf (docRemove d (m + 1))) i p := by
        intro i p h
        induction h with
        | refl _ => intro _; exact .refl _
        | @up i j x e _ ih =>
          intro hi
          have := hd3.lt (k := i) (by omega)
          exact .up ((rem_up1 hd3 hn hi).trans e) (ih (by omega))
      exact this hq (by omega)) (fun h => by
      have hbl : behind d (m + 1) < d.length := by omega
      have ho := behind_out hn hbl
      rw [rem_up2 hn (Nat.le_refl _) (by omega), show m + 1 + (behind d (m + 1) - (m + 1)) = behind d (m + 1) by omega, if_neg (by omega)]
      -- what is above the one behind is above n
      obtain ⟨c, hc⟩ : ∃ c, behind d (m + 1) = c + 1 := ⟨behind d (m + 1) - 1, by omega⟩
      obtain ⟨s, e2, hs⟩ := hd3.2 c (by omega)
      have hcn : Anc (upOf d) c (m + 1) := by
        rcases Nat.lt_or_ge (m + 1) c with h2 | h2
        · rw [← C_anc hd0 (by omega), C_step hd0 (by omega)]
          exact List.mem_cons_of_mem _ (under_in hd0 hn c (by omega) h2 (by omega))
        · have : c = m + 1 := by omega
          subst this; exact .refl _
      rw [hc] at ho ⊢
      have h3 := hd3.two hcn (by omega) hs (by omega)
      cases h3 with
      | refl _ => omega
      | up e3 h5 =>
        rename_i j
        have := hd3.le (k := j) (by omega) h5
        omega)
  rw [hsame] at h1 h2
  refine ⟨(kidsTo d q (m + 1)).length, thereE_iff.2 ⟨hd, by omega, by omega⟩, by rw [hkid]; simp, by rw [hkid]; simp, fun i hi => ?_, ?_, ?_⟩
  · rw [hkid, List.getD_eq_getElem?_getD, List.getElem?_append_left hi, List.getElem?_eq_getElem hi, Option.getD_some]
    have := kidsTo_lt _ (List.getElem_mem hi)
    omega
  · unfold insE
    rw [if_pos hy, if_pos hp, if_neg (by omega), Int.toNat_natCast, if_neg (by omega), if_neg (by omega)]
  · rw [docInsert, Int.toNat_natCast, Int.toNat_natCast, h2, Int.toNat_natCast]
    exact rem_ins hd h0 hn hk
end Go.Hx
end

section
/-
  Right documents: what is laid when a tree is a kid of an element. Plain Lean, no program in sight. No condition.
-/
namespace Go.Hx

variable [Glob]

/-- A tree among kids, at a place (from the i-th on); it is laid if so said. -/
def insL (b : Bool) (at' : Int) (e : Tr) : Nat → List Tr → List Tr
  | i, [] => if b && decide ((i : Int) = at') then [e] else []
  | i, t :: r => if b && decide ((i : Int) = at') then e :: t :: insL b at' e (i + 1) r else t :: insL b at' e (i + 1) r
mutual
def withT (up at' : Int) (e : Tr) : Tr → Tr
  | .mk x k => .mk x (insL (decide (x.up = up)) at' e 0 (withTs up at' e k))
def withTs (up at' : Int) (e : Tr) : List Tr → List Tr
  | [] => []
  | t :: r => withT up at' e t :: withTs up at' e r
end
theorem withTs_map (up at' : Int) (e : Tr) : ∀ l, withTs up at' e l = l.map (withT up at' e)
  | [] => rfl
  | t :: r => by simp only [withTs, List.map_cons, withTs_map up at' e r]
theorem insL_f (at' : Int) (e : Tr) : ∀ (l : List Tr) (i : Nat), insL false at' e i l = l
  | [], i => by simp [insL]
  | t :: r, i => by simp [insL, insL_f at' e r]
theorem insL_past {at' : Int} {e : Tr} : ∀ (l : List Tr) (i : Nat), at' < i → insL true at' e i l = l
  | [], i, h => by simp [insL]; omega
  | t :: r, i, h => by
    have h1 : ¬ (i : Int) = at' := by omega
    have h2 := insL_past (at' := at') (e := e) r (i + 1) (by omega)
    simp only [insL, h1, decide_false, Bool.and_false, Bool.false_eq_true, if_false, h2]
mutual
def forT : Tr → Tr
  | .mk x k => .mk { x with up := -2 } (forTs k)
def forTs : List Tr → List Tr
  | [] => []
  | t :: r => forT t :: forTs r
end
mutual
theorem lay_forT : ∀ (t : Tr) (l : List Nd) (u : Int), layT (forT t) l u = layT t l u
  | .mk x k, l, u => by
    simp only [forT, layT]
    rw [lay_forTs k]
theorem lay_forTs : ∀ (k : List Tr) (l : List Nd) (u : Int), layTs (forTs k) l u = layTs k l u
  | [], l, u => rfl
  | t :: r, l, u => by
    simp only [forTs, layTs]
    rw [lay_forT t, lay_forTs r]
end
def insF (d : List Nd) (up at' : Int) (e : List Nd) : List Nd := layT (withT up at' (forT (treeF e e.length 0)) (markF d d.length 0)) [] (-1)

/-- Marked trees are laid as the trees are. -/
theorem lay_mark {d : List Nd} : ∀ (f n : Nat) (l : List Nd) (u : Int), layT (markF d f n) l u = layT (treeF d f n) l u
  | 0, n, l, u => rfl
  | f + 1, n, l, u => by
    have h : ∀ (ks : List Int) (l : List Nd) (u : Int), layTs (ks.map fun k => markF d f k.toNat) l u = layTs (ks.map fun k => treeF d f k.toNat) l u := by
      intro ks
      induction ks with
      | nil => intro l u; rfl
      | cons k ks ih => intro l u; simp only [List.map_cons, layTs]; rw [lay_mark f, ih]
    simp only [markF, treeF, layT]
    rw [h]

section
variable {d : List Nd} (hd : docOk d d.length = true)
include hd

/-- Where what is marked has no such mark, nothing is laid. -/
theorem with_out {k0 : Nat} {at' : Int} {et : Tr} : ∀ (f k : Nat), k < d.length → d.length ≤ k + f → ¬ (k ≤ k0 ∧ k0 < behind d k) → withT k0 at' et (markF d f k) = markF d f k
  | 0, k, hk, h, _ => by omega
  | f + 1, k, hk, h, hout => by
    have hb := behind_le hk
    simp only [markF, withT]
    have hne : decide ((k : Int) = (k0 : Int)) = false := by simp; omega
    have hup : ({ d.getD k default with up := (k : Int) } : Nd).up = (k : Int) := rfl
    rw [hne, insL_f, withTs_map, List.map_map]
    congr 1
    refine List.map_congr_left fun j hj => ?_
    rw [← docKids_eq hd hk] at hj
    have hkid : ∃ i : Nat, j = i ∧ k < i ∧ i < behind d k := by
      rw [docKids_eq hd hk, ← kids_to_behind hd hk] at hj
      unfold kidsTo at hj
      obtain ⟨i, h1, rfl⟩ := List.mem_map.1 hj
      rw [List.mem_filter] at h1
      have h2 : i < behind d k := by simpa using h1.1
      have h3 : upOf d i = k := by simpa using h1.2
      have := (docOk_up hd i (by omega)).2
      exact ⟨i, rfl, by omega, h2⟩
    obtain ⟨i, rfl, h1, h2⟩ := hkid
    have hm := behind_mono hk h1 h2
    simp only [Function.comp_apply, Int.toNat_natCast]
    exact with_out f i (by omega) (by omega) (by omega)

variable {e : List Nd} {n k0 : Nat}
/-- Where an element lies when others are laid at n. -/
def ip (n E : Nat) (j : Int) : Int := if j ≥ n then j + E else j
def segI (d : List Nd) (n E a b : Nat) : List Nd := (List.range' a (b - a)).map fun j => { d.getD j default with up := ip n E (upOf d j) }
omit hd in
theorem segI_app {E : Nat} {a b c : Nat} (h1 : a ≤ b) (h2 : b ≤ c) : segI d n E a b ++ segI d n E b c = segI d n E a c := by
  unfold segI
  rw [← List.map_append]
  congr 1
  have := List.range'_append (s := a) (m := b - a) (n := c - b) (step := 1)
  rw [show a + 1 * (b - a) = b by omega, show b - a + (c - b) = c - a by omega] at this
  exact this
omit hd in
theorem segI_nil {E a : Nat} : segI d n E a a = [] := by simp [segI]
omit hd in
theorem segI_len {E a b : Nat} : (segI d n E a b).length = b - a := by simp [segI]
omit hd in
theorem segI_cons {E a b : Nat} (h : a < b) : segI d n E a b = { d.getD a default with up := ip n E (upOf d a) } :: segI d n E (a + 1) b := by
  unfold segI
  rw [show b - a = (b - (a + 1)) + 1 by omega, List.range'_succ]
  rfl
/-- An element that does not hold the place, with all under it. -/
theorem lay_out {E : Nat} (hk0 : k0 < n) (hn : n ≤ d.length) (hs : n < d.length → upOf d n ≤ k0) {f i : Nat} (hi : i < d.length) (hf : d.length ≤ i + f) (hout : ¬ (i ≤ k0 ∧ k0 < behind d i)) {at' : Int} {et : Tr} {l : List Nd} {p : Nat} (hup : upOf d i = p) (hl : (l.length : Int) = ip n E i) :
    layT (withT k0 at' et (markF d f i)) l (ip n E p) = l ++ segI d n E i (behind d i) ∧ (n ≤ i → ((l ++ segI d n E i (behind d i)).length : Int) = ip n E (behind d i)) := by
  have hb := behind_le hi
  have hcase : n ≤ i ∨ behind d i ≤ n := by
    apply Classical.byContradiction
    intro hc
    have h1 := behind_in hi (k := n) (by omega) (by omega)
    have h2 := hs (by omega)
    omega
  rw [with_out hd f i hi hf hout, lay_mark]
  have hoff : ip n E i = i + (if n ≤ i then (E : Int) else 0) := by unfold ip; split <;> split <;> omega
  rw [lay_tree hd (if n ≤ i then (E : Int) else 0) f i hi hf l _ (by rw [hl, hoff]), segI_cons hb.1, hup]
  constructor
  · congr 2
    unfold seg segI
    refine List.map_congr_left fun j hj => ?_
    rw [List.mem_range'_1] at hj
    have h1 := behind_in hi (k := j) (by omega) (by omega)
    have h2 := (docOk_up hd j (by omega)).2
    have h3 : upOf d j + (if n ≤ i then (E : Int) else 0) = ip n E (upOf d j) := by
      unfold ip
      by_cases hni : n ≤ i
      · rw [if_pos hni, if_pos (by omega)]
      · rw [if_neg hni, if_neg (by omega)]; omega
    rw [h3]
  · intro hni
    rw [← hup, ← segI_cons hb.1, List.length_append, segI_len]
    unfold ip at hl ⊢
    rw [if_pos (by omega)] at hl
    rw [if_pos (by omega)]
    omega

/-- Kids from i on that do not hold the place. -/
theorem kids_out {E : Nat} (hk0 : k0 < n) (hn : n ≤ d.length) (hs : n < d.length → upOf d n ≤ k0) {f k : Nat} (hk : k < d.length) {at' : Int} {et : Tr} (hf : d.length ≤ k + (f + 1)) :
    ∀ (g i : Nat), k < i → i ≤ behind d k → (i < behind d k → upOf d i = k) → d.length ≤ i + g → n ≤ i → ∀ l : List Nd, (l.length : Int) = ip n E i →
      layTs (withTs k0 at' et ((kidsF d k g i).map fun j => markF d f j.toNat)) l (ip n E k) = l ++ segI d n E i (behind d k) := by
  have hb := behind_le hk
  intro g
  induction g with
  | zero =>
    intro i h1 h2 h3 h4 _ l hl
    have : i = behind d k := by omega
    subst this
    simp [kidsF, withTs, layTs, segI_nil]
  | succ g ihg =>
    intro i h1 h2 h3 h4 hno l hl
    simp only [kidsF]
    split
    · rename_i h5
      have hi : i < d.length := by omega
      have hm := behind_mono hk h1 h5
      have hbi := behind_le hi
      simp only [List.map_cons, withTs, layTs, Int.toNat_natCast]
      obtain ⟨e1, e2⟩ := lay_out hd (E := E) hk0 hn hs hi (f := f) (by omega) (at' := at') (et := et) (by omega) (h3 h5) hl
      rw [e1, ihg (behind d i) (by omega) hm (next_kid hd hk h1 h5 (h3 h5)) (by omega) (by omega) _ (e2 hno), List.append_assoc, segI_app (by omega) hm]
    · have : i = behind d k := by omega
      subst this
      simp [withTs, layTs, segI_nil]

/-- What is laid at the place. -/
def blkI (e : List Nd) (k0 n : Nat) : List Nd := e.map (turnUp fun j => if j < 0 then (k0 : Int) else j + n)
theorem lay_blk (he : docOk e e.length = true) (h0 : 0 < e.length) {l : List Nd} (hl : l.length = n) : layT (forT (treeF e e.length 0)) l k0 = l ++ blkI e k0 n := by
  rw [lay_forT, lay_tree he n e.length 0 h0 (by omega) l _ (by omega), behind_zero he h0]
  congr 1
  have e1 : e = (e.take e.length).drop 0 := by simp
  have e2 := cut_eq (d := e) (Nat.zero_le e.length) (Nat.le_refl _)
  rw [← e1] at e2
  unfold blkI
  conv => rhs; rw [e2]
  rw [List.map_map, show e.length - 0 = (e.length - 1) + 1 by omega, List.range'_succ, List.map_cons]
  unfold seg
  congr 1
  · have := up_zero he h0
    simp only [Function.comp_apply, turnUp]
    unfold upOf at this
    rw [if_pos (by rw [this]; omega)]
  · refine List.map_congr_left fun j hj => ?_
    rw [List.mem_range'_1] at hj
    have := up_nonneg he (k := j) (by omega) (by omega)
    simp only [Function.comp_apply, turnUp]
    unfold upOf at this ⊢
    rw [if_neg (by omega)]

/-- The kids of the element itself, from i on. -/
theorem kids_at (he : docOk e e.length = true) (h0 : 0 < e.length) (hk0 : k0 < n) (hn : n ≤ behind d k0) (hkl : k0 < d.length) (hs : n < d.length → upOf d n ≤ k0) {f : Nat} (hf : d.length ≤ k0 + (f + 1)) :
    ∀ (g i : Nat), k0 < i → i ≤ n → (i < behind d k0 → upOf d i = k0) → d.length ≤ i + g → ∀ l : List Nd, l.length = i → ∀ (c : Nat), (kidsTo d k0 i).length = c →
      layTs (insL true ((kidsTo d k0 n).length : Int) (forT (treeF e e.length 0)) c (withTs k0 ((kidsTo d k0 n).length : Int) (forT (treeF e e.length 0)) ((kidsF d k0 g i).map fun j => markF d f j.toNat))) l k0 = l ++ (segI d n e.length i n ++ (blkI e k0 n ++ segI d n e.length n (behind d k0))) := by
  have hb := behind_le hkl
  have hipk : ip n e.length k0 = k0 := by unfold ip; rw [if_neg (by omega)]
  intro g
  induction g with
  | zero =>
    intro i h1 h2 h3 h4 l hl c hc
    have e1 : i = n := by omega
    have e2 : n = behind d k0 := by omega
    subst e1
    rw [← hc, ← e2]
    simp only [kidsF, List.map_nil, withTs, insL, decide_true, Bool.and_self, if_true, layTs, segI_nil, List.nil_append, List.append_nil]
    exact lay_blk hd he h0 hl
  | succ g ihg =>
    intro i h1 h2 h3 h4 l hl c hc
    by_cases hin : i = n
    · subst hin
      have key : layTs (withTs k0 ((kidsTo d k0 i).length : Int) (forT (treeF e e.length 0)) ((kidsF d k0 (g + 1) i).map fun j => markF d f j.toNat)) (l ++ blkI e k0 i) (ip i e.length k0) = (l ++ blkI e k0 i) ++ segI d i e.length i (behind d k0) := by
        refine kids_out hd hk0 (by omega) hs hkl hf (g + 1) i h1 (by omega) h3 h4 (by omega) _ ?_
        unfold ip
        rw [if_pos (by omega)]
        simp [blkI]; omega
      rw [hipk] at key
      rw [segI_nil, List.nil_append, ← List.append_assoc, ← key]
      have hlay := lay_blk (k0 := k0) hd he h0 hl
      cases hks : withTs k0 ((kidsTo d k0 i).length : Int) (forT (treeF e e.length 0)) ((kidsF d k0 (g + 1) i).map fun j => markF d f j.toNat) with
      | nil =>
        rw [← hc]
        simp only [insL, decide_true, Bool.and_self, if_true, layTs]
        exact hlay
      | cons t r =>
        rw [← hc]
        simp only [insL, decide_true, Bool.and_self, if_true, layTs]
        rw [hlay, insL_past r _ (by omega)]
    · have hlt : i < n := by omega
      have h5 : i < behind d k0 := by omega
      have hi : i < d.length := by omega
      have hm := behind_mono hkl h1 h5
      have hbi := behind_le hi
      have hbn : behind d i ≤ n := by
        apply Classical.byContradiction
        intro hcc
        have h6 := behind_in hi (k := n) (by omega) (by omega)
        have h7 := hs (by omega)
        omega
      have hcnt : (kidsTo d k0 (behind d i)).length = c + 1 := by
        have e1 : kidsTo d k0 (behind d i) = kidsTo d k0 (i + 1) := kidsTo_skip hbi.1 fun j h6 h7 => by
          have := behind_in hi (k := j) (by omega) h7
          omega
        rw [e1, kidsTo_succ, if_pos (h3 h5), List.length_append, hc]
        rfl
      have hcn : c + 1 ≤ (kidsTo d k0 n).length := by
        obtain ⟨r, hr⟩ := kidsTo_pre (d := d) (n := (k0 : Int)) hbn
        rw [hr, List.length_append, hcnt]; omega
      have hne : ¬ (c : Int) = ((kidsTo d k0 n).length : Int) := by omega
      rw [kidsF, if_pos h5]
      simp only [List.map_cons, withTs, insL, Bool.true_and, hne, decide_false, Bool.false_eq_true, if_false, layTs, Int.toNat_natCast]
      have hl' : (l.length : Int) = ip n e.length i := by unfold ip; rw [if_neg (by omega)]; omega
      obtain ⟨e1, e2⟩ := lay_out hd (E := e.length) hk0 (by omega) hs hi (f := f) (by omega) (at' := ((kidsTo d k0 n).length : Int)) (et := forT (treeF e e.length 0)) (by omega) (h3 h5) hl'
      rw [hipk] at e1
      rw [e1, ihg (behind d i) (by omega) hbn (next_kid hd hkl h1 h5 (h3 h5)) (by omega) _ (by rw [List.length_append, segI_len]; omega) (c + 1) hcnt, List.append_assoc, ← List.append_assoc (segI d n e.length i (behind d i)), segI_app (by omega) hbn]

/-- An element that holds the place, with all under it. -/
theorem lay_in (he : docOk e e.length = true) (h0 : 0 < e.length) (hk0 : k0 < n) (hkl : k0 < d.length) (hn : n ≤ behind d k0) (hs : n < d.length → upOf d n ≤ k0) : ∀ (f k : Nat), k < d.length → d.length ≤ k + f → k ≤ k0 → k0 < behind d k → ∀ (l : List Nd) (u : Int), l.length = k →
    layT (withT k0 ((kidsTo d k0 n).length : Int) (forT (treeF e e.length 0)) (markF d f k)) l u = l ++ { d.getD k default with up := u } :: (segI d n e.length (k + 1) n ++ (blkI e k0 n ++ segI d n e.length n (behind d k)))
  | 0, k, hk, h, _, _, l, u, hl => by omega
  | f + 1, k, hk, h, hkk, hkb, l, u, hl => by
    have hb := behind_le hk
    have hb0 := behind_le hkl
    by_cases hke : k = k0
    · subst hke
      simp only [markF, withT, decide_true, layT]
      rw [← docKids_eq hd hk, hl]
      have key := kids_at hd he h0 hk0 hn hkl hs (f := f) (by omega) d.length (k + 1) (by omega) (by omega) (first_kid hd hk) (by omega) (l ++ [{ d.getD k default with up := u }]) (by simp [hl]) 0 (by
        rw [kidsTo_skip (Nat.zero_le _) fun j _ h2 => by have := docOk_up hd j (by omega); omega]
        simp [kidsTo])
      unfold docKids
      rw [key]
      simp
    · simp only [markF, withT, layT]
      have hne : decide ((k : Int) = (k0 : Int)) = false := by simp; omega
      rw [hne, insL_f, ← docKids_eq hd hk, hl]
      have hipk : ip n e.length k = k := by unfold ip; rw [if_neg (by omega)]
      have loop : ∀ (g i : Nat), k < i → i ≤ k0 → upOf d i = k → d.length ≤ i + g → ∀ l : List Nd, l.length = i →
          layTs (withTs k0 ((kidsTo d k0 n).length : Int) (forT (treeF e e.length 0)) ((kidsF d k g i).map fun j => markF d f j.toNat)) l k = l ++ (segI d n e.length i n ++ (blkI e k0 n ++ segI d n e.length n (behind d k))) := by
        intro g
        induction g with
        | zero => intro i h1 h2 h3 h4 l hl; omega
        | succ g ihg =>
          intro i h1 h2 h3 h4 l hl
          have h5 : i < behind d k := by omega
          have hi : i < d.length := by omega
          have hm := behind_mono hk h1 h5
          have hbi := behind_le hi
          rw [kidsF, if_pos h5]
          simp only [List.map_cons, withTs, layTs, Int.toNat_natCast]
          have hl' : (l.length : Int) = ip n e.length i := by unfold ip; rw [if_neg (by omega)]; omega
          by_cases hin : k0 < behind d i
          · have hnb : n ≤ behind d i := by
              have h6 : behind d k0 ≤ behind d i := by
                rcases Nat.lt_or_ge i k0 with h7 | h7
                · exact behind_mono hi h7 hin
                · have : i = k0 := by omega
                  rw [this]; exact Nat.le_refl _
              omega
            rw [lay_in he h0 hk0 hkl hn hs f i hi (by omega) h2 hin l k hl]
            have e1 : l ++ { d.getD i default with up := (k : Int) } :: (segI d n e.length (i + 1) n ++ (blkI e k0 n ++ segI d n e.length n (behind d i))) = l ++ (segI d n e.length i n ++ (blkI e k0 n ++ segI d n e.length n (behind d i))) := by
              rw [segI_cons (a := i) (by omega), h3, hipk]
              simp
            rw [e1]
            have h9 := kids_out hd (E := e.length) hk0 (by omega) hs hk (f := f) (at' := ((kidsTo d k0 n).length : Int)) (et := forT (treeF e e.length 0)) (by omega) g (behind d i) (by omega) hm (next_kid hd hk h1 h5 h3) (by omega) (by omega) (l ++ (segI d n e.length i n ++ (blkI e k0 n ++ segI d n e.length n (behind d i)))) (by
              simp only [List.length_append, segI_len, blkI, List.length_map, hl]
              unfold ip
              rw [if_pos (by omega)]
              omega)
            rw [hipk] at h9
            rw [h9]
            simp only [List.append_assoc]
            rw [segI_app hnb hm]
          · obtain ⟨e1, e2⟩ := lay_out hd (E := e.length) hk0 (by omega) hs hi (f := f) (by omega) (at' := ((kidsTo d k0 n).length : Int)) (et := forT (treeF e e.length 0)) (by omega) h3 hl'
            rw [hipk] at e1
            rw [e1, ihg (behind d i) (by omega) (by omega) (next_kid hd hk h1 h5 h3 (by omega)) (by omega) _ (by rw [List.length_append, segI_len]; omega), List.append_assoc, ← List.append_assoc (segI d n e.length i (behind d i)), segI_app (by omega) (by omega)]
      have hfk : k + 1 < behind d k := by omega
      have key := loop d.length (k + 1) (by omega) (by omega) (first_kid hd hk hfk) (by omega) (l ++ [{ d.getD k default with up := u }]) (by simp [hl])
      unfold docKids
      rw [key]
      simp
end

theorem map_ip {d : List Nd} {n E a b : Nat} (h : a ≤ b) (hb : b ≤ d.length) : ((d.take b).drop a).map (turnUp fun j => if j ≥ n then j + E else j) = segI d n E a b := by
  rw [cut_eq h hb, List.map_map]
  rfl
theorem docInsert_eq {d e : List Nd} {up at' : Int} (h : insE d up at' e = 0) : docInsert d up at' e = insF d up at' e := by
  unfold insE at h
  split at h
  case isFalse h1 => exact absurd h h1
  rename_i hd
  split at h
  case isFalse h1 => exact absurd h h1
  rename_i he
  split at h
  · cases h
  rename_i h1
  split at h
  · cases h
  rename_i h2
  split at h
  · cases h
  obtain ⟨d1, d2, d3⟩ := checkDoc_ok hd
  obtain ⟨e1, e2, e3⟩ := checkDoc_ok he
  obtain ⟨k0, rfl⟩ : ∃ k : Nat, up = k := ⟨up.toNat, by omega⟩
  obtain ⟨at0, rfl⟩ : ∃ k : Nat, at' = k := ⟨at'.toNat, by omega⟩
  simp only [Int.toNat_natCast] at h2
  have hkl : k0 < d.length := by omega
  obtain ⟨n, p1, p2, p3, p4, p5, p6⟩ := place_at d3 hkl (at' := at0) (by omega)
  have hnb : n ≤ behind d k0 := by
    apply Classical.byContradiction
    intro hc
    exact under_out d3 hkl (n - 1) (by omega) (by omega) ((C_anc d3 (by omega)).2 p4)
  have hb0 := behind_zero d3 (by omega)
  have hk0b : k0 < behind d 0 := by omega
  unfold docInsert insF
  rw [Int.toNat_natCast, Int.toNat_natCast, p1, Int.toNat_natCast]
  have key := lay_in d3 e3 (by omega) p2 hkl hnb p5 d.length 0 (by omega) (by omega) (by omega) hk0b [] (-1) rfl
  rw [p6] at key
  rw [key, hb0, ins_app]
  have c1 := map_ip (d := d) (n := n) (E := e.length) (Nat.zero_le n) p3
  have c2 := map_ip (d := d) (n := n) (E := e.length) p3 (Nat.le_refl _)
  rw [List.drop_zero] at c1
  rw [List.take_length] at c2
  rw [c1, c2, segI_cons (by omega), up_zero d3 (by omega)]
  unfold ip
  rw [if_neg (by omega)]
  simp [blkI]
end Go.Hx
end
