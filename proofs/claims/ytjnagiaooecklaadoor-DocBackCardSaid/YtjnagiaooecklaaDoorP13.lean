/-
  Walks of functions of the program: each contract says what the function computes, for every input that its conditions let by. No other condition.
-/
import Derived.Test.YtjnagiaooecklaaDoorP12
set_option linter.all false
-- DOM ndsV_take, ndsV_drop, List.take_length
set_option maxRecDepth 100000
set_option linter.unusedSimpArgs false
namespace Go.Hx
open Go.Proofs

theorem ndsV_take (d : List Nd) (n : Nat) : (ndsV d).take n = ndsV (d.take n) := by simp [ndsV]
theorem ndsV_drop (d : List Nd) (n : Nat) : (ndsV d).drop n = ndsV (d.drop n) := by simp [ndsV]
theorem getD_mem {l : List Int} {i : Nat} (h : i < l.length) : l.getD i 0 ∈ l := by simp [h]
theorem mem_idx {d : List Nd} {x : Nd} (h : x ∈ d) : ∃ i, i < d.length ∧ d.getD i default = x := by
  obtain ⟨i, hi, e⟩ := List.getElem_of_mem h
  exact ⟨i, hi, by simp [hi, e]⟩
theorem right_mem {d : List Nd} (hd : docOk d d.length = true) (hl : d.length ≤ 64) {x : Nd} (h : x ∈ d) : smallNd x ∧ -1000 ≤ x.up ∧ x.up ≤ 1000 := by
  obtain ⟨i, hi, rfl⟩ := mem_idx h
  have h1 := nodeFine_len (docOk_node hd hi)
  have h2 := docOk_up hd i hi
  simp only [upOf] at h2
  exact ⟨⟨by omega, by omega⟩, by omega, by omega⟩

def docPart (d : List Nd) (n : Nat) : List Nd := ((d.take (behind d n)).drop n).map (turnUp fun up => max (up - n) (-1))
theorem c_doc_Part (d : List Nd) (k : Int) : Contract Tryd.prog fn_doc_Part [.val (docV d), .val (iv k)] { res := .tup [docV (if thereE d k = 0 then docPart d k.toNat else []), iv (thereE d k)] } := by
  unfold docV
  refine mk_doc_Part (base := 0) ⟨Nat.le_of_ble_eq_true rfl, Nat.le_of_ble_eq_true rfl, Nat.le_of_ble_eq_true rfl, rfl⟩ (fun hfit => ?_)
  unfold F0 doc_Part_E
  simp (config := { maxSteps := 2000000 }) only [markU, List.set_cons_succ, List.set_cons_zero, List.map_cons, List.map_nil, argCt, setCells, ioOf, List.length_cons, List.length_nil, Nat.reduceAdd, Nat.reduceSub, List.replicate, List.cons_append, List.nil_append]
  try simp (config := { maxSteps := 2000000 }) only [go_sem, reduceCtorEq, Nat.reduceAdd, Nat.reduceEqDiff, reduceIte, Nat.reduceLeDiff, Nat.reduceLT, Nat.reduceSub, ndsV_take, ndsV_drop, List.take_length, ndsV_len, clsV_len, attV_len, intsR_len, ndV, cellsEq]
  all_goals (repeat (with_reducible refine And.intro (by (first | omega | exact inR_small (by omega) (by omega) | exact fun _ => inR_small (by omega) (by omega) | assumption | trivial | (intros; omega) | (simp_all; done) | (intros; simp [*]; done) | (simp_all; omega) | grind)) ?_))
  refine call_val (by repeat' constructor) (c_doc_there d k) ?_
  try simp (config := { maxSteps := 2000000 }) only [go_sem, reduceCtorEq, Nat.reduceAdd, Nat.reduceEqDiff, reduceIte, Nat.reduceLeDiff, Nat.reduceLT, Nat.reduceSub, ndsV_take, ndsV_drop, List.take_length, ndsV_len, clsV_len, attV_len, intsR_len, ndV, cellsEq]
  all_goals (repeat (with_reducible refine And.intro (by (first | omega | exact inR_small (by omega) (by omega) | exact fun _ => inR_small (by omega) (by omega) | assumption | trivial | (intros; omega) | (simp_all; done) | (intros; simp [*]; done) | (simp_all; omega) | grind)) ?_))
  refine cond_of (by rfl) trivial (fun h => ?_) (fun h => ?_)
  · try simp (config := { maxSteps := 2000000 }) only [go_sem, reduceCtorEq, Nat.reduceAdd, Nat.reduceEqDiff, reduceIte, Nat.reduceLeDiff, Nat.reduceLT, Nat.reduceSub, ndsV_take, ndsV_drop, List.take_length, ndsV_len, clsV_len, attV_len, intsR_len, ndV, cellsEq]
    all_goals (repeat (with_reducible refine And.intro (by (first | omega | exact inR_small (by omega) (by omega) | exact fun _ => inR_small (by omega) (by omega) | assumption | trivial | (intros; omega) | (simp_all; done) | (intros; simp [*]; done) | (simp_all; omega) | grind)) ?_))
    have h2 : ¬ thereE d k = 0 := by simpa using h
    rw [if_neg h2]
    exact fin_tup (by simp) ⟨rs_cellB rfl rfl (.inr rfl), rs_tmp rfl trivial (.inl rfl), rfl⟩
  · try simp (config := { maxSteps := 2000000 }) only [go_sem, reduceCtorEq, Nat.reduceAdd, Nat.reduceEqDiff, reduceIte, Nat.reduceLeDiff, Nat.reduceLT, Nat.reduceSub, ndsV_take, ndsV_drop, List.take_length, ndsV_len, clsV_len, attV_len, intsR_len, ndV, cellsEq]
    all_goals (repeat (with_reducible refine And.intro (by (first | omega | exact inR_small (by omega) (by omega) | exact fun _ => inR_small (by omega) (by omega) | assumption | trivial | (intros; omega) | (simp_all; done) | (intros; simp [*]; done) | (simp_all; omega) | grind)) ?_))
    have h2 : thereE d k = 0 := by simpa using h
    obtain ⟨h3, h4, h5⟩ := thereE_ok h2
    obtain ⟨h6, h7, h8⟩ := checkDoc_ok h3
    rw [if_pos h2]
    obtain ⟨m, rfl⟩ : ∃ m : Nat, k = m := ⟨k.toNat, by omega⟩
    have hm : m < d.length := by omega
    have hb := behind_le hm
    refine call_val (by repeat' constructor) (Contract.av (c_doc_behind d m hm) (by first | rfl | (simp (config := { maxSteps := 2000000 }) only [go_sem, reduceCtorEq, Nat.reduceAdd, Nat.reduceEqDiff, reduceIte, Nat.reduceLeDiff, Nat.reduceLT, Nat.reduceSub, ndsV_take, ndsV_drop, List.take_length, ndsV_len, clsV_len, attV_len, intsR_len, ndV, cellsEq]; done) | (simp (config := { maxSteps := 2000000 }) only [go_sem, reduceCtorEq, Nat.reduceAdd, Nat.reduceEqDiff, reduceIte, Nat.reduceLeDiff, Nat.reduceLT, Nat.reduceSub, ndsV_take, ndsV_drop, List.take_length, ndsV_len, clsV_len, attV_len, intsR_len, ndV, cellsEq]; rfl))) ?_
    try simp (config := { maxSteps := 2000000 }) only [go_sem, reduceCtorEq, Nat.reduceAdd, Nat.reduceEqDiff, reduceIte, Nat.reduceLeDiff, Nat.reduceLT, Nat.reduceSub, ndsV_take, ndsV_drop, List.take_length, ndsV_len, clsV_len, attV_len, intsR_len, ndV, cellsEq]
    all_goals (repeat (with_reducible refine And.intro (by (first | omega | exact inR_small (by omega) (by omega) | exact fun _ => inR_small (by omega) (by omega) | assumption | trivial | (intros; omega) | (simp_all; done) | (intros; simp [*]; done) | (simp_all; omega) | grind)) ?_))
    have hsub : ∀ x ∈ (d.take (behind d m)).drop m, x ∈ d := fun x hx => List.mem_of_mem_take (List.mem_of_mem_drop hx)
    refine call_own (by repeat' constructor) (Contract.av (c_doc_own ((d.take (behind d m)).drop m) fn_doc_Part_1 [.fp [bI m]] (fun up => max (up - m) (-1)) (by simp; omega) (fun x hx => (right_mem h8 h7 (hsub x hx)).1) (fun x hx => c_doc_Part_1 x.up m (right_mem h8 h7 (hsub x hx)).2 (by omega))) (by first | rfl | (simp (config := { maxSteps := 2000000 }) only [go_sem, reduceCtorEq, Nat.reduceAdd, Nat.reduceEqDiff, reduceIte, Nat.reduceLeDiff, Nat.reduceLT, Nat.reduceSub, ndsV_take, ndsV_drop, List.take_length, ndsV_len, clsV_len, attV_len, intsR_len, ndV, cellsEq]; done) | (simp (config := { maxSteps := 2000000 }) only [go_sem, reduceCtorEq, Nat.reduceAdd, Nat.reduceEqDiff, reduceIte, Nat.reduceLeDiff, Nat.reduceLT, Nat.reduceSub, ndsV_take, ndsV_drop, List.take_length, ndsV_len, clsV_len, attV_len, intsR_len, ndV, cellsEq]; rfl))) ?_
    try simp (config := { maxSteps := 2000000 }) only [go_sem, reduceCtorEq, Nat.reduceAdd, Nat.reduceEqDiff, reduceIte, Nat.reduceLeDiff, Nat.reduceLT, Nat.reduceSub, ndsV_take, ndsV_drop, List.take_length, ndsV_len, clsV_len, attV_len, intsR_len, ndV, cellsEq]
    all_goals (repeat (with_reducible refine And.intro (by (first | omega | exact inR_small (by omega) (by omega) | exact fun _ => inR_small (by omega) (by omega) | assumption | trivial | (intros; omega) | (simp_all; done) | (intros; simp [*]; done) | (simp_all; omega) | grind)) ?_))
    rw [h2]
    exact fin_tup (by simp) ⟨rs_cellB rfl rfl (.inl rfl), rs_tmp rfl trivial (.inl rfl), rfl⟩

def docRemove (d : List Nd) (n : Nat) : List Nd := [(d.take n).map (turnUp fun k => if k ≥ behind d n then k - behind d n + n else k), (d.drop (behind d n)).map (turnUp fun k => if k ≥ behind d n then k - behind d n + n else k)].flatten
def remE (d : List Nd) (k : Int) : Int := if thereE d k = 0 then (if k = 0 then 3 else 0) else thereE d k
theorem c_doc_Remove (d : List Nd) (k : Int) : Contract Tryd.prog fn_doc_Remove [.val (docV d), .val (iv k)] { res := .tup [docV (if remE d k = 0 then docRemove d k.toNat else []), iv (remE d k)] } := by
  unfold docV
  refine mk_doc_Remove (base := 0) ⟨Nat.le_of_ble_eq_true rfl, Nat.le_of_ble_eq_true rfl, Nat.le_of_ble_eq_true rfl, rfl⟩ (fun hfit => ?_)
  unfold F0 doc_Remove_E
  simp (config := { maxSteps := 2000000 }) only [markU, List.set_cons_succ, List.set_cons_zero, List.map_cons, List.map_nil, argCt, setCells, ioOf, List.length_cons, List.length_nil, Nat.reduceAdd, Nat.reduceSub, List.replicate, List.cons_append, List.nil_append]
  try simp (config := { maxSteps := 2000000 }) only [go_sem, reduceCtorEq, Nat.reduceAdd, Nat.reduceEqDiff, reduceIte, Nat.reduceLeDiff, Nat.reduceLT, Nat.reduceSub, ndsV_take, ndsV_drop, List.take_length, ndsV_len, clsV_len, attV_len, intsR_len, ndV, cellsEq]
  all_goals (repeat (with_reducible refine And.intro (by (first | omega | exact inR_small (by omega) (by omega) | exact fun _ => inR_small (by omega) (by omega) | assumption | trivial | (intros; omega) | (simp_all; done) | (intros; simp [*]; done) | (simp_all; omega) | grind)) ?_))
  refine call_val (by repeat' constructor) (c_doc_there d k) ?_
  try simp (config := { maxSteps := 2000000 }) only [go_sem, reduceCtorEq, Nat.reduceAdd, Nat.reduceEqDiff, reduceIte, Nat.reduceLeDiff, Nat.reduceLT, Nat.reduceSub, ndsV_take, ndsV_drop, List.take_length, ndsV_len, clsV_len, attV_len, intsR_len, ndV, cellsEq]
  all_goals (repeat (with_reducible refine And.intro (by (first | omega | exact inR_small (by omega) (by omega) | exact fun _ => inR_small (by omega) (by omega) | assumption | trivial | (intros; omega) | (simp_all; done) | (intros; simp [*]; done) | (simp_all; omega) | grind)) ?_))
  refine cond_of (by rfl) trivial (fun h => ?_) (fun h => ?_)
  · try simp (config := { maxSteps := 2000000 }) only [go_sem, reduceCtorEq, Nat.reduceAdd, Nat.reduceEqDiff, reduceIte, Nat.reduceLeDiff, Nat.reduceLT, Nat.reduceSub, ndsV_take, ndsV_drop, List.take_length, ndsV_len, clsV_len, attV_len, intsR_len, ndV, cellsEq]
    all_goals (repeat (with_reducible refine And.intro (by (first | omega | exact inR_small (by omega) (by omega) | exact fun _ => inR_small (by omega) (by omega) | assumption | trivial | (intros; omega) | (simp_all; done) | (intros; simp [*]; done) | (simp_all; omega) | grind)) ?_))
    have h2 : ¬ thereE d k = 0 := by simpa using h
    have h3 : remE d k = thereE d k := by simp [remE, h2]
    rw [h3, if_neg h2]
    exact fin_tup (by simp) ⟨rs_cellB rfl rfl (.inr rfl), rs_tmp rfl trivial (.inl rfl), rfl⟩
  have h2 : thereE d k = 0 := by simpa using h
  obtain ⟨h3, h4, h5⟩ := thereE_ok h2
  obtain ⟨h6, h7, h8⟩ := checkDoc_ok h3
  obtain ⟨m, rfl⟩ : ∃ m : Nat, k = m := ⟨k.toNat, by omega⟩
  try simp (config := { maxSteps := 2000000 }) only [go_sem, reduceCtorEq, Nat.reduceAdd, Nat.reduceEqDiff, reduceIte, Nat.reduceLeDiff, Nat.reduceLT, Nat.reduceSub, ndsV_take, ndsV_drop, List.take_length, ndsV_len, clsV_len, attV_len, intsR_len, ndV, cellsEq]
  all_goals (repeat (with_reducible refine And.intro (by (first | omega | exact inR_small (by omega) (by omega) | exact fun _ => inR_small (by omega) (by omega) | assumption | trivial | (intros; omega) | (simp_all; done) | (intros; simp [*]; done) | (simp_all; omega) | grind)) ?_))
  refine cond_of (by rfl) trivial (fun h9 => ?_) (fun h9 => ?_)
  · try simp (config := { maxSteps := 2000000 }) only [go_sem, reduceCtorEq, Nat.reduceAdd, Nat.reduceEqDiff, reduceIte, Nat.reduceLeDiff, Nat.reduceLT, Nat.reduceSub, ndsV_take, ndsV_drop, List.take_length, ndsV_len, clsV_len, attV_len, intsR_len, ndV, cellsEq]
    all_goals (repeat (with_reducible refine And.intro (by (first | omega | exact inR_small (by omega) (by omega) | exact fun _ => inR_small (by omega) (by omega) | assumption | trivial | (intros; omega) | (simp_all; done) | (intros; simp [*]; done) | (simp_all; omega) | grind)) ?_))
    have h10 : (m : Int) = 0 := by simpa using h9
    have h3 : remE d m = 3 := by rw [remE, if_pos h2, if_pos h10]
    rw [h3, if_neg (by omega)]
    exact fin_tup (by simp) ⟨rs_cellB rfl rfl (.inr rfl), rs_tmp rfl trivial (.inl rfl), rfl⟩
  have h10 : ¬ (m : Int) = 0 := by simpa using h9
  have hr : remE d m = 0 := by simp only [remE, h2, h10, if_true, if_false]
  rw [hr, if_pos rfl]
  have hm : m < d.length := by omega
  have hb := behind_le hm
  try simp (config := { maxSteps := 2000000 }) only [go_sem, reduceCtorEq, Nat.reduceAdd, Nat.reduceEqDiff, reduceIte, Nat.reduceLeDiff, Nat.reduceLT, Nat.reduceSub, ndsV_take, ndsV_drop, List.take_length, ndsV_len, clsV_len, attV_len, intsR_len, ndV, cellsEq]
  all_goals (repeat (with_reducible refine And.intro (by (first | omega | exact inR_small (by omega) (by omega) | exact fun _ => inR_small (by omega) (by omega) | assumption | trivial | (intros; omega) | (simp_all; done) | (intros; simp [*]; done) | (simp_all; omega) | grind)) ?_))
  refine call_val (by repeat' constructor) (Contract.av (c_doc_behind d m hm) (by first | rfl | (simp (config := { maxSteps := 2000000 }) only [go_sem, reduceCtorEq, Nat.reduceAdd, Nat.reduceEqDiff, reduceIte, Nat.reduceLeDiff, Nat.reduceLT, Nat.reduceSub, ndsV_take, ndsV_drop, List.take_length, ndsV_len, clsV_len, attV_len, intsR_len, ndV, cellsEq]; done) | (simp (config := { maxSteps := 2000000 }) only [go_sem, reduceCtorEq, Nat.reduceAdd, Nat.reduceEqDiff, reduceIte, Nat.reduceLeDiff, Nat.reduceLT, Nat.reduceSub, ndsV_take, ndsV_drop, List.take_length, ndsV_len, clsV_len, attV_len, intsR_len, ndV, cellsEq]; rfl))) ?_
  try simp (config := { maxSteps := 2000000 }) only [go_sem, reduceCtorEq, Nat.reduceAdd, Nat.reduceEqDiff, reduceIte, Nat.reduceLeDiff, Nat.reduceLT, Nat.reduceSub, ndsV_take, ndsV_drop, List.take_length, ndsV_len, clsV_len, attV_len, intsR_len, ndV, cellsEq]
  all_goals (repeat (with_reducible refine And.intro (by (first | omega | exact inR_small (by omega) (by omega) | exact fun _ => inR_small (by omega) (by omega) | assumption | trivial | (intros; omega) | (simp_all; done) | (intros; simp [*]; done) | (simp_all; omega) | grind)) ?_))
  have hs1 : ∀ x ∈ d.take m, x ∈ d := fun x hx => List.mem_of_mem_take hx
  have hs2 : ∀ x ∈ d.drop (behind d m), x ∈ d := fun x hx => List.mem_of_mem_drop hx
  refine call_own (by repeat' constructor) (Contract.av (c_doc_own (d.take m) fn_doc_Remove_1 [.fp [bI (behind d m)], .fp [bI m]] (fun k => if k ≥ behind d m then k - behind d m + m else k) (by simp; omega) (fun x hx => (right_mem h8 h7 (hs1 x hx)).1) (fun x hx => c_doc_Remove_1 x.up m (behind d m) (right_mem h8 h7 (hs1 x hx)).2 (by omega) (by omega))) (by first | rfl | (simp (config := { maxSteps := 2000000 }) only [go_sem, reduceCtorEq, Nat.reduceAdd, Nat.reduceEqDiff, reduceIte, Nat.reduceLeDiff, Nat.reduceLT, Nat.reduceSub, ndsV_take, ndsV_drop, List.take_length, ndsV_len, clsV_len, attV_len, intsR_len, ndV, cellsEq]; done) | (simp (config := { maxSteps := 2000000 }) only [go_sem, reduceCtorEq, Nat.reduceAdd, Nat.reduceEqDiff, reduceIte, Nat.reduceLeDiff, Nat.reduceLT, Nat.reduceSub, ndsV_take, ndsV_drop, List.take_length, ndsV_len, clsV_len, attV_len, intsR_len, ndV, cellsEq]; rfl))) ?_
  try simp (config := { maxSteps := 2000000 }) only [go_sem, reduceCtorEq, Nat.reduceAdd, Nat.reduceEqDiff, reduceIte, Nat.reduceLeDiff, Nat.reduceLT, Nat.reduceSub, ndsV_take, ndsV_drop, List.take_length, ndsV_len, clsV_len, attV_len, intsR_len, ndV, cellsEq]
  all_goals (repeat (with_reducible refine And.intro (by (first | omega | exact inR_small (by omega) (by omega) | exact fun _ => inR_small (by omega) (by omega) | assumption | trivial | (intros; omega) | (simp_all; done) | (intros; simp [*]; done) | (simp_all; omega) | grind)) ?_))
  refine call_own (by repeat' constructor) (Contract.av (c_doc_own (d.drop (behind d m)) fn_doc_Remove_1 [.fp [bI (behind d m)], .fp [bI m]] (fun k => if k ≥ behind d m then k - behind d m + m else k) (by simp; omega) (fun x hx => (right_mem h8 h7 (hs2 x hx)).1) (fun x hx => c_doc_Remove_1 x.up m (behind d m) (right_mem h8 h7 (hs2 x hx)).2 (by omega) (by omega))) (by first | rfl | (simp (config := { maxSteps := 2000000 }) only [go_sem, reduceCtorEq, Nat.reduceAdd, Nat.reduceEqDiff, reduceIte, Nat.reduceLeDiff, Nat.reduceLT, Nat.reduceSub, ndsV_take, ndsV_drop, List.take_length, ndsV_len, clsV_len, attV_len, intsR_len, ndV, cellsEq]; done) | (simp (config := { maxSteps := 2000000 }) only [go_sem, reduceCtorEq, Nat.reduceAdd, Nat.reduceEqDiff, reduceIte, Nat.reduceLeDiff, Nat.reduceLT, Nat.reduceSub, ndsV_take, ndsV_drop, List.take_length, ndsV_len, clsV_len, attV_len, intsR_len, ndV, cellsEq]; rfl))) ?_
  try simp (config := { maxSteps := 2000000 }) only [go_sem, reduceCtorEq, Nat.reduceAdd, Nat.reduceEqDiff, reduceIte, Nat.reduceLeDiff, Nat.reduceLT, Nat.reduceSub, ndsV_take, ndsV_drop, List.take_length, ndsV_len, clsV_len, attV_len, intsR_len, ndV, cellsEq]
  all_goals (repeat (with_reducible refine And.intro (by (first | omega | exact inR_small (by omega) (by omega) | exact fun _ => inR_small (by omega) (by omega) | assumption | trivial | (intros; omega) | (simp_all; done) | (intros; simp [*]; done) | (simp_all; omega) | grind)) ?_))
  refine call_own (by repeat' constructor) (Contract.av (c_slices_Concat_Node [(d.take m).map (turnUp fun k => if k ≥ behind d m then k - behind d m + m else k), (d.drop (behind d m)).map (turnUp fun k => if k ≥ behind d m then k - behind d m + m else k)] (by simp; omega) (by simp)) (by first | rfl | (simp (config := { maxSteps := 2000000 }) only [go_sem, reduceCtorEq, Nat.reduceAdd, Nat.reduceEqDiff, reduceIte, Nat.reduceLeDiff, Nat.reduceLT, Nat.reduceSub, ndsV_take, ndsV_drop, List.take_length, ndsV_len, clsV_len, attV_len, intsR_len, ndV, cellsEq]; done) | (simp (config := { maxSteps := 2000000 }) only [go_sem, reduceCtorEq, Nat.reduceAdd, Nat.reduceEqDiff, reduceIte, Nat.reduceLeDiff, Nat.reduceLT, Nat.reduceSub, ndsV_take, ndsV_drop, List.take_length, ndsV_len, clsV_len, attV_len, intsR_len, ndV, cellsEq]; rfl))) ?_
  try simp (config := { maxSteps := 2000000 }) only [go_sem, reduceCtorEq, Nat.reduceAdd, Nat.reduceEqDiff, reduceIte, Nat.reduceLeDiff, Nat.reduceLT, Nat.reduceSub, ndsV_take, ndsV_drop, List.take_length, ndsV_len, clsV_len, attV_len, intsR_len, ndV, cellsEq]
  all_goals (repeat (with_reducible refine And.intro (by (first | omega | exact inR_small (by omega) (by omega) | exact fun _ => inR_small (by omega) (by omega) | assumption | trivial | (intros; omega) | (simp_all; done) | (intros; simp [*]; done) | (simp_all; omega) | grind)) ?_))
  exact fin_tup (by simp) ⟨rs_cellB rfl rfl (.inl rfl), rs_tmp rfl trivial (.inl rfl), rfl⟩

/-! Insert -/
theorem kidsF_mem {d : List Nd} {n : Nat} (hb : behind d n ≤ d.length) : ∀ (f i : Nat), (kidsF d n f i).length ≤ f ∧ ∀ x ∈ kidsF d n f i, (i : Int) ≤ x ∧ x < d.length
  | 0, i => by simp [kidsF]
  | f + 1, i => by
    simp only [kidsF]
    split
    · rename_i h
      have h1 := behind_le (d := d) (n := i) (by omega)
      have h2 := kidsF_mem hb f (behind d i)
      refine ⟨by simp; omega, fun x hx => ?_⟩
      rcases List.mem_cons.1 hx with rfl | hx
      · omega
      · have := h2.2 x hx; omega
    · simp
theorem docPlaces_mem {d : List Nd} {n : Nat} (hn : n < d.length) : (docKids d n).length ≤ d.length ∧ ∀ x ∈ docKids d n ++ [(behind d n : Int)], (n : Int) < x ∧ x ≤ d.length := by
  have hb := behind_le hn
  have h := kidsF_mem hb.2 d.length (n + 1)
  refine ⟨h.1, fun x hx => ?_⟩
  rcases List.mem_append.1 hx with hx | hx
  · have := h.2 x hx; omega
  · simp at hx; omega
def docPlaces (d : List Nd) (up : Nat) : List Int := docKids d up ++ [(behind d up : Int)]
def insE (d : List Nd) (up at' : Int) (e : List Nd) : Int :=
  if checkDoc d = 0 then (if checkDoc e = 0 then (if up < 0 ∨ up ≥ d.length then 5 else if at' < 0 ∨ at' ≥ (docPlaces d up.toNat).length then 3 else if d.length + e.length > 64 then 2 else 0) else checkDoc e) else checkDoc d
def docInsertAt (d : List Nd) (up : Int) (n : Nat) (e : List Nd) : List Nd :=
  [(d.take n).map (turnUp fun k => if k ≥ n then k + e.length else k), e.map (turnUp fun k => if k < 0 then up else k + n), (d.drop n).map (turnUp fun k => if k ≥ n then k + e.length else k)].flatten
def docInsert (d : List Nd) (up at' : Int) (e : List Nd) : List Nd := docInsertAt d up ((docPlaces d up.toNat).getD at'.toNat 0).toNat e
theorem c_doc_Insert (d : List Nd) (up at' : Int) (e : List Nd) : Contract Tryd.prog fn_doc_Insert [.val (docV d), .val (iv up), .val (iv at'), .val (docV e)] { res := .tup [docV (if insE d up at' e = 0 then docInsert d up at' e else []), iv (insE d up at' e)] } := by
  unfold docV
  refine mk_doc_Insert (base := 0) ⟨Nat.le_of_ble_eq_true rfl, Nat.le_of_ble_eq_true rfl, Nat.le_of_ble_eq_true rfl, rfl⟩ (fun hfit => ?_)
  unfold F0 doc_Insert_E
  simp (config := { maxSteps := 2000000 }) only [markU, List.set_cons_succ, List.set_cons_zero, List.map_cons, List.map_nil, argCt, setCells, ioOf, List.length_cons, List.length_nil, Nat.reduceAdd, Nat.reduceSub, List.replicate, List.cons_append, List.nil_append]
  try simp (config := { maxSteps := 2000000 }) only [go_sem, reduceCtorEq, Nat.reduceAdd, Nat.reduceEqDiff, reduceIte, Nat.reduceLeDiff, Nat.reduceLT, Nat.reduceSub, ndsV_take, ndsV_drop, List.take_length, ndsV_len, clsV_len, attV_len, intsR_len, ndV, cellsEq]
  all_goals (repeat (with_reducible refine And.intro (by (first | omega | exact inR_small (by omega) (by omega) | exact fun _ => inR_small (by omega) (by omega) | assumption | trivial | (intros; omega) | (simp_all; done) | (intros; simp [*]; done) | (simp_all; omega) | grind)) ?_))
  refine call_val (by repeat' constructor) (c_doc_Check d) ?_
  try simp (config := { maxSteps := 2000000 }) only [go_sem, reduceCtorEq, Nat.reduceAdd, Nat.reduceEqDiff, reduceIte, Nat.reduceLeDiff, Nat.reduceLT, Nat.reduceSub, ndsV_take, ndsV_drop, List.take_length, ndsV_len, clsV_len, attV_len, intsR_len, ndV, cellsEq]
  all_goals (repeat (with_reducible refine And.intro (by (first | omega | exact inR_small (by omega) (by omega) | exact fun _ => inR_small (by omega) (by omega) | assumption | trivial | (intros; omega) | (simp_all; done) | (intros; simp [*]; done) | (simp_all; omega) | grind)) ?_))
  refine cond_of (by rfl) trivial (fun h => ?_) (fun h => ?_)
  · try simp (config := { maxSteps := 2000000 }) only [go_sem, reduceCtorEq, Nat.reduceAdd, Nat.reduceEqDiff, reduceIte, Nat.reduceLeDiff, Nat.reduceLT, Nat.reduceSub, ndsV_take, ndsV_drop, List.take_length, ndsV_len, clsV_len, attV_len, intsR_len, ndV, cellsEq]
    all_goals (repeat (with_reducible refine And.intro (by (first | omega | exact inR_small (by omega) (by omega) | exact fun _ => inR_small (by omega) (by omega) | assumption | trivial | (intros; omega) | (simp_all; done) | (intros; simp [*]; done) | (simp_all; omega) | grind)) ?_))
    have h2 : ¬ checkDoc d = 0 := by simpa using h
    have h3 : insE d up at' e = checkDoc d := by rw [insE, if_neg h2]
    rw [h3, if_neg h2]
    exact fin_tup (by simp) ⟨rs_cellB rfl rfl (.inr rfl), rs_tmp rfl trivial (.inl rfl), rfl⟩
  have h2 : checkDoc d = 0 := by simpa using h
  obtain ⟨h6, h7, h8⟩ := checkDoc_ok h2
  try simp (config := { maxSteps := 2000000 }) only [go_sem, reduceCtorEq, Nat.reduceAdd, Nat.reduceEqDiff, reduceIte, Nat.reduceLeDiff, Nat.reduceLT, Nat.reduceSub, ndsV_take, ndsV_drop, List.take_length, ndsV_len, clsV_len, attV_len, intsR_len, ndV, cellsEq]
  all_goals (repeat (with_reducible refine And.intro (by (first | omega | exact inR_small (by omega) (by omega) | exact fun _ => inR_small (by omega) (by omega) | assumption | trivial | (intros; omega) | (simp_all; done) | (intros; simp [*]; done) | (simp_all; omega) | grind)) ?_))
  refine call_val (by repeat' constructor) (c_doc_Check e) ?_
  try simp (config := { maxSteps := 2000000 }) only [go_sem, reduceCtorEq, Nat.reduceAdd, Nat.reduceEqDiff, reduceIte, Nat.reduceLeDiff, Nat.reduceLT, Nat.reduceSub, ndsV_take, ndsV_drop, List.take_length, ndsV_len, clsV_len, attV_len, intsR_len, ndV, cellsEq]
  all_goals (repeat (with_reducible refine And.intro (by (first | omega | exact inR_small (by omega) (by omega) | exact fun _ => inR_small (by omega) (by omega) | assumption | trivial | (intros; omega) | (simp_all; done) | (intros; simp [*]; done) | (simp_all; omega) | grind)) ?_))
  refine cond_of (by rfl) trivial (fun h => ?_) (fun h => ?_)
  · try simp (config := { maxSteps := 2000000 }) only [go_sem, reduceCtorEq, Nat.reduceAdd, Nat.reduceEqDiff, reduceIte, Nat.reduceLeDiff, Nat.reduceLT, Nat.reduceSub, ndsV_take, ndsV_drop, List.take_length, ndsV_len, clsV_len, attV_len, intsR_len, ndV, cellsEq]
    all_goals (repeat (with_reducible refine And.intro (by (first | omega | exact inR_small (by omega) (by omega) | exact fun _ => inR_small (by omega) (by omega) | assumption | trivial | (intros; omega) | (simp_all; done) | (intros; simp [*]; done) | (simp_all; omega) | grind)) ?_))
    have h3 : ¬ checkDoc e = 0 := by simpa using h
    have h4 : insE d up at' e = checkDoc e := by rw [insE, if_pos h2, if_neg h3]
    rw [h4, if_neg h3]
    exact fin_tup (by simp) ⟨rs_cellB rfl rfl (.inr rfl), rs_tmp rfl trivial (.inl rfl), rfl⟩
  have h3 : checkDoc e = 0 := by simpa using h
  obtain ⟨g6, g7, g8⟩ := checkDoc_ok h3
  try simp (config := { maxSteps := 2000000 }) only [go_sem, reduceCtorEq, Nat.reduceAdd, Nat.reduceEqDiff, reduceIte, Nat.reduceLeDiff, Nat.reduceLT, Nat.reduceSub, ndsV_take, ndsV_drop, List.take_length, ndsV_len, clsV_len, attV_len, intsR_len, ndV, cellsEq]
  all_goals (repeat (with_reducible refine And.intro (by (first | omega | exact inR_small (by omega) (by omega) | exact fun _ => inR_small (by omega) (by omega) | assumption | trivial | (intros; omega) | (simp_all; done) | (intros; simp [*]; done) | (simp_all; omega) | grind)) ?_))
  refine cond_of (by rfl) trivial (fun h => ?_) (fun h => ?_)
  · try simp (config := { maxSteps := 2000000 }) only [go_sem, reduceCtorEq, Nat.reduceAdd, Nat.reduceEqDiff, reduceIte, Nat.reduceLeDiff, Nat.reduceLT, Nat.reduceSub, ndsV_take, ndsV_drop, List.take_length, ndsV_len, clsV_len, attV_len, intsR_len, ndV, cellsEq]
    all_goals (repeat (with_reducible refine And.intro (by (first | omega | exact inR_small (by omega) (by omega) | exact fun _ => inR_small (by omega) (by omega) | assumption | trivial | (intros; omega) | (simp_all; done) | (intros; simp [*]; done) | (simp_all; omega) | grind)) ?_))
    have h4 : up < 0 ∨ up ≥ d.length := by grind
    have h5 : insE d up at' e = 5 := by rw [insE, if_pos h2, if_pos h3, if_pos h4]
    rw [h5, if_neg (by omega)]
    exact fin_tup (by simp) ⟨rs_cellB rfl rfl (.inr rfl), rs_tmp rfl trivial (.inl rfl), rfl⟩
  have h4 : ¬ (up < 0 ∨ up ≥ d.length) := by grind
  obtain ⟨m, rfl⟩ : ∃ m : Nat, up = m := ⟨up.toNat, by omega⟩
  have hm : m < d.length := by omega
  have hb := behind_le hm
  obtain ⟨hkl, hpl⟩ := docPlaces_mem hm
  try simp (config := { maxSteps := 2000000 }) only [go_sem, reduceCtorEq, Nat.reduceAdd, Nat.reduceEqDiff, reduceIte, Nat.reduceLeDiff, Nat.reduceLT, Nat.reduceSub, ndsV_take, ndsV_drop, List.take_length, ndsV_len, clsV_len, attV_len, intsR_len, ndV, cellsEq]
  all_goals (repeat (with_reducible refine And.intro (by (first | omega | exact inR_small (by omega) (by omega) | exact fun _ => inR_small (by omega) (by omega) | assumption | trivial | (intros; omega) | (simp_all; done) | (intros; simp [*]; done) | (simp_all; omega) | grind)) ?_))
  refine call_own (by repeat' constructor) (Contract.av (c_doc_kids d m hm h7) (by first | rfl | (simp (config := { maxSteps := 2000000 }) only [go_sem, reduceCtorEq, Nat.reduceAdd, Nat.reduceEqDiff, reduceIte, Nat.reduceLeDiff, Nat.reduceLT, Nat.reduceSub, ndsV_take, ndsV_drop, List.take_length, ndsV_len, clsV_len, attV_len, intsR_len, ndV, cellsEq]; done) | (simp (config := { maxSteps := 2000000 }) only [go_sem, reduceCtorEq, Nat.reduceAdd, Nat.reduceEqDiff, reduceIte, Nat.reduceLeDiff, Nat.reduceLT, Nat.reduceSub, ndsV_take, ndsV_drop, List.take_length, ndsV_len, clsV_len, attV_len, intsR_len, ndV, cellsEq]; rfl))) ?_
  try simp (config := { maxSteps := 2000000 }) only [go_sem, reduceCtorEq, Nat.reduceAdd, Nat.reduceEqDiff, reduceIte, Nat.reduceLeDiff, Nat.reduceLT, Nat.reduceSub, ndsV_take, ndsV_drop, List.take_length, ndsV_len, clsV_len, attV_len, intsR_len, ndV, cellsEq]
  all_goals (repeat (with_reducible refine And.intro (by (first | omega | exact inR_small (by omega) (by omega) | exact fun _ => inR_small (by omega) (by omega) | assumption | trivial | (intros; omega) | (simp_all; done) | (intros; simp [*]; done) | (simp_all; omega) | grind)) ?_))
  refine call_val (by repeat' constructor) (Contract.av (c_doc_behind d m hm) (by first | rfl | (simp (config := { maxSteps := 2000000 }) only [go_sem, reduceCtorEq, Nat.reduceAdd, Nat.reduceEqDiff, reduceIte, Nat.reduceLeDiff, Nat.reduceLT, Nat.reduceSub, ndsV_take, ndsV_drop, List.take_length, ndsV_len, clsV_len, attV_len, intsR_len, ndV, cellsEq]; done) | (simp (config := { maxSteps := 2000000 }) only [go_sem, reduceCtorEq, Nat.reduceAdd, Nat.reduceEqDiff, reduceIte, Nat.reduceLeDiff, Nat.reduceLT, Nat.reduceSub, ndsV_take, ndsV_drop, List.take_length, ndsV_len, clsV_len, attV_len, intsR_len, ndV, cellsEq]; rfl))) ?_
  try simp (config := { maxSteps := 2000000 }) only [go_sem, reduceCtorEq, Nat.reduceAdd, Nat.reduceEqDiff, reduceIte, Nat.reduceLeDiff, Nat.reduceLT, Nat.reduceSub, ndsV_take, ndsV_drop, List.take_length, ndsV_len, clsV_len, attV_len, intsR_len, ndV, cellsEq]
  all_goals (repeat (with_reducible refine And.intro (by (first | omega | exact inR_small (by omega) (by omega) | exact fun _ => inR_small (by omega) (by omega) | assumption | trivial | (intros; omega) | (simp_all; done) | (intros; simp [*]; done) | (simp_all; omega) | grind)) ?_))
  have hpl' : (docKids d m).length ≤ 64 := by omega
  have happ : intsR (docKids d m) ++ [[PV.v (Value.int IntKind.i64 ↑(behind d m))]] = intsR (docPlaces d m) := by simp [docPlaces, intsR]
  rw [happ]
  have hlp : (docPlaces d m).length = (docKids d m).length + 1 := by simp [docPlaces]
  try simp (config := { maxSteps := 2000000 }) only [go_sem, reduceCtorEq, Nat.reduceAdd, Nat.reduceEqDiff, reduceIte, Nat.reduceLeDiff, Nat.reduceLT, Nat.reduceSub, ndsV_take, ndsV_drop, List.take_length, ndsV_len, clsV_len, attV_len, intsR_len, ndV, cellsEq]
  all_goals (repeat (with_reducible refine And.intro (by (first | omega | exact inR_small (by omega) (by omega) | exact fun _ => inR_small (by omega) (by omega) | assumption | trivial | (intros; omega) | (simp_all; done) | (intros; simp [*]; done) | (simp_all; omega) | grind)) ?_))
  refine cond_of (by rfl) trivial (fun h => ?_) (fun h => ?_)
  · try simp (config := { maxSteps := 2000000 }) only [go_sem, reduceCtorEq, Nat.reduceAdd, Nat.reduceEqDiff, reduceIte, Nat.reduceLeDiff, Nat.reduceLT, Nat.reduceSub, ndsV_take, ndsV_drop, List.take_length, ndsV_len, clsV_len, attV_len, intsR_len, ndV, cellsEq]
    all_goals (repeat (with_reducible refine And.intro (by (first | omega | exact inR_small (by omega) (by omega) | exact fun _ => inR_small (by omega) (by omega) | assumption | trivial | (intros; omega) | (simp_all; done) | (intros; simp [*]; done) | (simp_all; omega) | grind)) ?_))
    have h5 : at' < 0 ∨ at' ≥ (docPlaces d (m : Int).toNat).length := by grind
    have h6 : insE d m at' e = 3 := by rw [insE, if_pos h2, if_pos h3, if_neg h4, if_pos h5]
    rw [h6, if_neg (by omega)]
    exact fin_tup (by simp) ⟨rs_cellB rfl rfl (.inr rfl), rs_tmp rfl trivial (.inl rfl), rfl⟩
  have h5 : ¬ (at' < 0 ∨ at' ≥ (docPlaces d (m : Int).toNat).length) := by grind
  obtain ⟨p, rfl⟩ : ∃ p : Nat, at' = p := ⟨at'.toNat, by omega⟩
  have hp : p < (docPlaces d m).length := by simp at h5; omega
  try simp (config := { maxSteps := 2000000 }) only [go_sem, reduceCtorEq, Nat.reduceAdd, Nat.reduceEqDiff, reduceIte, Nat.reduceLeDiff, Nat.reduceLT, Nat.reduceSub, ndsV_take, ndsV_drop, List.take_length, ndsV_len, clsV_len, attV_len, intsR_len, ndV, cellsEq]
  all_goals (repeat (with_reducible refine And.intro (by (first | omega | exact inR_small (by omega) (by omega) | exact fun _ => inR_small (by omega) (by omega) | assumption | trivial | (intros; omega) | (simp_all; done) | (intros; simp [*]; done) | (simp_all; omega) | grind)) ?_))
  refine cond_of (by rfl) trivial (fun h => ?_) (fun h => ?_)
  · try simp (config := { maxSteps := 2000000 }) only [go_sem, reduceCtorEq, Nat.reduceAdd, Nat.reduceEqDiff, reduceIte, Nat.reduceLeDiff, Nat.reduceLT, Nat.reduceSub, ndsV_take, ndsV_drop, List.take_length, ndsV_len, clsV_len, attV_len, intsR_len, ndV, cellsEq]
    all_goals (repeat (with_reducible refine And.intro (by (first | omega | exact inR_small (by omega) (by omega) | exact fun _ => inR_small (by omega) (by omega) | assumption | trivial | (intros; omega) | (simp_all; done) | (intros; simp [*]; done) | (simp_all; omega) | grind)) ?_))
    have h6 : d.length + e.length > 64 := by simp at h; omega
    have h7 : insE d m p e = 2 := by rw [insE, if_pos h2, if_pos h3, if_neg h4, if_neg h5, if_pos h6]
    rw [h7, if_neg (by omega)]
    exact fin_tup (by simp) ⟨rs_cellB rfl rfl (.inr rfl), rs_tmp rfl trivial (.inl rfl), rfl⟩
  have h6' : ¬ d.length + e.length > 64 := by simp at h; omega
  have hie : insE d m p e = 0 := by rw [insE, if_pos h2, if_pos h3, if_neg h4, if_neg h5, if_neg h6']
  rw [hie, if_pos rfl]
  have hx := hpl ((docPlaces d m).getD p 0) (getD_mem (l := docPlaces d m) hp)
  obtain ⟨n, hn⟩ : ∃ n : Nat, (docPlaces d m).getD p 0 = n := ⟨((docPlaces d m).getD p 0).toNat, by omega⟩
  have hdi : docInsert d m p e = docInsertAt d m n e := by simp only [docInsert, Int.toNat_natCast, hn]
  rw [hdi]
  rw [hn] at hx
  try simp (config := { maxSteps := 2000000 }) only [go_sem, reduceCtorEq, Nat.reduceAdd, Nat.reduceEqDiff, reduceIte, Nat.reduceLeDiff, Nat.reduceLT, Nat.reduceSub, ndsV_take, ndsV_drop, List.take_length, ndsV_len, clsV_len, attV_len, intsR_len, ndV, cellsEq, intsR_get _ _ hp, hn]
  all_goals (repeat (with_reducible refine And.intro (by (first | omega | exact inR_small (by omega) (by omega) | exact fun _ => inR_small (by omega) (by omega) | assumption | trivial | (intros; omega) | (simp_all; done) | (intros; simp [*]; done) | (simp_all; omega) | grind)) ?_))
  have hs1 : ∀ x ∈ d.take n, x ∈ d := fun x hx => List.mem_of_mem_take hx
  have hs2 : ∀ x ∈ d.drop n, x ∈ d := fun x hx => List.mem_of_mem_drop hx
  refine call_own (by repeat' constructor) (Contract.av (c_doc_own (d.take n) fn_doc_Insert_1 [.fp [bI n], .fp [.sl 5 (ndsV e)]] (fun k => if k ≥ n then k + e.length else k) (by simp; omega) (fun x hx => (right_mem h8 h7 (hs1 x hx)).1) (fun x hx => c_doc_Insert_1 x.up n e (right_mem h8 h7 (hs1 x hx)).2 (by omega) (by omega))) (by first | rfl | (simp (config := { maxSteps := 2000000 }) only [go_sem, reduceCtorEq, Nat.reduceAdd, Nat.reduceEqDiff, reduceIte, Nat.reduceLeDiff, Nat.reduceLT, Nat.reduceSub, ndsV_take, ndsV_drop, List.take_length, ndsV_len, clsV_len, attV_len, intsR_len, ndV, cellsEq]; done) | (simp (config := { maxSteps := 2000000 }) only [go_sem, reduceCtorEq, Nat.reduceAdd, Nat.reduceEqDiff, reduceIte, Nat.reduceLeDiff, Nat.reduceLT, Nat.reduceSub, ndsV_take, ndsV_drop, List.take_length, ndsV_len, clsV_len, attV_len, intsR_len, ndV, cellsEq]; rfl))) ?_
  try simp (config := { maxSteps := 2000000 }) only [go_sem, reduceCtorEq, Nat.reduceAdd, Nat.reduceEqDiff, reduceIte, Nat.reduceLeDiff, Nat.reduceLT, Nat.reduceSub, ndsV_take, ndsV_drop, List.take_length, ndsV_len, clsV_len, attV_len, intsR_len, ndV, cellsEq]
  all_goals (repeat (with_reducible refine And.intro (by (first | omega | exact inR_small (by omega) (by omega) | exact fun _ => inR_small (by omega) (by omega) | assumption | trivial | (intros; omega) | (simp_all; done) | (intros; simp [*]; done) | (simp_all; omega) | grind)) ?_))
  refine call_own (by repeat' constructor) (Contract.av (c_doc_own e fn_doc_Insert_2 [.fp [bI m], .fp [bI n]] (fun k => if k < 0 then (m : Int) else k + n) (by omega) (fun x hx => (right_mem g8 g7 hx).1) (fun x hx => c_doc_Insert_2 x.up n m (right_mem g8 g7 hx).2 (by omega))) (by first | rfl | (simp (config := { maxSteps := 2000000 }) only [go_sem, reduceCtorEq, Nat.reduceAdd, Nat.reduceEqDiff, reduceIte, Nat.reduceLeDiff, Nat.reduceLT, Nat.reduceSub, ndsV_take, ndsV_drop, List.take_length, ndsV_len, clsV_len, attV_len, intsR_len, ndV, cellsEq]; done) | (simp (config := { maxSteps := 2000000 }) only [go_sem, reduceCtorEq, Nat.reduceAdd, Nat.reduceEqDiff, reduceIte, Nat.reduceLeDiff, Nat.reduceLT, Nat.reduceSub, ndsV_take, ndsV_drop, List.take_length, ndsV_len, clsV_len, attV_len, intsR_len, ndV, cellsEq]; rfl))) ?_
  try simp (config := { maxSteps := 2000000 }) only [go_sem, reduceCtorEq, Nat.reduceAdd, Nat.reduceEqDiff, reduceIte, Nat.reduceLeDiff, Nat.reduceLT, Nat.reduceSub, ndsV_take, ndsV_drop, List.take_length, ndsV_len, clsV_len, attV_len, intsR_len, ndV, cellsEq]
  all_goals (repeat (with_reducible refine And.intro (by (first | omega | exact inR_small (by omega) (by omega) | exact fun _ => inR_small (by omega) (by omega) | assumption | trivial | (intros; omega) | (simp_all; done) | (intros; simp [*]; done) | (simp_all; omega) | grind)) ?_))
  refine call_own (by repeat' constructor) (Contract.av (c_doc_own (d.drop n) fn_doc_Insert_1 [.fp [bI n], .fp [.sl 5 (ndsV e)]] (fun k => if k ≥ n then k + e.length else k) (by simp; omega) (fun x hx => (right_mem h8 h7 (hs2 x hx)).1) (fun x hx => c_doc_Insert_1 x.up n e (right_mem h8 h7 (hs2 x hx)).2 (by omega) (by omega))) (by first | rfl | (simp (config := { maxSteps := 2000000 }) only [go_sem, reduceCtorEq, Nat.reduceAdd, Nat.reduceEqDiff, reduceIte, Nat.reduceLeDiff, Nat.reduceLT, Nat.reduceSub, ndsV_take, ndsV_drop, List.take_length, ndsV_len, clsV_len, attV_len, intsR_len, ndV, cellsEq]; done) | (simp (config := { maxSteps := 2000000 }) only [go_sem, reduceCtorEq, Nat.reduceAdd, Nat.reduceEqDiff, reduceIte, Nat.reduceLeDiff, Nat.reduceLT, Nat.reduceSub, ndsV_take, ndsV_drop, List.take_length, ndsV_len, clsV_len, attV_len, intsR_len, ndV, cellsEq]; rfl))) ?_
  try simp (config := { maxSteps := 2000000 }) only [go_sem, reduceCtorEq, Nat.reduceAdd, Nat.reduceEqDiff, reduceIte, Nat.reduceLeDiff, Nat.reduceLT, Nat.reduceSub, ndsV_take, ndsV_drop, List.take_length, ndsV_len, clsV_len, attV_len, intsR_len, ndV, cellsEq]
  all_goals (repeat (with_reducible refine And.intro (by (first | omega | exact inR_small (by omega) (by omega) | exact fun _ => inR_small (by omega) (by omega) | assumption | trivial | (intros; omega) | (simp_all; done) | (intros; simp [*]; done) | (simp_all; omega) | grind)) ?_))
  refine call_own (by repeat' constructor) (Contract.av (c_slices_Concat_Node [(d.take n).map (turnUp fun k => if k ≥ n then k + e.length else k), e.map (turnUp fun k => if k < 0 then (m : Int) else k + n), (d.drop n).map (turnUp fun k => if k ≥ n then k + e.length else k)] (by simp; omega) (by simp)) (by first | rfl | (simp (config := { maxSteps := 2000000 }) only [go_sem, reduceCtorEq, Nat.reduceAdd, Nat.reduceEqDiff, reduceIte, Nat.reduceLeDiff, Nat.reduceLT, Nat.reduceSub, ndsV_take, ndsV_drop, List.take_length, ndsV_len, clsV_len, attV_len, intsR_len, ndV, cellsEq]; done) | (simp (config := { maxSteps := 2000000 }) only [go_sem, reduceCtorEq, Nat.reduceAdd, Nat.reduceEqDiff, reduceIte, Nat.reduceLeDiff, Nat.reduceLT, Nat.reduceSub, ndsV_take, ndsV_drop, List.take_length, ndsV_len, clsV_len, attV_len, intsR_len, ndV, cellsEq]; rfl))) ?_
  try simp (config := { maxSteps := 2000000 }) only [go_sem, reduceCtorEq, Nat.reduceAdd, Nat.reduceEqDiff, reduceIte, Nat.reduceLeDiff, Nat.reduceLT, Nat.reduceSub, ndsV_take, ndsV_drop, List.take_length, ndsV_len, clsV_len, attV_len, intsR_len, ndV, cellsEq]
  all_goals (repeat (with_reducible refine And.intro (by (first | omega | exact inR_small (by omega) (by omega) | exact fun _ => inR_small (by omega) (by omega) | assumption | trivial | (intros; omega) | (simp_all; done) | (intros; simp [*]; done) | (simp_all; omega) | grind)) ?_))
  exact fin_tup (by simp) ⟨rs_cellB rfl rfl (.inl rfl), rs_tmp rfl trivial (.inl rfl), rfl⟩
end Go.Hx
