/-
  Walks of functions of the program: each contract says what the function computes, for every input that its conditions let by. No other condition.
-/
import Derived.Test.YtjnagiaooecklaaDoorP7
set_option linter.all false
-- DOM trsV_len, trsV_nil, trV_len, trV_norm, List.take_zero, List.map_nil
set_option maxRecDepth 100000
set_option linter.unusedSimpArgs false
namespace Go.Hx
open Go.Proofs

theorem markF_nd (d : List Nd) (f n : Nat) (h : 0 < f) : (markF d f n).nd.up = n := by
  cases f with
  | zero => omega
  | succ f => rfl

def remF (d : List Nd) (n : Nat) : List Nd := layT (wosT (markF d d.length 0) n) [] (-1)
def removeDoc (d : List Nd) (n : Int) : List Nd × Int :=
  if thereE d n = 0 then (if n = 0 then ([], 3) else (remF d n.toNat, 0)) else ([], thereE d n)
theorem thereE_ok {d : List Nd} {n : Int} (h : thereE d n = 0) : checkDoc d = 0 ∧ 0 ≤ n ∧ n < d.length := by
  unfold thereE at h
  split at h
  · rename_i h1
    split at h
    · exact ⟨h1, by omega, by omega⟩
    · omega
  · contradiction
theorem checkDoc_ok {d : List Nd} (h : checkDoc d = 0) : 1 ≤ d.length ∧ d.length ≤ 64 ∧ docOk d d.length = true := by
  unfold checkDoc at h
  split at h
  · rename_i h1
    split at h
    · rename_i h2
      exact ⟨h1.1, h1.2, h2⟩
    · omega
  · omega
mutual
theorem wosT_sz : ∀ (t : Tr) (n : Int), szT (wosT t n) ≤ szT t
  | .mk x ks, n => by simp only [wosT, szT]; have := wosTs_sz ks n; omega
theorem wosTs_sz : ∀ (t : List Tr) (n : Int), szTs (wosTs t n) ≤ szTs t
  | [], n => Nat.le_refl _
  | t :: r, n => by
    simp only [wosTs, szTs]
    have := wosTs_sz r n
    have := wosT_sz t n
    split
    · omega
    · simp only [szTs]; omega
end

theorem c_ref_RemoveDoc (d : List Nd) (n : Int) (hs : thereE d n = 0 → szT (markF d d.length 0) ≤ 100000) : Contract Tryd.prog fn_ref_RemoveDoc [.val (docV d), .val (iv n)] { res := .tup [docV (removeDoc d n).1, iv (removeDoc d n).2] } := by
  unfold docV
  refine mk_ref_RemoveDoc (base := 0) ⟨Nat.le_of_ble_eq_true rfl, Nat.le_of_ble_eq_true rfl, Nat.le_of_ble_eq_true rfl, rfl⟩ (fun hfit => ?_)
  unfold F0 ref_RemoveDoc_E
  simp (config := { maxSteps := 2000000 }) only [markU, List.set_cons_succ, List.set_cons_zero, List.map_cons, List.map_nil, argCt, setCells, ioOf, List.length_cons, List.length_nil, Nat.reduceAdd, Nat.reduceSub, List.replicate, List.cons_append, List.nil_append]
  try simp (config := { maxSteps := 2000000 }) only [go_sem, reduceCtorEq, Nat.reduceAdd, Nat.reduceEqDiff, reduceIte, Nat.reduceLeDiff, Nat.reduceLT, Nat.reduceSub, trsV_len, trsV_nil, trV_len, trV_norm, List.take_zero, List.map_nil, ndsV_len, clsV_len, attV_len, intsR_len, ndV, cellsEq]
  all_goals (repeat (with_reducible refine And.intro (by (first | omega | exact inR_small (by omega) (by omega) | exact fun _ => inR_small (by omega) (by omega) | assumption | trivial | (intros; omega) | (simp_all; done) | (intros; simp [*]; done) | (simp_all; omega) | grind)) ?_))
  refine call_val (by repeat' constructor) (Contract.av (c_ref_there d n) (by first | rfl | (simp (config := { maxSteps := 2000000 }) only [go_sem, reduceCtorEq, Nat.reduceAdd, Nat.reduceEqDiff, reduceIte, Nat.reduceLeDiff, Nat.reduceLT, Nat.reduceSub, trsV_len, trsV_nil, trV_len, trV_norm, List.take_zero, List.map_nil, ndsV_len, clsV_len, attV_len, intsR_len, ndV, cellsEq]; done) | (simp (config := { maxSteps := 2000000 }) only [go_sem, reduceCtorEq, Nat.reduceAdd, Nat.reduceEqDiff, reduceIte, Nat.reduceLeDiff, Nat.reduceLT, Nat.reduceSub, trsV_len, trsV_nil, trV_len, trV_norm, List.take_zero, List.map_nil, ndsV_len, clsV_len, attV_len, intsR_len, ndV, cellsEq]; rfl))) ?_
  try simp (config := { maxSteps := 2000000 }) only [go_sem, reduceCtorEq, Nat.reduceAdd, Nat.reduceEqDiff, reduceIte, Nat.reduceLeDiff, Nat.reduceLT, Nat.reduceSub, trsV_len, trsV_nil, trV_len, trV_norm, List.take_zero, List.map_nil, ndsV_len, clsV_len, attV_len, intsR_len, ndV, cellsEq]
  all_goals (repeat (with_reducible refine And.intro (by (first | omega | exact inR_small (by omega) (by omega) | exact fun _ => inR_small (by omega) (by omega) | assumption | trivial | (intros; omega) | (simp_all; done) | (intros; simp [*]; done) | (simp_all; omega) | grind)) ?_))
  refine cond_of (by rfl) trivial (fun h => ?_) (fun h => ?_)
  · try simp (config := { maxSteps := 2000000 }) only [go_sem, reduceCtorEq, Nat.reduceAdd, Nat.reduceEqDiff, reduceIte, Nat.reduceLeDiff, Nat.reduceLT, Nat.reduceSub, trsV_len, trsV_nil, trV_len, trV_norm, List.take_zero, List.map_nil, ndsV_len, clsV_len, attV_len, intsR_len, ndV, cellsEq]
    all_goals (repeat (with_reducible refine And.intro (by (first | omega | exact inR_small (by omega) (by omega) | exact fun _ => inR_small (by omega) (by omega) | assumption | trivial | (intros; omega) | (simp_all; done) | (intros; simp [*]; done) | (simp_all; omega) | grind)) ?_))
    have h2 : ¬ thereE d n = 0 := by simpa using h
    simp only [removeDoc, h2, if_false]
    exact fin_tup (by simp) ⟨rs_cellB rfl rfl (.inr rfl), rs_tmp rfl trivial (.inl rfl), rfl⟩
  have h2 : thereE d n = 0 := by simpa using h
  have hs := hs h2
  obtain ⟨h3, h4, h5⟩ := thereE_ok h2
  obtain ⟨h6, h7, h8⟩ := checkDoc_ok h3
  try simp (config := { maxSteps := 2000000 }) only [go_sem, reduceCtorEq, Nat.reduceAdd, Nat.reduceEqDiff, reduceIte, Nat.reduceLeDiff, Nat.reduceLT, Nat.reduceSub, trsV_len, trsV_nil, trV_len, trV_norm, List.take_zero, List.map_nil, ndsV_len, clsV_len, attV_len, intsR_len, ndV, cellsEq]
  all_goals (repeat (with_reducible refine And.intro (by (first | omega | exact inR_small (by omega) (by omega) | exact fun _ => inR_small (by omega) (by omega) | assumption | trivial | (intros; omega) | (simp_all; done) | (intros; simp [*]; done) | (simp_all; omega) | grind)) ?_))
  refine cond_of (by rfl) trivial (fun h9 => ?_) (fun h9 => ?_)
  · try simp (config := { maxSteps := 2000000 }) only [go_sem, reduceCtorEq, Nat.reduceAdd, Nat.reduceEqDiff, reduceIte, Nat.reduceLeDiff, Nat.reduceLT, Nat.reduceSub, trsV_len, trsV_nil, trV_len, trV_norm, List.take_zero, List.map_nil, ndsV_len, clsV_len, attV_len, intsR_len, ndV, cellsEq]
    all_goals (repeat (with_reducible refine And.intro (by (first | omega | exact inR_small (by omega) (by omega) | exact fun _ => inR_small (by omega) (by omega) | assumption | trivial | (intros; omega) | (simp_all; done) | (intros; simp [*]; done) | (simp_all; omega) | grind)) ?_))
    have h10 : n = 0 := by simpa using h9
    simp only [removeDoc, h2, if_true, if_pos h10]
    exact fin_tup (by simp) ⟨rs_cellB rfl rfl (.inr rfl), rs_tmp rfl trivial (.inl rfl), rfl⟩
  · try simp (config := { maxSteps := 2000000 }) only [go_sem, reduceCtorEq, Nat.reduceAdd, Nat.reduceEqDiff, reduceIte, Nat.reduceLeDiff, Nat.reduceLT, Nat.reduceSub, trsV_len, trsV_nil, trV_len, trV_norm, List.take_zero, List.map_nil, ndsV_len, clsV_len, attV_len, intsR_len, ndV, cellsEq]
    all_goals (repeat (with_reducible refine And.intro (by (first | omega | exact inR_small (by omega) (by omega) | exact fun _ => inR_small (by omega) (by omega) | assumption | trivial | (intros; omega) | (simp_all; done) | (intros; simp [*]; done) | (simp_all; omega) | grind)) ?_))
    have h10 : ¬ n = 0 := by simpa using h9
    refine call_val (by repeat' constructor) (Contract.av (c_ref_marked d h8 h7 d.length 0 (by omega) (by omega)) (by first | rfl | (simp (config := { maxSteps := 2000000 }) only [go_sem, reduceCtorEq, Nat.reduceAdd, Nat.reduceEqDiff, reduceIte, Nat.reduceLeDiff, Nat.reduceLT, Nat.reduceSub, trsV_len, trsV_nil, trV_len, trV_norm, List.take_zero, List.map_nil, ndsV_len, clsV_len, attV_len, intsR_len, ndV, cellsEq]; done) | (simp (config := { maxSteps := 2000000 }) only [go_sem, reduceCtorEq, Nat.reduceAdd, Nat.reduceEqDiff, reduceIte, Nat.reduceLeDiff, Nat.reduceLT, Nat.reduceSub, trsV_len, trsV_nil, trV_len, trV_norm, List.take_zero, List.map_nil, ndsV_len, clsV_len, attV_len, intsR_len, ndV, cellsEq]; rfl))) ?_
    try simp (config := { maxSteps := 2000000 }) only [go_sem, reduceCtorEq, Nat.reduceAdd, Nat.reduceEqDiff, reduceIte, Nat.reduceLeDiff, Nat.reduceLT, Nat.reduceSub, trsV_len, trsV_nil, trV_len, trV_norm, List.take_zero, List.map_nil, ndsV_len, clsV_len, attV_len, intsR_len, ndV, cellsEq]
    all_goals (repeat (with_reducible refine And.intro (by (first | omega | exact inR_small (by omega) (by omega) | exact fun _ => inR_small (by omega) (by omega) | assumption | trivial | (intros; omega) | (simp_all; done) | (intros; simp [*]; done) | (simp_all; omega) | grind)) ?_))
    refine call_val (by repeat' constructor) (Contract.av (c_ref_without _ (markF d d.length 0) n (Nat.le_refl _) (by omega)) (by first | rfl | (simp (config := { maxSteps := 2000000 }) only [go_sem, reduceCtorEq, Nat.reduceAdd, Nat.reduceEqDiff, reduceIte, Nat.reduceLeDiff, Nat.reduceLT, Nat.reduceSub, trsV_len, trsV_nil, trV_len, trV_norm, List.take_zero, List.map_nil, ndsV_len, clsV_len, attV_len, intsR_len, ndV, cellsEq]; done) | (simp (config := { maxSteps := 2000000 }) only [go_sem, reduceCtorEq, Nat.reduceAdd, Nat.reduceEqDiff, reduceIte, Nat.reduceLeDiff, Nat.reduceLT, Nat.reduceSub, trsV_len, trsV_nil, trV_len, trV_norm, List.take_zero, List.map_nil, ndsV_len, clsV_len, attV_len, intsR_len, ndV, cellsEq]; rfl))) ?_
    try simp (config := { maxSteps := 2000000 }) only [go_sem, reduceCtorEq, Nat.reduceAdd, Nat.reduceEqDiff, reduceIte, Nat.reduceLeDiff, Nat.reduceLT, Nat.reduceSub, trsV_len, trsV_nil, trV_len, trV_norm, List.take_zero, List.map_nil, ndsV_len, clsV_len, attV_len, intsR_len, ndV, cellsEq]
    all_goals (repeat (with_reducible refine And.intro (by (first | omega | exact inR_small (by omega) (by omega) | exact fun _ => inR_small (by omega) (by omega) | assumption | trivial | (intros; omega) | (simp_all; done) | (intros; simp [*]; done) | (simp_all; omega) | grind)) ?_))
    have := wosT_sz (markF d d.length 0) n
    refine call_own (by repeat' constructor) (Contract.av (c_ref_lay _ (wosT (markF d d.length 0) n) [] (-1) (Nat.le_refl _) (by simp; omega)) (by first | rfl | (simp (config := { maxSteps := 2000000 }) only [go_sem, reduceCtorEq, Nat.reduceAdd, Nat.reduceEqDiff, reduceIte, Nat.reduceLeDiff, Nat.reduceLT, Nat.reduceSub, trsV_len, trsV_nil, trV_len, trV_norm, List.take_zero, List.map_nil, ndsV_len, clsV_len, attV_len, intsR_len, ndV, cellsEq]; done) | (simp (config := { maxSteps := 2000000 }) only [go_sem, reduceCtorEq, Nat.reduceAdd, Nat.reduceEqDiff, reduceIte, Nat.reduceLeDiff, Nat.reduceLT, Nat.reduceSub, trsV_len, trsV_nil, trV_len, trV_norm, List.take_zero, List.map_nil, ndsV_len, clsV_len, attV_len, intsR_len, ndV, cellsEq]; rfl))) ?_
    try simp (config := { maxSteps := 2000000 }) only [go_sem, reduceCtorEq, Nat.reduceAdd, Nat.reduceEqDiff, reduceIte, Nat.reduceLeDiff, Nat.reduceLT, Nat.reduceSub, trsV_len, trsV_nil, trV_len, trV_norm, List.take_zero, List.map_nil, ndsV_len, clsV_len, attV_len, intsR_len, ndV, cellsEq]
    all_goals (repeat (with_reducible refine And.intro (by (first | omega | exact inR_small (by omega) (by omega) | exact fun _ => inR_small (by omega) (by omega) | assumption | trivial | (intros; omega) | (simp_all; done) | (intros; simp [*]; done) | (simp_all; omega) | grind)) ?_))
    simp only [removeDoc, h2, h10, if_true, if_false, remF, show (n.toNat : Int) = n by omega]
    exact fin_tup (by simp) ⟨rs_cellB rfl rfl (.inl rfl), rs_tmp rfl trivial (.inl rfl), rfl⟩
end Go.Hx
