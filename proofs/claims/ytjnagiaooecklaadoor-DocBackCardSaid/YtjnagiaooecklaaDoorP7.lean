/-
  Walks of functions of the program: each contract says what the function computes, for every input that its conditions let by. No other condition.
-/
import Derived.Test.YtjnagiaooecklaaDoorP6
set_option linter.all false
-- DOM trsV_len, trsV_nil, trV_len, trV_norm, List.take_zero, List.map_nil
set_option maxRecDepth 100000
set_option linter.unusedSimpArgs false
namespace Go.Hx
open Go.Proofs

/-- The marked tree. -/
def markF (d : List Nd) : Nat → Nat → Tr
  | 0, n => .mk (d.getD n default) []
  | f + 1, n => .mk { d.getD n default with up := n } ((kidsOf d n).map fun k => markF d f k.toNat)

theorem c_ref_marked (d : List Nd) (hd : docOk d d.length = true) (hl : d.length ≤ 64) : ∀ (f n : Nat), n < d.length → d.length - n ≤ f → Contract Tryd.prog fn_ref_marked [.val (docV d), .val (iv n)] { res := .val (.agg (trV (markF d f n))) }
  | 0, n, h1, h2 => by omega
  | f + 1, n, h1, h2 => by
    have ih := c_ref_marked d hd hl f
    unfold docV at ih ⊢
    simp only [markF, trV]
    refine mk_ref_marked (base := 0) ⟨Nat.le_of_ble_eq_true rfl, Nat.le_of_ble_eq_true rfl, Nat.le_of_ble_eq_true rfl, rfl⟩ (fun hfit => ?_)
    unfold F0 ref_marked_E
    simp (config := { maxSteps := 2000000 }) only [markU, List.set_cons_succ, List.set_cons_zero, List.map_cons, List.map_nil, argCt, setCells, ioOf, List.length_cons, List.length_nil, Nat.reduceAdd, Nat.reduceSub, List.replicate, List.cons_append, List.nil_append]
    try simp (config := { maxSteps := 2000000 }) only [go_sem, reduceCtorEq, Nat.reduceAdd, Nat.reduceEqDiff, reduceIte, Nat.reduceLeDiff, Nat.reduceLT, Nat.reduceSub, trsV_len, trsV_nil, trV_len, trV_norm, List.take_zero, List.map_nil, ndsV_len, clsV_len, attV_len, intsR_len, ndV, cellsEq]
    all_goals (repeat (with_reducible refine And.intro (by (first | omega | exact inR_small (by omega) (by omega) | exact fun _ => inR_small (by omega) (by omega) | assumption | trivial | (intros; omega) | (simp_all; done) | (intros; simp [*]; done) | (simp_all; omega) | grind)) ?_))
    refine call_val (by repeat' constructor) (Contract.av (c_ref_treeOf d hd hl (f + 1) n h1 h2) (by first | rfl | (simp (config := { maxSteps := 2000000 }) only [go_sem, reduceCtorEq, Nat.reduceAdd, Nat.reduceEqDiff, reduceIte, Nat.reduceLeDiff, Nat.reduceLT, Nat.reduceSub, trsV_len, trsV_nil, trV_len, trV_norm, List.take_zero, List.map_nil, ndsV_len, clsV_len, attV_len, intsR_len, ndV, cellsEq, treeF, trV]; done) | (simp (config := { maxSteps := 2000000 }) only [go_sem, reduceCtorEq, Nat.reduceAdd, Nat.reduceEqDiff, reduceIte, Nat.reduceLeDiff, Nat.reduceLT, Nat.reduceSub, trsV_len, trsV_nil, trV_len, trV_norm, List.take_zero, List.map_nil, ndsV_len, clsV_len, attV_len, intsR_len, ndV, cellsEq, treeF, trV]; rfl))) ?_
    try simp (config := { maxSteps := 2000000 }) only [go_sem, reduceCtorEq, Nat.reduceAdd, Nat.reduceEqDiff, reduceIte, Nat.reduceLeDiff, Nat.reduceLT, Nat.reduceSub, trsV_len, trsV_nil, trV_len, trV_norm, List.take_zero, List.map_nil, ndsV_len, clsV_len, attV_len, intsR_len, ndV, cellsEq, treeF, trV]
    all_goals (repeat (with_reducible refine And.intro (by (first | omega | exact inR_small (by omega) (by omega) | exact fun _ => inR_small (by omega) (by omega) | assumption | trivial | (intros; omega) | (simp_all; done) | (intros; simp [*]; done) | (simp_all; omega) | grind)) ?_))
    refine call_own (by repeat' constructor) (c_ref_KidsOf _ _ hl) ?_
    try simp (config := { maxSteps := 2000000 }) only [go_sem, reduceCtorEq, Nat.reduceAdd, Nat.reduceEqDiff, reduceIte, Nat.reduceLeDiff, Nat.reduceLT, Nat.reduceSub, trsV_len, trsV_nil, trV_len, trV_norm, List.take_zero, List.map_nil, ndsV_len, clsV_len, attV_len, intsR_len, ndV, cellsEq]
    all_goals (repeat (with_reducible refine And.intro (by (first | omega | exact inR_small (by omega) (by omega) | exact fun _ => inR_small (by omega) (by omega) | assumption | trivial | (intros; omega) | (simp_all; done) | (intros; simp [*]; done) | (simp_all; omega) | grind)) ?_))
    refine loop_sets (fun i : Nat => [(7, .pv (iv i)), (21, .un), (47, .own ty_pathfinderyref_tree 6 (trsV (((kidsOf d n).take i).map fun k => markF d f k.toNat)))]) (fun i : Nat => (kidsOf d n).length - i) (fun i : Nat => i ≤ (kidsOf d n).length) (0) ?_ (Nat.zero_le _) ?_
    focus (simp (config := { maxSteps := 2000000 }) only [go_sem, reduceCtorEq, Nat.reduceAdd, Nat.reduceEqDiff, reduceIte, Nat.reduceLeDiff, Nat.reduceLT, Nat.reduceSub, trsV_len, trsV_nil, trV_len, trV_norm, List.take_zero, List.map_nil, ndsV_len, clsV_len, attV_len, intsR_len, ndV, cellsEq, le_cons, le_nil, le_un, le_same]; all_goals (repeat' (first | exact trivial | exact le_int (by omega) | exact le_bool rfl | exact le_eq rfl | exact le_nlo | exact le_refl _ | refine And.intro ?_ ?_)))
    intro i hi
    have hkl : (kidsOf d n).length ≤ d.length := kidsTo_len _
    have htl : (trsV (((kidsOf d n).take i).map fun k => markF d f k.toNat)).length = i := by simp [trsV_len]; omega
    try simp (config := { maxSteps := 2000000 }) only [go_sem, reduceCtorEq, Nat.reduceAdd, Nat.reduceEqDiff, reduceIte, Nat.reduceLeDiff, Nat.reduceLT, Nat.reduceSub, trsV_len, trsV_nil, trV_len, trV_norm, List.take_zero, List.map_nil, ndsV_len, clsV_len, attV_len, intsR_len, ndV, cellsEq]
    all_goals (repeat (with_reducible refine And.intro (by (first | omega | exact inR_small (by omega) (by omega) | exact fun _ => inR_small (by omega) (by omega) | assumption | trivial | (intros; omega) | (simp_all; done) | (intros; simp [*]; done) | (simp_all; omega) | grind)) ?_))
    refine cond_of (by rfl) trivial (fun h => ?_) (fun h => ?_)
    · have hlt : i < (kidsOf d n).length := by simpa using h
      obtain ⟨m, hm1, hm2, hm3⟩ := kidsOf_get hd hlt
      try simp (config := { maxSteps := 2000000 }) only [go_sem, reduceCtorEq, Nat.reduceAdd, Nat.reduceEqDiff, reduceIte, Nat.reduceLeDiff, Nat.reduceLT, Nat.reduceSub, trsV_len, trsV_nil, trV_len, trV_norm, List.take_zero, List.map_nil, ndsV_len, clsV_len, attV_len, intsR_len, ndV, cellsEq, intsR_get _ _ hlt, hm1]
      all_goals (repeat (with_reducible refine And.intro (by (first | omega | exact inR_small (by omega) (by omega) | exact fun _ => inR_small (by omega) (by omega) | assumption | trivial | (intros; omega) | (simp_all; done) | (intros; simp [*]; done) | (simp_all; omega) | grind)) ?_))
      refine call_val (by repeat' constructor) (ih m hm2 (by omega)) ?_
      try simp (config := { maxSteps := 2000000 }) only [go_sem, reduceCtorEq, Nat.reduceAdd, Nat.reduceEqDiff, reduceIte, Nat.reduceLeDiff, Nat.reduceLT, Nat.reduceSub, trsV_len, trsV_nil, trV_len, trV_norm, List.take_zero, List.map_nil, ndsV_len, clsV_len, attV_len, intsR_len, ndV, cellsEq, htl]
      all_goals (repeat (with_reducible refine And.intro (by (first | omega | exact inR_small (by omega) (by omega) | exact fun _ => inR_small (by omega) (by omega) | assumption | trivial | (intros; omega) | (simp_all; done) | (intros; simp [*]; done) | (simp_all; omega) | grind)) ?_))
      refine ⟨i + 1, by omega, hlt, ?_⟩
      simp (config := { maxSteps := 2000000 }) only [go_sem, reduceCtorEq, Nat.reduceAdd, Nat.reduceEqDiff, reduceIte, Nat.reduceLeDiff, Nat.reduceLT, Nat.reduceSub, trsV_len, trsV_nil, trV_len, trV_norm, List.take_zero, List.map_nil, ndsV_len, clsV_len, attV_len, intsR_len, ndV, cellsEq, le_cons, le_nil, le_un, le_same]
      all_goals (repeat' (first | exact trivial | exact le_int (by omega) | exact le_bool rfl | exact le_eq rfl | exact le_nlo | exact le_refl _ | refine And.intro ?_ ?_))
      refine le_own ?_
      rw [take_map_succ 0 hlt, trsV_app, hm1]
      rfl
    · try simp (config := { maxSteps := 2000000 }) only [go_sem, reduceCtorEq, Nat.reduceAdd, Nat.reduceEqDiff, reduceIte, Nat.reduceLeDiff, Nat.reduceLT, Nat.reduceSub, trsV_len, trsV_nil, trV_len, trV_norm, List.take_zero, List.map_nil, ndsV_len, clsV_len, attV_len, intsR_len, ndV, cellsEq]
      all_goals (repeat (with_reducible refine And.intro (by (first | omega | exact inR_small (by omega) (by omega) | exact fun _ => inR_small (by omega) (by omega) | assumption | trivial | (intros; omega) | (simp_all; done) | (intros; simp [*]; done) | (simp_all; omega) | grind)) ?_))
      refine fin_cellB rfl rfl ?_
      have : i = (kidsOf d n).length := by simp at h; omega
      rw [this, List.take_length]
      rfl

theorem c_ref_OwnDoc (d : List Nd) (hl : d.length ≤ 64) (hn : ∀ i, i < d.length → (d.getD i default).cls.length ≤ 64 ∧ (d.getD i default).att.length ≤ 64) : Contract Tryd.prog fn_ref_OwnDoc [.val (docV d)] { res := .val (docV d) } := by
  unfold docV
  refine mk_ref_OwnDoc (base := 0) ⟨Nat.le_of_ble_eq_true rfl, Nat.le_of_ble_eq_true rfl, Nat.le_of_ble_eq_true rfl, rfl⟩ (fun hfit => ?_)
  unfold F0 ref_OwnDoc_E
  simp (config := { maxSteps := 2000000 }) only [markU, List.set_cons_succ, List.set_cons_zero, List.map_cons, List.map_nil, argCt, setCells, ioOf, List.length_cons, List.length_nil, Nat.reduceAdd, Nat.reduceSub, List.replicate, List.cons_append, List.nil_append]
  try simp (config := { maxSteps := 2000000 }) only [go_sem, reduceCtorEq, Nat.reduceAdd, Nat.reduceEqDiff, reduceIte, Nat.reduceLeDiff, Nat.reduceLT, Nat.reduceSub, trsV_len, trsV_nil, trV_len, trV_norm, List.take_zero, List.map_nil, ndsV_len, clsV_len, attV_len, intsR_len, ndV, cellsEq]
  all_goals (repeat (with_reducible refine And.intro (by (first | omega | exact inR_small (by omega) (by omega) | exact fun _ => inR_small (by omega) (by omega) | assumption | trivial | (intros; omega) | (simp_all; done) | (intros; simp [*]; done) | (simp_all; omega) | grind)) ?_))
  refine loop_sets (fun i : Nat => [(4, .pv (iv i)), (9, .un), (25, .own ty_api_Node 5 (ndsV (d.take i)))]) (fun i : Nat => d.length - i) (fun i : Nat => i ≤ d.length) (0) ?_ (Nat.zero_le _) ?_
  focus (simp (config := { maxSteps := 2000000 }) only [go_sem, reduceCtorEq, Nat.reduceAdd, Nat.reduceEqDiff, reduceIte, Nat.reduceLeDiff, Nat.reduceLT, Nat.reduceSub, trsV_len, trsV_nil, trV_len, trV_norm, List.take_zero, List.map_nil, ndsV_len, clsV_len, attV_len, intsR_len, ndV, cellsEq, le_cons, le_nil, le_un, le_same]; all_goals (repeat' (first | exact trivial | exact le_int (by omega) | exact le_bool rfl | exact le_eq rfl | exact le_nlo | exact le_refl _ | refine And.intro ?_ ?_)))
  intro i hi
  have htl : (ndsV (d.take i)).length = i := by simp [ndsV_len]; omega
  try simp (config := { maxSteps := 2000000 }) only [go_sem, reduceCtorEq, Nat.reduceAdd, Nat.reduceEqDiff, reduceIte, Nat.reduceLeDiff, Nat.reduceLT, Nat.reduceSub, trsV_len, trsV_nil, trV_len, trV_norm, List.take_zero, List.map_nil, ndsV_len, clsV_len, attV_len, intsR_len, ndV, cellsEq]
  all_goals (repeat (with_reducible refine And.intro (by (first | omega | exact inR_small (by omega) (by omega) | exact fun _ => inR_small (by omega) (by omega) | assumption | trivial | (intros; omega) | (simp_all; done) | (intros; simp [*]; done) | (simp_all; omega) | grind)) ?_))
  refine cond_of (by rfl) trivial (fun h => ?_) (fun h => ?_)
  · have hlt : i < d.length := by simpa using h
    try simp (config := { maxSteps := 2000000 }) only [go_sem, reduceCtorEq, Nat.reduceAdd, Nat.reduceEqDiff, reduceIte, Nat.reduceLeDiff, Nat.reduceLT, Nat.reduceSub, trsV_len, trsV_nil, trV_len, trV_norm, List.take_zero, List.map_nil, ndsV_len, clsV_len, attV_len, intsR_len, ndV, cellsEq, ndsV_get _ _ hlt]
    all_goals (repeat (with_reducible refine And.intro (by (first | omega | exact inR_small (by omega) (by omega) | exact fun _ => inR_small (by omega) (by omega) | assumption | trivial | (intros; omega) | (simp_all; done) | (intros; simp [*]; done) | (simp_all; omega) | grind)) ?_))
    refine call_val (by repeat' constructor) (c_ref_OwnNode _ (hn i hlt).1 (hn i hlt).2) ?_
    try simp (config := { maxSteps := 2000000 }) only [go_sem, reduceCtorEq, Nat.reduceAdd, Nat.reduceEqDiff, reduceIte, Nat.reduceLeDiff, Nat.reduceLT, Nat.reduceSub, trsV_len, trsV_nil, trV_len, trV_norm, List.take_zero, List.map_nil, ndsV_len, clsV_len, attV_len, intsR_len, ndV, cellsEq, htl]
    all_goals (repeat (with_reducible refine And.intro (by (first | omega | exact inR_small (by omega) (by omega) | exact fun _ => inR_small (by omega) (by omega) | assumption | trivial | (intros; omega) | (simp_all; done) | (intros; simp [*]; done) | (simp_all; omega) | grind)) ?_))
    refine ⟨i + 1, by omega, hlt, ?_⟩
    simp (config := { maxSteps := 2000000 }) only [go_sem, reduceCtorEq, Nat.reduceAdd, Nat.reduceEqDiff, reduceIte, Nat.reduceLeDiff, Nat.reduceLT, Nat.reduceSub, trsV_len, trsV_nil, trV_len, trV_norm, List.take_zero, List.map_nil, ndsV_len, clsV_len, attV_len, intsR_len, ndV, cellsEq, le_cons, le_nil, le_un, le_same]
    all_goals (repeat' (first | exact trivial | exact le_int (by omega) | exact le_bool rfl | exact le_eq rfl | exact le_nlo | exact le_refl _ | refine And.intro ?_ ?_))
    refine le_own ?_
    rw [take_succ_d default hlt, ndsV_app]
    rfl
  · try simp (config := { maxSteps := 2000000 }) only [go_sem, reduceCtorEq, Nat.reduceAdd, Nat.reduceEqDiff, reduceIte, Nat.reduceLeDiff, Nat.reduceLT, Nat.reduceSub, trsV_len, trsV_nil, trV_len, trV_norm, List.take_zero, List.map_nil, ndsV_len, clsV_len, attV_len, intsR_len, ndV, cellsEq]
    all_goals (repeat (with_reducible refine And.intro (by (first | omega | exact inR_small (by omega) (by omega) | exact fun _ => inR_small (by omega) (by omega) | assumption | trivial | (intros; omega) | (simp_all; done) | (intros; simp [*]; done) | (simp_all; omega) | grind)) ?_))
    refine fin_cellB rfl rfl ?_
    have : i = d.length := by simp at h; omega
    rw [this, List.take_length]
    rfl

mutual
def wosT : Tr → Int → Tr
  | .mk x ks, n => .mk x (wosTs ks n)
def wosTs : List Tr → Int → List Tr
  | [], _ => []
  | t :: r, n => if t.nd.up = n then wosTs r n else wosT t n :: wosTs r n
end
theorem wosTs_app (n : Int) : ∀ a b : List Tr, wosTs (a ++ b) n = wosTs a n ++ wosTs b n
  | [], b => rfl
  | t :: a, b => by simp only [List.cons_append, wosTs, wosTs_app n a]; split <;> rfl
theorem wosTs_len (n : Int) : ∀ a : List Tr, (wosTs a n).length ≤ a.length
  | [] => Nat.le_refl _
  | t :: a => by simp only [wosTs]; have := wosTs_len n a; split <;> simp <;> omega
theorem kids_sz : ∀ ks : List Tr, ks.length ≤ szTs ks
  | [] => Nat.le_refl _
  | .mk x k :: r => by have := kids_sz r; simp [szTs, szT]; omega
theorem trV_at (t : Tr) : trV t = [bI t.nd.up, bS t.nd.tag, bS t.nd.id, .sl 1 (clsV t.nd.cls), .sl 2 (attV t.nd.att), .sl 6 (trsV t.kids)] := by cases t; rfl

theorem c_ref_without : ∀ (N : Nat) (t : Tr) (n : Int), szT t ≤ N → N ≤ 1000000 → Contract Tryd.prog fn_ref_without [.val (.agg (trV t)), .val (iv n)] { res := .val (.agg (trV (wosT t n))) }
  | 0, .mk x ks, n, h1, _ => by simp [szT] at h1
  | N + 1, .mk x ks, n, h1, h2 => by
    have ih := c_ref_without N
    simp only [szT] at h1 h2
    simp only [wosT, trV]
    refine mk_ref_without (base := 0) ⟨Nat.le_of_ble_eq_true rfl, Nat.le_of_ble_eq_true rfl, Nat.le_of_ble_eq_true rfl, rfl⟩ (fun hfit => ?_)
    unfold F0 ref_without_E
    simp (config := { maxSteps := 2000000 }) only [markU, List.set_cons_succ, List.set_cons_zero, List.map_cons, List.map_nil, argCt, setCells, ioOf, List.length_cons, List.length_nil, Nat.reduceAdd, Nat.reduceSub, List.replicate, List.cons_append, List.nil_append]
    try simp (config := { maxSteps := 2000000 }) only [go_sem, reduceCtorEq, Nat.reduceAdd, Nat.reduceEqDiff, reduceIte, Nat.reduceLeDiff, Nat.reduceLT, Nat.reduceSub, trsV_len, trsV_nil, trV_len, trV_norm, List.take_zero, List.map_nil, ndsV_len, clsV_len, attV_len, intsR_len, ndV, cellsEq]
    all_goals (repeat (with_reducible refine And.intro (by (first | omega | exact inR_small (by omega) (by omega) | exact fun _ => inR_small (by omega) (by omega) | assumption | trivial | (intros; omega) | (simp_all; done) | (intros; simp [*]; done) | (simp_all; omega) | grind)) ?_))
    have hks := kids_sz ks
    refine loop_sets (fun i : Nat => [(5, .own ty_pathfinderyref_tree 6 (trsV (wosTs (ks.take i) n))), (6, .pv (iv i)), (11, .un), (22, .un)]) (fun i : Nat => ks.length - i) (fun i : Nat => i ≤ ks.length) (0) ?_ (Nat.zero_le _) ?_
    focus (simp (config := { maxSteps := 2000000 }) only [go_sem, reduceCtorEq, Nat.reduceAdd, Nat.reduceEqDiff, reduceIte, Nat.reduceLeDiff, Nat.reduceLT, Nat.reduceSub, trsV_len, trsV_nil, trV_len, trV_norm, List.take_zero, List.map_nil, ndsV_len, clsV_len, attV_len, intsR_len, ndV, cellsEq, le_cons, le_nil, le_un, le_same]; all_goals (repeat' (first | exact trivial | exact le_int (by omega) | exact le_bool rfl | exact le_eq rfl | exact le_nlo | exact le_refl _ | refine And.intro ?_ ?_)))
    intro i hi
    try simp (config := { maxSteps := 2000000 }) only [go_sem, reduceCtorEq, Nat.reduceAdd, Nat.reduceEqDiff, reduceIte, Nat.reduceLeDiff, Nat.reduceLT, Nat.reduceSub, trsV_len, trsV_nil, trV_len, trV_norm, List.take_zero, List.map_nil, ndsV_len, clsV_len, attV_len, intsR_len, ndV, cellsEq]
    all_goals (repeat (with_reducible refine And.intro (by (first | omega | exact inR_small (by omega) (by omega) | exact fun _ => inR_small (by omega) (by omega) | assumption | trivial | (intros; omega) | (simp_all; done) | (intros; simp [*]; done) | (simp_all; omega) | grind)) ?_))
    refine cond_of (by rfl) trivial (fun h => ?_) (fun h => ?_)
    · have hlt : i < ks.length := by simpa using h
      have hw := wosTs_len n (ks.take i)
      simp only [List.length_take] at hw
      have hsz := szTs_get hlt
      try simp (config := { maxSteps := 2000000 }) only [go_sem, reduceCtorEq, Nat.reduceAdd, Nat.reduceEqDiff, reduceIte, Nat.reduceLeDiff, Nat.reduceLT, Nat.reduceSub, trsV_len, trsV_nil, trV_len, trV_norm, List.take_zero, List.map_nil, ndsV_len, clsV_len, attV_len, intsR_len, ndV, cellsEq, trsV_get _ _ hlt, trV_at]
      all_goals (repeat (with_reducible refine And.intro (by (first | omega | exact inR_small (by omega) (by omega) | exact fun _ => inR_small (by omega) (by omega) | assumption | trivial | (intros; omega) | (simp_all; done) | (intros; simp [*]; done) | (simp_all; omega) | grind)) ?_))
      refine cond_of (by rfl) trivial (fun h3 => ?_) (fun h3 => ?_)
      · try simp (config := { maxSteps := 2000000 }) only [go_sem, reduceCtorEq, Nat.reduceAdd, Nat.reduceEqDiff, reduceIte, Nat.reduceLeDiff, Nat.reduceLT, Nat.reduceSub, trsV_len, trsV_nil, trV_len, trV_norm, List.take_zero, List.map_nil, ndsV_len, clsV_len, attV_len, intsR_len, ndV, cellsEq, trsV_get _ _ hlt]
        all_goals (repeat (with_reducible refine And.intro (by (first | omega | exact inR_small (by omega) (by omega) | exact fun _ => inR_small (by omega) (by omega) | assumption | trivial | (intros; omega) | (simp_all; done) | (intros; simp [*]; done) | (simp_all; omega) | grind)) ?_))
        refine call_val (by repeat' constructor) (Contract.av (ih (ks.getD i default) n (by omega) (by omega)) (by first | rfl | (simp (config := { maxSteps := 2000000 }) only [go_sem, reduceCtorEq, Nat.reduceAdd, Nat.reduceEqDiff, reduceIte, Nat.reduceLeDiff, Nat.reduceLT, Nat.reduceSub, trsV_len, trsV_nil, trV_len, trV_norm, List.take_zero, List.map_nil, ndsV_len, clsV_len, attV_len, intsR_len, ndV, cellsEq]; done) | (simp (config := { maxSteps := 2000000 }) only [go_sem, reduceCtorEq, Nat.reduceAdd, Nat.reduceEqDiff, reduceIte, Nat.reduceLeDiff, Nat.reduceLT, Nat.reduceSub, trsV_len, trsV_nil, trV_len, trV_norm, List.take_zero, List.map_nil, ndsV_len, clsV_len, attV_len, intsR_len, ndV, cellsEq]; rfl))) ?_
        try simp (config := { maxSteps := 2000000 }) only [go_sem, reduceCtorEq, Nat.reduceAdd, Nat.reduceEqDiff, reduceIte, Nat.reduceLeDiff, Nat.reduceLT, Nat.reduceSub, trsV_len, trsV_nil, trV_len, trV_norm, List.take_zero, List.map_nil, ndsV_len, clsV_len, attV_len, intsR_len, ndV, cellsEq]
        all_goals (repeat (with_reducible refine And.intro (by (first | omega | exact inR_small (by omega) (by omega) | exact fun _ => inR_small (by omega) (by omega) | assumption | trivial | (intros; omega) | (simp_all; done) | (intros; simp [*]; done) | (simp_all; omega) | grind)) ?_))
        refine ⟨i + 1, by omega, hlt, ?_⟩
        simp (config := { maxSteps := 2000000 }) only [go_sem, reduceCtorEq, Nat.reduceAdd, Nat.reduceEqDiff, reduceIte, Nat.reduceLeDiff, Nat.reduceLT, Nat.reduceSub, trsV_len, trsV_nil, trV_len, trV_norm, List.take_zero, List.map_nil, ndsV_len, clsV_len, attV_len, intsR_len, ndV, cellsEq, le_cons, le_nil, le_un, le_same]
        all_goals (repeat' (first | exact trivial | exact le_int (by omega) | exact le_bool rfl | exact le_eq rfl | exact le_nlo | exact le_refl _ | refine And.intro ?_ ?_))
        refine le_own ?_
        have h4 : ¬ (ks.getD i default).nd.up = n := by simpa using h3
        rw [take_succ_d default hlt, wosTs_app]
        simp only [wosTs, h4, if_false, trsV_app]
        rfl
      · try simp (config := { maxSteps := 2000000 }) only [go_sem, reduceCtorEq, Nat.reduceAdd, Nat.reduceEqDiff, reduceIte, Nat.reduceLeDiff, Nat.reduceLT, Nat.reduceSub, trsV_len, trsV_nil, trV_len, trV_norm, List.take_zero, List.map_nil, ndsV_len, clsV_len, attV_len, intsR_len, ndV, cellsEq]
        all_goals (repeat (with_reducible refine And.intro (by (first | omega | exact inR_small (by omega) (by omega) | exact fun _ => inR_small (by omega) (by omega) | assumption | trivial | (intros; omega) | (simp_all; done) | (intros; simp [*]; done) | (simp_all; omega) | grind)) ?_))
        refine ⟨i + 1, by omega, hlt, ?_⟩
        simp (config := { maxSteps := 2000000 }) only [go_sem, reduceCtorEq, Nat.reduceAdd, Nat.reduceEqDiff, reduceIte, Nat.reduceLeDiff, Nat.reduceLT, Nat.reduceSub, trsV_len, trsV_nil, trV_len, trV_norm, List.take_zero, List.map_nil, ndsV_len, clsV_len, attV_len, intsR_len, ndV, cellsEq, le_cons, le_nil, le_un, le_same]
        all_goals (repeat' (first | exact trivial | exact le_int (by omega) | exact le_bool rfl | exact le_eq rfl | exact le_nlo | exact le_refl _ | refine And.intro ?_ ?_))
        refine le_own ?_
        have h4 : (ks.getD i default).nd.up = n := by simpa using h3
        rw [take_succ_d default hlt, wosTs_app]
        simp only [wosTs, h4, if_true, List.append_nil]
    · try simp (config := { maxSteps := 2000000 }) only [go_sem, reduceCtorEq, Nat.reduceAdd, Nat.reduceEqDiff, reduceIte, Nat.reduceLeDiff, Nat.reduceLT, Nat.reduceSub, trsV_len, trsV_nil, trV_len, trV_norm, List.take_zero, List.map_nil, ndsV_len, clsV_len, attV_len, intsR_len, ndV, cellsEq]
      all_goals (repeat (with_reducible refine And.intro (by (first | omega | exact inR_small (by omega) (by omega) | exact fun _ => inR_small (by omega) (by omega) | assumption | trivial | (intros; omega) | (simp_all; done) | (intros; simp [*]; done) | (simp_all; omega) | grind)) ?_))
      refine fin_cellB rfl rfl ?_
      have : i = ks.length := by simp at h; omega
      rw [this, List.take_length]
      rfl
end Go.Hx
