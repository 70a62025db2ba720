/-
  Walks of functions of the program: each contract says what the function computes, for every input that its conditions let by. No other condition.
-/
import Derived.Test.YtjnagiaooecklaaDoorP5
set_option linter.all false
-- DOM trsV_len, trsV_nil, trV_len, trV_norm, List.take_zero, List.map_nil
set_option maxRecDepth 100000
set_option linter.unusedSimpArgs false
namespace Go.Hx
open Go.Proofs

inductive Tr where
  | mk (x : Nd) (k : List Tr)
instance : Inhabited Tr := ⟨.mk default []⟩
def Tr.nd : Tr → Nd | .mk x _ => x
def Tr.kids : Tr → List Tr | .mk _ k => k
mutual
def trV : Tr → List PV
  | .mk x k => [bI x.up, bS x.tag, bS x.id, .sl 1 (clsV x.cls), .sl 2 (attV x.att), .sl 6 (trsV k)]
def trsV : List Tr → List (List PV)
  | [] => []
  | t :: r => trV t :: trsV r
end
theorem trsV_map : ∀ l : List Tr, trsV l = l.map trV
  | [] => rfl
  | t :: r => by simp [trsV, trsV_map r]
theorem trV_len (t : Tr) : (trV t).length = 6 := by cases t; rfl
theorem trV_norm (t : Tr) : (trV t).map PV.norm = trV t := by cases t; rfl
theorem trsV_nil : trsV [] = [] := rfl
theorem trsV_len (l : List Tr) : (trsV l).length = l.length := by simp [trsV_map]
theorem trsV_get (l : List Tr) (i : Nat) (h : i < l.length) : (trsV l).getD i [] = trV (l.getD i default) := by simp [trsV_map, h]
theorem trsV_app (l r : List Tr) : trsV (l ++ r) = trsV l ++ trsV r := by simp [trsV_map]
def treeF (d : List Nd) : Nat → Nat → Tr
  | 0, n => .mk (d.getD n default) []
  | f + 1, n => .mk (d.getD n default) ((kidsOf d n).map fun k => treeF d f k.toNat)

theorem kidsOf_get {d : List Nd} (hd : docOk d d.length = true) {n : Nat} {i : Nat} (h : i < (kidsOf d n).length) : ∃ m : Nat, (kidsOf d n).getD i 0 = m ∧ m < d.length ∧ n < m := by
  have h1 : (kidsOf d n).getD i 0 ∈ kidsOf d n := by simp [h]
  unfold kidsOf kidsTo at h1
  obtain ⟨m, h2, h3⟩ := List.mem_map.1 h1
  rw [List.mem_filter] at h2
  have h4 : m < d.length := by simpa using h2.1
  have h5 : upOf d m = n := by simpa using h2.2
  have := (docOk_up hd m h4).2
  exact ⟨m, h3.symm, h4, by omega⟩

theorem docOk_node {d : List Nd} (hd : docOk d d.length = true) {n : Nat} (h : n < d.length) : nodeFine (d.getD n default) = true := by
  have := range_all_get hd h
  simp only [okAt, Bool.and_eq_true] at this
  exact this.1
theorem nodeFine_len {x : Nd} (h : nodeFine x = true) : x.cls.length ≤ 6 ∧ x.att.length ≤ 4 := by
  simp only [nodeFine, Bool.and_eq_true, decide_eq_true_eq] at h
  exact ⟨h.1.1.1.2, h.1.1.2⟩
theorem take_map_succ {α β : Type} {f : α → β} {l : List α} {i : Nat} (d : α) (h : i < l.length) : (l.take (i + 1)).map f = (l.take i).map f ++ [f (l.getD i d)] := by
  rw [List.take_succ_eq_append_getElem h, List.map_append]; simp [h]

theorem c_ref_treeOf (d : List Nd) (hd : docOk d d.length = true) (hl : d.length ≤ 64) : ∀ (f n : Nat), n < d.length → d.length - n ≤ f → Contract Tryd.prog fn_ref_treeOf [.val (docV d), .val (iv n)] { res := .val (.agg (trV (treeF d f n))) }
  | 0, n, h1, h2 => by omega
  | f + 1, n, h1, h2 => by
    have ih := c_ref_treeOf d hd hl f
    unfold docV at ih ⊢
    simp only [treeF, trV]
    refine mk_ref_treeOf (base := 0) ⟨Nat.le_of_ble_eq_true rfl, Nat.le_of_ble_eq_true rfl, Nat.le_of_ble_eq_true rfl, rfl⟩ (fun hfit => ?_)
    unfold F0 ref_treeOf_E
    simp (config := { maxSteps := 2000000 }) only [markU, List.set_cons_succ, List.set_cons_zero, List.map_cons, List.map_nil, argCt, setCells, ioOf, List.length_cons, List.length_nil, Nat.reduceAdd, Nat.reduceSub, List.replicate, List.cons_append, List.nil_append]
    try simp (config := { maxSteps := 2000000 }) only [go_sem, reduceCtorEq, Nat.reduceAdd, Nat.reduceEqDiff, reduceIte, Nat.reduceLeDiff, Nat.reduceLT, Nat.reduceSub, trsV_len, trsV_nil, trV_len, trV_norm, List.take_zero, List.map_nil, ndsV_len, clsV_len, attV_len, intsR_len, ndV, cellsEq]
    all_goals (repeat (with_reducible refine And.intro (by (first | omega | exact inR_small (by omega) (by omega) | exact fun _ => inR_small (by omega) (by omega) | assumption | trivial | (intros; omega) | (simp_all; done) | (intros; simp [*]; done) | (simp_all; omega) | grind)) ?_))
    try simp (config := { maxSteps := 2000000 }) only [go_sem, reduceCtorEq, Nat.reduceAdd, Nat.reduceEqDiff, reduceIte, Nat.reduceLeDiff, Nat.reduceLT, Nat.reduceSub, trsV_len, trsV_nil, trV_len, trV_norm, List.take_zero, List.map_nil, ndsV_len, clsV_len, attV_len, intsR_len, ndV, cellsEq, ndsV_get _ _ h1]
    all_goals (repeat (with_reducible refine And.intro (by (first | omega | exact inR_small (by omega) (by omega) | exact fun _ => inR_small (by omega) (by omega) | assumption | trivial | (intros; omega) | (simp_all; done) | (intros; simp [*]; done) | (simp_all; omega) | grind)) ?_))
    have hfn := nodeFine_len (docOk_node hd h1)
    refine call_val (by repeat' constructor) (c_ref_OwnNode _ (by omega) (by omega)) ?_
    try simp (config := { maxSteps := 2000000 }) only [go_sem, reduceCtorEq, Nat.reduceAdd, Nat.reduceEqDiff, reduceIte, Nat.reduceLeDiff, Nat.reduceLT, Nat.reduceSub, trsV_len, trsV_nil, trV_len, trV_norm, List.take_zero, List.map_nil, ndsV_len, clsV_len, attV_len, intsR_len, ndV, cellsEq, ndsV_get _ _ h1]
    all_goals (repeat (with_reducible refine And.intro (by (first | omega | exact inR_small (by omega) (by omega) | exact fun _ => inR_small (by omega) (by omega) | assumption | trivial | (intros; omega) | (simp_all; done) | (intros; simp [*]; done) | (simp_all; omega) | grind)) ?_))
    refine call_own (by repeat' constructor) (c_ref_KidsOf _ _ hl) ?_
    try simp (config := { maxSteps := 2000000 }) only [go_sem, reduceCtorEq, Nat.reduceAdd, Nat.reduceEqDiff, reduceIte, Nat.reduceLeDiff, Nat.reduceLT, Nat.reduceSub, trsV_len, trsV_nil, trV_len, trV_norm, List.take_zero, List.map_nil, ndsV_len, clsV_len, attV_len, intsR_len, ndV, cellsEq]
    all_goals (repeat (with_reducible refine And.intro (by (first | omega | exact inR_small (by omega) (by omega) | exact fun _ => inR_small (by omega) (by omega) | assumption | trivial | (intros; omega) | (simp_all; done) | (intros; simp [*]; done) | (simp_all; omega) | grind)) ?_))
    refine loop_sets (fun i : Nat => [(7, .pv (iv i)), (21, .un), (47, .own ty_pathfinderyref_tree 6 (trsV (((kidsOf d n).take i).map fun k => treeF d f k.toNat)))]) (fun i : Nat => (kidsOf d n).length - i) (fun i : Nat => i ≤ (kidsOf d n).length) (0) ?_ (Nat.zero_le _) ?_
    focus (simp (config := { maxSteps := 2000000 }) only [go_sem, reduceCtorEq, Nat.reduceAdd, Nat.reduceEqDiff, reduceIte, Nat.reduceLeDiff, Nat.reduceLT, Nat.reduceSub, trsV_len, trsV_nil, trV_len, trV_norm, List.take_zero, List.map_nil, ndsV_len, clsV_len, attV_len, intsR_len, ndV, cellsEq, le_cons, le_nil, le_un, le_same]; all_goals (repeat' (first | exact trivial | exact le_int (by omega) | exact le_bool rfl | exact le_eq rfl | exact le_nlo | exact le_refl _ | refine And.intro ?_ ?_)))
    intro i hi
    have hkl : (kidsOf d n).length ≤ d.length := kidsTo_len _
    have htl : (trsV (((kidsOf d n).take i).map fun k => treeF d f k.toNat)).length = i := by simp [trsV_len]; omega
    try simp (config := { maxSteps := 2000000 }) only [go_sem, reduceCtorEq, Nat.reduceAdd, Nat.reduceEqDiff, reduceIte, Nat.reduceLeDiff, Nat.reduceLT, Nat.reduceSub, trsV_len, trsV_nil, trV_len, trV_norm, List.take_zero, List.map_nil, ndsV_len, clsV_len, attV_len, intsR_len, ndV, cellsEq]
    all_goals (repeat (with_reducible refine And.intro (by (first | omega | exact inR_small (by omega) (by omega) | exact fun _ => inR_small (by omega) (by omega) | assumption | trivial | (intros; omega) | (simp_all; done) | (intros; simp [*]; done) | (simp_all; omega) | grind)) ?_))
    refine cond_of (by rfl) trivial (fun h => ?_) (fun h => ?_)
    · have hlt : i < (kidsOf d n).length := by simpa using h
      obtain ⟨m, hm1, hm2, hm3⟩ := kidsOf_get hd hlt
      try simp (config := { maxSteps := 2000000 }) only [go_sem, reduceCtorEq, Nat.reduceAdd, Nat.reduceEqDiff, reduceIte, Nat.reduceLeDiff, Nat.reduceLT, Nat.reduceSub, trsV_len, trsV_nil, trV_len, trV_norm, List.take_zero, List.map_nil, ndsV_len, clsV_len, attV_len, intsR_len, ndV, cellsEq, intsR_get _ _ hlt, hm1]
      all_goals (repeat (with_reducible refine And.intro (by (first | omega | exact inR_small (by omega) (by omega) | exact fun _ => inR_small (by omega) (by omega) | assumption | trivial | (intros; omega) | (simp_all; done) | (intros; simp [*]; done) | (simp_all; omega) | grind)) ?_))
      refine call_val (by repeat' constructor) (ih m hm2 (by omega)) ?_
      try simp (config := { maxSteps := 2000000 }) only [go_sem, reduceCtorEq, Nat.reduceAdd, Nat.reduceEqDiff, reduceIte, Nat.reduceLeDiff, Nat.reduceLT, Nat.reduceSub, trsV_len, trsV_nil, trV_len, trV_norm, List.take_zero, List.map_nil, ndsV_len, clsV_len, attV_len, intsR_len, ndV, cellsEq, htl]
      all_goals (repeat (with_reducible refine And.intro (by (first | omega | exact inR_small (by omega) (by omega) | exact fun _ => inR_small (by omega) (by omega) | assumption | trivial | (intros; omega) | (simp_all; done) | (intros; simp [*]; done) | (simp_all; omega) | grind)) ?_))
      refine ⟨i + 1, by omega, hlt, ?_⟩
      simp (config := { maxSteps := 2000000 }) only [go_sem, reduceCtorEq, Nat.reduceAdd, Nat.reduceEqDiff, reduceIte, Nat.reduceLeDiff, Nat.reduceLT, Nat.reduceSub, trsV_len, trsV_nil, trV_len, trV_norm, List.take_zero, List.map_nil, ndsV_len, clsV_len, attV_len, intsR_len, ndV, cellsEq, le_cons, le_nil, le_un, le_same]
      all_goals (repeat' (first | exact trivial | exact le_int (by omega) | exact le_bool rfl | exact le_eq rfl | exact le_nlo | exact le_refl _ | refine And.intro ?_ ?_))
      refine le_own ?_
      rw [take_map_succ 0 hlt, trsV_app, hm1]
      rfl
    · try simp (config := { maxSteps := 2000000 }) only [go_sem, reduceCtorEq, Nat.reduceAdd, Nat.reduceEqDiff, reduceIte, Nat.reduceLeDiff, Nat.reduceLT, Nat.reduceSub, trsV_len, trsV_nil, trV_len, trV_norm, List.take_zero, List.map_nil, ndsV_len, clsV_len, attV_len, intsR_len, ndV, cellsEq]
      all_goals (repeat (with_reducible refine And.intro (by (first | omega | exact inR_small (by omega) (by omega) | exact fun _ => inR_small (by omega) (by omega) | assumption | trivial | (intros; omega) | (simp_all; done) | (intros; simp [*]; done) | (simp_all; omega) | grind)) ?_))
      refine fin_cellB rfl rfl ?_
      have : i = (kidsOf d n).length := by simp at h; omega
      rw [this, List.take_length]
      rfl

mutual
def layT : Tr → List Nd → Int → List Nd
  | .mk x ks, l, up => layTs ks (l ++ [{ x with up := up }]) l.length
def layTs : List Tr → List Nd → Int → List Nd
  | [], l, _ => l
  | t :: r, l, n => layTs r (layT t l n) n
end
mutual
def szT : Tr → Nat
  | .mk _ ks => szTs ks + 1
def szTs : List Tr → Nat
  | [] => 0
  | t :: r => szT t + szTs r
end
mutual
theorem layT_len : ∀ (t : Tr) (l : List Nd) (n : Int), (layT t l n).length = l.length + szT t
  | .mk x ks, l, n => by simp only [layT, szT, layTs_len ks, List.length_append, List.length_cons, List.length_nil]; omega
theorem layTs_len : ∀ (t : List Tr) (l : List Nd) (n : Int), (layTs t l n).length = l.length + szTs t
  | [], l, n => by simp [layTs, szTs]
  | t :: r, l, n => by simp only [layTs, szTs, layTs_len r, layT_len t]; omega
end
theorem layTs_app : ∀ (a b : List Tr) (l : List Nd) (n : Int), layTs (a ++ b) l n = layTs b (layTs a l n) n
  | [], b, l, n => rfl
  | t :: a, b, l, n => by simp only [List.cons_append, layTs, layTs_app a]
theorem szTs_app : ∀ (a b : List Tr), szTs (a ++ b) = szTs a + szTs b
  | [], b => by simp [szTs]
  | t :: a, b => by simp only [List.cons_append, szTs, szTs_app a]; omega
theorem take_succ_d {α : Type} {l : List α} {i : Nat} (d : α) (h : i < l.length) : l.take (i + 1) = l.take i ++ [l.getD i d] := by
  rw [List.take_succ_eq_append_getElem h]; simp [h]
theorem szTs_get : ∀ {l : List Tr} {i : Nat}, i < l.length → szTs (l.take i) + szT (l.getD i default) ≤ szTs l
  | t :: r, 0, _ => by simp [szTs]
  | t :: r, i + 1, h => by
    have := szTs_get (l := r) (i := i) (by simpa using h)
    simp only [List.take_succ_cons, szTs, List.getD_cons_succ]
    omega
theorem ndsV_app (a b : List Nd) : ndsV (a ++ b) = ndsV a ++ ndsV b := by simp [ndsV]

theorem c_ref_lay : ∀ (N : Nat) (t : Tr) (l : List Nd) (up : Int), szT t ≤ N → l.length + szT t ≤ 1000000 → Contract Tryd.prog fn_ref_lay [.own ty_api_Node 5 (ndsV l), .val (.agg (trV t)), .val (iv up)] { res := .own ty_api_Node 5 (ndsV (layT t l up)) }
  | 0, .mk x ks, l, up, h1, _ => by simp [szT] at h1
  | N + 1, .mk x ks, l, up, h1, h2 => by
    have ih := c_ref_lay N
    simp only [szT] at h1 h2
    simp only [layT, trV]
    refine mk_ref_lay (base := 0) ⟨Nat.le_of_ble_eq_true rfl, Nat.le_of_ble_eq_true rfl, Nat.le_of_ble_eq_true rfl, rfl⟩ (fun hfit => ?_)
    unfold F0 ref_lay_E
    simp (config := { maxSteps := 2000000 }) only [markU, List.set_cons_succ, List.set_cons_zero, List.map_cons, List.map_nil, argCt, setCells, ioOf, List.length_cons, List.length_nil, Nat.reduceAdd, Nat.reduceSub, List.replicate, List.cons_append, List.nil_append]
    try simp (config := { maxSteps := 2000000 }) only [go_sem, reduceCtorEq, Nat.reduceAdd, Nat.reduceEqDiff, reduceIte, Nat.reduceLeDiff, Nat.reduceLT, Nat.reduceSub, trsV_len, trsV_nil, trV_len, trV_norm, List.take_zero, List.map_nil, ndsV_len, clsV_len, attV_len, intsR_len, ndV, cellsEq]
    all_goals (repeat (with_reducible refine And.intro (by (first | omega | exact inR_small (by omega) (by omega) | exact fun _ => inR_small (by omega) (by omega) | assumption | trivial | (intros; omega) | (simp_all; done) | (intros; simp [*]; done) | (simp_all; omega) | grind)) ?_))
    have hm := fits_sl (k := 6) hfit.2.1.2.2.2.2.2.1
    rw [trsV_len] at hm
    refine loop_sets (fun i : Nat => [(0, .own ty_api_Node 5 (ndsV (layTs (ks.take i) (l ++ [{ x with up := up }]) l.length))), (8, .pv (iv i)), (23, .un)]) (fun i : Nat => ks.length - i) (fun i : Nat => i ≤ ks.length) (0) ?_ (Nat.zero_le _) ?_
    focus (simp (config := { maxSteps := 2000000 }) only [go_sem, reduceCtorEq, Nat.reduceAdd, Nat.reduceEqDiff, reduceIte, Nat.reduceLeDiff, Nat.reduceLT, Nat.reduceSub, trsV_len, trsV_nil, trV_len, trV_norm, List.take_zero, List.map_nil, ndsV_len, clsV_len, attV_len, intsR_len, ndV, cellsEq, le_cons, le_nil, le_un, le_same]; all_goals (repeat' (first | exact trivial | exact le_int (by omega) | exact le_bool rfl | exact le_eq rfl | exact le_nlo | exact le_refl _ | refine And.intro ?_ ?_)))
    · simp only [layTs, ndsV_app]
      exact le_eq rfl
    intro i hi
    try simp (config := { maxSteps := 2000000 }) only [go_sem, reduceCtorEq, Nat.reduceAdd, Nat.reduceEqDiff, reduceIte, Nat.reduceLeDiff, Nat.reduceLT, Nat.reduceSub, trsV_len, trsV_nil, trV_len, trV_norm, List.take_zero, List.map_nil, ndsV_len, clsV_len, attV_len, intsR_len, ndV, cellsEq]
    all_goals (repeat (with_reducible refine And.intro (by (first | omega | exact inR_small (by omega) (by omega) | exact fun _ => inR_small (by omega) (by omega) | assumption | trivial | (intros; omega) | (simp_all; done) | (intros; simp [*]; done) | (simp_all; omega) | grind)) ?_))
    refine cond_of (by rfl) trivial (fun h => ?_) (fun h => ?_)
    · have hlt : i < ks.length := by simpa using h
      try simp (config := { maxSteps := 2000000 }) only [go_sem, reduceCtorEq, Nat.reduceAdd, Nat.reduceEqDiff, reduceIte, Nat.reduceLeDiff, Nat.reduceLT, Nat.reduceSub, trsV_len, trsV_nil, trV_len, trV_norm, List.take_zero, List.map_nil, ndsV_len, clsV_len, attV_len, intsR_len, ndV, cellsEq, trsV_get _ _ hlt]
      all_goals (repeat (with_reducible refine And.intro (by (first | omega | exact inR_small (by omega) (by omega) | exact fun _ => inR_small (by omega) (by omega) | assumption | trivial | (intros; omega) | (simp_all; done) | (intros; simp [*]; done) | (simp_all; omega) | grind)) ?_))
      have hsz := szTs_get hlt
      have hln := layTs_len (ks.take i) (l ++ [{ x with up := up }]) l.length
      simp only [List.length_append, List.length_cons, List.length_nil] at hln
      refine call_own (by repeat' constructor) (Contract.av (ih (ks.getD i default) (layTs (ks.take i) (l ++ [{ x with up := up }]) l.length) l.length (by omega) (by omega)) (by first | rfl | (simp (config := { maxSteps := 2000000 }) only [go_sem, reduceCtorEq, Nat.reduceAdd, Nat.reduceEqDiff, reduceIte, Nat.reduceLeDiff, Nat.reduceLT, Nat.reduceSub, trsV_len, trsV_nil, trV_len, trV_norm, List.take_zero, List.map_nil, ndsV_len, clsV_len, attV_len, intsR_len, ndV, cellsEq]; done) | (simp (config := { maxSteps := 2000000 }) only [go_sem, reduceCtorEq, Nat.reduceAdd, Nat.reduceEqDiff, reduceIte, Nat.reduceLeDiff, Nat.reduceLT, Nat.reduceSub, trsV_len, trsV_nil, trV_len, trV_norm, List.take_zero, List.map_nil, ndsV_len, clsV_len, attV_len, intsR_len, ndV, cellsEq]; rfl))) ?_
      try simp (config := { maxSteps := 2000000 }) only [go_sem, reduceCtorEq, Nat.reduceAdd, Nat.reduceEqDiff, reduceIte, Nat.reduceLeDiff, Nat.reduceLT, Nat.reduceSub, trsV_len, trsV_nil, trV_len, trV_norm, List.take_zero, List.map_nil, ndsV_len, clsV_len, attV_len, intsR_len, ndV, cellsEq]
      all_goals (repeat (with_reducible refine And.intro (by (first | omega | exact inR_small (by omega) (by omega) | exact fun _ => inR_small (by omega) (by omega) | assumption | trivial | (intros; omega) | (simp_all; done) | (intros; simp [*]; done) | (simp_all; omega) | grind)) ?_))
      refine ⟨i + 1, by omega, hlt, ?_⟩
      simp (config := { maxSteps := 2000000 }) only [go_sem, reduceCtorEq, Nat.reduceAdd, Nat.reduceEqDiff, reduceIte, Nat.reduceLeDiff, Nat.reduceLT, Nat.reduceSub, trsV_len, trsV_nil, trV_len, trV_norm, List.take_zero, List.map_nil, ndsV_len, clsV_len, attV_len, intsR_len, ndV, cellsEq, le_cons, le_nil, le_un, le_same]
      all_goals (repeat' (first | exact trivial | exact le_int (by omega) | exact le_bool rfl | exact le_eq rfl | exact le_nlo | exact le_refl _ | refine And.intro ?_ ?_))
      refine le_own ?_
      rw [take_succ_d default hlt, layTs_app]
      rfl
    · try simp (config := { maxSteps := 2000000 }) only [go_sem, reduceCtorEq, Nat.reduceAdd, Nat.reduceEqDiff, reduceIte, Nat.reduceLeDiff, Nat.reduceLT, Nat.reduceSub, trsV_len, trsV_nil, trV_len, trV_norm, List.take_zero, List.map_nil, ndsV_len, clsV_len, attV_len, intsR_len, ndV, cellsEq]
      all_goals (repeat (with_reducible refine And.intro (by (first | omega | exact inR_small (by omega) (by omega) | exact fun _ => inR_small (by omega) (by omega) | assumption | trivial | (intros; omega) | (simp_all; done) | (intros; simp [*]; done) | (simp_all; omega) | grind)) ?_))
      have : i = ks.length := by simp at h; omega
      rw [this, List.take_length]
      exact fin_own rfl

/-- Elements below, in preorder: as many as the chain tells. -/
def partF (d : List Nd) (n : Nat) : List Nd := layT (treeF d d.length n) [] (-1)
theorem c_ref_PartOf (d : List Nd) (hd : docOk d d.length = true) (hl : d.length ≤ 64) (n : Nat) (hn : n < d.length) (hs : szT (treeF d d.length n) ≤ 100000) : Contract Tryd.prog fn_ref_PartOf [.val (docV d), .val (iv n)] { res := .val (docV (partF d n)) } := by
  unfold docV
  refine mk_ref_PartOf (base := 0) ⟨Nat.le_of_ble_eq_true rfl, Nat.le_of_ble_eq_true rfl, Nat.le_of_ble_eq_true rfl, rfl⟩ (fun hfit => ?_)
  unfold F0 ref_PartOf_E
  simp (config := { maxSteps := 2000000 }) only [markU, List.set_cons_succ, List.set_cons_zero, List.map_cons, List.map_nil, argCt, setCells, ioOf, List.length_cons, List.length_nil, Nat.reduceAdd, Nat.reduceSub, List.replicate, List.cons_append, List.nil_append]
  try simp (config := { maxSteps := 2000000 }) only [go_sem, reduceCtorEq, Nat.reduceAdd, Nat.reduceEqDiff, reduceIte, Nat.reduceLeDiff, Nat.reduceLT, Nat.reduceSub, trsV_len, trsV_nil, trV_len, trV_norm, List.take_zero, List.map_nil, ndsV_len, clsV_len, attV_len, intsR_len, ndV, cellsEq]
  all_goals (repeat (with_reducible refine And.intro (by (first | omega | exact inR_small (by omega) (by omega) | exact fun _ => inR_small (by omega) (by omega) | assumption | trivial | (intros; omega) | (simp_all; done) | (intros; simp [*]; done) | (simp_all; omega) | grind)) ?_))
  refine call_val (by repeat' constructor) (Contract.av (c_ref_treeOf d hd hl d.length n hn (by omega)) (by first | rfl | (simp (config := { maxSteps := 2000000 }) only [go_sem, reduceCtorEq, Nat.reduceAdd, Nat.reduceEqDiff, reduceIte, Nat.reduceLeDiff, Nat.reduceLT, Nat.reduceSub, trsV_len, trsV_nil, trV_len, trV_norm, List.take_zero, List.map_nil, ndsV_len, clsV_len, attV_len, intsR_len, ndV, cellsEq]; done) | (simp (config := { maxSteps := 2000000 }) only [go_sem, reduceCtorEq, Nat.reduceAdd, Nat.reduceEqDiff, reduceIte, Nat.reduceLeDiff, Nat.reduceLT, Nat.reduceSub, trsV_len, trsV_nil, trV_len, trV_norm, List.take_zero, List.map_nil, ndsV_len, clsV_len, attV_len, intsR_len, ndV, cellsEq]; rfl))) ?_
  try simp (config := { maxSteps := 2000000 }) only [go_sem, reduceCtorEq, Nat.reduceAdd, Nat.reduceEqDiff, reduceIte, Nat.reduceLeDiff, Nat.reduceLT, Nat.reduceSub, trsV_len, trsV_nil, trV_len, trV_norm, List.take_zero, List.map_nil, ndsV_len, clsV_len, attV_len, intsR_len, ndV, cellsEq]
  all_goals (repeat (with_reducible refine And.intro (by (first | omega | exact inR_small (by omega) (by omega) | exact fun _ => inR_small (by omega) (by omega) | assumption | trivial | (intros; omega) | (simp_all; done) | (intros; simp [*]; done) | (simp_all; omega) | grind)) ?_))
  refine call_own (by repeat' constructor) (Contract.av (c_ref_lay _ (treeF d d.length n) [] (-1) (Nat.le_refl _) (by simp; omega)) (by first | rfl | (simp (config := { maxSteps := 2000000 }) only [go_sem, reduceCtorEq, Nat.reduceAdd, Nat.reduceEqDiff, reduceIte, Nat.reduceLeDiff, Nat.reduceLT, Nat.reduceSub, trsV_len, trsV_nil, trV_len, trV_norm, List.take_zero, List.map_nil, ndsV_len, clsV_len, attV_len, intsR_len, ndV, cellsEq]; done) | (simp (config := { maxSteps := 2000000 }) only [go_sem, reduceCtorEq, Nat.reduceAdd, Nat.reduceEqDiff, reduceIte, Nat.reduceLeDiff, Nat.reduceLT, Nat.reduceSub, trsV_len, trsV_nil, trV_len, trV_norm, List.take_zero, List.map_nil, ndsV_len, clsV_len, attV_len, intsR_len, ndV, cellsEq]; rfl))) ?_
  try simp (config := { maxSteps := 2000000 }) only [go_sem, reduceCtorEq, Nat.reduceAdd, Nat.reduceEqDiff, reduceIte, Nat.reduceLeDiff, Nat.reduceLT, Nat.reduceSub, trsV_len, trsV_nil, trV_len, trV_norm, List.take_zero, List.map_nil, ndsV_len, clsV_len, attV_len, intsR_len, ndV, cellsEq]
  all_goals (repeat (with_reducible refine And.intro (by (first | omega | exact inR_small (by omega) (by omega) | exact fun _ => inR_small (by omega) (by omega) | assumption | trivial | (intros; omega) | (simp_all; done) | (intros; simp [*]; done) | (simp_all; omega) | grind)) ?_))
  exact fin_cellB rfl rfl rfl
end Go.Hx
