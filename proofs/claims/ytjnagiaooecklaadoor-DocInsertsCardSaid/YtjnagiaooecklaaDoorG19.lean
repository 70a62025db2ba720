/-
  Walks of functions of the program over an abstract layer, and the laws that they use: each contract says what the function computes, for every input that its conditions let by. No other condition.
-/
import Derived.Test.YtjnagiaooecklaaDoorG8
import Derived.Test.YtjnagiaooecklaaDoorG12
import Derived.Test.YtjnagiaooecklaaDoorG18
import Derived.Test.YtjnagiaooecklaaDoorG17
set_option linter.all false
section
-- DOM trsV_len, trsV_nil, trV_len, trV_norm, List.take_zero, List.map_nil, docV, ↓ o_vlp, ↓ o_vse, ↓ o_vlh, ↓ o_vle, atV, OVal.cells, layR, List.drop_succ_cons, List.drop_zero, List.take_succ_cons, List.getD_nil, frzL_p, plainL, Nat.sub_zero, List.map_cons, ev, setCells, cellsOV, cellOV, mkOV, leftCells, leftC, mix_len, ovTrs_len, ovTr_len, List.set_set, List.length_set, List.set_cons_zero, List.set_cons_succ, List.getD_cons_zero, List.getD_cons_succ, OV.left
set_option maxRecDepth 100000
set_option linter.unusedSimpArgs false
namespace Go.Hx
open Go.Proofs
variable [Glob]

attribute [local go_sem] ndsV_len clsV_len attV_len intsR_len ndV cellsEq trsV_len trsV_nil trV_len trV_norm List.take_zero List.map_nil docV atV OVal.cells layR List.drop_succ_cons List.drop_zero List.take_succ_cons List.getD_nil frzL_p plainL Nat.sub_zero List.map_cons ev setCells cellsOV cellOV mkOV leftCells leftC mix_len List.set_set List.length_set List.set_cons_zero List.set_cons_succ List.getD_cons_zero List.getD_cons_succ OV.left
attribute [local go_sem ↓] o_vlp o_vse o_vlh o_vle
mutual
def ovTr : Tr → List OV
  | .mk x k => [.p (bI x.up), .p (bS x.tag), .p (bS x.id), .p (.sl 1 (clsV x.cls)), .p (.sl 2 (attV x.att)), .os none ty_pathfinderyref_tree 6 (ovTrs k)]
def ovTrs : List Tr → List (List OV)
  | [] => []
  | t :: r => ovTr t :: ovTrs r
end
theorem ovTrs_map : ∀ l : List Tr, ovTrs l = l.map ovTr
  | [] => rfl
  | t :: r => by simp [ovTrs, ovTrs_map r]
theorem ovTrs_len (l : List Tr) : (ovTrs l).length = l.length := by simp [ovTrs_map]
attribute [local go_sem] ovTrs_len
theorem ovTr_len (t : Tr) : (ovTr t).length = 6 := by cases t; rfl
attribute [local go_sem] ovTr_len
theorem ovTrs_app (l r : List Tr) : ovTrs (l ++ r) = ovTrs l ++ ovTrs r := by simp [ovTrs_map]
mutual
theorem frz_ovTr : ∀ t : Tr, frzL (ovTr t) = some (trV t)
  | .mk x k => by simp only [ovTr, frzL, OV.frz, frz_ovTrs k, trV]
theorem frz_ovTrs : ∀ l : List Tr, frzRows (ovTrs l) = some (trsV l)
  | [] => rfl
  | t :: r => by simp only [ovTrs, frzRows, frz_ovTr t, frz_ovTrs r, trsV]
end
theorem forTs_map : ∀ l : List Tr, forTs l = l.map forT
  | [] => rfl
  | t :: r => by simp [forTs, forTs_map r]

theorem c_foreign : ∀ (N : Nat) (t : Tr), szT t ≤ N → N ≤ 1000000 → OContract Tryd.prog fn_ref_foreign (.agg (ovTr t)) (.agg (ovTr (forT t)))
  | 0, .mk x ks, h1, _ => by simp [szT] at h1
  | N + 1, .mk x ks, h1, h2 => by
    have ih := c_foreign N
    have hks := kids_sz ks
    simp only [szT] at h1
    simp only [forT, ovTr]
    refine mk_ref_foreignV ?_
    unfold F0v ref_foreignV_E
    simp (config := { maxSteps := 2000000 }) only [markU, List.set_cons_succ, List.set_cons_zero, List.map_cons, List.map_nil, argCt, setCells, ioOf, List.length_cons, List.length_nil, Nat.reduceAdd, Nat.reduceSub, List.replicate, List.cons_append, List.nil_append]
    try simp (config := { maxSteps := 2000000 }) only [go_sem, reduceCtorEq, Nat.reduceAdd, Nat.reduceEqDiff, reduceIte, Nat.reduceLeDiff, Nat.reduceLT, Nat.reduceSub]
    all_goals (repeat (with_reducible refine sAnd ?_))
    intro b
    have e0 : ovTrs ks = mix (fun t => ovTr (forT t)) ovTr ks 0 := by rw [mix_0, ovTrs_map]
    rw [e0]
    refine loop_sets (fun i : Nat => [(3, .pv (iv i)), (29, .ov (.one (.os (some b) ty_pathfinderyref_tree 6 (mix (fun t => ovTr (forT t)) ovTr ks i)))), (10, .un)]) (fun i : Nat => ks.length - i) (fun i : Nat => i ≤ ks.length) (0) ?_ (Nat.zero_le _) ?_
    focus (simp (config := { maxSteps := 2000000 }) only [go_sem, reduceCtorEq, Nat.reduceAdd, Nat.reduceEqDiff, reduceIte, Nat.reduceLeDiff, Nat.reduceLT, Nat.reduceSub, le_cons, le_nil, le_un, le_same]; all_goals (repeat' (first | exact trivial | exact le_int (by omega) | exact le_bool rfl | exact le_eq rfl | exact le_nlo | exact le_refl _ | refine And.intro ?_ ?_)))
    intro i hi
    try simp (config := { maxSteps := 2000000 }) only [go_sem, reduceCtorEq, Nat.reduceAdd, Nat.reduceEqDiff, reduceIte, Nat.reduceLeDiff, Nat.reduceLT, Nat.reduceSub]
    all_goals (repeat (with_reducible refine sAnd ?_))
    refine cond_of (by rfl) trivial (fun h => ?_) (fun h => ?_)
    · have hlt : i < ks.length := by simpa using h
      have hsz := szTs_get hlt
      have e1 : (mix (fun t => ovTr (forT t)) ovTr ks i).getD i [] = ovTr (ks.getD i default) := mix_get hlt
      have e2 := mix_set (f := fun t => ovTr (forT t)) (g := ovTr) hlt
      obtain ⟨M, hM⟩ : ∃ M, M = mix (fun t => ovTr (forT t)) ovTr ks i := ⟨_, rfl⟩
      have hMl : M.length = ks.length := by rw [hM, mix_len]
      rw [← hM] at e1 e2 ⊢
      have hc := ih (ks.getD i default) (by omega) (by omega)
      have hset := set_gets (l := M) (m := i) (by omega)
      obtain ⟨t, ht⟩ : ∃ t, t = ks.getD i default := ⟨_, rfl⟩
      rw [← ht] at e1 e2 hc
      rcases t with ⟨y, yk⟩
      simp only [ovTr, forT] at hc e1 e2
      try simp (config := { maxSteps := 2000000 }) only [go_sem, reduceCtorEq, Nat.reduceAdd, Nat.reduceEqDiff, reduceIte, Nat.reduceLeDiff, Nat.reduceLT, Nat.reduceSub, e1, hset]
      all_goals (repeat (with_reducible refine sAnd ?_))
      refine call_o (by rfl) hc ?_
      try simp (config := { maxSteps := 2000000 }) only [go_sem, reduceCtorEq, Nat.reduceAdd, Nat.reduceEqDiff, reduceIte, Nat.reduceLeDiff, Nat.reduceLT, Nat.reduceSub, e1, hset]
      all_goals (repeat (with_reducible refine sAnd ?_))
      refine ⟨i + 1, by omega, hlt, ?_⟩
      simp (config := { maxSteps := 2000000 }) only [go_sem, reduceCtorEq, Nat.reduceAdd, Nat.reduceEqDiff, reduceIte, Nat.reduceLeDiff, Nat.reduceLT, Nat.reduceSub, le_cons, le_nil, le_un, le_same]
      all_goals (repeat' (first | exact trivial | exact le_int (by omega) | exact le_bool rfl | exact le_eq rfl | exact le_nlo | exact le_refl _ | refine And.intro ?_ ?_))
      refine le_eq ?_
      rw [e2]
    · have hil : i = ks.length := by simp at h; omega
      subst hil
      have e3 : ks.map (fun t => ovTr (forT t)) = ovTrs (forTs ks) := by rw [ovTrs_map, forTs_map, List.map_map]; rfl
      rw [mix_all, e3]
      try simp (config := { maxSteps := 2000000 }) only [go_sem, reduceCtorEq, Nat.reduceAdd, Nat.reduceEqDiff, reduceIte, Nat.reduceLeDiff, Nat.reduceLT, Nat.reduceSub]
      all_goals (repeat (with_reducible refine sAnd ?_))
      exact fin_cellOV rfl rfl rfl

theorem cV_treeOf (d : List Nd) (hd : docOk d d.length = true) (hl : d.length ≤ 64) : ∀ (f n : Nat), n < d.length → d.length - n ≤ f → Contract Tryd.prog fn_ref_treeOf [.val (docV d), .val (iv n)] { res := .ov (.agg (ovTr (treeF d f n))) }
  | 0, n, h1, h2 => by omega
  | f + 1, n, h1, h2 => by
    have ih := cV_treeOf d hd hl f
    unfold docV at ih ⊢
    simp only [treeF, ovTr]
    refine mk_ref_treeOfV (base := 0) ⟨Nat.le_of_ble_eq_true rfl, Nat.le_of_ble_eq_true rfl, Nat.le_of_ble_eq_true rfl, rfl⟩ (fun hfit => ?_)
    unfold F0 ref_treeOfV_E
    simp (config := { maxSteps := 2000000 }) only [markU, List.set_cons_succ, List.set_cons_zero, List.map_cons, List.map_nil, argCt, setCells, ioOf, List.length_cons, List.length_nil, Nat.reduceAdd, Nat.reduceSub, List.replicate, List.cons_append, List.nil_append]
    try simp (config := { maxSteps := 2000000 }) only [go_sem, reduceCtorEq, Nat.reduceAdd, Nat.reduceEqDiff, reduceIte, Nat.reduceLeDiff, Nat.reduceLT, Nat.reduceSub]
    all_goals (repeat (with_reducible refine sAnd ?_))
    try simp (config := { maxSteps := 2000000 }) only [go_sem, reduceCtorEq, Nat.reduceAdd, Nat.reduceEqDiff, reduceIte, Nat.reduceLeDiff, Nat.reduceLT, Nat.reduceSub, ndsV_get _ _ h1]
    all_goals (repeat (with_reducible refine sAnd ?_))
    have hfn := nodeFine_len (docOk_node hd h1)
    refine call_val (by repeat' constructor) (c_ref_OwnNode _ (by omega) (by omega)) ?_
    try simp (config := { maxSteps := 2000000 }) only [go_sem, reduceCtorEq, Nat.reduceAdd, Nat.reduceEqDiff, reduceIte, Nat.reduceLeDiff, Nat.reduceLT, Nat.reduceSub, ndsV_get _ _ h1]
    all_goals (repeat (with_reducible refine sAnd ?_))
    refine call_own (by repeat' constructor) (c_ref_KidsOf _ _ hl) ?_
    try simp (config := { maxSteps := 2000000 }) only [go_sem, reduceCtorEq, Nat.reduceAdd, Nat.reduceEqDiff, reduceIte, Nat.reduceLeDiff, Nat.reduceLT, Nat.reduceSub]
    all_goals (repeat (with_reducible refine sAnd ?_))
    refine loop_sets (fun i : Nat => [(7, .pv (iv i)), (47, .ov (.one (.os none ty_pathfinderyref_tree 6 (ovTrs (((kidsOf d n).take i).map fun k => treeF d f k.toNat))))), (21, .un)]) (fun i : Nat => (kidsOf d n).length - i) (fun i : Nat => i ≤ (kidsOf d n).length) (0) ?_ (Nat.zero_le _) ?_
    focus (simp (config := { maxSteps := 2000000 }) only [go_sem, reduceCtorEq, Nat.reduceAdd, Nat.reduceEqDiff, reduceIte, Nat.reduceLeDiff, Nat.reduceLT, Nat.reduceSub, le_cons, le_nil, le_un, le_same]; all_goals (repeat' (first | exact trivial | exact le_int (by omega) | exact le_bool rfl | exact le_eq rfl | exact le_nlo | exact le_refl _ | refine And.intro ?_ ?_)))
    · exact .inr (.inr rfl)
    intro i hi
    have hkl : (kidsOf d n).length ≤ d.length := kidsTo_len _
    have htl : (ovTrs (((kidsOf d n).take i).map fun k => treeF d f k.toNat)).length = i := by simp [ovTrs_len]; omega
    try simp (config := { maxSteps := 2000000 }) only [go_sem, reduceCtorEq, Nat.reduceAdd, Nat.reduceEqDiff, reduceIte, Nat.reduceLeDiff, Nat.reduceLT, Nat.reduceSub]
    all_goals (repeat (with_reducible refine sAnd ?_))
    refine cond_of (by rfl) trivial (fun h => ?_) (fun h => ?_)
    · have hlt : i < (kidsOf d n).length := by simpa using h
      obtain ⟨m, hm1, hm2, hm3⟩ := kidsOf_get hd hlt
      try simp (config := { maxSteps := 2000000 }) only [go_sem, reduceCtorEq, Nat.reduceAdd, Nat.reduceEqDiff, reduceIte, Nat.reduceLeDiff, Nat.reduceLT, Nat.reduceSub, intsR_get _ _ hlt, hm1]
      all_goals (repeat (with_reducible refine sAnd ?_))
      refine call_ov (by repeat' constructor) (ih m hm2 (by omega)) ?_
      try simp (config := { maxSteps := 2000000 }) only [go_sem, reduceCtorEq, Nat.reduceAdd, Nat.reduceEqDiff, reduceIte, Nat.reduceLeDiff, Nat.reduceLT, Nat.reduceSub, htl]
      all_goals (repeat (with_reducible refine sAnd ?_))
      refine ⟨i + 1, by omega, hlt, ?_⟩
      simp (config := { maxSteps := 2000000 }) only [go_sem, reduceCtorEq, Nat.reduceAdd, Nat.reduceEqDiff, reduceIte, Nat.reduceLeDiff, Nat.reduceLT, Nat.reduceSub, le_cons, le_nil, le_un, le_same]
      all_goals (repeat' (first | exact trivial | exact le_int (by omega) | exact le_bool rfl | exact le_eq rfl | exact le_nlo | exact le_refl _ | refine And.intro ?_ ?_))
      refine le_eq ?_
      rw [take_map_succ 0 hlt, ovTrs_app, hm1]
      rfl
    · try simp (config := { maxSteps := 2000000 }) only [go_sem, reduceCtorEq, Nat.reduceAdd, Nat.reduceEqDiff, reduceIte, Nat.reduceLeDiff, Nat.reduceLT, Nat.reduceSub]
      all_goals (repeat (with_reducible refine sAnd ?_))
      have : i = (kidsOf d n).length := by simp at h; omega
      rw [this, List.take_length]
      exact fin_cellOV rfl rfl rfl
end Go.Hx
end

section
-- DOM trsV_len, trsV_nil, trV_len, trV_norm, List.take_zero, List.map_nil, insA_nil, List.nil_append, List.length_append, trsV_len
set_option maxRecDepth 100000
set_option linter.unusedSimpArgs false
namespace Go.Hx
open Go.Proofs
variable [Glob]

attribute [local go_sem] ndsV_len clsV_len attV_len intsR_len ndV cellsEq trsV_len trsV_nil trV_len trV_norm List.take_zero List.map_nil List.nil_append List.length_append
/-- A tree among kids, what stands ahead of the end. -/
def insA (b : Bool) (at' : Int) (e : Tr) : Nat → List Tr → List Tr
  | _, [] => []
  | i, t :: r => (if b && decide ((i : Int) = at') then [e] else []) ++ t :: insA b at' e (i + 1) r
theorem insA_nil {b : Bool} {at' : Int} {e : Tr} {i : Nat} : insA b at' e i [] = [] := rfl
attribute [local go_sem] insA_nil
theorem insA_app (b : Bool) (at' : Int) (e : Tr) : ∀ (l r : List Tr) (i : Nat), insA b at' e i (l ++ r) = insA b at' e i l ++ insA b at' e (i + l.length) r
  | [], r, i => by simp [insA]
  | t :: l, r, i => by
    have := insA_app b at' e l r (i + 1)
    simp only [List.cons_append, insA, this, List.length_cons, List.append_assoc]
    rw [show i + 1 + l.length = i + (l.length + 1) by omega]
theorem insL_eq (b : Bool) (at' : Int) (e : Tr) : ∀ (l : List Tr) (i : Nat), insL b at' e i l = insA b at' e i l ++ (if b && decide (((i + l.length : Nat) : Int) = at') then [e] else [])
  | [], i => by simp [insL, insA]
  | t :: l, i => by
    have := insL_eq b at' e l (i + 1)
    simp only [insL, insA, this, List.length_cons]
    rw [show i + 1 + l.length = i + (l.length + 1) by omega]
    split <;> simp
theorem insA_len (b : Bool) (at' : Int) (e : Tr) : ∀ (l : List Tr) (i : Nat), (insA b at' e i l).length ≤ 2 * l.length
  | [], i => by simp [insA]
  | t :: l, i => by
    have := insA_len b at' e l (i + 1)
    simp only [insA, List.length_append, List.length_cons]
    split <;> simp <;> omega
theorem withTs_len (up at' : Int) (e : Tr) (l : List Tr) : (withTs up at' e l).length = l.length := by simp [withTs_map]
theorem withTs_app (up at' : Int) (e : Tr) (l r : List Tr) : withTs up at' e (l ++ r) = withTs up at' e l ++ withTs up at' e r := by simp [withTs_map]
theorem insL_sz (b : Bool) (at' : Int) (e : Tr) : ∀ (l : List Tr) (i : Nat), szTs (insL b at' e i l) ≤ szTs l + szT e
  | [], i => by
    simp only [insL]
    split <;> simp [szTs]
  | t :: l, i => by
    cases b with
    | false => rw [insL_f]; omega
    | true =>
      have ih := insL_sz true at' e l (i + 1)
      simp only [insL]
      split
      · rename_i h
        rw [insL_past l (i + 1) (by simp at h; omega)]
        simp only [szTs]; omega
      · simp only [szTs]; omega
mutual
theorem withT_sz (up at' : Int) (e : Tr) : ∀ t : Tr, szT (withT up at' e t) ≤ szT t * (1 + szT e)
  | .mk x k => by
    have h1 := insL_sz (decide (x.up = up)) at' e (withTs up at' e k) 0
    have h2 := withTs_sz up at' e k
    simp only [withT, szT, Nat.add_mul, Nat.one_mul]
    omega
theorem withTs_sz (up at' : Int) (e : Tr) : ∀ l : List Tr, szTs (withTs up at' e l) ≤ szTs l * (1 + szT e)
  | [] => by simp [withTs, szTs]
  | t :: r => by
    have h1 := withT_sz up at' e t
    have h2 := withTs_sz up at' e r
    simp only [withTs, szTs, Nat.add_mul]
    omega
end
mutual
theorem forT_sz : ∀ t : Tr, szT (forT t) = szT t
  | .mk x k => by simp only [forT, szT, forTs_sz k]
theorem forTs_sz : ∀ l : List Tr, szTs (forTs l) = szTs l
  | [] => rfl
  | t :: r => by simp only [forTs, szTs, forT_sz t, forTs_sz r]
end

theorem c_ref_with : ∀ (N : Nat) (t : Tr) (up at' : Int) (e : Tr), szT t ≤ N → N ≤ 1000000 → Contract Tryd.prog fn_ref_with [.val (.agg (trV t)), .val (iv up), .val (iv at'), .val (.agg (trV e))] { res := .val (.agg (trV (withT up at' e t))) }
  | 0, .mk x ks, up, at', e, h1, _ => by simp [szT] at h1
  | N + 1, .mk x ks, up, at', e, h1, h2 => by
    have ih := c_ref_with N
    simp only [szT] at h1 h2
    obtain ⟨ex, ek⟩ := e
    simp only [withT, trV]
    refine mk_ref_with (base := 0) ⟨Nat.le_of_ble_eq_true rfl, Nat.le_of_ble_eq_true rfl, Nat.le_of_ble_eq_true rfl, rfl⟩ (fun hfit => ?_)
    unfold F0 ref_with_E
    simp (config := { maxSteps := 2000000 }) only [markU, List.set_cons_succ, List.set_cons_zero, List.map_cons, List.map_nil, argCt, setCells, ioOf, List.length_cons, List.length_nil, Nat.reduceAdd, Nat.reduceSub, List.replicate, List.cons_append, List.nil_append]
    try simp (config := { maxSteps := 2000000 }) only [go_sem, reduceCtorEq, Nat.reduceAdd, Nat.reduceEqDiff, reduceIte, Nat.reduceLeDiff, Nat.reduceLT, Nat.reduceSub]
    all_goals (repeat (with_reducible refine sAnd ?_))
    have hks := kids_sz ks
    obtain ⟨e, he⟩ : ∃ e, e = Tr.mk ex ek := ⟨_, rfl⟩
    rw [← he]
    have hev : trV e = [bI ex.up, bS ex.tag, bS ex.id, .sl 1 (clsV ex.cls), .sl 2 (attV ex.att), .sl 6 (trsV ek)] := by rw [he]; rfl
    refine loop_sets (fun i : Nat => [(9, .own ty_pathfinderyref_tree 6 (trsV (insA (decide (x.up = up)) at' e 0 (withTs up at' e (ks.take i))))), (10, .pv (iv i)), (15, .un), (27, .un)]) (fun i : Nat => ks.length - i) (fun i : Nat => i ≤ ks.length) (0) ?_ (Nat.zero_le _) ?_
    focus (simp (config := { maxSteps := 2000000 }) only [go_sem, reduceCtorEq, Nat.reduceAdd, Nat.reduceEqDiff, reduceIte, Nat.reduceLeDiff, Nat.reduceLT, Nat.reduceSub, le_cons, le_nil, le_un, le_same]; all_goals (repeat' (first | exact trivial | exact le_int (by omega) | exact le_bool rfl | exact le_eq rfl | exact le_nlo | exact le_refl _ | refine And.intro ?_ ?_)))
    intro i hi
    have hw := insA_len (decide (x.up = up)) at' e (withTs up at' e (ks.take i)) 0
    rw [withTs_len, List.length_take] at hw
    try simp (config := { maxSteps := 2000000 }) only [go_sem, reduceCtorEq, Nat.reduceAdd, Nat.reduceEqDiff, reduceIte, Nat.reduceLeDiff, Nat.reduceLT, Nat.reduceSub]
    all_goals (repeat (with_reducible refine sAnd ?_))
    refine cond_of (by rfl) trivial (fun h => ?_) (fun h => ?_)
    · have hlt : i < ks.length := by simpa using h
      have hsz := szTs_get hlt
      have hc := ih (ks.getD i default) up at' e (by omega) (by omega)
      rw [hev] at hc
      have hnext : insA (decide (x.up = up)) at' e 0 (withTs up at' e (ks.take (i + 1))) = insA (decide (x.up = up)) at' e 0 (withTs up at' e (ks.take i)) ++ ((if decide (x.up = up) && decide ((i : Int) = at') then [e] else []) ++ [withT up at' e (ks.getD i default)]) := by
        rw [take_succ_d default hlt, withTs_app, insA_app, withTs_len, List.length_take, Nat.zero_add, Nat.min_eq_left hi]
        simp only [withTs, insA]
      try simp (config := { maxSteps := 2000000 }) only [go_sem, reduceCtorEq, Nat.reduceAdd, Nat.reduceEqDiff, reduceIte, Nat.reduceLeDiff, Nat.reduceLT, Nat.reduceSub]
      all_goals (repeat (with_reducible refine sAnd ?_))
      refine cond_of (by rfl) trivial (fun h3 => ?_) (fun h3 => ?_)
      · try simp (config := { maxSteps := 2000000 }) only [go_sem, reduceCtorEq, Nat.reduceAdd, Nat.reduceEqDiff, reduceIte, Nat.reduceLeDiff, Nat.reduceLT, Nat.reduceSub, trsV_get _ _ hlt]
        all_goals (repeat (with_reducible refine sAnd ?_))
        refine call_val (by repeat' constructor) (Contract.av (hc) (by first | rfl | (simp (config := { maxSteps := 2000000 }) only [go_sem, reduceCtorEq, Nat.reduceAdd, Nat.reduceEqDiff, reduceIte, Nat.reduceLeDiff, Nat.reduceLT, Nat.reduceSub]; done) | (simp (config := { maxSteps := 2000000 }) only [go_sem, reduceCtorEq, Nat.reduceAdd, Nat.reduceEqDiff, reduceIte, Nat.reduceLeDiff, Nat.reduceLT, Nat.reduceSub]; rfl))) ?_
        try simp (config := { maxSteps := 2000000 }) only [go_sem, reduceCtorEq, Nat.reduceAdd, Nat.reduceEqDiff, reduceIte, Nat.reduceLeDiff, Nat.reduceLT, Nat.reduceSub]
        all_goals (repeat (with_reducible refine sAnd ?_))
        refine ⟨i + 1, by omega, hlt, ?_⟩
        simp (config := { maxSteps := 2000000 }) only [go_sem, reduceCtorEq, Nat.reduceAdd, Nat.reduceEqDiff, reduceIte, Nat.reduceLeDiff, Nat.reduceLT, Nat.reduceSub, le_cons, le_nil, le_un, le_same]
        all_goals (repeat' (first | exact trivial | exact le_int (by omega) | exact le_bool rfl | exact le_eq rfl | exact le_nlo | exact le_refl _ | refine And.intro ?_ ?_))
        refine le_own ?_
        rw [hnext]
        have h4 : (decide (x.up = up) && decide ((i : Int) = at')) = true := by
          simp at h3 ⊢
          exact h3
        rw [if_pos h4]
        simp only [trsV_app, trsV, hev, List.append_assoc]
        try rfl
      · try simp (config := { maxSteps := 2000000 }) only [go_sem, reduceCtorEq, Nat.reduceAdd, Nat.reduceEqDiff, reduceIte, Nat.reduceLeDiff, Nat.reduceLT, Nat.reduceSub, trsV_get _ _ hlt]
        all_goals (repeat (with_reducible refine sAnd ?_))
        refine call_val (by repeat' constructor) (Contract.av (hc) (by first | rfl | (simp (config := { maxSteps := 2000000 }) only [go_sem, reduceCtorEq, Nat.reduceAdd, Nat.reduceEqDiff, reduceIte, Nat.reduceLeDiff, Nat.reduceLT, Nat.reduceSub]; done) | (simp (config := { maxSteps := 2000000 }) only [go_sem, reduceCtorEq, Nat.reduceAdd, Nat.reduceEqDiff, reduceIte, Nat.reduceLeDiff, Nat.reduceLT, Nat.reduceSub]; rfl))) ?_
        try simp (config := { maxSteps := 2000000 }) only [go_sem, reduceCtorEq, Nat.reduceAdd, Nat.reduceEqDiff, reduceIte, Nat.reduceLeDiff, Nat.reduceLT, Nat.reduceSub]
        all_goals (repeat (with_reducible refine sAnd ?_))
        refine ⟨i + 1, by omega, hlt, ?_⟩
        simp (config := { maxSteps := 2000000 }) only [go_sem, reduceCtorEq, Nat.reduceAdd, Nat.reduceEqDiff, reduceIte, Nat.reduceLeDiff, Nat.reduceLT, Nat.reduceSub, le_cons, le_nil, le_un, le_same]
        all_goals (repeat' (first | exact trivial | exact le_int (by omega) | exact le_bool rfl | exact le_eq rfl | exact le_nlo | exact le_refl _ | refine And.intro ?_ ?_))
        refine le_own ?_
        rw [hnext]
        have h4 : ¬ (decide (x.up = up) && decide ((i : Int) = at')) = true := by
          simp at h3 ⊢
          exact h3
        rw [if_neg h4]
        simp only [trsV_app, trsV, List.nil_append]
    · have hil : i = ks.length := by simp at h; omega
      subst hil
      rw [List.take_length] at hw ⊢
      have hfin := insL_eq (decide (x.up = up)) at' e (withTs up at' e ks) 0
      rw [withTs_len, Nat.zero_add] at hfin
      cases hq : (x.up == up) with
      | false =>
        try simp (config := { maxSteps := 2000000 }) only [go_sem, reduceCtorEq, Nat.reduceAdd, Nat.reduceEqDiff, reduceIte, Nat.reduceLeDiff, Nat.reduceLT, Nat.reduceSub, hq]
        all_goals (repeat (with_reducible refine sAnd ?_))
        refine cond_f (by rfl) trivial ?_
        try simp (config := { maxSteps := 2000000 }) only [go_sem, reduceCtorEq, Nat.reduceAdd, Nat.reduceEqDiff, reduceIte, Nat.reduceLeDiff, Nat.reduceLT, Nat.reduceSub]
        all_goals (repeat (with_reducible refine sAnd ?_))
        refine fin_cellB rfl rfl ?_
        have h4 : ¬ (decide (x.up = up) && decide (((ks.length : Nat) : Int) = at')) = true := by
          simp at hq ⊢
          intro h6
          exact (hq h6).elim
        rw [hfin, if_neg h4, List.append_nil]
        rfl
      | true =>
        try simp (config := { maxSteps := 2000000 }) only [go_sem, reduceCtorEq, Nat.reduceAdd, Nat.reduceEqDiff, reduceIte, Nat.reduceLeDiff, Nat.reduceLT, Nat.reduceSub, hq]
        all_goals (repeat (with_reducible refine sAnd ?_))
        refine cond_of (by rfl) trivial (fun h5 => ?_) (fun h5 => ?_)
        · try simp (config := { maxSteps := 2000000 }) only [go_sem, reduceCtorEq, Nat.reduceAdd, Nat.reduceEqDiff, reduceIte, Nat.reduceLeDiff, Nat.reduceLT, Nat.reduceSub]
          all_goals (repeat (with_reducible refine sAnd ?_))
          refine fin_cellB rfl rfl ?_
          have h4 : (decide (x.up = up) && decide (((ks.length : Nat) : Int) = at')) = true := by
            simp at h5 hq ⊢
            exact ⟨hq, h5.symm⟩
          rw [hfin, if_pos h4, trsV_app]
          simp only [trsV, hev]
          rfl
        · try simp (config := { maxSteps := 2000000 }) only [go_sem, reduceCtorEq, Nat.reduceAdd, Nat.reduceEqDiff, reduceIte, Nat.reduceLeDiff, Nat.reduceLT, Nat.reduceSub]
          all_goals (repeat (with_reducible refine sAnd ?_))
          refine fin_cellB rfl rfl ?_
          have h4 : ¬ (decide (x.up = up) && decide (((ks.length : Nat) : Int) = at')) = true := by
            simp at h5 hq ⊢
            intro h6 h7
            exact h5 h7.symm
          rw [hfin, if_neg h4, List.append_nil]
          rfl

theorem cV_ref_InsertDoc (d : List Nd) (up at' : Int) (e : List Nd) : Contract Tryd.prog fn_ref_InsertDoc [.val (docV d), .val (iv up), .val (iv at'), .val (docV e)] { res := .tup [docV (if insE d up at' e = 0 then insF d up at' e else []), iv (insE d up at' e)] } := by
  unfold docV
  refine mk_ref_InsertDocV (base := 0) ⟨Nat.le_of_ble_eq_true rfl, Nat.le_of_ble_eq_true rfl, Nat.le_of_ble_eq_true rfl, rfl⟩ (fun hfit => ?_)
  unfold F0 ref_InsertDocV_E
  simp (config := { maxSteps := 2000000 }) only [markU, List.set_cons_succ, List.set_cons_zero, List.map_cons, List.map_nil, argCt, setCells, ioOf, List.length_cons, List.length_nil, Nat.reduceAdd, Nat.reduceSub, List.replicate, List.cons_append, List.nil_append]
  try simp (config := { maxSteps := 2000000 }) only [go_sem, reduceCtorEq, Nat.reduceAdd, Nat.reduceEqDiff, reduceIte, Nat.reduceLeDiff, Nat.reduceLT, Nat.reduceSub]
  all_goals (repeat (with_reducible refine sAnd ?_))
  refine call_val (by repeat' constructor) (Contract.av (c_ref_CheckDoc d) (by first | rfl | (simp (config := { maxSteps := 2000000 }) only [go_sem, reduceCtorEq, Nat.reduceAdd, Nat.reduceEqDiff, reduceIte, Nat.reduceLeDiff, Nat.reduceLT, Nat.reduceSub]; done) | (simp (config := { maxSteps := 2000000 }) only [go_sem, reduceCtorEq, Nat.reduceAdd, Nat.reduceEqDiff, reduceIte, Nat.reduceLeDiff, Nat.reduceLT, Nat.reduceSub]; rfl))) ?_
  try simp (config := { maxSteps := 2000000 }) only [go_sem, reduceCtorEq, Nat.reduceAdd, Nat.reduceEqDiff, reduceIte, Nat.reduceLeDiff, Nat.reduceLT, Nat.reduceSub]
  all_goals (repeat (with_reducible refine sAnd ?_))
  refine cond_of (by rfl) trivial (fun h => ?_) (fun h => ?_)
  · try simp (config := { maxSteps := 2000000 }) only [go_sem, reduceCtorEq, Nat.reduceAdd, Nat.reduceEqDiff, reduceIte, Nat.reduceLeDiff, Nat.reduceLT, Nat.reduceSub]
    all_goals (repeat (with_reducible refine sAnd ?_))
    have h2 : ¬ checkDoc d = 0 := by simpa using h
    have h3 : insE d up at' e = checkDoc d := by rw [insE, if_neg h2]
    rw [h3, if_neg h2]
    exact fin_tup (by simp) ⟨rs_cellB rfl rfl (.inr rfl), rs_tmp rfl trivial (.inl rfl), rfl⟩
  have hd0 : checkDoc d = 0 := by simpa using h
  try simp (config := { maxSteps := 2000000 }) only [go_sem, reduceCtorEq, Nat.reduceAdd, Nat.reduceEqDiff, reduceIte, Nat.reduceLeDiff, Nat.reduceLT, Nat.reduceSub]
  all_goals (repeat (with_reducible refine sAnd ?_))
  refine call_val (by repeat' constructor) (Contract.av (c_ref_CheckDoc e) (by first | rfl | (simp (config := { maxSteps := 2000000 }) only [go_sem, reduceCtorEq, Nat.reduceAdd, Nat.reduceEqDiff, reduceIte, Nat.reduceLeDiff, Nat.reduceLT, Nat.reduceSub]; done) | (simp (config := { maxSteps := 2000000 }) only [go_sem, reduceCtorEq, Nat.reduceAdd, Nat.reduceEqDiff, reduceIte, Nat.reduceLeDiff, Nat.reduceLT, Nat.reduceSub]; rfl))) ?_
  try simp (config := { maxSteps := 2000000 }) only [go_sem, reduceCtorEq, Nat.reduceAdd, Nat.reduceEqDiff, reduceIte, Nat.reduceLeDiff, Nat.reduceLT, Nat.reduceSub]
  all_goals (repeat (with_reducible refine sAnd ?_))
  refine cond_of (by rfl) trivial (fun h3 => ?_) (fun h3 => ?_)
  · try simp (config := { maxSteps := 2000000 }) only [go_sem, reduceCtorEq, Nat.reduceAdd, Nat.reduceEqDiff, reduceIte, Nat.reduceLeDiff, Nat.reduceLT, Nat.reduceSub]
    all_goals (repeat (with_reducible refine sAnd ?_))
    have h2 : ¬ checkDoc e = 0 := by simpa using h3
    have h3 : insE d up at' e = checkDoc e := by rw [insE, if_pos hd0, if_neg h2]
    rw [h3, if_neg h2]
    exact fin_tup (by simp) ⟨rs_cellB rfl rfl (.inr rfl), rs_tmp rfl trivial (.inl rfl), rfl⟩
  have he0 : checkDoc e = 0 := by simpa using h3
  obtain ⟨d1, d2, d3⟩ := checkDoc_ok hd0
  obtain ⟨e1, e2, e3⟩ := checkDoc_ok he0
  try simp (config := { maxSteps := 2000000 }) only [go_sem, reduceCtorEq, Nat.reduceAdd, Nat.reduceEqDiff, reduceIte, Nat.reduceLeDiff, Nat.reduceLT, Nat.reduceSub]
  all_goals (repeat (with_reducible refine sAnd ?_))
  refine call_val (by repeat' constructor) (c_ref_within up 0 (d.length - 1)) ?_
  try simp (config := { maxSteps := 2000000 }) only [go_sem, reduceCtorEq, Nat.reduceAdd, Nat.reduceEqDiff, reduceIte, Nat.reduceLeDiff, Nat.reduceLT, Nat.reduceSub]
  all_goals (repeat (with_reducible refine sAnd ?_))
  refine cond_of (by rfl) trivial (fun h5 => ?_) (fun h5 => ?_)
  · try simp (config := { maxSteps := 2000000 }) only [go_sem, reduceCtorEq, Nat.reduceAdd, Nat.reduceEqDiff, reduceIte, Nat.reduceLeDiff, Nat.reduceLT, Nat.reduceSub]
    all_goals (repeat (with_reducible refine sAnd ?_))
    have h6 : up < 0 ∨ up ≥ d.length := by simp at h5; omega
    have h7 : insE d up at' e = 5 := by rw [insE, if_pos hd0, if_pos he0, if_pos h6]
    rw [h7, if_neg (by omega)]
    exact fin_tup (by simp) ⟨rs_cellB rfl rfl (.inr rfl), rs_tmp rfl trivial (.inl rfl), rfl⟩
  have h6 : ¬ (up < 0 ∨ up ≥ d.length) := by simp at h5; omega
  obtain ⟨m, rfl⟩ : ∃ m : Nat, up = m := ⟨up.toNat, by omega⟩
  have hm : m < d.length := by omega
  have hkl : (kidsOf d m).length ≤ d.length := kidsTo_len _
  have hpl : (docPlaces d m).length = (kidsOf d m).length + 1 := by rw [docPlaces, docKids_eq d3 hm]; simp
  try simp (config := { maxSteps := 2000000 }) only [go_sem, reduceCtorEq, Nat.reduceAdd, Nat.reduceEqDiff, reduceIte, Nat.reduceLeDiff, Nat.reduceLT, Nat.reduceSub]
  all_goals (repeat (with_reducible refine sAnd ?_))
  refine call_own (by repeat' constructor) (Contract.av (c_ref_KidsOf d m d2) (by first | rfl | (simp (config := { maxSteps := 2000000 }) only [go_sem, reduceCtorEq, Nat.reduceAdd, Nat.reduceEqDiff, reduceIte, Nat.reduceLeDiff, Nat.reduceLT, Nat.reduceSub]; done) | (simp (config := { maxSteps := 2000000 }) only [go_sem, reduceCtorEq, Nat.reduceAdd, Nat.reduceEqDiff, reduceIte, Nat.reduceLeDiff, Nat.reduceLT, Nat.reduceSub]; rfl))) ?_
  try simp (config := { maxSteps := 2000000 }) only [go_sem, reduceCtorEq, Nat.reduceAdd, Nat.reduceEqDiff, reduceIte, Nat.reduceLeDiff, Nat.reduceLT, Nat.reduceSub]
  all_goals (repeat (with_reducible refine sAnd ?_))
  refine call_val (by repeat' constructor) (c_ref_within at' 0 (kidsOf d m).length) ?_
  try simp (config := { maxSteps := 2000000 }) only [go_sem, reduceCtorEq, Nat.reduceAdd, Nat.reduceEqDiff, reduceIte, Nat.reduceLeDiff, Nat.reduceLT, Nat.reduceSub]
  all_goals (repeat (with_reducible refine sAnd ?_))
  refine cond_of (by rfl) trivial (fun h7 => ?_) (fun h7 => ?_)
  · try simp (config := { maxSteps := 2000000 }) only [go_sem, reduceCtorEq, Nat.reduceAdd, Nat.reduceEqDiff, reduceIte, Nat.reduceLeDiff, Nat.reduceLT, Nat.reduceSub]
    all_goals (repeat (with_reducible refine sAnd ?_))
    have h8 : at' < 0 ∨ at' ≥ (docPlaces d (m : Int).toNat).length := by rw [Int.toNat_natCast, hpl]; simp at h7; omega
    have h9 : insE d m at' e = 3 := by rw [insE, if_pos hd0, if_pos he0, if_neg h6, if_pos h8]
    rw [h9, if_neg (by omega)]
    exact fin_tup (by simp) ⟨rs_cellB rfl rfl (.inr rfl), rs_tmp rfl trivial (.inl rfl), rfl⟩
  have h8 : ¬ (at' < 0 ∨ at' ≥ (docPlaces d (m : Int).toNat).length) := by rw [Int.toNat_natCast, hpl]; simp at h7; omega
  try simp (config := { maxSteps := 2000000 }) only [go_sem, reduceCtorEq, Nat.reduceAdd, Nat.reduceEqDiff, reduceIte, Nat.reduceLeDiff, Nat.reduceLT, Nat.reduceSub]
  all_goals (repeat (with_reducible refine sAnd ?_))
  refine cond_of (by rfl) trivial (fun h9 => ?_) (fun h9 => ?_)
  · try simp (config := { maxSteps := 2000000 }) only [go_sem, reduceCtorEq, Nat.reduceAdd, Nat.reduceEqDiff, reduceIte, Nat.reduceLeDiff, Nat.reduceLT, Nat.reduceSub]
    all_goals (repeat (with_reducible refine sAnd ?_))
    have h10 : d.length + e.length > 64 := by simp at h9; omega
    have h11 : insE d m at' e = 2 := by rw [insE, if_pos hd0, if_pos he0, if_neg h6, if_neg h8, if_pos h10]
    rw [h11, if_neg (by omega)]
    exact fin_tup (by simp) ⟨rs_cellB rfl rfl (.inr rfl), rs_tmp rfl trivial (.inl rfl), rfl⟩
  have h10 : ¬ d.length + e.length > 64 := by simp at h9; omega
  have h11 : insE d m at' e = 0 := by rw [insE, if_pos hd0, if_pos he0, if_neg h6, if_neg h8, if_neg h10]
  rw [h11, if_pos rfl]
  have hse : szT (treeF e e.length 0) ≤ 64 := by
    rw [treeF_sz e3 (by omega)]
    have := behind_le (d := e) (n := 0) (by omega)
    omega
  have hsd : szT (markF d d.length 0) ≤ 64 := by
    rw [szT_mark, treeF_sz d3 (by omega)]
    have := behind_le (d := d) (n := 0) (by omega)
    omega
  have hsw := withT_sz m at' (forT (treeF e e.length 0)) (markF d d.length 0)
  rw [forT_sz] at hsw
  have hsw2 : szT (withT m at' (forT (treeF e e.length 0)) (markF d d.length 0)) ≤ 64 * 65 := Nat.le_trans hsw (Nat.mul_le_mul hsd (by omega))
  try simp (config := { maxSteps := 2000000 }) only [go_sem, reduceCtorEq, Nat.reduceAdd, Nat.reduceEqDiff, reduceIte, Nat.reduceLeDiff, Nat.reduceLT, Nat.reduceSub]
  all_goals (repeat (with_reducible refine sAnd ?_))
  refine call_val (by repeat' constructor) (Contract.av (c_ref_marked d d3 d2 d.length 0 (by omega) (by omega)) (by first | rfl | (simp (config := { maxSteps := 2000000 }) only [go_sem, reduceCtorEq, Nat.reduceAdd, Nat.reduceEqDiff, reduceIte, Nat.reduceLeDiff, Nat.reduceLT, Nat.reduceSub]; done) | (simp (config := { maxSteps := 2000000 }) only [go_sem, reduceCtorEq, Nat.reduceAdd, Nat.reduceEqDiff, reduceIte, Nat.reduceLeDiff, Nat.reduceLT, Nat.reduceSub]; rfl))) ?_
  try simp (config := { maxSteps := 2000000 }) only [go_sem, reduceCtorEq, Nat.reduceAdd, Nat.reduceEqDiff, reduceIte, Nat.reduceLeDiff, Nat.reduceLT, Nat.reduceSub]
  all_goals (repeat (with_reducible refine sAnd ?_))
  refine call_ov (by repeat' constructor) (Contract.av (cV_treeOf e e3 e2 e.length 0 (by omega) (by omega)) (by first | rfl | (simp (config := { maxSteps := 2000000 }) only [go_sem, reduceCtorEq, Nat.reduceAdd, Nat.reduceEqDiff, reduceIte, Nat.reduceLeDiff, Nat.reduceLT, Nat.reduceSub]; done) | (simp (config := { maxSteps := 2000000 }) only [go_sem, reduceCtorEq, Nat.reduceAdd, Nat.reduceEqDiff, reduceIte, Nat.reduceLeDiff, Nat.reduceLT, Nat.reduceSub]; rfl))) ?_
  try simp (config := { maxSteps := 2000000 }) only [go_sem, reduceCtorEq, Nat.reduceAdd, Nat.reduceEqDiff, reduceIte, Nat.reduceLeDiff, Nat.reduceLT, Nat.reduceSub]
  all_goals (repeat (with_reducible refine sAnd ?_))
  refine call_p (by rfl) (c_foreign _ _ hse (by omega)) (frz_ovTr _) ?_
  try simp (config := { maxSteps := 2000000 }) only [go_sem, reduceCtorEq, Nat.reduceAdd, Nat.reduceEqDiff, reduceIte, Nat.reduceLeDiff, Nat.reduceLT, Nat.reduceSub]
  all_goals (repeat (with_reducible refine sAnd ?_))
  refine call_val (by repeat' constructor) (Contract.av (c_ref_with _ (markF d d.length 0) m at' (forT (treeF e e.length 0)) (Nat.le_refl _) (by omega)) (by first | rfl | (simp (config := { maxSteps := 2000000 }) only [go_sem, reduceCtorEq, Nat.reduceAdd, Nat.reduceEqDiff, reduceIte, Nat.reduceLeDiff, Nat.reduceLT, Nat.reduceSub]; done) | (simp (config := { maxSteps := 2000000 }) only [go_sem, reduceCtorEq, Nat.reduceAdd, Nat.reduceEqDiff, reduceIte, Nat.reduceLeDiff, Nat.reduceLT, Nat.reduceSub]; rfl))) ?_
  try simp (config := { maxSteps := 2000000 }) only [go_sem, reduceCtorEq, Nat.reduceAdd, Nat.reduceEqDiff, reduceIte, Nat.reduceLeDiff, Nat.reduceLT, Nat.reduceSub]
  all_goals (repeat (with_reducible refine sAnd ?_))
  refine call_own (by repeat' constructor) (Contract.av (c_ref_lay _ (withT m at' (forT (treeF e e.length 0)) (markF d d.length 0)) [] (-1) (Nat.le_refl _) (by simp; omega)) (by first | rfl | (simp (config := { maxSteps := 2000000 }) only [go_sem, reduceCtorEq, Nat.reduceAdd, Nat.reduceEqDiff, reduceIte, Nat.reduceLeDiff, Nat.reduceLT, Nat.reduceSub]; done) | (simp (config := { maxSteps := 2000000 }) only [go_sem, reduceCtorEq, Nat.reduceAdd, Nat.reduceEqDiff, reduceIte, Nat.reduceLeDiff, Nat.reduceLT, Nat.reduceSub]; rfl))) ?_
  try simp (config := { maxSteps := 2000000 }) only [go_sem, reduceCtorEq, Nat.reduceAdd, Nat.reduceEqDiff, reduceIte, Nat.reduceLeDiff, Nat.reduceLT, Nat.reduceSub]
  all_goals (repeat (with_reducible refine sAnd ?_))
  exact fin_tup (by simp) ⟨rs_cellB rfl rfl (.inl rfl), rs_tmp rfl trivial (.inl rfl), rfl⟩

theorem c_law_DocInserts (d : List Nd) (up at' : Int) (e : List Nd) : Contract Tryd.prog fn_law_DocInserts [.val (docV d), .val (iv up), .val (iv at'), .val (docV e)] { res := .val (bv true) } := by
  have h1 := c_doc_Insert d up at' e
  have h2 := cV_ref_InsertDoc d up at' e
  have h3 : (if insE d up at' e = 0 then insF d up at' e else []) = (if insE d up at' e = 0 then docInsert d up at' e else []) := by
    split
    · rename_i h; rw [docInsert_eq h]
    · rfl
  rw [h3] at h2
  obtain ⟨x, hx⟩ : ∃ x, x = (if insE d up at' e = 0 then docInsert d up at' e else []) := ⟨_, rfl⟩
  rw [← hx] at h1 h2
  unfold docV at h1 h2 ⊢
  refine mk_law_DocInserts (base := 0) ⟨Nat.le_of_ble_eq_true rfl, Nat.le_of_ble_eq_true rfl, Nat.le_of_ble_eq_true rfl, rfl⟩ (fun hfit => ?_)
  unfold F0 law_DocInserts_E
  simp (config := { maxSteps := 2000000 }) only [markU, List.set_cons_succ, List.set_cons_zero, List.map_cons, List.map_nil, argCt, setCells, ioOf, List.length_cons, List.length_nil, Nat.reduceAdd, Nat.reduceSub, List.replicate, List.cons_append, List.nil_append]
  try simp (config := { maxSteps := 2000000 }) only [go_sem, reduceCtorEq, Nat.reduceAdd, Nat.reduceEqDiff, reduceIte, Nat.reduceLeDiff, Nat.reduceLT, Nat.reduceSub]
  all_goals (repeat (with_reducible refine sAnd ?_))
  refine call_tup (by repeat' constructor) (Contract.av (h1) (by first | rfl | (simp (config := { maxSteps := 2000000 }) only [go_sem, reduceCtorEq, Nat.reduceAdd, Nat.reduceEqDiff, reduceIte, Nat.reduceLeDiff, Nat.reduceLT, Nat.reduceSub]; done) | (simp (config := { maxSteps := 2000000 }) only [go_sem, reduceCtorEq, Nat.reduceAdd, Nat.reduceEqDiff, reduceIte, Nat.reduceLeDiff, Nat.reduceLT, Nat.reduceSub]; rfl))) ?_
  try simp (config := { maxSteps := 2000000 }) only [go_sem, reduceCtorEq, Nat.reduceAdd, Nat.reduceEqDiff, reduceIte, Nat.reduceLeDiff, Nat.reduceLT, Nat.reduceSub]
  all_goals (repeat (with_reducible refine sAnd ?_))
  refine call_tup (by repeat' constructor) (Contract.av (h2) (by first | rfl | (simp (config := { maxSteps := 2000000 }) only [go_sem, reduceCtorEq, Nat.reduceAdd, Nat.reduceEqDiff, reduceIte, Nat.reduceLeDiff, Nat.reduceLT, Nat.reduceSub]; done) | (simp (config := { maxSteps := 2000000 }) only [go_sem, reduceCtorEq, Nat.reduceAdd, Nat.reduceEqDiff, reduceIte, Nat.reduceLeDiff, Nat.reduceLT, Nat.reduceSub]; rfl))) ?_
  try simp (config := { maxSteps := 2000000 }) only [go_sem, reduceCtorEq, Nat.reduceAdd, Nat.reduceEqDiff, reduceIte, Nat.reduceLeDiff, Nat.reduceLT, Nat.reduceSub]
  all_goals (repeat (with_reducible refine sAnd ?_))
  refine call_val (by repeat' constructor) (c_law_docBegun) ?_
  try simp (config := { maxSteps := 2000000 }) only [go_sem, reduceCtorEq, Nat.reduceAdd, Nat.reduceEqDiff, reduceIte, Nat.reduceLeDiff, Nat.reduceLT, Nat.reduceSub]
  all_goals (repeat (with_reducible refine sAnd ?_))
  apply call_guard (h2 := fun _ => c_ref_SameDocs x x)
  · (simp (config := { maxSteps := 2000000 }) only [go_sem, reduceCtorEq, Nat.reduceAdd, Nat.reduceEqDiff, reduceIte, Nat.reduceLeDiff, Nat.reduceLT, Nat.reduceSub]; rfl)
  · intro h; repeat' (first | exact trivial | exact h | refine And.intro ?_ ?_)
  try simp (config := { maxSteps := 2000000 }) only [go_sem, reduceCtorEq, Nat.reduceAdd, Nat.reduceEqDiff, reduceIte, Nat.reduceLeDiff, Nat.reduceLT, Nat.reduceSub, dec_self]
  all_goals (repeat (with_reducible refine sAnd ?_))
  refine fin_val rfl trivial (.inl ?_)
  simp
end Go.Hx
end
