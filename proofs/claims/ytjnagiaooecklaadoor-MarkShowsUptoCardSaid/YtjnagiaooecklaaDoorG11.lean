/-
  Walks of functions of the program over an abstract layer, and the laws that they use: each contract says what the function computes, for every input that its conditions let by. No other condition.
-/
import Derived.Test.YtjnagiaooecklaaDoorG10
import Derived.Test.YtjnagiaooecklaaDoorProg
import Derived.Test.YtjnagiaooecklaaDoorG8
import Derived.Test.YtjnagiaooecklaaDoorG9
set_option linter.all false
section
set_option maxRecDepth 100000
set_option linter.unusedSimpArgs false
namespace Go.Hx
open Go.Proofs
variable [Glob]

attribute [local go_sem] ndsV_len clsV_len attV_len intsR_len ndV cellsEq
def kidsTo (d : List Nd) (n : Int) (k : Nat) : List Int := ((List.range k).filter fun i => decide (upOf d i = n)).map Int.ofNat
def kidsOf (d : List Nd) (n : Int) : List Int := kidsTo d n d.length
theorem kidsTo_succ {d : List Nd} {n : Int} {k : Nat} : kidsTo d n (k + 1) = if upOf d k = n then kidsTo d n k ++ [(k : Int)] else kidsTo d n k := by
  unfold kidsTo
  rw [List.range_succ, List.filter_append, List.map_append]
  by_cases h : upOf d k = n <;> simp [List.filter, h]
theorem kidsTo_len {d : List Nd} {n : Int} (k : Nat) : (kidsTo d n k).length ≤ k := by
  unfold kidsTo
  rw [List.length_map]
  exact Nat.le_trans (List.length_filter_le _ _) (by simp)
theorem c_ref_KidsOf (d : List Nd) (n : Int) (hd : d.length ≤ 64) : Contract Tryd.prog fn_ref_KidsOf [.val (docV d), .val (iv n)] { res := .own ty_int 1 (intsR (kidsOf d n)) } := by
  unfold docV
  refine mk_ref_KidsOf (base := 0) ⟨Nat.le_of_ble_eq_true rfl, Nat.le_of_ble_eq_true rfl, Nat.le_of_ble_eq_true rfl, rfl⟩ (fun hfit => ?_)
  unfold F0 ref_KidsOf_E
  simp (config := { maxSteps := 2000000 }) only [markU, List.set_cons_succ, List.set_cons_zero, List.map_cons, List.map_nil, argCt, setCells, ioOf, List.length_cons, List.length_nil, Nat.reduceAdd, Nat.reduceSub, List.replicate, List.cons_append, List.nil_append]
  try simp (config := { maxSteps := 2000000 }) only [go_sem, reduceCtorEq, Nat.reduceAdd, Nat.reduceEqDiff, reduceIte, Nat.reduceLeDiff, Nat.reduceLT, Nat.reduceSub]
  all_goals (repeat (with_reducible refine sAnd ?_))
  have hm := fits_sl (k := 5) (hfit.1.1)
  rw [ndsV_len] at hm
  refine loop_sets (fun i : Nat => [(5, .own ty_int 1 (intsR (kidsTo d n i))), (6, .pv (iv i)), (11, .un), (21, .un)]) (fun i : Nat => d.length - i) (fun i : Nat => i ≤ d.length) (0) ?_ (Nat.zero_le _) ?_
  focus (simp (config := { maxSteps := 2000000 }) only [go_sem, reduceCtorEq, Nat.reduceAdd, Nat.reduceEqDiff, reduceIte, Nat.reduceLeDiff, Nat.reduceLT, Nat.reduceSub, le_cons, le_nil, le_un, le_same]; all_goals (repeat' (first | exact trivial | exact le_int (by omega) | exact le_bool rfl | exact le_eq rfl | exact le_nlo | exact le_refl _ | refine And.intro ?_ ?_)))
  intro i hi
  try simp (config := { maxSteps := 2000000 }) only [go_sem, reduceCtorEq, Nat.reduceAdd, Nat.reduceEqDiff, reduceIte, Nat.reduceLeDiff, Nat.reduceLT, Nat.reduceSub]
  all_goals (repeat (with_reducible refine sAnd ?_))
  have hu := kidsTo_len (d := d) (n := n) i
  refine cond_of (by rfl) trivial (fun h => ?_) (fun h => ?_)
  · have hlt : i < d.length := by simpa using h
    try simp (config := { maxSteps := 2000000 }) only [go_sem, reduceCtorEq, Nat.reduceAdd, Nat.reduceEqDiff, reduceIte, Nat.reduceLeDiff, Nat.reduceLT, Nat.reduceSub, ndsV_get _ _ hlt]
    all_goals (repeat (with_reducible refine sAnd ?_))
    refine cond_of (by rfl) trivial (fun h2 => ?_) (fun h2 => ?_)
    · try simp (config := { maxSteps := 2000000 }) only [go_sem, reduceCtorEq, Nat.reduceAdd, Nat.reduceEqDiff, reduceIte, Nat.reduceLeDiff, Nat.reduceLT, Nat.reduceSub]
      all_goals (repeat (with_reducible refine sAnd ?_))
      refine ⟨i + 1, by omega, hlt, ?_⟩
      simp (config := { maxSteps := 2000000 }) only [go_sem, reduceCtorEq, Nat.reduceAdd, Nat.reduceEqDiff, reduceIte, Nat.reduceLeDiff, Nat.reduceLT, Nat.reduceSub, le_cons, le_nil, le_un, le_same]
      all_goals (repeat' (first | exact trivial | exact le_int (by omega) | exact le_bool rfl | exact le_eq rfl | exact le_nlo | exact le_refl _ | refine And.intro ?_ ?_))
      refine le_own ?_
      have h3 : upOf d i = n := by simpa [upOf] using h2
      simp [kidsTo_succ, h3, intsR]
    · try simp (config := { maxSteps := 2000000 }) only [go_sem, reduceCtorEq, Nat.reduceAdd, Nat.reduceEqDiff, reduceIte, Nat.reduceLeDiff, Nat.reduceLT, Nat.reduceSub]
      all_goals (repeat (with_reducible refine sAnd ?_))
      refine ⟨i + 1, by omega, hlt, ?_⟩
      simp (config := { maxSteps := 2000000 }) only [go_sem, reduceCtorEq, Nat.reduceAdd, Nat.reduceEqDiff, reduceIte, Nat.reduceLeDiff, Nat.reduceLT, Nat.reduceSub, le_cons, le_nil, le_un, le_same]
      all_goals (repeat' (first | exact trivial | exact le_int (by omega) | exact le_bool rfl | exact le_eq rfl | exact le_nlo | exact le_refl _ | refine And.intro ?_ ?_))
      refine le_own ?_
      have h3 : ¬ upOf d i = n := by simpa [upOf] using h2
      simp [kidsTo_succ, h3, intsR]
  · try simp (config := { maxSteps := 2000000 }) only [go_sem, reduceCtorEq, Nat.reduceAdd, Nat.reduceEqDiff, reduceIte, Nat.reduceLeDiff, Nat.reduceLT, Nat.reduceSub]
    all_goals (repeat (with_reducible refine sAnd ?_))
    have : i = d.length := by simp at h; omega
    subst this
    exact fin_own rfl
end Go.Hx
end

section
-- DOM trsV_len, trsV_nil, trV_len, trV_norm, List.take_zero, List.map_nil
set_option maxRecDepth 100000
set_option linter.unusedSimpArgs false
namespace Go.Hx
open Go.Proofs
variable [Glob]

inductive Tr where
  | mk (x : Nd) (k : List Tr)
instance : Inhabited Tr := ⟨.mk default []⟩
attribute [local go_sem] ndsV_len clsV_len attV_len intsR_len ndV cellsEq List.take_zero List.map_nil
mutual
def trV : Tr → List PV
  | .mk x k => [bI x.up, bS x.tag, bS x.id, .sl 1 (clsV x.cls), .sl 2 (attV x.att), .sl 6 (trsV k)]
def trsV : List Tr → List (List PV)
  | [] => []
  | t :: r => trV t :: trsV r
end
theorem trsV_map : ∀ l : List Tr, trsV l = l.map trV
  | [] => rfl
  | t :: r => by simp [trsV, trsV_map r]
theorem trV_len (t : Tr) : (trV t).length = 6 := by cases t; rfl
attribute [local go_sem] trV_len
theorem trV_norm (t : Tr) : (trV t).map PV.norm = trV t := by cases t; rfl
attribute [local go_sem] trV_norm
theorem trsV_nil : trsV [] = [] := rfl
attribute [local go_sem] trsV_nil
theorem trsV_len (l : List Tr) : (trsV l).length = l.length := by simp [trsV_map]
attribute [local go_sem] trsV_len
def treeF (d : List Nd) : Nat → Nat → Tr
  | 0, n => .mk (d.getD n default) []
  | f + 1, n => .mk (d.getD n default) ((kidsOf d n).map fun k => treeF d f k.toNat)

theorem kidsOf_get {d : List Nd} (hd : docOk d d.length = true) {n : Nat} {i : Nat} (h : i < (kidsOf d n).length) : ∃ m : Nat, (kidsOf d n).getD i 0 = m ∧ m < d.length ∧ n < m := by
  have h1 : (kidsOf d n).getD i 0 ∈ kidsOf d n := by simp [h]
  unfold kidsOf kidsTo at h1
  obtain ⟨m, h2, h3⟩ := List.mem_map.1 h1
  rw [List.mem_filter] at h2
  have h4 : m < d.length := by simpa using h2.1
  have h5 : upOf d m = n := by simpa using h2.2
  have := (docOk_up hd m h4).2
  exact ⟨m, h3.symm, h4, by omega⟩

theorem docOk_node {d : List Nd} (hd : docOk d d.length = true) {n : Nat} (h : n < d.length) : nodeFine (d.getD n default) = true := by
  have := range_all_get hd h
  simp only [okAt, Bool.and_eq_true] at this
  exact this.1
theorem nodeFine_len {x : Nd} (h : nodeFine x = true) : x.cls.length ≤ 6 ∧ x.att.length ≤ 4 := by
  simp only [nodeFine, Bool.and_eq_true, decide_eq_true_eq] at h
  exact ⟨h.1.1.1.2, h.1.1.2⟩
theorem take_map_succ {α β : Type} {f : α → β} {l : List α} {i : Nat} (d : α) (h : i < l.length) : (l.take (i + 1)).map f = (l.take i).map f ++ [f (l.getD i d)] := by
  rw [List.take_succ_eq_append_getElem h, List.map_append]; simp [h]

mutual
def layT : Tr → List Nd → Int → List Nd
  | .mk x ks, l, up => layTs ks (l ++ [{ x with up := up }]) l.length
def layTs : List Tr → List Nd → Int → List Nd
  | [], l, _ => l
  | t :: r, l, n => layTs r (layT t l n) n
end
mutual
def szT : Tr → Nat
  | .mk _ ks => szTs ks + 1
def szTs : List Tr → Nat
  | [] => 0
  | t :: r => szT t + szTs r
end
mutual
theorem layT_len : ∀ (t : Tr) (l : List Nd) (n : Int), (layT t l n).length = l.length + szT t
  | .mk x ks, l, n => by simp only [layT, szT, layTs_len ks, List.length_append, List.length_cons, List.length_nil]; omega
theorem layTs_len : ∀ (t : List Tr) (l : List Nd) (n : Int), (layTs t l n).length = l.length + szTs t
  | [], l, n => by simp [layTs, szTs]
  | t :: r, l, n => by simp only [layTs, szTs, layTs_len r, layT_len t]; omega
end
theorem ndsV_app (a b : List Nd) : ndsV (a ++ b) = ndsV a ++ ndsV b := by simp [ndsV]

end Go.Hx
end

section
-- DOM trsV_len, trsV_nil, trV_len, trV_norm, List.take_zero, List.map_nil
set_option maxRecDepth 100000
set_option linter.unusedSimpArgs false
namespace Go.Hx
open Go.Proofs
variable [Glob]

attribute [local go_sem] ndsV_len clsV_len attV_len intsR_len ndV cellsEq trsV_len trsV_nil trV_len trV_norm List.take_zero List.map_nil
end Go.Hx
end

section
-- DOM trsV_len, trsV_nil, trV_len, trV_norm, List.take_zero, List.map_nil
set_option maxRecDepth 100000
set_option linter.unusedSimpArgs false
namespace Go.Hx
open Go.Proofs
variable [Glob]

attribute [local go_sem] ndsV_len clsV_len attV_len intsR_len ndV cellsEq trsV_len trsV_nil trV_len trV_norm List.take_zero List.map_nil
theorem checkDoc_ok {d : List Nd} (h : checkDoc d = 0) : 1 ≤ d.length ∧ d.length ≤ 64 ∧ docOk d d.length = true := by
  unfold checkDoc at h
  split at h
  · rename_i h1
    split at h
    · rename_i h2
      exact ⟨h1.1, h1.2, h2⟩
    · omega
  · omega

end Go.Hx
end

section
/-
  The abstract code of functions of the program, printed by gen.py; each stands for the given one. No condition.
-/
namespace Go.Hx
open Go.Proofs
variable [Glob]
end Go.Hx
end
