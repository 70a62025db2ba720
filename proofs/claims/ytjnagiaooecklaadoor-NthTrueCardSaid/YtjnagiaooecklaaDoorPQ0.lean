/-
  Walks of functions of the program: each contract says what the function computes, for every input that its conditions let by. No other condition.
-/
import Derived.Test.YtjnagiaooecklaaDoorN1
import Derived.Test.YtjnagiaooecklaaDoorC8
set_option linter.all false
-- DOM getO
set_option maxRecDepth 100000
set_option linter.unusedSimpArgs false
namespace Go.Hx
open Go.Proofs
attribute [local instance] globNum

theorem indexByte_in : ∀ (s : Bys) (c : UInt8), -1 ≤ Lib.indexByte s c ∧ Lib.indexByte s c < s.length
  | [], c => by simp [Lib.indexByte]
  | b :: l, c => by
    have ih := indexByte_in l c
    simp only [Lib.indexByte, List.length_cons]
    split
    · omega
    · split <;> omega
theorem cut_len (s t : Bys) : (Lib.cut s t).1.length ≤ s.length ∧ (Lib.cut s t).2.1.length ≤ s.length := by
  unfold Lib.cut
  split
  · simp; omega
  · simp
theorem c_stringslite_Cut (s : Bys) (c : UInt8) (hs : s.length ≤ 140737488355328) : Contract Tryd.prog fn_internal_stringslite_Cut [.val (sv s), .val (sv [c])] { res := .tup [sv (Lib.cut s [c]).1, sv (Lib.cut s [c]).2.1, bv (Lib.cut s [c]).2.2] } := by
  have hb := indexByte_in s c
  refine mk_internal_stringslite_Cut (base := 0) ⟨Nat.le_of_ble_eq_true rfl, Nat.le_of_ble_eq_true rfl, Nat.le_of_ble_eq_true rfl, rfl⟩ (fun hfit => ?_)
  unfold F0 internal_stringslite_Cut_E
  simp (config := { maxSteps := 2000000 }) only [markU, List.set_cons_succ, List.set_cons_zero, List.map_cons, List.map_nil, argCt, setCells, ioOf, List.length_cons, List.length_nil, Nat.reduceAdd, Nat.reduceSub, List.replicate, List.cons_append, List.nil_append]
  try simp (config := { maxSteps := 2000000 }) only [go_sem, reduceCtorEq, Nat.reduceAdd, Nat.reduceEqDiff, reduceIte, Nat.reduceLeDiff, Nat.reduceLT, Nat.reduceSub, getO, ndsV_len, clsV_len, attV_len, intsR_len, ndV, cellsEq]
  all_goals (repeat (with_reducible refine And.intro (by (first | omega | exact inR_small (by omega) (by omega) | exact fun _ => inR_small (by omega) (by omega) | assumption | trivial | (intros; omega) | (simp_all; done) | (intros; simp [*]; done) | (simp_all; omega) | grind)) ?_))
  refine call_val (by repeat' constructor) (c_Index_one s c) ?_
  try simp (config := { maxSteps := 2000000 }) only [go_sem, reduceCtorEq, Nat.reduceAdd, Nat.reduceEqDiff, reduceIte, Nat.reduceLeDiff, Nat.reduceLT, Nat.reduceSub, getO, ndsV_len, clsV_len, attV_len, intsR_len, ndV, cellsEq]
  all_goals (repeat (with_reducible refine And.intro (by (first | omega | exact inR_small (by omega) (by omega) | exact fun _ => inR_small (by omega) (by omega) | assumption | trivial | (intros; omega) | (simp_all; done) | (intros; simp [*]; done) | (simp_all; omega) | grind)) ?_))
  refine cond_of (by rfl) trivial (fun h => ?_) (fun h => ?_)
  · have h2 : 0 ≤ Lib.indexByte s c := by simpa using h
    have e : Lib.cut s [c] = (s.take (Lib.indexByte s c).toNat, s.drop ((Lib.indexByte s c).toNat + 1), true) := by
      unfold Lib.cut
      rw [Lib.index_one, if_pos h2]
      rfl
    have hsl : (0 : Int) ≤ 0 ∧ 0 ≤ Lib.indexByte s c ∧ Lib.indexByte s c ≤ s.length := by omega
    have hsl2 : 0 ≤ Lib.indexByte s c + 1 ∧ Lib.indexByte s c + 1 ≤ (s.length : Int) ∧ (s.length : Int) ≤ s.length := by omega
    have e2 : (Lib.indexByte s c + 1).toNat = (Lib.indexByte s c).toNat + 1 := by omega
    try simp (config := { maxSteps := 2000000 }) only [go_sem, reduceCtorEq, Nat.reduceAdd, Nat.reduceEqDiff, reduceIte, Nat.reduceLeDiff, Nat.reduceLT, Nat.reduceSub, getO, ndsV_len, clsV_len, attV_len, intsR_len, ndV, cellsEq, List.take_length, Int.toNat_zero]
    all_goals (repeat (with_reducible refine And.intro (by (first | omega | exact inR_small (by omega) (by omega) | exact fun _ => inR_small (by omega) (by omega) | assumption | trivial | (intros; omega) | (simp_all; done) | (intros; simp [*]; done) | (simp_all; omega) | grind)) ?_))
    rw [e]
    exact fin_tup (by simp) ⟨rs_tmp rfl trivial (.inl rfl), rs_tmp rfl trivial (.inl (by rw [← e2]; rfl)), rs_tmp rfl trivial (.inl rfl), rfl⟩
  · have h2 : ¬ 0 ≤ Lib.indexByte s c := by simpa using h
    have e : Lib.cut s [c] = (s, [], false) := by
      unfold Lib.cut
      rw [Lib.index_one, if_neg h2]
    try simp (config := { maxSteps := 2000000 }) only [go_sem, reduceCtorEq, Nat.reduceAdd, Nat.reduceEqDiff, reduceIte, Nat.reduceLeDiff, Nat.reduceLT, Nat.reduceSub, getO, ndsV_len, clsV_len, attV_len, intsR_len, ndV, cellsEq]
    all_goals (repeat (with_reducible refine And.intro (by (first | omega | exact inR_small (by omega) (by omega) | exact fun _ => inR_small (by omega) (by omega) | assumption | trivial | (intros; omega) | (simp_all; done) | (intros; simp [*]; done) | (simp_all; omega) | grind)) ?_))
    rw [e]
    exact fin_tup (by simp) ⟨rs_tmp rfl trivial (.inl rfl), rs_tmp rfl trivial (.inl rfl), rs_tmp rfl trivial (.inl rfl), rfl⟩
theorem c_strings_Cut (s : Bys) (c : UInt8) (hs : s.length ≤ 140737488355328) : Contract Tryd.prog fn_strings_Cut [.val (sv s), .val (sv [c])] { res := .tup [sv (Lib.cut s [c]).1, sv (Lib.cut s [c]).2.1, bv (Lib.cut s [c]).2.2] } := by
  refine mk_strings_Cut (base := 0) ⟨Nat.le_of_ble_eq_true rfl, Nat.le_of_ble_eq_true rfl, Nat.le_of_ble_eq_true rfl, rfl⟩ (fun hfit => ?_)
  unfold F0 strings_Cut_E
  simp (config := { maxSteps := 2000000 }) only [markU, List.set_cons_succ, List.set_cons_zero, List.map_cons, List.map_nil, argCt, setCells, ioOf, List.length_cons, List.length_nil, Nat.reduceAdd, Nat.reduceSub, List.replicate, List.cons_append, List.nil_append]
  try simp (config := { maxSteps := 2000000 }) only [go_sem, reduceCtorEq, Nat.reduceAdd, Nat.reduceEqDiff, reduceIte, Nat.reduceLeDiff, Nat.reduceLT, Nat.reduceSub, getO, ndsV_len, clsV_len, attV_len, intsR_len, ndV, cellsEq]
  all_goals (repeat (with_reducible refine And.intro (by (first | omega | exact inR_small (by omega) (by omega) | exact fun _ => inR_small (by omega) (by omega) | assumption | trivial | (intros; omega) | (simp_all; done) | (intros; simp [*]; done) | (simp_all; omega) | grind)) ?_))
  refine call_tup (by repeat' constructor) (c_stringslite_Cut s c hs) ?_
  try simp (config := { maxSteps := 2000000 }) only [go_sem, reduceCtorEq, Nat.reduceAdd, Nat.reduceEqDiff, reduceIte, Nat.reduceLeDiff, Nat.reduceLT, Nat.reduceSub, getO, ndsV_len, clsV_len, attV_len, intsR_len, ndV, cellsEq]
  all_goals (repeat (with_reducible refine And.intro (by (first | omega | exact inR_small (by omega) (by omega) | exact fun _ => inR_small (by omega) (by omega) | assumption | trivial | (intros; omega) | (simp_all; done) | (intros; simp [*]; done) | (simp_all; omega) | grind)) ?_))
  exact fin_tup (by simp) ⟨rs_tmp rfl trivial (.inl rfl), rs_tmp rfl trivial (.inl rfl), rs_tmp rfl trivial (.inl rfl), rfl⟩
end Go.Hx
