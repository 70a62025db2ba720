/-
  Walks of functions of the program over an abstract layer, and the laws that they use: each contract says what the function computes, for every input that its conditions let by. No other condition.
-/
import Derived.Test.YtjnagiaooecklaaDoorG11
import Derived.Test.YtjnagiaooecklaaDoorProg
import Derived.Test.YtjnagiaooecklaaDoorG8
import Derived.Test.YtjnagiaooecklaaDoorG10
set_option linter.all false
section
set_option maxRecDepth 100000
set_option linter.unusedSimpArgs false
namespace Go.Hx
open Go.Proofs
variable [Glob]

attribute [local go_sem] ndsV_len clsV_len attV_len intsR_len ndV cellsEq
theorem docOk_succ {d : List Nd} {i : Nat} : docOk d (i + 1) = (docOk d i && okAt d i) := range_all_succ
theorem c_ref_CheckDoc (d : List Nd) : Contract Tryd.prog fn_ref_CheckDoc [.val (docV d)] { res := .val (iv (checkDoc d)) } := by
  unfold docV
  refine mk_ref_CheckDoc (base := 0) ⟨Nat.le_of_ble_eq_true rfl, Nat.le_of_ble_eq_true rfl, Nat.le_of_ble_eq_true rfl, rfl⟩ (fun hfit => ?_)
  unfold F0 ref_CheckDoc_E
  simp (config := { maxSteps := 2000000 }) only [markU, List.set_cons_succ, List.set_cons_zero, List.map_cons, List.map_nil, argCt, setCells, ioOf, List.length_cons, List.length_nil, Nat.reduceAdd, Nat.reduceSub, List.replicate, List.cons_append, List.nil_append]
  try simp (config := { maxSteps := 2000000 }) only [go_sem, reduceCtorEq, Nat.reduceAdd, Nat.reduceEqDiff, reduceIte, Nat.reduceLeDiff, Nat.reduceLT, Nat.reduceSub]
  all_goals (repeat (with_reducible refine sAnd ?_))
  try simp (config := { maxSteps := 2000000 }) only [go_sem, reduceCtorEq, Nat.reduceAdd, Nat.reduceEqDiff, reduceIte, Nat.reduceLeDiff, Nat.reduceLT, Nat.reduceSub, ndsV_len]
  all_goals (repeat (with_reducible refine sAnd ?_))
  refine call_val (by repeat' constructor) (c_ref_within _ _ _) ?_
  try simp (config := { maxSteps := 2000000 }) only [go_sem, reduceCtorEq, Nat.reduceAdd, Nat.reduceEqDiff, reduceIte, Nat.reduceLeDiff, Nat.reduceLT, Nat.reduceSub]
  all_goals (repeat (with_reducible refine sAnd ?_))
  refine cond_of (by rfl) trivial (fun h => ?_) (fun h => ?_)
  · try simp (config := { maxSteps := 2000000 }) only [go_sem, reduceCtorEq, Nat.reduceAdd, Nat.reduceEqDiff, reduceIte, Nat.reduceLeDiff, Nat.reduceLT, Nat.reduceSub]
    all_goals (repeat (with_reducible refine sAnd ?_))
    refine fin_val rfl trivial (.inl ?_)
    congr 3
    have h2 : ¬ (1 ≤ d.length ∧ d.length ≤ 64) := by simp at h; omega
    simp [checkDoc, h2]
  have hr : 1 ≤ d.length ∧ d.length ≤ 64 := by simp at h; omega
  obtain ⟨hr1, hr2⟩ := hr
  try simp (config := { maxSteps := 2000000 }) only [go_sem, reduceCtorEq, Nat.reduceAdd, Nat.reduceEqDiff, reduceIte, Nat.reduceLeDiff, Nat.reduceLT, Nat.reduceSub]
  all_goals (repeat (with_reducible refine sAnd ?_))
  refine loop_sets (fun i : Nat => [(3, .pv (iv i)), (4, .un), (5, .un), (15, .un), (37, .un), (47, .un), (63, .un)]) (fun i : Nat => d.length - i) (fun i : Nat => i ≤ d.length ∧ docOk d i = true) (0) ?_ ⟨Nat.zero_le _, rfl⟩ ?_
  focus (simp (config := { maxSteps := 2000000 }) only [go_sem, reduceCtorEq, Nat.reduceAdd, Nat.reduceEqDiff, reduceIte, Nat.reduceLeDiff, Nat.reduceLT, Nat.reduceSub, le_cons, le_nil, le_un, le_same]; all_goals (repeat' (first | exact trivial | exact le_int (by omega) | exact le_bool rfl | exact le_eq rfl | exact le_nlo | exact le_refl _ | refine And.intro ?_ ?_)))
  intro i ⟨hi, hok⟩
  try simp (config := { maxSteps := 2000000 }) only [go_sem, reduceCtorEq, Nat.reduceAdd, Nat.reduceEqDiff, reduceIte, Nat.reduceLeDiff, Nat.reduceLT, Nat.reduceSub, ndsV_len]
  all_goals (repeat (with_reducible refine sAnd ?_))
  refine cond_of (by rfl) trivial (fun h2 => ?_) (fun h2 => ?_)
  · have hlt : i < d.length := by simpa using h2
    try simp (config := { maxSteps := 2000000 }) only [go_sem, reduceCtorEq, Nat.reduceAdd, Nat.reduceEqDiff, reduceIte, Nat.reduceLeDiff, Nat.reduceLT, Nat.reduceSub, ndsV_len, ndsV_get _ _ hlt]
    all_goals (repeat (with_reducible refine sAnd ?_))
    refine call_val (by repeat' constructor) (c_ref_NodeFine _) ?_
    try simp (config := { maxSteps := 2000000 }) only [go_sem, reduceCtorEq, Nat.reduceAdd, Nat.reduceEqDiff, reduceIte, Nat.reduceLeDiff, Nat.reduceLT, Nat.reduceSub, ndsV_len, ndsV_get _ _ hlt, ndV]
    all_goals (repeat (with_reducible refine sAnd ?_))
    refine cond_of (by rfl) trivial (fun h3 => ?_) (fun h3 => ?_)
    · try simp (config := { maxSteps := 2000000 }) only [go_sem, reduceCtorEq, Nat.reduceAdd, Nat.reduceEqDiff, reduceIte, Nat.reduceLeDiff, Nat.reduceLT, Nat.reduceSub]
      all_goals (repeat (with_reducible refine sAnd ?_))
      refine fin_val rfl trivial (.inl ?_)
      congr 3
      have : docOk d d.length = false := by
        cases hn : docOk d d.length with
        | false => rfl
        | true =>
          exfalso
          have h4 := range_all_get hn hlt
          simp only [okAt, okUp, upOf, Bool.and_eq_true] at h4
          rw [h4.1] at h3
          by_cases h5 : i = 0
          · subst h5; simp at h3 h4; omega
          · simp at h3; omega
      simp [checkDoc, hr1, hr2, this]
    have hn : nodeFine (d.getD i default) = true := by
      cases hn : nodeFine (d.getD i default) with
      | true => rfl
      | false => rw [hn] at h3; simp at h3
    rw [hn] at h3
    have h4 : i = 0 → upOf d i = -1 := by
      intro h5; subst h5; simpa [upOf] using h3
    have hup := docOk_up hok
    try simp (config := { maxSteps := 2000000 }) only [go_sem, reduceCtorEq, Nat.reduceAdd, Nat.reduceEqDiff, reduceIte, Nat.reduceLeDiff, Nat.reduceLT, Nat.reduceSub]
    all_goals (repeat (with_reducible refine sAnd ?_))
    refine loop_sets (fun x : Int × Bool => [(4, .pv (bv x.2)), (5, .pv (iv x.1)), (47, .un)]) (fun x : Int × Bool => (x.1 + 1).toNat) (fun x : Int × Bool => -1 ≤ x.1 ∧ x.1 < i ∧ (x.2 = true → okUp d i = true) ∧ (x.2 = false → okUp d i = (chain d (x.1 + 1).toNat x.1).contains (upOf d i))) (((i : Int) - 1, (i : Int) == 0)) ?_ ⟨by show -1 ≤ (i : Int) - 1; omega, by show (i : Int) - 1 < i; omega, fun h => by simp at h; subst h; simp [okUp, h4], fun h => by simp at h; simp [okUp, h]⟩ ?_
    focus (simp (config := { maxSteps := 2000000 }) only [go_sem, reduceCtorEq, Nat.reduceAdd, Nat.reduceEqDiff, reduceIte, Nat.reduceLeDiff, Nat.reduceLT, Nat.reduceSub, le_cons, le_nil, le_un, le_same]; all_goals (repeat' (first | exact trivial | exact le_int (by omega) | exact le_bool rfl | exact le_eq rfl | exact le_nlo | exact le_refl _ | refine And.intro ?_ ?_)))
    intro ⟨k, fine⟩ ⟨hk1, hk2, hk3, hk4⟩
    simp only at hk1 hk2 hk3 hk4
    try simp (config := { maxSteps := 2000000 }) only [go_sem, reduceCtorEq, Nat.reduceAdd, Nat.reduceEqDiff, reduceIte, Nat.reduceLeDiff, Nat.reduceLT, Nat.reduceSub]
    all_goals (repeat (with_reducible refine sAnd ?_))
    refine cond_of (by rfl) trivial (fun h5 => ?_) (fun h5 => ?_)
    · have hk5 : 0 ≤ k ∧ fine = false := by simp at h5; exact h5
      obtain ⟨hk5, rfl⟩ := hk5
      have hkn : k.toNat < d.length := by omega
      try simp (config := { maxSteps := 2000000 }) only [go_sem, reduceCtorEq, Nat.reduceAdd, Nat.reduceEqDiff, reduceIte, Nat.reduceLeDiff, Nat.reduceLT, Nat.reduceSub, ndsV_get _ _ hlt, ndsV_get _ _ hkn]
      all_goals (repeat (with_reducible refine sAnd ?_))
      have h6 := hup k.toNat (by omega)
      refine ⟨(upOf d k.toNat, k == upOf d i), ?_, ⟨h6.1, ?_, ?_, ?_⟩, ?_⟩
      · simp only; omega
      · simp only; omega
      · simp only
        intro h7
        have h8 : k = upOf d i := by simpa using h7
        rw [hk4 rfl, show (k + 1).toNat = k.toNat + 1 by omega, chain, if_neg (by omega), h8]
        simp
      · simp only
        intro h7
        have h8 : ¬ k = upOf d i := by simpa using h7
        rw [hk4 rfl, show (k + 1).toNat = k.toNat + 1 by omega, chain, if_neg (by omega), List.contains_cons]
        rw [chain_fuel k.toNat (upOf d k.toNat + 1).toNat _ (fun j hj => (hup j (by omega)).2) (by omega) (by omega)]
        simp [Ne.symm h8]
      · simp (config := { maxSteps := 2000000 }) only [go_sem, reduceCtorEq, Nat.reduceAdd, Nat.reduceEqDiff, reduceIte, Nat.reduceLeDiff, Nat.reduceLT, Nat.reduceSub, le_cons, le_nil, le_un, le_same]
        all_goals (repeat' (first | exact trivial | exact le_int (by omega) | exact le_bool rfl | exact le_eq rfl | exact le_nlo | exact le_refl _ | refine And.intro ?_ ?_))
    · try simp (config := { maxSteps := 2000000 }) only [go_sem, reduceCtorEq, Nat.reduceAdd, Nat.reduceEqDiff, reduceIte, Nat.reduceLeDiff, Nat.reduceLT, Nat.reduceSub]
      all_goals (repeat (with_reducible refine sAnd ?_))
      refine cond_of (by rfl) trivial (fun h6 => ?_) (fun h6 => ?_)
      · try simp (config := { maxSteps := 2000000 }) only [go_sem, reduceCtorEq, Nat.reduceAdd, Nat.reduceEqDiff, reduceIte, Nat.reduceLeDiff, Nat.reduceLT, Nat.reduceSub]
        all_goals (repeat (with_reducible refine sAnd ?_))
        refine fin_val rfl trivial (.inl ?_)
        congr 3
        have hf : fine = false := by simpa using h6
        subst hf
        have hk : k = -1 := by simp at h5; omega
        subst hk
        have : docOk d d.length = false := by
          cases hn : docOk d d.length with
          | false => rfl
          | true =>
            exfalso
            have h7 := range_all_get hn hlt
            simp only [okAt, Bool.and_eq_true] at h7
            rw [hk4 rfl] at h7
            simp [chain] at h7
        simp [checkDoc, hr1, hr2, this]
      · have hf : fine = true := by simpa using h6
        subst hf
        try simp (config := { maxSteps := 2000000 }) only [go_sem, reduceCtorEq, Nat.reduceAdd, Nat.reduceEqDiff, reduceIte, Nat.reduceLeDiff, Nat.reduceLT, Nat.reduceSub]
        all_goals (repeat (with_reducible refine sAnd ?_))
        refine ⟨i + 1, by omega, ⟨hlt, ?_⟩, ?_⟩
        · rw [docOk_succ, hok, okAt, hn, hk3 rfl]; rfl
        · simp (config := { maxSteps := 2000000 }) only [go_sem, reduceCtorEq, Nat.reduceAdd, Nat.reduceEqDiff, reduceIte, Nat.reduceLeDiff, Nat.reduceLT, Nat.reduceSub, le_cons, le_nil, le_un, le_same]
          all_goals (repeat' (first | exact trivial | exact le_int (by omega) | exact le_bool rfl | exact le_eq rfl | exact le_nlo | exact le_refl _ | refine And.intro ?_ ?_))
  · try simp (config := { maxSteps := 2000000 }) only [go_sem, reduceCtorEq, Nat.reduceAdd, Nat.reduceEqDiff, reduceIte, Nat.reduceLeDiff, Nat.reduceLT, Nat.reduceSub]
    all_goals (repeat (with_reducible refine sAnd ?_))
    refine fin_val rfl trivial (.inl ?_)
    congr 3
    have : i = d.length := by simp at h2; omega
    subst this
    simp [checkDoc, hr1, hr2, hok]
end Go.Hx
end

section
set_option maxRecDepth 100000
set_option linter.unusedSimpArgs false
namespace Go.Hx
open Go.Proofs
variable [Glob]

attribute [local go_sem] ndsV_len clsV_len attV_len intsR_len ndV cellsEq
def thereE (d : List Nd) (k : Int) : Int := if checkDoc d = 0 then (if 0 ≤ k ∧ k ≤ (d.length : Int) - 1 then 0 else 5) else checkDoc d
theorem c_ref_there (d : List Nd) (k : Int) : Contract Tryd.prog fn_ref_there [.val (docV d), .val (iv k)] { res := .val (iv (thereE d k)) } := by
  unfold docV
  refine mk_ref_there (base := 0) ⟨Nat.le_of_ble_eq_true rfl, Nat.le_of_ble_eq_true rfl, Nat.le_of_ble_eq_true rfl, rfl⟩ (fun hfit => ?_)
  unfold F0 ref_there_E
  simp (config := { maxSteps := 2000000 }) only [markU, List.set_cons_succ, List.set_cons_zero, List.map_cons, List.map_nil, argCt, setCells, ioOf, List.length_cons, List.length_nil, Nat.reduceAdd, Nat.reduceSub, List.replicate, List.cons_append, List.nil_append]
  try simp (config := { maxSteps := 2000000 }) only [go_sem, reduceCtorEq, Nat.reduceAdd, Nat.reduceEqDiff, reduceIte, Nat.reduceLeDiff, Nat.reduceLT, Nat.reduceSub]
  all_goals (repeat (with_reducible refine sAnd ?_))
  have hm := fits_sl (k := 5) (hfit.1.1)
  rw [ndsV_len] at hm
  refine call_val (by repeat' constructor) (c_ref_CheckDoc _) ?_
  try simp (config := { maxSteps := 2000000 }) only [go_sem, reduceCtorEq, Nat.reduceAdd, Nat.reduceEqDiff, reduceIte, Nat.reduceLeDiff, Nat.reduceLT, Nat.reduceSub]
  all_goals (repeat (with_reducible refine sAnd ?_))
  refine cond_of (by rfl) trivial (fun h => ?_) (fun h => ?_)
  · try simp (config := { maxSteps := 2000000 }) only [go_sem, reduceCtorEq, Nat.reduceAdd, Nat.reduceEqDiff, reduceIte, Nat.reduceLeDiff, Nat.reduceLT, Nat.reduceSub]
    all_goals (repeat (with_reducible refine sAnd ?_))
    refine fin_val rfl trivial (.inl ?_)
    congr 3
    have h2 : ¬ checkDoc d = 0 := by simpa using h
    simp [thereE, h2]
  have h2 : checkDoc d = 0 := by simpa using h
  try simp (config := { maxSteps := 2000000 }) only [go_sem, reduceCtorEq, Nat.reduceAdd, Nat.reduceEqDiff, reduceIte, Nat.reduceLeDiff, Nat.reduceLT, Nat.reduceSub]
  all_goals (repeat (with_reducible refine sAnd ?_))
  refine call_val (by repeat' constructor) (c_ref_within _ _ _) ?_
  try simp (config := { maxSteps := 2000000 }) only [go_sem, reduceCtorEq, Nat.reduceAdd, Nat.reduceEqDiff, reduceIte, Nat.reduceLeDiff, Nat.reduceLT, Nat.reduceSub]
  all_goals (repeat (with_reducible refine sAnd ?_))
  refine cond_of (by rfl) trivial (fun h3 => ?_) (fun h3 => ?_)
  · try simp (config := { maxSteps := 2000000 }) only [go_sem, reduceCtorEq, Nat.reduceAdd, Nat.reduceEqDiff, reduceIte, Nat.reduceLeDiff, Nat.reduceLT, Nat.reduceSub]
    all_goals (repeat (with_reducible refine sAnd ?_))
    refine fin_val rfl trivial (.inl ?_)
    congr 3
    have h4 : ¬ (0 ≤ k ∧ k ≤ (d.length : Int) - 1) := by simp at h3; omega
    simp only [thereE, h2, h4, if_true, if_false]
  · try simp (config := { maxSteps := 2000000 }) only [go_sem, reduceCtorEq, Nat.reduceAdd, Nat.reduceEqDiff, reduceIte, Nat.reduceLeDiff, Nat.reduceLT, Nat.reduceSub]
    all_goals (repeat (with_reducible refine sAnd ?_))
    refine fin_val rfl trivial (.inl ?_)
    congr 3
    have h4 : (0 ≤ k ∧ k ≤ (d.length : Int) - 1) := by simp at h3; omega
    simp only [thereE, h2, h4, if_true, and_self]

theorem c_ref_There (d : List Nd) (k : Int) : Contract Tryd.prog fn_ref_There [.val (docV d), .val (iv k)] { res := .val (iv (thereE d k)) } := by
  unfold docV
  refine mk_ref_There (base := 0) ⟨Nat.le_of_ble_eq_true rfl, Nat.le_of_ble_eq_true rfl, Nat.le_of_ble_eq_true rfl, rfl⟩ (fun hfit => ?_)
  unfold F0 ref_There_E
  simp (config := { maxSteps := 2000000 }) only [markU, List.set_cons_succ, List.set_cons_zero, List.map_cons, List.map_nil, argCt, setCells, ioOf, List.length_cons, List.length_nil, Nat.reduceAdd, Nat.reduceSub, List.replicate, List.cons_append, List.nil_append]
  try simp (config := { maxSteps := 2000000 }) only [go_sem, reduceCtorEq, Nat.reduceAdd, Nat.reduceEqDiff, reduceIte, Nat.reduceLeDiff, Nat.reduceLT, Nat.reduceSub]
  all_goals (repeat (with_reducible refine sAnd ?_))
  refine call_val (by repeat' constructor) (c_ref_there _ _) ?_
  try simp (config := { maxSteps := 2000000 }) only [go_sem, reduceCtorEq, Nat.reduceAdd, Nat.reduceEqDiff, reduceIte, Nat.reduceLeDiff, Nat.reduceLT, Nat.reduceSub]
  all_goals (repeat (with_reducible refine sAnd ?_))
  try simp (config := { maxSteps := 2000000 }) only [go_sem, reduceCtorEq, Nat.reduceAdd, Nat.reduceEqDiff, reduceIte, Nat.reduceLeDiff, Nat.reduceLT, Nat.reduceSub]
  all_goals (repeat (with_reducible refine sAnd ?_))
  refine fin_val rfl trivial (.inl ?_)
  congr 3

def underTo (d : List Nd) (n : Int) (k : Nat) : Int := ((List.range k).filter fun i => (chain d d.length (upOf d i)).contains n).length
def underOf (d : List Nd) (n : Int) : Int := underTo d n d.length
theorem underTo_succ {d : List Nd} {n : Int} {k : Nat} : underTo d n (k + 1) = underTo d n k + (if (chain d d.length (upOf d k)).contains n then 1 else 0) := by
  unfold underTo
  rw [List.range_succ, List.filter_append, List.length_append, List.filter_cons, List.filter_nil]
  split <;> simp
theorem underTo_le {d : List Nd} {n : Int} : ∀ k : Nat, 0 ≤ underTo d n k ∧ underTo d n k ≤ k
  | 0 => by simp [underTo]
  | k + 1 => by have := underTo_le (d := d) (n := n) k; rw [underTo_succ]; split <;> omega
theorem c_ref_UnderOf (d : List Nd) (n : Int) (hd : docOk d d.length = true) : Contract Tryd.prog fn_ref_UnderOf [.val (docV d), .val (iv n)] { res := .val (iv (underOf d n)) } := by
  unfold docV
  refine mk_ref_UnderOf (base := 0) ⟨Nat.le_of_ble_eq_true rfl, Nat.le_of_ble_eq_true rfl, Nat.le_of_ble_eq_true rfl, rfl⟩ (fun hfit => ?_)
  unfold F0 ref_UnderOf_E
  simp (config := { maxSteps := 2000000 }) only [markU, List.set_cons_succ, List.set_cons_zero, List.map_cons, List.map_nil, argCt, setCells, ioOf, List.length_cons, List.length_nil, Nat.reduceAdd, Nat.reduceSub, List.replicate, List.cons_append, List.nil_append]
  try simp (config := { maxSteps := 2000000 }) only [go_sem, reduceCtorEq, Nat.reduceAdd, Nat.reduceEqDiff, reduceIte, Nat.reduceLeDiff, Nat.reduceLT, Nat.reduceSub]
  all_goals (repeat (with_reducible refine sAnd ?_))
  have hm := fits_sl (k := 5) (hfit.1.1)
  rw [ndsV_len] at hm
  refine loop_sets (fun i : Nat => [(5, .pv (iv (underTo d n i))), (6, .pv (iv i)), (11, .un), (17, .un)]) (fun i : Nat => d.length - i) (fun i : Nat => i ≤ d.length) (0) ?_ (Nat.zero_le _) ?_
  focus (simp (config := { maxSteps := 2000000 }) only [go_sem, reduceCtorEq, Nat.reduceAdd, Nat.reduceEqDiff, reduceIte, Nat.reduceLeDiff, Nat.reduceLT, Nat.reduceSub, le_cons, le_nil, le_un, le_same]; all_goals (repeat' (first | exact trivial | exact le_int (by omega) | exact le_bool rfl | exact le_eq rfl | exact le_nlo | exact le_refl _ | refine And.intro ?_ ?_)))
  intro i hi
  try simp (config := { maxSteps := 2000000 }) only [go_sem, reduceCtorEq, Nat.reduceAdd, Nat.reduceEqDiff, reduceIte, Nat.reduceLeDiff, Nat.reduceLT, Nat.reduceSub]
  all_goals (repeat (with_reducible refine sAnd ?_))
  have hu := underTo_le (d := d) (n := n) i
  refine cond_of (by rfl) trivial (fun h => ?_) (fun h => ?_)
  · have hlt : i < d.length := by simpa using h
    try simp (config := { maxSteps := 2000000 }) only [go_sem, reduceCtorEq, Nat.reduceAdd, Nat.reduceEqDiff, reduceIte, Nat.reduceLeDiff, Nat.reduceLT, Nat.reduceSub]
    all_goals (repeat (with_reducible refine sAnd ?_))
    refine call_val (by repeat' constructor) (c_ref_Above _ hd _ _ hlt) ?_
    try simp (config := { maxSteps := 2000000 }) only [go_sem, reduceCtorEq, Nat.reduceAdd, Nat.reduceEqDiff, reduceIte, Nat.reduceLeDiff, Nat.reduceLT, Nat.reduceSub]
    all_goals (repeat (with_reducible refine sAnd ?_))
    refine cond_of (by rfl) trivial (fun h2 => ?_) (fun h2 => ?_)
    · try simp (config := { maxSteps := 2000000 }) only [go_sem, reduceCtorEq, Nat.reduceAdd, Nat.reduceEqDiff, reduceIte, Nat.reduceLeDiff, Nat.reduceLT, Nat.reduceSub]
      all_goals (repeat (with_reducible refine sAnd ?_))
      refine ⟨i + 1, by omega, hlt, ?_⟩
      simp (config := { maxSteps := 2000000 }) only [go_sem, reduceCtorEq, Nat.reduceAdd, Nat.reduceEqDiff, reduceIte, Nat.reduceLeDiff, Nat.reduceLT, Nat.reduceSub, le_cons, le_nil, le_un, le_same]
      all_goals (repeat' (first | exact trivial | exact le_int (by omega) | exact le_bool rfl | exact le_eq rfl | exact le_nlo | exact le_refl _ | refine And.intro ?_ ?_))
      exact le_int (by rw [underTo_succ, h2]; rfl)
    · try simp (config := { maxSteps := 2000000 }) only [go_sem, reduceCtorEq, Nat.reduceAdd, Nat.reduceEqDiff, reduceIte, Nat.reduceLeDiff, Nat.reduceLT, Nat.reduceSub]
      all_goals (repeat (with_reducible refine sAnd ?_))
      refine ⟨i + 1, by omega, hlt, ?_⟩
      simp (config := { maxSteps := 2000000 }) only [go_sem, reduceCtorEq, Nat.reduceAdd, Nat.reduceEqDiff, reduceIte, Nat.reduceLeDiff, Nat.reduceLT, Nat.reduceSub, le_cons, le_nil, le_un, le_same]
      all_goals (repeat' (first | exact trivial | exact le_int (by omega) | exact le_bool rfl | exact le_eq rfl | exact le_nlo | exact le_refl _ | refine And.intro ?_ ?_))
      exact le_int (by rw [underTo_succ, h2]; simp)
  · try simp (config := { maxSteps := 2000000 }) only [go_sem, reduceCtorEq, Nat.reduceAdd, Nat.reduceEqDiff, reduceIte, Nat.reduceLeDiff, Nat.reduceLT, Nat.reduceSub]
    all_goals (repeat (with_reducible refine sAnd ?_))
    refine fin_val rfl trivial (.inl ?_)
    congr 3
    have : i = d.length := by simp at h; omega
    rw [this]; rfl

def kidsTo (d : List Nd) (n : Int) (k : Nat) : List Int := ((List.range k).filter fun i => decide (upOf d i = n)).map Int.ofNat
def kidsOf (d : List Nd) (n : Int) : List Int := kidsTo d n d.length
theorem kidsTo_succ {d : List Nd} {n : Int} {k : Nat} : kidsTo d n (k + 1) = if upOf d k = n then kidsTo d n k ++ [(k : Int)] else kidsTo d n k := by
  unfold kidsTo
  rw [List.range_succ, List.filter_append, List.map_append]
  by_cases h : upOf d k = n <;> simp [List.filter, h]
theorem kidsTo_len {d : List Nd} {n : Int} (k : Nat) : (kidsTo d n k).length ≤ k := by
  unfold kidsTo
  rw [List.length_map]
  exact Nat.le_trans (List.length_filter_le _ _) (by simp)
theorem c_ref_KidsOf (d : List Nd) (n : Int) (hd : d.length ≤ 64) : Contract Tryd.prog fn_ref_KidsOf [.val (docV d), .val (iv n)] { res := .own ty_int 1 (intsR (kidsOf d n)) } := by
  unfold docV
  refine mk_ref_KidsOf (base := 0) ⟨Nat.le_of_ble_eq_true rfl, Nat.le_of_ble_eq_true rfl, Nat.le_of_ble_eq_true rfl, rfl⟩ (fun hfit => ?_)
  unfold F0 ref_KidsOf_E
  simp (config := { maxSteps := 2000000 }) only [markU, List.set_cons_succ, List.set_cons_zero, List.map_cons, List.map_nil, argCt, setCells, ioOf, List.length_cons, List.length_nil, Nat.reduceAdd, Nat.reduceSub, List.replicate, List.cons_append, List.nil_append]
  try simp (config := { maxSteps := 2000000 }) only [go_sem, reduceCtorEq, Nat.reduceAdd, Nat.reduceEqDiff, reduceIte, Nat.reduceLeDiff, Nat.reduceLT, Nat.reduceSub]
  all_goals (repeat (with_reducible refine sAnd ?_))
  have hm := fits_sl (k := 5) (hfit.1.1)
  rw [ndsV_len] at hm
  refine loop_sets (fun i : Nat => [(5, .own ty_int 1 (intsR (kidsTo d n i))), (6, .pv (iv i)), (11, .un), (21, .un)]) (fun i : Nat => d.length - i) (fun i : Nat => i ≤ d.length) (0) ?_ (Nat.zero_le _) ?_
  focus (simp (config := { maxSteps := 2000000 }) only [go_sem, reduceCtorEq, Nat.reduceAdd, Nat.reduceEqDiff, reduceIte, Nat.reduceLeDiff, Nat.reduceLT, Nat.reduceSub, le_cons, le_nil, le_un, le_same]; all_goals (repeat' (first | exact trivial | exact le_int (by omega) | exact le_bool rfl | exact le_eq rfl | exact le_nlo | exact le_refl _ | refine And.intro ?_ ?_)))
  intro i hi
  try simp (config := { maxSteps := 2000000 }) only [go_sem, reduceCtorEq, Nat.reduceAdd, Nat.reduceEqDiff, reduceIte, Nat.reduceLeDiff, Nat.reduceLT, Nat.reduceSub]
  all_goals (repeat (with_reducible refine sAnd ?_))
  have hu := kidsTo_len (d := d) (n := n) i
  refine cond_of (by rfl) trivial (fun h => ?_) (fun h => ?_)
  · have hlt : i < d.length := by simpa using h
    try simp (config := { maxSteps := 2000000 }) only [go_sem, reduceCtorEq, Nat.reduceAdd, Nat.reduceEqDiff, reduceIte, Nat.reduceLeDiff, Nat.reduceLT, Nat.reduceSub, ndsV_get _ _ hlt]
    all_goals (repeat (with_reducible refine sAnd ?_))
    refine cond_of (by rfl) trivial (fun h2 => ?_) (fun h2 => ?_)
    · try simp (config := { maxSteps := 2000000 }) only [go_sem, reduceCtorEq, Nat.reduceAdd, Nat.reduceEqDiff, reduceIte, Nat.reduceLeDiff, Nat.reduceLT, Nat.reduceSub]
      all_goals (repeat (with_reducible refine sAnd ?_))
      refine ⟨i + 1, by omega, hlt, ?_⟩
      simp (config := { maxSteps := 2000000 }) only [go_sem, reduceCtorEq, Nat.reduceAdd, Nat.reduceEqDiff, reduceIte, Nat.reduceLeDiff, Nat.reduceLT, Nat.reduceSub, le_cons, le_nil, le_un, le_same]
      all_goals (repeat' (first | exact trivial | exact le_int (by omega) | exact le_bool rfl | exact le_eq rfl | exact le_nlo | exact le_refl _ | refine And.intro ?_ ?_))
      refine le_own ?_
      have h3 : upOf d i = n := by simpa [upOf] using h2
      simp [kidsTo_succ, h3, intsR]
    · try simp (config := { maxSteps := 2000000 }) only [go_sem, reduceCtorEq, Nat.reduceAdd, Nat.reduceEqDiff, reduceIte, Nat.reduceLeDiff, Nat.reduceLT, Nat.reduceSub]
      all_goals (repeat (with_reducible refine sAnd ?_))
      refine ⟨i + 1, by omega, hlt, ?_⟩
      simp (config := { maxSteps := 2000000 }) only [go_sem, reduceCtorEq, Nat.reduceAdd, Nat.reduceEqDiff, reduceIte, Nat.reduceLeDiff, Nat.reduceLT, Nat.reduceSub, le_cons, le_nil, le_un, le_same]
      all_goals (repeat' (first | exact trivial | exact le_int (by omega) | exact le_bool rfl | exact le_eq rfl | exact le_nlo | exact le_refl _ | refine And.intro ?_ ?_))
      refine le_own ?_
      have h3 : ¬ upOf d i = n := by simpa [upOf] using h2
      simp [kidsTo_succ, h3, intsR]
  · try simp (config := { maxSteps := 2000000 }) only [go_sem, reduceCtorEq, Nat.reduceAdd, Nat.reduceEqDiff, reduceIte, Nat.reduceLeDiff, Nat.reduceLT, Nat.reduceSub]
    all_goals (repeat (with_reducible refine sAnd ?_))
    have : i = d.length := by simp at h; omega
    subst this
    exact fin_own rfl
end Go.Hx
end

section
-- DOM trsV_len, trsV_nil, trV_len, trV_norm, List.take_zero, List.map_nil
set_option maxRecDepth 100000
set_option linter.unusedSimpArgs false
namespace Go.Hx
open Go.Proofs
variable [Glob]

inductive Tr where
  | mk (x : Nd) (k : List Tr)
instance : Inhabited Tr := ⟨.mk default []⟩
attribute [local go_sem] ndsV_len clsV_len attV_len intsR_len ndV cellsEq List.take_zero List.map_nil
def Tr.nd : Tr → Nd | .mk x _ => x
def Tr.kids : Tr → List Tr | .mk _ k => k
mutual
def trV : Tr → List PV
  | .mk x k => [bI x.up, bS x.tag, bS x.id, .sl 1 (clsV x.cls), .sl 2 (attV x.att), .sl 6 (trsV k)]
def trsV : List Tr → List (List PV)
  | [] => []
  | t :: r => trV t :: trsV r
end
theorem trsV_map : ∀ l : List Tr, trsV l = l.map trV
  | [] => rfl
  | t :: r => by simp [trsV, trsV_map r]
theorem trV_len (t : Tr) : (trV t).length = 6 := by cases t; rfl
attribute [local go_sem] trV_len
theorem trV_norm (t : Tr) : (trV t).map PV.norm = trV t := by cases t; rfl
attribute [local go_sem] trV_norm
theorem trsV_nil : trsV [] = [] := rfl
attribute [local go_sem] trsV_nil
theorem trsV_len (l : List Tr) : (trsV l).length = l.length := by simp [trsV_map]
attribute [local go_sem] trsV_len
theorem trsV_get (l : List Tr) (i : Nat) (h : i < l.length) : (trsV l).getD i [] = trV (l.getD i default) := by simp [trsV_map, h]
theorem trsV_app (l r : List Tr) : trsV (l ++ r) = trsV l ++ trsV r := by simp [trsV_map]
def treeF (d : List Nd) : Nat → Nat → Tr
  | 0, n => .mk (d.getD n default) []
  | f + 1, n => .mk (d.getD n default) ((kidsOf d n).map fun k => treeF d f k.toNat)

theorem kidsOf_get {d : List Nd} (hd : docOk d d.length = true) {n : Nat} {i : Nat} (h : i < (kidsOf d n).length) : ∃ m : Nat, (kidsOf d n).getD i 0 = m ∧ m < d.length ∧ n < m := by
  have h1 : (kidsOf d n).getD i 0 ∈ kidsOf d n := by simp [h]
  unfold kidsOf kidsTo at h1
  obtain ⟨m, h2, h3⟩ := List.mem_map.1 h1
  rw [List.mem_filter] at h2
  have h4 : m < d.length := by simpa using h2.1
  have h5 : upOf d m = n := by simpa using h2.2
  have := (docOk_up hd m h4).2
  exact ⟨m, h3.symm, h4, by omega⟩

theorem docOk_node {d : List Nd} (hd : docOk d d.length = true) {n : Nat} (h : n < d.length) : nodeFine (d.getD n default) = true := by
  have := range_all_get hd h
  simp only [okAt, Bool.and_eq_true] at this
  exact this.1
theorem nodeFine_len {x : Nd} (h : nodeFine x = true) : x.cls.length ≤ 6 ∧ x.att.length ≤ 4 := by
  simp only [nodeFine, Bool.and_eq_true, decide_eq_true_eq] at h
  exact ⟨h.1.1.1.2, h.1.1.2⟩
theorem take_map_succ {α β : Type} {f : α → β} {l : List α} {i : Nat} (d : α) (h : i < l.length) : (l.take (i + 1)).map f = (l.take i).map f ++ [f (l.getD i d)] := by
  rw [List.take_succ_eq_append_getElem h, List.map_append]; simp [h]

theorem c_ref_treeOf (d : List Nd) (hd : docOk d d.length = true) (hl : d.length ≤ 64) : ∀ (f n : Nat), n < d.length → d.length - n ≤ f → Contract Tryd.prog fn_ref_treeOf [.val (docV d), .val (iv n)] { res := .val (.agg (trV (treeF d f n))) }
  | 0, n, h1, h2 => by omega
  | f + 1, n, h1, h2 => by
    have ih := c_ref_treeOf d hd hl f
    unfold docV at ih ⊢
    simp only [treeF, trV]
    refine mk_ref_treeOf (base := 0) ⟨Nat.le_of_ble_eq_true rfl, Nat.le_of_ble_eq_true rfl, Nat.le_of_ble_eq_true rfl, rfl⟩ (fun hfit => ?_)
    unfold F0 ref_treeOf_E
    simp (config := { maxSteps := 2000000 }) only [markU, List.set_cons_succ, List.set_cons_zero, List.map_cons, List.map_nil, argCt, setCells, ioOf, List.length_cons, List.length_nil, Nat.reduceAdd, Nat.reduceSub, List.replicate, List.cons_append, List.nil_append]
    try simp (config := { maxSteps := 2000000 }) only [go_sem, reduceCtorEq, Nat.reduceAdd, Nat.reduceEqDiff, reduceIte, Nat.reduceLeDiff, Nat.reduceLT, Nat.reduceSub]
    all_goals (repeat (with_reducible refine sAnd ?_))
    try simp (config := { maxSteps := 2000000 }) only [go_sem, reduceCtorEq, Nat.reduceAdd, Nat.reduceEqDiff, reduceIte, Nat.reduceLeDiff, Nat.reduceLT, Nat.reduceSub, ndsV_get _ _ h1]
    all_goals (repeat (with_reducible refine sAnd ?_))
    have hfn := nodeFine_len (docOk_node hd h1)
    refine call_val (by repeat' constructor) (c_ref_OwnNode _ (by omega) (by omega)) ?_
    try simp (config := { maxSteps := 2000000 }) only [go_sem, reduceCtorEq, Nat.reduceAdd, Nat.reduceEqDiff, reduceIte, Nat.reduceLeDiff, Nat.reduceLT, Nat.reduceSub, ndsV_get _ _ h1]
    all_goals (repeat (with_reducible refine sAnd ?_))
    refine call_own (by repeat' constructor) (c_ref_KidsOf _ _ hl) ?_
    try simp (config := { maxSteps := 2000000 }) only [go_sem, reduceCtorEq, Nat.reduceAdd, Nat.reduceEqDiff, reduceIte, Nat.reduceLeDiff, Nat.reduceLT, Nat.reduceSub]
    all_goals (repeat (with_reducible refine sAnd ?_))
    refine loop_sets (fun i : Nat => [(7, .pv (iv i)), (21, .un), (47, .own ty_pathfinderyref_tree 6 (trsV (((kidsOf d n).take i).map fun k => treeF d f k.toNat)))]) (fun i : Nat => (kidsOf d n).length - i) (fun i : Nat => i ≤ (kidsOf d n).length) (0) ?_ (Nat.zero_le _) ?_
    focus (simp (config := { maxSteps := 2000000 }) only [go_sem, reduceCtorEq, Nat.reduceAdd, Nat.reduceEqDiff, reduceIte, Nat.reduceLeDiff, Nat.reduceLT, Nat.reduceSub, le_cons, le_nil, le_un, le_same]; all_goals (repeat' (first | exact trivial | exact le_int (by omega) | exact le_bool rfl | exact le_eq rfl | exact le_nlo | exact le_refl _ | refine And.intro ?_ ?_)))
    intro i hi
    have hkl : (kidsOf d n).length ≤ d.length := kidsTo_len _
    have htl : (trsV (((kidsOf d n).take i).map fun k => treeF d f k.toNat)).length = i := by simp [trsV_len]; omega
    try simp (config := { maxSteps := 2000000 }) only [go_sem, reduceCtorEq, Nat.reduceAdd, Nat.reduceEqDiff, reduceIte, Nat.reduceLeDiff, Nat.reduceLT, Nat.reduceSub]
    all_goals (repeat (with_reducible refine sAnd ?_))
    refine cond_of (by rfl) trivial (fun h => ?_) (fun h => ?_)
    · have hlt : i < (kidsOf d n).length := by simpa using h
      obtain ⟨m, hm1, hm2, hm3⟩ := kidsOf_get hd hlt
      try simp (config := { maxSteps := 2000000 }) only [go_sem, reduceCtorEq, Nat.reduceAdd, Nat.reduceEqDiff, reduceIte, Nat.reduceLeDiff, Nat.reduceLT, Nat.reduceSub, intsR_get _ _ hlt, hm1]
      all_goals (repeat (with_reducible refine sAnd ?_))
      refine call_val (by repeat' constructor) (ih m hm2 (by omega)) ?_
      try simp (config := { maxSteps := 2000000 }) only [go_sem, reduceCtorEq, Nat.reduceAdd, Nat.reduceEqDiff, reduceIte, Nat.reduceLeDiff, Nat.reduceLT, Nat.reduceSub, htl]
      all_goals (repeat (with_reducible refine sAnd ?_))
      refine ⟨i + 1, by omega, hlt, ?_⟩
      simp (config := { maxSteps := 2000000 }) only [go_sem, reduceCtorEq, Nat.reduceAdd, Nat.reduceEqDiff, reduceIte, Nat.reduceLeDiff, Nat.reduceLT, Nat.reduceSub, le_cons, le_nil, le_un, le_same]
      all_goals (repeat' (first | exact trivial | exact le_int (by omega) | exact le_bool rfl | exact le_eq rfl | exact le_nlo | exact le_refl _ | refine And.intro ?_ ?_))
      refine le_own ?_
      rw [take_map_succ 0 hlt, trsV_app, hm1]
      rfl
    · try simp (config := { maxSteps := 2000000 }) only [go_sem, reduceCtorEq, Nat.reduceAdd, Nat.reduceEqDiff, reduceIte, Nat.reduceLeDiff, Nat.reduceLT, Nat.reduceSub]
      all_goals (repeat (with_reducible refine sAnd ?_))
      refine fin_cellB rfl rfl ?_
      have : i = (kidsOf d n).length := by simp at h; omega
      rw [this, List.take_length]
      rfl

mutual
def layT : Tr → List Nd → Int → List Nd
  | .mk x ks, l, up => layTs ks (l ++ [{ x with up := up }]) l.length
def layTs : List Tr → List Nd → Int → List Nd
  | [], l, _ => l
  | t :: r, l, n => layTs r (layT t l n) n
end
mutual
def szT : Tr → Nat
  | .mk _ ks => szTs ks + 1
def szTs : List Tr → Nat
  | [] => 0
  | t :: r => szT t + szTs r
end
mutual
theorem layT_len : ∀ (t : Tr) (l : List Nd) (n : Int), (layT t l n).length = l.length + szT t
  | .mk x ks, l, n => by simp only [layT, szT, layTs_len ks, List.length_append, List.length_cons, List.length_nil]; omega
theorem layTs_len : ∀ (t : List Tr) (l : List Nd) (n : Int), (layTs t l n).length = l.length + szTs t
  | [], l, n => by simp [layTs, szTs]
  | t :: r, l, n => by simp only [layTs, szTs, layTs_len r, layT_len t]; omega
end
theorem layTs_app : ∀ (a b : List Tr) (l : List Nd) (n : Int), layTs (a ++ b) l n = layTs b (layTs a l n) n
  | [], b, l, n => rfl
  | t :: a, b, l, n => by simp only [List.cons_append, layTs, layTs_app a]
theorem szTs_app : ∀ (a b : List Tr), szTs (a ++ b) = szTs a + szTs b
  | [], b => by simp [szTs]
  | t :: a, b => by simp only [List.cons_append, szTs, szTs_app a]; omega
theorem take_succ_d {α : Type} {l : List α} {i : Nat} (d : α) (h : i < l.length) : l.take (i + 1) = l.take i ++ [l.getD i d] := by
  rw [List.take_succ_eq_append_getElem h]; simp [h]
theorem szTs_get : ∀ {l : List Tr} {i : Nat}, i < l.length → szTs (l.take i) + szT (l.getD i default) ≤ szTs l
  | t :: r, 0, _ => by simp [szTs]
  | t :: r, i + 1, h => by
    have := szTs_get (l := r) (i := i) (by simpa using h)
    simp only [List.take_succ_cons, szTs, List.getD_cons_succ]
    omega
theorem ndsV_app (a b : List Nd) : ndsV (a ++ b) = ndsV a ++ ndsV b := by simp [ndsV]

theorem c_ref_lay : ∀ (N : Nat) (t : Tr) (l : List Nd) (up : Int), szT t ≤ N → l.length + szT t ≤ 1000000 → Contract Tryd.prog fn_ref_lay [.own ty_api_Node 5 (ndsV l), .val (.agg (trV t)), .val (iv up)] { res := .own ty_api_Node 5 (ndsV (layT t l up)) }
  | 0, .mk x ks, l, up, h1, _ => by simp [szT] at h1
  | N + 1, .mk x ks, l, up, h1, h2 => by
    have ih := c_ref_lay N
    simp only [szT] at h1 h2
    simp only [layT, trV]
    refine mk_ref_lay (base := 0) ⟨Nat.le_of_ble_eq_true rfl, Nat.le_of_ble_eq_true rfl, Nat.le_of_ble_eq_true rfl, rfl⟩ (fun hfit => ?_)
    unfold F0 ref_lay_E
    simp (config := { maxSteps := 2000000 }) only [markU, List.set_cons_succ, List.set_cons_zero, List.map_cons, List.map_nil, argCt, setCells, ioOf, List.length_cons, List.length_nil, Nat.reduceAdd, Nat.reduceSub, List.replicate, List.cons_append, List.nil_append]
    try simp (config := { maxSteps := 2000000 }) only [go_sem, reduceCtorEq, Nat.reduceAdd, Nat.reduceEqDiff, reduceIte, Nat.reduceLeDiff, Nat.reduceLT, Nat.reduceSub]
    all_goals (repeat (with_reducible refine sAnd ?_))
    have hm := fits_sl (k := 6) hfit.2.1.2.2.2.2.2.1
    rw [trsV_len] at hm
    refine loop_sets (fun i : Nat => [(0, .own ty_api_Node 5 (ndsV (layTs (ks.take i) (l ++ [{ x with up := up }]) l.length))), (8, .pv (iv i)), (23, .un)]) (fun i : Nat => ks.length - i) (fun i : Nat => i ≤ ks.length) (0) ?_ (Nat.zero_le _) ?_
    focus (simp (config := { maxSteps := 2000000 }) only [go_sem, reduceCtorEq, Nat.reduceAdd, Nat.reduceEqDiff, reduceIte, Nat.reduceLeDiff, Nat.reduceLT, Nat.reduceSub, le_cons, le_nil, le_un, le_same]; all_goals (repeat' (first | exact trivial | exact le_int (by omega) | exact le_bool rfl | exact le_eq rfl | exact le_nlo | exact le_refl _ | refine And.intro ?_ ?_)))
    · simp only [layTs, ndsV_app]
      exact le_eq rfl
    intro i hi
    try simp (config := { maxSteps := 2000000 }) only [go_sem, reduceCtorEq, Nat.reduceAdd, Nat.reduceEqDiff, reduceIte, Nat.reduceLeDiff, Nat.reduceLT, Nat.reduceSub]
    all_goals (repeat (with_reducible refine sAnd ?_))
    refine cond_of (by rfl) trivial (fun h => ?_) (fun h => ?_)
    · have hlt : i < ks.length := by simpa using h
      try simp (config := { maxSteps := 2000000 }) only [go_sem, reduceCtorEq, Nat.reduceAdd, Nat.reduceEqDiff, reduceIte, Nat.reduceLeDiff, Nat.reduceLT, Nat.reduceSub, trsV_get _ _ hlt]
      all_goals (repeat (with_reducible refine sAnd ?_))
      have hsz := szTs_get hlt
      have hln := layTs_len (ks.take i) (l ++ [{ x with up := up }]) l.length
      simp only [List.length_append, List.length_cons, List.length_nil] at hln
      refine call_own (by repeat' constructor) (Contract.av (ih (ks.getD i default) (layTs (ks.take i) (l ++ [{ x with up := up }]) l.length) l.length (by omega) (by omega)) (by first | rfl | (simp (config := { maxSteps := 2000000 }) only [go_sem, reduceCtorEq, Nat.reduceAdd, Nat.reduceEqDiff, reduceIte, Nat.reduceLeDiff, Nat.reduceLT, Nat.reduceSub]; done) | (simp (config := { maxSteps := 2000000 }) only [go_sem, reduceCtorEq, Nat.reduceAdd, Nat.reduceEqDiff, reduceIte, Nat.reduceLeDiff, Nat.reduceLT, Nat.reduceSub]; rfl))) ?_
      try simp (config := { maxSteps := 2000000 }) only [go_sem, reduceCtorEq, Nat.reduceAdd, Nat.reduceEqDiff, reduceIte, Nat.reduceLeDiff, Nat.reduceLT, Nat.reduceSub]
      all_goals (repeat (with_reducible refine sAnd ?_))
      refine ⟨i + 1, by omega, hlt, ?_⟩
      simp (config := { maxSteps := 2000000 }) only [go_sem, reduceCtorEq, Nat.reduceAdd, Nat.reduceEqDiff, reduceIte, Nat.reduceLeDiff, Nat.reduceLT, Nat.reduceSub, le_cons, le_nil, le_un, le_same]
      all_goals (repeat' (first | exact trivial | exact le_int (by omega) | exact le_bool rfl | exact le_eq rfl | exact le_nlo | exact le_refl _ | refine And.intro ?_ ?_))
      refine le_own ?_
      rw [take_succ_d default hlt, layTs_app]
      rfl
    · try simp (config := { maxSteps := 2000000 }) only [go_sem, reduceCtorEq, Nat.reduceAdd, Nat.reduceEqDiff, reduceIte, Nat.reduceLeDiff, Nat.reduceLT, Nat.reduceSub]
      all_goals (repeat (with_reducible refine sAnd ?_))
      have : i = ks.length := by simp at h; omega
      rw [this, List.take_length]
      exact fin_own rfl

/-- Elements below, in preorder: as many as the chain tells. -/
def partF (d : List Nd) (n : Nat) : List Nd := layT (treeF d d.length n) [] (-1)
theorem c_ref_PartOf (d : List Nd) (hd : docOk d d.length = true) (hl : d.length ≤ 64) (n : Nat) (hn : n < d.length) (hs : szT (treeF d d.length n) ≤ 100000) : Contract Tryd.prog fn_ref_PartOf [.val (docV d), .val (iv n)] { res := .val (docV (partF d n)) } := by
  unfold docV
  refine mk_ref_PartOf (base := 0) ⟨Nat.le_of_ble_eq_true rfl, Nat.le_of_ble_eq_true rfl, Nat.le_of_ble_eq_true rfl, rfl⟩ (fun hfit => ?_)
  unfold F0 ref_PartOf_E
  simp (config := { maxSteps := 2000000 }) only [markU, List.set_cons_succ, List.set_cons_zero, List.map_cons, List.map_nil, argCt, setCells, ioOf, List.length_cons, List.length_nil, Nat.reduceAdd, Nat.reduceSub, List.replicate, List.cons_append, List.nil_append]
  try simp (config := { maxSteps := 2000000 }) only [go_sem, reduceCtorEq, Nat.reduceAdd, Nat.reduceEqDiff, reduceIte, Nat.reduceLeDiff, Nat.reduceLT, Nat.reduceSub]
  all_goals (repeat (with_reducible refine sAnd ?_))
  refine call_val (by repeat' constructor) (Contract.av (c_ref_treeOf d hd hl d.length n hn (by omega)) (by first | rfl | (simp (config := { maxSteps := 2000000 }) only [go_sem, reduceCtorEq, Nat.reduceAdd, Nat.reduceEqDiff, reduceIte, Nat.reduceLeDiff, Nat.reduceLT, Nat.reduceSub]; done) | (simp (config := { maxSteps := 2000000 }) only [go_sem, reduceCtorEq, Nat.reduceAdd, Nat.reduceEqDiff, reduceIte, Nat.reduceLeDiff, Nat.reduceLT, Nat.reduceSub]; rfl))) ?_
  try simp (config := { maxSteps := 2000000 }) only [go_sem, reduceCtorEq, Nat.reduceAdd, Nat.reduceEqDiff, reduceIte, Nat.reduceLeDiff, Nat.reduceLT, Nat.reduceSub]
  all_goals (repeat (with_reducible refine sAnd ?_))
  refine call_own (by repeat' constructor) (Contract.av (c_ref_lay _ (treeF d d.length n) [] (-1) (Nat.le_refl _) (by simp; omega)) (by first | rfl | (simp (config := { maxSteps := 2000000 }) only [go_sem, reduceCtorEq, Nat.reduceAdd, Nat.reduceEqDiff, reduceIte, Nat.reduceLeDiff, Nat.reduceLT, Nat.reduceSub]; done) | (simp (config := { maxSteps := 2000000 }) only [go_sem, reduceCtorEq, Nat.reduceAdd, Nat.reduceEqDiff, reduceIte, Nat.reduceLeDiff, Nat.reduceLT, Nat.reduceSub]; rfl))) ?_
  try simp (config := { maxSteps := 2000000 }) only [go_sem, reduceCtorEq, Nat.reduceAdd, Nat.reduceEqDiff, reduceIte, Nat.reduceLeDiff, Nat.reduceLT, Nat.reduceSub]
  all_goals (repeat (with_reducible refine sAnd ?_))
  exact fin_cellB rfl rfl rfl
end Go.Hx
end

section
-- DOM trsV_len, trsV_nil, trV_len, trV_norm, List.take_zero, List.map_nil
set_option maxRecDepth 100000
set_option linter.unusedSimpArgs false
namespace Go.Hx
open Go.Proofs
variable [Glob]

attribute [local go_sem] ndsV_len clsV_len attV_len intsR_len ndV cellsEq trsV_len trsV_nil trV_len trV_norm List.take_zero List.map_nil
/-- The marked tree. -/
def markF (d : List Nd) : Nat → Nat → Tr
  | 0, n => .mk (d.getD n default) []
  | f + 1, n => .mk { d.getD n default with up := n } ((kidsOf d n).map fun k => markF d f k.toNat)

theorem c_ref_marked (d : List Nd) (hd : docOk d d.length = true) (hl : d.length ≤ 64) : ∀ (f n : Nat), n < d.length → d.length - n ≤ f → Contract Tryd.prog fn_ref_marked [.val (docV d), .val (iv n)] { res := .val (.agg (trV (markF d f n))) }
  | 0, n, h1, h2 => by omega
  | f + 1, n, h1, h2 => by
    have ih := c_ref_marked d hd hl f
    unfold docV at ih ⊢
    simp only [markF, trV]
    refine mk_ref_marked (base := 0) ⟨Nat.le_of_ble_eq_true rfl, Nat.le_of_ble_eq_true rfl, Nat.le_of_ble_eq_true rfl, rfl⟩ (fun hfit => ?_)
    unfold F0 ref_marked_E
    simp (config := { maxSteps := 2000000 }) only [markU, List.set_cons_succ, List.set_cons_zero, List.map_cons, List.map_nil, argCt, setCells, ioOf, List.length_cons, List.length_nil, Nat.reduceAdd, Nat.reduceSub, List.replicate, List.cons_append, List.nil_append]
    try simp (config := { maxSteps := 2000000 }) only [go_sem, reduceCtorEq, Nat.reduceAdd, Nat.reduceEqDiff, reduceIte, Nat.reduceLeDiff, Nat.reduceLT, Nat.reduceSub]
    all_goals (repeat (with_reducible refine sAnd ?_))
    refine call_val (by repeat' constructor) (Contract.av (c_ref_treeOf d hd hl (f + 1) n h1 h2) (by first | rfl | (simp (config := { maxSteps := 2000000 }) only [go_sem, reduceCtorEq, Nat.reduceAdd, Nat.reduceEqDiff, reduceIte, Nat.reduceLeDiff, Nat.reduceLT, Nat.reduceSub, treeF, trV]; done) | (simp (config := { maxSteps := 2000000 }) only [go_sem, reduceCtorEq, Nat.reduceAdd, Nat.reduceEqDiff, reduceIte, Nat.reduceLeDiff, Nat.reduceLT, Nat.reduceSub, treeF, trV]; rfl))) ?_
    try simp (config := { maxSteps := 2000000 }) only [go_sem, reduceCtorEq, Nat.reduceAdd, Nat.reduceEqDiff, reduceIte, Nat.reduceLeDiff, Nat.reduceLT, Nat.reduceSub, treeF, trV]
    all_goals (repeat (with_reducible refine sAnd ?_))
    refine call_own (by repeat' constructor) (c_ref_KidsOf _ _ hl) ?_
    try simp (config := { maxSteps := 2000000 }) only [go_sem, reduceCtorEq, Nat.reduceAdd, Nat.reduceEqDiff, reduceIte, Nat.reduceLeDiff, Nat.reduceLT, Nat.reduceSub]
    all_goals (repeat (with_reducible refine sAnd ?_))
    refine loop_sets (fun i : Nat => [(7, .pv (iv i)), (21, .un), (47, .own ty_pathfinderyref_tree 6 (trsV (((kidsOf d n).take i).map fun k => markF d f k.toNat)))]) (fun i : Nat => (kidsOf d n).length - i) (fun i : Nat => i ≤ (kidsOf d n).length) (0) ?_ (Nat.zero_le _) ?_
    focus (simp (config := { maxSteps := 2000000 }) only [go_sem, reduceCtorEq, Nat.reduceAdd, Nat.reduceEqDiff, reduceIte, Nat.reduceLeDiff, Nat.reduceLT, Nat.reduceSub, le_cons, le_nil, le_un, le_same]; all_goals (repeat' (first | exact trivial | exact le_int (by omega) | exact le_bool rfl | exact le_eq rfl | exact le_nlo | exact le_refl _ | refine And.intro ?_ ?_)))
    intro i hi
    have hkl : (kidsOf d n).length ≤ d.length := kidsTo_len _
    have htl : (trsV (((kidsOf d n).take i).map fun k => markF d f k.toNat)).length = i := by simp [trsV_len]; omega
    try simp (config := { maxSteps := 2000000 }) only [go_sem, reduceCtorEq, Nat.reduceAdd, Nat.reduceEqDiff, reduceIte, Nat.reduceLeDiff, Nat.reduceLT, Nat.reduceSub]
    all_goals (repeat (with_reducible refine sAnd ?_))
    refine cond_of (by rfl) trivial (fun h => ?_) (fun h => ?_)
    · have hlt : i < (kidsOf d n).length := by simpa using h
      obtain ⟨m, hm1, hm2, hm3⟩ := kidsOf_get hd hlt
      try simp (config := { maxSteps := 2000000 }) only [go_sem, reduceCtorEq, Nat.reduceAdd, Nat.reduceEqDiff, reduceIte, Nat.reduceLeDiff, Nat.reduceLT, Nat.reduceSub, intsR_get _ _ hlt, hm1]
      all_goals (repeat (with_reducible refine sAnd ?_))
      refine call_val (by repeat' constructor) (ih m hm2 (by omega)) ?_
      try simp (config := { maxSteps := 2000000 }) only [go_sem, reduceCtorEq, Nat.reduceAdd, Nat.reduceEqDiff, reduceIte, Nat.reduceLeDiff, Nat.reduceLT, Nat.reduceSub, htl]
      all_goals (repeat (with_reducible refine sAnd ?_))
      refine ⟨i + 1, by omega, hlt, ?_⟩
      simp (config := { maxSteps := 2000000 }) only [go_sem, reduceCtorEq, Nat.reduceAdd, Nat.reduceEqDiff, reduceIte, Nat.reduceLeDiff, Nat.reduceLT, Nat.reduceSub, le_cons, le_nil, le_un, le_same]
      all_goals (repeat' (first | exact trivial | exact le_int (by omega) | exact le_bool rfl | exact le_eq rfl | exact le_nlo | exact le_refl _ | refine And.intro ?_ ?_))
      refine le_own ?_
      rw [take_map_succ 0 hlt, trsV_app, hm1]
      rfl
    · try simp (config := { maxSteps := 2000000 }) only [go_sem, reduceCtorEq, Nat.reduceAdd, Nat.reduceEqDiff, reduceIte, Nat.reduceLeDiff, Nat.reduceLT, Nat.reduceSub]
      all_goals (repeat (with_reducible refine sAnd ?_))
      refine fin_cellB rfl rfl ?_
      have : i = (kidsOf d n).length := by simp at h; omega
      rw [this, List.take_length]
      rfl

theorem c_ref_OwnDoc (d : List Nd) (hl : d.length ≤ 64) (hn : ∀ i, i < d.length → (d.getD i default).cls.length ≤ 64 ∧ (d.getD i default).att.length ≤ 64) : Contract Tryd.prog fn_ref_OwnDoc [.val (docV d)] { res := .val (docV d) } := by
  unfold docV
  refine mk_ref_OwnDoc (base := 0) ⟨Nat.le_of_ble_eq_true rfl, Nat.le_of_ble_eq_true rfl, Nat.le_of_ble_eq_true rfl, rfl⟩ (fun hfit => ?_)
  unfold F0 ref_OwnDoc_E
  simp (config := { maxSteps := 2000000 }) only [markU, List.set_cons_succ, List.set_cons_zero, List.map_cons, List.map_nil, argCt, setCells, ioOf, List.length_cons, List.length_nil, Nat.reduceAdd, Nat.reduceSub, List.replicate, List.cons_append, List.nil_append]
  try simp (config := { maxSteps := 2000000 }) only [go_sem, reduceCtorEq, Nat.reduceAdd, Nat.reduceEqDiff, reduceIte, Nat.reduceLeDiff, Nat.reduceLT, Nat.reduceSub]
  all_goals (repeat (with_reducible refine sAnd ?_))
  refine loop_sets (fun i : Nat => [(4, .pv (iv i)), (9, .un), (25, .own ty_api_Node 5 (ndsV (d.take i)))]) (fun i : Nat => d.length - i) (fun i : Nat => i ≤ d.length) (0) ?_ (Nat.zero_le _) ?_
  focus (simp (config := { maxSteps := 2000000 }) only [go_sem, reduceCtorEq, Nat.reduceAdd, Nat.reduceEqDiff, reduceIte, Nat.reduceLeDiff, Nat.reduceLT, Nat.reduceSub, le_cons, le_nil, le_un, le_same]; all_goals (repeat' (first | exact trivial | exact le_int (by omega) | exact le_bool rfl | exact le_eq rfl | exact le_nlo | exact le_refl _ | refine And.intro ?_ ?_)))
  intro i hi
  have htl : (ndsV (d.take i)).length = i := by simp [ndsV_len]; omega
  try simp (config := { maxSteps := 2000000 }) only [go_sem, reduceCtorEq, Nat.reduceAdd, Nat.reduceEqDiff, reduceIte, Nat.reduceLeDiff, Nat.reduceLT, Nat.reduceSub]
  all_goals (repeat (with_reducible refine sAnd ?_))
  refine cond_of (by rfl) trivial (fun h => ?_) (fun h => ?_)
  · have hlt : i < d.length := by simpa using h
    try simp (config := { maxSteps := 2000000 }) only [go_sem, reduceCtorEq, Nat.reduceAdd, Nat.reduceEqDiff, reduceIte, Nat.reduceLeDiff, Nat.reduceLT, Nat.reduceSub, ndsV_get _ _ hlt]
    all_goals (repeat (with_reducible refine sAnd ?_))
    refine call_val (by repeat' constructor) (c_ref_OwnNode _ (hn i hlt).1 (hn i hlt).2) ?_
    try simp (config := { maxSteps := 2000000 }) only [go_sem, reduceCtorEq, Nat.reduceAdd, Nat.reduceEqDiff, reduceIte, Nat.reduceLeDiff, Nat.reduceLT, Nat.reduceSub, htl]
    all_goals (repeat (with_reducible refine sAnd ?_))
    refine ⟨i + 1, by omega, hlt, ?_⟩
    simp (config := { maxSteps := 2000000 }) only [go_sem, reduceCtorEq, Nat.reduceAdd, Nat.reduceEqDiff, reduceIte, Nat.reduceLeDiff, Nat.reduceLT, Nat.reduceSub, le_cons, le_nil, le_un, le_same]
    all_goals (repeat' (first | exact trivial | exact le_int (by omega) | exact le_bool rfl | exact le_eq rfl | exact le_nlo | exact le_refl _ | refine And.intro ?_ ?_))
    refine le_own ?_
    rw [take_succ_d default hlt, ndsV_app]
    rfl
  · try simp (config := { maxSteps := 2000000 }) only [go_sem, reduceCtorEq, Nat.reduceAdd, Nat.reduceEqDiff, reduceIte, Nat.reduceLeDiff, Nat.reduceLT, Nat.reduceSub]
    all_goals (repeat (with_reducible refine sAnd ?_))
    refine fin_cellB rfl rfl ?_
    have : i = d.length := by simp at h; omega
    rw [this, List.take_length]
    rfl

mutual
def wosT : Tr → Int → Tr
  | .mk x ks, n => .mk x (wosTs ks n)
def wosTs : List Tr → Int → List Tr
  | [], _ => []
  | t :: r, n => if t.nd.up = n then wosTs r n else wosT t n :: wosTs r n
end
theorem wosTs_app (n : Int) : ∀ a b : List Tr, wosTs (a ++ b) n = wosTs a n ++ wosTs b n
  | [], b => rfl
  | t :: a, b => by simp only [List.cons_append, wosTs, wosTs_app n a]; split <;> rfl
theorem wosTs_len (n : Int) : ∀ a : List Tr, (wosTs a n).length ≤ a.length
  | [] => Nat.le_refl _
  | t :: a => by simp only [wosTs]; have := wosTs_len n a; split <;> simp <;> omega
theorem kids_sz : ∀ ks : List Tr, ks.length ≤ szTs ks
  | [] => Nat.le_refl _
  | .mk x k :: r => by have := kids_sz r; simp [szTs, szT]; omega
theorem trV_at (t : Tr) : trV t = [bI t.nd.up, bS t.nd.tag, bS t.nd.id, .sl 1 (clsV t.nd.cls), .sl 2 (attV t.nd.att), .sl 6 (trsV t.kids)] := by cases t; rfl

theorem c_ref_without : ∀ (N : Nat) (t : Tr) (n : Int), szT t ≤ N → N ≤ 1000000 → Contract Tryd.prog fn_ref_without [.val (.agg (trV t)), .val (iv n)] { res := .val (.agg (trV (wosT t n))) }
  | 0, .mk x ks, n, h1, _ => by simp [szT] at h1
  | N + 1, .mk x ks, n, h1, h2 => by
    have ih := c_ref_without N
    simp only [szT] at h1 h2
    simp only [wosT, trV]
    refine mk_ref_without (base := 0) ⟨Nat.le_of_ble_eq_true rfl, Nat.le_of_ble_eq_true rfl, Nat.le_of_ble_eq_true rfl, rfl⟩ (fun hfit => ?_)
    unfold F0 ref_without_E
    simp (config := { maxSteps := 2000000 }) only [markU, List.set_cons_succ, List.set_cons_zero, List.map_cons, List.map_nil, argCt, setCells, ioOf, List.length_cons, List.length_nil, Nat.reduceAdd, Nat.reduceSub, List.replicate, List.cons_append, List.nil_append]
    try simp (config := { maxSteps := 2000000 }) only [go_sem, reduceCtorEq, Nat.reduceAdd, Nat.reduceEqDiff, reduceIte, Nat.reduceLeDiff, Nat.reduceLT, Nat.reduceSub]
    all_goals (repeat (with_reducible refine sAnd ?_))
    have hks := kids_sz ks
    refine loop_sets (fun i : Nat => [(5, .own ty_pathfinderyref_tree 6 (trsV (wosTs (ks.take i) n))), (6, .pv (iv i)), (11, .un), (22, .un)]) (fun i : Nat => ks.length - i) (fun i : Nat => i ≤ ks.length) (0) ?_ (Nat.zero_le _) ?_
    focus (simp (config := { maxSteps := 2000000 }) only [go_sem, reduceCtorEq, Nat.reduceAdd, Nat.reduceEqDiff, reduceIte, Nat.reduceLeDiff, Nat.reduceLT, Nat.reduceSub, le_cons, le_nil, le_un, le_same]; all_goals (repeat' (first | exact trivial | exact le_int (by omega) | exact le_bool rfl | exact le_eq rfl | exact le_nlo | exact le_refl _ | refine And.intro ?_ ?_)))
    intro i hi
    try simp (config := { maxSteps := 2000000 }) only [go_sem, reduceCtorEq, Nat.reduceAdd, Nat.reduceEqDiff, reduceIte, Nat.reduceLeDiff, Nat.reduceLT, Nat.reduceSub]
    all_goals (repeat (with_reducible refine sAnd ?_))
    refine cond_of (by rfl) trivial (fun h => ?_) (fun h => ?_)
    · have hlt : i < ks.length := by simpa using h
      have hw := wosTs_len n (ks.take i)
      simp only [List.length_take] at hw
      have hsz := szTs_get hlt
      try simp (config := { maxSteps := 2000000 }) only [go_sem, reduceCtorEq, Nat.reduceAdd, Nat.reduceEqDiff, reduceIte, Nat.reduceLeDiff, Nat.reduceLT, Nat.reduceSub, trsV_get _ _ hlt, trV_at]
      all_goals (repeat (with_reducible refine sAnd ?_))
      refine cond_of (by rfl) trivial (fun h3 => ?_) (fun h3 => ?_)
      · try simp (config := { maxSteps := 2000000 }) only [go_sem, reduceCtorEq, Nat.reduceAdd, Nat.reduceEqDiff, reduceIte, Nat.reduceLeDiff, Nat.reduceLT, Nat.reduceSub, trsV_get _ _ hlt]
        all_goals (repeat (with_reducible refine sAnd ?_))
        refine call_val (by repeat' constructor) (Contract.av (ih (ks.getD i default) n (by omega) (by omega)) (by first | rfl | (simp (config := { maxSteps := 2000000 }) only [go_sem, reduceCtorEq, Nat.reduceAdd, Nat.reduceEqDiff, reduceIte, Nat.reduceLeDiff, Nat.reduceLT, Nat.reduceSub]; done) | (simp (config := { maxSteps := 2000000 }) only [go_sem, reduceCtorEq, Nat.reduceAdd, Nat.reduceEqDiff, reduceIte, Nat.reduceLeDiff, Nat.reduceLT, Nat.reduceSub]; rfl))) ?_
        try simp (config := { maxSteps := 2000000 }) only [go_sem, reduceCtorEq, Nat.reduceAdd, Nat.reduceEqDiff, reduceIte, Nat.reduceLeDiff, Nat.reduceLT, Nat.reduceSub]
        all_goals (repeat (with_reducible refine sAnd ?_))
        refine ⟨i + 1, by omega, hlt, ?_⟩
        simp (config := { maxSteps := 2000000 }) only [go_sem, reduceCtorEq, Nat.reduceAdd, Nat.reduceEqDiff, reduceIte, Nat.reduceLeDiff, Nat.reduceLT, Nat.reduceSub, le_cons, le_nil, le_un, le_same]
        all_goals (repeat' (first | exact trivial | exact le_int (by omega) | exact le_bool rfl | exact le_eq rfl | exact le_nlo | exact le_refl _ | refine And.intro ?_ ?_))
        refine le_own ?_
        have h4 : ¬ (ks.getD i default).nd.up = n := by simpa using h3
        rw [take_succ_d default hlt, wosTs_app]
        simp only [wosTs, h4, if_false, trsV_app]
        rfl
      · try simp (config := { maxSteps := 2000000 }) only [go_sem, reduceCtorEq, Nat.reduceAdd, Nat.reduceEqDiff, reduceIte, Nat.reduceLeDiff, Nat.reduceLT, Nat.reduceSub]
        all_goals (repeat (with_reducible refine sAnd ?_))
        refine ⟨i + 1, by omega, hlt, ?_⟩
        simp (config := { maxSteps := 2000000 }) only [go_sem, reduceCtorEq, Nat.reduceAdd, Nat.reduceEqDiff, reduceIte, Nat.reduceLeDiff, Nat.reduceLT, Nat.reduceSub, le_cons, le_nil, le_un, le_same]
        all_goals (repeat' (first | exact trivial | exact le_int (by omega) | exact le_bool rfl | exact le_eq rfl | exact le_nlo | exact le_refl _ | refine And.intro ?_ ?_))
        refine le_own ?_
        have h4 : (ks.getD i default).nd.up = n := by simpa using h3
        rw [take_succ_d default hlt, wosTs_app]
        simp only [wosTs, h4, if_true, List.append_nil]
    · try simp (config := { maxSteps := 2000000 }) only [go_sem, reduceCtorEq, Nat.reduceAdd, Nat.reduceEqDiff, reduceIte, Nat.reduceLeDiff, Nat.reduceLT, Nat.reduceSub]
      all_goals (repeat (with_reducible refine sAnd ?_))
      refine fin_cellB rfl rfl ?_
      have : i = ks.length := by simp at h; omega
      rw [this, List.take_length]
      rfl
end Go.Hx
end

section
-- DOM trsV_len, trsV_nil, trV_len, trV_norm, List.take_zero, List.map_nil
set_option maxRecDepth 100000
set_option linter.unusedSimpArgs false
namespace Go.Hx
open Go.Proofs
variable [Glob]

attribute [local go_sem] ndsV_len clsV_len attV_len intsR_len ndV cellsEq trsV_len trsV_nil trV_len trV_norm List.take_zero List.map_nil
theorem markF_nd (d : List Nd) (f n : Nat) (h : 0 < f) : (markF d f n).nd.up = n := by
  cases f with
  | zero => omega
  | succ f => rfl

def remF (d : List Nd) (n : Nat) : List Nd := layT (wosT (markF d d.length 0) n) [] (-1)
def removeDoc (d : List Nd) (n : Int) : List Nd × Int :=
  if thereE d n = 0 then (if n = 0 then ([], 3) else (remF d n.toNat, 0)) else ([], thereE d n)
theorem thereE_ok {d : List Nd} {n : Int} (h : thereE d n = 0) : checkDoc d = 0 ∧ 0 ≤ n ∧ n < d.length := by
  unfold thereE at h
  split at h
  · rename_i h1
    split at h
    · exact ⟨h1, by omega, by omega⟩
    · omega
  · contradiction
theorem checkDoc_ok {d : List Nd} (h : checkDoc d = 0) : 1 ≤ d.length ∧ d.length ≤ 64 ∧ docOk d d.length = true := by
  unfold checkDoc at h
  split at h
  · rename_i h1
    split at h
    · rename_i h2
      exact ⟨h1.1, h1.2, h2⟩
    · omega
  · omega
mutual
theorem wosT_sz : ∀ (t : Tr) (n : Int), szT (wosT t n) ≤ szT t
  | .mk x ks, n => by simp only [wosT, szT]; have := wosTs_sz ks n; omega
theorem wosTs_sz : ∀ (t : List Tr) (n : Int), szTs (wosTs t n) ≤ szTs t
  | [], n => Nat.le_refl _
  | t :: r, n => by
    simp only [wosTs, szTs]
    have := wosTs_sz r n
    have := wosT_sz t n
    split
    · omega
    · simp only [szTs]; omega
end

theorem c_ref_RemoveDoc (d : List Nd) (n : Int) (hs : thereE d n = 0 → szT (markF d d.length 0) ≤ 100000) : Contract Tryd.prog fn_ref_RemoveDoc [.val (docV d), .val (iv n)] { res := .tup [docV (removeDoc d n).1, iv (removeDoc d n).2] } := by
  unfold docV
  refine mk_ref_RemoveDoc (base := 0) ⟨Nat.le_of_ble_eq_true rfl, Nat.le_of_ble_eq_true rfl, Nat.le_of_ble_eq_true rfl, rfl⟩ (fun hfit => ?_)
  unfold F0 ref_RemoveDoc_E
  simp (config := { maxSteps := 2000000 }) only [markU, List.set_cons_succ, List.set_cons_zero, List.map_cons, List.map_nil, argCt, setCells, ioOf, List.length_cons, List.length_nil, Nat.reduceAdd, Nat.reduceSub, List.replicate, List.cons_append, List.nil_append]
  try simp (config := { maxSteps := 2000000 }) only [go_sem, reduceCtorEq, Nat.reduceAdd, Nat.reduceEqDiff, reduceIte, Nat.reduceLeDiff, Nat.reduceLT, Nat.reduceSub]
  all_goals (repeat (with_reducible refine sAnd ?_))
  refine call_val (by repeat' constructor) (Contract.av (c_ref_there d n) (by first | rfl | (simp (config := { maxSteps := 2000000 }) only [go_sem, reduceCtorEq, Nat.reduceAdd, Nat.reduceEqDiff, reduceIte, Nat.reduceLeDiff, Nat.reduceLT, Nat.reduceSub]; done) | (simp (config := { maxSteps := 2000000 }) only [go_sem, reduceCtorEq, Nat.reduceAdd, Nat.reduceEqDiff, reduceIte, Nat.reduceLeDiff, Nat.reduceLT, Nat.reduceSub]; rfl))) ?_
  try simp (config := { maxSteps := 2000000 }) only [go_sem, reduceCtorEq, Nat.reduceAdd, Nat.reduceEqDiff, reduceIte, Nat.reduceLeDiff, Nat.reduceLT, Nat.reduceSub]
  all_goals (repeat (with_reducible refine sAnd ?_))
  refine cond_of (by rfl) trivial (fun h => ?_) (fun h => ?_)
  · try simp (config := { maxSteps := 2000000 }) only [go_sem, reduceCtorEq, Nat.reduceAdd, Nat.reduceEqDiff, reduceIte, Nat.reduceLeDiff, Nat.reduceLT, Nat.reduceSub]
    all_goals (repeat (with_reducible refine sAnd ?_))
    have h2 : ¬ thereE d n = 0 := by simpa using h
    simp only [removeDoc, h2, if_false]
    exact fin_tup (by simp) ⟨rs_cellB rfl rfl (.inr rfl), rs_tmp rfl trivial (.inl rfl), rfl⟩
  have h2 : thereE d n = 0 := by simpa using h
  have hs := hs h2
  obtain ⟨h3, h4, h5⟩ := thereE_ok h2
  obtain ⟨h6, h7, h8⟩ := checkDoc_ok h3
  try simp (config := { maxSteps := 2000000 }) only [go_sem, reduceCtorEq, Nat.reduceAdd, Nat.reduceEqDiff, reduceIte, Nat.reduceLeDiff, Nat.reduceLT, Nat.reduceSub]
  all_goals (repeat (with_reducible refine sAnd ?_))
  refine cond_of (by rfl) trivial (fun h9 => ?_) (fun h9 => ?_)
  · try simp (config := { maxSteps := 2000000 }) only [go_sem, reduceCtorEq, Nat.reduceAdd, Nat.reduceEqDiff, reduceIte, Nat.reduceLeDiff, Nat.reduceLT, Nat.reduceSub]
    all_goals (repeat (with_reducible refine sAnd ?_))
    have h10 : n = 0 := by simpa using h9
    simp only [removeDoc, h2, if_true, if_pos h10]
    exact fin_tup (by simp) ⟨rs_cellB rfl rfl (.inr rfl), rs_tmp rfl trivial (.inl rfl), rfl⟩
  · try simp (config := { maxSteps := 2000000 }) only [go_sem, reduceCtorEq, Nat.reduceAdd, Nat.reduceEqDiff, reduceIte, Nat.reduceLeDiff, Nat.reduceLT, Nat.reduceSub]
    all_goals (repeat (with_reducible refine sAnd ?_))
    have h10 : ¬ n = 0 := by simpa using h9
    refine call_val (by repeat' constructor) (Contract.av (c_ref_marked d h8 h7 d.length 0 (by omega) (by omega)) (by first | rfl | (simp (config := { maxSteps := 2000000 }) only [go_sem, reduceCtorEq, Nat.reduceAdd, Nat.reduceEqDiff, reduceIte, Nat.reduceLeDiff, Nat.reduceLT, Nat.reduceSub]; done) | (simp (config := { maxSteps := 2000000 }) only [go_sem, reduceCtorEq, Nat.reduceAdd, Nat.reduceEqDiff, reduceIte, Nat.reduceLeDiff, Nat.reduceLT, Nat.reduceSub]; rfl))) ?_
    try simp (config := { maxSteps := 2000000 }) only [go_sem, reduceCtorEq, Nat.reduceAdd, Nat.reduceEqDiff, reduceIte, Nat.reduceLeDiff, Nat.reduceLT, Nat.reduceSub]
    all_goals (repeat (with_reducible refine sAnd ?_))
    refine call_val (by repeat' constructor) (Contract.av (c_ref_without _ (markF d d.length 0) n (Nat.le_refl _) (by omega)) (by first | rfl | (simp (config := { maxSteps := 2000000 }) only [go_sem, reduceCtorEq, Nat.reduceAdd, Nat.reduceEqDiff, reduceIte, Nat.reduceLeDiff, Nat.reduceLT, Nat.reduceSub]; done) | (simp (config := { maxSteps := 2000000 }) only [go_sem, reduceCtorEq, Nat.reduceAdd, Nat.reduceEqDiff, reduceIte, Nat.reduceLeDiff, Nat.reduceLT, Nat.reduceSub]; rfl))) ?_
    try simp (config := { maxSteps := 2000000 }) only [go_sem, reduceCtorEq, Nat.reduceAdd, Nat.reduceEqDiff, reduceIte, Nat.reduceLeDiff, Nat.reduceLT, Nat.reduceSub]
    all_goals (repeat (with_reducible refine sAnd ?_))
    have := wosT_sz (markF d d.length 0) n
    refine call_own (by repeat' constructor) (Contract.av (c_ref_lay _ (wosT (markF d d.length 0) n) [] (-1) (Nat.le_refl _) (by simp; omega)) (by first | rfl | (simp (config := { maxSteps := 2000000 }) only [go_sem, reduceCtorEq, Nat.reduceAdd, Nat.reduceEqDiff, reduceIte, Nat.reduceLeDiff, Nat.reduceLT, Nat.reduceSub]; done) | (simp (config := { maxSteps := 2000000 }) only [go_sem, reduceCtorEq, Nat.reduceAdd, Nat.reduceEqDiff, reduceIte, Nat.reduceLeDiff, Nat.reduceLT, Nat.reduceSub]; rfl))) ?_
    try simp (config := { maxSteps := 2000000 }) only [go_sem, reduceCtorEq, Nat.reduceAdd, Nat.reduceEqDiff, reduceIte, Nat.reduceLeDiff, Nat.reduceLT, Nat.reduceSub]
    all_goals (repeat (with_reducible refine sAnd ?_))
    simp only [removeDoc, h2, h10, if_true, if_false, remF, show (n.toNat : Int) = n by omega]
    exact fin_tup (by simp) ⟨rs_cellB rfl rfl (.inl rfl), rs_tmp rfl trivial (.inl rfl), rfl⟩
end Go.Hx
end

section
/-
  The abstract code of functions of the program, printed by gen.py; each stands for the given one. No condition.
-/
namespace Go.Hx
open Go.Proofs
variable [Glob]
abbrev fn_doc_Put : Nat := 27
abbrev fn_law_DocChanges : Nat := 5
abbrev fn_law_DocInserts : Nat := 4
abbrev fn_law_DocTells : Nat := 3
abbrev fn_law_docBegun : Nat := 19
abbrev fn_ref_InsertDoc : Nat := 25
abbrev fn_ref_PutDoc : Nat := 29
abbrev fn_ref_foreign : Nat := 73
abbrev doc_ownV_r0 : HCode := .reg [⟨none, .vnl 4 ty_api_Node 5⟩] false []
abbrev doc_ownV_r1 : HCode := .reg [⟨none, .vnl 5 ty_api_Node 5⟩] false []
abbrev doc_ownV_r2 : HCode := .reg [⟨none, .val 8 (.mv (.t 0))⟩,
    ⟨none, .val 9 (.len false (.t 8))⟩,
    ⟨none, .val 10 (.mv (.c (iv 0)))⟩] false []
abbrev doc_ownV_r3 : HCode := .reg [⟨none, .val 11 (.ints .lss (.t 10) (.t 9))⟩] false []
abbrev doc_ownV_r4 : HCode := .reg [⟨none, .val 12 (.idxA 5 (.t 8) (.t 10))⟩,
    ⟨none, .val 13 (.ldR (.t 12) 5 true)⟩,
    ⟨none, .alloc 7 0 33 [.v (.int .i64 0), .v (mkS []), .v (mkS []), .nl 1, .nl 2]⟩,
    ⟨none, .sto (.t 7) 0 33 0 5 (.t 13)⟩] false [.forget [12, 13]]
abbrev doc_ownV_r5 : HCode := .drg [⟨0, false, ⟨none, .val 14 (.mv (.t 1))⟩⟩,
    ⟨1, false, ⟨none, .val 15 (.fldP (.t 7) 0)⟩⟩,
    ⟨2, false, ⟨none, .val 16 (.ldB (.t 15) 0 33 0 1 false)⟩⟩,
    ⟨3, false, ⟨none, .callv (some 17) (.t 14) [(.t 16, .v)]⟩⟩,
    ⟨4, false, ⟨none, .val 18 (.fldP (.t 7) 3)⟩⟩,
    ⟨5, false, ⟨none, .val 19 (.ldB (.t 18) 0 33 3 1 false)⟩⟩,
    ⟨6, false, ⟨none, .call (some 20) fn_slices_Clone_string [(.t 19, .v)]⟩⟩,
    ⟨7, false, ⟨none, .val 21 (.fldP (.t 7) 4)⟩⟩,
    ⟨8, false, ⟨none, .val 22 (.ldB (.t 21) 0 33 4 1 false)⟩⟩,
    ⟨9, false, ⟨none, .call (some 23) fn_slices_Clone_Attr [(.t 22, .v)]⟩⟩,
    ⟨10, false, ⟨none, .val 24 (.fldP (.t 7) 0)⟩⟩,
    ⟨11, false, ⟨none, .sto (.t 24) 0 33 0 1 (.t 17)⟩⟩,
    ⟨12, false, ⟨none, .val 25 (.fldP (.t 7) 3)⟩⟩,
    ⟨13, false, ⟨none, .sto (.t 25) 0 33 3 1 (.t 20)⟩⟩,
    ⟨14, false, ⟨none, .val 26 (.fldP (.t 7) 4)⟩⟩,
    ⟨15, false, ⟨none, .sto (.t 26) 0 33 4 1 (.t 23)⟩⟩] [.forget [14, 15, 16, 17, 18, 19, 20, 21, 22, 23, 24, 25, 26]]
abbrev doc_ownV_r6 : HCode := .reg [⟨none, .vmv 27 5⟩,
    ⟨none, .val 28 (.ldB (.t 7) 0 33 0 5 true)⟩,
    ⟨none, .val 29 (.bslF 5 [.t 28])⟩,
    ⟨none, .vap 30 ty_api_Node 5 27 (.t 29)⟩,
    ⟨none, .vmv 5 30⟩] false [.forget [27, 28, 29, 30]]
abbrev doc_ownV_r7 : HCode := .reg [⟨none, .val 31 (.ints .add (.t 10) (.c (iv 1)))⟩,
    ⟨none, .val 10 (.mv (.t 31))⟩] false [.forget [31]]
abbrev doc_ownV_r8 : HCode := .reg [⟨none, .vmv 32 5⟩,
    ⟨none, .vmv 4 32⟩] false [.forget [32]]
abbrev doc_ownV : HCode := (.seq doc_ownV_r0 (.seq doc_ownV_r1 (.seq (.seq doc_ownV_r2 (.block 0 (.loop (.seq doc_ownV_r3 (.seq (.cond (.t 11) .skip (.exit 0)) (.seq (.block 1 (.seq doc_ownV_r4 (.seq doc_ownV_r5 doc_ownV_r6))) doc_ownV_r7)))))) (.seq doc_ownV_r8 .ret))))
abbrev doc_ownV_E : Env := { N := 33, Γ := [(33, 5)], L := 38, nfix := 0 }
abbrev doc_ownV_R : List RSrc := [.tmp 4]
theorem mk_doc_ownV {base : Nat} {av : List AV} {r : RV} (hfo : formOk doc_ownV_E base av) (hW : AVs.fits av → hwp Tryd.prog doc_ownV (finQ doc_ownV_E base av doc_ownV_R r) (F0 doc_ownV_E base av)) (hov : ∀ x, r.res = .ov x → nOwn av = 0 := by intro x h; cases h <;> rfl) : Contract Tryd.prog fn_doc_own av r :=
  contract_of_wp (fn := Tryd.f57) (c := Tryd.f57.body.getD .skip) (by kernel_rfl) (by kernel_rfl) (by kernel_rfl) (by kernel_rfl) (by kernel_rfl) (by kernel_rfl) (by kernel_rfl) hfo hW hov
abbrev doc_PutV_r0 : HCode := .reg [⟨none, .val 3 (.boxF (.t 0))⟩,
    ⟨none, .box 5 0 44 5 (.t 2)⟩,
    ⟨none, .alloc 6 1 49 [.nl 5]⟩,
    ⟨none, .val 7 (.mv (.c (iv 0)))⟩] false []
abbrev doc_PutV_r1 : HCode := .reg [⟨none, .val 10 (.ldR (.t 3) 1 true)⟩,
    ⟨none, .val 11 (.mv (.t 1))⟩,
    ⟨none, .call (some 12) fn_doc_there [(.t 10, .v), (.t 11, .v)]⟩,
    ⟨none, .val 8 (.mv (.t 12))⟩] false [.forget [10, 11, 12]]
abbrev doc_PutV_r2 : HCode := .reg [⟨none, .val 13 (.mv (.t 8))⟩,
    ⟨none, .val 14 (.ints .neq (.t 13) (.c (iv 0)))⟩] false [.forget [13]]
abbrev doc_PutV_r3 : HCode := .reg [⟨none, .val 15 (.bld [.nl 5] [])⟩,
    ⟨none, .val 16 (.mv (.t 8))⟩,
    ⟨none, .sto (.t 6) 1 49 0 1 (.t 15)⟩,
    ⟨none, .val 7 (.mv (.t 16))⟩] false [.forget [15, 16]]
abbrev doc_PutV_r4 : HCode := .reg [⟨none, .val 17 (.ldB (.t 5) 0 44 0 5 true)⟩,
    ⟨none, .call (some 18) fn_doc_Fine [(.t 17, .v)]⟩,
    ⟨none, .val 19 (.not (.t 18))⟩] false [.forget [17, 18]]
abbrev doc_PutV_r5 : HCode := .reg [⟨none, .val 20 (.bld [.nl 5] [])⟩,
    ⟨none, .sto (.t 6) 1 49 0 1 (.t 20)⟩,
    ⟨none, .val 7 (.mv (.c (iv 1)))⟩] false [.forget [20]]
abbrev doc_PutV_r6 : HCode := .reg [⟨none, .val 21 (.fldR (.t 3) 0 1)⟩,
    ⟨none, .val 22 (.ldR (.t 21) 1 false)⟩,
    ⟨none, .call (some 23) fn_doc_own [(.t 22, .v), (.f fn_doc_Put_1, .v)]⟩,
    ⟨none, .vmv 9 23⟩] false [.forget [21, 22, 23], .pin 9 0 0 []]
abbrev doc_PutV_r7 : HCode := .drg [⟨0, false, ⟨none, .val 24 (.mv (.t 9))⟩⟩,
    ⟨1, false, ⟨none, .val 25 (.mv (.t 1))⟩⟩,
    ⟨2, false, ⟨none, .val 26 (.idxA 5 (.t 24) (.t 25))⟩⟩,
    ⟨3, false, ⟨none, .val 27 (.fldP (.t 26) 0)⟩⟩,
    ⟨4, false, ⟨none, .vlp 28 (.t 27) 9 0 0 [] 1 false⟩⟩,
    ⟨5, false, ⟨none, .val 29 (.fldP (.t 5) 3)⟩⟩,
    ⟨6, false, ⟨none, .val 30 (.ldB (.t 29) 0 44 3 1 false)⟩⟩,
    ⟨7, false, ⟨none, .call (some 31) fn_slices_Clone_string [(.t 30, .v)]⟩⟩,
    ⟨8, false, ⟨none, .val 32 (.fldP (.t 5) 4)⟩⟩,
    ⟨9, false, ⟨none, .val 33 (.ldB (.t 32) 0 44 4 1 false)⟩⟩,
    ⟨10, false, ⟨none, .call (some 34) fn_slices_Clone_Attr [(.t 33, .v)]⟩⟩,
    ⟨11, false, ⟨none, .val 35 (.fldP (.t 5) 0)⟩⟩,
    ⟨12, false, ⟨none, .sto (.t 35) 0 44 0 1 (.t 28)⟩⟩,
    ⟨13, false, ⟨none, .val 36 (.fldP (.t 5) 3)⟩⟩,
    ⟨14, false, ⟨none, .sto (.t 36) 0 44 3 1 (.t 31)⟩⟩,
    ⟨15, false, ⟨none, .val 37 (.fldP (.t 5) 4)⟩⟩,
    ⟨16, false, ⟨none, .sto (.t 37) 0 44 4 1 (.t 34)⟩⟩] [.forget [24, 25, 26, 27, 28, 29, 30, 31, 32, 33, 34, 35, 36, 37]]
abbrev doc_PutV_r8 : HCode := .reg [⟨none, .val 38 (.mv (.t 9))⟩,
    ⟨none, .val 39 (.mv (.t 1))⟩,
    ⟨none, .val 40 (.ldB (.t 5) 0 44 0 5 true)⟩,
    ⟨none, .val 41 (.idxA 5 (.t 38) (.t 39))⟩,
    ⟨none, .vse (.t 41) 9 0 0 [] 5 (.t 40)⟩] false [.forget [38, 39, 40, 41], .vfr 9 0 0]
abbrev doc_PutV_r9 : HCode := .reg [⟨none, .val 42 (.mv (.t 9))⟩,
    ⟨none, .val 43 (.bld [.nl 5] [(0, 1, .t 42)])⟩,
    ⟨none, .sto (.t 6) 1 49 0 1 (.t 43)⟩,
    ⟨none, .val 7 (.mv (.c (iv 0)))⟩] false [.forget [42, 43]]
abbrev doc_PutV : HCode := (.seq doc_PutV_r0 (.seq (.seq doc_PutV_r1 (.seq doc_PutV_r2 (.cond (.t 14) (.seq doc_PutV_r3 .ret) .skip))) (.seq (.seq doc_PutV_r4 (.cond (.t 19) (.seq doc_PutV_r5 .ret) .skip)) (.seq doc_PutV_r6 (.seq doc_PutV_r7 (.seq doc_PutV_r8 (.seq doc_PutV_r9 .ret)))))))
abbrev doc_PutV_E : Env := { N := 44, Γ := [(44, 5), (49, 1)], L := 50, nfix := 0 }
abbrev doc_PutV_R : List RSrc := [.cellB 6 1 49 0 1 true, .tmp 7]
theorem mk_doc_PutV {base : Nat} {av : List AV} {r : RV} (hfo : formOk doc_PutV_E base av) (hW : AVs.fits av → hwp Tryd.prog doc_PutV (finQ doc_PutV_E base av doc_PutV_R r) (F0 doc_PutV_E base av)) (hov : ∀ x, r.res = .ov x → nOwn av = 0 := by intro x h; cases h <;> rfl) : Contract Tryd.prog fn_doc_Put av r :=
  contract_of_wp (fn := Tryd.f27) (c := Tryd.f27.body.getD .skip) (by kernel_rfl) (by kernel_rfl) (by kernel_rfl) (by kernel_rfl) (by kernel_rfl) (by kernel_rfl) (by kernel_rfl) hfo hW hov
abbrev law_docBegun_r0 : HCode := .reg [⟨none, .val 0 (.mv (.c (bv false)))⟩] false []
abbrev law_docBegun_r1 : HCode := .reg [⟨none, .call (some 14) fn_law_small []⟩,
    ⟨none, .call (some 15) fn_doc_Kids [(.t 14, .v), (.c (iv 0), .v)]⟩,
    ⟨none, .val 13 (.mv (.t 15))⟩,
    ⟨none, .val 16 (.ext 13 0)⟩,
    ⟨none, .val 17 (.ext 13 1)⟩,
    ⟨none, .val 1 (.mv (.t 16))⟩,
    ⟨none, .val 2 (.mv (.t 17))⟩] false [.forget [13, 14, 15, 16, 17]]
abbrev law_docBegun_r2 : HCode := .reg [⟨none, .call (some 19) fn_law_small []⟩,
    ⟨none, .call (some 20) fn_doc_Under [(.t 19, .v), (.c (iv 2), .v)]⟩,
    ⟨none, .val 18 (.mv (.t 20))⟩,
    ⟨none, .val 21 (.ext 18 0)⟩,
    ⟨none, .val 22 (.ext 18 1)⟩,
    ⟨none, .val 3 (.mv (.t 21))⟩,
    ⟨none, .val 4 (.mv (.t 22))⟩] false [.forget [18, 19, 20, 21, 22]]
abbrev law_docBegun_r3 : HCode := .reg [⟨none, .call (some 24) fn_law_small []⟩,
    ⟨none, .call (some 25) fn_doc_Part [(.t 24, .v), (.c (iv 2), .v)]⟩,
    ⟨none, .val 23 (.mv (.t 25))⟩,
    ⟨none, .val 26 (.ext 23 0)⟩,
    ⟨none, .val 27 (.ext 23 1)⟩,
    ⟨none, .alloc 5 0 113 [.nl 5]⟩,
    ⟨none, .sto (.t 5) 0 113 0 1 (.t 26)⟩,
    ⟨none, .val 6 (.mv (.t 27))⟩] false [.forget [23, 24, 25, 26, 27]]
abbrev law_docBegun_r4 : HCode := .reg [⟨none, .call (some 29) fn_law_small []⟩,
    ⟨none, .call (some 30) fn_doc_Remove [(.t 29, .v), (.c (iv 2), .v)]⟩,
    ⟨none, .val 28 (.mv (.t 30))⟩,
    ⟨none, .val 31 (.ext 28 0)⟩,
    ⟨none, .val 32 (.ext 28 1)⟩,
    ⟨none, .alloc 7 1 114 [.nl 5]⟩,
    ⟨none, .sto (.t 7) 1 114 0 1 (.t 31)⟩,
    ⟨none, .val 8 (.mv (.t 32))⟩] false [.frz 1 114 1, .forget [28, 29, 30, 31, 32]]
abbrev law_docBegun_r5 : HCode := .reg [⟨none, .val 34 (.ldR (.t 7) 1 true)⟩,
    ⟨none, .val 35 (.ldB (.t 5) 0 113 0 1 true)⟩,
    ⟨none, .call (some 36) fn_doc_Insert [(.t 34, .v), (.c (iv 0), .v), (.c (iv 1), .v), (.t 35, .v)]⟩,
    ⟨none, .val 33 (.mv (.t 36))⟩,
    ⟨none, .val 37 (.ext 33 0)⟩,
    ⟨none, .val 38 (.ext 33 1)⟩,
    ⟨none, .alloc 9 2 115 [.nl 5]⟩,
    ⟨none, .sto (.t 9) 2 115 0 1 (.t 37)⟩,
    ⟨none, .val 10 (.mv (.t 38))⟩] false [.forget [33, 34, 35, 36, 37, 38]]
abbrev law_docBegun_r6 : HCode := .reg [⟨none, .call (some 40) fn_law_small []⟩,
    ⟨none, .val 41 (.bld [.v (.int .i64 0), .v (mkS []), .v (mkS []), .nl 1, .nl 2] [(1, 1, .c (sv [120]))])⟩,
    ⟨none, .call (some 42) fn_doc_Put [(.t 40, .v), (.c (iv 3), .v), (.t 41, .v)]⟩,
    ⟨none, .val 39 (.mv (.t 42))⟩,
    ⟨none, .val 43 (.ext 39 0)⟩,
    ⟨none, .val 44 (.ext 39 1)⟩,
    ⟨none, .alloc 11 3 116 [.nl 5]⟩,
    ⟨none, .sto (.t 11) 3 116 0 1 (.t 43)⟩,
    ⟨none, .val 12 (.mv (.t 44))⟩] false [.frz 3 116 1, .forget [39, 40, 41, 42, 43, 44]]
abbrev law_docBegun_r7 : HCode := .drg [⟨0, true, ⟨none, .call (some 45) fn_law_small []⟩⟩,
    ⟨1, true, ⟨none, .call (some 46) fn_doc_Check [(.t 45, .v)]⟩⟩,
    ⟨2, false, ⟨none, .val 47 (.ints .eql (.t 46) (.c (iv 0)))⟩⟩,
    ⟨3, false, ⟨none, .val 48 (.mv (.t 47))⟩⟩,
    ⟨4, false, ⟨some (48, true), .val 49 (.bld [.nl 5] [])⟩⟩,
    ⟨5, true, ⟨some (48, true), .call (some 50) fn_doc_Check [(.t 49, .v)]⟩⟩,
    ⟨6, false, ⟨some (48, true), .val 51 (.ints .eql (.t 50) (.c (iv 2)))⟩⟩,
    ⟨7, false, ⟨none, .val 52 (.pick (.t 48) (.t 51) (.c (bv false)))⟩⟩,
    ⟨8, false, ⟨none, .val 53 (.mv (.t 52))⟩⟩,
    ⟨9, false, ⟨some (53, true), .val 54 (.mv (.t 2))⟩⟩,
    ⟨10, false, ⟨some (53, true), .val 55 (.ints .eql (.t 54) (.c (iv 0)))⟩⟩,
    ⟨11, false, ⟨none, .val 56 (.pick (.t 53) (.t 55) (.c (bv false)))⟩⟩,
    ⟨12, false, ⟨none, .val 57 (.mv (.t 56))⟩⟩,
    ⟨13, false, ⟨some (57, true), .val 58 (.mv (.t 4))⟩⟩,
    ⟨14, false, ⟨some (57, true), .val 59 (.ints .eql (.t 58) (.c (iv 0)))⟩⟩,
    ⟨15, false, ⟨none, .val 60 (.pick (.t 57) (.t 59) (.c (bv false)))⟩⟩,
    ⟨16, false, ⟨none, .val 61 (.mv (.t 60))⟩⟩,
    ⟨17, false, ⟨some (61, true), .val 62 (.mv (.t 6))⟩⟩,
    ⟨18, false, ⟨some (61, true), .val 63 (.ints .eql (.t 62) (.c (iv 0)))⟩⟩,
    ⟨19, false, ⟨none, .val 64 (.pick (.t 61) (.t 63) (.c (bv false)))⟩⟩,
    ⟨20, false, ⟨none, .val 65 (.mv (.t 64))⟩⟩,
    ⟨21, false, ⟨some (65, true), .val 66 (.mv (.t 8))⟩⟩,
    ⟨22, false, ⟨some (65, true), .val 67 (.ints .eql (.t 66) (.c (iv 0)))⟩⟩,
    ⟨23, false, ⟨none, .val 68 (.pick (.t 65) (.t 67) (.c (bv false)))⟩⟩,
    ⟨24, false, ⟨none, .val 69 (.mv (.t 68))⟩⟩,
    ⟨25, false, ⟨some (69, true), .val 70 (.mv (.t 10))⟩⟩,
    ⟨26, false, ⟨some (69, true), .val 71 (.ints .eql (.t 70) (.c (iv 0)))⟩⟩,
    ⟨27, false, ⟨none, .val 72 (.pick (.t 69) (.t 71) (.c (bv false)))⟩⟩,
    ⟨28, false, ⟨none, .val 73 (.mv (.t 72))⟩⟩,
    ⟨29, false, ⟨some (73, true), .val 74 (.mv (.t 12))⟩⟩,
    ⟨30, false, ⟨some (73, true), .val 75 (.ints .eql (.t 74) (.c (iv 0)))⟩⟩,
    ⟨31, false, ⟨none, .val 76 (.pick (.t 73) (.t 75) (.c (bv false)))⟩⟩,
    ⟨32, false, ⟨none, .val 77 (.mv (.t 76))⟩⟩,
    ⟨33, false, ⟨some (77, true), .val 78 (.mv (.t 1))⟩⟩,
    ⟨34, false, ⟨some (77, true), .val 79 (.bslF 1 [.c (iv 1), .c (iv 2), .c (iv 4)])⟩⟩,
    ⟨35, true, ⟨some (77, true), .call (some 80) fn_ref_SameInts [(.t 78, .v), (.t 79, .v)]⟩⟩,
    ⟨36, false, ⟨none, .val 81 (.pick (.t 77) (.t 80) (.c (bv false)))⟩⟩,
    ⟨37, false, ⟨none, .val 82 (.mv (.t 81))⟩⟩,
    ⟨38, false, ⟨some (82, true), .val 83 (.mv (.t 3))⟩⟩,
    ⟨39, false, ⟨some (82, true), .val 84 (.ints .eql (.t 83) (.c (iv 1)))⟩⟩,
    ⟨40, false, ⟨none, .val 85 (.pick (.t 82) (.t 84) (.c (bv false)))⟩⟩,
    ⟨41, false, ⟨none, .val 86 (.mv (.t 85))⟩⟩,
    ⟨42, false, ⟨some (86, true), .val 87 (.fldR (.t 7) 0 1)⟩⟩,
    ⟨43, false, ⟨some (86, true), .val 88 (.ldR (.t 87) 1 false)⟩⟩,
    ⟨44, false, ⟨some (86, true), .val 89 (.len false (.t 88))⟩⟩,
    ⟨45, false, ⟨some (86, true), .val 90 (.ints .eql (.t 89) (.c (iv 3)))⟩⟩,
    ⟨46, false, ⟨none, .val 91 (.pick (.t 86) (.t 90) (.c (bv false)))⟩⟩,
    ⟨47, false, ⟨none, .val 92 (.mv (.t 91))⟩⟩,
    ⟨48, false, ⟨some (92, true), .val 93 (.ldB (.t 9) 2 115 0 1 true)⟩⟩,
    ⟨49, true, ⟨some (92, true), .call (some 94) fn_law_small []⟩⟩,
    ⟨50, true, ⟨some (92, true), .call (some 95) fn_ref_SameDocs [(.t 93, .v), (.t 94, .v)]⟩⟩,
    ⟨51, false, ⟨none, .val 96 (.pick (.t 92) (.t 95) (.c (bv false)))⟩⟩,
    ⟨52, false, ⟨none, .val 97 (.mv (.t 96))⟩⟩,
    ⟨53, false, ⟨some (97, true), .val 98 (.fldR (.t 11) 0 1)⟩⟩,
    ⟨54, false, ⟨some (97, true), .val 99 (.ldR (.t 98) 1 false)⟩⟩,
    ⟨55, false, ⟨some (97, true), .val 100 (.idxA 5 (.t 99) (.c (iv 3)))⟩⟩,
    ⟨56, false, ⟨some (97, true), .val 101 (.fldR (.t 100) 0 1)⟩⟩,
    ⟨57, false, ⟨some (97, true), .val 102 (.ldR (.t 101) 1 false)⟩⟩,
    ⟨58, false, ⟨some (97, true), .val 103 (.ints .eql (.t 102) (.c (iv 2)))⟩⟩,
    ⟨59, false, ⟨none, .val 104 (.pick (.t 97) (.t 103) (.c (bv false)))⟩⟩,
    ⟨60, false, ⟨none, .val 105 (.mv (.t 104))⟩⟩,
    ⟨61, false, ⟨some (105, true), .val 106 (.fldR (.t 11) 0 1)⟩⟩,
    ⟨62, false, ⟨some (105, true), .val 107 (.ldR (.t 106) 1 false)⟩⟩,
    ⟨63, false, ⟨some (105, true), .val 108 (.idxA 5 (.t 107) (.c (iv 3)))⟩⟩,
    ⟨64, false, ⟨some (105, true), .val 109 (.fldR (.t 108) 1 1)⟩⟩,
    ⟨65, false, ⟨some (105, true), .val 110 (.ldR (.t 109) 1 false)⟩⟩,
    ⟨66, false, ⟨some (105, true), .val 111 (.strs .eql (.t 110) (.c (sv [120])))⟩⟩,
    ⟨67, false, ⟨none, .val 112 (.pick (.t 105) (.t 111) (.c (bv false)))⟩⟩,
    ⟨68, false, ⟨none, .val 0 (.mv (.t 112))⟩⟩] [.forget [45, 46, 47, 48, 49, 50, 51, 52, 53, 54, 55, 56, 57, 58, 59, 60, 61, 62, 63, 64, 65, 66, 67, 68, 69, 70, 71, 72, 73, 74, 75, 76, 77, 78, 79, 80, 81, 82, 83, 84, 85, 86, 87, 88, 89, 90, 91, 92, 93, 94, 95, 96, 97, 98, 99, 100, 101, 102, 103, 104, 105, 106, 107, 108, 109, 110, 111, 112]]
abbrev law_docBegun : HCode := (.seq law_docBegun_r0 (.seq law_docBegun_r1 (.seq law_docBegun_r2 (.seq law_docBegun_r3 (.seq law_docBegun_r4 (.seq law_docBegun_r5 (.seq law_docBegun_r6 (.seq law_docBegun_r7 .ret))))))))
abbrev law_docBegun_E : Env := { N := 113, Γ := [(113, 1), (114, 1), (115, 1), (116, 1)], L := 117, nfix := 0 }
abbrev law_docBegun_R : List RSrc := [.tmp 0]
theorem mk_law_docBegun {base : Nat} {av : List AV} {r : RV} (hfo : formOk law_docBegun_E base av) (hW : AVs.fits av → hwp Tryd.prog law_docBegun (finQ law_docBegun_E base av law_docBegun_R r) (F0 law_docBegun_E base av)) (hov : ∀ x, r.res = .ov x → nOwn av = 0 := by intro x h; cases h <;> rfl) : Contract Tryd.prog fn_law_docBegun av r :=
  contract_of_wp (fn := Tryd.f19) (c := Tryd.f19.body.getD .skip) (by kernel_rfl) (by kernel_rfl) (by kernel_rfl) (by kernel_rfl) (by kernel_rfl) (by kernel_rfl) (by kernel_rfl) hfo hW hov
abbrev law_DocTells_r0 : HCode := .reg [⟨none, .val 2 (.boxF (.t 0))⟩,
    ⟨none, .val 4 (.mv (.c (bv false)))⟩] false []
abbrev law_DocTells_r1 : HCode := .reg [⟨none, .val 16 (.ldR (.t 2) 1 true)⟩,
    ⟨none, .val 17 (.mv (.t 1))⟩,
    ⟨none, .call (some 18) fn_doc_Kids [(.t 16, .v), (.t 17, .v)]⟩,
    ⟨none, .val 15 (.mv (.t 18))⟩,
    ⟨none, .val 19 (.ext 15 0)⟩,
    ⟨none, .val 20 (.ext 15 1)⟩,
    ⟨none, .val 5 (.mv (.t 19))⟩,
    ⟨none, .val 6 (.mv (.t 20))⟩] false [.forget [15, 16, 17, 18, 19, 20]]
abbrev law_DocTells_r2 : HCode := .reg [⟨none, .val 22 (.ldR (.t 2) 1 true)⟩,
    ⟨none, .val 23 (.mv (.t 1))⟩,
    ⟨none, .call (some 24) fn_doc_Under [(.t 22, .v), (.t 23, .v)]⟩,
    ⟨none, .val 21 (.mv (.t 24))⟩,
    ⟨none, .val 25 (.ext 21 0)⟩,
    ⟨none, .val 26 (.ext 21 1)⟩,
    ⟨none, .val 7 (.mv (.t 25))⟩,
    ⟨none, .val 8 (.mv (.t 26))⟩] false [.forget [21, 22, 23, 24, 25, 26]]
abbrev law_DocTells_r3 : HCode := .reg [⟨none, .val 28 (.ldR (.t 2) 1 true)⟩,
    ⟨none, .val 29 (.mv (.t 1))⟩,
    ⟨none, .call (some 30) fn_doc_Part [(.t 28, .v), (.t 29, .v)]⟩,
    ⟨none, .val 27 (.mv (.t 30))⟩,
    ⟨none, .val 31 (.ext 27 0)⟩,
    ⟨none, .val 32 (.ext 27 1)⟩,
    ⟨none, .alloc 9 0 85 [.nl 5]⟩,
    ⟨none, .sto (.t 9) 0 85 0 1 (.t 31)⟩,
    ⟨none, .val 10 (.mv (.t 32))⟩] false [.forget [27, 28, 29, 30, 31, 32]]
abbrev law_DocTells_r4 : HCode := .reg [⟨none, .val 33 (.ldR (.t 2) 1 true)⟩,
    ⟨none, .val 34 (.mv (.t 1))⟩,
    ⟨none, .call (some 35) fn_ref_There [(.t 33, .v), (.t 34, .v)]⟩,
    ⟨none, .val 11 (.mv (.t 35))⟩] false [.forget [33, 34, 35]]
abbrev law_DocTells_r5 : HCode := .reg [⟨none, .val 12 (.mv (.c (.one (.nl 1))))⟩] false []
abbrev law_DocTells_r6 : HCode := .reg [⟨none, .val 13 (.mv (.c (iv 0)))⟩] false []
abbrev law_DocTells_r7 : HCode := .reg [⟨none, .alloc 14 1 86 [.nl 5]⟩] false []
abbrev law_DocTells_r8 : HCode := .reg [⟨none, .val 36 (.mv (.t 11))⟩,
    ⟨none, .val 37 (.ints .eql (.t 36) (.c (iv 0)))⟩] false [.forget [36]]
abbrev law_DocTells_r9 : HCode := .drg [⟨0, false, ⟨none, .val 38 (.ldR (.t 2) 1 true)⟩⟩,
    ⟨1, false, ⟨none, .val 39 (.mv (.t 1))⟩⟩,
    ⟨2, false, ⟨none, .call (some 40) fn_ref_KidsOf [(.t 38, .v), (.t 39, .v)]⟩⟩,
    ⟨3, false, ⟨none, .val 41 (.ldR (.t 2) 1 true)⟩⟩,
    ⟨4, false, ⟨none, .val 42 (.mv (.t 1))⟩⟩,
    ⟨5, false, ⟨none, .call (some 43) fn_ref_UnderOf [(.t 41, .v), (.t 42, .v)]⟩⟩,
    ⟨6, false, ⟨none, .val 44 (.ldR (.t 2) 1 true)⟩⟩,
    ⟨7, false, ⟨none, .val 45 (.mv (.t 1))⟩⟩,
    ⟨8, true, ⟨none, .call (some 46) fn_ref_PartOf [(.t 44, .v), (.t 45, .v)]⟩⟩,
    ⟨9, false, ⟨none, .val 12 (.mv (.t 40))⟩⟩,
    ⟨10, false, ⟨none, .val 13 (.mv (.t 43))⟩⟩,
    ⟨11, false, ⟨none, .sto (.t 14) 1 86 0 1 (.t 46)⟩⟩] [.forget [38, 39, 40, 41, 42, 43, 44, 45, 46]]
abbrev law_DocTells_r10 : HCode := .drg [⟨0, true, ⟨none, .call (some 47) fn_law_docBegun []⟩⟩,
    ⟨1, false, ⟨none, .val 48 (.mv (.t 47))⟩⟩,
    ⟨2, false, ⟨some (48, true), .val 49 (.ldR (.t 2) 1 true)⟩⟩,
    ⟨3, false, ⟨some (48, true), .call (some 50) fn_doc_Check [(.t 49, .v)]⟩⟩,
    ⟨4, false, ⟨some (48, true), .val 51 (.ldR (.t 2) 1 true)⟩⟩,
    ⟨5, true, ⟨some (48, true), .call (some 52) fn_ref_CheckDoc [(.t 51, .v)]⟩⟩,
    ⟨6, false, ⟨some (48, true), .val 53 (.ints .eql (.t 50) (.t 52))⟩⟩,
    ⟨7, false, ⟨none, .val 54 (.pick (.t 48) (.t 53) (.c (bv false)))⟩⟩,
    ⟨8, false, ⟨none, .val 55 (.mv (.t 54))⟩⟩,
    ⟨9, false, ⟨some (55, true), .val 56 (.mv (.t 6))⟩⟩,
    ⟨10, false, ⟨some (55, true), .val 57 (.mv (.t 11))⟩⟩,
    ⟨11, false, ⟨some (55, true), .val 58 (.ints .eql (.t 56) (.t 57))⟩⟩,
    ⟨12, false, ⟨none, .val 59 (.pick (.t 55) (.t 58) (.c (bv false)))⟩⟩,
    ⟨13, false, ⟨none, .val 60 (.mv (.t 59))⟩⟩,
    ⟨14, false, ⟨some (60, true), .val 61 (.mv (.t 8))⟩⟩,
    ⟨15, false, ⟨some (60, true), .val 62 (.mv (.t 11))⟩⟩,
    ⟨16, false, ⟨some (60, true), .val 63 (.ints .eql (.t 61) (.t 62))⟩⟩,
    ⟨17, false, ⟨none, .val 64 (.pick (.t 60) (.t 63) (.c (bv false)))⟩⟩,
    ⟨18, false, ⟨none, .val 65 (.mv (.t 64))⟩⟩,
    ⟨19, false, ⟨some (65, true), .val 66 (.mv (.t 10))⟩⟩,
    ⟨20, false, ⟨some (65, true), .val 67 (.mv (.t 11))⟩⟩,
    ⟨21, false, ⟨some (65, true), .val 68 (.ints .eql (.t 66) (.t 67))⟩⟩,
    ⟨22, false, ⟨none, .val 69 (.pick (.t 65) (.t 68) (.c (bv false)))⟩⟩,
    ⟨23, false, ⟨none, .val 70 (.mv (.t 69))⟩⟩,
    ⟨24, false, ⟨some (70, true), .val 71 (.mv (.t 5))⟩⟩,
    ⟨25, false, ⟨some (70, true), .val 72 (.mv (.t 12))⟩⟩,
    ⟨26, true, ⟨some (70, true), .call (some 73) fn_ref_SameInts [(.t 71, .v), (.t 72, .v)]⟩⟩,
    ⟨27, false, ⟨none, .val 74 (.pick (.t 70) (.t 73) (.c (bv false)))⟩⟩,
    ⟨28, false, ⟨none, .val 75 (.mv (.t 74))⟩⟩,
    ⟨29, false, ⟨some (75, true), .val 76 (.mv (.t 7))⟩⟩,
    ⟨30, false, ⟨some (75, true), .val 77 (.mv (.t 13))⟩⟩,
    ⟨31, false, ⟨some (75, true), .val 78 (.ints .eql (.t 76) (.t 77))⟩⟩,
    ⟨32, false, ⟨none, .val 79 (.pick (.t 75) (.t 78) (.c (bv false)))⟩⟩,
    ⟨33, false, ⟨none, .val 80 (.mv (.t 79))⟩⟩,
    ⟨34, false, ⟨some (80, true), .val 81 (.ldB (.t 9) 0 85 0 1 true)⟩⟩,
    ⟨35, false, ⟨some (80, true), .val 82 (.ldB (.t 14) 1 86 0 1 true)⟩⟩,
    ⟨36, true, ⟨some (80, true), .call (some 83) fn_ref_SameDocs [(.t 81, .v), (.t 82, .v)]⟩⟩,
    ⟨37, false, ⟨none, .val 84 (.pick (.t 80) (.t 83) (.c (bv false)))⟩⟩,
    ⟨38, false, ⟨none, .val 4 (.mv (.t 84))⟩⟩] [.forget [47, 48, 49, 50, 51, 52, 53, 54, 55, 56, 57, 58, 59, 60, 61, 62, 63, 64, 65, 66, 67, 68, 69, 70, 71, 72, 73, 74, 75, 76, 77, 78, 79, 80, 81, 82, 83, 84]]
abbrev law_DocTells : HCode := (.seq law_DocTells_r0 (.seq law_DocTells_r1 (.seq law_DocTells_r2 (.seq law_DocTells_r3 (.seq law_DocTells_r4 (.seq law_DocTells_r5 (.seq law_DocTells_r6 (.seq law_DocTells_r7 (.seq (.seq law_DocTells_r8 (.cond (.t 37) law_DocTells_r9 .skip)) (.seq law_DocTells_r10 .ret))))))))))
abbrev law_DocTells_E : Env := { N := 85, Γ := [(85, 1), (86, 1)], L := 87, nfix := 0 }
abbrev law_DocTells_R : List RSrc := [.tmp 4]
theorem mk_law_DocTells {base : Nat} {av : List AV} {r : RV} (hfo : formOk law_DocTells_E base av) (hW : AVs.fits av → hwp Tryd.prog law_DocTells (finQ law_DocTells_E base av law_DocTells_R r) (F0 law_DocTells_E base av)) (hov : ∀ x, r.res = .ov x → nOwn av = 0 := by intro x h; cases h <;> rfl) : Contract Tryd.prog fn_law_DocTells av r :=
  contract_of_wp (fn := Tryd.f3) (c := Tryd.f3.body.getD .skip) (by kernel_rfl) (by kernel_rfl) (by kernel_rfl) (by kernel_rfl) (by kernel_rfl) (by kernel_rfl) (by kernel_rfl) hfo hW hov
abbrev law_DocInserts_r0 : HCode := .reg [⟨none, .val 4 (.boxF (.t 0))⟩,
    ⟨none, .val 7 (.boxF (.t 3))⟩,
    ⟨none, .val 8 (.mv (.c (bv false)))⟩] false []
abbrev law_DocInserts_r1 : HCode := .reg [⟨none, .val 14 (.ldR (.t 4) 1 true)⟩,
    ⟨none, .val 15 (.mv (.t 1))⟩,
    ⟨none, .val 16 (.mv (.t 2))⟩,
    ⟨none, .val 17 (.ldR (.t 7) 1 true)⟩,
    ⟨none, .call (some 18) fn_doc_Insert [(.t 14, .v), (.t 15, .v), (.t 16, .v), (.t 17, .v)]⟩,
    ⟨none, .val 13 (.mv (.t 18))⟩,
    ⟨none, .val 19 (.ext 13 0)⟩,
    ⟨none, .val 20 (.ext 13 1)⟩,
    ⟨none, .alloc 9 0 40 [.nl 5]⟩,
    ⟨none, .sto (.t 9) 0 40 0 1 (.t 19)⟩,
    ⟨none, .val 10 (.mv (.t 20))⟩] false [.forget [13, 14, 15, 16, 17, 18, 19, 20]]
abbrev law_DocInserts_r2 : HCode := .reg [⟨none, .val 22 (.ldR (.t 4) 1 true)⟩,
    ⟨none, .val 23 (.mv (.t 1))⟩,
    ⟨none, .val 24 (.mv (.t 2))⟩,
    ⟨none, .val 25 (.ldR (.t 7) 1 true)⟩,
    ⟨none, .call (some 26) fn_ref_InsertDoc [(.t 22, .v), (.t 23, .v), (.t 24, .v), (.t 25, .v)]⟩,
    ⟨none, .val 21 (.mv (.t 26))⟩,
    ⟨none, .val 27 (.ext 21 0)⟩,
    ⟨none, .val 28 (.ext 21 1)⟩,
    ⟨none, .alloc 11 1 41 [.nl 5]⟩,
    ⟨none, .sto (.t 11) 1 41 0 1 (.t 27)⟩,
    ⟨none, .val 12 (.mv (.t 28))⟩] false [.forget [21, 22, 23, 24, 25, 26, 27, 28]]
abbrev law_DocInserts_r3 : HCode := .reg [⟨none, .call (some 29) fn_law_docBegun []⟩,
    ⟨none, .val 30 (.mv (.t 29))⟩,
    ⟨some (30, true), .val 31 (.mv (.t 10))⟩,
    ⟨some (30, true), .val 32 (.mv (.t 12))⟩,
    ⟨some (30, true), .val 33 (.ints .eql (.t 31) (.t 32))⟩,
    ⟨none, .val 34 (.pick (.t 30) (.t 33) (.c (bv false)))⟩,
    ⟨none, .val 35 (.mv (.t 34))⟩,
    ⟨some (35, true), .val 36 (.ldB (.t 9) 0 40 0 1 true)⟩,
    ⟨some (35, true), .val 37 (.ldB (.t 11) 1 41 0 1 true)⟩,
    ⟨some (35, true), .call (some 38) fn_ref_SameDocs [(.t 36, .v), (.t 37, .v)]⟩,
    ⟨none, .val 39 (.pick (.t 35) (.t 38) (.c (bv false)))⟩,
    ⟨none, .val 8 (.mv (.t 39))⟩] false [.forget [29, 30, 31, 32, 33, 34, 35, 36, 37, 38, 39]]
abbrev law_DocInserts : HCode := (.seq law_DocInserts_r0 (.seq law_DocInserts_r1 (.seq law_DocInserts_r2 (.seq law_DocInserts_r3 .ret))))
abbrev law_DocInserts_E : Env := { N := 40, Γ := [(40, 1), (41, 1)], L := 42, nfix := 0 }
abbrev law_DocInserts_R : List RSrc := [.tmp 8]
theorem mk_law_DocInserts {base : Nat} {av : List AV} {r : RV} (hfo : formOk law_DocInserts_E base av) (hW : AVs.fits av → hwp Tryd.prog law_DocInserts (finQ law_DocInserts_E base av law_DocInserts_R r) (F0 law_DocInserts_E base av)) (hov : ∀ x, r.res = .ov x → nOwn av = 0 := by intro x h; cases h <;> rfl) : Contract Tryd.prog fn_law_DocInserts av r :=
  contract_of_wp (fn := Tryd.f4) (c := Tryd.f4.body.getD .skip) (by kernel_rfl) (by kernel_rfl) (by kernel_rfl) (by kernel_rfl) (by kernel_rfl) (by kernel_rfl) (by kernel_rfl) hfo hW hov
end Go.Hx
end

section
/-
  The abstract code of functions of the program, printed by gen.py; each stands for the given one. No condition.
-/
namespace Go.Hx
open Go.Proofs
variable [Glob]
abbrev ref_foreignV_r0 : HCode := .reg [⟨none, .vbx 1 0 24 6 0⟩,
    ⟨none, .alloc 2 1 30 [.v (.int .i64 0), .v (mkS []), .v (mkS []), .nl 1, .nl 2, .nl 6]⟩] false []
abbrev ref_foreignV_r1 : HCode := .reg [⟨none, .val 4 (.fldP (.t 1) 0)⟩,
    ⟨none, .val 5 (.fldP (.t 4) 0)⟩,
    ⟨none, .sto (.t 5) 0 24 0 1 (.c (iv (-2)))⟩] false [.forget [4, 5]]
abbrev ref_foreignV_r2 : HCode := .reg [⟨none, .val 3 (.mv (.c (iv 0)))⟩] false [.pin 29 0 24 []]
abbrev ref_foreignV_r3 : HCode := .reg [⟨none, .val 6 (.mv (.t 3))⟩,
    ⟨none, .val 7 (.fldP (.t 1) 5)⟩,
    ⟨none, .val 8 (.ldh (.t 7) 0 24 5)⟩,
    ⟨none, .val 9 (.len false (.t 8))⟩,
    ⟨none, .val 10 (.ints .lss (.t 6) (.t 9))⟩] false [.forget [6, 7, 8, 9]]
abbrev ref_foreignV_r4 : HCode := .drg [⟨0, false, ⟨none, .val 13 (.fldP (.t 1) 5)⟩⟩,
    ⟨1, false, ⟨none, .val 14 (.ldh (.t 13) 0 24 5)⟩⟩,
    ⟨2, false, ⟨none, .val 15 (.mv (.t 3))⟩⟩,
    ⟨3, false, ⟨none, .val 16 (.fldP (.t 1) 5)⟩⟩,
    ⟨4, false, ⟨none, .val 17 (.ldh (.t 16) 0 24 5)⟩⟩,
    ⟨5, false, ⟨none, .val 18 (.mv (.t 3))⟩⟩,
    ⟨6, false, ⟨none, .val 19 (.idxA 6 (.t 17) (.t 18))⟩⟩,
    ⟨7, false, ⟨none, .vle 20 (.t 19) 29 0 24 [] 6 true⟩⟩,
    ⟨8, true, ⟨none, .callo 21 fn_ref_foreign 20⟩⟩,
    ⟨9, false, ⟨none, .val 22 (.idxA 6 (.t 14) (.t 15))⟩⟩,
    ⟨10, false, ⟨none, .vse (.t 22) 29 0 24 [] 6 (.t 21)⟩⟩] [.forget [13, 14, 15, 16, 17, 18, 19, 20, 21, 22]]
abbrev ref_foreignV_r5 : HCode := .reg [⟨none, .val 11 (.mv (.t 3))⟩,
    ⟨none, .val 12 (.ints .add (.t 11) (.c (iv 1)))⟩,
    ⟨none, .val 3 (.mv (.t 12))⟩] false [.forget [11, 12]]
abbrev ref_foreignV_r6 : HCode := .regG [.unp 29 0 24 []] [⟨none, .vld 23 (.t 1) 0 24 0 6 true⟩,
    ⟨none, .vst (.t 2) 1 30 0 6 23⟩] [.forget [23]]
abbrev ref_foreignV : HCode := (.seq ref_foreignV_r0 (.seq ref_foreignV_r1 (.seq (.seq ref_foreignV_r2 (.block 0 (.loop (.seq (.seq ref_foreignV_r3 (.cond (.t 10) .skip (.exit 0))) (.seq (.block 1 ref_foreignV_r4) ref_foreignV_r5))))) (.seq ref_foreignV_r6 .ret))))
abbrev ref_foreignV_E : Env := { N := 24, Γ := [(24, 6), (30, 6)], L := 36, nfix := 0 }
abbrev ref_foreignV_R : List RSrc := [.cellB 2 1 30 0 6 true]
theorem mk_ref_foreignV {x x' : OVal} (hW : hwp Tryd.prog ref_foreignV (finQ ref_foreignV_E 0 [] ref_foreignV_R { res := .ov x' }) (F0v ref_foreignV_E x)) : OContract Tryd.prog fn_ref_foreign x x' :=
  ocontract_of_wp (fn := Tryd.f73) (c := Tryd.f73.body.getD .skip) (by kernel_rfl) (by kernel_rfl) (by kernel_rfl) (by kernel_rfl) (by kernel_rfl) (by kernel_rfl) (by kernel_rfl) (by kernel_rfl) (Nat.le_of_ble_eq_true rfl) hW
abbrev ref_treeOfV_r0 : HCode := .reg [⟨none, .val 2 (.boxF (.t 0))⟩,
    ⟨none, .alloc 4 0 36 [.v (.int .i64 0), .v (mkS []), .v (mkS []), .nl 1, .nl 2, .nl 6]⟩] false []
abbrev ref_treeOfV_r1 : HCode := .reg [⟨none, .val 8 (.fldR (.t 2) 0 1)⟩,
    ⟨none, .val 9 (.ldR (.t 8) 1 false)⟩,
    ⟨none, .val 10 (.mv (.t 1))⟩,
    ⟨none, .val 11 (.idxA 5 (.t 9) (.t 10))⟩,
    ⟨none, .val 12 (.ldR (.t 11) 5 true)⟩,
    ⟨none, .call (some 13) fn_ref_OwnNode [(.t 12, .v)]⟩,
    ⟨none, .val 14 (.bld [.v (.int .i64 0), .v (mkS []), .v (mkS []), .nl 1, .nl 2, .nl 6] [(0, 5, .t 13)])⟩,
    ⟨none, .alloc 5 1 42 [.v (.int .i64 0), .v (mkS []), .v (mkS []), .nl 1, .nl 2, .nl 6]⟩,
    ⟨none, .sto (.t 5) 1 42 0 6 (.t 14)⟩] false [.forget [8, 9, 10, 11, 12, 13, 14]]
abbrev ref_treeOfV_r2 : HCode := .reg [⟨none, .val 15 (.ldR (.t 2) 1 true)⟩,
    ⟨none, .val 16 (.mv (.t 1))⟩,
    ⟨none, .call (some 17) fn_ref_KidsOf [(.t 15, .v), (.t 16, .v)]⟩,
    ⟨none, .val 6 (.mv (.t 17))⟩] false [.forget [15, 16, 17]]
abbrev ref_treeOfV_r3 : HCode := .reg [⟨none, .val 7 (.mv (.c (iv 0)))⟩] false []
abbrev ref_treeOfV_r4 : HCode := .reg [⟨none, .val 18 (.mv (.t 7))⟩,
    ⟨none, .val 19 (.mv (.t 6))⟩,
    ⟨none, .val 20 (.len false (.t 19))⟩,
    ⟨none, .val 21 (.ints .lss (.t 18) (.t 20))⟩] false [.forget [18, 19, 20]]
abbrev ref_treeOfV_r5 : HCode := .drg [⟨0, false, ⟨none, .val 24 (.fldP (.t 5) 5)⟩⟩,
    ⟨1, false, ⟨none, .vld 25 (.t 24) 1 42 5 1 false⟩⟩,
    ⟨2, false, ⟨none, .val 26 (.ldR (.t 2) 1 true)⟩⟩,
    ⟨3, false, ⟨none, .val 27 (.mv (.t 6))⟩⟩,
    ⟨4, false, ⟨none, .val 28 (.mv (.t 7))⟩⟩,
    ⟨5, false, ⟨none, .val 29 (.idxA 1 (.t 27) (.t 28))⟩⟩,
    ⟨6, false, ⟨none, .val 30 (.ldR (.t 29) 1 false)⟩⟩,
    ⟨7, true, ⟨none, .call (some 31) fn_ref_treeOf [(.t 26, .v), (.t 30, .v)]⟩⟩,
    ⟨8, false, ⟨none, .vbs 32 ty_pathfinderyref_tree 6 31⟩⟩,
    ⟨9, false, ⟨none, .vap 33 ty_pathfinderyref_tree 6 25 (.t 32)⟩⟩,
    ⟨10, false, ⟨none, .val 34 (.fldP (.t 5) 5)⟩⟩,
    ⟨11, false, ⟨none, .vst (.t 34) 1 42 5 1 33⟩⟩] [.forget [24, 25, 26, 27, 28, 29, 30, 31, 32, 33, 34]]
abbrev ref_treeOfV_r6 : HCode := .reg [⟨none, .val 22 (.mv (.t 7))⟩,
    ⟨none, .val 23 (.ints .add (.t 22) (.c (iv 1)))⟩,
    ⟨none, .val 7 (.mv (.t 23))⟩] false [.forget [22, 23]]
abbrev ref_treeOfV_r7 : HCode := .reg [⟨none, .vld 35 (.t 5) 1 42 0 6 true⟩,
    ⟨none, .vst (.t 4) 0 36 0 6 35⟩] false [.forget [35]]
abbrev ref_treeOfV : HCode := (.seq ref_treeOfV_r0 (.seq ref_treeOfV_r1 (.seq ref_treeOfV_r2 (.seq (.seq ref_treeOfV_r3 (.block 0 (.loop (.seq (.seq ref_treeOfV_r4 (.cond (.t 21) .skip (.exit 0))) (.seq (.block 1 ref_treeOfV_r5) ref_treeOfV_r6))))) (.seq ref_treeOfV_r7 .ret)))))
abbrev ref_treeOfV_E : Env := { N := 36, Γ := [(36, 6), (42, 6)], L := 48, nfix := 0 }
abbrev ref_treeOfV_R : List RSrc := [.cellB 4 0 36 0 6 true]
theorem mk_ref_treeOfV {base : Nat} {av : List AV} {r : RV} (hfo : formOk ref_treeOfV_E base av) (hW : AVs.fits av → hwp Tryd.prog ref_treeOfV (finQ ref_treeOfV_E base av ref_treeOfV_R r) (F0 ref_treeOfV_E base av)) (hov : ∀ x, r.res = .ov x → nOwn av = 0 := by intro x h; cases h <;> rfl) : Contract Tryd.prog fn_ref_treeOf av r :=
  contract_of_wp (fn := Tryd.f62) (c := Tryd.f62.body.getD .skip) (by kernel_rfl) (by kernel_rfl) (by kernel_rfl) (by kernel_rfl) (by kernel_rfl) (by kernel_rfl) (by kernel_rfl) hfo hW hov
abbrev ref_InsertDocV_r0 : HCode := .reg [⟨none, .val 4 (.boxF (.t 0))⟩,
    ⟨none, .val 7 (.boxF (.t 3))⟩,
    ⟨none, .alloc 8 0 62 [.nl 5]⟩,
    ⟨none, .val 9 (.mv (.c (iv 0)))⟩] false []
abbrev ref_InsertDocV_r1 : HCode := .reg [⟨none, .val 12 (.ldR (.t 4) 1 true)⟩,
    ⟨none, .call (some 13) fn_ref_CheckDoc [(.t 12, .v)]⟩,
    ⟨none, .val 10 (.mv (.t 13))⟩] false [.forget [12, 13]]
abbrev ref_InsertDocV_r2 : HCode := .reg [⟨none, .val 14 (.mv (.t 10))⟩,
    ⟨none, .val 15 (.ints .neq (.t 14) (.c (iv 0)))⟩] false [.forget [14]]
abbrev ref_InsertDocV_r3 : HCode := .reg [⟨none, .val 16 (.bld [.nl 5] [])⟩,
    ⟨none, .val 17 (.mv (.t 10))⟩,
    ⟨none, .sto (.t 8) 0 62 0 1 (.t 16)⟩,
    ⟨none, .val 9 (.mv (.t 17))⟩] false [.forget [16, 17]]
abbrev ref_InsertDocV_r4 : HCode := .reg [⟨none, .val 18 (.ldR (.t 7) 1 true)⟩,
    ⟨none, .call (some 19) fn_ref_CheckDoc [(.t 18, .v)]⟩,
    ⟨none, .val 11 (.mv (.t 19))⟩] false [.forget [18, 19]]
abbrev ref_InsertDocV_r5 : HCode := .reg [⟨none, .val 20 (.mv (.t 11))⟩,
    ⟨none, .val 21 (.ints .neq (.t 20) (.c (iv 0)))⟩] false [.forget [20]]
abbrev ref_InsertDocV_r6 : HCode := .reg [⟨none, .val 22 (.bld [.nl 5] [])⟩,
    ⟨none, .val 23 (.mv (.t 11))⟩,
    ⟨none, .sto (.t 8) 0 62 0 1 (.t 22)⟩,
    ⟨none, .val 9 (.mv (.t 23))⟩] false [.forget [22, 23]]
abbrev ref_InsertDocV_r7 : HCode := .reg [⟨none, .val 25 (.mv (.t 1))⟩,
    ⟨none, .val 26 (.fldR (.t 4) 0 1)⟩,
    ⟨none, .val 27 (.ldR (.t 26) 1 false)⟩,
    ⟨none, .val 28 (.len false (.t 27))⟩,
    ⟨none, .val 29 (.ints .sub (.t 28) (.c (iv 1)))⟩,
    ⟨none, .call (some 30) fn_ref_within [(.t 25, .v), (.c (iv 0), .v), (.t 29, .v)]⟩,
    ⟨none, .val 31 (.not (.t 30))⟩,
    ⟨none, .val 24 (.mv (.t 31))⟩] false [.forget [25, 26, 27, 28, 29, 30, 31]]
abbrev ref_InsertDocV_r8 : HCode := .reg [⟨none, .val 32 (.bld [.nl 5] [])⟩,
    ⟨none, .sto (.t 8) 0 62 0 1 (.t 32)⟩,
    ⟨none, .val 9 (.mv (.c (iv 5)))⟩] false [.forget [32]]
abbrev ref_InsertDocV_r9 : HCode := .reg [⟨none, .val 34 (.mv (.t 2))⟩,
    ⟨none, .val 35 (.ldR (.t 4) 1 true)⟩,
    ⟨none, .val 36 (.mv (.t 1))⟩,
    ⟨none, .call (some 37) fn_ref_KidsOf [(.t 35, .v), (.t 36, .v)]⟩,
    ⟨none, .val 38 (.len false (.t 37))⟩,
    ⟨none, .call (some 39) fn_ref_within [(.t 34, .v), (.c (iv 0), .v), (.t 38, .v)]⟩,
    ⟨none, .val 40 (.not (.t 39))⟩,
    ⟨none, .val 33 (.mv (.t 40))⟩] false [.forget [34, 35, 36, 37, 38, 39, 40]]
abbrev ref_InsertDocV_r10 : HCode := .reg [⟨none, .val 41 (.bld [.nl 5] [])⟩,
    ⟨none, .sto (.t 8) 0 62 0 1 (.t 41)⟩,
    ⟨none, .val 9 (.mv (.c (iv 3)))⟩] false [.forget [41]]
abbrev ref_InsertDocV_r11 : HCode := .reg [⟨none, .val 43 (.fldR (.t 4) 0 1)⟩,
    ⟨none, .val 44 (.ldR (.t 43) 1 false)⟩,
    ⟨none, .val 45 (.len false (.t 44))⟩,
    ⟨none, .val 46 (.fldR (.t 7) 0 1)⟩,
    ⟨none, .val 47 (.ldR (.t 46) 1 false)⟩,
    ⟨none, .val 48 (.len false (.t 47))⟩,
    ⟨none, .val 49 (.ints .add (.t 45) (.t 48))⟩,
    ⟨none, .val 50 (.ints .gtr (.t 49) (.c (iv 64)))⟩,
    ⟨none, .val 42 (.mv (.t 50))⟩] false [.forget [43, 44, 45, 46, 47, 48, 49, 50]]
abbrev ref_InsertDocV_r12 : HCode := .reg [⟨none, .val 51 (.bld [.nl 5] [])⟩,
    ⟨none, .sto (.t 8) 0 62 0 1 (.t 51)⟩,
    ⟨none, .val 9 (.mv (.c (iv 2)))⟩] false [.forget [51]]
abbrev ref_InsertDocV_r13 : HCode := .drg [⟨0, false, ⟨none, .val 52 (.ldR (.t 4) 1 true)⟩⟩,
    ⟨1, false, ⟨none, .call (some 53) fn_ref_marked [(.t 52, .v), (.c (iv 0), .v)]⟩⟩,
    ⟨2, false, ⟨none, .val 54 (.mv (.t 1))⟩⟩,
    ⟨3, false, ⟨none, .val 55 (.mv (.t 2))⟩⟩,
    ⟨4, false, ⟨none, .val 56 (.ldR (.t 7) 1 true)⟩⟩,
    ⟨5, true, ⟨none, .call (some 57) fn_ref_treeOf [(.t 56, .v), (.c (iv 0), .v)]⟩⟩,
    ⟨6, true, ⟨none, .callp 58 fn_ref_foreign 57⟩⟩,
    ⟨7, true, ⟨none, .call (some 59) fn_ref_with [(.t 53, .v), (.t 54, .v), (.t 55, .v), (.t 58, .v)]⟩⟩,
    ⟨8, true, ⟨none, .call (some 60) fn_ref_lay [(.c (.one (.nl 0)), .n ty_api_Node 5), (.t 59, .v), (.c (iv (-1)), .v)]⟩⟩,
    ⟨9, false, ⟨none, .val 61 (.bld [.nl 5] [(0, 1, .t 60)])⟩⟩,
    ⟨10, false, ⟨none, .sto (.t 8) 0 62 0 1 (.t 61)⟩⟩,
    ⟨11, false, ⟨none, .val 9 (.mv (.c (iv 0)))⟩⟩] [.forget [52, 53, 54, 55, 56, 57, 58, 59, 60, 61]]
abbrev ref_InsertDocV : HCode := (.seq ref_InsertDocV_r0 (.seq (.seq ref_InsertDocV_r1 (.seq ref_InsertDocV_r2 (.cond (.t 15) (.seq ref_InsertDocV_r3 .ret) .skip))) (.seq (.seq ref_InsertDocV_r4 (.seq ref_InsertDocV_r5 (.cond (.t 21) (.seq ref_InsertDocV_r6 .ret) .skip))) (.seq (.block 0 (.seq ref_InsertDocV_r7 (.cond (.t 24) (.seq ref_InsertDocV_r8 .ret) (.seq ref_InsertDocV_r9 (.cond (.t 33) (.seq ref_InsertDocV_r10 .ret) (.seq ref_InsertDocV_r11 (.cond (.t 42) (.seq ref_InsertDocV_r12 .ret) .skip))))))) (.seq ref_InsertDocV_r13 .ret)))))
abbrev ref_InsertDocV_E : Env := { N := 62, Γ := [(62, 1)], L := 63, nfix := 0 }
abbrev ref_InsertDocV_R : List RSrc := [.cellB 8 0 62 0 1 true, .tmp 9]
theorem mk_ref_InsertDocV {base : Nat} {av : List AV} {r : RV} (hfo : formOk ref_InsertDocV_E base av) (hW : AVs.fits av → hwp Tryd.prog ref_InsertDocV (finQ ref_InsertDocV_E base av ref_InsertDocV_R r) (F0 ref_InsertDocV_E base av)) (hov : ∀ x, r.res = .ov x → nOwn av = 0 := by intro x h; cases h <;> rfl) : Contract Tryd.prog fn_ref_InsertDoc av r :=
  contract_of_wp (fn := Tryd.f25) (c := Tryd.f25.body.getD .skip) (by kernel_rfl) (by kernel_rfl) (by kernel_rfl) (by kernel_rfl) (by kernel_rfl) (by kernel_rfl) (by kernel_rfl) hfo hW hov
end Go.Hx
end
