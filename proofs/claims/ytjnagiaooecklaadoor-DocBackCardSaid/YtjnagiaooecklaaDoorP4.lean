/-
  Walks of functions of the program: each contract says what the function computes, for every input that its conditions let by. No other condition.
-/
import Derived.Test.YtjnagiaooecklaaDoorP3
set_option linter.all false
set_option maxRecDepth 100000
set_option linter.unusedSimpArgs false
namespace Go.Hx
open Go.Proofs

theorem docOk_succ {d : List Nd} {i : Nat} : docOk d (i + 1) = (docOk d i && okAt d i) := range_all_succ
theorem c_ref_CheckDoc (d : List Nd) : Contract Tryd.prog fn_ref_CheckDoc [.val (docV d)] { res := .val (iv (checkDoc d)) } := by
  unfold docV
  refine mk_ref_CheckDoc (base := 0) ⟨Nat.le_of_ble_eq_true rfl, Nat.le_of_ble_eq_true rfl, Nat.le_of_ble_eq_true rfl, rfl⟩ (fun hfit => ?_)
  unfold F0 ref_CheckDoc_E
  simp (config := { maxSteps := 2000000 }) only [markU, List.set_cons_succ, List.set_cons_zero, List.map_cons, List.map_nil, argCt, setCells, ioOf, List.length_cons, List.length_nil, Nat.reduceAdd, Nat.reduceSub, List.replicate, List.cons_append, List.nil_append]
  try simp (config := { maxSteps := 2000000 }) only [go_sem, reduceCtorEq, Nat.reduceAdd, Nat.reduceEqDiff, reduceIte, Nat.reduceLeDiff, Nat.reduceLT, Nat.reduceSub, ndsV_len, clsV_len, attV_len, intsR_len, ndV, cellsEq]
  all_goals (repeat (with_reducible refine And.intro (by (first | omega | exact inR_small (by omega) (by omega) | exact fun _ => inR_small (by omega) (by omega) | assumption | trivial | (intros; omega) | (simp_all; done) | (intros; simp [*]; done) | (simp_all; omega) | grind)) ?_))
  try simp (config := { maxSteps := 2000000 }) only [go_sem, reduceCtorEq, Nat.reduceAdd, Nat.reduceEqDiff, reduceIte, Nat.reduceLeDiff, Nat.reduceLT, Nat.reduceSub, ndsV_len, clsV_len, attV_len, intsR_len, ndV, cellsEq, ndsV_len]
  all_goals (repeat (with_reducible refine And.intro (by (first | omega | exact inR_small (by omega) (by omega) | exact fun _ => inR_small (by omega) (by omega) | assumption | trivial | (intros; omega) | (simp_all; done) | (intros; simp [*]; done) | (simp_all; omega) | grind)) ?_))
  refine call_val (by repeat' constructor) (c_ref_within _ _ _) ?_
  try simp (config := { maxSteps := 2000000 }) only [go_sem, reduceCtorEq, Nat.reduceAdd, Nat.reduceEqDiff, reduceIte, Nat.reduceLeDiff, Nat.reduceLT, Nat.reduceSub, ndsV_len, clsV_len, attV_len, intsR_len, ndV, cellsEq]
  all_goals (repeat (with_reducible refine And.intro (by (first | omega | exact inR_small (by omega) (by omega) | exact fun _ => inR_small (by omega) (by omega) | assumption | trivial | (intros; omega) | (simp_all; done) | (intros; simp [*]; done) | (simp_all; omega) | grind)) ?_))
  refine cond_of (by rfl) trivial (fun h => ?_) (fun h => ?_)
  · try simp (config := { maxSteps := 2000000 }) only [go_sem, reduceCtorEq, Nat.reduceAdd, Nat.reduceEqDiff, reduceIte, Nat.reduceLeDiff, Nat.reduceLT, Nat.reduceSub, ndsV_len, clsV_len, attV_len, intsR_len, ndV, cellsEq]
    all_goals (repeat (with_reducible refine And.intro (by (first | omega | exact inR_small (by omega) (by omega) | exact fun _ => inR_small (by omega) (by omega) | assumption | trivial | (intros; omega) | (simp_all; done) | (intros; simp [*]; done) | (simp_all; omega) | grind)) ?_))
    refine fin_val rfl trivial (.inl ?_)
    congr 3
    have h2 : ¬ (1 ≤ d.length ∧ d.length ≤ 64) := by simp at h; omega
    simp [checkDoc, h2]
  have hr : 1 ≤ d.length ∧ d.length ≤ 64 := by simp at h; omega
  obtain ⟨hr1, hr2⟩ := hr
  try simp (config := { maxSteps := 2000000 }) only [go_sem, reduceCtorEq, Nat.reduceAdd, Nat.reduceEqDiff, reduceIte, Nat.reduceLeDiff, Nat.reduceLT, Nat.reduceSub, ndsV_len, clsV_len, attV_len, intsR_len, ndV, cellsEq]
  all_goals (repeat (with_reducible refine And.intro (by (first | omega | exact inR_small (by omega) (by omega) | exact fun _ => inR_small (by omega) (by omega) | assumption | trivial | (intros; omega) | (simp_all; done) | (intros; simp [*]; done) | (simp_all; omega) | grind)) ?_))
  refine loop_sets (fun i : Nat => [(3, .pv (iv i)), (4, .un), (5, .un), (15, .un), (37, .un), (47, .un), (63, .un)]) (fun i : Nat => d.length - i) (fun i : Nat => i ≤ d.length ∧ docOk d i = true) (0) ?_ ⟨Nat.zero_le _, rfl⟩ ?_
  focus (simp (config := { maxSteps := 2000000 }) only [go_sem, reduceCtorEq, Nat.reduceAdd, Nat.reduceEqDiff, reduceIte, Nat.reduceLeDiff, Nat.reduceLT, Nat.reduceSub, ndsV_len, clsV_len, attV_len, intsR_len, ndV, cellsEq, le_cons, le_nil, le_un, le_same]; all_goals (repeat' (first | exact trivial | exact le_int (by omega) | exact le_bool rfl | exact le_eq rfl | exact le_nlo | exact le_refl _ | refine And.intro ?_ ?_)))
  intro i ⟨hi, hok⟩
  try simp (config := { maxSteps := 2000000 }) only [go_sem, reduceCtorEq, Nat.reduceAdd, Nat.reduceEqDiff, reduceIte, Nat.reduceLeDiff, Nat.reduceLT, Nat.reduceSub, ndsV_len, clsV_len, attV_len, intsR_len, ndV, cellsEq, ndsV_len]
  all_goals (repeat (with_reducible refine And.intro (by (first | omega | exact inR_small (by omega) (by omega) | exact fun _ => inR_small (by omega) (by omega) | assumption | trivial | (intros; omega) | (simp_all; done) | (intros; simp [*]; done) | (simp_all; omega) | grind)) ?_))
  refine cond_of (by rfl) trivial (fun h2 => ?_) (fun h2 => ?_)
  · have hlt : i < d.length := by simpa using h2
    try simp (config := { maxSteps := 2000000 }) only [go_sem, reduceCtorEq, Nat.reduceAdd, Nat.reduceEqDiff, reduceIte, Nat.reduceLeDiff, Nat.reduceLT, Nat.reduceSub, ndsV_len, clsV_len, attV_len, intsR_len, ndV, cellsEq, ndsV_len, ndsV_get _ _ hlt]
    all_goals (repeat (with_reducible refine And.intro (by (first | omega | exact inR_small (by omega) (by omega) | exact fun _ => inR_small (by omega) (by omega) | assumption | trivial | (intros; omega) | (simp_all; done) | (intros; simp [*]; done) | (simp_all; omega) | grind)) ?_))
    refine call_val (by repeat' constructor) (c_ref_NodeFine _) ?_
    try simp (config := { maxSteps := 2000000 }) only [go_sem, reduceCtorEq, Nat.reduceAdd, Nat.reduceEqDiff, reduceIte, Nat.reduceLeDiff, Nat.reduceLT, Nat.reduceSub, ndsV_len, clsV_len, attV_len, intsR_len, ndV, cellsEq, ndsV_len, ndsV_get _ _ hlt, ndV]
    all_goals (repeat (with_reducible refine And.intro (by (first | omega | exact inR_small (by omega) (by omega) | exact fun _ => inR_small (by omega) (by omega) | assumption | trivial | (intros; omega) | (simp_all; done) | (intros; simp [*]; done) | (simp_all; omega) | grind)) ?_))
    refine cond_of (by rfl) trivial (fun h3 => ?_) (fun h3 => ?_)
    · try simp (config := { maxSteps := 2000000 }) only [go_sem, reduceCtorEq, Nat.reduceAdd, Nat.reduceEqDiff, reduceIte, Nat.reduceLeDiff, Nat.reduceLT, Nat.reduceSub, ndsV_len, clsV_len, attV_len, intsR_len, ndV, cellsEq]
      all_goals (repeat (with_reducible refine And.intro (by (first | omega | exact inR_small (by omega) (by omega) | exact fun _ => inR_small (by omega) (by omega) | assumption | trivial | (intros; omega) | (simp_all; done) | (intros; simp [*]; done) | (simp_all; omega) | grind)) ?_))
      refine fin_val rfl trivial (.inl ?_)
      congr 3
      have : docOk d d.length = false := by
        cases hn : docOk d d.length with
        | false => rfl
        | true =>
          exfalso
          have h4 := range_all_get hn hlt
          simp only [okAt, okUp, upOf, Bool.and_eq_true] at h4
          rw [h4.1] at h3
          by_cases h5 : i = 0
          · subst h5; simp at h3 h4; omega
          · simp at h3; omega
      simp [checkDoc, hr1, hr2, this]
    have hn : nodeFine (d.getD i default) = true := by
      cases hn : nodeFine (d.getD i default) with
      | true => rfl
      | false => rw [hn] at h3; simp at h3
    rw [hn] at h3
    have h4 : i = 0 → upOf d i = -1 := by
      intro h5; subst h5; simpa [upOf] using h3
    have hup := docOk_up hok
    try simp (config := { maxSteps := 2000000 }) only [go_sem, reduceCtorEq, Nat.reduceAdd, Nat.reduceEqDiff, reduceIte, Nat.reduceLeDiff, Nat.reduceLT, Nat.reduceSub, ndsV_len, clsV_len, attV_len, intsR_len, ndV, cellsEq]
    all_goals (repeat (with_reducible refine And.intro (by (first | omega | exact inR_small (by omega) (by omega) | exact fun _ => inR_small (by omega) (by omega) | assumption | trivial | (intros; omega) | (simp_all; done) | (intros; simp [*]; done) | (simp_all; omega) | grind)) ?_))
    refine loop_sets (fun x : Int × Bool => [(4, .pv (bv x.2)), (5, .pv (iv x.1)), (47, .un)]) (fun x : Int × Bool => (x.1 + 1).toNat) (fun x : Int × Bool => -1 ≤ x.1 ∧ x.1 < i ∧ (x.2 = true → okUp d i = true) ∧ (x.2 = false → okUp d i = (chain d (x.1 + 1).toNat x.1).contains (upOf d i))) (((i : Int) - 1, (i : Int) == 0)) ?_ ⟨by show -1 ≤ (i : Int) - 1; omega, by show (i : Int) - 1 < i; omega, fun h => by simp at h; subst h; simp [okUp, h4], fun h => by simp at h; simp [okUp, h]⟩ ?_
    focus (simp (config := { maxSteps := 2000000 }) only [go_sem, reduceCtorEq, Nat.reduceAdd, Nat.reduceEqDiff, reduceIte, Nat.reduceLeDiff, Nat.reduceLT, Nat.reduceSub, ndsV_len, clsV_len, attV_len, intsR_len, ndV, cellsEq, le_cons, le_nil, le_un, le_same]; all_goals (repeat' (first | exact trivial | exact le_int (by omega) | exact le_bool rfl | exact le_eq rfl | exact le_nlo | exact le_refl _ | refine And.intro ?_ ?_)))
    intro ⟨k, fine⟩ ⟨hk1, hk2, hk3, hk4⟩
    simp only at hk1 hk2 hk3 hk4
    try simp (config := { maxSteps := 2000000 }) only [go_sem, reduceCtorEq, Nat.reduceAdd, Nat.reduceEqDiff, reduceIte, Nat.reduceLeDiff, Nat.reduceLT, Nat.reduceSub, ndsV_len, clsV_len, attV_len, intsR_len, ndV, cellsEq]
    all_goals (repeat (with_reducible refine And.intro (by (first | omega | exact inR_small (by omega) (by omega) | exact fun _ => inR_small (by omega) (by omega) | assumption | trivial | (intros; omega) | (simp_all; done) | (intros; simp [*]; done) | (simp_all; omega) | grind)) ?_))
    refine cond_of (by rfl) trivial (fun h5 => ?_) (fun h5 => ?_)
    · have hk5 : 0 ≤ k ∧ fine = false := by simp at h5; exact h5
      obtain ⟨hk5, rfl⟩ := hk5
      have hkn : k.toNat < d.length := by omega
      try simp (config := { maxSteps := 2000000 }) only [go_sem, reduceCtorEq, Nat.reduceAdd, Nat.reduceEqDiff, reduceIte, Nat.reduceLeDiff, Nat.reduceLT, Nat.reduceSub, ndsV_len, clsV_len, attV_len, intsR_len, ndV, cellsEq, ndsV_get _ _ hlt, ndsV_get _ _ hkn]
      all_goals (repeat (with_reducible refine And.intro (by (first | omega | exact inR_small (by omega) (by omega) | exact fun _ => inR_small (by omega) (by omega) | assumption | trivial | (intros; omega) | (simp_all; done) | (intros; simp [*]; done) | (simp_all; omega) | grind)) ?_))
      have h6 := hup k.toNat (by omega)
      refine ⟨(upOf d k.toNat, k == upOf d i), ?_, ⟨h6.1, ?_, ?_, ?_⟩, ?_⟩
      · simp only; omega
      · simp only; omega
      · simp only
        intro h7
        have h8 : k = upOf d i := by simpa using h7
        rw [hk4 rfl, show (k + 1).toNat = k.toNat + 1 by omega, chain, if_neg (by omega), h8]
        simp
      · simp only
        intro h7
        have h8 : ¬ k = upOf d i := by simpa using h7
        rw [hk4 rfl, show (k + 1).toNat = k.toNat + 1 by omega, chain, if_neg (by omega), List.contains_cons]
        rw [chain_fuel k.toNat (upOf d k.toNat + 1).toNat _ (fun j hj => (hup j (by omega)).2) (by omega) (by omega)]
        simp [Ne.symm h8]
      · simp (config := { maxSteps := 2000000 }) only [go_sem, reduceCtorEq, Nat.reduceAdd, Nat.reduceEqDiff, reduceIte, Nat.reduceLeDiff, Nat.reduceLT, Nat.reduceSub, ndsV_len, clsV_len, attV_len, intsR_len, ndV, cellsEq, le_cons, le_nil, le_un, le_same]
        all_goals (repeat' (first | exact trivial | exact le_int (by omega) | exact le_bool rfl | exact le_eq rfl | exact le_nlo | exact le_refl _ | refine And.intro ?_ ?_))
    · try simp (config := { maxSteps := 2000000 }) only [go_sem, reduceCtorEq, Nat.reduceAdd, Nat.reduceEqDiff, reduceIte, Nat.reduceLeDiff, Nat.reduceLT, Nat.reduceSub, ndsV_len, clsV_len, attV_len, intsR_len, ndV, cellsEq]
      all_goals (repeat (with_reducible refine And.intro (by (first | omega | exact inR_small (by omega) (by omega) | exact fun _ => inR_small (by omega) (by omega) | assumption | trivial | (intros; omega) | (simp_all; done) | (intros; simp [*]; done) | (simp_all; omega) | grind)) ?_))
      refine cond_of (by rfl) trivial (fun h6 => ?_) (fun h6 => ?_)
      · try simp (config := { maxSteps := 2000000 }) only [go_sem, reduceCtorEq, Nat.reduceAdd, Nat.reduceEqDiff, reduceIte, Nat.reduceLeDiff, Nat.reduceLT, Nat.reduceSub, ndsV_len, clsV_len, attV_len, intsR_len, ndV, cellsEq]
        all_goals (repeat (with_reducible refine And.intro (by (first | omega | exact inR_small (by omega) (by omega) | exact fun _ => inR_small (by omega) (by omega) | assumption | trivial | (intros; omega) | (simp_all; done) | (intros; simp [*]; done) | (simp_all; omega) | grind)) ?_))
        refine fin_val rfl trivial (.inl ?_)
        congr 3
        have hf : fine = false := by simpa using h6
        subst hf
        have hk : k = -1 := by simp at h5; omega
        subst hk
        have : docOk d d.length = false := by
          cases hn : docOk d d.length with
          | false => rfl
          | true =>
            exfalso
            have h7 := range_all_get hn hlt
            simp only [okAt, Bool.and_eq_true] at h7
            rw [hk4 rfl] at h7
            simp [chain] at h7
        simp [checkDoc, hr1, hr2, this]
      · have hf : fine = true := by simpa using h6
        subst hf
        try simp (config := { maxSteps := 2000000 }) only [go_sem, reduceCtorEq, Nat.reduceAdd, Nat.reduceEqDiff, reduceIte, Nat.reduceLeDiff, Nat.reduceLT, Nat.reduceSub, ndsV_len, clsV_len, attV_len, intsR_len, ndV, cellsEq]
        all_goals (repeat (with_reducible refine And.intro (by (first | omega | exact inR_small (by omega) (by omega) | exact fun _ => inR_small (by omega) (by omega) | assumption | trivial | (intros; omega) | (simp_all; done) | (intros; simp [*]; done) | (simp_all; omega) | grind)) ?_))
        refine ⟨i + 1, by omega, ⟨hlt, ?_⟩, ?_⟩
        · rw [docOk_succ, hok, okAt, hn, hk3 rfl]; rfl
        · simp (config := { maxSteps := 2000000 }) only [go_sem, reduceCtorEq, Nat.reduceAdd, Nat.reduceEqDiff, reduceIte, Nat.reduceLeDiff, Nat.reduceLT, Nat.reduceSub, ndsV_len, clsV_len, attV_len, intsR_len, ndV, cellsEq, le_cons, le_nil, le_un, le_same]
          all_goals (repeat' (first | exact trivial | exact le_int (by omega) | exact le_bool rfl | exact le_eq rfl | exact le_nlo | exact le_refl _ | refine And.intro ?_ ?_))
  · try simp (config := { maxSteps := 2000000 }) only [go_sem, reduceCtorEq, Nat.reduceAdd, Nat.reduceEqDiff, reduceIte, Nat.reduceLeDiff, Nat.reduceLT, Nat.reduceSub, ndsV_len, clsV_len, attV_len, intsR_len, ndV, cellsEq]
    all_goals (repeat (with_reducible refine And.intro (by (first | omega | exact inR_small (by omega) (by omega) | exact fun _ => inR_small (by omega) (by omega) | assumption | trivial | (intros; omega) | (simp_all; done) | (intros; simp [*]; done) | (simp_all; omega) | grind)) ?_))
    refine fin_val rfl trivial (.inl ?_)
    congr 3
    have : i = d.length := by simp at h2; omega
    subst this
    simp [checkDoc, hr1, hr2, hok]
