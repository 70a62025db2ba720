/-
  Walks of functions of the program: each contract says what the function computes, for every input that its conditions let by. No other condition.
-/
import Derived.Test.YtjnagiaooecklaaDoorP9
set_option linter.all false
set_option maxRecDepth 100000
set_option linter.unusedSimpArgs false
namespace Go.Hx
open Go.Proofs

def popTo (u : Int) (c : List Int) : List Int := c.dropWhile fun x => decide (x ≠ u)
theorem popTo_mem {u : Int} : ∀ c : List Int, (popTo u c = []) ↔ u ∉ c
  | [] => by simp [popTo]
  | x :: c => by
    simp only [popTo, List.dropWhile_cons]
    by_cases h : x = u
    · simp [h]
    · have := popTo_mem (u := u) c
      simp only [popTo] at this
      simp only [ne_eq, decide_not] at this
      simp [h, this, Ne.symm h]
theorem popTo_chain {d : List Nd} {u : Int} : ∀ (f : Nat) (k : Int), (∀ j : Nat, (j : Int) ≤ k → upOf d j < j) → k < f → u ∈ chain d f k → ∀ g : Nat, u < g → popTo u (chain d f k) = chain d g u
  | 0, k, _, _, hu => by simp [chain] at hu
  | f + 1, k, h, hf, hu => by
    intro g hg
    have hb := chain_bound (f + 1) k h _ hu
    simp only [chain] at hu ⊢
    split at hu
    · cases hu
    · rename_i hk
      rw [if_neg hk]
      simp only [popTo, List.dropWhile_cons]
      by_cases e : k = u
      · subst e
        simp only [ne_eq, not_true_eq_false, decide_false, Bool.false_eq_true, if_false]
        have : k :: chain d f (upOf d k.toNat) = chain d (f + 1) k := by simp [chain, hk]
        rw [this]
        exact chain_fuel _ _ _ h hf hg
      · simp only [ne_eq, e, not_false_eq_true, decide_true, if_true]
        have h1 := h k.toNat (by omega)
        exact popTo_chain f (upOf d k.toNat) (fun j hj => h j (by omega)) (by omega) ((List.mem_cons.1 hu).resolve_left (Ne.symm e)) g hg
theorem intsR_app (a b : List Int) : intsR (a ++ b) = intsR a ++ intsR b := by simp [intsR]
theorem intsR_last (c : List Int) (x : Int) : (intsR ((x :: c).reverse)).getD c.length [] = [bI x] := by
  simp [intsR]
theorem intsR_take (c : List Int) (x : Int) : (intsR ((x :: c).reverse)).take c.length = intsR c.reverse := by
  simp [intsR]
theorem intsR_nil : intsR [] = [] := rfl

theorem okUp_road {d : List Nd} {i : Nat} : okUp d i = ((decide (i ≠ 0) || decide (upOf d i = -1)) && (decide (i = 0) || !decide (popTo (upOf d i) (chain d i ((i : Int) - 1)) = []))) := by
  unfold okUp
  by_cases h : i = 0
  · simp [h]
  · have := popTo_mem (u := upOf d i) (chain d i ((i : Int) - 1))
    simp only [h, if_false, ne_eq, not_false_eq_true, decide_true, Bool.true_or, Bool.true_and, decide_false, Bool.false_or, this]
    simp

theorem chain_len {d : List Nd} : ∀ (f : Nat) (k : Int), (chain d f k).length ≤ f
  | 0, _ => by simp [chain]
  | f + 1, k => by
    simp only [chain]
    split
    · simp
    · have := chain_len (d := d) f (upOf d k.toNat)
      simp; omega
theorem toNat_s (n : Nat) : ((((n + 1 : Nat) : Int)) - 1).toNat = n := by omega
theorem fail_at {d : List Nd} {i : Nat} (hl : 1 ≤ d.length ∧ d.length ≤ 64) (hi : i < d.length) (h : okAt d i = false) : checkDoc d = 1 := by
  have : docOk d d.length = false := by
    cases hd : docOk d d.length with
    | false => rfl
    | true => rw [range_all_get hd hi] at h; cases h
  simp [checkDoc, hl, this]

theorem c_doc_Check (d : List Nd) : Contract Tryd.prog fn_doc_Check [.val (docV d)] { res := .val (iv (checkDoc d)) } := by
  unfold docV
  refine mk_doc_Check (base := 0) ⟨Nat.le_of_ble_eq_true rfl, Nat.le_of_ble_eq_true rfl, Nat.le_of_ble_eq_true rfl, rfl⟩ (fun hfit => ?_)
  unfold F0 doc_Check_E
  simp (config := { maxSteps := 2000000 }) only [markU, List.set_cons_succ, List.set_cons_zero, List.map_cons, List.map_nil, argCt, setCells, ioOf, List.length_cons, List.length_nil, Nat.reduceAdd, Nat.reduceSub, List.replicate, List.cons_append, List.nil_append]
  try simp (config := { maxSteps := 2000000 }) only [go_sem, reduceCtorEq, Nat.reduceAdd, Nat.reduceEqDiff, reduceIte, Nat.reduceLeDiff, Nat.reduceLT, Nat.reduceSub, ndsV_len, clsV_len, attV_len, intsR_len, ndV, cellsEq]
  all_goals (repeat (with_reducible refine And.intro (by (first | omega | exact inR_small (by omega) (by omega) | exact fun _ => inR_small (by omega) (by omega) | assumption | trivial | (intros; omega) | (simp_all; done) | (intros; simp [*]; done) | (simp_all; omega) | grind)) ?_))
  refine cond_of (by rfl) trivial (fun h => ?_) (fun h => ?_)
  · try simp (config := { maxSteps := 2000000 }) only [go_sem, reduceCtorEq, Nat.reduceAdd, Nat.reduceEqDiff, reduceIte, Nat.reduceLeDiff, Nat.reduceLT, Nat.reduceSub, ndsV_len, clsV_len, attV_len, intsR_len, ndV, cellsEq]
    all_goals (repeat (with_reducible refine And.intro (by (first | omega | exact inR_small (by omega) (by omega) | exact fun _ => inR_small (by omega) (by omega) | assumption | trivial | (intros; omega) | (simp_all; done) | (intros; simp [*]; done) | (simp_all; omega) | grind)) ?_))
    refine fin_val rfl trivial (.inl ?_)
    congr 3
    have hl : ¬ (1 ≤ d.length ∧ d.length ≤ 64) := by
      simp at h; omega
    simp [checkDoc, hl]
  have hl : 1 ≤ d.length ∧ d.length ≤ 64 := by
    simp at h; omega
  try simp (config := { maxSteps := 2000000 }) only [go_sem, reduceCtorEq, Nat.reduceAdd, Nat.reduceEqDiff, reduceIte, Nat.reduceLeDiff, Nat.reduceLT, Nat.reduceSub, ndsV_len, clsV_len, attV_len, intsR_len, ndV, cellsEq]
  all_goals (repeat (with_reducible refine And.intro (by (first | omega | exact inR_small (by omega) (by omega) | exact fun _ => inR_small (by omega) (by omega) | assumption | trivial | (intros; omega) | (simp_all; done) | (intros; simp [*]; done) | (simp_all; omega) | grind)) ?_))
  refine loop_sets (fun i : Nat => [(3, .stk ty_int 1 (intsR (chain d i ((i : Int) - 1)).reverse)), (4, .un), (5, .un), (19, .pv (iv i)), (20, .un), (37, .un), (63, .un), (69, .un), (70, .un), (71, .un), (72, .un), (73, .un)]) (fun i : Nat => d.length - i) (fun i : Nat => i ≤ d.length ∧ docOk d i = true) (0) ?_ ⟨Nat.zero_le _, rfl⟩ ?_
  focus (simp (config := { maxSteps := 2000000 }) only [go_sem, reduceCtorEq, Nat.reduceAdd, Nat.reduceEqDiff, reduceIte, Nat.reduceLeDiff, Nat.reduceLT, Nat.reduceSub, ndsV_len, clsV_len, attV_len, intsR_len, ndV, cellsEq, le_cons, le_nil, le_un, le_same]; all_goals (repeat' (first | exact trivial | exact le_int (by omega) | exact le_bool rfl | exact le_eq rfl | exact le_nlo | exact le_refl _ | refine And.intro ?_ ?_)))
  intro i ⟨hi, hok⟩
  try simp (config := { maxSteps := 2000000 }) only [go_sem, reduceCtorEq, Nat.reduceAdd, Nat.reduceEqDiff, reduceIte, Nat.reduceLeDiff, Nat.reduceLT, Nat.reduceSub, ndsV_len, clsV_len, attV_len, intsR_len, ndV, cellsEq]
  all_goals (repeat (with_reducible refine And.intro (by (first | omega | exact inR_small (by omega) (by omega) | exact fun _ => inR_small (by omega) (by omega) | assumption | trivial | (intros; omega) | (simp_all; done) | (intros; simp [*]; done) | (simp_all; omega) | grind)) ?_))
  refine cond_of (by rfl) trivial (fun h2 => ?_) (fun h2 => ?_)
  · have hlt : i < d.length := by simpa using h2
    try simp (config := { maxSteps := 2000000 }) only [go_sem, reduceCtorEq, Nat.reduceAdd, Nat.reduceEqDiff, reduceIte, Nat.reduceLeDiff, Nat.reduceLT, Nat.reduceSub, ndsV_len, clsV_len, attV_len, intsR_len, ndV, cellsEq, ndsV_get _ _ hlt]
    all_goals (repeat (with_reducible refine And.intro (by (first | omega | exact inR_small (by omega) (by omega) | exact fun _ => inR_small (by omega) (by omega) | assumption | trivial | (intros; omega) | (simp_all; done) | (intros; simp [*]; done) | (simp_all; omega) | grind)) ?_))
    have hcl := chain_len (d := d) i ((i : Int) - 1)
    have hx : upOf d i = (d.getD i default).up := rfl
    refine loop_sets (fun c : List Int => [(3, .stk ty_int 1 (intsR c.reverse)), (37, .un)]) (fun c : List Int => c.length) (fun c : List Int => c.length ≤ i ∧ popTo (upOf d i) c = popTo (upOf d i) (chain d i ((i : Int) - 1))) ((chain d i ((i : Int) - 1))) ?_ ⟨hcl, rfl⟩ ?_
    focus (simp (config := { maxSteps := 2000000 }) only [go_sem, reduceCtorEq, Nat.reduceAdd, Nat.reduceEqDiff, reduceIte, Nat.reduceLeDiff, Nat.reduceLT, Nat.reduceSub, ndsV_len, clsV_len, attV_len, intsR_len, ndV, cellsEq, le_cons, le_nil, le_un, le_same]; all_goals (repeat' (first | exact trivial | exact le_int (by omega) | exact le_bool rfl | exact le_eq rfl | exact le_nlo | exact le_refl _ | refine And.intro ?_ ?_)))
    intro c ⟨hcl, hc⟩
    cases c with
    | nil =>
      have hpop : popTo (upOf d i) (chain d i ((i : Int) - 1)) = [] := by rw [← hc]; rfl
      have hup := okUp_road (d := d) (i := i)
      rw [hpop] at hup
      try simp (config := { maxSteps := 2000000 }) only [go_sem, reduceCtorEq, Nat.reduceAdd, Nat.reduceEqDiff, reduceIte, Nat.reduceLeDiff, Nat.reduceLT, Nat.reduceSub, ndsV_len, clsV_len, attV_len, intsR_len, ndV, cellsEq, List.reverse_nil, intsR_nil, List.getD_nil, List.headD_nil]
      all_goals (repeat (with_reducible refine And.intro (by (first | omega | exact inR_small (by omega) (by omega) | exact fun _ => inR_small (by omega) (by omega) | assumption | trivial | (intros; omega) | (simp_all; done) | (intros; simp [*]; done) | (simp_all; omega) | grind)) ?_))
      refine cond_of (by rfl) trivial (fun h3 => ?_) (fun h3 => ?_)
      · simp at h3
      try simp (config := { maxSteps := 2000000 }) only [go_sem, reduceCtorEq, Nat.reduceAdd, Nat.reduceEqDiff, reduceIte, Nat.reduceLeDiff, Nat.reduceLT, Nat.reduceSub, ndsV_len, clsV_len, attV_len, intsR_len, ndV, cellsEq]
      all_goals (repeat (with_reducible refine And.intro (by (first | omega | exact inR_small (by omega) (by omega) | exact fun _ => inR_small (by omega) (by omega) | assumption | trivial | (intros; omega) | (simp_all; done) | (intros; simp [*]; done) | (simp_all; omega) | grind)) ?_))
      refine dcall_val (by repeat' constructor) (c_doc_Fine (d.getD i default)) ?_
      try simp (config := { maxSteps := 2000000 }) only [go_sem, reduceCtorEq, Nat.reduceAdd, Nat.reduceEqDiff, reduceIte, Nat.reduceLeDiff, Nat.reduceLT, Nat.reduceSub, ndsV_len, clsV_len, attV_len, intsR_len, ndV, cellsEq]
      all_goals (repeat (with_reducible refine And.intro (by (first | omega | exact inR_small (by omega) (by omega) | exact fun _ => inR_small (by omega) (by omega) | assumption | trivial | (intros; omega) | (simp_all; done) | (intros; simp [*]; done) | (simp_all; omega) | grind)) ?_))
      refine cond_of (by rfl) trivial (fun h4 => ?_) (fun h4 => ?_)
      · try simp (config := { maxSteps := 2000000 }) only [go_sem, reduceCtorEq, Nat.reduceAdd, Nat.reduceEqDiff, reduceIte, Nat.reduceLeDiff, Nat.reduceLT, Nat.reduceSub, ndsV_len, clsV_len, attV_len, intsR_len, ndV, cellsEq]
        all_goals (repeat (with_reducible refine And.intro (by (first | omega | exact inR_small (by omega) (by omega) | exact fun _ => inR_small (by omega) (by omega) | assumption | trivial | (intros; omega) | (simp_all; done) | (intros; simp [*]; done) | (simp_all; omega) | grind)) ?_))
        refine fin_val rfl trivial (.inl ?_)
        congr 3
        refine fail_at hl hlt ?_
        rw [okAt, hup]
        grind
      · try simp (config := { maxSteps := 2000000 }) only [go_sem, reduceCtorEq, Nat.reduceAdd, Nat.reduceEqDiff, reduceIte, Nat.reduceLeDiff, Nat.reduceLT, Nat.reduceSub, ndsV_len, clsV_len, attV_len, intsR_len, ndV, cellsEq]
        all_goals (repeat (with_reducible refine And.intro (by (first | omega | exact inR_small (by omega) (by omega) | exact fun _ => inR_small (by omega) (by omega) | assumption | trivial | (intros; omega) | (simp_all; done) | (intros; simp [*]; done) | (simp_all; omega) | grind)) ?_))
        have h5 : i = 0 := by grind
        have h6 : okAt d i = true := by
          rw [okAt, hup]
          grind
        refine ⟨i + 1, by omega, ⟨by omega, by rw [docOk_succ, hok, h6]; rfl⟩, ?_⟩
        simp (config := { maxSteps := 2000000 }) only [go_sem, reduceCtorEq, Nat.reduceAdd, Nat.reduceEqDiff, reduceIte, Nat.reduceLeDiff, Nat.reduceLT, Nat.reduceSub, ndsV_len, clsV_len, attV_len, intsR_len, ndV, cellsEq, le_cons, le_nil, le_un, le_same]
        all_goals (repeat' (first | exact trivial | exact le_int (by omega) | exact le_bool rfl | exact le_eq rfl | exact le_nlo | exact le_refl _ | refine And.intro ?_ ?_))
        refine le_eq ?_
        subst h5
        have : upOf d 0 = -1 := by grind
        simp [chain, this, intsR]
    | cons x c =>
      have hlen : c.length + 1 ≤ 64 := by simp at hcl; omega
      try simp (config := { maxSteps := 2000000 }) only [go_sem, reduceCtorEq, Nat.reduceAdd, Nat.reduceEqDiff, reduceIte, Nat.reduceLeDiff, Nat.reduceLT, Nat.reduceSub, ndsV_len, clsV_len, attV_len, intsR_len, ndV, cellsEq, List.length_reverse, toNat_s, intsR_last, intsR_take]
      all_goals (repeat (with_reducible refine And.intro (by (first | omega | exact inR_small (by omega) (by omega) | exact fun _ => inR_small (by omega) (by omega) | assumption | trivial | (intros; omega) | (simp_all; done) | (intros; simp [*]; done) | (simp_all; omega) | grind)) ?_))
      refine cond_of (by rfl) trivial (fun h3 => ?_) (fun h3 => ?_)
      · try simp (config := { maxSteps := 2000000 }) only [go_sem, reduceCtorEq, Nat.reduceAdd, Nat.reduceEqDiff, reduceIte, Nat.reduceLeDiff, Nat.reduceLT, Nat.reduceSub, ndsV_len, clsV_len, attV_len, intsR_len, ndV, cellsEq, List.length_reverse, toNat_s, intsR_last, intsR_take]
        all_goals (repeat (with_reducible refine And.intro (by (first | omega | exact inR_small (by omega) (by omega) | exact fun _ => inR_small (by omega) (by omega) | assumption | trivial | (intros; omega) | (simp_all; done) | (intros; simp [*]; done) | (simp_all; omega) | grind)) ?_))
        refine ⟨c, by omega, ⟨by simp at hcl; omega, ?_⟩, ?_⟩
        · rw [← hc]
          simp only [popTo, List.dropWhile_cons]
          grind
        · simp (config := { maxSteps := 2000000 }) only [go_sem, reduceCtorEq, Nat.reduceAdd, Nat.reduceEqDiff, reduceIte, Nat.reduceLeDiff, Nat.reduceLT, Nat.reduceSub, ndsV_len, clsV_len, attV_len, intsR_len, ndV, cellsEq, le_cons, le_nil, le_un, le_same]
          all_goals (repeat' (first | exact trivial | exact le_int (by omega) | exact le_bool rfl | exact le_eq rfl | exact le_nlo | exact le_refl _ | refine And.intro ?_ ?_))
      have hxu : x = upOf d i := by grind
      have hpop : popTo (upOf d i) (chain d i ((i : Int) - 1)) = x :: c := by rw [← hc]; simp [popTo, hxu]
      have hup := okUp_road (d := d) (i := i)
      rw [hpop] at hup
      try simp (config := { maxSteps := 2000000 }) only [go_sem, reduceCtorEq, Nat.reduceAdd, Nat.reduceEqDiff, reduceIte, Nat.reduceLeDiff, Nat.reduceLT, Nat.reduceSub, ndsV_len, clsV_len, attV_len, intsR_len, ndV, cellsEq, List.length_reverse]
      all_goals (repeat (with_reducible refine And.intro (by (first | omega | exact inR_small (by omega) (by omega) | exact fun _ => inR_small (by omega) (by omega) | assumption | trivial | (intros; omega) | (simp_all; done) | (intros; simp [*]; done) | (simp_all; omega) | grind)) ?_))
      refine dcall_val (by repeat' constructor) (c_doc_Fine (d.getD i default)) ?_
      try simp (config := { maxSteps := 2000000 }) only [go_sem, reduceCtorEq, Nat.reduceAdd, Nat.reduceEqDiff, reduceIte, Nat.reduceLeDiff, Nat.reduceLT, Nat.reduceSub, ndsV_len, clsV_len, attV_len, intsR_len, ndV, cellsEq]
      all_goals (repeat (with_reducible refine And.intro (by (first | omega | exact inR_small (by omega) (by omega) | exact fun _ => inR_small (by omega) (by omega) | assumption | trivial | (intros; omega) | (simp_all; done) | (intros; simp [*]; done) | (simp_all; omega) | grind)) ?_))
      refine cond_of (by rfl) trivial (fun h4 => ?_) (fun h4 => ?_)
      · try simp (config := { maxSteps := 2000000 }) only [go_sem, reduceCtorEq, Nat.reduceAdd, Nat.reduceEqDiff, reduceIte, Nat.reduceLeDiff, Nat.reduceLT, Nat.reduceSub, ndsV_len, clsV_len, attV_len, intsR_len, ndV, cellsEq]
        all_goals (repeat (with_reducible refine And.intro (by (first | omega | exact inR_small (by omega) (by omega) | exact fun _ => inR_small (by omega) (by omega) | assumption | trivial | (intros; omega) | (simp_all; done) | (intros; simp [*]; done) | (simp_all; omega) | grind)) ?_))
        refine fin_val rfl trivial (.inl ?_)
        congr 3
        refine fail_at hl hlt ?_
        rw [okAt, hup]
        grind
      · try simp (config := { maxSteps := 2000000 }) only [go_sem, reduceCtorEq, Nat.reduceAdd, Nat.reduceEqDiff, reduceIte, Nat.reduceLeDiff, Nat.reduceLT, Nat.reduceSub, ndsV_len, clsV_len, attV_len, intsR_len, ndV, cellsEq]
        all_goals (repeat (with_reducible refine And.intro (by (first | omega | exact inR_small (by omega) (by omega) | exact fun _ => inR_small (by omega) (by omega) | assumption | trivial | (intros; omega) | (simp_all; done) | (intros; simp [*]; done) | (simp_all; omega) | grind)) ?_))
        have hmem : upOf d i ∈ chain d i ((i : Int) - 1) := by
          have := popTo_mem (u := upOf d i) (chain d i ((i : Int) - 1))
          rw [hpop] at this
          simpa using this
        have h5 : i ≠ 0 := by intro h0; subst h0; simp [chain] at hmem
        have h6 : okAt d i = true := by
          rw [okAt, hup]
          grind
        refine ⟨i + 1, by omega, ⟨by omega, by rw [docOk_succ, hok, h6]; rfl⟩, ?_⟩
        simp (config := { maxSteps := 2000000 }) only [go_sem, reduceCtorEq, Nat.reduceAdd, Nat.reduceEqDiff, reduceIte, Nat.reduceLeDiff, Nat.reduceLT, Nat.reduceSub, ndsV_len, clsV_len, attV_len, intsR_len, ndV, cellsEq, le_cons, le_nil, le_un, le_same]
        all_goals (repeat' (first | exact trivial | exact le_int (by omega) | exact le_bool rfl | exact le_eq rfl | exact le_nlo | exact le_refl _ | refine And.intro ?_ ?_))
        refine le_eq ?_
        have hups : ∀ j : Nat, (j : Int) ≤ (i : Int) - 1 → upOf d j < j := fun j hj => (docOk_up hok j (by omega)).2
        have hb := chain_bound i ((i : Int) - 1) hups _ hmem
        have hch := popTo_chain i ((i : Int) - 1) hups (by omega) hmem i (by omega)
        rw [hpop] at hch
        have : chain d (i + 1) (((i + 1 : Nat) : Int) - 1) = (i : Int) :: x :: c := by
          rw [show (((i + 1 : Nat) : Int) - 1) = (i : Int) by omega]
          simp only [chain]
          rw [if_neg (by omega), hch]
          simp
        rw [this]
        simp [intsR]
  · try simp (config := { maxSteps := 2000000 }) only [go_sem, reduceCtorEq, Nat.reduceAdd, Nat.reduceEqDiff, reduceIte, Nat.reduceLeDiff, Nat.reduceLT, Nat.reduceSub, ndsV_len, clsV_len, attV_len, intsR_len, ndV, cellsEq]
    all_goals (repeat (with_reducible refine And.intro (by (first | omega | exact inR_small (by omega) (by omega) | exact fun _ => inR_small (by omega) (by omega) | assumption | trivial | (intros; omega) | (simp_all; done) | (intros; simp [*]; done) | (simp_all; omega) | grind)) ?_))
    refine fin_val rfl trivial (.inl ?_)
    congr 3
    have hi2 : i = d.length := by simp at h2; omega
    subst hi2
    simp [checkDoc, hl, hok]
end Go.Hx
