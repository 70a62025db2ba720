/-
  Walks of functions of the program over an abstract layer, and the laws that they use: each contract says what the function computes, for every input that its conditions let by. No other condition.
-/
import Derived.Test.YtjnagiaooecklaaDoorG21
import Derived.Test.YtjnagiaooecklaaDoorG22
import Derived.Test.YtjnagiaooecklaaDoorG20
import Derived.Test.YtjnagiaooecklaaDoorG17
set_option linter.all false
section
-- DOM getO
set_option maxRecDepth 100000
set_option linter.unusedSimpArgs false
namespace Go.Hx
open Go.Proofs Go.RowKit
variable [Glob]

attribute [local go_sem] ndsV_len clsV_len attV_len intsR_len ndV cellsEq getO
/-! ### A document is shown -/

/-- The stack as it stands ahead of element i: what is above it and has been opened. -/
def lkK (d : List Nd) (i : Nat) : List Int := if 0 < i ∧ i < d.length ∧ upOf d i = (i : Int) - 1 then ((i : Int) - 1) :: sK d i else sK d i
theorem popTo_self (u : Int) (l : List Int) : popTo u (u :: l) = u :: l := by simp [popTo]
theorem lk_pop {d : List Nd} {i : Nat} (h : i < d.length) : popTo (upOf d i) (lkK d i) = sK d (i + 1) := by
  unfold lkK
  simp only [sK]
  by_cases h0 : i = 0
  · subst h0; simp [sK, popTo]
  · rw [if_neg h0]
    by_cases hu : upOf d i = (i : Int) - 1
    · rw [if_pos ⟨by omega, h, hu⟩, if_pos hu, hu, popTo_self]
    · rw [if_neg (fun c => hu c.2.2), if_neg hu]
theorem sK_len (d : List Nd) : ∀ i, (sK d i).length ≤ i
  | 0 => by simp [sK]
  | i + 1 => by
    have := sK_len d i
    simp only [sK]
    split
    · simp
    · split
      · simp only [List.length_cons]; omega
      · have : (popTo (upOf d i) (sK d i)).length ≤ (sK d i).length := (List.dropWhile_sublist _).length_le
        omega
theorem lkK_len (d : List Nd) (i : Nat) : (lkK d i).length ≤ i + 1 := by
  have := sK_len d i
  unfold lkK
  split
  · simp only [List.length_cons]; omega
  · omega
theorem lk_sep {d : List Nd} {i : Nat} (h : i < d.length) : sT d i ++ List.replicate ((lkK d i).length - (sK d (i + 1)).length) 41 ++ (if i = 0 then [] else if upOf d i = (i : Int) - 1 then [40] else [32]) = sT d i ++ sepT d i := by
  rw [← lk_pop h]
  unfold lkK sepT
  by_cases h0 : i = 0
  · subst h0; simp [sK, popTo]
  · rw [if_neg h0, if_neg h0]
    by_cases hu : upOf d i = (i : Int) - 1
    · rw [if_pos ⟨by omega, h, hu⟩, if_pos hu, if_pos hu, hu, popTo_self]
      simp
    · rw [if_neg (fun c => hu c.2.2), if_neg hu, if_neg hu]
      simp
theorem sT_mono (d : List Nd) : ∀ (j i : Nat), i ≤ j → (sT d i).length ≤ (sT d j).length
  | 0, i, h => by have : i = 0 := by omega
                  subst this; exact Nat.le_refl _
  | j + 1, i, h => by
    by_cases e : i = j + 1
    · subst e; exact Nat.le_refl _
    · have := sT_mono d j i (by omega)
      simp only [sT, List.length_append]
      omega
theorem sT_len {d : List Nd} (h : checkDoc d = 0) (i : Nat) (hi : i ≤ d.length) : (sT d i).length ≤ 15200 := by
  have a := sT_mono d d.length i hi
  have b := docText_len h
  rw [← (text_facts h).2.2, showT, List.length_append] at b
  omega
theorem showT_ne {d : List Nd} (h : checkDoc d = 0) : showT d ≠ [] := by
  intro e
  have := (text_facts h).2.2
  have h1 := (text_facts h).1
  rw [← this, e] at h1
  cases h1
theorem popTo_nil_or (u : Int) (c : List Int) (hc : c = [] ∨ ∃ l, c = u :: l) : popTo u c = c := by
  rcases hc with rfl | ⟨l, rfl⟩
  · rfl
  · exact popTo_self u l
set_option maxHeartbeats 8000000 in
theorem c_mark_Show (d : List Nd) : Contract Tryd.prog fn_mark_Show [.val (docV d)] { res := .tup [sv (if checkDoc d = 0 then docText d else []), iv (checkDoc d)] } := by
  by_cases hc : checkDoc d = 0
  · have ht := (text_facts hc).2.2
    have htn := showT_ne hc
    have hdl := docText_len hc
    obtain ⟨h1, h2, hd⟩ := checkDoc_ok hc
    have hm0 : maxLen = 9223372036854775807 := rfl
    rw [if_pos hc, hc]
    unfold docV
    refine mk_mark_Show (base := 0) ⟨Nat.le_of_ble_eq_true rfl, Nat.le_of_ble_eq_true rfl, Nat.le_of_ble_eq_true rfl, rfl⟩ (fun hfit => ?_)
    unfold F0 mark_Show_E
    simp (config := { maxSteps := 2000000 }) only [markU, List.set_cons_succ, List.set_cons_zero, List.map_cons, List.map_nil, argCt, setCells, ioOf, List.length_cons, List.length_nil, Nat.reduceAdd, Nat.reduceSub, List.replicate, List.cons_append, List.nil_append]
    try simp (config := { maxSteps := 2000000 }) only [go_sem, reduceCtorEq, Nat.reduceAdd, Nat.reduceEqDiff, reduceIte, Nat.reduceLeDiff, Nat.reduceLT, Nat.reduceSub]
    all_goals (repeat (with_reducible refine sAnd ?_))
    refine call_val (by repeat' constructor) (c_doc_Check d) ?_
    try simp (config := { maxSteps := 2000000 }) only [go_sem, reduceCtorEq, Nat.reduceAdd, Nat.reduceEqDiff, reduceIte, Nat.reduceLeDiff, Nat.reduceLT, Nat.reduceSub, hc]
    all_goals (repeat (with_reducible refine sAnd ?_))
    refine cond_of (by rfl) trivial (fun h => ?_) (fun h => ?_)
    · simp at h
    · try simp (config := { maxSteps := 2000000 }) only [go_sem, reduceCtorEq, Nat.reduceAdd, Nat.reduceEqDiff, reduceIte, Nat.reduceLeDiff, Nat.reduceLT, Nat.reduceSub]
      all_goals (repeat (with_reducible refine sAnd ?_))
      intro b
      try simp (config := { maxSteps := 2000000 }) only [go_sem, reduceCtorEq, Nat.reduceAdd, Nat.reduceEqDiff, reduceIte, Nat.reduceLeDiff, Nat.reduceLT, Nat.reduceSub, ndsV_len]
      all_goals (repeat (with_reducible refine sAnd ?_))
      refine loop_sets (fun i : Nat => [(5, .ov (.one (.bl ty_strings_Builder ty_uint8 b (sT d i)))), (6, .stk ty_int 1 (intsR (lkK d i).reverse)), (17, .pv (iv i)), (7, .un), (8, .un), (18, .un), (35, .un), (50, .un), (53, .un), (74, .un)]) (fun i : Nat => d.length - i) (fun i : Nat => i ≤ d.length) (0) ?_ (Nat.zero_le _) ?_
      focus (simp (config := { maxSteps := 2000000 }) only [go_sem, reduceCtorEq, Nat.reduceAdd, Nat.reduceEqDiff, reduceIte, Nat.reduceLeDiff, Nat.reduceLT, Nat.reduceSub, le_cons, le_nil, le_un, le_same]; all_goals (repeat' (first | exact trivial | exact le_int (by omega) | exact le_bool rfl | exact le_eq rfl | exact le_nlo | exact le_refl _ | refine And.intro ?_ ?_)))
      intro i hi
      have htl := sT_len hc i hi
      try simp (config := { maxSteps := 2000000 }) only [go_sem, reduceCtorEq, Nat.reduceAdd, Nat.reduceEqDiff, reduceIte, Nat.reduceLeDiff, Nat.reduceLT, Nat.reduceSub, ndsV_len]
      all_goals (repeat (with_reducible refine sAnd ?_))
      refine cond_of (by rfl) trivial (fun g1 => ?_) (fun g1 => ?_)
      · have hlt : i < d.length := by simpa using g1
        have hx := short_nd (docOk_node hd hlt)
        have hxl := node_len hx
        have hll := lkK_len d i
        try simp (config := { maxSteps := 2000000 }) only [go_sem, reduceCtorEq, Nat.reduceAdd, Nat.reduceEqDiff, reduceIte, Nat.reduceLeDiff, Nat.reduceLT, Nat.reduceSub, ndsV_get _ _ hlt]
        all_goals (repeat (with_reducible refine sAnd ?_))
        have hup : upOf d i = (d.getD i default).up := rfl
        refine loop_sets (fun c : List Int => [(5, .ov (.one (.bl ty_strings_Builder ty_uint8 b (sT d i ++ List.replicate ((lkK d i).length - c.length) 41)))), (6, .stk ty_int 1 (intsR c.reverse)), (35, .un)]) (fun c : List Int => c.length) (fun c : List Int => c.length ≤ (lkK d i).length ∧ popTo (upOf d i) c = popTo (upOf d i) (lkK d i)) (lkK d i) ?_ ⟨Nat.le_refl _, rfl⟩ ?_
        focus (simp (config := { maxSteps := 2000000 }) only [go_sem, reduceCtorEq, Nat.reduceAdd, Nat.reduceEqDiff, reduceIte, Nat.reduceLeDiff, Nat.reduceLT, Nat.reduceSub, le_cons, le_nil, le_un, le_same]; all_goals (repeat' (first | exact trivial | exact le_int (by omega) | exact le_bool rfl | exact le_eq rfl | exact le_nlo | exact le_refl _ | refine And.intro ?_ ?_)))
        · exact le_eq (by simp)
        intro c ⟨hcl, hcp⟩
        cases c with
        | nil =>
          try simp (config := { maxSteps := 2000000 }) only [go_sem, reduceCtorEq, Nat.reduceAdd, Nat.reduceEqDiff, reduceIte, Nat.reduceLeDiff, Nat.reduceLT, Nat.reduceSub, List.reverse_nil, intsR_nil, List.getD_nil, List.headD_nil]
          all_goals (repeat (with_reducible refine sAnd ?_))
          refine cond_of (by rfl) trivial (fun h3 => ?_) (fun h3 => ?_)
          · simp at h3
          · try simp (config := { maxSteps := 2000000 }) only [go_sem, reduceCtorEq, Nat.reduceAdd, Nat.reduceEqDiff, reduceIte, Nat.reduceLeDiff, Nat.reduceLT, Nat.reduceSub]
            all_goals (repeat (with_reducible refine sAnd ?_))
            have hk : ([] : List Int) = sK d (i + 1) := by rw [← lk_pop hlt, ← hcp]; exact (popTo_nil_or _ _ (.inl rfl)).symm
            have hcl2 : (([] : List Int)).length ≤ (lkK d i).length := hcl
            by_cases h0 : i = 0
            · have hz : decide ((0 : Int) < (i : Int)) = false := by rw [decide_eq_false_iff_not]; omega
              have h0x : (if i = 0 then ([] : Bys) else if upOf d i = (i : Int) - 1 then [40] else [32]) = [] := by rw [if_pos h0]
              try simp (config := { maxSteps := 2000000 }) only [go_sem, reduceCtorEq, Nat.reduceAdd, Nat.reduceEqDiff, reduceIte, Nat.reduceLeDiff, Nat.reduceLT, Nat.reduceSub, hz, List.length_reverse]
              all_goals (repeat (with_reducible refine sAnd ?_))
              refine cond_of (by rfl) trivial (fun g5 => ?_) (fun g5 => ?_)
              · simp at g5
              · try simp (config := { maxSteps := 2000000 }) only [go_sem, reduceCtorEq, Nat.reduceAdd, Nat.reduceEqDiff, reduceIte, Nat.reduceLeDiff, Nat.reduceLT, Nat.reduceSub, hz]
                all_goals (repeat (with_reducible refine sAnd ?_))
                refine cond_of (by rfl) trivial (fun g6 => ?_) (fun g6 => ?_)
                · simp at g6
                · try simp (config := { maxSteps := 2000000 }) only [go_sem, reduceCtorEq, Nat.reduceAdd, Nat.reduceEqDiff, reduceIte, Nat.reduceLeDiff, Nat.reduceLT, Nat.reduceSub]
                  all_goals (repeat (with_reducible refine sAnd ?_))
                  have hsep : sT d i ++ List.replicate ((lkK d i).length - (([] : List Int)).length) 41 = sT d i ++ sepT d i := by rw [← lk_sep hlt, ← hk]; simp [h0x]
                  have hTl : (sT d i ++ List.replicate ((lkK d i).length - (([] : List Int)).length) 41).length ≤ 15300 := by simp only [List.length_append, List.length_replicate, List.length_cons, List.length_nil]; omega
                  try simp (config := { maxSteps := 2000000 }) only [go_sem, reduceCtorEq, Nat.reduceAdd, Nat.reduceEqDiff, reduceIte, Nat.reduceLeDiff, Nat.reduceLT, Nat.reduceSub]
                  all_goals (repeat (with_reducible refine sAnd ?_))
                  refine call_val (by repeat' constructor) (c_mark_own _ hx) ?_
                  try simp (config := { maxSteps := 2000000 }) only [go_sem, reduceCtorEq, Nat.reduceAdd, Nat.reduceEqDiff, reduceIte, Nat.reduceLeDiff, Nat.reduceLT, Nat.reduceSub]
                  all_goals (repeat (with_reducible refine sAnd ?_))
                  refine callm_w (by rfl) (by decide) (by repeat' constructor) (m_WriteString b (sT d i ++ List.replicate ((lkK d i).length - (([] : List Int)).length) 41) (nodeT0 (d.getD i default)) (by omega)) ?_
                  try simp (config := { maxSteps := 2000000 }) only [go_sem, reduceCtorEq, Nat.reduceAdd, Nat.reduceEqDiff, reduceIte, Nat.reduceLeDiff, Nat.reduceLT, Nat.reduceSub]
                  all_goals (repeat (with_reducible refine sAnd ?_))
                  by_cases hn : i + 1 < d.length
                  · have hdn : decide (((i : Int) + 1) < (d.length : Int)) = true := by rw [decide_eq_true_eq]; omega
                    have e1 : ((i : Int) + 1).toNat = i + 1 := by omega
                    have hun : upOf d (i + 1) = (d.getD (i + 1) default).up := rfl
                    try simp (config := { maxSteps := 2000000 }) only [go_sem, reduceCtorEq, Nat.reduceAdd, Nat.reduceEqDiff, reduceIte, Nat.reduceLeDiff, Nat.reduceLT, Nat.reduceSub, ndsV_len, hdn, e1, ndsV_get _ _ hn]
                    all_goals (repeat (with_reducible refine sAnd ?_))
                    refine cond_of (by rfl) trivial (fun g7 => ?_) (fun g7 => ?_)
                    · have hu : upOf d (i + 1) = ((i + 1 : Nat) : Int) - 1 := by rw [hun]; have := eq_of_beq g7; omega
                      try simp (config := { maxSteps := 2000000 }) only [go_sem, reduceCtorEq, Nat.reduceAdd, Nat.reduceEqDiff, reduceIte, Nat.reduceLeDiff, Nat.reduceLT, Nat.reduceSub, ndsV_len]
                      all_goals (repeat (with_reducible refine sAnd ?_))
                      have hl : lkK d (i + 1) = (((i + 1 : Nat) : Int) - 1) :: ([] : List Int) := by unfold lkK; rw [if_pos ⟨by omega, hn, hu⟩, ← hk]
                      refine ⟨i + 1, by omega, hlt, ?_⟩
                      simp (config := { maxSteps := 2000000 }) only [go_sem, reduceCtorEq, Nat.reduceAdd, Nat.reduceEqDiff, reduceIte, Nat.reduceLeDiff, Nat.reduceLT, Nat.reduceSub, le_cons, le_nil, le_un, le_same]
                      all_goals (repeat' (first | exact trivial | exact le_int (by omega) | exact le_bool rfl | exact le_eq rfl | exact le_nlo | exact le_refl _ | refine And.intro ?_ ?_))
                      all_goals first | exact le_eq (by simp only [sT]; rw [← hsep] <;> rfl) | exact le_eq (by rw [hl] <;> simp [intsR]) | exact le_int (by omega) | exact le_same | rfl
                    · have hu : ¬ (0 < i + 1 ∧ i + 1 < d.length ∧ upOf d (i + 1) = ((i + 1 : Nat) : Int) - 1) := by rintro ⟨_, _, c⟩; rw [hun] at c; have := ne_of_beq_false g7; omega
                      try simp (config := { maxSteps := 2000000 }) only [go_sem, reduceCtorEq, Nat.reduceAdd, Nat.reduceEqDiff, reduceIte, Nat.reduceLeDiff, Nat.reduceLT, Nat.reduceSub, ndsV_len]
                      all_goals (repeat (with_reducible refine sAnd ?_))
                      have hl : lkK d (i + 1) = ([] : List Int) := by unfold lkK; rw [if_neg hu, ← hk]
                      refine ⟨i + 1, by omega, hlt, ?_⟩
                      simp (config := { maxSteps := 2000000 }) only [go_sem, reduceCtorEq, Nat.reduceAdd, Nat.reduceEqDiff, reduceIte, Nat.reduceLeDiff, Nat.reduceLT, Nat.reduceSub, le_cons, le_nil, le_un, le_same]
                      all_goals (repeat' (first | exact trivial | exact le_int (by omega) | exact le_bool rfl | exact le_eq rfl | exact le_nlo | exact le_refl _ | refine And.intro ?_ ?_))
                      all_goals first | exact le_eq (by simp only [sT]; rw [← hsep] <;> rfl) | exact le_eq (by rw [hl] <;> simp [intsR]) | exact le_int (by omega) | exact le_same | rfl
                  · have hdn : decide (((i : Int) + 1) < (d.length : Int)) = false := by rw [decide_eq_false_iff_not]; omega
                    have hu : ¬ (0 < i + 1 ∧ i + 1 < d.length ∧ upOf d (i + 1) = ((i + 1 : Nat) : Int) - 1) := fun c => hn c.2.1
                    have e1 : ((i : Int) + 1).toNat = i + 1 := by omega
                    have e2 : (ndsV d).getD (i + 1) [] = [] := by
                      rw [List.getD_eq_getElem?_getD, List.getElem?_eq_none (by rw [ndsV_len]; omega)]; rfl
                    try simp (config := { maxSteps := 2000000 }) only [go_sem, reduceCtorEq, Nat.reduceAdd, Nat.reduceEqDiff, reduceIte, Nat.reduceLeDiff, Nat.reduceLT, Nat.reduceSub, ndsV_len, hdn, e1, e2, List.getD_nil, List.take_nil, List.drop_nil, List.headD_nil]
                    all_goals (repeat (with_reducible refine sAnd ?_))
                    refine cond_of (by rfl) trivial (fun g7 => ?_) (fun g7 => ?_)
                    · simp at g7
                    · try simp (config := { maxSteps := 2000000 }) only [go_sem, reduceCtorEq, Nat.reduceAdd, Nat.reduceEqDiff, reduceIte, Nat.reduceLeDiff, Nat.reduceLT, Nat.reduceSub]
                      all_goals (repeat (with_reducible refine sAnd ?_))
                      have hl : lkK d (i + 1) = ([] : List Int) := by unfold lkK; rw [if_neg hu, ← hk]
                      refine ⟨i + 1, by omega, hlt, ?_⟩
                      simp (config := { maxSteps := 2000000 }) only [go_sem, reduceCtorEq, Nat.reduceAdd, Nat.reduceEqDiff, reduceIte, Nat.reduceLeDiff, Nat.reduceLT, Nat.reduceSub, le_cons, le_nil, le_un, le_same]
                      all_goals (repeat' (first | exact trivial | exact le_int (by omega) | exact le_bool rfl | exact le_eq rfl | exact le_nlo | exact le_refl _ | refine And.intro ?_ ?_))
                      all_goals first | exact le_eq (by simp only [sT]; rw [← hsep] <;> rfl) | exact le_eq (by rw [hl] <;> simp [intsR]) | exact le_int (by omega) | exact le_same | rfl
            · have hz : decide ((0 : Int) < (i : Int)) = true := by rw [decide_eq_true_eq]; omega
              try simp (config := { maxSteps := 2000000 }) only [go_sem, reduceCtorEq, Nat.reduceAdd, Nat.reduceEqDiff, reduceIte, Nat.reduceLeDiff, Nat.reduceLT, Nat.reduceSub, hz, List.length_reverse]
              all_goals (repeat (with_reducible refine sAnd ?_))
              refine cond_of (by rfl) trivial (fun g5 => ?_) (fun g5 => ?_)
              · have hu0 : upOf d i = (i : Int) - 1 := by rw [hup]; simpa using g5
                have h0x : (if i = 0 then ([] : Bys) else if upOf d i = (i : Int) - 1 then [40] else [32]) = [40] := by rw [if_neg h0, if_pos hu0]
                try simp (config := { maxSteps := 2000000 }) only [go_sem, reduceCtorEq, Nat.reduceAdd, Nat.reduceEqDiff, reduceIte, Nat.reduceLeDiff, Nat.reduceLT, Nat.reduceSub]
                all_goals (repeat (with_reducible refine sAnd ?_))
                refine callm_w (by rfl) (by decide) (by repeat' constructor) (m_WriteByte b (sT d i ++ List.replicate ((lkK d i).length - (([] : List Int)).length) 41) 40 (by simp only [List.length_append, List.length_replicate]; omega)) ?_
                try simp (config := { maxSteps := 2000000 }) only [go_sem, reduceCtorEq, Nat.reduceAdd, Nat.reduceEqDiff, reduceIte, Nat.reduceLeDiff, Nat.reduceLT, Nat.reduceSub]
                all_goals (repeat (with_reducible refine sAnd ?_))
                have hsep : sT d i ++ List.replicate ((lkK d i).length - (([] : List Int)).length) 41 ++ [40] = sT d i ++ sepT d i := by rw [← lk_sep hlt, ← hk]; simp [h0x]
                have hTl : (sT d i ++ List.replicate ((lkK d i).length - (([] : List Int)).length) 41 ++ [40]).length ≤ 15300 := by simp only [List.length_append, List.length_replicate, List.length_cons, List.length_nil]; omega
                try simp (config := { maxSteps := 2000000 }) only [go_sem, reduceCtorEq, Nat.reduceAdd, Nat.reduceEqDiff, reduceIte, Nat.reduceLeDiff, Nat.reduceLT, Nat.reduceSub]
                all_goals (repeat (with_reducible refine sAnd ?_))
                refine call_val (by repeat' constructor) (c_mark_own _ hx) ?_
                try simp (config := { maxSteps := 2000000 }) only [go_sem, reduceCtorEq, Nat.reduceAdd, Nat.reduceEqDiff, reduceIte, Nat.reduceLeDiff, Nat.reduceLT, Nat.reduceSub]
                all_goals (repeat (with_reducible refine sAnd ?_))
                refine callm_w (by rfl) (by decide) (by repeat' constructor) (m_WriteString b (sT d i ++ List.replicate ((lkK d i).length - (([] : List Int)).length) 41 ++ [40]) (nodeT0 (d.getD i default)) (by omega)) ?_
                try simp (config := { maxSteps := 2000000 }) only [go_sem, reduceCtorEq, Nat.reduceAdd, Nat.reduceEqDiff, reduceIte, Nat.reduceLeDiff, Nat.reduceLT, Nat.reduceSub]
                all_goals (repeat (with_reducible refine sAnd ?_))
                by_cases hn : i + 1 < d.length
                · have hdn : decide (((i : Int) + 1) < (d.length : Int)) = true := by rw [decide_eq_true_eq]; omega
                  have e1 : ((i : Int) + 1).toNat = i + 1 := by omega
                  have hun : upOf d (i + 1) = (d.getD (i + 1) default).up := rfl
                  try simp (config := { maxSteps := 2000000 }) only [go_sem, reduceCtorEq, Nat.reduceAdd, Nat.reduceEqDiff, reduceIte, Nat.reduceLeDiff, Nat.reduceLT, Nat.reduceSub, ndsV_len, hdn, e1, ndsV_get _ _ hn]
                  all_goals (repeat (with_reducible refine sAnd ?_))
                  refine cond_of (by rfl) trivial (fun g7 => ?_) (fun g7 => ?_)
                  · have hu : upOf d (i + 1) = ((i + 1 : Nat) : Int) - 1 := by rw [hun]; have := eq_of_beq g7; omega
                    try simp (config := { maxSteps := 2000000 }) only [go_sem, reduceCtorEq, Nat.reduceAdd, Nat.reduceEqDiff, reduceIte, Nat.reduceLeDiff, Nat.reduceLT, Nat.reduceSub, ndsV_len]
                    all_goals (repeat (with_reducible refine sAnd ?_))
                    have hl : lkK d (i + 1) = (((i + 1 : Nat) : Int) - 1) :: ([] : List Int) := by unfold lkK; rw [if_pos ⟨by omega, hn, hu⟩, ← hk]
                    refine ⟨i + 1, by omega, hlt, ?_⟩
                    simp (config := { maxSteps := 2000000 }) only [go_sem, reduceCtorEq, Nat.reduceAdd, Nat.reduceEqDiff, reduceIte, Nat.reduceLeDiff, Nat.reduceLT, Nat.reduceSub, le_cons, le_nil, le_un, le_same]
                    all_goals (repeat' (first | exact trivial | exact le_int (by omega) | exact le_bool rfl | exact le_eq rfl | exact le_nlo | exact le_refl _ | refine And.intro ?_ ?_))
                    all_goals first | exact le_eq (by simp only [sT]; rw [← hsep] <;> rfl) | exact le_eq (by rw [hl] <;> simp [intsR]) | exact le_int (by omega) | exact le_same | rfl
                  · have hu : ¬ (0 < i + 1 ∧ i + 1 < d.length ∧ upOf d (i + 1) = ((i + 1 : Nat) : Int) - 1) := by rintro ⟨_, _, c⟩; rw [hun] at c; have := ne_of_beq_false g7; omega
                    try simp (config := { maxSteps := 2000000 }) only [go_sem, reduceCtorEq, Nat.reduceAdd, Nat.reduceEqDiff, reduceIte, Nat.reduceLeDiff, Nat.reduceLT, Nat.reduceSub, ndsV_len]
                    all_goals (repeat (with_reducible refine sAnd ?_))
                    have hl : lkK d (i + 1) = ([] : List Int) := by unfold lkK; rw [if_neg hu, ← hk]
                    refine ⟨i + 1, by omega, hlt, ?_⟩
                    simp (config := { maxSteps := 2000000 }) only [go_sem, reduceCtorEq, Nat.reduceAdd, Nat.reduceEqDiff, reduceIte, Nat.reduceLeDiff, Nat.reduceLT, Nat.reduceSub, le_cons, le_nil, le_un, le_same]
                    all_goals (repeat' (first | exact trivial | exact le_int (by omega) | exact le_bool rfl | exact le_eq rfl | exact le_nlo | exact le_refl _ | refine And.intro ?_ ?_))
                    all_goals first | exact le_eq (by simp only [sT]; rw [← hsep] <;> rfl) | exact le_eq (by rw [hl] <;> simp [intsR]) | exact le_int (by omega) | exact le_same | rfl
                · have hdn : decide (((i : Int) + 1) < (d.length : Int)) = false := by rw [decide_eq_false_iff_not]; omega
                  have hu : ¬ (0 < i + 1 ∧ i + 1 < d.length ∧ upOf d (i + 1) = ((i + 1 : Nat) : Int) - 1) := fun c => hn c.2.1
                  have e1 : ((i : Int) + 1).toNat = i + 1 := by omega
                  have e2 : (ndsV d).getD (i + 1) [] = [] := by
                    rw [List.getD_eq_getElem?_getD, List.getElem?_eq_none (by rw [ndsV_len]; omega)]; rfl
                  try simp (config := { maxSteps := 2000000 }) only [go_sem, reduceCtorEq, Nat.reduceAdd, Nat.reduceEqDiff, reduceIte, Nat.reduceLeDiff, Nat.reduceLT, Nat.reduceSub, ndsV_len, hdn, e1, e2, List.getD_nil, List.take_nil, List.drop_nil, List.headD_nil]
                  all_goals (repeat (with_reducible refine sAnd ?_))
                  refine cond_of (by rfl) trivial (fun g7 => ?_) (fun g7 => ?_)
                  · simp at g7
                  · try simp (config := { maxSteps := 2000000 }) only [go_sem, reduceCtorEq, Nat.reduceAdd, Nat.reduceEqDiff, reduceIte, Nat.reduceLeDiff, Nat.reduceLT, Nat.reduceSub]
                    all_goals (repeat (with_reducible refine sAnd ?_))
                    have hl : lkK d (i + 1) = ([] : List Int) := by unfold lkK; rw [if_neg hu, ← hk]
                    refine ⟨i + 1, by omega, hlt, ?_⟩
                    simp (config := { maxSteps := 2000000 }) only [go_sem, reduceCtorEq, Nat.reduceAdd, Nat.reduceEqDiff, reduceIte, Nat.reduceLeDiff, Nat.reduceLT, Nat.reduceSub, le_cons, le_nil, le_un, le_same]
                    all_goals (repeat' (first | exact trivial | exact le_int (by omega) | exact le_bool rfl | exact le_eq rfl | exact le_nlo | exact le_refl _ | refine And.intro ?_ ?_))
                    all_goals first | exact le_eq (by simp only [sT]; rw [← hsep] <;> rfl) | exact le_eq (by rw [hl] <;> simp [intsR]) | exact le_int (by omega) | exact le_same | rfl
              · have hu0 : ¬ upOf d i = (i : Int) - 1 := by rw [hup]; simpa using g5
                have h0x : (if i = 0 then ([] : Bys) else if upOf d i = (i : Int) - 1 then [40] else [32]) = [32] := by rw [if_neg h0, if_neg hu0]
                try simp (config := { maxSteps := 2000000 }) only [go_sem, reduceCtorEq, Nat.reduceAdd, Nat.reduceEqDiff, reduceIte, Nat.reduceLeDiff, Nat.reduceLT, Nat.reduceSub, hz]
                all_goals (repeat (with_reducible refine sAnd ?_))
                refine cond_of (by rfl) trivial (fun g6 => ?_) (fun g6 => ?_)
                · try simp (config := { maxSteps := 2000000 }) only [go_sem, reduceCtorEq, Nat.reduceAdd, Nat.reduceEqDiff, reduceIte, Nat.reduceLeDiff, Nat.reduceLT, Nat.reduceSub]
                  all_goals (repeat (with_reducible refine sAnd ?_))
                  refine callm_w (by rfl) (by decide) (by repeat' constructor) (m_WriteByte b (sT d i ++ List.replicate ((lkK d i).length - (([] : List Int)).length) 41) 32 (by simp only [List.length_append, List.length_replicate]; omega)) ?_
                  try simp (config := { maxSteps := 2000000 }) only [go_sem, reduceCtorEq, Nat.reduceAdd, Nat.reduceEqDiff, reduceIte, Nat.reduceLeDiff, Nat.reduceLT, Nat.reduceSub]
                  all_goals (repeat (with_reducible refine sAnd ?_))
                  have hsep : sT d i ++ List.replicate ((lkK d i).length - (([] : List Int)).length) 41 ++ [32] = sT d i ++ sepT d i := by rw [← lk_sep hlt, ← hk]; simp [h0x]
                  have hTl : (sT d i ++ List.replicate ((lkK d i).length - (([] : List Int)).length) 41 ++ [32]).length ≤ 15300 := by simp only [List.length_append, List.length_replicate, List.length_cons, List.length_nil]; omega
                  try simp (config := { maxSteps := 2000000 }) only [go_sem, reduceCtorEq, Nat.reduceAdd, Nat.reduceEqDiff, reduceIte, Nat.reduceLeDiff, Nat.reduceLT, Nat.reduceSub]
                  all_goals (repeat (with_reducible refine sAnd ?_))
                  refine call_val (by repeat' constructor) (c_mark_own _ hx) ?_
                  try simp (config := { maxSteps := 2000000 }) only [go_sem, reduceCtorEq, Nat.reduceAdd, Nat.reduceEqDiff, reduceIte, Nat.reduceLeDiff, Nat.reduceLT, Nat.reduceSub]
                  all_goals (repeat (with_reducible refine sAnd ?_))
                  refine callm_w (by rfl) (by decide) (by repeat' constructor) (m_WriteString b (sT d i ++ List.replicate ((lkK d i).length - (([] : List Int)).length) 41 ++ [32]) (nodeT0 (d.getD i default)) (by omega)) ?_
                  try simp (config := { maxSteps := 2000000 }) only [go_sem, reduceCtorEq, Nat.reduceAdd, Nat.reduceEqDiff, reduceIte, Nat.reduceLeDiff, Nat.reduceLT, Nat.reduceSub]
                  all_goals (repeat (with_reducible refine sAnd ?_))
                  by_cases hn : i + 1 < d.length
                  · have hdn : decide (((i : Int) + 1) < (d.length : Int)) = true := by rw [decide_eq_true_eq]; omega
                    have e1 : ((i : Int) + 1).toNat = i + 1 := by omega
                    have hun : upOf d (i + 1) = (d.getD (i + 1) default).up := rfl
                    try simp (config := { maxSteps := 2000000 }) only [go_sem, reduceCtorEq, Nat.reduceAdd, Nat.reduceEqDiff, reduceIte, Nat.reduceLeDiff, Nat.reduceLT, Nat.reduceSub, ndsV_len, hdn, e1, ndsV_get _ _ hn]
                    all_goals (repeat (with_reducible refine sAnd ?_))
                    refine cond_of (by rfl) trivial (fun g7 => ?_) (fun g7 => ?_)
                    · have hu : upOf d (i + 1) = ((i + 1 : Nat) : Int) - 1 := by rw [hun]; have := eq_of_beq g7; omega
                      try simp (config := { maxSteps := 2000000 }) only [go_sem, reduceCtorEq, Nat.reduceAdd, Nat.reduceEqDiff, reduceIte, Nat.reduceLeDiff, Nat.reduceLT, Nat.reduceSub, ndsV_len]
                      all_goals (repeat (with_reducible refine sAnd ?_))
                      have hl : lkK d (i + 1) = (((i + 1 : Nat) : Int) - 1) :: ([] : List Int) := by unfold lkK; rw [if_pos ⟨by omega, hn, hu⟩, ← hk]
                      refine ⟨i + 1, by omega, hlt, ?_⟩
                      simp (config := { maxSteps := 2000000 }) only [go_sem, reduceCtorEq, Nat.reduceAdd, Nat.reduceEqDiff, reduceIte, Nat.reduceLeDiff, Nat.reduceLT, Nat.reduceSub, le_cons, le_nil, le_un, le_same]
                      all_goals (repeat' (first | exact trivial | exact le_int (by omega) | exact le_bool rfl | exact le_eq rfl | exact le_nlo | exact le_refl _ | refine And.intro ?_ ?_))
                      all_goals first | exact le_eq (by simp only [sT]; rw [← hsep] <;> rfl) | exact le_eq (by rw [hl] <;> simp [intsR]) | exact le_int (by omega) | exact le_same | rfl
                    · have hu : ¬ (0 < i + 1 ∧ i + 1 < d.length ∧ upOf d (i + 1) = ((i + 1 : Nat) : Int) - 1) := by rintro ⟨_, _, c⟩; rw [hun] at c; have := ne_of_beq_false g7; omega
                      try simp (config := { maxSteps := 2000000 }) only [go_sem, reduceCtorEq, Nat.reduceAdd, Nat.reduceEqDiff, reduceIte, Nat.reduceLeDiff, Nat.reduceLT, Nat.reduceSub, ndsV_len]
                      all_goals (repeat (with_reducible refine sAnd ?_))
                      have hl : lkK d (i + 1) = ([] : List Int) := by unfold lkK; rw [if_neg hu, ← hk]
                      refine ⟨i + 1, by omega, hlt, ?_⟩
                      simp (config := { maxSteps := 2000000 }) only [go_sem, reduceCtorEq, Nat.reduceAdd, Nat.reduceEqDiff, reduceIte, Nat.reduceLeDiff, Nat.reduceLT, Nat.reduceSub, le_cons, le_nil, le_un, le_same]
                      all_goals (repeat' (first | exact trivial | exact le_int (by omega) | exact le_bool rfl | exact le_eq rfl | exact le_nlo | exact le_refl _ | refine And.intro ?_ ?_))
                      all_goals first | exact le_eq (by simp only [sT]; rw [← hsep] <;> rfl) | exact le_eq (by rw [hl] <;> simp [intsR]) | exact le_int (by omega) | exact le_same | rfl
                  · have hdn : decide (((i : Int) + 1) < (d.length : Int)) = false := by rw [decide_eq_false_iff_not]; omega
                    have hu : ¬ (0 < i + 1 ∧ i + 1 < d.length ∧ upOf d (i + 1) = ((i + 1 : Nat) : Int) - 1) := fun c => hn c.2.1
                    have e1 : ((i : Int) + 1).toNat = i + 1 := by omega
                    have e2 : (ndsV d).getD (i + 1) [] = [] := by
                      rw [List.getD_eq_getElem?_getD, List.getElem?_eq_none (by rw [ndsV_len]; omega)]; rfl
                    try simp (config := { maxSteps := 2000000 }) only [go_sem, reduceCtorEq, Nat.reduceAdd, Nat.reduceEqDiff, reduceIte, Nat.reduceLeDiff, Nat.reduceLT, Nat.reduceSub, ndsV_len, hdn, e1, e2, List.getD_nil, List.take_nil, List.drop_nil, List.headD_nil]
                    all_goals (repeat (with_reducible refine sAnd ?_))
                    refine cond_of (by rfl) trivial (fun g7 => ?_) (fun g7 => ?_)
                    · simp at g7
                    · try simp (config := { maxSteps := 2000000 }) only [go_sem, reduceCtorEq, Nat.reduceAdd, Nat.reduceEqDiff, reduceIte, Nat.reduceLeDiff, Nat.reduceLT, Nat.reduceSub]
                      all_goals (repeat (with_reducible refine sAnd ?_))
                      have hl : lkK d (i + 1) = ([] : List Int) := by unfold lkK; rw [if_neg hu, ← hk]
                      refine ⟨i + 1, by omega, hlt, ?_⟩
                      simp (config := { maxSteps := 2000000 }) only [go_sem, reduceCtorEq, Nat.reduceAdd, Nat.reduceEqDiff, reduceIte, Nat.reduceLeDiff, Nat.reduceLT, Nat.reduceSub, le_cons, le_nil, le_un, le_same]
                      all_goals (repeat' (first | exact trivial | exact le_int (by omega) | exact le_bool rfl | exact le_eq rfl | exact le_nlo | exact le_refl _ | refine And.intro ?_ ?_))
                      all_goals first | exact le_eq (by simp only [sT]; rw [← hsep] <;> rfl) | exact le_eq (by rw [hl] <;> simp [intsR]) | exact le_int (by omega) | exact le_same | rfl
                · simp at g6
        | cons x c =>
          have hlen : c.length + 1 ≤ 65 := by simp only [List.length_cons] at hcl; omega
          try simp (config := { maxSteps := 2000000 }) only [go_sem, reduceCtorEq, Nat.reduceAdd, Nat.reduceEqDiff, reduceIte, Nat.reduceLeDiff, Nat.reduceLT, Nat.reduceSub, List.length_reverse, toNat_s, intsR_last, intsR_take]
          all_goals (repeat (with_reducible refine sAnd ?_))
          refine cond_of (by rfl) trivial (fun h3 => ?_) (fun h3 => ?_)
          · have hxu : ¬ x = upOf d i := by rw [hup]; simpa using h3
            try simp (config := { maxSteps := 2000000 }) only [go_sem, reduceCtorEq, Nat.reduceAdd, Nat.reduceEqDiff, reduceIte, Nat.reduceLeDiff, Nat.reduceLT, Nat.reduceSub]
            all_goals (repeat (with_reducible refine sAnd ?_))
            refine callm_w (by rfl) (by decide) (by repeat' constructor) (m_WriteByte b (sT d i ++ List.replicate ((lkK d i).length - (x :: c).length) 41) 41 (by simp only [List.length_append, List.length_replicate]; omega)) ?_
            try simp (config := { maxSteps := 2000000 }) only [go_sem, reduceCtorEq, Nat.reduceAdd, Nat.reduceEqDiff, reduceIte, Nat.reduceLeDiff, Nat.reduceLT, Nat.reduceSub]
            all_goals (repeat (with_reducible refine sAnd ?_))
            try simp (config := { maxSteps := 2000000 }) only [go_sem, reduceCtorEq, Nat.reduceAdd, Nat.reduceEqDiff, reduceIte, Nat.reduceLeDiff, Nat.reduceLT, Nat.reduceSub, List.length_reverse, toNat_s, intsR_last, intsR_take]
            all_goals (repeat (with_reducible refine sAnd ?_))
            refine ⟨c, Nat.lt_succ_self _, ⟨by simp only [List.length_cons] at hcl; omega, ?_⟩, ?_⟩
            · rw [← hcp]
              simp only [popTo, List.dropWhile_cons]
              simp [hxu]
            · have er : (lkK d i).length - c.length = (lkK d i).length - (x :: c).length + 1 := by simp only [List.length_cons] at hcl ⊢; omega
              simp (config := { maxSteps := 2000000 }) only [go_sem, reduceCtorEq, Nat.reduceAdd, Nat.reduceEqDiff, reduceIte, Nat.reduceLeDiff, Nat.reduceLT, Nat.reduceSub, le_cons, le_nil, le_un, le_same]
              all_goals (repeat' (first | exact trivial | exact le_int (by omega) | exact le_bool rfl | exact le_eq rfl | exact le_nlo | exact le_refl _ | refine And.intro ?_ ?_))
              all_goals first | exact le_eq (by rw [er, List.replicate_succ']; simp) | exact le_same | rfl
          · have hxu : x = upOf d i := by rw [hup]; simpa using h3
            try simp (config := { maxSteps := 2000000 }) only [go_sem, reduceCtorEq, Nat.reduceAdd, Nat.reduceEqDiff, reduceIte, Nat.reduceLeDiff, Nat.reduceLT, Nat.reduceSub, List.length_reverse]
            all_goals (repeat (with_reducible refine sAnd ?_))
            have hk : x :: c = sK d (i + 1) := by rw [← lk_pop hlt, ← hcp]; exact (popTo_nil_or _ _ (.inr ⟨c, by rw [hxu]⟩)).symm
            have hcl2 : (x :: c).length ≤ (lkK d i).length := hcl
            by_cases h0 : i = 0
            · have hz : decide ((0 : Int) < (i : Int)) = false := by rw [decide_eq_false_iff_not]; omega
              have h0x : (if i = 0 then ([] : Bys) else if upOf d i = (i : Int) - 1 then [40] else [32]) = [] := by rw [if_pos h0]
              try simp (config := { maxSteps := 2000000 }) only [go_sem, reduceCtorEq, Nat.reduceAdd, Nat.reduceEqDiff, reduceIte, Nat.reduceLeDiff, Nat.reduceLT, Nat.reduceSub, hz, List.length_reverse]
              all_goals (repeat (with_reducible refine sAnd ?_))
              refine cond_of (by rfl) trivial (fun g5 => ?_) (fun g5 => ?_)
              · simp at g5
              · try simp (config := { maxSteps := 2000000 }) only [go_sem, reduceCtorEq, Nat.reduceAdd, Nat.reduceEqDiff, reduceIte, Nat.reduceLeDiff, Nat.reduceLT, Nat.reduceSub, hz]
                all_goals (repeat (with_reducible refine sAnd ?_))
                refine cond_of (by rfl) trivial (fun g6 => ?_) (fun g6 => ?_)
                · simp at g6
                · try simp (config := { maxSteps := 2000000 }) only [go_sem, reduceCtorEq, Nat.reduceAdd, Nat.reduceEqDiff, reduceIte, Nat.reduceLeDiff, Nat.reduceLT, Nat.reduceSub]
                  all_goals (repeat (with_reducible refine sAnd ?_))
                  have hsep : sT d i ++ List.replicate ((lkK d i).length - (x :: c).length) 41 = sT d i ++ sepT d i := by rw [← lk_sep hlt, ← hk]; simp [h0x]
                  have hTl : (sT d i ++ List.replicate ((lkK d i).length - (x :: c).length) 41).length ≤ 15300 := by simp only [List.length_append, List.length_replicate, List.length_cons, List.length_nil]; omega
                  try simp (config := { maxSteps := 2000000 }) only [go_sem, reduceCtorEq, Nat.reduceAdd, Nat.reduceEqDiff, reduceIte, Nat.reduceLeDiff, Nat.reduceLT, Nat.reduceSub]
                  all_goals (repeat (with_reducible refine sAnd ?_))
                  refine call_val (by repeat' constructor) (c_mark_own _ hx) ?_
                  try simp (config := { maxSteps := 2000000 }) only [go_sem, reduceCtorEq, Nat.reduceAdd, Nat.reduceEqDiff, reduceIte, Nat.reduceLeDiff, Nat.reduceLT, Nat.reduceSub]
                  all_goals (repeat (with_reducible refine sAnd ?_))
                  refine callm_w (by rfl) (by decide) (by repeat' constructor) (m_WriteString b (sT d i ++ List.replicate ((lkK d i).length - (x :: c).length) 41) (nodeT0 (d.getD i default)) (by omega)) ?_
                  try simp (config := { maxSteps := 2000000 }) only [go_sem, reduceCtorEq, Nat.reduceAdd, Nat.reduceEqDiff, reduceIte, Nat.reduceLeDiff, Nat.reduceLT, Nat.reduceSub]
                  all_goals (repeat (with_reducible refine sAnd ?_))
                  by_cases hn : i + 1 < d.length
                  · have hdn : decide (((i : Int) + 1) < (d.length : Int)) = true := by rw [decide_eq_true_eq]; omega
                    have e1 : ((i : Int) + 1).toNat = i + 1 := by omega
                    have hun : upOf d (i + 1) = (d.getD (i + 1) default).up := rfl
                    try simp (config := { maxSteps := 2000000 }) only [go_sem, reduceCtorEq, Nat.reduceAdd, Nat.reduceEqDiff, reduceIte, Nat.reduceLeDiff, Nat.reduceLT, Nat.reduceSub, ndsV_len, hdn, e1, ndsV_get _ _ hn]
                    all_goals (repeat (with_reducible refine sAnd ?_))
                    refine cond_of (by rfl) trivial (fun g7 => ?_) (fun g7 => ?_)
                    · have hu : upOf d (i + 1) = ((i + 1 : Nat) : Int) - 1 := by rw [hun]; have := eq_of_beq g7; omega
                      try simp (config := { maxSteps := 2000000 }) only [go_sem, reduceCtorEq, Nat.reduceAdd, Nat.reduceEqDiff, reduceIte, Nat.reduceLeDiff, Nat.reduceLT, Nat.reduceSub, ndsV_len]
                      all_goals (repeat (with_reducible refine sAnd ?_))
                      have hl : lkK d (i + 1) = (((i + 1 : Nat) : Int) - 1) :: x :: c := by unfold lkK; rw [if_pos ⟨by omega, hn, hu⟩, ← hk]
                      refine ⟨i + 1, by omega, hlt, ?_⟩
                      simp (config := { maxSteps := 2000000 }) only [go_sem, reduceCtorEq, Nat.reduceAdd, Nat.reduceEqDiff, reduceIte, Nat.reduceLeDiff, Nat.reduceLT, Nat.reduceSub, le_cons, le_nil, le_un, le_same]
                      all_goals (repeat' (first | exact trivial | exact le_int (by omega) | exact le_bool rfl | exact le_eq rfl | exact le_nlo | exact le_refl _ | refine And.intro ?_ ?_))
                      all_goals first | exact le_eq (by simp only [sT]; rw [← hsep] <;> rfl) | exact le_eq (by rw [hl] <;> simp [intsR]) | exact le_int (by omega) | exact le_same | rfl
                    · have hu : ¬ (0 < i + 1 ∧ i + 1 < d.length ∧ upOf d (i + 1) = ((i + 1 : Nat) : Int) - 1) := by rintro ⟨_, _, c⟩; rw [hun] at c; have := ne_of_beq_false g7; omega
                      try simp (config := { maxSteps := 2000000 }) only [go_sem, reduceCtorEq, Nat.reduceAdd, Nat.reduceEqDiff, reduceIte, Nat.reduceLeDiff, Nat.reduceLT, Nat.reduceSub, ndsV_len]
                      all_goals (repeat (with_reducible refine sAnd ?_))
                      have hl : lkK d (i + 1) = x :: c := by unfold lkK; rw [if_neg hu, ← hk]
                      refine ⟨i + 1, by omega, hlt, ?_⟩
                      simp (config := { maxSteps := 2000000 }) only [go_sem, reduceCtorEq, Nat.reduceAdd, Nat.reduceEqDiff, reduceIte, Nat.reduceLeDiff, Nat.reduceLT, Nat.reduceSub, le_cons, le_nil, le_un, le_same]
                      all_goals (repeat' (first | exact trivial | exact le_int (by omega) | exact le_bool rfl | exact le_eq rfl | exact le_nlo | exact le_refl _ | refine And.intro ?_ ?_))
                      all_goals first | exact le_eq (by simp only [sT]; rw [← hsep] <;> rfl) | exact le_eq (by rw [hl] <;> simp [intsR]) | exact le_int (by omega) | exact le_same | rfl
                  · have hdn : decide (((i : Int) + 1) < (d.length : Int)) = false := by rw [decide_eq_false_iff_not]; omega
                    have hu : ¬ (0 < i + 1 ∧ i + 1 < d.length ∧ upOf d (i + 1) = ((i + 1 : Nat) : Int) - 1) := fun c => hn c.2.1
                    have e1 : ((i : Int) + 1).toNat = i + 1 := by omega
                    have e2 : (ndsV d).getD (i + 1) [] = [] := by
                      rw [List.getD_eq_getElem?_getD, List.getElem?_eq_none (by rw [ndsV_len]; omega)]; rfl
                    try simp (config := { maxSteps := 2000000 }) only [go_sem, reduceCtorEq, Nat.reduceAdd, Nat.reduceEqDiff, reduceIte, Nat.reduceLeDiff, Nat.reduceLT, Nat.reduceSub, ndsV_len, hdn, e1, e2, List.getD_nil, List.take_nil, List.drop_nil, List.headD_nil]
                    all_goals (repeat (with_reducible refine sAnd ?_))
                    refine cond_of (by rfl) trivial (fun g7 => ?_) (fun g7 => ?_)
                    · simp at g7
                    · try simp (config := { maxSteps := 2000000 }) only [go_sem, reduceCtorEq, Nat.reduceAdd, Nat.reduceEqDiff, reduceIte, Nat.reduceLeDiff, Nat.reduceLT, Nat.reduceSub]
                      all_goals (repeat (with_reducible refine sAnd ?_))
                      have hl : lkK d (i + 1) = x :: c := by unfold lkK; rw [if_neg hu, ← hk]
                      refine ⟨i + 1, by omega, hlt, ?_⟩
                      simp (config := { maxSteps := 2000000 }) only [go_sem, reduceCtorEq, Nat.reduceAdd, Nat.reduceEqDiff, reduceIte, Nat.reduceLeDiff, Nat.reduceLT, Nat.reduceSub, le_cons, le_nil, le_un, le_same]
                      all_goals (repeat' (first | exact trivial | exact le_int (by omega) | exact le_bool rfl | exact le_eq rfl | exact le_nlo | exact le_refl _ | refine And.intro ?_ ?_))
                      all_goals first | exact le_eq (by simp only [sT]; rw [← hsep] <;> rfl) | exact le_eq (by rw [hl] <;> simp [intsR]) | exact le_int (by omega) | exact le_same | rfl
            · have hz : decide ((0 : Int) < (i : Int)) = true := by rw [decide_eq_true_eq]; omega
              try simp (config := { maxSteps := 2000000 }) only [go_sem, reduceCtorEq, Nat.reduceAdd, Nat.reduceEqDiff, reduceIte, Nat.reduceLeDiff, Nat.reduceLT, Nat.reduceSub, hz, List.length_reverse]
              all_goals (repeat (with_reducible refine sAnd ?_))
              refine cond_of (by rfl) trivial (fun g5 => ?_) (fun g5 => ?_)
              · have hu0 : upOf d i = (i : Int) - 1 := by rw [hup]; simpa using g5
                have h0x : (if i = 0 then ([] : Bys) else if upOf d i = (i : Int) - 1 then [40] else [32]) = [40] := by rw [if_neg h0, if_pos hu0]
                try simp (config := { maxSteps := 2000000 }) only [go_sem, reduceCtorEq, Nat.reduceAdd, Nat.reduceEqDiff, reduceIte, Nat.reduceLeDiff, Nat.reduceLT, Nat.reduceSub]
                all_goals (repeat (with_reducible refine sAnd ?_))
                refine callm_w (by rfl) (by decide) (by repeat' constructor) (m_WriteByte b (sT d i ++ List.replicate ((lkK d i).length - (x :: c).length) 41) 40 (by simp only [List.length_append, List.length_replicate]; omega)) ?_
                try simp (config := { maxSteps := 2000000 }) only [go_sem, reduceCtorEq, Nat.reduceAdd, Nat.reduceEqDiff, reduceIte, Nat.reduceLeDiff, Nat.reduceLT, Nat.reduceSub]
                all_goals (repeat (with_reducible refine sAnd ?_))
                have hsep : sT d i ++ List.replicate ((lkK d i).length - (x :: c).length) 41 ++ [40] = sT d i ++ sepT d i := by rw [← lk_sep hlt, ← hk]; simp [h0x]
                have hTl : (sT d i ++ List.replicate ((lkK d i).length - (x :: c).length) 41 ++ [40]).length ≤ 15300 := by simp only [List.length_append, List.length_replicate, List.length_cons, List.length_nil]; omega
                try simp (config := { maxSteps := 2000000 }) only [go_sem, reduceCtorEq, Nat.reduceAdd, Nat.reduceEqDiff, reduceIte, Nat.reduceLeDiff, Nat.reduceLT, Nat.reduceSub]
                all_goals (repeat (with_reducible refine sAnd ?_))
                refine call_val (by repeat' constructor) (c_mark_own _ hx) ?_
                try simp (config := { maxSteps := 2000000 }) only [go_sem, reduceCtorEq, Nat.reduceAdd, Nat.reduceEqDiff, reduceIte, Nat.reduceLeDiff, Nat.reduceLT, Nat.reduceSub]
                all_goals (repeat (with_reducible refine sAnd ?_))
                refine callm_w (by rfl) (by decide) (by repeat' constructor) (m_WriteString b (sT d i ++ List.replicate ((lkK d i).length - (x :: c).length) 41 ++ [40]) (nodeT0 (d.getD i default)) (by omega)) ?_
                try simp (config := { maxSteps := 2000000 }) only [go_sem, reduceCtorEq, Nat.reduceAdd, Nat.reduceEqDiff, reduceIte, Nat.reduceLeDiff, Nat.reduceLT, Nat.reduceSub]
                all_goals (repeat (with_reducible refine sAnd ?_))
                by_cases hn : i + 1 < d.length
                · have hdn : decide (((i : Int) + 1) < (d.length : Int)) = true := by rw [decide_eq_true_eq]; omega
                  have e1 : ((i : Int) + 1).toNat = i + 1 := by omega
                  have hun : upOf d (i + 1) = (d.getD (i + 1) default).up := rfl
                  try simp (config := { maxSteps := 2000000 }) only [go_sem, reduceCtorEq, Nat.reduceAdd, Nat.reduceEqDiff, reduceIte, Nat.reduceLeDiff, Nat.reduceLT, Nat.reduceSub, ndsV_len, hdn, e1, ndsV_get _ _ hn]
                  all_goals (repeat (with_reducible refine sAnd ?_))
                  refine cond_of (by rfl) trivial (fun g7 => ?_) (fun g7 => ?_)
                  · have hu : upOf d (i + 1) = ((i + 1 : Nat) : Int) - 1 := by rw [hun]; have := eq_of_beq g7; omega
                    try simp (config := { maxSteps := 2000000 }) only [go_sem, reduceCtorEq, Nat.reduceAdd, Nat.reduceEqDiff, reduceIte, Nat.reduceLeDiff, Nat.reduceLT, Nat.reduceSub, ndsV_len]
                    all_goals (repeat (with_reducible refine sAnd ?_))
                    have hl : lkK d (i + 1) = (((i + 1 : Nat) : Int) - 1) :: x :: c := by unfold lkK; rw [if_pos ⟨by omega, hn, hu⟩, ← hk]
                    refine ⟨i + 1, by omega, hlt, ?_⟩
                    simp (config := { maxSteps := 2000000 }) only [go_sem, reduceCtorEq, Nat.reduceAdd, Nat.reduceEqDiff, reduceIte, Nat.reduceLeDiff, Nat.reduceLT, Nat.reduceSub, le_cons, le_nil, le_un, le_same]
                    all_goals (repeat' (first | exact trivial | exact le_int (by omega) | exact le_bool rfl | exact le_eq rfl | exact le_nlo | exact le_refl _ | refine And.intro ?_ ?_))
                    all_goals first | exact le_eq (by simp only [sT]; rw [← hsep] <;> rfl) | exact le_eq (by rw [hl] <;> simp [intsR]) | exact le_int (by omega) | exact le_same | rfl
                  · have hu : ¬ (0 < i + 1 ∧ i + 1 < d.length ∧ upOf d (i + 1) = ((i + 1 : Nat) : Int) - 1) := by rintro ⟨_, _, c⟩; rw [hun] at c; have := ne_of_beq_false g7; omega
                    try simp (config := { maxSteps := 2000000 }) only [go_sem, reduceCtorEq, Nat.reduceAdd, Nat.reduceEqDiff, reduceIte, Nat.reduceLeDiff, Nat.reduceLT, Nat.reduceSub, ndsV_len]
                    all_goals (repeat (with_reducible refine sAnd ?_))
                    have hl : lkK d (i + 1) = x :: c := by unfold lkK; rw [if_neg hu, ← hk]
                    refine ⟨i + 1, by omega, hlt, ?_⟩
                    simp (config := { maxSteps := 2000000 }) only [go_sem, reduceCtorEq, Nat.reduceAdd, Nat.reduceEqDiff, reduceIte, Nat.reduceLeDiff, Nat.reduceLT, Nat.reduceSub, le_cons, le_nil, le_un, le_same]
                    all_goals (repeat' (first | exact trivial | exact le_int (by omega) | exact le_bool rfl | exact le_eq rfl | exact le_nlo | exact le_refl _ | refine And.intro ?_ ?_))
                    all_goals first | exact le_eq (by simp only [sT]; rw [← hsep] <;> rfl) | exact le_eq (by rw [hl] <;> simp [intsR]) | exact le_int (by omega) | exact le_same | rfl
                · have hdn : decide (((i : Int) + 1) < (d.length : Int)) = false := by rw [decide_eq_false_iff_not]; omega
                  have hu : ¬ (0 < i + 1 ∧ i + 1 < d.length ∧ upOf d (i + 1) = ((i + 1 : Nat) : Int) - 1) := fun c => hn c.2.1
                  have e1 : ((i : Int) + 1).toNat = i + 1 := by omega
                  have e2 : (ndsV d).getD (i + 1) [] = [] := by
                    rw [List.getD_eq_getElem?_getD, List.getElem?_eq_none (by rw [ndsV_len]; omega)]; rfl
                  try simp (config := { maxSteps := 2000000 }) only [go_sem, reduceCtorEq, Nat.reduceAdd, Nat.reduceEqDiff, reduceIte, Nat.reduceLeDiff, Nat.reduceLT, Nat.reduceSub, ndsV_len, hdn, e1, e2, List.getD_nil, List.take_nil, List.drop_nil, List.headD_nil]
                  all_goals (repeat (with_reducible refine sAnd ?_))
                  refine cond_of (by rfl) trivial (fun g7 => ?_) (fun g7 => ?_)
                  · simp at g7
                  · try simp (config := { maxSteps := 2000000 }) only [go_sem, reduceCtorEq, Nat.reduceAdd, Nat.reduceEqDiff, reduceIte, Nat.reduceLeDiff, Nat.reduceLT, Nat.reduceSub]
                    all_goals (repeat (with_reducible refine sAnd ?_))
                    have hl : lkK d (i + 1) = x :: c := by unfold lkK; rw [if_neg hu, ← hk]
                    refine ⟨i + 1, by omega, hlt, ?_⟩
                    simp (config := { maxSteps := 2000000 }) only [go_sem, reduceCtorEq, Nat.reduceAdd, Nat.reduceEqDiff, reduceIte, Nat.reduceLeDiff, Nat.reduceLT, Nat.reduceSub, le_cons, le_nil, le_un, le_same]
                    all_goals (repeat' (first | exact trivial | exact le_int (by omega) | exact le_bool rfl | exact le_eq rfl | exact le_nlo | exact le_refl _ | refine And.intro ?_ ?_))
                    all_goals first | exact le_eq (by simp only [sT]; rw [← hsep] <;> rfl) | exact le_eq (by rw [hl] <;> simp [intsR]) | exact le_int (by omega) | exact le_same | rfl
              · have hu0 : ¬ upOf d i = (i : Int) - 1 := by rw [hup]; simpa using g5
                have h0x : (if i = 0 then ([] : Bys) else if upOf d i = (i : Int) - 1 then [40] else [32]) = [32] := by rw [if_neg h0, if_neg hu0]
                try simp (config := { maxSteps := 2000000 }) only [go_sem, reduceCtorEq, Nat.reduceAdd, Nat.reduceEqDiff, reduceIte, Nat.reduceLeDiff, Nat.reduceLT, Nat.reduceSub, hz]
                all_goals (repeat (with_reducible refine sAnd ?_))
                refine cond_of (by rfl) trivial (fun g6 => ?_) (fun g6 => ?_)
                · try simp (config := { maxSteps := 2000000 }) only [go_sem, reduceCtorEq, Nat.reduceAdd, Nat.reduceEqDiff, reduceIte, Nat.reduceLeDiff, Nat.reduceLT, Nat.reduceSub]
                  all_goals (repeat (with_reducible refine sAnd ?_))
                  refine callm_w (by rfl) (by decide) (by repeat' constructor) (m_WriteByte b (sT d i ++ List.replicate ((lkK d i).length - (x :: c).length) 41) 32 (by simp only [List.length_append, List.length_replicate]; omega)) ?_
                  try simp (config := { maxSteps := 2000000 }) only [go_sem, reduceCtorEq, Nat.reduceAdd, Nat.reduceEqDiff, reduceIte, Nat.reduceLeDiff, Nat.reduceLT, Nat.reduceSub]
                  all_goals (repeat (with_reducible refine sAnd ?_))
                  have hsep : sT d i ++ List.replicate ((lkK d i).length - (x :: c).length) 41 ++ [32] = sT d i ++ sepT d i := by rw [← lk_sep hlt, ← hk]; simp [h0x]
                  have hTl : (sT d i ++ List.replicate ((lkK d i).length - (x :: c).length) 41 ++ [32]).length ≤ 15300 := by simp only [List.length_append, List.length_replicate, List.length_cons, List.length_nil]; omega
                  try simp (config := { maxSteps := 2000000 }) only [go_sem, reduceCtorEq, Nat.reduceAdd, Nat.reduceEqDiff, reduceIte, Nat.reduceLeDiff, Nat.reduceLT, Nat.reduceSub]
                  all_goals (repeat (with_reducible refine sAnd ?_))
                  refine call_val (by repeat' constructor) (c_mark_own _ hx) ?_
                  try simp (config := { maxSteps := 2000000 }) only [go_sem, reduceCtorEq, Nat.reduceAdd, Nat.reduceEqDiff, reduceIte, Nat.reduceLeDiff, Nat.reduceLT, Nat.reduceSub]
                  all_goals (repeat (with_reducible refine sAnd ?_))
                  refine callm_w (by rfl) (by decide) (by repeat' constructor) (m_WriteString b (sT d i ++ List.replicate ((lkK d i).length - (x :: c).length) 41 ++ [32]) (nodeT0 (d.getD i default)) (by omega)) ?_
                  try simp (config := { maxSteps := 2000000 }) only [go_sem, reduceCtorEq, Nat.reduceAdd, Nat.reduceEqDiff, reduceIte, Nat.reduceLeDiff, Nat.reduceLT, Nat.reduceSub]
                  all_goals (repeat (with_reducible refine sAnd ?_))
                  by_cases hn : i + 1 < d.length
                  · have hdn : decide (((i : Int) + 1) < (d.length : Int)) = true := by rw [decide_eq_true_eq]; omega
                    have e1 : ((i : Int) + 1).toNat = i + 1 := by omega
                    have hun : upOf d (i + 1) = (d.getD (i + 1) default).up := rfl
                    try simp (config := { maxSteps := 2000000 }) only [go_sem, reduceCtorEq, Nat.reduceAdd, Nat.reduceEqDiff, reduceIte, Nat.reduceLeDiff, Nat.reduceLT, Nat.reduceSub, ndsV_len, hdn, e1, ndsV_get _ _ hn]
                    all_goals (repeat (with_reducible refine sAnd ?_))
                    refine cond_of (by rfl) trivial (fun g7 => ?_) (fun g7 => ?_)
                    · have hu : upOf d (i + 1) = ((i + 1 : Nat) : Int) - 1 := by rw [hun]; have := eq_of_beq g7; omega
                      try simp (config := { maxSteps := 2000000 }) only [go_sem, reduceCtorEq, Nat.reduceAdd, Nat.reduceEqDiff, reduceIte, Nat.reduceLeDiff, Nat.reduceLT, Nat.reduceSub, ndsV_len]
                      all_goals (repeat (with_reducible refine sAnd ?_))
                      have hl : lkK d (i + 1) = (((i + 1 : Nat) : Int) - 1) :: x :: c := by unfold lkK; rw [if_pos ⟨by omega, hn, hu⟩, ← hk]
                      refine ⟨i + 1, by omega, hlt, ?_⟩
                      simp (config := { maxSteps := 2000000 }) only [go_sem, reduceCtorEq, Nat.reduceAdd, Nat.reduceEqDiff, reduceIte, Nat.reduceLeDiff, Nat.reduceLT, Nat.reduceSub, le_cons, le_nil, le_un, le_same]
                      all_goals (repeat' (first | exact trivial | exact le_int (by omega) | exact le_bool rfl | exact le_eq rfl | exact le_nlo | exact le_refl _ | refine And.intro ?_ ?_))
                      all_goals first | exact le_eq (by simp only [sT]; rw [← hsep] <;> rfl) | exact le_eq (by rw [hl] <;> simp [intsR]) | exact le_int (by omega) | exact le_same | rfl
                    · have hu : ¬ (0 < i + 1 ∧ i + 1 < d.length ∧ upOf d (i + 1) = ((i + 1 : Nat) : Int) - 1) := by rintro ⟨_, _, c⟩; rw [hun] at c; have := ne_of_beq_false g7; omega
                      try simp (config := { maxSteps := 2000000 }) only [go_sem, reduceCtorEq, Nat.reduceAdd, Nat.reduceEqDiff, reduceIte, Nat.reduceLeDiff, Nat.reduceLT, Nat.reduceSub, ndsV_len]
                      all_goals (repeat (with_reducible refine sAnd ?_))
                      have hl : lkK d (i + 1) = x :: c := by unfold lkK; rw [if_neg hu, ← hk]
                      refine ⟨i + 1, by omega, hlt, ?_⟩
                      simp (config := { maxSteps := 2000000 }) only [go_sem, reduceCtorEq, Nat.reduceAdd, Nat.reduceEqDiff, reduceIte, Nat.reduceLeDiff, Nat.reduceLT, Nat.reduceSub, le_cons, le_nil, le_un, le_same]
                      all_goals (repeat' (first | exact trivial | exact le_int (by omega) | exact le_bool rfl | exact le_eq rfl | exact le_nlo | exact le_refl _ | refine And.intro ?_ ?_))
                      all_goals first | exact le_eq (by simp only [sT]; rw [← hsep] <;> rfl) | exact le_eq (by rw [hl] <;> simp [intsR]) | exact le_int (by omega) | exact le_same | rfl
                  · have hdn : decide (((i : Int) + 1) < (d.length : Int)) = false := by rw [decide_eq_false_iff_not]; omega
                    have hu : ¬ (0 < i + 1 ∧ i + 1 < d.length ∧ upOf d (i + 1) = ((i + 1 : Nat) : Int) - 1) := fun c => hn c.2.1
                    have e1 : ((i : Int) + 1).toNat = i + 1 := by omega
                    have e2 : (ndsV d).getD (i + 1) [] = [] := by
                      rw [List.getD_eq_getElem?_getD, List.getElem?_eq_none (by rw [ndsV_len]; omega)]; rfl
                    try simp (config := { maxSteps := 2000000 }) only [go_sem, reduceCtorEq, Nat.reduceAdd, Nat.reduceEqDiff, reduceIte, Nat.reduceLeDiff, Nat.reduceLT, Nat.reduceSub, ndsV_len, hdn, e1, e2, List.getD_nil, List.take_nil, List.drop_nil, List.headD_nil]
                    all_goals (repeat (with_reducible refine sAnd ?_))
                    refine cond_of (by rfl) trivial (fun g7 => ?_) (fun g7 => ?_)
                    · simp at g7
                    · try simp (config := { maxSteps := 2000000 }) only [go_sem, reduceCtorEq, Nat.reduceAdd, Nat.reduceEqDiff, reduceIte, Nat.reduceLeDiff, Nat.reduceLT, Nat.reduceSub]
                      all_goals (repeat (with_reducible refine sAnd ?_))
                      have hl : lkK d (i + 1) = x :: c := by unfold lkK; rw [if_neg hu, ← hk]
                      refine ⟨i + 1, by omega, hlt, ?_⟩
                      simp (config := { maxSteps := 2000000 }) only [go_sem, reduceCtorEq, Nat.reduceAdd, Nat.reduceEqDiff, reduceIte, Nat.reduceLeDiff, Nat.reduceLT, Nat.reduceSub, le_cons, le_nil, le_un, le_same]
                      all_goals (repeat' (first | exact trivial | exact le_int (by omega) | exact le_bool rfl | exact le_eq rfl | exact le_nlo | exact le_refl _ | refine And.intro ?_ ?_))
                      all_goals first | exact le_eq (by simp only [sT]; rw [← hsep] <;> rfl) | exact le_eq (by rw [hl] <;> simp [intsR]) | exact le_int (by omega) | exact le_same | rfl
                · simp at g6
      · have hie : i = d.length := by have : ¬ i < d.length := by simpa using g1
                                      omega
        subst hie
        have hlk : lkK d d.length = sK d d.length := by unfold lkK; rw [if_neg (fun c => Nat.lt_irrefl _ c.2.1)]
        have hkl := sK_len d d.length
        rw [hlk]
        try simp (config := { maxSteps := 2000000 }) only [go_sem, reduceCtorEq, Nat.reduceAdd, Nat.reduceEqDiff, reduceIte, Nat.reduceLeDiff, Nat.reduceLT, Nat.reduceSub, List.length_reverse, intsR_len]
        all_goals (repeat (with_reducible refine sAnd ?_))
        refine loop_sets (fun j : Nat => [(5, .ov (.one (.bl ty_strings_Builder ty_uint8 b (sT d d.length ++ List.replicate j 41)))), (82, .pv (iv j)), (83, .un)]) (fun j : Nat => (sK d d.length).length - j) (fun j : Nat => j ≤ (sK d d.length).length) (0) ?_ (Nat.zero_le _) ?_
        focus (simp (config := { maxSteps := 2000000 }) only [go_sem, reduceCtorEq, Nat.reduceAdd, Nat.reduceEqDiff, reduceIte, Nat.reduceLeDiff, Nat.reduceLT, Nat.reduceSub, le_cons, le_nil, le_un, le_same]; all_goals (repeat' (first | exact trivial | exact le_int (by omega) | exact le_bool rfl | exact le_eq rfl | exact le_nlo | exact le_refl _ | refine And.intro ?_ ?_)))
        · exact le_eq (by simp)
        intro j hj
        try simp (config := { maxSteps := 2000000 }) only [go_sem, reduceCtorEq, Nat.reduceAdd, Nat.reduceEqDiff, reduceIte, Nat.reduceLeDiff, Nat.reduceLT, Nat.reduceSub, List.length_reverse]
        all_goals (repeat (with_reducible refine sAnd ?_))
        refine cond_of (by rfl) trivial (fun g2 => ?_) (fun g2 => ?_)
        · have hjl : j < (sK d d.length).length := by simpa using g2
          try simp (config := { maxSteps := 2000000 }) only [go_sem, reduceCtorEq, Nat.reduceAdd, Nat.reduceEqDiff, reduceIte, Nat.reduceLeDiff, Nat.reduceLT, Nat.reduceSub]
          all_goals (repeat (with_reducible refine sAnd ?_))
          refine callm_w (by rfl) (by decide) (by repeat' constructor) (m_WriteByte b (sT d d.length ++ List.replicate j 41) 41 (by simp only [List.length_append, List.length_replicate]; omega)) ?_
          try simp (config := { maxSteps := 2000000 }) only [go_sem, reduceCtorEq, Nat.reduceAdd, Nat.reduceEqDiff, reduceIte, Nat.reduceLeDiff, Nat.reduceLT, Nat.reduceSub]
          all_goals (repeat (with_reducible refine sAnd ?_))
          refine ⟨j + 1, by omega, hjl, ?_⟩
          simp (config := { maxSteps := 2000000 }) only [go_sem, reduceCtorEq, Nat.reduceAdd, Nat.reduceEqDiff, reduceIte, Nat.reduceLeDiff, Nat.reduceLT, Nat.reduceSub, le_cons, le_nil, le_un, le_same]
          all_goals (repeat' (first | exact trivial | exact le_int (by omega) | exact le_bool rfl | exact le_eq rfl | exact le_nlo | exact le_refl _ | refine And.intro ?_ ?_))
          all_goals first | exact le_eq (by rw [List.replicate_succ']; simp; done) | exact le_eq (by rw [← List.replicate_succ, List.replicate_succ']; simp) | exact le_int (by omega) | exact le_same | rfl
        · have hje : j = (sK d d.length).length := by have : ¬ j < (sK d d.length).length := by simpa using g2
                                                      omega
          subst hje
          have hsh : sT d d.length ++ List.replicate (sK d d.length).length 41 = showT d := rfl
          rw [hsh]
          rw [← ht] at hdl ⊢
          try simp (config := { maxSteps := 2000000 }) only [go_sem, reduceCtorEq, Nat.reduceAdd, Nat.reduceEqDiff, reduceIte, Nat.reduceLeDiff, Nat.reduceLT, Nat.reduceSub]
          all_goals (repeat (with_reducible refine sAnd ?_))
          refine callm_w (by rfl) (by decide) (by repeat' constructor) (m_String b (showT d) htn (by omega)) ?_
          try simp (config := { maxSteps := 2000000 }) only [go_sem, reduceCtorEq, Nat.reduceAdd, Nat.reduceEqDiff, reduceIte, Nat.reduceLeDiff, Nat.reduceLT, Nat.reduceSub]
          all_goals (repeat (with_reducible refine sAnd ?_))
          exact fin_tup (by simp) ⟨rs_tmp rfl trivial (.inl rfl), rs_tmp rfl trivial (.inl rfl), rfl⟩
  · rw [if_neg hc]
    unfold docV
    refine mk_mark_Show (base := 0) ⟨Nat.le_of_ble_eq_true rfl, Nat.le_of_ble_eq_true rfl, Nat.le_of_ble_eq_true rfl, rfl⟩ (fun hfit => ?_)
    unfold F0 mark_Show_E
    simp (config := { maxSteps := 2000000 }) only [markU, List.set_cons_succ, List.set_cons_zero, List.map_cons, List.map_nil, argCt, setCells, ioOf, List.length_cons, List.length_nil, Nat.reduceAdd, Nat.reduceSub, List.replicate, List.cons_append, List.nil_append]
    try simp (config := { maxSteps := 2000000 }) only [go_sem, reduceCtorEq, Nat.reduceAdd, Nat.reduceEqDiff, reduceIte, Nat.reduceLeDiff, Nat.reduceLT, Nat.reduceSub]
    all_goals (repeat (with_reducible refine sAnd ?_))
    refine call_val (by repeat' constructor) (c_doc_Check d) ?_
    try simp (config := { maxSteps := 2000000 }) only [go_sem, reduceCtorEq, Nat.reduceAdd, Nat.reduceEqDiff, reduceIte, Nat.reduceLeDiff, Nat.reduceLT, Nat.reduceSub]
    all_goals (repeat (with_reducible refine sAnd ?_))
    refine cond_of (by rfl) trivial (fun h => ?_) (fun h => ?_)
    · try simp (config := { maxSteps := 2000000 }) only [go_sem, reduceCtorEq, Nat.reduceAdd, Nat.reduceEqDiff, reduceIte, Nat.reduceLeDiff, Nat.reduceLT, Nat.reduceSub]
      all_goals (repeat (with_reducible refine sAnd ?_))
      exact fin_tup (by simp) ⟨rs_tmp rfl trivial (.inl rfl), rs_tmp rfl trivial (.inl rfl), rfl⟩
    · simp [hc] at h
end Go.Hx
end

section
-- DOM docV
set_option maxRecDepth 100000
set_option linter.unusedSimpArgs false
namespace Go.Hx
open Go.Proofs Go.RowKit
variable [Glob]

attribute [local go_sem] ndsV_len clsV_len attV_len intsR_len ndV cellsEq docV
/-! ### The laws of texts of documents -/

theorem s_text : docText smallD = [108, 105, 115, 116, 35, 116, 111, 112, 40, 105, 116, 101, 109, 46, 97, 32, 105, 116, 101, 109, 46, 98, 40, 108, 105, 110, 107, 91, 116, 111, 61, 34, 111, 110, 101, 32, 116, 119, 111, 34, 93, 41, 32, 105, 116, 101, 109, 46, 97, 41] := by kernel_rfl
theorem read_ok {s : Bys} {d : List Nd} (h : readD s = some d) : readRes s = { res := .tup [docV d, iv 0] } := by unfold readRes; rw [h]
theorem read_no {s : Bys} (h : readD s = none) : readRes s = { res := .tup [docV [], iv 1] } := by unfold readRes; rw [h]
theorem c_law_markBegun (hM : MaxOk) : Contract Tryd.prog fn_law_markBegun [] { res := .val (bv true) } := by
  have hR := c_mark_Read hM (docText smallD) (Nat.le_trans (docText_len s_check) (by decide))
  rw [read_ok (text_facts s_check).1] at hR
  have hS := c_mark_Show smallD
  rw [if_pos s_check, s_check] at hS
  rw [s_text] at hR hS
  refine mk_law_markBegun (base := 0) ⟨Nat.le_of_ble_eq_true rfl, Nat.le_of_ble_eq_true rfl, Nat.le_of_ble_eq_true rfl, rfl⟩ (fun hfit => ?_)
  unfold F0 law_markBegun_E
  simp (config := { maxSteps := 2000000 }) only [markU, List.set_cons_succ, List.set_cons_zero, List.map_cons, List.map_nil, argCt, setCells, ioOf, List.length_cons, List.length_nil, Nat.reduceAdd, Nat.reduceSub, List.replicate, List.cons_append, List.nil_append]
  try simp (config := { maxSteps := 2000000 }) only [go_sem, reduceCtorEq, Nat.reduceAdd, Nat.reduceEqDiff, reduceIte, Nat.reduceLeDiff, Nat.reduceLT, Nat.reduceSub]
  all_goals (repeat (with_reducible refine sAnd ?_))
  refine call_val (by repeat' constructor) (c_law_small) ?_
  try simp (config := { maxSteps := 2000000 }) only [go_sem, reduceCtorEq, Nat.reduceAdd, Nat.reduceEqDiff, reduceIte, Nat.reduceLeDiff, Nat.reduceLT, Nat.reduceSub]
  all_goals (repeat (with_reducible refine sAnd ?_))
  refine call_tup (by repeat' constructor) (hS) ?_
  try simp (config := { maxSteps := 2000000 }) only [go_sem, reduceCtorEq, Nat.reduceAdd, Nat.reduceEqDiff, reduceIte, Nat.reduceLeDiff, Nat.reduceLT, Nat.reduceSub]
  all_goals (repeat (with_reducible refine sAnd ?_))
  refine call_tup (by repeat' constructor) (hR) ?_
  try simp (config := { maxSteps := 2000000 }) only [go_sem, reduceCtorEq, Nat.reduceAdd, Nat.reduceEqDiff, reduceIte, Nat.reduceLeDiff, Nat.reduceLT, Nat.reduceSub]
  all_goals (repeat (with_reducible refine sAnd ?_))
  apply call_guard (h2 := fun _ => c_law_small)
  · (simp (config := { maxSteps := 2000000 }) only [go_sem, reduceCtorEq, Nat.reduceAdd, Nat.reduceEqDiff, reduceIte, Nat.reduceLeDiff, Nat.reduceLT, Nat.reduceSub]; rfl)
  · intro h; repeat' (first | exact trivial | exact h | refine And.intro ?_ ?_)
  try simp (config := { maxSteps := 2000000 }) only [go_sem, reduceCtorEq, Nat.reduceAdd, Nat.reduceEqDiff, reduceIte, Nat.reduceLeDiff, Nat.reduceLT, Nat.reduceSub]
  all_goals (repeat (with_reducible refine sAnd ?_))
  apply call_guard (h2 := fun _ => c_ref_SameDocs smallD smallD)
  · (simp (config := { maxSteps := 2000000 }) only [go_sem, reduceCtorEq, Nat.reduceAdd, Nat.reduceEqDiff, reduceIte, Nat.reduceLeDiff, Nat.reduceLT, Nat.reduceSub]; rfl)
  · intro h; repeat' (first | exact trivial | exact h | refine And.intro ?_ ?_)
  try simp (config := { maxSteps := 2000000 }) only [go_sem, reduceCtorEq, Nat.reduceAdd, Nat.reduceEqDiff, reduceIte, Nat.reduceLeDiff, Nat.reduceLT, Nat.reduceSub, dec_self, beq_self_eq_true, cond_true]
  all_goals (repeat (with_reducible refine sAnd ?_))
  refine fin_val rfl trivial (.inl ?_)
  simp
theorem c_law_MarkBack (hM : MaxOk) (d : List Nd) (s : Bys) (hs : s.length ≤ 1048576) : Contract Tryd.prog fn_law_MarkBack [.val (docV d), .val (sv s)] { res := .val (bv true) } := by
  have hR := c_mark_Read hM s hs
  have hS := c_mark_Show d
  have hB := c_law_markBegun hM
  cases hr : readD s with
  | none =>
    rw [read_no hr] at hR
    by_cases hc : checkDoc d = 0
    · rw [if_pos hc, hc] at hS
      have hQ := c_mark_Read hM (docText d) (Nat.le_trans (docText_len hc) (by decide))
      rw [read_ok (text_facts hc).1] at hQ
      refine mk_law_MarkBack (base := 0) ⟨Nat.le_of_ble_eq_true rfl, Nat.le_of_ble_eq_true rfl, Nat.le_of_ble_eq_true rfl, rfl⟩ (fun hfit => ?_)
      unfold F0 law_MarkBack_E
      simp (config := { maxSteps := 2000000 }) only [markU, List.set_cons_succ, List.set_cons_zero, List.map_cons, List.map_nil, argCt, setCells, ioOf, List.length_cons, List.length_nil, Nat.reduceAdd, Nat.reduceSub, List.replicate, List.cons_append, List.nil_append]
      try simp (config := { maxSteps := 2000000 }) only [go_sem, reduceCtorEq, Nat.reduceAdd, Nat.reduceEqDiff, reduceIte, Nat.reduceLeDiff, Nat.reduceLT, Nat.reduceSub]
      all_goals (repeat (with_reducible refine sAnd ?_))
      refine call_tup (by repeat' constructor) (hS) ?_
      try simp (config := { maxSteps := 2000000 }) only [go_sem, reduceCtorEq, Nat.reduceAdd, Nat.reduceEqDiff, reduceIte, Nat.reduceLeDiff, Nat.reduceLT, Nat.reduceSub]
      all_goals (repeat (with_reducible refine sAnd ?_))
      refine cond_of (by rfl) trivial (fun h => ?_) (fun h => ?_)
      · try simp (config := { maxSteps := 2000000 }) only [go_sem, reduceCtorEq, Nat.reduceAdd, Nat.reduceEqDiff, reduceIte, Nat.reduceLeDiff, Nat.reduceLT, Nat.reduceSub]
        all_goals (repeat (with_reducible refine sAnd ?_))
        refine call_tup (by repeat' constructor) (hQ) ?_
        try simp (config := { maxSteps := 2000000 }) only [go_sem, reduceCtorEq, Nat.reduceAdd, Nat.reduceEqDiff, reduceIte, Nat.reduceLeDiff, Nat.reduceLT, Nat.reduceSub]
        all_goals (repeat (with_reducible refine sAnd ?_))
        apply call_guard (h2 := fun _ => c_ref_SameDocs d d)
        · (simp (config := { maxSteps := 2000000 }) only [go_sem, reduceCtorEq, Nat.reduceAdd, Nat.reduceEqDiff, reduceIte, Nat.reduceLeDiff, Nat.reduceLT, Nat.reduceSub]; rfl)
        · intro h; repeat' (first | exact trivial | exact h | refine And.intro ?_ ?_)
        try simp (config := { maxSteps := 2000000 }) only [go_sem, reduceCtorEq, Nat.reduceAdd, Nat.reduceEqDiff, reduceIte, Nat.reduceLeDiff, Nat.reduceLT, Nat.reduceSub, dec_self, Bool.not_true]
        all_goals (repeat (with_reducible refine sAnd ?_))
        refine cond_of (by rfl) trivial (fun h2 => ?_) (fun h2 => ?_)
        · simp at h2
        · try simp (config := { maxSteps := 2000000 }) only [go_sem, reduceCtorEq, Nat.reduceAdd, Nat.reduceEqDiff, reduceIte, Nat.reduceLeDiff, Nat.reduceLT, Nat.reduceSub]
          all_goals (repeat (with_reducible refine sAnd ?_))
          refine call_tup (by repeat' constructor) (hR) ?_
          try simp (config := { maxSteps := 2000000 }) only [go_sem, reduceCtorEq, Nat.reduceAdd, Nat.reduceEqDiff, reduceIte, Nat.reduceLeDiff, Nat.reduceLT, Nat.reduceSub]
          all_goals (repeat (with_reducible refine sAnd ?_))
          refine cond_of (by rfl) trivial (fun h3 => ?_) (fun h3 => ?_)
          · try simp (config := { maxSteps := 2000000 }) only [go_sem, reduceCtorEq, Nat.reduceAdd, Nat.reduceEqDiff, reduceIte, Nat.reduceLeDiff, Nat.reduceLT, Nat.reduceSub]
            all_goals (repeat (with_reducible refine sAnd ?_))
            refine call_val (by repeat' constructor) (hB) ?_
            try simp (config := { maxSteps := 2000000 }) only [go_sem, reduceCtorEq, Nat.reduceAdd, Nat.reduceEqDiff, reduceIte, Nat.reduceLeDiff, Nat.reduceLT, Nat.reduceSub]
            all_goals (repeat (with_reducible refine sAnd ?_))
            try simp (config := { maxSteps := 2000000 }) only [go_sem, reduceCtorEq, Nat.reduceAdd, Nat.reduceEqDiff, reduceIte, Nat.reduceLeDiff, Nat.reduceLT, Nat.reduceSub]
            all_goals (repeat (with_reducible refine sAnd ?_))
            refine fin_val rfl trivial (.inl ?_)
            congr 3
          · simp at h3
      · simp at h
    · rw [if_neg hc] at hS
      refine mk_law_MarkBack (base := 0) ⟨Nat.le_of_ble_eq_true rfl, Nat.le_of_ble_eq_true rfl, Nat.le_of_ble_eq_true rfl, rfl⟩ (fun hfit => ?_)
      unfold F0 law_MarkBack_E
      simp (config := { maxSteps := 2000000 }) only [markU, List.set_cons_succ, List.set_cons_zero, List.map_cons, List.map_nil, argCt, setCells, ioOf, List.length_cons, List.length_nil, Nat.reduceAdd, Nat.reduceSub, List.replicate, List.cons_append, List.nil_append]
      try simp (config := { maxSteps := 2000000 }) only [go_sem, reduceCtorEq, Nat.reduceAdd, Nat.reduceEqDiff, reduceIte, Nat.reduceLeDiff, Nat.reduceLT, Nat.reduceSub]
      all_goals (repeat (with_reducible refine sAnd ?_))
      refine call_tup (by repeat' constructor) (hS) ?_
      try simp (config := { maxSteps := 2000000 }) only [go_sem, reduceCtorEq, Nat.reduceAdd, Nat.reduceEqDiff, reduceIte, Nat.reduceLeDiff, Nat.reduceLT, Nat.reduceSub]
      all_goals (repeat (with_reducible refine sAnd ?_))
      refine cond_of (by rfl) trivial (fun h => ?_) (fun h => ?_)
      · simp [hc] at h
      · try simp (config := { maxSteps := 2000000 }) only [go_sem, reduceCtorEq, Nat.reduceAdd, Nat.reduceEqDiff, reduceIte, Nat.reduceLeDiff, Nat.reduceLT, Nat.reduceSub]
        all_goals (repeat (with_reducible refine sAnd ?_))
        refine call_tup (by repeat' constructor) (hR) ?_
        try simp (config := { maxSteps := 2000000 }) only [go_sem, reduceCtorEq, Nat.reduceAdd, Nat.reduceEqDiff, reduceIte, Nat.reduceLeDiff, Nat.reduceLT, Nat.reduceSub]
        all_goals (repeat (with_reducible refine sAnd ?_))
        refine cond_of (by rfl) trivial (fun h3 => ?_) (fun h3 => ?_)
        · try simp (config := { maxSteps := 2000000 }) only [go_sem, reduceCtorEq, Nat.reduceAdd, Nat.reduceEqDiff, reduceIte, Nat.reduceLeDiff, Nat.reduceLT, Nat.reduceSub]
          all_goals (repeat (with_reducible refine sAnd ?_))
          refine call_val (by repeat' constructor) (hB) ?_
          try simp (config := { maxSteps := 2000000 }) only [go_sem, reduceCtorEq, Nat.reduceAdd, Nat.reduceEqDiff, reduceIte, Nat.reduceLeDiff, Nat.reduceLT, Nat.reduceSub]
          all_goals (repeat (with_reducible refine sAnd ?_))
          try simp (config := { maxSteps := 2000000 }) only [go_sem, reduceCtorEq, Nat.reduceAdd, Nat.reduceEqDiff, reduceIte, Nat.reduceLeDiff, Nat.reduceLT, Nat.reduceSub]
          all_goals (repeat (with_reducible refine sAnd ?_))
          refine fin_val rfl trivial (.inl ?_)
          congr 3
        · simp at h3
  | some D =>
    rw [read_ok hr] at hR
    obtain ⟨hcD, htD⟩ := read_iff.1 hr
    have hS2 := c_mark_Show D
    rw [if_pos hcD, hcD, htD] at hS2
    by_cases hc : checkDoc d = 0
    · rw [if_pos hc, hc] at hS
      have hQ := c_mark_Read hM (docText d) (Nat.le_trans (docText_len hc) (by decide))
      rw [read_ok (text_facts hc).1] at hQ
      refine mk_law_MarkBack (base := 0) ⟨Nat.le_of_ble_eq_true rfl, Nat.le_of_ble_eq_true rfl, Nat.le_of_ble_eq_true rfl, rfl⟩ (fun hfit => ?_)
      unfold F0 law_MarkBack_E
      simp (config := { maxSteps := 2000000 }) only [markU, List.set_cons_succ, List.set_cons_zero, List.map_cons, List.map_nil, argCt, setCells, ioOf, List.length_cons, List.length_nil, Nat.reduceAdd, Nat.reduceSub, List.replicate, List.cons_append, List.nil_append]
      try simp (config := { maxSteps := 2000000 }) only [go_sem, reduceCtorEq, Nat.reduceAdd, Nat.reduceEqDiff, reduceIte, Nat.reduceLeDiff, Nat.reduceLT, Nat.reduceSub]
      all_goals (repeat (with_reducible refine sAnd ?_))
      refine call_tup (by repeat' constructor) (hS) ?_
      try simp (config := { maxSteps := 2000000 }) only [go_sem, reduceCtorEq, Nat.reduceAdd, Nat.reduceEqDiff, reduceIte, Nat.reduceLeDiff, Nat.reduceLT, Nat.reduceSub]
      all_goals (repeat (with_reducible refine sAnd ?_))
      refine cond_of (by rfl) trivial (fun h => ?_) (fun h => ?_)
      · try simp (config := { maxSteps := 2000000 }) only [go_sem, reduceCtorEq, Nat.reduceAdd, Nat.reduceEqDiff, reduceIte, Nat.reduceLeDiff, Nat.reduceLT, Nat.reduceSub]
        all_goals (repeat (with_reducible refine sAnd ?_))
        refine call_tup (by repeat' constructor) (hQ) ?_
        try simp (config := { maxSteps := 2000000 }) only [go_sem, reduceCtorEq, Nat.reduceAdd, Nat.reduceEqDiff, reduceIte, Nat.reduceLeDiff, Nat.reduceLT, Nat.reduceSub]
        all_goals (repeat (with_reducible refine sAnd ?_))
        apply call_guard (h2 := fun _ => c_ref_SameDocs d d)
        · (simp (config := { maxSteps := 2000000 }) only [go_sem, reduceCtorEq, Nat.reduceAdd, Nat.reduceEqDiff, reduceIte, Nat.reduceLeDiff, Nat.reduceLT, Nat.reduceSub]; rfl)
        · intro h; repeat' (first | exact trivial | exact h | refine And.intro ?_ ?_)
        try simp (config := { maxSteps := 2000000 }) only [go_sem, reduceCtorEq, Nat.reduceAdd, Nat.reduceEqDiff, reduceIte, Nat.reduceLeDiff, Nat.reduceLT, Nat.reduceSub, dec_self, Bool.not_true]
        all_goals (repeat (with_reducible refine sAnd ?_))
        refine cond_of (by rfl) trivial (fun h2 => ?_) (fun h2 => ?_)
        · simp at h2
        · try simp (config := { maxSteps := 2000000 }) only [go_sem, reduceCtorEq, Nat.reduceAdd, Nat.reduceEqDiff, reduceIte, Nat.reduceLeDiff, Nat.reduceLT, Nat.reduceSub]
          all_goals (repeat (with_reducible refine sAnd ?_))
          refine call_tup (by repeat' constructor) (hR) ?_
          try simp (config := { maxSteps := 2000000 }) only [go_sem, reduceCtorEq, Nat.reduceAdd, Nat.reduceEqDiff, reduceIte, Nat.reduceLeDiff, Nat.reduceLT, Nat.reduceSub]
          all_goals (repeat (with_reducible refine sAnd ?_))
          refine cond_of (by rfl) trivial (fun h3 => ?_) (fun h3 => ?_)
          · simp at h3
          · try simp (config := { maxSteps := 2000000 }) only [go_sem, reduceCtorEq, Nat.reduceAdd, Nat.reduceEqDiff, reduceIte, Nat.reduceLeDiff, Nat.reduceLT, Nat.reduceSub]
            all_goals (repeat (with_reducible refine sAnd ?_))
            refine call_tup (by repeat' constructor) (hS2) ?_
            try simp (config := { maxSteps := 2000000 }) only [go_sem, reduceCtorEq, Nat.reduceAdd, Nat.reduceEqDiff, reduceIte, Nat.reduceLeDiff, Nat.reduceLT, Nat.reduceSub]
            all_goals (repeat (with_reducible refine sAnd ?_))
            refine call_val (by repeat' constructor) (hB) ?_
            try simp (config := { maxSteps := 2000000 }) only [go_sem, reduceCtorEq, Nat.reduceAdd, Nat.reduceEqDiff, reduceIte, Nat.reduceLeDiff, Nat.reduceLT, Nat.reduceSub, beq_self_eq_true, cond_true]
            all_goals (repeat (with_reducible refine sAnd ?_))
            refine fin_val rfl trivial (.inl ?_)
            simp
      · simp at h
    · rw [if_neg hc] at hS
      refine mk_law_MarkBack (base := 0) ⟨Nat.le_of_ble_eq_true rfl, Nat.le_of_ble_eq_true rfl, Nat.le_of_ble_eq_true rfl, rfl⟩ (fun hfit => ?_)
      unfold F0 law_MarkBack_E
      simp (config := { maxSteps := 2000000 }) only [markU, List.set_cons_succ, List.set_cons_zero, List.map_cons, List.map_nil, argCt, setCells, ioOf, List.length_cons, List.length_nil, Nat.reduceAdd, Nat.reduceSub, List.replicate, List.cons_append, List.nil_append]
      try simp (config := { maxSteps := 2000000 }) only [go_sem, reduceCtorEq, Nat.reduceAdd, Nat.reduceEqDiff, reduceIte, Nat.reduceLeDiff, Nat.reduceLT, Nat.reduceSub]
      all_goals (repeat (with_reducible refine sAnd ?_))
      refine call_tup (by repeat' constructor) (hS) ?_
      try simp (config := { maxSteps := 2000000 }) only [go_sem, reduceCtorEq, Nat.reduceAdd, Nat.reduceEqDiff, reduceIte, Nat.reduceLeDiff, Nat.reduceLT, Nat.reduceSub]
      all_goals (repeat (with_reducible refine sAnd ?_))
      refine cond_of (by rfl) trivial (fun h => ?_) (fun h => ?_)
      · simp [hc] at h
      · try simp (config := { maxSteps := 2000000 }) only [go_sem, reduceCtorEq, Nat.reduceAdd, Nat.reduceEqDiff, reduceIte, Nat.reduceLeDiff, Nat.reduceLT, Nat.reduceSub]
        all_goals (repeat (with_reducible refine sAnd ?_))
        refine call_tup (by repeat' constructor) (hR) ?_
        try simp (config := { maxSteps := 2000000 }) only [go_sem, reduceCtorEq, Nat.reduceAdd, Nat.reduceEqDiff, reduceIte, Nat.reduceLeDiff, Nat.reduceLT, Nat.reduceSub]
        all_goals (repeat (with_reducible refine sAnd ?_))
        refine cond_of (by rfl) trivial (fun h3 => ?_) (fun h3 => ?_)
        · simp at h3
        · try simp (config := { maxSteps := 2000000 }) only [go_sem, reduceCtorEq, Nat.reduceAdd, Nat.reduceEqDiff, reduceIte, Nat.reduceLeDiff, Nat.reduceLT, Nat.reduceSub]
          all_goals (repeat (with_reducible refine sAnd ?_))
          refine call_tup (by repeat' constructor) (hS2) ?_
          try simp (config := { maxSteps := 2000000 }) only [go_sem, reduceCtorEq, Nat.reduceAdd, Nat.reduceEqDiff, reduceIte, Nat.reduceLeDiff, Nat.reduceLT, Nat.reduceSub]
          all_goals (repeat (with_reducible refine sAnd ?_))
          refine call_val (by repeat' constructor) (hB) ?_
          try simp (config := { maxSteps := 2000000 }) only [go_sem, reduceCtorEq, Nat.reduceAdd, Nat.reduceEqDiff, reduceIte, Nat.reduceLeDiff, Nat.reduceLT, Nat.reduceSub, beq_self_eq_true, cond_true]
          all_goals (repeat (with_reducible refine sAnd ?_))
          refine fin_val rfl trivial (.inl ?_)
          simp
end Go.Hx
end
