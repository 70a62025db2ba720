/-
  Walks of functions of the program over an abstract layer, and the laws that they use: each contract says what the function computes, for every input that its conditions let by. No other condition.
-/
import Derived.Test.YtjnagiaooecklaaDoorG21
import Derived.Test.YtjnagiaooecklaaDoorG17
import Derived.Test.YtjnagiaooecklaaDoorG9
set_option linter.all false
section
-- DOM getO, listV, intsR_len, ptsV_len, stsV_len, tssV_len
set_option maxRecDepth 100000
set_option linter.unusedSimpArgs false
set_option maxHeartbeats 4000000
namespace Go.Hx
open Go.Proofs
variable [Glob]

attribute [local go_sem] ndsV_len clsV_len attV_len intsR_len ndV cellsEq getO listV ptsV_len stsV_len tssV_len
theorem pzP_eq (p : Pt) : pzP p = pzSs p.steps := by cases p; rfl
theorem pzS_eq (p : St) : pzS p = 1 + pzTs p.tests := by cases p; rfl
theorem pzT_eq (p : Ts) : pzT p = 1 + pzPs p.list := by cases p; rfl
theorem pzPs_get {l : List Pt} {i : Nat} (h : i < l.length) : pzPs (l.drop i) = pzSs (l.getD i default).steps + pzPs (l.drop (i + 1)) := by
  rw [drop_get (d := default) h, pzPs, pzP_eq]
theorem pzSs_get {l : List St} {i : Nat} (h : i < l.length) : pzSs (l.drop i) = 1 + pzTs (l.getD i default).tests + pzSs (l.drop (i + 1)) := by
  rw [drop_get (d := default) h, pzSs, pzS_eq]
theorem pzTs_get {l : List Ts} {i : Nat} (h : i < l.length) : pzTs (l.drop i) = 1 + pzPs (l.getD i default).list + pzTs (l.drop (i + 1)) := by
  rw [drop_get (d := default) h, pzTs, pzT_eq]

theorem good_size : ∀ (N : Nat) (l : List Pt), SizeOf.sizeOf l ≤ N → pzPs l ≤ 10000000 → Contract Tryd.prog fn_plain_size [.val (.one (.sl 2 (ptsV l)))] { res := .val (iv (pzPs l)) }
  | 0, l, h, _ => by have := sz_pos_pt l; omega
  | N + 1, l, hN, hz => by
    have ih := good_size N
    refine mk_plain_size (base := 0) ⟨Nat.le_of_ble_eq_true rfl, Nat.le_of_ble_eq_true rfl, Nat.le_of_ble_eq_true rfl, rfl⟩ (fun hfit => ?_)
    unfold F0 plain_size_E
    simp (config := { maxSteps := 2000000 }) only [markU, List.set_cons_succ, List.set_cons_zero, List.map_cons, List.map_nil, argCt, setCells, ioOf, List.length_cons, List.length_nil, Nat.reduceAdd, Nat.reduceSub, List.replicate, List.cons_append, List.nil_append]
    try simp (config := { maxSteps := 2000000 }) only [go_sem, reduceCtorEq, Nat.reduceAdd, Nat.reduceEqDiff, reduceIte, Nat.reduceLeDiff, Nat.reduceLT, Nat.reduceSub]
    all_goals (repeat (with_reducible refine sAnd ?_))
    have fl := fits_pl hfit.1
    refine loop_sets (fun x : Nat × Nat => [(12, .pv (iv x.1)), (3, .pv (iv x.2)), (5, .un), (7, .un), (9, .un), (13, .un), (17, .un), (18, .un), (19, .un), (20, .un), (26, .un), (27, .un), (28, .un), (29, .un), (42, .un), (43, .un), (44, .un), (45, .un), (46, .un), (47, .un), (48, .un), (49, .un), (50, .un), (51, .un)]) (fun x : Nat × Nat => l.length - x.1) (fun x : Nat × Nat => x.1 ≤ l.length ∧ x.2 + pzPs (l.drop x.1) = pzPs l) ((0, 0)) ?_ ⟨Nat.zero_le _, by simp⟩ ?_
    focus (simp (config := { maxSteps := 2000000 }) only [go_sem, reduceCtorEq, Nat.reduceAdd, Nat.reduceEqDiff, reduceIte, Nat.reduceLeDiff, Nat.reduceLT, Nat.reduceSub, le_cons, le_nil, le_un, le_same]; all_goals (repeat' (first | exact trivial | exact le_int (by omega) | exact le_bool rfl | exact le_eq rfl | exact le_nlo | exact le_refl _ | refine And.intro ?_ ?_)))
    rintro ⟨i, n⟩ ⟨hi, hn⟩
    simp only at hi hn
    try simp (config := { maxSteps := 2000000 }) only [go_sem, reduceCtorEq, Nat.reduceAdd, Nat.reduceEqDiff, reduceIte, Nat.reduceLeDiff, Nat.reduceLT, Nat.reduceSub]
    all_goals (repeat (with_reducible refine sAnd ?_))
    refine cond_of (by rfl) trivial (fun h2 => ?_) (fun h2 => ?_)
    · have hil : i < l.length := by simp at h2; omega
      rw [pzPs_get hil] at hn
      obtain ⟨p, hp⟩ : ∃ p, p = l.getD i default := ⟨_, rfl⟩
      have e1 := ptsV_get l i hil
      have fp := fits_pts hfit.1 hil
      have hpl : SizeOf.sizeOf p.steps ≤ N := by
        have h3 := lt_pt hil
        have h4 := lt_steps p
        rw [← hp] at h3
        omega
      rw [← hp, ptV_eq] at e1
      rw [← hp] at hn fp
      have fps := fits_slen fp.1
      try simp (config := { maxSteps := 2000000 }) only [go_sem, reduceCtorEq, Nat.reduceAdd, Nat.reduceEqDiff, reduceIte, Nat.reduceLeDiff, Nat.reduceLT, Nat.reduceSub, e1]
      all_goals (repeat (with_reducible refine sAnd ?_))
      refine loop_sets (fun x : Nat × Nat => [(19, .pv (iv x.1)), (3, .pv (iv x.2)), (7, .un), (9, .un), (20, .un), (26, .un), (27, .un), (28, .un), (29, .un), (44, .un), (45, .un), (46, .un), (47, .un), (48, .un), (49, .un), (50, .un), (51, .un)]) (fun x : Nat × Nat => p.steps.length - x.1) (fun x : Nat × Nat => x.1 ≤ p.steps.length ∧ x.2 + pzSs (p.steps.drop x.1) = n + pzSs p.steps) ((0, n)) ?_ ⟨Nat.zero_le _, by simp⟩ ?_
      focus (simp (config := { maxSteps := 2000000 }) only [go_sem, reduceCtorEq, Nat.reduceAdd, Nat.reduceEqDiff, reduceIte, Nat.reduceLeDiff, Nat.reduceLT, Nat.reduceSub, le_cons, le_nil, le_un, le_same]; all_goals (repeat' (first | exact trivial | exact le_int (by omega) | exact le_bool rfl | exact le_eq rfl | exact le_nlo | exact le_refl _ | refine And.intro ?_ ?_)))
      rintro ⟨j, m⟩ ⟨hj, hm⟩
      simp only at hj hm
      try simp (config := { maxSteps := 2000000 }) only [go_sem, reduceCtorEq, Nat.reduceAdd, Nat.reduceEqDiff, reduceIte, Nat.reduceLeDiff, Nat.reduceLT, Nat.reduceSub]
      all_goals (repeat (with_reducible refine sAnd ?_))
      refine cond_of (by rfl) trivial (fun h4 => ?_) (fun h4 => ?_)
      · have hjl : j < p.steps.length := by simp at h4; omega
        rw [pzSs_get hjl] at hm
        obtain ⟨q, hq⟩ : ∃ q, q = p.steps.getD j default := ⟨_, rfl⟩
        have e2 := stsV_get p.steps j hjl
        have fq := fits_sts fp.1 hjl
        have hszq := lt_st hjl
        rw [← hq, stV_eq] at e2
        rw [← hq] at hm fq hszq
        have fqt := fits_tl fq
        try simp (config := { maxSteps := 2000000 }) only [go_sem, reduceCtorEq, Nat.reduceAdd, Nat.reduceEqDiff, reduceIte, Nat.reduceLeDiff, Nat.reduceLT, Nat.reduceSub, e2]
        all_goals (repeat (with_reducible refine sAnd ?_))
        refine loop_sets (fun x : Nat × Nat => [(28, .pv (iv x.1)), (3, .pv (iv x.2)), (9, .un), (29, .un), (46, .un), (47, .un), (48, .un), (49, .un), (50, .un), (51, .un)]) (fun x : Nat × Nat => q.tests.length - x.1) (fun x : Nat × Nat => x.1 ≤ q.tests.length ∧ x.2 + pzTs (q.tests.drop x.1) = m + 1 + pzTs q.tests) ((0, m + 1)) ?_ ⟨Nat.zero_le _, by simp⟩ ?_
        focus (simp (config := { maxSteps := 2000000 }) only [go_sem, reduceCtorEq, Nat.reduceAdd, Nat.reduceEqDiff, reduceIte, Nat.reduceLeDiff, Nat.reduceLT, Nat.reduceSub, le_cons, le_nil, le_un, le_same]; all_goals (repeat' (first | exact trivial | exact le_int (by omega) | exact le_bool rfl | exact le_eq rfl | exact le_nlo | exact le_refl _ | refine And.intro ?_ ?_)))
        rintro ⟨k, r⟩ ⟨hk, hr⟩
        simp only at hk hr
        try simp (config := { maxSteps := 2000000 }) only [go_sem, reduceCtorEq, Nat.reduceAdd, Nat.reduceEqDiff, reduceIte, Nat.reduceLeDiff, Nat.reduceLT, Nat.reduceSub]
        all_goals (repeat (with_reducible refine sAnd ?_))
        refine cond_of (by rfl) trivial (fun h6 => ?_) (fun h6 => ?_)
        · have hkl : k < q.tests.length := by simp at h6; omega
          rw [pzTs_get hkl] at hr
          obtain ⟨t, ht⟩ : ∃ t, t = q.tests.getD k default := ⟨_, rfl⟩
          have e3 := tssV_get q.tests k hkl
          rw [← ht, tsV_eq] at e3
          have hszt : SizeOf.sizeOf t.list ≤ N := by
            have h7 := lt_ts hkl
            have h8 := lt_tests q
            have h9 := lt_list t
            rw [← ht] at h7
            omega
          rw [← ht] at hr
          have hc := ih t.list hszt (by omega)
          try simp (config := { maxSteps := 2000000 }) only [go_sem, reduceCtorEq, Nat.reduceAdd, Nat.reduceEqDiff, reduceIte, Nat.reduceLeDiff, Nat.reduceLT, Nat.reduceSub, e3]
          all_goals (repeat (with_reducible refine sAnd ?_))
          refine call_val (by repeat' constructor) (hc) ?_
          try simp (config := { maxSteps := 2000000 }) only [go_sem, reduceCtorEq, Nat.reduceAdd, Nat.reduceEqDiff, reduceIte, Nat.reduceLeDiff, Nat.reduceLT, Nat.reduceSub]
          all_goals (repeat (with_reducible refine sAnd ?_))
          refine ⟨(k + 1, r + (1 + pzPs t.list)), by simp only; omega, ⟨by simp only; omega, by simp only; omega⟩, ?_⟩
          simp (config := { maxSteps := 2000000 }) only [go_sem, reduceCtorEq, Nat.reduceAdd, Nat.reduceEqDiff, reduceIte, Nat.reduceLeDiff, Nat.reduceLT, Nat.reduceSub, le_cons, le_nil, le_un, le_same]
          all_goals (repeat' (first | exact trivial | exact le_int (by omega) | exact le_bool rfl | exact le_eq rfl | exact le_nlo | exact le_refl _ | refine And.intro ?_ ?_))
        · have hkl : k = q.tests.length := by simp at h6; omega
          rw [hkl, List.drop_length] at hr
          simp only [pzTs] at hr
          try simp (config := { maxSteps := 2000000 }) only [go_sem, reduceCtorEq, Nat.reduceAdd, Nat.reduceEqDiff, reduceIte, Nat.reduceLeDiff, Nat.reduceLT, Nat.reduceSub]
          all_goals (repeat (with_reducible refine sAnd ?_))
          refine ⟨(j + 1, r), by simp only; omega, ⟨by simp only; omega, by simp only; omega⟩, ?_⟩
          simp (config := { maxSteps := 2000000 }) only [go_sem, reduceCtorEq, Nat.reduceAdd, Nat.reduceEqDiff, reduceIte, Nat.reduceLeDiff, Nat.reduceLT, Nat.reduceSub, le_cons, le_nil, le_un, le_same]
          all_goals (repeat' (first | exact trivial | exact le_int (by omega) | exact le_bool rfl | exact le_eq rfl | exact le_nlo | exact le_refl _ | refine And.intro ?_ ?_))
      · have hjl : j = p.steps.length := by simp at h4; omega
        rw [hjl, List.drop_length] at hm
        simp only [pzSs] at hm
        try simp (config := { maxSteps := 2000000 }) only [go_sem, reduceCtorEq, Nat.reduceAdd, Nat.reduceEqDiff, reduceIte, Nat.reduceLeDiff, Nat.reduceLT, Nat.reduceSub]
        all_goals (repeat (with_reducible refine sAnd ?_))
        refine ⟨(i + 1, m), by simp only; omega, ⟨by simp only; omega, by simp only; omega⟩, ?_⟩
        simp (config := { maxSteps := 2000000 }) only [go_sem, reduceCtorEq, Nat.reduceAdd, Nat.reduceEqDiff, reduceIte, Nat.reduceLeDiff, Nat.reduceLT, Nat.reduceSub, le_cons, le_nil, le_un, le_same]
        all_goals (repeat' (first | exact trivial | exact le_int (by omega) | exact le_bool rfl | exact le_eq rfl | exact le_nlo | exact le_refl _ | refine And.intro ?_ ?_))
    · have hil : i = l.length := by simp at h2; omega
      rw [hil, List.drop_length] at hn
      simp only [pzPs] at hn
      try simp (config := { maxSteps := 2000000 }) only [go_sem, reduceCtorEq, Nat.reduceAdd, Nat.reduceEqDiff, reduceIte, Nat.reduceLeDiff, Nat.reduceLT, Nat.reduceSub]
      all_goals (repeat (with_reducible refine sAnd ?_))
      refine fin_val rfl trivial (.inl ?_)
      congr 3
      omega
theorem c_plain_Size (l : List Pt) : Contract Tryd.prog fn_plain_Size [.val (.one (.sl 2 (ptsV l)))] { res := .tup [iv (if checkL l = 0 then (pzPs l : Int) else 0), iv (checkL l)] } := by
  have hc := c_path_Check l
  unfold listV at hc
  refine mk_plain_Size (base := 0) ⟨Nat.le_of_ble_eq_true rfl, Nat.le_of_ble_eq_true rfl, Nat.le_of_ble_eq_true rfl, rfl⟩ (fun hfit => ?_)
  unfold F0 plain_Size_E
  simp (config := { maxSteps := 2000000 }) only [markU, List.set_cons_succ, List.set_cons_zero, List.map_cons, List.map_nil, argCt, setCells, ioOf, List.length_cons, List.length_nil, Nat.reduceAdd, Nat.reduceSub, List.replicate, List.cons_append, List.nil_append]
  try simp (config := { maxSteps := 2000000 }) only [go_sem, reduceCtorEq, Nat.reduceAdd, Nat.reduceEqDiff, reduceIte, Nat.reduceLeDiff, Nat.reduceLT, Nat.reduceSub]
  all_goals (repeat (with_reducible refine sAnd ?_))
  refine call_val (by repeat' constructor) (hc) ?_
  try simp (config := { maxSteps := 2000000 }) only [go_sem, reduceCtorEq, Nat.reduceAdd, Nat.reduceEqDiff, reduceIte, Nat.reduceLeDiff, Nat.reduceLT, Nat.reduceSub]
  all_goals (repeat (with_reducible refine sAnd ?_))
  refine cond_of (by rfl) trivial (fun h => ?_) (fun h => ?_)
  · have h2 : ¬ checkL l = 0 := by simpa using h
    rw [if_neg h2]
    try simp (config := { maxSteps := 2000000 }) only [go_sem, reduceCtorEq, Nat.reduceAdd, Nat.reduceEqDiff, reduceIte, Nat.reduceLeDiff, Nat.reduceLT, Nat.reduceSub]
    all_goals (repeat (with_reducible refine sAnd ?_))
    exact fin_tup (by simp) ⟨rs_tmp rfl trivial (.inl rfl), rs_tmp rfl trivial (.inl rfl), rfl⟩
  · have h2 : checkL l = 0 := by simpa using h
    rw [if_pos h2]
    try simp (config := { maxSteps := 2000000 }) only [go_sem, reduceCtorEq, Nat.reduceAdd, Nat.reduceEqDiff, reduceIte, Nat.reduceLeDiff, Nat.reduceLT, Nat.reduceSub]
    all_goals (repeat (with_reducible refine sAnd ?_))
    refine call_val (by repeat' constructor) (good_size _ l (Nat.le_refl _) (pz_le l h2)) ?_
    try simp (config := { maxSteps := 2000000 }) only [go_sem, reduceCtorEq, Nat.reduceAdd, Nat.reduceEqDiff, reduceIte, Nat.reduceLeDiff, Nat.reduceLT, Nat.reduceSub]
    all_goals (repeat (with_reducible refine sAnd ?_))
    rw [h2]
    exact fin_tup (by simp) ⟨rs_tmp rfl trivial (.inl rfl), rs_tmp rfl trivial (.inl rfl), rfl⟩
end Go.Hx
end

section
-- DOM getO, listV, intsR_len, ptsV_len, stsV_len, tssV_len, List.nil_append
set_option maxRecDepth 100000
set_option linter.unusedSimpArgs false
set_option maxHeartbeats 4000000
namespace Go.Hx
open Go.Proofs
variable [Glob]

attribute [local go_sem] ndsV_len clsV_len attV_len intsR_len ndV cellsEq getO listV ptsV_len stsV_len tssV_len List.nil_append
theorem good_own : ∀ (N : Nat) (l : List Pt), SizeOf.sizeOf l ≤ N → shL l = true → Contract Tryd.prog fn_ref_OwnList [.val (.one (.sl 2 (ptsV l)))] { res := .own ty_api_Path 2 (ptsV l) }
  | 0, l, h, _ => by have := sz_pos_pt l; omega
  | N + 1, l, hN, hsh => by
    have ih := good_own N
    obtain ⟨hlen, hshl⟩ := sh_paths hsh
    refine mk_ref_OwnList (base := 0) ⟨Nat.le_of_ble_eq_true rfl, Nat.le_of_ble_eq_true rfl, Nat.le_of_ble_eq_true rfl, rfl⟩ (fun hfit => ?_)
    unfold F0 ref_OwnList_E
    simp (config := { maxSteps := 2000000 }) only [markU, List.set_cons_succ, List.set_cons_zero, List.map_cons, List.map_nil, argCt, setCells, ioOf, List.length_cons, List.length_nil, Nat.reduceAdd, Nat.reduceSub, List.replicate, List.cons_append, List.nil_append]
    try simp (config := { maxSteps := 2000000 }) only [go_sem, reduceCtorEq, Nat.reduceAdd, Nat.reduceEqDiff, reduceIte, Nat.reduceLeDiff, Nat.reduceLT, Nat.reduceSub]
    all_goals (repeat (with_reducible refine sAnd ?_))
    refine loop_sets (fun i : Nat => [(4, .pv (iv i)), (3, .own ty_api_Path 2 (ptsV (l.take i))), (5, .un), (6, .un), (7, .un), (8, .un), (9, .un), (13, .un), (31, .un), (55, .un), (91, .un), (92, .un), (93, .un), (94, .un), (95, .un), (96, .un), (97, .un), (98, .un), (99, .un), (100, .un)]) (fun i : Nat => l.length - i) (fun i : Nat => i ≤ l.length) (0) ?_ (Nat.zero_le _) ?_
    focus (simp (config := { maxSteps := 2000000 }) only [go_sem, reduceCtorEq, Nat.reduceAdd, Nat.reduceEqDiff, reduceIte, Nat.reduceLeDiff, Nat.reduceLT, Nat.reduceSub, le_cons, le_nil, le_un, le_same]; all_goals (repeat' (first | exact trivial | exact le_int (by omega) | exact le_bool rfl | exact le_eq rfl | exact le_nlo | exact le_refl _ | refine And.intro ?_ ?_)))
    rintro i hi
    try simp (config := { maxSteps := 2000000 }) only [go_sem, reduceCtorEq, Nat.reduceAdd, Nat.reduceEqDiff, reduceIte, Nat.reduceLeDiff, Nat.reduceLT, Nat.reduceSub]
    all_goals (repeat (with_reducible refine sAnd ?_))
    refine cond_of (by rfl) trivial (fun h2 => ?_) (fun h2 => ?_)
    · have hil : i < l.length := by simp at h2; omega
      obtain ⟨p, hp⟩ : ∃ p, p = l.getD i default := ⟨_, rfl⟩
      have e1 := ptsV_get l i hil
      have hps := hshl i hil
      have hpl : SizeOf.sizeOf p.steps ≤ N := by
        have h3 := lt_pt hil
        have h4 := lt_steps p
        rw [← hp] at h3
        omega
      rw [← hp, ptV_eq] at e1
      rw [← hp] at hps
      obtain ⟨hs1, hs2, hs3⟩ := sh_steps hps
      have hln : (l.take i).length = i := by simp; omega
      try simp (config := { maxSteps := 2000000 }) only [go_sem, reduceCtorEq, Nat.reduceAdd, Nat.reduceEqDiff, reduceIte, Nat.reduceLeDiff, Nat.reduceLT, Nat.reduceSub, e1]
      all_goals (repeat (with_reducible refine sAnd ?_))
      refine loop_sets (fun j : Nat => [(6, .pv (iv j)), (91, .own ty_api_Step 2 (stsV (p.steps.take j))), (7, .un), (8, .un), (9, .un), (31, .un), (55, .un), (93, .un), (94, .un), (95, .un), (96, .un), (97, .un), (98, .un), (99, .un), (100, .un)]) (fun j : Nat => p.steps.length - j) (fun j : Nat => j ≤ p.steps.length) (0) ?_ (Nat.zero_le _) ?_
      focus (simp (config := { maxSteps := 2000000 }) only [go_sem, reduceCtorEq, Nat.reduceAdd, Nat.reduceEqDiff, reduceIte, Nat.reduceLeDiff, Nat.reduceLT, Nat.reduceSub, le_cons, le_nil, le_un, le_same]; all_goals (repeat' (first | exact trivial | exact le_int (by omega) | exact le_bool rfl | exact le_eq rfl | exact le_nlo | exact le_refl _ | refine And.intro ?_ ?_)))
      rintro j hj
      try simp (config := { maxSteps := 2000000 }) only [go_sem, reduceCtorEq, Nat.reduceAdd, Nat.reduceEqDiff, reduceIte, Nat.reduceLeDiff, Nat.reduceLT, Nat.reduceSub, e1]
      all_goals (repeat (with_reducible refine sAnd ?_))
      refine cond_of (by rfl) trivial (fun h4 => ?_) (fun h4 => ?_)
      · have hjl : j < p.steps.length := by simp at h4; omega
        obtain ⟨q, hq⟩ : ∃ q, q = p.steps.getD j default := ⟨_, rfl⟩
        have e2 := stsV_get p.steps j hjl
        have hsj := hs3 j hjl
        have hszq := lt_st hjl
        rw [← hq, stV_eq] at e2
        rw [← hq] at hsj hszq
        obtain ⟨ht1, ht2⟩ := sh_tests hsj
        have hln2 : (p.steps.take j).length = j := by simp; omega
        try simp (config := { maxSteps := 2000000 }) only [go_sem, reduceCtorEq, Nat.reduceAdd, Nat.reduceEqDiff, reduceIte, Nat.reduceLeDiff, Nat.reduceLT, Nat.reduceSub, e1, e2]
        all_goals (repeat (with_reducible refine sAnd ?_))
        refine loop_sets (fun k : Nat => [(8, .pv (iv k)), (94, .own ty_api_Test 6 (tssV (q.tests.take k))), (9, .un), (55, .un), (95, .un), (96, .un), (97, .un), (98, .un), (99, .un), (100, .un)]) (fun k : Nat => q.tests.length - k) (fun k : Nat => k ≤ q.tests.length) (0) ?_ (Nat.zero_le _) ?_
        focus (simp (config := { maxSteps := 2000000 }) only [go_sem, reduceCtorEq, Nat.reduceAdd, Nat.reduceEqDiff, reduceIte, Nat.reduceLeDiff, Nat.reduceLT, Nat.reduceSub, le_cons, le_nil, le_un, le_same]; all_goals (repeat' (first | exact trivial | exact le_int (by omega) | exact le_bool rfl | exact le_eq rfl | exact le_nlo | exact le_refl _ | refine And.intro ?_ ?_)))
        rintro k hk
        try simp (config := { maxSteps := 2000000 }) only [go_sem, reduceCtorEq, Nat.reduceAdd, Nat.reduceEqDiff, reduceIte, Nat.reduceLeDiff, Nat.reduceLT, Nat.reduceSub, e1, e2]
        all_goals (repeat (with_reducible refine sAnd ?_))
        refine cond_of (by rfl) trivial (fun h6 => ?_) (fun h6 => ?_)
        · have hkl : k < q.tests.length := by simp at h6; omega
          obtain ⟨t, ht⟩ : ∃ t, t = q.tests.getD k default := ⟨_, rfl⟩
          have e3 := tssV_get q.tests k hkl
          have htk := ht2 k hkl
          rw [← ht, tsV_eq] at e3
          rw [← ht] at htk
          have hszt : SizeOf.sizeOf t.list ≤ N := by
            have h7 := lt_ts hkl
            have h8 := lt_tests q
            have h9 := lt_list t
            rw [← ht] at h7
            omega
          have hc := ih t.list hszt htk
          have hln3 : (q.tests.take k).length = k := by simp; omega
          try simp (config := { maxSteps := 2000000 }) only [go_sem, reduceCtorEq, Nat.reduceAdd, Nat.reduceEqDiff, reduceIte, Nat.reduceLeDiff, Nat.reduceLT, Nat.reduceSub, e1, e2, e3]
          all_goals (repeat (with_reducible refine sAnd ?_))
          refine call_own (by repeat' constructor) (hc) ?_
          try simp (config := { maxSteps := 2000000 }) only [go_sem, reduceCtorEq, Nat.reduceAdd, Nat.reduceEqDiff, reduceIte, Nat.reduceLeDiff, Nat.reduceLT, Nat.reduceSub]
          all_goals (repeat (with_reducible refine sAnd ?_))
          refine ⟨k + 1, by omega, by omega, ?_⟩
          simp (config := { maxSteps := 2000000 }) only [go_sem, reduceCtorEq, Nat.reduceAdd, Nat.reduceEqDiff, reduceIte, Nat.reduceLeDiff, Nat.reduceLT, Nat.reduceSub, le_cons, le_nil, le_un, le_same]
          all_goals (repeat' (first | exact trivial | exact le_int (by omega) | exact le_bool rfl | exact le_eq rfl | exact le_nlo | exact le_refl _ | refine And.intro ?_ ?_))
          refine le_own ?_
          rw [take_succ_pp default hkl, ← ht]
          simp only [tssV_app, tssV, tsV_eq]
        · have hkl : k = q.tests.length := by simp at h6; omega
          subst hkl
          rw [List.take_length]
          try simp (config := { maxSteps := 2000000 }) only [go_sem, reduceCtorEq, Nat.reduceAdd, Nat.reduceEqDiff, reduceIte, Nat.reduceLeDiff, Nat.reduceLT, Nat.reduceSub]
          all_goals (repeat (with_reducible refine sAnd ?_))
          refine ⟨j + 1, by omega, by omega, ?_⟩
          simp (config := { maxSteps := 2000000 }) only [go_sem, reduceCtorEq, Nat.reduceAdd, Nat.reduceEqDiff, reduceIte, Nat.reduceLeDiff, Nat.reduceLT, Nat.reduceSub, le_cons, le_nil, le_un, le_same]
          all_goals (repeat' (first | exact trivial | exact le_int (by omega) | exact le_bool rfl | exact le_eq rfl | exact le_nlo | exact le_refl _ | refine And.intro ?_ ?_))
          refine le_own ?_
          rw [take_succ_pp default hjl, ← hq]
          simp only [stsV_app, stsV, stV_eq]
      · have hjl : j = p.steps.length := by simp at h4; omega
        subst hjl
        rw [List.take_length]
        try simp (config := { maxSteps := 2000000 }) only [go_sem, reduceCtorEq, Nat.reduceAdd, Nat.reduceEqDiff, reduceIte, Nat.reduceLeDiff, Nat.reduceLT, Nat.reduceSub]
        all_goals (repeat (with_reducible refine sAnd ?_))
        refine ⟨i + 1, by omega, by omega, ?_⟩
        simp (config := { maxSteps := 2000000 }) only [go_sem, reduceCtorEq, Nat.reduceAdd, Nat.reduceEqDiff, reduceIte, Nat.reduceLeDiff, Nat.reduceLT, Nat.reduceSub, le_cons, le_nil, le_un, le_same]
        all_goals (repeat' (first | exact trivial | exact le_int (by omega) | exact le_bool rfl | exact le_eq rfl | exact le_nlo | exact le_refl _ | refine And.intro ?_ ?_))
        refine le_own ?_
        rw [take_succ_pp default hil, ← hp]
        simp only [ptsV_app, ptsV, ptV_eq]
    · have hil : i = l.length := by simp at h2; omega
      subst hil
      rw [List.take_length]
      try simp (config := { maxSteps := 2000000 }) only [go_sem, reduceCtorEq, Nat.reduceAdd, Nat.reduceEqDiff, reduceIte, Nat.reduceLeDiff, Nat.reduceLT, Nat.reduceSub]
      all_goals (repeat (with_reducible refine sAnd ?_))
      exact fin_own rfl
end Go.Hx
end

section
-- DOM getO, listV, intsR_len, ptsV_len, stsV_len, tssV_len, List.nil_append, ovTs_len, ovSs_len, ovPs_len, OVal.cells, List.map_nil, List.map_cons, ev, setCells, cellsOV, cellOV, mkOV, leftCells, leftC, ovCell, List.length_cons, List.length_nil
set_option maxRecDepth 100000
set_option linter.unusedSimpArgs false
set_option maxHeartbeats 4000000
namespace Go.Hx
open Go.Proofs
variable [Glob]

attribute [local go_sem] ndsV_len clsV_len attV_len intsR_len ndV cellsEq getO listV ptsV_len stsV_len tssV_len List.nil_append OVal.cells List.map_nil List.map_cons ev setCells cellsOV cellOV mkOV leftCells leftC ovCell List.length_cons List.length_nil
def ovTs (l : List Ts) : List (List OV) := l.map fun t => (tsV t).map .p
def ovS (s : St) : List OV := [.p (bS s.tag), .os none ty_api_Test 6 (ovTs s.tests)]
def ovSs (l : List St) : List (List OV) := l.map ovS
def ovP (p : Pt) : List OV := [.os none ty_api_Step 2 (ovSs p.steps), .p (.sl 1 (intsR p.links))]
def ovPs (l : List Pt) : List (List OV) := l.map ovP
theorem ovTs_app (a b : List Ts) : ovTs (a ++ b) = ovTs a ++ ovTs b := by simp [ovTs]
theorem ovSs_app (a b : List St) : ovSs (a ++ b) = ovSs a ++ ovSs b := by simp [ovSs]
theorem ovPs_app (a b : List Pt) : ovPs (a ++ b) = ovPs a ++ ovPs b := by simp [ovPs]
theorem ovTs_len (a : List Ts) : (ovTs a).length = a.length := by simp [ovTs]
attribute [local go_sem] ovTs_len
theorem ovSs_len (a : List St) : (ovSs a).length = a.length := by simp [ovSs]
attribute [local go_sem] ovSs_len
theorem ovPs_len (a : List Pt) : (ovPs a).length = a.length := by simp [ovPs]

attribute [local go_sem] ovPs_len
theorem cV_own (l : List Pt) (hsh : shL l = true) : Contract Tryd.prog fn_ref_OwnList [.val (.one (.sl 2 (ptsV l)))] { res := .ov (.one (.os none ty_api_Path 2 (ovPs l))) } := by
    have ih := fun (l : List Pt) (h : shL l = true) => good_own _ l (Nat.le_refl _) h
    obtain ⟨hlen, hshl⟩ := sh_paths hsh
    refine mk_ref_OwnListV (base := 0) ⟨Nat.le_of_ble_eq_true rfl, Nat.le_of_ble_eq_true rfl, Nat.le_of_ble_eq_true rfl, rfl⟩ (fun hfit => ?_)
    unfold F0 ref_OwnListV_E
    simp (config := { maxSteps := 2000000 }) only [markU, List.set_cons_succ, List.set_cons_zero, List.map_cons, List.map_nil, argCt, setCells, ioOf, List.length_cons, List.length_nil, Nat.reduceAdd, Nat.reduceSub, List.replicate, List.cons_append, List.nil_append]
    try simp (config := { maxSteps := 2000000 }) only [go_sem, reduceCtorEq, Nat.reduceAdd, Nat.reduceEqDiff, reduceIte, Nat.reduceLeDiff, Nat.reduceLT, Nat.reduceSub]
    all_goals (repeat (with_reducible refine sAnd ?_))
    refine loop_sets (fun i : Nat => [(4, .pv (iv i)), (3, .ov (.one (.os none ty_api_Path 2 (ovPs (l.take i))))), (5, .un), (6, .un), (7, .un), (8, .un), (9, .un), (13, .un), (31, .un), (55, .un), (91, .un), (92, .un), (93, .un), (94, .un), (95, .un), (96, .un), (97, .un), (98, .un), (99, .un), (100, .un)]) (fun i : Nat => l.length - i) (fun i : Nat => i ≤ l.length) (0) ?_ (Nat.zero_le _) ?_
    focus (simp (config := { maxSteps := 2000000 }) only [go_sem, reduceCtorEq, Nat.reduceAdd, Nat.reduceEqDiff, reduceIte, Nat.reduceLeDiff, Nat.reduceLT, Nat.reduceSub, le_cons, le_nil, le_un, le_same]; all_goals (repeat' (first | exact trivial | exact le_int (by omega) | exact le_bool rfl | exact le_eq rfl | exact le_nlo | exact le_refl _ | refine And.intro ?_ ?_)))
    rintro i hi
    try simp (config := { maxSteps := 2000000 }) only [go_sem, reduceCtorEq, Nat.reduceAdd, Nat.reduceEqDiff, reduceIte, Nat.reduceLeDiff, Nat.reduceLT, Nat.reduceSub]
    all_goals (repeat (with_reducible refine sAnd ?_))
    refine cond_of (by rfl) trivial (fun h2 => ?_) (fun h2 => ?_)
    · have hil : i < l.length := by simp at h2; omega
      obtain ⟨p, hp⟩ : ∃ p, p = l.getD i default := ⟨_, rfl⟩
      have e1 := ptsV_get l i hil
      have hps := hshl i hil
      rw [← hp, ptV_eq] at e1
      rw [← hp] at hps
      obtain ⟨hs1, hs2, hs3⟩ := sh_steps hps
      have hln : (l.take i).length = i := by simp; omega
      try simp (config := { maxSteps := 2000000 }) only [go_sem, reduceCtorEq, Nat.reduceAdd, Nat.reduceEqDiff, reduceIte, Nat.reduceLeDiff, Nat.reduceLT, Nat.reduceSub, e1]
      all_goals (repeat (with_reducible refine sAnd ?_))
      refine loop_sets (fun j : Nat => [(6, .pv (iv j)), (91, .ov (.one (.os none ty_api_Step 2 (ovSs (p.steps.take j))))), (7, .un), (8, .un), (9, .un), (31, .un), (55, .un), (93, .un), (94, .un), (95, .un), (96, .un), (97, .un), (98, .un), (99, .un), (100, .un)]) (fun j : Nat => p.steps.length - j) (fun j : Nat => j ≤ p.steps.length) (0) ?_ (Nat.zero_le _) ?_
      focus (simp (config := { maxSteps := 2000000 }) only [go_sem, reduceCtorEq, Nat.reduceAdd, Nat.reduceEqDiff, reduceIte, Nat.reduceLeDiff, Nat.reduceLT, Nat.reduceSub, le_cons, le_nil, le_un, le_same]; all_goals (repeat' (first | exact trivial | exact le_int (by omega) | exact le_bool rfl | exact le_eq rfl | exact le_nlo | exact le_refl _ | refine And.intro ?_ ?_)))
      · exact .inr (.inr rfl)
      rintro j hj
      try simp (config := { maxSteps := 2000000 }) only [go_sem, reduceCtorEq, Nat.reduceAdd, Nat.reduceEqDiff, reduceIte, Nat.reduceLeDiff, Nat.reduceLT, Nat.reduceSub, e1]
      all_goals (repeat (with_reducible refine sAnd ?_))
      refine cond_of (by rfl) trivial (fun h4 => ?_) (fun h4 => ?_)
      · have hjl : j < p.steps.length := by simp at h4; omega
        obtain ⟨q, hq⟩ : ∃ q, q = p.steps.getD j default := ⟨_, rfl⟩
        have e2 := stsV_get p.steps j hjl
        have hsj := hs3 j hjl
        rw [← hq, stV_eq] at e2
        rw [← hq] at hsj
        obtain ⟨ht1, ht2⟩ := sh_tests hsj
        have hln2 : (p.steps.take j).length = j := by simp; omega
        try simp (config := { maxSteps := 2000000 }) only [go_sem, reduceCtorEq, Nat.reduceAdd, Nat.reduceEqDiff, reduceIte, Nat.reduceLeDiff, Nat.reduceLT, Nat.reduceSub, e1, e2]
        all_goals (repeat (with_reducible refine sAnd ?_))
        refine loop_sets (fun k : Nat => [(8, .pv (iv k)), (94, .ov (.one (.os none ty_api_Test 6 (ovTs (q.tests.take k))))), (9, .un), (55, .un), (95, .un), (96, .un), (97, .un), (98, .un), (99, .un), (100, .un)]) (fun k : Nat => q.tests.length - k) (fun k : Nat => k ≤ q.tests.length) (0) ?_ (Nat.zero_le _) ?_
        focus (simp (config := { maxSteps := 2000000 }) only [go_sem, reduceCtorEq, Nat.reduceAdd, Nat.reduceEqDiff, reduceIte, Nat.reduceLeDiff, Nat.reduceLT, Nat.reduceSub, le_cons, le_nil, le_un, le_same]; all_goals (repeat' (first | exact trivial | exact le_int (by omega) | exact le_bool rfl | exact le_eq rfl | exact le_nlo | exact le_refl _ | refine And.intro ?_ ?_)))
        · exact .inr (.inr rfl)
        rintro k hk
        try simp (config := { maxSteps := 2000000 }) only [go_sem, reduceCtorEq, Nat.reduceAdd, Nat.reduceEqDiff, reduceIte, Nat.reduceLeDiff, Nat.reduceLT, Nat.reduceSub, e1, e2]
        all_goals (repeat (with_reducible refine sAnd ?_))
        refine cond_of (by rfl) trivial (fun h6 => ?_) (fun h6 => ?_)
        · have hkl : k < q.tests.length := by simp at h6; omega
          obtain ⟨t, ht⟩ : ∃ t, t = q.tests.getD k default := ⟨_, rfl⟩
          have e3 := tssV_get q.tests k hkl
          have htk := ht2 k hkl
          rw [← ht, tsV_eq] at e3
          rw [← ht] at htk
          have hc := ih t.list htk
          have hln3 : (q.tests.take k).length = k := by simp; omega
          try simp (config := { maxSteps := 2000000 }) only [go_sem, reduceCtorEq, Nat.reduceAdd, Nat.reduceEqDiff, reduceIte, Nat.reduceLeDiff, Nat.reduceLT, Nat.reduceSub, e1, e2, e3]
          all_goals (repeat (with_reducible refine sAnd ?_))
          refine call_own (by repeat' constructor) (hc) ?_
          try simp (config := { maxSteps := 2000000 }) only [go_sem, reduceCtorEq, Nat.reduceAdd, Nat.reduceEqDiff, reduceIte, Nat.reduceLeDiff, Nat.reduceLT, Nat.reduceSub]
          all_goals (repeat (with_reducible refine sAnd ?_))
          refine ⟨k + 1, by omega, by omega, ?_⟩
          simp (config := { maxSteps := 2000000 }) only [go_sem, reduceCtorEq, Nat.reduceAdd, Nat.reduceEqDiff, reduceIte, Nat.reduceLeDiff, Nat.reduceLT, Nat.reduceSub, le_cons, le_nil, le_un, le_same]
          all_goals (repeat' (first | exact trivial | exact le_int (by omega) | exact le_bool rfl | exact le_eq rfl | exact le_nlo | exact le_refl _ | refine And.intro ?_ ?_))
          refine le_eq ?_
          rw [take_succ_pp default hkl, ← ht]
          simp only [ovTs, List.map_append, List.map_cons, List.map_nil, tsV_eq]
        · have hkl : k = q.tests.length := by simp at h6; omega
          subst hkl
          rw [List.take_length]
          try simp (config := { maxSteps := 2000000 }) only [go_sem, reduceCtorEq, Nat.reduceAdd, Nat.reduceEqDiff, reduceIte, Nat.reduceLeDiff, Nat.reduceLT, Nat.reduceSub]
          all_goals (repeat (with_reducible refine sAnd ?_))
          refine ⟨j + 1, by omega, by omega, ?_⟩
          simp (config := { maxSteps := 2000000 }) only [go_sem, reduceCtorEq, Nat.reduceAdd, Nat.reduceEqDiff, reduceIte, Nat.reduceLeDiff, Nat.reduceLT, Nat.reduceSub, le_cons, le_nil, le_un, le_same]
          all_goals (repeat' (first | exact trivial | exact le_int (by omega) | exact le_bool rfl | exact le_eq rfl | exact le_nlo | exact le_refl _ | refine And.intro ?_ ?_))
          refine le_eq ?_
          rw [take_succ_pp default hjl, ← hq]
          simp only [ovSs, List.map_append, List.map_cons, List.map_nil, ovS]
      · have hjl : j = p.steps.length := by simp at h4; omega
        subst hjl
        rw [List.take_length]
        try simp (config := { maxSteps := 2000000 }) only [go_sem, reduceCtorEq, Nat.reduceAdd, Nat.reduceEqDiff, reduceIte, Nat.reduceLeDiff, Nat.reduceLT, Nat.reduceSub]
        all_goals (repeat (with_reducible refine sAnd ?_))
        refine ⟨i + 1, by omega, by omega, ?_⟩
        simp (config := { maxSteps := 2000000 }) only [go_sem, reduceCtorEq, Nat.reduceAdd, Nat.reduceEqDiff, reduceIte, Nat.reduceLeDiff, Nat.reduceLT, Nat.reduceSub, le_cons, le_nil, le_un, le_same]
        all_goals (repeat' (first | exact trivial | exact le_int (by omega) | exact le_bool rfl | exact le_eq rfl | exact le_nlo | exact le_refl _ | refine And.intro ?_ ?_))
        refine le_eq ?_
        rw [take_succ_pp default hil, ← hp]
        simp only [ovPs, List.map_append, List.map_cons, List.map_nil, ovP]
    · have hil : i = l.length := by simp at h2; omega
      subst hil
      rw [List.take_length]
      try simp (config := { maxSteps := 2000000 }) only [go_sem, reduceCtorEq, Nat.reduceAdd, Nat.reduceEqDiff, reduceIte, Nat.reduceLeDiff, Nat.reduceLT, Nat.reduceSub]
      all_goals (repeat (with_reducible refine sAnd ?_))
      exact fin_ov rfl
end Go.Hx
end

section
-- DOM getO, listV, intsR_len, ptsV_len, stsV_len, tssV_len, List.nil_append
set_option maxRecDepth 100000
set_option linter.unusedSimpArgs false
set_option maxHeartbeats 4000000
namespace Go.Hx
open Go.Proofs
variable [Glob]

attribute [local go_sem] ndsV_len clsV_len attV_len intsR_len ndV cellsEq getO listV ptsV_len stsV_len tssV_len List.nil_append
theorem good_rsize : ∀ (N : Nat) (l : List Pt), SizeOf.sizeOf l ≤ N → pzPs l ≤ 10000000 → Contract Tryd.prog fn_ref_SizeOf [.val (.one (.sl 2 (ptsV l)))] { res := .val (iv (pzPs l)) }
  | 0, l, h, _ => by have := sz_pos_pt l; omega
  | N + 1, l, hN, hz => by
    have ih := good_rsize N
    refine mk_ref_SizeOf (base := 0) ⟨Nat.le_of_ble_eq_true rfl, Nat.le_of_ble_eq_true rfl, Nat.le_of_ble_eq_true rfl, rfl⟩ (fun hfit => ?_)
    unfold F0 ref_SizeOf_E
    simp (config := { maxSteps := 2000000 }) only [markU, List.set_cons_succ, List.set_cons_zero, List.map_cons, List.map_nil, argCt, setCells, ioOf, List.length_cons, List.length_nil, Nat.reduceAdd, Nat.reduceSub, List.replicate, List.cons_append, List.nil_append]
    try simp (config := { maxSteps := 2000000 }) only [go_sem, reduceCtorEq, Nat.reduceAdd, Nat.reduceEqDiff, reduceIte, Nat.reduceLeDiff, Nat.reduceLT, Nat.reduceSub]
    all_goals (repeat (with_reducible refine sAnd ?_))
    have fl := fits_pl hfit.1
    refine loop_sets (fun x : Nat × Nat => [(4, .pv (iv x.1)), (3, .pv (iv x.2)), (5, .un), (6, .un), (10, .un), (20, .un), (36, .un)]) (fun x : Nat × Nat => l.length - x.1) (fun x : Nat × Nat => x.1 ≤ l.length ∧ x.2 + pzPs (l.drop x.1) = pzPs l) ((0, 0)) ?_ ⟨Nat.zero_le _, by simp⟩ ?_
    focus (simp (config := { maxSteps := 2000000 }) only [go_sem, reduceCtorEq, Nat.reduceAdd, Nat.reduceEqDiff, reduceIte, Nat.reduceLeDiff, Nat.reduceLT, Nat.reduceSub, le_cons, le_nil, le_un, le_same]; all_goals (repeat' (first | exact trivial | exact le_int (by omega) | exact le_bool rfl | exact le_eq rfl | exact le_nlo | exact le_refl _ | refine And.intro ?_ ?_)))
    rintro ⟨i, n⟩ ⟨hi, hn⟩
    simp only at hi hn
    try simp (config := { maxSteps := 2000000 }) only [go_sem, reduceCtorEq, Nat.reduceAdd, Nat.reduceEqDiff, reduceIte, Nat.reduceLeDiff, Nat.reduceLT, Nat.reduceSub]
    all_goals (repeat (with_reducible refine sAnd ?_))
    refine cond_of (by rfl) trivial (fun h2 => ?_) (fun h2 => ?_)
    · have hil : i < l.length := by simp at h2; omega
      rw [pzPs_get hil] at hn
      obtain ⟨p, hp⟩ : ∃ p, p = l.getD i default := ⟨_, rfl⟩
      have e1 := ptsV_get l i hil
      have fp := fits_pts hfit.1 hil
      have hpl : SizeOf.sizeOf p.steps ≤ N := by
        have h3 := lt_pt hil
        have h4 := lt_steps p
        rw [← hp] at h3
        omega
      rw [← hp, ptV_eq] at e1
      rw [← hp] at hn fp
      have fps := fits_slen fp.1
      try simp (config := { maxSteps := 2000000 }) only [go_sem, reduceCtorEq, Nat.reduceAdd, Nat.reduceEqDiff, reduceIte, Nat.reduceLeDiff, Nat.reduceLT, Nat.reduceSub, e1]
      all_goals (repeat (with_reducible refine sAnd ?_))
      refine loop_sets (fun x : Nat × Nat => [(5, .pv (iv x.1)), (3, .pv (iv x.2)), (6, .un), (20, .un), (36, .un)]) (fun x : Nat × Nat => p.steps.length - x.1) (fun x : Nat × Nat => x.1 ≤ p.steps.length ∧ x.2 + pzSs (p.steps.drop x.1) = n + pzSs p.steps) ((0, n)) ?_ ⟨Nat.zero_le _, by simp⟩ ?_
      focus (simp (config := { maxSteps := 2000000 }) only [go_sem, reduceCtorEq, Nat.reduceAdd, Nat.reduceEqDiff, reduceIte, Nat.reduceLeDiff, Nat.reduceLT, Nat.reduceSub, le_cons, le_nil, le_un, le_same]; all_goals (repeat' (first | exact trivial | exact le_int (by omega) | exact le_bool rfl | exact le_eq rfl | exact le_nlo | exact le_refl _ | refine And.intro ?_ ?_)))
      rintro ⟨j, m⟩ ⟨hj, hm⟩
      simp only at hj hm
      try simp (config := { maxSteps := 2000000 }) only [go_sem, reduceCtorEq, Nat.reduceAdd, Nat.reduceEqDiff, reduceIte, Nat.reduceLeDiff, Nat.reduceLT, Nat.reduceSub, e1]
      all_goals (repeat (with_reducible refine sAnd ?_))
      refine cond_of (by rfl) trivial (fun h4 => ?_) (fun h4 => ?_)
      · have hjl : j < p.steps.length := by simp at h4; omega
        rw [pzSs_get hjl] at hm
        obtain ⟨q, hq⟩ : ∃ q, q = p.steps.getD j default := ⟨_, rfl⟩
        have e2 := stsV_get p.steps j hjl
        have fq := fits_sts fp.1 hjl
        have hszq := lt_st hjl
        rw [← hq, stV_eq] at e2
        rw [← hq] at hm fq hszq
        have fqt := fits_tl fq
        try simp (config := { maxSteps := 2000000 }) only [go_sem, reduceCtorEq, Nat.reduceAdd, Nat.reduceEqDiff, reduceIte, Nat.reduceLeDiff, Nat.reduceLT, Nat.reduceSub, e1, e2]
        all_goals (repeat (with_reducible refine sAnd ?_))
        refine loop_sets (fun x : Nat × Nat => [(6, .pv (iv x.1)), (3, .pv (iv x.2)), (36, .un)]) (fun x : Nat × Nat => q.tests.length - x.1) (fun x : Nat × Nat => x.1 ≤ q.tests.length ∧ x.2 + pzTs (q.tests.drop x.1) = m + 1 + pzTs q.tests) ((0, m + 1)) ?_ ⟨Nat.zero_le _, by simp⟩ ?_
        focus (simp (config := { maxSteps := 2000000 }) only [go_sem, reduceCtorEq, Nat.reduceAdd, Nat.reduceEqDiff, reduceIte, Nat.reduceLeDiff, Nat.reduceLT, Nat.reduceSub, le_cons, le_nil, le_un, le_same]; all_goals (repeat' (first | exact trivial | exact le_int (by omega) | exact le_bool rfl | exact le_eq rfl | exact le_nlo | exact le_refl _ | refine And.intro ?_ ?_)))
        rintro ⟨k, r⟩ ⟨hk, hr⟩
        simp only at hk hr
        try simp (config := { maxSteps := 2000000 }) only [go_sem, reduceCtorEq, Nat.reduceAdd, Nat.reduceEqDiff, reduceIte, Nat.reduceLeDiff, Nat.reduceLT, Nat.reduceSub, e1, e2]
        all_goals (repeat (with_reducible refine sAnd ?_))
        refine cond_of (by rfl) trivial (fun h6 => ?_) (fun h6 => ?_)
        · have hkl : k < q.tests.length := by simp at h6; omega
          rw [pzTs_get hkl] at hr
          obtain ⟨t, ht⟩ : ∃ t, t = q.tests.getD k default := ⟨_, rfl⟩
          have e3 := tssV_get q.tests k hkl
          rw [← ht, tsV_eq] at e3
          have hszt : SizeOf.sizeOf t.list ≤ N := by
            have h7 := lt_ts hkl
            have h8 := lt_tests q
            have h9 := lt_list t
            rw [← ht] at h7
            omega
          rw [← ht] at hr
          have hc := ih t.list hszt (by omega)
          try simp (config := { maxSteps := 2000000 }) only [go_sem, reduceCtorEq, Nat.reduceAdd, Nat.reduceEqDiff, reduceIte, Nat.reduceLeDiff, Nat.reduceLT, Nat.reduceSub, e1, e2, e3]
          all_goals (repeat (with_reducible refine sAnd ?_))
          refine call_val (by repeat' constructor) (hc) ?_
          try simp (config := { maxSteps := 2000000 }) only [go_sem, reduceCtorEq, Nat.reduceAdd, Nat.reduceEqDiff, reduceIte, Nat.reduceLeDiff, Nat.reduceLT, Nat.reduceSub]
          all_goals (repeat (with_reducible refine sAnd ?_))
          refine ⟨(k + 1, r + 1 + pzPs t.list), by simp only; omega, ⟨by simp only; omega, by simp only; omega⟩, ?_⟩
          simp (config := { maxSteps := 2000000 }) only [go_sem, reduceCtorEq, Nat.reduceAdd, Nat.reduceEqDiff, reduceIte, Nat.reduceLeDiff, Nat.reduceLT, Nat.reduceSub, le_cons, le_nil, le_un, le_same]
          all_goals (repeat' (first | exact trivial | exact le_int (by omega) | exact le_bool rfl | exact le_eq rfl | exact le_nlo | exact le_refl _ | refine And.intro ?_ ?_))
        · have hkl : k = q.tests.length := by simp at h6; omega
          rw [hkl, List.drop_length] at hr
          simp only [pzTs] at hr
          try simp (config := { maxSteps := 2000000 }) only [go_sem, reduceCtorEq, Nat.reduceAdd, Nat.reduceEqDiff, reduceIte, Nat.reduceLeDiff, Nat.reduceLT, Nat.reduceSub]
          all_goals (repeat (with_reducible refine sAnd ?_))
          refine ⟨(j + 1, r), by simp only; omega, ⟨by simp only; omega, by simp only; omega⟩, ?_⟩
          simp (config := { maxSteps := 2000000 }) only [go_sem, reduceCtorEq, Nat.reduceAdd, Nat.reduceEqDiff, reduceIte, Nat.reduceLeDiff, Nat.reduceLT, Nat.reduceSub, le_cons, le_nil, le_un, le_same]
          all_goals (repeat' (first | exact trivial | exact le_int (by omega) | exact le_bool rfl | exact le_eq rfl | exact le_nlo | exact le_refl _ | refine And.intro ?_ ?_))
      · have hjl : j = p.steps.length := by simp at h4; omega
        rw [hjl, List.drop_length] at hm
        simp only [pzSs] at hm
        try simp (config := { maxSteps := 2000000 }) only [go_sem, reduceCtorEq, Nat.reduceAdd, Nat.reduceEqDiff, reduceIte, Nat.reduceLeDiff, Nat.reduceLT, Nat.reduceSub]
        all_goals (repeat (with_reducible refine sAnd ?_))
        refine ⟨(i + 1, m), by simp only; omega, ⟨by simp only; omega, by simp only; omega⟩, ?_⟩
        simp (config := { maxSteps := 2000000 }) only [go_sem, reduceCtorEq, Nat.reduceAdd, Nat.reduceEqDiff, reduceIte, Nat.reduceLeDiff, Nat.reduceLT, Nat.reduceSub, le_cons, le_nil, le_un, le_same]
        all_goals (repeat' (first | exact trivial | exact le_int (by omega) | exact le_bool rfl | exact le_eq rfl | exact le_nlo | exact le_refl _ | refine And.intro ?_ ?_))
    · have hil : i = l.length := by simp at h2; omega
      rw [hil, List.drop_length] at hn
      simp only [pzPs] at hn
      try simp (config := { maxSteps := 2000000 }) only [go_sem, reduceCtorEq, Nat.reduceAdd, Nat.reduceEqDiff, reduceIte, Nat.reduceLeDiff, Nat.reduceLT, Nat.reduceSub]
      all_goals (repeat (with_reducible refine sAnd ?_))
      refine fin_val rfl trivial (.inl ?_)
      congr 3
      omega

/-! ### The same -/

def GoodR (P : Go.Program) (N : Nat) : Prop := ∀ a b : Ts, SizeOf.sizeOf a ≤ N → Contract P fn_ref_SameTests [.val (.agg (tsV a)), .val (.agg (tsV b))] { res := .val (bv (sameT a b)) }
theorem c_rSteps_of {N : Nat} (ih : GoodR Tryd.prog N) (a b : St) (hs : SizeOf.sizeOf a ≤ N) : Contract Tryd.prog fn_ref_SameSteps [.val (.agg (stV a)), .val (.agg (stV b))] { res := .val (bv (sameS a b)) } := by
  rw [stV_eq, stV_eq]
  refine mk_ref_SameSteps (base := 0) ⟨Nat.le_of_ble_eq_true rfl, Nat.le_of_ble_eq_true rfl, Nat.le_of_ble_eq_true rfl, rfl⟩ (fun hfit => ?_)
  unfold F0 ref_SameSteps_E
  simp (config := { maxSteps := 2000000 }) only [markU, List.set_cons_succ, List.set_cons_zero, List.map_cons, List.map_nil, argCt, setCells, ioOf, List.length_cons, List.length_nil, Nat.reduceAdd, Nat.reduceSub, List.replicate, List.cons_append, List.nil_append]
  try simp (config := { maxSteps := 2000000 }) only [go_sem, reduceCtorEq, Nat.reduceAdd, Nat.reduceEqDiff, reduceIte, Nat.reduceLeDiff, Nat.reduceLT, Nat.reduceSub]
  all_goals (repeat (with_reducible refine sAnd ?_))
  have fl := fits_tl hfit.1.2.1
  refine cond_of (by rfl) trivial (fun h1 => ?_) (fun h1 => ?_)
  · try simp (config := { maxSteps := 2000000 }) only [go_sem, reduceCtorEq, Nat.reduceAdd, Nat.reduceEqDiff, reduceIte, Nat.reduceLeDiff, Nat.reduceLT, Nat.reduceSub]
    all_goals (repeat (with_reducible refine sAnd ?_))
    refine fin_val rfl trivial (.inl ?_)
    congr 3
    rw [sameS_eq]
    by_cases ht : a.tag = b.tag
    · have hl : a.tests.length ≠ b.tests.length := by
        rw [ht] at h1
        simp at h1
        omega
      rw [sameTs_len hl, Bool.and_false]
    · rw [beq_false_of_ne ht, Bool.false_and]
  have ht : a.tag = b.tag := by
    cases hc : (a.tag == b.tag) with
    | true => simpa using hc
    | false => rw [hc] at h1; cases h1
  have hl : a.tests.length = b.tests.length := by
    rw [ht] at h1
    simp at h1
    omega
  have hR : sameS a b = sameTs a.tests b.tests := by rw [sameS_eq, ht, beq_self_eq_true, Bool.true_and]
  rw [hR]
  try simp (config := { maxSteps := 2000000 }) only [go_sem, reduceCtorEq, Nat.reduceAdd, Nat.reduceEqDiff, reduceIte, Nat.reduceLeDiff, Nat.reduceLT, Nat.reduceSub]
  all_goals (repeat (with_reducible refine sAnd ?_))
  refine loop_sets (fun i : Nat => [(5, .pv (iv i)), (4, .un), (24, .un), (38, .un)]) (fun i : Nat => a.tests.length - i) (fun i : Nat => i ≤ a.tests.length ∧ sameTs (a.tests.drop i) (b.tests.drop i) = sameTs a.tests b.tests) (0) ?_ ⟨Nat.zero_le _, rfl⟩ ?_
  focus (simp (config := { maxSteps := 2000000 }) only [go_sem, reduceCtorEq, Nat.reduceAdd, Nat.reduceEqDiff, reduceIte, Nat.reduceLeDiff, Nat.reduceLT, Nat.reduceSub, le_cons, le_nil, le_un, le_same]; all_goals (repeat' (first | exact trivial | exact le_int (by omega) | exact le_bool rfl | exact le_eq rfl | exact le_nlo | exact le_refl _ | refine And.intro ?_ ?_)))
  rintro i ⟨hi, hinv⟩
  try simp (config := { maxSteps := 2000000 }) only [go_sem, reduceCtorEq, Nat.reduceAdd, Nat.reduceEqDiff, reduceIte, Nat.reduceLeDiff, Nat.reduceLT, Nat.reduceSub]
  all_goals (repeat (with_reducible refine sAnd ?_))
  refine cond_of (by rfl) trivial (fun h2 => ?_) (fun h2 => ?_)
  · have hil : i < a.tests.length := by simp at h2; omega
    have hib : i < b.tests.length := by omega
    rw [drop_get (d := default) hil, drop_get (d := default) hib, sameTs] at hinv
    have e1 := tssV_get a.tests i hil
    have e2 := tssV_get b.tests i hib
    rw [tsV_eq] at e1 e2
    have h7 := ih (a.tests.getD i default) (b.tests.getD i default) (by have := lt_ts hil; have := lt_tests a; omega)
    rw [tsV_eq, tsV_eq] at h7
    try simp (config := { maxSteps := 2000000 }) only [go_sem, reduceCtorEq, Nat.reduceAdd, Nat.reduceEqDiff, reduceIte, Nat.reduceLeDiff, Nat.reduceLT, Nat.reduceSub, e1, e2]
    all_goals (repeat (with_reducible refine sAnd ?_))
    refine call_val (by repeat' constructor) (h7) ?_
    try simp (config := { maxSteps := 2000000 }) only [go_sem, reduceCtorEq, Nat.reduceAdd, Nat.reduceEqDiff, reduceIte, Nat.reduceLeDiff, Nat.reduceLT, Nat.reduceSub]
    all_goals (repeat (with_reducible refine sAnd ?_))
    refine cond_of (by rfl) trivial (fun h3 => ?_) (fun h3 => ?_)
    · try simp (config := { maxSteps := 2000000 }) only [go_sem, reduceCtorEq, Nat.reduceAdd, Nat.reduceEqDiff, reduceIte, Nat.reduceLeDiff, Nat.reduceLT, Nat.reduceSub]
      all_goals (repeat (with_reducible refine sAnd ?_))
      refine fin_val rfl trivial (.inl ?_)
      congr 3
      rw [← hinv]
      have h4 : sameT (a.tests.getD i default) (b.tests.getD i default) = false := by simpa using h3
      rw [h4]; rfl
    · have h4 : sameT (a.tests.getD i default) (b.tests.getD i default) = true := by simpa using h3
      rw [h4, Bool.true_and] at hinv
      try simp (config := { maxSteps := 2000000 }) only [go_sem, reduceCtorEq, Nat.reduceAdd, Nat.reduceEqDiff, reduceIte, Nat.reduceLeDiff, Nat.reduceLT, Nat.reduceSub]
      all_goals (repeat (with_reducible refine sAnd ?_))
      refine ⟨i + 1, by omega, ⟨by omega, hinv⟩, ?_⟩
      simp (config := { maxSteps := 2000000 }) only [go_sem, reduceCtorEq, Nat.reduceAdd, Nat.reduceEqDiff, reduceIte, Nat.reduceLeDiff, Nat.reduceLT, Nat.reduceSub, le_cons, le_nil, le_un, le_same]
      all_goals (repeat' (first | exact trivial | exact le_int (by omega) | exact le_bool rfl | exact le_eq rfl | exact le_nlo | exact le_refl _ | refine And.intro ?_ ?_))
  · have hil : i = a.tests.length := by simp at h2; omega
    try simp (config := { maxSteps := 2000000 }) only [go_sem, reduceCtorEq, Nat.reduceAdd, Nat.reduceEqDiff, reduceIte, Nat.reduceLeDiff, Nat.reduceLT, Nat.reduceSub]
    all_goals (repeat (with_reducible refine sAnd ?_))
    refine fin_val rfl trivial (.inl ?_)
    congr 3
    rw [← hinv, hil, List.drop_length, hl, List.drop_length]
    simp only [sameTs]
theorem c_rPaths_of {N : Nat} (ih : GoodR Tryd.prog N) (a b : Pt) (hs : SizeOf.sizeOf a ≤ N) : Contract Tryd.prog fn_ref_SamePaths [.val (.agg (ptV a)), .val (.agg (ptV b))] { res := .val (bv (sameP a b)) } := by
  rw [ptV_eq, ptV_eq]
  refine mk_ref_SamePaths (base := 0) ⟨Nat.le_of_ble_eq_true rfl, Nat.le_of_ble_eq_true rfl, Nat.le_of_ble_eq_true rfl, rfl⟩ (fun hfit => ?_)
  unfold F0 ref_SamePaths_E
  simp (config := { maxSteps := 2000000 }) only [markU, List.set_cons_succ, List.set_cons_zero, List.map_cons, List.map_nil, argCt, setCells, ioOf, List.length_cons, List.length_nil, Nat.reduceAdd, Nat.reduceSub, List.replicate, List.cons_append, List.nil_append]
  try simp (config := { maxSteps := 2000000 }) only [go_sem, reduceCtorEq, Nat.reduceAdd, Nat.reduceEqDiff, reduceIte, Nat.reduceLeDiff, Nat.reduceLT, Nat.reduceSub]
  all_goals (repeat (with_reducible refine sAnd ?_))
  have fl := fits_slen hfit.1.1
  apply call_guard (h2 := fun _ => c_ref_SameInts a.links b.links)
  · (simp (config := { maxSteps := 2000000 }) only [go_sem, reduceCtorEq, Nat.reduceAdd, Nat.reduceEqDiff, reduceIte, Nat.reduceLeDiff, Nat.reduceLT, Nat.reduceSub]; rfl)
  · intro h; repeat' (first | exact trivial | exact h | refine And.intro ?_ ?_)
  try simp (config := { maxSteps := 2000000 }) only [go_sem, reduceCtorEq, Nat.reduceAdd, Nat.reduceEqDiff, reduceIte, Nat.reduceLeDiff, Nat.reduceLT, Nat.reduceSub]
  all_goals (repeat (with_reducible refine sAnd ?_))
  refine cond_of (by rfl) trivial (fun h1 => ?_) (fun h1 => ?_)
  · try simp (config := { maxSteps := 2000000 }) only [go_sem, reduceCtorEq, Nat.reduceAdd, Nat.reduceEqDiff, reduceIte, Nat.reduceLeDiff, Nat.reduceLT, Nat.reduceSub]
    all_goals (repeat (with_reducible refine sAnd ?_))
    refine fin_val rfl trivial (.inl ?_)
    congr 3
    rw [sameP_eq]
    by_cases ht : a.links = b.links
    · have hl : a.steps.length ≠ b.steps.length := by
        simp [ht] at h1
        omega
      rw [sameSs_len hl, Bool.and_false]
    · rw [beq_false_of_ne ht, Bool.false_and]
  have hl : a.steps.length = b.steps.length := by
    cases hc : ((a.steps.length : Int) != (b.steps.length : Int)) with
    | false => simp at hc; omega
    | true => rw [hc] at h1; cases h1
  have ht : a.links = b.links := by
    rw [hl] at h1
    simpa using h1
  have hR : sameP a b = sameSs a.steps b.steps := by rw [sameP_eq, ht, beq_self_eq_true, Bool.true_and]
  rw [hR]
  try simp (config := { maxSteps := 2000000 }) only [go_sem, reduceCtorEq, Nat.reduceAdd, Nat.reduceEqDiff, reduceIte, Nat.reduceLeDiff, Nat.reduceLT, Nat.reduceSub]
  all_goals (repeat (with_reducible refine sAnd ?_))
  refine loop_sets (fun i : Nat => [(5, .pv (iv i)), (4, .un), (25, .un), (39, .un)]) (fun i : Nat => a.steps.length - i) (fun i : Nat => i ≤ a.steps.length ∧ sameSs (a.steps.drop i) (b.steps.drop i) = sameSs a.steps b.steps) (0) ?_ ⟨Nat.zero_le _, rfl⟩ ?_
  focus (simp (config := { maxSteps := 2000000 }) only [go_sem, reduceCtorEq, Nat.reduceAdd, Nat.reduceEqDiff, reduceIte, Nat.reduceLeDiff, Nat.reduceLT, Nat.reduceSub, le_cons, le_nil, le_un, le_same]; all_goals (repeat' (first | exact trivial | exact le_int (by omega) | exact le_bool rfl | exact le_eq rfl | exact le_nlo | exact le_refl _ | refine And.intro ?_ ?_)))
  rintro i ⟨hi, hinv⟩
  try simp (config := { maxSteps := 2000000 }) only [go_sem, reduceCtorEq, Nat.reduceAdd, Nat.reduceEqDiff, reduceIte, Nat.reduceLeDiff, Nat.reduceLT, Nat.reduceSub]
  all_goals (repeat (with_reducible refine sAnd ?_))
  refine cond_of (by rfl) trivial (fun h2 => ?_) (fun h2 => ?_)
  · have hil : i < a.steps.length := by simp at h2; omega
    have hib : i < b.steps.length := by omega
    rw [drop_get (d := default) hil, drop_get (d := default) hib, sameSs] at hinv
    have e1 := stsV_get a.steps i hil
    have e2 := stsV_get b.steps i hib
    rw [stV_eq] at e1 e2
    have h7 := c_rSteps_of ih (a.steps.getD i default) (b.steps.getD i default) (by have := lt_st hil; have := lt_steps a; omega)
    rw [stV_eq, stV_eq] at h7
    try simp (config := { maxSteps := 2000000 }) only [go_sem, reduceCtorEq, Nat.reduceAdd, Nat.reduceEqDiff, reduceIte, Nat.reduceLeDiff, Nat.reduceLT, Nat.reduceSub, e1, e2]
    all_goals (repeat (with_reducible refine sAnd ?_))
    refine call_val (by repeat' constructor) (h7) ?_
    try simp (config := { maxSteps := 2000000 }) only [go_sem, reduceCtorEq, Nat.reduceAdd, Nat.reduceEqDiff, reduceIte, Nat.reduceLeDiff, Nat.reduceLT, Nat.reduceSub]
    all_goals (repeat (with_reducible refine sAnd ?_))
    refine cond_of (by rfl) trivial (fun h3 => ?_) (fun h3 => ?_)
    · try simp (config := { maxSteps := 2000000 }) only [go_sem, reduceCtorEq, Nat.reduceAdd, Nat.reduceEqDiff, reduceIte, Nat.reduceLeDiff, Nat.reduceLT, Nat.reduceSub]
      all_goals (repeat (with_reducible refine sAnd ?_))
      refine fin_val rfl trivial (.inl ?_)
      congr 3
      rw [← hinv]
      have h4 : sameS (a.steps.getD i default) (b.steps.getD i default) = false := by simpa using h3
      rw [h4]; rfl
    · have h4 : sameS (a.steps.getD i default) (b.steps.getD i default) = true := by simpa using h3
      rw [h4, Bool.true_and] at hinv
      try simp (config := { maxSteps := 2000000 }) only [go_sem, reduceCtorEq, Nat.reduceAdd, Nat.reduceEqDiff, reduceIte, Nat.reduceLeDiff, Nat.reduceLT, Nat.reduceSub]
      all_goals (repeat (with_reducible refine sAnd ?_))
      refine ⟨i + 1, by omega, ⟨by omega, hinv⟩, ?_⟩
      simp (config := { maxSteps := 2000000 }) only [go_sem, reduceCtorEq, Nat.reduceAdd, Nat.reduceEqDiff, reduceIte, Nat.reduceLeDiff, Nat.reduceLT, Nat.reduceSub, le_cons, le_nil, le_un, le_same]
      all_goals (repeat' (first | exact trivial | exact le_int (by omega) | exact le_bool rfl | exact le_eq rfl | exact le_nlo | exact le_refl _ | refine And.intro ?_ ?_))
  · have hil : i = a.steps.length := by simp at h2; omega
    try simp (config := { maxSteps := 2000000 }) only [go_sem, reduceCtorEq, Nat.reduceAdd, Nat.reduceEqDiff, reduceIte, Nat.reduceLeDiff, Nat.reduceLT, Nat.reduceSub]
    all_goals (repeat (with_reducible refine sAnd ?_))
    refine fin_val rfl trivial (.inl ?_)
    congr 3
    rw [← hinv, hil, List.drop_length, hl, List.drop_length]
    simp only [sameSs]
theorem c_rLists_of {N : Nat} (ih : GoodR Tryd.prog N) (a b : List Pt) (hs : SizeOf.sizeOf a ≤ N) : Contract Tryd.prog fn_ref_SameLists [.val (.one (.sl 2 (ptsV a))), .val (.one (.sl 2 (ptsV b)))] { res := .val (bv (samePs a b)) } := by
  refine mk_ref_SameLists (base := 0) ⟨Nat.le_of_ble_eq_true rfl, Nat.le_of_ble_eq_true rfl, Nat.le_of_ble_eq_true rfl, rfl⟩ (fun hfit => ?_)
  unfold F0 ref_SameLists_E
  simp (config := { maxSteps := 2000000 }) only [markU, List.set_cons_succ, List.set_cons_zero, List.map_cons, List.map_nil, argCt, setCells, ioOf, List.length_cons, List.length_nil, Nat.reduceAdd, Nat.reduceSub, List.replicate, List.cons_append, List.nil_append]
  try simp (config := { maxSteps := 2000000 }) only [go_sem, reduceCtorEq, Nat.reduceAdd, Nat.reduceEqDiff, reduceIte, Nat.reduceLeDiff, Nat.reduceLT, Nat.reduceSub]
  all_goals (repeat (with_reducible refine sAnd ?_))
  have fl := fits_pl hfit.1
  refine cond_of (by rfl) trivial (fun h1 => ?_) (fun h1 => ?_)
  · try simp (config := { maxSteps := 2000000 }) only [go_sem, reduceCtorEq, Nat.reduceAdd, Nat.reduceEqDiff, reduceIte, Nat.reduceLeDiff, Nat.reduceLT, Nat.reduceSub]
    all_goals (repeat (with_reducible refine sAnd ?_))
    refine fin_val rfl trivial (.inl ?_)
    congr 3
    have : a.length ≠ b.length := by simp at h1; omega
    rw [samePs_len this]
  have hl : a.length = b.length := by simp at h1; omega
  try simp (config := { maxSteps := 2000000 }) only [go_sem, reduceCtorEq, Nat.reduceAdd, Nat.reduceEqDiff, reduceIte, Nat.reduceLeDiff, Nat.reduceLT, Nat.reduceSub]
  all_goals (repeat (with_reducible refine sAnd ?_))
  refine loop_sets (fun i : Nat => [(5, .pv (iv i)), (4, .un), (14, .un), (26, .un)]) (fun i : Nat => a.length - i) (fun i : Nat => i ≤ a.length ∧ samePs (a.drop i) (b.drop i) = samePs a b) (0) ?_ ⟨Nat.zero_le _, rfl⟩ ?_
  focus (simp (config := { maxSteps := 2000000 }) only [go_sem, reduceCtorEq, Nat.reduceAdd, Nat.reduceEqDiff, reduceIte, Nat.reduceLeDiff, Nat.reduceLT, Nat.reduceSub, le_cons, le_nil, le_un, le_same]; all_goals (repeat' (first | exact trivial | exact le_int (by omega) | exact le_bool rfl | exact le_eq rfl | exact le_nlo | exact le_refl _ | refine And.intro ?_ ?_)))
  rintro i ⟨hi, hinv⟩
  try simp (config := { maxSteps := 2000000 }) only [go_sem, reduceCtorEq, Nat.reduceAdd, Nat.reduceEqDiff, reduceIte, Nat.reduceLeDiff, Nat.reduceLT, Nat.reduceSub]
  all_goals (repeat (with_reducible refine sAnd ?_))
  refine cond_of (by rfl) trivial (fun h2 => ?_) (fun h2 => ?_)
  · have hil : i < a.length := by simp at h2; omega
    have hib : i < b.length := by omega
    rw [drop_get (d := default) hil, drop_get (d := default) hib, samePs] at hinv
    have e1 := ptsV_get a i hil
    have e2 := ptsV_get b i hib
    rw [ptV_eq] at e1 e2
    have h7 := c_rPaths_of ih (a.getD i default) (b.getD i default) (by have := lt_pt hil; omega)
    rw [ptV_eq, ptV_eq] at h7
    try simp (config := { maxSteps := 2000000 }) only [go_sem, reduceCtorEq, Nat.reduceAdd, Nat.reduceEqDiff, reduceIte, Nat.reduceLeDiff, Nat.reduceLT, Nat.reduceSub, e1, e2]
    all_goals (repeat (with_reducible refine sAnd ?_))
    refine call_val (by repeat' constructor) (h7) ?_
    try simp (config := { maxSteps := 2000000 }) only [go_sem, reduceCtorEq, Nat.reduceAdd, Nat.reduceEqDiff, reduceIte, Nat.reduceLeDiff, Nat.reduceLT, Nat.reduceSub]
    all_goals (repeat (with_reducible refine sAnd ?_))
    refine cond_of (by rfl) trivial (fun h3 => ?_) (fun h3 => ?_)
    · try simp (config := { maxSteps := 2000000 }) only [go_sem, reduceCtorEq, Nat.reduceAdd, Nat.reduceEqDiff, reduceIte, Nat.reduceLeDiff, Nat.reduceLT, Nat.reduceSub]
      all_goals (repeat (with_reducible refine sAnd ?_))
      refine fin_val rfl trivial (.inl ?_)
      congr 3
      rw [← hinv]
      have h4 : sameP (a.getD i default) (b.getD i default) = false := by simpa using h3
      rw [h4]; rfl
    · have h4 : sameP (a.getD i default) (b.getD i default) = true := by simpa using h3
      rw [h4, Bool.true_and] at hinv
      try simp (config := { maxSteps := 2000000 }) only [go_sem, reduceCtorEq, Nat.reduceAdd, Nat.reduceEqDiff, reduceIte, Nat.reduceLeDiff, Nat.reduceLT, Nat.reduceSub]
      all_goals (repeat (with_reducible refine sAnd ?_))
      refine ⟨i + 1, by omega, ⟨by omega, hinv⟩, ?_⟩
      simp (config := { maxSteps := 2000000 }) only [go_sem, reduceCtorEq, Nat.reduceAdd, Nat.reduceEqDiff, reduceIte, Nat.reduceLeDiff, Nat.reduceLT, Nat.reduceSub, le_cons, le_nil, le_un, le_same]
      all_goals (repeat' (first | exact trivial | exact le_int (by omega) | exact le_bool rfl | exact le_eq rfl | exact le_nlo | exact le_refl _ | refine And.intro ?_ ?_))
  · have hil : i = a.length := by simp at h2; omega
    try simp (config := { maxSteps := 2000000 }) only [go_sem, reduceCtorEq, Nat.reduceAdd, Nat.reduceEqDiff, reduceIte, Nat.reduceLeDiff, Nat.reduceLT, Nat.reduceSub]
    all_goals (repeat (with_reducible refine sAnd ?_))
    refine fin_val rfl trivial (.inl ?_)
    congr 3
    rw [← hinv, hil, List.drop_length, hl, List.drop_length]
    simp only [samePs]
theorem good_rsame : ∀ N, GoodR Tryd.prog N
  | 0 => fun a b h => by have := sz_pos_ts a; omega
  | N + 1 => fun a b h => by
    have ih := good_rsame N
    have hc := c_rLists_of ih a.list b.list (by have := lt_list a; omega)
    rw [tsV_eq, tsV_eq]
    refine mk_ref_SameTests (base := 0) ⟨Nat.le_of_ble_eq_true rfl, Nat.le_of_ble_eq_true rfl, Nat.le_of_ble_eq_true rfl, rfl⟩ (fun hfit => ?_)
    unfold F0 ref_SameTests_E
    simp (config := { maxSteps := 2000000 }) only [markU, List.set_cons_succ, List.set_cons_zero, List.map_cons, List.map_nil, argCt, setCells, ioOf, List.length_cons, List.length_nil, Nat.reduceAdd, Nat.reduceSub, List.replicate, List.cons_append, List.nil_append]
    try simp (config := { maxSteps := 2000000 }) only [go_sem, reduceCtorEq, Nat.reduceAdd, Nat.reduceEqDiff, reduceIte, Nat.reduceLeDiff, Nat.reduceLT, Nat.reduceSub]
    all_goals (repeat (with_reducible refine sAnd ?_))
    apply call_guard (h2 := fun _ => hc)
    · (simp (config := { maxSteps := 2000000 }) only [go_sem, reduceCtorEq, Nat.reduceAdd, Nat.reduceEqDiff, reduceIte, Nat.reduceLeDiff, Nat.reduceLT, Nat.reduceSub]; rfl)
    · intro h; repeat' (first | exact trivial | exact h | refine And.intro ?_ ?_)
    try simp (config := { maxSteps := 2000000 }) only [go_sem, reduceCtorEq, Nat.reduceAdd, Nat.reduceEqDiff, reduceIte, Nat.reduceLeDiff, Nat.reduceLT, Nat.reduceSub]
    all_goals (repeat (with_reducible refine sAnd ?_))
    refine fin_val rfl trivial (.inl ?_)
    congr 3
    rw [sameT_eq]
    simp [Bool.cond_false_right, Bool.and_assoc]
theorem c_rTests (a b : Ts) : Contract Tryd.prog fn_ref_SameTests [.val (.agg (tsV a)), .val (.agg (tsV b))] { res := .val (bv (sameT a b)) } := good_rsame _ a b (Nat.le_refl _)
theorem c_rPaths (a b : Pt) : Contract Tryd.prog fn_ref_SamePaths [.val (.agg (ptV a)), .val (.agg (ptV b))] { res := .val (bv (sameP a b)) } := c_rPaths_of (good_rsame _) a b (Nat.le_refl _)
theorem c_rLists (a b : List Pt) : Contract Tryd.prog fn_ref_SameLists [.val (.one (.sl 2 (ptsV a))), .val (.one (.sl 2 (ptsV b)))] { res := .val (bv (samePs a b)) } := c_rLists_of (good_rsame _) a b (Nat.le_refl _)
end Go.Hx
end

section
-- DOM getO, listV, intsR_len, ptsV_len, stsV_len, tssV_len, List.getD_nil, List.take_nil, List.headD_nil, List.headD_cons, List.getD_cons_zero, List.length_cons, List.length_nil, i_ez0, i_ez1, i_ez2, i_nz0, i_nz1, i_nz2, i_toNat0, i_toNat1, bif_ff, List.drop_zero, List.take_succ_cons, List.take_zero, List.map_nil, List.map_cons, List.length_drop, List.length_take, List.take_length
set_option maxRecDepth 100000
set_option linter.unusedSimpArgs false
set_option maxHeartbeats 40000000
namespace Go.Hx
open Go.Proofs
variable [Glob]

attribute [local go_sem] ndsV_len clsV_len attV_len intsR_len ndV cellsEq getO listV ptsV_len stsV_len tssV_len List.getD_nil List.take_nil List.headD_nil List.headD_cons List.getD_cons_zero List.length_cons List.length_nil i_ez0 i_ez1 i_ez2 i_nz0 i_nz1 i_nz2 i_toNat0 i_toNat1 bif_ff List.drop_zero List.take_succ_cons List.take_zero List.map_nil List.map_cons List.length_drop List.length_take List.take_length
def sgl (l : List Pt) : St := (single l).getD (.mk [] [])
theorem c_single (l : List Pt) : Contract Tryd.prog fn_ref_single [.val (.one (.sl 2 (ptsV l)))] { res := .tup [.agg (stV (sgl l)), bv (single l).isSome] } := by
  rcases l with _ | ⟨p, _ | ⟨q, r⟩⟩
  · simp only [ptsV]
    refine mk_ref_single (base := 0) ⟨Nat.le_of_ble_eq_true rfl, Nat.le_of_ble_eq_true rfl, Nat.le_of_ble_eq_true rfl, rfl⟩ (fun hfit => ?_)
    unfold F0 ref_single_E
    simp (config := { maxSteps := 2000000 }) only [markU, List.set_cons_succ, List.set_cons_zero, List.map_cons, List.map_nil, argCt, setCells, ioOf, List.length_cons, List.length_nil, Nat.reduceAdd, Nat.reduceSub, List.replicate, List.cons_append, List.nil_append]
    try simp (config := { maxSteps := 2000000 }) only [go_sem, reduceCtorEq, Nat.reduceAdd, Nat.reduceEqDiff, reduceIte, Nat.reduceLeDiff, Nat.reduceLT, Nat.reduceSub]
    all_goals (repeat (with_reducible refine sAnd ?_))
    refine cond_t (by rfl) trivial ?_
    try simp (config := { maxSteps := 2000000 }) only [go_sem, reduceCtorEq, Nat.reduceAdd, Nat.reduceEqDiff, reduceIte, Nat.reduceLeDiff, Nat.reduceLT, Nat.reduceSub]
    all_goals (repeat (with_reducible refine sAnd ?_))
    exact fin_tup (by intro r; simp) (by repeat' (first | exact trivial | exact .inl rfl | exact .inr rfl | constructor))
  · simp only [ptsV, ptV_eq]
    rcases hs : p.steps with _ | ⟨x, _ | ⟨y, r⟩⟩
    · simp only [stsV]
      refine mk_ref_single (base := 0) ⟨Nat.le_of_ble_eq_true rfl, Nat.le_of_ble_eq_true rfl, Nat.le_of_ble_eq_true rfl, rfl⟩ (fun hfit => ?_)
      unfold F0 ref_single_E
      simp (config := { maxSteps := 2000000 }) only [markU, List.set_cons_succ, List.set_cons_zero, List.map_cons, List.map_nil, argCt, setCells, ioOf, List.length_cons, List.length_nil, Nat.reduceAdd, Nat.reduceSub, List.replicate, List.cons_append, List.nil_append]
      try simp (config := { maxSteps := 2000000 }) only [go_sem, reduceCtorEq, Nat.reduceAdd, Nat.reduceEqDiff, reduceIte, Nat.reduceLeDiff, Nat.reduceLT, Nat.reduceSub]
      all_goals (repeat (with_reducible refine sAnd ?_))
      refine cond_t (by rfl) trivial ?_
      try simp (config := { maxSteps := 2000000 }) only [go_sem, reduceCtorEq, Nat.reduceAdd, Nat.reduceEqDiff, reduceIte, Nat.reduceLeDiff, Nat.reduceLT, Nat.reduceSub]
      all_goals (repeat (with_reducible refine sAnd ?_))
      simp only [sgl, single, hs]
      exact fin_tup (by intro r; simp) (by repeat' (first | exact trivial | exact .inl rfl | exact .inr rfl | constructor))
    · simp only [stsV, stV_eq]
      refine mk_ref_single (base := 0) ⟨Nat.le_of_ble_eq_true rfl, Nat.le_of_ble_eq_true rfl, Nat.le_of_ble_eq_true rfl, rfl⟩ (fun hfit => ?_)
      unfold F0 ref_single_E
      simp (config := { maxSteps := 2000000 }) only [markU, List.set_cons_succ, List.set_cons_zero, List.map_cons, List.map_nil, argCt, setCells, ioOf, List.length_cons, List.length_nil, Nat.reduceAdd, Nat.reduceSub, List.replicate, List.cons_append, List.nil_append]
      try simp (config := { maxSteps := 2000000 }) only [go_sem, reduceCtorEq, Nat.reduceAdd, Nat.reduceEqDiff, reduceIte, Nat.reduceLeDiff, Nat.reduceLT, Nat.reduceSub]
      all_goals (repeat (with_reducible refine sAnd ?_))
      refine cond_f (by rfl) trivial ?_
      try simp (config := { maxSteps := 2000000 }) only [go_sem, reduceCtorEq, Nat.reduceAdd, Nat.reduceEqDiff, reduceIte, Nat.reduceLeDiff, Nat.reduceLT, Nat.reduceSub]
      all_goals (repeat (with_reducible refine sAnd ?_))
      simp only [sgl, single, hs, Option.getD_some, stV_eq]
      exact fin_tup (by intro r; simp) (by repeat' (first | exact trivial | exact .inl rfl | exact .inr rfl | constructor))
    · simp only [stsV]
      refine mk_ref_single (base := 0) ⟨Nat.le_of_ble_eq_true rfl, Nat.le_of_ble_eq_true rfl, Nat.le_of_ble_eq_true rfl, rfl⟩ (fun hfit => ?_)
      unfold F0 ref_single_E
      simp (config := { maxSteps := 2000000 }) only [markU, List.set_cons_succ, List.set_cons_zero, List.map_cons, List.map_nil, argCt, setCells, ioOf, List.length_cons, List.length_nil, Nat.reduceAdd, Nat.reduceSub, List.replicate, List.cons_append, List.nil_append]
      try simp (config := { maxSteps := 2000000 }) only [go_sem, reduceCtorEq, Nat.reduceAdd, Nat.reduceEqDiff, reduceIte, Nat.reduceLeDiff, Nat.reduceLT, Nat.reduceSub]
      all_goals (repeat (with_reducible refine sAnd ?_))
      refine cond_t (by rfl) trivial ?_
      try simp (config := { maxSteps := 2000000 }) only [go_sem, reduceCtorEq, Nat.reduceAdd, Nat.reduceEqDiff, reduceIte, Nat.reduceLeDiff, Nat.reduceLT, Nat.reduceSub]
      all_goals (repeat (with_reducible refine sAnd ?_))
      simp only [sgl, single, hs]
      exact fin_tup (by intro r; simp) (by repeat' (first | exact trivial | exact .inl rfl | exact .inr rfl | constructor))
  · simp only [ptsV, ptV_eq p]
    refine mk_ref_single (base := 0) ⟨Nat.le_of_ble_eq_true rfl, Nat.le_of_ble_eq_true rfl, Nat.le_of_ble_eq_true rfl, rfl⟩ (fun hfit => ?_)
    unfold F0 ref_single_E
    simp (config := { maxSteps := 2000000 }) only [markU, List.set_cons_succ, List.set_cons_zero, List.map_cons, List.map_nil, argCt, setCells, ioOf, List.length_cons, List.length_nil, Nat.reduceAdd, Nat.reduceSub, List.replicate, List.cons_append, List.nil_append]
    try simp (config := { maxSteps := 2000000 }) only [go_sem, reduceCtorEq, Nat.reduceAdd, Nat.reduceEqDiff, reduceIte, Nat.reduceLeDiff, Nat.reduceLT, Nat.reduceSub]
    all_goals (repeat (with_reducible refine sAnd ?_))
    refine cond_t (by rfl) trivial ?_
    try simp (config := { maxSteps := 2000000 }) only [go_sem, reduceCtorEq, Nat.reduceAdd, Nat.reduceEqDiff, reduceIte, Nat.reduceLeDiff, Nat.reduceLT, Nat.reduceSub]
    all_goals (repeat (with_reducible refine sAnd ?_))
    exact fin_tup (by intro r; simp) (by repeat' (first | exact trivial | exact .inl rfl | exact .inr rfl | constructor))
theorem st_q7 {Q : Exit → List Ct → Prop} (s o x : St) (i : Nat) (is fits : Bool) (k na nb : Int) (nm vl : Bys) (c2 : List (List PV)) (c20 : Ct)
    (h : ∀ b, b = (is && nnB k x) → Q .normal [.pv (.agg [bS s.tag, .sl 6 (tssV s.tests)]), .pv (.one (.fp [bS s.tag, .sl 6 (tssV s.tests)])), .ptr 0 0, .ptr 1 0, .pv (iv i), .pv (.one (.fp [bI k, bS nm, bS vl, bI na, bI nb, .sl 2 c2])), .pv (.one (.fp [bS x.tag, .sl 6 (tssV x.tests)])), .pv (bv is), .pv (bv fits), .un, .un, .un, .un, .un, .un, .un, .un, .un, .un, .un, c20, .un, .un, .un, .un, .un, .un, .un, .un, .un, .un, .un, .un, .un, .un, .un, .un, .un, .un, .un, .un, .un, .un, .un, .un, .un, .un, .un, .un, .un, .un, .un, .un, .un, .un, .pv (bv b), .un, .un, .un, .un, .un, .un, .un, .un, .un, .un, .un, .un, .un, .un, .un, .un, .un, .un, .un, .un, .un, .un, .un, .un, .un, .un, .un, .un, .un, .un, .un, .un, .un, .un, .un, .un, .un, .un, .un, .un, .un, .un, .un, .un, .un, .un, .un, .un, .un, .un, .un, .un, .un, .un, .un, .un, .un, .un, .un, .un, .un, .un, .un, .un, .un, .un, .un, .un, .un, .un, .un, .un, .un, .un, .un, .un, .un, .un, .un, .un, .un, .un, .un, .un, .un, .un, .un, .un, .un, .un, .un, .un, .un, .un, .un, .un, .un, .un, .un, .un, .un, .un, .un, .un, .un, .un, .un, .un, .un, .un, .un, .un, .un, .un, .pv (.one (.v (mkS []))), .pv (.one (.nl 6)), .pv (.one (bS o.tag)), .own ty_api_Test 6 (tssV o.tests), .un, .un, .un, .un, .un, .un, .un, .un]) :
    hwp Tryd.prog ref_onceStep_r7 Q [.pv (.agg [bS s.tag, .sl 6 (tssV s.tests)]), .pv (.one (.fp [bS s.tag, .sl 6 (tssV s.tests)])), .ptr 0 0, .ptr 1 0, .pv (iv i), .pv (.one (.fp [bI k, bS nm, bS vl, bI na, bI nb, .sl 2 c2])), .pv (.one (.fp [bS x.tag, .sl 6 (tssV x.tests)])), .pv (bv is), .pv (bv fits), .un, .un, .un, .un, .un, .un, .un, .un, .un, .un, .un, c20, .un, .un, .un, .un, .un, .un, .un, .un, .un, .un, .un, .un, .un, .un, .un, .un, .un, .un, .un, .un, .un, .un, .un, .un, .un, .un, .un, .un, .un, .un, .un, .un, .un, .un, .un, .un, .un, .un, .un, .un, .un, .un, .un, .un, .un, .un, .un, .un, .un, .un, .un, .un, .un, .un, .un, .un, .un, .un, .un, .un, .un, .un, .un, .un, .un, .un, .un, .un, .un, .un, .un, .un, .un, .un, .un, .un, .un, .un, .un, .un, .un, .un, .un, .un, .un, .un, .un, .un, .un, .un, .un, .un, .un, .un, .un, .un, .un, .un, .un, .un, .un, .un, .un, .un, .un, .un, .un, .un, .un, .un, .un, .un, .un, .un, .un, .un, .un, .un, .un, .un, .un, .un, .un, .un, .un, .un, .un, .un, .un, .un, .un, .un, .un, .un, .un, .un, .un, .un, .un, .un, .un, .un, .un, .un, .un, .un, .un, .un, .un, .pv (.one (.v (mkS []))), .pv (.one (.nl 6)), .pv (.one (bS o.tag)), .own ty_api_Test 6 (tssV o.tests), .un, .un, .un, .un, .un, .un, .un, .un] := by
  unfold nnB at h
  obtain ⟨xt, xl⟩ := x
  simp only [St.tag_mk, St.tests_mk] at h ⊢
  rcases xl with _ | ⟨u, _ | ⟨v, w⟩⟩
  · simp only [tssV] at h ⊢
    rcases is with _ | _
    · try simp (config := { maxSteps := 2000000 }) only [go_sem, reduceCtorEq, Nat.reduceAdd, Nat.reduceEqDiff, reduceIte, Nat.reduceLeDiff, Nat.reduceLT, Nat.reduceSub, Bool.not_true, Bool.not_false]
      all_goals (repeat (with_reducible refine sAnd ?_))
      exact h _ (by simp)
    by_cases hk : k = 13
    · have e1 : (k == 13) = true := by simp [hk]
      by_cases ha : xt = []
      · have e2 : (xt == []) = true := by simp [ha]
        try simp (config := { maxSteps := 2000000 }) only [go_sem, reduceCtorEq, Nat.reduceAdd, Nat.reduceEqDiff, reduceIte, Nat.reduceLeDiff, Nat.reduceLT, Nat.reduceSub, e1, e2, Bool.not_true, Bool.not_false]
        all_goals (repeat (with_reducible refine sAnd ?_))
        exact h _ (by rw [e1, e2]; first | rfl | simp)
      · have e2 : (xt == []) = false := by simp [ha]
        try simp (config := { maxSteps := 2000000 }) only [go_sem, reduceCtorEq, Nat.reduceAdd, Nat.reduceEqDiff, reduceIte, Nat.reduceLeDiff, Nat.reduceLT, Nat.reduceSub, e1, e2, Bool.not_true, Bool.not_false]
        all_goals (repeat (with_reducible refine sAnd ?_))
        exact h _ (by rw [e1, e2]; first | rfl | simp)
    · have e1 : (k == 13) = false := by simp [hk]
      try simp (config := { maxSteps := 2000000 }) only [go_sem, reduceCtorEq, Nat.reduceAdd, Nat.reduceEqDiff, reduceIte, Nat.reduceLeDiff, Nat.reduceLT, Nat.reduceSub, e1, Bool.not_true, Bool.not_false]
      all_goals (repeat (with_reducible refine sAnd ?_))
      exact h _ (by rw [e1]; first | rfl | simp)
  · simp only [tssV, tsV_eq u] at h ⊢
    rcases is with _ | _
    · try simp (config := { maxSteps := 2000000 }) only [go_sem, reduceCtorEq, Nat.reduceAdd, Nat.reduceEqDiff, reduceIte, Nat.reduceLeDiff, Nat.reduceLT, Nat.reduceSub, Bool.not_true, Bool.not_false]
      all_goals (repeat (with_reducible refine sAnd ?_))
      exact h _ (by simp)
    by_cases hk : k = 13
    · have e1 : (k == 13) = true := by simp [hk]
      by_cases ha : xt = []
      · have e2 : (xt == []) = true := by simp [ha]
        try simp (config := { maxSteps := 2000000 }) only [go_sem, reduceCtorEq, Nat.reduceAdd, Nat.reduceEqDiff, reduceIte, Nat.reduceLeDiff, Nat.reduceLT, Nat.reduceSub, e1, e2, Bool.not_true, Bool.not_false]
        all_goals (repeat (with_reducible refine sAnd ?_))
        exact h _ (by rw [e1, e2]; first | rfl | simp)
      · have e2 : (xt == []) = false := by simp [ha]
        try simp (config := { maxSteps := 2000000 }) only [go_sem, reduceCtorEq, Nat.reduceAdd, Nat.reduceEqDiff, reduceIte, Nat.reduceLeDiff, Nat.reduceLT, Nat.reduceSub, e1, e2, Bool.not_true, Bool.not_false]
        all_goals (repeat (with_reducible refine sAnd ?_))
        exact h _ (by rw [e1, e2]; first | rfl | simp)
    · have e1 : (k == 13) = false := by simp [hk]
      try simp (config := { maxSteps := 2000000 }) only [go_sem, reduceCtorEq, Nat.reduceAdd, Nat.reduceEqDiff, reduceIte, Nat.reduceLeDiff, Nat.reduceLT, Nat.reduceSub, e1, Bool.not_true, Bool.not_false]
      all_goals (repeat (with_reducible refine sAnd ?_))
      exact h _ (by rw [e1]; first | rfl | simp)
  · simp only [tssV, tsV_eq u] at h ⊢
    rcases is with _ | _
    · try simp (config := { maxSteps := 2000000 }) only [go_sem, reduceCtorEq, Nat.reduceAdd, Nat.reduceEqDiff, reduceIte, Nat.reduceLeDiff, Nat.reduceLT, Nat.reduceSub, Bool.not_true, Bool.not_false]
      all_goals (repeat (with_reducible refine sAnd ?_))
      exact h _ (by simp)
    by_cases hk : k = 13
    · have e1 : (k == 13) = true := by simp [hk]
      by_cases ha : xt = []
      · have e2 : (xt == []) = true := by simp [ha]
        try simp (config := { maxSteps := 2000000 }) only [go_sem, reduceCtorEq, Nat.reduceAdd, Nat.reduceEqDiff, reduceIte, Nat.reduceLeDiff, Nat.reduceLT, Nat.reduceSub, e1, e2, Bool.not_true, Bool.not_false]
        all_goals (repeat (with_reducible refine sAnd ?_))
        exact h _ (by rw [e1, e2]; first | rfl | simp)
      · have e2 : (xt == []) = false := by simp [ha]
        try simp (config := { maxSteps := 2000000 }) only [go_sem, reduceCtorEq, Nat.reduceAdd, Nat.reduceEqDiff, reduceIte, Nat.reduceLeDiff, Nat.reduceLT, Nat.reduceSub, e1, e2, Bool.not_true, Bool.not_false]
        all_goals (repeat (with_reducible refine sAnd ?_))
        exact h _ (by rw [e1, e2]; first | rfl | simp)
    · have e1 : (k == 13) = false := by simp [hk]
      try simp (config := { maxSteps := 2000000 }) only [go_sem, reduceCtorEq, Nat.reduceAdd, Nat.reduceEqDiff, reduceIte, Nat.reduceLeDiff, Nat.reduceLT, Nat.reduceSub, e1, Bool.not_true, Bool.not_false]
      all_goals (repeat (with_reducible refine sAnd ?_))
      exact h _ (by rw [e1]; first | rfl | simp)
/-- Does a test's one step fit, in tag and number? -/
def fitR (o : St) (k : Int) (xt : Bys) (fits : Bool) : Bool := (k == 14) && ((xt == []) || (o.tag == []) || (xt == o.tag)) && fits
theorem st_q9 {Q : Exit → List Ct → Prop} (s o : St) (i : Nat) (is fits : Bool) (k na nb : Int) (xt nm vl : Bys) (rx c2 : List (List PV)) (c20 c55 : Ct)
    (h : ∀ b, b = (is && fitR o k xt fits) → Q .normal [.pv (.agg [bS s.tag, .sl 6 (tssV s.tests)]), .pv (.one (.fp [bS s.tag, .sl 6 (tssV s.tests)])), .ptr 0 0, .ptr 1 0, .pv (iv i), .pv (.one (.fp [bI k, bS nm, bS vl, bI na, bI nb, .sl 2 c2])), .pv (.one (.fp [bS xt, .sl 6 rx])), .pv (bv is), .pv (bv fits), .un, .un, .un, .un, .un, .un, .un, .un, .un, .un, .un, c20, .un, .un, .un, .un, .un, .un, .un, .un, .un, .un, .un, .un, .un, .un, .un, .un, .un, .un, .un, .un, .un, .un, .un, .un, .un, .un, .un, .un, .un, .un, .un, .un, .un, .un, c55, .un, .un, .un, .un, .un, .un, .un, .un, .un, .un, .un, .un, .un, .un, .un, .un, .un, .un, .un, .un, .un, .un, .un, .un, .un, .un, .un, .un, .un, .un, .un, .un, .un, .un, .un, .un, .pv (bv b), .un, .un, .un, .un, .un, .un, .un, .un, .un, .un, .un, .un, .un, .un, .un, .un, .un, .un, .un, .un, .un, .un, .un, .un, .un, .un, .un, .un, .un, .un, .un, .un, .un, .un, .un, .un, .un, .un, .un, .un, .un, .un, .un, .un, .un, .un, .un, .un, .un, .un, .un, .un, .un, .un, .un, .un, .un, .un, .un, .un, .un, .un, .un, .un, .un, .un, .un, .un, .un, .un, .un, .un, .un, .un, .un, .un, .un, .pv (.one (.v (mkS []))), .pv (.one (.nl 6)), .pv (.one (bS o.tag)), .own ty_api_Test 6 (tssV o.tests), .un, .un, .un, .un, .un, .un, .un, .un]) :
    hwp Tryd.prog ref_onceStep_r9 Q [.pv (.agg [bS s.tag, .sl 6 (tssV s.tests)]), .pv (.one (.fp [bS s.tag, .sl 6 (tssV s.tests)])), .ptr 0 0, .ptr 1 0, .pv (iv i), .pv (.one (.fp [bI k, bS nm, bS vl, bI na, bI nb, .sl 2 c2])), .pv (.one (.fp [bS xt, .sl 6 rx])), .pv (bv is), .pv (bv fits), .un, .un, .un, .un, .un, .un, .un, .un, .un, .un, .un, c20, .un, .un, .un, .un, .un, .un, .un, .un, .un, .un, .un, .un, .un, .un, .un, .un, .un, .un, .un, .un, .un, .un, .un, .un, .un, .un, .un, .un, .un, .un, .un, .un, .un, .un, c55, .un, .un, .un, .un, .un, .un, .un, .un, .un, .un, .un, .un, .un, .un, .un, .un, .un, .un, .un, .un, .un, .un, .un, .un, .un, .un, .un, .un, .un, .un, .un, .un, .un, .un, .un, .un, .un, .un, .un, .un, .un, .un, .un, .un, .un, .un, .un, .un, .un, .un, .un, .un, .un, .un, .un, .un, .un, .un, .un, .un, .un, .un, .un, .un, .un, .un, .un, .un, .un, .un, .un, .un, .un, .un, .un, .un, .un, .un, .un, .un, .un, .un, .un, .un, .un, .un, .un, .un, .un, .un, .un, .un, .un, .un, .un, .un, .un, .un, .un, .un, .un, .un, .un, .un, .un, .un, .un, .un, .un, .un, .un, .un, .un, .un, .pv (.one (.v (mkS []))), .pv (.one (.nl 6)), .pv (.one (bS o.tag)), .own ty_api_Test 6 (tssV o.tests), .un, .un, .un, .un, .un, .un, .un, .un] := by
  rcases is with _ | _
  · try simp (config := { maxSteps := 2000000 }) only [go_sem, reduceCtorEq, Nat.reduceAdd, Nat.reduceEqDiff, reduceIte, Nat.reduceLeDiff, Nat.reduceLT, Nat.reduceSub, Bool.not_true, Bool.not_false]
    all_goals (repeat (with_reducible refine sAnd ?_))
    exact h _ (by simp)
  by_cases hk : k = 14
  · have e1 : (k == 14) = true := by simp [hk]
    by_cases ha : xt = []
    · have e2 : (xt == []) = true := by simp [ha]
      try simp (config := { maxSteps := 2000000 }) only [go_sem, reduceCtorEq, Nat.reduceAdd, Nat.reduceEqDiff, reduceIte, Nat.reduceLeDiff, Nat.reduceLT, Nat.reduceSub, e1, e2, Bool.not_true, Bool.not_false]
      all_goals (repeat (with_reducible refine sAnd ?_))
      exact h _ (by unfold fitR; rw [e1, e2]; cases fits <;> simp)
    · have e2 : (xt == []) = false := by simp [ha]
      by_cases hb : o.tag = []
      · have e3 : (o.tag == []) = true := by simp [hb]
        try simp (config := { maxSteps := 2000000 }) only [go_sem, reduceCtorEq, Nat.reduceAdd, Nat.reduceEqDiff, reduceIte, Nat.reduceLeDiff, Nat.reduceLT, Nat.reduceSub, e1, e2, e3, Bool.not_true, Bool.not_false]
        all_goals (repeat (with_reducible refine sAnd ?_))
        exact h _ (by unfold fitR; rw [e1, e2, e3]; cases fits <;> simp)
      · have e3 : (o.tag == []) = false := by simp [hb]
        by_cases hc : xt = o.tag
        · have e4 : (xt == o.tag) = true := by simp [hc]
          try simp (config := { maxSteps := 2000000 }) only [go_sem, reduceCtorEq, Nat.reduceAdd, Nat.reduceEqDiff, reduceIte, Nat.reduceLeDiff, Nat.reduceLT, Nat.reduceSub, e1, e2, e3, e4, Bool.not_true, Bool.not_false]
          all_goals (repeat (with_reducible refine sAnd ?_))
          exact h _ (by unfold fitR; rw [e1, e2, e3, e4]; cases fits <;> simp)
        · have e4 : (xt == o.tag) = false := by simp [hc]
          try simp (config := { maxSteps := 2000000 }) only [go_sem, reduceCtorEq, Nat.reduceAdd, Nat.reduceEqDiff, reduceIte, Nat.reduceLeDiff, Nat.reduceLT, Nat.reduceSub, e1, e2, e3, e4, Bool.not_true, Bool.not_false]
          all_goals (repeat (with_reducible refine sAnd ?_))
          exact h _ (by unfold fitR; rw [e1, e2, e3, e4]; rfl)
  · have e1 : (k == 14) = false := by simp [hk]
    try simp (config := { maxSteps := 2000000 }) only [go_sem, reduceCtorEq, Nat.reduceAdd, Nat.reduceEqDiff, reduceIte, Nat.reduceLeDiff, Nat.reduceLT, Nat.reduceSub, e1, Bool.not_true, Bool.not_false]
    all_goals (repeat (with_reducible refine sAnd ?_))
    exact h _ (by unfold fitR; rw [e1]; rfl)
end Go.Hx
end

section
-- DOM getO, listV, intsR_len, ptsV_len, stsV_len, tssV_len, List.getD_nil, List.take_nil, List.headD_nil, List.headD_cons, List.getD_cons_zero, List.length_cons, List.length_nil, i_ez0, i_ez1, i_ez2, i_nz0, i_nz1, i_nz2, i_toNat0, i_toNat1, bif_ff, List.drop_zero, List.take_succ_cons, List.take_zero, List.map_nil, List.map_cons, List.length_drop, List.length_take, List.take_length
set_option maxRecDepth 100000
set_option linter.unusedSimpArgs false
set_option maxHeartbeats 40000000
namespace Go.Hx
open Go.Proofs
variable [Glob]

attribute [local go_sem] ndsV_len clsV_len attV_len intsR_len ndV cellsEq getO listV ptsV_len stsV_len tssV_len List.getD_nil List.take_nil List.headD_nil List.headD_cons List.getD_cons_zero List.length_cons List.length_nil i_ez0 i_ez1 i_ez2 i_nz0 i_nz1 i_nz2 i_toNat0 i_toNat1 bif_ff List.drop_zero List.take_succ_cons List.take_zero List.map_nil List.map_cons List.length_drop List.length_take List.take_length
theorem flat1_any {o : St} {t : Ts} {r : Nat} (h : ∀ x, single t.list = some x → notNot t x = none ∧ ¬ (t.kind = 14 ∧ (x.tag = [] ∨ o.tag = [] ∨ x.tag = o.tag) ∧ o.tests.length + x.tests.length + r ≤ 6)) : flat1 o t r = .mk o.tag (o.tests ++ [t]) := by
  rcases hs : single t.list with _ | x
  · exact flat1_one hs
  · exact flat1_not hs (h x hs).1 (h x hs).2
theorem sgl_some {l : List Pt} {x : St} (h : single l = some x) : sgl l = x := by unfold sgl; rw [h]; rfl
theorem sgl_isSome {l : List Pt} (h : (single l).isSome = true) : single l = some (sgl l) := by
  cases hs : single l with
  | none => rw [hs] at h; cases h
  | some x => rw [sgl_some hs]
theorem nsub_len (a b n i : Nat) (h : i < n) : decide ((a : Int) + (b : Int) + (n : Int) - (i : Int) - 1 ≤ 6) = decide (a + b + (n - (i + 1)) ≤ 6) := decide_eq_decide.2 (by omega)
theorem any_take_succ {l : List Ts} {k : Nat} (hk : k < l.length) (p : Ts → Bool) : (l.take (k + 1)).any p = ((l.take k).any p || p (l.getD k default)) := by
  rw [take_succ_pp default hk, List.any_append, List.any_cons, List.any_nil, Bool.or_false]

theorem c_onceStep (s : St) (hlen : s.tests.length ≤ 6) (hsh : ∀ i, i < s.tests.length → (sgl (s.tests.getD i default).list).tests.length ≤ 6) : Contract Tryd.prog fn_ref_onceStep [.val (.agg (stV s))] { res := .val (.agg (stV (onceS s))) } := by
  rw [stV_eq]
  obtain ⟨R, hR⟩ : ∃ R, R = flatT (.mk s.tag []) s.tests := ⟨_, rfl⟩
  refine mk_ref_onceStep (base := 0) ⟨Nat.le_of_ble_eq_true rfl, Nat.le_of_ble_eq_true rfl, Nat.le_of_ble_eq_true rfl, rfl⟩ (fun hfit => ?_)
  unfold F0 ref_onceStep_E
  simp (config := { maxSteps := 2000000 }) only [markU, List.set_cons_succ, List.set_cons_zero, List.map_cons, List.map_nil, argCt, setCells, ioOf, List.length_cons, List.length_nil, Nat.reduceAdd, Nat.reduceSub, List.replicate, List.cons_append, List.nil_append]
  try simp (config := { maxSteps := 2000000 }) only [go_sem, reduceCtorEq, Nat.reduceAdd, Nat.reduceEqDiff, reduceIte, Nat.reduceLeDiff, Nat.reduceLT, Nat.reduceSub]
  all_goals (repeat (with_reducible refine sAnd ?_))
  refine loop_sets (fun x : Nat × St => [(4, .pv (iv x.1)), (172, .pv (.one (bS x.2.tag))), (173, .own ty_api_Test 6 (tssV x.2.tests)), (5, .un), (6, .un), (7, .un), (8, .un), (20, .un), (55, .un), (92, .un), (121, .un)]) (fun x : Nat × St => s.tests.length - x.1) (fun x : Nat × St => x.1 ≤ s.tests.length ∧ flatT x.2 (s.tests.drop x.1) = R ∧ x.2.tests.length + (s.tests.length - x.1) ≤ 6) ((0, .mk s.tag [])) ?_ ⟨Nat.zero_le _, hR.symm, by simpa [St.tests_mk] using hlen⟩ ?_
  focus (simp (config := { maxSteps := 2000000 }) only [go_sem, reduceCtorEq, Nat.reduceAdd, Nat.reduceEqDiff, reduceIte, Nat.reduceLeDiff, Nat.reduceLT, Nat.reduceSub, le_cons, le_nil, le_un, le_same]; all_goals (repeat' (first | exact trivial | exact le_int (by omega) | exact le_bool rfl | exact le_eq rfl | exact le_nlo | exact le_refl _ | refine And.intro ?_ ?_)))
  rintro ⟨i, o⟩ ⟨hi, hinv, hol⟩
  simp only at hi hinv hol
  try simp (config := { maxSteps := 2000000 }) only [go_sem, reduceCtorEq, Nat.reduceAdd, Nat.reduceEqDiff, reduceIte, Nat.reduceLeDiff, Nat.reduceLT, Nat.reduceSub]
  all_goals (repeat (with_reducible refine sAnd ?_))
  refine cond_of (by rfl) trivial (fun h2 => ?_) (fun h2 => ?_)
  · have hil : i < s.tests.length := by simp at h2; omega
    obtain ⟨t, ht⟩ : ∃ t, t = s.tests.getD i default := ⟨_, rfl⟩
    have e1 := tssV_get s.tests i hil
    rw [← ht, tsV_eq] at e1
    have hxl := hsh i hil
    rw [← ht] at hxl
    rw [drop_get (d := default) hil, ← ht, flatT_cons, List.length_drop] at hinv
    have hrest : s.tests.length - (i + 1) + 1 = s.tests.length - i := by omega
    have hsg := c_single t.list
    obtain ⟨x, hx⟩ : ∃ x, x = sgl t.list := ⟨_, rfl⟩
    rw [← hx] at hxl hsg
    rw [stV_eq] at hsg
    try simp (config := { maxSteps := 2000000 }) only [go_sem, reduceCtorEq, Nat.reduceAdd, Nat.reduceEqDiff, reduceIte, Nat.reduceLeDiff, Nat.reduceLT, Nat.reduceSub, e1]
    all_goals (repeat (with_reducible refine sAnd ?_))
    generalize hq7 : ref_onceStep_r7 = Z7
    generalize hq9 : ref_onceStep_r9 = Z9
    refine call_tup (by repeat' constructor) (hsg) ?_
    try simp (config := { maxSteps := 2000000 }) only [go_sem, reduceCtorEq, Nat.reduceAdd, Nat.reduceEqDiff, reduceIte, Nat.reduceLeDiff, Nat.reduceLT, Nat.reduceSub]
    all_goals (repeat (with_reducible refine sAnd ?_))
    subst hq7
    obtain ⟨is, his⟩ : ∃ is, is = (single t.list).isSome := ⟨_, rfl⟩
    rw [← his]
    refine st_q7 s o x i is _ _ _ _ _ _ _ _ (fun b7 hb7 => ?_)
    try simp (config := { maxSteps := 2000000 }) only [go_sem, reduceCtorEq, Nat.reduceAdd, Nat.reduceEqDiff, reduceIte, Nat.reduceLeDiff, Nat.reduceLT, Nat.reduceSub]
    refine cond_of (by rfl) trivial (fun h7 => ?_) (fun h7 => ?_)
    · rw [hb7, Bool.and_eq_true] at h7
      have hs1 : single t.list = some x := by rw [hx]; exact sgl_isSome (by rw [← his]; exact h7.1)
      obtain ⟨u, hnn, hts⟩ := nnB_some h7.2
      have hf : flat1 o t (s.tests.length - (i + 1)) = .mk o.tag (o.tests ++ [.mk 14 [] [] 0 0 u.list]) := flat1_nn hs1 hnn
      rw [hts]
      simp only [tssV, tsV_eq u]
      try simp (config := { maxSteps := 2000000 }) only [go_sem, reduceCtorEq, Nat.reduceAdd, Nat.reduceEqDiff, reduceIte, Nat.reduceLeDiff, Nat.reduceLT, Nat.reduceSub]
      all_goals (repeat (with_reducible refine sAnd ?_))
      refine ⟨(i + 1, .mk o.tag (o.tests ++ [.mk 14 [] [] 0 0 u.list])), by simp only; omega, ⟨by simp only; omega, by simp only; rw [← hf]; exact hinv, by simp only [St.tests_mk, List.length_append, List.length_cons, List.length_nil]; omega⟩, ?_⟩
      simp (config := { maxSteps := 2000000 }) only [go_sem, reduceCtorEq, Nat.reduceAdd, Nat.reduceEqDiff, reduceIte, Nat.reduceLeDiff, Nat.reduceLT, Nat.reduceSub, le_cons, le_nil, le_un, le_same]
      all_goals (repeat' (first | exact trivial | exact le_int (by omega) | exact le_bool rfl | exact le_eq rfl | exact le_nlo | exact le_refl _ | refine And.intro ?_ ?_))
      all_goals (first | exact le_eq (by simp only [St.tag_mk]) | (refine le_own ?_; simp only [St.tests_mk, tssV_app, tssV, tsV] ; done) | (refine le_own ?_; simp only [St.tests_mk, tssV_app, tssV, tsV_eq]))
    · subst hq9
      refine st_q9 s o i is _ _ _ _ _ _ _ _ _ _ _ (fun b9 hb9 => ?_)
      try simp (config := { maxSteps := 2000000 }) only [go_sem, reduceCtorEq, Nat.reduceAdd, Nat.reduceEqDiff, reduceIte, Nat.reduceLeDiff, Nat.reduceLT, Nat.reduceSub]
      refine cond_of (by rfl) trivial (fun h9 => ?_) (fun h9 => ?_)
      · rw [hb9, Bool.and_eq_true] at h9
        have hs1 : single t.list = some x := by rw [hx]; exact sgl_isSome (by rw [← his]; exact h9.1)
        have hnn : notNot t x = none := nnB_none (by
          rw [hb7, h9.1, Bool.true_and] at h7
          exact h7)
        have hc : t.kind = 14 ∧ (x.tag = [] ∨ o.tag = [] ∨ x.tag = o.tag) ∧ o.tests.length + x.tests.length + (s.tests.length - (i + 1)) ≤ 6 := by
          have h10 := h9.2
          simp only [fitR] at h10
          simp at h10 ⊢
          refine ⟨h10.1.1, by grind, by omega⟩
        by_cases hot : o.tag = []
        · have hf : flat1 o t (s.tests.length - (i + 1)) = .mk x.tag (o.tests ++ x.tests) := by
            rw [flat1_fit hs1 hnn hc, if_pos hot]
          try simp (config := { maxSteps := 2000000 }) only [go_sem, reduceCtorEq, Nat.reduceAdd, Nat.reduceEqDiff, reduceIte, Nat.reduceLeDiff, Nat.reduceLT, Nat.reduceSub]
          all_goals (repeat (with_reducible refine sAnd ?_))
          refine cond_t (by simp only [hot]; rfl) trivial ?_
          try simp (config := { maxSteps := 2000000 }) only [go_sem, reduceCtorEq, Nat.reduceAdd, Nat.reduceEqDiff, reduceIte, Nat.reduceLeDiff, Nat.reduceLT, Nat.reduceSub]
          all_goals (repeat (with_reducible refine sAnd ?_))
          refine ⟨(i + 1, .mk x.tag (o.tests ++ x.tests)), by simp only; omega, ⟨by simp only; omega, by simp only; rw [← hf]; exact hinv, by simp only [St.tests_mk, List.length_append, List.length_cons, List.length_nil]; omega⟩, ?_⟩
          simp (config := { maxSteps := 2000000 }) only [go_sem, reduceCtorEq, Nat.reduceAdd, Nat.reduceEqDiff, reduceIte, Nat.reduceLeDiff, Nat.reduceLT, Nat.reduceSub, le_cons, le_nil, le_un, le_same]
          all_goals (repeat' (first | exact trivial | exact le_int (by omega) | exact le_bool rfl | exact le_eq rfl | exact le_nlo | exact le_refl _ | refine And.intro ?_ ?_))
          all_goals (first | exact le_eq (by simp only [St.tag_mk]) | (refine le_own ?_; simp only [St.tests_mk, tssV_app, tssV, tsV] ; done) | (refine le_own ?_; simp only [St.tests_mk, tssV_app, tssV, tsV_eq]))
        · have hf : flat1 o t (s.tests.length - (i + 1)) = .mk o.tag (o.tests ++ x.tests) := by
            rw [flat1_fit hs1 hnn hc, if_neg hot]
          try simp (config := { maxSteps := 2000000 }) only [go_sem, reduceCtorEq, Nat.reduceAdd, Nat.reduceEqDiff, reduceIte, Nat.reduceLeDiff, Nat.reduceLT, Nat.reduceSub]
          all_goals (repeat (with_reducible refine sAnd ?_))
          refine cond_of (by rfl) trivial (fun h11 => ?_) (fun h11 => ?_)
          · exact (hot (by simpa using h11)).elim
          try simp (config := { maxSteps := 2000000 }) only [go_sem, reduceCtorEq, Nat.reduceAdd, Nat.reduceEqDiff, reduceIte, Nat.reduceLeDiff, Nat.reduceLT, Nat.reduceSub]
          all_goals (repeat (with_reducible refine sAnd ?_))
          refine ⟨(i + 1, .mk o.tag (o.tests ++ x.tests)), by simp only; omega, ⟨by simp only; omega, by simp only; rw [← hf]; exact hinv, by simp only [St.tests_mk, List.length_append, List.length_cons, List.length_nil]; omega⟩, ?_⟩
          simp (config := { maxSteps := 2000000 }) only [go_sem, reduceCtorEq, Nat.reduceAdd, Nat.reduceEqDiff, reduceIte, Nat.reduceLeDiff, Nat.reduceLT, Nat.reduceSub, le_cons, le_nil, le_un, le_same]
          all_goals (repeat' (first | exact trivial | exact le_int (by omega) | exact le_bool rfl | exact le_eq rfl | exact le_nlo | exact le_refl _ | refine And.intro ?_ ?_))
          all_goals (first | exact le_eq (by simp only [St.tag_mk]) | (refine le_own ?_; simp only [St.tests_mk, tssV_app, tssV, tsV] ; done) | (refine le_own ?_; simp only [St.tests_mk, tssV_app, tssV, tsV_eq]))
      · have hf : flat1 o t (s.tests.length - (i + 1)) = .mk o.tag (o.tests ++ [t]) := flat1_any fun y hy => by
          have hxy : x = y := by rw [hx]; exact sgl_some hy
          subst hxy
          have hi1 : is = true := by rw [his, hy]; rfl
          rw [hb7, hi1, Bool.true_and] at h7
          rw [hb9, hi1, Bool.true_and] at h9
          refine ⟨nnB_none h7, fun hc => ?_⟩
          have : fitR o t.kind x.tag (decide ((o.tests.length : Int) + x.tests.length + s.tests.length - i - 1 ≤ 6)) = true := by
            simp only [fitR]
            simp
            refine ⟨⟨hc.1, by grind⟩, by omega⟩
          rw [this] at h9
          cases h9
        try simp (config := { maxSteps := 2000000 }) only [go_sem, reduceCtorEq, Nat.reduceAdd, Nat.reduceEqDiff, reduceIte, Nat.reduceLeDiff, Nat.reduceLT, Nat.reduceSub]
        all_goals (repeat (with_reducible refine sAnd ?_))
        refine ⟨(i + 1, .mk o.tag (o.tests ++ [t])), by simp only; omega, ⟨by simp only; omega, by simp only; rw [← hf]; exact hinv, by simp only [St.tests_mk, List.length_append, List.length_cons, List.length_nil]; omega⟩, ?_⟩
        simp (config := { maxSteps := 2000000 }) only [go_sem, reduceCtorEq, Nat.reduceAdd, Nat.reduceEqDiff, reduceIte, Nat.reduceLeDiff, Nat.reduceLT, Nat.reduceSub, le_cons, le_nil, le_un, le_same]
        all_goals (repeat' (first | exact trivial | exact le_int (by omega) | exact le_bool rfl | exact le_eq rfl | exact le_nlo | exact le_refl _ | refine And.intro ?_ ?_))
        all_goals (first | exact le_eq (by simp only [St.tag_mk]) | (refine le_own ?_; simp only [St.tests_mk, tssV_app, tssV, tsV] ; done) | (refine le_own ?_; simp only [St.tests_mk, tssV_app, tssV, tsV_eq]))
  · have hil : i = s.tests.length := by simp at h2; omega
    rw [hil, List.drop_length] at hinv
    have hoR : o = R := hinv
    have hol6 : o.tests.length ≤ 6 := by omega
    try simp (config := { maxSteps := 2000000 }) only [go_sem, reduceCtorEq, Nat.reduceAdd, Nat.reduceEqDiff, reduceIte, Nat.reduceLeDiff, Nat.reduceLT, Nat.reduceSub]
    all_goals (repeat (with_reducible refine sAnd ?_))
    refine loop_sets (fun j : Nat => [(10, .pv (iv j)), (9, .own ty_api_Test 6 (tssV (firsts sameT (o.tests.take j)))), (11, .un), (12, .un), (135, .un), (140, .un), (158, .un)]) (fun j : Nat => o.tests.length - j) (fun j : Nat => j ≤ o.tests.length) (0) ?_ (Nat.zero_le _) ?_
    focus (simp (config := { maxSteps := 2000000 }) only [go_sem, reduceCtorEq, Nat.reduceAdd, Nat.reduceEqDiff, reduceIte, Nat.reduceLeDiff, Nat.reduceLT, Nat.reduceSub, le_cons, le_nil, le_un, le_same]; all_goals (repeat' (first | exact trivial | exact le_int (by omega) | exact le_bool rfl | exact le_eq rfl | exact le_nlo | exact le_refl _ | refine And.intro ?_ ?_)))
    rintro j hj
    try simp (config := { maxSteps := 2000000 }) only [go_sem, reduceCtorEq, Nat.reduceAdd, Nat.reduceEqDiff, reduceIte, Nat.reduceLeDiff, Nat.reduceLT, Nat.reduceSub]
    all_goals (repeat (with_reducible refine sAnd ?_))
    refine cond_of (by rfl) trivial (fun h4 => ?_) (fun h4 => ?_)
    · have hjl : j < o.tests.length := by simp at h4; omega
      obtain ⟨t, ht⟩ : ∃ t, t = o.tests.getD j default := ⟨_, rfl⟩
      have e1 := tssV_get o.tests j hjl
      rw [← ht] at e1
      have htk := firsts_take sameT o.tests j hjl
      have hx2 : o.tests[j] = t := by rw [ht]; simp [hjl]
      rw [hx2] at htk
      have hfl := firsts_len sameT (o.tests.take j)
      rw [List.length_take] at hfl
      try simp (config := { maxSteps := 2000000 }) only [go_sem, reduceCtorEq, Nat.reduceAdd, Nat.reduceEqDiff, reduceIte, Nat.reduceLeDiff, Nat.reduceLT, Nat.reduceSub]
      all_goals (repeat (with_reducible refine sAnd ?_))
      refine loop_sets (fun x : Nat × Bool => [(12, .pv (iv x.1)), (11, .pv (bv x.2)), (140, .un)]) (fun x : Nat × Bool => j - x.1) (fun x : Nat × Bool => x.1 ≤ j ∧ x.2 = (o.tests.take x.1).any (fun y => sameT t y)) ((0, false)) ?_ ⟨Nat.zero_le _, by simp⟩ ?_
      focus (simp (config := { maxSteps := 2000000 }) only [go_sem, reduceCtorEq, Nat.reduceAdd, Nat.reduceEqDiff, reduceIte, Nat.reduceLeDiff, Nat.reduceLT, Nat.reduceSub, le_cons, le_nil, le_un, le_same]; all_goals (repeat' (first | exact trivial | exact le_int (by omega) | exact le_bool rfl | exact le_eq rfl | exact le_nlo | exact le_refl _ | refine And.intro ?_ ?_)))
      rintro ⟨k, b⟩ ⟨hk, hb⟩
      simp only at hk hb
      try simp (config := { maxSteps := 2000000 }) only [go_sem, reduceCtorEq, Nat.reduceAdd, Nat.reduceEqDiff, reduceIte, Nat.reduceLeDiff, Nat.reduceLT, Nat.reduceSub]
      all_goals (repeat (with_reducible refine sAnd ?_))
      refine cond_of (by rfl) trivial (fun h5 => ?_) (fun h5 => ?_)
      · have hkj : k < j := by simp at h5; omega
        have hkl : k < o.tests.length := by omega
        obtain ⟨u, hu⟩ : ∃ u, u = o.tests.getD k default := ⟨_, rfl⟩
        have e2 := tssV_get o.tests k hkl
        rw [← hu] at e2
        have hc := c_rTests u t
        have hnext := any_take_succ hkl (fun y => sameT t y)
        rw [← hu] at hnext
        rw [tsV_eq] at e1 e2
        rw [tsV_eq u, tsV_eq t] at hc
        cases b
        · try simp (config := { maxSteps := 2000000 }) only [go_sem, reduceCtorEq, Nat.reduceAdd, Nat.reduceEqDiff, reduceIte, Nat.reduceLeDiff, Nat.reduceLT, Nat.reduceSub, e1, e2, Bool.not_true, Bool.not_false]
          all_goals (repeat (with_reducible refine sAnd ?_))
          apply call_guard (h2 := fun _ => hc)
          · (simp (config := { maxSteps := 2000000 }) only [go_sem, reduceCtorEq, Nat.reduceAdd, Nat.reduceEqDiff, reduceIte, Nat.reduceLeDiff, Nat.reduceLT, Nat.reduceSub]; rfl)
          · intro h; repeat' (first | exact trivial | exact h | refine And.intro ?_ ?_)
          try simp (config := { maxSteps := 2000000 }) only [go_sem, reduceCtorEq, Nat.reduceAdd, Nat.reduceEqDiff, reduceIte, Nat.reduceLeDiff, Nat.reduceLT, Nat.reduceSub]
          all_goals (repeat (with_reducible refine sAnd ?_))
          refine ⟨(k + 1, sameT u t), by simp only; omega, ⟨by simp only; omega, ?_⟩, ?_⟩
          · simp only
            rw [hnext, ← hb, Bool.false_or, sameT_comm]
          · simp (config := { maxSteps := 2000000 }) only [go_sem, reduceCtorEq, Nat.reduceAdd, Nat.reduceEqDiff, reduceIte, Nat.reduceLeDiff, Nat.reduceLT, Nat.reduceSub, le_cons, le_nil, le_un, le_same]
            all_goals (repeat' (first | exact trivial | exact le_int (by omega) | exact le_bool rfl | exact le_eq rfl | exact le_nlo | exact le_refl _ | refine And.intro ?_ ?_))
        · try simp (config := { maxSteps := 2000000 }) only [go_sem, reduceCtorEq, Nat.reduceAdd, Nat.reduceEqDiff, reduceIte, Nat.reduceLeDiff, Nat.reduceLT, Nat.reduceSub, e1, e2, Bool.not_true, Bool.not_false]
          all_goals (repeat (with_reducible refine sAnd ?_))
          refine call_dead (by rfl) ?_
          try simp (config := { maxSteps := 2000000 }) only [go_sem, reduceCtorEq, Nat.reduceAdd, Nat.reduceEqDiff, reduceIte, Nat.reduceLeDiff, Nat.reduceLT, Nat.reduceSub, e1, e2, Bool.not_true, Bool.not_false]
          all_goals (repeat (with_reducible refine sAnd ?_))
          refine ⟨(k + 1, true), by simp only; omega, ⟨by simp only; omega, ?_⟩, ?_⟩
          · simp only
            rw [hnext, ← hb, Bool.true_or]
          · simp (config := { maxSteps := 2000000 }) only [go_sem, reduceCtorEq, Nat.reduceAdd, Nat.reduceEqDiff, reduceIte, Nat.reduceLeDiff, Nat.reduceLT, Nat.reduceSub, le_cons, le_nil, le_un, le_same]
            all_goals (repeat' (first | exact trivial | exact le_int (by omega) | exact le_bool rfl | exact le_eq rfl | exact le_nlo | exact le_refl _ | refine And.intro ?_ ?_))
      · have hkj : k = j := by simp at h5; omega
        rw [hkj, ← firsts_any sameT sameT_iff] at hb
        rw [tsV_eq] at e1
        try simp (config := { maxSteps := 2000000 }) only [go_sem, reduceCtorEq, Nat.reduceAdd, Nat.reduceEqDiff, reduceIte, Nat.reduceLeDiff, Nat.reduceLT, Nat.reduceSub, e1]
        all_goals (repeat (with_reducible refine sAnd ?_))
        refine cond_of (by rfl) trivial (fun h6 => ?_) (fun h6 => ?_)
        · have hb2 : b = false := by simpa using h6
          rw [hb2] at hb
          try simp (config := { maxSteps := 2000000 }) only [go_sem, reduceCtorEq, Nat.reduceAdd, Nat.reduceEqDiff, reduceIte, Nat.reduceLeDiff, Nat.reduceLT, Nat.reduceSub, e1]
          all_goals (repeat (with_reducible refine sAnd ?_))
          refine ⟨j + 1, by omega, by omega, ?_⟩
          simp (config := { maxSteps := 2000000 }) only [go_sem, reduceCtorEq, Nat.reduceAdd, Nat.reduceEqDiff, reduceIte, Nat.reduceLeDiff, Nat.reduceLT, Nat.reduceSub, le_cons, le_nil, le_un, le_same]
          all_goals (repeat' (first | exact trivial | exact le_int (by omega) | exact le_bool rfl | exact le_eq rfl | exact le_nlo | exact le_refl _ | refine And.intro ?_ ?_))
          refine le_own ?_
          rw [htk, addNew, if_neg (by rw [← hb]; simp), tssV_app]
          simp only [tssV, tsV_eq]
        · have hb2 : b = true := by simpa using h6
          rw [hb2] at hb
          try simp (config := { maxSteps := 2000000 }) only [go_sem, reduceCtorEq, Nat.reduceAdd, Nat.reduceEqDiff, reduceIte, Nat.reduceLeDiff, Nat.reduceLT, Nat.reduceSub]
          all_goals (repeat (with_reducible refine sAnd ?_))
          refine ⟨j + 1, by omega, by omega, ?_⟩
          simp (config := { maxSteps := 2000000 }) only [go_sem, reduceCtorEq, Nat.reduceAdd, Nat.reduceEqDiff, reduceIte, Nat.reduceLeDiff, Nat.reduceLT, Nat.reduceSub, le_cons, le_nil, le_un, le_same]
          all_goals (repeat' (first | exact trivial | exact le_int (by omega) | exact le_bool rfl | exact le_eq rfl | exact le_nlo | exact le_refl _ | refine And.intro ?_ ?_))
          refine le_own ?_
          rw [htk, addNew, if_pos hb.symm]
    · have hjl : j = o.tests.length := by simp at h4; omega
      rw [hjl, List.take_length]
      try simp (config := { maxSteps := 2000000 }) only [go_sem, reduceCtorEq, Nat.reduceAdd, Nat.reduceEqDiff, reduceIte, Nat.reduceLeDiff, Nat.reduceLT, Nat.reduceSub]
      all_goals (repeat (with_reducible refine sAnd ?_))
      refine fin_cellB rfl rfl ?_
      rw [onceS, ← hR, ← hoR]
      rfl
end Go.Hx
end
