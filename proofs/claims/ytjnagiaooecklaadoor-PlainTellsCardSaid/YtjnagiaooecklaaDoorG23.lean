/-
  Walks of functions of the program over an abstract layer, and the laws that they use: each contract says what the function computes, for every input that its conditions let by. No other condition.
-/
import Derived.Test.YtjnagiaooecklaaDoorG22
set_option linter.all false
section
-- DOM getO, listV, intsR_len, ptsV_len, stsV_len, tssV_len, List.nil_append, ↓ o_vlp, ↓ o_vse, ↓ o_vlh, atV, pv_cons, og_cons, ou_cons, layR, plainL, mix_len, List.set_cons_zero, List.set_cons_succ, List.getD_cons_zero, List.getD_cons_succ, List.set_set, List.length_set, List.getD_nil, Nat.sub_zero, frz_T, frz_S, fT, fS, fP, ovP, ovS, OVal.cells, List.map_nil, List.map_cons
set_option maxRecDepth 100000
set_option linter.unusedSimpArgs false
set_option maxHeartbeats 4000000
namespace Go.Hx
open Go.Proofs
variable [Glob]

attribute [local go_sem] ndsV_len clsV_len attV_len intsR_len ndV cellsEq getO listV ptsV_len stsV_len tssV_len List.nil_append atV pv_cons og_cons ou_cons layR plainL mix_len List.set_cons_zero List.set_cons_succ List.getD_cons_zero List.getD_cons_succ List.set_set List.length_set List.getD_nil Nat.sub_zero ovP ovS OVal.cells List.map_nil List.map_cons
attribute [local go_sem ↓] o_vlp o_vse o_vlh
def gT (t : Ts) : List OV := (tsV t).map .p
def fT (t : Ts) : List OV := gT (onT t)
attribute [local go_sem] fT
def fS (s : St) : List OV := [.p (bS (onS s).tag), .p (.sl 6 (tssV (onS s).tests))]
attribute [local go_sem] fS
def fP (p : Pt) : List OV := [.p (.sl 2 (stsV (onSs p.steps))), .p (.sl 1 (intsR p.links))]
attribute [local go_sem] fP
theorem frz_T {b : Option Nat} {e : Nat} (l : List Ts) : (OV.os b e 6 (l.map fT)).frz = some (.sl 6 (tssV (onTs l))) := by
  refine frz_os ?_
  have : l.map fT = (tssV (onTs l)).map fun r => r.map OV.p := by
    rw [tssV_map, onTs_map, List.map_map, List.map_map]; rfl
  rw [this, frzRows_p]
attribute [local go_sem] frz_T
theorem frz_S {b : Option Nat} {e : Nat} (l : List St) : (OV.os b e 2 (l.map fS)).frz = some (.sl 2 (stsV (onSs l))) := by
  refine frz_os ?_
  have : l.map fS = (stsV (onSs l)).map fun r => r.map OV.p := by
    rw [stsV_map, onSs_map, List.map_map, List.map_map]
    refine List.map_congr_left fun s _ => ?_
    simp only [Function.comp, stV_eq]; rfl
  rw [this, frzRows_p]
attribute [local go_sem] frz_S
theorem onTs_get {l : List Ts} {i : Nat} (h : i < l.length) : (onTs l).getD i default = onT (l.getD i default) := by simp [onTs_map, h]
theorem onPs_len (l : List Pt) : (onPs l).length = l.length := by simp [onPs_map]
theorem onT_list (t : Ts) : (onT t).list = onL t.list := by rw [onT_eq]; rfl
theorem sgl_le {l : List Pt} (h : shL l = true) : (sgl l).tests.length ≤ 6 := by
  cases hs : single l with
  | none => unfold sgl; rw [hs]; exact Nat.zero_le _
  | some x => rw [sgl_some hs]; exact sh_single h hs
theorem any_take_p {l : List Pt} {k : Nat} (hk : k < l.length) (p : Pt → Bool) : (l.take (k + 1)).any p = ((l.take k).any p || p (l.getD k default)) := by
  rw [take_succ_pp default hk, List.any_append, List.any_cons, List.any_nil, Bool.or_false]

theorem good_ronce : ∀ (N : Nat) (l : List Pt), SizeOf.sizeOf l ≤ N → shL l = true → Contract Tryd.prog fn_ref_OnceOf [.val (.one (.sl 2 (ptsV l)))] { res := .own ty_api_Path 2 (ptsV (onL l)) }
  | 0, l, h, _ => by have := sz_pos_pt l; omega
  | N + 1, l, hN, hsh => by
    have ih := good_ronce N
    obtain ⟨hlen, hshl⟩ := sh_paths hsh
    refine mk_ref_OnceOfV (base := 0) ⟨Nat.le_of_ble_eq_true rfl, Nat.le_of_ble_eq_true rfl, Nat.le_of_ble_eq_true rfl, rfl⟩ (fun hfit => ?_)
    unfold F0 ref_OnceOfV_E
    simp (config := { maxSteps := 2000000 }) only [markU, List.set_cons_succ, List.set_cons_zero, List.map_cons, List.map_nil, argCt, setCells, ioOf, List.length_cons, List.length_nil, Nat.reduceAdd, Nat.reduceSub, List.replicate, List.cons_append, List.nil_append]
    try simp (config := { maxSteps := 2000000 }) only [go_sem, reduceCtorEq, Nat.reduceAdd, Nat.reduceEqDiff, reduceIte, Nat.reduceLeDiff, Nat.reduceLT, Nat.reduceSub]
    all_goals (repeat (with_reducible refine sAnd ?_))
    refine call_ov (by repeat' constructor) (cV_own l hsh) ?_
    try simp (config := { maxSteps := 2000000 }) only [go_sem, reduceCtorEq, Nat.reduceAdd, Nat.reduceEqDiff, reduceIte, Nat.reduceLeDiff, Nat.reduceLT, Nat.reduceSub]
    all_goals (repeat (with_reducible refine sAnd ?_))
    intro b
    have e0 : ovPs l = mix fP ovP l 0 := by rw [mix_0]; rfl
    rw [e0]
    try simp (config := { maxSteps := 2000000 }) only [go_sem, reduceCtorEq, Nat.reduceAdd, Nat.reduceEqDiff, reduceIte, Nat.reduceLeDiff, Nat.reduceLT, Nat.reduceSub]
    all_goals (repeat (with_reducible refine sAnd ?_))
    refine loop_sets (fun i : Nat => [(4, .pv (iv i)), (3, .own ty_api_Path 2 (ptsV (firsts sameP ((onPs l).take i)))), (0, .ov (.one (.os (some b) ty_api_Path 2 (mix fP ovP l i)))), (5, .un), (6, .un), (7, .un), (8, .un), (14, .un), (24, .un), (38, .un), (86, .un), (102, .un)]) (fun i : Nat => l.length - i) (fun i : Nat => i ≤ l.length) (0) ?_ (Nat.zero_le _) ?_
    focus (simp (config := { maxSteps := 2000000 }) only [go_sem, reduceCtorEq, Nat.reduceAdd, Nat.reduceEqDiff, reduceIte, Nat.reduceLeDiff, Nat.reduceLT, Nat.reduceSub, le_cons, le_nil, le_un, le_same]; all_goals (repeat' (first | exact trivial | exact le_int (by omega) | exact le_bool rfl | exact le_eq rfl | exact le_nlo | exact le_refl _ | refine And.intro ?_ ?_)))
    rintro i hi
    try simp (config := { maxSteps := 2000000 }) only [go_sem, reduceCtorEq, Nat.reduceAdd, Nat.reduceEqDiff, reduceIte, Nat.reduceLeDiff, Nat.reduceLT, Nat.reduceSub]
    all_goals (repeat (with_reducible refine sAnd ?_))
    refine cond_of (by rfl) trivial (fun h2 => ?_) (fun h2 => ?_)
    · have hil : i < l.length := by simp at h2; omega
      obtain ⟨p, hp⟩ : ∃ p, p = l.getD i default := ⟨_, rfl⟩
      obtain ⟨M, hM⟩ : ∃ M, M = mix fP ovP l i := ⟨_, rfl⟩
      have hMl : M.length = l.length := by rw [hM, mix_len]
      have hps := hshl i hil
      have hszp := lt_pt hil
      rw [← hp] at hps hszp
      have hszs := lt_steps p
      obtain ⟨hs1, hs2, hs3⟩ := sh_steps hps
      have hset := set_gets (l := M) (m := i) (by omega)
      have hself : M = M.set i [.os none ty_api_Step 2 (mix fS ovS p.steps 0), .p (.sl 1 (intsR p.links))] := set_self (by omega) (by rw [hM, mix_get hil, mix_0, hp]; rfl)
      rw [← hM, hself]
      try simp (config := { maxSteps := 2000000 }) only [go_sem, reduceCtorEq, Nat.reduceAdd, Nat.reduceEqDiff, reduceIte, Nat.reduceLeDiff, Nat.reduceLT, Nat.reduceSub]
      all_goals (repeat (with_reducible refine sAnd ?_))
      refine loop_sets (fun k : Nat => [(5, .pv (iv k)), (0, .ov (.one (.os (some b) ty_api_Path 2 (M.set i [.os none ty_api_Step 2 (mix fS ovS p.steps k), .p (.sl 1 (intsR p.links))])))), (6, .un), (24, .un), (38, .un)]) (fun k : Nat => p.steps.length - k) (fun k : Nat => k ≤ p.steps.length) (0) ?_ (Nat.zero_le _) ?_
      focus (simp (config := { maxSteps := 2000000 }) only [go_sem, reduceCtorEq, Nat.reduceAdd, Nat.reduceEqDiff, reduceIte, Nat.reduceLeDiff, Nat.reduceLT, Nat.reduceSub, le_cons, le_nil, le_un, le_same]; all_goals (repeat' (first | exact trivial | exact le_int (by omega) | exact le_bool rfl | exact le_eq rfl | exact le_nlo | exact le_refl _ | refine And.intro ?_ ?_)))
      rintro k hk
      try simp (config := { maxSteps := 2000000 }) only [go_sem, reduceCtorEq, Nat.reduceAdd, Nat.reduceEqDiff, reduceIte, Nat.reduceLeDiff, Nat.reduceLT, Nat.reduceSub, hset]
      all_goals (repeat (with_reducible refine sAnd ?_))
      refine cond_of (by rfl) trivial (fun h4 => ?_) (fun h4 => ?_)
      · have hkl : k < p.steps.length := by simp at h4; omega
        obtain ⟨q, hq⟩ : ∃ q, q = p.steps.getD k default := ⟨_, rfl⟩
        obtain ⟨M1, hM1⟩ : ∃ M1, M1 = mix fS ovS p.steps k := ⟨_, rfl⟩
        have hM1l : M1.length = p.steps.length := by rw [hM1, mix_len]
        have hsj := hs3 k hkl
        have hszq := lt_st hkl
        rw [← hq] at hsj hszq
        have hszt := lt_tests q
        obtain ⟨ht1, ht2⟩ := sh_tests hsj
        have hset1 := set_gets (l := M1) (m := k) (by omega)
        have hself1 : M1 = M1.set k [.p (bS q.tag), .os none ty_api_Test 6 (mix fT gT q.tests 0)] := set_self (by omega) (by rw [hM1, mix_get hkl, mix_0, hq]; rfl)
        rw [← hM1, hself1]
        try simp (config := { maxSteps := 2000000 }) only [go_sem, reduceCtorEq, Nat.reduceAdd, Nat.reduceEqDiff, reduceIte, Nat.reduceLeDiff, Nat.reduceLT, Nat.reduceSub, hset, hset1]
        all_goals (repeat (with_reducible refine sAnd ?_))
        intro b1
        refine ⟨by omega, fun b2 => ?_⟩
        refine loop_sets (fun j : Nat => [(6, .pv (iv j)), (0, .ov (.one (.os (some b) ty_api_Path 2 (M.set i [.os (some b1) ty_api_Step 2 (M1.set k [.p (bS q.tag), .os (some b2) ty_api_Test 6 (mix fT gT q.tests j)]), .p (.sl 1 (intsR p.links))])))), (38, .un)]) (fun j : Nat => q.tests.length - j) (fun j : Nat => j ≤ q.tests.length) (0) ?_ (Nat.zero_le _) ?_
        focus (simp (config := { maxSteps := 2000000 }) only [go_sem, reduceCtorEq, Nat.reduceAdd, Nat.reduceEqDiff, reduceIte, Nat.reduceLeDiff, Nat.reduceLT, Nat.reduceSub, le_cons, le_nil, le_un, le_same]; all_goals (repeat' (first | exact trivial | exact le_int (by omega) | exact le_bool rfl | exact le_eq rfl | exact le_nlo | exact le_refl _ | refine And.intro ?_ ?_)))
        rintro j hj
        try simp (config := { maxSteps := 2000000 }) only [go_sem, reduceCtorEq, Nat.reduceAdd, Nat.reduceEqDiff, reduceIte, Nat.reduceLeDiff, Nat.reduceLT, Nat.reduceSub, hset, hset1]
        all_goals (repeat (with_reducible refine sAnd ?_))
        refine cond_of (by rfl) trivial (fun h6 => ?_) (fun h6 => ?_)
        · have hjl : j < q.tests.length := by simp at h6; omega
          obtain ⟨t, ht⟩ : ∃ t, t = q.tests.getD j default := ⟨_, rfl⟩
          have e3 : (mix fT gT q.tests j).getD j [] = gT t := by rw [mix_get hjl, ht]
          have e4 := mix_set (f := fT) (g := gT) hjl
          have htk := ht2 j hjl
          have hszu := lt_ts hjl
          rw [← ht] at htk hszu e4
          have hszl := lt_list t
          have hc := ih t.list (by omega) htk
          simp only [gT, tsV_eq, List.map_cons, List.map_nil] at e3
          try simp (config := { maxSteps := 2000000 }) only [go_sem, reduceCtorEq, Nat.reduceAdd, Nat.reduceEqDiff, reduceIte, Nat.reduceLeDiff, Nat.reduceLT, Nat.reduceSub, hset, hset1, e3]
          all_goals (repeat (with_reducible refine sAnd ?_))
          refine call_own (by repeat' constructor) (hc) ?_
          try simp (config := { maxSteps := 2000000 }) only [go_sem, reduceCtorEq, Nat.reduceAdd, Nat.reduceEqDiff, reduceIte, Nat.reduceLeDiff, Nat.reduceLT, Nat.reduceSub, hset, hset1, e3]
          all_goals (repeat (with_reducible refine sAnd ?_))
          refine ⟨j + 1, by omega, by omega, ?_⟩
          simp (config := { maxSteps := 2000000 }) only [go_sem, reduceCtorEq, Nat.reduceAdd, Nat.reduceEqDiff, reduceIte, Nat.reduceLeDiff, Nat.reduceLT, Nat.reduceSub, le_cons, le_nil, le_un, le_same]
          all_goals (repeat' (first | exact trivial | exact le_int (by omega) | exact le_bool rfl | exact le_eq rfl | exact le_nlo | exact le_refl _ | refine And.intro ?_ ?_))
          refine le_eq ?_
          rw [← e4, fT, gT, onT_eq]
          rfl
        · have hjl : j = q.tests.length := by simp at h6; omega
          subst hjl
          rw [mix_all]
          have hc := c_onceStep (.mk q.tag (onTs q.tests)) (by rw [St.tests_mk, onTs_len]; exact ht1) (fun m hm => by
            rw [St.tests_mk, onTs_len] at hm
            rw [St.tests_mk, onTs_get hm, onT_list]
            exact sgl_le (sh_onL _ (ht2 m hm)))
          rw [← onS_eq, stV_eq, stV_eq (onS q)] at hc
          simp only [St.tag_mk, St.tests_mk] at hc
          have e4 := mix_set (f := fS) (g := ovS) hkl
          rw [← hq] at e4
          try simp (config := { maxSteps := 2000000 }) only [go_sem, reduceCtorEq, Nat.reduceAdd, Nat.reduceEqDiff, reduceIte, Nat.reduceLeDiff, Nat.reduceLT, Nat.reduceSub, hset, hset1]
          all_goals (repeat (with_reducible refine sAnd ?_))
          refine call_val (by repeat' constructor) (hc) ?_
          try simp (config := { maxSteps := 2000000 }) only [go_sem, reduceCtorEq, Nat.reduceAdd, Nat.reduceEqDiff, reduceIte, Nat.reduceLeDiff, Nat.reduceLT, Nat.reduceSub, hset, hset1]
          all_goals (repeat (with_reducible refine sAnd ?_))
          refine ⟨k + 1, by omega, by omega, ?_⟩
          simp (config := { maxSteps := 2000000 }) only [go_sem, reduceCtorEq, Nat.reduceAdd, Nat.reduceEqDiff, reduceIte, Nat.reduceLeDiff, Nat.reduceLT, Nat.reduceSub, le_cons, le_nil, le_un, le_same]
          all_goals (repeat' (first | exact trivial | exact le_int (by omega) | exact le_bool rfl | exact le_eq rfl | exact le_nlo | exact le_refl _ | refine And.intro ?_ ?_))
          refine le_eq ?_
          rw [← e4, ← hM1, fS]
      · have hkl : k = p.steps.length := by simp at h4; omega
        subst hkl
        rw [mix_all]
        obtain ⟨out, hout⟩ : ∃ out, out = firsts sameP ((onPs l).take i) := ⟨_, rfl⟩
        have hil2 : i < (onPs l).length := by rw [onPs_len]; exact hil
        have hol := firsts_len sameP ((onPs l).take i)
        rw [← hout, List.length_take] at hol
        have htk := firsts_take sameP (onPs l) i hil2
        have hx2 : (onPs l)[i] = onP p := by simp [onPs_map, hp, hil]
        rw [hx2, ← hout] at htk
        have hoe := onP_eq p
        rw [← hout]
        try simp (config := { maxSteps := 2000000 }) only [go_sem, reduceCtorEq, Nat.reduceAdd, Nat.reduceEqDiff, reduceIte, Nat.reduceLeDiff, Nat.reduceLT, Nat.reduceSub, hset]
        all_goals (repeat (with_reducible refine sAnd ?_))
        refine loop_sets (fun x : Nat × Bool => [(8, .pv (iv x.1)), (7, .pv (bv x.2)), (86, .un)]) (fun x : Nat × Bool => out.length - x.1) (fun x : Nat × Bool => x.1 ≤ out.length ∧ x.2 = (out.take x.1).any (fun y => sameP (onP p) y)) ((0, false)) ?_ ⟨Nat.zero_le _, by simp⟩ ?_
        focus (simp (config := { maxSteps := 2000000 }) only [go_sem, reduceCtorEq, Nat.reduceAdd, Nat.reduceEqDiff, reduceIte, Nat.reduceLeDiff, Nat.reduceLT, Nat.reduceSub, le_cons, le_nil, le_un, le_same]; all_goals (repeat' (first | exact trivial | exact le_int (by omega) | exact le_bool rfl | exact le_eq rfl | exact le_nlo | exact le_refl _ | refine And.intro ?_ ?_)))
        rintro ⟨m, c⟩ ⟨hm, hc⟩
        simp only at hm hc
        try simp (config := { maxSteps := 2000000 }) only [go_sem, reduceCtorEq, Nat.reduceAdd, Nat.reduceEqDiff, reduceIte, Nat.reduceLeDiff, Nat.reduceLT, Nat.reduceSub]
        all_goals (repeat (with_reducible refine sAnd ?_))
        refine cond_of (by rfl) trivial (fun h7 => ?_) (fun h7 => ?_)
        · have hml : m < out.length := by simp at h7; omega
          obtain ⟨y, hy⟩ : ∃ y, y = out.getD m default := ⟨_, rfl⟩
          have e5 := ptsV_get out m hml
          have hnext := any_take_p hml (fun y => sameP (onP p) y)
          have hcc := c_rPaths y (onP p)
          rw [← hy] at e5 hnext
          rw [ptV_eq, ptV_eq (onP p)] at hcc
          rw [ptV_eq] at e5
          have h1 : (onP p).steps = onSs p.steps := by rw [hoe]; rfl
          have h2 : (onP p).links = p.links := by rw [hoe]; rfl
          rw [h1, h2] at hcc
          cases c
          · try simp (config := { maxSteps := 2000000 }) only [go_sem, reduceCtorEq, Nat.reduceAdd, Nat.reduceEqDiff, reduceIte, Nat.reduceLeDiff, Nat.reduceLT, Nat.reduceSub, hset, e5, Bool.not_true, Bool.not_false]
            all_goals (repeat (with_reducible refine sAnd ?_))
            apply call_guard (h2 := fun _ => hcc)
            · (simp (config := { maxSteps := 2000000 }) only [go_sem, reduceCtorEq, Nat.reduceAdd, Nat.reduceEqDiff, reduceIte, Nat.reduceLeDiff, Nat.reduceLT, Nat.reduceSub]; rfl)
            · intro h; repeat' (first | exact trivial | exact h | refine And.intro ?_ ?_)
            try simp (config := { maxSteps := 2000000 }) only [go_sem, reduceCtorEq, Nat.reduceAdd, Nat.reduceEqDiff, reduceIte, Nat.reduceLeDiff, Nat.reduceLT, Nat.reduceSub, hset, e5]
            all_goals (repeat (with_reducible refine sAnd ?_))
            refine ⟨(m + 1, sameP y (onP p)), by simp only; omega, ⟨by simp only; omega, ?_⟩, ?_⟩
            · simp only
              rw [hnext, ← hc, Bool.false_or, sameP_comm]
            · simp (config := { maxSteps := 2000000 }) only [go_sem, reduceCtorEq, Nat.reduceAdd, Nat.reduceEqDiff, reduceIte, Nat.reduceLeDiff, Nat.reduceLT, Nat.reduceSub, le_cons, le_nil, le_un, le_same]
              all_goals (repeat' (first | exact trivial | exact le_int (by omega) | exact le_bool rfl | exact le_eq rfl | exact le_nlo | exact le_refl _ | refine And.intro ?_ ?_))
          · try simp (config := { maxSteps := 2000000 }) only [go_sem, reduceCtorEq, Nat.reduceAdd, Nat.reduceEqDiff, reduceIte, Nat.reduceLeDiff, Nat.reduceLT, Nat.reduceSub, hset, e5, Bool.not_true, Bool.not_false]
            all_goals (repeat (with_reducible refine sAnd ?_))
            refine call_dead (by rfl) ?_
            try simp (config := { maxSteps := 2000000 }) only [go_sem, reduceCtorEq, Nat.reduceAdd, Nat.reduceEqDiff, reduceIte, Nat.reduceLeDiff, Nat.reduceLT, Nat.reduceSub, hset, e5, Bool.not_true, Bool.not_false]
            all_goals (repeat (with_reducible refine sAnd ?_))
            refine ⟨(m + 1, true), by simp only; omega, ⟨by simp only; omega, ?_⟩, ?_⟩
            · simp only
              rw [hnext, ← hc, Bool.true_or]
            · simp (config := { maxSteps := 2000000 }) only [go_sem, reduceCtorEq, Nat.reduceAdd, Nat.reduceEqDiff, reduceIte, Nat.reduceLeDiff, Nat.reduceLT, Nat.reduceSub, le_cons, le_nil, le_un, le_same]
              all_goals (repeat' (first | exact trivial | exact le_int (by omega) | exact le_bool rfl | exact le_eq rfl | exact le_nlo | exact le_refl _ | refine And.intro ?_ ?_))
        · have hml : m = out.length := by simp at h7; omega
          rw [hml, List.take_length] at hc
          have e4 := mix_set (f := fP) (g := ovP) hil
          rw [← hp, ← hM, fP] at e4
          try simp (config := { maxSteps := 2000000 }) only [go_sem, reduceCtorEq, Nat.reduceAdd, Nat.reduceEqDiff, reduceIte, Nat.reduceLeDiff, Nat.reduceLT, Nat.reduceSub]
          all_goals (repeat (with_reducible refine sAnd ?_))
          refine cond_of (by rfl) trivial (fun h8 => ?_) (fun h8 => ?_)
          · have hc2 : c = false := by simpa using h8
            rw [hc2] at hc
            try simp (config := { maxSteps := 2000000 }) only [go_sem, reduceCtorEq, Nat.reduceAdd, Nat.reduceEqDiff, reduceIte, Nat.reduceLeDiff, Nat.reduceLT, Nat.reduceSub, hset]
            all_goals (repeat (with_reducible refine sAnd ?_))
            refine ⟨i + 1, by omega, by omega, ?_⟩
            simp (config := { maxSteps := 2000000 }) only [go_sem, reduceCtorEq, Nat.reduceAdd, Nat.reduceEqDiff, reduceIte, Nat.reduceLeDiff, Nat.reduceLT, Nat.reduceSub, le_cons, le_nil, le_un, le_same]
            all_goals (repeat' (first | exact trivial | exact le_int (by omega) | exact le_bool rfl | exact le_eq rfl | exact le_nlo | exact le_refl _ | refine And.intro ?_ ?_))
            · refine le_eq ?_
              rw [e4]
            · refine le_own ?_
              rw [htk, addNew, if_neg (by rw [← hc]; simp), ptsV_app, hoe]
              rfl
          · have hc2 : c = true := by simpa using h8
            rw [hc2] at hc
            try simp (config := { maxSteps := 2000000 }) only [go_sem, reduceCtorEq, Nat.reduceAdd, Nat.reduceEqDiff, reduceIte, Nat.reduceLeDiff, Nat.reduceLT, Nat.reduceSub]
            all_goals (repeat (with_reducible refine sAnd ?_))
            refine ⟨i + 1, by omega, by omega, ?_⟩
            simp (config := { maxSteps := 2000000 }) only [go_sem, reduceCtorEq, Nat.reduceAdd, Nat.reduceEqDiff, reduceIte, Nat.reduceLeDiff, Nat.reduceLT, Nat.reduceSub, le_cons, le_nil, le_un, le_same]
            all_goals (repeat' (first | exact trivial | exact le_int (by omega) | exact le_bool rfl | exact le_eq rfl | exact le_nlo | exact le_refl _ | refine And.intro ?_ ?_))
            · refine le_eq ?_
              rw [e4]
            · refine le_own ?_
              rw [htk, addNew, if_pos hc.symm]
    · have hil : i = l.length := by simp at h2; omega
      have e : (onPs l).take i = onPs l := by rw [hil, ← onPs_len, List.take_length]
      rw [e]
      try simp (config := { maxSteps := 2000000 }) only [go_sem, reduceCtorEq, Nat.reduceAdd, Nat.reduceEqDiff, reduceIte, Nat.reduceLeDiff, Nat.reduceLT, Nat.reduceSub]
      all_goals (repeat (with_reducible refine sAnd ?_))
      refine call_own (by repeat' constructor) (good_own _ (onL l) (Nat.le_refl _) (sh_onL _ hsh)) ?_
      try simp (config := { maxSteps := 2000000 }) only [go_sem, reduceCtorEq, Nat.reduceAdd, Nat.reduceEqDiff, reduceIte, Nat.reduceLeDiff, Nat.reduceLT, Nat.reduceSub]
      all_goals (repeat (with_reducible refine sAnd ?_))
      exact fin_own rfl

theorem c_rOnce (l : List Pt) (h : shL l = true) : Contract Tryd.prog fn_ref_OnceOf [.val (.one (.sl 2 (ptsV l)))] { res := .own ty_api_Path 2 (ptsV (onL l)) } := good_ronce _ l (Nat.le_refl _) h
end Go.Hx
end

section
-- DOM getO, listV, intsR_len, ptsV_len, stsV_len, tssV_len, samePs_self
set_option maxRecDepth 100000
set_option linter.unusedSimpArgs false
set_option maxHeartbeats 4000000
namespace Go.Hx
open Go.Proofs
variable [Glob]

attribute [local go_sem] ndsV_len clsV_len attV_len intsR_len ndV cellsEq getO listV ptsV_len stsV_len tssV_len
theorem samePs_self (l : List Pt) : samePs l l = true := (samePs_iff l l).2 rfl
attribute [local go_sem] samePs_self
theorem c_rPlain (l : List Pt) (h : shL l = true) : Contract Tryd.prog fn_ref_PlainOf [.val (.one (.sl 2 (ptsV l)))] { res := .own ty_api_Path 2 (ptsV (plL l)) } := by
  refine mk_ref_PlainOf (base := 0) ⟨Nat.le_of_ble_eq_true rfl, Nat.le_of_ble_eq_true rfl, Nat.le_of_ble_eq_true rfl, rfl⟩ (fun hfit => ?_)
  unfold F0 ref_PlainOf_E
  simp (config := { maxSteps := 2000000 }) only [markU, List.set_cons_succ, List.set_cons_zero, List.map_cons, List.map_nil, argCt, setCells, ioOf, List.length_cons, List.length_nil, Nat.reduceAdd, Nat.reduceSub, List.replicate, List.cons_append, List.nil_append]
  try simp (config := { maxSteps := 2000000 }) only [go_sem, reduceCtorEq, Nat.reduceAdd, Nat.reduceEqDiff, reduceIte, Nat.reduceLeDiff, Nat.reduceLT, Nat.reduceSub]
  all_goals (repeat (with_reducible refine sAnd ?_))
  refine loop_sets (fun m : List Pt => [(0, .pv (.one (.sl 2 (ptsV m)))), (2, .un), (3, .un), (8, .un)]) (fun m : List Pt => msPs m) (fun m : List Pt => shL m = true ∧ plL m = plL l) (l) ?_ ⟨h, rfl⟩ ?_
  focus (simp (config := { maxSteps := 2000000 }) only [go_sem, reduceCtorEq, Nat.reduceAdd, Nat.reduceEqDiff, reduceIte, Nat.reduceLeDiff, Nat.reduceLT, Nat.reduceSub, le_cons, le_nil, le_un, le_same]; all_goals (repeat' (first | exact trivial | exact le_int (by omega) | exact le_bool rfl | exact le_eq rfl | exact le_nlo | exact le_refl _ | refine And.intro ?_ ?_)))
  rintro m ⟨hsh, hpl⟩
  try simp (config := { maxSteps := 2000000 }) only [go_sem, reduceCtorEq, Nat.reduceAdd, Nat.reduceEqDiff, reduceIte, Nat.reduceLeDiff, Nat.reduceLT, Nat.reduceSub]
  all_goals (repeat (with_reducible refine sAnd ?_))
  refine call_own (by repeat' constructor) (c_rOnce m hsh) ?_
  try simp (config := { maxSteps := 2000000 }) only [go_sem, reduceCtorEq, Nat.reduceAdd, Nat.reduceEqDiff, reduceIte, Nat.reduceLeDiff, Nat.reduceLT, Nat.reduceSub]
  all_goals (repeat (with_reducible refine sAnd ?_))
  refine call_val (by repeat' constructor) (c_rLists m (onL m)) ?_
  try simp (config := { maxSteps := 2000000 }) only [go_sem, reduceCtorEq, Nat.reduceAdd, Nat.reduceEqDiff, reduceIte, Nat.reduceLeDiff, Nat.reduceLT, Nat.reduceSub]
  all_goals (repeat (with_reducible refine sAnd ?_))
  refine cond_of (by rfl) trivial (fun h4 => ?_) (fun h4 => ?_)
  · try simp (config := { maxSteps := 2000000 }) only [go_sem, reduceCtorEq, Nat.reduceAdd, Nat.reduceEqDiff, reduceIte, Nat.reduceLeDiff, Nat.reduceLT, Nat.reduceSub]
    all_goals (repeat (with_reducible refine sAnd ?_))
    rw [← hpl, plL_end h4]
    exact fin_own rfl
  · obtain ⟨g1, g2⟩ := plL_go h4
    try simp (config := { maxSteps := 2000000 }) only [go_sem, reduceCtorEq, Nat.reduceAdd, Nat.reduceEqDiff, reduceIte, Nat.reduceLeDiff, Nat.reduceLT, Nat.reduceSub]
    all_goals (repeat (with_reducible refine sAnd ?_))
    refine ⟨onL m, g2, ⟨sh_onL m hsh, by rw [← g1]; exact hpl⟩, ?_⟩
    simp (config := { maxSteps := 2000000 }) only [go_sem, reduceCtorEq, Nat.reduceAdd, Nat.reduceEqDiff, reduceIte, Nat.reduceLeDiff, Nat.reduceLT, Nat.reduceSub, le_cons, le_nil, le_un, le_same]
    all_goals (repeat' (first | exact trivial | exact le_int (by omega) | exact le_bool rfl | exact le_eq rfl | exact le_nlo | exact le_refl _ | refine And.intro ?_ ?_))

theorem c_one (t : Ts) : Contract Tryd.prog fn_law_one [.val (.agg (tsV t))] { res := .val (.one (.sl 2 (ptsV [.mk [.mk [] [t]] []]))) } := by
  rw [tsV_eq]
  refine mk_law_one (base := 0) ⟨Nat.le_of_ble_eq_true rfl, Nat.le_of_ble_eq_true rfl, Nat.le_of_ble_eq_true rfl, rfl⟩ (fun hfit => ?_)
  unfold F0 law_one_E
  simp (config := { maxSteps := 2000000 }) only [markU, List.set_cons_succ, List.set_cons_zero, List.map_cons, List.map_nil, argCt, setCells, ioOf, List.length_cons, List.length_nil, Nat.reduceAdd, Nat.reduceSub, List.replicate, List.cons_append, List.nil_append]
  try simp (config := { maxSteps := 2000000 }) only [go_sem, reduceCtorEq, Nat.reduceAdd, Nat.reduceEqDiff, reduceIte, Nat.reduceLeDiff, Nat.reduceLT, Nat.reduceSub]
  all_goals (repeat (with_reducible refine sAnd ?_))
  refine fin_val rfl trivial (.inl ?_)
  simp only [ptsV, ptV, stsV, stV, tssV, tsV_eq]
  rfl
def lastL : List Pt := [.mk [.mk [120] [.mk 11 [] [] 0 0 []]] []]
def onceLL : List Pt := [.mk [.mk [] [.mk 14 [] [] 0 0 lastL]] []]
def twiceL : List Pt := [.mk [.mk [] [.mk 13 [] [] 0 0 [.mk [.mk [] [.mk 13 [] [] 0 0 lastL]] []]]] []]
theorem twice_check : checkL twiceL = 0 := by decide
theorem twice_size : pzPs twiceL = 6 := by decide
theorem twice_once : onL twiceL = onceLL := by rfl
theorem twice_plain : plL twiceL = lastL := by
  have h1 : samePs twiceL (onL twiceL) = false := by
    rw [twice_once]
    exact Bool.eq_false_iff.2 fun h => by have := (samePs_iff _ _).1 h; simp [twiceL, onceLL] at this
  have h2 : onL onceLL = lastL := rfl
  have h3 : samePs onceLL (onL onceLL) = false := by
    rw [h2]
    exact Bool.eq_false_iff.2 fun h => by have := (samePs_iff _ _).1 h; simp [lastL, onceLL] at this
  have h4 : onL lastL = lastL := rfl
  have h5 : samePs lastL (onL lastL) = true := by rw [h4]; exact samePs_self _
  rw [(plL_go h1).1, twice_once, (plL_go h3).1, h2, plL_end h5, h4]
theorem c_twice : Contract Tryd.prog fn_law_twice [] { res := .val (.one (.sl 2 (ptsV twiceL))) } := by
  refine mk_law_twice (base := 0) ⟨Nat.le_of_ble_eq_true rfl, Nat.le_of_ble_eq_true rfl, Nat.le_of_ble_eq_true rfl, rfl⟩ (fun hfit => ?_)
  unfold F0 law_twice_E
  simp (config := { maxSteps := 2000000 }) only [markU, List.set_cons_succ, List.set_cons_zero, List.map_cons, List.map_nil, argCt, setCells, ioOf, List.length_cons, List.length_nil, Nat.reduceAdd, Nat.reduceSub, List.replicate, List.cons_append, List.nil_append]
  try simp (config := { maxSteps := 2000000 }) only [go_sem, reduceCtorEq, Nat.reduceAdd, Nat.reduceEqDiff, reduceIte, Nat.reduceLeDiff, Nat.reduceLT, Nat.reduceSub]
  all_goals (repeat (with_reducible refine sAnd ?_))
  refine call_val (by repeat' constructor) (Contract.av (c_one (.mk 13 [] [] 0 0 lastL)) (by first | rfl | (simp (config := { maxSteps := 2000000 }) only [go_sem, reduceCtorEq, Nat.reduceAdd, Nat.reduceEqDiff, reduceIte, Nat.reduceLeDiff, Nat.reduceLT, Nat.reduceSub]; done) | (simp (config := { maxSteps := 2000000 }) only [go_sem, reduceCtorEq, Nat.reduceAdd, Nat.reduceEqDiff, reduceIte, Nat.reduceLeDiff, Nat.reduceLT, Nat.reduceSub]; rfl))) ?_
  try simp (config := { maxSteps := 2000000 }) only [go_sem, reduceCtorEq, Nat.reduceAdd, Nat.reduceEqDiff, reduceIte, Nat.reduceLeDiff, Nat.reduceLT, Nat.reduceSub]
  all_goals (repeat (with_reducible refine sAnd ?_))
  refine call_val (by repeat' constructor) (Contract.av (c_one (.mk 13 [] [] 0 0 [.mk [.mk [] [.mk 13 [] [] 0 0 lastL]] []])) (by first | rfl | (simp (config := { maxSteps := 2000000 }) only [go_sem, reduceCtorEq, Nat.reduceAdd, Nat.reduceEqDiff, reduceIte, Nat.reduceLeDiff, Nat.reduceLT, Nat.reduceSub]; done) | (simp (config := { maxSteps := 2000000 }) only [go_sem, reduceCtorEq, Nat.reduceAdd, Nat.reduceEqDiff, reduceIte, Nat.reduceLeDiff, Nat.reduceLT, Nat.reduceSub]; rfl))) ?_
  try simp (config := { maxSteps := 2000000 }) only [go_sem, reduceCtorEq, Nat.reduceAdd, Nat.reduceEqDiff, reduceIte, Nat.reduceLeDiff, Nat.reduceLT, Nat.reduceSub]
  all_goals (repeat (with_reducible refine sAnd ?_))
  exact fin_val rfl trivial (.inl rfl)
theorem c_plainBegun : Contract Tryd.prog fn_law_plainBegun [] { res := .val (bv true) } := by
  have hP := c_plain_Plain twiceL
  have hO := c_plain_Once twiceL
  have hS := c_plain_Size twiceL
  rw [twice_check, if_pos rfl, twice_plain] at hP
  rw [twice_check, if_pos rfl, twice_once] at hO
  rw [twice_check, if_pos rfl, twice_size] at hS
  refine mk_law_plainBegun (base := 0) ⟨Nat.le_of_ble_eq_true rfl, Nat.le_of_ble_eq_true rfl, Nat.le_of_ble_eq_true rfl, rfl⟩ (fun hfit => ?_)
  unfold F0 law_plainBegun_E
  simp (config := { maxSteps := 2000000 }) only [markU, List.set_cons_succ, List.set_cons_zero, List.map_cons, List.map_nil, argCt, setCells, ioOf, List.length_cons, List.length_nil, Nat.reduceAdd, Nat.reduceSub, List.replicate, List.cons_append, List.nil_append]
  try simp (config := { maxSteps := 2000000 }) only [go_sem, reduceCtorEq, Nat.reduceAdd, Nat.reduceEqDiff, reduceIte, Nat.reduceLeDiff, Nat.reduceLT, Nat.reduceSub]
  all_goals (repeat (with_reducible refine sAnd ?_))
  refine call_val (by repeat' constructor) (c_twice) ?_
  try simp (config := { maxSteps := 2000000 }) only [go_sem, reduceCtorEq, Nat.reduceAdd, Nat.reduceEqDiff, reduceIte, Nat.reduceLeDiff, Nat.reduceLT, Nat.reduceSub]
  all_goals (repeat (with_reducible refine sAnd ?_))
  refine call_tup (by repeat' constructor) (hP) ?_
  try simp (config := { maxSteps := 2000000 }) only [go_sem, reduceCtorEq, Nat.reduceAdd, Nat.reduceEqDiff, reduceIte, Nat.reduceLeDiff, Nat.reduceLT, Nat.reduceSub]
  all_goals (repeat (with_reducible refine sAnd ?_))
  refine call_val (by repeat' constructor) (c_twice) ?_
  try simp (config := { maxSteps := 2000000 }) only [go_sem, reduceCtorEq, Nat.reduceAdd, Nat.reduceEqDiff, reduceIte, Nat.reduceLeDiff, Nat.reduceLT, Nat.reduceSub]
  all_goals (repeat (with_reducible refine sAnd ?_))
  refine call_tup (by repeat' constructor) (hO) ?_
  try simp (config := { maxSteps := 2000000 }) only [go_sem, reduceCtorEq, Nat.reduceAdd, Nat.reduceEqDiff, reduceIte, Nat.reduceLeDiff, Nat.reduceLT, Nat.reduceSub]
  all_goals (repeat (with_reducible refine sAnd ?_))
  refine call_val (by repeat' constructor) (c_twice) ?_
  try simp (config := { maxSteps := 2000000 }) only [go_sem, reduceCtorEq, Nat.reduceAdd, Nat.reduceEqDiff, reduceIte, Nat.reduceLeDiff, Nat.reduceLT, Nat.reduceSub]
  all_goals (repeat (with_reducible refine sAnd ?_))
  refine call_tup (by repeat' constructor) (hS) ?_
  try simp (config := { maxSteps := 2000000 }) only [go_sem, reduceCtorEq, Nat.reduceAdd, Nat.reduceEqDiff, reduceIte, Nat.reduceLeDiff, Nat.reduceLT, Nat.reduceSub]
  all_goals (repeat (with_reducible refine sAnd ?_))
  apply call_guard (h2 := fun _ => c_rLists lastL lastL)
  · (simp (config := { maxSteps := 2000000 }) only [go_sem, reduceCtorEq, Nat.reduceAdd, Nat.reduceEqDiff, reduceIte, Nat.reduceLeDiff, Nat.reduceLT, Nat.reduceSub]; rfl)
  · intro h; repeat' (first | exact trivial | exact h | refine And.intro ?_ ?_)
  try simp (config := { maxSteps := 2000000 }) only [go_sem, reduceCtorEq, Nat.reduceAdd, Nat.reduceEqDiff, reduceIte, Nat.reduceLeDiff, Nat.reduceLT, Nat.reduceSub]
  all_goals (repeat (with_reducible refine sAnd ?_))
  have e1 : samePs lastL lastL = true := samePs_self _
  have e2 : ptsV onceLL = [[.sl 2 [[bS [], .sl 6 [[bI 14, bS [], bS [], bI 0, bI 0, .sl 2 (ptsV lastL)]]]], .sl 1 []]] := rfl
  try simp (config := { maxSteps := 2000000 }) only [go_sem, reduceCtorEq, Nat.reduceAdd, Nat.reduceEqDiff, reduceIte, Nat.reduceLeDiff, Nat.reduceLT, Nat.reduceSub, beq_self_eq_true, cond_true, e1, e2, Int.reduceToNat, Int.reduceBEq, List.getD_cons_zero, List.length_cons, List.length_nil, Int.reduceLT, Int.reduceLE, Int.cast_ofNat_Int, Int.reduceAdd]
  all_goals (repeat (with_reducible refine sAnd ?_))
  exact fin_val rfl trivial (.inl rfl)
theorem c_law_PlainTells (l : List Pt) : Contract Tryd.prog fn_law_PlainTells [.val (.one (.sl 2 (ptsV l)))] { res := .val (bv true) } := by
  have hP := c_plain_Plain l
  have hO := c_plain_Once l
  have hS := c_plain_Size l
  have hC := c_ref_CheckList l
  unfold listV at hC
  by_cases h2 : checkL l = 0
  · rw [h2, if_pos rfl] at hP hO hS
    rw [h2] at hC
    refine mk_law_PlainTells (base := 0) ⟨Nat.le_of_ble_eq_true rfl, Nat.le_of_ble_eq_true rfl, Nat.le_of_ble_eq_true rfl, rfl⟩ (fun hfit => ?_)
    unfold F0 law_PlainTells_E
    simp (config := { maxSteps := 2000000 }) only [markU, List.set_cons_succ, List.set_cons_zero, List.map_cons, List.map_nil, argCt, setCells, ioOf, List.length_cons, List.length_nil, Nat.reduceAdd, Nat.reduceSub, List.replicate, List.cons_append, List.nil_append]
    try simp (config := { maxSteps := 2000000 }) only [go_sem, reduceCtorEq, Nat.reduceAdd, Nat.reduceEqDiff, reduceIte, Nat.reduceLeDiff, Nat.reduceLT, Nat.reduceSub]
    all_goals (repeat (with_reducible refine sAnd ?_))
    refine call_tup (by repeat' constructor) (hS) ?_
    try simp (config := { maxSteps := 2000000 }) only [go_sem, reduceCtorEq, Nat.reduceAdd, Nat.reduceEqDiff, reduceIte, Nat.reduceLeDiff, Nat.reduceLT, Nat.reduceSub]
    all_goals (repeat (with_reducible refine sAnd ?_))
    refine call_tup (by repeat' constructor) (hO) ?_
    try simp (config := { maxSteps := 2000000 }) only [go_sem, reduceCtorEq, Nat.reduceAdd, Nat.reduceEqDiff, reduceIte, Nat.reduceLeDiff, Nat.reduceLT, Nat.reduceSub]
    all_goals (repeat (with_reducible refine sAnd ?_))
    refine call_tup (by repeat' constructor) (hP) ?_
    try simp (config := { maxSteps := 2000000 }) only [go_sem, reduceCtorEq, Nat.reduceAdd, Nat.reduceEqDiff, reduceIte, Nat.reduceLeDiff, Nat.reduceLT, Nat.reduceSub]
    all_goals (repeat (with_reducible refine sAnd ?_))
    refine call_val (by repeat' constructor) (hC) ?_
    try simp (config := { maxSteps := 2000000 }) only [go_sem, reduceCtorEq, Nat.reduceAdd, Nat.reduceEqDiff, reduceIte, Nat.reduceLeDiff, Nat.reduceLT, Nat.reduceSub]
    all_goals (repeat (with_reducible refine sAnd ?_))
    refine cond_t (by rfl) trivial ?_
    try simp (config := { maxSteps := 2000000 }) only [go_sem, reduceCtorEq, Nat.reduceAdd, Nat.reduceEqDiff, reduceIte, Nat.reduceLeDiff, Nat.reduceLT, Nat.reduceSub]
    all_goals (repeat (with_reducible refine sAnd ?_))
    refine call_val (by repeat' constructor) (good_rsize _ l (Nat.le_refl _) (pz_le l h2)) ?_
    try simp (config := { maxSteps := 2000000 }) only [go_sem, reduceCtorEq, Nat.reduceAdd, Nat.reduceEqDiff, reduceIte, Nat.reduceLeDiff, Nat.reduceLT, Nat.reduceSub]
    all_goals (repeat (with_reducible refine sAnd ?_))
    refine call_own (by repeat' constructor) (c_rOnce l (sh_of l h2)) ?_
    try simp (config := { maxSteps := 2000000 }) only [go_sem, reduceCtorEq, Nat.reduceAdd, Nat.reduceEqDiff, reduceIte, Nat.reduceLeDiff, Nat.reduceLT, Nat.reduceSub]
    all_goals (repeat (with_reducible refine sAnd ?_))
    refine call_own (by repeat' constructor) (c_rPlain l (sh_of l h2)) ?_
    try simp (config := { maxSteps := 2000000 }) only [go_sem, reduceCtorEq, Nat.reduceAdd, Nat.reduceEqDiff, reduceIte, Nat.reduceLeDiff, Nat.reduceLT, Nat.reduceSub]
    all_goals (repeat (with_reducible refine sAnd ?_))
    refine call_val (by repeat' constructor) (c_plainBegun) ?_
    try simp (config := { maxSteps := 2000000 }) only [go_sem, reduceCtorEq, Nat.reduceAdd, Nat.reduceEqDiff, reduceIte, Nat.reduceLeDiff, Nat.reduceLT, Nat.reduceSub]
    all_goals (repeat (with_reducible refine sAnd ?_))
    apply call_guard (h2 := fun _ => c_rLists (onL l) (onL l))
    · (simp (config := { maxSteps := 2000000 }) only [go_sem, reduceCtorEq, Nat.reduceAdd, Nat.reduceEqDiff, reduceIte, Nat.reduceLeDiff, Nat.reduceLT, Nat.reduceSub]; rfl)
    · intro h; repeat' (first | exact trivial | exact h | refine And.intro ?_ ?_)
    try simp (config := { maxSteps := 2000000 }) only [go_sem, reduceCtorEq, Nat.reduceAdd, Nat.reduceEqDiff, reduceIte, Nat.reduceLeDiff, Nat.reduceLT, Nat.reduceSub]
    all_goals (repeat (with_reducible refine sAnd ?_))
    apply call_guard (h2 := fun _ => c_rLists (plL l) (plL l))
    · (simp (config := { maxSteps := 2000000 }) only [go_sem, reduceCtorEq, Nat.reduceAdd, Nat.reduceEqDiff, reduceIte, Nat.reduceLeDiff, Nat.reduceLT, Nat.reduceSub]; rfl)
    · intro h; repeat' (first | exact trivial | exact h | refine And.intro ?_ ?_)
    try simp (config := { maxSteps := 2000000 }) only [go_sem, reduceCtorEq, Nat.reduceAdd, Nat.reduceEqDiff, reduceIte, Nat.reduceLeDiff, Nat.reduceLT, Nat.reduceSub]
    all_goals (repeat (with_reducible refine sAnd ?_))
    refine fin_val rfl trivial (.inl ?_)
    simp
  · rw [if_neg h2] at hP hO hS
    refine mk_law_PlainTells (base := 0) ⟨Nat.le_of_ble_eq_true rfl, Nat.le_of_ble_eq_true rfl, Nat.le_of_ble_eq_true rfl, rfl⟩ (fun hfit => ?_)
    unfold F0 law_PlainTells_E
    simp (config := { maxSteps := 2000000 }) only [markU, List.set_cons_succ, List.set_cons_zero, List.map_cons, List.map_nil, argCt, setCells, ioOf, List.length_cons, List.length_nil, Nat.reduceAdd, Nat.reduceSub, List.replicate, List.cons_append, List.nil_append]
    try simp (config := { maxSteps := 2000000 }) only [go_sem, reduceCtorEq, Nat.reduceAdd, Nat.reduceEqDiff, reduceIte, Nat.reduceLeDiff, Nat.reduceLT, Nat.reduceSub]
    all_goals (repeat (with_reducible refine sAnd ?_))
    refine call_tup (by repeat' constructor) (hS) ?_
    try simp (config := { maxSteps := 2000000 }) only [go_sem, reduceCtorEq, Nat.reduceAdd, Nat.reduceEqDiff, reduceIte, Nat.reduceLeDiff, Nat.reduceLT, Nat.reduceSub]
    all_goals (repeat (with_reducible refine sAnd ?_))
    refine call_tup (by repeat' constructor) (hO) ?_
    try simp (config := { maxSteps := 2000000 }) only [go_sem, reduceCtorEq, Nat.reduceAdd, Nat.reduceEqDiff, reduceIte, Nat.reduceLeDiff, Nat.reduceLT, Nat.reduceSub]
    all_goals (repeat (with_reducible refine sAnd ?_))
    refine call_tup (by repeat' constructor) (hP) ?_
    try simp (config := { maxSteps := 2000000 }) only [go_sem, reduceCtorEq, Nat.reduceAdd, Nat.reduceEqDiff, reduceIte, Nat.reduceLeDiff, Nat.reduceLT, Nat.reduceSub]
    all_goals (repeat (with_reducible refine sAnd ?_))
    refine call_val (by repeat' constructor) (hC) ?_
    try simp (config := { maxSteps := 2000000 }) only [go_sem, reduceCtorEq, Nat.reduceAdd, Nat.reduceEqDiff, reduceIte, Nat.reduceLeDiff, Nat.reduceLT, Nat.reduceSub]
    all_goals (repeat (with_reducible refine sAnd ?_))
    refine cond_of (by rfl) trivial (fun h => ?_) (fun h => ?_)
    · exact (h2 (by simpa using h)).elim
    try simp (config := { maxSteps := 2000000 }) only [go_sem, reduceCtorEq, Nat.reduceAdd, Nat.reduceEqDiff, reduceIte, Nat.reduceLeDiff, Nat.reduceLT, Nat.reduceSub]
    all_goals (repeat (with_reducible refine sAnd ?_))
    refine call_val (by repeat' constructor) (c_plainBegun) ?_
    try simp (config := { maxSteps := 2000000 }) only [go_sem, reduceCtorEq, Nat.reduceAdd, Nat.reduceEqDiff, reduceIte, Nat.reduceLeDiff, Nat.reduceLT, Nat.reduceSub]
    all_goals (repeat (with_reducible refine sAnd ?_))
    apply call_guard (h2 := fun _ => c_rLists [] [])
    · (simp (config := { maxSteps := 2000000 }) only [go_sem, reduceCtorEq, Nat.reduceAdd, Nat.reduceEqDiff, reduceIte, Nat.reduceLeDiff, Nat.reduceLT, Nat.reduceSub]; rfl)
    · intro h; repeat' (first | exact trivial | exact h | refine And.intro ?_ ?_)
    try simp (config := { maxSteps := 2000000 }) only [go_sem, reduceCtorEq, Nat.reduceAdd, Nat.reduceEqDiff, reduceIte, Nat.reduceLeDiff, Nat.reduceLT, Nat.reduceSub]
    all_goals (repeat (with_reducible refine sAnd ?_))
    apply call_guard (h2 := fun _ => c_rLists [] [])
    · (simp (config := { maxSteps := 2000000 }) only [go_sem, reduceCtorEq, Nat.reduceAdd, Nat.reduceEqDiff, reduceIte, Nat.reduceLeDiff, Nat.reduceLT, Nat.reduceSub]; rfl)
    · intro h; repeat' (first | exact trivial | exact h | refine And.intro ?_ ?_)
    try simp (config := { maxSteps := 2000000 }) only [go_sem, reduceCtorEq, Nat.reduceAdd, Nat.reduceEqDiff, reduceIte, Nat.reduceLeDiff, Nat.reduceLT, Nat.reduceSub]
    all_goals (repeat (with_reducible refine sAnd ?_))
    refine fin_val rfl trivial (.inl ?_)
    simp
end Go.Hx
end
