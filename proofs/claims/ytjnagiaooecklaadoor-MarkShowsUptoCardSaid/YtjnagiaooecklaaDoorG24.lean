/-
  Walks of functions of the program over an abstract layer, and the laws that they use: each contract says what the function computes, for every input that its conditions let by. No other condition.
-/
import Derived.Test.YtjnagiaooecklaaDoorG23
import Derived.Test.YtjnagiaooecklaaDoorG14
import Derived.Test.YtjnagiaooecklaaDoorG20
import Derived.Test.YtjnagiaooecklaaDoorG22
set_option linter.all false
section
-- DOM getO
set_option maxRecDepth 100000
set_option linter.unusedSimpArgs false
namespace Go.Hx
open Go.Proofs Go.RowKit
variable [Glob]

attribute [local go_sem] ndsV_len clsV_len attV_len intsR_len ndV cellsEq getO
/-! ### The lenient reader: an element, and what is below it -/

theorem fin_ownio {E : Env} {base t : Nat} {av : List AV} {F : List Ct} {e k : Nat} {rows : List (List PV)} {cells io : List PV} (h : F.getD t .un = .own e k rows) (hio : ioOf av = some cells) (hc : cellsPV F base cells.length = some io) : finQ E base av [.tmp t] { res := .own e k rows, io := io } .ret F :=
  ⟨h, fun cs h => by rw [hio] at h; injection h with h; subst h; exact hc⟩
theorem vlR_len (s : Bys) : (vlR s).length ≤ s.length := (List.dropWhile_sublist _).length_le
theorem latQ_len (s : Bys) : (latQ s).length ≤ (signR s [91]).length := Nat.le_trans (signR_len _ _) (nmR_len _)
theorem lid_len (s : Bys) : (lid s).2.length ≤ s.length := by
  unfold lid
  split
  · exact Nat.le_trans (nmR_len _) (signR_len _ _)
  · exact Nat.le_refl _
theorem lcl_len : ∀ (f : Nat) (s : Bys) (l : List Bys), (lcl f s l).2.length ≤ s.length
  | 0, s, l => Nat.le_refl _
  | f + 1, s, l => by
    simp only [lcl]
    split
    · exact Nat.le_trans (lcl_len f _ _) (Nat.le_trans (nmR_len _) (signR_len _ _))
    · exact Nat.le_refl _
theorem lat_len : ∀ (f : Nat) (s : Bys) (l : List (Bys × Bys)), (lat f s l).2.length ≤ s.length
  | 0, s, l => Nat.le_refl _
  | f + 1, s, l => by
    simp only [lat]
    split
    · exact Nat.le_trans (lat_len f _ _) (Nat.le_trans (signR_len _ _) (Nat.le_trans (vlR_len _) (Nat.le_trans (latQ_len _) (signR_len _ _))))
    · exact Nat.le_refl _
theorem lnd_len (up : Int) (s : Bys) : (lnd up s).2.length ≤ s.length := by
  unfold lnd
  exact Nat.le_trans (lat_len _ _ _) (Nat.le_trans (lcl_len _ _ _) (Nat.le_trans (lid_len _) (nmR_len _)))
theorem lnLoop_out {g : Bys → List Nd → Int → List Nd × Bys} {k : Nat} {s : Bys} {l : List Nd} {n : Int} (h : 64 < l.length) : lnLoop g k s l n = (l, s) := by
  cases k with
  | zero => rfl
  | succ k => simp only [lnLoop, h, if_true]
theorem lnLoop_len {g : Bys → List Nd → Int → List Nd × Bys} (hg : ∀ s l n, l.length ≤ 64 → (g s l n).2.length ≤ s.length ∧ l.length ≤ (g s l n).1.length ∧ (g s l n).1.length ≤ 65) : ∀ (k : Nat) (s : Bys) (l : List Nd) (n : Int), l.length ≤ 65 → (lnLoop g k s l n).2.length ≤ s.length ∧ l.length ≤ (lnLoop g k s l n).1.length ∧ (lnLoop g k s l n).1.length ≤ 65
  | 0, s, l, n, h => ⟨Nat.le_refl _, Nat.le_refl _, h⟩
  | k + 1, s, l, n, h => by
    simp only [lnLoop]
    split
    · exact ⟨Nat.le_refl _, Nat.le_refl _, h⟩
    · rename_i h64
      have a := hg s l n (by omega)
      split
      · have b := lnLoop_len hg k (signR (g s l n).2 [32]) (g s l n).1 n a.2.2
        have c := signR_len (g s l n).2 [32]
        omega
      · exact a
theorem lnF_len : ∀ (f : Nat) (s : Bys) (l : List Nd) (up : Int), l.length ≤ 64 → (lnF f s l up).2.length ≤ s.length ∧ l.length ≤ (lnF f s l up).1.length ∧ (lnF f s l up).1.length ≤ 65
  | 0, s, l, up, h => ⟨Nat.le_refl _, Nat.le_refl _, by show l.length ≤ 65; omega⟩
  | f + 1, s, l, up, h => by
    have a := lnd_len up s
    simp only [lnF]
    split
    · have b := lnLoop_len (lnF_len f) 66 (signR (lnd up s).2 [40]) (l ++ [(lnd up s).1]) l.length (by simp; omega)
      have c := signR_len (lnd up s).2 [40]
      have d := signR_len (lnLoop (lnF f) 66 (signR (lnd up s).2 [40]) (l ++ [(lnd up s).1]) l.length).2 [41]
      simp only [List.length_append, List.length_cons, List.length_nil] at b
      refine ⟨?_, ?_, ?_⟩
      · simp only; omega
      · simp only; omega
      · simp only; omega
    · refine ⟨a, ?_, ?_⟩ <;> simp <;> omega
theorem lnF_grow (f : Nat) (s : Bys) (l : List Nd) (up : Int) (h : l.length ≤ 64) (hf : 0 < f) : l.length + 1 ≤ (lnF f s l up).1.length := by
  obtain ⟨f, rfl⟩ : ∃ f', f = f' + 1 := ⟨f - 1, by omega⟩
  simp only [lnF]
  split
  · have b := lnLoop_len (lnF_len f) 66 (signR (lnd up s).2 [40]) (l ++ [(lnd up s).1]) l.length (by simp; omega)
    simp only [List.length_append, List.length_cons, List.length_nil] at b
    exact b.2.1
  · simp
theorem node_end {up : Int} {s r : Bys} {x : Nd} (h : lnd up s = (x, r)) {f : Nat} {l : List Nd} : lnF (f + 1) s l up = (if signOk r [40] then ((lnLoop (lnF f) 66 (signR r [40]) (l ++ [x]) l.length).1, signR (lnLoop (lnF f) 66 (signR r [40]) (l ++ [x]) l.length).2 [41]) else (l ++ [x], r)) := by
  simp only [lnF, h]
set_option maxHeartbeats 4000000 in
theorem c_ref_reader_node : ∀ (f : Nat) (s : Bys) (l : List Nd) (up : Int), s.length ≤ 1048576 → l.length ≤ 64 → 66 ≤ f + l.length → Contract Tryd.prog fn_ref_reader_node [.io [bS s], .own ty_api_Node 5 (ndsV l), .val (iv up)] { res := .own ty_api_Node 5 (ndsV (lnF f s l up).1), io := [bS (lnF f s l up).2] }
  | 0, s, l, up, hs, hl, hf => by omega
  | f + 1, s, l, up, hs, hl, hf => by
    have ih := c_ref_reader_node f
    have hm0 : maxLen = 9223372036854775807 := rfl
    have hr1 := nmR_len s
    have hs1 := signR_len (nmR s) [35]
    have hn1 := nmR_len (signR (nmR s) [35])
    refine mk_ref_reader_node (base := 72) ⟨Nat.le_of_ble_eq_true rfl, Nat.le_of_ble_eq_true rfl, Nat.le_of_ble_eq_true rfl, ⟨rfl, rfl⟩⟩ (fun hfit => ?_)
    unfold F0 ref_reader_node_E
    simp (config := { maxSteps := 2000000 }) only [markU, List.set_cons_succ, List.set_cons_zero, List.map_cons, List.map_nil, argCt, setCells, ioOf, List.length_cons, List.length_nil, Nat.reduceAdd, Nat.reduceSub, List.replicate, List.cons_append, List.nil_append]
    try simp (config := { maxSteps := 2000000 }) only [go_sem, reduceCtorEq, Nat.reduceAdd, Nat.reduceEqDiff, reduceIte, Nat.reduceLeDiff, Nat.reduceLT, Nat.reduceSub]
    all_goals (repeat (with_reducible refine sAnd ?_))
    refine call_val (by repeat' constructor) (c_ref_reader_name s) ?_
    try simp (config := { maxSteps := 2000000 }) only [go_sem, reduceCtorEq, Nat.reduceAdd, Nat.reduceEqDiff, reduceIte, Nat.reduceLeDiff, Nat.reduceLT, Nat.reduceSub]
    all_goals (repeat (with_reducible refine sAnd ?_))
    refine call_val (by repeat' constructor) (c_ref_reader_sign (nmR s) [35]) ?_
    try simp (config := { maxSteps := 2000000 }) only [go_sem, reduceCtorEq, Nat.reduceAdd, Nat.reduceEqDiff, reduceIte, Nat.reduceLeDiff, Nat.reduceLT, Nat.reduceSub]
    all_goals (repeat (with_reducible refine sAnd ?_))
    refine cond_of (by rfl) trivial (fun h => ?_) (fun h => ?_)
    · have hid : lid (nmR s) = (nmOf (signR (nmR s) [35]), nmR (signR (nmR s) [35])) := by unfold lid; rw [h]; rfl
      try simp (config := { maxSteps := 2000000 }) only [go_sem, reduceCtorEq, Nat.reduceAdd, Nat.reduceEqDiff, reduceIte, Nat.reduceLeDiff, Nat.reduceLT, Nat.reduceSub]
      all_goals (repeat (with_reducible refine sAnd ?_))
      refine call_val (by repeat' constructor) (c_ref_reader_name (signR (nmR s) [35])) ?_
      try simp (config := { maxSteps := 2000000 }) only [go_sem, reduceCtorEq, Nat.reduceAdd, Nat.reduceEqDiff, reduceIte, Nat.reduceLeDiff, Nat.reduceLT, Nat.reduceSub]
      all_goals (repeat (with_reducible refine sAnd ?_))
      refine loop_sets (fun x : Nat × List Bys × Bys => [(72, .pv (.one (bS x.2.2))), (76, .own ty_string 1 (clsV x.2.1)), (21, .un)]) (fun x : Nat × List Bys × Bys => x.1) (fun x : Nat × List Bys × Bys => x.2.2.length < x.1 ∧ x.2.1.length + x.2.2.length ≤ (nmR (signR (nmR s) [35])).length ∧ lcl x.1 x.2.2 x.2.1 = lclR (nmR (signR (nmR s) [35]))) (((nmR (signR (nmR s) [35])).length + 1, [], nmR (signR (nmR s) [35]))) ?_ ⟨Nat.lt_succ_self _, by simp, rfl⟩ ?_
      focus (simp (config := { maxSteps := 2000000 }) only [go_sem, reduceCtorEq, Nat.reduceAdd, Nat.reduceEqDiff, reduceIte, Nat.reduceLeDiff, Nat.reduceLT, Nat.reduceSub, le_cons, le_nil, le_un, le_same]; all_goals (repeat' (first | exact trivial | exact le_int (by omega) | exact le_bool rfl | exact le_eq rfl | exact le_nlo | exact le_refl _ | refine And.intro ?_ ?_)))
      rintro ⟨q, c, r⟩ ⟨h1, h2, h3⟩
      simp only at h1 h2 h3
      obtain ⟨q', rfl⟩ : ∃ q', q = q' + 1 := ⟨q - 1, by omega⟩
      rw [lcl] at h3
      try simp (config := { maxSteps := 2000000 }) only [go_sem, reduceCtorEq, Nat.reduceAdd, Nat.reduceEqDiff, reduceIte, Nat.reduceLeDiff, Nat.reduceLT, Nat.reduceSub]
      all_goals (repeat (with_reducible refine sAnd ?_))
      refine call_val (by repeat' constructor) (c_ref_reader_sign r [46]) ?_
      try simp (config := { maxSteps := 2000000 }) only [go_sem, reduceCtorEq, Nat.reduceAdd, Nat.reduceEqDiff, reduceIte, Nat.reduceLeDiff, Nat.reduceLT, Nat.reduceSub]
      all_goals (repeat (with_reducible refine sAnd ?_))
      refine cond_of (by rfl) trivial (fun g1 => ?_) (fun g1 => ?_)
      · rw [g1, if_pos rfl] at h3
        have hd := sign_drop g1
        have hnr := nmR_len (signR r [46])
        try simp (config := { maxSteps := 2000000 }) only [go_sem, reduceCtorEq, Nat.reduceAdd, Nat.reduceEqDiff, reduceIte, Nat.reduceLeDiff, Nat.reduceLT, Nat.reduceSub, clsV_len]
        all_goals (repeat (with_reducible refine sAnd ?_))
        refine call_val (by repeat' constructor) (c_ref_reader_name _) ?_
        try simp (config := { maxSteps := 2000000 }) only [go_sem, reduceCtorEq, Nat.reduceAdd, Nat.reduceEqDiff, reduceIte, Nat.reduceLeDiff, Nat.reduceLT, Nat.reduceSub, clsV_len]
        all_goals (repeat (with_reducible refine sAnd ?_))
        refine ⟨(q', c ++ [nmOf (signR r [46])], nmR (signR r [46])), by simp only; omega, ⟨by simp only; omega, by simp only [List.length_append, List.length_cons, List.length_nil]; omega, h3⟩, ?_⟩
        simp (config := { maxSteps := 2000000 }) only [go_sem, reduceCtorEq, Nat.reduceAdd, Nat.reduceEqDiff, reduceIte, Nat.reduceLeDiff, Nat.reduceLT, Nat.reduceSub, le_cons, le_nil, le_un, le_same]
        all_goals (repeat' (first | exact trivial | exact le_int (by omega) | exact le_bool rfl | exact le_eq rfl | exact le_nlo | exact le_refl _ | refine And.intro ?_ ?_))
        all_goals first | exact le_eq (by rw [clsV_app]; rfl) | exact le_same | rfl
      · rw [g1, if_neg (by simp)] at h3
        have e1 : signR r [46] = r := by unfold signR; rw [g1]; rfl
        try simp (config := { maxSteps := 2000000 }) only [go_sem, reduceCtorEq, Nat.reduceAdd, Nat.reduceEqDiff, reduceIte, Nat.reduceLeDiff, Nat.reduceLT, Nat.reduceSub]
        all_goals (repeat (with_reducible refine sAnd ?_))
        rw [e1]
        refine loop_sets (fun x : Nat × List (Bys × Bys) × Bys => [(72, .pv (.one (bS x.2.2))), (77, .own ty_api_Attr 2 (attV x.2.1)), (8, .un), (30, .un), (78, .un), (79, .un)]) (fun x : Nat × List (Bys × Bys) × Bys => x.1) (fun x : Nat × List (Bys × Bys) × Bys => x.2.2.length < x.1 ∧ x.2.1.length + x.2.2.length ≤ r.length ∧ lat x.1 x.2.2 x.2.1 = latR r) ((r.length + 1, [], r)) ?_ ⟨Nat.lt_succ_self _, by simp, rfl⟩ ?_
        focus (simp (config := { maxSteps := 2000000 }) only [go_sem, reduceCtorEq, Nat.reduceAdd, Nat.reduceEqDiff, reduceIte, Nat.reduceLeDiff, Nat.reduceLT, Nat.reduceSub, le_cons, le_nil, le_un, le_same]; all_goals (repeat' (first | exact trivial | exact le_int (by omega) | exact le_bool rfl | exact le_eq rfl | exact le_nlo | exact le_refl _ | refine And.intro ?_ ?_)))
        rintro ⟨q, a, r2⟩ ⟨k1, k2, k3⟩
        simp only at k1 k2 k3
        obtain ⟨q', rfl⟩ : ∃ q', q = q' + 1 := ⟨q - 1, by omega⟩
        rw [lat] at k3
        try simp (config := { maxSteps := 2000000 }) only [go_sem, reduceCtorEq, Nat.reduceAdd, Nat.reduceEqDiff, reduceIte, Nat.reduceLeDiff, Nat.reduceLT, Nat.reduceSub]
        all_goals (repeat (with_reducible refine sAnd ?_))
        refine call_val (by repeat' constructor) (c_ref_reader_sign r2 [91]) ?_
        try simp (config := { maxSteps := 2000000 }) only [go_sem, reduceCtorEq, Nat.reduceAdd, Nat.reduceEqDiff, reduceIte, Nat.reduceLeDiff, Nat.reduceLT, Nat.reduceSub]
        all_goals (repeat (with_reducible refine sAnd ?_))
        refine cond_of (by rfl) trivial (fun g3 => ?_) (fun g3 => ?_)
        · rw [g3, if_pos rfl] at k3
          have hd := sign_drop g3
          have hq := latQ_len r2
          have hv := signR_len (vlR (latQ r2)) [34, 93]
          have hw := vlR_len (latQ r2)
          try simp (config := { maxSteps := 2000000 }) only [go_sem, reduceCtorEq, Nat.reduceAdd, Nat.reduceEqDiff, reduceIte, Nat.reduceLeDiff, Nat.reduceLT, Nat.reduceSub, attV_len]
          all_goals (repeat (with_reducible refine sAnd ?_))
          refine call_val (by repeat' constructor) (c_ref_reader_name (signR r2 [91])) ?_
          try simp (config := { maxSteps := 2000000 }) only [go_sem, reduceCtorEq, Nat.reduceAdd, Nat.reduceEqDiff, reduceIte, Nat.reduceLeDiff, Nat.reduceLT, Nat.reduceSub]
          all_goals (repeat (with_reducible refine sAnd ?_))
          refine call_val (by repeat' constructor) (c_ref_reader_sign (nmR (signR r2 [91])) [61, 34]) ?_
          try simp (config := { maxSteps := 2000000 }) only [go_sem, reduceCtorEq, Nat.reduceAdd, Nat.reduceEqDiff, reduceIte, Nat.reduceLeDiff, Nat.reduceLT, Nat.reduceSub]
          all_goals (repeat (with_reducible refine sAnd ?_))
          refine call_val (by repeat' constructor) (c_ref_reader_value (latQ r2)) ?_
          try simp (config := { maxSteps := 2000000 }) only [go_sem, reduceCtorEq, Nat.reduceAdd, Nat.reduceEqDiff, reduceIte, Nat.reduceLeDiff, Nat.reduceLT, Nat.reduceSub]
          all_goals (repeat (with_reducible refine sAnd ?_))
          refine call_val (by repeat' constructor) (c_ref_reader_sign (vlR (latQ r2)) [34, 93]) ?_
          try simp (config := { maxSteps := 2000000 }) only [go_sem, reduceCtorEq, Nat.reduceAdd, Nat.reduceEqDiff, reduceIte, Nat.reduceLeDiff, Nat.reduceLT, Nat.reduceSub, attV_len]
          all_goals (repeat (with_reducible refine sAnd ?_))
          refine ⟨(q', a ++ [(nmOf (signR r2 [91]), vlOf (latQ r2))], signR (vlR (latQ r2)) [34, 93]), by simp only; omega, ⟨by simp only; omega, by simp only [List.length_append, List.length_cons, List.length_nil]; omega, k3⟩, ?_⟩
          simp (config := { maxSteps := 2000000 }) only [go_sem, reduceCtorEq, Nat.reduceAdd, Nat.reduceEqDiff, reduceIte, Nat.reduceLeDiff, Nat.reduceLT, Nat.reduceSub, le_cons, le_nil, le_un, le_same]
          all_goals (repeat' (first | exact trivial | exact le_int (by omega) | exact le_bool rfl | exact le_eq rfl | exact le_nlo | exact le_refl _ | refine And.intro ?_ ?_))
          all_goals first | exact le_eq (by rw [attV_app]; rfl) | exact le_same | rfl
        · rw [g3, if_neg (by simp)] at k3
          have e3 : signR r2 [91] = r2 := by unfold signR; rw [g3]; rfl
          have hnd : lnd up s = ({ up := up, tag := nmOf s, id := nmOf (signR (nmR s) [35]), cls := c, att := a }, r2) := by
            unfold lnd
            rw [hid]
            simp only
            rw [← h3]
            simp only
            rw [← k3]
          have hr2 : r2.length ≤ s.length := by omega
          rw [node_end hnd]
          try simp (config := { maxSteps := 2000000 }) only [go_sem, reduceCtorEq, Nat.reduceAdd, Nat.reduceEqDiff, reduceIte, Nat.reduceLeDiff, Nat.reduceLT, Nat.reduceSub, ndsV_len]
          all_goals (repeat (with_reducible refine sAnd ?_))
          rw [e3]
          try simp (config := { maxSteps := 2000000 }) only [go_sem, reduceCtorEq, Nat.reduceAdd, Nat.reduceEqDiff, reduceIte, Nat.reduceLeDiff, Nat.reduceLT, Nat.reduceSub, ndsV_len]
          all_goals (repeat (with_reducible refine sAnd ?_))
          refine call_val (by repeat' constructor) (c_ref_reader_sign r2 [40]) ?_
          try simp (config := { maxSteps := 2000000 }) only [go_sem, reduceCtorEq, Nat.reduceAdd, Nat.reduceEqDiff, reduceIte, Nat.reduceLeDiff, Nat.reduceLT, Nat.reduceSub]
          all_goals (repeat (with_reducible refine sAnd ?_))
          refine cond_of (by rfl) trivial (fun g5 => ?_) (fun g5 => ?_)
          · have g5' : signOk r2 [40] = false := by simpa using g5
            have e5 : signR r2 [40] = r2 := by unfold signR; rw [g5']; rfl
            rw [g5', if_neg (by simp)]
            try simp (config := { maxSteps := 2000000 }) only [go_sem, reduceCtorEq, Nat.reduceAdd, Nat.reduceEqDiff, reduceIte, Nat.reduceLeDiff, Nat.reduceLT, Nat.reduceSub]
            all_goals (repeat (with_reducible refine sAnd ?_))
            rw [e5]
            refine fin_ownio ?_ rfl rfl
            simp only [ndsV_app]
            rfl
          · have g5' : signOk r2 [40] = true := by simpa using g5
            have hd5 := sign_drop g5'
            rw [g5', if_pos rfl]
            try simp (config := { maxSteps := 2000000 }) only [go_sem, reduceCtorEq, Nat.reduceAdd, Nat.reduceEqDiff, reduceIte, Nat.reduceLeDiff, Nat.reduceLT, Nat.reduceSub]
            all_goals (repeat (with_reducible refine sAnd ?_))
            generalize hx : ({ up := up, tag := nmOf s, id := nmOf (signR (nmR s) [35]), cls := c, att := a } : Nd) = xx
            refine loop_sets (fun x : Nat × Bool × List Nd × Bys => [(1, .own ty_api_Node 5 (ndsV x.2.2.1)), (10, .pv (bv x.2.1)), (72, .pv (.one (bS x.2.2.2))), (62, .un)]) (fun x : Nat × Bool × List Nd × Bys => (if x.2.1 then x.1 + 1 else 0)) (fun x : Nat × Bool × List Nd × Bys => x.2.2.1.length ≤ 65 ∧ x.2.2.2.length ≤ s.length ∧ 66 ≤ x.1 + x.2.2.1.length ∧ l.length + 1 ≤ x.2.2.1.length ∧ (if x.2.1 then lnLoop (lnF f) x.1 x.2.2.2 x.2.2.1 l.length else (x.2.2.1, x.2.2.2)) = lnLoop (lnF f) 66 (signR r2 [40]) (l ++ [xx]) l.length) ((66, true, l ++ [xx], signR r2 [40])) ?_ ⟨by simp only [List.length_append, List.length_cons, List.length_nil]; omega, by simp only; omega, by simp only [List.length_append, List.length_cons, List.length_nil]; omega, by simp only [List.length_append, List.length_cons, List.length_nil]; omega, by simp only [if_true]⟩ ?_
            focus (simp (config := { maxSteps := 2000000 }) only [go_sem, reduceCtorEq, Nat.reduceAdd, Nat.reduceEqDiff, reduceIte, Nat.reduceLeDiff, Nat.reduceLT, Nat.reduceSub, le_cons, le_nil, le_un, le_same]; all_goals (repeat' (first | exact trivial | exact le_int (by omega) | exact le_bool rfl | exact le_eq rfl | exact le_nlo | exact le_refl _ | refine And.intro ?_ ?_)))
            · exact le_own (by rw [ndsV_app, ← hx]; rfl)
            rintro ⟨k, more, L, t⟩ ⟨j1, j2, j3, j4, j5⟩
            simp only at j1 j2 j3 j4 j5
            cases more with
            | false =>
              simp only [Bool.false_eq_true, if_false] at j5
              try simp (config := { maxSteps := 2000000 }) only [go_sem, reduceCtorEq, Nat.reduceAdd, Nat.reduceEqDiff, reduceIte, Nat.reduceLeDiff, Nat.reduceLT, Nat.reduceSub, ndsV_len]
              all_goals (repeat (with_reducible refine sAnd ?_))
              refine cond_of (by rfl) trivial (fun g6 => ?_) (fun g6 => ?_)
              · simp at g6
              · try simp (config := { maxSteps := 2000000 }) only [go_sem, reduceCtorEq, Nat.reduceAdd, Nat.reduceEqDiff, reduceIte, Nat.reduceLeDiff, Nat.reduceLT, Nat.reduceSub]
                all_goals (repeat (with_reducible refine sAnd ?_))
                refine call_val (by repeat' constructor) (c_ref_reader_sign t [41]) ?_
                try simp (config := { maxSteps := 2000000 }) only [go_sem, reduceCtorEq, Nat.reduceAdd, Nat.reduceEqDiff, reduceIte, Nat.reduceLeDiff, Nat.reduceLT, Nat.reduceSub]
                all_goals (repeat (with_reducible refine sAnd ?_))
                rw [← j5]
                exact fin_ownio rfl rfl rfl
            | true =>
              simp only [if_true] at j5
              try simp (config := { maxSteps := 2000000 }) only [go_sem, reduceCtorEq, Nat.reduceAdd, Nat.reduceEqDiff, reduceIte, Nat.reduceLeDiff, Nat.reduceLT, Nat.reduceSub, ndsV_len]
              all_goals (repeat (with_reducible refine sAnd ?_))
              refine cond_of (by rfl) trivial (fun g6 => ?_) (fun g6 => ?_)
              · have hL : L.length ≤ 64 := by simp at g6; omega
                obtain ⟨k', rfl⟩ : ∃ k', k = k' + 1 := ⟨k - 1, by omega⟩
                obtain ⟨m1, m2, m3⟩ := lnF_len f t L l.length hL
                have m4 := lnF_grow f t L l.length hL (by omega)
                have m5 := signR_len (lnF f t L l.length).2 [32]
                rw [lnLoop, if_neg (by omega)] at j5
                try simp (config := { maxSteps := 2000000 }) only [go_sem, reduceCtorEq, Nat.reduceAdd, Nat.reduceEqDiff, reduceIte, Nat.reduceLeDiff, Nat.reduceLT, Nat.reduceSub, ndsV_len]
                all_goals (repeat (with_reducible refine sAnd ?_))
                refine call_own (by repeat' constructor) (Contract.av (ih t L l.length (by omega) hL (by omega)) (by first | rfl | (simp (config := { maxSteps := 2000000 }) only [go_sem, reduceCtorEq, Nat.reduceAdd, Nat.reduceEqDiff, reduceIte, Nat.reduceLeDiff, Nat.reduceLT, Nat.reduceSub]; done) | (simp (config := { maxSteps := 2000000 }) only [go_sem, reduceCtorEq, Nat.reduceAdd, Nat.reduceEqDiff, reduceIte, Nat.reduceLeDiff, Nat.reduceLT, Nat.reduceSub]; rfl))) ?_
                try simp (config := { maxSteps := 2000000 }) only [go_sem, reduceCtorEq, Nat.reduceAdd, Nat.reduceEqDiff, reduceIte, Nat.reduceLeDiff, Nat.reduceLT, Nat.reduceSub]
                all_goals (repeat (with_reducible refine sAnd ?_))
                refine call_val (by repeat' constructor) (c_ref_reader_sign (lnF f t L l.length).2 [32]) ?_
                try simp (config := { maxSteps := 2000000 }) only [go_sem, reduceCtorEq, Nat.reduceAdd, Nat.reduceEqDiff, reduceIte, Nat.reduceLeDiff, Nat.reduceLT, Nat.reduceSub]
                all_goals (repeat (with_reducible refine sAnd ?_))
                refine ⟨(k', signOk (lnF f t L l.length).2 [32], (lnF f t L l.length).1, signR (lnF f t L l.length).2 [32]), ?_, ⟨by simp only; omega, by simp only; omega, by simp only; omega, by simp only; omega, ?_⟩, ?_⟩
                · simp only; split <;> omega
                · simp only
                  cases hs : signOk (lnF f t L l.length).2 [32] with
                  | true => rw [hs] at j5; exact j5
                  | false =>
                    rw [hs] at j5
                    have : signR (lnF f t L l.length).2 [32] = (lnF f t L l.length).2 := by unfold signR; rw [hs]; rfl
                    rw [this]
                    exact j5
                · simp (config := { maxSteps := 2000000 }) only [go_sem, reduceCtorEq, Nat.reduceAdd, Nat.reduceEqDiff, reduceIte, Nat.reduceLeDiff, Nat.reduceLT, Nat.reduceSub, le_cons, le_nil, le_un, le_same]
                  all_goals (repeat' (first | exact trivial | exact le_int (by omega) | exact le_bool rfl | exact le_eq rfl | exact le_nlo | exact le_refl _ | refine And.intro ?_ ?_))
                  all_goals first | exact le_same | rfl
              · have hL : 64 < L.length := by simp at g6; omega
                rw [lnLoop_out hL] at j5
                try simp (config := { maxSteps := 2000000 }) only [go_sem, reduceCtorEq, Nat.reduceAdd, Nat.reduceEqDiff, reduceIte, Nat.reduceLeDiff, Nat.reduceLT, Nat.reduceSub]
                all_goals (repeat (with_reducible refine sAnd ?_))
                refine call_val (by repeat' constructor) (c_ref_reader_sign t [41]) ?_
                try simp (config := { maxSteps := 2000000 }) only [go_sem, reduceCtorEq, Nat.reduceAdd, Nat.reduceEqDiff, reduceIte, Nat.reduceLeDiff, Nat.reduceLT, Nat.reduceSub]
                all_goals (repeat (with_reducible refine sAnd ?_))
                rw [← j5]
                exact fin_ownio rfl rfl rfl
    · have e0 : signR (nmR s) [35] = nmR s := by unfold signR; rw [h]; rfl
      have hid : lid (nmR s) = ([], nmR s) := by unfold lid; rw [h]; rfl
      try simp (config := { maxSteps := 2000000 }) only [go_sem, reduceCtorEq, Nat.reduceAdd, Nat.reduceEqDiff, reduceIte, Nat.reduceLeDiff, Nat.reduceLT, Nat.reduceSub]
      all_goals (repeat (with_reducible refine sAnd ?_))
      rw [e0]
      refine loop_sets (fun x : Nat × List Bys × Bys => [(72, .pv (.one (bS x.2.2))), (76, .own ty_string 1 (clsV x.2.1)), (21, .un)]) (fun x : Nat × List Bys × Bys => x.1) (fun x : Nat × List Bys × Bys => x.2.2.length < x.1 ∧ x.2.1.length + x.2.2.length ≤ (nmR s).length ∧ lcl x.1 x.2.2 x.2.1 = lclR (nmR s)) (((nmR s).length + 1, [], nmR s)) ?_ ⟨Nat.lt_succ_self _, by simp, rfl⟩ ?_
      focus (simp (config := { maxSteps := 2000000 }) only [go_sem, reduceCtorEq, Nat.reduceAdd, Nat.reduceEqDiff, reduceIte, Nat.reduceLeDiff, Nat.reduceLT, Nat.reduceSub, le_cons, le_nil, le_un, le_same]; all_goals (repeat' (first | exact trivial | exact le_int (by omega) | exact le_bool rfl | exact le_eq rfl | exact le_nlo | exact le_refl _ | refine And.intro ?_ ?_)))
      rintro ⟨q, c, r⟩ ⟨h1, h2, h3⟩
      simp only at h1 h2 h3
      obtain ⟨q', rfl⟩ : ∃ q', q = q' + 1 := ⟨q - 1, by omega⟩
      rw [lcl] at h3
      try simp (config := { maxSteps := 2000000 }) only [go_sem, reduceCtorEq, Nat.reduceAdd, Nat.reduceEqDiff, reduceIte, Nat.reduceLeDiff, Nat.reduceLT, Nat.reduceSub]
      all_goals (repeat (with_reducible refine sAnd ?_))
      refine call_val (by repeat' constructor) (c_ref_reader_sign r [46]) ?_
      try simp (config := { maxSteps := 2000000 }) only [go_sem, reduceCtorEq, Nat.reduceAdd, Nat.reduceEqDiff, reduceIte, Nat.reduceLeDiff, Nat.reduceLT, Nat.reduceSub]
      all_goals (repeat (with_reducible refine sAnd ?_))
      refine cond_of (by rfl) trivial (fun g1 => ?_) (fun g1 => ?_)
      · rw [g1, if_pos rfl] at h3
        have hd := sign_drop g1
        have hnr := nmR_len (signR r [46])
        try simp (config := { maxSteps := 2000000 }) only [go_sem, reduceCtorEq, Nat.reduceAdd, Nat.reduceEqDiff, reduceIte, Nat.reduceLeDiff, Nat.reduceLT, Nat.reduceSub, clsV_len]
        all_goals (repeat (with_reducible refine sAnd ?_))
        refine call_val (by repeat' constructor) (c_ref_reader_name _) ?_
        try simp (config := { maxSteps := 2000000 }) only [go_sem, reduceCtorEq, Nat.reduceAdd, Nat.reduceEqDiff, reduceIte, Nat.reduceLeDiff, Nat.reduceLT, Nat.reduceSub, clsV_len]
        all_goals (repeat (with_reducible refine sAnd ?_))
        refine ⟨(q', c ++ [nmOf (signR r [46])], nmR (signR r [46])), by simp only; omega, ⟨by simp only; omega, by simp only [List.length_append, List.length_cons, List.length_nil]; omega, h3⟩, ?_⟩
        simp (config := { maxSteps := 2000000 }) only [go_sem, reduceCtorEq, Nat.reduceAdd, Nat.reduceEqDiff, reduceIte, Nat.reduceLeDiff, Nat.reduceLT, Nat.reduceSub, le_cons, le_nil, le_un, le_same]
        all_goals (repeat' (first | exact trivial | exact le_int (by omega) | exact le_bool rfl | exact le_eq rfl | exact le_nlo | exact le_refl _ | refine And.intro ?_ ?_))
        all_goals first | exact le_eq (by rw [clsV_app]; rfl) | exact le_same | rfl
      · rw [g1, if_neg (by simp)] at h3
        have e1 : signR r [46] = r := by unfold signR; rw [g1]; rfl
        try simp (config := { maxSteps := 2000000 }) only [go_sem, reduceCtorEq, Nat.reduceAdd, Nat.reduceEqDiff, reduceIte, Nat.reduceLeDiff, Nat.reduceLT, Nat.reduceSub]
        all_goals (repeat (with_reducible refine sAnd ?_))
        rw [e1]
        refine loop_sets (fun x : Nat × List (Bys × Bys) × Bys => [(72, .pv (.one (bS x.2.2))), (77, .own ty_api_Attr 2 (attV x.2.1)), (8, .un), (30, .un), (78, .un), (79, .un)]) (fun x : Nat × List (Bys × Bys) × Bys => x.1) (fun x : Nat × List (Bys × Bys) × Bys => x.2.2.length < x.1 ∧ x.2.1.length + x.2.2.length ≤ r.length ∧ lat x.1 x.2.2 x.2.1 = latR r) ((r.length + 1, [], r)) ?_ ⟨Nat.lt_succ_self _, by simp, rfl⟩ ?_
        focus (simp (config := { maxSteps := 2000000 }) only [go_sem, reduceCtorEq, Nat.reduceAdd, Nat.reduceEqDiff, reduceIte, Nat.reduceLeDiff, Nat.reduceLT, Nat.reduceSub, le_cons, le_nil, le_un, le_same]; all_goals (repeat' (first | exact trivial | exact le_int (by omega) | exact le_bool rfl | exact le_eq rfl | exact le_nlo | exact le_refl _ | refine And.intro ?_ ?_)))
        rintro ⟨q, a, r2⟩ ⟨k1, k2, k3⟩
        simp only at k1 k2 k3
        obtain ⟨q', rfl⟩ : ∃ q', q = q' + 1 := ⟨q - 1, by omega⟩
        rw [lat] at k3
        try simp (config := { maxSteps := 2000000 }) only [go_sem, reduceCtorEq, Nat.reduceAdd, Nat.reduceEqDiff, reduceIte, Nat.reduceLeDiff, Nat.reduceLT, Nat.reduceSub]
        all_goals (repeat (with_reducible refine sAnd ?_))
        refine call_val (by repeat' constructor) (c_ref_reader_sign r2 [91]) ?_
        try simp (config := { maxSteps := 2000000 }) only [go_sem, reduceCtorEq, Nat.reduceAdd, Nat.reduceEqDiff, reduceIte, Nat.reduceLeDiff, Nat.reduceLT, Nat.reduceSub]
        all_goals (repeat (with_reducible refine sAnd ?_))
        refine cond_of (by rfl) trivial (fun g3 => ?_) (fun g3 => ?_)
        · rw [g3, if_pos rfl] at k3
          have hd := sign_drop g3
          have hq := latQ_len r2
          have hv := signR_len (vlR (latQ r2)) [34, 93]
          have hw := vlR_len (latQ r2)
          try simp (config := { maxSteps := 2000000 }) only [go_sem, reduceCtorEq, Nat.reduceAdd, Nat.reduceEqDiff, reduceIte, Nat.reduceLeDiff, Nat.reduceLT, Nat.reduceSub, attV_len]
          all_goals (repeat (with_reducible refine sAnd ?_))
          refine call_val (by repeat' constructor) (c_ref_reader_name (signR r2 [91])) ?_
          try simp (config := { maxSteps := 2000000 }) only [go_sem, reduceCtorEq, Nat.reduceAdd, Nat.reduceEqDiff, reduceIte, Nat.reduceLeDiff, Nat.reduceLT, Nat.reduceSub]
          all_goals (repeat (with_reducible refine sAnd ?_))
          refine call_val (by repeat' constructor) (c_ref_reader_sign (nmR (signR r2 [91])) [61, 34]) ?_
          try simp (config := { maxSteps := 2000000 }) only [go_sem, reduceCtorEq, Nat.reduceAdd, Nat.reduceEqDiff, reduceIte, Nat.reduceLeDiff, Nat.reduceLT, Nat.reduceSub]
          all_goals (repeat (with_reducible refine sAnd ?_))
          refine call_val (by repeat' constructor) (c_ref_reader_value (latQ r2)) ?_
          try simp (config := { maxSteps := 2000000 }) only [go_sem, reduceCtorEq, Nat.reduceAdd, Nat.reduceEqDiff, reduceIte, Nat.reduceLeDiff, Nat.reduceLT, Nat.reduceSub]
          all_goals (repeat (with_reducible refine sAnd ?_))
          refine call_val (by repeat' constructor) (c_ref_reader_sign (vlR (latQ r2)) [34, 93]) ?_
          try simp (config := { maxSteps := 2000000 }) only [go_sem, reduceCtorEq, Nat.reduceAdd, Nat.reduceEqDiff, reduceIte, Nat.reduceLeDiff, Nat.reduceLT, Nat.reduceSub, attV_len]
          all_goals (repeat (with_reducible refine sAnd ?_))
          refine ⟨(q', a ++ [(nmOf (signR r2 [91]), vlOf (latQ r2))], signR (vlR (latQ r2)) [34, 93]), by simp only; omega, ⟨by simp only; omega, by simp only [List.length_append, List.length_cons, List.length_nil]; omega, k3⟩, ?_⟩
          simp (config := { maxSteps := 2000000 }) only [go_sem, reduceCtorEq, Nat.reduceAdd, Nat.reduceEqDiff, reduceIte, Nat.reduceLeDiff, Nat.reduceLT, Nat.reduceSub, le_cons, le_nil, le_un, le_same]
          all_goals (repeat' (first | exact trivial | exact le_int (by omega) | exact le_bool rfl | exact le_eq rfl | exact le_nlo | exact le_refl _ | refine And.intro ?_ ?_))
          all_goals first | exact le_eq (by rw [attV_app]; rfl) | exact le_same | rfl
        · rw [g3, if_neg (by simp)] at k3
          have e3 : signR r2 [91] = r2 := by unfold signR; rw [g3]; rfl
          have hnd : lnd up s = ({ up := up, tag := nmOf s, id := [], cls := c, att := a }, r2) := by
            unfold lnd
            rw [hid]
            simp only
            rw [← h3]
            simp only
            rw [← k3]
          have hr2 : r2.length ≤ s.length := by omega
          rw [node_end hnd]
          try simp (config := { maxSteps := 2000000 }) only [go_sem, reduceCtorEq, Nat.reduceAdd, Nat.reduceEqDiff, reduceIte, Nat.reduceLeDiff, Nat.reduceLT, Nat.reduceSub, ndsV_len]
          all_goals (repeat (with_reducible refine sAnd ?_))
          rw [e3]
          try simp (config := { maxSteps := 2000000 }) only [go_sem, reduceCtorEq, Nat.reduceAdd, Nat.reduceEqDiff, reduceIte, Nat.reduceLeDiff, Nat.reduceLT, Nat.reduceSub, ndsV_len]
          all_goals (repeat (with_reducible refine sAnd ?_))
          refine call_val (by repeat' constructor) (c_ref_reader_sign r2 [40]) ?_
          try simp (config := { maxSteps := 2000000 }) only [go_sem, reduceCtorEq, Nat.reduceAdd, Nat.reduceEqDiff, reduceIte, Nat.reduceLeDiff, Nat.reduceLT, Nat.reduceSub]
          all_goals (repeat (with_reducible refine sAnd ?_))
          refine cond_of (by rfl) trivial (fun g5 => ?_) (fun g5 => ?_)
          · have g5' : signOk r2 [40] = false := by simpa using g5
            have e5 : signR r2 [40] = r2 := by unfold signR; rw [g5']; rfl
            rw [g5', if_neg (by simp)]
            try simp (config := { maxSteps := 2000000 }) only [go_sem, reduceCtorEq, Nat.reduceAdd, Nat.reduceEqDiff, reduceIte, Nat.reduceLeDiff, Nat.reduceLT, Nat.reduceSub]
            all_goals (repeat (with_reducible refine sAnd ?_))
            rw [e5]
            refine fin_ownio ?_ rfl rfl
            simp only [ndsV_app]
            rfl
          · have g5' : signOk r2 [40] = true := by simpa using g5
            have hd5 := sign_drop g5'
            rw [g5', if_pos rfl]
            try simp (config := { maxSteps := 2000000 }) only [go_sem, reduceCtorEq, Nat.reduceAdd, Nat.reduceEqDiff, reduceIte, Nat.reduceLeDiff, Nat.reduceLT, Nat.reduceSub]
            all_goals (repeat (with_reducible refine sAnd ?_))
            generalize hx : ({ up := up, tag := nmOf s, id := [], cls := c, att := a } : Nd) = xx
            refine loop_sets (fun x : Nat × Bool × List Nd × Bys => [(1, .own ty_api_Node 5 (ndsV x.2.2.1)), (10, .pv (bv x.2.1)), (72, .pv (.one (bS x.2.2.2))), (62, .un)]) (fun x : Nat × Bool × List Nd × Bys => (if x.2.1 then x.1 + 1 else 0)) (fun x : Nat × Bool × List Nd × Bys => x.2.2.1.length ≤ 65 ∧ x.2.2.2.length ≤ s.length ∧ 66 ≤ x.1 + x.2.2.1.length ∧ l.length + 1 ≤ x.2.2.1.length ∧ (if x.2.1 then lnLoop (lnF f) x.1 x.2.2.2 x.2.2.1 l.length else (x.2.2.1, x.2.2.2)) = lnLoop (lnF f) 66 (signR r2 [40]) (l ++ [xx]) l.length) ((66, true, l ++ [xx], signR r2 [40])) ?_ ⟨by simp only [List.length_append, List.length_cons, List.length_nil]; omega, by simp only; omega, by simp only [List.length_append, List.length_cons, List.length_nil]; omega, by simp only [List.length_append, List.length_cons, List.length_nil]; omega, by simp only [if_true]⟩ ?_
            focus (simp (config := { maxSteps := 2000000 }) only [go_sem, reduceCtorEq, Nat.reduceAdd, Nat.reduceEqDiff, reduceIte, Nat.reduceLeDiff, Nat.reduceLT, Nat.reduceSub, le_cons, le_nil, le_un, le_same]; all_goals (repeat' (first | exact trivial | exact le_int (by omega) | exact le_bool rfl | exact le_eq rfl | exact le_nlo | exact le_refl _ | refine And.intro ?_ ?_)))
            · exact le_own (by rw [ndsV_app, ← hx]; rfl)
            rintro ⟨k, more, L, t⟩ ⟨j1, j2, j3, j4, j5⟩
            simp only at j1 j2 j3 j4 j5
            cases more with
            | false =>
              simp only [Bool.false_eq_true, if_false] at j5
              try simp (config := { maxSteps := 2000000 }) only [go_sem, reduceCtorEq, Nat.reduceAdd, Nat.reduceEqDiff, reduceIte, Nat.reduceLeDiff, Nat.reduceLT, Nat.reduceSub, ndsV_len]
              all_goals (repeat (with_reducible refine sAnd ?_))
              refine cond_of (by rfl) trivial (fun g6 => ?_) (fun g6 => ?_)
              · simp at g6
              · try simp (config := { maxSteps := 2000000 }) only [go_sem, reduceCtorEq, Nat.reduceAdd, Nat.reduceEqDiff, reduceIte, Nat.reduceLeDiff, Nat.reduceLT, Nat.reduceSub]
                all_goals (repeat (with_reducible refine sAnd ?_))
                refine call_val (by repeat' constructor) (c_ref_reader_sign t [41]) ?_
                try simp (config := { maxSteps := 2000000 }) only [go_sem, reduceCtorEq, Nat.reduceAdd, Nat.reduceEqDiff, reduceIte, Nat.reduceLeDiff, Nat.reduceLT, Nat.reduceSub]
                all_goals (repeat (with_reducible refine sAnd ?_))
                rw [← j5]
                exact fin_ownio rfl rfl rfl
            | true =>
              simp only [if_true] at j5
              try simp (config := { maxSteps := 2000000 }) only [go_sem, reduceCtorEq, Nat.reduceAdd, Nat.reduceEqDiff, reduceIte, Nat.reduceLeDiff, Nat.reduceLT, Nat.reduceSub, ndsV_len]
              all_goals (repeat (with_reducible refine sAnd ?_))
              refine cond_of (by rfl) trivial (fun g6 => ?_) (fun g6 => ?_)
              · have hL : L.length ≤ 64 := by simp at g6; omega
                obtain ⟨k', rfl⟩ : ∃ k', k = k' + 1 := ⟨k - 1, by omega⟩
                obtain ⟨m1, m2, m3⟩ := lnF_len f t L l.length hL
                have m4 := lnF_grow f t L l.length hL (by omega)
                have m5 := signR_len (lnF f t L l.length).2 [32]
                rw [lnLoop, if_neg (by omega)] at j5
                try simp (config := { maxSteps := 2000000 }) only [go_sem, reduceCtorEq, Nat.reduceAdd, Nat.reduceEqDiff, reduceIte, Nat.reduceLeDiff, Nat.reduceLT, Nat.reduceSub, ndsV_len]
                all_goals (repeat (with_reducible refine sAnd ?_))
                refine call_own (by repeat' constructor) (Contract.av (ih t L l.length (by omega) hL (by omega)) (by first | rfl | (simp (config := { maxSteps := 2000000 }) only [go_sem, reduceCtorEq, Nat.reduceAdd, Nat.reduceEqDiff, reduceIte, Nat.reduceLeDiff, Nat.reduceLT, Nat.reduceSub]; done) | (simp (config := { maxSteps := 2000000 }) only [go_sem, reduceCtorEq, Nat.reduceAdd, Nat.reduceEqDiff, reduceIte, Nat.reduceLeDiff, Nat.reduceLT, Nat.reduceSub]; rfl))) ?_
                try simp (config := { maxSteps := 2000000 }) only [go_sem, reduceCtorEq, Nat.reduceAdd, Nat.reduceEqDiff, reduceIte, Nat.reduceLeDiff, Nat.reduceLT, Nat.reduceSub]
                all_goals (repeat (with_reducible refine sAnd ?_))
                refine call_val (by repeat' constructor) (c_ref_reader_sign (lnF f t L l.length).2 [32]) ?_
                try simp (config := { maxSteps := 2000000 }) only [go_sem, reduceCtorEq, Nat.reduceAdd, Nat.reduceEqDiff, reduceIte, Nat.reduceLeDiff, Nat.reduceLT, Nat.reduceSub]
                all_goals (repeat (with_reducible refine sAnd ?_))
                refine ⟨(k', signOk (lnF f t L l.length).2 [32], (lnF f t L l.length).1, signR (lnF f t L l.length).2 [32]), ?_, ⟨by simp only; omega, by simp only; omega, by simp only; omega, by simp only; omega, ?_⟩, ?_⟩
                · simp only; split <;> omega
                · simp only
                  cases hs : signOk (lnF f t L l.length).2 [32] with
                  | true => rw [hs] at j5; exact j5
                  | false =>
                    rw [hs] at j5
                    have : signR (lnF f t L l.length).2 [32] = (lnF f t L l.length).2 := by unfold signR; rw [hs]; rfl
                    rw [this]
                    exact j5
                · simp (config := { maxSteps := 2000000 }) only [go_sem, reduceCtorEq, Nat.reduceAdd, Nat.reduceEqDiff, reduceIte, Nat.reduceLeDiff, Nat.reduceLT, Nat.reduceSub, le_cons, le_nil, le_un, le_same]
                  all_goals (repeat' (first | exact trivial | exact le_int (by omega) | exact le_bool rfl | exact le_eq rfl | exact le_nlo | exact le_refl _ | refine And.intro ?_ ?_))
                  all_goals first | exact le_same | rfl
              · have hL : 64 < L.length := by simp at g6; omega
                rw [lnLoop_out hL] at j5
                try simp (config := { maxSteps := 2000000 }) only [go_sem, reduceCtorEq, Nat.reduceAdd, Nat.reduceEqDiff, reduceIte, Nat.reduceLeDiff, Nat.reduceLT, Nat.reduceSub]
                all_goals (repeat (with_reducible refine sAnd ?_))
                refine call_val (by repeat' constructor) (c_ref_reader_sign t [41]) ?_
                try simp (config := { maxSteps := 2000000 }) only [go_sem, reduceCtorEq, Nat.reduceAdd, Nat.reduceEqDiff, reduceIte, Nat.reduceLeDiff, Nat.reduceLT, Nat.reduceSub]
                all_goals (repeat (with_reducible refine sAnd ?_))
                rw [← j5]
                exact fin_ownio rfl rfl rfl
end Go.Hx
end

section
-- DOM getO
set_option maxRecDepth 100000
set_option linter.unusedSimpArgs false
namespace Go.Hx
open Go.Proofs Go.RowKit
variable [Glob]

attribute [local go_sem] ndsV_len clsV_len attV_len intsR_len ndV cellsEq getO
def fromRes (s : Bys) : RV := match fromD s with
  | some d => { res := .tup [docV d, bv true] }
  | none => { res := .tup [docV [], bv false] }
theorem c_ref_DocFrom (s : Bys) (hs : s.length ≤ 1048576) : Contract Tryd.prog fn_ref_DocFrom [.val (sv s)] (fromRes s) := by
  by_cases hc : checkDoc (lenD s) = 0
  · have hz : ((0 : Int) != 0) = false := rfl
    by_cases ht : docText (lenD s) = s
    · have e : fromRes s = { res := .tup [docV (lenD s), bv true] } := by unfold fromRes fromD; rw [if_pos ⟨hc, ht⟩]
      rw [e]
      refine mk_ref_DocFrom (base := 0) ⟨Nat.le_of_ble_eq_true rfl, Nat.le_of_ble_eq_true rfl, Nat.le_of_ble_eq_true rfl, rfl⟩ (fun hfit => ?_)
      unfold F0 ref_DocFrom_E
      simp (config := { maxSteps := 2000000 }) only [markU, List.set_cons_succ, List.set_cons_zero, List.map_cons, List.map_nil, argCt, setCells, ioOf, List.length_cons, List.length_nil, Nat.reduceAdd, Nat.reduceSub, List.replicate, List.cons_append, List.nil_append]
      try simp (config := { maxSteps := 2000000 }) only [go_sem, reduceCtorEq, Nat.reduceAdd, Nat.reduceEqDiff, reduceIte, Nat.reduceLeDiff, Nat.reduceLT, Nat.reduceSub]
      all_goals (repeat (with_reducible refine sAnd ?_))
      refine call_own (by repeat' constructor) (Contract.av (c_ref_reader_node 66 s [] (-1) hs (by simp) (by simp)) (by first | rfl | (simp (config := { maxSteps := 2000000 }) only [go_sem, reduceCtorEq, Nat.reduceAdd, Nat.reduceEqDiff, reduceIte, Nat.reduceLeDiff, Nat.reduceLT, Nat.reduceSub]; done) | (simp (config := { maxSteps := 2000000 }) only [go_sem, reduceCtorEq, Nat.reduceAdd, Nat.reduceEqDiff, reduceIte, Nat.reduceLeDiff, Nat.reduceLT, Nat.reduceSub]; rfl))) ?_
      try simp (config := { maxSteps := 2000000 }) only [go_sem, reduceCtorEq, Nat.reduceAdd, Nat.reduceEqDiff, reduceIte, Nat.reduceLeDiff, Nat.reduceLT, Nat.reduceSub]
      all_goals (repeat (with_reducible refine sAnd ?_))
      refine call_val (by repeat' constructor) (c_ref_CheckDoc (lenD s)) ?_
      try simp (config := { maxSteps := 2000000 }) only [go_sem, reduceCtorEq, Nat.reduceAdd, Nat.reduceEqDiff, reduceIte, Nat.reduceLeDiff, Nat.reduceLT, Nat.reduceSub, hc, hz]
      all_goals (repeat (with_reducible refine sAnd ?_))
      apply call_guard (h2 := fun _ => c_ref_DocText (lenD s) hc)
      · (simp (config := { maxSteps := 2000000 }) only [go_sem, reduceCtorEq, Nat.reduceAdd, Nat.reduceEqDiff, reduceIte, Nat.reduceLeDiff, Nat.reduceLT, Nat.reduceSub]; rfl)
      · intro h; repeat' (first | exact trivial | exact h | refine And.intro ?_ ?_)
      try simp (config := { maxSteps := 2000000 }) only [go_sem, reduceCtorEq, Nat.reduceAdd, Nat.reduceEqDiff, reduceIte, Nat.reduceLeDiff, Nat.reduceLT, Nat.reduceSub, ht, hz, Bool.not_false]
      all_goals (repeat (with_reducible refine sAnd ?_))
      refine cond_of (by rfl) trivial (fun h => ?_) (fun h => ?_)
      · simp at h
      · try simp (config := { maxSteps := 2000000 }) only [go_sem, reduceCtorEq, Nat.reduceAdd, Nat.reduceEqDiff, reduceIte, Nat.reduceLeDiff, Nat.reduceLT, Nat.reduceSub]
        all_goals (repeat (with_reducible refine sAnd ?_))
        exact fin_tup (by simp) ⟨rs_cellB rfl rfl (.inl rfl), rs_tmp rfl trivial (.inl rfl), rfl⟩
    · have e : fromRes s = { res := .tup [docV [], bv false] } := by unfold fromRes fromD; rw [if_neg (fun h => ht h.2)]
      rw [e]
      refine mk_ref_DocFrom (base := 0) ⟨Nat.le_of_ble_eq_true rfl, Nat.le_of_ble_eq_true rfl, Nat.le_of_ble_eq_true rfl, rfl⟩ (fun hfit => ?_)
      unfold F0 ref_DocFrom_E
      simp (config := { maxSteps := 2000000 }) only [markU, List.set_cons_succ, List.set_cons_zero, List.map_cons, List.map_nil, argCt, setCells, ioOf, List.length_cons, List.length_nil, Nat.reduceAdd, Nat.reduceSub, List.replicate, List.cons_append, List.nil_append]
      try simp (config := { maxSteps := 2000000 }) only [go_sem, reduceCtorEq, Nat.reduceAdd, Nat.reduceEqDiff, reduceIte, Nat.reduceLeDiff, Nat.reduceLT, Nat.reduceSub]
      all_goals (repeat (with_reducible refine sAnd ?_))
      refine call_own (by repeat' constructor) (Contract.av (c_ref_reader_node 66 s [] (-1) hs (by simp) (by simp)) (by first | rfl | (simp (config := { maxSteps := 2000000 }) only [go_sem, reduceCtorEq, Nat.reduceAdd, Nat.reduceEqDiff, reduceIte, Nat.reduceLeDiff, Nat.reduceLT, Nat.reduceSub]; done) | (simp (config := { maxSteps := 2000000 }) only [go_sem, reduceCtorEq, Nat.reduceAdd, Nat.reduceEqDiff, reduceIte, Nat.reduceLeDiff, Nat.reduceLT, Nat.reduceSub]; rfl))) ?_
      try simp (config := { maxSteps := 2000000 }) only [go_sem, reduceCtorEq, Nat.reduceAdd, Nat.reduceEqDiff, reduceIte, Nat.reduceLeDiff, Nat.reduceLT, Nat.reduceSub]
      all_goals (repeat (with_reducible refine sAnd ?_))
      refine call_val (by repeat' constructor) (c_ref_CheckDoc (lenD s)) ?_
      try simp (config := { maxSteps := 2000000 }) only [go_sem, reduceCtorEq, Nat.reduceAdd, Nat.reduceEqDiff, reduceIte, Nat.reduceLeDiff, Nat.reduceLT, Nat.reduceSub, hc, hz]
      all_goals (repeat (with_reducible refine sAnd ?_))
      apply call_guard (h2 := fun _ => c_ref_DocText (lenD s) hc)
      · (simp (config := { maxSteps := 2000000 }) only [go_sem, reduceCtorEq, Nat.reduceAdd, Nat.reduceEqDiff, reduceIte, Nat.reduceLeDiff, Nat.reduceLT, Nat.reduceSub]; rfl)
      · intro h; repeat' (first | exact trivial | exact h | refine And.intro ?_ ?_)
      try simp (config := { maxSteps := 2000000 }) only [go_sem, reduceCtorEq, Nat.reduceAdd, Nat.reduceEqDiff, reduceIte, Nat.reduceLeDiff, Nat.reduceLT, Nat.reduceSub, hz, Bool.not_false]
      all_goals (repeat (with_reducible refine sAnd ?_))
      refine cond_of (by rfl) trivial (fun h => ?_) (fun h => ?_)
      · try simp (config := { maxSteps := 2000000 }) only [go_sem, reduceCtorEq, Nat.reduceAdd, Nat.reduceEqDiff, reduceIte, Nat.reduceLeDiff, Nat.reduceLT, Nat.reduceSub]
        all_goals (repeat (with_reducible refine sAnd ?_))
        exact fin_tup (by simp) ⟨rs_cellB rfl rfl (.inr rfl), rs_tmp rfl trivial (.inl rfl), rfl⟩
      · simp [ht] at h
  · have hz : (checkDoc (lenD s) != 0) = true := by simp [hc]
    have e : fromRes s = { res := .tup [docV [], bv false] } := by unfold fromRes fromD; rw [if_neg (fun h => hc h.1)]
    rw [e]
    refine mk_ref_DocFrom (base := 0) ⟨Nat.le_of_ble_eq_true rfl, Nat.le_of_ble_eq_true rfl, Nat.le_of_ble_eq_true rfl, rfl⟩ (fun hfit => ?_)
    unfold F0 ref_DocFrom_E
    simp (config := { maxSteps := 2000000 }) only [markU, List.set_cons_succ, List.set_cons_zero, List.map_cons, List.map_nil, argCt, setCells, ioOf, List.length_cons, List.length_nil, Nat.reduceAdd, Nat.reduceSub, List.replicate, List.cons_append, List.nil_append]
    try simp (config := { maxSteps := 2000000 }) only [go_sem, reduceCtorEq, Nat.reduceAdd, Nat.reduceEqDiff, reduceIte, Nat.reduceLeDiff, Nat.reduceLT, Nat.reduceSub]
    all_goals (repeat (with_reducible refine sAnd ?_))
    refine call_own (by repeat' constructor) (Contract.av (c_ref_reader_node 66 s [] (-1) hs (by simp) (by simp)) (by first | rfl | (simp (config := { maxSteps := 2000000 }) only [go_sem, reduceCtorEq, Nat.reduceAdd, Nat.reduceEqDiff, reduceIte, Nat.reduceLeDiff, Nat.reduceLT, Nat.reduceSub]; done) | (simp (config := { maxSteps := 2000000 }) only [go_sem, reduceCtorEq, Nat.reduceAdd, Nat.reduceEqDiff, reduceIte, Nat.reduceLeDiff, Nat.reduceLT, Nat.reduceSub]; rfl))) ?_
    try simp (config := { maxSteps := 2000000 }) only [go_sem, reduceCtorEq, Nat.reduceAdd, Nat.reduceEqDiff, reduceIte, Nat.reduceLeDiff, Nat.reduceLT, Nat.reduceSub]
    all_goals (repeat (with_reducible refine sAnd ?_))
    refine call_val (by repeat' constructor) (c_ref_CheckDoc (lenD s)) ?_
    try simp (config := { maxSteps := 2000000 }) only [go_sem, reduceCtorEq, Nat.reduceAdd, Nat.reduceEqDiff, reduceIte, Nat.reduceLeDiff, Nat.reduceLT, Nat.reduceSub, hz]
    all_goals (repeat (with_reducible refine sAnd ?_))
    refine call_guard (T := false) (x := sv []) (by first | rfl | (simp; done)) (fun h => by cases h) (fun h => by cases h) ?_
    try simp (config := { maxSteps := 2000000 }) only [go_sem, reduceCtorEq, Nat.reduceAdd, Nat.reduceEqDiff, reduceIte, Nat.reduceLeDiff, Nat.reduceLT, Nat.reduceSub]
    all_goals (repeat (with_reducible refine sAnd ?_))
    refine cond_of (by rfl) trivial (fun h => ?_) (fun h => ?_)
    · try simp (config := { maxSteps := 2000000 }) only [go_sem, reduceCtorEq, Nat.reduceAdd, Nat.reduceEqDiff, reduceIte, Nat.reduceLeDiff, Nat.reduceLT, Nat.reduceSub]
      all_goals (repeat (with_reducible refine sAnd ?_))
      exact fin_tup (by simp) ⟨rs_cellB rfl rfl (.inr rfl), rs_tmp rfl trivial (.inl rfl), rfl⟩
    · simp at h
end Go.Hx
end

section
-- DOM getO, ovI_len
set_option maxRecDepth 100000
set_option linter.unusedSimpArgs false
namespace Go.Hx
open Go.Proofs Go.RowKit
variable [Glob]

attribute [local go_sem] ndsV_len clsV_len attV_len intsR_len ndV cellsEq getO
/-- The stack of open elements. -/
def ovI (l : List Int) : List (List OV) := l.map fun n => [.p (bI n)]
theorem ovI_len (l : List Int) : (ovI l).length = l.length := by simp [ovI]
attribute [local go_sem] ovI_len
theorem ovI_app (a b : List Int) : ovI (a ++ b) = ovI a ++ ovI b := by simp [ovI]
theorem ovI_drop (l : List Int) (u : Int) : (ovI (l ++ [u])).take l.length = ovI l := by rw [ovI_app, ← ovI_len l, List.take_left]
theorem ovI_last (l : List Int) (u : Int) : (ovI (l ++ [u])).getD l.length [] = [.p (bI u)] := by rw [ovI_app, ← ovI_len l]; simp [ovI]
theorem readRes_tup (s : Bys) : (∃ x, (readRes s).res = .val x) ∨ ∃ xs, (readRes s).res = .tup xs := by
  unfold readRes
  split <;> exact .inr ⟨_, rfl⟩
theorem u8_eq (c : UInt8) (n : Nat) (hn : n < 256) : (((c.toNat : Nat) : Int) == (n : Int)) = (c == UInt8.ofNat n) := by
  rw [Bool.eq_iff_iff, beq_iff_eq, beq_iff_eq]
  constructor
  · intro h
    apply UInt8.toNat_inj.1
    rw [UInt8.toNat_ofNat_of_lt' hn]
    omega
  · rintro rfl
    rw [UInt8.toNat_ofNat_of_lt' hn]
set_option maxHeartbeats 8000000 in
theorem c_mark_Read (hM : MaxOk) (s : Bys) (hs : s.length ≤ 1048576) : Contract Tryd.prog fn_mark_Read [.val (sv s)] (readRes s) := by
  refine mk_mark_Read (base := 0) ⟨Nat.le_of_ble_eq_true rfl, Nat.le_of_ble_eq_true rfl, Nat.le_of_ble_eq_true rfl, rfl⟩ (readRes_tup s) read_ret (fun hfit => ?_)
  unfold F0 mark_Read_E mark_Read_h0
  simp (config := { maxSteps := 2000000 }) only [markU, List.set_cons_succ, List.set_cons_zero, List.map_cons, List.map_nil, argCt, setCells, ioOf, List.length_cons, List.length_nil, Nat.reduceAdd, Nat.reduceSub, List.replicate, List.cons_append, List.nil_append]
  try simp (config := { maxSteps := 2000000 }) only [go_sem, reduceCtorEq, Nat.reduceAdd, Nat.reduceEqDiff, reduceIte, Nat.reduceLeDiff, Nat.reduceLT, Nat.reduceSub]
  refine ⟨?_, ?_⟩
  · intro x hx
    rcases List.mem_cons.1 hx with rfl | hx
    · rfl
    · rcases List.mem_cons.1 hx with rfl | hx
      · rfl
      · cases hx
  have hN := c_pen_node hM (-1) s hs
  cases h1 : nodeRd (-1) s with
  | none =>
    have e1 : nodeRes (-1) s = { res := .pan bkV } := by unfold nodeRes; rw [h1]
    have e2 : readRes s = { res := .tup [docV [], iv 1] } := by unfold readRes readD; rw [h1]
    rw [e1] at hN
    rw [e2]
    refine call_pan (by repeat' constructor) hN ?_
    try simp (config := { maxSteps := 2000000 }) only [go_sem, reduceCtorEq, Nat.reduceAdd, Nat.reduceEqDiff, reduceIte, Nat.reduceLeDiff, Nat.reduceLT, Nat.reduceSub]
    all_goals (repeat (with_reducible refine sAnd ?_))
    intro F' hag
    exact pan_two (L := 116) (hag.1.trans rfl) (by decide) (by decide) (by decide) ((hag.2 2 (by decide)).trans rfl) ((hag.2 3 (by decide)).trans rfl) rfl read_pan
  | some xr =>
    obtain ⟨x, r⟩ := xr
    have e1 : nodeRes (-1) s = { res := .val (.agg (ndV x)), io := [bS r] } := by unfold nodeRes; rw [h1]
    rw [e1] at hN
    refine call_val (by repeat' constructor) (hN) ?_
    try simp (config := { maxSteps := 2000000 }) only [go_sem, reduceCtorEq, Nat.reduceAdd, Nat.reduceEqDiff, reduceIte, Nat.reduceLeDiff, Nat.reduceLT, Nat.reduceSub]
    all_goals (repeat (with_reducible refine sAnd ?_))
    have hr0 := nodeT0_pos h1
    have hR0 : rdF (r.length + 1) [x] [] r = readD s := by unfold readD; rw [h1]
    refine loop_sets (fun x : Nat × List Nd × List Int × Bys => [(5, .ov (.one (.os none ty_int 1 (ovI x.2.2.1)))), (113, .own ty_api_Node 5 (ndsV x.2.1)), (115, .pv (.one (bS x.2.2.2))), (6, .un), (22, .un), (28, .un), (33, .un), (50, .un), (56, .un), (64, .un), (99, .un)]) (fun x : Nat × List Nd × List Int × Bys => x.1) (fun x : Nat × List Nd × List Int × Bys => x.2.2.2.length < x.1 ∧ x.2.2.2.length ≤ s.length ∧ 1 ≤ x.2.1.length ∧ x.2.1.length ≤ 65 ∧ x.2.2.1.length ≤ x.2.1.length ∧ rdF x.1 x.2.1 x.2.2.1 x.2.2.2 = readD s) ((r.length + 1, [x], [], r)) ?_ ⟨Nat.lt_succ_self _, hr0, Nat.le_refl _, by simp, by simp, hR0⟩ ?_
    focus (simp (config := { maxSteps := 2000000 }) only [go_sem, reduceCtorEq, Nat.reduceAdd, Nat.reduceEqDiff, reduceIte, Nat.reduceLeDiff, Nat.reduceLT, Nat.reduceSub, le_cons, le_nil, le_un, le_same]; all_goals (repeat' (first | exact trivial | exact le_int (by omega) | exact le_bool rfl | exact le_eq rfl | exact le_nlo | exact le_refl _ | refine And.intro ?_ ?_)))
    rintro ⟨f, d, op, t⟩ ⟨k1, k2, k3, k4, k5, hR⟩
    simp only at k1 k2 k3 k4 k5 hR
    obtain ⟨f', rfl⟩ : ∃ f', f = f' + 1 := ⟨f - 1, by omega⟩
    rw [rdF] at hR
    try simp (config := { maxSteps := 2000000 }) only [go_sem, reduceCtorEq, Nat.reduceAdd, Nat.reduceEqDiff, reduceIte, Nat.reduceLeDiff, Nat.reduceLT, Nat.reduceSub, ndsV_len]
    all_goals (repeat (with_reducible refine sAnd ?_))
    refine cond_of (by rfl) trivial (fun h => ?_) (fun h => ?_)
    · have ht : ¬ t = [] := by simpa using h
      rw [if_neg ht] at hR
      try simp (config := { maxSteps := 2000000 }) only [go_sem, reduceCtorEq, Nat.reduceAdd, Nat.reduceEqDiff, reduceIte, Nat.reduceLeDiff, Nat.reduceLT, Nat.reduceSub, ndsV_len]
      all_goals (repeat (with_reducible refine sAnd ?_))
      refine cond_of (by rfl) trivial (fun h64 => ?_) (fun h64 => ?_)
      · have : 64 < d.length := by simp at h64; omega
        rw [if_pos this] at hR
        have e2 : readRes s = { res := .tup [docV [], iv 1] } := by unfold readRes; rw [← hR]
        rw [e2]
        try simp (config := { maxSteps := 2000000 }) only [go_sem, reduceCtorEq, Nat.reduceAdd, Nat.reduceEqDiff, reduceIte, Nat.reduceLeDiff, Nat.reduceLT, Nat.reduceSub]
        all_goals (repeat (with_reducible refine sAnd ?_))
        exact pan_two (L := 116) rfl (by decide) (by decide) (by decide) rfl rfl rfl read_pan
      · have : ¬ 64 < d.length := by simp at h64; omega
        rw [if_neg this] at hR
        try simp (config := { maxSteps := 2000000 }) only [go_sem, reduceCtorEq, Nat.reduceAdd, Nat.reduceEqDiff, reduceIte, Nat.reduceLeDiff, Nat.reduceLT, Nat.reduceSub]
        all_goals (repeat (with_reducible refine sAnd ?_))
        refine call_val (by repeat' constructor) (c_pen_has t [40]) ?_
        try simp (config := { maxSteps := 2000000 }) only [go_sem, reduceCtorEq, Nat.reduceAdd, Nat.reduceEqDiff, reduceIte, Nat.reduceLeDiff, Nat.reduceLT, Nat.reduceSub]
        all_goals (repeat (with_reducible refine sAnd ?_))
        refine cond_of (by rfl) trivial (fun g1 => ?_) (fun g1 => ?_)
        · rw [g1, if_pos rfl] at hR
          have hd1 := sign_drop g1
          have hN := c_pen_node hM ((d.length : Int) - 1) (signR t [40]) (by omega)
          cases h2 : nodeRd ((d.length : Int) - 1) (signR t [40]) with
          | none =>
            rw [h2] at hR
            have e3 : nodeRes ((d.length : Int) - 1) (signR t [40]) = { res := .pan bkV } := by unfold nodeRes; rw [h2]
            rw [e3] at hN
            have e2 : readRes s = { res := .tup [docV [], iv 1] } := by unfold readRes; rw [← hR]
            rw [e2]
            try simp (config := { maxSteps := 2000000 }) only [go_sem, reduceCtorEq, Nat.reduceAdd, Nat.reduceEqDiff, reduceIte, Nat.reduceLeDiff, Nat.reduceLT, Nat.reduceSub, ndsV_len]
            all_goals (repeat (with_reducible refine sAnd ?_))

            refine call_pan (by repeat' constructor) hN ?_
            try simp (config := { maxSteps := 2000000 }) only [go_sem, reduceCtorEq, Nat.reduceAdd, Nat.reduceEqDiff, reduceIte, Nat.reduceLeDiff, Nat.reduceLT, Nat.reduceSub]
            all_goals (repeat (with_reducible refine sAnd ?_))
            intro F' hag
            exact pan_two (L := 116) (hag.1.trans rfl) (by decide) (by decide) (by decide) ((hag.2 2 (by decide)).trans rfl) ((hag.2 3 (by decide)).trans rfl) rfl read_pan
          | some yu =>
            obtain ⟨y, u⟩ := yu
            rw [h2] at hR
            have e3 : nodeRes ((d.length : Int) - 1) (signR t [40]) = { res := .val (.agg (ndV y)), io := [bS u] } := by unfold nodeRes; rw [h2]
            rw [e3] at hN
            have hu := nodeT0_pos h2
            have hne : (((d.length + 1 : Nat) : Int) == (d.length : Int)) = false := by rw [beq_eq_false_iff_ne]; omega
            try simp (config := { maxSteps := 2000000 }) only [go_sem, reduceCtorEq, Nat.reduceAdd, Nat.reduceEqDiff, reduceIte, Nat.reduceLeDiff, Nat.reduceLT, Nat.reduceSub, ndsV_len]
            all_goals (repeat (with_reducible refine sAnd ?_))

            refine call_val (by repeat' constructor) (hN) ?_
            try simp (config := { maxSteps := 2000000 }) only [go_sem, reduceCtorEq, Nat.reduceAdd, Nat.reduceEqDiff, reduceIte, Nat.reduceLeDiff, Nat.reduceLT, Nat.reduceSub, ndsV_len, List.length_append, List.length_cons, List.length_nil, Nat.zero_add, hne]
            all_goals (repeat (with_reducible refine sAnd ?_))
            refine cond_of (by rfl) trivial (fun g9 => ?_) (fun g9 => ?_)
            · simp at g9
            · try simp (config := { maxSteps := 2000000 }) only [go_sem, reduceCtorEq, Nat.reduceAdd, Nat.reduceEqDiff, reduceIte, Nat.reduceLeDiff, Nat.reduceLT, Nat.reduceSub]
              all_goals (repeat (with_reducible refine sAnd ?_))
              refine ⟨(f', d ++ [y], op ++ [(d.length : Int) - 1], u), by simp only; omega, ⟨by simp only; omega, by simp only; omega, by simp only [List.length_append, List.length_cons, List.length_nil]; omega, by simp only [List.length_append, List.length_cons, List.length_nil]; omega, by simp only [List.length_append, List.length_cons, List.length_nil]; omega, hR⟩, ?_⟩
              simp (config := { maxSteps := 2000000 }) only [go_sem, reduceCtorEq, Nat.reduceAdd, Nat.reduceEqDiff, reduceIte, Nat.reduceLeDiff, Nat.reduceLT, Nat.reduceSub, le_cons, le_nil, le_un, le_same]
              all_goals (repeat' (first | exact trivial | exact le_int (by omega) | exact le_bool rfl | exact le_eq rfl | exact le_nlo | exact le_refl _ | refine And.intro ?_ ?_))
              all_goals first | exact le_same | exact le_eq (by simp only [ndsV_app, ovI_app]; rfl) | rfl
        · rw [g1, if_neg (by simp)] at hR
          have e40 : signR t [40] = t := by unfold signR; rw [g1]; rfl
          try simp (config := { maxSteps := 2000000 }) only [go_sem, reduceCtorEq, Nat.reduceAdd, Nat.reduceEqDiff, reduceIte, Nat.reduceLeDiff, Nat.reduceLT, Nat.reduceSub]
          all_goals (repeat (with_reducible refine sAnd ?_))
          rw [e40]
          try simp (config := { maxSteps := 2000000 }) only [go_sem, reduceCtorEq, Nat.reduceAdd, Nat.reduceEqDiff, reduceIte, Nat.reduceLeDiff, Nat.reduceLT, Nat.reduceSub, ovI_len]
          all_goals (repeat (with_reducible refine sAnd ?_))
          refine cond_of (by rfl) trivial (fun g2 => ?_) (fun g2 => ?_)
          · have hop : op = [] := by
              have : ((op.length : Int)) = 0 := by simpa using g2
              exact List.eq_nil_of_length_eq_zero (by omega)
            rw [if_pos hop] at hR
            have e2 : readRes s = { res := .tup [docV [], iv 1] } := by unfold readRes; rw [← hR]
            rw [e2]
            try simp (config := { maxSteps := 2000000 }) only [go_sem, reduceCtorEq, Nat.reduceAdd, Nat.reduceEqDiff, reduceIte, Nat.reduceLeDiff, Nat.reduceLT, Nat.reduceSub]
            all_goals (repeat (with_reducible refine sAnd ?_))
            exact pan_two (L := 116) rfl (by decide) (by decide) (by decide) rfl rfl rfl read_pan
          · have hop : ¬ op = [] := by
              rintro rfl
              simp at g2
            rw [if_neg hop] at hR
            obtain ⟨op', v, rfl⟩ : ∃ op' v, op = op' ++ [v] := ⟨op.dropLast, op.getLast hop, (List.dropLast_concat_getLast hop).symm⟩
            have hgl : (op' ++ [v]).getLastD 0 = v := by simp
            rw [List.dropLast_concat, hgl] at hR
            have k6 : op'.length + 1 ≤ 65 := by simp only [List.length_append, List.length_cons, List.length_nil] at k5; omega
            have hs40 : signOk t [40] = false := g1
            try simp (config := { maxSteps := 2000000 }) only [go_sem, reduceCtorEq, Nat.reduceAdd, Nat.reduceEqDiff, reduceIte, Nat.reduceLeDiff, Nat.reduceLT, Nat.reduceSub]
            all_goals (repeat (with_reducible refine sAnd ?_))
            refine call_val (by repeat' constructor) (c_pen_has t [41]) ?_
            try simp (config := { maxSteps := 2000000 }) only [go_sem, reduceCtorEq, Nat.reduceAdd, Nat.reduceEqDiff, reduceIte, Nat.reduceLeDiff, Nat.reduceLT, Nat.reduceSub]
            all_goals (repeat (with_reducible refine sAnd ?_))
            refine cond_of (by rfl) trivial (fun g3 => ?_) (fun g3 => ?_)
            · rw [g3, if_pos rfl] at hR
              have hd1 := sign_drop g3
              have hpop : (ovI (op' ++ [v])).take op'.length = ovI op' := ovI_drop op' v
              have hdd : ((d.length : Int) == (d.length : Int)) = true := by simp
              cases hq : signR t [41] with
              | nil =>
                rw [hq] at hR hd1
                rw [show signOk [] [40] = false from rfl, if_neg (by simp)] at hR
                have q1 : (([] : Bys) == []) = true := rfl
                try simp (config := { maxSteps := 2000000 }) only [go_sem, reduceCtorEq, Nat.reduceAdd, Nat.reduceEqDiff, reduceIte, Nat.reduceLeDiff, Nat.reduceLT, Nat.reduceSub, ndsV_len, List.length_append, List.length_cons, List.length_nil, Nat.zero_add, toNat_s, ovI_len, hdd, q1, Bool.not_true, Bool.not_false]
                all_goals (repeat (with_reducible refine sAnd ?_))
                refine cond_of (by rfl) trivial (fun g9 => ?_) (fun g9 => ?_)
                · simp at g9
                · try simp (config := { maxSteps := 2000000 }) only [go_sem, reduceCtorEq, Nat.reduceAdd, Nat.reduceEqDiff, reduceIte, Nat.reduceLeDiff, Nat.reduceLT, Nat.reduceSub]
                  all_goals (repeat (with_reducible refine sAnd ?_))
                  refine ⟨(f', d, op', []), by simp only; omega, ⟨by simp only; omega, by simp only; omega, k3, k4, by simp only [List.length_append, List.length_cons, List.length_nil] at k5 ⊢; omega, hR⟩, ?_⟩
                  simp (config := { maxSteps := 2000000 }) only [go_sem, reduceCtorEq, Nat.reduceAdd, Nat.reduceEqDiff, reduceIte, Nat.reduceLeDiff, Nat.reduceLT, Nat.reduceSub, le_cons, le_nil, le_un, le_same]
                  all_goals (repeat' (first | exact trivial | exact le_int (by omega) | exact le_bool rfl | exact le_eq rfl | exact le_nlo | exact le_refl _ | refine And.intro ?_ ?_))
                  all_goals first | exact le_same | exact le_eq (by rw [hpop]) | exact le_eq (by rw [hq]) | rfl
              | cons c l =>
                rw [hq] at hR hd1
                have q1 : ((c :: l : Bys) == []) = false := rfl
                rw [sgn_cons] at hR
                have q2 := u8_eq c 40 (by decide)
                try simp (config := { maxSteps := 2000000 }) only [go_sem, reduceCtorEq, Nat.reduceAdd, Nat.reduceEqDiff, reduceIte, Nat.reduceLeDiff, Nat.reduceLT, Nat.reduceSub, ndsV_len, List.length_append, List.length_cons, List.length_nil, Nat.zero_add, toNat_s, ovI_len, hdd, q1, Bool.not_true, Bool.not_false, List.getD_cons_zero]
                all_goals (repeat (with_reducible refine sAnd ?_))
                refine cond_of (by rfl) trivial (fun g9 => ?_) (fun g9 => ?_)
                · have hc : (c == 40) = true := by rw [← g9]; exact q2.symm
                  rw [if_pos hc] at hR
                  have e2 : readRes s = { res := .tup [docV [], iv 1] } := by unfold readRes; rw [← hR]
                  rw [e2]
                  try simp (config := { maxSteps := 2000000 }) only [go_sem, reduceCtorEq, Nat.reduceAdd, Nat.reduceEqDiff, reduceIte, Nat.reduceLeDiff, Nat.reduceLT, Nat.reduceSub]
                  all_goals (repeat (with_reducible refine sAnd ?_))
                  exact pan_two (L := 116) rfl (by decide) (by decide) (by decide) rfl rfl rfl read_pan
                · have hc : (c == 40) = false := by rw [← g9]; exact q2.symm
                  rw [if_neg (by rw [hc]; simp)] at hR
                  try simp (config := { maxSteps := 2000000 }) only [go_sem, reduceCtorEq, Nat.reduceAdd, Nat.reduceEqDiff, reduceIte, Nat.reduceLeDiff, Nat.reduceLT, Nat.reduceSub]
                  all_goals (repeat (with_reducible refine sAnd ?_))
                  refine ⟨(f', d, op', c :: l), by simp only; omega, ⟨by simp only; omega, by simp only; omega, k3, k4, by simp only [List.length_append, List.length_cons, List.length_nil] at k5 ⊢; omega, hR⟩, ?_⟩
                  simp (config := { maxSteps := 2000000 }) only [go_sem, reduceCtorEq, Nat.reduceAdd, Nat.reduceEqDiff, reduceIte, Nat.reduceLeDiff, Nat.reduceLT, Nat.reduceSub, le_cons, le_nil, le_un, le_same]
                  all_goals (repeat' (first | exact trivial | exact le_int (by omega) | exact le_bool rfl | exact le_eq rfl | exact le_nlo | exact le_refl _ | refine And.intro ?_ ?_))
                  all_goals first | exact le_same | exact le_eq (by rw [hpop]) | exact le_eq (by rw [hq]) | rfl
            · rw [g3, if_neg (by simp)] at hR
              have e41 : signR t [41] = t := by unfold signR; rw [g3]; rfl
              try simp (config := { maxSteps := 2000000 }) only [go_sem, reduceCtorEq, Nat.reduceAdd, Nat.reduceEqDiff, reduceIte, Nat.reduceLeDiff, Nat.reduceLT, Nat.reduceSub]
              all_goals (repeat (with_reducible refine sAnd ?_))
              rw [e41]
              refine call_val (by repeat' constructor) (c_pen_has t [32]) ?_
              try simp (config := { maxSteps := 2000000 }) only [go_sem, reduceCtorEq, Nat.reduceAdd, Nat.reduceEqDiff, reduceIte, Nat.reduceLeDiff, Nat.reduceLT, Nat.reduceSub]
              all_goals (repeat (with_reducible refine sAnd ?_))
              refine cond_of (by rfl) trivial (fun g4 => ?_) (fun g4 => ?_)
              · rw [g4, if_pos rfl] at hR
                have hd1 := sign_drop g4
                have hN := c_pen_node hM (v) (signR t [32]) (by omega)
                cases h2 : nodeRd (v) (signR t [32]) with
                | none =>
                  rw [h2] at hR
                  have e3 : nodeRes (v) (signR t [32]) = { res := .pan bkV } := by unfold nodeRes; rw [h2]
                  rw [e3] at hN
                  have e2 : readRes s = { res := .tup [docV [], iv 1] } := by unfold readRes; rw [← hR]
                  rw [e2]
                  try simp (config := { maxSteps := 2000000 }) only [go_sem, reduceCtorEq, Nat.reduceAdd, Nat.reduceEqDiff, reduceIte, Nat.reduceLeDiff, Nat.reduceLT, Nat.reduceSub, ndsV_len, List.length_append, List.length_cons, List.length_nil, Nat.zero_add, toNat_s, ovI_len, ovI_last, List.drop_zero, List.take_succ_cons, List.take_zero, List.headD_cons, plainL, frzL_p, Nat.sub_zero, List.map_nil, List.map_cons, atV, OVal.cells, layR, get_nil, p_nil, upd_nil]
                  all_goals (repeat (with_reducible refine sAnd ?_))
                  intro b
                  try simp (config := { maxSteps := 2000000 }) only [go_sem, reduceCtorEq, Nat.reduceAdd, Nat.reduceEqDiff, reduceIte, Nat.reduceLeDiff, Nat.reduceLT, Nat.reduceSub, ↓ o_vlp, List.length_append, List.length_cons, List.length_nil, Nat.zero_add, toNat_s, ovI_len, ovI_last, List.drop_zero, List.take_succ_cons, List.take_zero, List.headD_cons, plainL, frzL_p, Nat.sub_zero, List.map_nil, List.map_cons, atV, OVal.cells, layR, get_nil, p_nil, upd_nil]
                  all_goals (repeat (with_reducible refine sAnd ?_))
                  refine call_pan (by repeat' constructor) hN ?_
                  try simp (config := { maxSteps := 2000000 }) only [go_sem, reduceCtorEq, Nat.reduceAdd, Nat.reduceEqDiff, reduceIte, Nat.reduceLeDiff, Nat.reduceLT, Nat.reduceSub]
                  all_goals (repeat (with_reducible refine sAnd ?_))
                  intro F' hag
                  exact pan_two (L := 116) (hag.1.trans rfl) (by decide) (by decide) (by decide) ((hag.2 2 (by decide)).trans rfl) ((hag.2 3 (by decide)).trans rfl) rfl read_pan
                | some yu =>
                  obtain ⟨y, u⟩ := yu
                  rw [h2] at hR
                  have e3 : nodeRes (v) (signR t [32]) = { res := .val (.agg (ndV y)), io := [bS u] } := by unfold nodeRes; rw [h2]
                  rw [e3] at hN
                  have hu := nodeT0_pos h2
                  have hne : (((d.length + 1 : Nat) : Int) == (d.length : Int)) = false := by rw [beq_eq_false_iff_ne]; omega
                  try simp (config := { maxSteps := 2000000 }) only [go_sem, reduceCtorEq, Nat.reduceAdd, Nat.reduceEqDiff, reduceIte, Nat.reduceLeDiff, Nat.reduceLT, Nat.reduceSub, ndsV_len, List.length_append, List.length_cons, List.length_nil, Nat.zero_add, toNat_s, ovI_len, ovI_last, List.drop_zero, List.take_succ_cons, List.take_zero, List.headD_cons, plainL, frzL_p, Nat.sub_zero, List.map_nil, List.map_cons, atV, OVal.cells, layR, get_nil, p_nil, upd_nil]
                  all_goals (repeat (with_reducible refine sAnd ?_))
                  intro b
                  try simp (config := { maxSteps := 2000000 }) only [go_sem, reduceCtorEq, Nat.reduceAdd, Nat.reduceEqDiff, reduceIte, Nat.reduceLeDiff, Nat.reduceLT, Nat.reduceSub, ↓ o_vlp, List.length_append, List.length_cons, List.length_nil, Nat.zero_add, toNat_s, ovI_len, ovI_last, List.drop_zero, List.take_succ_cons, List.take_zero, List.headD_cons, plainL, frzL_p, Nat.sub_zero, List.map_nil, List.map_cons, atV, OVal.cells, layR, get_nil, p_nil, upd_nil]
                  all_goals (repeat (with_reducible refine sAnd ?_))
                  refine call_val (by repeat' constructor) (hN) ?_
                  try simp (config := { maxSteps := 2000000 }) only [go_sem, reduceCtorEq, Nat.reduceAdd, Nat.reduceEqDiff, reduceIte, Nat.reduceLeDiff, Nat.reduceLT, Nat.reduceSub, ndsV_len, List.length_append, List.length_cons, List.length_nil, Nat.zero_add, hne]
                  all_goals (repeat (with_reducible refine sAnd ?_))
                  refine cond_of (by rfl) trivial (fun g9 => ?_) (fun g9 => ?_)
                  · simp at g9
                  · try simp (config := { maxSteps := 2000000 }) only [go_sem, reduceCtorEq, Nat.reduceAdd, Nat.reduceEqDiff, reduceIte, Nat.reduceLeDiff, Nat.reduceLT, Nat.reduceSub]
                    all_goals (repeat (with_reducible refine sAnd ?_))
                    refine ⟨(f', d ++ [y], op' ++ [v], u), by simp only; omega, ⟨by simp only; omega, by simp only; omega, by simp only [List.length_append, List.length_cons, List.length_nil]; omega, by simp only [List.length_append, List.length_cons, List.length_nil]; omega, by simp only [List.length_append, List.length_cons, List.length_nil] at k5 ⊢; omega, hR⟩, ?_⟩
                    simp (config := { maxSteps := 2000000 }) only [go_sem, reduceCtorEq, Nat.reduceAdd, Nat.reduceEqDiff, reduceIte, Nat.reduceLeDiff, Nat.reduceLT, Nat.reduceSub, le_cons, le_nil, le_un, le_same]
                    all_goals (repeat' (first | exact trivial | exact le_int (by omega) | exact le_bool rfl | exact le_eq rfl | exact le_nlo | exact le_refl _ | refine And.intro ?_ ?_))
                    all_goals first | exact le_same | exact le_eq (by simp only [ndsV_app, ovI_app]; rfl) | rfl
              · rw [g4, if_neg (by simp)] at hR
                have e2 : readRes s = { res := .tup [docV [], iv 1] } := by unfold readRes; rw [← hR]
                rw [e2]
                try simp (config := { maxSteps := 2000000 }) only [go_sem, reduceCtorEq, Nat.reduceAdd, Nat.reduceEqDiff, reduceIte, Nat.reduceLeDiff, Nat.reduceLT, Nat.reduceSub]
                all_goals (repeat (with_reducible refine sAnd ?_))
                exact pan_two (L := 116) rfl (by decide) (by decide) (by decide) rfl rfl rfl read_pan
    · have ht : t = [] := by simpa using h
      rw [if_pos ht] at hR
      cases op with
      | cons v op' =>
        rw [if_neg (by simp)] at hR
        have e2 : readRes s = { res := .tup [docV [], iv 1] } := by unfold readRes; rw [← hR]
        rw [e2]
        have hz : decide ((0 : Int) < ((op'.length + 1 : Nat) : Int)) = true := by rw [decide_eq_true_eq]; omega
        try simp (config := { maxSteps := 2000000 }) only [go_sem, reduceCtorEq, Nat.reduceAdd, Nat.reduceEqDiff, reduceIte, Nat.reduceLeDiff, Nat.reduceLT, Nat.reduceSub, ndsV_len, ovI_len, List.length_cons, hz]
        all_goals (repeat (with_reducible refine sAnd ?_))
        refine call_guard (T := false) (x := iv 0) (by first | rfl | (simp; done)) (fun h => by cases h) (fun h => by cases h) ?_
        try simp (config := { maxSteps := 2000000 }) only [go_sem, reduceCtorEq, Nat.reduceAdd, Nat.reduceEqDiff, reduceIte, Nat.reduceLeDiff, Nat.reduceLT, Nat.reduceSub]
        all_goals (repeat (with_reducible refine sAnd ?_))
        refine cond_of (by rfl) trivial (fun g9 => ?_) (fun g9 => ?_)
        · try simp (config := { maxSteps := 2000000 }) only [go_sem, reduceCtorEq, Nat.reduceAdd, Nat.reduceEqDiff, reduceIte, Nat.reduceLeDiff, Nat.reduceLT, Nat.reduceSub]
          all_goals (repeat (with_reducible refine sAnd ?_))
          exact pan_two (L := 116) rfl (by decide) (by decide) (by decide) rfl rfl rfl read_pan
        · simp at g9
      | nil =>
        have hz : decide ((0 : Int) < ((0 : Nat) : Int)) = false := rfl
        try simp (config := { maxSteps := 2000000 }) only [go_sem, reduceCtorEq, Nat.reduceAdd, Nat.reduceEqDiff, reduceIte, Nat.reduceLeDiff, Nat.reduceLT, Nat.reduceSub, ndsV_len, ovI_len, List.length_nil, hz]
        all_goals (repeat (with_reducible refine sAnd ?_))
        by_cases hc : checkDoc d = 0
        · rw [if_pos ⟨rfl, hc⟩] at hR
          have e2 : readRes s = { res := .tup [docV d, iv 0] } := by unfold readRes; rw [← hR]
          rw [e2]
          apply call_guard (h2 := fun _ => c_doc_Check d)
          · (simp (config := { maxSteps := 2000000 }) only [go_sem, reduceCtorEq, Nat.reduceAdd, Nat.reduceEqDiff, reduceIte, Nat.reduceLeDiff, Nat.reduceLT, Nat.reduceSub]; rfl)
          · intro h; repeat' (first | exact trivial | exact h | refine And.intro ?_ ?_)
          try simp (config := { maxSteps := 2000000 }) only [go_sem, reduceCtorEq, Nat.reduceAdd, Nat.reduceEqDiff, reduceIte, Nat.reduceLeDiff, Nat.reduceLT, Nat.reduceSub, hc]
          all_goals (repeat (with_reducible refine sAnd ?_))
          refine cond_of (by rfl) trivial (fun g9 => ?_) (fun g9 => ?_)
          · simp [hc] at g9
          · try simp (config := { maxSteps := 2000000 }) only [go_sem, reduceCtorEq, Nat.reduceAdd, Nat.reduceEqDiff, reduceIte, Nat.reduceLeDiff, Nat.reduceLT, Nat.reduceSub]
            all_goals (repeat (with_reducible refine sAnd ?_))
            exact ⟨⟨rs_cellB rfl rfl (.inl rfl), rs_cellB rfl rfl (.inl rfl), rfl⟩, fun cs h => by cases h⟩
        · rw [if_neg (fun h => hc h.2)] at hR
          have e2 : readRes s = { res := .tup [docV [], iv 1] } := by unfold readRes; rw [← hR]
          rw [e2]
          apply call_guard (h2 := fun _ => c_doc_Check d)
          · (simp (config := { maxSteps := 2000000 }) only [go_sem, reduceCtorEq, Nat.reduceAdd, Nat.reduceEqDiff, reduceIte, Nat.reduceLeDiff, Nat.reduceLT, Nat.reduceSub]; rfl)
          · intro h; repeat' (first | exact trivial | exact h | refine And.intro ?_ ?_)
          try simp (config := { maxSteps := 2000000 }) only [go_sem, reduceCtorEq, Nat.reduceAdd, Nat.reduceEqDiff, reduceIte, Nat.reduceLeDiff, Nat.reduceLT, Nat.reduceSub]
          all_goals (repeat (with_reducible refine sAnd ?_))
          refine cond_of (by rfl) trivial (fun g9 => ?_) (fun g9 => ?_)
          · try simp (config := { maxSteps := 2000000 }) only [go_sem, reduceCtorEq, Nat.reduceAdd, Nat.reduceEqDiff, reduceIte, Nat.reduceLeDiff, Nat.reduceLT, Nat.reduceSub]
            all_goals (repeat (with_reducible refine sAnd ?_))
            exact pan_two (L := 116) rfl (by decide) (by decide) (by decide) rfl rfl rfl read_pan
          · simp [hc] at g9
end Go.Hx
end
