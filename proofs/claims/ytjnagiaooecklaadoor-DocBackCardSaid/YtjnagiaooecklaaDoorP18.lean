/-
  Walks of functions of the program: each contract says what the function computes, for every input that its conditions let by. No other condition.
-/
import Derived.Test.YtjnagiaooecklaaDoorP15
import Derived.Test.YtjnagiaooecklaaDoorL4
import Derived.Test.YtjnagiaooecklaaDoorC6
set_option linter.all false
-- DOM docV
set_option maxRecDepth 100000
set_option linter.unusedSimpArgs false
set_option maxHeartbeats 2000000
namespace Go.Hx
open Go.Proofs

theorem c_law_DocBack (d : List Nd) (up at' : Int) (e : List Nd) (k : Int) : Contract Tryd.prog fn_law_DocBack [.val (docV d), .val (iv up), .val (iv at'), .val (docV e), .val (iv k)] { res := .val (bv true) } := by
  refine mk_law_DocBack (base := 0) ⟨Nat.le_of_ble_eq_true rfl, Nat.le_of_ble_eq_true rfl, Nat.le_of_ble_eq_true rfl, rfl⟩ (fun hfit => ?_)
  unfold F0 law_DocBack_E
  simp (config := { maxSteps := 2000000 }) only [markU, List.set_cons_succ, List.set_cons_zero, List.map_cons, List.map_nil, argCt, setCells, ioOf, List.length_cons, List.length_nil, Nat.reduceAdd, Nat.reduceSub, List.replicate, List.cons_append, List.nil_append]
  try simp (config := { maxSteps := 2000000 }) only [go_sem, reduceCtorEq, Nat.reduceAdd, Nat.reduceEqDiff, reduceIte, Nat.reduceLeDiff, Nat.reduceLT, Nat.reduceSub, docV, ndsV_len, clsV_len, attV_len, intsR_len, ndV, cellsEq]
  all_goals (repeat (with_reducible refine And.intro (by (first | omega | exact inR_small (by omega) (by omega) | exact fun _ => inR_small (by omega) (by omega) | assumption | trivial | (intros; omega) | (simp_all; done) | (intros; simp [*]; done) | (simp_all; omega) | grind)) ?_))
  refine call_tup (by repeat' constructor) (c_doc_Insert d up at' e) ?_
  try simp (config := { maxSteps := 2000000 }) only [go_sem, reduceCtorEq, Nat.reduceAdd, Nat.reduceEqDiff, reduceIte, Nat.reduceLeDiff, Nat.reduceLT, Nat.reduceSub, docV, ndsV_len, clsV_len, attV_len, intsR_len, ndV, cellsEq]
  all_goals (repeat (with_reducible refine And.intro (by (first | omega | exact inR_small (by omega) (by omega) | exact fun _ => inR_small (by omega) (by omega) | assumption | trivial | (intros; omega) | (simp_all; done) | (intros; simp [*]; done) | (simp_all; omega) | grind)) ?_))
  refine cond_of (by rfl) trivial (fun hi => ?_) (fun hi => ?_)
  · have hi2 : insE d up at' e = 0 := by simpa using hi
    obtain ⟨n, f1, f2, f3, f4, f5, f6, f7, f8, f9⟩ := back_ins hi2
    rw [hi2, if_pos rfl]
    obtain ⟨x, hx⟩ : ∃ x, x = docInsert d up at' e := ⟨_, rfl⟩
    rw [← hx] at f1 f2 f4 f5 f6 f8 f9 ⊢
    obtain ⟨a, rfl⟩ : ∃ a : Nat, at' = a := ⟨at'.toNat, by omega⟩
    rw [Int.toNat_natCast] at f4 f5
    obtain ⟨_, f10, f11⟩ := thereE_ok f6
    obtain ⟨f12, f13, f14⟩ := checkDoc_ok f2
    have f15 : remE x n = 0 := by rw [remE, if_pos f6, if_neg (by omega)]
    obtain ⟨_, hup1, hup2⟩ := thereE_ok f1
    have hkl := (docPlaces_mem (d := x) (n := up.toNat) (by omega)).1
    try simp (config := { maxSteps := 2000000 }) only [go_sem, reduceCtorEq, Nat.reduceAdd, Nat.reduceEqDiff, reduceIte, Nat.reduceLeDiff, Nat.reduceLT, Nat.reduceSub, docV, ndsV_len, clsV_len, attV_len, intsR_len, ndV, cellsEq]
    all_goals (repeat (with_reducible refine And.intro (by (first | omega | exact inR_small (by omega) (by omega) | exact fun _ => inR_small (by omega) (by omega) | assumption | trivial | (intros; omega) | (simp_all; done) | (intros; simp [*]; done) | (simp_all; omega) | grind)) ?_))
    refine call_tup (by repeat' constructor) (Contract.av (c_doc_Kids x up) (by first | rfl | (simp (config := { maxSteps := 2000000 }) only [go_sem, reduceCtorEq, Nat.reduceAdd, Nat.reduceEqDiff, reduceIte, Nat.reduceLeDiff, Nat.reduceLT, Nat.reduceSub, docV, ndsV_len, clsV_len, attV_len, intsR_len, ndV, cellsEq, f1]; done) | (simp (config := { maxSteps := 2000000 }) only [go_sem, reduceCtorEq, Nat.reduceAdd, Nat.reduceEqDiff, reduceIte, Nat.reduceLeDiff, Nat.reduceLT, Nat.reduceSub, docV, ndsV_len, clsV_len, attV_len, intsR_len, ndV, cellsEq, f1]; rfl))) ?_
    try simp (config := { maxSteps := 2000000 }) only [go_sem, reduceCtorEq, Nat.reduceAdd, Nat.reduceEqDiff, reduceIte, Nat.reduceLeDiff, Nat.reduceLT, Nat.reduceSub, docV, ndsV_len, clsV_len, attV_len, intsR_len, ndV, cellsEq, f1]
    all_goals (repeat (with_reducible refine And.intro (by (first | omega | exact inR_small (by omega) (by omega) | exact fun _ => inR_small (by omega) (by omega) | assumption | trivial | (intros; omega) | (simp_all; done) | (intros; simp [*]; done) | (simp_all; omega) | grind)) ?_))
    apply call_guard (h2 := fun _ => c_doc_Check x)
    · (simp (config := { maxSteps := 2000000 }) only [go_sem, reduceCtorEq, Nat.reduceAdd, Nat.reduceEqDiff, reduceIte, Nat.reduceLeDiff, Nat.reduceLT, Nat.reduceSub, docV, ndsV_len, clsV_len, attV_len, intsR_len, ndV, cellsEq]; rfl)
    · intro h; repeat' (first | exact trivial | exact h | refine And.intro ?_ ?_)
    try simp (config := { maxSteps := 2000000 }) only [go_sem, reduceCtorEq, Nat.reduceAdd, Nat.reduceEqDiff, reduceIte, Nat.reduceLeDiff, Nat.reduceLT, Nat.reduceSub, docV, ndsV_len, clsV_len, attV_len, intsR_len, ndV, cellsEq, f2]
    all_goals (repeat (with_reducible refine And.intro (by (first | omega | exact inR_small (by omega) (by omega) | exact fun _ => inR_small (by omega) (by omega) | assumption | trivial | (intros; omega) | (simp_all; done) | (intros; simp [*]; done) | (simp_all; omega) | grind)) ?_))
    refine cond_of (by rfl) trivial (fun hb => ?_) (fun hb => ?_)
    · exfalso
      simp [intsR_len] at hb
      omega
    try simp (config := { maxSteps := 2000000 }) only [go_sem, reduceCtorEq, Nat.reduceAdd, Nat.reduceEqDiff, reduceIte, Nat.reduceLeDiff, Nat.reduceLT, Nat.reduceSub, docV, ndsV_len, clsV_len, attV_len, intsR_len, ndV, cellsEq, intsR_len, intsR_get _ _ f4, f5]
    all_goals (repeat (with_reducible refine And.intro (by (first | omega | exact inR_small (by omega) (by omega) | exact fun _ => inR_small (by omega) (by omega) | assumption | trivial | (intros; omega) | (simp_all; done) | (intros; simp [*]; done) | (simp_all; omega) | grind)) ?_))
    refine call_tup (by repeat' constructor) (Contract.av (c_doc_Part x n) (by first | rfl | (simp (config := { maxSteps := 2000000 }) only [go_sem, reduceCtorEq, Nat.reduceAdd, Nat.reduceEqDiff, reduceIte, Nat.reduceLeDiff, Nat.reduceLT, Nat.reduceSub, docV, ndsV_len, clsV_len, attV_len, intsR_len, ndV, cellsEq, f6, f8, Int.toNat_natCast, intsR_len, intsR_get _ _ f4, f5]; done) | (simp (config := { maxSteps := 2000000 }) only [go_sem, reduceCtorEq, Nat.reduceAdd, Nat.reduceEqDiff, reduceIte, Nat.reduceLeDiff, Nat.reduceLT, Nat.reduceSub, docV, ndsV_len, clsV_len, attV_len, intsR_len, ndV, cellsEq, f6, f8, Int.toNat_natCast, intsR_len, intsR_get _ _ f4, f5]; rfl))) ?_
    try simp (config := { maxSteps := 2000000 }) only [go_sem, reduceCtorEq, Nat.reduceAdd, Nat.reduceEqDiff, reduceIte, Nat.reduceLeDiff, Nat.reduceLT, Nat.reduceSub, docV, ndsV_len, clsV_len, attV_len, intsR_len, ndV, cellsEq, f6, f8, Int.toNat_natCast, intsR_len, intsR_get _ _ f4, f5]
    all_goals (repeat (with_reducible refine And.intro (by (first | omega | exact inR_small (by omega) (by omega) | exact fun _ => inR_small (by omega) (by omega) | assumption | trivial | (intros; omega) | (simp_all; done) | (intros; simp [*]; done) | (simp_all; omega) | grind)) ?_))
    refine call_tup (by repeat' constructor) (Contract.av (c_doc_Remove x n) (by first | rfl | (simp (config := { maxSteps := 2000000 }) only [go_sem, reduceCtorEq, Nat.reduceAdd, Nat.reduceEqDiff, reduceIte, Nat.reduceLeDiff, Nat.reduceLT, Nat.reduceSub, docV, ndsV_len, clsV_len, attV_len, intsR_len, ndV, cellsEq, f15, f9, Int.toNat_natCast]; done) | (simp (config := { maxSteps := 2000000 }) only [go_sem, reduceCtorEq, Nat.reduceAdd, Nat.reduceEqDiff, reduceIte, Nat.reduceLeDiff, Nat.reduceLT, Nat.reduceSub, docV, ndsV_len, clsV_len, attV_len, intsR_len, ndV, cellsEq, f15, f9, Int.toNat_natCast]; rfl))) ?_
    try simp (config := { maxSteps := 2000000 }) only [go_sem, reduceCtorEq, Nat.reduceAdd, Nat.reduceEqDiff, reduceIte, Nat.reduceLeDiff, Nat.reduceLT, Nat.reduceSub, docV, ndsV_len, clsV_len, attV_len, intsR_len, ndV, cellsEq, f15, f9, Int.toNat_natCast]
    all_goals (repeat (with_reducible refine And.intro (by (first | omega | exact inR_small (by omega) (by omega) | exact fun _ => inR_small (by omega) (by omega) | assumption | trivial | (intros; omega) | (simp_all; done) | (intros; simp [*]; done) | (simp_all; omega) | grind)) ?_))
    apply call_guard (h2 := fun _ => c_ref_SameDocs e e)
    · (simp (config := { maxSteps := 2000000 }) only [go_sem, reduceCtorEq, Nat.reduceAdd, Nat.reduceEqDiff, reduceIte, Nat.reduceLeDiff, Nat.reduceLT, Nat.reduceSub, docV, ndsV_len, clsV_len, attV_len, intsR_len, ndV, cellsEq]; rfl)
    · intro h; repeat' (first | exact trivial | exact h | refine And.intro ?_ ?_)
    try simp (config := { maxSteps := 2000000 }) only [go_sem, reduceCtorEq, Nat.reduceAdd, Nat.reduceEqDiff, reduceIte, Nat.reduceLeDiff, Nat.reduceLT, Nat.reduceSub, docV, ndsV_len, clsV_len, attV_len, intsR_len, ndV, cellsEq, dec_self]
    all_goals (repeat (with_reducible refine And.intro (by (first | omega | exact inR_small (by omega) (by omega) | exact fun _ => inR_small (by omega) (by omega) | assumption | trivial | (intros; omega) | (simp_all; done) | (intros; simp [*]; done) | (simp_all; omega) | grind)) ?_))
    apply call_guard (h2 := fun _ => c_ref_SameDocs d d)
    · (simp (config := { maxSteps := 2000000 }) only [go_sem, reduceCtorEq, Nat.reduceAdd, Nat.reduceEqDiff, reduceIte, Nat.reduceLeDiff, Nat.reduceLT, Nat.reduceSub, docV, ndsV_len, clsV_len, attV_len, intsR_len, ndV, cellsEq]; rfl)
    · intro h; repeat' (first | exact trivial | exact h | refine And.intro ?_ ?_)
    try simp (config := { maxSteps := 2000000 }) only [go_sem, reduceCtorEq, Nat.reduceAdd, Nat.reduceEqDiff, reduceIte, Nat.reduceLeDiff, Nat.reduceLT, Nat.reduceSub, docV, ndsV_len, clsV_len, attV_len, intsR_len, ndV, cellsEq, dec_self]
    all_goals (repeat (with_reducible refine And.intro (by (first | omega | exact inR_small (by omega) (by omega) | exact fun _ => inR_small (by omega) (by omega) | assumption | trivial | (intros; omega) | (simp_all; done) | (intros; simp [*]; done) | (simp_all; omega) | grind)) ?_))
    refine cond_of (by rfl) trivial (fun hc => ?_) (fun hc => ?_)
    · exfalso
      simp at hc
    try simp (config := { maxSteps := 2000000 }) only [go_sem, reduceCtorEq, Nat.reduceAdd, Nat.reduceEqDiff, reduceIte, Nat.reduceLeDiff, Nat.reduceLT, Nat.reduceSub, docV, ndsV_len, clsV_len, attV_len, intsR_len, ndV, cellsEq]
    all_goals (repeat (with_reducible refine And.intro (by (first | omega | exact inR_small (by omega) (by omega) | exact fun _ => inR_small (by omega) (by omega) | assumption | trivial | (intros; omega) | (simp_all; done) | (intros; simp [*]; done) | (simp_all; omega) | grind)) ?_))
    refine call_tup (by repeat' constructor) (c_doc_Part d k) ?_
    try simp (config := { maxSteps := 2000000 }) only [go_sem, reduceCtorEq, Nat.reduceAdd, Nat.reduceEqDiff, reduceIte, Nat.reduceLeDiff, Nat.reduceLT, Nat.reduceSub, docV, ndsV_len, clsV_len, attV_len, intsR_len, ndV, cellsEq]
    all_goals (repeat (with_reducible refine And.intro (by (first | omega | exact inR_small (by omega) (by omega) | exact fun _ => inR_small (by omega) (by omega) | assumption | trivial | (intros; omega) | (simp_all; done) | (intros; simp [*]; done) | (simp_all; omega) | grind)) ?_))
    refine call_tup (by repeat' constructor) (c_doc_Remove d k) ?_
    try simp (config := { maxSteps := 2000000 }) only [go_sem, reduceCtorEq, Nat.reduceAdd, Nat.reduceEqDiff, reduceIte, Nat.reduceLeDiff, Nat.reduceLT, Nat.reduceSub, docV, ndsV_len, clsV_len, attV_len, intsR_len, ndV, cellsEq]
    all_goals (repeat (with_reducible refine And.intro (by (first | omega | exact inR_small (by omega) (by omega) | exact fun _ => inR_small (by omega) (by omega) | assumption | trivial | (intros; omega) | (simp_all; done) | (intros; simp [*]; done) | (simp_all; omega) | grind)) ?_))
    refine cond_of (by rfl) trivial (fun hq => ?_) (fun hq => ?_)
    · try simp (config := { maxSteps := 2000000 }) only [go_sem, reduceCtorEq, Nat.reduceAdd, Nat.reduceEqDiff, reduceIte, Nat.reduceLeDiff, Nat.reduceLT, Nat.reduceSub, docV, ndsV_len, clsV_len, attV_len, intsR_len, ndV, cellsEq]
      all_goals (repeat (with_reducible refine And.intro (by (first | omega | exact inR_small (by omega) (by omega) | exact fun _ => inR_small (by omega) (by omega) | assumption | trivial | (intros; omega) | (simp_all; done) | (intros; simp [*]; done) | (simp_all; omega) | grind)) ?_))
      refine call_val (by repeat' constructor) (c_law_docBegun) ?_
      try simp (config := { maxSteps := 2000000 }) only [go_sem, reduceCtorEq, Nat.reduceAdd, Nat.reduceEqDiff, reduceIte, Nat.reduceLeDiff, Nat.reduceLT, Nat.reduceSub, docV, ndsV_len, clsV_len, attV_len, intsR_len, ndV, cellsEq]
      all_goals (repeat (with_reducible refine And.intro (by (first | omega | exact inR_small (by omega) (by omega) | exact fun _ => inR_small (by omega) (by omega) | assumption | trivial | (intros; omega) | (simp_all; done) | (intros; simp [*]; done) | (simp_all; omega) | grind)) ?_))
      exact fin_val rfl trivial (.inl rfl)
    have hq2 : thereE d k = 0 ∧ remE d k = 0 := by simpa using hq
    obtain ⟨hr1, hr2⟩ := hq2
    obtain ⟨hr3, hr4, hr5⟩ := thereE_ok hr1
    obtain ⟨hr6, hr7, hr8⟩ := checkDoc_ok hr3
    obtain ⟨m, rfl⟩ : ∃ m : Nat, k = m := ⟨k.toNat, by omega⟩
    have hm0 : m ≠ 0 := by
      intro e
      subst e
      rw [remE, if_pos hr1, if_pos (by rfl)] at hr2
      cases hr2
    have hm : m < d.length := by omega
    have hup := up_nonneg hr8 (k := m) (by omega) hm
    obtain ⟨u, hu⟩ : ∃ u : Nat, upOf d m = u := ⟨(upOf d m).toNat, by omega⟩
    have hu2 : (d.getD m default).up = u := hu
    obtain ⟨pl, g1, g2, g3, g4, g5, g6⟩ := back_rem hr3 (by omega) hm hu
    rw [hr1, hr2, if_pos rfl, if_pos rfl]
    try simp (config := { maxSteps := 2000000 }) only [go_sem, reduceCtorEq, Nat.reduceAdd, Nat.reduceEqDiff, reduceIte, Nat.reduceLeDiff, Nat.reduceLT, Nat.reduceSub, docV, ndsV_len, clsV_len, attV_len, intsR_len, ndV, cellsEq, ndsV_get _ _ hm, hu2]
    all_goals (repeat (with_reducible refine And.intro (by (first | omega | exact inR_small (by omega) (by omega) | exact fun _ => inR_small (by omega) (by omega) | assumption | trivial | (intros; omega) | (simp_all; done) | (intros; simp [*]; done) | (simp_all; omega) | grind)) ?_))
    refine call_tup (by repeat' constructor) (Contract.av (c_doc_Kids d u) (by first | rfl | (simp (config := { maxSteps := 2000000 }) only [go_sem, reduceCtorEq, Nat.reduceAdd, Nat.reduceEqDiff, reduceIte, Nat.reduceLeDiff, Nat.reduceLT, Nat.reduceSub, docV, ndsV_len, clsV_len, attV_len, intsR_len, ndV, cellsEq, g1, Int.toNat_natCast]; done) | (simp (config := { maxSteps := 2000000 }) only [go_sem, reduceCtorEq, Nat.reduceAdd, Nat.reduceEqDiff, reduceIte, Nat.reduceLeDiff, Nat.reduceLT, Nat.reduceSub, docV, ndsV_len, clsV_len, attV_len, intsR_len, ndV, cellsEq, g1, Int.toNat_natCast]; rfl))) ?_
    try simp (config := { maxSteps := 2000000 }) only [go_sem, reduceCtorEq, Nat.reduceAdd, Nat.reduceEqDiff, reduceIte, Nat.reduceLeDiff, Nat.reduceLT, Nat.reduceSub, docV, ndsV_len, clsV_len, attV_len, intsR_len, ndV, cellsEq, g1, Int.toNat_natCast]
    all_goals (repeat (with_reducible refine And.intro (by (first | omega | exact inR_small (by omega) (by omega) | exact fun _ => inR_small (by omega) (by omega) | assumption | trivial | (intros; omega) | (simp_all; done) | (intros; simp [*]; done) | (simp_all; omega) | grind)) ?_))
    refine loop_sets (fun i : Nat => [(26, .pv (iv i)), (136, .un)]) (fun i : Nat => pl - i) (fun i : Nat => i ≤ pl) (0) ?_ (Nat.zero_le _) ?_
    focus (simp (config := { maxSteps := 2000000 }) only [go_sem, reduceCtorEq, Nat.reduceAdd, Nat.reduceEqDiff, reduceIte, Nat.reduceLeDiff, Nat.reduceLT, Nat.reduceSub, docV, ndsV_len, clsV_len, attV_len, intsR_len, ndV, cellsEq, le_cons, le_nil, le_un, le_same]; all_goals (repeat' (first | exact trivial | exact le_int (by omega) | exact le_bool rfl | exact le_eq rfl | exact le_nlo | exact le_refl _ | refine And.intro ?_ ?_)))
    intro i hi
    have hul := (thereE_ok g1).2.2
    have hkl := (docPlaces_mem (d := d) (n := u) (by omega)).1
    have hil : i < (docKids d u).length := by omega
    try simp (config := { maxSteps := 2000000 }) only [go_sem, reduceCtorEq, Nat.reduceAdd, Nat.reduceEqDiff, reduceIte, Nat.reduceLeDiff, Nat.reduceLT, Nat.reduceSub, docV, ndsV_len, clsV_len, attV_len, intsR_len, ndV, cellsEq, intsR_len, intsR_get _ _ hil]
    all_goals (repeat (with_reducible refine And.intro (by (first | omega | exact inR_small (by omega) (by omega) | exact fun _ => inR_small (by omega) (by omega) | assumption | trivial | (intros; omega) | (simp_all; done) | (intros; simp [*]; done) | (simp_all; omega) | grind)) ?_))
    refine cond_of (by rfl) trivial (fun h9 => ?_) (fun h9 => ?_)
    · try simp (config := { maxSteps := 2000000 }) only [go_sem, reduceCtorEq, Nat.reduceAdd, Nat.reduceEqDiff, reduceIte, Nat.reduceLeDiff, Nat.reduceLT, Nat.reduceSub, docV, ndsV_len, clsV_len, attV_len, intsR_len, ndV, cellsEq]
      all_goals (repeat (with_reducible refine And.intro (by (first | omega | exact inR_small (by omega) (by omega) | exact fun _ => inR_small (by omega) (by omega) | assumption | trivial | (intros; omega) | (simp_all; done) | (intros; simp [*]; done) | (simp_all; omega) | grind)) ?_))
      have h10 : (docKids d u).getD i 0 ≠ (m : Int) := by
        simp at h9
        simpa using h9.2
      have : i ≠ pl := fun e => h10 (by rw [e]; exact g3)
      refine ⟨i + 1, by omega, by omega, ?_⟩
      simp (config := { maxSteps := 2000000 }) only [go_sem, reduceCtorEq, Nat.reduceAdd, Nat.reduceEqDiff, reduceIte, Nat.reduceLeDiff, Nat.reduceLT, Nat.reduceSub, docV, ndsV_len, clsV_len, attV_len, intsR_len, ndV, cellsEq, le_cons, le_nil, le_un, le_same]
      all_goals (repeat' (first | exact trivial | exact le_int (by omega) | exact le_bool rfl | exact le_eq rfl | exact le_nlo | exact le_refl _ | refine And.intro ?_ ?_))
    · have h10 : (docKids d u).getD i 0 = (m : Int) := by
        simp at h9
        simpa using h9 hil
      have : i = pl := by
        apply Classical.byContradiction
        intro hc
        exact g4 i (by omega) h10
      subst this
      try simp (config := { maxSteps := 2000000 }) only [go_sem, reduceCtorEq, Nat.reduceAdd, Nat.reduceEqDiff, reduceIte, Nat.reduceLeDiff, Nat.reduceLT, Nat.reduceSub, docV, ndsV_len, clsV_len, attV_len, intsR_len, ndV, cellsEq]
      all_goals (repeat (with_reducible refine And.intro (by (first | omega | exact inR_small (by omega) (by omega) | exact fun _ => inR_small (by omega) (by omega) | assumption | trivial | (intros; omega) | (simp_all; done) | (intros; simp [*]; done) | (simp_all; omega) | grind)) ?_))
      refine call_tup (by repeat' constructor) (Contract.av (c_doc_Insert (docRemove d m) u i (docPart d m)) (by first | rfl | (simp (config := { maxSteps := 2000000 }) only [go_sem, reduceCtorEq, Nat.reduceAdd, Nat.reduceEqDiff, reduceIte, Nat.reduceLeDiff, Nat.reduceLT, Nat.reduceSub, docV, ndsV_len, clsV_len, attV_len, intsR_len, ndV, cellsEq, g5, g6, Int.toNat_natCast]; done) | (simp (config := { maxSteps := 2000000 }) only [go_sem, reduceCtorEq, Nat.reduceAdd, Nat.reduceEqDiff, reduceIte, Nat.reduceLeDiff, Nat.reduceLT, Nat.reduceSub, docV, ndsV_len, clsV_len, attV_len, intsR_len, ndV, cellsEq, g5, g6, Int.toNat_natCast]; rfl))) ?_
      try simp (config := { maxSteps := 2000000 }) only [go_sem, reduceCtorEq, Nat.reduceAdd, Nat.reduceEqDiff, reduceIte, Nat.reduceLeDiff, Nat.reduceLT, Nat.reduceSub, docV, ndsV_len, clsV_len, attV_len, intsR_len, ndV, cellsEq, g5, g6, Int.toNat_natCast]
      all_goals (repeat (with_reducible refine And.intro (by (first | omega | exact inR_small (by omega) (by omega) | exact fun _ => inR_small (by omega) (by omega) | assumption | trivial | (intros; omega) | (simp_all; done) | (intros; simp [*]; done) | (simp_all; omega) | grind)) ?_))
      refine call_val (by repeat' constructor) (c_law_docBegun) ?_
      try simp (config := { maxSteps := 2000000 }) only [go_sem, reduceCtorEq, Nat.reduceAdd, Nat.reduceEqDiff, reduceIte, Nat.reduceLeDiff, Nat.reduceLT, Nat.reduceSub, docV, ndsV_len, clsV_len, attV_len, intsR_len, ndV, cellsEq]
      all_goals (repeat (with_reducible refine And.intro (by (first | omega | exact inR_small (by omega) (by omega) | exact fun _ => inR_small (by omega) (by omega) | assumption | trivial | (intros; omega) | (simp_all; done) | (intros; simp [*]; done) | (simp_all; omega) | grind)) ?_))
      apply call_guard (h2 := fun _ => c_ref_SameDocs d d)
      · (simp (config := { maxSteps := 2000000 }) only [go_sem, reduceCtorEq, Nat.reduceAdd, Nat.reduceEqDiff, reduceIte, Nat.reduceLeDiff, Nat.reduceLT, Nat.reduceSub, docV, ndsV_len, clsV_len, attV_len, intsR_len, ndV, cellsEq]; rfl)
      · intro h; repeat' (first | exact trivial | exact h | refine And.intro ?_ ?_)
      try simp (config := { maxSteps := 2000000 }) only [go_sem, reduceCtorEq, Nat.reduceAdd, Nat.reduceEqDiff, reduceIte, Nat.reduceLeDiff, Nat.reduceLT, Nat.reduceSub, docV, ndsV_len, clsV_len, attV_len, intsR_len, ndV, cellsEq, dec_self]
      all_goals (repeat (with_reducible refine And.intro (by (first | omega | exact inR_small (by omega) (by omega) | exact fun _ => inR_small (by omega) (by omega) | assumption | trivial | (intros; omega) | (simp_all; done) | (intros; simp [*]; done) | (simp_all; omega) | grind)) ?_))
      refine fin_val rfl trivial (.inl ?_)
      simp
  · try simp (config := { maxSteps := 2000000 }) only [go_sem, reduceCtorEq, Nat.reduceAdd, Nat.reduceEqDiff, reduceIte, Nat.reduceLeDiff, Nat.reduceLT, Nat.reduceSub, docV, ndsV_len, clsV_len, attV_len, intsR_len, ndV, cellsEq]
    all_goals (repeat (with_reducible refine And.intro (by (first | omega | exact inR_small (by omega) (by omega) | exact fun _ => inR_small (by omega) (by omega) | assumption | trivial | (intros; omega) | (simp_all; done) | (intros; simp [*]; done) | (simp_all; omega) | grind)) ?_))
    refine call_tup (by repeat' constructor) (c_doc_Part d k) ?_
    try simp (config := { maxSteps := 2000000 }) only [go_sem, reduceCtorEq, Nat.reduceAdd, Nat.reduceEqDiff, reduceIte, Nat.reduceLeDiff, Nat.reduceLT, Nat.reduceSub, docV, ndsV_len, clsV_len, attV_len, intsR_len, ndV, cellsEq]
    all_goals (repeat (with_reducible refine And.intro (by (first | omega | exact inR_small (by omega) (by omega) | exact fun _ => inR_small (by omega) (by omega) | assumption | trivial | (intros; omega) | (simp_all; done) | (intros; simp [*]; done) | (simp_all; omega) | grind)) ?_))
    refine call_tup (by repeat' constructor) (c_doc_Remove d k) ?_
    try simp (config := { maxSteps := 2000000 }) only [go_sem, reduceCtorEq, Nat.reduceAdd, Nat.reduceEqDiff, reduceIte, Nat.reduceLeDiff, Nat.reduceLT, Nat.reduceSub, docV, ndsV_len, clsV_len, attV_len, intsR_len, ndV, cellsEq]
    all_goals (repeat (with_reducible refine And.intro (by (first | omega | exact inR_small (by omega) (by omega) | exact fun _ => inR_small (by omega) (by omega) | assumption | trivial | (intros; omega) | (simp_all; done) | (intros; simp [*]; done) | (simp_all; omega) | grind)) ?_))
    refine cond_of (by rfl) trivial (fun hq => ?_) (fun hq => ?_)
    · try simp (config := { maxSteps := 2000000 }) only [go_sem, reduceCtorEq, Nat.reduceAdd, Nat.reduceEqDiff, reduceIte, Nat.reduceLeDiff, Nat.reduceLT, Nat.reduceSub, docV, ndsV_len, clsV_len, attV_len, intsR_len, ndV, cellsEq]
      all_goals (repeat (with_reducible refine And.intro (by (first | omega | exact inR_small (by omega) (by omega) | exact fun _ => inR_small (by omega) (by omega) | assumption | trivial | (intros; omega) | (simp_all; done) | (intros; simp [*]; done) | (simp_all; omega) | grind)) ?_))
      refine call_val (by repeat' constructor) (c_law_docBegun) ?_
      try simp (config := { maxSteps := 2000000 }) only [go_sem, reduceCtorEq, Nat.reduceAdd, Nat.reduceEqDiff, reduceIte, Nat.reduceLeDiff, Nat.reduceLT, Nat.reduceSub, docV, ndsV_len, clsV_len, attV_len, intsR_len, ndV, cellsEq]
      all_goals (repeat (with_reducible refine And.intro (by (first | omega | exact inR_small (by omega) (by omega) | exact fun _ => inR_small (by omega) (by omega) | assumption | trivial | (intros; omega) | (simp_all; done) | (intros; simp [*]; done) | (simp_all; omega) | grind)) ?_))
      exact fin_val rfl trivial (.inl rfl)
    have hq2 : thereE d k = 0 ∧ remE d k = 0 := by simpa using hq
    obtain ⟨hr1, hr2⟩ := hq2
    obtain ⟨hr3, hr4, hr5⟩ := thereE_ok hr1
    obtain ⟨hr6, hr7, hr8⟩ := checkDoc_ok hr3
    obtain ⟨m, rfl⟩ : ∃ m : Nat, k = m := ⟨k.toNat, by omega⟩
    have hm0 : m ≠ 0 := by
      intro e
      subst e
      rw [remE, if_pos hr1, if_pos (by rfl)] at hr2
      cases hr2
    have hm : m < d.length := by omega
    have hup := up_nonneg hr8 (k := m) (by omega) hm
    obtain ⟨u, hu⟩ : ∃ u : Nat, upOf d m = u := ⟨(upOf d m).toNat, by omega⟩
    have hu2 : (d.getD m default).up = u := hu
    obtain ⟨pl, g1, g2, g3, g4, g5, g6⟩ := back_rem hr3 (by omega) hm hu
    rw [hr1, hr2, if_pos rfl, if_pos rfl]
    try simp (config := { maxSteps := 2000000 }) only [go_sem, reduceCtorEq, Nat.reduceAdd, Nat.reduceEqDiff, reduceIte, Nat.reduceLeDiff, Nat.reduceLT, Nat.reduceSub, docV, ndsV_len, clsV_len, attV_len, intsR_len, ndV, cellsEq, ndsV_get _ _ hm, hu2]
    all_goals (repeat (with_reducible refine And.intro (by (first | omega | exact inR_small (by omega) (by omega) | exact fun _ => inR_small (by omega) (by omega) | assumption | trivial | (intros; omega) | (simp_all; done) | (intros; simp [*]; done) | (simp_all; omega) | grind)) ?_))
    refine call_tup (by repeat' constructor) (Contract.av (c_doc_Kids d u) (by first | rfl | (simp (config := { maxSteps := 2000000 }) only [go_sem, reduceCtorEq, Nat.reduceAdd, Nat.reduceEqDiff, reduceIte, Nat.reduceLeDiff, Nat.reduceLT, Nat.reduceSub, docV, ndsV_len, clsV_len, attV_len, intsR_len, ndV, cellsEq, g1, Int.toNat_natCast]; done) | (simp (config := { maxSteps := 2000000 }) only [go_sem, reduceCtorEq, Nat.reduceAdd, Nat.reduceEqDiff, reduceIte, Nat.reduceLeDiff, Nat.reduceLT, Nat.reduceSub, docV, ndsV_len, clsV_len, attV_len, intsR_len, ndV, cellsEq, g1, Int.toNat_natCast]; rfl))) ?_
    try simp (config := { maxSteps := 2000000 }) only [go_sem, reduceCtorEq, Nat.reduceAdd, Nat.reduceEqDiff, reduceIte, Nat.reduceLeDiff, Nat.reduceLT, Nat.reduceSub, docV, ndsV_len, clsV_len, attV_len, intsR_len, ndV, cellsEq, g1, Int.toNat_natCast]
    all_goals (repeat (with_reducible refine And.intro (by (first | omega | exact inR_small (by omega) (by omega) | exact fun _ => inR_small (by omega) (by omega) | assumption | trivial | (intros; omega) | (simp_all; done) | (intros; simp [*]; done) | (simp_all; omega) | grind)) ?_))
    refine loop_sets (fun i : Nat => [(26, .pv (iv i)), (136, .un)]) (fun i : Nat => pl - i) (fun i : Nat => i ≤ pl) (0) ?_ (Nat.zero_le _) ?_
    focus (simp (config := { maxSteps := 2000000 }) only [go_sem, reduceCtorEq, Nat.reduceAdd, Nat.reduceEqDiff, reduceIte, Nat.reduceLeDiff, Nat.reduceLT, Nat.reduceSub, docV, ndsV_len, clsV_len, attV_len, intsR_len, ndV, cellsEq, le_cons, le_nil, le_un, le_same]; all_goals (repeat' (first | exact trivial | exact le_int (by omega) | exact le_bool rfl | exact le_eq rfl | exact le_nlo | exact le_refl _ | refine And.intro ?_ ?_)))
    intro i hi
    have hul := (thereE_ok g1).2.2
    have hkl := (docPlaces_mem (d := d) (n := u) (by omega)).1
    have hil : i < (docKids d u).length := by omega
    try simp (config := { maxSteps := 2000000 }) only [go_sem, reduceCtorEq, Nat.reduceAdd, Nat.reduceEqDiff, reduceIte, Nat.reduceLeDiff, Nat.reduceLT, Nat.reduceSub, docV, ndsV_len, clsV_len, attV_len, intsR_len, ndV, cellsEq, intsR_len, intsR_get _ _ hil]
    all_goals (repeat (with_reducible refine And.intro (by (first | omega | exact inR_small (by omega) (by omega) | exact fun _ => inR_small (by omega) (by omega) | assumption | trivial | (intros; omega) | (simp_all; done) | (intros; simp [*]; done) | (simp_all; omega) | grind)) ?_))
    refine cond_of (by rfl) trivial (fun h9 => ?_) (fun h9 => ?_)
    · try simp (config := { maxSteps := 2000000 }) only [go_sem, reduceCtorEq, Nat.reduceAdd, Nat.reduceEqDiff, reduceIte, Nat.reduceLeDiff, Nat.reduceLT, Nat.reduceSub, docV, ndsV_len, clsV_len, attV_len, intsR_len, ndV, cellsEq]
      all_goals (repeat (with_reducible refine And.intro (by (first | omega | exact inR_small (by omega) (by omega) | exact fun _ => inR_small (by omega) (by omega) | assumption | trivial | (intros; omega) | (simp_all; done) | (intros; simp [*]; done) | (simp_all; omega) | grind)) ?_))
      have h10 : (docKids d u).getD i 0 ≠ (m : Int) := by
        simp at h9
        simpa using h9.2
      have : i ≠ pl := fun e => h10 (by rw [e]; exact g3)
      refine ⟨i + 1, by omega, by omega, ?_⟩
      simp (config := { maxSteps := 2000000 }) only [go_sem, reduceCtorEq, Nat.reduceAdd, Nat.reduceEqDiff, reduceIte, Nat.reduceLeDiff, Nat.reduceLT, Nat.reduceSub, docV, ndsV_len, clsV_len, attV_len, intsR_len, ndV, cellsEq, le_cons, le_nil, le_un, le_same]
      all_goals (repeat' (first | exact trivial | exact le_int (by omega) | exact le_bool rfl | exact le_eq rfl | exact le_nlo | exact le_refl _ | refine And.intro ?_ ?_))
    · have h10 : (docKids d u).getD i 0 = (m : Int) := by
        simp at h9
        simpa using h9 hil
      have : i = pl := by
        apply Classical.byContradiction
        intro hc
        exact g4 i (by omega) h10
      subst this
      try simp (config := { maxSteps := 2000000 }) only [go_sem, reduceCtorEq, Nat.reduceAdd, Nat.reduceEqDiff, reduceIte, Nat.reduceLeDiff, Nat.reduceLT, Nat.reduceSub, docV, ndsV_len, clsV_len, attV_len, intsR_len, ndV, cellsEq]
      all_goals (repeat (with_reducible refine And.intro (by (first | omega | exact inR_small (by omega) (by omega) | exact fun _ => inR_small (by omega) (by omega) | assumption | trivial | (intros; omega) | (simp_all; done) | (intros; simp [*]; done) | (simp_all; omega) | grind)) ?_))
      refine call_tup (by repeat' constructor) (Contract.av (c_doc_Insert (docRemove d m) u i (docPart d m)) (by first | rfl | (simp (config := { maxSteps := 2000000 }) only [go_sem, reduceCtorEq, Nat.reduceAdd, Nat.reduceEqDiff, reduceIte, Nat.reduceLeDiff, Nat.reduceLT, Nat.reduceSub, docV, ndsV_len, clsV_len, attV_len, intsR_len, ndV, cellsEq, g5, g6, Int.toNat_natCast]; done) | (simp (config := { maxSteps := 2000000 }) only [go_sem, reduceCtorEq, Nat.reduceAdd, Nat.reduceEqDiff, reduceIte, Nat.reduceLeDiff, Nat.reduceLT, Nat.reduceSub, docV, ndsV_len, clsV_len, attV_len, intsR_len, ndV, cellsEq, g5, g6, Int.toNat_natCast]; rfl))) ?_
      try simp (config := { maxSteps := 2000000 }) only [go_sem, reduceCtorEq, Nat.reduceAdd, Nat.reduceEqDiff, reduceIte, Nat.reduceLeDiff, Nat.reduceLT, Nat.reduceSub, docV, ndsV_len, clsV_len, attV_len, intsR_len, ndV, cellsEq, g5, g6, Int.toNat_natCast]
      all_goals (repeat (with_reducible refine And.intro (by (first | omega | exact inR_small (by omega) (by omega) | exact fun _ => inR_small (by omega) (by omega) | assumption | trivial | (intros; omega) | (simp_all; done) | (intros; simp [*]; done) | (simp_all; omega) | grind)) ?_))
      refine call_val (by repeat' constructor) (c_law_docBegun) ?_
      try simp (config := { maxSteps := 2000000 }) only [go_sem, reduceCtorEq, Nat.reduceAdd, Nat.reduceEqDiff, reduceIte, Nat.reduceLeDiff, Nat.reduceLT, Nat.reduceSub, docV, ndsV_len, clsV_len, attV_len, intsR_len, ndV, cellsEq]
      all_goals (repeat (with_reducible refine And.intro (by (first | omega | exact inR_small (by omega) (by omega) | exact fun _ => inR_small (by omega) (by omega) | assumption | trivial | (intros; omega) | (simp_all; done) | (intros; simp [*]; done) | (simp_all; omega) | grind)) ?_))
      apply call_guard (h2 := fun _ => c_ref_SameDocs d d)
      · (simp (config := { maxSteps := 2000000 }) only [go_sem, reduceCtorEq, Nat.reduceAdd, Nat.reduceEqDiff, reduceIte, Nat.reduceLeDiff, Nat.reduceLT, Nat.reduceSub, docV, ndsV_len, clsV_len, attV_len, intsR_len, ndV, cellsEq]; rfl)
      · intro h; repeat' (first | exact trivial | exact h | refine And.intro ?_ ?_)
      try simp (config := { maxSteps := 2000000 }) only [go_sem, reduceCtorEq, Nat.reduceAdd, Nat.reduceEqDiff, reduceIte, Nat.reduceLeDiff, Nat.reduceLT, Nat.reduceSub, docV, ndsV_len, clsV_len, attV_len, intsR_len, ndV, cellsEq, dec_self]
      all_goals (repeat (with_reducible refine And.intro (by (first | omega | exact inR_small (by omega) (by omega) | exact fun _ => inR_small (by omega) (by omega) | assumption | trivial | (intros; omega) | (simp_all; done) | (intros; simp [*]; done) | (simp_all; omega) | grind)) ?_))
      refine fin_val rfl trivial (.inl ?_)
      simp
end Go.Hx
