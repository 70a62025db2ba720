/-
  Walks of functions of the program over an abstract layer, and the laws that they use: each contract says what the function computes, for every input that its conditions let by. No other condition.
-/
import Derived.Test.YtjnagiaooecklaaDoorG8
import Derived.Test.YtjnagiaooecklaaDoorG13
import Derived.Test.YtjnagiaooecklaaDoorG18
import Derived.Test.YtjnagiaooecklaaDoorG19
import Derived.Shelf.Strings.SlTrimAscii
import Derived.Test.YtjnagiaooecklaaDoorG15
set_option linter.all false
section
set_option maxRecDepth 100000
set_option linter.unusedSimpArgs false
namespace Go.Hx
open Go.Proofs Go.RowKit
variable [Glob]

attribute [local go_sem] ndsV_len clsV_len attV_len intsR_len ndV cellsEq
theorem pres_of_below {R : Nat → Prop} {w w' : World} (h : Below w.heap.size w w') : Pres R w w' := ⟨h.os, h.tape, h.output, h.size, fun b hb _ => h.block b hb⟩
theorem memOk_below {m : Mem} {w w' : World} (hm : MemOk m w) (h : Below w.heap.size w w') : MemOk m w' := fun b o u hu => by
  have h1 := hm b o u hu
  have h2 : b < w.heap.size := World.block_lt_of_cell? w _ h1
  rw [← h1]
  exact World.cell?_of_block (h.block b h2)
theorem below_of_pres {R : Nat → Prop} {w w' : World} (h : Pres R w w') (hR : ∀ b, ¬ R b) : Below w.heap.size w w' := ⟨h.os, h.tape, h.output, h.size, fun b hb => h.block b hb (hR b)⟩
/-- What a contract of the kit's says of a function of values alone. -/
theorem post_val {m : Mem} {w w' : World} {avs : List AV} {us : List Value} {e : Ending} {x : PVal} {u : Value} (hm : MemOk m w) (h : Below w.heap.size w w') (he : e = .returned u) (hx : RpV m x u) (hio : ioB avs us = none) : Post m w avs us { res := .val x } e w' :=
  ⟨m, m.le_refl, memOk_below hm h, pres_of_below h, fun _ _ _ h => .inl h, (fun b hb => by rw [hio] at hb; cases hb), u, he, hx⟩

theorem glob_below {w w' : World} (h : Below w.heap.size w w') (hG : Glob.ok w) : Glob.ok w' :=
  Glob.keep _ _ (fun b hb => h.block b (Nat.lt_of_lt_of_le hb (Glob.size _ hG))) hG
theorem trimS_len (s cs : Bys) : (Lib.trimS s cs).length ≤ s.length := by
  unfold Lib.trimS Lib.trimLeftS Lib.trimRightS
  refine Nat.le_trans (List.dropWhile_sublist _).length_le ?_
  rw [List.length_reverse]
  refine Nat.le_trans (List.dropWhile_sublist _).length_le ?_
  rw [List.length_reverse]
  exact Nat.le_refl _
theorem flat_mkS' {s : Bys} (h : s.length ≤ maxLen) : flat (mkS s) = true := by
  simp only [flat]
  exact decide_eq_true (by simpa [ByteArray.size] using h)
theorem mkS_flat {s : Bys} (h : flat (mkS s) = true) : s.length ≤ maxLen := by
  simp only [flat, decide_eq_true_eq] at h
  simpa [ByteArray.size] using h
theorem c_strings_Trim (s cs : Bys) (hc : cs.length < 1000) (ha : cs.all (fun b => decide (b.toNat < 128)) = true) : Contract Tryd.prog fn_strings_Trim [.val (sv s), .val (sv cs)] { res := .val (sv (Lib.trimS s cs)) } := by
  refine ⟨by kernel_rfl, fun m w us hm hargs _ hG _ => ?_⟩
  obtain ⟨u1, us1, rfl, h1, u2, us2, rfl, h2, rfl⟩ := hargs
  obtain ⟨rfl, f1⟩ := h1
  obtain ⟨rfl, f2⟩ := h2
  have hs := mkS_flat f1
  have hT := Any.strings_Trim_laid Tryd.l160 (by kernel_rfl) ⟨s.toArray⟩ ⟨cs.toArray⟩ w (by simpa [ByteArray.size, maxLen] using hs) (by simp [ByteArray.size]; omega) (ascii_of_all (by simpa using ha))
  change Calls Tryd.prog fn_strings_Trim _ _ _ at hT
  refine hT.mono fun e w' ⟨he, hb⟩ => post_val hm hb he ⟨by simp, ?_⟩ rfl
  exact flat_mkS' (Nat.le_trans (trimS_len s cs) hs)

theorem c_strings_ContainsFunc (s : Bys) (g : Nat) (p : Nat → Bool) (hp : ∀ r, 128 ≤ r → p r = true) (eg : ∀ args w, (callFunc g args).run Tryd.prog w = .ok (.enter g args) w)
    (hg : ∀ r : Nat, Contract Tryd.prog g [.val (.one (.v (.int .i32 r)))] { res := .val (bv (p r)) }) :
    Contract Tryd.prog fn_strings_ContainsFunc [.val (sv s), .val (.one (.clo g []))] { res := .val (bv (!s.all (fun b => decide (b.toNat < 128) && !p b.toNat))) } := by
  refine ⟨by kernel_rfl, fun m w us hm hargs _ hG _ => ?_⟩
  obtain ⟨u1, us1, rfl, h1, u2, us2, rfl, h2, rfl⟩ := hargs
  obtain ⟨rfl, f1⟩ := h1
  obtain ⟨us, rfl, hus⟩ := h2
  obtain rfl : us = [] := by simpa [RpL] using hus
  have hpg : PredGrows Tryd.prog g #[] p w := fun W x _ hbW => by
    refine ((hg x).2 (fun _ _ => none) W [.int .i32 x] (fun _ _ _ h => by cases h) ⟨_, _, rfl, ⟨rfl, rfl⟩, rfl⟩ (by intro g h; cases h) (glob_below hbW hG) (by rintro b (h | h) <;> cases h)).mono fun e W' ⟨m', _, _, hpr, _, _, u, hu, hr⟩ => ?_
    obtain rfl : u = .bool (p x) := hr.1
    exact ⟨hu, below_of_pres hpr (by intro b h; rcases h with h | h <;> cases h)⟩
  have hT := Any.strings_ContainsFunc_grows Tryd.l17 g #[] eg p ⟨s.toArray⟩ w hpg
  change Calls Tryd.prog fn_strings_ContainsFunc _ _ _ at hT
  rw [idx_bys hp] at hT
  exact hT.mono fun e w' ⟨he, hb⟩ => post_val hm hb he ⟨rfl, rfl⟩ rfl

def pName (r : Nat) : Bool := ((decide (r < 97) || decide (122 < r)) && (decide (r < 48) || decide (57 < r))) && decide (r ≠ 45)
def pValue (r : Nat) : Bool := decide (r < 32) || decide (126 < r) || decide (r = 34)
theorem c_doc_Name_1 (r : Nat) : Contract Tryd.prog fn_doc_Name_1 [.val (.one (.v (.int .i32 r)))] { res := .val (bv (pName r)) } := by
  refine mk_doc_Name_1 (base := 0) ⟨Nat.le_of_ble_eq_true rfl, Nat.le_of_ble_eq_true rfl, Nat.le_of_ble_eq_true rfl, rfl⟩ (fun hfit => ?_)
  unfold F0 doc_Name_1_E
  simp (config := { maxSteps := 2000000 }) only [markU, List.set_cons_succ, List.set_cons_zero, List.map_cons, List.map_nil, argCt, setCells, ioOf, List.length_cons, List.length_nil, Nat.reduceAdd, Nat.reduceSub, List.replicate, List.cons_append, List.nil_append]
  try simp (config := { maxSteps := 2000000 }) only [go_sem, reduceCtorEq, Nat.reduceAdd, Nat.reduceEqDiff, reduceIte, Nat.reduceLeDiff, Nat.reduceLT, Nat.reduceSub]
  all_goals (repeat (with_reducible refine sAnd ?_))
  refine fin_val rfl trivial (.inl ?_)
  congr 3
  unfold pName
  grind
theorem c_doc_Value_1 (r : Nat) : Contract Tryd.prog fn_doc_Value_1 [.val (.one (.v (.int .i32 r)))] { res := .val (bv (pValue r)) } := by
  refine mk_doc_Value_1 (base := 0) ⟨Nat.le_of_ble_eq_true rfl, Nat.le_of_ble_eq_true rfl, Nat.le_of_ble_eq_true rfl, rfl⟩ (fun hfit => ?_)
  unfold F0 doc_Value_1_E
  simp (config := { maxSteps := 2000000 }) only [markU, List.set_cons_succ, List.set_cons_zero, List.map_cons, List.map_nil, argCt, setCells, ioOf, List.length_cons, List.length_nil, Nat.reduceAdd, Nat.reduceSub, List.replicate, List.cons_append, List.nil_append]
  try simp (config := { maxSteps := 2000000 }) only [go_sem, reduceCtorEq, Nat.reduceAdd, Nat.reduceEqDiff, reduceIte, Nat.reduceLeDiff, Nat.reduceLT, Nat.reduceSub]
  all_goals (repeat (with_reducible refine sAnd ?_))
  refine fin_val rfl trivial (.inl ?_)
  congr 3
  unfold pValue
  grind
theorem enter_1 : ∀ args w, (callFunc fn_doc_Name_1 args).run Tryd.prog w = .ok (.enter fn_doc_Name_1 args) w := enters_of Tryd.func149 (by kernel_rfl) rfl
theorem enter_2 : ∀ args w, (callFunc fn_doc_Value_1 args).run Tryd.prog w = .ok (.enter fn_doc_Value_1 args) w := enters_of Tryd.func151 (by kernel_rfl) rfl

theorem all_congr' {α : Type} {l : List α} {p q : α → Bool} (h : ∀ x, p x = q x) : l.all p = l.all q := by rw [show p = q from funext h]
theorem val_ch (b : UInt8) : (decide (b.toNat < 128) && !pValue b.toNat) = valCh b := by
  unfold pValue valCh
  grind
theorem name_ch (b : UInt8) : (decide (b.toNat < 128) && !pName b.toNat) = nameCh b := by
  unfold pName nameCh
  grind
theorem set_ch (b : UInt8) : ([97, 98, 99, 100, 101, 102, 103, 104, 105, 106, 107, 108, 109, 110, 111, 112, 113, 114, 115, 116, 117, 118, 119, 120, 121, 122, 48, 49, 50, 51, 52, 53, 54, 55, 56, 57, 45] : Bys).contains b = nameCh b := by
  have h : ∀ n : Fin 256, ([97, 98, 99, 100, 101, 102, 103, 104, 105, 106, 107, 108, 109, 110, 111, 112, 113, 114, 115, 116, 117, 118, 119, 120, 121, 122, 48, 49, 50, 51, 52, 53, 54, 55, 56, 57, 45] : Bys).contains (UInt8.ofFin n) = nameCh (UInt8.ofFin n) := by decide +kernel
  exact h b.toFin

theorem c_doc_Value (s : Bys) : Contract Tryd.prog fn_doc_Value [.val (sv s)] { res := .val (bv (isValue s)) } := by
  refine mk_doc_Value (base := 0) ⟨Nat.le_of_ble_eq_true rfl, Nat.le_of_ble_eq_true rfl, Nat.le_of_ble_eq_true rfl, rfl⟩ (fun hfit => ?_)
  unfold F0 doc_Value_E
  simp (config := { maxSteps := 2000000 }) only [markU, List.set_cons_succ, List.set_cons_zero, List.map_cons, List.map_nil, argCt, setCells, ioOf, List.length_cons, List.length_nil, Nat.reduceAdd, Nat.reduceSub, List.replicate, List.cons_append, List.nil_append]
  try simp (config := { maxSteps := 2000000 }) only [go_sem, reduceCtorEq, Nat.reduceAdd, Nat.reduceEqDiff, reduceIte, Nat.reduceLeDiff, Nat.reduceLT, Nat.reduceSub]
  all_goals (repeat (with_reducible refine sAnd ?_))
  apply call_guard (h2 := fun _ => c_strings_ContainsFunc s fn_doc_Value_1 pValue (by intro r h; unfold pValue; grind) enter_2 c_doc_Value_1)
  · (simp (config := { maxSteps := 2000000 }) only [go_sem, reduceCtorEq, Nat.reduceAdd, Nat.reduceEqDiff, reduceIte, Nat.reduceLeDiff, Nat.reduceLT, Nat.reduceSub]; rfl)
  · intro h; repeat' (first | exact trivial | exact h | refine And.intro ?_ ?_)
  try simp (config := { maxSteps := 2000000 }) only [go_sem, reduceCtorEq, Nat.reduceAdd, Nat.reduceEqDiff, reduceIte, Nat.reduceLeDiff, Nat.reduceLT, Nat.reduceSub]
  all_goals (repeat (with_reducible refine sAnd ?_))
  refine fin_val rfl trivial (.inl ?_)
  congr 3
  rw [all_congr' val_ch, isValue]
  grind
theorem c_doc_Name (s : Bys) : Contract Tryd.prog fn_doc_Name [.val (sv s)] { res := .val (bv (isName s)) } := by
  refine mk_doc_Name (base := 0) ⟨Nat.le_of_ble_eq_true rfl, Nat.le_of_ble_eq_true rfl, Nat.le_of_ble_eq_true rfl, rfl⟩ (fun hfit => ?_)
  unfold F0 doc_Name_E
  simp (config := { maxSteps := 2000000 }) only [markU, List.set_cons_succ, List.set_cons_zero, List.map_cons, List.map_nil, argCt, setCells, ioOf, List.length_cons, List.length_nil, Nat.reduceAdd, Nat.reduceSub, List.replicate, List.cons_append, List.nil_append]
  try simp (config := { maxSteps := 2000000 }) only [go_sem, reduceCtorEq, Nat.reduceAdd, Nat.reduceEqDiff, reduceIte, Nat.reduceLeDiff, Nat.reduceLT, Nat.reduceSub]
  all_goals (repeat (with_reducible refine sAnd ?_))
  apply call_guard (h2 := fun _ => c_strings_Trim s _ (by decide) (by decide))
  · (simp (config := { maxSteps := 2000000 }) only [go_sem, reduceCtorEq, Nat.reduceAdd, Nat.reduceEqDiff, reduceIte, Nat.reduceLeDiff, Nat.reduceLT, Nat.reduceSub]; rfl)
  · intro h; repeat' (first | exact trivial | exact h | refine And.intro ?_ ?_)
  try simp (config := { maxSteps := 2000000 }) only [go_sem, reduceCtorEq, Nat.reduceAdd, Nat.reduceEqDiff, reduceIte, Nat.reduceLeDiff, Nat.reduceLT, Nat.reduceSub]
  all_goals (repeat (with_reducible refine sAnd ?_))
  apply call_guard (h2 := fun _ => c_strings_ContainsFunc s fn_doc_Name_1 pName (by intro r h; unfold pName; grind) enter_1 c_doc_Name_1)
  · (simp (config := { maxSteps := 2000000 }) only [go_sem, reduceCtorEq, Nat.reduceAdd, Nat.reduceEqDiff, reduceIte, Nat.reduceLeDiff, Nat.reduceLT, Nat.reduceSub]; rfl)
  · intro h; repeat' (first | exact trivial | exact h | refine And.intro ?_ ?_)
  try simp (config := { maxSteps := 2000000 }) only [go_sem, reduceCtorEq, Nat.reduceAdd, Nat.reduceEqDiff, reduceIte, Nat.reduceLeDiff, Nat.reduceLT, Nat.reduceSub]
  all_goals (repeat (with_reducible refine sAnd ?_))
  refine fin_val rfl trivial (.inl ?_)
  congr 3
  rw [all_congr' name_ch, trim_nil, all_congr' set_ch, isName]
  grind
end Go.Hx
end

section
-- DOM getO, fdV, shV, listV, intsR_len, ptsV_len, stsV_len, tssV_len
set_option maxRecDepth 100000
set_option linter.unusedSimpArgs false
namespace Go.Hx
open Go.Proofs
variable [Glob]

attribute [local go_sem] ndsV_len clsV_len attV_len intsR_len ndV cellsEq getO fdV shV listV ptsV_len stsV_len tssV_len
theorem good_step (N : Nat) (ih : Good Tryd.prog N) (s : St) (d K : Nat) (c : Fd) (hN : SizeOf.sizeOf s ≤ N + 1) (hd : d ≤ 3) (hc : c.le K) (hK : K + bdS d ≤ 1000000000) : Contract Tryd.prog fn_path_look_step [.io (fdV c), .val (.agg (stV s)), .val (iv d)] { res := .tup [], io := fdV (c.add (ntS s d)) } := by
  rw [stV_eq]
  unfold fdV
  refine mk_path_look_step (base := 121) ⟨Nat.le_of_ble_eq_true rfl, Nat.le_of_ble_eq_true rfl, Nat.le_of_ble_eq_true rfl, ⟨rfl, rfl⟩⟩ (fun hfit => ?_)
  unfold F0 path_look_step_E
  simp (config := { maxSteps := 2000000 }) only [markU, List.set_cons_succ, List.set_cons_zero, List.map_cons, List.map_nil, argCt, setCells, ioOf, List.length_cons, List.length_nil, Nat.reduceAdd, Nat.reduceSub, List.replicate, List.cons_append, List.nil_append]
  try simp (config := { maxSteps := 2000000 }) only [go_sem, reduceCtorEq, Nat.reduceAdd, Nat.reduceEqDiff, reduceIte, Nat.reduceLeDiff, Nat.reduceLT, Nat.reduceSub]
  all_goals (repeat (with_reducible refine sAnd ?_))
  have hbs : bdS d = 1 + 6 * bdT d := rfl
  have hbt : bdT d = 5 + bd (d + 1) := rfl
  refine cond_of (by rfl) trivial (fun h => ?_) (fun h => ?_)
  · have e : ntS s d = fM true := by rw [ntS_eq, if_pos (by simp at h; omega)]
    have hm := hc.m
    try simp (config := { maxSteps := 2000000 }) only [go_sem, reduceCtorEq, Nat.reduceAdd, Nat.reduceEqDiff, reduceIte, Nat.reduceLeDiff, Nat.reduceLT, Nat.reduceSub]
    all_goals (repeat (with_reducible refine sAnd ?_))
    refine call_un (by repeat' constructor) (c_note_m c true (by omega)) ?_
    try simp (config := { maxSteps := 2000000 }) only [go_sem, reduceCtorEq, Nat.reduceAdd, Nat.reduceEqDiff, reduceIte, Nat.reduceLeDiff, Nat.reduceLT, Nat.reduceSub]
    all_goals (repeat (with_reducible refine sAnd ?_))
    rw [e]
    exact fin_unio rfl rfl
  · have hl6 : s.tests.length ≤ 6 := by simp at h; omega
    have e : ntS s d = (fF (!(s.tag == []) && !isName s.tag)).add (ntTs s.tests d) := by rw [ntS_eq, if_neg (by omega)]
    rw [e]
    try simp (config := { maxSteps := 2000000 }) only [go_sem, reduceCtorEq, Nat.reduceAdd, Nat.reduceEqDiff, reduceIte, Nat.reduceLeDiff, Nat.reduceLT, Nat.reduceSub]
    all_goals (repeat (with_reducible refine sAnd ?_))
    have hf := hc.f
    apply call_guard (h2 := fun _ => c_doc_Name s.tag)
    · (simp (config := { maxSteps := 2000000 }) only [go_sem, reduceCtorEq, Nat.reduceAdd, Nat.reduceEqDiff, reduceIte, Nat.reduceLeDiff, Nat.reduceLT, Nat.reduceSub]; rfl)
    · intro h; repeat' (first | exact trivial | exact h | refine And.intro ?_ ?_)
    try simp (config := { maxSteps := 2000000 }) only [go_sem, reduceCtorEq, Nat.reduceAdd, Nat.reduceEqDiff, reduceIte, Nat.reduceLeDiff, Nat.reduceLT, Nat.reduceSub]
    all_goals (repeat (with_reducible refine sAnd ?_))
    refine call_un (by repeat' constructor) (c_note_f c (bif !(s.tag == []) then !isName s.tag else false) (by omega)) ?_
    try simp (config := { maxSteps := 2000000 }) only [go_sem, reduceCtorEq, Nat.reduceAdd, Nat.reduceEqDiff, reduceIte, Nat.reduceLeDiff, Nat.reduceLT, Nat.reduceSub, Bool.cond_false_right]
    all_goals (repeat (with_reducible refine sAnd ?_))
    obtain ⟨c1, hc1⟩ : ∃ c1, c1 = c.add (fF (!(s.tag == []) && !isName s.tag)) := ⟨_, rfl⟩
    have hc2 : c1.le (K + 1) := by rw [hc1]; exact hc.le_add (le_fF _)
    rw [← Fd.add_assoc, ← hc1]
    have hK0 : K + 1 + (s.tests.length - 0) * bdT d ≤ 1000000000 := by
      have : (s.tests.length - 0) * bdT d ≤ 6 * bdT d := Nat.mul_le_mul_right _ (by omega)
      omega
    refine loop_sets (fun x : Nat × Fd => [(7, .un), (8, .un), (9, .un), (30, .pv (iv x.1)), (31, .un), (113, .un), (122, .pv (.one (bI x.2.f))), (123, .pv (.one (bI x.2.m))), (124, .pv (.one (bI x.2.r))), (125, .pv (.one (bI x.2.k)))]) (fun x : Nat × Fd => s.tests.length - x.1) (fun x : Nat × Fd => x.1 ≤ s.tests.length ∧ (∃ K', x.2.le K' ∧ K' + (s.tests.length - x.1) * bdT d ≤ 1000000000) ∧ x.2.add (ntTs (s.tests.drop x.1) d) = c1.add (ntTs s.tests d)) ((0, c1)) ?_ ⟨Nat.zero_le _, ⟨K + 1, hc2, hK0⟩, by simp⟩ ?_
    focus (simp (config := { maxSteps := 2000000 }) only [go_sem, reduceCtorEq, Nat.reduceAdd, Nat.reduceEqDiff, reduceIte, Nat.reduceLeDiff, Nat.reduceLT, Nat.reduceSub, le_cons, le_nil, le_un, le_same]; all_goals (repeat' (first | exact trivial | exact le_int (by omega) | exact le_bool rfl | exact le_eq rfl | exact le_nlo | exact le_refl _ | refine And.intro ?_ ?_)))
    rintro ⟨i, a⟩ ⟨hi, ⟨K', ha, hK'⟩, hsum⟩
    simp only at hi ha hK' hsum
    try simp (config := { maxSteps := 2000000 }) only [go_sem, reduceCtorEq, Nat.reduceAdd, Nat.reduceEqDiff, reduceIte, Nat.reduceLeDiff, Nat.reduceLT, Nat.reduceSub]
    all_goals (repeat (with_reducible refine sAnd ?_))
    refine cond_of (by rfl) trivial (fun h2 => ?_) (fun h2 => ?_)
    · have hil : i < s.tests.length := by simp at h2; omega
      rw [drop_get (d := default) hil] at hsum
      obtain ⟨t, ht⟩ : ∃ t, t = s.tests.getD i default := ⟨_, rfl⟩
      rw [← ht] at hsum
      have hg := tssV_get s.tests i hil
      rw [← ht, tsV_eq] at hg
      have hsz : SizeOf.sizeOf t.list ≤ N := by
        have h3 := lt_list t
        have h4 := lt_ts hil
        rw [← ht] at h4
        have h5 := lt_tests s
        omega
      have hmul : (s.tests.length - i) * bdT d = bdT d + (s.tests.length - (i + 1)) * bdT d := by
        have : s.tests.length - i = (s.tests.length - (i + 1)) + 1 := by omega
        rw [this, Nat.add_mul]; omega
      have hbp := bdF_pos (4 - (d + 1))
      have hbe : bd (d + 1) = bdF (4 - (d + 1)) := rfl
      simp only [ntTs, ntT_eq, ntT1] at hsum
      try simp (config := { maxSteps := 2000000 }) only [go_sem, reduceCtorEq, Nat.reduceAdd, Nat.reduceEqDiff, reduceIte, Nat.reduceLeDiff, Nat.reduceLT, Nat.reduceSub, hg]
      all_goals (repeat (with_reducible refine sAnd ?_))
      refine call_tup (by repeat' constructor) (c_path_of t.kind) ?_
      try simp (config := { maxSteps := 2000000 }) only [go_sem, reduceCtorEq, Nat.reduceAdd, Nat.reduceEqDiff, reduceIte, Nat.reduceLeDiff, Nat.reduceLT, Nat.reduceSub, hg]
      all_goals (repeat (with_reducible refine sAnd ?_))
      have a1 := ha.k
      refine call_un (by repeat' constructor) (c_note_k a (!kOk t.kind) (by omega)) ?_
      try simp (config := { maxSteps := 2000000 }) only [go_sem, reduceCtorEq, Nat.reduceAdd, Nat.reduceEqDiff, reduceIte, Nat.reduceLeDiff, Nat.reduceLT, Nat.reduceSub]
      all_goals (repeat (with_reducible refine sAnd ?_))
      obtain ⟨b1, hb1⟩ : ∃ b1, b1 = a.add (fK (!kOk t.kind)) := ⟨_, rfl⟩
      have l1 : b1.le (K' + 1) := by rw [hb1]; exact ha.le_add (le_fK _)
      rw [← hb1]
      have a2 := l1.f
      apply call_guard (h2 := fun _ => c_doc_Name t.name)
      · (simp (config := { maxSteps := 2000000 }) only [go_sem, reduceCtorEq, Nat.reduceAdd, Nat.reduceEqDiff, reduceIte, Nat.reduceLeDiff, Nat.reduceLT, Nat.reduceSub]; rfl)
      · intro h; repeat' (first | exact trivial | exact h | refine And.intro ?_ ?_)
      try simp (config := { maxSteps := 2000000 }) only [go_sem, reduceCtorEq, Nat.reduceAdd, Nat.reduceEqDiff, reduceIte, Nat.reduceLeDiff, Nat.reduceLT, Nat.reduceSub]
      all_goals (repeat (with_reducible refine sAnd ?_))
      refine call_un (by repeat' constructor) (c_note_f b1 _ (by omega)) ?_
      try simp (config := { maxSteps := 2000000 }) only [go_sem, reduceCtorEq, Nat.reduceAdd, Nat.reduceEqDiff, reduceIte, Nat.reduceLeDiff, Nat.reduceLT, Nat.reduceSub, Bool.cond_false_right, Bool.cond_true_left]
      all_goals (repeat (with_reducible refine sAnd ?_))
      obtain ⟨b2, hb2⟩ : ∃ b2, b2 = b1.add (fF (fmT1 t)) := ⟨_, rfl⟩
      have l2 : b2.le (K' + 1 + 1) := by rw [hb2]; exact l1.le_add (le_fF _)
      unfold fmT1 at hb2
      rw [← hb2]
      have a3 := l2.f
      apply call_guard (h2 := fun _ => c_doc_Value t.value)
      · (simp (config := { maxSteps := 2000000 }) only [go_sem, reduceCtorEq, Nat.reduceAdd, Nat.reduceEqDiff, reduceIte, Nat.reduceLeDiff, Nat.reduceLT, Nat.reduceSub]; rfl)
      · intro h; repeat' (first | exact trivial | exact h | refine And.intro ?_ ?_)
      try simp (config := { maxSteps := 2000000 }) only [go_sem, reduceCtorEq, Nat.reduceAdd, Nat.reduceEqDiff, reduceIte, Nat.reduceLeDiff, Nat.reduceLT, Nat.reduceSub]
      all_goals (repeat (with_reducible refine sAnd ?_))
      refine call_un (by repeat' constructor) (c_note_f b2 _ (by omega)) ?_
      try simp (config := { maxSteps := 2000000 }) only [go_sem, reduceCtorEq, Nat.reduceAdd, Nat.reduceEqDiff, reduceIte, Nat.reduceLeDiff, Nat.reduceLT, Nat.reduceSub, Bool.cond_false_right, Bool.cond_true_left]
      all_goals (repeat (with_reducible refine sAnd ?_))
      obtain ⟨b3, hb3⟩ : ∃ b3, b3 = b2.add (fF (fmT2 t)) := ⟨_, rfl⟩
      have l3 : b3.le (K' + 1 + 1 + 1) := by rw [hb3]; exact l2.le_add (le_fF _)
      unfold fmT2 at hb3
      rw [← hb3]
      have a4 := l3.f
      have e3 : decide (0 < (t.list.length : Int)) = decide (0 < t.list.length) := decide_eq_decide.2 (by omega)
      refine call_un (by repeat' constructor) (c_note_f b3 _ (by omega)) ?_
      try simp (config := { maxSteps := 2000000 }) only [go_sem, reduceCtorEq, Nat.reduceAdd, Nat.reduceEqDiff, reduceIte, Nat.reduceLeDiff, Nat.reduceLT, Nat.reduceSub, Bool.cond_false_right, Bool.cond_true_left, e3]
      all_goals (repeat (with_reducible refine sAnd ?_))
      obtain ⟨b4, hb4⟩ : ∃ b4, b4 = b3.add (fF (fmT3 t)) := ⟨_, rfl⟩
      have l4 : b4.le (K' + 1 + 1 + 1 + 1) := by rw [hb4]; exact l3.le_add (le_fF _)
      unfold fmT3 at hb4
      rw [← hb4]
      have a5 := l4.r
      refine call_val (by repeat' constructor) (c_nth_Check t.na t.nb) ?_
      try simp (config := { maxSteps := 2000000 }) only [go_sem, reduceCtorEq, Nat.reduceAdd, Nat.reduceEqDiff, reduceIte, Nat.reduceLeDiff, Nat.reduceLT, Nat.reduceSub]
      all_goals (repeat (with_reducible refine sAnd ?_))
      refine call_un (by repeat' constructor) (c_note_r b4 _ (by omega)) ?_
      try simp (config := { maxSteps := 2000000 }) only [go_sem, reduceCtorEq, Nat.reduceAdd, Nat.reduceEqDiff, reduceIte, Nat.reduceLeDiff, Nat.reduceLT, Nat.reduceSub]
      all_goals (repeat (with_reducible refine sAnd ?_))
      obtain ⟨b5, hb5⟩ : ∃ b5, b5 = b4.add (fR (nthE t.na t.nb != 0)) := ⟨_, rfl⟩
      have l5 : b5.le (K' + 1 + 1 + 1 + 1 + 1) := by rw [hb5]; exact l4.le_add (le_fR _)
      rw [← hb5]
      have hT : b5 = a.add (ntT1 t) := by
        rw [hb5, hb4, hb3, hb2, hb1]
        simp only [ntT1, kOk, fmT1, fmT2, fmT3, Fd.add_assoc]
        congr 6
      refine cond_of (by rfl) trivial (fun h3 => ?_) (fun h3 => ?_)
      · rw [if_pos h3, ← Fd.add_assoc, ← Fd.add_assoc] at hsum
        have hst := ih.1 t.list (d + 1) (K' + 5) b5 hsz (by omega) l5 (by omega)
        unfold fdV listV at hst
        rw [show ((d + 1 : Nat) : Int) = (d : Int) + 1 by omega] at hst
        try simp (config := { maxSteps := 2000000 }) only [go_sem, reduceCtorEq, Nat.reduceAdd, Nat.reduceEqDiff, reduceIte, Nat.reduceLeDiff, Nat.reduceLT, Nat.reduceSub]
        all_goals (repeat (with_reducible refine sAnd ?_))
        refine call_un (by repeat' constructor) (hst) ?_
        try simp (config := { maxSteps := 2000000 }) only [go_sem, reduceCtorEq, Nat.reduceAdd, Nat.reduceEqDiff, reduceIte, Nat.reduceLeDiff, Nat.reduceLT, Nat.reduceSub]
        all_goals (repeat (with_reducible refine sAnd ?_))
        refine ⟨(i + 1, b5.add (ntL t.list (d + 1))), by simp only; omega, ⟨by simp only; omega, ⟨K' + 5 + bd (d + 1), l5.le_add (b_L _ _), by simp only; omega⟩, ?_⟩, ?_⟩
        · simp only
          rw [← hsum, hT]
          rfl
        · simp (config := { maxSteps := 2000000 }) only [go_sem, reduceCtorEq, Nat.reduceAdd, Nat.reduceEqDiff, reduceIte, Nat.reduceLeDiff, Nat.reduceLT, Nat.reduceSub, le_cons, le_nil, le_un, le_same]
          all_goals (repeat' (first | exact trivial | exact le_int (by omega) | exact le_bool rfl | exact le_eq rfl | exact le_nlo | exact le_refl _ | refine And.intro ?_ ?_))
      · rw [if_neg (by rw [h3]; simp)] at hsum
        try simp (config := { maxSteps := 2000000 }) only [go_sem, reduceCtorEq, Nat.reduceAdd, Nat.reduceEqDiff, reduceIte, Nat.reduceLeDiff, Nat.reduceLT, Nat.reduceSub]
        all_goals (repeat (with_reducible refine sAnd ?_))
        refine ⟨(i + 1, b5), by simp only; omega, ⟨by simp only; omega, ⟨K' + 5, l5, by simp only; omega⟩, ?_⟩, ?_⟩
        · simp only
          rw [← hsum, hT]
          simp only [ntT1, Fd.add_assoc, Fd.zero_add]
        · simp (config := { maxSteps := 2000000 }) only [go_sem, reduceCtorEq, Nat.reduceAdd, Nat.reduceEqDiff, reduceIte, Nat.reduceLeDiff, Nat.reduceLT, Nat.reduceSub, le_cons, le_nil, le_un, le_same]
          all_goals (repeat' (first | exact trivial | exact le_int (by omega) | exact le_bool rfl | exact le_eq rfl | exact le_nlo | exact le_refl _ | refine And.intro ?_ ?_))
    · have hil : i = s.tests.length := by simp at h2; omega
      subst hil
      rw [List.drop_length] at hsum
      try simp (config := { maxSteps := 2000000 }) only [go_sem, reduceCtorEq, Nat.reduceAdd, Nat.reduceEqDiff, reduceIte, Nat.reduceLeDiff, Nat.reduceLT, Nat.reduceSub]
      all_goals (repeat (with_reducible refine sAnd ?_))
      rw [← hsum]
      exact fin_unio_n rfl rfl
theorem sz_pos_pt (l : List Pt) : 0 < SizeOf.sizeOf l := by cases l <;> simp <;> omega
theorem sz_pos_st (s : St) : 0 < SizeOf.sizeOf s := by cases s; simp only [St.mk.sizeOf_spec]; omega
theorem good_all : ∀ N, Good Tryd.prog N
  | 0 => ⟨fun l d K c h => by have := sz_pos_pt l; omega, fun s d K c h => by have := sz_pos_st s; omega⟩
  | N + 1 => ⟨fun l d K c h1 h2 h3 h4 => good_list N (good_all N) l d K c h1 h2 h3 h4, fun s d K c h1 h2 h3 h4 => good_step N (good_all N) s d K c h1 h2 h3 h4⟩
theorem c_path_look_list (l : List Pt) : Contract Tryd.prog fn_path_look_list [.io (fdV fd0), .val (listV l), .val (iv 1)] { res := .tup [], io := fdV (ntL l 1) } := by
  have h := (good_all (SizeOf.sizeOf l)).1 l 1 0 fd0 (Nat.le_refl _) (by omega) (le_fd0 0) (by have := bd_one; omega)
  rw [Fd.zero_add] at h
  exact h

theorem c_path_Check (l : List Pt) : Contract Tryd.prog fn_path_Check [.val (listV l)] { res := .val (iv (checkL l)) } := by
  rw [← errF_L]
  have hc := c_path_look_list l
  obtain ⟨c, hcc⟩ : ∃ c, c = ntL l 1 := ⟨_, rfl⟩
  rw [← hcc] at hc ⊢
  unfold listV
  refine mk_path_Check (base := 0) ⟨Nat.le_of_ble_eq_true rfl, Nat.le_of_ble_eq_true rfl, Nat.le_of_ble_eq_true rfl, rfl⟩ (fun hfit => ?_)
  unfold F0 path_Check_E
  simp (config := { maxSteps := 2000000 }) only [markU, List.set_cons_succ, List.set_cons_zero, List.map_cons, List.map_nil, argCt, setCells, ioOf, List.length_cons, List.length_nil, Nat.reduceAdd, Nat.reduceSub, List.replicate, List.cons_append, List.nil_append]
  try simp (config := { maxSteps := 2000000 }) only [go_sem, reduceCtorEq, Nat.reduceAdd, Nat.reduceEqDiff, reduceIte, Nat.reduceLeDiff, Nat.reduceLT, Nat.reduceSub]
  all_goals (repeat (with_reducible refine sAnd ?_))
  unfold fdV listV at hc
  refine call_un (by repeat' constructor) (hc) ?_
  try simp (config := { maxSteps := 2000000 }) only [go_sem, reduceCtorEq, Nat.reduceAdd, Nat.reduceEqDiff, reduceIte, Nat.reduceLeDiff, Nat.reduceLT, Nat.reduceSub]
  all_goals (repeat (with_reducible refine sAnd ?_))
  refine call_val (by repeat' constructor) (c_path_order) ?_
  try simp (config := { maxSteps := 2000000 }) only [go_sem, reduceCtorEq, Nat.reduceAdd, Nat.reduceEqDiff, reduceIte, Nat.reduceLeDiff, Nat.reduceLT, Nat.reduceSub]
  all_goals (repeat (with_reducible refine sAnd ?_))
  refine loop_sets (fun i : Nat => [(5, .un), (12, .pv (iv i)), (13, .un), (21, .un)]) (fun i : Nat => 4 - i) (fun i : Nat => i ≤ 4 ∧ (1 ≤ i → c.m = 0) ∧ (2 ≤ i → c.k = 0) ∧ (3 ≤ i → c.f = 0) ∧ (4 ≤ i → c.r = 0)) (0) ?_ ⟨by omega, by omega, by omega, by omega, by omega⟩ ?_
  focus (simp (config := { maxSteps := 2000000 }) only [go_sem, reduceCtorEq, Nat.reduceAdd, Nat.reduceEqDiff, reduceIte, Nat.reduceLeDiff, Nat.reduceLT, Nat.reduceSub, le_cons, le_nil, le_un, le_same]; all_goals (repeat' (first | exact trivial | exact le_int (by omega) | exact le_bool rfl | exact le_eq rfl | exact le_nlo | exact le_refl _ | refine And.intro ?_ ?_)))
  rintro i ⟨hi, h1, h2, h3, h4⟩
  try simp (config := { maxSteps := 2000000 }) only [go_sem, reduceCtorEq, Nat.reduceAdd, Nat.reduceEqDiff, reduceIte, Nat.reduceLeDiff, Nat.reduceLT, Nat.reduceSub]
  all_goals (repeat (with_reducible refine sAnd ?_))
  refine cond_of (by rfl) trivial (fun h => ?_) (fun h => ?_)
  · have hlt : i < 4 := by simp at h; omega
    have hcase : i = 0 ∨ i = 1 ∨ i = 2 ∨ i = 3 := by omega
    rcases hcase with rfl | rfl | rfl | rfl
    · try simp (config := { maxSteps := 2000000 }) only [go_sem, reduceCtorEq, Nat.reduceAdd, Nat.reduceEqDiff, reduceIte, Nat.reduceLeDiff, Nat.reduceLT, Nat.reduceSub, Int.reduceToNat, Int.toNat_natCast, List.getD_cons_zero, List.getD_cons_succ, PV.norm, Int.cast_ofNat_Int]
      all_goals (repeat (with_reducible refine sAnd ?_))
      refine cond_of (by rfl) trivial (fun h5 => ?_) (fun h5 => ?_)
      · try simp (config := { maxSteps := 2000000 }) only [go_sem, reduceCtorEq, Nat.reduceAdd, Nat.reduceEqDiff, reduceIte, Nat.reduceLeDiff, Nat.reduceLT, Nat.reduceSub]
        all_goals (repeat (with_reducible refine sAnd ?_))
        refine fin_val rfl trivial (.inl ?_)
        congr 3
        have h6 : 0 < c.m := by simp at h5; omega
        unfold errF
        simp [ h6]
      · try simp (config := { maxSteps := 2000000 }) only [go_sem, reduceCtorEq, Nat.reduceAdd, Nat.reduceEqDiff, reduceIte, Nat.reduceLeDiff, Nat.reduceLT, Nat.reduceSub]
        all_goals (repeat (with_reducible refine sAnd ?_))
        have h6 : c.m = 0 := by simp at h5; omega
        refine ⟨1, by omega, ⟨by omega, fun _ => h6, by omega, by omega, by omega⟩, ?_⟩
        simp (config := { maxSteps := 2000000 }) only [go_sem, reduceCtorEq, Nat.reduceAdd, Nat.reduceEqDiff, reduceIte, Nat.reduceLeDiff, Nat.reduceLT, Nat.reduceSub, le_cons, le_nil, le_un, le_same]
        all_goals (repeat' (first | exact trivial | exact le_int (by omega) | exact le_bool rfl | exact le_eq rfl | exact le_nlo | exact le_refl _ | refine And.intro ?_ ?_))
    · try simp (config := { maxSteps := 2000000 }) only [go_sem, reduceCtorEq, Nat.reduceAdd, Nat.reduceEqDiff, reduceIte, Nat.reduceLeDiff, Nat.reduceLT, Nat.reduceSub, Int.reduceToNat, Int.toNat_natCast, List.getD_cons_zero, List.getD_cons_succ, PV.norm, Int.cast_ofNat_Int]
      all_goals (repeat (with_reducible refine sAnd ?_))
      refine cond_of (by rfl) trivial (fun h5 => ?_) (fun h5 => ?_)
      · try simp (config := { maxSteps := 2000000 }) only [go_sem, reduceCtorEq, Nat.reduceAdd, Nat.reduceEqDiff, reduceIte, Nat.reduceLeDiff, Nat.reduceLT, Nat.reduceSub]
        all_goals (repeat (with_reducible refine sAnd ?_))
        refine fin_val rfl trivial (.inl ?_)
        congr 3
        have h6 : 0 < c.k := by simp at h5; omega
        unfold errF
        simp [h1 (by omega),  h6]
      · try simp (config := { maxSteps := 2000000 }) only [go_sem, reduceCtorEq, Nat.reduceAdd, Nat.reduceEqDiff, reduceIte, Nat.reduceLeDiff, Nat.reduceLT, Nat.reduceSub]
        all_goals (repeat (with_reducible refine sAnd ?_))
        have h6 : c.k = 0 := by simp at h5; omega
        refine ⟨2, by omega, ⟨by omega, fun _ => h1 (by omega), fun _ => h6, by omega, by omega⟩, ?_⟩
        simp (config := { maxSteps := 2000000 }) only [go_sem, reduceCtorEq, Nat.reduceAdd, Nat.reduceEqDiff, reduceIte, Nat.reduceLeDiff, Nat.reduceLT, Nat.reduceSub, le_cons, le_nil, le_un, le_same]
        all_goals (repeat' (first | exact trivial | exact le_int (by omega) | exact le_bool rfl | exact le_eq rfl | exact le_nlo | exact le_refl _ | refine And.intro ?_ ?_))
    · try simp (config := { maxSteps := 2000000 }) only [go_sem, reduceCtorEq, Nat.reduceAdd, Nat.reduceEqDiff, reduceIte, Nat.reduceLeDiff, Nat.reduceLT, Nat.reduceSub, Int.reduceToNat, Int.toNat_natCast, List.getD_cons_zero, List.getD_cons_succ, PV.norm, Int.cast_ofNat_Int]
      all_goals (repeat (with_reducible refine sAnd ?_))
      refine cond_of (by rfl) trivial (fun h5 => ?_) (fun h5 => ?_)
      · try simp (config := { maxSteps := 2000000 }) only [go_sem, reduceCtorEq, Nat.reduceAdd, Nat.reduceEqDiff, reduceIte, Nat.reduceLeDiff, Nat.reduceLT, Nat.reduceSub]
        all_goals (repeat (with_reducible refine sAnd ?_))
        refine fin_val rfl trivial (.inl ?_)
        congr 3
        have h6 : 0 < c.f := by simp at h5; omega
        unfold errF
        simp [h1 (by omega), h2 (by omega),  h6]
      · try simp (config := { maxSteps := 2000000 }) only [go_sem, reduceCtorEq, Nat.reduceAdd, Nat.reduceEqDiff, reduceIte, Nat.reduceLeDiff, Nat.reduceLT, Nat.reduceSub]
        all_goals (repeat (with_reducible refine sAnd ?_))
        have h6 : c.f = 0 := by simp at h5; omega
        refine ⟨3, by omega, ⟨by omega, fun _ => h1 (by omega), fun _ => h2 (by omega), fun _ => h6, by omega⟩, ?_⟩
        simp (config := { maxSteps := 2000000 }) only [go_sem, reduceCtorEq, Nat.reduceAdd, Nat.reduceEqDiff, reduceIte, Nat.reduceLeDiff, Nat.reduceLT, Nat.reduceSub, le_cons, le_nil, le_un, le_same]
        all_goals (repeat' (first | exact trivial | exact le_int (by omega) | exact le_bool rfl | exact le_eq rfl | exact le_nlo | exact le_refl _ | refine And.intro ?_ ?_))
    · try simp (config := { maxSteps := 2000000 }) only [go_sem, reduceCtorEq, Nat.reduceAdd, Nat.reduceEqDiff, reduceIte, Nat.reduceLeDiff, Nat.reduceLT, Nat.reduceSub, Int.reduceToNat, Int.toNat_natCast, List.getD_cons_zero, List.getD_cons_succ, PV.norm, Int.cast_ofNat_Int]
      all_goals (repeat (with_reducible refine sAnd ?_))
      refine cond_of (by rfl) trivial (fun h5 => ?_) (fun h5 => ?_)
      · try simp (config := { maxSteps := 2000000 }) only [go_sem, reduceCtorEq, Nat.reduceAdd, Nat.reduceEqDiff, reduceIte, Nat.reduceLeDiff, Nat.reduceLT, Nat.reduceSub]
        all_goals (repeat (with_reducible refine sAnd ?_))
        refine fin_val rfl trivial (.inl ?_)
        congr 3
        have h6 : 0 < c.r := by simp at h5; omega
        unfold errF
        simp [h1 (by omega), h2 (by omega), h3 (by omega),  h6]
      · try simp (config := { maxSteps := 2000000 }) only [go_sem, reduceCtorEq, Nat.reduceAdd, Nat.reduceEqDiff, reduceIte, Nat.reduceLeDiff, Nat.reduceLT, Nat.reduceSub]
        all_goals (repeat (with_reducible refine sAnd ?_))
        have h6 : c.r = 0 := by simp at h5; omega
        refine ⟨4, by omega, ⟨by omega, fun _ => h1 (by omega), fun _ => h2 (by omega), fun _ => h3 (by omega), fun _ => h6⟩, ?_⟩
        simp (config := { maxSteps := 2000000 }) only [go_sem, reduceCtorEq, Nat.reduceAdd, Nat.reduceEqDiff, reduceIte, Nat.reduceLeDiff, Nat.reduceLT, Nat.reduceSub, le_cons, le_nil, le_un, le_same]
        all_goals (repeat' (first | exact trivial | exact le_int (by omega) | exact le_bool rfl | exact le_eq rfl | exact le_nlo | exact le_refl _ | refine And.intro ?_ ?_))
  · have hi4 : i = 4 := by simp at h; omega
    try simp (config := { maxSteps := 2000000 }) only [go_sem, reduceCtorEq, Nat.reduceAdd, Nat.reduceEqDiff, reduceIte, Nat.reduceLeDiff, Nat.reduceLT, Nat.reduceSub]
    all_goals (repeat (with_reducible refine sAnd ?_))
    refine fin_val rfl trivial (.inl ?_)
    congr 3
    unfold errF
    simp [h1 (by omega), h2 (by omega), h3 (by omega), h4 (by omega)]
end Go.Hx
end

section
-- DOM getO, listV, intsR_len, ptsV_len, stsV_len, tssV_len
set_option maxRecDepth 100000
set_option linter.unusedSimpArgs false
namespace Go.Hx
open Go.Proofs
variable [Glob]

attribute [local go_sem] ndsV_len clsV_len attV_len intsR_len ndV cellsEq getO listV ptsV_len stsV_len tssV_len
theorem c_ref_has (k : Int) : Contract Tryd.prog fn_ref_has [.val (iv k)] { res := .tup [bv (kName k), bv (kValue k), bv (kNth k), bv (kList k)] } := by
  refine mk_ref_has (base := 0) ⟨Nat.le_of_ble_eq_true rfl, Nat.le_of_ble_eq_true rfl, Nat.le_of_ble_eq_true rfl, rfl⟩ (fun hfit => ?_)
  unfold F0 ref_has_E
  simp (config := { maxSteps := 2000000 }) only [markU, List.set_cons_succ, List.set_cons_zero, List.map_cons, List.map_nil, argCt, setCells, ioOf, List.length_cons, List.length_nil, Nat.reduceAdd, Nat.reduceSub, List.replicate, List.cons_append, List.nil_append]
  try simp (config := { maxSteps := 2000000 }) only [go_sem, reduceCtorEq, Nat.reduceAdd, Nat.reduceEqDiff, reduceIte, Nat.reduceLeDiff, Nat.reduceLT, Nat.reduceSub]
  all_goals (repeat (with_reducible refine sAnd ?_))
  refine call_val (by repeat' constructor) (c_ref_within k 1 8) ?_
  try simp (config := { maxSteps := 2000000 }) only [go_sem, reduceCtorEq, Nat.reduceAdd, Nat.reduceEqDiff, reduceIte, Nat.reduceLeDiff, Nat.reduceLT, Nat.reduceSub]
  all_goals (repeat (with_reducible refine sAnd ?_))
  refine call_val (by repeat' constructor) (c_ref_within k 4 8) ?_
  try simp (config := { maxSteps := 2000000 }) only [go_sem, reduceCtorEq, Nat.reduceAdd, Nat.reduceEqDiff, reduceIte, Nat.reduceLeDiff, Nat.reduceLT, Nat.reduceSub]
  all_goals (repeat (with_reducible refine sAnd ?_))
  refine call_val (by repeat' constructor) (c_ref_within k 13 15) ?_
  try simp (config := { maxSteps := 2000000 }) only [go_sem, reduceCtorEq, Nat.reduceAdd, Nat.reduceEqDiff, reduceIte, Nat.reduceLeDiff, Nat.reduceLT, Nat.reduceSub]
  all_goals (repeat (with_reducible refine sAnd ?_))
  have e : kNth k = (bif k == 9 then true else k == 10) := by
    unfold kNth
    by_cases h1 : k = 9 <;> by_cases h2 : k = 10 <;> simp [h1, h2]
  rw [e]
  exact fin_tup (by simp) ⟨rs_tmp rfl trivial (.inl rfl), rs_tmp rfl trivial (.inl rfl), rs_tmp rfl trivial (.inl rfl), rs_tmp rfl trivial (.inl rfl), rfl⟩

theorem int_len1 (n : Nat) : decide (1 ≤ (n : Int) ∧ (n : Int) ≤ 5) = decide (1 ≤ n ∧ n ≤ 5) := decide_eq_decide.2 (by omega)
theorem int_gt6 (n : Nat) : decide (6 < (n : Int)) = decide (6 < n) := decide_eq_decide.2 (by omega)
theorem int_ne (a b : Int) : (a != b) = decide (a ≠ b) := by by_cases h : a = b <;> simp [h]

theorem c_tm : ∀ (N : Nat) (l : List Pt) (d : Nat), SizeOf.sizeOf l ≤ N → d ≤ 4 → Contract Tryd.prog fn_ref_tooMany [.val (listV l), .val (iv d)] { res := .val (bv (tmL l d)) }
  | 0, l, d, hN, _ => by have := sz_pos_pt l; omega
  | N + 1, l, d, hN, hd => by
    have e3 : decide (3 < (d : Int)) = decide (3 < d) := decide_eq_decide.2 (by omega)
    unfold listV
    refine mk_ref_tooMany (base := 0) ⟨Nat.le_of_ble_eq_true rfl, Nat.le_of_ble_eq_true rfl, Nat.le_of_ble_eq_true rfl, rfl⟩ (fun hfit => ?_)
    unfold F0 ref_tooMany_E
    simp (config := { maxSteps := 2000000 }) only [markU, List.set_cons_succ, List.set_cons_zero, List.map_cons, List.map_nil, argCt, setCells, ioOf, List.length_cons, List.length_nil, Nat.reduceAdd, Nat.reduceSub, List.replicate, List.cons_append, List.nil_append]
    try simp (config := { maxSteps := 2000000 }) only [go_sem, reduceCtorEq, Nat.reduceAdd, Nat.reduceEqDiff, reduceIte, Nat.reduceLeDiff, Nat.reduceLT, Nat.reduceSub]
    all_goals (repeat (with_reducible refine sAnd ?_))
    apply call_guard (h2 := fun _ => c_ref_within l.length 1 5)
    · (simp (config := { maxSteps := 2000000 }) only [go_sem, reduceCtorEq, Nat.reduceAdd, Nat.reduceEqDiff, reduceIte, Nat.reduceLeDiff, Nat.reduceLT, Nat.reduceSub]; rfl)
    · intro h; repeat' (first | exact trivial | exact h | refine And.intro ?_ ?_)
    try simp (config := { maxSteps := 2000000 }) only [go_sem, reduceCtorEq, Nat.reduceAdd, Nat.reduceEqDiff, reduceIte, Nat.reduceLeDiff, Nat.reduceLT, Nat.reduceSub, int_len1, e3, Bool.cond_true_left]
    all_goals (repeat (with_reducible refine sAnd ?_))
    refine cond_of (by rfl) trivial (fun h => ?_) (fun h => ?_)
    · try simp (config := { maxSteps := 2000000 }) only [go_sem, reduceCtorEq, Nat.reduceAdd, Nat.reduceEqDiff, reduceIte, Nat.reduceLeDiff, Nat.reduceLT, Nat.reduceSub]
      all_goals (repeat (with_reducible refine sAnd ?_))
      refine fin_val rfl trivial (.inl ?_)
      congr 3
      unfold tmL
      rw [h]; rfl
    · have hL : tmL l d = tmPs l d := by unfold tmL; rw [h]; rfl
      have hd3 : d ≤ 3 ∧ l.length ≤ 5 := by
        simp at h; omega
      try simp (config := { maxSteps := 2000000 }) only [go_sem, reduceCtorEq, Nat.reduceAdd, Nat.reduceEqDiff, reduceIte, Nat.reduceLeDiff, Nat.reduceLT, Nat.reduceSub]
      all_goals (repeat (with_reducible refine sAnd ?_))
      refine loop_sets (fun i : Nat => [(5, .pv (iv i)), (4, .un), (6, .un), (7, .un), (8, .un), (9, .un), (13, .un), (25, .un), (46, .un), (51, .un), (61, .un), (70, .un), (97, .un)]) (fun i : Nat => l.length - i) (fun i : Nat => i ≤ l.length ∧ tmPs (l.drop i) d = tmL l d) (0) ?_ ⟨Nat.zero_le _, by rw [hL]; rfl⟩ ?_
      focus (simp (config := { maxSteps := 2000000 }) only [go_sem, reduceCtorEq, Nat.reduceAdd, Nat.reduceEqDiff, reduceIte, Nat.reduceLeDiff, Nat.reduceLT, Nat.reduceSub, le_cons, le_nil, le_un, le_same]; all_goals (repeat' (first | exact trivial | exact le_int (by omega) | exact le_bool rfl | exact le_eq rfl | exact le_nlo | exact le_refl _ | refine And.intro ?_ ?_)))
      rintro i ⟨hi, hinv⟩
      try simp (config := { maxSteps := 2000000 }) only [go_sem, reduceCtorEq, Nat.reduceAdd, Nat.reduceEqDiff, reduceIte, Nat.reduceLeDiff, Nat.reduceLT, Nat.reduceSub]
      all_goals (repeat (with_reducible refine sAnd ?_))
      refine cond_of (by rfl) trivial (fun h2 => ?_) (fun h2 => ?_)
      · have hil : i < l.length := by simp at h2; omega
        rw [drop_get (d := default) hil] at hinv
        obtain ⟨p, hp⟩ : ∃ p, p = l.getD i default := ⟨_, rfl⟩
        rw [← hp] at hinv
        have hg : (ptsV l).getD i [] = [.sl 2 (stsV p.steps), .sl 1 (intsR p.links)] := by rw [ptsV_get l i hil, ← hp, ptV_eq]
        have hsz : SizeOf.sizeOf p.steps ≤ N := by
          have h3 := lt_steps p
          have h4 := lt_pt hil
          rw [← hp] at h4
          omega
        simp only [tmPs] at hinv
        have hps : tmP p d = (!(decide (1 ≤ p.steps.length ∧ p.steps.length ≤ 5)) || decide ((p.links.length : Int) ≠ p.steps.length - 1) || tmSs p.steps d) := by cases p; rfl
        have hin : (!decide (1 ≤ p.steps.length ∧ p.steps.length ≤ 5)) = false → inR .i64 ((p.steps.length : Int) - 1) := by
          intro h5
          have : 1 ≤ p.steps.length ∧ p.steps.length ≤ 5 := by simpa using h5
          exact inR_small (by omega) (by omega)
        try simp (config := { maxSteps := 2000000 }) only [go_sem, reduceCtorEq, Nat.reduceAdd, Nat.reduceEqDiff, reduceIte, Nat.reduceLeDiff, Nat.reduceLT, Nat.reduceSub, hg]
        all_goals (repeat (with_reducible refine sAnd ?_))
        refine call_val (by repeat' constructor) (c_ref_within p.steps.length 1 5) ?_
        try simp (config := { maxSteps := 2000000 }) only [go_sem, reduceCtorEq, Nat.reduceAdd, Nat.reduceEqDiff, reduceIte, Nat.reduceLeDiff, Nat.reduceLT, Nat.reduceSub, int_len1, Bool.cond_true_left, int_ne]
        all_goals (repeat (with_reducible refine sAnd ?_))
        refine cond_of (by rfl) trivial (fun h3 => ?_) (fun h3 => ?_)
        · try simp (config := { maxSteps := 2000000 }) only [go_sem, reduceCtorEq, Nat.reduceAdd, Nat.reduceEqDiff, reduceIte, Nat.reduceLeDiff, Nat.reduceLT, Nat.reduceSub]
          all_goals (repeat (with_reducible refine sAnd ?_))
          refine fin_val rfl trivial (.inl ?_)
          congr 3
          rw [← hinv, hps, h3]; rfl
        · have hp5 : p.steps.length ≤ 5 := by simp at h3; omega
          rw [h3, Bool.false_or] at hps
          try simp (config := { maxSteps := 2000000 }) only [go_sem, reduceCtorEq, Nat.reduceAdd, Nat.reduceEqDiff, reduceIte, Nat.reduceLeDiff, Nat.reduceLT, Nat.reduceSub]
          all_goals (repeat (with_reducible refine sAnd ?_))
          refine loop_sets (fun k : Nat => [(7, .pv (iv k)), (4, .un), (8, .un), (9, .un), (13, .un), (51, .un), (61, .un), (70, .un), (97, .un)]) (fun k : Nat => p.steps.length - k) (fun k : Nat => k ≤ p.steps.length ∧ tmSs (p.steps.drop k) d = tmSs p.steps d) (0) ?_ ⟨Nat.zero_le _, rfl⟩ ?_
          focus (simp (config := { maxSteps := 2000000 }) only [go_sem, reduceCtorEq, Nat.reduceAdd, Nat.reduceEqDiff, reduceIte, Nat.reduceLeDiff, Nat.reduceLT, Nat.reduceSub, le_cons, le_nil, le_un, le_same]; all_goals (repeat' (first | exact trivial | exact le_int (by omega) | exact le_bool rfl | exact le_eq rfl | exact le_nlo | exact le_refl _ | refine And.intro ?_ ?_)))
          rintro k ⟨hk, hinv2⟩
          try simp (config := { maxSteps := 2000000 }) only [go_sem, reduceCtorEq, Nat.reduceAdd, Nat.reduceEqDiff, reduceIte, Nat.reduceLeDiff, Nat.reduceLT, Nat.reduceSub]
          all_goals (repeat (with_reducible refine sAnd ?_))
          refine cond_of (by rfl) trivial (fun h4 => ?_) (fun h4 => ?_)
          · have hkl : k < p.steps.length := by simp at h4; omega
            rw [drop_get (d := default) hkl] at hinv2
            obtain ⟨q, hq⟩ : ∃ q, q = p.steps.getD k default := ⟨_, rfl⟩
            rw [← hq] at hinv2
            have hg3 : (stsV p.steps).getD k [] = [bS q.tag, .sl 6 (tssV q.tests)] := by rw [stsV_get _ k hkl, ← hq, stV_eq]
            simp only [tmSs] at hinv2
            have hqs : tmS q d = (decide (6 < q.tests.length) || tmTs q.tests d) := by cases q; rfl
            try simp (config := { maxSteps := 2000000 }) only [go_sem, reduceCtorEq, Nat.reduceAdd, Nat.reduceEqDiff, reduceIte, Nat.reduceLeDiff, Nat.reduceLT, Nat.reduceSub, hg3, int_gt6]
            all_goals (repeat (with_reducible refine sAnd ?_))
            refine cond_of (by rfl) trivial (fun h5 => ?_) (fun h5 => ?_)
            · try simp (config := { maxSteps := 2000000 }) only [go_sem, reduceCtorEq, Nat.reduceAdd, Nat.reduceEqDiff, reduceIte, Nat.reduceLeDiff, Nat.reduceLT, Nat.reduceSub]
              all_goals (repeat (with_reducible refine sAnd ?_))
              refine fin_val rfl trivial (.inl ?_)
              congr 3
              rw [← hinv, hps, ← hinv2, hqs, h5]; rfl
            · have hq6 : q.tests.length ≤ 6 := by simpa using h5
              rw [h5, Bool.false_or] at hqs
              try simp (config := { maxSteps := 2000000 }) only [go_sem, reduceCtorEq, Nat.reduceAdd, Nat.reduceEqDiff, reduceIte, Nat.reduceLeDiff, Nat.reduceLT, Nat.reduceSub]
              all_goals (repeat (with_reducible refine sAnd ?_))
              refine loop_sets (fun j : Nat => [(8, .pv (iv j)), (4, .un), (9, .un), (13, .un), (70, .un), (97, .un)]) (fun j : Nat => q.tests.length - j) (fun j : Nat => j ≤ q.tests.length ∧ tmTs (q.tests.drop j) d = tmTs q.tests d) (0) ?_ ⟨Nat.zero_le _, rfl⟩ ?_
              focus (simp (config := { maxSteps := 2000000 }) only [go_sem, reduceCtorEq, Nat.reduceAdd, Nat.reduceEqDiff, reduceIte, Nat.reduceLeDiff, Nat.reduceLT, Nat.reduceSub, le_cons, le_nil, le_un, le_same]; all_goals (repeat' (first | exact trivial | exact le_int (by omega) | exact le_bool rfl | exact le_eq rfl | exact le_nlo | exact le_refl _ | refine And.intro ?_ ?_)))
              rintro j ⟨hj, hinv3⟩
              try simp (config := { maxSteps := 2000000 }) only [go_sem, reduceCtorEq, Nat.reduceAdd, Nat.reduceEqDiff, reduceIte, Nat.reduceLeDiff, Nat.reduceLT, Nat.reduceSub, hg3]
              all_goals (repeat (with_reducible refine sAnd ?_))
              refine cond_of (by rfl) trivial (fun h6 => ?_) (fun h6 => ?_)
              · have hjl : j < q.tests.length := by simp at h6; omega
                rw [drop_get (d := default) hjl] at hinv3
                obtain ⟨t, ht⟩ : ∃ t, t = q.tests.getD j default := ⟨_, rfl⟩
                rw [← ht] at hinv3
                have hg4 := tssV_get q.tests j hjl
                rw [← ht, tsV_eq] at hg4
                have hszt : SizeOf.sizeOf t.list ≤ N := by
                  have h7 := lt_list t
                  have h8 := lt_ts hjl
                  rw [← ht] at h8
                  have h9 := lt_st hkl
                  rw [← hq] at h9
                  have h10 := lt_tests q
                  omega
                simp only [tmTs] at hinv3
                have hts : tmT t d = (kList t.kind && tmL t.list (d + 1)) := by cases t; rfl
                have hrec := c_tm N t.list (d + 1) hszt (by omega)
                unfold listV at hrec
                rw [show ((d + 1 : Nat) : Int) = (d : Int) + 1 by omega] at hrec
                try simp (config := { maxSteps := 2000000 }) only [go_sem, reduceCtorEq, Nat.reduceAdd, Nat.reduceEqDiff, reduceIte, Nat.reduceLeDiff, Nat.reduceLT, Nat.reduceSub, hg3, hg4]
                all_goals (repeat (with_reducible refine sAnd ?_))
                refine call_tup (by repeat' constructor) (c_ref_has t.kind) ?_
                try simp (config := { maxSteps := 2000000 }) only [go_sem, reduceCtorEq, Nat.reduceAdd, Nat.reduceEqDiff, reduceIte, Nat.reduceLeDiff, Nat.reduceLT, Nat.reduceSub]
                all_goals (repeat (with_reducible refine sAnd ?_))
                apply call_guard (h2 := fun _ => hrec)
                · (simp (config := { maxSteps := 2000000 }) only [go_sem, reduceCtorEq, Nat.reduceAdd, Nat.reduceEqDiff, reduceIte, Nat.reduceLeDiff, Nat.reduceLT, Nat.reduceSub]; rfl)
                · intro h; repeat' (first | exact trivial | exact h | refine And.intro ?_ ?_)
                try simp (config := { maxSteps := 2000000 }) only [go_sem, reduceCtorEq, Nat.reduceAdd, Nat.reduceEqDiff, reduceIte, Nat.reduceLeDiff, Nat.reduceLT, Nat.reduceSub, Bool.cond_false_right]
                all_goals (repeat (with_reducible refine sAnd ?_))
                refine cond_of (by rfl) trivial (fun h7 => ?_) (fun h7 => ?_)
                · try simp (config := { maxSteps := 2000000 }) only [go_sem, reduceCtorEq, Nat.reduceAdd, Nat.reduceEqDiff, reduceIte, Nat.reduceLeDiff, Nat.reduceLT, Nat.reduceSub]
                  all_goals (repeat (with_reducible refine sAnd ?_))
                  refine fin_val rfl trivial (.inl ?_)
                  congr 3
                  rw [← hinv, hps, ← hinv2, hqs, ← hinv3, hts, h7]; rfl
                · rw [h7] at hts
                  rw [hts, Bool.false_or] at hinv3
                  try simp (config := { maxSteps := 2000000 }) only [go_sem, reduceCtorEq, Nat.reduceAdd, Nat.reduceEqDiff, reduceIte, Nat.reduceLeDiff, Nat.reduceLT, Nat.reduceSub]
                  all_goals (repeat (with_reducible refine sAnd ?_))
                  refine ⟨j + 1, by omega, ⟨by omega, hinv3⟩, ?_⟩
                  simp (config := { maxSteps := 2000000 }) only [go_sem, reduceCtorEq, Nat.reduceAdd, Nat.reduceEqDiff, reduceIte, Nat.reduceLeDiff, Nat.reduceLT, Nat.reduceSub, le_cons, le_nil, le_un, le_same]
                  all_goals (repeat' (first | exact trivial | exact le_int (by omega) | exact le_bool rfl | exact le_eq rfl | exact le_nlo | exact le_refl _ | refine And.intro ?_ ?_))
              · have hjl : j = q.tests.length := by simp at h6; omega
                subst hjl
                rw [List.drop_length] at hinv3
                rw [hqs, ← hinv3] at hinv2
                try simp (config := { maxSteps := 2000000 }) only [go_sem, reduceCtorEq, Nat.reduceAdd, Nat.reduceEqDiff, reduceIte, Nat.reduceLeDiff, Nat.reduceLT, Nat.reduceSub]
                all_goals (repeat (with_reducible refine sAnd ?_))
                refine ⟨k + 1, by omega, ⟨by omega, hinv2⟩, ?_⟩
                simp (config := { maxSteps := 2000000 }) only [go_sem, reduceCtorEq, Nat.reduceAdd, Nat.reduceEqDiff, reduceIte, Nat.reduceLeDiff, Nat.reduceLT, Nat.reduceSub, le_cons, le_nil, le_un, le_same]
                all_goals (repeat' (first | exact trivial | exact le_int (by omega) | exact le_bool rfl | exact le_eq rfl | exact le_nlo | exact le_refl _ | refine And.intro ?_ ?_))
          · have hkl : k = p.steps.length := by simp at h4; omega
            subst hkl
            rw [List.drop_length] at hinv2
            rw [hps, ← hinv2] at hinv
            try simp (config := { maxSteps := 2000000 }) only [go_sem, reduceCtorEq, Nat.reduceAdd, Nat.reduceEqDiff, reduceIte, Nat.reduceLeDiff, Nat.reduceLT, Nat.reduceSub]
            all_goals (repeat (with_reducible refine sAnd ?_))
            refine ⟨i + 1, by omega, ⟨by omega, hinv⟩, ?_⟩
            simp (config := { maxSteps := 2000000 }) only [go_sem, reduceCtorEq, Nat.reduceAdd, Nat.reduceEqDiff, reduceIte, Nat.reduceLeDiff, Nat.reduceLT, Nat.reduceSub, le_cons, le_nil, le_un, le_same]
            all_goals (repeat' (first | exact trivial | exact le_int (by omega) | exact le_bool rfl | exact le_eq rfl | exact le_nlo | exact le_refl _ | refine And.intro ?_ ?_))
      · have hil : i = l.length := by simp at h2; omega
        subst hil
        rw [List.drop_length] at hinv
        try simp (config := { maxSteps := 2000000 }) only [go_sem, reduceCtorEq, Nat.reduceAdd, Nat.reduceEqDiff, reduceIte, Nat.reduceLeDiff, Nat.reduceLT, Nat.reduceSub]
        all_goals (repeat (with_reducible refine sAnd ?_))
        refine fin_val rfl trivial (.inl ?_)
        congr 3
        rw [← hinv]; rfl
end Go.Hx
end

section
-- DOM getO, listV, intsR_len, ptsV_len, stsV_len, tssV_len
set_option maxRecDepth 100000
set_option linter.unusedSimpArgs false
namespace Go.Hx
open Go.Proofs
variable [Glob]

attribute [local go_sem] ndsV_len clsV_len attV_len intsR_len ndV cellsEq getO listV ptsV_len stsV_len tssV_len
theorem fits_len {k : Nat} {rows : List (List PV)} (h : PV.fits (.sl k rows)) : rows.length ≤ 9223372036854775807 := by
  simp only [PV.fits] at h; exact h.1
theorem fitsR_get : ∀ {rows : List (List PV)} {i : Nat}, fitsR rows → i < rows.length → fitsL (rows.getD i [])
  | [], i, _, h => by simp at h
  | r :: rs, 0, h, _ => by simp only [fitsR] at h; exact h.1
  | r :: rs, i + 1, h, hi => by simp only [fitsR] at h; simpa using fitsR_get (rows := rs) (i := i) h.2 (by simpa using hi)
theorem fits_get {k : Nat} {rows : List (List PV)} {i : Nat} (h : PV.fits (.sl k rows)) (hi : i < rows.length) : fitsL (rows.getD i []) := by
  simp only [PV.fits] at h; exact fitsR_get h.2 hi
theorem fits_av {x : PV} {r : List AV} (h : AVs.fits (.val (.one x) :: r)) : PV.fits x := by
  simp only [AVs.fits] at h; exact h.1
theorem fits_pts {l : List Pt} {i : Nat} (h : PV.fits (.sl 2 (ptsV l))) (hi : i < l.length) : PV.fits (.sl 2 (stsV (l.getD i default).steps)) ∧ PV.fits (.sl 1 (intsR (l.getD i default).links)) := by
  have h1 := fits_get h (i := i) (by rw [ptsV_len]; exact hi)
  rw [ptsV_get l i hi, ptV_eq] at h1
  simp only [fitsL] at h1
  exact ⟨h1.1, h1.2.1⟩
theorem fits_sts {l : List St} {i : Nat} (h : PV.fits (.sl 2 (stsV l))) (hi : i < l.length) : PV.fits (.sl 6 (tssV (l.getD i default).tests)) := by
  have h1 := fits_get h (i := i) (by rw [stsV_len]; exact hi)
  rw [stsV_get l i hi, stV_eq] at h1
  simp only [fitsL] at h1
  exact h1.2.1
theorem fits_pl {l : List Pt} (h : PV.fits (.sl 2 (ptsV l))) : l.length ≤ 9223372036854775807 := by have := fits_len h; rwa [ptsV_len] at this
theorem fits_slen {l : List St} (h : PV.fits (.sl 2 (stsV l))) : l.length ≤ 9223372036854775807 := by have := fits_len h; rwa [stsV_len] at this
theorem fits_tl {l : List Ts} (h : PV.fits (.sl 6 (tssV l))) : l.length ≤ 9223372036854775807 := by have := fits_len h; rwa [tssV_len] at this
theorem fits_il {l : List Int} (h : PV.fits (.sl 1 (intsR l))) : l.length ≤ 9223372036854775807 := by have := fits_len h; rwa [intsR_len] at this

theorem c_bk : ∀ (N : Nat) (l : List Pt), SizeOf.sizeOf l ≤ N → Contract Tryd.prog fn_ref_badKind [.val (listV l)] { res := .val (bv (bkPs l)) }
  | 0, l, hN => by have := sz_pos_pt l; omega
  | N + 1, l, hN => by
    unfold listV
    refine mk_ref_badKind (base := 0) ⟨Nat.le_of_ble_eq_true rfl, Nat.le_of_ble_eq_true rfl, Nat.le_of_ble_eq_true rfl, rfl⟩ (fun hfit => ?_)
    unfold F0 ref_badKind_E
    simp (config := { maxSteps := 2000000 }) only [markU, List.set_cons_succ, List.set_cons_zero, List.map_cons, List.map_nil, argCt, setCells, ioOf, List.length_cons, List.length_nil, Nat.reduceAdd, Nat.reduceSub, List.replicate, List.cons_append, List.nil_append]
    try simp (config := { maxSteps := 2000000 }) only [go_sem, reduceCtorEq, Nat.reduceAdd, Nat.reduceEqDiff, reduceIte, Nat.reduceLeDiff, Nat.reduceLT, Nat.reduceSub]
    all_goals (repeat (with_reducible refine sAnd ?_))
    have ft := fits_av hfit
    have fl := fits_pl ft
    refine loop_sets (fun i : Nat => [(3, .pv (iv i)), (2, .un), (4, .un), (5, .un), (6, .un), (7, .un), (11, .un), (15, .un), (25, .un), (37, .un), (45, .un), (59, .un), (93, .un)]) (fun i : Nat => l.length - i) (fun i : Nat => i ≤ l.length ∧ bkPs (l.drop i) = bkPs l) (0) ?_ ⟨Nat.zero_le _, rfl⟩ ?_
    focus (simp (config := { maxSteps := 2000000 }) only [go_sem, reduceCtorEq, Nat.reduceAdd, Nat.reduceEqDiff, reduceIte, Nat.reduceLeDiff, Nat.reduceLT, Nat.reduceSub, le_cons, le_nil, le_un, le_same]; all_goals (repeat' (first | exact trivial | exact le_int (by omega) | exact le_bool rfl | exact le_eq rfl | exact le_nlo | exact le_refl _ | refine And.intro ?_ ?_)))
    rintro i ⟨hi, hinv⟩
    try simp (config := { maxSteps := 2000000 }) only [go_sem, reduceCtorEq, Nat.reduceAdd, Nat.reduceEqDiff, reduceIte, Nat.reduceLeDiff, Nat.reduceLT, Nat.reduceSub]
    all_goals (repeat (with_reducible refine sAnd ?_))
    refine cond_of (by rfl) trivial (fun h2 => ?_) (fun h2 => ?_)
    · have hil : i < l.length := by simp at h2; omega
      have fp := fits_pts ft hil
      rw [drop_get (d := default) hil] at hinv
      obtain ⟨p, hp⟩ : ∃ p, p = l.getD i default := ⟨_, rfl⟩
      rw [← hp] at hinv fp
      have fps := fits_slen fp.1
      have fpl := fits_il fp.2
      have hg : (ptsV l).getD i [] = [.sl 2 (stsV p.steps), .sl 1 (intsR p.links)] := by rw [ptsV_get l i hil, ← hp, ptV_eq]
      have hsz : SizeOf.sizeOf p.steps ≤ N := by
        have h3 := lt_steps p
        have h4 := lt_pt hil
        rw [← hp] at h4
        omega
      simp only [bkPs] at hinv
      have hps : bkP p = (p.links.any lkBad || bkSs p.steps) := by cases p; rfl
      try simp (config := { maxSteps := 2000000 }) only [go_sem, reduceCtorEq, Nat.reduceAdd, Nat.reduceEqDiff, reduceIte, Nat.reduceLeDiff, Nat.reduceLT, Nat.reduceSub]
      all_goals (repeat (with_reducible refine sAnd ?_))
      refine loop_sets (fun k : Nat => [(4, .pv (iv k)), (2, .un), (25, .un), (37, .un)]) (fun k : Nat => p.links.length - k) (fun k : Nat => k ≤ p.links.length ∧ (p.links.drop k).any lkBad = p.links.any lkBad) (0) ?_ ⟨Nat.zero_le _, rfl⟩ ?_
      focus (simp (config := { maxSteps := 2000000 }) only [go_sem, reduceCtorEq, Nat.reduceAdd, Nat.reduceEqDiff, reduceIte, Nat.reduceLeDiff, Nat.reduceLT, Nat.reduceSub, le_cons, le_nil, le_un, le_same]; all_goals (repeat' (first | exact trivial | exact le_int (by omega) | exact le_bool rfl | exact le_eq rfl | exact le_nlo | exact le_refl _ | refine And.intro ?_ ?_)))
      rintro k ⟨hk, hinv2⟩
      try simp (config := { maxSteps := 2000000 }) only [go_sem, reduceCtorEq, Nat.reduceAdd, Nat.reduceEqDiff, reduceIte, Nat.reduceLeDiff, Nat.reduceLT, Nat.reduceSub, hg]
      all_goals (repeat (with_reducible refine sAnd ?_))
      refine cond_of (by rfl) trivial (fun h3 => ?_) (fun h3 => ?_)
      · have hkl : k < p.links.length := by simp at h3; omega
        rw [drop_get (d := 0) hkl] at hinv2
        have hg2 := intsR_get p.links k hkl
        obtain ⟨v, hv⟩ : ∃ v, v = p.links.getD k 0 := ⟨_, rfl⟩
        rw [← hv] at hg2 hinv2
        rw [List.any_cons] at hinv2
        try simp (config := { maxSteps := 2000000 }) only [go_sem, reduceCtorEq, Nat.reduceAdd, Nat.reduceEqDiff, reduceIte, Nat.reduceLeDiff, Nat.reduceLT, Nat.reduceSub, hg, hg2]
        all_goals (repeat (with_reducible refine sAnd ?_))
        refine call_val (by repeat' constructor) (c_ref_within v 1 4) ?_
        try simp (config := { maxSteps := 2000000 }) only [go_sem, reduceCtorEq, Nat.reduceAdd, Nat.reduceEqDiff, reduceIte, Nat.reduceLeDiff, Nat.reduceLT, Nat.reduceSub]
        all_goals (repeat (with_reducible refine sAnd ?_))
        refine cond_of (by rfl) trivial (fun h4 => ?_) (fun h4 => ?_)
        · try simp (config := { maxSteps := 2000000 }) only [go_sem, reduceCtorEq, Nat.reduceAdd, Nat.reduceEqDiff, reduceIte, Nat.reduceLeDiff, Nat.reduceLT, Nat.reduceSub]
          all_goals (repeat (with_reducible refine sAnd ?_))
          refine fin_val rfl trivial (.inl ?_)
          congr 3
          have h5 : lkBad v = true := h4
          rw [← hinv, hps, ← hinv2, h5]; rfl
        · have h5 : lkBad v = false := h4
          rw [h5, Bool.false_or] at hinv2
          try simp (config := { maxSteps := 2000000 }) only [go_sem, reduceCtorEq, Nat.reduceAdd, Nat.reduceEqDiff, reduceIte, Nat.reduceLeDiff, Nat.reduceLT, Nat.reduceSub]
          all_goals (repeat (with_reducible refine sAnd ?_))
          refine ⟨k + 1, by omega, ⟨by omega, hinv2⟩, ?_⟩
          simp (config := { maxSteps := 2000000 }) only [go_sem, reduceCtorEq, Nat.reduceAdd, Nat.reduceEqDiff, reduceIte, Nat.reduceLeDiff, Nat.reduceLT, Nat.reduceSub, le_cons, le_nil, le_un, le_same]
          all_goals (repeat' (first | exact trivial | exact le_int (by omega) | exact le_bool rfl | exact le_eq rfl | exact le_nlo | exact le_refl _ | refine And.intro ?_ ?_))
      · have hkl : k = p.links.length := by simp at h3; omega
        subst hkl
        rw [List.drop_length] at hinv2
        rw [← hinv2] at hps
        have hps : bkP p = bkSs p.steps := hps
        try simp (config := { maxSteps := 2000000 }) only [go_sem, reduceCtorEq, Nat.reduceAdd, Nat.reduceEqDiff, reduceIte, Nat.reduceLeDiff, Nat.reduceLT, Nat.reduceSub]
        all_goals (repeat (with_reducible refine sAnd ?_))
        refine loop_sets (fun k : Nat => [(5, .pv (iv k)), (2, .un), (6, .un), (7, .un), (11, .un), (45, .un), (59, .un), (93, .un)]) (fun k : Nat => p.steps.length - k) (fun k : Nat => k ≤ p.steps.length ∧ bkSs (p.steps.drop k) = bkSs p.steps) (0) ?_ ⟨Nat.zero_le _, rfl⟩ ?_
        focus (simp (config := { maxSteps := 2000000 }) only [go_sem, reduceCtorEq, Nat.reduceAdd, Nat.reduceEqDiff, reduceIte, Nat.reduceLeDiff, Nat.reduceLT, Nat.reduceSub, le_cons, le_nil, le_un, le_same]; all_goals (repeat' (first | exact trivial | exact le_int (by omega) | exact le_bool rfl | exact le_eq rfl | exact le_nlo | exact le_refl _ | refine And.intro ?_ ?_)))
        rintro k ⟨hk, hinv2⟩
        try simp (config := { maxSteps := 2000000 }) only [go_sem, reduceCtorEq, Nat.reduceAdd, Nat.reduceEqDiff, reduceIte, Nat.reduceLeDiff, Nat.reduceLT, Nat.reduceSub, hg]
        all_goals (repeat (with_reducible refine sAnd ?_))
        refine cond_of (by rfl) trivial (fun h4 => ?_) (fun h4 => ?_)
        · have hkl : k < p.steps.length := by simp at h4; omega
          have fq := fits_sts fp.1 hkl
          rw [drop_get (d := default) hkl] at hinv2
          obtain ⟨q, hq⟩ : ∃ q, q = p.steps.getD k default := ⟨_, rfl⟩
          rw [← hq] at hinv2 fq
          have fqt := fits_tl fq
          have hg3 : (stsV p.steps).getD k [] = [bS q.tag, .sl 6 (tssV q.tests)] := by rw [stsV_get _ k hkl, ← hq, stV_eq]
          simp only [bkSs] at hinv2
          have hqs : bkS q = bkTs q.tests := by cases q; rfl
          try simp (config := { maxSteps := 2000000 }) only [go_sem, reduceCtorEq, Nat.reduceAdd, Nat.reduceEqDiff, reduceIte, Nat.reduceLeDiff, Nat.reduceLT, Nat.reduceSub, hg, hg3]
          all_goals (repeat (with_reducible refine sAnd ?_))
          refine loop_sets (fun j : Nat => [(6, .pv (iv j)), (2, .un), (7, .un), (11, .un), (59, .un), (93, .un)]) (fun j : Nat => q.tests.length - j) (fun j : Nat => j ≤ q.tests.length ∧ bkTs (q.tests.drop j) = bkTs q.tests) (0) ?_ ⟨Nat.zero_le _, rfl⟩ ?_
          focus (simp (config := { maxSteps := 2000000 }) only [go_sem, reduceCtorEq, Nat.reduceAdd, Nat.reduceEqDiff, reduceIte, Nat.reduceLeDiff, Nat.reduceLT, Nat.reduceSub, le_cons, le_nil, le_un, le_same]; all_goals (repeat' (first | exact trivial | exact le_int (by omega) | exact le_bool rfl | exact le_eq rfl | exact le_nlo | exact le_refl _ | refine And.intro ?_ ?_)))
          rintro j ⟨hj, hinv3⟩
          try simp (config := { maxSteps := 2000000 }) only [go_sem, reduceCtorEq, Nat.reduceAdd, Nat.reduceEqDiff, reduceIte, Nat.reduceLeDiff, Nat.reduceLT, Nat.reduceSub, hg, hg3]
          all_goals (repeat (with_reducible refine sAnd ?_))
          refine cond_of (by rfl) trivial (fun h6 => ?_) (fun h6 => ?_)
          · have hjl : j < q.tests.length := by simp at h6; omega
            rw [drop_get (d := default) hjl] at hinv3
            obtain ⟨t, ht⟩ : ∃ t, t = q.tests.getD j default := ⟨_, rfl⟩
            rw [← ht] at hinv3
            have hg4 := tssV_get q.tests j hjl
            rw [← ht, tsV_eq] at hg4
            have hszt : SizeOf.sizeOf t.list ≤ N := by
              have h7 := lt_list t
              have h8 := lt_ts hjl
              rw [← ht] at h8
              have h9 := lt_st hkl
              rw [← hq] at h9
              have h10 := lt_tests q
              omega
            simp only [bkTs] at hinv3
            have hts : bkT t = (!(decide (1 ≤ t.kind ∧ t.kind ≤ 15)) || (kList t.kind && bkPs t.list)) := by cases t; rfl
            have hrec := c_bk N t.list hszt
            unfold listV at hrec
            try simp (config := { maxSteps := 2000000 }) only [go_sem, reduceCtorEq, Nat.reduceAdd, Nat.reduceEqDiff, reduceIte, Nat.reduceLeDiff, Nat.reduceLT, Nat.reduceSub, hg, hg3, hg4]
            all_goals (repeat (with_reducible refine sAnd ?_))
            refine call_tup (by repeat' constructor) (c_ref_has t.kind) ?_
            try simp (config := { maxSteps := 2000000 }) only [go_sem, reduceCtorEq, Nat.reduceAdd, Nat.reduceEqDiff, reduceIte, Nat.reduceLeDiff, Nat.reduceLT, Nat.reduceSub]
            all_goals (repeat (with_reducible refine sAnd ?_))
            refine call_val (by repeat' constructor) (c_ref_within t.kind 1 15) ?_
            try simp (config := { maxSteps := 2000000 }) only [go_sem, reduceCtorEq, Nat.reduceAdd, Nat.reduceEqDiff, reduceIte, Nat.reduceLeDiff, Nat.reduceLT, Nat.reduceSub]
            all_goals (repeat (with_reducible refine sAnd ?_))
            apply call_guard (h2 := fun _ => hrec)
            · (simp (config := { maxSteps := 2000000 }) only [go_sem, reduceCtorEq, Nat.reduceAdd, Nat.reduceEqDiff, reduceIte, Nat.reduceLeDiff, Nat.reduceLT, Nat.reduceSub]; rfl)
            · intro h; repeat' (first | exact trivial | exact h | refine And.intro ?_ ?_)
            try simp (config := { maxSteps := 2000000 }) only [go_sem, reduceCtorEq, Nat.reduceAdd, Nat.reduceEqDiff, reduceIte, Nat.reduceLeDiff, Nat.reduceLT, Nat.reduceSub, Bool.cond_false_right, Bool.cond_true_left]
            all_goals (repeat (with_reducible refine sAnd ?_))
            refine cond_of (by rfl) trivial (fun h7 => ?_) (fun h7 => ?_)
            · try simp (config := { maxSteps := 2000000 }) only [go_sem, reduceCtorEq, Nat.reduceAdd, Nat.reduceEqDiff, reduceIte, Nat.reduceLeDiff, Nat.reduceLT, Nat.reduceSub]
              all_goals (repeat (with_reducible refine sAnd ?_))
              refine fin_val rfl trivial (.inl ?_)
              congr 3
              rw [← hinv, hps, ← hinv2, hqs, ← hinv3, hts, h7]; rfl
            · rw [h7] at hts
              rw [hts, Bool.false_or] at hinv3
              try simp (config := { maxSteps := 2000000 }) only [go_sem, reduceCtorEq, Nat.reduceAdd, Nat.reduceEqDiff, reduceIte, Nat.reduceLeDiff, Nat.reduceLT, Nat.reduceSub]
              all_goals (repeat (with_reducible refine sAnd ?_))
              refine ⟨j + 1, by omega, ⟨by omega, hinv3⟩, ?_⟩
              simp (config := { maxSteps := 2000000 }) only [go_sem, reduceCtorEq, Nat.reduceAdd, Nat.reduceEqDiff, reduceIte, Nat.reduceLeDiff, Nat.reduceLT, Nat.reduceSub, le_cons, le_nil, le_un, le_same]
              all_goals (repeat' (first | exact trivial | exact le_int (by omega) | exact le_bool rfl | exact le_eq rfl | exact le_nlo | exact le_refl _ | refine And.intro ?_ ?_))
          · have hjl : j = q.tests.length := by simp at h6; omega
            subst hjl
            rw [List.drop_length] at hinv3
            rw [hqs, ← hinv3] at hinv2
            try simp (config := { maxSteps := 2000000 }) only [go_sem, reduceCtorEq, Nat.reduceAdd, Nat.reduceEqDiff, reduceIte, Nat.reduceLeDiff, Nat.reduceLT, Nat.reduceSub]
            all_goals (repeat (with_reducible refine sAnd ?_))
            refine ⟨k + 1, by omega, ⟨by omega, hinv2⟩, ?_⟩
            simp (config := { maxSteps := 2000000 }) only [go_sem, reduceCtorEq, Nat.reduceAdd, Nat.reduceEqDiff, reduceIte, Nat.reduceLeDiff, Nat.reduceLT, Nat.reduceSub, le_cons, le_nil, le_un, le_same]
            all_goals (repeat' (first | exact trivial | exact le_int (by omega) | exact le_bool rfl | exact le_eq rfl | exact le_nlo | exact le_refl _ | refine And.intro ?_ ?_))
        · have hkl : k = p.steps.length := by simp at h4; omega
          subst hkl
          rw [List.drop_length] at hinv2
          rw [hps, ← hinv2] at hinv
          try simp (config := { maxSteps := 2000000 }) only [go_sem, reduceCtorEq, Nat.reduceAdd, Nat.reduceEqDiff, reduceIte, Nat.reduceLeDiff, Nat.reduceLT, Nat.reduceSub]
          all_goals (repeat (with_reducible refine sAnd ?_))
          refine ⟨i + 1, by omega, ⟨by omega, hinv⟩, ?_⟩
          simp (config := { maxSteps := 2000000 }) only [go_sem, reduceCtorEq, Nat.reduceAdd, Nat.reduceEqDiff, reduceIte, Nat.reduceLeDiff, Nat.reduceLT, Nat.reduceSub, le_cons, le_nil, le_un, le_same]
          all_goals (repeat' (first | exact trivial | exact le_int (by omega) | exact le_bool rfl | exact le_eq rfl | exact le_nlo | exact le_refl _ | refine And.intro ?_ ?_))
    · have hil : i = l.length := by simp at h2; omega
      subst hil
      rw [List.drop_length] at hinv
      try simp (config := { maxSteps := 2000000 }) only [go_sem, reduceCtorEq, Nat.reduceAdd, Nat.reduceEqDiff, reduceIte, Nat.reduceLeDiff, Nat.reduceLT, Nat.reduceSub]
      all_goals (repeat (with_reducible refine sAnd ?_))
      refine fin_val rfl trivial (.inl ?_)
      congr 3
      rw [← hinv]; rfl
end Go.Hx
end

section
-- DOM getO, listV, intsR_len, ptsV_len, stsV_len, tssV_len
set_option maxRecDepth 100000
set_option linter.unusedSimpArgs false
set_option maxHeartbeats 2000000
namespace Go.Hx
open Go.Proofs
variable [Glob]

attribute [local go_sem] ndsV_len clsV_len attV_len intsR_len ndV cellsEq getO listV ptsV_len stsV_len tssV_len
theorem c_bf : ∀ (N : Nat) (l : List Pt), SizeOf.sizeOf l ≤ N → Contract Tryd.prog fn_ref_badForm [.val (listV l)] { res := .val (bv (bfPs l)) }
  | 0, l, hN => by have := sz_pos_pt l; omega
  | N + 1, l, hN => by
    unfold listV
    refine mk_ref_badForm (base := 0) ⟨Nat.le_of_ble_eq_true rfl, Nat.le_of_ble_eq_true rfl, Nat.le_of_ble_eq_true rfl, rfl⟩ (fun hfit => ?_)
    unfold F0 ref_badForm_E
    simp (config := { maxSteps := 2000000 }) only [markU, List.set_cons_succ, List.set_cons_zero, List.map_cons, List.map_nil, argCt, setCells, ioOf, List.length_cons, List.length_nil, Nat.reduceAdd, Nat.reduceSub, List.replicate, List.cons_append, List.nil_append]
    try simp (config := { maxSteps := 2000000 }) only [go_sem, reduceCtorEq, Nat.reduceAdd, Nat.reduceEqDiff, reduceIte, Nat.reduceLeDiff, Nat.reduceLT, Nat.reduceSub]
    all_goals (repeat (with_reducible refine sAnd ?_))
    have ft := fits_av hfit
    have fl := fits_pl ft
    refine loop_sets (fun i : Nat => [(3, .pv (iv i)), (2, .un), (4, .un), (5, .un), (6, .un), (7, .un), (8, .un), (9, .un), (10, .un), (11, .un), (15, .un), (25, .un), (44, .un), (49, .un), (126, .un)]) (fun i : Nat => l.length - i) (fun i : Nat => i ≤ l.length ∧ bfPs (l.drop i) = bfPs l) (0) ?_ ⟨Nat.zero_le _, rfl⟩ ?_
    focus (simp (config := { maxSteps := 2000000 }) only [go_sem, reduceCtorEq, Nat.reduceAdd, Nat.reduceEqDiff, reduceIte, Nat.reduceLeDiff, Nat.reduceLT, Nat.reduceSub, le_cons, le_nil, le_un, le_same]; all_goals (repeat' (first | exact trivial | exact le_int (by omega) | exact le_bool rfl | exact le_eq rfl | exact le_nlo | exact le_refl _ | refine And.intro ?_ ?_)))
    rintro i ⟨hi, hinv⟩
    try simp (config := { maxSteps := 2000000 }) only [go_sem, reduceCtorEq, Nat.reduceAdd, Nat.reduceEqDiff, reduceIte, Nat.reduceLeDiff, Nat.reduceLT, Nat.reduceSub]
    all_goals (repeat (with_reducible refine sAnd ?_))
    refine cond_of (by rfl) trivial (fun h2 => ?_) (fun h2 => ?_)
    · have hil : i < l.length := by simp at h2; omega
      have fp := fits_pts ft hil
      rw [drop_get (d := default) hil] at hinv
      obtain ⟨p, hp⟩ : ∃ p, p = l.getD i default := ⟨_, rfl⟩
      rw [← hp] at hinv fp
      have fps := fits_slen fp.1
      have hg : (ptsV l).getD i [] = [.sl 2 (stsV p.steps), .sl 1 (intsR p.links)] := by rw [ptsV_get l i hil, ← hp, ptV_eq]
      have hsz : SizeOf.sizeOf p.steps ≤ N := by
        have h3 := lt_steps p
        have h4 := lt_pt hil
        rw [← hp] at h4
        omega
      simp only [bfPs] at hinv
      have hps : bfP p = bfSs p.steps := by cases p; rfl
      try simp (config := { maxSteps := 2000000 }) only [go_sem, reduceCtorEq, Nat.reduceAdd, Nat.reduceEqDiff, reduceIte, Nat.reduceLeDiff, Nat.reduceLT, Nat.reduceSub]
      all_goals (repeat (with_reducible refine sAnd ?_))
      refine loop_sets (fun k : Nat => [(4, .pv (iv k)), (2, .un), (5, .un), (6, .un), (7, .un), (8, .un), (9, .un), (10, .un), (11, .un), (25, .un), (44, .un), (49, .un), (126, .un)]) (fun k : Nat => p.steps.length - k) (fun k : Nat => k ≤ p.steps.length ∧ bfSs (p.steps.drop k) = bfSs p.steps) (0) ?_ ⟨Nat.zero_le _, rfl⟩ ?_
      focus (simp (config := { maxSteps := 2000000 }) only [go_sem, reduceCtorEq, Nat.reduceAdd, Nat.reduceEqDiff, reduceIte, Nat.reduceLeDiff, Nat.reduceLT, Nat.reduceSub, le_cons, le_nil, le_un, le_same]; all_goals (repeat' (first | exact trivial | exact le_int (by omega) | exact le_bool rfl | exact le_eq rfl | exact le_nlo | exact le_refl _ | refine And.intro ?_ ?_)))
      rintro k ⟨hk, hinv2⟩
      try simp (config := { maxSteps := 2000000 }) only [go_sem, reduceCtorEq, Nat.reduceAdd, Nat.reduceEqDiff, reduceIte, Nat.reduceLeDiff, Nat.reduceLT, Nat.reduceSub, hg]
      all_goals (repeat (with_reducible refine sAnd ?_))
      refine cond_of (by rfl) trivial (fun h4 => ?_) (fun h4 => ?_)
      · have hkl : k < p.steps.length := by simp at h4; omega
        have fq := fits_sts fp.1 hkl
        rw [drop_get (d := default) hkl] at hinv2
        obtain ⟨q, hq⟩ : ∃ q, q = p.steps.getD k default := ⟨_, rfl⟩
        rw [← hq] at hinv2 fq
        have fqt := fits_tl fq
        have hg3 : (stsV p.steps).getD k [] = [bS q.tag, .sl 6 (tssV q.tests)] := by rw [stsV_get _ k hkl, ← hq, stV_eq]
        simp only [bfSs] at hinv2
        have hqs : bfS q = ((!(q.tag == []) && !isName q.tag) || bfTs q.tests) := by cases q; rfl
        try simp (config := { maxSteps := 2000000 }) only [go_sem, reduceCtorEq, Nat.reduceAdd, Nat.reduceEqDiff, reduceIte, Nat.reduceLeDiff, Nat.reduceLT, Nat.reduceSub, hg, hg3]
        all_goals (repeat (with_reducible refine sAnd ?_))
        apply call_guard (h2 := fun _ => c_ref_IsName q.tag)
        · (simp (config := { maxSteps := 2000000 }) only [go_sem, reduceCtorEq, Nat.reduceAdd, Nat.reduceEqDiff, reduceIte, Nat.reduceLeDiff, Nat.reduceLT, Nat.reduceSub]; rfl)
        · intro h; repeat' (first | exact trivial | exact h | refine And.intro ?_ ?_)
        try simp (config := { maxSteps := 2000000 }) only [go_sem, reduceCtorEq, Nat.reduceAdd, Nat.reduceEqDiff, reduceIte, Nat.reduceLeDiff, Nat.reduceLT, Nat.reduceSub, Bool.cond_false_right]
        all_goals (repeat (with_reducible refine sAnd ?_))
        refine cond_of (by rfl) trivial (fun h5 => ?_) (fun h5 => ?_)
        · try simp (config := { maxSteps := 2000000 }) only [go_sem, reduceCtorEq, Nat.reduceAdd, Nat.reduceEqDiff, reduceIte, Nat.reduceLeDiff, Nat.reduceLT, Nat.reduceSub]
          all_goals (repeat (with_reducible refine sAnd ?_))
          refine fin_val rfl trivial (.inl ?_)
          congr 3
          rw [← hinv, hps, ← hinv2, hqs, h5]; rfl
        rw [h5, Bool.false_or] at hqs
        try simp (config := { maxSteps := 2000000 }) only [go_sem, reduceCtorEq, Nat.reduceAdd, Nat.reduceEqDiff, reduceIte, Nat.reduceLeDiff, Nat.reduceLT, Nat.reduceSub]
        all_goals (repeat (with_reducible refine sAnd ?_))
        refine loop_sets (fun j : Nat => [(6, .pv (iv j)), (2, .un), (7, .un), (8, .un), (9, .un), (10, .un), (11, .un), (49, .un), (126, .un)]) (fun j : Nat => q.tests.length - j) (fun j : Nat => j ≤ q.tests.length ∧ bfTs (q.tests.drop j) = bfTs q.tests) (0) ?_ ⟨Nat.zero_le _, rfl⟩ ?_
        focus (simp (config := { maxSteps := 2000000 }) only [go_sem, reduceCtorEq, Nat.reduceAdd, Nat.reduceEqDiff, reduceIte, Nat.reduceLeDiff, Nat.reduceLT, Nat.reduceSub, le_cons, le_nil, le_un, le_same]; all_goals (repeat' (first | exact trivial | exact le_int (by omega) | exact le_bool rfl | exact le_eq rfl | exact le_nlo | exact le_refl _ | refine And.intro ?_ ?_)))
        rintro j ⟨hj, hinv3⟩
        try simp (config := { maxSteps := 2000000 }) only [go_sem, reduceCtorEq, Nat.reduceAdd, Nat.reduceEqDiff, reduceIte, Nat.reduceLeDiff, Nat.reduceLT, Nat.reduceSub, hg, hg3]
        all_goals (repeat (with_reducible refine sAnd ?_))
        refine cond_of (by rfl) trivial (fun h6 => ?_) (fun h6 => ?_)
        · have hjl : j < q.tests.length := by simp at h6; omega
          rw [drop_get (d := default) hjl] at hinv3
          obtain ⟨t, ht⟩ : ∃ t, t = q.tests.getD j default := ⟨_, rfl⟩
          rw [← ht] at hinv3
          have hg4 := tssV_get q.tests j hjl
          rw [← ht, tsV_eq] at hg4
          have hszt : SizeOf.sizeOf t.list ≤ N := by
            have h7 := lt_list t
            have h8 := lt_ts hjl
            rw [← ht] at h8
            have h9 := lt_st hkl
            rw [← hq] at h9
            have h10 := lt_tests q
            omega
          simp only [bfTs] at hinv3
          have hts : bfT t = ((kName t.kind && !isName t.name) || ((!kName t.kind && !(t.name == [])) || ((kValue t.kind && !isValue t.value) || ((!kValue t.kind && !(t.value == [])) || ((!kNth t.kind && !(t.na == 0 && t.nb == 0)) || ((!kList t.kind && decide (0 < t.list.length)) || (kList t.kind && bfPs t.list))))))) := by
            cases t
            simp only [bfT, fmT1, fmT2, fmT3, Ts.kind, Ts.name, Ts.value, Ts.na, Ts.nb, Ts.list, Bool.or_assoc]
          have e0 : decide (0 < (t.list.length : Int)) = decide (0 < t.list.length) := decide_eq_decide.2 (by omega)
          have hrec := c_bf N t.list hszt
          unfold listV at hrec
          try simp (config := { maxSteps := 2000000 }) only [go_sem, reduceCtorEq, Nat.reduceAdd, Nat.reduceEqDiff, reduceIte, Nat.reduceLeDiff, Nat.reduceLT, Nat.reduceSub, hg, hg3, hg4]
          all_goals (repeat (with_reducible refine sAnd ?_))
          refine call_tup (by repeat' constructor) (c_ref_has t.kind) ?_
          try simp (config := { maxSteps := 2000000 }) only [go_sem, reduceCtorEq, Nat.reduceAdd, Nat.reduceEqDiff, reduceIte, Nat.reduceLeDiff, Nat.reduceLT, Nat.reduceSub]
          all_goals (repeat (with_reducible refine sAnd ?_))
          apply call_guard (h2 := fun _ => c_ref_IsName t.name)
          · (simp (config := { maxSteps := 2000000 }) only [go_sem, reduceCtorEq, Nat.reduceAdd, Nat.reduceEqDiff, reduceIte, Nat.reduceLeDiff, Nat.reduceLT, Nat.reduceSub]; rfl)
          · intro h; repeat' (first | exact trivial | exact h | refine And.intro ?_ ?_)
          try simp (config := { maxSteps := 2000000 }) only [go_sem, reduceCtorEq, Nat.reduceAdd, Nat.reduceEqDiff, reduceIte, Nat.reduceLeDiff, Nat.reduceLT, Nat.reduceSub]
          all_goals (repeat (with_reducible refine sAnd ?_))
          apply call_guard (h2 := fun _ => c_ref_IsValue t.value)
          · (simp (config := { maxSteps := 2000000 }) only [go_sem, reduceCtorEq, Nat.reduceAdd, Nat.reduceEqDiff, reduceIte, Nat.reduceLeDiff, Nat.reduceLT, Nat.reduceSub]; rfl)
          · intro h; repeat' (first | exact trivial | exact h | refine And.intro ?_ ?_)
          try simp (config := { maxSteps := 2000000 }) only [go_sem, reduceCtorEq, Nat.reduceAdd, Nat.reduceEqDiff, reduceIte, Nat.reduceLeDiff, Nat.reduceLT, Nat.reduceSub]
          all_goals (repeat (with_reducible refine sAnd ?_))
          apply call_guard (h2 := fun _ => hrec)
          · (simp (config := { maxSteps := 2000000 }) only [go_sem, reduceCtorEq, Nat.reduceAdd, Nat.reduceEqDiff, reduceIte, Nat.reduceLeDiff, Nat.reduceLT, Nat.reduceSub]; rfl)
          · intro h; repeat' (first | exact trivial | exact h | refine And.intro ?_ ?_)
          try simp (config := { maxSteps := 2000000 }) only [go_sem, reduceCtorEq, Nat.reduceAdd, Nat.reduceEqDiff, reduceIte, Nat.reduceLeDiff, Nat.reduceLT, Nat.reduceSub, Bool.cond_false_right, Bool.cond_true_left, e0, Bool.or_assoc]
          all_goals (repeat (with_reducible refine sAnd ?_))
          refine cond_of (by rfl) trivial (fun h7 => ?_) (fun h7 => ?_)
          · try simp (config := { maxSteps := 2000000 }) only [go_sem, reduceCtorEq, Nat.reduceAdd, Nat.reduceEqDiff, reduceIte, Nat.reduceLeDiff, Nat.reduceLT, Nat.reduceSub]
            all_goals (repeat (with_reducible refine sAnd ?_))
            refine fin_val rfl trivial (.inl ?_)
            congr 3
            rw [← hinv, hps, ← hinv2, hqs, ← hinv3, hts, h7]; simp
          · rw [h7] at hts
            rw [hts, Bool.false_or] at hinv3
            try simp (config := { maxSteps := 2000000 }) only [go_sem, reduceCtorEq, Nat.reduceAdd, Nat.reduceEqDiff, reduceIte, Nat.reduceLeDiff, Nat.reduceLT, Nat.reduceSub]
            all_goals (repeat (with_reducible refine sAnd ?_))
            refine ⟨j + 1, by omega, ⟨by omega, hinv3⟩, ?_⟩
            simp (config := { maxSteps := 2000000 }) only [go_sem, reduceCtorEq, Nat.reduceAdd, Nat.reduceEqDiff, reduceIte, Nat.reduceLeDiff, Nat.reduceLT, Nat.reduceSub, le_cons, le_nil, le_un, le_same]
            all_goals (repeat' (first | exact trivial | exact le_int (by omega) | exact le_bool rfl | exact le_eq rfl | exact le_nlo | exact le_refl _ | refine And.intro ?_ ?_))
        · have hjl : j = q.tests.length := by simp at h6; omega
          subst hjl
          rw [List.drop_length] at hinv3
          rw [hqs, ← hinv3] at hinv2
          try simp (config := { maxSteps := 2000000 }) only [go_sem, reduceCtorEq, Nat.reduceAdd, Nat.reduceEqDiff, reduceIte, Nat.reduceLeDiff, Nat.reduceLT, Nat.reduceSub]
          all_goals (repeat (with_reducible refine sAnd ?_))
          refine ⟨k + 1, by omega, ⟨by omega, hinv2⟩, ?_⟩
          simp (config := { maxSteps := 2000000 }) only [go_sem, reduceCtorEq, Nat.reduceAdd, Nat.reduceEqDiff, reduceIte, Nat.reduceLeDiff, Nat.reduceLT, Nat.reduceSub, le_cons, le_nil, le_un, le_same]
          all_goals (repeat' (first | exact trivial | exact le_int (by omega) | exact le_bool rfl | exact le_eq rfl | exact le_nlo | exact le_refl _ | refine And.intro ?_ ?_))
      · have hkl : k = p.steps.length := by simp at h4; omega
        subst hkl
        rw [List.drop_length] at hinv2
        rw [hps, ← hinv2] at hinv
        try simp (config := { maxSteps := 2000000 }) only [go_sem, reduceCtorEq, Nat.reduceAdd, Nat.reduceEqDiff, reduceIte, Nat.reduceLeDiff, Nat.reduceLT, Nat.reduceSub]
        all_goals (repeat (with_reducible refine sAnd ?_))
        refine ⟨i + 1, by omega, ⟨by omega, hinv⟩, ?_⟩
        simp (config := { maxSteps := 2000000 }) only [go_sem, reduceCtorEq, Nat.reduceAdd, Nat.reduceEqDiff, reduceIte, Nat.reduceLeDiff, Nat.reduceLT, Nat.reduceSub, le_cons, le_nil, le_un, le_same]
        all_goals (repeat' (first | exact trivial | exact le_int (by omega) | exact le_bool rfl | exact le_eq rfl | exact le_nlo | exact le_refl _ | refine And.intro ?_ ?_))
    · have hil : i = l.length := by simp at h2; omega
      subst hil
      rw [List.drop_length] at hinv
      try simp (config := { maxSteps := 2000000 }) only [go_sem, reduceCtorEq, Nat.reduceAdd, Nat.reduceEqDiff, reduceIte, Nat.reduceLeDiff, Nat.reduceLT, Nat.reduceSub]
      all_goals (repeat (with_reducible refine sAnd ?_))
      refine fin_val rfl trivial (.inl ?_)
      congr 3
      rw [← hinv]; rfl
theorem c_bn : ∀ (N : Nat) (l : List Pt), SizeOf.sizeOf l ≤ N → Contract Tryd.prog fn_ref_badNth [.val (listV l)] { res := .val (bv (bnPs l)) }
  | 0, l, hN => by have := sz_pos_pt l; omega
  | N + 1, l, hN => by
    unfold listV
    refine mk_ref_badNth (base := 0) ⟨Nat.le_of_ble_eq_true rfl, Nat.le_of_ble_eq_true rfl, Nat.le_of_ble_eq_true rfl, rfl⟩ (fun hfit => ?_)
    unfold F0 ref_badNth_E
    simp (config := { maxSteps := 2000000 }) only [markU, List.set_cons_succ, List.set_cons_zero, List.map_cons, List.map_nil, argCt, setCells, ioOf, List.length_cons, List.length_nil, Nat.reduceAdd, Nat.reduceSub, List.replicate, List.cons_append, List.nil_append]
    try simp (config := { maxSteps := 2000000 }) only [go_sem, reduceCtorEq, Nat.reduceAdd, Nat.reduceEqDiff, reduceIte, Nat.reduceLeDiff, Nat.reduceLT, Nat.reduceSub]
    all_goals (repeat (with_reducible refine sAnd ?_))
    have ft := fits_av hfit
    have fl := fits_pl ft
    refine loop_sets (fun i : Nat => [(3, .pv (iv i)), (2, .un), (4, .un), (5, .un), (6, .un), (10, .un), (20, .un), (34, .un), (57, .un)]) (fun i : Nat => l.length - i) (fun i : Nat => i ≤ l.length ∧ bnPs (l.drop i) = bnPs l) (0) ?_ ⟨Nat.zero_le _, rfl⟩ ?_
    focus (simp (config := { maxSteps := 2000000 }) only [go_sem, reduceCtorEq, Nat.reduceAdd, Nat.reduceEqDiff, reduceIte, Nat.reduceLeDiff, Nat.reduceLT, Nat.reduceSub, le_cons, le_nil, le_un, le_same]; all_goals (repeat' (first | exact trivial | exact le_int (by omega) | exact le_bool rfl | exact le_eq rfl | exact le_nlo | exact le_refl _ | refine And.intro ?_ ?_)))
    rintro i ⟨hi, hinv⟩
    try simp (config := { maxSteps := 2000000 }) only [go_sem, reduceCtorEq, Nat.reduceAdd, Nat.reduceEqDiff, reduceIte, Nat.reduceLeDiff, Nat.reduceLT, Nat.reduceSub]
    all_goals (repeat (with_reducible refine sAnd ?_))
    refine cond_of (by rfl) trivial (fun h2 => ?_) (fun h2 => ?_)
    · have hil : i < l.length := by simp at h2; omega
      have fp := fits_pts ft hil
      rw [drop_get (d := default) hil] at hinv
      obtain ⟨p, hp⟩ : ∃ p, p = l.getD i default := ⟨_, rfl⟩
      rw [← hp] at hinv fp
      have fps := fits_slen fp.1
      have hg : (ptsV l).getD i [] = [.sl 2 (stsV p.steps), .sl 1 (intsR p.links)] := by rw [ptsV_get l i hil, ← hp, ptV_eq]
      have hsz : SizeOf.sizeOf p.steps ≤ N := by
        have h3 := lt_steps p
        have h4 := lt_pt hil
        rw [← hp] at h4
        omega
      simp only [bnPs] at hinv
      have hps : bnP p = bnSs p.steps := by cases p; rfl
      try simp (config := { maxSteps := 2000000 }) only [go_sem, reduceCtorEq, Nat.reduceAdd, Nat.reduceEqDiff, reduceIte, Nat.reduceLeDiff, Nat.reduceLT, Nat.reduceSub]
      all_goals (repeat (with_reducible refine sAnd ?_))
      refine loop_sets (fun k : Nat => [(4, .pv (iv k)), (2, .un), (5, .un), (6, .un), (20, .un), (34, .un), (57, .un)]) (fun k : Nat => p.steps.length - k) (fun k : Nat => k ≤ p.steps.length ∧ bnSs (p.steps.drop k) = bnSs p.steps) (0) ?_ ⟨Nat.zero_le _, rfl⟩ ?_
      focus (simp (config := { maxSteps := 2000000 }) only [go_sem, reduceCtorEq, Nat.reduceAdd, Nat.reduceEqDiff, reduceIte, Nat.reduceLeDiff, Nat.reduceLT, Nat.reduceSub, le_cons, le_nil, le_un, le_same]; all_goals (repeat' (first | exact trivial | exact le_int (by omega) | exact le_bool rfl | exact le_eq rfl | exact le_nlo | exact le_refl _ | refine And.intro ?_ ?_)))
      rintro k ⟨hk, hinv2⟩
      try simp (config := { maxSteps := 2000000 }) only [go_sem, reduceCtorEq, Nat.reduceAdd, Nat.reduceEqDiff, reduceIte, Nat.reduceLeDiff, Nat.reduceLT, Nat.reduceSub, hg]
      all_goals (repeat (with_reducible refine sAnd ?_))
      refine cond_of (by rfl) trivial (fun h4 => ?_) (fun h4 => ?_)
      · have hkl : k < p.steps.length := by simp at h4; omega
        have fq := fits_sts fp.1 hkl
        rw [drop_get (d := default) hkl] at hinv2
        obtain ⟨q, hq⟩ : ∃ q, q = p.steps.getD k default := ⟨_, rfl⟩
        rw [← hq] at hinv2 fq
        have fqt := fits_tl fq
        have hg3 : (stsV p.steps).getD k [] = [bS q.tag, .sl 6 (tssV q.tests)] := by rw [stsV_get _ k hkl, ← hq, stV_eq]
        simp only [bnSs] at hinv2
        have hqs : bnS q = bnTs q.tests := by cases q; rfl
        try simp (config := { maxSteps := 2000000 }) only [go_sem, reduceCtorEq, Nat.reduceAdd, Nat.reduceEqDiff, reduceIte, Nat.reduceLeDiff, Nat.reduceLT, Nat.reduceSub, hg, hg3]
        all_goals (repeat (with_reducible refine sAnd ?_))

        refine loop_sets (fun j : Nat => [(5, .pv (iv j)), (2, .un), (6, .un), (34, .un), (57, .un)]) (fun j : Nat => q.tests.length - j) (fun j : Nat => j ≤ q.tests.length ∧ bnTs (q.tests.drop j) = bnTs q.tests) (0) ?_ ⟨Nat.zero_le _, rfl⟩ ?_
        focus (simp (config := { maxSteps := 2000000 }) only [go_sem, reduceCtorEq, Nat.reduceAdd, Nat.reduceEqDiff, reduceIte, Nat.reduceLeDiff, Nat.reduceLT, Nat.reduceSub, le_cons, le_nil, le_un, le_same]; all_goals (repeat' (first | exact trivial | exact le_int (by omega) | exact le_bool rfl | exact le_eq rfl | exact le_nlo | exact le_refl _ | refine And.intro ?_ ?_)))
        rintro j ⟨hj, hinv3⟩
        try simp (config := { maxSteps := 2000000 }) only [go_sem, reduceCtorEq, Nat.reduceAdd, Nat.reduceEqDiff, reduceIte, Nat.reduceLeDiff, Nat.reduceLT, Nat.reduceSub, hg, hg3]
        all_goals (repeat (with_reducible refine sAnd ?_))
        refine cond_of (by rfl) trivial (fun h6 => ?_) (fun h6 => ?_)
        · have hjl : j < q.tests.length := by simp at h6; omega
          rw [drop_get (d := default) hjl] at hinv3
          obtain ⟨t, ht⟩ : ∃ t, t = q.tests.getD j default := ⟨_, rfl⟩
          rw [← ht] at hinv3
          have hg4 := tssV_get q.tests j hjl
          rw [← ht, tsV_eq] at hg4
          have hszt : SizeOf.sizeOf t.list ≤ N := by
            have h7 := lt_list t
            have h8 := lt_ts hjl
            rw [← ht] at h8
            have h9 := lt_st hkl
            rw [← hq] at h9
            have h10 := lt_tests q
            omega
          simp only [bnTs] at hinv3
          have hts : bnT t = (decide (nthE t.na t.nb ≠ 0) || bnPs t.list) := by
            cases t with
            | mk kk nn vv aa bb ll => by_cases h9 : nthE aa bb = 0 <;> simp [bnT, Ts.na, Ts.nb, Ts.list, h9]
          have hrec := c_bn N t.list hszt
          unfold listV at hrec
          try simp (config := { maxSteps := 2000000 }) only [go_sem, reduceCtorEq, Nat.reduceAdd, Nat.reduceEqDiff, reduceIte, Nat.reduceLeDiff, Nat.reduceLT, Nat.reduceSub, hg, hg3, hg4]
          all_goals (repeat (with_reducible refine sAnd ?_))
          refine call_val (by repeat' constructor) (c_ref_CheckNth t.na t.nb) ?_
          try simp (config := { maxSteps := 2000000 }) only [go_sem, reduceCtorEq, Nat.reduceAdd, Nat.reduceEqDiff, reduceIte, Nat.reduceLeDiff, Nat.reduceLT, Nat.reduceSub, int_ne]
          all_goals (repeat (with_reducible refine sAnd ?_))
          apply call_guard (h2 := fun _ => hrec)
          · (simp (config := { maxSteps := 2000000 }) only [go_sem, reduceCtorEq, Nat.reduceAdd, Nat.reduceEqDiff, reduceIte, Nat.reduceLeDiff, Nat.reduceLT, Nat.reduceSub]; rfl)
          · intro h; repeat' (first | exact trivial | exact h | refine And.intro ?_ ?_)
          try simp (config := { maxSteps := 2000000 }) only [go_sem, reduceCtorEq, Nat.reduceAdd, Nat.reduceEqDiff, reduceIte, Nat.reduceLeDiff, Nat.reduceLT, Nat.reduceSub, Bool.cond_false_right, Bool.cond_true_left]
          all_goals (repeat (with_reducible refine sAnd ?_))
          refine cond_of (by rfl) trivial (fun h7 => ?_) (fun h7 => ?_)
          · try simp (config := { maxSteps := 2000000 }) only [go_sem, reduceCtorEq, Nat.reduceAdd, Nat.reduceEqDiff, reduceIte, Nat.reduceLeDiff, Nat.reduceLT, Nat.reduceSub]
            all_goals (repeat (with_reducible refine sAnd ?_))
            refine fin_val rfl trivial (.inl ?_)
            congr 3
            rw [← hinv, hps, ← hinv2, hqs, ← hinv3, hts, h7]; simp
          · rw [h7] at hts
            rw [hts, Bool.false_or] at hinv3
            try simp (config := { maxSteps := 2000000 }) only [go_sem, reduceCtorEq, Nat.reduceAdd, Nat.reduceEqDiff, reduceIte, Nat.reduceLeDiff, Nat.reduceLT, Nat.reduceSub]
            all_goals (repeat (with_reducible refine sAnd ?_))
            refine ⟨j + 1, by omega, ⟨by omega, hinv3⟩, ?_⟩
            simp (config := { maxSteps := 2000000 }) only [go_sem, reduceCtorEq, Nat.reduceAdd, Nat.reduceEqDiff, reduceIte, Nat.reduceLeDiff, Nat.reduceLT, Nat.reduceSub, le_cons, le_nil, le_un, le_same]
            all_goals (repeat' (first | exact trivial | exact le_int (by omega) | exact le_bool rfl | exact le_eq rfl | exact le_nlo | exact le_refl _ | refine And.intro ?_ ?_))
        · have hjl : j = q.tests.length := by simp at h6; omega
          subst hjl
          rw [List.drop_length] at hinv3
          rw [hqs, ← hinv3] at hinv2
          try simp (config := { maxSteps := 2000000 }) only [go_sem, reduceCtorEq, Nat.reduceAdd, Nat.reduceEqDiff, reduceIte, Nat.reduceLeDiff, Nat.reduceLT, Nat.reduceSub]
          all_goals (repeat (with_reducible refine sAnd ?_))
          refine ⟨k + 1, by omega, ⟨by omega, hinv2⟩, ?_⟩
          simp (config := { maxSteps := 2000000 }) only [go_sem, reduceCtorEq, Nat.reduceAdd, Nat.reduceEqDiff, reduceIte, Nat.reduceLeDiff, Nat.reduceLT, Nat.reduceSub, le_cons, le_nil, le_un, le_same]
          all_goals (repeat' (first | exact trivial | exact le_int (by omega) | exact le_bool rfl | exact le_eq rfl | exact le_nlo | exact le_refl _ | refine And.intro ?_ ?_))
      · have hkl : k = p.steps.length := by simp at h4; omega
        subst hkl
        rw [List.drop_length] at hinv2
        rw [hps, ← hinv2] at hinv
        try simp (config := { maxSteps := 2000000 }) only [go_sem, reduceCtorEq, Nat.reduceAdd, Nat.reduceEqDiff, reduceIte, Nat.reduceLeDiff, Nat.reduceLT, Nat.reduceSub]
        all_goals (repeat (with_reducible refine sAnd ?_))
        refine ⟨i + 1, by omega, ⟨by omega, hinv⟩, ?_⟩
        simp (config := { maxSteps := 2000000 }) only [go_sem, reduceCtorEq, Nat.reduceAdd, Nat.reduceEqDiff, reduceIte, Nat.reduceLeDiff, Nat.reduceLT, Nat.reduceSub, le_cons, le_nil, le_un, le_same]
        all_goals (repeat' (first | exact trivial | exact le_int (by omega) | exact le_bool rfl | exact le_eq rfl | exact le_nlo | exact le_refl _ | refine And.intro ?_ ?_))
    · have hil : i = l.length := by simp at h2; omega
      subst hil
      rw [List.drop_length] at hinv
      try simp (config := { maxSteps := 2000000 }) only [go_sem, reduceCtorEq, Nat.reduceAdd, Nat.reduceEqDiff, reduceIte, Nat.reduceLeDiff, Nat.reduceLT, Nat.reduceSub]
      all_goals (repeat (with_reducible refine sAnd ?_))
      refine fin_val rfl trivial (.inl ?_)
      congr 3
      rw [← hinv]; rfl

theorem c_ref_CheckList (l : List Pt) : Contract Tryd.prog fn_ref_CheckList [.val (listV l)] { res := .val (iv (checkL l)) } := by
  have t1 := c_tm (SizeOf.sizeOf l) l 1 (Nat.le_refl _) (by omega)
  have t2 := c_bk (SizeOf.sizeOf l) l (Nat.le_refl _)
  have t3 := c_bf (SizeOf.sizeOf l) l (Nat.le_refl _)
  have t4 := c_bn (SizeOf.sizeOf l) l (Nat.le_refl _)
  unfold listV at *
  refine mk_ref_CheckList (base := 0) ⟨Nat.le_of_ble_eq_true rfl, Nat.le_of_ble_eq_true rfl, Nat.le_of_ble_eq_true rfl, rfl⟩ (fun hfit => ?_)
  unfold F0 ref_CheckList_E
  simp (config := { maxSteps := 2000000 }) only [markU, List.set_cons_succ, List.set_cons_zero, List.map_cons, List.map_nil, argCt, setCells, ioOf, List.length_cons, List.length_nil, Nat.reduceAdd, Nat.reduceSub, List.replicate, List.cons_append, List.nil_append]
  try simp (config := { maxSteps := 2000000 }) only [go_sem, reduceCtorEq, Nat.reduceAdd, Nat.reduceEqDiff, reduceIte, Nat.reduceLeDiff, Nat.reduceLT, Nat.reduceSub]
  all_goals (repeat (with_reducible refine sAnd ?_))
  refine call_val (by repeat' constructor) (t1) ?_
  try simp (config := { maxSteps := 2000000 }) only [go_sem, reduceCtorEq, Nat.reduceAdd, Nat.reduceEqDiff, reduceIte, Nat.reduceLeDiff, Nat.reduceLT, Nat.reduceSub]
  all_goals (repeat (with_reducible refine sAnd ?_))
  refine cond_of (by rfl) trivial (fun h1 => ?_) (fun h1 => ?_)
  · try simp (config := { maxSteps := 2000000 }) only [go_sem, reduceCtorEq, Nat.reduceAdd, Nat.reduceEqDiff, reduceIte, Nat.reduceLeDiff, Nat.reduceLT, Nat.reduceSub]
    all_goals (repeat (with_reducible refine sAnd ?_))
    refine fin_val rfl trivial (.inl ?_)
    congr 3
    unfold checkL
    rw [if_pos h1]
  try simp (config := { maxSteps := 2000000 }) only [go_sem, reduceCtorEq, Nat.reduceAdd, Nat.reduceEqDiff, reduceIte, Nat.reduceLeDiff, Nat.reduceLT, Nat.reduceSub]
  all_goals (repeat (with_reducible refine sAnd ?_))
  refine call_val (by repeat' constructor) (t2) ?_
  try simp (config := { maxSteps := 2000000 }) only [go_sem, reduceCtorEq, Nat.reduceAdd, Nat.reduceEqDiff, reduceIte, Nat.reduceLeDiff, Nat.reduceLT, Nat.reduceSub]
  all_goals (repeat (with_reducible refine sAnd ?_))
  refine cond_of (by rfl) trivial (fun h2 => ?_) (fun h2 => ?_)
  · try simp (config := { maxSteps := 2000000 }) only [go_sem, reduceCtorEq, Nat.reduceAdd, Nat.reduceEqDiff, reduceIte, Nat.reduceLeDiff, Nat.reduceLT, Nat.reduceSub]
    all_goals (repeat (with_reducible refine sAnd ?_))
    refine fin_val rfl trivial (.inl ?_)
    congr 3
    unfold checkL
    rw [if_neg (by rw [h1]; simp), if_pos h2]
  try simp (config := { maxSteps := 2000000 }) only [go_sem, reduceCtorEq, Nat.reduceAdd, Nat.reduceEqDiff, reduceIte, Nat.reduceLeDiff, Nat.reduceLT, Nat.reduceSub]
  all_goals (repeat (with_reducible refine sAnd ?_))
  refine call_val (by repeat' constructor) (t3) ?_
  try simp (config := { maxSteps := 2000000 }) only [go_sem, reduceCtorEq, Nat.reduceAdd, Nat.reduceEqDiff, reduceIte, Nat.reduceLeDiff, Nat.reduceLT, Nat.reduceSub]
  all_goals (repeat (with_reducible refine sAnd ?_))
  refine cond_of (by rfl) trivial (fun h3 => ?_) (fun h3 => ?_)
  · try simp (config := { maxSteps := 2000000 }) only [go_sem, reduceCtorEq, Nat.reduceAdd, Nat.reduceEqDiff, reduceIte, Nat.reduceLeDiff, Nat.reduceLT, Nat.reduceSub]
    all_goals (repeat (with_reducible refine sAnd ?_))
    refine fin_val rfl trivial (.inl ?_)
    congr 3
    unfold checkL
    rw [if_neg (by rw [h1]; simp), if_neg (by rw [h2]; simp), if_pos h3]
  try simp (config := { maxSteps := 2000000 }) only [go_sem, reduceCtorEq, Nat.reduceAdd, Nat.reduceEqDiff, reduceIte, Nat.reduceLeDiff, Nat.reduceLT, Nat.reduceSub]
  all_goals (repeat (with_reducible refine sAnd ?_))
  refine call_val (by repeat' constructor) (t4) ?_
  try simp (config := { maxSteps := 2000000 }) only [go_sem, reduceCtorEq, Nat.reduceAdd, Nat.reduceEqDiff, reduceIte, Nat.reduceLeDiff, Nat.reduceLT, Nat.reduceSub]
  all_goals (repeat (with_reducible refine sAnd ?_))
  refine cond_of (by rfl) trivial (fun h4 => ?_) (fun h4 => ?_)
  · try simp (config := { maxSteps := 2000000 }) only [go_sem, reduceCtorEq, Nat.reduceAdd, Nat.reduceEqDiff, reduceIte, Nat.reduceLeDiff, Nat.reduceLT, Nat.reduceSub]
    all_goals (repeat (with_reducible refine sAnd ?_))
    refine fin_val rfl trivial (.inl ?_)
    congr 3
    unfold checkL
    rw [if_neg (by rw [h1]; simp), if_neg (by rw [h2]; simp), if_neg (by rw [h3]; simp), if_pos h4]
  · try simp (config := { maxSteps := 2000000 }) only [go_sem, reduceCtorEq, Nat.reduceAdd, Nat.reduceEqDiff, reduceIte, Nat.reduceLeDiff, Nat.reduceLT, Nat.reduceSub]
    all_goals (repeat (with_reducible refine sAnd ?_))
    refine fin_val rfl trivial (.inl ?_)
    congr 3
    unfold checkL
    rw [if_neg (by rw [h1]; simp), if_neg (by rw [h2]; simp), if_neg (by rw [h3]; simp), if_neg (by rw [h4]; simp)]
end Go.Hx
end
