/-
  Walks of functions of the program over an abstract layer, and the laws that they use: each contract says what the function computes, for every input that its conditions let by. No other condition.
-/
import Derived.Test.YtjnagiaooecklaaDoorG8
import Derived.Test.YtjnagiaooecklaaDoorG9
import Derived.Test.YtjnagiaooecklaaDoorG10
import Derived.Test.YtjnagiaooecklaaDoorG11
import Derived.Shelf.Strings.SlTrimAscii
set_option linter.all false
section
set_option maxRecDepth 100000
set_option linter.unusedSimpArgs false
namespace Go.Hx
open Go.Proofs Go.RowKit
variable [Glob]

attribute [local go_sem] ndsV_len clsV_len attV_len intsR_len ndV cellsEq
theorem pres_of_below {R : Nat → Prop} {w w' : World} (h : Below w.heap.size w w') : Pres R w w' := ⟨h.os, h.tape, h.output, h.size, fun b hb _ => h.block b hb⟩
theorem memOk_below {m : Mem} {w w' : World} (hm : MemOk m w) (h : Below w.heap.size w w') : MemOk m w' := fun b o u hu => by
  have h1 := hm b o u hu
  have h2 : b < w.heap.size := World.block_lt_of_cell? w _ h1
  rw [← h1]
  exact World.cell?_of_block (h.block b h2)
theorem below_of_pres {R : Nat → Prop} {w w' : World} (h : Pres R w w') (hR : ∀ b, ¬ R b) : Below w.heap.size w w' := ⟨h.os, h.tape, h.output, h.size, fun b hb => h.block b hb (hR b)⟩
/-- What a contract of the kit's says of a function of values alone. -/
theorem post_val {m : Mem} {w w' : World} {avs : List AV} {us : List Value} {e : Ending} {x : PVal} {u : Value} (hm : MemOk m w) (h : Below w.heap.size w w') (he : e = .returned u) (hx : RpV m x u) (hio : ioB avs us = none) : Post m w avs us { res := .val x } e w' :=
  ⟨m, m.le_refl, memOk_below hm h, pres_of_below h, fun _ _ _ h => .inl h, (fun b hb => by rw [hio] at hb; cases hb), u, he, hx⟩

theorem glob_below {w w' : World} (h : Below w.heap.size w w') (hG : Glob.ok w) : Glob.ok w' :=
  Glob.keep _ _ (fun b hb => h.block b (Nat.lt_of_lt_of_le hb (Glob.size _ hG))) hG
theorem trimS_len (s cs : Bys) : (Lib.trimS s cs).length ≤ s.length := by
  unfold Lib.trimS Lib.trimLeftS Lib.trimRightS
  refine Nat.le_trans (List.dropWhile_sublist _).length_le ?_
  rw [List.length_reverse]
  refine Nat.le_trans (List.dropWhile_sublist _).length_le ?_
  rw [List.length_reverse]
  exact Nat.le_refl _
theorem flat_mkS' {s : Bys} (h : s.length ≤ maxLen) : flat (mkS s) = true := by
  simp only [flat]
  exact decide_eq_true (by simpa [ByteArray.size] using h)
theorem mkS_flat {s : Bys} (h : flat (mkS s) = true) : s.length ≤ maxLen := by
  simp only [flat, decide_eq_true_eq] at h
  simpa [ByteArray.size] using h
theorem c_strings_Trim (s cs : Bys) (hc : cs.length < 1000) (ha : cs.all (fun b => decide (b.toNat < 128)) = true) : Contract Tryd.prog fn_strings_Trim [.val (sv s), .val (sv cs)] { res := .val (sv (Lib.trimS s cs)) } := by
  refine ⟨by kernel_rfl, fun m w us hm hargs _ hG _ => ?_⟩
  obtain ⟨u1, us1, rfl, h1, u2, us2, rfl, h2, rfl⟩ := hargs
  obtain ⟨rfl, f1⟩ := h1
  obtain ⟨rfl, f2⟩ := h2
  have hs := mkS_flat f1
  have hT := Any.strings_Trim_laid Tryd.l160 (by kernel_rfl) ⟨s.toArray⟩ ⟨cs.toArray⟩ w (by simpa [ByteArray.size, maxLen] using hs) (by simp [ByteArray.size]; omega) (ascii_of_all (by simpa using ha))
  change Calls Tryd.prog fn_strings_Trim _ _ _ at hT
  refine hT.mono fun e w' ⟨he, hb⟩ => post_val hm hb he ⟨by simp, ?_⟩ rfl
  exact flat_mkS' (Nat.le_trans (trimS_len s cs) hs)

theorem c_strings_ContainsFunc (s : Bys) (g : Nat) (p : Nat → Bool) (hp : ∀ r, 128 ≤ r → p r = true) (eg : ∀ args w, (callFunc g args).run Tryd.prog w = .ok (.enter g args) w)
    (hg : ∀ r : Nat, Contract Tryd.prog g [.val (.one (.v (.int .i32 r)))] { res := .val (bv (p r)) }) :
    Contract Tryd.prog fn_strings_ContainsFunc [.val (sv s), .val (.one (.clo g []))] { res := .val (bv (!s.all (fun b => decide (b.toNat < 128) && !p b.toNat))) } := by
  refine ⟨by kernel_rfl, fun m w us hm hargs _ hG _ => ?_⟩
  obtain ⟨u1, us1, rfl, h1, u2, us2, rfl, h2, rfl⟩ := hargs
  obtain ⟨rfl, f1⟩ := h1
  obtain ⟨us, rfl, hus⟩ := h2
  obtain rfl : us = [] := by simpa [RpL] using hus
  have hpg : PredGrows Tryd.prog g #[] p w := fun W x _ hbW => by
    refine ((hg x).2 (fun _ _ => none) W [.int .i32 x] (fun _ _ _ h => by cases h) ⟨_, _, rfl, ⟨rfl, rfl⟩, rfl⟩ (by intro g h; cases h) (glob_below hbW hG) (by rintro b (h | h) <;> cases h)).mono fun e W' ⟨m', _, _, hpr, _, _, u, hu, hr⟩ => ?_
    obtain rfl : u = .bool (p x) := hr.1
    exact ⟨hu, below_of_pres hpr (by intro b h; rcases h with h | h <;> cases h)⟩
  have hT := Any.strings_ContainsFunc_grows Tryd.l17 g #[] eg p ⟨s.toArray⟩ w hpg
  change Calls Tryd.prog fn_strings_ContainsFunc _ _ _ at hT
  rw [idx_bys hp] at hT
  exact hT.mono fun e w' ⟨he, hb⟩ => post_val hm hb he ⟨rfl, rfl⟩ rfl

def pName (r : Nat) : Bool := ((decide (r < 97) || decide (122 < r)) && (decide (r < 48) || decide (57 < r))) && decide (r ≠ 45)
def pValue (r : Nat) : Bool := decide (r < 32) || decide (126 < r) || decide (r = 34)
theorem c_doc_Name_1 (r : Nat) : Contract Tryd.prog fn_doc_Name_1 [.val (.one (.v (.int .i32 r)))] { res := .val (bv (pName r)) } := by
  refine mk_doc_Name_1 (base := 0) ⟨Nat.le_of_ble_eq_true rfl, Nat.le_of_ble_eq_true rfl, Nat.le_of_ble_eq_true rfl, rfl⟩ (fun hfit => ?_)
  unfold F0 doc_Name_1_E
  simp (config := { maxSteps := 2000000 }) only [markU, List.set_cons_succ, List.set_cons_zero, List.map_cons, List.map_nil, argCt, setCells, ioOf, List.length_cons, List.length_nil, Nat.reduceAdd, Nat.reduceSub, List.replicate, List.cons_append, List.nil_append]
  try simp (config := { maxSteps := 2000000 }) only [go_sem, reduceCtorEq, Nat.reduceAdd, Nat.reduceEqDiff, reduceIte, Nat.reduceLeDiff, Nat.reduceLT, Nat.reduceSub]
  all_goals (repeat (with_reducible refine sAnd ?_))
  refine fin_val rfl trivial (.inl ?_)
  congr 3
  unfold pName
  grind
theorem c_doc_Value_1 (r : Nat) : Contract Tryd.prog fn_doc_Value_1 [.val (.one (.v (.int .i32 r)))] { res := .val (bv (pValue r)) } := by
  refine mk_doc_Value_1 (base := 0) ⟨Nat.le_of_ble_eq_true rfl, Nat.le_of_ble_eq_true rfl, Nat.le_of_ble_eq_true rfl, rfl⟩ (fun hfit => ?_)
  unfold F0 doc_Value_1_E
  simp (config := { maxSteps := 2000000 }) only [markU, List.set_cons_succ, List.set_cons_zero, List.map_cons, List.map_nil, argCt, setCells, ioOf, List.length_cons, List.length_nil, Nat.reduceAdd, Nat.reduceSub, List.replicate, List.cons_append, List.nil_append]
  try simp (config := { maxSteps := 2000000 }) only [go_sem, reduceCtorEq, Nat.reduceAdd, Nat.reduceEqDiff, reduceIte, Nat.reduceLeDiff, Nat.reduceLT, Nat.reduceSub]
  all_goals (repeat (with_reducible refine sAnd ?_))
  refine fin_val rfl trivial (.inl ?_)
  congr 3
  unfold pValue
  grind
theorem enter_1 : ∀ args w, (callFunc fn_doc_Name_1 args).run Tryd.prog w = .ok (.enter fn_doc_Name_1 args) w := enters_of Tryd.func149 (by kernel_rfl) rfl
theorem enter_2 : ∀ args w, (callFunc fn_doc_Value_1 args).run Tryd.prog w = .ok (.enter fn_doc_Value_1 args) w := enters_of Tryd.func151 (by kernel_rfl) rfl

theorem all_congr' {α : Type} {l : List α} {p q : α → Bool} (h : ∀ x, p x = q x) : l.all p = l.all q := by rw [show p = q from funext h]
theorem val_ch (b : UInt8) : (decide (b.toNat < 128) && !pValue b.toNat) = valCh b := by
  unfold pValue valCh
  grind
theorem name_ch (b : UInt8) : (decide (b.toNat < 128) && !pName b.toNat) = nameCh b := by
  unfold pName nameCh
  grind
theorem set_ch (b : UInt8) : ([97, 98, 99, 100, 101, 102, 103, 104, 105, 106, 107, 108, 109, 110, 111, 112, 113, 114, 115, 116, 117, 118, 119, 120, 121, 122, 48, 49, 50, 51, 52, 53, 54, 55, 56, 57, 45] : Bys).contains b = nameCh b := by
  have h : ∀ n : Fin 256, ([97, 98, 99, 100, 101, 102, 103, 104, 105, 106, 107, 108, 109, 110, 111, 112, 113, 114, 115, 116, 117, 118, 119, 120, 121, 122, 48, 49, 50, 51, 52, 53, 54, 55, 56, 57, 45] : Bys).contains (UInt8.ofFin n) = nameCh (UInt8.ofFin n) := by decide +kernel
  exact h b.toFin

theorem c_doc_Value (s : Bys) : Contract Tryd.prog fn_doc_Value [.val (sv s)] { res := .val (bv (isValue s)) } := by
  refine mk_doc_Value (base := 0) ⟨Nat.le_of_ble_eq_true rfl, Nat.le_of_ble_eq_true rfl, Nat.le_of_ble_eq_true rfl, rfl⟩ (fun hfit => ?_)
  unfold F0 doc_Value_E
  simp (config := { maxSteps := 2000000 }) only [markU, List.set_cons_succ, List.set_cons_zero, List.map_cons, List.map_nil, argCt, setCells, ioOf, List.length_cons, List.length_nil, Nat.reduceAdd, Nat.reduceSub, List.replicate, List.cons_append, List.nil_append]
  try simp (config := { maxSteps := 2000000 }) only [go_sem, reduceCtorEq, Nat.reduceAdd, Nat.reduceEqDiff, reduceIte, Nat.reduceLeDiff, Nat.reduceLT, Nat.reduceSub]
  all_goals (repeat (with_reducible refine sAnd ?_))
  apply call_guard (h2 := fun _ => c_strings_ContainsFunc s fn_doc_Value_1 pValue (by intro r h; unfold pValue; grind) enter_2 c_doc_Value_1)
  · (simp (config := { maxSteps := 2000000 }) only [go_sem, reduceCtorEq, Nat.reduceAdd, Nat.reduceEqDiff, reduceIte, Nat.reduceLeDiff, Nat.reduceLT, Nat.reduceSub]; rfl)
  · intro h; repeat' (first | exact trivial | exact h | refine And.intro ?_ ?_)
  try simp (config := { maxSteps := 2000000 }) only [go_sem, reduceCtorEq, Nat.reduceAdd, Nat.reduceEqDiff, reduceIte, Nat.reduceLeDiff, Nat.reduceLT, Nat.reduceSub]
  all_goals (repeat (with_reducible refine sAnd ?_))
  refine fin_val rfl trivial (.inl ?_)
  congr 3
  rw [all_congr' val_ch, isValue]
  grind
theorem c_doc_Name (s : Bys) : Contract Tryd.prog fn_doc_Name [.val (sv s)] { res := .val (bv (isName s)) } := by
  refine mk_doc_Name (base := 0) ⟨Nat.le_of_ble_eq_true rfl, Nat.le_of_ble_eq_true rfl, Nat.le_of_ble_eq_true rfl, rfl⟩ (fun hfit => ?_)
  unfold F0 doc_Name_E
  simp (config := { maxSteps := 2000000 }) only [markU, List.set_cons_succ, List.set_cons_zero, List.map_cons, List.map_nil, argCt, setCells, ioOf, List.length_cons, List.length_nil, Nat.reduceAdd, Nat.reduceSub, List.replicate, List.cons_append, List.nil_append]
  try simp (config := { maxSteps := 2000000 }) only [go_sem, reduceCtorEq, Nat.reduceAdd, Nat.reduceEqDiff, reduceIte, Nat.reduceLeDiff, Nat.reduceLT, Nat.reduceSub]
  all_goals (repeat (with_reducible refine sAnd ?_))
  apply call_guard (h2 := fun _ => c_strings_Trim s _ (by decide) (by decide))
  · (simp (config := { maxSteps := 2000000 }) only [go_sem, reduceCtorEq, Nat.reduceAdd, Nat.reduceEqDiff, reduceIte, Nat.reduceLeDiff, Nat.reduceLT, Nat.reduceSub]; rfl)
  · intro h; repeat' (first | exact trivial | exact h | refine And.intro ?_ ?_)
  try simp (config := { maxSteps := 2000000 }) only [go_sem, reduceCtorEq, Nat.reduceAdd, Nat.reduceEqDiff, reduceIte, Nat.reduceLeDiff, Nat.reduceLT, Nat.reduceSub]
  all_goals (repeat (with_reducible refine sAnd ?_))
  apply call_guard (h2 := fun _ => c_strings_ContainsFunc s fn_doc_Name_1 pName (by intro r h; unfold pName; grind) enter_1 c_doc_Name_1)
  · (simp (config := { maxSteps := 2000000 }) only [go_sem, reduceCtorEq, Nat.reduceAdd, Nat.reduceEqDiff, reduceIte, Nat.reduceLeDiff, Nat.reduceLT, Nat.reduceSub]; rfl)
  · intro h; repeat' (first | exact trivial | exact h | refine And.intro ?_ ?_)
  try simp (config := { maxSteps := 2000000 }) only [go_sem, reduceCtorEq, Nat.reduceAdd, Nat.reduceEqDiff, reduceIte, Nat.reduceLeDiff, Nat.reduceLT, Nat.reduceSub]
  all_goals (repeat (with_reducible refine sAnd ?_))
  refine fin_val rfl trivial (.inl ?_)
  congr 3
  rw [all_congr' name_ch, trim_nil, all_congr' set_ch, isName]
  grind
end Go.Hx
end

section
set_option maxRecDepth 100000
set_option linter.unusedSimpArgs false
namespace Go.Hx
open Go.Proofs
variable [Glob]

attribute [local go_sem] ndsV_len clsV_len attV_len intsR_len ndV cellsEq
end Go.Hx
end
