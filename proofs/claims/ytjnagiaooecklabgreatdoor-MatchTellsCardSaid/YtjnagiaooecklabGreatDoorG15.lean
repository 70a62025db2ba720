/-
  Walks of functions of the program over an abstract layer, and the laws that they use: each contract says what the function computes, for every input that its conditions let by. No other condition.
-/
import Derived.Test.YtjnagiaooecklabGreatDoorG8
import Derived.Test.YtjnagiaooecklabGreatDoorG10
import Derived.Test.YtjnagiaooecklabGreatDoorG13
import Derived.Test.YtjnagiaooecklabGreatDoorG14
import Derived.Shelf.Strings.SlTrimAscii
import Derived.Test.YtjnagiaooecklabGreatDoorG12
import Derived.Test.YtjnagiaooecklabGreatDoorG11
import Derived.Test.YtjnagiaooecklabGreatDoorG9
set_option linter.all false
section
set_option maxRecDepth 100000
set_option linter.unusedSimpArgs false
namespace Go.Hx
open Go.Proofs Go.RowKit
variable [Glob]
attribute [local go_sem] zAx zAy zAw zAs ndV zAv
attribute [local go_sem] reduceCtorEq Nat.reduceAdd Nat.reduceEqDiff reduceIte Nat.reduceLeDiff Nat.reduceLT Nat.reduceSub
theorem zU7 {R : Nat → Prop} {w w' : World} (h : Below w.heap.size w w') : Pres R w w' := ⟨h.os, h.tape, h.output, h.size, fun b hb _ => h.block b hb⟩
theorem zZu {m : Mem} {w w' : World} (hm : MemOk m w) (h : Below w.heap.size w w') : MemOk m w' := fun b o u hu => by
 have h1 := hm b o u hu
 have h2 : b < w.heap.size := World.block_lt_of_cell? w _ h1
 rw [← h1]
 exact World.cell?_of_block (h.block b h2)
theorem zU8 {R : Nat → Prop} {w w' : World} (h : Pres R w w') (hR : ∀ b, ¬ R b) : Below w.heap.size w w' := ⟨h.os, h.tape, h.output, h.size, fun b hb => h.block b hb (hR b)⟩
theorem yAG {m : Mem} {w w' : World} {avs : List AV} {us : List Value} {e : Ending} {x : PVal} {u : Value} (hm : MemOk m w) (h : Below w.heap.size w w') (he : e = .returned u) (hx : RpV m x u) (hio : ioB avs us = none) : yEA m w avs us { res := .val x } e w' :=
 ⟨m, m.le_refl, zZu hm h, zU7 h, fun _ _ _ h => .inl h, (fun b hb => by rw [hio] at hb; cases hb), u, he, hx⟩
theorem yBK {w w' : World} (h : Below w.heap.size w w') (hG : Glob.ok w) : Glob.ok w' :=
 Glob.keep _ _ (fun b hb => h.block b (Nat.lt_of_lt_of_le hb (Glob.size _ hG))) hG
theorem yC4 (s cs : Bys) : (Lib.trimS s cs).length ≤ s.length := by
 unfold Lib.trimS Lib.trimLeftS Lib.trimRightS
 refine Nat.le_trans (List.dropWhile_sublist _).length_le ?_
 rw [List.length_reverse]
 refine Nat.le_trans (List.dropWhile_sublist _).length_le ?_
 rw [List.length_reverse]
 exact Nat.le_refl _
theorem yC5 {s : Bys} (h : s.length ≤ maxLen) : zEW (mkS s) = true := by
 simp only [zEW]
 exact decide_eq_true (by simpa [ByteArray.size] using h)
theorem yEm {s : Bys} (h : zEW (mkS s) = true) : s.length ≤ maxLen := by
 simp only [zEW, decide_eq_true_eq] at h
 simpa [ByteArray.size] using h
theorem zSc (s cs : Bys) (hc : cs.length < 1000) (ha : cs.all (fun b => decide (b.toNat < 128)) = true) : Contract Tryz.prog zED [.val (sv s), .val (sv cs)] { res := .val (sv (Lib.trimS s cs)) } := by
 refine ⟨by kernel_rfl, fun m w us hm hargs _ hG _ => ?_⟩
 obtain ⟨u1, us1, rfl, h1, u2, us2, rfl, h2, rfl⟩ := hargs
 obtain ⟨rfl, f1⟩ := h1
 obtain ⟨rfl, f2⟩ := h2
 have hs := yEm f1
 have hT := Any.strings_Trim_laid Tryz.l160 (by kernel_rfl) ⟨s.toArray⟩ ⟨cs.toArray⟩ w (by simpa [ByteArray.size, maxLen] using hs) (by simp [ByteArray.size]; omega) (ascii_of_all (by simpa using ha))
 change Calls Tryz.prog zED _ _ _ at hT
 refine hT.mono fun e w' ⟨he, hb⟩ => yAG hm hb he ⟨by simp, ?_⟩ rfl
 exact yC5 (Nat.le_trans (yC4 s cs) hs)
theorem zDw (s : Bys) (g : Nat) (p : Nat → Bool) (hp : ∀ r, 128 ≤ r → p r = true) (eg : ∀ args w, (callFunc g args).run Tryz.prog w = .ok (.enter g args) w)
  (hg : ∀ r : Nat, Contract Tryz.prog g [.val (.one (.v (.int .i32 r)))] { res := .val (bv (p r)) }) :
  Contract Tryz.prog zBq [.val (sv s), .val (.one (.clo g []))] { res := .val (bv (!s.all (fun b => decide (b.toNat < 128) && !p b.toNat))) } := by
 refine ⟨by kernel_rfl, fun m w us hm hargs _ hG _ => ?_⟩
 obtain ⟨u1, us1, rfl, h1, u2, us2, rfl, h2, rfl⟩ := hargs
 obtain ⟨rfl, f1⟩ := h1
 obtain ⟨us, rfl, hus⟩ := h2
 obtain rfl : us = [] := by simpa [RpL] using hus
 have hpg : PredGrows Tryz.prog g #[] p w := fun W x _ hbW => by
  refine ((hg x).2 (fun _ _ => none) W [.int .i32 x] (fun _ _ _ h => by cases h) ⟨_, _, rfl, ⟨rfl, rfl⟩, rfl⟩ (by intro g h; cases h) (yBK hbW hG) (by rintro b (h | h) <;> cases h)).mono fun e W' ⟨m', _, _, hpr, _, _, u, hu, hr⟩ => ?_
  obtain rfl : u = .bool (p x) := hr.1
  exact ⟨hu, zU8 hpr (by intro b h; rcases h with h | h <;> cases h)⟩
 have hT := Any.strings_ContainsFunc_grows Tryz.l17 g #[] eg p ⟨s.toArray⟩ w hpg
 change Calls Tryz.prog zBq _ _ _ at hT
 rw [yGe hp] at hT
 exact hT.mono fun e w' ⟨he, hb⟩ => yAG hm hb he ⟨rfl, rfl⟩ rfl
def yBL (r : Nat) : Bool := ((decide (r < 97) || decide (122 < r)) && (decide (r < 48) || decide (57 < r))) && decide (r ≠ 45)
def zSO (r : Nat) : Bool := decide (r < 32) || decide (126 < r) || decide (r = 34)
theorem zXw (r : Nat) : Contract Tryz.prog zCn [.val (.one (.v (.int .i32 r)))] { res := .val (bv (yBL r)) } := by
 refine mkA zUe (base := 0) (fo rfl) (fun hfit => ?_)
 unfold F0 zMI
 simp (maxSteps := 2000000) only [zAD, List.set_cons_succ, List.set_cons_zero, List.map_cons, List.map_nil, zAC, zAa, ioOf, List.length_cons, List.length_nil, Nat.reduceAdd, Nat.reduceSub, List.replicate, List.cons_append, List.nil_append]
 try simp (maxSteps := 2000000) only [go_sem]
 repeat with_reducible refine zAc ?_
 refine zAd rfl trivial (.inl ?_)
 congr 3
 unfold yBL
 grind
theorem zU9 (r : Nat) : Contract Tryz.prog zB6 [.val (.one (.v (.int .i32 r)))] { res := .val (bv (zSO r)) } := by
 refine mkA zQO (base := 0) (fo rfl) (fun hfit => ?_)
 unfold F0 zJY
 simp (maxSteps := 2000000) only [zAD, List.set_cons_succ, List.set_cons_zero, List.map_cons, List.map_nil, zAC, zAa, ioOf, List.length_cons, List.length_nil, Nat.reduceAdd, Nat.reduceSub, List.replicate, List.cons_append, List.nil_append]
 try simp (maxSteps := 2000000) only [go_sem]
 repeat with_reducible refine zAc ?_
 refine zAd rfl trivial (.inl ?_)
 congr 3
 unfold zSO
 grind
theorem yGf : ∀ args w, (callFunc zCn args).run Tryz.prog w = .ok (.enter zCn args) w := enters_of Tryz.func239 (by kernel_rfl) rfl
theorem yGg : ∀ args w, (callFunc zB6 args).run Tryz.prog w = .ok (.enter zB6 args) w := enters_of Tryz.func240 (by kernel_rfl) rfl
theorem zL1 {α : Type} {l : List α} {p q : α → Bool} (h : ∀ x, p x = q x) : l.all p = l.all q := by rw [show p = q from funext h]
theorem yHY (b : UInt8) : (decide (b.toNat < 128) && !zSO b.toNat) = yA8 b := by
 unfold zSO yA8
 grind
theorem yGh (b : UInt8) : (decide (b.toNat < 128) && !yBL b.toNat) = zMB b := by
 unfold yBL zMB
 grind
theorem yHZ (b : UInt8) : ([97, 98, 99, 100, 101, 102, 103, 104, 105, 106, 107, 108, 109, 110, 111, 112, 113, 114, 115, 116, 117, 118, 119, 120, 121, 122, 48, 49, 50, 51, 52, 53, 54, 55, 56, 57, 45] : Bys).contains b = zMB b := by
 have h : ∀ n : Fin 256, ([97, 98, 99, 100, 101, 102, 103, 104, 105, 106, 107, 108, 109, 110, 111, 112, 113, 114, 115, 116, 117, 118, 119, 120, 121, 122, 48, 49, 50, 51, 52, 53, 54, 55, 56, 57, 45] : Bys).contains (UInt8.ofFin n) = zMB (UInt8.ofFin n) := by decide +kernel
 exact h b.toFin
theorem zP9 (s : Bys) : Contract Tryz.prog zE5 [.val (sv s)] { res := .val (bv (zCf s)) } := by
 refine mkA zWQ (base := 0) (fo rfl) (fun hfit => ?_)
 unfold F0 zPd
 simp (maxSteps := 2000000) only [zAD, List.set_cons_succ, List.set_cons_zero, List.map_cons, List.map_nil, zAC, zAa, ioOf, List.length_cons, List.length_nil, Nat.reduceAdd, Nat.reduceSub, List.replicate, List.cons_append, List.nil_append]
 try simp (maxSteps := 2000000) only [go_sem]
 repeat with_reducible refine zAc ?_
 apply zAo (h2 := fun _ => zDw s zB6 zSO (by intro r h; unfold zSO; grind) yGg zU9)
 ·(simp (maxSteps := 2000000) only [go_sem]; rfl)
 ·intro h; repeat' (first | exact trivial | exact h | refine And.intro ?_ ?_)
 try simp (maxSteps := 2000000) only [go_sem]
 repeat with_reducible refine zAc ?_
 refine zAd rfl trivial (.inl ?_)
 congr 3
 rw [zL1 yHY, zCf]
 grind
theorem zEq (s : Bys) : Contract Tryz.prog zCi [.val (sv s)] { res := .val (bv (zBC s)) } := by
 refine mkA zYW (base := 0) (fo rfl) (fun hfit => ?_)
 unfold F0 zSK
 simp (maxSteps := 2000000) only [zAD, List.set_cons_succ, List.set_cons_zero, List.map_cons, List.map_nil, zAC, zAa, ioOf, List.length_cons, List.length_nil, Nat.reduceAdd, Nat.reduceSub, List.replicate, List.cons_append, List.nil_append]
 try simp (maxSteps := 2000000) only [go_sem]
 repeat with_reducible refine zAc ?_
 apply zAo (h2 := fun _ => zSc s _ (by decide) (by decide))
 ·(simp (maxSteps := 2000000) only [go_sem]; rfl)
 ·intro h; repeat' (first | exact trivial | exact h | refine And.intro ?_ ?_)
 try simp (maxSteps := 2000000) only [go_sem]
 repeat with_reducible refine zAc ?_
 apply zAo (h2 := fun _ => zDw s zCn yBL (by intro r h; unfold yBL; grind) yGf zXw)
 ·(simp (maxSteps := 2000000) only [go_sem]; rfl)
 ·intro h; repeat' (first | exact trivial | exact h | refine And.intro ?_ ?_)
 try simp (maxSteps := 2000000) only [go_sem]
 repeat with_reducible refine zAc ?_
 refine zAd rfl trivial (.inl ?_)
 congr 3
 rw [zL1 yGh, yEl, zL1 yHZ, zBC]
 grind
end Go.Hx
end

section
set_option maxRecDepth 100000
set_option linter.unusedSimpArgs false
namespace Go.Hx
open Go.Proofs
variable [Glob]
attribute [local go_sem] zAx zAy zAw zAs ndV zAv zAp fdV shV zAM zBd zBp zBo
attribute [local go_sem] reduceCtorEq Nat.reduceAdd Nat.reduceEqDiff reduceIte Nat.reduceLeDiff Nat.reduceLT Nat.reduceSub
theorem yC6 (N : Nat) (ih : yJj Tryz.prog N) (s : St) (d K : Nat) (c : Fd) (hN : SizeOf.sizeOf s ≤ N + 1) (hd : d ≤ 3) (hc : c.le K) (hK : K + bdS d ≤ 1000000000) : Contract Tryz.prog zCo [.io (fdV c), .val (.agg (stV s)), .val (iv d)] { res := .tup [], io := fdV (c.add (ntS s d)) } := by
 rw [zGo]
 unfold fdV
 refine mkA zLP (base := 121) ⟨Nat.le_of_ble_eq_true rfl, Nat.le_of_ble_eq_true rfl, Nat.le_of_ble_eq_true rfl, ⟨rfl, rfl⟩⟩ (fun hfit => ?_)
 unfold F0 zGq
 simp (maxSteps := 2000000) only [zAD, List.set_cons_succ, List.set_cons_zero, List.map_cons, List.map_nil, zAC, zAa, ioOf, List.length_cons, List.length_nil, Nat.reduceAdd, Nat.reduceSub, List.replicate, List.cons_append, List.nil_append]
 try simp (maxSteps := 2000000) only [go_sem]
 repeat with_reducible refine zAc ?_
 have hbs : bdS d = 1 + 6 * bdT d := rfl
 have hbt : bdT d = 5 + bd (d + 1) := rfl
 refine zAb (by rfl) trivial (fun h => ?_) (fun h => ?_)
 ·have e : ntS s d = fM true := by rw [yEX, if_pos (by simp at h; omega)]
  have hm := hc.m
  try simp (maxSteps := 2000000) only [go_sem]
  repeat with_reducible refine zAc ?_
  refine zDy (by repeat' constructor) (zU6 c true (by omega)) ?_
  try simp (maxSteps := 2000000) only [go_sem]
  repeat with_reducible refine zAc ?_
  rw [e]
  exact zTA rfl rfl
 ·have hl6 : s.tests.length ≤ 6 := by simp at h; omega
  have e : ntS s d = (fF (!(s.tag == []) && !zBC s.tag)).add (yAD s.tests d) := by rw [yEX, if_neg (by omega)]
  rw [e]
  try simp (maxSteps := 2000000) only [go_sem]
  repeat with_reducible refine zAc ?_
  have hf := hc.f
  apply zAo (h2 := fun _ => zEq s.tag)
  ·(simp (maxSteps := 2000000) only [go_sem]; rfl)
  ·intro h; repeat' (first | exact trivial | exact h | refine And.intro ?_ ?_)
  try simp (maxSteps := 2000000) only [go_sem]
  repeat with_reducible refine zAc ?_
  refine zDy (by repeat' constructor) (zN1 c (bif !(s.tag == []) then !zBC s.tag else false) (by omega)) ?_
  try simp (maxSteps := 2000000) only [go_sem, Bool.cond_false_right]
  repeat with_reducible refine zAc ?_
  obtain ⟨c1, hc1⟩ : ∃ c1, c1 = c.add (fF (!(s.tag == []) && !zBC s.tag)) := ⟨_, rfl⟩
  have hc2 : c1.le (K + 1) := by rw [hc1]; exact hc.le_add (zWe _)
  rw [← Fd.add_assoc, ← hc1]
  have hK0 : K + 1 + (s.tests.length - 0) * bdT d ≤ 1000000000 := by
   have : (s.tests.length - 0) * bdT d ≤ 6 * bdT d := Nat.mul_le_mul_right _ (by omega)
   omega
  refine zAm (fun x : Nat × Fd => [(7, .un), (8, .un), (9, .un), (30, .pv (iv x.1)), (31, .un), (113, .un), (122, .pv (.one (bI x.2.f))), (123, .pv (.one (bI x.2.m))), (124, .pv (.one (bI x.2.r))), (125, .pv (.one (bI x.2.k)))]) (fun x : Nat × Fd => s.tests.length - x.1) (fun x : Nat × Fd => x.1 ≤ s.tests.length ∧ (∃ K', x.2.le K' ∧ K' + (s.tests.length - x.1) * bdT d ≤ 1000000000) ∧ x.2.add (yAD (s.tests.drop x.1) d) = c1.add (yAD s.tests d)) ((0, c1)) ?_ ⟨Nat.zero_le _, ⟨K + 1, hc2, hK0⟩, by simp⟩ ?_
  focus (simp (maxSteps := 2000000) only [go_sem, zAe, zAj, zAt, zAf]; all_goals (repeat' (first | exact trivial | exact zAk (by omega) | exact zAg rfl | exact zAq rfl | exact zAl | exact le_refl _ | refine And.intro ?_ ?_)))
  rintro ⟨i, a⟩ ⟨hi, ⟨K', ha, hK'⟩, hsum⟩
  simp only at hi ha hK' hsum
  try simp (maxSteps := 2000000) only [go_sem]
  repeat with_reducible refine zAc ?_
  refine zAb (by rfl) trivial (fun h2 => ?_) (fun h2 => ?_)
  ·have hil : i < s.tests.length := by simp at h2; omega
   rw [zBJ (d := default) hil] at hsum
   obtain ⟨t, ht⟩ : ∃ t, t = s.tests.getD i default := ⟨_, rfl⟩
   rw [← ht] at hsum
   have hg := zDD s.tests i hil
   rw [← ht, zDM] at hg
   have hsz : SizeOf.sizeOf t.list ≤ N := by
    have h3 := zOB t
    have h4 := yCz hil
    rw [← ht] at h4
    have h5 := zJT s
    omega
   have hmul : (s.tests.length - i) * bdT d = bdT d + (s.tests.length - (i + 1)) * bdT d := by
    have : s.tests.length - i = (s.tests.length - (i + 1)) + 1 := by omega
    rw [this, Nat.add_mul]; omega
   have hbp := zTC (4 - (d + 1))
   have hbe : bd (d + 1) = bdF (4 - (d + 1)) := rfl
   simp only [yAD, yHS, yDD] at hsum
   try simp (maxSteps := 2000000) only [go_sem, hg]
   repeat with_reducible refine zAc ?_
   refine zA0 (by repeat' constructor) (yC1 t.kind) ?_
   try simp (maxSteps := 2000000) only [go_sem, hg]
   repeat with_reducible refine zAc ?_
   have a1 := ha.k
   refine zDy (by repeat' constructor) (yAE a (!kOk t.kind) (by omega)) ?_
   try simp (maxSteps := 2000000) only [go_sem]
   repeat with_reducible refine zAc ?_
   obtain ⟨b1, hb1⟩ : ∃ b1, b1 = a.add (fK (!kOk t.kind)) := ⟨_, rfl⟩
   have l1 : b1.le (K' + 1) := by rw [hb1]; exact ha.le_add (yF7 _)
   rw [← hb1]
   have a2 := l1.f
   apply zAo (h2 := fun _ => zEq t.name)
   ·(simp (maxSteps := 2000000) only [go_sem]; rfl)
   ·intro h; repeat' (first | exact trivial | exact h | refine And.intro ?_ ?_)
   try simp (maxSteps := 2000000) only [go_sem]
   repeat with_reducible refine zAc ?_
   refine zDy (by repeat' constructor) (zN1 b1 _ (by omega)) ?_
   try simp (maxSteps := 2000000) only [go_sem, Bool.cond_false_right, Bool.cond_true_left]
   repeat with_reducible refine zAc ?_
   obtain ⟨b2, hb2⟩ : ∃ b2, b2 = b1.add (fF (yEb t)) := ⟨_, rfl⟩
   have l2 : b2.le (K' + 1 + 1) := by rw [hb2]; exact l1.le_add (zWe _)
   unfold yEb at hb2
   rw [← hb2]
   have a3 := l2.f
   apply zAo (h2 := fun _ => zP9 t.value)
   ·(simp (maxSteps := 2000000) only [go_sem]; rfl)
   ·intro h; repeat' (first | exact trivial | exact h | refine And.intro ?_ ?_)
   try simp (maxSteps := 2000000) only [go_sem]
   repeat with_reducible refine zAc ?_
   refine zDy (by repeat' constructor) (zN1 b2 _ (by omega)) ?_
   try simp (maxSteps := 2000000) only [go_sem, Bool.cond_false_right, Bool.cond_true_left]
   repeat with_reducible refine zAc ?_
   obtain ⟨b3, hb3⟩ : ∃ b3, b3 = b2.add (fF (yEc t)) := ⟨_, rfl⟩
   have l3 : b3.le (K' + 1 + 1 + 1) := by rw [hb3]; exact l2.le_add (zWe _)
   unfold yEc at hb3
   rw [← hb3]
   have a4 := l3.f
   have e3 : decide (0 < (t.list.length : Int)) = decide (0 < t.list.length) := decide_eq_decide.2 (by omega)
   refine zDy (by repeat' constructor) (zN1 b3 _ (by omega)) ?_
   try simp (maxSteps := 2000000) only [go_sem, Bool.cond_false_right, Bool.cond_true_left, e3]
   repeat with_reducible refine zAc ?_
   obtain ⟨b4, hb4⟩ : ∃ b4, b4 = b3.add (fF (yDy t)) := ⟨_, rfl⟩
   have l4 : b4.le (K' + 1 + 1 + 1 + 1) := by rw [hb4]; exact l3.le_add (zWe _)
   unfold yDy at hb4
   rw [← hb4]
   have a5 := l4.r
   refine zAh (by repeat' constructor) (zP5 t.na t.nb) ?_
   try simp (maxSteps := 2000000) only [go_sem]
   repeat with_reducible refine zAc ?_
   refine zDy (by repeat' constructor) (yEj b4 _ (by omega)) ?_
   try simp (maxSteps := 2000000) only [go_sem]
   repeat with_reducible refine zAc ?_
   obtain ⟨b5, hb5⟩ : ∃ b5, b5 = b4.add (fR (zMX t.na t.nb != 0)) := ⟨_, rfl⟩
   have l5 : b5.le (K' + 1 + 1 + 1 + 1 + 1) := by rw [hb5]; exact l4.le_add (yHW _)
   rw [← hb5]
   have hT : b5 = a.add (yDD t) := by
    rw [hb5, hb4, hb3, hb2, hb1]
    simp only [yDD, kOk, yEb, yEc, yDy, Fd.add_assoc]
    congr 6
   refine zAb (by rfl) trivial (fun h3 => ?_) (fun h3 => ?_)
   ·rw [if_pos h3, ← Fd.add_assoc, ← Fd.add_assoc] at hsum
    have hst := ih.1 t.list (d + 1) (K' + 5) b5 hsz (by omega) l5 (by omega)
    unfold fdV zAM at hst
    rw [show ((d + 1 : Nat) : Int) = (d : Int) + 1 by omega] at hst
    try simp (maxSteps := 2000000) only [go_sem]
    repeat with_reducible refine zAc ?_
    refine zDy (by repeat' constructor) (hst) ?_
    try simp (maxSteps := 2000000) only [go_sem]
    repeat with_reducible refine zAc ?_
    refine ⟨(i + 1, b5.add (ntL t.list (d + 1))), by simp only; omega, ⟨by simp only; omega, ⟨K' + 5 + bd (d + 1), l5.le_add (b_L _ _), by simp only; omega⟩, ?_⟩, ?_⟩
    ·simp only
     rw [← hsum, hT]
     rfl
    ·simp (maxSteps := 2000000) only [go_sem, zAe, zAj, zAt, zAf]
     all_goals (repeat' (first | exact trivial | exact zAk (by omega) | exact zAg rfl | exact zAq rfl | exact zAl | exact le_refl _ | refine And.intro ?_ ?_))
   ·rw [if_neg (by rw [h3]; simp)] at hsum
    try simp (maxSteps := 2000000) only [go_sem]
    repeat with_reducible refine zAc ?_
    refine ⟨(i + 1, b5), by simp only; omega, ⟨by simp only; omega, ⟨K' + 5, l5, by simp only; omega⟩, ?_⟩, ?_⟩
    ·simp only
     rw [← hsum, hT]
     simp only [yDD, Fd.add_assoc, Fd.zero_add]
    ·simp (maxSteps := 2000000) only [go_sem, zAe, zAj, zAt, zAf]
     all_goals (repeat' (first | exact trivial | exact zAk (by omega) | exact zAg rfl | exact zAq rfl | exact zAl | exact le_refl _ | refine And.intro ?_ ?_))
  ·have hil : i = s.tests.length := by simp at h2; omega
   subst hil
   rw [List.drop_length] at hsum
   try simp (maxSteps := 2000000) only [go_sem]
   repeat with_reducible refine zAc ?_
   rw [← hsum]
   exact zB8 rfl rfl
theorem zHd (l : List Pt) : 0 < SizeOf.sizeOf l := by cases l <;> simp <;> omega
theorem yC7 (s : St) : 0 < SizeOf.sizeOf s := by cases s; simp only [St.mk.sizeOf_spec]; omega
theorem zVa : ∀ N, yJj Tryz.prog N
 | 0 => ⟨fun l d K c h => by have := zHd l; omega, fun s d K c h => by have := yC7 s; omega⟩
 | N + 1 => ⟨fun l d K c h1 h2 h3 h4 => yC2 N (zVa N) l d K c h1 h2 h3 h4, fun s d K c h1 h2 h3 h4 => yC6 N (zVa N) s d K c h1 h2 h3 h4⟩
theorem zNB (l : List Pt) : Contract Tryz.prog zBs [.io (fdV fd0), .val (zAM l), .val (iv 1)] { res := .tup [], io := fdV (ntL l 1) } := by
 have h := (zVa (SizeOf.sizeOf l)).1 l 1 0 fd0 (Nat.le_refl _) (by omega) (zWf 0) (by have := yHV; omega)
 rw [Fd.zero_add] at h
 exact h
theorem zXx (l : List Pt) : Contract Tryz.prog zGe [.val (zAM l)] { res := .val (iv (zBD l)) } := by
 rw [← yHU]
 have hc := zNB l
 obtain ⟨c, hcc⟩ : ∃ c, c = ntL l 1 := ⟨_, rfl⟩
 rw [← hcc] at hc ⊢
 unfold zAM
 refine mkA zUs (base := 0) (fo rfl) (fun hfit => ?_)
 unfold F0 zMK
 simp (maxSteps := 2000000) only [zAD, List.set_cons_succ, List.set_cons_zero, List.map_cons, List.map_nil, zAC, zAa, ioOf, List.length_cons, List.length_nil, Nat.reduceAdd, Nat.reduceSub, List.replicate, List.cons_append, List.nil_append]
 try simp (maxSteps := 2000000) only [go_sem]
 repeat with_reducible refine zAc ?_
 unfold fdV zAM at hc
 refine zDy (by repeat' constructor) (hc) ?_
 try simp (maxSteps := 2000000) only [go_sem]
 repeat with_reducible refine zAc ?_
 refine zAh (by repeat' constructor) (zXv) ?_
 try simp (maxSteps := 2000000) only [go_sem]
 repeat with_reducible refine zAc ?_
 refine zAm (fun i : Nat => [(5, .un), (12, .pv (iv i)), (13, .un), (21, .un)]) (fun i : Nat => 4 - i) (fun i : Nat => i ≤ 4 ∧ (1 ≤ i → c.m = 0) ∧ (2 ≤ i → c.k = 0) ∧ (3 ≤ i → c.f = 0) ∧ (4 ≤ i → c.r = 0)) (0) ?_ ⟨by omega, by omega, by omega, by omega, by omega⟩ ?_
 focus (simp (maxSteps := 2000000) only [go_sem, zAe, zAj, zAt, zAf]; all_goals (repeat' (first | exact trivial | exact zAk (by omega) | exact zAg rfl | exact zAq rfl | exact zAl | exact le_refl _ | refine And.intro ?_ ?_)))
 rintro i ⟨hi, h1, h2, h3, h4⟩
 try simp (maxSteps := 2000000) only [go_sem]
 repeat with_reducible refine zAc ?_
 refine zAb (by rfl) trivial (fun h => ?_) (fun h => ?_)
 ·have hlt : i < 4 := by simp at h; omega
  have hcase : i = 0 ∨ i = 1 ∨ i = 2 ∨ i = 3 := by omega
  rcases hcase with rfl | rfl | rfl | rfl
  ·try simp (maxSteps := 2000000) only [go_sem, Int.reduceToNat, Int.toNat_natCast, List.getD_cons_zero, List.getD_cons_succ, PV.norm, Int.cast_ofNat_Int]
   repeat with_reducible refine zAc ?_
   refine zAb (by rfl) trivial (fun h5 => ?_) (fun h5 => ?_)
   ·try simp (maxSteps := 2000000) only [go_sem]
    repeat with_reducible refine zAc ?_
    refine zAd rfl trivial (.inl ?_)
    congr 3
    have h6 : 0 < c.m := by simp at h5; omega
    unfold yF5
    simp [ h6]
   ·try simp (maxSteps := 2000000) only [go_sem]
    repeat with_reducible refine zAc ?_
    have h6 : c.m = 0 := by simp at h5; omega
    refine ⟨1, by omega, ⟨by omega, fun _ => h6, by omega, by omega, by omega⟩, ?_⟩
    simp (maxSteps := 2000000) only [go_sem, zAe, zAj, zAt, zAf]
    all_goals (repeat' (first | exact trivial | exact zAk (by omega) | exact zAg rfl | exact zAq rfl | exact zAl | exact le_refl _ | refine And.intro ?_ ?_))
  ·try simp (maxSteps := 2000000) only [go_sem, Int.reduceToNat, Int.toNat_natCast, List.getD_cons_zero, List.getD_cons_succ, PV.norm, Int.cast_ofNat_Int]
   repeat with_reducible refine zAc ?_
   refine zAb (by rfl) trivial (fun h5 => ?_) (fun h5 => ?_)
   ·try simp (maxSteps := 2000000) only [go_sem]
    repeat with_reducible refine zAc ?_
    refine zAd rfl trivial (.inl ?_)
    congr 3
    have h6 : 0 < c.k := by simp at h5; omega
    unfold yF5
    simp [h1 (by omega),  h6]
   ·try simp (maxSteps := 2000000) only [go_sem]
    repeat with_reducible refine zAc ?_
    have h6 : c.k = 0 := by simp at h5; omega
    refine ⟨2, by omega, ⟨by omega, fun _ => h1 (by omega), fun _ => h6, by omega, by omega⟩, ?_⟩
    simp (maxSteps := 2000000) only [go_sem, zAe, zAj, zAt, zAf]
    all_goals (repeat' (first | exact trivial | exact zAk (by omega) | exact zAg rfl | exact zAq rfl | exact zAl | exact le_refl _ | refine And.intro ?_ ?_))
  ·try simp (maxSteps := 2000000) only [go_sem, Int.reduceToNat, Int.toNat_natCast, List.getD_cons_zero, List.getD_cons_succ, PV.norm, Int.cast_ofNat_Int]
   repeat with_reducible refine zAc ?_
   refine zAb (by rfl) trivial (fun h5 => ?_) (fun h5 => ?_)
   ·try simp (maxSteps := 2000000) only [go_sem]
    repeat with_reducible refine zAc ?_
    refine zAd rfl trivial (.inl ?_)
    congr 3
    have h6 : 0 < c.f := by simp at h5; omega
    unfold yF5
    simp [h1 (by omega), h2 (by omega),  h6]
   ·try simp (maxSteps := 2000000) only [go_sem]
    repeat with_reducible refine zAc ?_
    have h6 : c.f = 0 := by simp at h5; omega
    refine ⟨3, by omega, ⟨by omega, fun _ => h1 (by omega), fun _ => h2 (by omega), fun _ => h6, by omega⟩, ?_⟩
    simp (maxSteps := 2000000) only [go_sem, zAe, zAj, zAt, zAf]
    all_goals (repeat' (first | exact trivial | exact zAk (by omega) | exact zAg rfl | exact zAq rfl | exact zAl | exact le_refl _ | refine And.intro ?_ ?_))
  ·try simp (maxSteps := 2000000) only [go_sem, Int.reduceToNat, Int.toNat_natCast, List.getD_cons_zero, List.getD_cons_succ, PV.norm, Int.cast_ofNat_Int]
   repeat with_reducible refine zAc ?_
   refine zAb (by rfl) trivial (fun h5 => ?_) (fun h5 => ?_)
   ·try simp (maxSteps := 2000000) only [go_sem]
    repeat with_reducible refine zAc ?_
    refine zAd rfl trivial (.inl ?_)
    congr 3
    have h6 : 0 < c.r := by simp at h5; omega
    unfold yF5
    simp [h1 (by omega), h2 (by omega), h3 (by omega),  h6]
   ·try simp (maxSteps := 2000000) only [go_sem]
    repeat with_reducible refine zAc ?_
    have h6 : c.r = 0 := by simp at h5; omega
    refine ⟨4, by omega, ⟨by omega, fun _ => h1 (by omega), fun _ => h2 (by omega), fun _ => h3 (by omega), fun _ => h6⟩, ?_⟩
    simp (maxSteps := 2000000) only [go_sem, zAe, zAj, zAt, zAf]
    all_goals (repeat' (first | exact trivial | exact zAk (by omega) | exact zAg rfl | exact zAq rfl | exact zAl | exact le_refl _ | refine And.intro ?_ ?_))
 ·have hi4 : i = 4 := by simp at h; omega
  try simp (maxSteps := 2000000) only [go_sem]
  repeat with_reducible refine zAc ?_
  refine zAd rfl trivial (.inl ?_)
  congr 3
  unfold yF5
  simp [h1 (by omega), h2 (by omega), h3 (by omega), h4 (by omega)]
end Go.Hx
end

section
set_option maxRecDepth 100000
set_option linter.unusedSimpArgs false
namespace Go.Hx
open Go.Proofs
variable [Glob]
attribute [local go_sem] zAx zAy zAw zAs ndV zAv zAp zAM zBd zBp zBo
attribute [local go_sem] reduceCtorEq Nat.reduceAdd Nat.reduceEqDiff reduceIte Nat.reduceLeDiff Nat.reduceLT Nat.reduceSub
theorem zQa (k : Int) : Contract Tryz.prog zFE [.val (iv k)] { res := .tup [bv (zWc k), bv (zMC k), bv (yEW k), bv (zGv k)] } := by
 refine mkA yBy (base := 0) (fo rfl) (fun hfit => ?_)
 unfold F0 zXb
 simp (maxSteps := 2000000) only [zAD, List.set_cons_succ, List.set_cons_zero, List.map_cons, List.map_nil, zAC, zAa, ioOf, List.length_cons, List.length_nil, Nat.reduceAdd, Nat.reduceSub, List.replicate, List.cons_append, List.nil_append]
 try simp (maxSteps := 2000000) only [go_sem]
 repeat with_reducible refine zAc ?_
 refine zAh (by repeat' constructor) (zBg k 1 8) ?_
 try simp (maxSteps := 2000000) only [go_sem]
 repeat with_reducible refine zAc ?_
 refine zAh (by repeat' constructor) (zBg k 4 8) ?_
 try simp (maxSteps := 2000000) only [go_sem]
 repeat with_reducible refine zAc ?_
 refine zAh (by repeat' constructor) (zBg k 13 15) ?_
 try simp (maxSteps := 2000000) only [go_sem]
 repeat with_reducible refine zAc ?_
 have e : yEW k = (bif k == 9 then true else k == 10) := by
  unfold yEW
  by_cases h1 : k = 9 <;> by_cases h2 : k = 10 <;> simp [h1, h2]
 rw [e]
 exact zBl (by simp) ⟨zAL rfl trivial (.inl rfl), zAL rfl trivial (.inl rfl), zAL rfl trivial (.inl rfl), zAL rfl trivial (.inl rfl), rfl⟩
theorem yAH (n : Nat) : decide (1 ≤ (n : Int) ∧ (n : Int) ≤ 5) = decide (1 ≤ n ∧ n ≤ 5) := decide_eq_decide.2 (by omega)
theorem yGi (n : Nat) : decide (6 < (n : Int)) = decide (6 < n) := decide_eq_decide.2 (by omega)
theorem yEY (a b : Int) : (a != b) = decide (a ≠ b) := by by_cases h : a = b <;> simp [h]
theorem yJI : ∀ (N : Nat) (l : List Pt) (d : Nat), SizeOf.sizeOf l ≤ N → d ≤ 4 → Contract Tryz.prog zDH [.val (zAM l), .val (iv d)] { res := .val (bv (tmL l d)) }
 | 0, l, d, hN, _ => by have := zHd l; omega
 | N + 1, l, d, hN, hd => by
  have e3 : decide (3 < (d : Int)) = decide (3 < d) := decide_eq_decide.2 (by omega)
  unfold zAM
  refine mkA zQ2 (base := 0) (fo rfl) (fun hfit => ?_)
  unfold F0 zKd
  simp (maxSteps := 2000000) only [zAD, List.set_cons_succ, List.set_cons_zero, List.map_cons, List.map_nil, zAC, zAa, ioOf, List.length_cons, List.length_nil, Nat.reduceAdd, Nat.reduceSub, List.replicate, List.cons_append, List.nil_append]
  try simp (maxSteps := 2000000) only [go_sem]
  repeat with_reducible refine zAc ?_
  apply zAo (h2 := fun _ => zBg l.length 1 5)
  ·(simp (maxSteps := 2000000) only [go_sem]; rfl)
  ·intro h; repeat' (first | exact trivial | exact h | refine And.intro ?_ ?_)
  try simp (maxSteps := 2000000) only [go_sem, yAH, e3, Bool.cond_true_left]
  repeat with_reducible refine zAc ?_
  refine zAb (by rfl) trivial (fun h => ?_) (fun h => ?_)
  ·try simp (maxSteps := 2000000) only [go_sem]
   repeat with_reducible refine zAc ?_
   refine zAd rfl trivial (.inl ?_)
   congr 3
   unfold tmL
   rw [h]; rfl
  ·have hL : tmL l d = yCC l d := by unfold tmL; rw [h]; rfl
   have hd3 : d ≤ 3 ∧ l.length ≤ 5 := by
    simp at h; omega
   try simp (maxSteps := 2000000) only [go_sem]
   repeat with_reducible refine zAc ?_
   refine zAm (fun i : Nat => [(5, .pv (iv i)), (4, .un), (6, .un), (7, .un), (8, .un), (9, .un), (13, .un), (25, .un), (46, .un), (51, .un), (61, .un), (70, .un), (97, .un)]) (fun i : Nat => l.length - i) (fun i : Nat => i ≤ l.length ∧ yCC (l.drop i) d = tmL l d) (0) ?_ ⟨Nat.zero_le _, by rw [hL]; rfl⟩ ?_
   focus (simp (maxSteps := 2000000) only [go_sem, zAe, zAj, zAt, zAf]; all_goals (repeat' (first | exact trivial | exact zAk (by omega) | exact zAg rfl | exact zAq rfl | exact zAl | exact le_refl _ | refine And.intro ?_ ?_)))
   rintro i ⟨hi, hinv⟩
   try simp (maxSteps := 2000000) only [go_sem]
   repeat with_reducible refine zAc ?_
   refine zAb (by rfl) trivial (fun h2 => ?_) (fun h2 => ?_)
   ·have hil : i < l.length := by simp at h2; omega
    rw [zBJ (d := default) hil] at hinv
    obtain ⟨p, hp⟩ : ∃ p, p = l.getD i default := ⟨_, rfl⟩
    rw [← hp] at hinv
    have hg : (zJS l).getD i [] = [.sl 2 (zLd p.steps), .sl 1 (zBB p.links)] := by rw [zE3 l i hil, ← hp, zD2]
    have hsz : SizeOf.sizeOf p.steps ≤ N := by
     have h3 := zJU p
     have h4 := yCB hil
     rw [← hp] at h4
     omega
    simp only [yCC] at hinv
    have hps : tmP p d = (!(decide (1 ≤ p.steps.length ∧ p.steps.length ≤ 5)) || decide ((p.links.length : Int) ≠ p.steps.length - 1) || yCD p.steps d) := by cases p; rfl
    have hin : (!decide (1 ≤ p.steps.length ∧ p.steps.length ≤ 5)) = false → inR .i64 ((p.steps.length : Int) - 1) := by
     intro h5
     have : 1 ≤ p.steps.length ∧ p.steps.length ≤ 5 := by simpa using h5
     exact zJR (by omega) (by omega)
    try simp (maxSteps := 2000000) only [go_sem, hg]
    repeat with_reducible refine zAc ?_
    refine zAh (by repeat' constructor) (zBg p.steps.length 1 5) ?_
    try simp (maxSteps := 2000000) only [go_sem, yAH, Bool.cond_true_left, yEY]
    repeat with_reducible refine zAc ?_
    refine zAb (by rfl) trivial (fun h3 => ?_) (fun h3 => ?_)
    ·try simp (maxSteps := 2000000) only [go_sem]
     repeat with_reducible refine zAc ?_
     refine zAd rfl trivial (.inl ?_)
     congr 3
     rw [← hinv, hps, h3]; rfl
    ·have hp5 : p.steps.length ≤ 5 := by simp at h3; omega
     rw [h3, Bool.false_or] at hps
     try simp (maxSteps := 2000000) only [go_sem]
     repeat with_reducible refine zAc ?_
     refine zAm (fun k : Nat => [(7, .pv (iv k)), (4, .un), (8, .un), (9, .un), (13, .un), (51, .un), (61, .un), (70, .un), (97, .un)]) (fun k : Nat => p.steps.length - k) (fun k : Nat => k ≤ p.steps.length ∧ yCD (p.steps.drop k) d = yCD p.steps d) (0) ?_ ⟨Nat.zero_le _, rfl⟩ ?_
     focus (simp (maxSteps := 2000000) only [go_sem, zAe, zAj, zAt, zAf]; all_goals (repeat' (first | exact trivial | exact zAk (by omega) | exact zAg rfl | exact zAq rfl | exact zAl | exact le_refl _ | refine And.intro ?_ ?_)))
     rintro k ⟨hk, hinv2⟩
     try simp (maxSteps := 2000000) only [go_sem]
     repeat with_reducible refine zAc ?_
     refine zAb (by rfl) trivial (fun h4 => ?_) (fun h4 => ?_)
     ·have hkl : k < p.steps.length := by simp at h4; omega
      rw [zBJ (d := default) hkl] at hinv2
      obtain ⟨q, hq⟩ : ∃ q, q = p.steps.getD k default := ⟨_, rfl⟩
      rw [← hq] at hinv2
      have hg3 : (zLd p.steps).getD k [] = [bS q.tag, .sl 6 (zWb q.tests)] := by rw [zEe _ k hkl, ← hq, zGo]
      simp only [yCD] at hinv2
      have hqs : tmS q d = (decide (6 < q.tests.length) || yCE q.tests d) := by cases q; rfl
      try simp (maxSteps := 2000000) only [go_sem, hg3, yGi]
      repeat with_reducible refine zAc ?_
      refine zAb (by rfl) trivial (fun h5 => ?_) (fun h5 => ?_)
      ·try simp (maxSteps := 2000000) only [go_sem]
       repeat with_reducible refine zAc ?_
       refine zAd rfl trivial (.inl ?_)
       congr 3
       rw [← hinv, hps, ← hinv2, hqs, h5]; rfl
      ·have hq6 : q.tests.length ≤ 6 := by simpa using h5
       rw [h5, Bool.false_or] at hqs
       try simp (maxSteps := 2000000) only [go_sem]
       repeat with_reducible refine zAc ?_
       refine zAm (fun j : Nat => [(8, .pv (iv j)), (4, .un), (9, .un), (13, .un), (70, .un), (97, .un)]) (fun j : Nat => q.tests.length - j) (fun j : Nat => j ≤ q.tests.length ∧ yCE (q.tests.drop j) d = yCE q.tests d) (0) ?_ ⟨Nat.zero_le _, rfl⟩ ?_
       focus (simp (maxSteps := 2000000) only [go_sem, zAe, zAj, zAt, zAf]; all_goals (repeat' (first | exact trivial | exact zAk (by omega) | exact zAg rfl | exact zAq rfl | exact zAl | exact le_refl _ | refine And.intro ?_ ?_)))
       rintro j ⟨hj, hinv3⟩
       try simp (maxSteps := 2000000) only [go_sem, hg3]
       repeat with_reducible refine zAc ?_
       refine zAb (by rfl) trivial (fun h6 => ?_) (fun h6 => ?_)
       ·have hjl : j < q.tests.length := by simp at h6; omega
        rw [zBJ (d := default) hjl] at hinv3
        obtain ⟨t, ht⟩ : ∃ t, t = q.tests.getD j default := ⟨_, rfl⟩
        rw [← ht] at hinv3
        have hg4 := zDD q.tests j hjl
        rw [← ht, zDM] at hg4
        have hszt : SizeOf.sizeOf t.list ≤ N := by
         have h7 := zOB t
         have h8 := yCz hjl
         rw [← ht] at h8
         have h9 := yCA hkl
         rw [← hq] at h9
         have h10 := zJT q
         omega
        simp only [yCE] at hinv3
        have hts : tmT t d = (zGv t.kind && tmL t.list (d + 1)) := by cases t; rfl
        have hrec := yJI N t.list (d + 1) hszt (by omega)
        unfold zAM at hrec
        rw [show ((d + 1 : Nat) : Int) = (d : Int) + 1 by omega] at hrec
        try simp (maxSteps := 2000000) only [go_sem, hg3, hg4]
        repeat with_reducible refine zAc ?_
        refine zA0 (by repeat' constructor) (zQa t.kind) ?_
        try simp (maxSteps := 2000000) only [go_sem]
        repeat with_reducible refine zAc ?_
        apply zAo (h2 := fun _ => hrec)
        ·(simp (maxSteps := 2000000) only [go_sem]; rfl)
        ·intro h; repeat' (first | exact trivial | exact h | refine And.intro ?_ ?_)
        try simp (maxSteps := 2000000) only [go_sem, Bool.cond_false_right]
        repeat with_reducible refine zAc ?_
        refine zAb (by rfl) trivial (fun h7 => ?_) (fun h7 => ?_)
        ·try simp (maxSteps := 2000000) only [go_sem]
         repeat with_reducible refine zAc ?_
         refine zAd rfl trivial (.inl ?_)
         congr 3
         rw [← hinv, hps, ← hinv2, hqs, ← hinv3, hts, h7]; rfl
        ·rw [h7] at hts
         rw [hts, Bool.false_or] at hinv3
         try simp (maxSteps := 2000000) only [go_sem]
         repeat with_reducible refine zAc ?_
         refine ⟨j + 1, by omega, ⟨by omega, hinv3⟩, ?_⟩
         simp (maxSteps := 2000000) only [go_sem, zAe, zAj, zAt, zAf]
         all_goals (repeat' (first | exact trivial | exact zAk (by omega) | exact zAg rfl | exact zAq rfl | exact zAl | exact le_refl _ | refine And.intro ?_ ?_))
       ·have hjl : j = q.tests.length := by simp at h6; omega
        subst hjl
        rw [List.drop_length] at hinv3
        rw [hqs, ← hinv3] at hinv2
        try simp (maxSteps := 2000000) only [go_sem]
        repeat with_reducible refine zAc ?_
        refine ⟨k + 1, by omega, ⟨by omega, hinv2⟩, ?_⟩
        simp (maxSteps := 2000000) only [go_sem, zAe, zAj, zAt, zAf]
        all_goals (repeat' (first | exact trivial | exact zAk (by omega) | exact zAg rfl | exact zAq rfl | exact zAl | exact le_refl _ | refine And.intro ?_ ?_))
     ·have hkl : k = p.steps.length := by simp at h4; omega
      subst hkl
      rw [List.drop_length] at hinv2
      rw [hps, ← hinv2] at hinv
      try simp (maxSteps := 2000000) only [go_sem]
      repeat with_reducible refine zAc ?_
      refine ⟨i + 1, by omega, ⟨by omega, hinv⟩, ?_⟩
      simp (maxSteps := 2000000) only [go_sem, zAe, zAj, zAt, zAf]
      all_goals (repeat' (first | exact trivial | exact zAk (by omega) | exact zAg rfl | exact zAq rfl | exact zAl | exact le_refl _ | refine And.intro ?_ ?_))
   ·have hil : i = l.length := by simp at h2; omega
    subst hil
    rw [List.drop_length] at hinv
    try simp (maxSteps := 2000000) only [go_sem]
    repeat with_reducible refine zAc ?_
    refine zAd rfl trivial (.inl ?_)
    congr 3
    rw [← hinv]; rfl
end Go.Hx
end

section
set_option maxRecDepth 100000
set_option linter.unusedSimpArgs false
namespace Go.Hx
open Go.Proofs
variable [Glob]
attribute [local go_sem] zAx zAy zAw zAs ndV zAv zAp zAM zBd zBp zBo
attribute [local go_sem] reduceCtorEq Nat.reduceAdd Nat.reduceEqDiff reduceIte Nat.reduceLeDiff Nat.reduceLT Nat.reduceSub
theorem zN2 {k : Nat} {rows : List (List PV)} (h : PV.fits (.sl k rows)) : rows.length ≤ 9223372036854775807 := by
 simp only [PV.fits] at h; exact h.1
theorem zXy : ∀ {rows : List (List PV)} {i : Nat}, zQz rows → i < rows.length → zH3 (rows.getD i [])
 | [], i, _, h => by simp at h
 | r :: rs, 0, h, _ => by simp only [zQz] at h; exact h.1
 | r :: rs, i + 1, h, hi => by simp only [zQz] at h; simpa using zXy (rows := rs) (i := i) h.2 (by simpa using hi)
theorem yAI {k : Nat} {rows : List (List PV)} {i : Nat} (h : PV.fits (.sl k rows)) (hi : i < rows.length) : zH3 (rows.getD i []) := by
 simp only [PV.fits] at h; exact zXy h.2 hi
theorem zZv {x : PV} {r : List AV} (h : AVs.fits (.val (.one x) :: r)) : PV.fits x := by
 simp only [AVs.fits] at h; exact h.1
theorem zVb {l : List Pt} {i : Nat} (h : PV.fits (.sl 2 (zJS l))) (hi : i < l.length) : PV.fits (.sl 2 (zLd (l.getD i default).steps)) ∧ PV.fits (.sl 1 (zBB (l.getD i default).links)) := by
 have h1 := yAI h (i := i) (by rw [zBd]; exact hi)
 rw [zE3 l i hi, zD2] at h1
 simp only [zH3] at h1
 exact ⟨h1.1, h1.2.1⟩
theorem zVc {l : List St} {i : Nat} (h : PV.fits (.sl 2 (zLd l))) (hi : i < l.length) : PV.fits (.sl 6 (zWb (l.getD i default).tests)) := by
 have h1 := yAI h (i := i) (by rw [zBp]; exact hi)
 rw [zEe l i hi, zGo] at h1
 simp only [zH3] at h1
 exact h1.2.1
theorem zZw {l : List Pt} (h : PV.fits (.sl 2 (zJS l))) : l.length ≤ 9223372036854775807 := by have := zN2 h; rwa [zBd] at this
theorem zQb {l : List St} (h : PV.fits (.sl 2 (zLd l))) : l.length ≤ 9223372036854775807 := by have := zN2 h; rwa [zBp] at this
theorem zZx {l : List Ts} (h : PV.fits (.sl 6 (zWb l))) : l.length ≤ 9223372036854775807 := by have := zN2 h; rwa [zBo] at this
theorem yGj {l : List Int} (h : PV.fits (.sl 1 (zBB l))) : l.length ≤ 9223372036854775807 := by have := zN2 h; rwa [zAs] at this
theorem yJJ : ∀ (N : Nat) (l : List Pt), SizeOf.sizeOf l ≤ N → Contract Tryz.prog zDG [.val (zAM l)] { res := .val (bv (yA9 l)) }
 | 0, l, hN => by have := zHd l; omega
 | N + 1, l, hN => by
  unfold zAM
  refine mkA zRd (base := 0) (fo rfl) (fun hfit => ?_)
  unfold F0 zKe
  simp (maxSteps := 2000000) only [zAD, List.set_cons_succ, List.set_cons_zero, List.map_cons, List.map_nil, zAC, zAa, ioOf, List.length_cons, List.length_nil, Nat.reduceAdd, Nat.reduceSub, List.replicate, List.cons_append, List.nil_append]
  try simp (maxSteps := 2000000) only [go_sem]
  repeat with_reducible refine zAc ?_
  have ft := zZv hfit
  have fl := zZw ft
  refine zAm (fun i : Nat => [(3, .pv (iv i)), (2, .un), (4, .un), (5, .un), (6, .un), (7, .un), (11, .un), (15, .un), (25, .un), (37, .un), (45, .un), (59, .un), (93, .un)]) (fun i : Nat => l.length - i) (fun i : Nat => i ≤ l.length ∧ yA9 (l.drop i) = yA9 l) (0) ?_ ⟨Nat.zero_le _, rfl⟩ ?_
  focus (simp (maxSteps := 2000000) only [go_sem, zAe, zAj, zAt, zAf]; all_goals (repeat' (first | exact trivial | exact zAk (by omega) | exact zAg rfl | exact zAq rfl | exact zAl | exact le_refl _ | refine And.intro ?_ ?_)))
  rintro i ⟨hi, hinv⟩
  try simp (maxSteps := 2000000) only [go_sem]
  repeat with_reducible refine zAc ?_
  refine zAb (by rfl) trivial (fun h2 => ?_) (fun h2 => ?_)
  ·have hil : i < l.length := by simp at h2; omega
   have fp := zVb ft hil
   rw [zBJ (d := default) hil] at hinv
   obtain ⟨p, hp⟩ : ∃ p, p = l.getD i default := ⟨_, rfl⟩
   rw [← hp] at hinv fp
   have fps := zQb fp.1
   have fpl := yGj fp.2
   have hg : (zJS l).getD i [] = [.sl 2 (zLd p.steps), .sl 1 (zBB p.links)] := by rw [zE3 l i hil, ← hp, zD2]
   have hsz : SizeOf.sizeOf p.steps ≤ N := by
    have h3 := zJU p
    have h4 := yCB hil
    rw [← hp] at h4
    omega
   simp only [yA9] at hinv
   have hps : bkP p = (p.links.any zMY || yCF p.steps) := by cases p; rfl
   try simp (maxSteps := 2000000) only [go_sem]
   repeat with_reducible refine zAc ?_
   refine zAm (fun k : Nat => [(4, .pv (iv k)), (2, .un), (25, .un), (37, .un)]) (fun k : Nat => p.links.length - k) (fun k : Nat => k ≤ p.links.length ∧ (p.links.drop k).any zMY = p.links.any zMY) (0) ?_ ⟨Nat.zero_le _, rfl⟩ ?_
   focus (simp (maxSteps := 2000000) only [go_sem, zAe, zAj, zAt, zAf]; all_goals (repeat' (first | exact trivial | exact zAk (by omega) | exact zAg rfl | exact zAq rfl | exact zAl | exact le_refl _ | refine And.intro ?_ ?_)))
   rintro k ⟨hk, hinv2⟩
   try simp (maxSteps := 2000000) only [go_sem, hg]
   repeat with_reducible refine zAc ?_
   refine zAb (by rfl) trivial (fun h3 => ?_) (fun h3 => ?_)
   ·have hkl : k < p.links.length := by simp at h3; omega
    rw [zBJ (d := 0) hkl] at hinv2
    have hg2 := zEx p.links k hkl
    obtain ⟨v, hv⟩ : ∃ v, v = p.links.getD k 0 := ⟨_, rfl⟩
    rw [← hv] at hg2 hinv2
    rw [List.any_cons] at hinv2
    try simp (maxSteps := 2000000) only [go_sem, hg, hg2]
    repeat with_reducible refine zAc ?_
    refine zAh (by repeat' constructor) (zBg v 1 4) ?_
    try simp (maxSteps := 2000000) only [go_sem]
    repeat with_reducible refine zAc ?_
    refine zAb (by rfl) trivial (fun h4 => ?_) (fun h4 => ?_)
    ·try simp (maxSteps := 2000000) only [go_sem]
     repeat with_reducible refine zAc ?_
     refine zAd rfl trivial (.inl ?_)
     congr 3
     have h5 : zMY v = true := h4
     rw [← hinv, hps, ← hinv2, h5]; rfl
    ·have h5 : zMY v = false := h4
     rw [h5, Bool.false_or] at hinv2
     try simp (maxSteps := 2000000) only [go_sem]
     repeat with_reducible refine zAc ?_
     refine ⟨k + 1, by omega, ⟨by omega, hinv2⟩, ?_⟩
     simp (maxSteps := 2000000) only [go_sem, zAe, zAj, zAt, zAf]
     all_goals (repeat' (first | exact trivial | exact zAk (by omega) | exact zAg rfl | exact zAq rfl | exact zAl | exact le_refl _ | refine And.intro ?_ ?_))
   ·have hkl : k = p.links.length := by simp at h3; omega
    subst hkl
    rw [List.drop_length] at hinv2
    rw [← hinv2] at hps
    have hps : bkP p = yCF p.steps := hps
    try simp (maxSteps := 2000000) only [go_sem]
    repeat with_reducible refine zAc ?_
    refine zAm (fun k : Nat => [(5, .pv (iv k)), (2, .un), (6, .un), (7, .un), (11, .un), (45, .un), (59, .un), (93, .un)]) (fun k : Nat => p.steps.length - k) (fun k : Nat => k ≤ p.steps.length ∧ yCF (p.steps.drop k) = yCF p.steps) (0) ?_ ⟨Nat.zero_le _, rfl⟩ ?_
    focus (simp (maxSteps := 2000000) only [go_sem, zAe, zAj, zAt, zAf]; all_goals (repeat' (first | exact trivial | exact zAk (by omega) | exact zAg rfl | exact zAq rfl | exact zAl | exact le_refl _ | refine And.intro ?_ ?_)))
    rintro k ⟨hk, hinv2⟩
    try simp (maxSteps := 2000000) only [go_sem, hg]
    repeat with_reducible refine zAc ?_
    refine zAb (by rfl) trivial (fun h4 => ?_) (fun h4 => ?_)
    ·have hkl : k < p.steps.length := by simp at h4; omega
     have fq := zVc fp.1 hkl
     rw [zBJ (d := default) hkl] at hinv2
     obtain ⟨q, hq⟩ : ∃ q, q = p.steps.getD k default := ⟨_, rfl⟩
     rw [← hq] at hinv2 fq
     have fqt := zZx fq
     have hg3 : (zLd p.steps).getD k [] = [bS q.tag, .sl 6 (zWb q.tests)] := by rw [zEe _ k hkl, ← hq, zGo]
     simp only [yCF] at hinv2
     have hqs : bkS q = yDx q.tests := by cases q; rfl
     try simp (maxSteps := 2000000) only [go_sem, hg, hg3]
     repeat with_reducible refine zAc ?_
     refine zAm (fun j : Nat => [(6, .pv (iv j)), (2, .un), (7, .un), (11, .un), (59, .un), (93, .un)]) (fun j : Nat => q.tests.length - j) (fun j : Nat => j ≤ q.tests.length ∧ yDx (q.tests.drop j) = yDx q.tests) (0) ?_ ⟨Nat.zero_le _, rfl⟩ ?_
     focus (simp (maxSteps := 2000000) only [go_sem, zAe, zAj, zAt, zAf]; all_goals (repeat' (first | exact trivial | exact zAk (by omega) | exact zAg rfl | exact zAq rfl | exact zAl | exact le_refl _ | refine And.intro ?_ ?_)))
     rintro j ⟨hj, hinv3⟩
     try simp (maxSteps := 2000000) only [go_sem, hg, hg3]
     repeat with_reducible refine zAc ?_
     refine zAb (by rfl) trivial (fun h6 => ?_) (fun h6 => ?_)
     ·have hjl : j < q.tests.length := by simp at h6; omega
      rw [zBJ (d := default) hjl] at hinv3
      obtain ⟨t, ht⟩ : ∃ t, t = q.tests.getD j default := ⟨_, rfl⟩
      rw [← ht] at hinv3
      have hg4 := zDD q.tests j hjl
      rw [← ht, zDM] at hg4
      have hszt : SizeOf.sizeOf t.list ≤ N := by
       have h7 := zOB t
       have h8 := yCz hjl
       rw [← ht] at h8
       have h9 := yCA hkl
       rw [← hq] at h9
       have h10 := zJT q
       omega
      simp only [yDx] at hinv3
      have hts : bkT t = (!(decide (1 ≤ t.kind ∧ t.kind ≤ 15)) || (zGv t.kind && yA9 t.list)) := by cases t; rfl
      have hrec := yJJ N t.list hszt
      unfold zAM at hrec
      try simp (maxSteps := 2000000) only [go_sem, hg, hg3, hg4]
      repeat with_reducible refine zAc ?_
      refine zA0 (by repeat' constructor) (zQa t.kind) ?_
      try simp (maxSteps := 2000000) only [go_sem]
      repeat with_reducible refine zAc ?_
      refine zAh (by repeat' constructor) (zBg t.kind 1 15) ?_
      try simp (maxSteps := 2000000) only [go_sem]
      repeat with_reducible refine zAc ?_
      apply zAo (h2 := fun _ => hrec)
      ·(simp (maxSteps := 2000000) only [go_sem]; rfl)
      ·intro h; repeat' (first | exact trivial | exact h | refine And.intro ?_ ?_)
      try simp (maxSteps := 2000000) only [go_sem, Bool.cond_false_right, Bool.cond_true_left]
      repeat with_reducible refine zAc ?_
      refine zAb (by rfl) trivial (fun h7 => ?_) (fun h7 => ?_)
      ·try simp (maxSteps := 2000000) only [go_sem]
       repeat with_reducible refine zAc ?_
       refine zAd rfl trivial (.inl ?_)
       congr 3
       rw [← hinv, hps, ← hinv2, hqs, ← hinv3, hts, h7]; rfl
      ·rw [h7] at hts
       rw [hts, Bool.false_or] at hinv3
       try simp (maxSteps := 2000000) only [go_sem]
       repeat with_reducible refine zAc ?_
       refine ⟨j + 1, by omega, ⟨by omega, hinv3⟩, ?_⟩
       simp (maxSteps := 2000000) only [go_sem, zAe, zAj, zAt, zAf]
       all_goals (repeat' (first | exact trivial | exact zAk (by omega) | exact zAg rfl | exact zAq rfl | exact zAl | exact le_refl _ | refine And.intro ?_ ?_))
     ·have hjl : j = q.tests.length := by simp at h6; omega
      subst hjl
      rw [List.drop_length] at hinv3
      rw [hqs, ← hinv3] at hinv2
      try simp (maxSteps := 2000000) only [go_sem]
      repeat with_reducible refine zAc ?_
      refine ⟨k + 1, by omega, ⟨by omega, hinv2⟩, ?_⟩
      simp (maxSteps := 2000000) only [go_sem, zAe, zAj, zAt, zAf]
      all_goals (repeat' (first | exact trivial | exact zAk (by omega) | exact zAg rfl | exact zAq rfl | exact zAl | exact le_refl _ | refine And.intro ?_ ?_))
    ·have hkl : k = p.steps.length := by simp at h4; omega
     subst hkl
     rw [List.drop_length] at hinv2
     rw [hps, ← hinv2] at hinv
     try simp (maxSteps := 2000000) only [go_sem]
     repeat with_reducible refine zAc ?_
     refine ⟨i + 1, by omega, ⟨by omega, hinv⟩, ?_⟩
     simp (maxSteps := 2000000) only [go_sem, zAe, zAj, zAt, zAf]
     all_goals (repeat' (first | exact trivial | exact zAk (by omega) | exact zAg rfl | exact zAq rfl | exact zAl | exact le_refl _ | refine And.intro ?_ ?_))
  ·have hil : i = l.length := by simp at h2; omega
   subst hil
   rw [List.drop_length] at hinv
   try simp (maxSteps := 2000000) only [go_sem]
   repeat with_reducible refine zAc ?_
   refine zAd rfl trivial (.inl ?_)
   congr 3
   rw [← hinv]; rfl
end Go.Hx
end

section
set_option maxRecDepth 100000
set_option linter.unusedSimpArgs false
set_option maxHeartbeats 2000000
namespace Go.Hx
open Go.Proofs
variable [Glob]
attribute [local go_sem] zAx zAy zAw zAs ndV zAv zAp zAM zBd zBp zBo
attribute [local go_sem] reduceCtorEq Nat.reduceAdd Nat.reduceEqDiff reduceIte Nat.reduceLeDiff Nat.reduceLT Nat.reduceSub
theorem yJK : ∀ (N : Nat) (l : List Pt), SizeOf.sizeOf l ≤ N → Contract Tryz.prog zDF [.val (zAM l)] { res := .val (bv (yBa l)) }
 | 0, l, hN => by have := zHd l; omega
 | N + 1, l, hN => by
  unfold zAM
  refine mkA zRo (base := 0) (fo rfl) (fun hfit => ?_)
  unfold F0 zKf
  simp (maxSteps := 2000000) only [zAD, List.set_cons_succ, List.set_cons_zero, List.map_cons, List.map_nil, zAC, zAa, ioOf, List.length_cons, List.length_nil, Nat.reduceAdd, Nat.reduceSub, List.replicate, List.cons_append, List.nil_append]
  try simp (maxSteps := 2000000) only [go_sem]
  repeat with_reducible refine zAc ?_
  have ft := zZv hfit
  have fl := zZw ft
  refine zAm (fun i : Nat => [(3, .pv (iv i)), (2, .un), (4, .un), (5, .un), (6, .un), (7, .un), (8, .un), (9, .un), (10, .un), (11, .un), (15, .un), (25, .un), (44, .un), (49, .un), (126, .un)]) (fun i : Nat => l.length - i) (fun i : Nat => i ≤ l.length ∧ yBa (l.drop i) = yBa l) (0) ?_ ⟨Nat.zero_le _, rfl⟩ ?_
  focus (simp (maxSteps := 2000000) only [go_sem, zAe, zAj, zAt, zAf]; all_goals (repeat' (first | exact trivial | exact zAk (by omega) | exact zAg rfl | exact zAq rfl | exact zAl | exact le_refl _ | refine And.intro ?_ ?_)))
  rintro i ⟨hi, hinv⟩
  try simp (maxSteps := 2000000) only [go_sem]
  repeat with_reducible refine zAc ?_
  refine zAb (by rfl) trivial (fun h2 => ?_) (fun h2 => ?_)
  ·have hil : i < l.length := by simp at h2; omega
   have fp := zVb ft hil
   rw [zBJ (d := default) hil] at hinv
   obtain ⟨p, hp⟩ : ∃ p, p = l.getD i default := ⟨_, rfl⟩
   rw [← hp] at hinv fp
   have fps := zQb fp.1
   have hg : (zJS l).getD i [] = [.sl 2 (zLd p.steps), .sl 1 (zBB p.links)] := by rw [zE3 l i hil, ← hp, zD2]
   have hsz : SizeOf.sizeOf p.steps ≤ N := by
    have h3 := zJU p
    have h4 := yCB hil
    rw [← hp] at h4
    omega
   simp only [yBa] at hinv
   have hps : bfP p = yDz p.steps := by cases p; rfl
   try simp (maxSteps := 2000000) only [go_sem]
   repeat with_reducible refine zAc ?_
   refine zAm (fun k : Nat => [(4, .pv (iv k)), (2, .un), (5, .un), (6, .un), (7, .un), (8, .un), (9, .un), (10, .un), (11, .un), (25, .un), (44, .un), (49, .un), (126, .un)]) (fun k : Nat => p.steps.length - k) (fun k : Nat => k ≤ p.steps.length ∧ yDz (p.steps.drop k) = yDz p.steps) (0) ?_ ⟨Nat.zero_le _, rfl⟩ ?_
   focus (simp (maxSteps := 2000000) only [go_sem, zAe, zAj, zAt, zAf]; all_goals (repeat' (first | exact trivial | exact zAk (by omega) | exact zAg rfl | exact zAq rfl | exact zAl | exact le_refl _ | refine And.intro ?_ ?_)))
   rintro k ⟨hk, hinv2⟩
   try simp (maxSteps := 2000000) only [go_sem, hg]
   repeat with_reducible refine zAc ?_
   refine zAb (by rfl) trivial (fun h4 => ?_) (fun h4 => ?_)
   ·have hkl : k < p.steps.length := by simp at h4; omega
    have fq := zVc fp.1 hkl
    rw [zBJ (d := default) hkl] at hinv2
    obtain ⟨q, hq⟩ : ∃ q, q = p.steps.getD k default := ⟨_, rfl⟩
    rw [← hq] at hinv2 fq
    have fqt := zZx fq
    have hg3 : (zLd p.steps).getD k [] = [bS q.tag, .sl 6 (zWb q.tests)] := by rw [zEe _ k hkl, ← hq, zGo]
    simp only [yDz] at hinv2
    have hqs : bfS q = ((!(q.tag == []) && !zBC q.tag) || yDA q.tests) := by cases q; rfl
    try simp (maxSteps := 2000000) only [go_sem, hg, hg3]
    repeat with_reducible refine zAc ?_
    apply zAo (h2 := fun _ => zCW q.tag)
    ·(simp (maxSteps := 2000000) only [go_sem]; rfl)
    ·intro h; repeat' (first | exact trivial | exact h | refine And.intro ?_ ?_)
    try simp (maxSteps := 2000000) only [go_sem, Bool.cond_false_right]
    repeat with_reducible refine zAc ?_
    refine zAb (by rfl) trivial (fun h5 => ?_) (fun h5 => ?_)
    ·try simp (maxSteps := 2000000) only [go_sem]
     repeat with_reducible refine zAc ?_
     refine zAd rfl trivial (.inl ?_)
     congr 3
     rw [← hinv, hps, ← hinv2, hqs, h5]; rfl
    rw [h5, Bool.false_or] at hqs
    try simp (maxSteps := 2000000) only [go_sem]
    repeat with_reducible refine zAc ?_
    refine zAm (fun j : Nat => [(6, .pv (iv j)), (2, .un), (7, .un), (8, .un), (9, .un), (10, .un), (11, .un), (49, .un), (126, .un)]) (fun j : Nat => q.tests.length - j) (fun j : Nat => j ≤ q.tests.length ∧ yDA (q.tests.drop j) = yDA q.tests) (0) ?_ ⟨Nat.zero_le _, rfl⟩ ?_
    focus (simp (maxSteps := 2000000) only [go_sem, zAe, zAj, zAt, zAf]; all_goals (repeat' (first | exact trivial | exact zAk (by omega) | exact zAg rfl | exact zAq rfl | exact zAl | exact le_refl _ | refine And.intro ?_ ?_)))
    rintro j ⟨hj, hinv3⟩
    try simp (maxSteps := 2000000) only [go_sem, hg, hg3]
    repeat with_reducible refine zAc ?_
    refine zAb (by rfl) trivial (fun h6 => ?_) (fun h6 => ?_)
    ·have hjl : j < q.tests.length := by simp at h6; omega
     rw [zBJ (d := default) hjl] at hinv3
     obtain ⟨t, ht⟩ : ∃ t, t = q.tests.getD j default := ⟨_, rfl⟩
     rw [← ht] at hinv3
     have hg4 := zDD q.tests j hjl
     rw [← ht, zDM] at hg4
     have hszt : SizeOf.sizeOf t.list ≤ N := by
      have h7 := zOB t
      have h8 := yCz hjl
      rw [← ht] at h8
      have h9 := yCA hkl
      rw [← hq] at h9
      have h10 := zJT q
      omega
     simp only [yDA] at hinv3
     have hts : bfT t = ((zWc t.kind && !zBC t.name) || ((!zWc t.kind && !(t.name == [])) || ((zMC t.kind && !zCf t.value) || ((!zMC t.kind && !(t.value == [])) || ((!yEW t.kind && !(t.na == 0 && t.nb == 0)) || ((!zGv t.kind && decide (0 < t.list.length)) || (zGv t.kind && yBa t.list))))))) := by
      cases t
      simp only [bfT, yEb, yEc, yDy, Ts.kind, Ts.name, Ts.value, Ts.na, Ts.nb, Ts.list, Bool.or_assoc]
     have e0 : decide (0 < (t.list.length : Int)) = decide (0 < t.list.length) := decide_eq_decide.2 (by omega)
     have hrec := yJK N t.list hszt
     unfold zAM at hrec
     try simp (maxSteps := 2000000) only [go_sem, hg, hg3, hg4]
     repeat with_reducible refine zAc ?_
     refine zA0 (by repeat' constructor) (zQa t.kind) ?_
     try simp (maxSteps := 2000000) only [go_sem]
     repeat with_reducible refine zAc ?_
     apply zAo (h2 := fun _ => zCW t.name)
     ·(simp (maxSteps := 2000000) only [go_sem]; rfl)
     ·intro h; repeat' (first | exact trivial | exact h | refine And.intro ?_ ?_)
     try simp (maxSteps := 2000000) only [go_sem]
     repeat with_reducible refine zAc ?_
     apply zAo (h2 := fun _ => zKD t.value)
     ·(simp (maxSteps := 2000000) only [go_sem]; rfl)
     ·intro h; repeat' (first | exact trivial | exact h | refine And.intro ?_ ?_)
     try simp (maxSteps := 2000000) only [go_sem]
     repeat with_reducible refine zAc ?_
     apply zAo (h2 := fun _ => hrec)
     ·(simp (maxSteps := 2000000) only [go_sem]; rfl)
     ·intro h; repeat' (first | exact trivial | exact h | refine And.intro ?_ ?_)
     try simp (maxSteps := 2000000) only [go_sem, Bool.cond_false_right, Bool.cond_true_left, e0, Bool.or_assoc]
     repeat with_reducible refine zAc ?_
     refine zAb (by rfl) trivial (fun h7 => ?_) (fun h7 => ?_)
     ·try simp (maxSteps := 2000000) only [go_sem]
      repeat with_reducible refine zAc ?_
      refine zAd rfl trivial (.inl ?_)
      congr 3
      rw [← hinv, hps, ← hinv2, hqs, ← hinv3, hts, h7]; simp
     ·rw [h7] at hts
      rw [hts, Bool.false_or] at hinv3
      try simp (maxSteps := 2000000) only [go_sem]
      repeat with_reducible refine zAc ?_
      refine ⟨j + 1, by omega, ⟨by omega, hinv3⟩, ?_⟩
      simp (maxSteps := 2000000) only [go_sem, zAe, zAj, zAt, zAf]
      all_goals (repeat' (first | exact trivial | exact zAk (by omega) | exact zAg rfl | exact zAq rfl | exact zAl | exact le_refl _ | refine And.intro ?_ ?_))
    ·have hjl : j = q.tests.length := by simp at h6; omega
     subst hjl
     rw [List.drop_length] at hinv3
     rw [hqs, ← hinv3] at hinv2
     try simp (maxSteps := 2000000) only [go_sem]
     repeat with_reducible refine zAc ?_
     refine ⟨k + 1, by omega, ⟨by omega, hinv2⟩, ?_⟩
     simp (maxSteps := 2000000) only [go_sem, zAe, zAj, zAt, zAf]
     all_goals (repeat' (first | exact trivial | exact zAk (by omega) | exact zAg rfl | exact zAq rfl | exact zAl | exact le_refl _ | refine And.intro ?_ ?_))
   ·have hkl : k = p.steps.length := by simp at h4; omega
    subst hkl
    rw [List.drop_length] at hinv2
    rw [hps, ← hinv2] at hinv
    try simp (maxSteps := 2000000) only [go_sem]
    repeat with_reducible refine zAc ?_
    refine ⟨i + 1, by omega, ⟨by omega, hinv⟩, ?_⟩
    simp (maxSteps := 2000000) only [go_sem, zAe, zAj, zAt, zAf]
    all_goals (repeat' (first | exact trivial | exact zAk (by omega) | exact zAg rfl | exact zAq rfl | exact zAl | exact le_refl _ | refine And.intro ?_ ?_))
  ·have hil : i = l.length := by simp at h2; omega
   subst hil
   rw [List.drop_length] at hinv
   try simp (maxSteps := 2000000) only [go_sem]
   repeat with_reducible refine zAc ?_
   refine zAd rfl trivial (.inl ?_)
   congr 3
   rw [← hinv]; rfl
theorem yJL : ∀ (N : Nat) (l : List Pt), SizeOf.sizeOf l ≤ N → Contract Tryz.prog zEi [.val (zAM l)] { res := .val (bv (yAA l)) }
 | 0, l, hN => by have := zHd l; omega
 | N + 1, l, hN => by
  unfold zAM
  refine mkA zUD (base := 0) (fo rfl) (fun hfit => ?_)
  unfold F0 zML
  simp (maxSteps := 2000000) only [zAD, List.set_cons_succ, List.set_cons_zero, List.map_cons, List.map_nil, zAC, zAa, ioOf, List.length_cons, List.length_nil, Nat.reduceAdd, Nat.reduceSub, List.replicate, List.cons_append, List.nil_append]
  try simp (maxSteps := 2000000) only [go_sem]
  repeat with_reducible refine zAc ?_
  have ft := zZv hfit
  have fl := zZw ft
  refine zAm (fun i : Nat => [(3, .pv (iv i)), (2, .un), (4, .un), (5, .un), (6, .un), (10, .un), (20, .un), (34, .un), (57, .un)]) (fun i : Nat => l.length - i) (fun i : Nat => i ≤ l.length ∧ yAA (l.drop i) = yAA l) (0) ?_ ⟨Nat.zero_le _, rfl⟩ ?_
  focus (simp (maxSteps := 2000000) only [go_sem, zAe, zAj, zAt, zAf]; all_goals (repeat' (first | exact trivial | exact zAk (by omega) | exact zAg rfl | exact zAq rfl | exact zAl | exact le_refl _ | refine And.intro ?_ ?_)))
  rintro i ⟨hi, hinv⟩
  try simp (maxSteps := 2000000) only [go_sem]
  repeat with_reducible refine zAc ?_
  refine zAb (by rfl) trivial (fun h2 => ?_) (fun h2 => ?_)
  ·have hil : i < l.length := by simp at h2; omega
   have fp := zVb ft hil
   rw [zBJ (d := default) hil] at hinv
   obtain ⟨p, hp⟩ : ∃ p, p = l.getD i default := ⟨_, rfl⟩
   rw [← hp] at hinv fp
   have fps := zQb fp.1
   have hg : (zJS l).getD i [] = [.sl 2 (zLd p.steps), .sl 1 (zBB p.links)] := by rw [zE3 l i hil, ← hp, zD2]
   have hsz : SizeOf.sizeOf p.steps ≤ N := by
    have h3 := zJU p
    have h4 := yCB hil
    rw [← hp] at h4
    omega
   simp only [yAA] at hinv
   have hps : bnP p = yDB p.steps := by cases p; rfl
   try simp (maxSteps := 2000000) only [go_sem]
   repeat with_reducible refine zAc ?_
   refine zAm (fun k : Nat => [(4, .pv (iv k)), (2, .un), (5, .un), (6, .un), (20, .un), (34, .un), (57, .un)]) (fun k : Nat => p.steps.length - k) (fun k : Nat => k ≤ p.steps.length ∧ yDB (p.steps.drop k) = yDB p.steps) (0) ?_ ⟨Nat.zero_le _, rfl⟩ ?_
   focus (simp (maxSteps := 2000000) only [go_sem, zAe, zAj, zAt, zAf]; all_goals (repeat' (first | exact trivial | exact zAk (by omega) | exact zAg rfl | exact zAq rfl | exact zAl | exact le_refl _ | refine And.intro ?_ ?_)))
   rintro k ⟨hk, hinv2⟩
   try simp (maxSteps := 2000000) only [go_sem, hg]
   repeat with_reducible refine zAc ?_
   refine zAb (by rfl) trivial (fun h4 => ?_) (fun h4 => ?_)
   ·have hkl : k < p.steps.length := by simp at h4; omega
    have fq := zVc fp.1 hkl
    rw [zBJ (d := default) hkl] at hinv2
    obtain ⟨q, hq⟩ : ∃ q, q = p.steps.getD k default := ⟨_, rfl⟩
    rw [← hq] at hinv2 fq
    have fqt := zZx fq
    have hg3 : (zLd p.steps).getD k [] = [bS q.tag, .sl 6 (zWb q.tests)] := by rw [zEe _ k hkl, ← hq, zGo]
    simp only [yDB] at hinv2
    have hqs : bnS q = yDC q.tests := by cases q; rfl
    try simp (maxSteps := 2000000) only [go_sem, hg, hg3]
    repeat with_reducible refine zAc ?_
    refine zAm (fun j : Nat => [(5, .pv (iv j)), (2, .un), (6, .un), (34, .un), (57, .un)]) (fun j : Nat => q.tests.length - j) (fun j : Nat => j ≤ q.tests.length ∧ yDC (q.tests.drop j) = yDC q.tests) (0) ?_ ⟨Nat.zero_le _, rfl⟩ ?_
    focus (simp (maxSteps := 2000000) only [go_sem, zAe, zAj, zAt, zAf]; all_goals (repeat' (first | exact trivial | exact zAk (by omega) | exact zAg rfl | exact zAq rfl | exact zAl | exact le_refl _ | refine And.intro ?_ ?_)))
    rintro j ⟨hj, hinv3⟩
    try simp (maxSteps := 2000000) only [go_sem, hg, hg3]
    repeat with_reducible refine zAc ?_
    refine zAb (by rfl) trivial (fun h6 => ?_) (fun h6 => ?_)
    ·have hjl : j < q.tests.length := by simp at h6; omega
     rw [zBJ (d := default) hjl] at hinv3
     obtain ⟨t, ht⟩ : ∃ t, t = q.tests.getD j default := ⟨_, rfl⟩
     rw [← ht] at hinv3
     have hg4 := zDD q.tests j hjl
     rw [← ht, zDM] at hg4
     have hszt : SizeOf.sizeOf t.list ≤ N := by
      have h7 := zOB t
      have h8 := yCz hjl
      rw [← ht] at h8
      have h9 := yCA hkl
      rw [← hq] at h9
      have h10 := zJT q
      omega
     simp only [yDC] at hinv3
     have hts : bnT t = (decide (zMX t.na t.nb ≠ 0) || yAA t.list) := by
      cases t with
      | mk kk nn vv aa bb ll => by_cases h9 : zMX aa bb = 0 <;> simp [bnT, Ts.na, Ts.nb, Ts.list, h9]
     have hrec := yJL N t.list hszt
     unfold zAM at hrec
     try simp (maxSteps := 2000000) only [go_sem, hg, hg3, hg4]
     repeat with_reducible refine zAc ?_
     refine zAh (by repeat' constructor) (zIG t.na t.nb) ?_
     try simp (maxSteps := 2000000) only [go_sem, yEY]
     repeat with_reducible refine zAc ?_
     apply zAo (h2 := fun _ => hrec)
     ·(simp (maxSteps := 2000000) only [go_sem]; rfl)
     ·intro h; repeat' (first | exact trivial | exact h | refine And.intro ?_ ?_)
     try simp (maxSteps := 2000000) only [go_sem, Bool.cond_false_right, Bool.cond_true_left]
     repeat with_reducible refine zAc ?_
     refine zAb (by rfl) trivial (fun h7 => ?_) (fun h7 => ?_)
     ·try simp (maxSteps := 2000000) only [go_sem]
      repeat with_reducible refine zAc ?_
      refine zAd rfl trivial (.inl ?_)
      congr 3
      rw [← hinv, hps, ← hinv2, hqs, ← hinv3, hts, h7]; simp
     ·rw [h7] at hts
      rw [hts, Bool.false_or] at hinv3
      try simp (maxSteps := 2000000) only [go_sem]
      repeat with_reducible refine zAc ?_
      refine ⟨j + 1, by omega, ⟨by omega, hinv3⟩, ?_⟩
      simp (maxSteps := 2000000) only [go_sem, zAe, zAj, zAt, zAf]
      all_goals (repeat' (first | exact trivial | exact zAk (by omega) | exact zAg rfl | exact zAq rfl | exact zAl | exact le_refl _ | refine And.intro ?_ ?_))
    ·have hjl : j = q.tests.length := by simp at h6; omega
     subst hjl
     rw [List.drop_length] at hinv3
     rw [hqs, ← hinv3] at hinv2
     try simp (maxSteps := 2000000) only [go_sem]
     repeat with_reducible refine zAc ?_
     refine ⟨k + 1, by omega, ⟨by omega, hinv2⟩, ?_⟩
     simp (maxSteps := 2000000) only [go_sem, zAe, zAj, zAt, zAf]
     all_goals (repeat' (first | exact trivial | exact zAk (by omega) | exact zAg rfl | exact zAq rfl | exact zAl | exact le_refl _ | refine And.intro ?_ ?_))
   ·have hkl : k = p.steps.length := by simp at h4; omega
    subst hkl
    rw [List.drop_length] at hinv2
    rw [hps, ← hinv2] at hinv
    try simp (maxSteps := 2000000) only [go_sem]
    repeat with_reducible refine zAc ?_
    refine ⟨i + 1, by omega, ⟨by omega, hinv⟩, ?_⟩
    simp (maxSteps := 2000000) only [go_sem, zAe, zAj, zAt, zAf]
    all_goals (repeat' (first | exact trivial | exact zAk (by omega) | exact zAg rfl | exact zAq rfl | exact zAl | exact le_refl _ | refine And.intro ?_ ?_))
  ·have hil : i = l.length := by simp at h2; omega
   subst hil
   rw [List.drop_length] at hinv
   try simp (maxSteps := 2000000) only [go_sem]
   repeat with_reducible refine zAc ?_
   refine zAd rfl trivial (.inl ?_)
   congr 3
   rw [← hinv]; rfl
theorem zQc (l : List Pt) : Contract Tryz.prog zDX [.val (zAM l)] { res := .val (iv (zBD l)) } := by
 have t1 := yJI (SizeOf.sizeOf l) l 1 (Nat.le_refl _) (by omega)
 have t2 := yJJ (SizeOf.sizeOf l) l (Nat.le_refl _)
 have t3 := yJK (SizeOf.sizeOf l) l (Nat.le_refl _)
 have t4 := yJL (SizeOf.sizeOf l) l (Nat.le_refl _)
 unfold zAM at *
 refine mkA zNk (base := 0) (fo rfl) (fun hfit => ?_)
 unfold F0 zG7
 simp (maxSteps := 2000000) only [zAD, List.set_cons_succ, List.set_cons_zero, List.map_cons, List.map_nil, zAC, zAa, ioOf, List.length_cons, List.length_nil, Nat.reduceAdd, Nat.reduceSub, List.replicate, List.cons_append, List.nil_append]
 try simp (maxSteps := 2000000) only [go_sem]
 repeat with_reducible refine zAc ?_
 refine zAh (by repeat' constructor) (t1) ?_
 try simp (maxSteps := 2000000) only [go_sem]
 repeat with_reducible refine zAc ?_
 refine zAb (by rfl) trivial (fun h1 => ?_) (fun h1 => ?_)
 ·try simp (maxSteps := 2000000) only [go_sem]
  repeat with_reducible refine zAc ?_
  refine zAd rfl trivial (.inl ?_)
  congr 3
  unfold zBD
  rw [if_pos h1]
 try simp (maxSteps := 2000000) only [go_sem]
 repeat with_reducible refine zAc ?_
 refine zAh (by repeat' constructor) (t2) ?_
 try simp (maxSteps := 2000000) only [go_sem]
 repeat with_reducible refine zAc ?_
 refine zAb (by rfl) trivial (fun h2 => ?_) (fun h2 => ?_)
 ·try simp (maxSteps := 2000000) only [go_sem]
  repeat with_reducible refine zAc ?_
  refine zAd rfl trivial (.inl ?_)
  congr 3
  unfold zBD
  rw [if_neg (by rw [h1]; simp), if_pos h2]
 try simp (maxSteps := 2000000) only [go_sem]
 repeat with_reducible refine zAc ?_
 refine zAh (by repeat' constructor) (t3) ?_
 try simp (maxSteps := 2000000) only [go_sem]
 repeat with_reducible refine zAc ?_
 refine zAb (by rfl) trivial (fun h3 => ?_) (fun h3 => ?_)
 ·try simp (maxSteps := 2000000) only [go_sem]
  repeat with_reducible refine zAc ?_
  refine zAd rfl trivial (.inl ?_)
  congr 3
  unfold zBD
  rw [if_neg (by rw [h1]; simp), if_neg (by rw [h2]; simp), if_pos h3]
 try simp (maxSteps := 2000000) only [go_sem]
 repeat with_reducible refine zAc ?_
 refine zAh (by repeat' constructor) (t4) ?_
 try simp (maxSteps := 2000000) only [go_sem]
 repeat with_reducible refine zAc ?_
 refine zAb (by rfl) trivial (fun h4 => ?_) (fun h4 => ?_)
 ·try simp (maxSteps := 2000000) only [go_sem]
  repeat with_reducible refine zAc ?_
  refine zAd rfl trivial (.inl ?_)
  congr 3
  unfold zBD
  rw [if_neg (by rw [h1]; simp), if_neg (by rw [h2]; simp), if_neg (by rw [h3]; simp), if_pos h4]
 ·try simp (maxSteps := 2000000) only [go_sem]
  repeat with_reducible refine zAc ?_
  refine zAd rfl trivial (.inl ?_)
  congr 3
  unfold zBD
  rw [if_neg (by rw [h1]; simp), if_neg (by rw [h2]; simp), if_neg (by rw [h3]; simp), if_neg (by rw [h4]; simp)]
end Go.Hx
end

section
set_option maxRecDepth 100000
set_option linter.unusedSimpArgs false
namespace Go.Hx
open Go.Proofs
variable [Glob]
attribute [local go_sem] zAx zAy zAw zAs ndV zAv zAp zCx List.take_nil zBd
attribute [local go_sem] reduceCtorEq Nat.reduceAdd Nat.reduceEqDiff reduceIte Nat.reduceLeDiff Nat.reduceLT Nat.reduceSub
def zVd (d : List Nd) (l : List Pt) (k : Nat) : List Int := ((List.range k).filter (lM d l)).map Int.ofNat
def yH0 (d : List Nd) (l : List Pt) : List Int := zVd d l d.length
def zH4 (d : List Nd) (l : List Pt) : Nat → Int → Int × Bool
 | 0, _ => (0, false)
 | f + 1, k => if k < 0 then (0, false) else if lM d l k.toNat then (k, true) else zH4 d l f (zAZ d k.toNat)
def zCd (d : List Nd) (l : List Pt) (n : Int) : Int := if zAA d ≠ 0 then zAA d else if zBD l ≠ 0 then zBD l else zSM d n
theorem yEn {d : List Nd} (hd : zAA d = 0) : 1 ≤ d.length ∧ d.length ≤ 64 ∧ zCg d d.length = true := by
 unfold zAA at hd
 split at hd
 ·rename_i h
  split at hd
  ·rename_i h'; exact ⟨h.1, h.2, h'⟩
  ·omega
 ·omega
theorem zSP {d : List Nd} {l : List Pt} {k : Nat} : zVd d l (k + 1) = if lM d l k then zVd d l k ++ [(k : Int)] else zVd d l k := by
 unfold zVd
 rw [List.range_succ, List.filter_append, List.map_append]
 by_cases h : lM d l k = true <;> simp [List.filter, h]
theorem zXz {d : List Nd} {l : List Pt} (k : Nat) : (zVd d l k).length ≤ k := by
 unfold zVd
 rw [List.length_map]
 exact Nat.le_trans (List.length_filter_le _ _) (by simp)
theorem zZy (d : List Nd) (hd : zAA d = 0) (l : List Pt) (h : zBD l = 0) : Contract Tryz.prog zG8 [.val (zCx d), .val (zAM l)] { res := .own zCT 1 (zBB (yH0 d l)) } := by
 obtain ⟨d1, d2, d3⟩ := yEn hd
 have hM := zEF d hd l h
 unfold zAM at hM ⊢
 unfold zCx at hM ⊢
 refine mkA zXp (base := 0) (fo rfl) (fun hfit => ?_)
 unfold F0 zP3
 simp (maxSteps := 2000000) only [zAD, List.set_cons_succ, List.set_cons_zero, List.map_cons, List.map_nil, zAC, zAa, ioOf, List.length_cons, List.length_nil, Nat.reduceAdd, Nat.reduceSub, List.replicate, List.cons_append, List.nil_append]
 try simp (maxSteps := 2000000) only [go_sem]
 repeat with_reducible refine zAc ?_
 refine zAm (fun i : Nat => [(6, .pv (iv i)), (5, .own zCT 1 (zBB (zVd d l i))), (11, .un), (17, .un)]) (fun i : Nat => d.length - i) (fun i : Nat => i ≤ d.length) (0) ?_ (Nat.zero_le _) ?_
 focus (simp (maxSteps := 2000000) only [go_sem, zAe, zAj, zAt, zAf]; all_goals (repeat' (first | exact trivial | exact zAk (by omega) | exact zAg rfl | exact zAq rfl | exact zAl | exact le_refl _ | refine And.intro ?_ ?_)))
 intro i hi
 have hal := zXz (d := d) (l := l) i
 try simp (maxSteps := 2000000) only [go_sem]
 repeat with_reducible refine zAc ?_
 refine zAb (by rfl) trivial (fun g1 => ?_) (fun g1 => ?_)
 ·have hil : i < d.length := by simpa using g1
  have hs := zSP (d := d) (l := l) (k := i)
  try simp (maxSteps := 2000000) only [go_sem]
  repeat with_reducible refine zAc ?_
  refine zAh (by repeat' constructor) (hM i hil) ?_
  try simp (maxSteps := 2000000) only [go_sem]
  repeat with_reducible refine zAc ?_
  refine zAb (by rfl) trivial (fun g2 => ?_) (fun g2 => ?_)
  ·try simp (maxSteps := 2000000) only [go_sem]
   repeat with_reducible refine zAc ?_
   refine ⟨i + 1, by omega, by omega, ?_⟩
   simp (maxSteps := 2000000) only [go_sem, zAe, zAj, zAt, zAf]
   all_goals (repeat' (first | exact trivial | exact zAk (by omega) | exact zAg rfl | exact zAq rfl | exact zAl | exact le_refl _ | refine And.intro ?_ ?_))
   refine zSI ?_
   rw [hs, g2, if_pos rfl]
   simp [zBB]
  ·try simp (maxSteps := 2000000) only [go_sem]
   repeat with_reducible refine zAc ?_
   refine ⟨i + 1, by omega, by omega, ?_⟩
   simp (maxSteps := 2000000) only [go_sem, zAe, zAj, zAt, zAf]
   all_goals (repeat' (first | exact trivial | exact zAk (by omega) | exact zAg rfl | exact zAq rfl | exact zAl | exact le_refl _ | refine And.intro ?_ ?_))
   refine zSI ?_
   rw [hs, g2]
   simp
 ·try simp (maxSteps := 2000000) only [go_sem]
  repeat with_reducible refine zAc ?_
  have hil : i = d.length := by simp at g1; omega
  exact zTz (by rw [hil]; rfl)
theorem zQd (d : List Nd) (hd : zAA d = 0) (l : List Pt) (h : zBD l = 0) (n : Nat) (hn : n < d.length) : Contract Tryz.prog zDY [.val (zCx d), .val (zAM l), .val (iv n)] { res := .tup [iv (zH4 d l d.length n).1, bv (zH4 d l d.length n).2] } := by
 obtain ⟨d1, d2, d3⟩ := yEn hd
 have hM := zEF d hd l h
 unfold zAM at hM ⊢
 unfold zCx at hM ⊢
 obtain ⟨R, hR⟩ : ∃ R, R = zH4 d l d.length n := ⟨_, rfl⟩
 rw [← hR]
 refine mkA zNA (base := 0) (fo rfl) (fun hfit => ?_)
 unfold F0 zHa
 simp (maxSteps := 2000000) only [zAD, List.set_cons_succ, List.set_cons_zero, List.map_cons, List.map_nil, zAC, zAa, ioOf, List.length_cons, List.length_nil, Nat.reduceAdd, Nat.reduceSub, List.replicate, List.cons_append, List.nil_append]
 try simp (maxSteps := 2000000) only [go_sem]
 repeat with_reducible refine zAc ?_
 refine zAm (fun x : Nat × Int => [(8, .pv (iv x.2)), (6, .un), (7, .un), (11, .un), (21, .un)]) (fun x : Nat × Int => x.1) (fun x : Nat × Int => x.1 ≤ d.length ∧ -1 ≤ x.2 ∧ x.2 < x.1 ∧ zH4 d l x.1 x.2 = R) ((d.length, (n : Int))) ?_ ⟨Nat.le_refl _, by simp only; omega, by simp only; omega, hR.symm⟩ ?_
 focus (simp (maxSteps := 2000000) only [go_sem, zAe, zAj, zAt, zAf]; all_goals (repeat' (first | exact trivial | exact zAk (by omega) | exact zAg rfl | exact zAq rfl | exact zAl | exact le_refl _ | refine And.intro ?_ ?_)))
 rintro ⟨f, k⟩ ⟨hf, hk0, hk, hr⟩
 simp only at hf hk0 hk hr
 try simp (maxSteps := 2000000) only [go_sem]
 repeat with_reducible refine zAc ?_
 refine zAb (by rfl) trivial (fun g1 => ?_) (fun g1 => ?_)
 ·have hk1 : 0 ≤ k := by simpa using g1
  obtain ⟨m, rfl⟩ : ∃ m : Nat, k = m := ⟨k.toNat, by omega⟩
  have hml : m < d.length := by omega
  have hu := zA6 d3 m hml
  obtain ⟨f, rfl⟩ : ∃ f', f = f' + 1 := ⟨f - 1, by omega⟩
  rw [zH4, if_neg (by omega), Int.toNat_natCast] at hr
  have hv := zA1 d m hml
  rw [ndV] at hv
  try simp (maxSteps := 2000000) only [go_sem]
  repeat with_reducible refine zAc ?_
  refine zAh (by repeat' constructor) (hM m hml) ?_
  try simp (maxSteps := 2000000) only [go_sem]
  repeat with_reducible refine zAc ?_
  refine zAb (by rfl) trivial (fun g2 => ?_) (fun g2 => ?_)
  ·try simp (maxSteps := 2000000) only [go_sem]
   repeat with_reducible refine zAc ?_
   rw [if_pos g2] at hr
   exact zBl (by simp) ⟨zAL rfl trivial (.inl (by rw [← hr])), zAL rfl trivial (.inl (by rw [← hr])), rfl⟩
  ·rw [if_neg (by rw [g2]; simp)] at hr
   try simp (maxSteps := 2000000) only [go_sem, hv]
   repeat with_reducible refine zAc ?_
   refine ⟨(f, zAZ d m), by simp only; omega, ⟨by simp only; omega, by simp only; omega, by simp only; omega, hr⟩, ?_⟩
   simp (maxSteps := 2000000) only [go_sem, zAe, zAj, zAt, zAf]
   all_goals (repeat' (first | exact trivial | exact zAk (by omega) | exact zAg rfl | exact zAq rfl | exact zAl | exact le_refl _ | refine And.intro ?_ ?_))
 ·have hk1 : k < 0 := by simp at g1; omega
  have hR0 : R = (0, false) := by
   rw [← hr]
   cases f with
   | zero => rw [zH4]
   | succ f => rw [zH4, if_pos hk1]
  try simp (maxSteps := 2000000) only [go_sem]
  repeat with_reducible refine zAc ?_
  exact zBl (by simp) ⟨zAL rfl trivial (.inl (by rw [hR0])), zAL rfl trivial (.inl (by rw [hR0])), rfl⟩
theorem zGs (d : List Nd) (l : List Pt) (n : Int) : Contract Tryz.prog zCq [.val (zCx d), .val (zAM l), .val (iv n)] { res := .val (iv (zCd d l n)) } := by
 have hD := zIF d
 have hL := zQc l
 have hT := zZr d n
 unfold zAM at hL ⊢
 unfold zCx at hD hT ⊢
 refine mkA zLY (base := 0) (fo rfl) (fun hfit => ?_)
 unfold F0 zGr
 simp (maxSteps := 2000000) only [zAD, List.set_cons_succ, List.set_cons_zero, List.map_cons, List.map_nil, zAC, zAa, ioOf, List.length_cons, List.length_nil, Nat.reduceAdd, Nat.reduceSub, List.replicate, List.cons_append, List.nil_append]
 try simp (maxSteps := 2000000) only [go_sem]
 repeat with_reducible refine zAc ?_
 refine zAh (by repeat' constructor) (hD) ?_
 try simp (maxSteps := 2000000) only [go_sem]
 repeat with_reducible refine zAc ?_
 refine zAb (by rfl) trivial (fun g1 => ?_) (fun g1 => ?_)
 ·try simp (maxSteps := 2000000) only [go_sem]
  repeat with_reducible refine zAc ?_
  exact zAd rfl trivial (.inl (by rw [zCd, if_pos (by simpa using g1)]))
 have h1 : zAA d = 0 := by simpa using g1
 try simp (maxSteps := 2000000) only [go_sem]
 repeat with_reducible refine zAc ?_
 refine zAh (by repeat' constructor) (hL) ?_
 try simp (maxSteps := 2000000) only [go_sem]
 repeat with_reducible refine zAc ?_
 refine zAb (by rfl) trivial (fun g2 => ?_) (fun g2 => ?_)
 ·try simp (maxSteps := 2000000) only [go_sem]
  repeat with_reducible refine zAc ?_
  exact zAd rfl trivial (.inl (by rw [zCd, if_neg (by simpa using h1), if_pos (by simpa using g2)]))
 have h2 : zBD l = 0 := by simpa using g2
 try simp (maxSteps := 2000000) only [go_sem]
 repeat with_reducible refine zAc ?_
 refine zAh (by repeat' constructor) (hT) ?_
 try simp (maxSteps := 2000000) only [go_sem]
 repeat with_reducible refine zAc ?_
 exact zAd rfl trivial (.inl (by rw [zCd, if_neg (by simpa using h1), if_neg (by simpa using h2)]))
end Go.Hx
end

section
set_option maxRecDepth 100000
set_option linter.unusedSimpArgs false
namespace Go.Hx
open Go.Proofs
variable [Glob]
attribute [local go_sem] zAx zAy zAw zAs ndV zAv zAp zCx atV OVal.cells zZ7 List.drop_succ_cons List.drop_zero List.take_succ_cons List.take_zero List.getD_nil yCw zGM Nat.sub_zero List.map_nil List.map_cons yDa yDb zBf zIK zEu zAa
attribute [local go_sem ↓] yI4 yI5 yHP yHO yHQ
attribute [local go_sem] reduceCtorEq Nat.reduceAdd Nat.reduceEqDiff reduceIte Nat.reduceLeDiff Nat.reduceLT Nat.reduceSub
def ahd (d : List Nd) (n : Nat) : Int := ((zAJ d (zAZ d n) n).getLast?).getD (-1)
def plc (d : List Nd) (n : Nat) : Int := (zAJ d (zAZ d n) n).length + 1
def ofN (d : List Nd) (n : Nat) : Int := if 0 ≤ zAZ d n then (zD5 d (zAZ d n)).length else 1
def zX5 (d : List Nd) : List (List PV) := (List.range d.length).map fun n => [bI (plc d n), bI (ofN d n), bI (ahd d n), bI (zCz d n), bI (zD5 d n).length]
def zBh (d : List Nd) : PV := .fp [.sl 5 (yEV d), .sl 5 (zX5 d)]
def stF (d : List Nd) (i j : Nat) : List OV := zII (if j < i then plc d j else 0) 0 (if j < i then ahd d j else 0) (zAX d j i) (zAJ d j i).length
theorem zKS (d : List Nd) (u : Int) : zAJ d u 0 = [] := rfl
theorem zX6 (d : List Nd) (u : Int) : zAX d u 0 = 0 := rfl
theorem yJn (d : List Nd) (L : Nat) : List.replicate L [OV.p (bI 0), .p (bI 0), .p (bI 0), .p (bI 0), .p (bI 0)] = zEn L (stF d 0) := by
 rw [yDc]
 refine zAY fun j _ => ?_
 simp [stF, zKS, zX6]
theorem zF2 {d : List Nd} {u p : Int} : ∀ {i : Nat}, (zAJ d u i).getLast? = some p → ∃ m : Nat, m < i ∧ p = m ∧ zAZ d m = u ∧ zAJ d u i = zAJ d u m ++ [(m : Int)]
 | 0, h => by rw [zKS] at h; cases h
 | i + 1, h => by
  rw [zAQ] at h
  by_cases e : zAZ d i = u
  ·rw [if_pos e] at h
   have hp : p = i := by simpa using h.symm
   exact ⟨i, by omega, hp, e, by rw [zAQ, if_pos e]⟩
  ·rw [if_neg e] at h
   obtain ⟨m, h1, h2, h3, h4⟩ := zF2 h
   exact ⟨m, by omega, h2, h3, by rw [zAQ, if_neg e, h4]⟩
def inF (d : List Nd) (i : Nat) (u k : Int) (j : Nat) : List OV := zII (if j < i + 1 then plc d j else 0) 0 (if j < i + 1 then ahd d j else 0) (zAX d j i + if (C d u).contains (j : Int) && decide (k < j) then 1 else 0) (zAJ d j (i + 1)).length
theorem zVx {d : List Nd} {i : Nat} {u k : Int} (hu : u = zAZ d i) (hk : k < 0) (j : Nat) : inF d i u k j = stF d (i + 1) j := by
 unfold inF stF
 have h1 : decide (k < (j : Int)) = true := by simp; omega
 rw [zHb, h1, Bool.and_true, ← hu]
 rfl
theorem zKT {d : List Nd} (hd : zCg d d.length = true) {i : Nat} {u : Int} (hu : u < d.length) (j : Nat) : inF d i u u j = zII (if j < i + 1 then plc d j else 0) 0 (if j < i + 1 then ahd d j else 0) (zAX d j i) (zAJ d j (i + 1)).length := by
 unfold inF
 have : ((C d u).contains (j : Int) && decide (u < j)) = false := by
  cases hc : (C d u).contains (j : Int) with
  | false => rfl
  | true =>
   have := (yGw hd hu (by simpa using hc)).2
   simp; omega
 rw [this]
 simp
theorem zN3 {d : List Nd} (hd : zCg d d.length = true) {i q : Nat} {u : Int} (hu : u < d.length) (hq : (q : Int) ∈ C d u) (j : Nat) : inF d i u (zAZ d q) j = if j = q then zII (if q < i + 1 then plc d q else 0) 0 (if q < i + 1 then ahd d q else 0) (zAX d q i + (if (C d u).contains (q : Int) && decide ((q : Int) < q) then 1 else 0) + 1) (zAJ d q (i + 1)).length else inF d i u q j := by
 have hql := (yGw hd hu hq)
 have hub := zA6 hd q (by omega)
 by_cases h : j = q
 ·subst h
  rw [if_pos rfl]
  unfold inF
  have h1 : (C d u).contains (j : Int) = true := by simpa using hq
  have h2 : decide (zAZ d j < (j : Int)) = true := by simp; omega
  have h3 : decide ((j : Int) < (j : Int)) = false := by simp
  rw [h1, h2, h3]
  simp
 ·rw [if_neg h]
  unfold inF
  have : ((C d u).contains (j : Int) && decide (zAZ d q < (j : Int))) = ((C d u).contains (j : Int) && decide ((q : Int) < j)) := by
   cases hc : (C d u).contains (j : Int) with
   | false => rfl
   | true =>
    have hj : (j : Int) ∈ C d u := by simpa using hc
    obtain ⟨u', rfl⟩ : ∃ u' : Nat, u = u' := ⟨u.toNat, by omega⟩
    rw [Bool.true_and, Bool.true_and]
    rw [decide_eq_decide]
    constructor
    ·intro h1
     by_cases h2 : (q : Int) < j
     ·exact h2
     ·exfalso
      have h3 := yJm hd u' (by omega) hq hj (by omega)
      have h4 := (yGw hd (k := zAZ d q) (by omega) h3).2
      omega
    ·intro h1; omega
  rw [this]
def fiF (d : List Nd) (i j : Nat) : List OV := zII (plc d j) (if j < i then ofN d j else 0) (ahd d j) (zCz d j) (zD5 d j).length
theorem yDe (d : List Nd) : zEn d.length (stF d d.length) = zEn d.length (fiF d 0) := by
 refine zAY fun j hj => ?_
 simp [stF, fiF, hj, zCz, zD5]
theorem yEs (d : List Nd) (b e : Nat) : (OV.os (some b) e 5 (zEn d.length (fiF d d.length))).frz = some (.sl 5 (zX5 d)) := by
 have h : zEn d.length (fiF d d.length) = (zX5 d).map fun r => r.map OV.p := by
  rw [zEn, zX5, List.map_map]
  refine List.map_congr_left fun j hj => ?_
  have := List.mem_range.1 hj
  simp [fiF, this]
 rw [h]
 exact yHR (zV6 _)
set_option maxHeartbeats 32000000 in
theorem yBP (d : List Nd) (hd : zAA d = 0) : Contract Tryz.prog zJo [.val (zCx d)] { res := .val (.one (zBh d)) } := by
 obtain ⟨d1, d2, d3⟩ := yEn hd
 unfold zCx
 refine mkA zZK (base := 0) (fo rfl) (fun hfit => ?_)
 unfold F0 zSQ
 simp (maxSteps := 2000000) only [zAD, List.set_cons_succ, List.set_cons_zero, List.map_cons, List.map_nil, zAC, zAa, ioOf, List.length_cons, List.length_nil, Nat.reduceAdd, Nat.reduceSub, List.replicate, List.cons_append, List.nil_append]
 try simp (maxSteps := 2000000) only [go_sem]
 repeat with_reducible refine zAc ?_
 intro bw
 refine yJk (fun bm => ?_)
 try simp (maxSteps := 2000000) only [go_sem]
 repeat with_reducible refine zAc ?_
 refine zAm (fun x : Nat × List (Int × Int) => [(24, .pv (iv x.1)), (20, .ov (.one (yEo bm x.2))), (163, .ov (.one (.os (some bw) zB0 5 (zEn d.length (stF d x.1))))), (5, .un), (6, .un), (7, .un), (8, .un), (9, .un), (10, .un), (25, .un), (43, .un), (72, .un), (91, .un), (107, .un), (164, .un), (165, .un), (166, .un), (167, .un), (168, .un)]) (fun x : Nat × List (Int × Int) => d.length - x.1) (fun x : Nat × List (Int × Int) => x.1 ≤ d.length ∧ ∀ u, yBM x.2 u = (zAJ d u x.1).getLast?) ((0, [])) ?_ ⟨Nat.zero_le _, fun u => rfl⟩ ?_
 focus (simp (maxSteps := 2000000) only [go_sem, zAe, zAj, zAt, zAf]; all_goals (repeat' (first | exact trivial | exact zAk (by omega) | exact zAg rfl | exact zAq rfl | exact zAl | exact le_refl _ | refine And.intro ?_ ?_)))
 ·refine zAq ?_
  rw [← yJn]
 rintro ⟨i, ml⟩ ⟨hi, hml⟩
 simp only at hi hml
 try simp (maxSteps := 2000000) only [go_sem]
 repeat with_reducible refine zAc ?_
 refine zAb (by rfl) trivial (fun g1 => ?_) (fun g1 => ?_)
 ·have hil : i < d.length := by simpa using g1
  have hv := zA1 d i hil
  rw [ndV] at hv
  obtain ⟨u, hu⟩ : ∃ u, u = zAZ d i := ⟨_, rfl⟩
  have hup : (d.getD i default).up = u := hu.symm
  rw [hup] at hv
  have hub := zA6 d3 i hil
  rw [← hu] at hub
  have hget := fun g => zCG hil g
  obtain ⟨U, hU⟩ : ∃ U, U = zAX d i i := ⟨_, rfl⟩
  obtain ⟨K, hK⟩ : ∃ K, K = (zAJ d i i).length := ⟨_, rfl⟩
  have hst : stF d i i = zII 0 0 0 U K := by simp [stF, hU, hK]
  try simp (maxSteps := 2000000) only [go_sem, hv, hget, hst, zII]
  repeat with_reducible refine zAc ?_
  refine yJl rfl rfl rfl ?_
  have hgi := hml u
  cases hlast : (zAJ d u i).getLast? with
  | none =>
   rw [hlast] at hgi
   have hahd : ahd d i = -1 := by rw [ahd, ← hu, hlast]; rfl
   have hplc : plc d i = 1 := by
    rw [List.getLast?_eq_none_iff] at hlast
    rw [plc, ← hu, hlast]; rfl
   try simp (maxSteps := 2000000) only [go_sem, hgi, Option.isSome_none, Option.getD_none]
   repeat with_reducible refine zAc ?_
   refine zAb (by rfl) trivial (fun g2 => ?_) (fun g2 => ?_)
   ·simp at g2
   try simp (maxSteps := 2000000) only [go_sem, hv, hget, hst, zII]
   repeat with_reducible refine zAc ?_
   refine yH1 rfl rfl rfl rfl (by decide) ?_
   try simp (maxSteps := 2000000) only [go_sem, hv, hget, hst, zII]
   repeat with_reducible refine zAc ?_
   refine zAb (by rfl) trivial (fun g3 => ?_) (fun g3 => ?_)
   ·simp at g3
   try simp (maxSteps := 2000000) only [go_sem, hv, hget, hst, zII]
   repeat with_reducible refine zAc ?_
   refine zAb (by rfl) trivial (fun g4 => ?_) (fun g4 => ?_)
   ·have hu0 : 0 ≤ u := by simpa using g4
    obtain ⟨q, rfl⟩ : ∃ q : Nat, u = q := ⟨u.toNat, by omega⟩
    have hqi : ¬ q = i := by omega
    have hql : q < d.length := by omega
    have hgq := fun g => zCG hql g
    have hstq : stF d i q = zII (if q < i then plc d q else 0) 0 (if q < i then ahd d q else 0) (zAX d q i) (zAJ d q i).length := rfl
    have hkl := zDA (d := d) (n := q) i
    try simp (maxSteps := 2000000) only [go_sem, hgq, hqi, hstq, zII]
    repeat with_reducible refine zAc ?_
    refine zAm (fun k : Int => [(10, .pv (iv k)), (163, .ov (.one (.os (some bw) zB0 5 (zEn d.length (inF d i (q : Int) k))))), (107, .un)]) (fun k : Int => (k + 1).toNat) (fun k : Int => -1 ≤ k ∧ k < i ∧ (0 ≤ k → k ∈ C d (q : Int))) ((q : Int)) ?_ ⟨by omega, by omega, fun _ => by rw [zIJ d3 hql]; exact List.mem_cons_self⟩ ?_
    focus (simp (maxSteps := 2000000) only [go_sem, zAe, zAj, zAt, zAf]; all_goals (repeat' (first | exact trivial | exact zAk (by omega) | exact zAg rfl | exact zAq rfl | exact zAl | exact le_refl _ | refine And.intro ?_ ?_)))
    ·refine zAq ?_
     congr 3
     refine zAY fun j hj => ?_
     rw [zKT d3 (by omega)]
     by_cases hjq : j = q
     ·subst hjq
      have hkj : zAJ d j (i + 1) = zAJ d j i ++ [(i : Int)] := by rw [zAQ, if_pos hu.symm]
      rw [hkj, List.length_append]
      have e1 : j < i := by omega
      have e2 : j < i + 1 := by omega
      simp [zII, e1, e2]
     ·rw [if_neg hjq]
      have hkj : zAJ d j (i + 1) = zAJ d j i := by rw [zAQ, if_neg (by rw [← hu]; omega)]
      rw [hkj]
      by_cases hji : j = i
      ·subst hji
       rw [if_pos rfl, if_pos (by omega), if_pos (by omega), hplc, hahd, hU, hK]
      ·simp only [if_neg hji, stF]
       have e : (j < i + 1) ↔ (j < i) := by omega
       simp only [e]
    rintro k ⟨hk0, hki, hkc⟩
    try simp (maxSteps := 2000000) only [go_sem]
    repeat with_reducible refine zAc ?_
    refine zAb (by rfl) trivial (fun g5 => ?_) (fun g5 => ?_)
    ·have hk1 : 0 ≤ k := by simpa using g5
     obtain ⟨q2, rfl⟩ : ∃ q2 : Nat, k = q2 := ⟨k.toNat, by omega⟩
     have hql2 : q2 < d.length := by omega
     have hqu := zA6 d3 q2 hql2
     have hqv := zA1 d q2 hql2
     rw [ndV] at hqv
     have hgq := fun g => zCG hql2 g
     have hkq := hkc hk1
     have hinq : inF d i (q : Int) q2 q2 = zII (if q2 < i + 1 then plc d q2 else 0) 0 (if q2 < i + 1 then ahd d q2 else 0) (zAX d q2 i + (if (C d (q : Int)).contains (q2 : Int) && decide ((q2 : Int) < q2) then 1 else 0)) (zAJ d q2 (i + 1)).length := rfl
     obtain ⟨V, hV⟩ : ∃ V, V = zAX d q2 i + (if (C d (q : Int)).contains (q2 : Int) && decide ((q2 : Int) < q2) then 1 else 0) := ⟨_, rfl⟩
     have hVb : 0 ≤ V ∧ V ≤ i + 1 := by
      have := zEp (d := d) (n := q2) i
      rw [hV]; split <;> omega
     rw [← hV] at hinq
     have hinf := zN3 d3 (i := i) (by omega : (q : Int) < d.length) hkq
     rw [← hV] at hinf
     try simp (maxSteps := 2000000) only [go_sem, hgq, hinq, zII, hqv]
     repeat with_reducible refine zAc ?_
     refine ⟨zAZ d q2, by omega, ⟨by omega, by omega, fun h0 => ?_⟩, ?_⟩
     ·refine yGl d3 q hql hkq ?_
      rw [zIJ d3 hql2]
      obtain ⟨v, hv2⟩ : ∃ v : Nat, zAZ d q2 = v := ⟨(zAZ d q2).toNat, by omega⟩
      rw [hv2, zIJ d3 (by omega : v < d.length)]
      exact List.mem_cons_of_mem _ (List.mem_cons_self)
     ·simp (maxSteps := 2000000) only [go_sem, zAe, zAj, zAt, zAf]
      all_goals (repeat' (first | exact trivial | exact zAk (by omega) | exact zAg rfl | exact zAq rfl | exact zAl | exact le_refl _ | refine And.intro ?_ ?_))
      all_goals first | exact zAk rfl | skip
      refine zAq ?_
      congr 3
      refine zAY fun j hj => ?_
      rw [hinf j]
    ·have hk1 : k < 0 := by simp at g5; omega
     try simp (maxSteps := 2000000) only [go_sem]
     repeat with_reducible refine zAc ?_
     refine ⟨(i + 1, yC8 ml (q : Int) i), by simp only; omega, ⟨by simp only; omega, fun w => ?_⟩, ?_⟩
     ·simp only
      rw [zKH, hml w, zAQ, ← hu]
      by_cases hw : w = (q : Int)
      ·rw [if_pos hw, if_pos hw.symm]; simp
      ·rw [if_neg hw, if_neg (Ne.symm hw)]
     ·simp (maxSteps := 2000000) only [go_sem, zAe, zAj, zAt, zAf]
      all_goals (repeat' (first | exact trivial | exact zAk (by omega) | exact zAg rfl | exact zAq rfl | exact zAl | exact le_refl _ | refine And.intro ?_ ?_))
      refine zAq ?_
      congr 3
      exact zAY fun j _ => zVx hu hk1 j
   ·have hu0 : u < 0 := by simp at g4; omega
    have hC : C d u = [] := yEr d3 hu0
    try simp (maxSteps := 2000000) only [go_sem]
    repeat with_reducible refine zAc ?_
    refine zAm (fun k : Int => [(10, .pv (iv k)), (163, .ov (.one (.os (some bw) zB0 5 (zEn d.length (inF d i u k))))), (107, .un)]) (fun k : Int => (k + 1).toNat) (fun k : Int => -1 ≤ k ∧ k < i ∧ (0 ≤ k → k ∈ C d u)) (u) ?_ ⟨by omega, by omega, fun h => by omega⟩ ?_
    focus (simp (maxSteps := 2000000) only [go_sem, zAe, zAj, zAt, zAf]; all_goals (repeat' (first | exact trivial | exact zAk (by omega) | exact zAg rfl | exact zAq rfl | exact zAl | exact le_refl _ | refine And.intro ?_ ?_)))
    ·refine zAq ?_
     congr 3
     refine zAY fun j hj => ?_
     rw [zKT d3 (by omega)]
     have hkj : zAJ d j (i + 1) = zAJ d j i := by rw [zAQ, if_neg (by rw [← hu]; omega)]
     rw [hkj]
     by_cases hji : j = i
     ·subst hji
      rw [if_pos rfl, if_pos (by omega), if_pos (by omega), hplc, hahd, hU, hK]
     ·simp only [if_neg hji, stF]
      have e : (j < i + 1) ↔ (j < i) := by omega
      simp only [e]
    rintro k ⟨hk0, hki, hkc⟩
    try simp (maxSteps := 2000000) only [go_sem]
    repeat with_reducible refine zAc ?_
    refine zAb (by rfl) trivial (fun g5 => ?_) (fun g5 => ?_)
    ·have hk1 : 0 ≤ k := by simpa using g5
     obtain ⟨q2, rfl⟩ : ∃ q2 : Nat, k = q2 := ⟨k.toNat, by omega⟩
     have hql2 : q2 < d.length := by omega
     have hqu := zA6 d3 q2 hql2
     have hqv := zA1 d q2 hql2
     rw [ndV] at hqv
     have hgq := fun g => zCG hql2 g
     have hkq := hkc hk1
     have hinq : inF d i u q2 q2 = zII (if q2 < i + 1 then plc d q2 else 0) 0 (if q2 < i + 1 then ahd d q2 else 0) (zAX d q2 i + (if (C d u).contains (q2 : Int) && decide ((q2 : Int) < q2) then 1 else 0)) (zAJ d q2 (i + 1)).length := rfl
     obtain ⟨V, hV⟩ : ∃ V, V = zAX d q2 i + (if (C d u).contains (q2 : Int) && decide ((q2 : Int) < q2) then 1 else 0) := ⟨_, rfl⟩
     have hVb : 0 ≤ V ∧ V ≤ i + 1 := by
      have := zEp (d := d) (n := q2) i
      rw [hV]; split <;> omega
     rw [← hV] at hinq
     have hinf := zN3 d3 (i := i) (by omega : u < d.length) hkq
     rw [← hV] at hinf
     try simp (maxSteps := 2000000) only [go_sem, hgq, hinq, zII, hqv]
     repeat with_reducible refine zAc ?_
     refine ⟨zAZ d q2, by omega, ⟨by omega, by omega, fun h0 => ?_⟩, ?_⟩
     ·rw [hC] at hkq; cases hkq
     ·simp (maxSteps := 2000000) only [go_sem, zAe, zAj, zAt, zAf]
      all_goals (repeat' (first | exact trivial | exact zAk (by omega) | exact zAg rfl | exact zAq rfl | exact zAl | exact le_refl _ | refine And.intro ?_ ?_))
      all_goals first | exact zAk rfl | skip
      refine zAq ?_
      congr 3
      refine zAY fun j hj => ?_
      rw [hinf j]
    ·have hk1 : k < 0 := by simp at g5; omega
     try simp (maxSteps := 2000000) only [go_sem]
     repeat with_reducible refine zAc ?_
     refine ⟨(i + 1, yC8 ml u i), by simp only; omega, ⟨by simp only; omega, fun w => ?_⟩, ?_⟩
     ·simp only
      rw [zKH, hml w, zAQ, ← hu]
      by_cases hw : w = u
      ·rw [if_pos hw, if_pos hw.symm]; simp
      ·rw [if_neg hw, if_neg (Ne.symm hw)]
     ·simp (maxSteps := 2000000) only [go_sem, zAe, zAj, zAt, zAf]
      all_goals (repeat' (first | exact trivial | exact zAk (by omega) | exact zAg rfl | exact zAq rfl | exact zAl | exact le_refl _ | refine And.intro ?_ ?_))
      refine zAq ?_
      congr 3
      exact zAY fun j _ => zVx hu hk1 j
  | some p =>
   rw [hlast] at hgi
   obtain ⟨m, hmi, rfl, hmu, hkm⟩ := zF2 hlast
   have hahd : ahd d i = m := by rw [ahd, ← hu, hlast]; rfl
   have hplc : plc d i = plc d m + 1 := by
    rw [plc, ← hu, hkm, plc, hmu, List.length_append]
    simp
   have hml2 : m < d.length := by omega
   have hmi' : ¬ m = i := by omega
   have hgm := fun g => zCG hml2 g
   have hstm : stF d i m = zII (plc d m) 0 (ahd d m) (zAX d m i) (zAJ d m i).length := by simp [stF, hmi]
   have hplb : 1 ≤ plc d m ∧ plc d m ≤ 65 := by
    have := zDA (d := d) (n := zAZ d m) m
    rw [plc]; omega
   try simp (maxSteps := 2000000) only [go_sem, hgi, Option.isSome_some, Option.getD_some]
   repeat with_reducible refine zAc ?_
   refine zAb (by rfl) trivial (fun g2 => ?_) (fun g2 => ?_)
   ·try simp (maxSteps := 2000000) only [go_sem, hv, hget, hst, zII]
    repeat with_reducible refine zAc ?_
    refine yH1 rfl rfl rfl rfl (by decide) ?_
    try simp (maxSteps := 2000000) only [go_sem, hv, hget, hst, zII]
    repeat with_reducible refine zAc ?_
    refine zAb (by rfl) trivial (fun g3 => ?_) (fun g3 => ?_)
    ·try simp (maxSteps := 2000000) only [go_sem, hv, hget, hst, zII, hgm, hmi', hstm, Int.toNat_natCast]
     repeat with_reducible refine zAc ?_
     refine zAb (by rfl) trivial (fun g4 => ?_) (fun g4 => ?_)
     ·have hu0 : 0 ≤ u := by simpa using g4
      obtain ⟨q, rfl⟩ : ∃ q : Nat, u = q := ⟨u.toNat, by omega⟩
      have hqi : ¬ q = i := by omega
      have hql : q < d.length := by omega
      have hgq := fun g => zCG hql g
      have hstq : stF d i q = zII (if q < i then plc d q else 0) 0 (if q < i then ahd d q else 0) (zAX d q i) (zAJ d q i).length := rfl
      have hkl := zDA (d := d) (n := q) i
      try simp (maxSteps := 2000000) only [go_sem, hgq, hqi, hstq, zII]
      repeat with_reducible refine zAc ?_
      refine zAm (fun k : Int => [(10, .pv (iv k)), (163, .ov (.one (.os (some bw) zB0 5 (zEn d.length (inF d i (q : Int) k))))), (107, .un)]) (fun k : Int => (k + 1).toNat) (fun k : Int => -1 ≤ k ∧ k < i ∧ (0 ≤ k → k ∈ C d (q : Int))) ((q : Int)) ?_ ⟨by omega, by omega, fun _ => by rw [zIJ d3 hql]; exact List.mem_cons_self⟩ ?_
      focus (simp (maxSteps := 2000000) only [go_sem, zAe, zAj, zAt, zAf]; all_goals (repeat' (first | exact trivial | exact zAk (by omega) | exact zAg rfl | exact zAq rfl | exact zAl | exact le_refl _ | refine And.intro ?_ ?_)))
      ·refine zAq ?_
       congr 3
       refine zAY fun j hj => ?_
       rw [zKT d3 (by omega)]
       by_cases hjq : j = q
       ·subst hjq
        have hkj : zAJ d j (i + 1) = zAJ d j i ++ [(i : Int)] := by rw [zAQ, if_pos hu.symm]
        rw [hkj, List.length_append]
        have e1 : j < i := by omega
        have e2 : j < i + 1 := by omega
        simp [zII, e1, e2]
       ·rw [if_neg hjq]
        have hkj : zAJ d j (i + 1) = zAJ d j i := by rw [zAQ, if_neg (by rw [← hu]; omega)]
        rw [hkj]
        by_cases hji : j = i
        ·subst hji
         rw [if_pos rfl, if_pos (by omega), if_pos (by omega), hplc, hahd, hU, hK]
        ·simp only [if_neg hji, stF]
         have e : (j < i + 1) ↔ (j < i) := by omega
         simp only [e]
      rintro k ⟨hk0, hki, hkc⟩
      try simp (maxSteps := 2000000) only [go_sem]
      repeat with_reducible refine zAc ?_
      refine zAb (by rfl) trivial (fun g5 => ?_) (fun g5 => ?_)
      ·have hk1 : 0 ≤ k := by simpa using g5
       obtain ⟨q2, rfl⟩ : ∃ q2 : Nat, k = q2 := ⟨k.toNat, by omega⟩
       have hql2 : q2 < d.length := by omega
       have hqu := zA6 d3 q2 hql2
       have hqv := zA1 d q2 hql2
       rw [ndV] at hqv
       have hgq := fun g => zCG hql2 g
       have hkq := hkc hk1
       have hinq : inF d i (q : Int) q2 q2 = zII (if q2 < i + 1 then plc d q2 else 0) 0 (if q2 < i + 1 then ahd d q2 else 0) (zAX d q2 i + (if (C d (q : Int)).contains (q2 : Int) && decide ((q2 : Int) < q2) then 1 else 0)) (zAJ d q2 (i + 1)).length := rfl
       obtain ⟨V, hV⟩ : ∃ V, V = zAX d q2 i + (if (C d (q : Int)).contains (q2 : Int) && decide ((q2 : Int) < q2) then 1 else 0) := ⟨_, rfl⟩
       have hVb : 0 ≤ V ∧ V ≤ i + 1 := by
        have := zEp (d := d) (n := q2) i
        rw [hV]; split <;> omega
       rw [← hV] at hinq
       have hinf := zN3 d3 (i := i) (by omega : (q : Int) < d.length) hkq
       rw [← hV] at hinf
       try simp (maxSteps := 2000000) only [go_sem, hgq, hinq, zII, hqv]
       repeat with_reducible refine zAc ?_
       refine ⟨zAZ d q2, by omega, ⟨by omega, by omega, fun h0 => ?_⟩, ?_⟩
       ·refine yGl d3 q hql hkq ?_
        rw [zIJ d3 hql2]
        obtain ⟨v, hv2⟩ : ∃ v : Nat, zAZ d q2 = v := ⟨(zAZ d q2).toNat, by omega⟩
        rw [hv2, zIJ d3 (by omega : v < d.length)]
        exact List.mem_cons_of_mem _ (List.mem_cons_self)
       ·simp (maxSteps := 2000000) only [go_sem, zAe, zAj, zAt, zAf]
        all_goals (repeat' (first | exact trivial | exact zAk (by omega) | exact zAg rfl | exact zAq rfl | exact zAl | exact le_refl _ | refine And.intro ?_ ?_))
        all_goals first | exact zAk rfl | skip
        refine zAq ?_
        congr 3
        refine zAY fun j hj => ?_
        rw [hinf j]
      ·have hk1 : k < 0 := by simp at g5; omega
       try simp (maxSteps := 2000000) only [go_sem]
       repeat with_reducible refine zAc ?_
       refine ⟨(i + 1, yC8 ml (q : Int) i), by simp only; omega, ⟨by simp only; omega, fun w => ?_⟩, ?_⟩
       ·simp only
        rw [zKH, hml w, zAQ, ← hu]
        by_cases hw : w = (q : Int)
        ·rw [if_pos hw, if_pos hw.symm]; simp
        ·rw [if_neg hw, if_neg (Ne.symm hw)]
       ·simp (maxSteps := 2000000) only [go_sem, zAe, zAj, zAt, zAf]
        all_goals (repeat' (first | exact trivial | exact zAk (by omega) | exact zAg rfl | exact zAq rfl | exact zAl | exact le_refl _ | refine And.intro ?_ ?_))
        refine zAq ?_
        congr 3
        exact zAY fun j _ => zVx hu hk1 j
     ·have hu0 : u < 0 := by simp at g4; omega
      have hC : C d u = [] := yEr d3 hu0
      try simp (maxSteps := 2000000) only [go_sem]
      repeat with_reducible refine zAc ?_
      refine zAm (fun k : Int => [(10, .pv (iv k)), (163, .ov (.one (.os (some bw) zB0 5 (zEn d.length (inF d i u k))))), (107, .un)]) (fun k : Int => (k + 1).toNat) (fun k : Int => -1 ≤ k ∧ k < i ∧ (0 ≤ k → k ∈ C d u)) (u) ?_ ⟨by omega, by omega, fun h => by omega⟩ ?_
      focus (simp (maxSteps := 2000000) only [go_sem, zAe, zAj, zAt, zAf]; all_goals (repeat' (first | exact trivial | exact zAk (by omega) | exact zAg rfl | exact zAq rfl | exact zAl | exact le_refl _ | refine And.intro ?_ ?_)))
      ·refine zAq ?_
       congr 3
       refine zAY fun j hj => ?_
       rw [zKT d3 (by omega)]
       have hkj : zAJ d j (i + 1) = zAJ d j i := by rw [zAQ, if_neg (by rw [← hu]; omega)]
       rw [hkj]
       by_cases hji : j = i
       ·subst hji
        rw [if_pos rfl, if_pos (by omega), if_pos (by omega), hplc, hahd, hU, hK]
       ·simp only [if_neg hji, stF]
        have e : (j < i + 1) ↔ (j < i) := by omega
        simp only [e]
      rintro k ⟨hk0, hki, hkc⟩
      try simp (maxSteps := 2000000) only [go_sem]
      repeat with_reducible refine zAc ?_
      refine zAb (by rfl) trivial (fun g5 => ?_) (fun g5 => ?_)
      ·have hk1 : 0 ≤ k := by simpa using g5
       obtain ⟨q2, rfl⟩ : ∃ q2 : Nat, k = q2 := ⟨k.toNat, by omega⟩
       have hql2 : q2 < d.length := by omega
       have hqu := zA6 d3 q2 hql2
       have hqv := zA1 d q2 hql2
       rw [ndV] at hqv
       have hgq := fun g => zCG hql2 g
       have hkq := hkc hk1
       have hinq : inF d i u q2 q2 = zII (if q2 < i + 1 then plc d q2 else 0) 0 (if q2 < i + 1 then ahd d q2 else 0) (zAX d q2 i + (if (C d u).contains (q2 : Int) && decide ((q2 : Int) < q2) then 1 else 0)) (zAJ d q2 (i + 1)).length := rfl
       obtain ⟨V, hV⟩ : ∃ V, V = zAX d q2 i + (if (C d u).contains (q2 : Int) && decide ((q2 : Int) < q2) then 1 else 0) := ⟨_, rfl⟩
       have hVb : 0 ≤ V ∧ V ≤ i + 1 := by
        have := zEp (d := d) (n := q2) i
        rw [hV]; split <;> omega
       rw [← hV] at hinq
       have hinf := zN3 d3 (i := i) (by omega : u < d.length) hkq
       rw [← hV] at hinf
       try simp (maxSteps := 2000000) only [go_sem, hgq, hinq, zII, hqv]
       repeat with_reducible refine zAc ?_
       refine ⟨zAZ d q2, by omega, ⟨by omega, by omega, fun h0 => ?_⟩, ?_⟩
       ·rw [hC] at hkq; cases hkq
       ·simp (maxSteps := 2000000) only [go_sem, zAe, zAj, zAt, zAf]
        all_goals (repeat' (first | exact trivial | exact zAk (by omega) | exact zAg rfl | exact zAq rfl | exact zAl | exact le_refl _ | refine And.intro ?_ ?_))
        all_goals first | exact zAk rfl | skip
        refine zAq ?_
        congr 3
        refine zAY fun j hj => ?_
        rw [hinf j]
      ·have hk1 : k < 0 := by simp at g5; omega
       try simp (maxSteps := 2000000) only [go_sem]
       repeat with_reducible refine zAc ?_
       refine ⟨(i + 1, yC8 ml u i), by simp only; omega, ⟨by simp only; omega, fun w => ?_⟩, ?_⟩
       ·simp only
        rw [zKH, hml w, zAQ, ← hu]
        by_cases hw : w = u
        ·rw [if_pos hw, if_pos hw.symm]; simp
        ·rw [if_neg hw, if_neg (Ne.symm hw)]
       ·simp (maxSteps := 2000000) only [go_sem, zAe, zAj, zAt, zAf]
        all_goals (repeat' (first | exact trivial | exact zAk (by omega) | exact zAg rfl | exact zAq rfl | exact zAl | exact le_refl _ | refine And.intro ?_ ?_))
        refine zAq ?_
        congr 3
        exact zAY fun j _ => zVx hu hk1 j
    ·exact absurd g3 (by simp)
   ·simp at g2
 have hi2 : i = d.length := by simp at g1; omega
 subst hi2
 rw [yDe]
 try simp (maxSteps := 2000000) only [go_sem]
 repeat with_reducible refine zAc ?_
 refine zAm (fun i : Nat => [(129, .pv (iv i)), (163, .ov (.one (.os (some bw) zB0 5 (zEn d.length (fiF d i))))), (11, .un), (12, .un), (130, .un), (143, .un), (169, .un), (170, .un), (171, .un), (172, .un), (173, .un)]) (fun i : Nat => d.length - i) (fun i : Nat => i ≤ d.length) (0) ?_ (Nat.zero_le _) ?_
 focus (simp (maxSteps := 2000000) only [go_sem, zAe, zAj, zAt, zAf]; all_goals (repeat' (first | exact trivial | exact zAk (by omega) | exact zAg rfl | exact zAq rfl | exact zAl | exact le_refl _ | refine And.intro ?_ ?_)))
 intro i hi
 try simp (maxSteps := 2000000) only [go_sem]
 repeat with_reducible refine zAc ?_
 refine zAb (by rfl) trivial (fun g6 => ?_) (fun g6 => ?_)
 ·have hil : i < d.length := by simpa using g6
  have hv := zA1 d i hil
  rw [ndV] at hv
  obtain ⟨u, hu⟩ : ∃ u, u = zAZ d i := ⟨_, rfl⟩
  have hup : (d.getD i default).up = u := hu.symm
  rw [hup] at hv
  have hub := zA6 d3 i hil
  rw [← hu] at hub
  have hget := fun g => zCG hil g
  have hst : fiF d i i = zII (plc d i) 0 (ahd d i) (zCz d i) (zD5 d i).length := by simp [fiF]
  try simp (maxSteps := 2000000) only [go_sem, hv, hget, hst, zII]
  repeat with_reducible refine zAc ?_
  refine zAb (by rfl) trivial (fun g7 => ?_) (fun g7 => ?_)
  ·have hu0 : 0 ≤ u := by simpa using g7
   obtain ⟨q, rfl⟩ : ∃ q : Nat, u = q := ⟨u.toNat, by omega⟩
   have hqi : ¬ q = i := by omega
   have hql : q < d.length := by omega
   have hgq := fun g => zCG hql g
   have hstq : fiF d i q = zII (plc d q) (if q < i then ofN d q else 0) (ahd d q) (zCz d q) (zD5 d q).length := rfl
   try simp (maxSteps := 2000000) only [go_sem, hgq, hqi, hstq, hget, hst, zII]
   repeat with_reducible refine zAc ?_
   refine ⟨i + 1, by omega, by omega, ?_⟩
   simp (maxSteps := 2000000) only [go_sem, zAe, zAj, zAt, zAf]
   all_goals (repeat' (first | exact trivial | exact zAk (by omega) | exact zAg rfl | exact zAq rfl | exact zAl | exact le_refl _ | refine And.intro ?_ ?_))
   refine zAq ?_
   congr 3
   refine zAY fun j hj => ?_
   by_cases hji : j = i
   ·subst hji
    simp [fiF, ofN, ← hu]
   ·have e : (j < i + 1) ↔ (j < i) := by omega
    simp [fiF, hji, e]
  ·have hu0 : ¬ 0 ≤ u := by simpa using g7
   try simp (maxSteps := 2000000) only [go_sem]
   repeat with_reducible refine zAc ?_
   refine ⟨i + 1, by omega, by omega, ?_⟩
   simp (maxSteps := 2000000) only [go_sem, zAe, zAj, zAt, zAf]
   all_goals (repeat' (first | exact trivial | exact zAk (by omega) | exact zAg rfl | exact zAq rfl | exact zAl | exact le_refl _ | refine And.intro ?_ ?_))
   refine zAq ?_
   congr 3
   refine zAY fun j hj => ?_
   by_cases hji : j = i
   ·subst hji
    have hu1 : ¬ 0 ≤ zAZ d j := by rw [← hu]; exact hu0
    simp [fiF, ofN, hu1]
   ·have e : (j < i + 1) ↔ (j < i) := by omega
    simp [fiF, hji, e]
 ·have hi2 : i = d.length := by simp at g6; omega
  subst hi2
  have hfz := fun b e => yEs d b e
  try simp (maxSteps := 2000000) only [go_sem, hfz]
  repeat with_reducible refine zAc ?_
  exact zAd rfl trivial (.inl rfl)
end Go.Hx
end
