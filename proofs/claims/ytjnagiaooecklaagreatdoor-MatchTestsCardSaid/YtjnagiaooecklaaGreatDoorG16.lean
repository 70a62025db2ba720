/-
  Walks of functions of the program over an abstract layer, and the laws that they use: each contract says what the function computes, for every input that its conditions let by. No other condition.
-/
import Derived.Test.YtjnagiaooecklaaGreatDoorG8
import Derived.Test.YtjnagiaooecklaaGreatDoorG10
import Derived.Test.YtjnagiaooecklaaGreatDoorG14
import Derived.Test.YtjnagiaooecklaaGreatDoorG15
import Derived.Shelf.Strings.SlTrimAscii
import Derived.Test.YtjnagiaooecklaaGreatDoorG13
import Derived.Test.YtjnagiaooecklaaGreatDoorG12
import Derived.Test.YtjnagiaooecklaaGreatDoorG11
import Derived.Test.YtjnagiaooecklaaGreatDoorG9
set_option linter.all false
section
set_option maxRecDepth 100000
set_option linter.unusedSimpArgs false
namespace Go.Hx
open Go.Proofs Go.RowKit
variable [Glob]
attribute [local go_sem] zAz zAA zAy zAt ndV zAw
attribute [local go_sem] reduceCtorEq Nat.reduceAdd Nat.reduceEqDiff reduceIte Nat.reduceLeDiff Nat.reduceLT Nat.reduceSub
theorem zVw {R : Nat → Prop} {w w' : World} (h : Below w.heap.size w w') : Pres R w w' := ⟨h.os, h.tape, h.output, h.size, fun b hb _ => h.block b hb⟩
theorem zZ7 {m : Mem} {w w' : World} (hm : MemOk m w) (h : Below w.heap.size w w') : MemOk m w' := fun b o u hu => by
 have h1 := hm b o u hu
 have h2 : b < w.heap.size := World.block_lt_of_cell? w _ h1
 rw [← h1]
 exact World.cell?_of_block (h.block b h2)
theorem zVx {R : Nat → Prop} {w w' : World} (h : Pres R w w') (hR : ∀ b, ¬ R b) : Below w.heap.size w w' := ⟨h.os, h.tape, h.output, h.size, fun b hb => h.block b hb (hR b)⟩
theorem yBm {m : Mem} {w w' : World} {avs : List AV} {us : List Value} {e : Ending} {x : PVal} {u : Value} (hm : MemOk m w) (h : Below w.heap.size w w') (he : e = .returned u) (hx : RpV m x u) (hio : ioB avs us = none) : yFr m w avs us { res := .val x } e w' :=
 ⟨m, m.le_refl, zZ7 hm h, zVw h, fun _ _ _ h => .inl h, (fun b hb => by rw [hio] at hb; cases hb), u, he, hx⟩
theorem yCt {w w' : World} (h : Below w.heap.size w w') (hG : Glob.ok w) : Glob.ok w' :=
 Glob.keep _ _ (fun b hb => h.block b (Nat.lt_of_lt_of_le hb (Glob.size _ hG))) hG
theorem yDT (s cs : Bys) : (Lib.trimS s cs).length ≤ s.length := by
 unfold Lib.trimS Lib.trimLeftS Lib.trimRightS
 refine Nat.le_trans (List.dropWhile_sublist _).length_le ?_
 rw [List.length_reverse]
 refine Nat.le_trans (List.dropWhile_sublist _).length_le ?_
 rw [List.length_reverse]
 exact Nat.le_refl _
theorem yDU {s : Bys} (h : s.length ≤ maxLen) : zFt (mkS s) = true := by
 simp only [zFt]
 exact decide_eq_true (by simpa [ByteArray.size] using h)
theorem yFe {s : Bys} (h : zFt (mkS s) = true) : s.length ≤ maxLen := by
 simp only [zFt, decide_eq_true_eq] at h
 simpa [ByteArray.size] using h
theorem zSD (s cs : Bys) (hc : cs.length < 1000) (ha : cs.all (fun b => decide (b.toNat < 128)) = true) : Contract Tryz.prog zFc [.val (sv s), .val (sv cs)] { res := .val (sv (Lib.trimS s cs)) } := by
 refine ⟨by kernel_rfl, fun m w us hm hargs _ hG _ => ?_⟩
 obtain ⟨u1, us1, rfl, h1, u2, us2, rfl, h2, rfl⟩ := hargs
 obtain ⟨rfl, f1⟩ := h1
 obtain ⟨rfl, f2⟩ := h2
 have hs := yFe f1
 have hT := Any.strings_Trim_laid Tryz.l160 (by kernel_rfl) ⟨s.toArray⟩ ⟨cs.toArray⟩ w (by simpa [ByteArray.size, maxLen] using hs) (by simp [ByteArray.size]; omega) (ascii_of_all (by simpa using ha))
 change Calls Tryz.prog zFc _ _ _ at hT
 refine hT.mono fun e w' ⟨he, hb⟩ => yBm hm hb he ⟨by simp, ?_⟩ rfl
 exact yDU (Nat.le_trans (yDT s cs) hs)
theorem zDW (s : Bys) (g : Nat) (p : Nat → Bool) (hp : ∀ r, 128 ≤ r → p r = true) (eg : ∀ args w, (callFunc g args).run Tryz.prog w = .ok (.enter g args) w)
  (hg : ∀ r : Nat, Contract Tryz.prog g [.val (.one (.v (.int .i32 r)))] { res := .val (bv (p r)) }) :
  Contract Tryz.prog zBA [.val (sv s), .val (.one (.clo g []))] { res := .val (bv (!s.all (fun b => decide (b.toNat < 128) && !p b.toNat))) } := by
 refine ⟨by kernel_rfl, fun m w us hm hargs _ hG _ => ?_⟩
 obtain ⟨u1, us1, rfl, h1, u2, us2, rfl, h2, rfl⟩ := hargs
 obtain ⟨rfl, f1⟩ := h1
 obtain ⟨us, rfl, hus⟩ := h2
 obtain rfl : us = [] := by simpa [RpL] using hus
 have hpg : PredGrows Tryz.prog g #[] p w := fun W x _ hbW => by
  refine ((hg x).2 (fun _ _ => none) W [.int .i32 x] (fun _ _ _ h => by cases h) ⟨_, _, rfl, ⟨rfl, rfl⟩, rfl⟩ (by intro g h; cases h) (yCt hbW hG) (by rintro b (h | h) <;> cases h)).mono fun e W' ⟨m', _, _, hpr, _, _, u, hu, hr⟩ => ?_
  obtain rfl : u = .bool (p x) := hr.1
  exact ⟨hu, zVx hpr (by intro b h; rcases h with h | h <;> cases h)⟩
 have hT := Any.strings_ContainsFunc_grows Tryz.l17 g #[] eg p ⟨s.toArray⟩ w hpg
 change Calls Tryz.prog zBA _ _ _ at hT
 rw [yG5 hp] at hT
 exact hT.mono fun e w' ⟨he, hb⟩ => yBm hm hb he ⟨rfl, rfl⟩ rfl
def yCu (r : Nat) : Bool := ((decide (r < 97) || decide (122 < r)) && (decide (r < 48) || decide (57 < r))) && decide (r ≠ 45)
def zTb (r : Nat) : Bool := decide (r < 32) || decide (126 < r) || decide (r = 34)
theorem zXZ (r : Nat) : Contract Tryz.prog zCJ [.val (.one (.v (.int .i32 r)))] { res := .val (bv (yCu r)) } := by
 refine zUy (base := 0) ⟨Nat.le_of_ble_eq_true rfl, Nat.le_of_ble_eq_true rfl, Nat.le_of_ble_eq_true rfl, rfl⟩ (fun hfit => ?_)
 unfold F0 zFI
 simp (maxSteps := 2000000) only [zAE, List.set_cons_succ, List.set_cons_zero, List.map_cons, List.map_nil, zAD, zAb, ioOf, List.length_cons, List.length_nil, Nat.reduceAdd, Nat.reduceSub, List.replicate, List.cons_append, List.nil_append]
 try simp (maxSteps := 2000000) only [go_sem]
 repeat with_reducible refine zAd ?_
 refine zAe rfl trivial (.inl ?_)
 congr 3
 unfold yCu
 grind
theorem zVy (r : Nat) : Contract Tryz.prog zCp [.val (.one (.v (.int .i32 r)))] { res := .val (bv (zTb r)) } := by
 refine zRb (base := 0) ⟨Nat.le_of_ble_eq_true rfl, Nat.le_of_ble_eq_true rfl, Nat.le_of_ble_eq_true rfl, rfl⟩ (fun hfit => ?_)
 unfold F0 zEJ
 simp (maxSteps := 2000000) only [zAE, List.set_cons_succ, List.set_cons_zero, List.map_cons, List.map_nil, zAD, zAb, ioOf, List.length_cons, List.length_nil, Nat.reduceAdd, Nat.reduceSub, List.replicate, List.cons_append, List.nil_append]
 try simp (maxSteps := 2000000) only [go_sem]
 repeat with_reducible refine zAd ?_
 refine zAe rfl trivial (.inl ?_)
 congr 3
 unfold zTb
 grind
theorem yG6 : ∀ args w, (callFunc zCJ args).run Tryz.prog w = .ok (.enter zCJ args) w := enters_of Tryz.func147 (by kernel_rfl) rfl
theorem yG7 : ∀ args w, (callFunc zCp args).run Tryz.prog w = .ok (.enter zCp args) w := enters_of Tryz.func149 (by kernel_rfl) rfl
theorem zMG {α : Type} {l : List α} {p q : α → Bool} (h : ∀ x, p x = q x) : l.all p = l.all q := by rw [show p = q from funext h]
theorem yIR (b : UInt8) : (decide (b.toNat < 128) && !zTb b.toNat) = yBO b := by
 unfold zTb yBO
 grind
theorem yG8 (b : UInt8) : (decide (b.toNat < 128) && !yCu b.toNat) = zNe b := by
 unfold yCu zNe
 grind
theorem yIS (b : UInt8) : ([97, 98, 99, 100, 101, 102, 103, 104, 105, 106, 107, 108, 109, 110, 111, 112, 113, 114, 115, 116, 117, 118, 119, 120, 121, 122, 48, 49, 50, 51, 52, 53, 54, 55, 56, 57, 45] : Bys).contains b = zNe b := by
 have h : ∀ n : Fin 256, ([97, 98, 99, 100, 101, 102, 103, 104, 105, 106, 107, 108, 109, 110, 111, 112, 113, 114, 115, 116, 117, 118, 119, 120, 121, 122, 48, 49, 50, 51, 52, 53, 54, 55, 56, 57, 45] : Bys).contains (UInt8.ofFin n) = zNe (UInt8.ofFin n) := by decide +kernel
 exact h b.toFin
theorem zQu (s : Bys) : Contract Tryz.prog zFE [.val (sv s)] { res := .val (bv (zCB s)) } := by
 refine zXm (base := 0) ⟨Nat.le_of_ble_eq_true rfl, Nat.le_of_ble_eq_true rfl, Nat.le_of_ble_eq_true rfl, rfl⟩ (fun hfit => ?_)
 unfold F0 zGY
 simp (maxSteps := 2000000) only [zAE, List.set_cons_succ, List.set_cons_zero, List.map_cons, List.map_nil, zAD, zAb, ioOf, List.length_cons, List.length_nil, Nat.reduceAdd, Nat.reduceSub, List.replicate, List.cons_append, List.nil_append]
 try simp (maxSteps := 2000000) only [go_sem]
 repeat with_reducible refine zAd ?_
 apply zAq (h2 := fun _ => zDW s zCp zTb (by intro r h; unfold zTb; grind) yG7 zVy)
 ·(simp (maxSteps := 2000000) only [go_sem]; rfl)
 ·intro h; repeat' (first | exact trivial | exact h | refine And.intro ?_ ?_)
 try simp (maxSteps := 2000000) only [go_sem]
 repeat with_reducible refine zAd ?_
 refine zAe rfl trivial (.inl ?_)
 congr 3
 rw [zMG yIR, zCB]
 grind
theorem zEY (s : Bys) : Contract Tryz.prog zCE [.val (sv s)] { res := .val (bv (zBP s)) } := by
 refine zZw (base := 0) ⟨Nat.le_of_ble_eq_true rfl, Nat.le_of_ble_eq_true rfl, Nat.le_of_ble_eq_true rfl, rfl⟩ (fun hfit => ?_)
 unfold F0 zID
 simp (maxSteps := 2000000) only [zAE, List.set_cons_succ, List.set_cons_zero, List.map_cons, List.map_nil, zAD, zAb, ioOf, List.length_cons, List.length_nil, Nat.reduceAdd, Nat.reduceSub, List.replicate, List.cons_append, List.nil_append]
 try simp (maxSteps := 2000000) only [go_sem]
 repeat with_reducible refine zAd ?_
 apply zAq (h2 := fun _ => zSD s _ (by decide) (by decide))
 ·(simp (maxSteps := 2000000) only [go_sem]; rfl)
 ·intro h; repeat' (first | exact trivial | exact h | refine And.intro ?_ ?_)
 try simp (maxSteps := 2000000) only [go_sem]
 repeat with_reducible refine zAd ?_
 apply zAq (h2 := fun _ => zDW s zCJ yCu (by intro r h; unfold yCu; grind) yG6 zXZ)
 ·(simp (maxSteps := 2000000) only [go_sem]; rfl)
 ·intro h; repeat' (first | exact trivial | exact h | refine And.intro ?_ ?_)
 try simp (maxSteps := 2000000) only [go_sem]
 repeat with_reducible refine zAd ?_
 refine zAe rfl trivial (.inl ?_)
 congr 3
 rw [zMG yG8, yFd, zMG yIS, zBP]
 grind
end Go.Hx
end

section
set_option maxRecDepth 100000
set_option linter.unusedSimpArgs false
namespace Go.Hx
open Go.Proofs
variable [Glob]
attribute [local go_sem] zAz zAA zAy zAt ndV zAw zAp fdV shV zAU zBl zBz zBy
attribute [local go_sem] reduceCtorEq Nat.reduceAdd Nat.reduceEqDiff reduceIte Nat.reduceLeDiff Nat.reduceLT Nat.reduceSub
theorem yDV (N : Nat) (ih : yJ9 Tryz.prog N) (s : St) (d K : Nat) (c : Fd) (hN : SizeOf.sizeOf s ≤ N + 1) (hd : d ≤ 3) (hc : c.le K) (hK : K + bdS d ≤ 1000000000) : Contract Tryz.prog zCK [.io (fdV c), .val (.agg (stV s)), .val (iv d)] { res := .tup [], io := fdV (c.add (ntS s d)) } := by
 rw [zHd]
 unfold fdV
 refine zMs (base := 121) ⟨Nat.le_of_ble_eq_true rfl, Nat.le_of_ble_eq_true rfl, Nat.le_of_ble_eq_true rfl, ⟨rfl, rfl⟩⟩ (fun hfit => ?_)
 unfold F0 zC5
 simp (maxSteps := 2000000) only [zAE, List.set_cons_succ, List.set_cons_zero, List.map_cons, List.map_nil, zAD, zAb, ioOf, List.length_cons, List.length_nil, Nat.reduceAdd, Nat.reduceSub, List.replicate, List.cons_append, List.nil_append]
 try simp (maxSteps := 2000000) only [go_sem]
 repeat with_reducible refine zAd ?_
 have hbs : bdS d = 1 + 6 * bdT d := rfl
 have hbt : bdT d = 5 + bd (d + 1) := rfl
 refine zAc (by rfl) trivial (fun h => ?_) (fun h => ?_)
 ·have e : ntS s d = fM true := by rw [yFO, if_pos (by simp at h; omega)]
  have hm := hc.m
  try simp (maxSteps := 2000000) only [go_sem]
  repeat with_reducible refine zAd ?_
  refine zDY (by repeat' constructor) (zVv c true (by omega)) ?_
  try simp (maxSteps := 2000000) only [go_sem]
  repeat with_reducible refine zAd ?_
  rw [e]
  exact zTT rfl rfl
 ·have hl6 : s.tests.length ≤ 6 := by simp at h; omega
  have e : ntS s d = (fF (!(s.tag == []) && !zBP s.tag)).add (yBj s.tests d) := by rw [yFO, if_neg (by omega)]
  rw [e]
  try simp (maxSteps := 2000000) only [go_sem]
  repeat with_reducible refine zAd ?_
  have hf := hc.f
  apply zAq (h2 := fun _ => zEY s.tag)
  ·(simp (maxSteps := 2000000) only [go_sem]; rfl)
  ·intro h; repeat' (first | exact trivial | exact h | refine And.intro ?_ ?_)
  try simp (maxSteps := 2000000) only [go_sem]
  repeat with_reducible refine zAd ?_
  refine zDY (by repeat' constructor) (zOr c (bif !(s.tag == []) then !zBP s.tag else false) (by omega)) ?_
  try simp (maxSteps := 2000000) only [go_sem, Bool.cond_false_right]
  repeat with_reducible refine zAd ?_
  obtain ⟨c1, hc1⟩ : ∃ c1, c1 = c.add (fF (!(s.tag == []) && !zBP s.tag)) := ⟨_, rfl⟩
  have hc2 : c1.le (K + 1) := by rw [hc1]; exact hc.le_add (zWD _)
  rw [← Fd.add_assoc, ← hc1]
  have hK0 : K + 1 + (s.tests.length - 0) * bdT d ≤ 1000000000 := by
   have : (s.tests.length - 0) * bdT d ≤ 6 * bdT d := Nat.mul_le_mul_right _ (by omega)
   omega
  refine zAn (fun x : Nat × Fd => [(7, .un), (8, .un), (9, .un), (30, .pv (iv x.1)), (31, .un), (113, .un), (122, .pv (.one (bI x.2.f))), (123, .pv (.one (bI x.2.m))), (124, .pv (.one (bI x.2.r))), (125, .pv (.one (bI x.2.k)))]) (fun x : Nat × Fd => s.tests.length - x.1) (fun x : Nat × Fd => x.1 ≤ s.tests.length ∧ (∃ K', x.2.le K' ∧ K' + (s.tests.length - x.1) * bdT d ≤ 1000000000) ∧ x.2.add (yBj (s.tests.drop x.1) d) = c1.add (yBj s.tests d)) ((0, c1)) ?_ ⟨Nat.zero_le _, ⟨K + 1, hc2, hK0⟩, by simp⟩ ?_
  focus (simp (maxSteps := 2000000) only [go_sem, zAf, zAk, zAu, zAg]; all_goals (repeat' (first | exact trivial | exact zAl (by omega) | exact zAh rfl | exact zAs rfl | exact zAm | exact le_refl _ | refine And.intro ?_ ?_)))
  rintro ⟨i, a⟩ ⟨hi, ⟨K', ha, hK'⟩, hsum⟩
  simp only at hi ha hK' hsum
  try simp (maxSteps := 2000000) only [go_sem]
  repeat with_reducible refine zAd ?_
  refine zAc (by rfl) trivial (fun h2 => ?_) (fun h2 => ?_)
  ·have hil : i < s.tests.length := by simp at h2; omega
   rw [zBV (d := default) hil] at hsum
   obtain ⟨t, ht⟩ : ∃ t, t = s.tests.getD i default := ⟨_, rfl⟩
   rw [← ht] at hsum
   have hg := zD4 s.tests i hil
   rw [← ht, zDw] at hg
   have hsz : SizeOf.sizeOf t.list ≤ N := by
    have h3 := zO2 t
    have h4 := yDo hil
    rw [← ht] at h4
    have h5 := zKB s
    omega
   have hmul : (s.tests.length - i) * bdT d = bdT d + (s.tests.length - (i + 1)) * bdT d := by
    have : s.tests.length - i = (s.tests.length - (i + 1)) + 1 := by omega
    rw [this, Nat.add_mul]; omega
   have hbp := zTV (4 - (d + 1))
   have hbe : bd (d + 1) = bdF (4 - (d + 1)) := rfl
   simp only [yBj, yIK, yEv] at hsum
   try simp (maxSteps := 2000000) only [go_sem, hg]
   repeat with_reducible refine zAd ?_
   refine zB2 (by repeat' constructor) (yDQ t.kind) ?_
   try simp (maxSteps := 2000000) only [go_sem, hg]
   repeat with_reducible refine zAd ?_
   have a1 := ha.k
   refine zDY (by repeat' constructor) (yBk a (!kOk t.kind) (by omega)) ?_
   try simp (maxSteps := 2000000) only [go_sem]
   repeat with_reducible refine zAd ?_
   obtain ⟨b1, hb1⟩ : ∃ b1, b1 = a.add (fK (!kOk t.kind)) := ⟨_, rfl⟩
   have l1 : b1.le (K' + 1) := by rw [hb1]; exact ha.le_add (yGZ _)
   rw [← hb1]
   have a2 := l1.f
   apply zAq (h2 := fun _ => zEY t.name)
   ·(simp (maxSteps := 2000000) only [go_sem]; rfl)
   ·intro h; repeat' (first | exact trivial | exact h | refine And.intro ?_ ?_)
   try simp (maxSteps := 2000000) only [go_sem]
   repeat with_reducible refine zAd ?_
   refine zDY (by repeat' constructor) (zOr b1 _ (by omega)) ?_
   try simp (maxSteps := 2000000) only [go_sem, Bool.cond_false_right, Bool.cond_true_left]
   repeat with_reducible refine zAd ?_
   obtain ⟨b2, hb2⟩ : ∃ b2, b2 = b1.add (fF (yE3 t)) := ⟨_, rfl⟩
   have l2 : b2.le (K' + 1 + 1) := by rw [hb2]; exact l1.le_add (zWD _)
   unfold yE3 at hb2
   rw [← hb2]
   have a3 := l2.f
   apply zAq (h2 := fun _ => zQu t.value)
   ·(simp (maxSteps := 2000000) only [go_sem]; rfl)
   ·intro h; repeat' (first | exact trivial | exact h | refine And.intro ?_ ?_)
   try simp (maxSteps := 2000000) only [go_sem]
   repeat with_reducible refine zAd ?_
   refine zDY (by repeat' constructor) (zOr b2 _ (by omega)) ?_
   try simp (maxSteps := 2000000) only [go_sem, Bool.cond_false_right, Bool.cond_true_left]
   repeat with_reducible refine zAd ?_
   obtain ⟨b3, hb3⟩ : ∃ b3, b3 = b2.add (fF (yE4 t)) := ⟨_, rfl⟩
   have l3 : b3.le (K' + 1 + 1 + 1) := by rw [hb3]; exact l2.le_add (zWD _)
   unfold yE4 at hb3
   rw [← hb3]
   have a4 := l3.f
   have e3 : decide (0 < (t.list.length : Int)) = decide (0 < t.list.length) := decide_eq_decide.2 (by omega)
   refine zDY (by repeat' constructor) (zOr b3 _ (by omega)) ?_
   try simp (maxSteps := 2000000) only [go_sem, Bool.cond_false_right, Bool.cond_true_left, e3]
   repeat with_reducible refine zAd ?_
   obtain ⟨b4, hb4⟩ : ∃ b4, b4 = b3.add (fF (yEq t)) := ⟨_, rfl⟩
   have l4 : b4.le (K' + 1 + 1 + 1 + 1) := by rw [hb4]; exact l3.le_add (zWD _)
   unfold yEq at hb4
   rw [← hb4]
   have a5 := l4.r
   refine zAi (by repeat' constructor) (zQq t.na t.nb) ?_
   try simp (maxSteps := 2000000) only [go_sem]
   repeat with_reducible refine zAd ?_
   refine zDY (by repeat' constructor) (yFb b4 _ (by omega)) ?_
   try simp (maxSteps := 2000000) only [go_sem]
   repeat with_reducible refine zAd ?_
   obtain ⟨b5, hb5⟩ : ∃ b5, b5 = b4.add (fR (zNm t.na t.nb != 0)) := ⟨_, rfl⟩
   have l5 : b5.le (K' + 1 + 1 + 1 + 1 + 1) := by rw [hb5]; exact l4.le_add (yIO _)
   rw [← hb5]
   have hT : b5 = a.add (yEv t) := by
    rw [hb5, hb4, hb3, hb2, hb1]
    simp only [yEv, kOk, yE3, yE4, yEq, Fd.add_assoc]
    congr 6
   refine zAc (by rfl) trivial (fun h3 => ?_) (fun h3 => ?_)
   ·rw [if_pos h3, ← Fd.add_assoc, ← Fd.add_assoc] at hsum
    have hst := ih.1 t.list (d + 1) (K' + 5) b5 hsz (by omega) l5 (by omega)
    unfold fdV zAU at hst
    rw [show ((d + 1 : Nat) : Int) = (d : Int) + 1 by omega] at hst
    try simp (maxSteps := 2000000) only [go_sem]
    repeat with_reducible refine zAd ?_
    refine zDY (by repeat' constructor) (hst) ?_
    try simp (maxSteps := 2000000) only [go_sem]
    repeat with_reducible refine zAd ?_
    refine ⟨(i + 1, b5.add (ntL t.list (d + 1))), by simp only; omega, ⟨by simp only; omega, ⟨K' + 5 + bd (d + 1), l5.le_add (b_L _ _), by simp only; omega⟩, ?_⟩, ?_⟩
    ·simp only
     rw [← hsum, hT]
     rfl
    ·simp (maxSteps := 2000000) only [go_sem, zAf, zAk, zAu, zAg]
     all_goals (repeat' (first | exact trivial | exact zAl (by omega) | exact zAh rfl | exact zAs rfl | exact zAm | exact le_refl _ | refine And.intro ?_ ?_))
   ·rw [if_neg (by rw [h3]; simp)] at hsum
    try simp (maxSteps := 2000000) only [go_sem]
    repeat with_reducible refine zAd ?_
    refine ⟨(i + 1, b5), by simp only; omega, ⟨by simp only; omega, ⟨K' + 5, l5, by simp only; omega⟩, ?_⟩, ?_⟩
    ·simp only
     rw [← hsum, hT]
     simp only [yEv, Fd.add_assoc, Fd.zero_add]
    ·simp (maxSteps := 2000000) only [go_sem, zAf, zAk, zAu, zAg]
     all_goals (repeat' (first | exact trivial | exact zAl (by omega) | exact zAh rfl | exact zAs rfl | exact zAm | exact le_refl _ | refine And.intro ?_ ?_))
  ·have hil : i = s.tests.length := by simp at h2; omega
   subst hil
   rw [List.drop_length] at hsum
   try simp (maxSteps := 2000000) only [go_sem]
   repeat with_reducible refine zAd ?_
   rw [← hsum]
   exact zCs rfl rfl
theorem zHS (l : List Pt) : 0 < SizeOf.sizeOf l := by cases l <;> simp <;> omega
theorem yDW (s : St) : 0 < SizeOf.sizeOf s := by cases s; simp only [St.mk.sizeOf_spec]; omega
theorem zVz : ∀ N, yJ9 Tryz.prog N
 | 0 => ⟨fun l d K c h => by have := zHS l; omega, fun s d K c h => by have := yDW s; omega⟩
 | N + 1 => ⟨fun l d K c h1 h2 h3 h4 => yDR N (zVz N) l d K c h1 h2 h3 h4, fun s d K c h1 h2 h3 h4 => yDV N (zVz N) s d K c h1 h2 h3 h4⟩
theorem zNW (l : List Pt) : Contract Tryz.prog zBE [.io (fdV fd0), .val (zAU l), .val (iv 1)] { res := .tup [], io := fdV (ntL l 1) } := by
 have h := (zVz (SizeOf.sizeOf l)).1 l 1 0 fd0 (Nat.le_refl _) (by omega) (zWE 0) (by have := yIN; omega)
 rw [Fd.zero_add] at h
 exact h
theorem zX0 (l : List Pt) : Contract Tryz.prog zG1 [.val (zAU l)] { res := .val (iv (zCm l)) } := by
 rw [← yIM]
 have hc := zNW l
 obtain ⟨c, hcc⟩ : ∃ c, c = ntL l 1 := ⟨_, rfl⟩
 rw [← hcc] at hc ⊢
 unfold zAU
 refine zUN (base := 0) ⟨Nat.le_of_ble_eq_true rfl, Nat.le_of_ble_eq_true rfl, Nat.le_of_ble_eq_true rfl, rfl⟩ (fun hfit => ?_)
 unfold F0 zFM
 simp (maxSteps := 2000000) only [zAE, List.set_cons_succ, List.set_cons_zero, List.map_cons, List.map_nil, zAD, zAb, ioOf, List.length_cons, List.length_nil, Nat.reduceAdd, Nat.reduceSub, List.replicate, List.cons_append, List.nil_append]
 try simp (maxSteps := 2000000) only [go_sem]
 repeat with_reducible refine zAd ?_
 unfold fdV zAU at hc
 refine zDY (by repeat' constructor) (hc) ?_
 try simp (maxSteps := 2000000) only [go_sem]
 repeat with_reducible refine zAd ?_
 refine zAi (by repeat' constructor) (zXY) ?_
 try simp (maxSteps := 2000000) only [go_sem]
 repeat with_reducible refine zAd ?_
 refine zAn (fun i : Nat => [(5, .un), (12, .pv (iv i)), (13, .un), (21, .un)]) (fun i : Nat => 4 - i) (fun i : Nat => i ≤ 4 ∧ (1 ≤ i → c.m = 0) ∧ (2 ≤ i → c.k = 0) ∧ (3 ≤ i → c.f = 0) ∧ (4 ≤ i → c.r = 0)) (0) ?_ ⟨by omega, by omega, by omega, by omega, by omega⟩ ?_
 focus (simp (maxSteps := 2000000) only [go_sem, zAf, zAk, zAu, zAg]; all_goals (repeat' (first | exact trivial | exact zAl (by omega) | exact zAh rfl | exact zAs rfl | exact zAm | exact le_refl _ | refine And.intro ?_ ?_)))
 rintro i ⟨hi, h1, h2, h3, h4⟩
 try simp (maxSteps := 2000000) only [go_sem]
 repeat with_reducible refine zAd ?_
 refine zAc (by rfl) trivial (fun h => ?_) (fun h => ?_)
 ·have hlt : i < 4 := by simp at h; omega
  have hcase : i = 0 ∨ i = 1 ∨ i = 2 ∨ i = 3 := by omega
  rcases hcase with rfl | rfl | rfl | rfl
  ·try simp (maxSteps := 2000000) only [go_sem, Int.reduceToNat, Int.toNat_natCast, List.getD_cons_zero, List.getD_cons_succ, PV.norm, Int.cast_ofNat_Int]
   repeat with_reducible refine zAd ?_
   refine zAc (by rfl) trivial (fun h5 => ?_) (fun h5 => ?_)
   ·try simp (maxSteps := 2000000) only [go_sem]
    repeat with_reducible refine zAd ?_
    refine zAe rfl trivial (.inl ?_)
    congr 3
    have h6 : 0 < c.m := by simp at h5; omega
    unfold yGX
    simp [ h6]
   ·try simp (maxSteps := 2000000) only [go_sem]
    repeat with_reducible refine zAd ?_
    have h6 : c.m = 0 := by simp at h5; omega
    refine ⟨1, by omega, ⟨by omega, fun _ => h6, by omega, by omega, by omega⟩, ?_⟩
    simp (maxSteps := 2000000) only [go_sem, zAf, zAk, zAu, zAg]
    all_goals (repeat' (first | exact trivial | exact zAl (by omega) | exact zAh rfl | exact zAs rfl | exact zAm | exact le_refl _ | refine And.intro ?_ ?_))
  ·try simp (maxSteps := 2000000) only [go_sem, Int.reduceToNat, Int.toNat_natCast, List.getD_cons_zero, List.getD_cons_succ, PV.norm, Int.cast_ofNat_Int]
   repeat with_reducible refine zAd ?_
   refine zAc (by rfl) trivial (fun h5 => ?_) (fun h5 => ?_)
   ·try simp (maxSteps := 2000000) only [go_sem]
    repeat with_reducible refine zAd ?_
    refine zAe rfl trivial (.inl ?_)
    congr 3
    have h6 : 0 < c.k := by simp at h5; omega
    unfold yGX
    simp [h1 (by omega),  h6]
   ·try simp (maxSteps := 2000000) only [go_sem]
    repeat with_reducible refine zAd ?_
    have h6 : c.k = 0 := by simp at h5; omega
    refine ⟨2, by omega, ⟨by omega, fun _ => h1 (by omega), fun _ => h6, by omega, by omega⟩, ?_⟩
    simp (maxSteps := 2000000) only [go_sem, zAf, zAk, zAu, zAg]
    all_goals (repeat' (first | exact trivial | exact zAl (by omega) | exact zAh rfl | exact zAs rfl | exact zAm | exact le_refl _ | refine And.intro ?_ ?_))
  ·try simp (maxSteps := 2000000) only [go_sem, Int.reduceToNat, Int.toNat_natCast, List.getD_cons_zero, List.getD_cons_succ, PV.norm, Int.cast_ofNat_Int]
   repeat with_reducible refine zAd ?_
   refine zAc (by rfl) trivial (fun h5 => ?_) (fun h5 => ?_)
   ·try simp (maxSteps := 2000000) only [go_sem]
    repeat with_reducible refine zAd ?_
    refine zAe rfl trivial (.inl ?_)
    congr 3
    have h6 : 0 < c.f := by simp at h5; omega
    unfold yGX
    simp [h1 (by omega), h2 (by omega),  h6]
   ·try simp (maxSteps := 2000000) only [go_sem]
    repeat with_reducible refine zAd ?_
    have h6 : c.f = 0 := by simp at h5; omega
    refine ⟨3, by omega, ⟨by omega, fun _ => h1 (by omega), fun _ => h2 (by omega), fun _ => h6, by omega⟩, ?_⟩
    simp (maxSteps := 2000000) only [go_sem, zAf, zAk, zAu, zAg]
    all_goals (repeat' (first | exact trivial | exact zAl (by omega) | exact zAh rfl | exact zAs rfl | exact zAm | exact le_refl _ | refine And.intro ?_ ?_))
  ·try simp (maxSteps := 2000000) only [go_sem, Int.reduceToNat, Int.toNat_natCast, List.getD_cons_zero, List.getD_cons_succ, PV.norm, Int.cast_ofNat_Int]
   repeat with_reducible refine zAd ?_
   refine zAc (by rfl) trivial (fun h5 => ?_) (fun h5 => ?_)
   ·try simp (maxSteps := 2000000) only [go_sem]
    repeat with_reducible refine zAd ?_
    refine zAe rfl trivial (.inl ?_)
    congr 3
    have h6 : 0 < c.r := by simp at h5; omega
    unfold yGX
    simp [h1 (by omega), h2 (by omega), h3 (by omega),  h6]
   ·try simp (maxSteps := 2000000) only [go_sem]
    repeat with_reducible refine zAd ?_
    have h6 : c.r = 0 := by simp at h5; omega
    refine ⟨4, by omega, ⟨by omega, fun _ => h1 (by omega), fun _ => h2 (by omega), fun _ => h3 (by omega), fun _ => h6⟩, ?_⟩
    simp (maxSteps := 2000000) only [go_sem, zAf, zAk, zAu, zAg]
    all_goals (repeat' (first | exact trivial | exact zAl (by omega) | exact zAh rfl | exact zAs rfl | exact zAm | exact le_refl _ | refine And.intro ?_ ?_))
 ·have hi4 : i = 4 := by simp at h; omega
  try simp (maxSteps := 2000000) only [go_sem]
  repeat with_reducible refine zAd ?_
  refine zAe rfl trivial (.inl ?_)
  congr 3
  unfold yGX
  simp [h1 (by omega), h2 (by omega), h3 (by omega), h4 (by omega)]
end Go.Hx
end

section
set_option maxRecDepth 100000
set_option linter.unusedSimpArgs false
namespace Go.Hx
open Go.Proofs
variable [Glob]
attribute [local go_sem] zAz zAA zAy zAt ndV zAw zAp zAU zBl zBz zBy
attribute [local go_sem] reduceCtorEq Nat.reduceAdd Nat.reduceEqDiff reduceIte Nat.reduceLeDiff Nat.reduceLT Nat.reduceSub
theorem zQv (k : Int) : Contract Tryz.prog zGl [.val (iv k)] { res := .tup [bv (zWB k), bv (zNf k), bv (yFN k), bv (zHf k)] } := by
 refine yCg (base := 0) ⟨Nat.le_of_ble_eq_true rfl, Nat.le_of_ble_eq_true rfl, Nat.le_of_ble_eq_true rfl, rfl⟩ (fun hfit => ?_)
 unfold F0 zKV
 simp (maxSteps := 2000000) only [zAE, List.set_cons_succ, List.set_cons_zero, List.map_cons, List.map_nil, zAD, zAb, ioOf, List.length_cons, List.length_nil, Nat.reduceAdd, Nat.reduceSub, List.replicate, List.cons_append, List.nil_append]
 try simp (maxSteps := 2000000) only [go_sem]
 repeat with_reducible refine zAd ?_
 refine zAi (by repeat' constructor) (zBo k 1 8) ?_
 try simp (maxSteps := 2000000) only [go_sem]
 repeat with_reducible refine zAd ?_
 refine zAi (by repeat' constructor) (zBo k 4 8) ?_
 try simp (maxSteps := 2000000) only [go_sem]
 repeat with_reducible refine zAd ?_
 refine zAi (by repeat' constructor) (zBo k 13 15) ?_
 try simp (maxSteps := 2000000) only [go_sem]
 repeat with_reducible refine zAd ?_
 have e : yFN k = (bif k == 9 then true else k == 10) := by
  unfold yFN
  by_cases h1 : k = 9 <;> by_cases h2 : k = 10 <;> simp [h1, h2]
 rw [e]
 exact zBI (by simp) ⟨zAR rfl trivial (.inl rfl), zAR rfl trivial (.inl rfl), zAR rfl trivial (.inl rfl), zAR rfl trivial (.inl rfl), rfl⟩
theorem yBn (n : Nat) : decide (1 ≤ (n : Int) ∧ (n : Int) ≤ 5) = decide (1 ≤ n ∧ n ≤ 5) := decide_eq_decide.2 (by omega)
theorem yG9 (n : Nat) : decide (6 < (n : Int)) = decide (6 < n) := decide_eq_decide.2 (by omega)
theorem yFP (a b : Int) : (a != b) = decide (a ≠ b) := by by_cases h : a = b <;> simp [h]
theorem yKy : ∀ (N : Nat) (l : List Pt) (d : Nat), SizeOf.sizeOf l ≤ N → d ≤ 4 → Contract Tryz.prog zEd [.val (zAU l), .val (iv d)] { res := .val (bv (tmL l d)) }
 | 0, l, d, hN, _ => by have := zHS l; omega
 | N + 1, l, d, hN, hd => by
  have e3 : decide (3 < (d : Int)) = decide (3 < d) := decide_eq_decide.2 (by omega)
  unfold zAU
  refine zRr (base := 0) ⟨Nat.le_of_ble_eq_true rfl, Nat.le_of_ble_eq_true rfl, Nat.le_of_ble_eq_true rfl, rfl⟩ (fun hfit => ?_)
  unfold F0 zEL
  simp (maxSteps := 2000000) only [zAE, List.set_cons_succ, List.set_cons_zero, List.map_cons, List.map_nil, zAD, zAb, ioOf, List.length_cons, List.length_nil, Nat.reduceAdd, Nat.reduceSub, List.replicate, List.cons_append, List.nil_append]
  try simp (maxSteps := 2000000) only [go_sem]
  repeat with_reducible refine zAd ?_
  apply zAq (h2 := fun _ => zBo l.length 1 5)
  ·(simp (maxSteps := 2000000) only [go_sem]; rfl)
  ·intro h; repeat' (first | exact trivial | exact h | refine And.intro ?_ ?_)
  try simp (maxSteps := 2000000) only [go_sem, yBn, e3, Bool.cond_true_left]
  repeat with_reducible refine zAd ?_
  refine zAc (by rfl) trivial (fun h => ?_) (fun h => ?_)
  ·try simp (maxSteps := 2000000) only [go_sem]
   repeat with_reducible refine zAd ?_
   refine zAe rfl trivial (.inl ?_)
   congr 3
   unfold tmL
   rw [h]; rfl
  ·have hL : tmL l d = yDr l d := by unfold tmL; rw [h]; rfl
   have hd3 : d ≤ 3 ∧ l.length ≤ 5 := by
    simp at h; omega
   try simp (maxSteps := 2000000) only [go_sem]
   repeat with_reducible refine zAd ?_
   refine zAn (fun i : Nat => [(5, .pv (iv i)), (4, .un), (6, .un), (7, .un), (8, .un), (9, .un), (13, .un), (25, .un), (46, .un), (51, .un), (61, .un), (70, .un), (97, .un)]) (fun i : Nat => l.length - i) (fun i : Nat => i ≤ l.length ∧ yDr (l.drop i) d = tmL l d) (0) ?_ ⟨Nat.zero_le _, by rw [hL]; rfl⟩ ?_
   focus (simp (maxSteps := 2000000) only [go_sem, zAf, zAk, zAu, zAg]; all_goals (repeat' (first | exact trivial | exact zAl (by omega) | exact zAh rfl | exact zAs rfl | exact zAm | exact le_refl _ | refine And.intro ?_ ?_)))
   rintro i ⟨hi, hinv⟩
   try simp (maxSteps := 2000000) only [go_sem]
   repeat with_reducible refine zAd ?_
   refine zAc (by rfl) trivial (fun h2 => ?_) (fun h2 => ?_)
   ·have hil : i < l.length := by simp at h2; omega
    rw [zBV (d := default) hil] at hinv
    obtain ⟨p, hp⟩ : ∃ p, p = l.getD i default := ⟨_, rfl⟩
    rw [← hp] at hinv
    have hg : (zLQ l).getD i [] = [.sl 2 (zLP p.steps), .sl 1 (zB0 p.links)] := by rw [zFA l i hil, ← hp, zEw]
    have hsz : SizeOf.sizeOf p.steps ≤ N := by
     have h3 := zKC p
     have h4 := yDq hil
     rw [← hp] at h4
     omega
    simp only [yDr] at hinv
    have hps : tmP p d = (!(decide (1 ≤ p.steps.length ∧ p.steps.length ≤ 5)) || decide ((p.links.length : Int) ≠ p.steps.length - 1) || yDs p.steps d) := by cases p; rfl
    have hin : (!decide (1 ≤ p.steps.length ∧ p.steps.length ≤ 5)) = false → inR .i64 ((p.steps.length : Int) - 1) := by
     intro h5
     have : 1 ≤ p.steps.length ∧ p.steps.length ≤ 5 := by simpa using h5
     exact zKA (by omega) (by omega)
    try simp (maxSteps := 2000000) only [go_sem, hg]
    repeat with_reducible refine zAd ?_
    refine zAi (by repeat' constructor) (zBo p.steps.length 1 5) ?_
    try simp (maxSteps := 2000000) only [go_sem, yBn, Bool.cond_true_left, yFP]
    repeat with_reducible refine zAd ?_
    refine zAc (by rfl) trivial (fun h3 => ?_) (fun h3 => ?_)
    ·try simp (maxSteps := 2000000) only [go_sem]
     repeat with_reducible refine zAd ?_
     refine zAe rfl trivial (.inl ?_)
     congr 3
     rw [← hinv, hps, h3]; rfl
    ·have hp5 : p.steps.length ≤ 5 := by simp at h3; omega
     rw [h3, Bool.false_or] at hps
     try simp (maxSteps := 2000000) only [go_sem]
     repeat with_reducible refine zAd ?_
     refine zAn (fun k : Nat => [(7, .pv (iv k)), (4, .un), (8, .un), (9, .un), (13, .un), (51, .un), (61, .un), (70, .un), (97, .un)]) (fun k : Nat => p.steps.length - k) (fun k : Nat => k ≤ p.steps.length ∧ yDs (p.steps.drop k) d = yDs p.steps d) (0) ?_ ⟨Nat.zero_le _, rfl⟩ ?_
     focus (simp (maxSteps := 2000000) only [go_sem, zAf, zAk, zAu, zAg]; all_goals (repeat' (first | exact trivial | exact zAl (by omega) | exact zAh rfl | exact zAs rfl | exact zAm | exact le_refl _ | refine And.intro ?_ ?_)))
     rintro k ⟨hk, hinv2⟩
     try simp (maxSteps := 2000000) only [go_sem]
     repeat with_reducible refine zAd ?_
     refine zAc (by rfl) trivial (fun h4 => ?_) (fun h4 => ?_)
     ·have hkl : k < p.steps.length := by simp at h4; omega
      rw [zBV (d := default) hkl] at hinv2
      obtain ⟨q, hq⟩ : ∃ q, q = p.steps.getD k default := ⟨_, rfl⟩
      rw [← hq] at hinv2
      have hg3 : (zLP p.steps).getD k [] = [bS q.tag, .sl 6 (zWA q.tests)] := by rw [zEE _ k hkl, ← hq, zHd]
      simp only [yDs] at hinv2
      have hqs : tmS q d = (decide (6 < q.tests.length) || yDt q.tests d) := by cases q; rfl
      try simp (maxSteps := 2000000) only [go_sem, hg3, yG9]
      repeat with_reducible refine zAd ?_
      refine zAc (by rfl) trivial (fun h5 => ?_) (fun h5 => ?_)
      ·try simp (maxSteps := 2000000) only [go_sem]
       repeat with_reducible refine zAd ?_
       refine zAe rfl trivial (.inl ?_)
       congr 3
       rw [← hinv, hps, ← hinv2, hqs, h5]; rfl
      ·have hq6 : q.tests.length ≤ 6 := by simpa using h5
       rw [h5, Bool.false_or] at hqs
       try simp (maxSteps := 2000000) only [go_sem]
       repeat with_reducible refine zAd ?_
       refine zAn (fun j : Nat => [(8, .pv (iv j)), (4, .un), (9, .un), (13, .un), (70, .un), (97, .un)]) (fun j : Nat => q.tests.length - j) (fun j : Nat => j ≤ q.tests.length ∧ yDt (q.tests.drop j) d = yDt q.tests d) (0) ?_ ⟨Nat.zero_le _, rfl⟩ ?_
       focus (simp (maxSteps := 2000000) only [go_sem, zAf, zAk, zAu, zAg]; all_goals (repeat' (first | exact trivial | exact zAl (by omega) | exact zAh rfl | exact zAs rfl | exact zAm | exact le_refl _ | refine And.intro ?_ ?_)))
       rintro j ⟨hj, hinv3⟩
       try simp (maxSteps := 2000000) only [go_sem, hg3]
       repeat with_reducible refine zAd ?_
       refine zAc (by rfl) trivial (fun h6 => ?_) (fun h6 => ?_)
       ·have hjl : j < q.tests.length := by simp at h6; omega
        rw [zBV (d := default) hjl] at hinv3
        obtain ⟨t, ht⟩ : ∃ t, t = q.tests.getD j default := ⟨_, rfl⟩
        rw [← ht] at hinv3
        have hg4 := zD4 q.tests j hjl
        rw [← ht, zDw] at hg4
        have hszt : SizeOf.sizeOf t.list ≤ N := by
         have h7 := zO2 t
         have h8 := yDo hjl
         rw [← ht] at h8
         have h9 := yDp hkl
         rw [← hq] at h9
         have h10 := zKB q
         omega
        simp only [yDt] at hinv3
        have hts : tmT t d = (zHf t.kind && tmL t.list (d + 1)) := by cases t; rfl
        have hrec := yKy N t.list (d + 1) hszt (by omega)
        unfold zAU at hrec
        rw [show ((d + 1 : Nat) : Int) = (d : Int) + 1 by omega] at hrec
        try simp (maxSteps := 2000000) only [go_sem, hg3, hg4]
        repeat with_reducible refine zAd ?_
        refine zB2 (by repeat' constructor) (zQv t.kind) ?_
        try simp (maxSteps := 2000000) only [go_sem]
        repeat with_reducible refine zAd ?_
        apply zAq (h2 := fun _ => hrec)
        ·(simp (maxSteps := 2000000) only [go_sem]; rfl)
        ·intro h; repeat' (first | exact trivial | exact h | refine And.intro ?_ ?_)
        try simp (maxSteps := 2000000) only [go_sem, Bool.cond_false_right]
        repeat with_reducible refine zAd ?_
        refine zAc (by rfl) trivial (fun h7 => ?_) (fun h7 => ?_)
        ·try simp (maxSteps := 2000000) only [go_sem]
         repeat with_reducible refine zAd ?_
         refine zAe rfl trivial (.inl ?_)
         congr 3
         rw [← hinv, hps, ← hinv2, hqs, ← hinv3, hts, h7]; rfl
        ·rw [h7] at hts
         rw [hts, Bool.false_or] at hinv3
         try simp (maxSteps := 2000000) only [go_sem]
         repeat with_reducible refine zAd ?_
         refine ⟨j + 1, by omega, ⟨by omega, hinv3⟩, ?_⟩
         simp (maxSteps := 2000000) only [go_sem, zAf, zAk, zAu, zAg]
         all_goals (repeat' (first | exact trivial | exact zAl (by omega) | exact zAh rfl | exact zAs rfl | exact zAm | exact le_refl _ | refine And.intro ?_ ?_))
       ·have hjl : j = q.tests.length := by simp at h6; omega
        subst hjl
        rw [List.drop_length] at hinv3
        rw [hqs, ← hinv3] at hinv2
        try simp (maxSteps := 2000000) only [go_sem]
        repeat with_reducible refine zAd ?_
        refine ⟨k + 1, by omega, ⟨by omega, hinv2⟩, ?_⟩
        simp (maxSteps := 2000000) only [go_sem, zAf, zAk, zAu, zAg]
        all_goals (repeat' (first | exact trivial | exact zAl (by omega) | exact zAh rfl | exact zAs rfl | exact zAm | exact le_refl _ | refine And.intro ?_ ?_))
     ·have hkl : k = p.steps.length := by simp at h4; omega
      subst hkl
      rw [List.drop_length] at hinv2
      rw [hps, ← hinv2] at hinv
      try simp (maxSteps := 2000000) only [go_sem]
      repeat with_reducible refine zAd ?_
      refine ⟨i + 1, by omega, ⟨by omega, hinv⟩, ?_⟩
      simp (maxSteps := 2000000) only [go_sem, zAf, zAk, zAu, zAg]
      all_goals (repeat' (first | exact trivial | exact zAl (by omega) | exact zAh rfl | exact zAs rfl | exact zAm | exact le_refl _ | refine And.intro ?_ ?_))
   ·have hil : i = l.length := by simp at h2; omega
    subst hil
    rw [List.drop_length] at hinv
    try simp (maxSteps := 2000000) only [go_sem]
    repeat with_reducible refine zAd ?_
    refine zAe rfl trivial (.inl ?_)
    congr 3
    rw [← hinv]; rfl
end Go.Hx
end

section
set_option maxRecDepth 100000
set_option linter.unusedSimpArgs false
namespace Go.Hx
open Go.Proofs
variable [Glob]
attribute [local go_sem] zAz zAA zAy zAt ndV zAw zAp zAU zBl zBz zBy
attribute [local go_sem] reduceCtorEq Nat.reduceAdd Nat.reduceEqDiff reduceIte Nat.reduceLeDiff Nat.reduceLT Nat.reduceSub
theorem zOs {k : Nat} {rows : List (List PV)} (h : PV.fits (.sl k rows)) : rows.length ≤ 9223372036854775807 := by
 simp only [PV.fits] at h; exact h.1
theorem zX1 : ∀ {rows : List (List PV)} {i : Nat}, zQU rows → i < rows.length → zIJ (rows.getD i [])
 | [], i, _, h => by simp at h
 | r :: rs, 0, h, _ => by simp only [zQU] at h; exact h.1
 | r :: rs, i + 1, h, hi => by simp only [zQU] at h; simpa using zX1 (rows := rs) (i := i) h.2 (by simpa using hi)
theorem yBo {k : Nat} {rows : List (List PV)} {i : Nat} (h : PV.fits (.sl k rows)) (hi : i < rows.length) : zIJ (rows.getD i []) := by
 simp only [PV.fits] at h; exact zX1 h.2 hi
theorem zZ8 {x : PV} {r : List AV} (h : AVs.fits (.val (.one x) :: r)) : PV.fits x := by
 simp only [AVs.fits] at h; exact h.1
theorem zVA {l : List Pt} {i : Nat} (h : PV.fits (.sl 2 (zLQ l))) (hi : i < l.length) : PV.fits (.sl 2 (zLP (l.getD i default).steps)) ∧ PV.fits (.sl 1 (zB0 (l.getD i default).links)) := by
 have h1 := yBo h (i := i) (by rw [zBl]; exact hi)
 rw [zFA l i hi, zEw] at h1
 simp only [zIJ] at h1
 exact ⟨h1.1, h1.2.1⟩
theorem zVB {l : List St} {i : Nat} (h : PV.fits (.sl 2 (zLP l))) (hi : i < l.length) : PV.fits (.sl 6 (zWA (l.getD i default).tests)) := by
 have h1 := yBo h (i := i) (by rw [zBz]; exact hi)
 rw [zEE l i hi, zHd] at h1
 simp only [zIJ] at h1
 exact h1.2.1
theorem zZ9 {l : List Pt} (h : PV.fits (.sl 2 (zLQ l))) : l.length ≤ 9223372036854775807 := by have := zOs h; rwa [zBl] at this
theorem zQw {l : List St} (h : PV.fits (.sl 2 (zLP l))) : l.length ≤ 9223372036854775807 := by have := zOs h; rwa [zBz] at this
theorem yAa {l : List Ts} (h : PV.fits (.sl 6 (zWA l))) : l.length ≤ 9223372036854775807 := by have := zOs h; rwa [zBy] at this
theorem yHa {l : List Int} (h : PV.fits (.sl 1 (zB0 l))) : l.length ≤ 9223372036854775807 := by have := zOs h; rwa [zAt] at this
theorem yKz : ∀ (N : Nat) (l : List Pt), SizeOf.sizeOf l ≤ N → Contract Tryz.prog zEc [.val (zAU l)] { res := .val (bv (yBP l)) }
 | 0, l, hN => by have := zHS l; omega
 | N + 1, l, hN => by
  unfold zAU
  refine zRC (base := 0) ⟨Nat.le_of_ble_eq_true rfl, Nat.le_of_ble_eq_true rfl, Nat.le_of_ble_eq_true rfl, rfl⟩ (fun hfit => ?_)
  unfold F0 zEM
  simp (maxSteps := 2000000) only [zAE, List.set_cons_succ, List.set_cons_zero, List.map_cons, List.map_nil, zAD, zAb, ioOf, List.length_cons, List.length_nil, Nat.reduceAdd, Nat.reduceSub, List.replicate, List.cons_append, List.nil_append]
  try simp (maxSteps := 2000000) only [go_sem]
  repeat with_reducible refine zAd ?_
  have ft := zZ8 hfit
  have fl := zZ9 ft
  refine zAn (fun i : Nat => [(3, .pv (iv i)), (2, .un), (4, .un), (5, .un), (6, .un), (7, .un), (11, .un), (15, .un), (25, .un), (37, .un), (45, .un), (59, .un), (93, .un)]) (fun i : Nat => l.length - i) (fun i : Nat => i ≤ l.length ∧ yBP (l.drop i) = yBP l) (0) ?_ ⟨Nat.zero_le _, rfl⟩ ?_
  focus (simp (maxSteps := 2000000) only [go_sem, zAf, zAk, zAu, zAg]; all_goals (repeat' (first | exact trivial | exact zAl (by omega) | exact zAh rfl | exact zAs rfl | exact zAm | exact le_refl _ | refine And.intro ?_ ?_)))
  rintro i ⟨hi, hinv⟩
  try simp (maxSteps := 2000000) only [go_sem]
  repeat with_reducible refine zAd ?_
  refine zAc (by rfl) trivial (fun h2 => ?_) (fun h2 => ?_)
  ·have hil : i < l.length := by simp at h2; omega
   have fp := zVA ft hil
   rw [zBV (d := default) hil] at hinv
   obtain ⟨p, hp⟩ : ∃ p, p = l.getD i default := ⟨_, rfl⟩
   rw [← hp] at hinv fp
   have fps := zQw fp.1
   have fpl := yHa fp.2
   have hg : (zLQ l).getD i [] = [.sl 2 (zLP p.steps), .sl 1 (zB0 p.links)] := by rw [zFA l i hil, ← hp, zEw]
   have hsz : SizeOf.sizeOf p.steps ≤ N := by
    have h3 := zKC p
    have h4 := yDq hil
    rw [← hp] at h4
    omega
   simp only [yBP] at hinv
   have hps : bkP p = (p.links.any zNn || yDu p.steps) := by cases p; rfl
   try simp (maxSteps := 2000000) only [go_sem]
   repeat with_reducible refine zAd ?_
   refine zAn (fun k : Nat => [(4, .pv (iv k)), (2, .un), (25, .un), (37, .un)]) (fun k : Nat => p.links.length - k) (fun k : Nat => k ≤ p.links.length ∧ (p.links.drop k).any zNn = p.links.any zNn) (0) ?_ ⟨Nat.zero_le _, rfl⟩ ?_
   focus (simp (maxSteps := 2000000) only [go_sem, zAf, zAk, zAu, zAg]; all_goals (repeat' (first | exact trivial | exact zAl (by omega) | exact zAh rfl | exact zAs rfl | exact zAm | exact le_refl _ | refine And.intro ?_ ?_)))
   rintro k ⟨hk, hinv2⟩
   try simp (maxSteps := 2000000) only [go_sem, hg]
   repeat with_reducible refine zAd ?_
   refine zAc (by rfl) trivial (fun h3 => ?_) (fun h3 => ?_)
   ·have hkl : k < p.links.length := by simp at h3; omega
    rw [zBV (d := 0) hkl] at hinv2
    have hg2 := zE4 p.links k hkl
    obtain ⟨v, hv⟩ : ∃ v, v = p.links.getD k 0 := ⟨_, rfl⟩
    rw [← hv] at hg2 hinv2
    rw [List.any_cons] at hinv2
    try simp (maxSteps := 2000000) only [go_sem, hg, hg2]
    repeat with_reducible refine zAd ?_
    refine zAi (by repeat' constructor) (zBo v 1 4) ?_
    try simp (maxSteps := 2000000) only [go_sem]
    repeat with_reducible refine zAd ?_
    refine zAc (by rfl) trivial (fun h4 => ?_) (fun h4 => ?_)
    ·try simp (maxSteps := 2000000) only [go_sem]
     repeat with_reducible refine zAd ?_
     refine zAe rfl trivial (.inl ?_)
     congr 3
     have h5 : zNn v = true := h4
     rw [← hinv, hps, ← hinv2, h5]; rfl
    ·have h5 : zNn v = false := h4
     rw [h5, Bool.false_or] at hinv2
     try simp (maxSteps := 2000000) only [go_sem]
     repeat with_reducible refine zAd ?_
     refine ⟨k + 1, by omega, ⟨by omega, hinv2⟩, ?_⟩
     simp (maxSteps := 2000000) only [go_sem, zAf, zAk, zAu, zAg]
     all_goals (repeat' (first | exact trivial | exact zAl (by omega) | exact zAh rfl | exact zAs rfl | exact zAm | exact le_refl _ | refine And.intro ?_ ?_))
   ·have hkl : k = p.links.length := by simp at h3; omega
    subst hkl
    rw [List.drop_length] at hinv2
    rw [← hinv2] at hps
    have hps : bkP p = yDu p.steps := hps
    try simp (maxSteps := 2000000) only [go_sem]
    repeat with_reducible refine zAd ?_
    refine zAn (fun k : Nat => [(5, .pv (iv k)), (2, .un), (6, .un), (7, .un), (11, .un), (45, .un), (59, .un), (93, .un)]) (fun k : Nat => p.steps.length - k) (fun k : Nat => k ≤ p.steps.length ∧ yDu (p.steps.drop k) = yDu p.steps) (0) ?_ ⟨Nat.zero_le _, rfl⟩ ?_
    focus (simp (maxSteps := 2000000) only [go_sem, zAf, zAk, zAu, zAg]; all_goals (repeat' (first | exact trivial | exact zAl (by omega) | exact zAh rfl | exact zAs rfl | exact zAm | exact le_refl _ | refine And.intro ?_ ?_)))
    rintro k ⟨hk, hinv2⟩
    try simp (maxSteps := 2000000) only [go_sem, hg]
    repeat with_reducible refine zAd ?_
    refine zAc (by rfl) trivial (fun h4 => ?_) (fun h4 => ?_)
    ·have hkl : k < p.steps.length := by simp at h4; omega
     have fq := zVB fp.1 hkl
     rw [zBV (d := default) hkl] at hinv2
     obtain ⟨q, hq⟩ : ∃ q, q = p.steps.getD k default := ⟨_, rfl⟩
     rw [← hq] at hinv2 fq
     have fqt := yAa fq
     have hg3 : (zLP p.steps).getD k [] = [bS q.tag, .sl 6 (zWA q.tests)] := by rw [zEE _ k hkl, ← hq, zHd]
     simp only [yDu] at hinv2
     have hqs : bkS q = yEp q.tests := by cases q; rfl
     try simp (maxSteps := 2000000) only [go_sem, hg, hg3]
     repeat with_reducible refine zAd ?_
     refine zAn (fun j : Nat => [(6, .pv (iv j)), (2, .un), (7, .un), (11, .un), (59, .un), (93, .un)]) (fun j : Nat => q.tests.length - j) (fun j : Nat => j ≤ q.tests.length ∧ yEp (q.tests.drop j) = yEp q.tests) (0) ?_ ⟨Nat.zero_le _, rfl⟩ ?_
     focus (simp (maxSteps := 2000000) only [go_sem, zAf, zAk, zAu, zAg]; all_goals (repeat' (first | exact trivial | exact zAl (by omega) | exact zAh rfl | exact zAs rfl | exact zAm | exact le_refl _ | refine And.intro ?_ ?_)))
     rintro j ⟨hj, hinv3⟩
     try simp (maxSteps := 2000000) only [go_sem, hg, hg3]
     repeat with_reducible refine zAd ?_
     refine zAc (by rfl) trivial (fun h6 => ?_) (fun h6 => ?_)
     ·have hjl : j < q.tests.length := by simp at h6; omega
      rw [zBV (d := default) hjl] at hinv3
      obtain ⟨t, ht⟩ : ∃ t, t = q.tests.getD j default := ⟨_, rfl⟩
      rw [← ht] at hinv3
      have hg4 := zD4 q.tests j hjl
      rw [← ht, zDw] at hg4
      have hszt : SizeOf.sizeOf t.list ≤ N := by
       have h7 := zO2 t
       have h8 := yDo hjl
       rw [← ht] at h8
       have h9 := yDp hkl
       rw [← hq] at h9
       have h10 := zKB q
       omega
      simp only [yEp] at hinv3
      have hts : bkT t = (!(decide (1 ≤ t.kind ∧ t.kind ≤ 15)) || (zHf t.kind && yBP t.list)) := by cases t; rfl
      have hrec := yKz N t.list hszt
      unfold zAU at hrec
      try simp (maxSteps := 2000000) only [go_sem, hg, hg3, hg4]
      repeat with_reducible refine zAd ?_
      refine zB2 (by repeat' constructor) (zQv t.kind) ?_
      try simp (maxSteps := 2000000) only [go_sem]
      repeat with_reducible refine zAd ?_
      refine zAi (by repeat' constructor) (zBo t.kind 1 15) ?_
      try simp (maxSteps := 2000000) only [go_sem]
      repeat with_reducible refine zAd ?_
      apply zAq (h2 := fun _ => hrec)
      ·(simp (maxSteps := 2000000) only [go_sem]; rfl)
      ·intro h; repeat' (first | exact trivial | exact h | refine And.intro ?_ ?_)
      try simp (maxSteps := 2000000) only [go_sem, Bool.cond_false_right, Bool.cond_true_left]
      repeat with_reducible refine zAd ?_
      refine zAc (by rfl) trivial (fun h7 => ?_) (fun h7 => ?_)
      ·try simp (maxSteps := 2000000) only [go_sem]
       repeat with_reducible refine zAd ?_
       refine zAe rfl trivial (.inl ?_)
       congr 3
       rw [← hinv, hps, ← hinv2, hqs, ← hinv3, hts, h7]; rfl
      ·rw [h7] at hts
       rw [hts, Bool.false_or] at hinv3
       try simp (maxSteps := 2000000) only [go_sem]
       repeat with_reducible refine zAd ?_
       refine ⟨j + 1, by omega, ⟨by omega, hinv3⟩, ?_⟩
       simp (maxSteps := 2000000) only [go_sem, zAf, zAk, zAu, zAg]
       all_goals (repeat' (first | exact trivial | exact zAl (by omega) | exact zAh rfl | exact zAs rfl | exact zAm | exact le_refl _ | refine And.intro ?_ ?_))
     ·have hjl : j = q.tests.length := by simp at h6; omega
      subst hjl
      rw [List.drop_length] at hinv3
      rw [hqs, ← hinv3] at hinv2
      try simp (maxSteps := 2000000) only [go_sem]
      repeat with_reducible refine zAd ?_
      refine ⟨k + 1, by omega, ⟨by omega, hinv2⟩, ?_⟩
      simp (maxSteps := 2000000) only [go_sem, zAf, zAk, zAu, zAg]
      all_goals (repeat' (first | exact trivial | exact zAl (by omega) | exact zAh rfl | exact zAs rfl | exact zAm | exact le_refl _ | refine And.intro ?_ ?_))
    ·have hkl : k = p.steps.length := by simp at h4; omega
     subst hkl
     rw [List.drop_length] at hinv2
     rw [hps, ← hinv2] at hinv
     try simp (maxSteps := 2000000) only [go_sem]
     repeat with_reducible refine zAd ?_
     refine ⟨i + 1, by omega, ⟨by omega, hinv⟩, ?_⟩
     simp (maxSteps := 2000000) only [go_sem, zAf, zAk, zAu, zAg]
     all_goals (repeat' (first | exact trivial | exact zAl (by omega) | exact zAh rfl | exact zAs rfl | exact zAm | exact le_refl _ | refine And.intro ?_ ?_))
  ·have hil : i = l.length := by simp at h2; omega
   subst hil
   rw [List.drop_length] at hinv
   try simp (maxSteps := 2000000) only [go_sem]
   repeat with_reducible refine zAd ?_
   refine zAe rfl trivial (.inl ?_)
   congr 3
   rw [← hinv]; rfl
end Go.Hx
end

section
set_option maxRecDepth 100000
set_option linter.unusedSimpArgs false
set_option maxHeartbeats 2000000
namespace Go.Hx
open Go.Proofs
variable [Glob]
attribute [local go_sem] zAz zAA zAy zAt ndV zAw zAp zAU zBl zBz zBy
attribute [local go_sem] reduceCtorEq Nat.reduceAdd Nat.reduceEqDiff reduceIte Nat.reduceLeDiff Nat.reduceLT Nat.reduceSub
theorem yKA : ∀ (N : Nat) (l : List Pt), SizeOf.sizeOf l ≤ N → Contract Tryz.prog zEb [.val (zAU l)] { res := .val (bv (yBQ l)) }
 | 0, l, hN => by have := zHS l; omega
 | N + 1, l, hN => by
  unfold zAU
  refine zRN (base := 0) ⟨Nat.le_of_ble_eq_true rfl, Nat.le_of_ble_eq_true rfl, Nat.le_of_ble_eq_true rfl, rfl⟩ (fun hfit => ?_)
  unfold F0 zEN
  simp (maxSteps := 2000000) only [zAE, List.set_cons_succ, List.set_cons_zero, List.map_cons, List.map_nil, zAD, zAb, ioOf, List.length_cons, List.length_nil, Nat.reduceAdd, Nat.reduceSub, List.replicate, List.cons_append, List.nil_append]
  try simp (maxSteps := 2000000) only [go_sem]
  repeat with_reducible refine zAd ?_
  have ft := zZ8 hfit
  have fl := zZ9 ft
  refine zAn (fun i : Nat => [(3, .pv (iv i)), (2, .un), (4, .un), (5, .un), (6, .un), (7, .un), (8, .un), (9, .un), (10, .un), (11, .un), (15, .un), (25, .un), (44, .un), (49, .un), (126, .un)]) (fun i : Nat => l.length - i) (fun i : Nat => i ≤ l.length ∧ yBQ (l.drop i) = yBQ l) (0) ?_ ⟨Nat.zero_le _, rfl⟩ ?_
  focus (simp (maxSteps := 2000000) only [go_sem, zAf, zAk, zAu, zAg]; all_goals (repeat' (first | exact trivial | exact zAl (by omega) | exact zAh rfl | exact zAs rfl | exact zAm | exact le_refl _ | refine And.intro ?_ ?_)))
  rintro i ⟨hi, hinv⟩
  try simp (maxSteps := 2000000) only [go_sem]
  repeat with_reducible refine zAd ?_
  refine zAc (by rfl) trivial (fun h2 => ?_) (fun h2 => ?_)
  ·have hil : i < l.length := by simp at h2; omega
   have fp := zVA ft hil
   rw [zBV (d := default) hil] at hinv
   obtain ⟨p, hp⟩ : ∃ p, p = l.getD i default := ⟨_, rfl⟩
   rw [← hp] at hinv fp
   have fps := zQw fp.1
   have hg : (zLQ l).getD i [] = [.sl 2 (zLP p.steps), .sl 1 (zB0 p.links)] := by rw [zFA l i hil, ← hp, zEw]
   have hsz : SizeOf.sizeOf p.steps ≤ N := by
    have h3 := zKC p
    have h4 := yDq hil
    rw [← hp] at h4
    omega
   simp only [yBQ] at hinv
   have hps : bfP p = yEr p.steps := by cases p; rfl
   try simp (maxSteps := 2000000) only [go_sem]
   repeat with_reducible refine zAd ?_
   refine zAn (fun k : Nat => [(4, .pv (iv k)), (2, .un), (5, .un), (6, .un), (7, .un), (8, .un), (9, .un), (10, .un), (11, .un), (25, .un), (44, .un), (49, .un), (126, .un)]) (fun k : Nat => p.steps.length - k) (fun k : Nat => k ≤ p.steps.length ∧ yEr (p.steps.drop k) = yEr p.steps) (0) ?_ ⟨Nat.zero_le _, rfl⟩ ?_
   focus (simp (maxSteps := 2000000) only [go_sem, zAf, zAk, zAu, zAg]; all_goals (repeat' (first | exact trivial | exact zAl (by omega) | exact zAh rfl | exact zAs rfl | exact zAm | exact le_refl _ | refine And.intro ?_ ?_)))
   rintro k ⟨hk, hinv2⟩
   try simp (maxSteps := 2000000) only [go_sem, hg]
   repeat with_reducible refine zAd ?_
   refine zAc (by rfl) trivial (fun h4 => ?_) (fun h4 => ?_)
   ·have hkl : k < p.steps.length := by simp at h4; omega
    have fq := zVB fp.1 hkl
    rw [zBV (d := default) hkl] at hinv2
    obtain ⟨q, hq⟩ : ∃ q, q = p.steps.getD k default := ⟨_, rfl⟩
    rw [← hq] at hinv2 fq
    have fqt := yAa fq
    have hg3 : (zLP p.steps).getD k [] = [bS q.tag, .sl 6 (zWA q.tests)] := by rw [zEE _ k hkl, ← hq, zHd]
    simp only [yEr] at hinv2
    have hqs : bfS q = ((!(q.tag == []) && !zBP q.tag) || yEs q.tests) := by cases q; rfl
    try simp (maxSteps := 2000000) only [go_sem, hg, hg3]
    repeat with_reducible refine zAd ?_
    apply zAq (h2 := fun _ => zDj q.tag)
    ·(simp (maxSteps := 2000000) only [go_sem]; rfl)
    ·intro h; repeat' (first | exact trivial | exact h | refine And.intro ?_ ?_)
    try simp (maxSteps := 2000000) only [go_sem, Bool.cond_false_right]
    repeat with_reducible refine zAd ?_
    refine zAc (by rfl) trivial (fun h5 => ?_) (fun h5 => ?_)
    ·try simp (maxSteps := 2000000) only [go_sem]
     repeat with_reducible refine zAd ?_
     refine zAe rfl trivial (.inl ?_)
     congr 3
     rw [← hinv, hps, ← hinv2, hqs, h5]; rfl
    rw [h5, Bool.false_or] at hqs
    try simp (maxSteps := 2000000) only [go_sem]
    repeat with_reducible refine zAd ?_
    refine zAn (fun j : Nat => [(6, .pv (iv j)), (2, .un), (7, .un), (8, .un), (9, .un), (10, .un), (11, .un), (49, .un), (126, .un)]) (fun j : Nat => q.tests.length - j) (fun j : Nat => j ≤ q.tests.length ∧ yEs (q.tests.drop j) = yEs q.tests) (0) ?_ ⟨Nat.zero_le _, rfl⟩ ?_
    focus (simp (maxSteps := 2000000) only [go_sem, zAf, zAk, zAu, zAg]; all_goals (repeat' (first | exact trivial | exact zAl (by omega) | exact zAh rfl | exact zAs rfl | exact zAm | exact le_refl _ | refine And.intro ?_ ?_)))
    rintro j ⟨hj, hinv3⟩
    try simp (maxSteps := 2000000) only [go_sem, hg, hg3]
    repeat with_reducible refine zAd ?_
    refine zAc (by rfl) trivial (fun h6 => ?_) (fun h6 => ?_)
    ·have hjl : j < q.tests.length := by simp at h6; omega
     rw [zBV (d := default) hjl] at hinv3
     obtain ⟨t, ht⟩ : ∃ t, t = q.tests.getD j default := ⟨_, rfl⟩
     rw [← ht] at hinv3
     have hg4 := zD4 q.tests j hjl
     rw [← ht, zDw] at hg4
     have hszt : SizeOf.sizeOf t.list ≤ N := by
      have h7 := zO2 t
      have h8 := yDo hjl
      rw [← ht] at h8
      have h9 := yDp hkl
      rw [← hq] at h9
      have h10 := zKB q
      omega
     simp only [yEs] at hinv3
     have hts : bfT t = ((zWB t.kind && !zBP t.name) || ((!zWB t.kind && !(t.name == [])) || ((zNf t.kind && !zCB t.value) || ((!zNf t.kind && !(t.value == [])) || ((!yFN t.kind && !(t.na == 0 && t.nb == 0)) || ((!zHf t.kind && decide (0 < t.list.length)) || (zHf t.kind && yBQ t.list))))))) := by
      cases t
      simp only [bfT, yE3, yE4, yEq, Ts.kind, Ts.name, Ts.value, Ts.na, Ts.nb, Ts.list, Bool.or_assoc]
     have e0 : decide (0 < (t.list.length : Int)) = decide (0 < t.list.length) := decide_eq_decide.2 (by omega)
     have hrec := yKA N t.list hszt
     unfold zAU at hrec
     try simp (maxSteps := 2000000) only [go_sem, hg, hg3, hg4]
     repeat with_reducible refine zAd ?_
     refine zB2 (by repeat' constructor) (zQv t.kind) ?_
     try simp (maxSteps := 2000000) only [go_sem]
     repeat with_reducible refine zAd ?_
     apply zAq (h2 := fun _ => zDj t.name)
     ·(simp (maxSteps := 2000000) only [go_sem]; rfl)
     ·intro h; repeat' (first | exact trivial | exact h | refine And.intro ?_ ?_)
     try simp (maxSteps := 2000000) only [go_sem]
     repeat with_reducible refine zAd ?_
     apply zAq (h2 := fun _ => zLh t.value)
     ·(simp (maxSteps := 2000000) only [go_sem]; rfl)
     ·intro h; repeat' (first | exact trivial | exact h | refine And.intro ?_ ?_)
     try simp (maxSteps := 2000000) only [go_sem]
     repeat with_reducible refine zAd ?_
     apply zAq (h2 := fun _ => hrec)
     ·(simp (maxSteps := 2000000) only [go_sem]; rfl)
     ·intro h; repeat' (first | exact trivial | exact h | refine And.intro ?_ ?_)
     try simp (maxSteps := 2000000) only [go_sem, Bool.cond_false_right, Bool.cond_true_left, e0, Bool.or_assoc]
     repeat with_reducible refine zAd ?_
     refine zAc (by rfl) trivial (fun h7 => ?_) (fun h7 => ?_)
     ·try simp (maxSteps := 2000000) only [go_sem]
      repeat with_reducible refine zAd ?_
      refine zAe rfl trivial (.inl ?_)
      congr 3
      rw [← hinv, hps, ← hinv2, hqs, ← hinv3, hts, h7]; simp
     ·rw [h7] at hts
      rw [hts, Bool.false_or] at hinv3
      try simp (maxSteps := 2000000) only [go_sem]
      repeat with_reducible refine zAd ?_
      refine ⟨j + 1, by omega, ⟨by omega, hinv3⟩, ?_⟩
      simp (maxSteps := 2000000) only [go_sem, zAf, zAk, zAu, zAg]
      all_goals (repeat' (first | exact trivial | exact zAl (by omega) | exact zAh rfl | exact zAs rfl | exact zAm | exact le_refl _ | refine And.intro ?_ ?_))
    ·have hjl : j = q.tests.length := by simp at h6; omega
     subst hjl
     rw [List.drop_length] at hinv3
     rw [hqs, ← hinv3] at hinv2
     try simp (maxSteps := 2000000) only [go_sem]
     repeat with_reducible refine zAd ?_
     refine ⟨k + 1, by omega, ⟨by omega, hinv2⟩, ?_⟩
     simp (maxSteps := 2000000) only [go_sem, zAf, zAk, zAu, zAg]
     all_goals (repeat' (first | exact trivial | exact zAl (by omega) | exact zAh rfl | exact zAs rfl | exact zAm | exact le_refl _ | refine And.intro ?_ ?_))
   ·have hkl : k = p.steps.length := by simp at h4; omega
    subst hkl
    rw [List.drop_length] at hinv2
    rw [hps, ← hinv2] at hinv
    try simp (maxSteps := 2000000) only [go_sem]
    repeat with_reducible refine zAd ?_
    refine ⟨i + 1, by omega, ⟨by omega, hinv⟩, ?_⟩
    simp (maxSteps := 2000000) only [go_sem, zAf, zAk, zAu, zAg]
    all_goals (repeat' (first | exact trivial | exact zAl (by omega) | exact zAh rfl | exact zAs rfl | exact zAm | exact le_refl _ | refine And.intro ?_ ?_))
  ·have hil : i = l.length := by simp at h2; omega
   subst hil
   rw [List.drop_length] at hinv
   try simp (maxSteps := 2000000) only [go_sem]
   repeat with_reducible refine zAd ?_
   refine zAe rfl trivial (.inl ?_)
   congr 3
   rw [← hinv]; rfl
theorem yKB : ∀ (N : Nat) (l : List Pt), SizeOf.sizeOf l ≤ N → Contract Tryz.prog zEK [.val (zAU l)] { res := .val (bv (yBg l)) }
 | 0, l, hN => by have := zHS l; omega
 | N + 1, l, hN => by
  unfold zAU
  refine zU1 (base := 0) ⟨Nat.le_of_ble_eq_true rfl, Nat.le_of_ble_eq_true rfl, Nat.le_of_ble_eq_true rfl, rfl⟩ (fun hfit => ?_)
  unfold F0 zFN
  simp (maxSteps := 2000000) only [zAE, List.set_cons_succ, List.set_cons_zero, List.map_cons, List.map_nil, zAD, zAb, ioOf, List.length_cons, List.length_nil, Nat.reduceAdd, Nat.reduceSub, List.replicate, List.cons_append, List.nil_append]
  try simp (maxSteps := 2000000) only [go_sem]
  repeat with_reducible refine zAd ?_
  have ft := zZ8 hfit
  have fl := zZ9 ft
  refine zAn (fun i : Nat => [(3, .pv (iv i)), (2, .un), (4, .un), (5, .un), (6, .un), (10, .un), (20, .un), (34, .un), (57, .un)]) (fun i : Nat => l.length - i) (fun i : Nat => i ≤ l.length ∧ yBg (l.drop i) = yBg l) (0) ?_ ⟨Nat.zero_le _, rfl⟩ ?_
  focus (simp (maxSteps := 2000000) only [go_sem, zAf, zAk, zAu, zAg]; all_goals (repeat' (first | exact trivial | exact zAl (by omega) | exact zAh rfl | exact zAs rfl | exact zAm | exact le_refl _ | refine And.intro ?_ ?_)))
  rintro i ⟨hi, hinv⟩
  try simp (maxSteps := 2000000) only [go_sem]
  repeat with_reducible refine zAd ?_
  refine zAc (by rfl) trivial (fun h2 => ?_) (fun h2 => ?_)
  ·have hil : i < l.length := by simp at h2; omega
   have fp := zVA ft hil
   rw [zBV (d := default) hil] at hinv
   obtain ⟨p, hp⟩ : ∃ p, p = l.getD i default := ⟨_, rfl⟩
   rw [← hp] at hinv fp
   have fps := zQw fp.1
   have hg : (zLQ l).getD i [] = [.sl 2 (zLP p.steps), .sl 1 (zB0 p.links)] := by rw [zFA l i hil, ← hp, zEw]
   have hsz : SizeOf.sizeOf p.steps ≤ N := by
    have h3 := zKC p
    have h4 := yDq hil
    rw [← hp] at h4
    omega
   simp only [yBg] at hinv
   have hps : bnP p = yEt p.steps := by cases p; rfl
   try simp (maxSteps := 2000000) only [go_sem]
   repeat with_reducible refine zAd ?_
   refine zAn (fun k : Nat => [(4, .pv (iv k)), (2, .un), (5, .un), (6, .un), (20, .un), (34, .un), (57, .un)]) (fun k : Nat => p.steps.length - k) (fun k : Nat => k ≤ p.steps.length ∧ yEt (p.steps.drop k) = yEt p.steps) (0) ?_ ⟨Nat.zero_le _, rfl⟩ ?_
   focus (simp (maxSteps := 2000000) only [go_sem, zAf, zAk, zAu, zAg]; all_goals (repeat' (first | exact trivial | exact zAl (by omega) | exact zAh rfl | exact zAs rfl | exact zAm | exact le_refl _ | refine And.intro ?_ ?_)))
   rintro k ⟨hk, hinv2⟩
   try simp (maxSteps := 2000000) only [go_sem, hg]
   repeat with_reducible refine zAd ?_
   refine zAc (by rfl) trivial (fun h4 => ?_) (fun h4 => ?_)
   ·have hkl : k < p.steps.length := by simp at h4; omega
    have fq := zVB fp.1 hkl
    rw [zBV (d := default) hkl] at hinv2
    obtain ⟨q, hq⟩ : ∃ q, q = p.steps.getD k default := ⟨_, rfl⟩
    rw [← hq] at hinv2 fq
    have fqt := yAa fq
    have hg3 : (zLP p.steps).getD k [] = [bS q.tag, .sl 6 (zWA q.tests)] := by rw [zEE _ k hkl, ← hq, zHd]
    simp only [yEt] at hinv2
    have hqs : bnS q = yEu q.tests := by cases q; rfl
    try simp (maxSteps := 2000000) only [go_sem, hg, hg3]
    repeat with_reducible refine zAd ?_
    refine zAn (fun j : Nat => [(5, .pv (iv j)), (2, .un), (6, .un), (34, .un), (57, .un)]) (fun j : Nat => q.tests.length - j) (fun j : Nat => j ≤ q.tests.length ∧ yEu (q.tests.drop j) = yEu q.tests) (0) ?_ ⟨Nat.zero_le _, rfl⟩ ?_
    focus (simp (maxSteps := 2000000) only [go_sem, zAf, zAk, zAu, zAg]; all_goals (repeat' (first | exact trivial | exact zAl (by omega) | exact zAh rfl | exact zAs rfl | exact zAm | exact le_refl _ | refine And.intro ?_ ?_)))
    rintro j ⟨hj, hinv3⟩
    try simp (maxSteps := 2000000) only [go_sem, hg, hg3]
    repeat with_reducible refine zAd ?_
    refine zAc (by rfl) trivial (fun h6 => ?_) (fun h6 => ?_)
    ·have hjl : j < q.tests.length := by simp at h6; omega
     rw [zBV (d := default) hjl] at hinv3
     obtain ⟨t, ht⟩ : ∃ t, t = q.tests.getD j default := ⟨_, rfl⟩
     rw [← ht] at hinv3
     have hg4 := zD4 q.tests j hjl
     rw [← ht, zDw] at hg4
     have hszt : SizeOf.sizeOf t.list ≤ N := by
      have h7 := zO2 t
      have h8 := yDo hjl
      rw [← ht] at h8
      have h9 := yDp hkl
      rw [← hq] at h9
      have h10 := zKB q
      omega
     simp only [yEu] at hinv3
     have hts : bnT t = (decide (zNm t.na t.nb ≠ 0) || yBg t.list) := by
      cases t with
      | mk kk nn vv aa bb ll => by_cases h9 : zNm aa bb = 0 <;> simp [bnT, Ts.na, Ts.nb, Ts.list, h9]
     have hrec := yKB N t.list hszt
     unfold zAU at hrec
     try simp (maxSteps := 2000000) only [go_sem, hg, hg3, hg4]
     repeat with_reducible refine zAd ?_
     refine zAi (by repeat' constructor) (zJk t.na t.nb) ?_
     try simp (maxSteps := 2000000) only [go_sem, yFP]
     repeat with_reducible refine zAd ?_
     apply zAq (h2 := fun _ => hrec)
     ·(simp (maxSteps := 2000000) only [go_sem]; rfl)
     ·intro h; repeat' (first | exact trivial | exact h | refine And.intro ?_ ?_)
     try simp (maxSteps := 2000000) only [go_sem, Bool.cond_false_right, Bool.cond_true_left]
     repeat with_reducible refine zAd ?_
     refine zAc (by rfl) trivial (fun h7 => ?_) (fun h7 => ?_)
     ·try simp (maxSteps := 2000000) only [go_sem]
      repeat with_reducible refine zAd ?_
      refine zAe rfl trivial (.inl ?_)
      congr 3
      rw [← hinv, hps, ← hinv2, hqs, ← hinv3, hts, h7]; simp
     ·rw [h7] at hts
      rw [hts, Bool.false_or] at hinv3
      try simp (maxSteps := 2000000) only [go_sem]
      repeat with_reducible refine zAd ?_
      refine ⟨j + 1, by omega, ⟨by omega, hinv3⟩, ?_⟩
      simp (maxSteps := 2000000) only [go_sem, zAf, zAk, zAu, zAg]
      all_goals (repeat' (first | exact trivial | exact zAl (by omega) | exact zAh rfl | exact zAs rfl | exact zAm | exact le_refl _ | refine And.intro ?_ ?_))
    ·have hjl : j = q.tests.length := by simp at h6; omega
     subst hjl
     rw [List.drop_length] at hinv3
     rw [hqs, ← hinv3] at hinv2
     try simp (maxSteps := 2000000) only [go_sem]
     repeat with_reducible refine zAd ?_
     refine ⟨k + 1, by omega, ⟨by omega, hinv2⟩, ?_⟩
     simp (maxSteps := 2000000) only [go_sem, zAf, zAk, zAu, zAg]
     all_goals (repeat' (first | exact trivial | exact zAl (by omega) | exact zAh rfl | exact zAs rfl | exact zAm | exact le_refl _ | refine And.intro ?_ ?_))
   ·have hkl : k = p.steps.length := by simp at h4; omega
    subst hkl
    rw [List.drop_length] at hinv2
    rw [hps, ← hinv2] at hinv
    try simp (maxSteps := 2000000) only [go_sem]
    repeat with_reducible refine zAd ?_
    refine ⟨i + 1, by omega, ⟨by omega, hinv⟩, ?_⟩
    simp (maxSteps := 2000000) only [go_sem, zAf, zAk, zAu, zAg]
    all_goals (repeat' (first | exact trivial | exact zAl (by omega) | exact zAh rfl | exact zAs rfl | exact zAm | exact le_refl _ | refine And.intro ?_ ?_))
  ·have hil : i = l.length := by simp at h2; omega
   subst hil
   rw [List.drop_length] at hinv
   try simp (maxSteps := 2000000) only [go_sem]
   repeat with_reducible refine zAd ?_
   refine zAe rfl trivial (.inl ?_)
   congr 3
   rw [← hinv]; rfl
theorem zQx (l : List Pt) : Contract Tryz.prog zEr [.val (zAU l)] { res := .val (iv (zCm l)) } := by
 have t1 := yKy (SizeOf.sizeOf l) l 1 (Nat.le_refl _) (by omega)
 have t2 := yKz (SizeOf.sizeOf l) l (Nat.le_refl _)
 have t3 := yKA (SizeOf.sizeOf l) l (Nat.le_refl _)
 have t4 := yKB (SizeOf.sizeOf l) l (Nat.le_refl _)
 unfold zAU at *
 refine zNM (base := 0) ⟨Nat.le_of_ble_eq_true rfl, Nat.le_of_ble_eq_true rfl, Nat.le_of_ble_eq_true rfl, rfl⟩ (fun hfit => ?_)
 unfold F0 zDC
 simp (maxSteps := 2000000) only [zAE, List.set_cons_succ, List.set_cons_zero, List.map_cons, List.map_nil, zAD, zAb, ioOf, List.length_cons, List.length_nil, Nat.reduceAdd, Nat.reduceSub, List.replicate, List.cons_append, List.nil_append]
 try simp (maxSteps := 2000000) only [go_sem]
 repeat with_reducible refine zAd ?_
 refine zAi (by repeat' constructor) (t1) ?_
 try simp (maxSteps := 2000000) only [go_sem]
 repeat with_reducible refine zAd ?_
 refine zAc (by rfl) trivial (fun h1 => ?_) (fun h1 => ?_)
 ·try simp (maxSteps := 2000000) only [go_sem]
  repeat with_reducible refine zAd ?_
  refine zAe rfl trivial (.inl ?_)
  congr 3
  unfold zCm
  rw [if_pos h1]
 try simp (maxSteps := 2000000) only [go_sem]
 repeat with_reducible refine zAd ?_
 refine zAi (by repeat' constructor) (t2) ?_
 try simp (maxSteps := 2000000) only [go_sem]
 repeat with_reducible refine zAd ?_
 refine zAc (by rfl) trivial (fun h2 => ?_) (fun h2 => ?_)
 ·try simp (maxSteps := 2000000) only [go_sem]
  repeat with_reducible refine zAd ?_
  refine zAe rfl trivial (.inl ?_)
  congr 3
  unfold zCm
  rw [if_neg (by rw [h1]; simp), if_pos h2]
 try simp (maxSteps := 2000000) only [go_sem]
 repeat with_reducible refine zAd ?_
 refine zAi (by repeat' constructor) (t3) ?_
 try simp (maxSteps := 2000000) only [go_sem]
 repeat with_reducible refine zAd ?_
 refine zAc (by rfl) trivial (fun h3 => ?_) (fun h3 => ?_)
 ·try simp (maxSteps := 2000000) only [go_sem]
  repeat with_reducible refine zAd ?_
  refine zAe rfl trivial (.inl ?_)
  congr 3
  unfold zCm
  rw [if_neg (by rw [h1]; simp), if_neg (by rw [h2]; simp), if_pos h3]
 try simp (maxSteps := 2000000) only [go_sem]
 repeat with_reducible refine zAd ?_
 refine zAi (by repeat' constructor) (t4) ?_
 try simp (maxSteps := 2000000) only [go_sem]
 repeat with_reducible refine zAd ?_
 refine zAc (by rfl) trivial (fun h4 => ?_) (fun h4 => ?_)
 ·try simp (maxSteps := 2000000) only [go_sem]
  repeat with_reducible refine zAd ?_
  refine zAe rfl trivial (.inl ?_)
  congr 3
  unfold zCm
  rw [if_neg (by rw [h1]; simp), if_neg (by rw [h2]; simp), if_neg (by rw [h3]; simp), if_pos h4]
 ·try simp (maxSteps := 2000000) only [go_sem]
  repeat with_reducible refine zAd ?_
  refine zAe rfl trivial (.inl ?_)
  congr 3
  unfold zCm
  rw [if_neg (by rw [h1]; simp), if_neg (by rw [h2]; simp), if_neg (by rw [h3]; simp), if_neg (by rw [h4]; simp)]
end Go.Hx
end

section
set_option maxRecDepth 100000
set_option linter.unusedSimpArgs false
namespace Go.Hx
open Go.Proofs
variable [Glob]
attribute [local go_sem] zAz zAA zAy zAt ndV zAw zAp zDb List.take_nil zBl
attribute [local go_sem] reduceCtorEq Nat.reduceAdd Nat.reduceEqDiff reduceIte Nat.reduceLeDiff Nat.reduceLT Nat.reduceSub
def zX2 (d : List Nd) (l : List Pt) (k : Nat) : List Int := ((List.range k).filter (lM d l)).map Int.ofNat
def yKC (d : List Nd) (l : List Pt) : List Int := zX2 d l d.length
def zVC (d : List Nd) (l : List Pt) : Nat → Int → Int × Bool
 | 0, _ => (0, false)
 | f + 1, k => if k < 0 then (0, false) else if lM d l k.toNat then (k, true) else zVC d l f (zA2 d k.toNat)
def zCR (d : List Nd) (l : List Pt) (n : Int) : Int := if zAH d ≠ 0 then zAH d else if zCm l ≠ 0 then zCm l else zS9 d n
theorem yFQ {d : List Nd} (hd : zAH d = 0) : 1 ≤ d.length ∧ d.length ≤ 64 ∧ zCC d d.length = true := by
 unfold zAH at hd
 split at hd
 ·rename_i h
  split at hd
  ·rename_i h'; exact ⟨h.1, h.2, h'⟩
  ·omega
 ·omega
theorem yCv {d : List Nd} {l : List Pt} {k : Nat} : zX2 d l (k + 1) = if lM d l k then zX2 d l k ++ [(k : Int)] else zX2 d l k := by
 unfold zX2
 rw [List.range_succ, List.filter_append, List.map_append]
 by_cases h : lM d l k = true <;> simp [List.filter, h]
theorem yDX {d : List Nd} {l : List Pt} (k : Nat) : (zX2 d l k).length ≤ k := by
 unfold zX2
 rw [List.length_map]
 exact Nat.le_trans (List.length_filter_le _ _) (by simp)
theorem zNX (d : List Nd) (l : List Pt) (n : Int) : Contract Tryz.prog zD0 [.val (zDb d), .val (zAU l), .val (iv n)] { res := .val (iv (zCR d l n)) } := by
 have hD := zJj d
 have hL := zQx l
 have hT := zZ4 d n
 unfold zAU at hL ⊢
 unfold zDb at hD hT ⊢
 refine zMD (base := 0) ⟨Nat.le_of_ble_eq_true rfl, Nat.le_of_ble_eq_true rfl, Nat.le_of_ble_eq_true rfl, rfl⟩ (fun hfit => ?_)
 unfold F0 zC6
 simp (maxSteps := 2000000) only [zAE, List.set_cons_succ, List.set_cons_zero, List.map_cons, List.map_nil, zAD, zAb, ioOf, List.length_cons, List.length_nil, Nat.reduceAdd, Nat.reduceSub, List.replicate, List.cons_append, List.nil_append]
 try simp (maxSteps := 2000000) only [go_sem]
 repeat with_reducible refine zAd ?_
 refine zAi (by repeat' constructor) (hD) ?_
 try simp (maxSteps := 2000000) only [go_sem]
 repeat with_reducible refine zAd ?_
 refine zAc (by rfl) trivial (fun g1 => ?_) (fun g1 => ?_)
 ·try simp (maxSteps := 2000000) only [go_sem]
  repeat with_reducible refine zAd ?_
  exact zAe rfl trivial (.inl (by rw [zCR, if_pos (by simpa using g1)]))
 have h1 : zAH d = 0 := by simpa using g1
 try simp (maxSteps := 2000000) only [go_sem]
 repeat with_reducible refine zAd ?_
 refine zAi (by repeat' constructor) (hL) ?_
 try simp (maxSteps := 2000000) only [go_sem]
 repeat with_reducible refine zAd ?_
 refine zAc (by rfl) trivial (fun g2 => ?_) (fun g2 => ?_)
 ·try simp (maxSteps := 2000000) only [go_sem]
  repeat with_reducible refine zAd ?_
  exact zAe rfl trivial (.inl (by rw [zCR, if_neg (by simpa using h1), if_pos (by simpa using g2)]))
 have h2 : zCm l = 0 := by simpa using g2
 try simp (maxSteps := 2000000) only [go_sem]
 repeat with_reducible refine zAd ?_
 refine zAi (by repeat' constructor) (hT) ?_
 try simp (maxSteps := 2000000) only [go_sem]
 repeat with_reducible refine zAd ?_
 exact zAe rfl trivial (.inl (by rw [zCR, if_neg (by simpa using h1), if_neg (by simpa using h2)]))
end Go.Hx
end

section
set_option maxRecDepth 100000
set_option linter.unusedSimpArgs false
namespace Go.Hx
open Go.Proofs
variable [Glob]
attribute [local go_sem] zAz zAA zAy zAt ndV zAw zAp zDb atV OVal.cells yAM List.drop_succ_cons List.drop_zero List.take_succ_cons List.take_zero List.getD_nil yDl zHw Nat.sub_zero List.map_nil List.map_cons yD0 yD1 zBn zJo zE2 zAb
attribute [local go_sem ↓] yJU yJV yIH yIG yII
attribute [local go_sem] reduceCtorEq Nat.reduceAdd Nat.reduceEqDiff reduceIte Nat.reduceLeDiff Nat.reduceLT Nat.reduceSub
def ahd (d : List Nd) (n : Nat) : Int := ((zAK d (zA2 d n) n).getLast?).getD (-1)
def plc (d : List Nd) (n : Nat) : Int := (zAK d (zA2 d n) n).length + 1
def ofN (d : List Nd) (n : Nat) : Int := if 0 ≤ zA2 d n then (zEy d (zA2 d n)).length else 1
def zYA (d : List Nd) : List (List PV) := (List.range d.length).map fun n => [bI (plc d n), bI (ofN d n), bI (ahd d n), bI (zCV d n), bI (zEy d n).length]
def zBp (d : List Nd) : PV := .fp [.sl 5 (yFM d), .sl 5 (zYA d)]
def stF (d : List Nd) (i j : Nat) : List OV := zJm (if j < i then plc d j else 0) 0 (if j < i then ahd d j else 0) (zA0 d j i) (zAK d j i).length
theorem zLx (d : List Nd) (u : Int) : zAK d u 0 = [] := rfl
theorem zYB (d : List Nd) (u : Int) : zA0 d u 0 = 0 := rfl
theorem yKd (d : List Nd) (L : Nat) : List.replicate L [OV.p (bI 0), .p (bI 0), .p (bI 0), .p (bI 0), .p (bI 0)] = zET L (stF d 0) := by
 rw [yD2]
 refine zA1 fun j _ => ?_
 simp [stF, zLx, zYB]
theorem zGH {d : List Nd} {u p : Int} : ∀ {i : Nat}, (zAK d u i).getLast? = some p → ∃ m : Nat, m < i ∧ p = m ∧ zA2 d m = u ∧ zAK d u i = zAK d u m ++ [(m : Int)]
 | 0, h => by rw [zLx] at h; cases h
 | i + 1, h => by
  rw [zAP] at h
  by_cases e : zA2 d i = u
  ·rw [if_pos e] at h
   have hp : p = i := by simpa using h.symm
   exact ⟨i, by omega, hp, e, by rw [zAP, if_pos e]⟩
  ·rw [if_neg e] at h
   obtain ⟨m, h1, h2, h3, h4⟩ := zGH h
   exact ⟨m, by omega, h2, h3, by rw [zAP, if_neg e, h4]⟩
def inF (d : List Nd) (i : Nat) (u k : Int) (j : Nat) : List OV := zJm (if j < i + 1 then plc d j else 0) 0 (if j < i + 1 then ahd d j else 0) (zA0 d j i + if (C d u).contains (j : Int) && decide (k < j) then 1 else 0) (zAK d j (i + 1)).length
theorem zVX {d : List Nd} {i : Nat} {u k : Int} (hu : u = zA2 d i) (hk : k < 0) (j : Nat) : inF d i u k j = stF d (i + 1) j := by
 unfold inF stF
 have h1 : decide (k < (j : Int)) = true := by simp; omega
 rw [zHQ, h1, Bool.and_true, ← hu]
 rfl
theorem zLy {d : List Nd} (hd : zCC d d.length = true) {i : Nat} {u : Int} (hu : u < d.length) (j : Nat) : inF d i u u j = zJm (if j < i + 1 then plc d j else 0) 0 (if j < i + 1 then ahd d j else 0) (zA0 d j i) (zAK d j (i + 1)).length := by
 unfold inF
 have : ((C d u).contains (j : Int) && decide (u < j)) = false := by
  cases hc : (C d u).contains (j : Int) with
  | false => rfl
  | true =>
   have := (yHo hd hu (by simpa using hc)).2
   simp; omega
 rw [this]
 simp
theorem zOt {d : List Nd} (hd : zCC d d.length = true) {i q : Nat} {u : Int} (hu : u < d.length) (hq : (q : Int) ∈ C d u) (j : Nat) : inF d i u (zA2 d q) j = if j = q then zJm (if q < i + 1 then plc d q else 0) 0 (if q < i + 1 then ahd d q else 0) (zA0 d q i + (if (C d u).contains (q : Int) && decide ((q : Int) < q) then 1 else 0) + 1) (zAK d q (i + 1)).length else inF d i u q j := by
 have hql := (yHo hd hu hq)
 have hub := zBe hd q (by omega)
 by_cases h : j = q
 ·subst h
  rw [if_pos rfl]
  unfold inF
  have h1 : (C d u).contains (j : Int) = true := by simpa using hq
  have h2 : decide (zA2 d j < (j : Int)) = true := by simp; omega
  have h3 : decide ((j : Int) < (j : Int)) = false := by simp
  rw [h1, h2, h3]
  simp
 ·rw [if_neg h]
  unfold inF
  have : ((C d u).contains (j : Int) && decide (zA2 d q < (j : Int))) = ((C d u).contains (j : Int) && decide ((q : Int) < j)) := by
   cases hc : (C d u).contains (j : Int) with
   | false => rfl
   | true =>
    have hj : (j : Int) ∈ C d u := by simpa using hc
    obtain ⟨u', rfl⟩ : ∃ u' : Nat, u = u' := ⟨u.toNat, by omega⟩
    rw [Bool.true_and, Bool.true_and]
    rw [decide_eq_decide]
    constructor
    ·intro h1
     by_cases h2 : (q : Int) < j
     ·exact h2
     ·exfalso
      have h3 := yKc hd u' (by omega) hq hj (by omega)
      have h4 := (yHo hd (k := zA2 d q) (by omega) h3).2
      omega
    ·intro h1; omega
  rw [this]
def fiF (d : List Nd) (i j : Nat) : List OV := zJm (plc d j) (if j < i then ofN d j else 0) (ahd d j) (zCV d j) (zEy d j).length
theorem yD4 (d : List Nd) : zET d.length (stF d d.length) = zET d.length (fiF d 0) := by
 refine zA1 fun j hj => ?_
 simp [stF, fiF, hj, zCV, zEy]
theorem yFj (d : List Nd) (b e : Nat) : (OV.os (some b) e 5 (zET d.length (fiF d d.length))).frz = some (.sl 5 (zYA d)) := by
 have h : zET d.length (fiF d d.length) = (zYA d).map fun r => r.map OV.p := by
  rw [zET, zYA, List.map_map]
  refine List.map_congr_left fun j hj => ?_
  have := List.mem_range.1 hj
  simp [fiF, this]
 rw [h]
 exact yIJ (zWv _)
set_option maxHeartbeats 32000000 in
theorem yCB (d : List Nd) (hd : zAH d = 0) : Contract Tryz.prog zJ2 [.val (zDb d)] { res := .val (.one (zBp d)) } := by
 obtain ⟨d1, d2, d3⟩ := yFQ hd
 unfold zDb
 refine yAm (base := 0) ⟨Nat.le_of_ble_eq_true rfl, Nat.le_of_ble_eq_true rfl, Nat.le_of_ble_eq_true rfl, rfl⟩ (fun hfit => ?_)
 unfold F0 zIG
 simp (maxSteps := 2000000) only [zAE, List.set_cons_succ, List.set_cons_zero, List.map_cons, List.map_nil, zAD, zAb, ioOf, List.length_cons, List.length_nil, Nat.reduceAdd, Nat.reduceSub, List.replicate, List.cons_append, List.nil_append]
 try simp (maxSteps := 2000000) only [go_sem]
 repeat with_reducible refine zAd ?_
 intro bw
 refine yKa (fun bm => ?_)
 try simp (maxSteps := 2000000) only [go_sem]
 repeat with_reducible refine zAd ?_
 refine zAn (fun x : Nat × List (Int × Int) => [(24, .pv (iv x.1)), (20, .ov (.one (yFf bm x.2))), (163, .ov (.one (.os (some bw) zCe 5 (zET d.length (stF d x.1))))), (5, .un), (6, .un), (7, .un), (8, .un), (9, .un), (10, .un), (25, .un), (43, .un), (72, .un), (91, .un), (107, .un), (164, .un), (165, .un), (166, .un), (167, .un), (168, .un)]) (fun x : Nat × List (Int × Int) => d.length - x.1) (fun x : Nat × List (Int × Int) => x.1 ≤ d.length ∧ ∀ u, yCw x.2 u = (zAK d u x.1).getLast?) ((0, [])) ?_ ⟨Nat.zero_le _, fun u => rfl⟩ ?_
 focus (simp (maxSteps := 2000000) only [go_sem, zAf, zAk, zAu, zAg]; all_goals (repeat' (first | exact trivial | exact zAl (by omega) | exact zAh rfl | exact zAs rfl | exact zAm | exact le_refl _ | refine And.intro ?_ ?_)))
 ·refine zAs ?_
  rw [← yKd]
 rintro ⟨i, ml⟩ ⟨hi, hml⟩
 simp only at hi hml
 try simp (maxSteps := 2000000) only [go_sem]
 repeat with_reducible refine zAd ?_
 refine zAc (by rfl) trivial (fun g1 => ?_) (fun g1 => ?_)
 ·have hil : i < d.length := by simpa using g1
  have hv := zA5 d i hil
  rw [ndV] at hv
  obtain ⟨u, hu⟩ : ∃ u, u = zA2 d i := ⟨_, rfl⟩
  have hup : (d.getD i default).up = u := hu.symm
  rw [hup] at hv
  have hub := zBe d3 i hil
  rw [← hu] at hub
  have hget := fun g => zC2 hil g
  obtain ⟨U, hU⟩ : ∃ U, U = zA0 d i i := ⟨_, rfl⟩
  obtain ⟨K, hK⟩ : ∃ K, K = (zAK d i i).length := ⟨_, rfl⟩
  have hst : stF d i i = zJm 0 0 0 U K := by simp [stF, hU, hK]
  try simp (maxSteps := 2000000) only [go_sem, hv, hget, hst, zJm]
  repeat with_reducible refine zAd ?_
  refine yKb rfl rfl rfl ?_
  have hgi := hml u
  cases hlast : (zAK d u i).getLast? with
  | none =>
   rw [hlast] at hgi
   have hahd : ahd d i = -1 := by rw [ahd, ← hu, hlast]; rfl
   have hplc : plc d i = 1 := by
    rw [List.getLast?_eq_none_iff] at hlast
    rw [plc, ← hu, hlast]; rfl
   try simp (maxSteps := 2000000) only [go_sem, hgi, Option.isSome_none, Option.getD_none]
   repeat with_reducible refine zAd ?_
   refine zAc (by rfl) trivial (fun g2 => ?_) (fun g2 => ?_)
   ·simp at g2
   try simp (maxSteps := 2000000) only [go_sem, hv, hget, hst, zJm]
   repeat with_reducible refine zAd ?_
   refine yIT rfl rfl rfl rfl (by decide) ?_
   try simp (maxSteps := 2000000) only [go_sem, hv, hget, hst, zJm]
   repeat with_reducible refine zAd ?_
   refine zAc (by rfl) trivial (fun g3 => ?_) (fun g3 => ?_)
   ·simp at g3
   try simp (maxSteps := 2000000) only [go_sem, hv, hget, hst, zJm]
   repeat with_reducible refine zAd ?_
   refine zAc (by rfl) trivial (fun g4 => ?_) (fun g4 => ?_)
   ·have hu0 : 0 ≤ u := by simpa using g4
    obtain ⟨q, rfl⟩ : ∃ q : Nat, u = q := ⟨u.toNat, by omega⟩
    have hqi : ¬ q = i := by omega
    have hql : q < d.length := by omega
    have hgq := fun g => zC2 hql g
    have hstq : stF d i q = zJm (if q < i then plc d q else 0) 0 (if q < i then ahd d q else 0) (zA0 d q i) (zAK d q i).length := rfl
    have hkl := zD1 (d := d) (n := q) i
    try simp (maxSteps := 2000000) only [go_sem, hgq, hqi, hstq, zJm]
    repeat with_reducible refine zAd ?_
    refine zAn (fun k : Int => [(10, .pv (iv k)), (163, .ov (.one (.os (some bw) zCe 5 (zET d.length (inF d i (q : Int) k))))), (107, .un)]) (fun k : Int => (k + 1).toNat) (fun k : Int => -1 ≤ k ∧ k < i ∧ (0 ≤ k → k ∈ C d (q : Int))) ((q : Int)) ?_ ⟨by omega, by omega, fun _ => by rw [zJn d3 hql]; exact List.mem_cons_self⟩ ?_
    focus (simp (maxSteps := 2000000) only [go_sem, zAf, zAk, zAu, zAg]; all_goals (repeat' (first | exact trivial | exact zAl (by omega) | exact zAh rfl | exact zAs rfl | exact zAm | exact le_refl _ | refine And.intro ?_ ?_)))
    ·refine zAs ?_
     congr 3
     refine zA1 fun j hj => ?_
     rw [zLy d3 (by omega)]
     by_cases hjq : j = q
     ·subst hjq
      have hkj : zAK d j (i + 1) = zAK d j i ++ [(i : Int)] := by rw [zAP, if_pos hu.symm]
      rw [hkj, List.length_append]
      have e1 : j < i := by omega
      have e2 : j < i + 1 := by omega
      simp [zJm, e1, e2]
     ·rw [if_neg hjq]
      have hkj : zAK d j (i + 1) = zAK d j i := by rw [zAP, if_neg (by rw [← hu]; omega)]
      rw [hkj]
      by_cases hji : j = i
      ·subst hji
       rw [if_pos rfl, if_pos (by omega), if_pos (by omega), hplc, hahd, hU, hK]
      ·simp only [if_neg hji, stF]
       have e : (j < i + 1) ↔ (j < i) := by omega
       simp only [e]
    rintro k ⟨hk0, hki, hkc⟩
    try simp (maxSteps := 2000000) only [go_sem]
    repeat with_reducible refine zAd ?_
    refine zAc (by rfl) trivial (fun g5 => ?_) (fun g5 => ?_)
    ·have hk1 : 0 ≤ k := by simpa using g5
     obtain ⟨q2, rfl⟩ : ∃ q2 : Nat, k = q2 := ⟨k.toNat, by omega⟩
     have hql2 : q2 < d.length := by omega
     have hqu := zBe d3 q2 hql2
     have hqv := zA5 d q2 hql2
     rw [ndV] at hqv
     have hgq := fun g => zC2 hql2 g
     have hkq := hkc hk1
     have hinq : inF d i (q : Int) q2 q2 = zJm (if q2 < i + 1 then plc d q2 else 0) 0 (if q2 < i + 1 then ahd d q2 else 0) (zA0 d q2 i + (if (C d (q : Int)).contains (q2 : Int) && decide ((q2 : Int) < q2) then 1 else 0)) (zAK d q2 (i + 1)).length := rfl
     obtain ⟨V, hV⟩ : ∃ V, V = zA0 d q2 i + (if (C d (q : Int)).contains (q2 : Int) && decide ((q2 : Int) < q2) then 1 else 0) := ⟨_, rfl⟩
     have hVb : 0 ≤ V ∧ V ≤ i + 1 := by
      have := zEX (d := d) (n := q2) i
      rw [hV]; split <;> omega
     rw [← hV] at hinq
     have hinf := zOt d3 (i := i) (by omega : (q : Int) < d.length) hkq
     rw [← hV] at hinf
     try simp (maxSteps := 2000000) only [go_sem, hgq, hinq, zJm, hqv]
     repeat with_reducible refine zAd ?_
     refine ⟨zA2 d q2, by omega, ⟨by omega, by omega, fun h0 => ?_⟩, ?_⟩
     ·refine yHc d3 q hql hkq ?_
      rw [zJn d3 hql2]
      obtain ⟨v, hv2⟩ : ∃ v : Nat, zA2 d q2 = v := ⟨(zA2 d q2).toNat, by omega⟩
      rw [hv2, zJn d3 (by omega : v < d.length)]
      exact List.mem_cons_of_mem _ (List.mem_cons_self)
     ·simp (maxSteps := 2000000) only [go_sem, zAf, zAk, zAu, zAg]
      all_goals (repeat' (first | exact trivial | exact zAl (by omega) | exact zAh rfl | exact zAs rfl | exact zAm | exact le_refl _ | refine And.intro ?_ ?_))
      all_goals first | exact zAl rfl | skip
      refine zAs ?_
      congr 3
      refine zA1 fun j hj => ?_
      rw [hinf j]
    ·have hk1 : k < 0 := by simp at g5; omega
     try simp (maxSteps := 2000000) only [go_sem]
     repeat with_reducible refine zAd ?_
     refine ⟨(i + 1, yDY ml (q : Int) i), by simp only; omega, ⟨by simp only; omega, fun w => ?_⟩, ?_⟩
     ·simp only
      rw [zLl, hml w, zAP, ← hu]
      by_cases hw : w = (q : Int)
      ·rw [if_pos hw, if_pos hw.symm]; simp
      ·rw [if_neg hw, if_neg (Ne.symm hw)]
     ·simp (maxSteps := 2000000) only [go_sem, zAf, zAk, zAu, zAg]
      all_goals (repeat' (first | exact trivial | exact zAl (by omega) | exact zAh rfl | exact zAs rfl | exact zAm | exact le_refl _ | refine And.intro ?_ ?_))
      refine zAs ?_
      congr 3
      exact zA1 fun j _ => zVX hu hk1 j
   ·have hu0 : u < 0 := by simp at g4; omega
    have hC : C d u = [] := yFi d3 hu0
    try simp (maxSteps := 2000000) only [go_sem]
    repeat with_reducible refine zAd ?_
    refine zAn (fun k : Int => [(10, .pv (iv k)), (163, .ov (.one (.os (some bw) zCe 5 (zET d.length (inF d i u k))))), (107, .un)]) (fun k : Int => (k + 1).toNat) (fun k : Int => -1 ≤ k ∧ k < i ∧ (0 ≤ k → k ∈ C d u)) (u) ?_ ⟨by omega, by omega, fun h => by omega⟩ ?_
    focus (simp (maxSteps := 2000000) only [go_sem, zAf, zAk, zAu, zAg]; all_goals (repeat' (first | exact trivial | exact zAl (by omega) | exact zAh rfl | exact zAs rfl | exact zAm | exact le_refl _ | refine And.intro ?_ ?_)))
    ·refine zAs ?_
     congr 3
     refine zA1 fun j hj => ?_
     rw [zLy d3 (by omega)]
     have hkj : zAK d j (i + 1) = zAK d j i := by rw [zAP, if_neg (by rw [← hu]; omega)]
     rw [hkj]
     by_cases hji : j = i
     ·subst hji
      rw [if_pos rfl, if_pos (by omega), if_pos (by omega), hplc, hahd, hU, hK]
     ·simp only [if_neg hji, stF]
      have e : (j < i + 1) ↔ (j < i) := by omega
      simp only [e]
    rintro k ⟨hk0, hki, hkc⟩
    try simp (maxSteps := 2000000) only [go_sem]
    repeat with_reducible refine zAd ?_
    refine zAc (by rfl) trivial (fun g5 => ?_) (fun g5 => ?_)
    ·have hk1 : 0 ≤ k := by simpa using g5
     obtain ⟨q2, rfl⟩ : ∃ q2 : Nat, k = q2 := ⟨k.toNat, by omega⟩
     have hql2 : q2 < d.length := by omega
     have hqu := zBe d3 q2 hql2
     have hqv := zA5 d q2 hql2
     rw [ndV] at hqv
     have hgq := fun g => zC2 hql2 g
     have hkq := hkc hk1
     have hinq : inF d i u q2 q2 = zJm (if q2 < i + 1 then plc d q2 else 0) 0 (if q2 < i + 1 then ahd d q2 else 0) (zA0 d q2 i + (if (C d u).contains (q2 : Int) && decide ((q2 : Int) < q2) then 1 else 0)) (zAK d q2 (i + 1)).length := rfl
     obtain ⟨V, hV⟩ : ∃ V, V = zA0 d q2 i + (if (C d u).contains (q2 : Int) && decide ((q2 : Int) < q2) then 1 else 0) := ⟨_, rfl⟩
     have hVb : 0 ≤ V ∧ V ≤ i + 1 := by
      have := zEX (d := d) (n := q2) i
      rw [hV]; split <;> omega
     rw [← hV] at hinq
     have hinf := zOt d3 (i := i) (by omega : u < d.length) hkq
     rw [← hV] at hinf
     try simp (maxSteps := 2000000) only [go_sem, hgq, hinq, zJm, hqv]
     repeat with_reducible refine zAd ?_
     refine ⟨zA2 d q2, by omega, ⟨by omega, by omega, fun h0 => ?_⟩, ?_⟩
     ·rw [hC] at hkq; cases hkq
     ·simp (maxSteps := 2000000) only [go_sem, zAf, zAk, zAu, zAg]
      all_goals (repeat' (first | exact trivial | exact zAl (by omega) | exact zAh rfl | exact zAs rfl | exact zAm | exact le_refl _ | refine And.intro ?_ ?_))
      all_goals first | exact zAl rfl | skip
      refine zAs ?_
      congr 3
      refine zA1 fun j hj => ?_
      rw [hinf j]
    ·have hk1 : k < 0 := by simp at g5; omega
     try simp (maxSteps := 2000000) only [go_sem]
     repeat with_reducible refine zAd ?_
     refine ⟨(i + 1, yDY ml u i), by simp only; omega, ⟨by simp only; omega, fun w => ?_⟩, ?_⟩
     ·simp only
      rw [zLl, hml w, zAP, ← hu]
      by_cases hw : w = u
      ·rw [if_pos hw, if_pos hw.symm]; simp
      ·rw [if_neg hw, if_neg (Ne.symm hw)]
     ·simp (maxSteps := 2000000) only [go_sem, zAf, zAk, zAu, zAg]
      all_goals (repeat' (first | exact trivial | exact zAl (by omega) | exact zAh rfl | exact zAs rfl | exact zAm | exact le_refl _ | refine And.intro ?_ ?_))
      refine zAs ?_
      congr 3
      exact zA1 fun j _ => zVX hu hk1 j
  | some p =>
   rw [hlast] at hgi
   obtain ⟨m, hmi, rfl, hmu, hkm⟩ := zGH hlast
   have hahd : ahd d i = m := by rw [ahd, ← hu, hlast]; rfl
   have hplc : plc d i = plc d m + 1 := by
    rw [plc, ← hu, hkm, plc, hmu, List.length_append]
    simp
   have hml2 : m < d.length := by omega
   have hmi' : ¬ m = i := by omega
   have hgm := fun g => zC2 hml2 g
   have hstm : stF d i m = zJm (plc d m) 0 (ahd d m) (zA0 d m i) (zAK d m i).length := by simp [stF, hmi]
   have hplb : 1 ≤ plc d m ∧ plc d m ≤ 65 := by
    have := zD1 (d := d) (n := zA2 d m) m
    rw [plc]; omega
   try simp (maxSteps := 2000000) only [go_sem, hgi, Option.isSome_some, Option.getD_some]
   repeat with_reducible refine zAd ?_
   refine zAc (by rfl) trivial (fun g2 => ?_) (fun g2 => ?_)
   ·try simp (maxSteps := 2000000) only [go_sem, hv, hget, hst, zJm]
    repeat with_reducible refine zAd ?_
    refine yIT rfl rfl rfl rfl (by decide) ?_
    try simp (maxSteps := 2000000) only [go_sem, hv, hget, hst, zJm]
    repeat with_reducible refine zAd ?_
    refine zAc (by rfl) trivial (fun g3 => ?_) (fun g3 => ?_)
    ·try simp (maxSteps := 2000000) only [go_sem, hv, hget, hst, zJm, hgm, hmi', hstm, Int.toNat_natCast]
     repeat with_reducible refine zAd ?_
     refine zAc (by rfl) trivial (fun g4 => ?_) (fun g4 => ?_)
     ·have hu0 : 0 ≤ u := by simpa using g4
      obtain ⟨q, rfl⟩ : ∃ q : Nat, u = q := ⟨u.toNat, by omega⟩
      have hqi : ¬ q = i := by omega
      have hql : q < d.length := by omega
      have hgq := fun g => zC2 hql g
      have hstq : stF d i q = zJm (if q < i then plc d q else 0) 0 (if q < i then ahd d q else 0) (zA0 d q i) (zAK d q i).length := rfl
      have hkl := zD1 (d := d) (n := q) i
      try simp (maxSteps := 2000000) only [go_sem, hgq, hqi, hstq, zJm]
      repeat with_reducible refine zAd ?_
      refine zAn (fun k : Int => [(10, .pv (iv k)), (163, .ov (.one (.os (some bw) zCe 5 (zET d.length (inF d i (q : Int) k))))), (107, .un)]) (fun k : Int => (k + 1).toNat) (fun k : Int => -1 ≤ k ∧ k < i ∧ (0 ≤ k → k ∈ C d (q : Int))) ((q : Int)) ?_ ⟨by omega, by omega, fun _ => by rw [zJn d3 hql]; exact List.mem_cons_self⟩ ?_
      focus (simp (maxSteps := 2000000) only [go_sem, zAf, zAk, zAu, zAg]; all_goals (repeat' (first | exact trivial | exact zAl (by omega) | exact zAh rfl | exact zAs rfl | exact zAm | exact le_refl _ | refine And.intro ?_ ?_)))
      ·refine zAs ?_
       congr 3
       refine zA1 fun j hj => ?_
       rw [zLy d3 (by omega)]
       by_cases hjq : j = q
       ·subst hjq
        have hkj : zAK d j (i + 1) = zAK d j i ++ [(i : Int)] := by rw [zAP, if_pos hu.symm]
        rw [hkj, List.length_append]
        have e1 : j < i := by omega
        have e2 : j < i + 1 := by omega
        simp [zJm, e1, e2]
       ·rw [if_neg hjq]
        have hkj : zAK d j (i + 1) = zAK d j i := by rw [zAP, if_neg (by rw [← hu]; omega)]
        rw [hkj]
        by_cases hji : j = i
        ·subst hji
         rw [if_pos rfl, if_pos (by omega), if_pos (by omega), hplc, hahd, hU, hK]
        ·simp only [if_neg hji, stF]
         have e : (j < i + 1) ↔ (j < i) := by omega
         simp only [e]
      rintro k ⟨hk0, hki, hkc⟩
      try simp (maxSteps := 2000000) only [go_sem]
      repeat with_reducible refine zAd ?_
      refine zAc (by rfl) trivial (fun g5 => ?_) (fun g5 => ?_)
      ·have hk1 : 0 ≤ k := by simpa using g5
       obtain ⟨q2, rfl⟩ : ∃ q2 : Nat, k = q2 := ⟨k.toNat, by omega⟩
       have hql2 : q2 < d.length := by omega
       have hqu := zBe d3 q2 hql2
       have hqv := zA5 d q2 hql2
       rw [ndV] at hqv
       have hgq := fun g => zC2 hql2 g
       have hkq := hkc hk1
       have hinq : inF d i (q : Int) q2 q2 = zJm (if q2 < i + 1 then plc d q2 else 0) 0 (if q2 < i + 1 then ahd d q2 else 0) (zA0 d q2 i + (if (C d (q : Int)).contains (q2 : Int) && decide ((q2 : Int) < q2) then 1 else 0)) (zAK d q2 (i + 1)).length := rfl
       obtain ⟨V, hV⟩ : ∃ V, V = zA0 d q2 i + (if (C d (q : Int)).contains (q2 : Int) && decide ((q2 : Int) < q2) then 1 else 0) := ⟨_, rfl⟩
       have hVb : 0 ≤ V ∧ V ≤ i + 1 := by
        have := zEX (d := d) (n := q2) i
        rw [hV]; split <;> omega
       rw [← hV] at hinq
       have hinf := zOt d3 (i := i) (by omega : (q : Int) < d.length) hkq
       rw [← hV] at hinf
       try simp (maxSteps := 2000000) only [go_sem, hgq, hinq, zJm, hqv]
       repeat with_reducible refine zAd ?_
       refine ⟨zA2 d q2, by omega, ⟨by omega, by omega, fun h0 => ?_⟩, ?_⟩
       ·refine yHc d3 q hql hkq ?_
        rw [zJn d3 hql2]
        obtain ⟨v, hv2⟩ : ∃ v : Nat, zA2 d q2 = v := ⟨(zA2 d q2).toNat, by omega⟩
        rw [hv2, zJn d3 (by omega : v < d.length)]
        exact List.mem_cons_of_mem _ (List.mem_cons_self)
       ·simp (maxSteps := 2000000) only [go_sem, zAf, zAk, zAu, zAg]
        all_goals (repeat' (first | exact trivial | exact zAl (by omega) | exact zAh rfl | exact zAs rfl | exact zAm | exact le_refl _ | refine And.intro ?_ ?_))
        all_goals first | exact zAl rfl | skip
        refine zAs ?_
        congr 3
        refine zA1 fun j hj => ?_
        rw [hinf j]
      ·have hk1 : k < 0 := by simp at g5; omega
       try simp (maxSteps := 2000000) only [go_sem]
       repeat with_reducible refine zAd ?_
       refine ⟨(i + 1, yDY ml (q : Int) i), by simp only; omega, ⟨by simp only; omega, fun w => ?_⟩, ?_⟩
       ·simp only
        rw [zLl, hml w, zAP, ← hu]
        by_cases hw : w = (q : Int)
        ·rw [if_pos hw, if_pos hw.symm]; simp
        ·rw [if_neg hw, if_neg (Ne.symm hw)]
       ·simp (maxSteps := 2000000) only [go_sem, zAf, zAk, zAu, zAg]
        all_goals (repeat' (first | exact trivial | exact zAl (by omega) | exact zAh rfl | exact zAs rfl | exact zAm | exact le_refl _ | refine And.intro ?_ ?_))
        refine zAs ?_
        congr 3
        exact zA1 fun j _ => zVX hu hk1 j
     ·have hu0 : u < 0 := by simp at g4; omega
      have hC : C d u = [] := yFi d3 hu0
      try simp (maxSteps := 2000000) only [go_sem]
      repeat with_reducible refine zAd ?_
      refine zAn (fun k : Int => [(10, .pv (iv k)), (163, .ov (.one (.os (some bw) zCe 5 (zET d.length (inF d i u k))))), (107, .un)]) (fun k : Int => (k + 1).toNat) (fun k : Int => -1 ≤ k ∧ k < i ∧ (0 ≤ k → k ∈ C d u)) (u) ?_ ⟨by omega, by omega, fun h => by omega⟩ ?_
      focus (simp (maxSteps := 2000000) only [go_sem, zAf, zAk, zAu, zAg]; all_goals (repeat' (first | exact trivial | exact zAl (by omega) | exact zAh rfl | exact zAs rfl | exact zAm | exact le_refl _ | refine And.intro ?_ ?_)))
      ·refine zAs ?_
       congr 3
       refine zA1 fun j hj => ?_
       rw [zLy d3 (by omega)]
       have hkj : zAK d j (i + 1) = zAK d j i := by rw [zAP, if_neg (by rw [← hu]; omega)]
       rw [hkj]
       by_cases hji : j = i
       ·subst hji
        rw [if_pos rfl, if_pos (by omega), if_pos (by omega), hplc, hahd, hU, hK]
       ·simp only [if_neg hji, stF]
        have e : (j < i + 1) ↔ (j < i) := by omega
        simp only [e]
      rintro k ⟨hk0, hki, hkc⟩
      try simp (maxSteps := 2000000) only [go_sem]
      repeat with_reducible refine zAd ?_
      refine zAc (by rfl) trivial (fun g5 => ?_) (fun g5 => ?_)
      ·have hk1 : 0 ≤ k := by simpa using g5
       obtain ⟨q2, rfl⟩ : ∃ q2 : Nat, k = q2 := ⟨k.toNat, by omega⟩
       have hql2 : q2 < d.length := by omega
       have hqu := zBe d3 q2 hql2
       have hqv := zA5 d q2 hql2
       rw [ndV] at hqv
       have hgq := fun g => zC2 hql2 g
       have hkq := hkc hk1
       have hinq : inF d i u q2 q2 = zJm (if q2 < i + 1 then plc d q2 else 0) 0 (if q2 < i + 1 then ahd d q2 else 0) (zA0 d q2 i + (if (C d u).contains (q2 : Int) && decide ((q2 : Int) < q2) then 1 else 0)) (zAK d q2 (i + 1)).length := rfl
       obtain ⟨V, hV⟩ : ∃ V, V = zA0 d q2 i + (if (C d u).contains (q2 : Int) && decide ((q2 : Int) < q2) then 1 else 0) := ⟨_, rfl⟩
       have hVb : 0 ≤ V ∧ V ≤ i + 1 := by
        have := zEX (d := d) (n := q2) i
        rw [hV]; split <;> omega
       rw [← hV] at hinq
       have hinf := zOt d3 (i := i) (by omega : u < d.length) hkq
       rw [← hV] at hinf
       try simp (maxSteps := 2000000) only [go_sem, hgq, hinq, zJm, hqv]
       repeat with_reducible refine zAd ?_
       refine ⟨zA2 d q2, by omega, ⟨by omega, by omega, fun h0 => ?_⟩, ?_⟩
       ·rw [hC] at hkq; cases hkq
       ·simp (maxSteps := 2000000) only [go_sem, zAf, zAk, zAu, zAg]
        all_goals (repeat' (first | exact trivial | exact zAl (by omega) | exact zAh rfl | exact zAs rfl | exact zAm | exact le_refl _ | refine And.intro ?_ ?_))
        all_goals first | exact zAl rfl | skip
        refine zAs ?_
        congr 3
        refine zA1 fun j hj => ?_
        rw [hinf j]
      ·have hk1 : k < 0 := by simp at g5; omega
       try simp (maxSteps := 2000000) only [go_sem]
       repeat with_reducible refine zAd ?_
       refine ⟨(i + 1, yDY ml u i), by simp only; omega, ⟨by simp only; omega, fun w => ?_⟩, ?_⟩
       ·simp only
        rw [zLl, hml w, zAP, ← hu]
        by_cases hw : w = u
        ·rw [if_pos hw, if_pos hw.symm]; simp
        ·rw [if_neg hw, if_neg (Ne.symm hw)]
       ·simp (maxSteps := 2000000) only [go_sem, zAf, zAk, zAu, zAg]
        all_goals (repeat' (first | exact trivial | exact zAl (by omega) | exact zAh rfl | exact zAs rfl | exact zAm | exact le_refl _ | refine And.intro ?_ ?_))
        refine zAs ?_
        congr 3
        exact zA1 fun j _ => zVX hu hk1 j
    ·exact absurd g3 (by simp)
   ·simp at g2
 have hi2 : i = d.length := by simp at g1; omega
 subst hi2
 rw [yD4]
 try simp (maxSteps := 2000000) only [go_sem]
 repeat with_reducible refine zAd ?_
 refine zAn (fun i : Nat => [(129, .pv (iv i)), (163, .ov (.one (.os (some bw) zCe 5 (zET d.length (fiF d i))))), (11, .un), (12, .un), (130, .un), (143, .un), (169, .un), (170, .un), (171, .un), (172, .un), (173, .un)]) (fun i : Nat => d.length - i) (fun i : Nat => i ≤ d.length) (0) ?_ (Nat.zero_le _) ?_
 focus (simp (maxSteps := 2000000) only [go_sem, zAf, zAk, zAu, zAg]; all_goals (repeat' (first | exact trivial | exact zAl (by omega) | exact zAh rfl | exact zAs rfl | exact zAm | exact le_refl _ | refine And.intro ?_ ?_)))
 intro i hi
 try simp (maxSteps := 2000000) only [go_sem]
 repeat with_reducible refine zAd ?_
 refine zAc (by rfl) trivial (fun g6 => ?_) (fun g6 => ?_)
 ·have hil : i < d.length := by simpa using g6
  have hv := zA5 d i hil
  rw [ndV] at hv
  obtain ⟨u, hu⟩ : ∃ u, u = zA2 d i := ⟨_, rfl⟩
  have hup : (d.getD i default).up = u := hu.symm
  rw [hup] at hv
  have hub := zBe d3 i hil
  rw [← hu] at hub
  have hget := fun g => zC2 hil g
  have hst : fiF d i i = zJm (plc d i) 0 (ahd d i) (zCV d i) (zEy d i).length := by simp [fiF]
  try simp (maxSteps := 2000000) only [go_sem, hv, hget, hst, zJm]
  repeat with_reducible refine zAd ?_
  refine zAc (by rfl) trivial (fun g7 => ?_) (fun g7 => ?_)
  ·have hu0 : 0 ≤ u := by simpa using g7
   obtain ⟨q, rfl⟩ : ∃ q : Nat, u = q := ⟨u.toNat, by omega⟩
   have hqi : ¬ q = i := by omega
   have hql : q < d.length := by omega
   have hgq := fun g => zC2 hql g
   have hstq : fiF d i q = zJm (plc d q) (if q < i then ofN d q else 0) (ahd d q) (zCV d q) (zEy d q).length := rfl
   try simp (maxSteps := 2000000) only [go_sem, hgq, hqi, hstq, hget, hst, zJm]
   repeat with_reducible refine zAd ?_
   refine ⟨i + 1, by omega, by omega, ?_⟩
   simp (maxSteps := 2000000) only [go_sem, zAf, zAk, zAu, zAg]
   all_goals (repeat' (first | exact trivial | exact zAl (by omega) | exact zAh rfl | exact zAs rfl | exact zAm | exact le_refl _ | refine And.intro ?_ ?_))
   refine zAs ?_
   congr 3
   refine zA1 fun j hj => ?_
   by_cases hji : j = i
   ·subst hji
    simp [fiF, ofN, ← hu]
   ·have e : (j < i + 1) ↔ (j < i) := by omega
    simp [fiF, hji, e]
  ·have hu0 : ¬ 0 ≤ u := by simpa using g7
   try simp (maxSteps := 2000000) only [go_sem]
   repeat with_reducible refine zAd ?_
   refine ⟨i + 1, by omega, by omega, ?_⟩
   simp (maxSteps := 2000000) only [go_sem, zAf, zAk, zAu, zAg]
   all_goals (repeat' (first | exact trivial | exact zAl (by omega) | exact zAh rfl | exact zAs rfl | exact zAm | exact le_refl _ | refine And.intro ?_ ?_))
   refine zAs ?_
   congr 3
   refine zA1 fun j hj => ?_
   by_cases hji : j = i
   ·subst hji
    have hu1 : ¬ 0 ≤ zA2 d j := by rw [← hu]; exact hu0
    simp [fiF, ofN, hu1]
   ·have e : (j < i + 1) ↔ (j < i) := by omega
    simp [fiF, hji, e]
 ·have hi2 : i = d.length := by simp at g6; omega
  subst hi2
  have hfz := fun b e => yFj d b e
  try simp (maxSteps := 2000000) only [go_sem, hfz]
  repeat with_reducible refine zAd ?_
  exact zAe rfl trivial (.inl rfl)
end Go.Hx
end

section
set_option maxRecDepth 100000
set_option linter.unusedSimpArgs false
set_option maxHeartbeats 2000000
namespace Go.Hx
open Go.Proofs
variable [Glob]
attribute [local go_sem] zAz zAA zAy zAt ndV zAw zAp zAU zBl zBz zBy
attribute [local go_sem] reduceCtorEq Nat.reduceAdd Nat.reduceEqDiff reduceIte Nat.reduceLeDiff Nat.reduceLT Nat.reduceSub
def zYC {α : Type} (p : α → Bool) (l : List α) : Int := if l.any p then (l.findIdx p : Int) else -1
theorem zVY {α : Type} (p : α → Bool) (l : List α) : decide (0 ≤ zYC p l) = l.any p := by
 unfold zYC
 cases h : l.any p <;> simp
theorem zLz {α : Type} {d : α} {p : α → Bool} {l : List α} (h : ∀ k, k < l.length → p (l.getD k d) = false) : zYC p l = -1 := by
 unfold zYC
 have : l.any p = false := by
  rw [List.any_eq_false]
  intro x hx
  obtain ⟨k, hk, rfl⟩ := List.getElem_of_mem hx
  have := h k hk
  simp [hk] at this
  simp [this]
 rw [this]; rfl
theorem zLA {α : Type} {d : α} {p : α → Bool} {l : List α} {i : Nat} (hi : i < l.length) (h1 : p (l.getD i d) = true) (h : ∀ k, k < i → p (l.getD k d) = false) : zYC p l = i := by
 unfold zYC
 have h2 : p l[i] = true := by simpa [hi] using h1
 have : l.any p = true := List.any_eq_true.2 ⟨l[i], List.getElem_mem hi, h2⟩
 rw [if_pos this, (List.findIdx_eq hi).2 ⟨h2, fun j hj => by have := h j hj; simpa [show j < l.length by omega] using this⟩]
theorem yAv (f : Nat) (caps : List PV) (l : List Pt) (p : Pt → Bool) (h : ∀ i, i < l.length → Contract Tryz.prog f ([.val (.agg [.sl 2 (zLP (l.getD i default).steps), .sl 1 (zB0 (l.getD i default).links)])] ++ caps.map fun c => .val (.one c)) { res := .val (bv (p (l.getD i default))) }) :
  Contract Tryz.prog zCa [.val (.one (.sl 2 (zLQ l))), .val (.one (.clo f caps))] { res := .val (iv (zYC p l)) } := by
 refine zGw (base := 0) ⟨Nat.le_of_ble_eq_true rfl, Nat.le_of_ble_eq_true rfl, Nat.le_of_ble_eq_true rfl, rfl⟩ (fun hfit => ?_)
 unfold F0 zBB
 simp (maxSteps := 2000000) only [zAE, List.set_cons_succ, List.set_cons_zero, List.map_cons, List.map_nil, zAD, zAb, ioOf, List.length_cons, List.length_nil, Nat.reduceAdd, Nat.reduceSub, List.replicate, List.cons_append, List.nil_append]
 try simp (maxSteps := 2000000) only [go_sem]
 repeat with_reducible refine zAd ?_
 have ha := zFZ (k := 2) hfit.1
 rw [zBl] at ha
 refine zAn (fun i : Nat => [(8, .pv (iv i)), (4, .un), (5, .un), (9, .un), (16, .un)]) (fun i : Nat => l.length - i) (fun i : Nat => i ≤ l.length ∧ ∀ k, k < i → p (l.getD k default) = false) (0) ?_ ⟨Nat.zero_le _, fun k hk => by omega⟩ ?_
 focus (simp (maxSteps := 2000000) only [go_sem, zAf, zAk, zAu, zAg]; all_goals (repeat' (first | exact trivial | exact zAl (by omega) | exact zAh rfl | exact zAs rfl | exact zAm | exact le_refl _ | refine And.intro ?_ ?_)))
 rintro i ⟨hi, hinv⟩
 try simp (maxSteps := 2000000) only [go_sem]
 repeat with_reducible refine zAd ?_
 refine zAc (by rfl) trivial (fun h2 => ?_) (fun h2 => ?_)
 ·have hil : i < l.length := by simp at h2; omega
  have e1 := zFA l i hil
  rw [zEw] at e1
  have hc := h i hil
  try simp (maxSteps := 2000000) only [go_sem, e1]
  repeat with_reducible refine zAd ?_
  refine zEg (by rfl) trivial (by repeat' constructor) (hc) ?_
  try simp (maxSteps := 2000000) only [go_sem]
  repeat with_reducible refine zAd ?_
  refine zAc (by rfl) trivial (fun h3 => ?_) (fun h3 => ?_)
  ·try simp (maxSteps := 2000000) only [go_sem]
   repeat with_reducible refine zAd ?_
   refine zAe rfl trivial (.inl ?_)
   congr 3
   exact zLA hil h3 hinv
  ·try simp (maxSteps := 2000000) only [go_sem]
   repeat with_reducible refine zAd ?_
   refine ⟨i + 1, by omega, ⟨by omega, fun k hk => ?_⟩, ?_⟩
   ·by_cases e : k = i
    ·rw [e]; exact h3
    ·exact hinv k (by omega)
   ·simp (maxSteps := 2000000) only [go_sem, zAf, zAk, zAu, zAg]
    all_goals (repeat' (first | exact trivial | exact zAl (by omega) | exact zAh rfl | exact zAs rfl | exact zAm | exact le_refl _ | refine And.intro ?_ ?_))
 ·have hil : i = l.length := by simp at h2; omega
  try simp (maxSteps := 2000000) only [go_sem]
  repeat with_reducible refine zAd ?_
  refine zAe rfl trivial (.inl ?_)
  congr 3
  exact zLz fun k hk => hinv k (by omega)
theorem yAw (f : Nat) (caps : List PV) (l : List Pt) (p : Pt → Bool) (h : ∀ i, i < l.length → Contract Tryz.prog f ([.val (.agg [.sl 2 (zLP (l.getD i default).steps), .sl 1 (zB0 (l.getD i default).links)])] ++ caps.map fun c => .val (.one c)) { res := .val (bv (p (l.getD i default))) }) :
  Contract Tryz.prog zBK [.val (.one (.sl 2 (zLQ l))), .val (.one (.clo f caps))] { res := .val (bv (l.any p)) } := by
 refine zFh (base := 0) ⟨Nat.le_of_ble_eq_true rfl, Nat.le_of_ble_eq_true rfl, Nat.le_of_ble_eq_true rfl, rfl⟩ (fun hfit => ?_)
 unfold F0 zBg
 simp (maxSteps := 2000000) only [zAE, List.set_cons_succ, List.set_cons_zero, List.map_cons, List.map_nil, zAD, zAb, ioOf, List.length_cons, List.length_nil, Nat.reduceAdd, Nat.reduceSub, List.replicate, List.cons_append, List.nil_append]
 try simp (maxSteps := 2000000) only [go_sem]
 repeat with_reducible refine zAd ?_
 refine zAi (by repeat' constructor) (yAv f caps l p h) ?_
 try simp (maxSteps := 2000000) only [go_sem]
 repeat with_reducible refine zAd ?_
 refine zAe rfl trivial (.inl ?_)
 congr 3
 rw [← zVY]
theorem yAx (f : Nat) (caps : List PV) (l : List Ts) (p : Ts → Bool) (h : ∀ i, i < l.length → Contract Tryz.prog f ([.val (.agg [bI (l.getD i default).kind, bS (l.getD i default).name, bS (l.getD i default).value, bI (l.getD i default).na, bI (l.getD i default).nb, .sl 2 (zLQ (l.getD i default).list)])] ++ caps.map fun c => .val (.one c)) { res := .val (bv (p (l.getD i default))) }) :
  Contract Tryz.prog zCb [.val (.one (.sl 6 (zWA l))), .val (.one (.clo f caps))] { res := .val (iv (zYC p l)) } := by
 refine zGG (base := 0) ⟨Nat.le_of_ble_eq_true rfl, Nat.le_of_ble_eq_true rfl, Nat.le_of_ble_eq_true rfl, rfl⟩ (fun hfit => ?_)
 unfold F0 zBC
 simp (maxSteps := 2000000) only [zAE, List.set_cons_succ, List.set_cons_zero, List.map_cons, List.map_nil, zAD, zAb, ioOf, List.length_cons, List.length_nil, Nat.reduceAdd, Nat.reduceSub, List.replicate, List.cons_append, List.nil_append]
 try simp (maxSteps := 2000000) only [go_sem]
 repeat with_reducible refine zAd ?_
 have ha := zFZ (k := 6) hfit.1
 rw [zBy] at ha
 refine zAn (fun i : Nat => [(8, .pv (iv i)), (4, .un), (5, .un), (9, .un), (16, .un)]) (fun i : Nat => l.length - i) (fun i : Nat => i ≤ l.length ∧ ∀ k, k < i → p (l.getD k default) = false) (0) ?_ ⟨Nat.zero_le _, fun k hk => by omega⟩ ?_
 focus (simp (maxSteps := 2000000) only [go_sem, zAf, zAk, zAu, zAg]; all_goals (repeat' (first | exact trivial | exact zAl (by omega) | exact zAh rfl | exact zAs rfl | exact zAm | exact le_refl _ | refine And.intro ?_ ?_)))
 rintro i ⟨hi, hinv⟩
 try simp (maxSteps := 2000000) only [go_sem]
 repeat with_reducible refine zAd ?_
 refine zAc (by rfl) trivial (fun h2 => ?_) (fun h2 => ?_)
 ·have hil : i < l.length := by simp at h2; omega
  have e1 := zD4 l i hil
  rw [zDw] at e1
  have hc := h i hil
  try simp (maxSteps := 2000000) only [go_sem, e1]
  repeat with_reducible refine zAd ?_
  refine zEg (by rfl) trivial (by repeat' constructor) (hc) ?_
  try simp (maxSteps := 2000000) only [go_sem]
  repeat with_reducible refine zAd ?_
  refine zAc (by rfl) trivial (fun h3 => ?_) (fun h3 => ?_)
  ·try simp (maxSteps := 2000000) only [go_sem]
   repeat with_reducible refine zAd ?_
   refine zAe rfl trivial (.inl ?_)
   congr 3
   exact zLA hil h3 hinv
  ·try simp (maxSteps := 2000000) only [go_sem]
   repeat with_reducible refine zAd ?_
   refine ⟨i + 1, by omega, ⟨by omega, fun k hk => ?_⟩, ?_⟩
   ·by_cases e : k = i
    ·rw [e]; exact h3
    ·exact hinv k (by omega)
   ·simp (maxSteps := 2000000) only [go_sem, zAf, zAk, zAu, zAg]
    all_goals (repeat' (first | exact trivial | exact zAl (by omega) | exact zAh rfl | exact zAs rfl | exact zAm | exact le_refl _ | refine And.intro ?_ ?_))
 ·have hil : i = l.length := by simp at h2; omega
  try simp (maxSteps := 2000000) only [go_sem]
  repeat with_reducible refine zAd ?_
  refine zAe rfl trivial (.inl ?_)
  congr 3
  exact zLz fun k hk => hinv k (by omega)
theorem yAy (f : Nat) (caps : List PV) (l : List Ts) (p : Ts → Bool) (h : ∀ i, i < l.length → Contract Tryz.prog f ([.val (.agg [bI (l.getD i default).kind, bS (l.getD i default).name, bS (l.getD i default).value, bI (l.getD i default).na, bI (l.getD i default).nb, .sl 2 (zLQ (l.getD i default).list)])] ++ caps.map fun c => .val (.one c)) { res := .val (bv (p (l.getD i default))) }) :
  Contract Tryz.prog zBL [.val (.one (.sl 6 (zWA l))), .val (.one (.clo f caps))] { res := .val (bv (l.any p)) } := by
 refine zFk (base := 0) ⟨Nat.le_of_ble_eq_true rfl, Nat.le_of_ble_eq_true rfl, Nat.le_of_ble_eq_true rfl, rfl⟩ (fun hfit => ?_)
 unfold F0 zBh
 simp (maxSteps := 2000000) only [zAE, List.set_cons_succ, List.set_cons_zero, List.map_cons, List.map_nil, zAD, zAb, ioOf, List.length_cons, List.length_nil, Nat.reduceAdd, Nat.reduceSub, List.replicate, List.cons_append, List.nil_append]
 try simp (maxSteps := 2000000) only [go_sem]
 repeat with_reducible refine zAd ?_
 refine zAi (by repeat' constructor) (yAx f caps l p h) ?_
 try simp (maxSteps := 2000000) only [go_sem]
 repeat with_reducible refine zAd ?_
 refine zAe rfl trivial (.inl ?_)
 congr 3
 rw [← zVY]
theorem yAz (f : Nat) (caps : List PV) (l : List (Bys × Bys)) (p : Bys × Bys → Bool) (h : ∀ i, i < l.length → Contract Tryz.prog f ([.val (.agg [bS (l.getD i default).1, bS (l.getD i default).2])] ++ caps.map fun c => .val (.one c)) { res := .val (bv (p (l.getD i default))) }) :
  Contract Tryz.prog zA3 [.val (.one (.sl 2 (yDm l))), .val (.one (.clo f caps))] { res := .val (iv (zYC p l)) } := by
 refine zDi (base := 0) ⟨Nat.le_of_ble_eq_true rfl, Nat.le_of_ble_eq_true rfl, Nat.le_of_ble_eq_true rfl, rfl⟩ (fun hfit => ?_)
 unfold F0 zA8
 simp (maxSteps := 2000000) only [zAE, List.set_cons_succ, List.set_cons_zero, List.map_cons, List.map_nil, zAD, zAb, ioOf, List.length_cons, List.length_nil, Nat.reduceAdd, Nat.reduceSub, List.replicate, List.cons_append, List.nil_append]
 try simp (maxSteps := 2000000) only [go_sem]
 repeat with_reducible refine zAd ?_
 have ha := zFZ (k := 2) hfit.1
 rw [zAy] at ha
 refine zAn (fun i : Nat => [(8, .pv (iv i)), (4, .un), (5, .un), (9, .un), (16, .un)]) (fun i : Nat => l.length - i) (fun i : Nat => i ≤ l.length ∧ ∀ k, k < i → p (l.getD k default) = false) (0) ?_ ⟨Nat.zero_le _, fun k hk => by omega⟩ ?_
 focus (simp (maxSteps := 2000000) only [go_sem, zAf, zAk, zAu, zAg]; all_goals (repeat' (first | exact trivial | exact zAl (by omega) | exact zAh rfl | exact zAs rfl | exact zAm | exact le_refl _ | refine And.intro ?_ ?_)))
 rintro i ⟨hi, hinv⟩
 try simp (maxSteps := 2000000) only [go_sem]
 repeat with_reducible refine zAd ?_
 refine zAc (by rfl) trivial (fun h2 => ?_) (fun h2 => ?_)
 ·have hil : i < l.length := by simp at h2; omega
  have e1 := zED l i hil
  have hc := h i hil
  try simp (maxSteps := 2000000) only [go_sem, e1]
  repeat with_reducible refine zAd ?_
  refine zEg (by rfl) trivial (by repeat' constructor) (hc) ?_
  try simp (maxSteps := 2000000) only [go_sem]
  repeat with_reducible refine zAd ?_
  refine zAc (by rfl) trivial (fun h3 => ?_) (fun h3 => ?_)
  ·try simp (maxSteps := 2000000) only [go_sem]
   repeat with_reducible refine zAd ?_
   refine zAe rfl trivial (.inl ?_)
   congr 3
   exact zLA hil h3 hinv
  ·try simp (maxSteps := 2000000) only [go_sem]
   repeat with_reducible refine zAd ?_
   refine ⟨i + 1, by omega, ⟨by omega, fun k hk => ?_⟩, ?_⟩
   ·by_cases e : k = i
    ·rw [e]; exact h3
    ·exact hinv k (by omega)
   ·simp (maxSteps := 2000000) only [go_sem, zAf, zAk, zAu, zAg]
    all_goals (repeat' (first | exact trivial | exact zAl (by omega) | exact zAh rfl | exact zAs rfl | exact zAm | exact le_refl _ | refine And.intro ?_ ?_))
 ·have hil : i = l.length := by simp at h2; omega
  try simp (maxSteps := 2000000) only [go_sem]
  repeat with_reducible refine zAd ?_
  refine zAe rfl trivial (.inl ?_)
  congr 3
  exact zLz fun k hk => hinv k (by omega)
theorem zSR (l : List Bys) (s : Bys) : Contract Tryz.prog zCu [.val (.one (.sl 1 (zTU l))), .val (sv s)] { res := .val (iv (zYC (fun c => decide (c = s)) l)) } := by
 refine zHp (base := 0) ⟨Nat.le_of_ble_eq_true rfl, Nat.le_of_ble_eq_true rfl, Nat.le_of_ble_eq_true rfl, rfl⟩ (fun hfit => ?_)
 unfold F0 zBZ
 simp (maxSteps := 2000000) only [zAE, List.set_cons_succ, List.set_cons_zero, List.map_cons, List.map_nil, zAD, zAb, ioOf, List.length_cons, List.length_nil, Nat.reduceAdd, Nat.reduceSub, List.replicate, List.cons_append, List.nil_append]
 try simp (maxSteps := 2000000) only [go_sem]
 repeat with_reducible refine zAd ?_
 have ha := zFZ (k := 1) hfit.1
 rw [zAA] at ha
 refine zAn (fun i : Nat => [(8, .pv (iv i)), (4, .un), (5, .un), (9, .un), (16, .un)]) (fun i : Nat => l.length - i) (fun i : Nat => i ≤ l.length ∧ ∀ k, k < i → (fun c => decide (c = s)) (l.getD k []) = false) (0) ?_ ⟨Nat.zero_le _, fun k hk => by omega⟩ ?_
 focus (simp (maxSteps := 2000000) only [go_sem, zAf, zAk, zAu, zAg]; all_goals (repeat' (first | exact trivial | exact zAl (by omega) | exact zAh rfl | exact zAs rfl | exact zAm | exact le_refl _ | refine And.intro ?_ ?_)))
 rintro i ⟨hi, hinv⟩
 try simp (maxSteps := 2000000) only [go_sem]
 repeat with_reducible refine zAd ?_
 refine zAc (by rfl) trivial (fun h2 => ?_) (fun h2 => ?_)
 ·have hil : i < l.length := by simp at h2; omega
  have e1 := zIA l i hil
  try simp (maxSteps := 2000000) only [go_sem, e1]
  repeat with_reducible refine zAd ?_
  refine zAc (by rfl) trivial (fun h3 => ?_) (fun h3 => ?_)
  ·try simp (maxSteps := 2000000) only [go_sem]
   repeat with_reducible refine zAd ?_
   refine zAe rfl trivial (.inl ?_)
   congr 3
   have h4 : l.getD i [] = s := (by simpa using h3 : s = l.getD i []).symm
   exact zLA (p := fun c => decide (c = s)) (d := []) hil (decide_eq_true h4) hinv
  ·try simp (maxSteps := 2000000) only [go_sem]
   repeat with_reducible refine zAd ?_
   have h4 : ¬ l.getD i [] = s := fun e => (by simpa using h3 : ¬ s = l.getD i []) e.symm
   refine ⟨i + 1, by omega, ⟨by omega, fun k hk => ?_⟩, ?_⟩
   ·by_cases e : k = i
    ·rw [e]; first | exact h4 | exact decide_eq_false h4
    ·first | exact hinv k (by omega) | exact of_decide_eq_false (hinv k (by omega))
   ·simp (maxSteps := 2000000) only [go_sem, zAf, zAk, zAu, zAg]
    all_goals (repeat' (first | exact trivial | exact zAl (by omega) | exact zAh rfl | exact zAs rfl | exact zAm | exact le_refl _ | refine And.intro ?_ ?_))
 ·have hil : i = l.length := by simp at h2; omega
  try simp (maxSteps := 2000000) only [go_sem]
  repeat with_reducible refine zAd ?_
  refine zAe rfl trivial (.inl ?_)
  congr 3
  exact zLz (d := []) (p := fun c => decide (c = s)) fun k hk => hinv k (by omega)
theorem zGI (l : List Bys) (s : Bys) : Contract Tryz.prog zBm [.val (.one (.sl 1 (zTU l))), .val (sv s)] { res := .val (bv (l.any fun c => decide (c = s))) } := by
 refine zF3 (base := 0) ⟨Nat.le_of_ble_eq_true rfl, Nat.le_of_ble_eq_true rfl, Nat.le_of_ble_eq_true rfl, rfl⟩ (fun hfit => ?_)
 unfold F0 zBs
 simp (maxSteps := 2000000) only [zAE, List.set_cons_succ, List.set_cons_zero, List.map_cons, List.map_nil, zAD, zAb, ioOf, List.length_cons, List.length_nil, Nat.reduceAdd, Nat.reduceSub, List.replicate, List.cons_append, List.nil_append]
 try simp (maxSteps := 2000000) only [go_sem]
 repeat with_reducible refine zAd ?_
 refine zAi (by repeat' constructor) (zSR l s) ?_
 try simp (maxSteps := 2000000) only [go_sem]
 repeat with_reducible refine zAd ?_
 refine zAe rfl trivial (.inl ?_)
 congr 3
 rw [← zVY]
end Go.Hx
end
