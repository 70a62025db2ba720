/-
  Walks of functions of the program over an abstract layer, and the laws that they use: each contract says what the function computes, for every input that its conditions let by. No other condition.
-/
import Derived.Test.YtjnagiaooecklabGreatDoorG8
import Derived.Test.YtjnagiaooecklabGreatDoorG10
import Derived.Test.YtjnagiaooecklabGreatDoorG12
import Derived.Test.YtjnagiaooecklabGreatDoorG13
import Derived.Shelf.Strings.SlTrimAscii
import Derived.Test.YtjnagiaooecklabGreatDoorG9
set_option linter.all false
section
set_option maxRecDepth 100000
set_option linter.unusedSimpArgs false
namespace Go.Hx
open Go.Proofs Go.RowKit
variable [Glob]
attribute [local go_sem] zAu zAr zAs zAk ndV zAo
attribute [local go_sem] reduceCtorEq Nat.reduceAdd Nat.reduceEqDiff reduceIte Nat.reduceLeDiff Nat.reduceLT Nat.reduceSub
theorem zSu {R : Nat → Prop} {w w' : World} (h : Below w.heap.size w w') : Pres R w w' := ⟨h.os, h.tape, h.output, h.size, fun b hb _ => h.block b hb⟩
theorem zWV {m : Mem} {w w' : World} (hm : MemOk m w) (h : Below w.heap.size w w') : MemOk m w' := fun b o u hu => by
 have h1 := hm b o u hu
 have h2 : b < w.heap.size := World.block_lt_of_cell? w _ h1
 rw [← h1]
 exact World.cell?_of_block (h.block b h2)
theorem zSv {R : Nat → Prop} {w w' : World} (h : Pres R w w') (hR : ∀ b, ¬ R b) : Below w.heap.size w w' := ⟨h.os, h.tape, h.output, h.size, fun b hb => h.block b hb (hR b)⟩
theorem zYf {m : Mem} {w w' : World} {avs : List AV} {us : List Value} {e : Ending} {x : PVal} {u : Value} (hm : MemOk m w) (h : Below w.heap.size w w') (he : e = .returned u) (hx : RpV m x u) (hio : ioB avs us = none) : yCM m w avs us { res := .val x } e w' :=
 ⟨m, m.le_refl, zWV hm h, zSu h, fun _ _ _ h => .inl h, (fun b hb => by rw [hio] at hb; cases hb), u, he, hx⟩
theorem zZj {w w' : World} (h : Below w.heap.size w w') (hG : Glob.ok w) : Glob.ok w' :=
 Glob.keep _ _ (fun b hb => h.block b (Nat.lt_of_lt_of_le hb (Glob.size _ hG))) hG
theorem yAE (s cs : Bys) : (Lib.trimS s cs).length ≤ s.length := by
 unfold Lib.trimS Lib.trimLeftS Lib.trimRightS
 refine Nat.le_trans (List.dropWhile_sublist _).length_le ?_
 rw [List.length_reverse]
 refine Nat.le_trans (List.dropWhile_sublist _).length_le ?_
 rw [List.length_reverse]
 exact Nat.le_refl _
theorem yAF {s : Bys} (h : s.length ≤ maxLen) : zE0 (mkS s) = true := by
 simp only [zE0]
 exact decide_eq_true (by simpa [ByteArray.size] using h)
theorem yCh {s : Bys} (h : zE0 (mkS s) = true) : s.length ≤ maxLen := by
 simp only [zE0, decide_eq_true_eq] at h
 simpa [ByteArray.size] using h
theorem zPZ (s cs : Bys) (hc : cs.length < 1000) (ha : cs.all (fun b => decide (b.toNat < 128)) = true) : Contract Tryz.prog zEB [.val (sv s), .val (sv cs)] { res := .val (sv (Lib.trimS s cs)) } := by
 refine ⟨by kernel_rfl, fun m w us hm hargs _ hG _ => ?_⟩
 obtain ⟨u1, us1, rfl, h1, u2, us2, rfl, h2, rfl⟩ := hargs
 obtain ⟨rfl, f1⟩ := h1
 obtain ⟨rfl, f2⟩ := h2
 have hs := yCh f1
 have hT := Any.strings_Trim_laid Tryz.l160 (by kernel_rfl) ⟨s.toArray⟩ ⟨cs.toArray⟩ w (by simpa [ByteArray.size, maxLen] using hs) (by simp [ByteArray.size]; omega) (ascii_of_all (by simpa using ha))
 change Calls Tryz.prog zEB _ _ _ at hT
 refine hT.mono fun e w' ⟨he, hb⟩ => zYf hm hb he ⟨by simp, ?_⟩ rfl
 exact yAF (Nat.le_trans (yAE s cs) hs)
theorem zDH (s : Bys) (g : Nat) (p : Nat → Bool) (hp : ∀ r, 128 ≤ r → p r = true) (eg : ∀ args w, (callFunc g args).run Tryz.prog w = .ok (.enter g args) w)
  (hg : ∀ r : Nat, Contract Tryz.prog g [.val (.one (.v (.int .i32 r)))] { res := .val (bv (p r)) }) :
  Contract Tryz.prog zBu [.val (sv s), .val (.one (.clo g []))] { res := .val (bv (!s.all (fun b => decide (b.toNat < 128) && !p b.toNat))) } := by
 refine ⟨by kernel_rfl, fun m w us hm hargs _ hG _ => ?_⟩
 obtain ⟨u1, us1, rfl, h1, u2, us2, rfl, h2, rfl⟩ := hargs
 obtain ⟨rfl, f1⟩ := h1
 obtain ⟨us, rfl, hus⟩ := h2
 obtain rfl : us = [] := by simpa [RpL] using hus
 have hpg : PredGrows Tryz.prog g #[] p w := fun W x _ hbW => by
  refine ((hg x).2 (fun _ _ => none) W [.int .i32 x] (fun _ _ _ h => by cases h) ⟨_, _, rfl, ⟨rfl, rfl⟩, rfl⟩ (by intro g h; cases h) (zZj hbW hG) (by rintro b (h | h) <;> cases h)).mono fun e W' ⟨m', _, _, hpr, _, _, u, hu, hr⟩ => ?_
  obtain rfl : u = .bool (p x) := hr.1
  exact ⟨hu, zSv hpr (by intro b h; rcases h with h | h <;> cases h)⟩
 have hT := Any.strings_ContainsFunc_grows Tryz.l17 g #[] eg p ⟨s.toArray⟩ w hpg
 change Calls Tryz.prog zBu _ _ _ at hT
 rw [yEB hp] at hT
 exact hT.mono fun e w' ⟨he, hb⟩ => zYf hm hb he ⟨rfl, rfl⟩ rfl
def zZk (r : Nat) : Bool := ((decide (r < 97) || decide (122 < r)) && (decide (r < 48) || decide (57 < r))) && decide (r ≠ 45)
def zQ3 (r : Nat) : Bool := decide (r < 32) || decide (126 < r) || decide (r = 34)
theorem zUY (r : Nat) : Contract Tryz.prog zCs [.val (.one (.v (.int .i32 r)))] { res := .val (bv (zZk r)) } := by
 refine mkA zSe (base := 0) (fo rfl) (fun hfit => ?_)
 unfold F0 zM5
 simp (maxSteps := 2000000) only [zAD, List.set_cons_succ, List.set_cons_zero, List.map_cons, List.map_nil, zAB, zAa, ioOf, List.length_cons, List.length_nil, Nat.reduceAdd, Nat.reduceSub, List.replicate, List.cons_append, List.nil_append]
 try simp (maxSteps := 2000000) only [go_sem]
 repeat with_reducible refine zAb ?_
 refine zAd rfl trivial (.inl ?_)
 congr 3
 unfold zZk
 grind
theorem zSw (r : Nat) : Contract Tryz.prog zCc [.val (.one (.v (.int .i32 r)))] { res := .val (bv (zQ3 r)) } := by
 refine mkA zPV (base := 0) (fo rfl) (fun hfit => ?_)
 unfold F0 zKZ
 simp (maxSteps := 2000000) only [zAD, List.set_cons_succ, List.set_cons_zero, List.map_cons, List.map_nil, zAB, zAa, ioOf, List.length_cons, List.length_nil, Nat.reduceAdd, Nat.reduceSub, List.replicate, List.cons_append, List.nil_append]
 try simp (maxSteps := 2000000) only [go_sem]
 repeat with_reducible refine zAb ?_
 refine zAd rfl trivial (.inl ?_)
 congr 3
 unfold zQ3
 grind
theorem yEC : ∀ args w, (callFunc zCs args).run Tryz.prog w = .ok (.enter zCs args) w := enters_of Tryz.func239 (by kernel_rfl) rfl
theorem yED : ∀ args w, (callFunc zCc args).run Tryz.prog w = .ok (.enter zCc args) w := enters_of Tryz.func240 (by kernel_rfl) rfl
theorem zMv {α : Type} {l : List α} {p q : α → Bool} (h : ∀ x, p x = q x) : l.all p = l.all q := by rw [show p = q from funext h]
theorem yGy (b : UInt8) : (decide (b.toNat < 128) && !zQ3 b.toNat) = yEq b := by
 unfold zQ3 yEq
 grind
theorem yEE (b : UInt8) : (decide (b.toNat < 128) && !zZk b.toNat) = zUi b := by
 unfold zZk zUi
 grind
theorem yGz (b : UInt8) : ([97, 98, 99, 100, 101, 102, 103, 104, 105, 106, 107, 108, 109, 110, 111, 112, 113, 114, 115, 116, 117, 118, 119, 120, 121, 122, 48, 49, 50, 51, 52, 53, 54, 55, 56, 57, 45] : Bys).contains b = zUi b := by
 have h : ∀ n : Fin 256, ([97, 98, 99, 100, 101, 102, 103, 104, 105, 106, 107, 108, 109, 110, 111, 112, 113, 114, 115, 116, 117, 118, 119, 120, 121, 122, 48, 49, 50, 51, 52, 53, 54, 55, 56, 57, 45] : Bys).contains (UInt8.ofFin n) = zUi (UInt8.ofFin n) := by decide +kernel
 exact h b.toFin
theorem zPe (s : Bys) : Contract Tryz.prog zE7 [.val (sv s)] { res := .val (bv (zHX s)) } := by
 refine mkA zUE (base := 0) (fo rfl) (fun hfit => ?_)
 unfold F0 zO9
 simp (maxSteps := 2000000) only [zAD, List.set_cons_succ, List.set_cons_zero, List.map_cons, List.map_nil, zAB, zAa, ioOf, List.length_cons, List.length_nil, Nat.reduceAdd, Nat.reduceSub, List.replicate, List.cons_append, List.nil_append]
 try simp (maxSteps := 2000000) only [go_sem]
 repeat with_reducible refine zAb ?_
 apply zAy (h2 := fun _ => zDH s zCc zQ3 (by intro r h; unfold zQ3; grind) yED zSw)
 ·(simp (maxSteps := 2000000) only [go_sem]; rfl)
 ·intro h; repeat' (first | exact trivial | exact h | refine And.intro ?_ ?_)
 try simp (maxSteps := 2000000) only [go_sem]
 repeat with_reducible refine zAb ?_
 refine zAd rfl trivial (.inl ?_)
 congr 3
 rw [zMv yGy, zHX]
 grind
theorem zEo (s : Bys) : Contract Tryz.prog zCm [.val (sv s)] { res := .val (bv (zBU s)) } := by
 refine mkA zWG (base := 0) (fo rfl) (fun hfit => ?_)
 unfold F0 zQ1
 simp (maxSteps := 2000000) only [zAD, List.set_cons_succ, List.set_cons_zero, List.map_cons, List.map_nil, zAB, zAa, ioOf, List.length_cons, List.length_nil, Nat.reduceAdd, Nat.reduceSub, List.replicate, List.cons_append, List.nil_append]
 try simp (maxSteps := 2000000) only [go_sem]
 repeat with_reducible refine zAb ?_
 apply zAy (h2 := fun _ => zPZ s _ (by decide) (by decide))
 ·(simp (maxSteps := 2000000) only [go_sem]; rfl)
 ·intro h; repeat' (first | exact trivial | exact h | refine And.intro ?_ ?_)
 try simp (maxSteps := 2000000) only [go_sem]
 repeat with_reducible refine zAb ?_
 apply zAy (h2 := fun _ => zDH s zCs zZk (by intro r h; unfold zZk; grind) yEC zUY)
 ·(simp (maxSteps := 2000000) only [go_sem]; rfl)
 ·intro h; repeat' (first | exact trivial | exact h | refine And.intro ?_ ?_)
 try simp (maxSteps := 2000000) only [go_sem]
 repeat with_reducible refine zAb ?_
 refine zAd rfl trivial (.inl ?_)
 congr 3
 rw [zMv yEE, yCg, zMv yGz, zBU]
 grind
end Go.Hx
end

section
set_option maxRecDepth 100000
set_option linter.unusedSimpArgs false
namespace Go.Hx
open Go.Proofs
variable [Glob]
attribute [local go_sem] zAu zAr zAs zAk ndV zAo zAj fdV shV zBc zAJ zAO zAI
attribute [local go_sem] reduceCtorEq Nat.reduceAdd Nat.reduceEqDiff reduceIte Nat.reduceLeDiff Nat.reduceLT Nat.reduceSub
theorem yAG (N : Nat) (ih : yIo Tryz.prog N) (s : St) (d K : Nat) (c : Fd) (hN : SizeOf.sizeOf s ≤ N + 1) (hd : d ≤ 3) (hc : c.le K) (hK : K + bdS d ≤ 1000000000) : Contract Tryz.prog zCu [.io (fdV c), .val (.agg (stV s)), .val (iv d)] { res := .tup [], io := fdV (c.add (ntS s d)) } := by
 rw [zCk]
 unfold fdV
 refine mkA zMu (base := 121) ⟨Nat.le_of_ble_eq_true rfl, Nat.le_of_ble_eq_true rfl, Nat.le_of_ble_eq_true rfl, ⟨rfl, rfl⟩⟩ (fun hfit => ?_)
 unfold F0 zHv
 simp (maxSteps := 2000000) only [zAD, List.set_cons_succ, List.set_cons_zero, List.map_cons, List.map_nil, zAB, zAa, ioOf, List.length_cons, List.length_nil, Nat.reduceAdd, Nat.reduceSub, List.replicate, List.cons_append, List.nil_append]
 try simp (maxSteps := 2000000) only [go_sem]
 repeat with_reducible refine zAb ?_
 have hbs : bdS d = 1 + 6 * bdT d := rfl
 have hbt : bdT d = 5 + bd (d + 1) := rfl
 refine zAc (by rfl) trivial (fun h => ?_) (fun h => ?_)
 ·have e : ntS s d = fM true := by rw [yC9, if_pos (by simp at h; omega)]
  have hm := hc.m
  try simp (maxSteps := 2000000) only [go_sem]
  repeat with_reducible refine zAb ?_
  refine zDJ (by repeat' constructor) (zSt c true (by omega)) ?_
  try simp (maxSteps := 2000000) only [go_sem]
  repeat with_reducible refine zAb ?_
  rw [e]
  exact zRU rfl rfl
 ·have hl6 : s.tests.length ≤ 6 := by simp at h; omega
  have e : ntS s d = (fF (!(s.tag == []) && !zBU s.tag)).add (zYa s.tests d) := by rw [yC9, if_neg (by omega)]
  rw [e]
  try simp (maxSteps := 2000000) only [go_sem]
  repeat with_reducible refine zAb ?_
  have hf := hc.f
  apply zAy (h2 := fun _ => zEo s.tag)
  ·(simp (maxSteps := 2000000) only [go_sem]; rfl)
  ·intro h; repeat' (first | exact trivial | exact h | refine And.intro ?_ ?_)
  try simp (maxSteps := 2000000) only [go_sem]
  repeat with_reducible refine zAb ?_
  refine zDJ (by repeat' constructor) (zOh c (bif !(s.tag == []) then !zBU s.tag else false) (by omega)) ?_
  try simp (maxSteps := 2000000) only [go_sem, Bool.cond_false_right]
  repeat with_reducible refine zAb ?_
  obtain ⟨c1, hc1⟩ : ∃ c1, c1 = c.add (fF (!(s.tag == []) && !zBU s.tag)) := ⟨_, rfl⟩
  have hc2 : c1.le (K + 1) := by rw [hc1]; exact hc.le_add (zUn _)
  rw [← Fd.add_assoc, ← hc1]
  have hK0 : K + 1 + (s.tests.length - 0) * bdT d ≤ 1000000000 := by
   have : (s.tests.length - 0) * bdT d ≤ 6 * bdT d := Nat.mul_le_mul_right _ (by omega)
   omega
  refine zAv (fun x : Nat × Fd => [(7, .un), (8, .un), (9, .un), (30, .pv (iv x.1)), (31, .un), (113, .un), (122, .pv (.one (bI x.2.f))), (123, .pv (.one (bI x.2.m))), (124, .pv (.one (bI x.2.r))), (125, .pv (.one (bI x.2.k)))]) (fun x : Nat × Fd => s.tests.length - x.1) (fun x : Nat × Fd => x.1 ≤ s.tests.length ∧ (∃ K', x.2.le K' ∧ K' + (s.tests.length - x.1) * bdT d ≤ 1000000000) ∧ x.2.add (zYa (s.tests.drop x.1) d) = c1.add (zYa s.tests d)) ((0, c1)) ?_ ⟨Nat.zero_le _, ⟨K + 1, hc2, hK0⟩, by simp⟩ ?_
  focus (simp (maxSteps := 2000000) only [go_sem, zAf, zAn, zAz, zAg]; all_goals (repeat' (first | exact trivial | exact zAl (by omega) | exact zAh rfl | exact zAw rfl | exact zAp | exact le_refl _ | refine And.intro ?_ ?_)))
  rintro ⟨i, a⟩ ⟨hi, ⟨K', ha, hK'⟩, hsum⟩
  simp only at hi ha hK' hsum
  try simp (maxSteps := 2000000) only [go_sem]
  repeat with_reducible refine zAb ?_
  refine zAc (by rfl) trivial (fun h2 => ?_) (fun h2 => ?_)
  ·have hil : i < s.tests.length := by simp at h2; omega
   rw [zA7 (d := default) hil] at hsum
   obtain ⟨t, ht⟩ : ∃ t, t = s.tests.getD i default := ⟨_, rfl⟩
   rw [← ht] at hsum
   have hg := zEg s.tests i hil
   rw [← ht, zBh] at hg
   have hsz : SizeOf.sizeOf t.list ≤ N := by
    have h3 := zOX t
    have h4 := yAo hil
    rw [← ht] at h4
    have h5 := zKU s
    omega
   have hmul : (s.tests.length - i) * bdT d = bdT d + (s.tests.length - (i + 1)) * bdT d := by
    have : s.tests.length - i = (s.tests.length - (i + 1)) + 1 := by omega
    rw [this, Nat.add_mul]; omega
   have hbp := zRY (4 - (d + 1))
   have hbe : bd (d + 1) = bdF (4 - (d + 1)) := rfl
   simp only [zYa, yGr, yBy] at hsum
   try simp (maxSteps := 2000000) only [go_sem, hg]
   repeat with_reducible refine zAb ?_
   refine zB4 (by repeat' constructor) (yAB t.kind) ?_
   try simp (maxSteps := 2000000) only [go_sem, hg]
   repeat with_reducible refine zAb ?_
   have a1 := ha.k
   refine zDJ (by repeat' constructor) (zYd a (!kOk t.kind) (by omega)) ?_
   try simp (maxSteps := 2000000) only [go_sem]
   repeat with_reducible refine zAb ?_
   obtain ⟨b1, hb1⟩ : ∃ b1, b1 = a.add (fK (!kOk t.kind)) := ⟨_, rfl⟩
   have l1 : b1.le (K' + 1) := by rw [hb1]; exact ha.le_add (yEt _)
   rw [← hb1]
   have a2 := l1.f
   apply zAy (h2 := fun _ => zEo t.name)
   ·(simp (maxSteps := 2000000) only [go_sem]; rfl)
   ·intro h; repeat' (first | exact trivial | exact h | refine And.intro ?_ ?_)
   try simp (maxSteps := 2000000) only [go_sem]
   repeat with_reducible refine zAb ?_
   refine zDJ (by repeat' constructor) (zOh b1 _ (by omega)) ?_
   try simp (maxSteps := 2000000) only [go_sem, Bool.cond_false_right, Bool.cond_true_left]
   repeat with_reducible refine zAb ?_
   obtain ⟨b2, hb2⟩ : ∃ b2, b2 = b1.add (fF (yBw t)) := ⟨_, rfl⟩
   have l2 : b2.le (K' + 1 + 1) := by rw [hb2]; exact l1.le_add (zUn _)
   unfold yBw at hb2
   rw [← hb2]
   have a3 := l2.f
   apply zAy (h2 := fun _ => zPe t.value)
   ·(simp (maxSteps := 2000000) only [go_sem]; rfl)
   ·intro h; repeat' (first | exact trivial | exact h | refine And.intro ?_ ?_)
   try simp (maxSteps := 2000000) only [go_sem]
   repeat with_reducible refine zAb ?_
   refine zDJ (by repeat' constructor) (zOh b2 _ (by omega)) ?_
   try simp (maxSteps := 2000000) only [go_sem, Bool.cond_false_right, Bool.cond_true_left]
   repeat with_reducible refine zAb ?_
   obtain ⟨b3, hb3⟩ : ∃ b3, b3 = b2.add (fF (yBx t)) := ⟨_, rfl⟩
   have l3 : b3.le (K' + 1 + 1 + 1) := by rw [hb3]; exact l2.le_add (zUn _)
   unfold yBx at hb3
   rw [← hb3]
   have a4 := l3.f
   have e3 : decide (0 < (t.list.length : Int)) = decide (0 < t.list.length) := decide_eq_decide.2 (by omega)
   refine zDJ (by repeat' constructor) (zOh b3 _ (by omega)) ?_
   try simp (maxSteps := 2000000) only [go_sem, Bool.cond_false_right, Bool.cond_true_left, e3]
   repeat with_reducible refine zAb ?_
   obtain ⟨b4, hb4⟩ : ∃ b4, b4 = b3.add (fF (zYZ t)) := ⟨_, rfl⟩
   have l4 : b4.le (K' + 1 + 1 + 1 + 1) := by rw [hb4]; exact l3.le_add (zUn _)
   unfold zYZ at hb4
   rw [← hb4]
   have a5 := l4.r
   refine zAt (by repeat' constructor) (zPc t.na t.nb) ?_
   try simp (maxSteps := 2000000) only [go_sem]
   repeat with_reducible refine zAb ?_
   refine zDJ (by repeat' constructor) (yCe b4 _ (by omega)) ?_
   try simp (maxSteps := 2000000) only [go_sem]
   repeat with_reducible refine zAb ?_
   obtain ⟨b5, hb5⟩ : ∃ b5, b5 = b4.add (fR (zRX t.na t.nb != 0)) := ⟨_, rfl⟩
   have l5 : b5.le (K' + 1 + 1 + 1 + 1 + 1) := by rw [hb5]; exact l4.le_add (yGv _)
   rw [← hb5]
   have hT : b5 = a.add (yBy t) := by
    rw [hb5, hb4, hb3, hb2, hb1]
    simp only [yBy, kOk, yBw, yBx, zYZ, Fd.add_assoc]
    congr 6
   refine zAc (by rfl) trivial (fun h3 => ?_) (fun h3 => ?_)
   ·rw [if_pos h3, ← Fd.add_assoc, ← Fd.add_assoc] at hsum
    have hst := ih.1 t.list (d + 1) (K' + 5) b5 hsz (by omega) l5 (by omega)
    unfold fdV zBc at hst
    rw [show ((d + 1 : Nat) : Int) = (d : Int) + 1 by omega] at hst
    try simp (maxSteps := 2000000) only [go_sem]
    repeat with_reducible refine zAb ?_
    refine zDJ (by repeat' constructor) (hst) ?_
    try simp (maxSteps := 2000000) only [go_sem]
    repeat with_reducible refine zAb ?_
    refine ⟨(i + 1, b5.add (ntL t.list (d + 1))), by simp only; omega, ⟨by simp only; omega, ⟨K' + 5 + bd (d + 1), l5.le_add (b_L _ _), by simp only; omega⟩, ?_⟩, ?_⟩
    ·simp only
     rw [← hsum, hT]
     rfl
    ·simp (maxSteps := 2000000) only [go_sem, zAf, zAn, zAz, zAg]
     all_goals (repeat' (first | exact trivial | exact zAl (by omega) | exact zAh rfl | exact zAw rfl | exact zAp | exact le_refl _ | refine And.intro ?_ ?_))
   ·rw [if_neg (by rw [h3]; simp)] at hsum
    try simp (maxSteps := 2000000) only [go_sem]
    repeat with_reducible refine zAb ?_
    refine ⟨(i + 1, b5), by simp only; omega, ⟨by simp only; omega, ⟨K' + 5, l5, by simp only; omega⟩, ?_⟩, ?_⟩
    ·simp only
     rw [← hsum, hT]
     simp only [yBy, Fd.add_assoc, Fd.zero_add]
    ·simp (maxSteps := 2000000) only [go_sem, zAf, zAn, zAz, zAg]
     all_goals (repeat' (first | exact trivial | exact zAl (by omega) | exact zAh rfl | exact zAw rfl | exact zAp | exact le_refl _ | refine And.intro ?_ ?_))
  ·have hil : i = s.tests.length := by simp at h2; omega
   subst hil
   rw [List.drop_length] at hsum
   try simp (maxSteps := 2000000) only [go_sem]
   repeat with_reducible refine zAb ?_
   rw [← hsum]
   exact zCd rfl rfl
theorem zPf (l : List Pt) : 0 < SizeOf.sizeOf l := by cases l <;> simp <;> omega
theorem yAH (s : St) : 0 < SizeOf.sizeOf s := by cases s; simp only [St.mk.sizeOf_spec]; omega
theorem zSx : ∀ N, yIo Tryz.prog N
 | 0 => ⟨fun l d K c h => by have := zPf l; omega, fun s d K c h => by have := yAH s; omega⟩
 | N + 1 => ⟨fun l d K c h1 h2 h3 h4 => yAC N (zSx N) l d K c h1 h2 h3 h4, fun s d K c h1 h2 h3 h4 => yAG N (zSx N) s d K c h1 h2 h3 h4⟩
theorem zNn (l : List Pt) : Contract Tryz.prog zBv [.io (fdV fd0), .val (zBc l), .val (iv 1)] { res := .tup [], io := fdV (ntL l 1) } := by
 have h := (zSx (SizeOf.sizeOf l)).1 l 1 0 fd0 (Nat.le_refl _) (by omega) (zUo 0) (by have := yGu; omega)
 rw [Fd.zero_add] at h
 exact h
theorem zFc (l : List Pt) : Contract Tryz.prog zCt [.val (zBc l)] { res := .val (iv (zA6 l)) } := by
 rw [← yGt]
 have hc := zNn l
 obtain ⟨c, hcc⟩ : ∃ c, c = ntL l 1 := ⟨_, rfl⟩
 rw [← hcc] at hc ⊢
 unfold zBc
 refine mkA zSs (base := 0) (fo rfl) (fun hfit => ?_)
 unfold F0 zM7
 simp (maxSteps := 2000000) only [zAD, List.set_cons_succ, List.set_cons_zero, List.map_cons, List.map_nil, zAB, zAa, ioOf, List.length_cons, List.length_nil, Nat.reduceAdd, Nat.reduceSub, List.replicate, List.cons_append, List.nil_append]
 try simp (maxSteps := 2000000) only [go_sem]
 repeat with_reducible refine zAb ?_
 unfold fdV zBc at hc
 refine zDJ (by repeat' constructor) (hc) ?_
 try simp (maxSteps := 2000000) only [go_sem]
 repeat with_reducible refine zAb ?_
 refine zAt (by repeat' constructor) (zUX) ?_
 try simp (maxSteps := 2000000) only [go_sem]
 repeat with_reducible refine zAb ?_
 refine zAv (fun i : Nat => [(5, .un), (12, .pv (iv i)), (13, .un), (21, .un)]) (fun i : Nat => 4 - i) (fun i : Nat => i ≤ 4 ∧ (1 ≤ i → c.m = 0) ∧ (2 ≤ i → c.k = 0) ∧ (3 ≤ i → c.f = 0) ∧ (4 ≤ i → c.r = 0)) (0) ?_ ⟨by omega, by omega, by omega, by omega, by omega⟩ ?_
 focus (simp (maxSteps := 2000000) only [go_sem, zAf, zAn, zAz, zAg]; all_goals (repeat' (first | exact trivial | exact zAl (by omega) | exact zAh rfl | exact zAw rfl | exact zAp | exact le_refl _ | refine And.intro ?_ ?_)))
 rintro i ⟨hi, h1, h2, h3, h4⟩
 try simp (maxSteps := 2000000) only [go_sem]
 repeat with_reducible refine zAb ?_
 refine zAc (by rfl) trivial (fun h => ?_) (fun h => ?_)
 ·have hlt : i < 4 := by simp at h; omega
  have hcase : i = 0 ∨ i = 1 ∨ i = 2 ∨ i = 3 := by omega
  rcases hcase with rfl | rfl | rfl | rfl
  ·try simp (maxSteps := 2000000) only [go_sem, Int.reduceToNat, Int.toNat_natCast, List.getD_cons_zero, List.getD_cons_succ, PV.norm, Int.cast_ofNat_Int]
   repeat with_reducible refine zAb ?_
   refine zAc (by rfl) trivial (fun h5 => ?_) (fun h5 => ?_)
   ·try simp (maxSteps := 2000000) only [go_sem]
    repeat with_reducible refine zAb ?_
    refine zAd rfl trivial (.inl ?_)
    congr 3
    have h6 : 0 < c.m := by simp at h5; omega
    unfold yEr
    simp [ h6]
   ·try simp (maxSteps := 2000000) only [go_sem]
    repeat with_reducible refine zAb ?_
    have h6 : c.m = 0 := by simp at h5; omega
    refine ⟨1, by omega, ⟨by omega, fun _ => h6, by omega, by omega, by omega⟩, ?_⟩
    simp (maxSteps := 2000000) only [go_sem, zAf, zAn, zAz, zAg]
    all_goals (repeat' (first | exact trivial | exact zAl (by omega) | exact zAh rfl | exact zAw rfl | exact zAp | exact le_refl _ | refine And.intro ?_ ?_))
  ·try simp (maxSteps := 2000000) only [go_sem, Int.reduceToNat, Int.toNat_natCast, List.getD_cons_zero, List.getD_cons_succ, PV.norm, Int.cast_ofNat_Int]
   repeat with_reducible refine zAb ?_
   refine zAc (by rfl) trivial (fun h5 => ?_) (fun h5 => ?_)
   ·try simp (maxSteps := 2000000) only [go_sem]
    repeat with_reducible refine zAb ?_
    refine zAd rfl trivial (.inl ?_)
    congr 3
    have h6 : 0 < c.k := by simp at h5; omega
    unfold yEr
    simp [h1 (by omega),  h6]
   ·try simp (maxSteps := 2000000) only [go_sem]
    repeat with_reducible refine zAb ?_
    have h6 : c.k = 0 := by simp at h5; omega
    refine ⟨2, by omega, ⟨by omega, fun _ => h1 (by omega), fun _ => h6, by omega, by omega⟩, ?_⟩
    simp (maxSteps := 2000000) only [go_sem, zAf, zAn, zAz, zAg]
    all_goals (repeat' (first | exact trivial | exact zAl (by omega) | exact zAh rfl | exact zAw rfl | exact zAp | exact le_refl _ | refine And.intro ?_ ?_))
  ·try simp (maxSteps := 2000000) only [go_sem, Int.reduceToNat, Int.toNat_natCast, List.getD_cons_zero, List.getD_cons_succ, PV.norm, Int.cast_ofNat_Int]
   repeat with_reducible refine zAb ?_
   refine zAc (by rfl) trivial (fun h5 => ?_) (fun h5 => ?_)
   ·try simp (maxSteps := 2000000) only [go_sem]
    repeat with_reducible refine zAb ?_
    refine zAd rfl trivial (.inl ?_)
    congr 3
    have h6 : 0 < c.f := by simp at h5; omega
    unfold yEr
    simp [h1 (by omega), h2 (by omega),  h6]
   ·try simp (maxSteps := 2000000) only [go_sem]
    repeat with_reducible refine zAb ?_
    have h6 : c.f = 0 := by simp at h5; omega
    refine ⟨3, by omega, ⟨by omega, fun _ => h1 (by omega), fun _ => h2 (by omega), fun _ => h6, by omega⟩, ?_⟩
    simp (maxSteps := 2000000) only [go_sem, zAf, zAn, zAz, zAg]
    all_goals (repeat' (first | exact trivial | exact zAl (by omega) | exact zAh rfl | exact zAw rfl | exact zAp | exact le_refl _ | refine And.intro ?_ ?_))
  ·try simp (maxSteps := 2000000) only [go_sem, Int.reduceToNat, Int.toNat_natCast, List.getD_cons_zero, List.getD_cons_succ, PV.norm, Int.cast_ofNat_Int]
   repeat with_reducible refine zAb ?_
   refine zAc (by rfl) trivial (fun h5 => ?_) (fun h5 => ?_)
   ·try simp (maxSteps := 2000000) only [go_sem]
    repeat with_reducible refine zAb ?_
    refine zAd rfl trivial (.inl ?_)
    congr 3
    have h6 : 0 < c.r := by simp at h5; omega
    unfold yEr
    simp [h1 (by omega), h2 (by omega), h3 (by omega),  h6]
   ·try simp (maxSteps := 2000000) only [go_sem]
    repeat with_reducible refine zAb ?_
    have h6 : c.r = 0 := by simp at h5; omega
    refine ⟨4, by omega, ⟨by omega, fun _ => h1 (by omega), fun _ => h2 (by omega), fun _ => h3 (by omega), fun _ => h6⟩, ?_⟩
    simp (maxSteps := 2000000) only [go_sem, zAf, zAn, zAz, zAg]
    all_goals (repeat' (first | exact trivial | exact zAl (by omega) | exact zAh rfl | exact zAw rfl | exact zAp | exact le_refl _ | refine And.intro ?_ ?_))
 ·have hi4 : i = 4 := by simp at h; omega
  try simp (maxSteps := 2000000) only [go_sem]
  repeat with_reducible refine zAb ?_
  refine zAd rfl trivial (.inl ?_)
  congr 3
  unfold yEr
  simp [h1 (by omega), h2 (by omega), h3 (by omega), h4 (by omega)]
end Go.Hx
end

section
set_option maxRecDepth 100000
set_option linter.unusedSimpArgs false
namespace Go.Hx
open Go.Proofs
variable [Glob]
attribute [local go_sem] zAu zAr zAs zAk ndV zAo zAj zBc zAJ zAO zAI
end Go.Hx
end

section
set_option maxRecDepth 100000
set_option linter.unusedSimpArgs false
namespace Go.Hx
open Go.Proofs
variable [Glob]
attribute [local go_sem] zAu zAr zAs zAk ndV zAo zAj zBc zAJ zAO zAI
theorem zSy {k : Nat} {rows : List (List PV)} (h : PV.fits (.sl k rows)) : rows.length ≤ 9223372036854775807 := by
 simp only [PV.fits] at h; exact h.1
theorem zUZ : ∀ {rows : List (List PV)} {i : Nat}, zPQ rows → i < rows.length → zI8 (rows.getD i [])
 | [], i, _, h => by simp at h
 | r :: rs, 0, h, _ => by simp only [zPQ] at h; exact h.1
 | r :: rs, i + 1, h, hi => by simp only [zPQ] at h; simpa using zUZ (rows := rs) (i := i) h.2 (by simpa using hi)
theorem zYg {k : Nat} {rows : List (List PV)} {i : Nat} (h : PV.fits (.sl k rows)) (hi : i < rows.length) : zI8 (rows.getD i []) := by
 simp only [PV.fits] at h; exact zUZ h.2 hi
theorem yCi {l : List Pt} {i : Nat} (h : PV.fits (.sl 2 (zC5 l))) (hi : i < l.length) : PV.fits (.sl 2 (zL5 (l.getD i default).steps)) ∧ PV.fits (.sl 1 (zCr (l.getD i default).links)) := by
 have h1 := zYg h (i := i) (by rw [zAJ]; exact hi)
 rw [zDN l i hi, zBp] at h1
 simp only [zI8] at h1
 exact ⟨h1.1, h1.2.1⟩
theorem yCj {l : List St} {i : Nat} (h : PV.fits (.sl 2 (zL5 l))) (hi : i < l.length) : PV.fits (.sl 6 (zDG (l.getD i default).tests)) := by
 have h1 := zYg h (i := i) (by rw [zAO]; exact hi)
 rw [zEh l i hi, zCk] at h1
 simp only [zI8] at h1
 exact h1.2.1
theorem yAI {l : List Pt} (h : PV.fits (.sl 2 (zC5 l))) : l.length ≤ 9223372036854775807 := by have := zSy h; rwa [zAJ] at this
theorem zU0 {l : List St} (h : PV.fits (.sl 2 (zL5 l))) : l.length ≤ 9223372036854775807 := by have := zSy h; rwa [zAO] at this
theorem yAJ {l : List Ts} (h : PV.fits (.sl 6 (zDG l))) : l.length ≤ 9223372036854775807 := by have := zSy h; rwa [zAI] at this
end Go.Hx
end

section
set_option maxRecDepth 100000
set_option linter.unusedSimpArgs false
set_option maxHeartbeats 2000000
namespace Go.Hx
open Go.Proofs
variable [Glob]
attribute [local go_sem] zAu zAr zAs zAk ndV zAo zAj zBc zAJ zAO zAI
end Go.Hx
end

section
set_option maxRecDepth 100000
set_option linter.unusedSimpArgs false
namespace Go.Hx
open Go.Proofs
variable [Glob]
attribute [local go_sem] zAu zAr zAs zAk ndV zAo zAj zPS List.take_nil zAJ
def zP0 (d : List Nd) (l : List Pt) (k : Nat) : List Int := ((List.range k).filter (lM d l)).map Int.ofNat
def yDa (d : List Nd) (l : List Pt) : List Int := zP0 d l d.length
theorem yGA {d : List Nd} (hd : zBr d = 0) : 1 ≤ d.length ∧ d.length ≤ 64 ∧ zEw d d.length = true := by
 unfold zBr at hd
 split at hd
 ·rename_i h
  split at hd
  ·rename_i h'; exact ⟨h.1, h.2, h'⟩
  ·omega
 ·omega
theorem zZl {d : List Nd} {l : List Pt} {k : Nat} : zP0 d l (k + 1) = if lM d l k then zP0 d l k ++ [(k : Int)] else zP0 d l k := by
 unfold zP0
 rw [List.range_succ, List.filter_append, List.map_append]
 by_cases h : lM d l k = true <;> simp [List.filter, h]
theorem yAK {d : List Nd} {l : List Pt} (k : Nat) : (zP0 d l k).length ≤ k := by
 unfold zP0
 rw [List.length_map]
 exact Nat.le_trans (List.length_filter_le _ _) (by simp)
end Go.Hx
end

section
set_option maxRecDepth 100000
set_option linter.unusedSimpArgs false
namespace Go.Hx
open Go.Proofs
variable [Glob]
attribute [local go_sem] zAu zAr zAs zAk ndV zAo zAj zPS atV OVal.cells zXE List.drop_succ_cons List.drop_zero List.take_succ_cons List.take_zero List.getD_nil yAm zHS Nat.sub_zero List.map_nil List.map_cons yAN yAO zBe zJM zEt zAa
attribute [local go_sem ↓] yIa yIb yGn yGm yGo
attribute [local go_sem] reduceCtorEq Nat.reduceAdd Nat.reduceEqDiff reduceIte Nat.reduceLeDiff Nat.reduceLT Nat.reduceSub
def ahd (d : List Nd) (n : Nat) : Int := ((zAH d (zBf d n) n).getLast?).getD (-1)
def plc (d : List Nd) (n : Nat) : Int := (zAH d (zBf d n) n).length + 1
def ofN (d : List Nd) (n : Nat) : Int := if 0 ≤ zBf d n then (zIe d (zBf d n)).length else 1
def zVw (d : List Nd) : List (List PV) := (List.range d.length).map fun n => [bI (plc d n), bI (ofN d n), bI (ahd d n), bI (zCF d n), bI (zIe d n).length]
def zBm (d : List Nd) : PV := .fp [.sl 5 (yC6 d), .sl 5 (zVw d)]
def stF (d : List Nd) (i j : Nat) : List OV := zJJ (if j < i then plc d j else 0) 0 (if j < i then ahd d j else 0) (zAR d j i) (zAH d j i).length
theorem zLp (d : List Nd) (u : Int) : zAH d u 0 = [] := rfl
theorem zVx (d : List Nd) (u : Int) : zAR d u 0 = 0 := rfl
theorem yIs (d : List Nd) (L : Nat) : List.replicate L [OV.p (bI 0), .p (bI 0), .p (bI 0), .p (bI 0), .p (bI 0)] = zEk L (stF d 0) := by
 rw [yAP]
 refine zAT fun j _ => ?_
 simp [stF, zLp, zVx]
theorem zGb {d : List Nd} {u p : Int} : ∀ {i : Nat}, (zAH d u i).getLast? = some p → ∃ m : Nat, m < i ∧ p = m ∧ zBf d m = u ∧ zAH d u i = zAH d u m ++ [(m : Int)]
 | 0, h => by rw [zLp] at h; cases h
 | i + 1, h => by
  rw [zAS] at h
  by_cases e : zBf d i = u
  ·rw [if_pos e] at h
   have hp : p = i := by simpa using h.symm
   exact ⟨i, by omega, hp, e, by rw [zAS, if_pos e]⟩
  ·rw [if_neg e] at h
   obtain ⟨m, h1, h2, h3, h4⟩ := zGb h
   exact ⟨m, by omega, h2, h3, by rw [zAS, if_neg e, h4]⟩
def inF (d : List Nd) (i : Nat) (u k : Int) (j : Nat) : List OV := zJJ (if j < i + 1 then plc d j else 0) 0 (if j < i + 1 then ahd d j else 0) (zAR d j i + if (C d u).contains (j : Int) && decide (k < j) then 1 else 0) (zAH d j (i + 1)).length
theorem zSM {d : List Nd} {i : Nat} {u k : Int} (hu : u = zBf d i) (hk : k < 0) (j : Nat) : inF d i u k j = stF d (i + 1) j := by
 unfold inF stF
 have h1 : decide (k < (j : Int)) = true := by simp; omega
 rw [zId, h1, Bool.and_true, ← hu]
 rfl
theorem zLq {d : List Nd} (hd : zEw d d.length = true) {i : Nat} {u : Int} (hu : u < d.length) (j : Nat) : inF d i u u j = zJJ (if j < i + 1 then plc d j else 0) 0 (if j < i + 1 then ahd d j else 0) (zAR d j i) (zAH d j (i + 1)).length := by
 unfold inF
 have : ((C d u).contains (j : Int) && decide (u < j)) = false := by
  cases hc : (C d u).contains (j : Int) with
  | false => rfl
  | true =>
   have := (yE5 hd hu (by simpa using hc)).2
   simp; omega
 rw [this]
 simp
theorem zOi {d : List Nd} (hd : zEw d d.length = true) {i q : Nat} {u : Int} (hu : u < d.length) (hq : (q : Int) ∈ C d u) (j : Nat) : inF d i u (zBf d q) j = if j = q then zJJ (if q < i + 1 then plc d q else 0) 0 (if q < i + 1 then ahd d q else 0) (zAR d q i + (if (C d u).contains (q : Int) && decide ((q : Int) < q) then 1 else 0) + 1) (zAH d q (i + 1)).length else inF d i u q j := by
 have hql := (yE5 hd hu hq)
 have hub := zBs hd q (by omega)
 by_cases h : j = q
 ·subst h
  rw [if_pos rfl]
  unfold inF
  have h1 : (C d u).contains (j : Int) = true := by simpa using hq
  have h2 : decide (zBf d j < (j : Int)) = true := by simp; omega
  have h3 : decide ((j : Int) < (j : Int)) = false := by simp
  rw [h1, h2, h3]
  simp
 ·rw [if_neg h]
  unfold inF
  have : ((C d u).contains (j : Int) && decide (zBf d q < (j : Int))) = ((C d u).contains (j : Int) && decide ((q : Int) < j)) := by
   cases hc : (C d u).contains (j : Int) with
   | false => rfl
   | true =>
    have hj : (j : Int) ∈ C d u := by simpa using hc
    obtain ⟨u', rfl⟩ : ∃ u' : Nat, u = u' := ⟨u.toNat, by omega⟩
    rw [Bool.true_and, Bool.true_and]
    rw [decide_eq_decide]
    constructor
    ·intro h1
     by_cases h2 : (q : Int) < j
     ·exact h2
     ·exfalso
      have h3 := yIr hd u' (by omega) hq hj (by omega)
      have h4 := (yE5 hd (k := zBf d q) (by omega) h3).2
      omega
    ·intro h1; omega
  rw [this]
def fiF (d : List Nd) (i j : Nat) : List OV := zJJ (plc d j) (if j < i then ofN d j else 0) (ahd d j) (zCF d j) (zIe d j).length
theorem yAR (d : List Nd) : zEk d.length (stF d d.length) = zEk d.length (fiF d 0) := by
 refine zAT fun j hj => ?_
 simp [stF, fiF, hj, zCF, zIe]
theorem yCn (d : List Nd) (b e : Nat) : (OV.os (some b) e 5 (zEk d.length (fiF d d.length))).frz = some (.sl 5 (zVw d)) := by
 have h : zEk d.length (fiF d d.length) = (zVw d).map fun r => r.map OV.p := by
  rw [zEk, zVw, List.map_map]
  refine List.map_congr_left fun j hj => ?_
  have := List.mem_range.1 hj
  simp [fiF, this]
 rw [h]
 exact yGp (zUf _)
set_option maxHeartbeats 32000000 in
theorem zZo (d : List Nd) (hd : zBr d = 0) : Contract Tryz.prog zJ3 [.val (zPS d)] { res := .val (.one (zBm d)) } := by
 obtain ⟨d1, d2, d3⟩ := yGA hd
 unfold zPS
 refine mkA zW7 (base := 0) (fo rfl) (fun hfit => ?_)
 unfold F0 zQ4
 simp (maxSteps := 2000000) only [zAD, List.set_cons_succ, List.set_cons_zero, List.map_cons, List.map_nil, zAB, zAa, ioOf, List.length_cons, List.length_nil, Nat.reduceAdd, Nat.reduceSub, List.replicate, List.cons_append, List.nil_append]
 try simp (maxSteps := 2000000) only [go_sem]
 repeat with_reducible refine zAb ?_
 intro bw
 refine yIp (fun bm => ?_)
 try simp (maxSteps := 2000000) only [go_sem]
 repeat with_reducible refine zAb ?_
 refine zAv (fun x : Nat × List (Int × Int) => [(24, .pv (iv x.1)), (20, .ov (.one (yCk bm x.2))), (163, .ov (.one (.os (some bw) zB6 5 (zEk d.length (stF d x.1))))), (5, .un), (6, .un), (7, .un), (8, .un), (9, .un), (10, .un), (25, .un), (43, .un), (72, .un), (91, .un), (107, .un), (164, .un), (165, .un), (166, .un), (167, .un), (168, .un)]) (fun x : Nat × List (Int × Int) => d.length - x.1) (fun x : Nat × List (Int × Int) => x.1 ≤ d.length ∧ ∀ u, zZm x.2 u = (zAH d u x.1).getLast?) ((0, [])) ?_ ⟨Nat.zero_le _, fun u => rfl⟩ ?_
 focus (simp (maxSteps := 2000000) only [go_sem, zAf, zAn, zAz, zAg]; all_goals (repeat' (first | exact trivial | exact zAl (by omega) | exact zAh rfl | exact zAw rfl | exact zAp | exact le_refl _ | refine And.intro ?_ ?_)))
 ·refine zAw ?_
  rw [← yIs]
 rintro ⟨i, ml⟩ ⟨hi, hml⟩
 simp only at hi hml
 try simp (maxSteps := 2000000) only [go_sem]
 repeat with_reducible refine zAb ?_
 refine zAc (by rfl) trivial (fun g1 => ?_) (fun g1 => ?_)
 ·have hil : i < d.length := by simpa using g1
  have hv := zDh d i hil
  rw [ndV] at hv
  obtain ⟨u, hu⟩ : ∃ u, u = zBf d i := ⟨_, rfl⟩
  have hup : (d.getD i default).up = u := hu.symm
  rw [hup] at hv
  have hub := zBs d3 i hil
  rw [← hu] at hub
  have hget := fun g => zCJ hil g
  obtain ⟨U, hU⟩ : ∃ U, U = zAR d i i := ⟨_, rfl⟩
  obtain ⟨K, hK⟩ : ∃ K, K = (zAH d i i).length := ⟨_, rfl⟩
  have hst : stF d i i = zJJ 0 0 0 U K := by simp [stF, hU, hK]
  try simp (maxSteps := 2000000) only [go_sem, hv, hget, hst, zJJ]
  repeat with_reducible refine zAb ?_
  refine yIq rfl rfl rfl ?_
  have hgi := hml u
  cases hlast : (zAH d u i).getLast? with
  | none =>
   rw [hlast] at hgi
   have hahd : ahd d i = -1 := by rw [ahd, ← hu, hlast]; rfl
   have hplc : plc d i = 1 := by
    rw [List.getLast?_eq_none_iff] at hlast
    rw [plc, ← hu, hlast]; rfl
   try simp (maxSteps := 2000000) only [go_sem, hgi, Option.isSome_none, Option.getD_none]
   repeat with_reducible refine zAb ?_
   refine zAc (by rfl) trivial (fun g2 => ?_) (fun g2 => ?_)
   ·simp at g2
   try simp (maxSteps := 2000000) only [go_sem, hv, hget, hst, zJJ]
   repeat with_reducible refine zAb ?_
   refine yGB rfl rfl rfl rfl (by decide) ?_
   try simp (maxSteps := 2000000) only [go_sem, hv, hget, hst, zJJ]
   repeat with_reducible refine zAb ?_
   refine zAc (by rfl) trivial (fun g3 => ?_) (fun g3 => ?_)
   ·simp at g3
   try simp (maxSteps := 2000000) only [go_sem, hv, hget, hst, zJJ]
   repeat with_reducible refine zAb ?_
   refine zAc (by rfl) trivial (fun g4 => ?_) (fun g4 => ?_)
   ·have hu0 : 0 ≤ u := by simpa using g4
    obtain ⟨q, rfl⟩ : ∃ q : Nat, u = q := ⟨u.toNat, by omega⟩
    have hqi : ¬ q = i := by omega
    have hql : q < d.length := by omega
    have hgq := fun g => zCJ hql g
    have hstq : stF d i q = zJJ (if q < i then plc d q else 0) 0 (if q < i then ahd d q else 0) (zAR d q i) (zAH d q i).length := rfl
    have hkl := zFO (d := d) (n := q) i
    try simp (maxSteps := 2000000) only [go_sem, hgq, hqi, hstq, zJJ]
    repeat with_reducible refine zAb ?_
    refine zAv (fun k : Int => [(10, .pv (iv k)), (163, .ov (.one (.os (some bw) zB6 5 (zEk d.length (inF d i (q : Int) k))))), (107, .un)]) (fun k : Int => (k + 1).toNat) (fun k : Int => -1 ≤ k ∧ k < i ∧ (0 ≤ k → k ∈ C d (q : Int))) ((q : Int)) ?_ ⟨by omega, by omega, fun _ => by rw [zJK d3 hql]; exact List.mem_cons_self⟩ ?_
    focus (simp (maxSteps := 2000000) only [go_sem, zAf, zAn, zAz, zAg]; all_goals (repeat' (first | exact trivial | exact zAl (by omega) | exact zAh rfl | exact zAw rfl | exact zAp | exact le_refl _ | refine And.intro ?_ ?_)))
    ·refine zAw ?_
     congr 3
     refine zAT fun j hj => ?_
     rw [zLq d3 (by omega)]
     by_cases hjq : j = q
     ·subst hjq
      have hkj : zAH d j (i + 1) = zAH d j i ++ [(i : Int)] := by rw [zAS, if_pos hu.symm]
      rw [hkj, List.length_append]
      have e1 : j < i := by omega
      have e2 : j < i + 1 := by omega
      simp [zJJ, e1, e2]
     ·rw [if_neg hjq]
      have hkj : zAH d j (i + 1) = zAH d j i := by rw [zAS, if_neg (by rw [← hu]; omega)]
      rw [hkj]
      by_cases hji : j = i
      ·subst hji
       rw [if_pos rfl, if_pos (by omega), if_pos (by omega), hplc, hahd, hU, hK]
      ·simp only [if_neg hji, stF]
       have e : (j < i + 1) ↔ (j < i) := by omega
       simp only [e]
    rintro k ⟨hk0, hki, hkc⟩
    try simp (maxSteps := 2000000) only [go_sem]
    repeat with_reducible refine zAb ?_
    refine zAc (by rfl) trivial (fun g5 => ?_) (fun g5 => ?_)
    ·have hk1 : 0 ≤ k := by simpa using g5
     obtain ⟨q2, rfl⟩ : ∃ q2 : Nat, k = q2 := ⟨k.toNat, by omega⟩
     have hql2 : q2 < d.length := by omega
     have hqu := zBs d3 q2 hql2
     have hqv := zDh d q2 hql2
     rw [ndV] at hqv
     have hgq := fun g => zCJ hql2 g
     have hkq := hkc hk1
     have hinq : inF d i (q : Int) q2 q2 = zJJ (if q2 < i + 1 then plc d q2 else 0) 0 (if q2 < i + 1 then ahd d q2 else 0) (zAR d q2 i + (if (C d (q : Int)).contains (q2 : Int) && decide ((q2 : Int) < q2) then 1 else 0)) (zAH d q2 (i + 1)).length := rfl
     obtain ⟨V, hV⟩ : ∃ V, V = zAR d q2 i + (if (C d (q : Int)).contains (q2 : Int) && decide ((q2 : Int) < q2) then 1 else 0) := ⟨_, rfl⟩
     have hVb : 0 ≤ V ∧ V ≤ i + 1 := by
      have := zEn (d := d) (n := q2) i
      rw [hV]; split <;> omega
     rw [← hV] at hinq
     have hinf := zOi d3 (i := i) (by omega : (q : Int) < d.length) hkq
     rw [← hV] at hinf
     try simp (maxSteps := 2000000) only [go_sem, hgq, hinq, zJJ, hqv]
     repeat with_reducible refine zAb ?_
     refine ⟨zBf d q2, by omega, ⟨by omega, by omega, fun h0 => ?_⟩, ?_⟩
     ·refine yEG d3 q hql hkq ?_
      rw [zJK d3 hql2]
      obtain ⟨v, hv2⟩ : ∃ v : Nat, zBf d q2 = v := ⟨(zBf d q2).toNat, by omega⟩
      rw [hv2, zJK d3 (by omega : v < d.length)]
      exact List.mem_cons_of_mem _ (List.mem_cons_self)
     ·simp (maxSteps := 2000000) only [go_sem, zAf, zAn, zAz, zAg]
      all_goals (repeat' (first | exact trivial | exact zAl (by omega) | exact zAh rfl | exact zAw rfl | exact zAp | exact le_refl _ | refine And.intro ?_ ?_))
      all_goals first | exact zAl rfl | skip
      refine zAw ?_
      congr 3
      refine zAT fun j hj => ?_
      rw [hinf j]
    ·have hk1 : k < 0 := by simp at g5; omega
     try simp (maxSteps := 2000000) only [go_sem]
     repeat with_reducible refine zAb ?_
     refine ⟨(i + 1, yAL ml (q : Int) i), by simp only; omega, ⟨by simp only; omega, fun w => ?_⟩, ?_⟩
     ·simp only
      rw [zLe, hml w, zAS, ← hu]
      by_cases hw : w = (q : Int)
      ·rw [if_pos hw, if_pos hw.symm]; simp
      ·rw [if_neg hw, if_neg (Ne.symm hw)]
     ·simp (maxSteps := 2000000) only [go_sem, zAf, zAn, zAz, zAg]
      all_goals (repeat' (first | exact trivial | exact zAl (by omega) | exact zAh rfl | exact zAw rfl | exact zAp | exact le_refl _ | refine And.intro ?_ ?_))
      refine zAw ?_
      congr 3
      exact zAT fun j _ => zSM hu hk1 j
   ·have hu0 : u < 0 := by simp at g4; omega
    have hC : C d u = [] := yCm d3 hu0
    try simp (maxSteps := 2000000) only [go_sem]
    repeat with_reducible refine zAb ?_
    refine zAv (fun k : Int => [(10, .pv (iv k)), (163, .ov (.one (.os (some bw) zB6 5 (zEk d.length (inF d i u k))))), (107, .un)]) (fun k : Int => (k + 1).toNat) (fun k : Int => -1 ≤ k ∧ k < i ∧ (0 ≤ k → k ∈ C d u)) (u) ?_ ⟨by omega, by omega, fun h => by omega⟩ ?_
    focus (simp (maxSteps := 2000000) only [go_sem, zAf, zAn, zAz, zAg]; all_goals (repeat' (first | exact trivial | exact zAl (by omega) | exact zAh rfl | exact zAw rfl | exact zAp | exact le_refl _ | refine And.intro ?_ ?_)))
    ·refine zAw ?_
     congr 3
     refine zAT fun j hj => ?_
     rw [zLq d3 (by omega)]
     have hkj : zAH d j (i + 1) = zAH d j i := by rw [zAS, if_neg (by rw [← hu]; omega)]
     rw [hkj]
     by_cases hji : j = i
     ·subst hji
      rw [if_pos rfl, if_pos (by omega), if_pos (by omega), hplc, hahd, hU, hK]
     ·simp only [if_neg hji, stF]
      have e : (j < i + 1) ↔ (j < i) := by omega
      simp only [e]
    rintro k ⟨hk0, hki, hkc⟩
    try simp (maxSteps := 2000000) only [go_sem]
    repeat with_reducible refine zAb ?_
    refine zAc (by rfl) trivial (fun g5 => ?_) (fun g5 => ?_)
    ·have hk1 : 0 ≤ k := by simpa using g5
     obtain ⟨q2, rfl⟩ : ∃ q2 : Nat, k = q2 := ⟨k.toNat, by omega⟩
     have hql2 : q2 < d.length := by omega
     have hqu := zBs d3 q2 hql2
     have hqv := zDh d q2 hql2
     rw [ndV] at hqv
     have hgq := fun g => zCJ hql2 g
     have hkq := hkc hk1
     have hinq : inF d i u q2 q2 = zJJ (if q2 < i + 1 then plc d q2 else 0) 0 (if q2 < i + 1 then ahd d q2 else 0) (zAR d q2 i + (if (C d u).contains (q2 : Int) && decide ((q2 : Int) < q2) then 1 else 0)) (zAH d q2 (i + 1)).length := rfl
     obtain ⟨V, hV⟩ : ∃ V, V = zAR d q2 i + (if (C d u).contains (q2 : Int) && decide ((q2 : Int) < q2) then 1 else 0) := ⟨_, rfl⟩
     have hVb : 0 ≤ V ∧ V ≤ i + 1 := by
      have := zEn (d := d) (n := q2) i
      rw [hV]; split <;> omega
     rw [← hV] at hinq
     have hinf := zOi d3 (i := i) (by omega : u < d.length) hkq
     rw [← hV] at hinf
     try simp (maxSteps := 2000000) only [go_sem, hgq, hinq, zJJ, hqv]
     repeat with_reducible refine zAb ?_
     refine ⟨zBf d q2, by omega, ⟨by omega, by omega, fun h0 => ?_⟩, ?_⟩
     ·rw [hC] at hkq; cases hkq
     ·simp (maxSteps := 2000000) only [go_sem, zAf, zAn, zAz, zAg]
      all_goals (repeat' (first | exact trivial | exact zAl (by omega) | exact zAh rfl | exact zAw rfl | exact zAp | exact le_refl _ | refine And.intro ?_ ?_))
      all_goals first | exact zAl rfl | skip
      refine zAw ?_
      congr 3
      refine zAT fun j hj => ?_
      rw [hinf j]
    ·have hk1 : k < 0 := by simp at g5; omega
     try simp (maxSteps := 2000000) only [go_sem]
     repeat with_reducible refine zAb ?_
     refine ⟨(i + 1, yAL ml u i), by simp only; omega, ⟨by simp only; omega, fun w => ?_⟩, ?_⟩
     ·simp only
      rw [zLe, hml w, zAS, ← hu]
      by_cases hw : w = u
      ·rw [if_pos hw, if_pos hw.symm]; simp
      ·rw [if_neg hw, if_neg (Ne.symm hw)]
     ·simp (maxSteps := 2000000) only [go_sem, zAf, zAn, zAz, zAg]
      all_goals (repeat' (first | exact trivial | exact zAl (by omega) | exact zAh rfl | exact zAw rfl | exact zAp | exact le_refl _ | refine And.intro ?_ ?_))
      refine zAw ?_
      congr 3
      exact zAT fun j _ => zSM hu hk1 j
  | some p =>
   rw [hlast] at hgi
   obtain ⟨m, hmi, rfl, hmu, hkm⟩ := zGb hlast
   have hahd : ahd d i = m := by rw [ahd, ← hu, hlast]; rfl
   have hplc : plc d i = plc d m + 1 := by
    rw [plc, ← hu, hkm, plc, hmu, List.length_append]
    simp
   have hml2 : m < d.length := by omega
   have hmi' : ¬ m = i := by omega
   have hgm := fun g => zCJ hml2 g
   have hstm : stF d i m = zJJ (plc d m) 0 (ahd d m) (zAR d m i) (zAH d m i).length := by simp [stF, hmi]
   have hplb : 1 ≤ plc d m ∧ plc d m ≤ 65 := by
    have := zFO (d := d) (n := zBf d m) m
    rw [plc]; omega
   try simp (maxSteps := 2000000) only [go_sem, hgi, Option.isSome_some, Option.getD_some]
   repeat with_reducible refine zAb ?_
   refine zAc (by rfl) trivial (fun g2 => ?_) (fun g2 => ?_)
   ·try simp (maxSteps := 2000000) only [go_sem, hv, hget, hst, zJJ]
    repeat with_reducible refine zAb ?_
    refine yGB rfl rfl rfl rfl (by decide) ?_
    try simp (maxSteps := 2000000) only [go_sem, hv, hget, hst, zJJ]
    repeat with_reducible refine zAb ?_
    refine zAc (by rfl) trivial (fun g3 => ?_) (fun g3 => ?_)
    ·try simp (maxSteps := 2000000) only [go_sem, hv, hget, hst, zJJ, hgm, hmi', hstm, Int.toNat_natCast]
     repeat with_reducible refine zAb ?_
     refine zAc (by rfl) trivial (fun g4 => ?_) (fun g4 => ?_)
     ·have hu0 : 0 ≤ u := by simpa using g4
      obtain ⟨q, rfl⟩ : ∃ q : Nat, u = q := ⟨u.toNat, by omega⟩
      have hqi : ¬ q = i := by omega
      have hql : q < d.length := by omega
      have hgq := fun g => zCJ hql g
      have hstq : stF d i q = zJJ (if q < i then plc d q else 0) 0 (if q < i then ahd d q else 0) (zAR d q i) (zAH d q i).length := rfl
      have hkl := zFO (d := d) (n := q) i
      try simp (maxSteps := 2000000) only [go_sem, hgq, hqi, hstq, zJJ]
      repeat with_reducible refine zAb ?_
      refine zAv (fun k : Int => [(10, .pv (iv k)), (163, .ov (.one (.os (some bw) zB6 5 (zEk d.length (inF d i (q : Int) k))))), (107, .un)]) (fun k : Int => (k + 1).toNat) (fun k : Int => -1 ≤ k ∧ k < i ∧ (0 ≤ k → k ∈ C d (q : Int))) ((q : Int)) ?_ ⟨by omega, by omega, fun _ => by rw [zJK d3 hql]; exact List.mem_cons_self⟩ ?_
      focus (simp (maxSteps := 2000000) only [go_sem, zAf, zAn, zAz, zAg]; all_goals (repeat' (first | exact trivial | exact zAl (by omega) | exact zAh rfl | exact zAw rfl | exact zAp | exact le_refl _ | refine And.intro ?_ ?_)))
      ·refine zAw ?_
       congr 3
       refine zAT fun j hj => ?_
       rw [zLq d3 (by omega)]
       by_cases hjq : j = q
       ·subst hjq
        have hkj : zAH d j (i + 1) = zAH d j i ++ [(i : Int)] := by rw [zAS, if_pos hu.symm]
        rw [hkj, List.length_append]
        have e1 : j < i := by omega
        have e2 : j < i + 1 := by omega
        simp [zJJ, e1, e2]
       ·rw [if_neg hjq]
        have hkj : zAH d j (i + 1) = zAH d j i := by rw [zAS, if_neg (by rw [← hu]; omega)]
        rw [hkj]
        by_cases hji : j = i
        ·subst hji
         rw [if_pos rfl, if_pos (by omega), if_pos (by omega), hplc, hahd, hU, hK]
        ·simp only [if_neg hji, stF]
         have e : (j < i + 1) ↔ (j < i) := by omega
         simp only [e]
      rintro k ⟨hk0, hki, hkc⟩
      try simp (maxSteps := 2000000) only [go_sem]
      repeat with_reducible refine zAb ?_
      refine zAc (by rfl) trivial (fun g5 => ?_) (fun g5 => ?_)
      ·have hk1 : 0 ≤ k := by simpa using g5
       obtain ⟨q2, rfl⟩ : ∃ q2 : Nat, k = q2 := ⟨k.toNat, by omega⟩
       have hql2 : q2 < d.length := by omega
       have hqu := zBs d3 q2 hql2
       have hqv := zDh d q2 hql2
       rw [ndV] at hqv
       have hgq := fun g => zCJ hql2 g
       have hkq := hkc hk1
       have hinq : inF d i (q : Int) q2 q2 = zJJ (if q2 < i + 1 then plc d q2 else 0) 0 (if q2 < i + 1 then ahd d q2 else 0) (zAR d q2 i + (if (C d (q : Int)).contains (q2 : Int) && decide ((q2 : Int) < q2) then 1 else 0)) (zAH d q2 (i + 1)).length := rfl
       obtain ⟨V, hV⟩ : ∃ V, V = zAR d q2 i + (if (C d (q : Int)).contains (q2 : Int) && decide ((q2 : Int) < q2) then 1 else 0) := ⟨_, rfl⟩
       have hVb : 0 ≤ V ∧ V ≤ i + 1 := by
        have := zEn (d := d) (n := q2) i
        rw [hV]; split <;> omega
       rw [← hV] at hinq
       have hinf := zOi d3 (i := i) (by omega : (q : Int) < d.length) hkq
       rw [← hV] at hinf
       try simp (maxSteps := 2000000) only [go_sem, hgq, hinq, zJJ, hqv]
       repeat with_reducible refine zAb ?_
       refine ⟨zBf d q2, by omega, ⟨by omega, by omega, fun h0 => ?_⟩, ?_⟩
       ·refine yEG d3 q hql hkq ?_
        rw [zJK d3 hql2]
        obtain ⟨v, hv2⟩ : ∃ v : Nat, zBf d q2 = v := ⟨(zBf d q2).toNat, by omega⟩
        rw [hv2, zJK d3 (by omega : v < d.length)]
        exact List.mem_cons_of_mem _ (List.mem_cons_self)
       ·simp (maxSteps := 2000000) only [go_sem, zAf, zAn, zAz, zAg]
        all_goals (repeat' (first | exact trivial | exact zAl (by omega) | exact zAh rfl | exact zAw rfl | exact zAp | exact le_refl _ | refine And.intro ?_ ?_))
        all_goals first | exact zAl rfl | skip
        refine zAw ?_
        congr 3
        refine zAT fun j hj => ?_
        rw [hinf j]
      ·have hk1 : k < 0 := by simp at g5; omega
       try simp (maxSteps := 2000000) only [go_sem]
       repeat with_reducible refine zAb ?_
       refine ⟨(i + 1, yAL ml (q : Int) i), by simp only; omega, ⟨by simp only; omega, fun w => ?_⟩, ?_⟩
       ·simp only
        rw [zLe, hml w, zAS, ← hu]
        by_cases hw : w = (q : Int)
        ·rw [if_pos hw, if_pos hw.symm]; simp
        ·rw [if_neg hw, if_neg (Ne.symm hw)]
       ·simp (maxSteps := 2000000) only [go_sem, zAf, zAn, zAz, zAg]
        all_goals (repeat' (first | exact trivial | exact zAl (by omega) | exact zAh rfl | exact zAw rfl | exact zAp | exact le_refl _ | refine And.intro ?_ ?_))
        refine zAw ?_
        congr 3
        exact zAT fun j _ => zSM hu hk1 j
     ·have hu0 : u < 0 := by simp at g4; omega
      have hC : C d u = [] := yCm d3 hu0
      try simp (maxSteps := 2000000) only [go_sem]
      repeat with_reducible refine zAb ?_
      refine zAv (fun k : Int => [(10, .pv (iv k)), (163, .ov (.one (.os (some bw) zB6 5 (zEk d.length (inF d i u k))))), (107, .un)]) (fun k : Int => (k + 1).toNat) (fun k : Int => -1 ≤ k ∧ k < i ∧ (0 ≤ k → k ∈ C d u)) (u) ?_ ⟨by omega, by omega, fun h => by omega⟩ ?_
      focus (simp (maxSteps := 2000000) only [go_sem, zAf, zAn, zAz, zAg]; all_goals (repeat' (first | exact trivial | exact zAl (by omega) | exact zAh rfl | exact zAw rfl | exact zAp | exact le_refl _ | refine And.intro ?_ ?_)))
      ·refine zAw ?_
       congr 3
       refine zAT fun j hj => ?_
       rw [zLq d3 (by omega)]
       have hkj : zAH d j (i + 1) = zAH d j i := by rw [zAS, if_neg (by rw [← hu]; omega)]
       rw [hkj]
       by_cases hji : j = i
       ·subst hji
        rw [if_pos rfl, if_pos (by omega), if_pos (by omega), hplc, hahd, hU, hK]
       ·simp only [if_neg hji, stF]
        have e : (j < i + 1) ↔ (j < i) := by omega
        simp only [e]
      rintro k ⟨hk0, hki, hkc⟩
      try simp (maxSteps := 2000000) only [go_sem]
      repeat with_reducible refine zAb ?_
      refine zAc (by rfl) trivial (fun g5 => ?_) (fun g5 => ?_)
      ·have hk1 : 0 ≤ k := by simpa using g5
       obtain ⟨q2, rfl⟩ : ∃ q2 : Nat, k = q2 := ⟨k.toNat, by omega⟩
       have hql2 : q2 < d.length := by omega
       have hqu := zBs d3 q2 hql2
       have hqv := zDh d q2 hql2
       rw [ndV] at hqv
       have hgq := fun g => zCJ hql2 g
       have hkq := hkc hk1
       have hinq : inF d i u q2 q2 = zJJ (if q2 < i + 1 then plc d q2 else 0) 0 (if q2 < i + 1 then ahd d q2 else 0) (zAR d q2 i + (if (C d u).contains (q2 : Int) && decide ((q2 : Int) < q2) then 1 else 0)) (zAH d q2 (i + 1)).length := rfl
       obtain ⟨V, hV⟩ : ∃ V, V = zAR d q2 i + (if (C d u).contains (q2 : Int) && decide ((q2 : Int) < q2) then 1 else 0) := ⟨_, rfl⟩
       have hVb : 0 ≤ V ∧ V ≤ i + 1 := by
        have := zEn (d := d) (n := q2) i
        rw [hV]; split <;> omega
       rw [← hV] at hinq
       have hinf := zOi d3 (i := i) (by omega : u < d.length) hkq
       rw [← hV] at hinf
       try simp (maxSteps := 2000000) only [go_sem, hgq, hinq, zJJ, hqv]
       repeat with_reducible refine zAb ?_
       refine ⟨zBf d q2, by omega, ⟨by omega, by omega, fun h0 => ?_⟩, ?_⟩
       ·rw [hC] at hkq; cases hkq
       ·simp (maxSteps := 2000000) only [go_sem, zAf, zAn, zAz, zAg]
        all_goals (repeat' (first | exact trivial | exact zAl (by omega) | exact zAh rfl | exact zAw rfl | exact zAp | exact le_refl _ | refine And.intro ?_ ?_))
        all_goals first | exact zAl rfl | skip
        refine zAw ?_
        congr 3
        refine zAT fun j hj => ?_
        rw [hinf j]
      ·have hk1 : k < 0 := by simp at g5; omega
       try simp (maxSteps := 2000000) only [go_sem]
       repeat with_reducible refine zAb ?_
       refine ⟨(i + 1, yAL ml u i), by simp only; omega, ⟨by simp only; omega, fun w => ?_⟩, ?_⟩
       ·simp only
        rw [zLe, hml w, zAS, ← hu]
        by_cases hw : w = u
        ·rw [if_pos hw, if_pos hw.symm]; simp
        ·rw [if_neg hw, if_neg (Ne.symm hw)]
       ·simp (maxSteps := 2000000) only [go_sem, zAf, zAn, zAz, zAg]
        all_goals (repeat' (first | exact trivial | exact zAl (by omega) | exact zAh rfl | exact zAw rfl | exact zAp | exact le_refl _ | refine And.intro ?_ ?_))
        refine zAw ?_
        congr 3
        exact zAT fun j _ => zSM hu hk1 j
    ·exact absurd g3 (by simp)
   ·simp at g2
 have hi2 : i = d.length := by simp at g1; omega
 subst hi2
 rw [yAR]
 try simp (maxSteps := 2000000) only [go_sem]
 repeat with_reducible refine zAb ?_
 refine zAv (fun i : Nat => [(129, .pv (iv i)), (163, .ov (.one (.os (some bw) zB6 5 (zEk d.length (fiF d i))))), (11, .un), (12, .un), (130, .un), (143, .un), (169, .un), (170, .un), (171, .un), (172, .un), (173, .un)]) (fun i : Nat => d.length - i) (fun i : Nat => i ≤ d.length) (0) ?_ (Nat.zero_le _) ?_
 focus (simp (maxSteps := 2000000) only [go_sem, zAf, zAn, zAz, zAg]; all_goals (repeat' (first | exact trivial | exact zAl (by omega) | exact zAh rfl | exact zAw rfl | exact zAp | exact le_refl _ | refine And.intro ?_ ?_)))
 intro i hi
 try simp (maxSteps := 2000000) only [go_sem]
 repeat with_reducible refine zAb ?_
 refine zAc (by rfl) trivial (fun g6 => ?_) (fun g6 => ?_)
 ·have hil : i < d.length := by simpa using g6
  have hv := zDh d i hil
  rw [ndV] at hv
  obtain ⟨u, hu⟩ : ∃ u, u = zBf d i := ⟨_, rfl⟩
  have hup : (d.getD i default).up = u := hu.symm
  rw [hup] at hv
  have hub := zBs d3 i hil
  rw [← hu] at hub
  have hget := fun g => zCJ hil g
  have hst : fiF d i i = zJJ (plc d i) 0 (ahd d i) (zCF d i) (zIe d i).length := by simp [fiF]
  try simp (maxSteps := 2000000) only [go_sem, hv, hget, hst, zJJ]
  repeat with_reducible refine zAb ?_
  refine zAc (by rfl) trivial (fun g7 => ?_) (fun g7 => ?_)
  ·have hu0 : 0 ≤ u := by simpa using g7
   obtain ⟨q, rfl⟩ : ∃ q : Nat, u = q := ⟨u.toNat, by omega⟩
   have hqi : ¬ q = i := by omega
   have hql : q < d.length := by omega
   have hgq := fun g => zCJ hql g
   have hstq : fiF d i q = zJJ (plc d q) (if q < i then ofN d q else 0) (ahd d q) (zCF d q) (zIe d q).length := rfl
   try simp (maxSteps := 2000000) only [go_sem, hgq, hqi, hstq, hget, hst, zJJ]
   repeat with_reducible refine zAb ?_
   refine ⟨i + 1, by omega, by omega, ?_⟩
   simp (maxSteps := 2000000) only [go_sem, zAf, zAn, zAz, zAg]
   all_goals (repeat' (first | exact trivial | exact zAl (by omega) | exact zAh rfl | exact zAw rfl | exact zAp | exact le_refl _ | refine And.intro ?_ ?_))
   refine zAw ?_
   congr 3
   refine zAT fun j hj => ?_
   by_cases hji : j = i
   ·subst hji
    simp [fiF, ofN, ← hu]
   ·have e : (j < i + 1) ↔ (j < i) := by omega
    simp [fiF, hji, e]
  ·have hu0 : ¬ 0 ≤ u := by simpa using g7
   try simp (maxSteps := 2000000) only [go_sem]
   repeat with_reducible refine zAb ?_
   refine ⟨i + 1, by omega, by omega, ?_⟩
   simp (maxSteps := 2000000) only [go_sem, zAf, zAn, zAz, zAg]
   all_goals (repeat' (first | exact trivial | exact zAl (by omega) | exact zAh rfl | exact zAw rfl | exact zAp | exact le_refl _ | refine And.intro ?_ ?_))
   refine zAw ?_
   congr 3
   refine zAT fun j hj => ?_
   by_cases hji : j = i
   ·subst hji
    have hu1 : ¬ 0 ≤ zBf d j := by rw [← hu]; exact hu0
    simp [fiF, ofN, hu1]
   ·have e : (j < i + 1) ↔ (j < i) := by omega
    simp [fiF, hji, e]
 ·have hi2 : i = d.length := by simp at g6; omega
  subst hi2
  have hfz := fun b e => yCn d b e
  try simp (maxSteps := 2000000) only [go_sem, hfz]
  repeat with_reducible refine zAb ?_
  exact zAd rfl trivial (.inl rfl)
end Go.Hx
end

section
set_option maxRecDepth 100000
set_option linter.unusedSimpArgs false
set_option maxHeartbeats 2000000
namespace Go.Hx
open Go.Proofs
variable [Glob]
attribute [local go_sem] zAu zAr zAs zAk ndV zAo zAj zBc zAJ zAO zAI
attribute [local go_sem] reduceCtorEq Nat.reduceAdd Nat.reduceEqDiff reduceIte Nat.reduceLeDiff Nat.reduceLT Nat.reduceSub
def zVy {α : Type} (p : α → Bool) (l : List α) : Int := if l.any p then (l.findIdx p : Int) else -1
theorem zSN {α : Type} (p : α → Bool) (l : List α) : decide (0 ≤ zVy p l) = l.any p := by
 unfold zVy
 cases h : l.any p <;> simp
theorem zLr {α : Type} {d : α} {p : α → Bool} {l : List α} (h : ∀ k, k < l.length → p (l.getD k d) = false) : zVy p l = -1 := by
 unfold zVy
 have : l.any p = false := by
  rw [List.any_eq_false]
  intro x hx
  obtain ⟨k, hk, rfl⟩ := List.getElem_of_mem hx
  have := h k hk
  simp [hk] at this
  simp [this]
 rw [this]; rfl
theorem zLs {α : Type} {d : α} {p : α → Bool} {l : List α} {i : Nat} (hi : i < l.length) (h1 : p (l.getD i d) = true) (h : ∀ k, k < i → p (l.getD k d) = false) : zVy p l = i := by
 unfold zVy
 have h2 : p l[i] = true := by simpa [hi] using h1
 have : l.any p = true := List.any_eq_true.2 ⟨l[i], List.getElem_mem hi, h2⟩
 rw [if_pos this, (List.findIdx_eq hi).2 ⟨h2, fun j hj => by have := h j hj; simpa [show j < l.length by omega] using this⟩]
theorem zYj (a b : List Pt) : zC5 (a ++ b) = zC5 a ++ zC5 b := by simp [zKT]
theorem yCo (a b : List St) : zL5 (a ++ b) = zL5 a ++ zL5 b := by simp [zKS]
theorem zDP (a b : List Ts) : zDG (a ++ b) = zDG a ++ zDG b := by simp [zKR]
theorem zW9 (f : Nat) (caps : List PV) (l : List Pt) (p : Pt → Bool) (h : ∀ i, i < l.length → Contract Tryz.prog f ([.val (.agg [.sl 2 (zL5 (l.getD i default).steps), .sl 1 (zCr (l.getD i default).links)])] ++ caps.map fun c => .val (.one c)) { res := .val (bv (p (l.getD i default))) }) :
  Contract Tryz.prog zBV [.val (.one (.sl 2 (zC5 l))), .val (.one (.clo f caps))] { res := .val (iv (zVy p l)) } := by
 refine mkA zFY (base := 0) (fo rfl) (fun hfit => ?_)
 unfold F0 zDp
 simp (maxSteps := 2000000) only [zAD, List.set_cons_succ, List.set_cons_zero, List.map_cons, List.map_nil, zAB, zAa, ioOf, List.length_cons, List.length_nil, Nat.reduceAdd, Nat.reduceSub, List.replicate, List.cons_append, List.nil_append]
 try simp (maxSteps := 2000000) only [go_sem]
 repeat with_reducible refine zAb ?_
 have ha := zD3 (k := 2) hfit.1
 rw [zAJ] at ha
 refine zAv (fun i : Nat => [(8, .pv (iv i)), (4, .un), (5, .un), (9, .un), (16, .un)]) (fun i : Nat => l.length - i) (fun i : Nat => i ≤ l.length ∧ ∀ k, k < i → p (l.getD k default) = false) (0) ?_ ⟨Nat.zero_le _, fun k hk => by omega⟩ ?_
 focus (simp (maxSteps := 2000000) only [go_sem, zAf, zAn, zAz, zAg]; all_goals (repeat' (first | exact trivial | exact zAl (by omega) | exact zAh rfl | exact zAw rfl | exact zAp | exact le_refl _ | refine And.intro ?_ ?_)))
 rintro i ⟨hi, hinv⟩
 try simp (maxSteps := 2000000) only [go_sem]
 repeat with_reducible refine zAb ?_
 refine zAc (by rfl) trivial (fun h2 => ?_) (fun h2 => ?_)
 ·have hil : i < l.length := by simp at h2; omega
  have e1 := zDN l i hil
  rw [zBp] at e1
  have hc := h i hil
  try simp (maxSteps := 2000000) only [go_sem, e1]
  repeat with_reducible refine zAb ?_
  refine zBT (by rfl) trivial (by repeat' constructor) (hc) ?_
  try simp (maxSteps := 2000000) only [go_sem]
  repeat with_reducible refine zAb ?_
  refine zAc (by rfl) trivial (fun h3 => ?_) (fun h3 => ?_)
  ·try simp (maxSteps := 2000000) only [go_sem]
   repeat with_reducible refine zAb ?_
   refine zAd rfl trivial (.inl ?_)
   congr 3
   exact zLs hil h3 hinv
  ·try simp (maxSteps := 2000000) only [go_sem]
   repeat with_reducible refine zAb ?_
   refine ⟨i + 1, by omega, ⟨by omega, fun k hk => ?_⟩, ?_⟩
   ·by_cases e : k = i
    ·rw [e]; exact h3
    ·exact hinv k (by omega)
   ·simp (maxSteps := 2000000) only [go_sem, zAf, zAn, zAz, zAg]
    all_goals (repeat' (first | exact trivial | exact zAl (by omega) | exact zAh rfl | exact zAw rfl | exact zAp | exact le_refl _ | refine And.intro ?_ ?_))
 ·have hil : i = l.length := by simp at h2; omega
  try simp (maxSteps := 2000000) only [go_sem]
  repeat with_reducible refine zAb ?_
  refine zAd rfl trivial (.inl ?_)
  congr 3
  exact zLr fun k hk => hinv k (by omega)
theorem zPj (f : Nat) (caps : List PV) (l : List Pt) (p : Pt → Bool) (h : ∀ i, i < l.length → Contract Tryz.prog f ([.val (.agg [.sl 2 (zL5 (l.getD i default).steps), .sl 1 (zCr (l.getD i default).links)])] ++ caps.map fun c => .val (.one c)) { res := .val (bv (p (l.getD i default))) }) :
  Contract Tryz.prog zA0 [.val (.one (.sl 2 (zC5 l))), .val (.one (.clo f caps))] { res := .val (bv (l.any p)) } := by
 refine mkA zEG (base := 0) (fo rfl) (fun hfit => ?_)
 unfold F0 zCB
 simp (maxSteps := 2000000) only [zAD, List.set_cons_succ, List.set_cons_zero, List.map_cons, List.map_nil, zAB, zAa, ioOf, List.length_cons, List.length_nil, Nat.reduceAdd, Nat.reduceSub, List.replicate, List.cons_append, List.nil_append]
 try simp (maxSteps := 2000000) only [go_sem]
 repeat with_reducible refine zAb ?_
 refine zAt (by repeat' constructor) (zW9 f caps l p h) ?_
 try simp (maxSteps := 2000000) only [go_sem]
 repeat with_reducible refine zAb ?_
 refine zAd rfl trivial (.inl ?_)
 congr 3
 rw [← zSN]
theorem zXa (f : Nat) (caps : List PV) (l : List Ts) (p : Ts → Bool) (h : ∀ i, i < l.length → Contract Tryz.prog f ([.val (.agg [bI (l.getD i default).kind, bS (l.getD i default).name, bS (l.getD i default).value, bI (l.getD i default).na, bI (l.getD i default).nb, .sl 2 (zC5 (l.getD i default).list)])] ++ caps.map fun c => .val (.one c)) { res := .val (bv (p (l.getD i default))) }) :
  Contract Tryz.prog zBW [.val (.one (.sl 6 (zDG l))), .val (.one (.clo f caps))] { res := .val (iv (zVy p l)) } := by
 refine mkA zF8 (base := 0) (fo rfl) (fun hfit => ?_)
 unfold F0 zDq
 simp (maxSteps := 2000000) only [zAD, List.set_cons_succ, List.set_cons_zero, List.map_cons, List.map_nil, zAB, zAa, ioOf, List.length_cons, List.length_nil, Nat.reduceAdd, Nat.reduceSub, List.replicate, List.cons_append, List.nil_append]
 try simp (maxSteps := 2000000) only [go_sem]
 repeat with_reducible refine zAb ?_
 have ha := zD3 (k := 6) hfit.1
 rw [zAI] at ha
 refine zAv (fun i : Nat => [(8, .pv (iv i)), (4, .un), (5, .un), (9, .un), (16, .un)]) (fun i : Nat => l.length - i) (fun i : Nat => i ≤ l.length ∧ ∀ k, k < i → p (l.getD k default) = false) (0) ?_ ⟨Nat.zero_le _, fun k hk => by omega⟩ ?_
 focus (simp (maxSteps := 2000000) only [go_sem, zAf, zAn, zAz, zAg]; all_goals (repeat' (first | exact trivial | exact zAl (by omega) | exact zAh rfl | exact zAw rfl | exact zAp | exact le_refl _ | refine And.intro ?_ ?_)))
 rintro i ⟨hi, hinv⟩
 try simp (maxSteps := 2000000) only [go_sem]
 repeat with_reducible refine zAb ?_
 refine zAc (by rfl) trivial (fun h2 => ?_) (fun h2 => ?_)
 ·have hil : i < l.length := by simp at h2; omega
  have e1 := zEg l i hil
  rw [zBh] at e1
  have hc := h i hil
  try simp (maxSteps := 2000000) only [go_sem, e1]
  repeat with_reducible refine zAb ?_
  refine zBT (by rfl) trivial (by repeat' constructor) (hc) ?_
  try simp (maxSteps := 2000000) only [go_sem]
  repeat with_reducible refine zAb ?_
  refine zAc (by rfl) trivial (fun h3 => ?_) (fun h3 => ?_)
  ·try simp (maxSteps := 2000000) only [go_sem]
   repeat with_reducible refine zAb ?_
   refine zAd rfl trivial (.inl ?_)
   congr 3
   exact zLs hil h3 hinv
  ·try simp (maxSteps := 2000000) only [go_sem]
   repeat with_reducible refine zAb ?_
   refine ⟨i + 1, by omega, ⟨by omega, fun k hk => ?_⟩, ?_⟩
   ·by_cases e : k = i
    ·rw [e]; exact h3
    ·exact hinv k (by omega)
   ·simp (maxSteps := 2000000) only [go_sem, zAf, zAn, zAz, zAg]
    all_goals (repeat' (first | exact trivial | exact zAl (by omega) | exact zAh rfl | exact zAw rfl | exact zAp | exact le_refl _ | refine And.intro ?_ ?_))
 ·have hil : i = l.length := by simp at h2; omega
  try simp (maxSteps := 2000000) only [go_sem]
  repeat with_reducible refine zAb ?_
  refine zAd rfl trivial (.inl ?_)
  congr 3
  exact zLr fun k hk => hinv k (by omega)
theorem zPk (f : Nat) (caps : List PV) (l : List Ts) (p : Ts → Bool) (h : ∀ i, i < l.length → Contract Tryz.prog f ([.val (.agg [bI (l.getD i default).kind, bS (l.getD i default).name, bS (l.getD i default).value, bI (l.getD i default).na, bI (l.getD i default).nb, .sl 2 (zC5 (l.getD i default).list)])] ++ caps.map fun c => .val (.one c)) { res := .val (bv (p (l.getD i default))) }) :
  Contract Tryz.prog zA1 [.val (.one (.sl 6 (zDG l))), .val (.one (.clo f caps))] { res := .val (bv (l.any p)) } := by
 refine mkA zEJ (base := 0) (fo rfl) (fun hfit => ?_)
 unfold F0 zCC
 simp (maxSteps := 2000000) only [zAD, List.set_cons_succ, List.set_cons_zero, List.map_cons, List.map_nil, zAB, zAa, ioOf, List.length_cons, List.length_nil, Nat.reduceAdd, Nat.reduceSub, List.replicate, List.cons_append, List.nil_append]
 try simp (maxSteps := 2000000) only [go_sem]
 repeat with_reducible refine zAb ?_
 refine zAt (by repeat' constructor) (zXa f caps l p h) ?_
 try simp (maxSteps := 2000000) only [go_sem]
 repeat with_reducible refine zAb ?_
 refine zAd rfl trivial (.inl ?_)
 congr 3
 rw [← zSN]
theorem zXb (f : Nat) (caps : List PV) (l : List (Bys × Bys)) (p : Bys × Bys → Bool) (h : ∀ i, i < l.length → Contract Tryz.prog f ([.val (.agg [bS (l.getD i default).1, bS (l.getD i default).2])] ++ caps.map fun c => .val (.one c)) { res := .val (bv (p (l.getD i default))) }) :
  Contract Tryz.prog zAU [.val (.one (.sl 2 (yAn l))), .val (.one (.clo f caps))] { res := .val (iv (zVy p l)) } := by
 refine mkA zC1 (base := 0) (fo rfl) (fun hfit => ?_)
 unfold F0 zB5
 simp (maxSteps := 2000000) only [zAD, List.set_cons_succ, List.set_cons_zero, List.map_cons, List.map_nil, zAB, zAa, ioOf, List.length_cons, List.length_nil, Nat.reduceAdd, Nat.reduceSub, List.replicate, List.cons_append, List.nil_append]
 try simp (maxSteps := 2000000) only [go_sem]
 repeat with_reducible refine zAb ?_
 have ha := zD3 (k := 2) hfit.1
 rw [zAs] at ha
 refine zAv (fun i : Nat => [(8, .pv (iv i)), (4, .un), (5, .un), (9, .un), (16, .un)]) (fun i : Nat => l.length - i) (fun i : Nat => i ≤ l.length ∧ ∀ k, k < i → p (l.getD k default) = false) (0) ?_ ⟨Nat.zero_le _, fun k hk => by omega⟩ ?_
 focus (simp (maxSteps := 2000000) only [go_sem, zAf, zAn, zAz, zAg]; all_goals (repeat' (first | exact trivial | exact zAl (by omega) | exact zAh rfl | exact zAw rfl | exact zAp | exact le_refl _ | refine And.intro ?_ ?_)))
 rintro i ⟨hi, hinv⟩
 try simp (maxSteps := 2000000) only [go_sem]
 repeat with_reducible refine zAb ?_
 refine zAc (by rfl) trivial (fun h2 => ?_) (fun h2 => ?_)
 ·have hil : i < l.length := by simp at h2; omega
  have e1 := zOe l i hil
  have hc := h i hil
  try simp (maxSteps := 2000000) only [go_sem, e1]
  repeat with_reducible refine zAb ?_
  refine zBT (by rfl) trivial (by repeat' constructor) (hc) ?_
  try simp (maxSteps := 2000000) only [go_sem]
  repeat with_reducible refine zAb ?_
  refine zAc (by rfl) trivial (fun h3 => ?_) (fun h3 => ?_)
  ·try simp (maxSteps := 2000000) only [go_sem]
   repeat with_reducible refine zAb ?_
   refine zAd rfl trivial (.inl ?_)
   congr 3
   exact zLs hil h3 hinv
  ·try simp (maxSteps := 2000000) only [go_sem]
   repeat with_reducible refine zAb ?_
   refine ⟨i + 1, by omega, ⟨by omega, fun k hk => ?_⟩, ?_⟩
   ·by_cases e : k = i
    ·rw [e]; exact h3
    ·exact hinv k (by omega)
   ·simp (maxSteps := 2000000) only [go_sem, zAf, zAn, zAz, zAg]
    all_goals (repeat' (first | exact trivial | exact zAl (by omega) | exact zAh rfl | exact zAw rfl | exact zAp | exact le_refl _ | refine And.intro ?_ ?_))
 ·have hil : i = l.length := by simp at h2; omega
  try simp (maxSteps := 2000000) only [go_sem]
  repeat with_reducible refine zAb ?_
  refine zAd rfl trivial (.inl ?_)
  congr 3
  exact zLr fun k hk => hinv k (by omega)
theorem zQe (l : List Bys) (s : Bys) : Contract Tryz.prog zCg [.val (.one (.sl 1 (zRV l))), .val (sv s)] { res := .val (iv (zVy (fun c => decide (c = s)) l)) } := by
 refine mkA zHL (base := 0) (fo rfl) (fun hfit => ?_)
 unfold F0 zDW
 simp (maxSteps := 2000000) only [zAD, List.set_cons_succ, List.set_cons_zero, List.map_cons, List.map_nil, zAB, zAa, ioOf, List.length_cons, List.length_nil, Nat.reduceAdd, Nat.reduceSub, List.replicate, List.cons_append, List.nil_append]
 try simp (maxSteps := 2000000) only [go_sem]
 repeat with_reducible refine zAb ?_
 have ha := zD3 (k := 1) hfit.1
 rw [zAr] at ha
 refine zAv (fun i : Nat => [(8, .pv (iv i)), (4, .un), (5, .un), (9, .un), (16, .un)]) (fun i : Nat => l.length - i) (fun i : Nat => i ≤ l.length ∧ ∀ k, k < i → (fun c => decide (c = s)) (l.getD k []) = false) (0) ?_ ⟨Nat.zero_le _, fun k hk => by omega⟩ ?_
 focus (simp (maxSteps := 2000000) only [go_sem, zAf, zAn, zAz, zAg]; all_goals (repeat' (first | exact trivial | exact zAl (by omega) | exact zAh rfl | exact zAw rfl | exact zAp | exact le_refl _ | refine And.intro ?_ ?_)))
 rintro i ⟨hi, hinv⟩
 try simp (maxSteps := 2000000) only [go_sem]
 repeat with_reducible refine zAb ?_
 refine zAc (by rfl) trivial (fun h2 => ?_) (fun h2 => ?_)
 ·have hil : i < l.length := by simp at h2; omega
  have e1 := zX7 l i hil
  try simp (maxSteps := 2000000) only [go_sem, e1]
  repeat with_reducible refine zAb ?_
  refine zAc (by rfl) trivial (fun h3 => ?_) (fun h3 => ?_)
  ·try simp (maxSteps := 2000000) only [go_sem]
   repeat with_reducible refine zAb ?_
   refine zAd rfl trivial (.inl ?_)
   congr 3
   have h4 : l.getD i [] = s := (by simpa using h3 : s = l.getD i []).symm
   exact zLs (p := fun c => decide (c = s)) (d := []) hil (decide_eq_true h4) hinv
  ·try simp (maxSteps := 2000000) only [go_sem]
   repeat with_reducible refine zAb ?_
   have h4 : ¬ l.getD i [] = s := fun e => (by simpa using h3 : ¬ s = l.getD i []) e.symm
   refine ⟨i + 1, by omega, ⟨by omega, fun k hk => ?_⟩, ?_⟩
   ·by_cases e : k = i
    ·rw [e]; first | exact h4 | exact decide_eq_false h4
    ·first | exact hinv k (by omega) | exact of_decide_eq_false (hinv k (by omega))
   ·simp (maxSteps := 2000000) only [go_sem, zAf, zAn, zAz, zAg]
    all_goals (repeat' (first | exact trivial | exact zAl (by omega) | exact zAh rfl | exact zAw rfl | exact zAp | exact le_refl _ | refine And.intro ?_ ?_))
 ·have hil : i = l.length := by simp at h2; omega
  try simp (maxSteps := 2000000) only [go_sem]
  repeat with_reducible refine zAb ?_
  refine zAd rfl trivial (.inl ?_)
  congr 3
  exact zLr (d := []) (p := fun c => decide (c = s)) fun k hk => hinv k (by omega)
theorem zGc (l : List Bys) (s : Bys) : Contract Tryz.prog zBd [.val (.one (.sl 1 (zRV l))), .val (sv s)] { res := .val (bv (l.any fun c => decide (c = s))) } := by
 refine mkA zFp (base := 0) (fo rfl) (fun hfit => ?_)
 unfold F0 zC2
 simp (maxSteps := 2000000) only [zAD, List.set_cons_succ, List.set_cons_zero, List.map_cons, List.map_nil, zAB, zAa, ioOf, List.length_cons, List.length_nil, Nat.reduceAdd, Nat.reduceSub, List.replicate, List.cons_append, List.nil_append]
 try simp (maxSteps := 2000000) only [go_sem]
 repeat with_reducible refine zAb ?_
 refine zAt (by repeat' constructor) (zQe l s) ?_
 try simp (maxSteps := 2000000) only [go_sem]
 repeat with_reducible refine zAb ?_
 refine zAd rfl trivial (.inl ?_)
 congr 3
 rw [← zSN]
end Go.Hx
end

section
set_option maxRecDepth 100000
set_option linter.unusedSimpArgs false
set_option maxHeartbeats 2000000
namespace Go.Hx
open Go.Proofs
variable [Glob]
attribute [local go_sem] zAu zAr zAs zAk ndV zAo zAj zBc zAJ zAO zAI zBm
attribute [local go_sem] reduceCtorEq Nat.reduceAdd Nat.reduceEqDiff reduceIte Nat.reduceLeDiff Nat.reduceLT Nat.reduceSub
theorem zXc {l : List (Bys × Bys)} {nm : Bys} (h : zVy (fun a => decide (a.1 = nm)) l < 0) : zHZ l nm = none := by
 unfold zVy at h
 have h2 : l.any (fun a => decide (a.1 = nm)) = false := by
  cases e : l.any (fun a => decide (a.1 = nm)) with
  | false => rfl
  | true => rw [e] at h; simp at h; omega
 unfold zHZ
 have : l.find? (fun a => decide (a.1 = nm)) = none := by
  rw [List.find?_eq_none]
  intro x hx hp
  rw [List.any_eq_false] at h2
  exact h2 x hx hp
 rw [this]; rfl
theorem zXd {l : List (Bys × Bys)} {nm : Bys} (h : ¬ zVy (fun a => decide (a.1 = nm)) l < 0) : ∃ i : Nat, i < l.length ∧ zVy (fun a => decide (a.1 = nm)) l = i ∧ zHZ l nm = some (l.getD i default).2 := by
 unfold zVy at h ⊢
 have h2 : l.any (fun a => decide (a.1 = nm)) = true := by
  cases e : l.any (fun a => decide (a.1 = nm)) with
  | true => rfl
  | false => rw [e] at h; simp at h
 rw [if_pos h2]
 have h3 : l.findIdx (fun a => decide (a.1 = nm)) < l.length := List.findIdx_lt_length.2 (by simpa using h2)
 refine ⟨_, h3, rfl, ?_⟩
 unfold zHZ
 rw [List.find?_eq_getElem?_findIdx, List.getElem?_eq_getElem h3]
 simp [h3]
theorem zVz (d : List Nd) : (zVw d).length = d.length := by simp [zVw]
theorem zVA (d : List Nd) (n : Nat) (h : n < d.length) : (zVw d).getD n [] = [bI (plc d n), bI (ofN d n), bI (ahd d n), bI (zCF d n), bI (zIe d n).length] := by simp [zVw, h]
theorem zJw (a : Bys × Bys) (nm : Bys) : Contract Tryz.prog zBL [.val (.agg [bS a.1, bS a.2]), .val (.one (.fp [bS nm]))] { res := .val (bv (decide (a.1 = nm))) } := by
 refine mkA zIj (base := 0) (fo rfl) (fun hfit => ?_)
 unfold F0 zD9
 simp (maxSteps := 2000000) only [zAD, List.set_cons_succ, List.set_cons_zero, List.map_cons, List.map_nil, zAB, zAa, ioOf, List.length_cons, List.length_nil, Nat.reduceAdd, Nat.reduceSub, List.replicate, List.cons_append, List.nil_append]
 try simp (maxSteps := 2000000) only [go_sem]
 repeat with_reducible refine zAb ?_
 refine zAd rfl trivial (.inl ?_)
 congr 3
 rw [Bool.eq_iff_iff]; simp
theorem zLt (d : List Nd) (n : Nat) (hn : n < d.length) (nm : Bys) : Contract Tryz.prog zCW [.val (.one (zBm d)), .val (iv n), .val (sv nm)] { res := .tup [sv ((zHZ (d.getD n default).att nm).getD []), bv (zHZ (d.getD n default).att nm).isSome] } := by
 have hc := zXb zBL [.fp [bS nm]] (d.getD n default).att (fun a => decide (a.1 = nm)) (fun i hi => zJw _ nm)
 have e1 := zDh d n hn
 obtain ⟨x, hx⟩ : ∃ x, x = d.getD n default := ⟨_, rfl⟩
 rw [← hx] at e1 hc ⊢
 refine mkA zKa (base := 0) (fo rfl) (fun hfit => ?_)
 unfold F0 zFd
 simp (maxSteps := 2000000) only [zAD, List.set_cons_succ, List.set_cons_zero, List.map_cons, List.map_nil, zAB, zAa, ioOf, List.length_cons, List.length_nil, Nat.reduceAdd, Nat.reduceSub, List.replicate, List.cons_append, List.nil_append]
 try simp (maxSteps := 2000000) only [go_sem]
 repeat with_reducible refine zAb ?_
 try simp (maxSteps := 2000000) only [go_sem, e1]
 repeat with_reducible refine zAb ?_
 refine zAt (by repeat' constructor) (hc) ?_
 try simp (maxSteps := 2000000) only [go_sem]
 repeat with_reducible refine zAb ?_
 refine zAc (by rfl) trivial (fun h => ?_) (fun h => ?_)
 ·have h' : zVy (fun a => decide (a.1 = nm)) x.att < 0 := by simpa using h
  rw [zXc h']
  try simp (maxSteps := 2000000) only [go_sem]
  repeat with_reducible refine zAb ?_
  exact zCT (by simp) ⟨zBM rfl trivial (.inl rfl), zBM rfl trivial (.inl rfl), rfl⟩
 ·have h' : ¬ zVy (fun a => decide (a.1 = nm)) x.att < 0 := by simpa using h
  obtain ⟨i, hi, h2, h3⟩ := zXd h'
  have e2 := zOe x.att i hi
  rw [h3]
  rw [h2]
  try simp (maxSteps := 2000000) only [go_sem, e1, e2]
  repeat with_reducible refine zAb ?_
  exact zCT (by simp) ⟨zBM rfl trivial (.inl rfl), zBM rfl trivial (.inl rfl), rfl⟩
end Go.Hx
end

section
set_option maxRecDepth 100000
set_option linter.unusedSimpArgs false
set_option linter.unusedSectionVars false
namespace Go.Hx
open Go.Proofs
variable [Glob]
section
variable {d : List Nd} (hd : zEw d d.length = true)
include hd
theorem yAT {k : Nat} (hk : k + 1 < d.length) : zBf d (k + 1) ∈ C d k := by
 have h := zBI hd hk
 simp only [zYX, yE4, Bool.and_eq_true] at h
 have h2 := h.2
 rw [if_neg (by omega)] at h2
 have h3 : zBf d (k + 1) ∈ zBE d (k + 1) (((k + 1 : Nat) : Int) - 1) := by simpa using h2
 rw [show (((k + 1 : Nat) : Int) - 1) = k by omega] at h3
 unfold C
 rw [zI5 d.length (k + 1) k (fun j hj => (zBs hd j (by omega)).2) (by omega) (by omega)]
 exact h3
theorem yEI {k : Nat} (h0 : 0 < k) (hk : k < d.length) : 0 ≤ zBf d k := by
 obtain ⟨j, rfl⟩ : ∃ j, k = j + 1 := ⟨k - 1, by omega⟩
 exact (yE5 hd (by omega) (yAT hd hk)).1
theorem yCq (h : 0 < d.length) : zBf d 0 = -1 := by
 have := zBI hd h
 simp only [zYX, yE4, Bool.and_eq_true] at this
 simpa using this.2
theorem zZr {n k : Nat} (hk : k + 1 < d.length) (hn : n < k) (h : (n : Int) ∈ C d (zBf d (k + 1))) : (n : Int) ∈ C d (zBf d k) := by
 have h1 := yEG hd k (by omega) (yAT hd hk) h
 rw [zJK hd (by omega)] at h1
 rcases List.mem_cons.1 h1 with e | e
 ·omega
 ·exact e
theorem zVH {n k : Nat} (hk : k < d.length) (h : k ≤ n) : (n : Int) ∉ C d (zBf d k) := by
 intro hx
 have := zBs hd k hk
 have := yE5 hd (by omega) hx
 omega
theorem zPm {n m : Nat} (hm : m < d.length) (h : (n : Int) ∈ C d (zBf d m)) : ∀ t k, m = k + t → n < k → (n : Int) ∈ C d (zBf d k)
 | 0, k, e, _ => by rw [Nat.add_zero] at e; rw [← e]; exact h
 | t + 1, k, e, hk => zZr hd (by omega) hk (zPm hm h t (k + 1) (by omega) (by omega))
theorem zDX (n k : Nat) : zAR d n (k + 1) = zAR d n k + (if (n : Int) ∈ C d (zBf d k) then 1 else 0) := by
 rw [zId]
 by_cases h : (n : Int) ∈ C d (zBf d k)
 ·rw [if_pos h, if_pos (by simpa [C] using h)]
 ·rw [if_neg h, if_neg (by simpa [C] using h)]
theorem zKh {n : Nat} : ∀ k, k ≤ n + 1 → k ≤ d.length → zAR d n k = 0
 | 0, _, _ => zVx d n
 | k + 1, h, hk => by rw [zDX hd, zKh k (by omega) (by omega), if_neg (zVH hd (by omega) (by omega))]; rfl
theorem zQ8 {n m : Nat} (hm : m < d.length) (h : ∀ k, n < k → k ≤ m → (n : Int) ∈ C d (zBf d k)) : ∀ t, n + 1 + t ≤ m + 1 → zAR d n (n + 1 + t) = t
 | 0, _ => zKh hd _ (by omega) (by omega)
 | t + 1, ht => by
  rw [show n + 1 + (t + 1) = (n + 1 + t) + 1 by omega, zDX hd, zQ8 hm h t (by omega), if_pos (h _ (by omega) (by omega))]
  omega
theorem zPn {n m : Nat} (hm : m < d.length) (hn : n < m) (h : (n : Int) ∉ C d (zBf d m)) : ∀ t, m + t ≤ d.length → zAR d n (m + t) = zAR d n m
 | 0, _ => rfl
 | t + 1, ht => by
  rw [show m + (t + 1) = (m + t) + 1 by omega, zDX hd, zPn hm hn h t (by omega), if_neg fun hx => h (zPm hd (by omega) hx t m (by omega) hn)]
  omega
theorem zQ9 (n : Nat) : ∀ t k, zAR d n k ≤ zAR d n (k + t)
 | 0, k => Int.le_refl _
 | t + 1, k => by rw [show k + (t + 1) = (k + t) + 1 by omega, zDX hd]; have := zQ9 n t k; split <;> omega
theorem zII {n : Nat} : ∀ t, n + 1 + t ≤ d.length → zAR d n (n + 1 + t) ≤ t
 | 0, h => by rw [zKh hd _ (by omega) h]; exact Int.le_refl _
 | t + 1, h => by rw [show n + 1 + (t + 1) = (n + 1 + t) + 1 by omega, zDX hd]; have := zII (n := n) t (by omega); split <;> omega
theorem zVI {n m : Nat} (hm : m < d.length) : zKW d n m = true ↔ n < m ∧ (m : Int) ≤ n + zCF d n := by
 have ha : zKW d n m = true ↔ (n : Int) ∈ C d (zBf d m) := by unfold zKW C; simp
 rw [ha]
 constructor
 ·intro h
  have hnm : n < m := Classical.byContradiction fun hx => zVH hd hm (by omega) h
  refine ⟨hnm, ?_⟩
  have h1 := zQ8 hd hm (fun k hk hkm => zPm hd hm h (m - k) k (by omega) hk) (m - n) (by omega)
  have h2 := zQ9 hd n (d.length - (n + 1 + (m - n))) (n + 1 + (m - n))
  rw [show n + 1 + (m - n) + (d.length - (n + 1 + (m - n))) = d.length by omega, h1] at h2
  unfold zCF
  omega
 ·rintro ⟨hnm, h⟩
  apply Classical.byContradiction
  intro hx
  have h1 := zPn hd hm hnm hx (d.length - m) (by omega)
  rw [show m + (d.length - m) = d.length by omega] at h1
  have h2 := zII hd (n := n) (m - n - 1) (by omega)
  rw [show n + 1 + (m - n - 1) = m by omega] at h2
  unfold zCF at h
  omega
theorem zZs (n : Nat) : 0 ≤ zCF d n ∧ zCF d n ≤ d.length := zEn _
end
theorem yAU {d : List Nd} {n : Nat} (h : 0 < n) : zEx d n = zIe d (zBf d n) := by
 unfold zEx; rw [if_neg (by omega)]; rfl
theorem zRa {d : List Nd} {n : Nat} : ∀ t, ∃ r, zAH d (zBf d n) (n + 1 + t) = zAH d (zBf d n) n ++ (n : Int) :: r ∧ ∀ x ∈ r, (n : Int) < x
 | 0 => ⟨[], by rw [Nat.add_zero, zAS, if_pos rfl], by simp⟩
 | t + 1 => by
  obtain ⟨r, h1, h2⟩ := zRa t
  rw [show n + 1 + (t + 1) = (n + 1 + t) + 1 by omega, zAS]
  split
  ·refine ⟨r ++ [((n + 1 + t : Nat) : Int)], by rw [h1]; simp, fun x hx => ?_⟩
   rcases List.mem_append.1 hx with hx | hx
   ·exact h2 x hx
   ·have : x = ((n + 1 + t : Nat) : Int) := by simpa using hx
    omega
  ·exact ⟨r, h1, h2⟩
theorem zI6 {d : List Nd} {u x : Int} : ∀ {k : Nat}, x ∈ zAH d u k → ∃ m : Nat, x = m ∧ m < k ∧ zBf d m = u
 | 0, h => by rw [zLp] at h; cases h
 | k + 1, h => by
  rw [zAS] at h
  split at h
  ·rename_i he
   rcases List.mem_append.1 h with h | h
   ·obtain ⟨m, h1, h2, h3⟩ := zI6 h; exact ⟨m, h1, by omega, h3⟩
   ·exact ⟨k, by simpa using h, by omega, he⟩
  ·obtain ⟨m, h1, h2, h3⟩ := zI6 h; exact ⟨m, h1, by omega, h3⟩
theorem zKi {l r : List Int} {x : Int} (h : x ∉ l) : zBt (l ++ x :: r) x = l.length := by
 unfold zBt
 have h1 : l.findIdx? (fun y => decide (y = x)) = none := by
  rw [List.findIdx?_eq_none_iff]
  intro y hy
  simp only [decide_eq_false_iff_not]
  rintro rfl
  exact h hy
 rw [List.findIdx?_append, h1, List.findIdx?_cons]
 simp
theorem zPo {d : List Nd} {u : Int} {n : Nat} : (n : Int) ∉ zAH d u n := by
 intro h
 obtain ⟨m, h1, h2, _⟩ := zI6 h
 omega
section
variable {d : List Nd} (hd : zEw d d.length = true)
include hd
theorem zVJ {n : Nat} (hn : n < d.length) (h0 : 0 < n) : ∃ r, zEx d n = zAH d (zBf d n) n ++ (n : Int) :: r ∧ ∀ x ∈ r, (n : Int) < x := by
 obtain ⟨r, h1, h2⟩ := zRa (d := d) (n := n) (d.length - (n + 1))
 rw [show n + 1 + (d.length - (n + 1)) = d.length by omega] at h1
 exact ⟨r, by rw [yAU h0]; exact h1, h2⟩
theorem yAV {n : Nat} (hn : n < d.length) : plc d n = zBt (zEx d n) n + 1 := by
 unfold plc
 by_cases h0 : n = 0
 ·subst h0
  have : zEx d 0 = [0] := rfl
  rw [this, zLp]; rfl
 ·obtain ⟨r, h1, _⟩ := zVJ hd hn (by omega)
  rw [h1, zKi zPo]
theorem yEJ {n : Nat} (hn : n < d.length) : ofN d n = (zEx d n).length := by
 unfold ofN
 by_cases h0 : n = 0
 ·subst h0
  rw [yCq hd (by omega)]; rfl
 ·rw [if_pos (yEI hd (by omega) hn), yAU (by omega)]
theorem yAW {n : Nat} : yEu d n = [] ↔ (zIe d n).length = 0 := by
 unfold yEu zIe zAH
 rw [List.length_map, List.length_eq_zero_iff]
end
end Go.Hx
end

section
set_option maxRecDepth 100000
set_option linter.unusedSimpArgs false
namespace Go.Hx
open Go.Proofs
variable [Glob]
attribute [local go_sem] zAu zAr zAs zAk ndV zAo
attribute [local go_sem] reduceCtorEq Nat.reduceAdd Nat.reduceEqDiff reduceIte Nat.reduceLeDiff Nat.reduceLT Nat.reduceSub
theorem zIJ (s : Bys) : Contract Tryz.prog zEi [.val (sv s)] { res := .val (sv s) } := by
 refine mkA zR1 (base := 0) (fo rfl) (fun hfit => ?_)
 unfold F0 zM2
 simp (maxSteps := 2000000) only [zAD, List.set_cons_succ, List.set_cons_zero, List.map_cons, List.map_nil, zAB, zAa, ioOf, List.length_cons, List.length_nil, Nat.reduceAdd, Nat.reduceSub, List.replicate, List.cons_append, List.nil_append]
 try simp (maxSteps := 2000000) only [go_sem]
 repeat with_reducible refine zAb ?_
 try simp (maxSteps := 2000000) only [go_sem]
 repeat with_reducible refine zAb ?_
 refine zAd rfl trivial (.inl ?_)
 congr 3
theorem zIK (a b : Bys) : Contract Tryz.prog zEj [.val (.agg [bS a, bS b])] { res := .val (sv a) } := by
 refine mkA zR4 (base := 0) (fo rfl) (fun hfit => ?_)
 unfold F0 zM3
 simp (maxSteps := 2000000) only [zAD, List.set_cons_succ, List.set_cons_zero, List.map_cons, List.map_nil, zAB, zAa, ioOf, List.length_cons, List.length_nil, Nat.reduceAdd, Nat.reduceSub, List.replicate, List.cons_append, List.nil_append]
 try simp (maxSteps := 2000000) only [go_sem]
 repeat with_reducible refine zAb ?_
 try simp (maxSteps := 2000000) only [go_sem]
 repeat with_reducible refine zAb ?_
 refine zAd rfl trivial (.inl ?_)
 congr 3
theorem zVP (a b : Bys) : Contract Tryz.prog zDi [.val (.agg [bS a, bS b])] { res := .val (bv (!zHX b)) } := by
 refine mkA zR7 (base := 0) (fo rfl) (fun hfit => ?_)
 unfold F0 zM4
 simp (maxSteps := 2000000) only [zAD, List.set_cons_succ, List.set_cons_zero, List.map_cons, List.map_nil, zAB, zAa, ioOf, List.length_cons, List.length_nil, Nat.reduceAdd, Nat.reduceSub, List.replicate, List.cons_append, List.nil_append]
 try simp (maxSteps := 2000000) only [go_sem]
 repeat with_reducible refine zAb ?_
 refine zAt (by repeat' constructor) (zPe _) ?_
 try simp (maxSteps := 2000000) only [go_sem]
 repeat with_reducible refine zAb ?_
 try simp (maxSteps := 2000000) only [go_sem]
 repeat with_reducible refine zAb ?_
 refine zAd rfl trivial (.inl ?_)
 congr 3
theorem yCt {l : List Bys} {i : Nat} : okC l (i + 1) = (okC l i && cOk l i) := zFl
theorem zRc : ∀ {x y : Bys}, Op.bytesLess x y = true → Op.bytesLess y x = false
 | [], _, h => by rename_i y; cases y <;> rfl
 | a :: x, [], h => by simp [Op.bytesLess] at h
 | a :: x, b :: y, h => by
  simp only [Op.bytesLess, Bool.or_eq_true, Bool.and_eq_true, decide_eq_true_eq, beq_iff_eq] at h
  simp only [Op.bytesLess, Bool.or_eq_false_iff, Bool.and_eq_false_iff, decide_eq_false_iff_not, beq_eq_false_iff_ne]
  rcases h with h | ⟨rfl, h⟩
  ·exact ⟨UInt8.lt_asymm h, .inl (fun e => by subst e; exact UInt8.lt_irrefl _ h)⟩
  ·exact ⟨UInt8.lt_irrefl _, .inr (zRc h)⟩
theorem zRd : ∀ {x y : Bys}, Op.bytesLess x y = false → x ≠ y → Op.bytesLess y x = true
 | [], [], _, h => (h rfl).elim
 | [], b :: y, h, _ => by simp [Op.bytesLess] at h
 | a :: x, [], _, _ => rfl
 | a :: x, b :: y, h, hn => by
  simp only [Op.bytesLess, Bool.or_eq_false_iff, Bool.and_eq_false_iff, decide_eq_false_iff_not, beq_eq_false_iff_ne] at h
  simp only [Op.bytesLess, Bool.or_eq_true, Bool.and_eq_true, decide_eq_true_eq, beq_iff_eq]
  obtain ⟨h1, h2⟩ := h
  by_cases e : a = b
  ·subst e
   refine .inr ⟨rfl, zRd (h2.resolve_left (fun h => h rfl)) (fun e => hn (by rw [e]))⟩
  ·refine .inl ?_
   have h3 : b ≤ a := UInt8.not_lt.1 h1
   exact UInt8.lt_of_le_of_ne h3 (Ne.symm e)
theorem zRe {x y : Bys} : (Op.bytesLess x y || x == y) = !Op.bytesLess y x := by
 cases h : Op.bytesLess y x with
 | true =>
  have h1 := zRc h
  have : ¬ x = y := fun e => by subst e; rw [h1] at h; cases h
  simp [h1, this]
 | false =>
  by_cases e : x = y
  ·subst e; simp
  ·simp [zRd h (Ne.symm e)]
theorem zLD (l : List Bys) : Contract Tryz.prog zCU [.val (.one (.sl 1 (zRV l))), .val (.one (.clo zEi []))] { res := .val (bv (okC l l.length)) } := by
 refine mkA zJ2 (base := 0) (fo rfl) (fun hfit => ?_)
 unfold F0 zE8
 simp (maxSteps := 2000000) only [zAD, List.set_cons_succ, List.set_cons_zero, List.map_cons, List.map_nil, zAB, zAa, ioOf, List.length_cons, List.length_nil, Nat.reduceAdd, Nat.reduceSub, List.replicate, List.cons_append, List.nil_append]
 try simp (maxSteps := 2000000) only [go_sem]
 repeat with_reducible refine zAb ?_
 have hm := zD3 (k := 1) hfit.1
 rw [zAr] at hm
 refine zAv (fun i : Nat => [(5, .pv (sv (if i = 0 then [] else l.getD (i - 1) []))), (7, .un), (10, .pv (iv i)), (11, .un), (25, .un)]) (fun i : Nat => l.length - i) (fun i : Nat => i ≤ l.length ∧ okC l i = true) (0) ?_ ⟨Nat.zero_le _, rfl⟩ ?_
 focus (simp (maxSteps := 2000000) only [go_sem, zAf, zAn, zAz, zAg]; all_goals (repeat' (first | exact trivial | exact zAl (by omega) | exact zAh rfl | exact zAw rfl | exact zAp | exact le_refl _ | refine And.intro ?_ ?_)))
 intro i ⟨hi, hok⟩
 try simp (maxSteps := 2000000) only [go_sem]
 repeat with_reducible refine zAb ?_
 refine zAc (by rfl) trivial (fun h => ?_) (fun h => ?_)
 ·have hlt : i < l.length := by simpa using h
  try simp (maxSteps := 2000000) only [go_sem, zX7 _ _ hlt]
  repeat with_reducible refine zAb ?_
  refine zBT (by rfl) trivial (by repeat' constructor) (zIJ _) ?_
  try simp (maxSteps := 2000000) only [go_sem]
  repeat with_reducible refine zAb ?_
  refine zAt (by repeat' constructor) (zEo _) ?_
  try simp (maxSteps := 2000000) only [go_sem]
  repeat with_reducible refine zAb ?_
  refine zOU (by simp (maxSteps := 2000000) only [go_sem]; rfl) (by rfl) (by first | exact fun _ => trivial | exact fun h => h) (by intro h; repeat' (first | exact trivial | exact h | refine And.intro ?_ ?_)) (fun _ => zIJ _) ?_
  try simp (maxSteps := 2000000) only [go_sem]
  repeat with_reducible refine zAb ?_
  rw [zRe]
  refine zAc (by rfl) trivial (fun h2 => ?_) (fun h2 => ?_)
  ·try simp (maxSteps := 2000000) only [go_sem]
   repeat with_reducible refine zAb ?_
   refine zAd rfl trivial (.inl ?_)
   congr 3
   cases hn : okC l l.length with
   | false => rfl
   | true =>
    exfalso
    have h4 := zBI hn hlt
    simp only [cOk, Bool.and_eq_true, Bool.or_eq_true, decide_eq_true_eq] at h4
    rw [h4.1] at h2
    by_cases h0 : i = 0
    ·subst h0
     cases hx : l.getD 0 [] with
     | nil => rw [hx] at h4; simp [zBU] at h4
     | cons a r => rw [hx] at h2; simp [Op.bytesLess] at h2
    ·rw [if_neg h0, h4.2.resolve_left h0] at h2
     simp at h2
  ·try simp (maxSteps := 2000000) only [go_sem]
   repeat with_reducible refine zAb ?_
   refine zBT (by rfl) trivial (by repeat' constructor) (zIJ _) ?_
   try simp (maxSteps := 2000000) only [go_sem]
   repeat with_reducible refine zAb ?_
   refine ⟨i + 1, by omega, ⟨hlt, ?_⟩, ?_⟩
   ·rw [yCt, hok]
    simp only [Bool.true_and, cOk]
    cases hn : zBU (l.getD i []) with
    | false => rw [hn] at h2; simp at h2
    | true =>
     rw [hn] at h2
     by_cases h0 : i = 0
     ·simp [h0]
     ·rw [if_neg h0] at h2
      simp at h2
      simp [h0, h2]
   ·simp (maxSteps := 2000000) only [go_sem, zAf, zAn, zAz, zAg]
    all_goals (repeat' (first | exact trivial | exact zAl (by omega) | exact zAh rfl | exact zAw rfl | exact zAp | exact le_refl _ | refine And.intro ?_ ?_))
 ·try simp (maxSteps := 2000000) only [go_sem]
  repeat with_reducible refine zAb ?_
  refine zAd rfl trivial (.inl ?_)
  congr 3
  have : i = l.length := by simp at h; omega
  rw [← this]; exact hok
def rOk (l : List (Bys × Bys)) (k : Nat) : Bool := zBU (l.getD k default).1 && (decide (k = 0) || Op.bytesLess (l.getD (k - 1) default).1 (l.getD k default).1)
def zVQ (l : List (Bys × Bys)) (i : Nat) : Bool := (List.range i).all (rOk l)
abbrev yEN (l : List (Bys × Bys)) : Bool := zVQ l l.length
theorem zXk {l : List (Bys × Bys)} {i : Nat} : zVQ l (i + 1) = (zVQ l i && rOk l i) := zFl
theorem zNs (l : List (Bys × Bys)) : Contract Tryz.prog zCn [.val (.one (.sl 2 (yAn l))), .val (.one (.clo zEj []))] { res := .val (bv (yEN l)) } := by
 refine mkA zIc (base := 0) (fo rfl) (fun hfit => ?_)
 unfold F0 zD8
 simp (maxSteps := 2000000) only [zAD, List.set_cons_succ, List.set_cons_zero, List.map_cons, List.map_nil, zAB, zAa, ioOf, List.length_cons, List.length_nil, Nat.reduceAdd, Nat.reduceSub, List.replicate, List.cons_append, List.nil_append]
 try simp (maxSteps := 2000000) only [go_sem]
 repeat with_reducible refine zAb ?_
 have hm := zD3 (k := 2) hfit.1
 rw [zAs] at hm
 refine zAv (fun i : Nat => [(5, .pv (sv (if i = 0 then [] else (l.getD (i - 1) default).1))), (7, .un), (30, .un), (31, .un), (10, .pv (iv i)), (11, .un), (25, .un)]) (fun i : Nat => l.length - i) (fun i : Nat => i ≤ l.length ∧ zVQ l i = true) (0) ?_ ⟨Nat.zero_le _, rfl⟩ ?_
 focus (simp (maxSteps := 2000000) only [go_sem, zAf, zAn, zAz, zAg]; all_goals (repeat' (first | exact trivial | exact zAl (by omega) | exact zAh rfl | exact zAw rfl | exact zAp | exact le_refl _ | refine And.intro ?_ ?_)))
 intro i ⟨hi, hok⟩
 try simp (maxSteps := 2000000) only [go_sem]
 repeat with_reducible refine zAb ?_
 refine zAc (by rfl) trivial (fun h => ?_) (fun h => ?_)
 ·have hlt : i < l.length := by simpa using h
  try simp (maxSteps := 2000000) only [go_sem, zOe _ _ hlt]
  repeat with_reducible refine zAb ?_
  refine zBT (by rfl) trivial (by repeat' constructor) (zIK _ _) ?_
  try simp (maxSteps := 2000000) only [go_sem]
  repeat with_reducible refine zAb ?_
  refine zAt (by repeat' constructor) (zEo _) ?_
  try simp (maxSteps := 2000000) only [go_sem]
  repeat with_reducible refine zAb ?_
  refine zOU (by simp (maxSteps := 2000000) only [go_sem]; rfl) (by rfl) (by first | exact fun _ => trivial | exact fun h => h) (by intro h; repeat' (first | exact trivial | exact h | refine And.intro ?_ ?_)) (fun _ => zIK _ _) ?_
  try simp (maxSteps := 2000000) only [go_sem]
  repeat with_reducible refine zAb ?_
  rw [zRe]
  refine zAc (by rfl) trivial (fun h2 => ?_) (fun h2 => ?_)
  ·try simp (maxSteps := 2000000) only [go_sem]
   repeat with_reducible refine zAb ?_
   refine zAd rfl trivial (.inl ?_)
   congr 3
   cases hn : yEN l with
   | false => rfl
   | true =>
    exfalso
    have h4 := zBI hn hlt
    simp only [rOk, Bool.and_eq_true, Bool.or_eq_true, decide_eq_true_eq] at h4
    rw [h4.1] at h2
    by_cases h0 : i = 0
    ·subst h0
     cases hx : (l.getD 0 default).1 with
     | nil => rw [hx] at h4; simp [zBU] at h4
     | cons a r => rw [hx] at h2; simp [Op.bytesLess] at h2
    ·rw [if_neg h0, h4.2.resolve_left h0] at h2
     simp at h2
  ·try simp (maxSteps := 2000000) only [go_sem]
   repeat with_reducible refine zAb ?_
   refine zBT (by rfl) trivial (by repeat' constructor) (zIK _ _) ?_
   try simp (maxSteps := 2000000) only [go_sem]
   repeat with_reducible refine zAb ?_
   refine ⟨i + 1, by omega, ⟨hlt, ?_⟩, ?_⟩
   ·rw [zXk, hok]
    simp only [Bool.true_and, rOk]
    cases hn : zBU ((l.getD i default).1) with
    | false => rw [hn] at h2; simp at h2
    | true =>
     rw [hn] at h2
     by_cases h0 : i = 0
     ·simp [h0]
     ·rw [if_neg h0] at h2
      simp at h2
      simp [h0, h2]
   ·simp (maxSteps := 2000000) only [go_sem, zAf, zAn, zAz, zAg]
    all_goals (repeat' (first | exact trivial | exact zAl (by omega) | exact zAh rfl | exact zAw rfl | exact zAp | exact le_refl _ | refine And.intro ?_ ?_))
 ·try simp (maxSteps := 2000000) only [go_sem]
  repeat with_reducible refine zAb ?_
  refine zAd rfl trivial (.inl ?_)
  congr 3
  have : i = l.length := by simp at h; omega
  subst this; exact hok
def zQi (l : List (Bys × Bys)) (i : Nat) : Bool := !zHX (l.getD i default).2
def zVR (l : List (Bys × Bys)) : Int := match (List.range l.length).find? (zQi l) with | some i => i | none => -1
theorem zHj (l : List (Bys × Bys)) : Contract Tryz.prog zAU [.val (.one (.sl 2 (yAn l))), .val (.one (.clo zDi []))] { res := .val (iv (zVR l)) } := by
 refine mkA zC1 (base := 0) (fo rfl) (fun hfit => ?_)
 unfold F0 zB5
 simp (maxSteps := 2000000) only [zAD, List.set_cons_succ, List.set_cons_zero, List.map_cons, List.map_nil, zAB, zAa, ioOf, List.length_cons, List.length_nil, Nat.reduceAdd, Nat.reduceSub, List.replicate, List.cons_append, List.nil_append]
 try simp (maxSteps := 2000000) only [go_sem]
 repeat with_reducible refine zAb ?_
 have hm := zD3 (k := 2) hfit.1
 rw [zAs] at hm
 refine zAv (fun i : Nat => [(5, .un), (8, .pv (iv i)), (9, .un), (16, .un)]) (fun i : Nat => l.length - i) (fun i : Nat => i ≤ l.length ∧ ∀ k, k < i → zQi l k = false) (0) ?_ ⟨Nat.zero_le _, fun k hk => by omega⟩ ?_
 focus (simp (maxSteps := 2000000) only [go_sem, zAf, zAn, zAz, zAg]; all_goals (repeat' (first | exact trivial | exact zAl (by omega) | exact zAh rfl | exact zAw rfl | exact zAp | exact le_refl _ | refine And.intro ?_ ?_)))
 intro i ⟨hi, hok⟩
 try simp (maxSteps := 2000000) only [go_sem]
 repeat with_reducible refine zAb ?_
 refine zAc (by rfl) trivial (fun h => ?_) (fun h => ?_)
 ·have hlt : i < l.length := by simpa using h
  try simp (maxSteps := 2000000) only [go_sem, zOe _ _ hlt]
  repeat with_reducible refine zAb ?_
  refine zBT (by rfl) trivial (by repeat' constructor) (zVP _ _) ?_
  try simp (maxSteps := 2000000) only [go_sem]
  repeat with_reducible refine zAb ?_
  refine zAc (by rfl) trivial (fun h2 => ?_) (fun h2 => ?_)
  ·try simp (maxSteps := 2000000) only [go_sem]
   repeat with_reducible refine zAb ?_
   refine zAd rfl trivial (.inl ?_)
   congr 3
   have h3 : (List.range l.length).find? (zQi l) = some i := List.find?_range_eq_some.2 ⟨h2, List.mem_range.2 hlt, fun j hj => by rw [hok j hj]; rfl⟩
   rw [zVR, h3]
  ·try simp (maxSteps := 2000000) only [go_sem]
   repeat with_reducible refine zAb ?_
   refine ⟨i + 1, by omega, ⟨hlt, fun k hk => ?_⟩, ?_⟩
   ·by_cases e : k = i
    ·rw [e]; exact h2
    ·exact hok k (by omega)
   ·simp (maxSteps := 2000000) only [go_sem, zAf, zAn, zAz, zAg]
    all_goals (repeat' (first | exact trivial | exact zAl (by omega) | exact zAh rfl | exact zAw rfl | exact zAp | exact le_refl _ | refine And.intro ?_ ?_))
 ·try simp (maxSteps := 2000000) only [go_sem]
  repeat with_reducible refine zAb ?_
  refine zAd rfl trivial (.inl ?_)
  congr 3
  have : i = l.length := by simp at h; omega
  have h3 : (List.range l.length).find? (zQi l) = none := List.find?_eq_none.2 fun x hx => by rw [hok x (by rw [this]; exact List.mem_range.1 hx)]; simp
  rw [zVR, h3]
def zVS (l : List (Bys × Bys)) : Bool := (List.range l.length).any (zQi l)
theorem zZw (l : List (Bys × Bys)) : decide (0 ≤ zVR l) = zVS l := by
 unfold zVR zVS
 cases h : (List.range l.length).find? (zQi l) with
 | none =>
  have := List.find?_eq_none.1 h
  have h2 : (List.range l.length).any (zQi l) = false := by
   rw [List.any_eq_false]; exact this
  rw [h2]; rfl
 | some i =>
  have := List.find?_range_eq_some.1 h
  have h2 : (List.range l.length).any (zQi l) = true := List.any_eq_true.2 ⟨i, this.2.1, this.1⟩
  rw [h2]
  simp
theorem zET (l : List (Bys × Bys)) : Contract Tryz.prog zBz [.val (.one (.sl 2 (yAn l))), .val (.one (.clo zDi []))] { res := .val (bv (zVS l)) } := by
 refine mkA zEA (base := 0) (fo rfl) (fun hfit => ?_)
 unfold F0 zCA
 simp (maxSteps := 2000000) only [zAD, List.set_cons_succ, List.set_cons_zero, List.map_cons, List.map_nil, zAB, zAa, ioOf, List.length_cons, List.length_nil, Nat.reduceAdd, Nat.reduceSub, List.replicate, List.cons_append, List.nil_append]
 try simp (maxSteps := 2000000) only [go_sem]
 repeat with_reducible refine zAb ?_
 refine zAt (by repeat' constructor) (zHj _) ?_
 try simp (maxSteps := 2000000) only [go_sem]
 repeat with_reducible refine zAb ?_
 try simp (maxSteps := 2000000) only [go_sem]
 repeat with_reducible refine zAb ?_
 refine zAd rfl trivial (.inl ?_)
 congr 3
 rw [← zZw]
theorem zZx (l : List (Bys × Bys)) : okA l l.length = (yEN l && !zVS l) := by
 rw [Bool.eq_iff_iff]
 simp only [okA, zVQ, zVS, Bool.and_eq_true, Bool.not_eq_true', List.all_eq_true, List.any_eq_false, List.mem_range]
 constructor
 ·intro h
  refine ⟨fun k hk => ?_, fun k hk => ?_⟩
  ·have := h k hk
   simp only [aOk, rOk, Bool.and_eq_true] at this ⊢
   exact ⟨this.1.1, this.2⟩
  ·have := h k hk
   simp only [aOk, zQi, Bool.and_eq_true] at this ⊢
   rw [this.1.2]; simp
 ·intro ⟨h1, h2⟩ k hk
  have h3 := h1 k hk
  have h4 := h2 k hk
  simp only [aOk, rOk, zQi, Bool.and_eq_true, Bool.not_eq_true, Bool.not_eq_false'] at h3 h4 ⊢
  exact ⟨⟨h3.1, h4⟩, h3.2⟩
theorem zRf (x : Nd) : Contract Tryz.prog zJR [.val (.agg (ndV x))] { res := .val (bv (zOf x)) } := by
 unfold ndV
 refine mkA zWD (base := 0) (fo rfl) (fun hfit => ?_)
 unfold F0 zQ0
 simp (maxSteps := 2000000) only [zAD, List.set_cons_succ, List.set_cons_zero, List.map_cons, List.map_nil, zAB, zAa, ioOf, List.length_cons, List.length_nil, Nat.reduceAdd, Nat.reduceSub, List.replicate, List.cons_append, List.nil_append]
 try simp (maxSteps := 2000000) only [go_sem]
 repeat with_reducible refine zAb ?_
 refine zAt (by repeat' constructor) (zEo _) ?_
 try simp (maxSteps := 2000000) only [go_sem]
 repeat with_reducible refine zAb ?_
 apply zAy (h2 := fun _ => zEo _)
 ·(simp (maxSteps := 2000000) only [go_sem]; rfl)
 ·intro h; repeat' (first | exact trivial | exact h | refine And.intro ?_ ?_)
 try simp (maxSteps := 2000000) only [go_sem]
 repeat with_reducible refine zAb ?_
 apply zAy (h2 := fun _ => zLD _)
 ·(simp (maxSteps := 2000000) only [go_sem]; rfl)
 ·intro h; repeat' (first | exact trivial | exact h | refine And.intro ?_ ?_)
 try simp (maxSteps := 2000000) only [go_sem]
 repeat with_reducible refine zAb ?_
 apply zAy (h2 := fun _ => zNs _)
 ·(simp (maxSteps := 2000000) only [go_sem]; rfl)
 ·intro h; repeat' (first | exact trivial | exact h | refine And.intro ?_ ?_)
 try simp (maxSteps := 2000000) only [go_sem]
 repeat with_reducible refine zAb ?_
 apply zAy (h2 := fun _ => zET _)
 ·(simp (maxSteps := 2000000) only [go_sem]; rfl)
 ·intro h; repeat' (first | exact trivial | exact h | refine And.intro ?_ ?_)
 try simp (maxSteps := 2000000) only [go_sem]
 repeat with_reducible refine zAb ?_
 refine zAd rfl trivial (.inl ?_)
 congr 3
 simp only [zOf, zZx]
 grind
end Go.Hx
end

section
set_option maxRecDepth 100000
set_option linter.unusedSimpArgs false
namespace Go.Hx
open Go.Proofs
variable [Glob]
attribute [local go_sem] zAu zAr zAs zAk ndV zAo
attribute [local go_sem] reduceCtorEq Nat.reduceAdd Nat.reduceEqDiff reduceIte Nat.reduceLeDiff Nat.reduceLT Nat.reduceSub
def zMF (u : Int) (c : List Int) : List Int := c.dropWhile fun x => decide (x ≠ u)
theorem zPs {u : Int} : ∀ c : List Int, (zMF u c = []) ↔ u ∉ c
 | [] => by simp [zMF]
 | x :: c => by
  simp only [zMF, List.dropWhile_cons]
  by_cases h : x = u
  ·simp [h]
  ·have := zPs (u := u) c
   simp only [zMF] at this
   simp only [ne_eq, decide_not] at this
   simp [h, this, Ne.symm h]
theorem zPt {d : List Nd} {u : Int} : ∀ (f : Nat) (k : Int), (∀ j : Nat, (j : Int) ≤ k → zBf d j < j) → k < f → u ∈ zBE d f k → ∀ g : Nat, u < g → zMF u (zBE d f k) = zBE d g u
 | 0, k, _, _, hu => by simp [zBE] at hu
 | f + 1, k, h, hf, hu => by
  intro g hg
  have hb := zDK (f + 1) k h _ hu
  simp only [zBE] at hu ⊢
  split at hu
  ·cases hu
  ·rename_i hk
   rw [if_neg hk]
   simp only [zMF, List.dropWhile_cons]
   by_cases e : k = u
   ·subst e
    simp only [ne_eq, not_true_eq_false, decide_false, Bool.false_eq_true, if_false]
    have : k :: zBE d f (zBf d k.toNat) = zBE d (f + 1) k := by simp [zBE, hk]
    rw [this]
    exact zI5 _ _ _ h hf hg
   ·simp only [ne_eq, e, not_false_eq_true, decide_true, if_true]
    have h1 := h k.toNat (by omega)
    exact zPt f (zBf d k.toNat) (fun j hj => h j (by omega)) (by omega) ((List.mem_cons.1 hu).resolve_left (Ne.symm e)) g hg
theorem zRg (c : List Int) (x : Int) : (zCr ((x :: c).reverse)).getD c.length [] = [bI x] := by
 simp [zCr]
theorem zRh (c : List Int) (x : Int) : (zCr ((x :: c).reverse)).take c.length = zCr c.reverse := by
 simp [zCr]
theorem yA5 : zCr [] = [] := rfl
theorem zVT {d : List Nd} {i : Nat} : yE4 d i = ((decide (i ≠ 0) || decide (zBf d i = -1)) && (decide (i = 0) || !decide (zMF (zBf d i) (zBE d i ((i : Int) - 1)) = []))) := by
 unfold yE4
 by_cases h : i = 0
 ·simp [h]
 ·have := zPs (u := zBf d i) (zBE d i ((i : Int) - 1))
  simp only [h, if_false, ne_eq, not_false_eq_true, decide_true, Bool.true_or, Bool.true_and, decide_false, Bool.false_or, this]
  simp
theorem zVU {d : List Nd} : ∀ (f : Nat) (k : Int), (zBE d f k).length ≤ f
 | 0, _ => by simp [zBE]
 | f + 1, k => by
  simp only [zBE]
  split
  ·simp
  ·have := zVU (d := d) f (zBf d k.toNat)
   simp; omega
theorem yA6 (n : Nat) : ((((n + 1 : Nat) : Int)) - 1).toNat = n := by omega
theorem yA7 {d : List Nd} {i : Nat} (hl : 1 ≤ d.length ∧ d.length ≤ 64) (hi : i < d.length) (h : zYX d i = false) : zBr d = 1 := by
 have : zEw d d.length = false := by
  cases hd : zEw d d.length with
  | false => rfl
  | true => rw [zBI hd hi] at h; cases h
 simp [zBr, hl, this]
theorem zXl (d : List Nd) : Contract Tryz.prog zH0 [.val (zPS d)] { res := .val (iv (zBr d)) } := by
 unfold zPS
 refine mkA zUB (base := 0) (fo rfl) (fun hfit => ?_)
 unfold F0 zO8
 simp (maxSteps := 2000000) only [zAD, List.set_cons_succ, List.set_cons_zero, List.map_cons, List.map_nil, zAB, zAa, ioOf, List.length_cons, List.length_nil, Nat.reduceAdd, Nat.reduceSub, List.replicate, List.cons_append, List.nil_append]
 try simp (maxSteps := 2000000) only [go_sem]
 repeat with_reducible refine zAb ?_
 refine zAc (by rfl) trivial (fun h => ?_) (fun h => ?_)
 ·try simp (maxSteps := 2000000) only [go_sem]
  repeat with_reducible refine zAb ?_
  refine zAd rfl trivial (.inl ?_)
  congr 3
  have hl : ¬ (1 ≤ d.length ∧ d.length ≤ 64) := by
   simp at h; omega
  simp [zBr, hl]
 have hl : 1 ≤ d.length ∧ d.length ≤ 64 := by
  simp at h; omega
 try simp (maxSteps := 2000000) only [go_sem]
 repeat with_reducible refine zAb ?_
 refine zAv (fun i : Nat => [(3, .stk zHt 1 (zCr (zBE d i ((i : Int) - 1)).reverse)), (4, .un), (5, .un), (19, .pv (iv i)), (20, .un), (37, .un), (63, .un), (69, .un), (70, .un), (71, .un), (72, .un), (73, .un)]) (fun i : Nat => d.length - i) (fun i : Nat => i ≤ d.length ∧ zEw d i = true) (0) ?_ ⟨Nat.zero_le _, rfl⟩ ?_
 focus (simp (maxSteps := 2000000) only [go_sem, zAf, zAn, zAz, zAg]; all_goals (repeat' (first | exact trivial | exact zAl (by omega) | exact zAh rfl | exact zAw rfl | exact zAp | exact le_refl _ | refine And.intro ?_ ?_)))
 intro i ⟨hi, hok⟩
 try simp (maxSteps := 2000000) only [go_sem]
 repeat with_reducible refine zAb ?_
 refine zAc (by rfl) trivial (fun h2 => ?_) (fun h2 => ?_)
 ·have hlt : i < d.length := by simpa using h2
  try simp (maxSteps := 2000000) only [go_sem, zDh _ _ hlt]
  repeat with_reducible refine zAb ?_
  have hcl := zVU (d := d) i ((i : Int) - 1)
  have hx : zBf d i = (d.getD i default).up := rfl
  refine zAv (fun c : List Int => [(3, .stk zHt 1 (zCr c.reverse)), (37, .un)]) (fun c : List Int => c.length) (fun c : List Int => c.length ≤ i ∧ zMF (zBf d i) c = zMF (zBf d i) (zBE d i ((i : Int) - 1))) ((zBE d i ((i : Int) - 1))) ?_ ⟨hcl, rfl⟩ ?_
  focus (simp (maxSteps := 2000000) only [go_sem, zAf, zAn, zAz, zAg]; all_goals (repeat' (first | exact trivial | exact zAl (by omega) | exact zAh rfl | exact zAw rfl | exact zAp | exact le_refl _ | refine And.intro ?_ ?_)))
  intro c ⟨hcl, hc⟩
  cases c with
  | nil =>
   have hpop : zMF (zBf d i) (zBE d i ((i : Int) - 1)) = [] := by rw [← hc]; rfl
   have hup := zVT (d := d) (i := i)
   rw [hpop] at hup
   try simp (maxSteps := 2000000) only [go_sem, List.reverse_nil, yA5, List.getD_nil, List.headD_nil]
   repeat with_reducible refine zAb ?_
   refine zAc (by rfl) trivial (fun h3 => ?_) (fun h3 => ?_)
   ·simp at h3
   try simp (maxSteps := 2000000) only [go_sem]
   repeat with_reducible refine zAb ?_
   refine zUe (by repeat' constructor) (zRf (d.getD i default)) ?_
   try simp (maxSteps := 2000000) only [go_sem]
   repeat with_reducible refine zAb ?_
   refine zAc (by rfl) trivial (fun h4 => ?_) (fun h4 => ?_)
   ·try simp (maxSteps := 2000000) only [go_sem]
    repeat with_reducible refine zAb ?_
    refine zAd rfl trivial (.inl ?_)
    congr 3
    refine yA7 hl hlt ?_
    rw [zYX, hup]
    grind
   ·try simp (maxSteps := 2000000) only [go_sem]
    repeat with_reducible refine zAb ?_
    have h5 : i = 0 := by grind
    have h6 : zYX d i = true := by
     rw [zYX, hup]
     grind
    refine ⟨i + 1, by omega, ⟨by omega, by rw [zQ2, hok, h6]; rfl⟩, ?_⟩
    simp (maxSteps := 2000000) only [go_sem, zAf, zAn, zAz, zAg]
    all_goals (repeat' (first | exact trivial | exact zAl (by omega) | exact zAh rfl | exact zAw rfl | exact zAp | exact le_refl _ | refine And.intro ?_ ?_))
    refine zAw ?_
    subst h5
    have : zBf d 0 = -1 := by grind
    simp [zBE, this, zCr]
  | cons x c =>
   have hlen : c.length + 1 ≤ 64 := by simp at hcl; omega
   try simp (maxSteps := 2000000) only [go_sem, List.length_reverse, yA6, zRg, zRh]
   repeat with_reducible refine zAb ?_
   refine zAc (by rfl) trivial (fun h3 => ?_) (fun h3 => ?_)
   ·try simp (maxSteps := 2000000) only [go_sem, List.length_reverse, yA6, zRg, zRh]
    repeat with_reducible refine zAb ?_
    refine ⟨c, by omega, ⟨by simp at hcl; omega, ?_⟩, ?_⟩
    ·rw [← hc]
     simp only [zMF, List.dropWhile_cons]
     grind
    ·simp (maxSteps := 2000000) only [go_sem, zAf, zAn, zAz, zAg]
     all_goals (repeat' (first | exact trivial | exact zAl (by omega) | exact zAh rfl | exact zAw rfl | exact zAp | exact le_refl _ | refine And.intro ?_ ?_))
   have hxu : x = zBf d i := by grind
   have hpop : zMF (zBf d i) (zBE d i ((i : Int) - 1)) = x :: c := by rw [← hc]; simp [zMF, hxu]
   have hup := zVT (d := d) (i := i)
   rw [hpop] at hup
   try simp (maxSteps := 2000000) only [go_sem, List.length_reverse]
   repeat with_reducible refine zAb ?_
   refine zUe (by repeat' constructor) (zRf (d.getD i default)) ?_
   try simp (maxSteps := 2000000) only [go_sem]
   repeat with_reducible refine zAb ?_
   refine zAc (by rfl) trivial (fun h4 => ?_) (fun h4 => ?_)
   ·try simp (maxSteps := 2000000) only [go_sem]
    repeat with_reducible refine zAb ?_
    refine zAd rfl trivial (.inl ?_)
    congr 3
    refine yA7 hl hlt ?_
    rw [zYX, hup]
    grind
   ·try simp (maxSteps := 2000000) only [go_sem]
    repeat with_reducible refine zAb ?_
    have hmem : zBf d i ∈ zBE d i ((i : Int) - 1) := by
     have := zPs (u := zBf d i) (zBE d i ((i : Int) - 1))
     rw [hpop] at this
     simpa using this
    have h5 : i ≠ 0 := by intro h0; subst h0; simp [zBE] at hmem
    have h6 : zYX d i = true := by
     rw [zYX, hup]
     grind
    refine ⟨i + 1, by omega, ⟨by omega, by rw [zQ2, hok, h6]; rfl⟩, ?_⟩
    simp (maxSteps := 2000000) only [go_sem, zAf, zAn, zAz, zAg]
    all_goals (repeat' (first | exact trivial | exact zAl (by omega) | exact zAh rfl | exact zAw rfl | exact zAp | exact le_refl _ | refine And.intro ?_ ?_))
    refine zAw ?_
    have hups : ∀ j : Nat, (j : Int) ≤ (i : Int) - 1 → zBf d j < j := fun j hj => (zBs hok j (by omega)).2
    have hb := zDK i ((i : Int) - 1) hups _ hmem
    have hch := zPt i ((i : Int) - 1) hups (by omega) hmem i (by omega)
    rw [hpop] at hch
    have : zBE d (i + 1) (((i + 1 : Nat) : Int) - 1) = (i : Int) :: x :: c := by
     rw [show (((i + 1 : Nat) : Int) - 1) = (i : Int) by omega]
     simp only [zBE]
     rw [if_neg (by omega), hch]
     simp
    rw [this]
    simp [zCr]
 ·try simp (maxSteps := 2000000) only [go_sem]
  repeat with_reducible refine zAb ?_
  refine zAd rfl trivial (.inl ?_)
  congr 3
  have hi2 : i = d.length := by simp at h2; omega
  subst hi2
  simp [zBr, hl, hok]
end Go.Hx
end
