/-
  Walks of functions of the program over an abstract layer, and the laws that they use: each contract says what the function computes, for every input that its conditions let by. No other condition.
-/
import Derived.Test.YtjnagiaooecklabDoorG8
import Derived.Test.YtjnagiaooecklabDoorG10
import Derived.Test.YtjnagiaooecklabDoorG12
import Derived.Test.YtjnagiaooecklabDoorG13
import Derived.Shelf.Strings.SlTrimAscii
import Derived.Test.YtjnagiaooecklabDoorG9
import Derived.Test.YtjnagiaooecklabDoorG11
set_option linter.all false
section
set_option maxRecDepth 100000
set_option linter.unusedSimpArgs false
namespace Go.Hx
open Go.Proofs Go.RowKit
variable [Glob]
attribute [local go_sem] zAw zAq zAr zAk ndV zAo
attribute [local go_sem] reduceCtorEq Nat.reduceAdd Nat.reduceEqDiff reduceIte Nat.reduceLeDiff Nat.reduceLT Nat.reduceSub
theorem zO6 {R : Nat → Prop} {w w' : World} (h : Below w.heap.size w w') : Pres R w w' := ⟨h.os, h.tape, h.output, h.size, fun b hb _ => h.block b hb⟩
theorem zSG {m : Mem} {w w' : World} (hm : MemOk m w) (h : Below w.heap.size w w') : MemOk m w' := fun b o u hu => by
 have h1 := hm b o u hu
 have h2 : b < w.heap.size := World.block_lt_of_cell? w _ h1
 rw [← h1]
 exact World.cell?_of_block (h.block b h2)
theorem zO7 {R : Nat → Prop} {w w' : World} (h : Pres R w w') (hR : ∀ b, ¬ R b) : Below w.heap.size w w' := ⟨h.os, h.tape, h.output, h.size, fun b hb => h.block b hb (hR b)⟩
theorem zTW {m : Mem} {w w' : World} {avs : List AV} {us : List Value} {e : Ending} {x : PVal} {u : Value} (hm : MemOk m w) (h : Below w.heap.size w w') (he : e = .returned u) (hx : RpV m x u) (hio : ioB avs us = none) : zXk m w avs us { res := .val x } e w' :=
 ⟨m, m.le_refl, zSG hm h, zO6 h, fun _ _ _ h => .inl h, (fun b hb => by rw [hio] at hb; cases hb), u, he, hx⟩
theorem zUH {w w' : World} (h : Below w.heap.size w w') (hG : Glob.ok w) : Glob.ok w' :=
 Glob.keep _ _ (fun b hb => h.block b (Nat.lt_of_lt_of_le hb (Glob.size _ hG))) hG
theorem zVQ (s cs : Bys) : (Lib.trimS s cs).length ≤ s.length := by
 unfold Lib.trimS Lib.trimLeftS Lib.trimRightS
 refine Nat.le_trans (List.dropWhile_sublist _).length_le ?_
 rw [List.length_reverse]
 refine Nat.le_trans (List.dropWhile_sublist _).length_le ?_
 rw [List.length_reverse]
 exact Nat.le_refl _
theorem zVR {s : Bys} (h : s.length ≤ maxLen) : zEq (mkS s) = true := by
 simp only [zEq]
 exact decide_eq_true (by simpa [ByteArray.size] using h)
theorem zW5 {s : Bys} (h : zEq (mkS s) = true) : s.length ≤ maxLen := by
 simp only [zEq, decide_eq_true_eq] at h
 simpa [ByteArray.size] using h
theorem zNi (s cs : Bys) (hc : cs.length < 1000) (ha : cs.all (fun b => decide (b.toNat < 128)) = true) : Contract Tryd.prog zEa [.val (sv s), .val (sv cs)] { res := .val (sv (Lib.trimS s cs)) } := by
 refine ⟨by kernel_rfl, fun m w us hm hargs _ hG _ => ?_⟩
 obtain ⟨u1, us1, rfl, h1, u2, us2, rfl, h2, rfl⟩ := hargs
 obtain ⟨rfl, f1⟩ := h1
 obtain ⟨rfl, f2⟩ := h2
 have hs := zW5 f1
 have hT := Any.strings_Trim_laid Tryd.l160 (by kernel_rfl) ⟨s.toArray⟩ ⟨cs.toArray⟩ w (by simpa [ByteArray.size, maxLen] using hs) (by simp [ByteArray.size]; omega) (ascii_of_all (by simpa using ha))
 change Calls Tryd.prog zEa _ _ _ at hT
 refine hT.mono fun e w' ⟨he, hb⟩ => zTW hm hb he ⟨by simp, ?_⟩ rfl
 exact zVR (Nat.le_trans (zVQ s cs) hs)
theorem zDs (s : Bys) (g : Nat) (p : Nat → Bool) (hp : ∀ r, 128 ≤ r → p r = true) (eg : ∀ args w, (callFunc g args).run Tryd.prog w = .ok (.enter g args) w)
  (hg : ∀ r : Nat, Contract Tryd.prog g [.val (.one (.v (.int .i32 r)))] { res := .val (bv (p r)) }) :
  Contract Tryd.prog zBr [.val (sv s), .val (.one (.clo g []))] { res := .val (bv (!s.all (fun b => decide (b.toNat < 128) && !p b.toNat))) } := by
 refine ⟨by kernel_rfl, fun m w us hm hargs _ hG _ => ?_⟩
 obtain ⟨u1, us1, rfl, h1, u2, us2, rfl, h2, rfl⟩ := hargs
 obtain ⟨rfl, f1⟩ := h1
 obtain ⟨us, rfl, hus⟩ := h2
 obtain rfl : us = [] := by simpa [RpL] using hus
 have hpg : PredGrows Tryd.prog g #[] p w := fun W x _ hbW => by
  refine ((hg x).2 (fun _ _ => none) W [.int .i32 x] (fun _ _ _ h => by cases h) ⟨_, _, rfl, ⟨rfl, rfl⟩, rfl⟩ (by intro g h; cases h) (zUH hbW hG) (by rintro b (h | h) <;> cases h)).mono fun e W' ⟨m', _, _, hpr, _, _, u, hu, hr⟩ => ?_
  obtain rfl : u = .bool (p x) := hr.1
  exact ⟨hu, zO7 hpr (by intro b h; rcases h with h | h <;> cases h)⟩
 have hT := Any.strings_ContainsFunc_grows Tryd.l17 g #[] eg p ⟨s.toArray⟩ w hpg
 change Calls Tryd.prog zBr _ _ _ at hT
 rw [zY8 hp] at hT
 exact hT.mono fun e w' ⟨he, hb⟩ => zTW hm hb he ⟨rfl, rfl⟩ rfl
def zUI (r : Nat) : Bool := ((decide (r < 97) || decide (122 < r)) && (decide (r < 48) || decide (57 < r))) && decide (r ≠ 45)
def zNO (r : Nat) : Bool := decide (r < 32) || decide (126 < r) || decide (r = 34)
theorem zQV (r : Nat) : Contract Tryd.prog zCs [.val (.one (.v (.int .i32 r)))] { res := .val (bv (zUI r)) } := by
 refine zOP (base := 0) ⟨Nat.le_of_ble_eq_true rfl, Nat.le_of_ble_eq_true rfl, Nat.le_of_ble_eq_true rfl, rfl⟩ (fun hfit => ?_)
 unfold F0 zEB
 simp (maxSteps := 2000000) only [zAV, List.set_cons_succ, List.set_cons_zero, List.map_cons, List.map_nil, zAU, zAa, ioOf, List.length_cons, List.length_nil, Nat.reduceAdd, Nat.reduceSub, List.replicate, List.cons_append, List.nil_append]
 try simp (maxSteps := 2000000) only [go_sem]
 repeat with_reducible refine zAd ?_
 refine zAg rfl trivial (.inl ?_)
 congr 3
 unfold zUI
 grind
theorem zO8 (r : Nat) : Contract Tryd.prog zB9 [.val (.one (.v (.int .i32 r)))] { res := .val (bv (zNO r)) } := by
 refine zNd (base := 0) ⟨Nat.le_of_ble_eq_true rfl, Nat.le_of_ble_eq_true rfl, Nat.le_of_ble_eq_true rfl, rfl⟩ (fun hfit => ?_)
 unfold F0 zDU
 simp (maxSteps := 2000000) only [zAV, List.set_cons_succ, List.set_cons_zero, List.map_cons, List.map_nil, zAU, zAa, ioOf, List.length_cons, List.length_nil, Nat.reduceAdd, Nat.reduceSub, List.replicate, List.cons_append, List.nil_append]
 try simp (maxSteps := 2000000) only [go_sem]
 repeat with_reducible refine zAd ?_
 refine zAg rfl trivial (.inl ?_)
 congr 3
 unfold zNO
 grind
theorem zY9 : ∀ args w, (callFunc zCs args).run Tryd.prog w = .ok (.enter zCs args) w := enters_of Tryd.func65 (by kernel_rfl) rfl
theorem zZa : ∀ args w, (callFunc zB9 args).run Tryd.prog w = .ok (.enter zB9 args) w := enters_of Tryd.func66 (by kernel_rfl) rfl
theorem zKq {α : Type} {l : List α} {p q : α → Bool} (h : ∀ x, p x = q x) : l.all p = l.all q := by rw [show p = q from funext h]
theorem yAZ (b : UInt8) : (decide (b.toNat < 128) && !zNO b.toNat) = zYS b := by
 unfold zNO zYS
 grind
theorem zZb (b : UInt8) : (decide (b.toNat < 128) && !zUI b.toNat) = zP7 b := by
 unfold zUI zP7
 grind
theorem yA0 (b : UInt8) : ([97, 98, 99, 100, 101, 102, 103, 104, 105, 106, 107, 108, 109, 110, 111, 112, 113, 114, 115, 116, 117, 118, 119, 120, 121, 122, 48, 49, 50, 51, 52, 53, 54, 55, 56, 57, 45] : Bys).contains b = zP7 b := by
 have h : ∀ n : Fin 256, ([97, 98, 99, 100, 101, 102, 103, 104, 105, 106, 107, 108, 109, 110, 111, 112, 113, 114, 115, 116, 117, 118, 119, 120, 121, 122, 48, 49, 50, 51, 52, 53, 54, 55, 56, 57, 45] : Bys).contains (UInt8.ofFin n) = zP7 (UInt8.ofFin n) := by decide +kernel
 exact h b.toFin
theorem zMM (s : Bys) : Contract Tryd.prog zEx [.val (sv s)] { res := .val (bv (zGq s)) } := by
 refine zQA (base := 0) ⟨Nat.le_of_ble_eq_true rfl, Nat.le_of_ble_eq_true rfl, Nat.le_of_ble_eq_true rfl, rfl⟩ (fun hfit => ?_)
 unfold F0 zFL
 simp (maxSteps := 2000000) only [zAV, List.set_cons_succ, List.set_cons_zero, List.map_cons, List.map_nil, zAU, zAa, ioOf, List.length_cons, List.length_nil, Nat.reduceAdd, Nat.reduceSub, List.replicate, List.cons_append, List.nil_append]
 try simp (maxSteps := 2000000) only [go_sem]
 repeat with_reducible refine zAd ?_
 apply zAz (h2 := fun _ => zDs s zB9 zNO (by intro r h; unfold zNO; grind) zZa zO8)
 ·(simp (maxSteps := 2000000) only [go_sem]; rfl)
 ·intro h; repeat' (first | exact trivial | exact h | refine And.intro ?_ ?_)
 try simp (maxSteps := 2000000) only [go_sem]
 repeat with_reducible refine zAd ?_
 refine zAg rfl trivial (.inl ?_)
 congr 3
 rw [zKq yAZ, zGq]
 grind
theorem zDY (s : Bys) : Contract Tryd.prog zCk [.val (sv s)] { res := .val (bv (zCT s)) } := by
 refine zSo (base := 0) ⟨Nat.le_of_ble_eq_true rfl, Nat.le_of_ble_eq_true rfl, Nat.le_of_ble_eq_true rfl, rfl⟩ (fun hfit => ?_)
 unfold F0 zHt
 simp (maxSteps := 2000000) only [zAV, List.set_cons_succ, List.set_cons_zero, List.map_cons, List.map_nil, zAU, zAa, ioOf, List.length_cons, List.length_nil, Nat.reduceAdd, Nat.reduceSub, List.replicate, List.cons_append, List.nil_append]
 try simp (maxSteps := 2000000) only [go_sem]
 repeat with_reducible refine zAd ?_
 apply zAz (h2 := fun _ => zNi s _ (by decide) (by decide))
 ·(simp (maxSteps := 2000000) only [go_sem]; rfl)
 ·intro h; repeat' (first | exact trivial | exact h | refine And.intro ?_ ?_)
 try simp (maxSteps := 2000000) only [go_sem]
 repeat with_reducible refine zAd ?_
 apply zAz (h2 := fun _ => zDs s zCs zUI (by intro r h; unfold zUI; grind) zY9 zQV)
 ·(simp (maxSteps := 2000000) only [go_sem]; rfl)
 ·intro h; repeat' (first | exact trivial | exact h | refine And.intro ?_ ?_)
 try simp (maxSteps := 2000000) only [go_sem]
 repeat with_reducible refine zAd ?_
 refine zAg rfl trivial (.inl ?_)
 congr 3
 rw [zKq zZb, zW4, zKq yA0, zCT]
 grind
end Go.Hx
end

section
set_option maxRecDepth 100000
set_option linter.unusedSimpArgs false
namespace Go.Hx
open Go.Proofs
variable [Glob]
attribute [local go_sem] zAw zAq zAr zAk ndV zAo zAh fdV shV zBd zA0 zBM zBH
attribute [local go_sem] reduceCtorEq Nat.reduceAdd Nat.reduceEqDiff reduceIte Nat.reduceLeDiff Nat.reduceLT Nat.reduceSub
theorem zVS (N : Nat) (ih : yCq Tryd.prog N) (s : St) (d K : Nat) (c : Fd) (hN : SizeOf.sizeOf s ≤ N + 1) (hd : d ≤ 3) (hc : c.le K) (hK : K + bdS d ≤ 1000000000) : Contract Tryd.prog zCt [.io (fdV c), .val (.agg (stV s)), .val (iv d)] { res := .tup [], io := fdV (c.add (ntS s d)) } := by
 rw [zP9]
 unfold fdV
 refine zKp (base := 121) ⟨Nat.le_of_ble_eq_true rfl, Nat.le_of_ble_eq_true rfl, Nat.le_of_ble_eq_true rfl, ⟨rfl, rfl⟩⟩ (fun hfit => ?_)
 unfold F0 zCJ
 simp (maxSteps := 2000000) only [zAV, List.set_cons_succ, List.set_cons_zero, List.map_cons, List.map_nil, zAU, zAa, ioOf, List.length_cons, List.length_nil, Nat.reduceAdd, Nat.reduceSub, List.replicate, List.cons_append, List.nil_append]
 try simp (maxSteps := 2000000) only [go_sem]
 repeat with_reducible refine zAd ?_
 have hbs : bdS d = 1 + 6 * bdT d := rfl
 have hbt : bdT d = 5 + bd (d + 1) := rfl
 refine zAe (by rfl) trivial (fun h => ?_) (fun h => ?_)
 ·have e : ntS s d = fM true := by rw [zXL, if_pos (by simp at h; omega)]
  have hm := hc.m
  try simp (maxSteps := 2000000) only [go_sem]
  repeat with_reducible refine zAd ?_
  refine zDu (by repeat' constructor) (zO5 c true (by omega)) ?_
  try simp (maxSteps := 2000000) only [go_sem]
  repeat with_reducible refine zAd ?_
  rw [e]
  exact zOv rfl rfl
 ·have hl6 : s.tests.length ≤ 6 := by simp at h; omega
  have e : ntS s d = (fF (!(s.tag == []) && !zCT s.tag)).add (zTR s.tests d) := by rw [zXL, if_neg (by omega)]
  rw [e]
  try simp (maxSteps := 2000000) only [go_sem]
  repeat with_reducible refine zAd ?_
  have hf := hc.f
  apply zAz (h2 := fun _ => zDY s.tag)
  ·(simp (maxSteps := 2000000) only [go_sem]; rfl)
  ·intro h; repeat' (first | exact trivial | exact h | refine And.intro ?_ ?_)
  try simp (maxSteps := 2000000) only [go_sem]
  repeat with_reducible refine zAd ?_
  refine zDu (by repeat' constructor) (zLY c (bif !(s.tag == []) then !zCT s.tag else false) (by omega)) ?_
  try simp (maxSteps := 2000000) only [go_sem, Bool.cond_false_right]
  repeat with_reducible refine zAd ?_
  obtain ⟨c1, hc1⟩ : ∃ c1, c1 = c.add (fF (!(s.tag == []) && !zCT s.tag)) := ⟨_, rfl⟩
  have hc2 : c1.le (K + 1) := by rw [hc1]; exact hc.le_add (zQc _)
  rw [← Fd.add_assoc, ← hc1]
  have hK0 : K + 1 + (s.tests.length - 0) * bdT d ≤ 1000000000 := by
   have : (s.tests.length - 0) * bdT d ≤ 6 * bdT d := Nat.mul_le_mul_right _ (by omega)
   omega
  refine zAE (fun x : Nat × Fd => [(7, .un), (8, .un), (9, .un), (30, .pv (iv x.1)), (31, .un), (113, .un), (122, .pv (.one (bI x.2.f))), (123, .pv (.one (bI x.2.m))), (124, .pv (.one (bI x.2.r))), (125, .pv (.one (bI x.2.k)))]) (fun x : Nat × Fd => s.tests.length - x.1) (fun x : Nat × Fd => x.1 ≤ s.tests.length ∧ (∃ K', x.2.le K' ∧ K' + (s.tests.length - x.1) * bdT d ≤ 1000000000) ∧ x.2.add (zTR (s.tests.drop x.1) d) = c1.add (zTR s.tests d)) ((0, c1)) ?_ ⟨Nat.zero_le _, ⟨K + 1, hc2, hK0⟩, by simp⟩ ?_
  focus (simp (maxSteps := 2000000) only [go_sem, zAl, zAu, zAT, zAm]; all_goals (repeat' (first | exact trivial | exact zAs (by omega) | exact zAn rfl | exact zAD rfl | exact zAx | exact le_refl _ | refine And.intro ?_ ?_)))
  rintro ⟨i, a⟩ ⟨hi, ⟨K', ha, hK'⟩, hsum⟩
  simp only at hi ha hK' hsum
  try simp (maxSteps := 2000000) only [go_sem]
  repeat with_reducible refine zAd ?_
  refine zAe (by rfl) trivial (fun h2 => ?_) (fun h2 => ?_)
  ·have hil : i < s.tests.length := by simp at h2; omega
   rw [zLZ (d := default) hil] at hsum
   obtain ⟨t, ht⟩ : ∃ t, t = s.tests.getD i default := ⟨_, rfl⟩
   rw [← ht] at hsum
   have hg := zTM s.tests i hil
   rw [← ht, zIZ] at hg
   have hsz : SizeOf.sizeOf t.list ≤ N := by
    have h3 := zYT t
    have h4 := yCf hil
    rw [← ht] at h4
    have h5 := zWT s
    omega
   have hmul : (s.tests.length - i) * bdT d = bdT d + (s.tests.length - (i + 1)) * bdT d := by
    have : s.tests.length - i = (s.tests.length - (i + 1)) + 1 := by omega
    rw [this, Nat.add_mul]; omega
   have hbp := zOz (4 - (d + 1))
   have hbe : bd (d + 1) = bdF (4 - (d + 1)) := rfl
   simp only [zTR, yAT, zWl] at hsum
   try simp (maxSteps := 2000000) only [go_sem, hg]
   repeat with_reducible refine zAd ?_
   refine zBi (by repeat' constructor) (zVN t.kind) ?_
   try simp (maxSteps := 2000000) only [go_sem, hg]
   repeat with_reducible refine zAd ?_
   have a1 := ha.k
   refine zDu (by repeat' constructor) (zTU a (!kOk t.kind) (by omega)) ?_
   try simp (maxSteps := 2000000) only [go_sem]
   repeat with_reducible refine zAd ?_
   obtain ⟨b1, hb1⟩ : ∃ b1, b1 = a.add (fK (!kOk t.kind)) := ⟨_, rfl⟩
   have l1 : b1.le (K' + 1) := by rw [hb1]; exact ha.le_add (zYY _)
   rw [← hb1]
   have a2 := l1.f
   apply zAz (h2 := fun _ => zDY t.name)
   ·(simp (maxSteps := 2000000) only [go_sem]; rfl)
   ·intro h; repeat' (first | exact trivial | exact h | refine And.intro ?_ ?_)
   try simp (maxSteps := 2000000) only [go_sem]
   repeat with_reducible refine zAd ?_
   refine zDu (by repeat' constructor) (zLY b1 _ (by omega)) ?_
   try simp (maxSteps := 2000000) only [go_sem, Bool.cond_false_right, Bool.cond_true_left]
   repeat with_reducible refine zAd ?_
   obtain ⟨b2, hb2⟩ : ∃ b2, b2 = b1.add (fF (zXI t)) := ⟨_, rfl⟩
   have l2 : b2.le (K' + 1 + 1) := by rw [hb2]; exact l1.le_add (zQc _)
   unfold zXI at hb2
   rw [← hb2]
   have a3 := l2.f
   apply zAz (h2 := fun _ => zMM t.value)
   ·(simp (maxSteps := 2000000) only [go_sem]; rfl)
   ·intro h; repeat' (first | exact trivial | exact h | refine And.intro ?_ ?_)
   try simp (maxSteps := 2000000) only [go_sem]
   repeat with_reducible refine zAd ?_
   refine zDu (by repeat' constructor) (zLY b2 _ (by omega)) ?_
   try simp (maxSteps := 2000000) only [go_sem, Bool.cond_false_right, Bool.cond_true_left]
   repeat with_reducible refine zAd ?_
   obtain ⟨b3, hb3⟩ : ∃ b3, b3 = b2.add (fF (zXJ t)) := ⟨_, rfl⟩
   have l3 : b3.le (K' + 1 + 1 + 1) := by rw [hb3]; exact l2.le_add (zQc _)
   unfold zXJ at hb3
   rw [← hb3]
   have a4 := l3.f
   have e3 : decide (0 < (t.list.length : Int)) = decide (0 < t.list.length) := decide_eq_decide.2 (by omega)
   refine zDu (by repeat' constructor) (zLY b3 _ (by omega)) ?_
   try simp (maxSteps := 2000000) only [go_sem, Bool.cond_false_right, Bool.cond_true_left, e3]
   repeat with_reducible refine zAd ?_
   obtain ⟨b4, hb4⟩ : ∃ b4, b4 = b3.add (fF (zWV t)) := ⟨_, rfl⟩
   have l4 : b4.le (K' + 1 + 1 + 1 + 1) := by rw [hb4]; exact l3.le_add (zQc _)
   unfold zWV at hb4
   rw [← hb4]
   have a5 := l4.r
   refine zAv (by repeat' constructor) (zMK t.na t.nb) ?_
   try simp (maxSteps := 2000000) only [go_sem]
   repeat with_reducible refine zAd ?_
   refine zDu (by repeat' constructor) (zW2 b4 _ (by omega)) ?_
   try simp (maxSteps := 2000000) only [go_sem]
   repeat with_reducible refine zAd ?_
   obtain ⟨b5, hb5⟩ : ∃ b5, b5 = b4.add (fR (zOy t.na t.nb != 0)) := ⟨_, rfl⟩
   have l5 : b5.le (K' + 1 + 1 + 1 + 1 + 1) := by rw [hb5]; exact l4.le_add (yAX _)
   rw [← hb5]
   have hT : b5 = a.add (zWl t) := by
    rw [hb5, hb4, hb3, hb2, hb1]
    simp only [zWl, kOk, zXI, zXJ, zWV, Fd.add_assoc]
    congr 6
   refine zAe (by rfl) trivial (fun h3 => ?_) (fun h3 => ?_)
   ·rw [if_pos h3, ← Fd.add_assoc, ← Fd.add_assoc] at hsum
    have hst := ih.1 t.list (d + 1) (K' + 5) b5 hsz (by omega) l5 (by omega)
    unfold fdV zBd at hst
    rw [show ((d + 1 : Nat) : Int) = (d : Int) + 1 by omega] at hst
    try simp (maxSteps := 2000000) only [go_sem]
    repeat with_reducible refine zAd ?_
    refine zDu (by repeat' constructor) (hst) ?_
    try simp (maxSteps := 2000000) only [go_sem]
    repeat with_reducible refine zAd ?_
    refine ⟨(i + 1, b5.add (ntL t.list (d + 1))), by simp only; omega, ⟨by simp only; omega, ⟨K' + 5 + bd (d + 1), l5.le_add (b_L _ _), by simp only; omega⟩, ?_⟩, ?_⟩
    ·simp only
     rw [← hsum, hT]
     rfl
    ·simp (maxSteps := 2000000) only [go_sem, zAl, zAu, zAT, zAm]
     all_goals (repeat' (first | exact trivial | exact zAs (by omega) | exact zAn rfl | exact zAD rfl | exact zAx | exact le_refl _ | refine And.intro ?_ ?_))
   ·rw [if_neg (by rw [h3]; simp)] at hsum
    try simp (maxSteps := 2000000) only [go_sem]
    repeat with_reducible refine zAd ?_
    refine ⟨(i + 1, b5), by simp only; omega, ⟨by simp only; omega, ⟨K' + 5, l5, by simp only; omega⟩, ?_⟩, ?_⟩
    ·simp only
     rw [← hsum, hT]
     simp only [zWl, Fd.add_assoc, Fd.zero_add]
    ·simp (maxSteps := 2000000) only [go_sem, zAl, zAu, zAT, zAm]
     all_goals (repeat' (first | exact trivial | exact zAs (by omega) | exact zAn rfl | exact zAD rfl | exact zAx | exact le_refl _ | refine And.intro ?_ ?_))
  ·have hil : i = s.tests.length := by simp at h2; omega
   subst hil
   rw [List.drop_length] at hsum
   try simp (maxSteps := 2000000) only [go_sem]
   repeat with_reducible refine zAd ?_
   rw [← hsum]
   exact zCa rfl rfl
theorem zVT (l : List Pt) : 0 < SizeOf.sizeOf l := by cases l <;> simp <;> omega
theorem zVU (s : St) : 0 < SizeOf.sizeOf s := by cases s; simp only [St.mk.sizeOf_spec]; omega
theorem zO9 : ∀ N, yCq Tryd.prog N
 |0 => ⟨fun l d K c h => by have := zVT l; omega, fun s d K c h => by have := zVU s; omega⟩
 |N + 1 => ⟨fun l d K c h1 h2 h3 h4 => zVO N (zO9 N) l d K c h1 h2 h3 h4, fun s d K c h1 h2 h3 h4 => zVS N (zO9 N) s d K c h1 h2 h3 h4⟩
theorem zLk (l : List Pt) : Contract Tryd.prog zBu [.io (fdV fd0), .val (zBd l), .val (iv 1)] { res := .tup [], io := fdV (ntL l 1) } := by
 have h := (zO9 (SizeOf.sizeOf l)).1 l 1 0 fd0 (Nat.le_refl _) (by omega) (zQd 0) (by have := yAW; omega)
 rw [Fd.zero_add] at h
 exact h
theorem zQW (l : List Pt) : Contract Tryd.prog zFO [.val (zBd l)] { res := .val (iv (zC7 l)) } := by
 rw [← yAV]
 have hc := zLk l
 obtain ⟨c, hcc⟩ : ∃ c, c = ntL l 1 := ⟨_, rfl⟩
 rw [← hcc] at hc ⊢
 unfold zBd
 refine zO4 (base := 0) ⟨Nat.le_of_ble_eq_true rfl, Nat.le_of_ble_eq_true rfl, Nat.le_of_ble_eq_true rfl, rfl⟩ (fun hfit => ?_)
 unfold F0 zEF
 simp (maxSteps := 2000000) only [zAV, List.set_cons_succ, List.set_cons_zero, List.map_cons, List.map_nil, zAU, zAa, ioOf, List.length_cons, List.length_nil, Nat.reduceAdd, Nat.reduceSub, List.replicate, List.cons_append, List.nil_append]
 try simp (maxSteps := 2000000) only [go_sem]
 repeat with_reducible refine zAd ?_
 unfold fdV zBd at hc
 refine zDu (by repeat' constructor) (hc) ?_
 try simp (maxSteps := 2000000) only [go_sem]
 repeat with_reducible refine zAd ?_
 refine zAv (by repeat' constructor) (zQU) ?_
 try simp (maxSteps := 2000000) only [go_sem]
 repeat with_reducible refine zAd ?_
 refine zAE (fun i : Nat => [(5, .un), (12, .pv (iv i)), (13, .un), (21, .un)]) (fun i : Nat => 4 - i) (fun i : Nat => i ≤ 4 ∧ (1 ≤ i → c.m = 0) ∧ (2 ≤ i → c.k = 0) ∧ (3 ≤ i → c.f = 0) ∧ (4 ≤ i → c.r = 0)) (0) ?_ ⟨by omega, by omega, by omega, by omega, by omega⟩ ?_
 focus (simp (maxSteps := 2000000) only [go_sem, zAl, zAu, zAT, zAm]; all_goals (repeat' (first | exact trivial | exact zAs (by omega) | exact zAn rfl | exact zAD rfl | exact zAx | exact le_refl _ | refine And.intro ?_ ?_)))
 rintro i ⟨hi, h1, h2, h3, h4⟩
 try simp (maxSteps := 2000000) only [go_sem]
 repeat with_reducible refine zAd ?_
 refine zAe (by rfl) trivial (fun h => ?_) (fun h => ?_)
 ·have hlt : i < 4 := by simp at h; omega
  have hcase : i = 0 ∨ i = 1 ∨ i = 2 ∨ i = 3 := by omega
  rcases hcase with rfl | rfl | rfl | rfl
  ·try simp (maxSteps := 2000000) only [go_sem, Int.reduceToNat, Int.toNat_natCast, List.getD_cons_zero, List.getD_cons_succ, PV.norm, Int.cast_ofNat_Int]
   repeat with_reducible refine zAd ?_
   refine zAe (by rfl) trivial (fun h5 => ?_) (fun h5 => ?_)
   ·try simp (maxSteps := 2000000) only [go_sem]
    repeat with_reducible refine zAd ?_
    refine zAg rfl trivial (.inl ?_)
    congr 3
    have h6 : 0 < c.m := by simp at h5; omega
    unfold zYW
    simp [ h6]
   ·try simp (maxSteps := 2000000) only [go_sem]
    repeat with_reducible refine zAd ?_
    have h6 : c.m = 0 := by simp at h5; omega
    refine ⟨1, by omega, ⟨by omega, fun _ => h6, by omega, by omega, by omega⟩, ?_⟩
    simp (maxSteps := 2000000) only [go_sem, zAl, zAu, zAT, zAm]
    all_goals (repeat' (first | exact trivial | exact zAs (by omega) | exact zAn rfl | exact zAD rfl | exact zAx | exact le_refl _ | refine And.intro ?_ ?_))
  ·try simp (maxSteps := 2000000) only [go_sem, Int.reduceToNat, Int.toNat_natCast, List.getD_cons_zero, List.getD_cons_succ, PV.norm, Int.cast_ofNat_Int]
   repeat with_reducible refine zAd ?_
   refine zAe (by rfl) trivial (fun h5 => ?_) (fun h5 => ?_)
   ·try simp (maxSteps := 2000000) only [go_sem]
    repeat with_reducible refine zAd ?_
    refine zAg rfl trivial (.inl ?_)
    congr 3
    have h6 : 0 < c.k := by simp at h5; omega
    unfold zYW
    simp [h1 (by omega),  h6]
   ·try simp (maxSteps := 2000000) only [go_sem]
    repeat with_reducible refine zAd ?_
    have h6 : c.k = 0 := by simp at h5; omega
    refine ⟨2, by omega, ⟨by omega, fun _ => h1 (by omega), fun _ => h6, by omega, by omega⟩, ?_⟩
    simp (maxSteps := 2000000) only [go_sem, zAl, zAu, zAT, zAm]
    all_goals (repeat' (first | exact trivial | exact zAs (by omega) | exact zAn rfl | exact zAD rfl | exact zAx | exact le_refl _ | refine And.intro ?_ ?_))
  ·try simp (maxSteps := 2000000) only [go_sem, Int.reduceToNat, Int.toNat_natCast, List.getD_cons_zero, List.getD_cons_succ, PV.norm, Int.cast_ofNat_Int]
   repeat with_reducible refine zAd ?_
   refine zAe (by rfl) trivial (fun h5 => ?_) (fun h5 => ?_)
   ·try simp (maxSteps := 2000000) only [go_sem]
    repeat with_reducible refine zAd ?_
    refine zAg rfl trivial (.inl ?_)
    congr 3
    have h6 : 0 < c.f := by simp at h5; omega
    unfold zYW
    simp [h1 (by omega), h2 (by omega),  h6]
   ·try simp (maxSteps := 2000000) only [go_sem]
    repeat with_reducible refine zAd ?_
    have h6 : c.f = 0 := by simp at h5; omega
    refine ⟨3, by omega, ⟨by omega, fun _ => h1 (by omega), fun _ => h2 (by omega), fun _ => h6, by omega⟩, ?_⟩
    simp (maxSteps := 2000000) only [go_sem, zAl, zAu, zAT, zAm]
    all_goals (repeat' (first | exact trivial | exact zAs (by omega) | exact zAn rfl | exact zAD rfl | exact zAx | exact le_refl _ | refine And.intro ?_ ?_))
  ·try simp (maxSteps := 2000000) only [go_sem, Int.reduceToNat, Int.toNat_natCast, List.getD_cons_zero, List.getD_cons_succ, PV.norm, Int.cast_ofNat_Int]
   repeat with_reducible refine zAd ?_
   refine zAe (by rfl) trivial (fun h5 => ?_) (fun h5 => ?_)
   ·try simp (maxSteps := 2000000) only [go_sem]
    repeat with_reducible refine zAd ?_
    refine zAg rfl trivial (.inl ?_)
    congr 3
    have h6 : 0 < c.r := by simp at h5; omega
    unfold zYW
    simp [h1 (by omega), h2 (by omega), h3 (by omega),  h6]
   ·try simp (maxSteps := 2000000) only [go_sem]
    repeat with_reducible refine zAd ?_
    have h6 : c.r = 0 := by simp at h5; omega
    refine ⟨4, by omega, ⟨by omega, fun _ => h1 (by omega), fun _ => h2 (by omega), fun _ => h3 (by omega), fun _ => h6⟩, ?_⟩
    simp (maxSteps := 2000000) only [go_sem, zAl, zAu, zAT, zAm]
    all_goals (repeat' (first | exact trivial | exact zAs (by omega) | exact zAn rfl | exact zAD rfl | exact zAx | exact le_refl _ | refine And.intro ?_ ?_))
 ·have hi4 : i = 4 := by simp at h; omega
  try simp (maxSteps := 2000000) only [go_sem]
  repeat with_reducible refine zAd ?_
  refine zAg rfl trivial (.inl ?_)
  congr 3
  unfold zYW
  simp [h1 (by omega), h2 (by omega), h3 (by omega), h4 (by omega)]
end Go.Hx
end

section
set_option maxRecDepth 100000
set_option linter.unusedSimpArgs false
namespace Go.Hx
open Go.Proofs
variable [Glob]
attribute [local go_sem] zAw zAq zAr zAk ndV zAo zAh zBd zA0 zBM zBH
end Go.Hx
end

section
set_option maxRecDepth 100000
set_option linter.unusedSimpArgs false
namespace Go.Hx
open Go.Proofs
variable [Glob]
attribute [local go_sem] zAw zAq zAr zAk ndV zAo zAh zBd zA0 zBM zBH
end Go.Hx
end

section
set_option maxRecDepth 100000
set_option linter.unusedSimpArgs false
set_option maxHeartbeats 2000000
namespace Go.Hx
open Go.Proofs
variable [Glob]
end Go.Hx
end

section
set_option maxRecDepth 100000
set_option linter.unusedSimpArgs false
namespace Go.Hx
open Go.Proofs
variable [Glob]
attribute [local go_sem] zAw zAq zAr zAk ndV zAo zAh zHq List.take_nil zA0
def zPa (d : List Nd) (l : List Pt) (k : Nat) : List Int := ((List.range k).filter (lM d l)).map Int.ofNat
def yA1 (d : List Nd) (l : List Pt) : List Int := zPa d l d.length
def zJj (d : List Nd) (l : List Pt) : Nat → Int → Int × Bool
 |0, _ => (0, false)
 |f + 1, k => if k < 0 then (0, false) else if lM d l k.toNat then (k, true) else zJj d l f (zBb d k.toNat)
def zCf (d : List Nd) (l : List Pt) (n : Int) : Int := if zAS d ≠ 0 then zAS d else if zC7 l ≠ 0 then zC7 l else zXM d n
theorem zZc {d : List Nd} (hd : zAS d = 0) : 1 ≤ d.length ∧ d.length ≤ 64 ∧ zD4 d d.length = true := by
 unfold zAS at hd
 split at hd
 ·rename_i h
  split at hd
  ·rename_i h'; exact ⟨h.1, h.2, h'⟩
  ·omega
 ·omega
theorem zUJ {d : List Nd} {l : List Pt} {k : Nat} : zPa d l (k + 1) = if lM d l k then zPa d l k ++ [(k : Int)] else zPa d l k := by
 unfold zPa
 rw [List.range_succ, List.filter_append, List.map_append]
 by_cases h : lM d l k = true <;> simp [List.filter, h]
theorem zQX {d : List Nd} {l : List Pt} (k : Nat) : (zPa d l k).length ≤ k := by
 unfold zPa
 rw [List.length_map]
 exact Nat.le_trans (List.length_filter_le _ _) (by simp)
end Go.Hx
end

section
set_option maxRecDepth 100000
set_option linter.unusedSimpArgs false
namespace Go.Hx
open Go.Proofs
variable [Glob]
attribute [local go_sem] zAw zAq zAr zAk ndV zAo zAh zHq atV OVal.cells zTh List.drop_succ_cons List.drop_zero List.take_succ_cons List.take_zero List.getD_nil zVz zGi Nat.sub_zero List.map_nil List.map_cons zVX zVY zBf zH9 zD2 zAa
attribute [local go_sem ↓] yB7 yB8 yAQ yAP yAR
attribute [local go_sem] reduceCtorEq Nat.reduceAdd Nat.reduceEqDiff reduceIte Nat.reduceLeDiff Nat.reduceLT Nat.reduceSub
def ahd (d : List Nd) (n : Nat) : Int := ((zAG d (zBb d n) n).getLast?).getD (-1)
def plc (d : List Nd) (n : Nat) : Int := (zAG d (zBb d n) n).length + 1
def ofN (d : List Nd) (n : Nat) : Int := if 0 ≤ zBb d n then (zGH d (zBb d n)).length else 1
def zRv (d : List Nd) : List (List PV) := (List.range d.length).map fun n => [bI (plc d n), bI (ofN d n), bI (ahd d n), bI (zCB d n), bI (zGH d n).length]
def zBg (d : List Nd) : PV := .fp [.sl 5 (zXF d), .sl 5 (zRv d)]
def stF (d : List Nd) (i j : Nat) : List OV := zH7 (if j < i then plc d j else 0) 0 (if j < i then ahd d j else 0) (zAP d j i) (zAG d j i).length
theorem zJw (d : List Nd) (u : Int) : zAG d u 0 = [] := rfl
theorem zRw (d : List Nd) (u : Int) : zAP d u 0 = 0 := rfl
theorem yCu (d : List Nd) (L : Nat) : List.replicate L [OV.p (bI 0), .p (bI 0), .p (bI 0), .p (bI 0), .p (bI 0)] = zDV L (stF d 0) := by
 rw [zVZ]
 refine zAR fun j _ => ?_
 simp [stF, zJw, zRw]
theorem zFw {d : List Nd} {u p : Int} : ∀ {i : Nat}, (zAG d u i).getLast? = some p → ∃ m : Nat, m < i ∧ p = m ∧ zBb d m = u ∧ zAG d u i = zAG d u m ++ [(m : Int)]
 |0, h => by rw [zJw] at h; cases h
 |i + 1, h => by
  rw [zAQ] at h
  by_cases e : zBb d i = u
  ·rw [if_pos e] at h
   have hp : p = i := by simpa using h.symm
   exact ⟨i, by omega, hp, e, by rw [zAQ, if_pos e]⟩
  ·rw [if_neg e] at h
   obtain ⟨m, h1, h2, h3, h4⟩ := zFw h
   exact ⟨m, by omega, h2, h3, by rw [zAQ, if_neg e, h4]⟩
def inF (d : List Nd) (i : Nat) (u k : Int) (j : Nat) : List OV := zH7 (if j < i + 1 then plc d j else 0) 0 (if j < i + 1 then ahd d j else 0) (zAP d j i + if (C d u).contains (j : Int) && decide (k < j) then 1 else 0) (zAG d j (i + 1)).length
theorem zPv {d : List Nd} {i : Nat} {u k : Int} (hu : u = zBb d i) (hk : k < 0) (j : Nat) : inF d i u k j = stF d (i + 1) j := by
 unfold inF stF
 have h1 : decide (k < (j : Int)) = true := by simp; omega
 rw [zGG, h1, Bool.and_true, ← hu]
 rfl
theorem zJx {d : List Nd} (hd : zD4 d d.length = true) {i : Nat} {u : Int} (hu : u < d.length) (j : Nat) : inF d i u u j = zH7 (if j < i + 1 then plc d j else 0) 0 (if j < i + 1 then ahd d j else 0) (zAP d j i) (zAG d j (i + 1)).length := by
 unfold inF
 have : ((C d u).contains (j : Int) && decide (u < j)) = false := by
  cases hc : (C d u).contains (j : Int) with
  |false => rfl
  |true =>
   have := (zZx hd hu (by simpa using hc)).2
   simp; omega
 rw [this]
 simp
theorem zL0 {d : List Nd} (hd : zD4 d d.length = true) {i q : Nat} {u : Int} (hu : u < d.length) (hq : (q : Int) ∈ C d u) (j : Nat) : inF d i u (zBb d q) j = if j = q then zH7 (if q < i + 1 then plc d q else 0) 0 (if q < i + 1 then ahd d q else 0) (zAP d q i + (if (C d u).contains (q : Int) && decide ((q : Int) < q) then 1 else 0) + 1) (zAG d q (i + 1)).length else inF d i u q j := by
 have hql := (zZx hd hu hq)
 have hub := zBc hd q (by omega)
 by_cases h : j = q
 ·subst h
  rw [if_pos rfl]
  unfold inF
  have h1 : (C d u).contains (j : Int) = true := by simpa using hq
  have h2 : decide (zBb d j < (j : Int)) = true := by simp; omega
  have h3 : decide ((j : Int) < (j : Int)) = false := by simp
  rw [h1, h2, h3]
  simp
 ·rw [if_neg h]
  unfold inF
  have : ((C d u).contains (j : Int) && decide (zBb d q < (j : Int))) = ((C d u).contains (j : Int) && decide ((q : Int) < j)) := by
   cases hc : (C d u).contains (j : Int) with
   |false => rfl
   |true =>
    have hj : (j : Int) ∈ C d u := by simpa using hc
    obtain ⟨u', rfl⟩ : ∃ u' : Nat, u = u' := ⟨u.toNat, by omega⟩
    rw [Bool.true_and, Bool.true_and]
    rw [decide_eq_decide]
    constructor
    ·intro h1
     by_cases h2 : (q : Int) < j
     ·exact h2
     ·exfalso
      have h3 := yCt hd u' (by omega) hq hj (by omega)
      have h4 := (zZx hd (k := zBb d q) (by omega) h3).2
      omega
    ·intro h1; omega
  rw [this]
def fiF (d : List Nd) (i j : Nat) : List OV := zH7 (plc d j) (if j < i then ofN d j else 0) (ahd d j) (zCB d j) (zGH d j).length
theorem zV1 (d : List Nd) : zDV d.length (stF d d.length) = zDV d.length (fiF d 0) := by
 refine zAR fun j hj => ?_
 simp [stF, fiF, hj, zCB, zGH]
theorem zXa (d : List Nd) (b e : Nat) : (OV.os (some b) e 5 (zDV d.length (fiF d d.length))).frz = some (.sl 5 (zRv d)) := by
 have h : zDV d.length (fiF d d.length) = (zRv d).map fun r => r.map OV.p := by
  rw [zDV, zRv, List.map_map]
  refine List.map_congr_left fun j hj => ?_
  have := List.mem_range.1 hj
  simp [fiF, this]
 rw [h]
 exact yAS (zP4 _)
set_option maxHeartbeats 32000000 in
theorem zUP (d : List Nd) (hd : zAS d = 0) : Contract Tryd.prog zIq [.val (zHq d)] { res := .val (.one (zBg d)) } := by
 obtain ⟨d1, d2, d3⟩ := zZc hd
 unfold zHq
 refine zSS (base := 0) ⟨Nat.le_of_ble_eq_true rfl, Nat.le_of_ble_eq_true rfl, Nat.le_of_ble_eq_true rfl, rfl⟩ (fun hfit => ?_)
 unfold F0 zHu
 simp (maxSteps := 2000000) only [zAV, List.set_cons_succ, List.set_cons_zero, List.map_cons, List.map_nil, zAU, zAa, ioOf, List.length_cons, List.length_nil, Nat.reduceAdd, Nat.reduceSub, List.replicate, List.cons_append, List.nil_append]
 try simp (maxSteps := 2000000) only [go_sem]
 repeat with_reducible refine zAd ?_
 intro bw
 refine yCr (fun bm => ?_)
 try simp (maxSteps := 2000000) only [go_sem]
 repeat with_reducible refine zAd ?_
 refine zAE (fun x : Nat × List (Int × Int) => [(24, .pv (iv x.1)), (20, .ov (.one (zW6 bm x.2))), (163, .ov (.one (.os (some bw) zBZ 5 (zDV d.length (stF d x.1))))), (5, .un), (6, .un), (7, .un), (8, .un), (9, .un), (10, .un), (25, .un), (43, .un), (72, .un), (91, .un), (107, .un), (164, .un), (165, .un), (166, .un), (167, .un), (168, .un)]) (fun x : Nat × List (Int × Int) => d.length - x.1) (fun x : Nat × List (Int × Int) => x.1 ≤ d.length ∧ ∀ u, zUK x.2 u = (zAG d u x.1).getLast?) ((0, [])) ?_ ⟨Nat.zero_le _, fun u => rfl⟩ ?_
 focus (simp (maxSteps := 2000000) only [go_sem, zAl, zAu, zAT, zAm]; all_goals (repeat' (first | exact trivial | exact zAs (by omega) | exact zAn rfl | exact zAD rfl | exact zAx | exact le_refl _ | refine And.intro ?_ ?_)))
 ·refine zAD ?_
  rw [← yCu]
 rintro ⟨i, ml⟩ ⟨hi, hml⟩
 simp only at hi hml
 try simp (maxSteps := 2000000) only [go_sem]
 repeat with_reducible refine zAd ?_
 refine zAe (by rfl) trivial (fun g1 => ?_) (fun g1 => ?_)
 ·have hil : i < d.length := by simpa using g1
  have hv := zCr d i hil
  rw [ndV] at hv
  obtain ⟨u, hu⟩ : ∃ u, u = zBb d i := ⟨_, rfl⟩
  have hup : (d.getD i default).up = u := hu.symm
  rw [hup] at hv
  have hub := zBc d3 i hil
  rw [← hu] at hub
  have hget := fun g => zCF hil g
  obtain ⟨U, hU⟩ : ∃ U, U = zAP d i i := ⟨_, rfl⟩
  obtain ⟨K, hK⟩ : ∃ K, K = (zAG d i i).length := ⟨_, rfl⟩
  have hst : stF d i i = zH7 0 0 0 U K := by simp [stF, hU, hK]
  try simp (maxSteps := 2000000) only [go_sem, hv, hget, hst, zH7]
  repeat with_reducible refine zAd ?_
  refine yCs rfl rfl rfl ?_
  have hgi := hml u
  cases hlast : (zAG d u i).getLast? with
  |none =>
   rw [hlast] at hgi
   have hahd : ahd d i = -1 := by rw [ahd, ← hu, hlast]; rfl
   have hplc : plc d i = 1 := by
    rw [List.getLast?_eq_none_iff] at hlast
    rw [plc, ← hu, hlast]; rfl
   try simp (maxSteps := 2000000) only [go_sem, hgi, Option.isSome_none, Option.getD_none]
   repeat with_reducible refine zAd ?_
   refine zAe (by rfl) trivial (fun g2 => ?_) (fun g2 => ?_)
   ·simp at g2
   try simp (maxSteps := 2000000) only [go_sem, hv, hget, hst, zH7]
   repeat with_reducible refine zAd ?_
   refine yA2 rfl rfl rfl rfl (by decide) ?_
   try simp (maxSteps := 2000000) only [go_sem, hv, hget, hst, zH7]
   repeat with_reducible refine zAd ?_
   refine zAe (by rfl) trivial (fun g3 => ?_) (fun g3 => ?_)
   ·simp at g3
   try simp (maxSteps := 2000000) only [go_sem, hv, hget, hst, zH7]
   repeat with_reducible refine zAd ?_
   refine zAe (by rfl) trivial (fun g4 => ?_) (fun g4 => ?_)
   ·have hu0 : 0 ≤ u := by simpa using g4
    obtain ⟨q, rfl⟩ : ∃ q : Nat, u = q := ⟨u.toNat, by omega⟩
    have hqi : ¬ q = i := by omega
    have hql : q < d.length := by omega
    have hgq := fun g => zCF hql g
    have hstq : stF d i q = zH7 (if q < i then plc d q else 0) 0 (if q < i then ahd d q else 0) (zAP d q i) (zAG d q i).length := rfl
    have hkl := zFa (d := d) (n := q) i
    try simp (maxSteps := 2000000) only [go_sem, hgq, hqi, hstq, zH7]
    repeat with_reducible refine zAd ?_
    refine zAE (fun k : Int => [(10, .pv (iv k)), (163, .ov (.one (.os (some bw) zBZ 5 (zDV d.length (inF d i (q : Int) k))))), (107, .un)]) (fun k : Int => (k + 1).toNat) (fun k : Int => -1 ≤ k ∧ k < i ∧ (0 ≤ k → k ∈ C d (q : Int))) ((q : Int)) ?_ ⟨by omega, by omega, fun _ => by rw [zH8 d3 hql]; exact List.mem_cons_self⟩ ?_
    focus (simp (maxSteps := 2000000) only [go_sem, zAl, zAu, zAT, zAm]; all_goals (repeat' (first | exact trivial | exact zAs (by omega) | exact zAn rfl | exact zAD rfl | exact zAx | exact le_refl _ | refine And.intro ?_ ?_)))
    ·refine zAD ?_
     congr 3
     refine zAR fun j hj => ?_
     rw [zJx d3 (by omega)]
     by_cases hjq : j = q
     ·subst hjq
      have hkj : zAG d j (i + 1) = zAG d j i ++ [(i : Int)] := by rw [zAQ, if_pos hu.symm]
      rw [hkj, List.length_append]
      have e1 : j < i := by omega
      have e2 : j < i + 1 := by omega
      simp [zH7, e1, e2]
     ·rw [if_neg hjq]
      have hkj : zAG d j (i + 1) = zAG d j i := by rw [zAQ, if_neg (by rw [← hu]; omega)]
      rw [hkj]
      by_cases hji : j = i
      ·subst hji
       rw [if_pos rfl, if_pos (by omega), if_pos (by omega), hplc, hahd, hU, hK]
      ·simp only [if_neg hji, stF]
       have e : (j < i + 1) ↔ (j < i) := by omega
       simp only [e]
    rintro k ⟨hk0, hki, hkc⟩
    try simp (maxSteps := 2000000) only [go_sem]
    repeat with_reducible refine zAd ?_
    refine zAe (by rfl) trivial (fun g5 => ?_) (fun g5 => ?_)
    ·have hk1 : 0 ≤ k := by simpa using g5
     obtain ⟨q2, rfl⟩ : ∃ q2 : Nat, k = q2 := ⟨k.toNat, by omega⟩
     have hql2 : q2 < d.length := by omega
     have hqu := zBc d3 q2 hql2
     have hqv := zCr d q2 hql2
     rw [ndV] at hqv
     have hgq := fun g => zCF hql2 g
     have hkq := hkc hk1
     have hinq : inF d i (q : Int) q2 q2 = zH7 (if q2 < i + 1 then plc d q2 else 0) 0 (if q2 < i + 1 then ahd d q2 else 0) (zAP d q2 i + (if (C d (q : Int)).contains (q2 : Int) && decide ((q2 : Int) < q2) then 1 else 0)) (zAG d q2 (i + 1)).length := rfl
     obtain ⟨V, hV⟩ : ∃ V, V = zAP d q2 i + (if (C d (q : Int)).contains (q2 : Int) && decide ((q2 : Int) < q2) then 1 else 0) := ⟨_, rfl⟩
     have hVb : 0 ≤ V ∧ V ≤ i + 1 := by
      have := zDX (d := d) (n := q2) i
      rw [hV]; split <;> omega
     rw [← hV] at hinq
     have hinf := zL0 d3 (i := i) (by omega : (q : Int) < d.length) hkq
     rw [← hV] at hinf
     try simp (maxSteps := 2000000) only [go_sem, hgq, hinq, zH7, hqv]
     repeat with_reducible refine zAd ?_
     refine ⟨zBb d q2, by omega, ⟨by omega, by omega, fun h0 => ?_⟩, ?_⟩
     ·refine zZe d3 q hql hkq ?_
      rw [zH8 d3 hql2]
      obtain ⟨v, hv2⟩ : ∃ v : Nat, zBb d q2 = v := ⟨(zBb d q2).toNat, by omega⟩
      rw [hv2, zH8 d3 (by omega : v < d.length)]
      exact List.mem_cons_of_mem _ (List.mem_cons_self)
     ·simp (maxSteps := 2000000) only [go_sem, zAl, zAu, zAT, zAm]
      all_goals (repeat' (first | exact trivial | exact zAs (by omega) | exact zAn rfl | exact zAD rfl | exact zAx | exact le_refl _ | refine And.intro ?_ ?_))
      all_goals first | exact zAs rfl | skip
      refine zAD ?_
      congr 3
      refine zAR fun j hj => ?_
      rw [hinf j]
    ·have hk1 : k < 0 := by simp at g5; omega
     try simp (maxSteps := 2000000) only [go_sem]
     repeat with_reducible refine zAd ?_
     refine ⟨(i + 1, zVV ml (q : Int) i), by simp only; omega, ⟨by simp only; omega, fun w => ?_⟩, ?_⟩
     ·simp only
      rw [zJk, hml w, zAQ, ← hu]
      by_cases hw : w = (q : Int)
      ·rw [if_pos hw, if_pos hw.symm]; simp
      ·rw [if_neg hw, if_neg (Ne.symm hw)]
     ·simp (maxSteps := 2000000) only [go_sem, zAl, zAu, zAT, zAm]
      all_goals (repeat' (first | exact trivial | exact zAs (by omega) | exact zAn rfl | exact zAD rfl | exact zAx | exact le_refl _ | refine And.intro ?_ ?_))
      refine zAD ?_
      congr 3
      exact zAR fun j _ => zPv hu hk1 j
   ·have hu0 : u < 0 := by simp at g4; omega
    have hC : C d u = [] := zW9 d3 hu0
    try simp (maxSteps := 2000000) only [go_sem]
    repeat with_reducible refine zAd ?_
    refine zAE (fun k : Int => [(10, .pv (iv k)), (163, .ov (.one (.os (some bw) zBZ 5 (zDV d.length (inF d i u k))))), (107, .un)]) (fun k : Int => (k + 1).toNat) (fun k : Int => -1 ≤ k ∧ k < i ∧ (0 ≤ k → k ∈ C d u)) (u) ?_ ⟨by omega, by omega, fun h => by omega⟩ ?_
    focus (simp (maxSteps := 2000000) only [go_sem, zAl, zAu, zAT, zAm]; all_goals (repeat' (first | exact trivial | exact zAs (by omega) | exact zAn rfl | exact zAD rfl | exact zAx | exact le_refl _ | refine And.intro ?_ ?_)))
    ·refine zAD ?_
     congr 3
     refine zAR fun j hj => ?_
     rw [zJx d3 (by omega)]
     have hkj : zAG d j (i + 1) = zAG d j i := by rw [zAQ, if_neg (by rw [← hu]; omega)]
     rw [hkj]
     by_cases hji : j = i
     ·subst hji
      rw [if_pos rfl, if_pos (by omega), if_pos (by omega), hplc, hahd, hU, hK]
     ·simp only [if_neg hji, stF]
      have e : (j < i + 1) ↔ (j < i) := by omega
      simp only [e]
    rintro k ⟨hk0, hki, hkc⟩
    try simp (maxSteps := 2000000) only [go_sem]
    repeat with_reducible refine zAd ?_
    refine zAe (by rfl) trivial (fun g5 => ?_) (fun g5 => ?_)
    ·have hk1 : 0 ≤ k := by simpa using g5
     obtain ⟨q2, rfl⟩ : ∃ q2 : Nat, k = q2 := ⟨k.toNat, by omega⟩
     have hql2 : q2 < d.length := by omega
     have hqu := zBc d3 q2 hql2
     have hqv := zCr d q2 hql2
     rw [ndV] at hqv
     have hgq := fun g => zCF hql2 g
     have hkq := hkc hk1
     have hinq : inF d i u q2 q2 = zH7 (if q2 < i + 1 then plc d q2 else 0) 0 (if q2 < i + 1 then ahd d q2 else 0) (zAP d q2 i + (if (C d u).contains (q2 : Int) && decide ((q2 : Int) < q2) then 1 else 0)) (zAG d q2 (i + 1)).length := rfl
     obtain ⟨V, hV⟩ : ∃ V, V = zAP d q2 i + (if (C d u).contains (q2 : Int) && decide ((q2 : Int) < q2) then 1 else 0) := ⟨_, rfl⟩
     have hVb : 0 ≤ V ∧ V ≤ i + 1 := by
      have := zDX (d := d) (n := q2) i
      rw [hV]; split <;> omega
     rw [← hV] at hinq
     have hinf := zL0 d3 (i := i) (by omega : u < d.length) hkq
     rw [← hV] at hinf
     try simp (maxSteps := 2000000) only [go_sem, hgq, hinq, zH7, hqv]
     repeat with_reducible refine zAd ?_
     refine ⟨zBb d q2, by omega, ⟨by omega, by omega, fun h0 => ?_⟩, ?_⟩
     ·rw [hC] at hkq; cases hkq
     ·simp (maxSteps := 2000000) only [go_sem, zAl, zAu, zAT, zAm]
      all_goals (repeat' (first | exact trivial | exact zAs (by omega) | exact zAn rfl | exact zAD rfl | exact zAx | exact le_refl _ | refine And.intro ?_ ?_))
      all_goals first | exact zAs rfl | skip
      refine zAD ?_
      congr 3
      refine zAR fun j hj => ?_
      rw [hinf j]
    ·have hk1 : k < 0 := by simp at g5; omega
     try simp (maxSteps := 2000000) only [go_sem]
     repeat with_reducible refine zAd ?_
     refine ⟨(i + 1, zVV ml u i), by simp only; omega, ⟨by simp only; omega, fun w => ?_⟩, ?_⟩
     ·simp only
      rw [zJk, hml w, zAQ, ← hu]
      by_cases hw : w = u
      ·rw [if_pos hw, if_pos hw.symm]; simp
      ·rw [if_neg hw, if_neg (Ne.symm hw)]
     ·simp (maxSteps := 2000000) only [go_sem, zAl, zAu, zAT, zAm]
      all_goals (repeat' (first | exact trivial | exact zAs (by omega) | exact zAn rfl | exact zAD rfl | exact zAx | exact le_refl _ | refine And.intro ?_ ?_))
      refine zAD ?_
      congr 3
      exact zAR fun j _ => zPv hu hk1 j
  |some p =>
   rw [hlast] at hgi
   obtain ⟨m, hmi, rfl, hmu, hkm⟩ := zFw hlast
   have hahd : ahd d i = m := by rw [ahd, ← hu, hlast]; rfl
   have hplc : plc d i = plc d m + 1 := by
    rw [plc, ← hu, hkm, plc, hmu, List.length_append]
    simp
   have hml2 : m < d.length := by omega
   have hmi' : ¬ m = i := by omega
   have hgm := fun g => zCF hml2 g
   have hstm : stF d i m = zH7 (plc d m) 0 (ahd d m) (zAP d m i) (zAG d m i).length := by simp [stF, hmi]
   have hplb : 1 ≤ plc d m ∧ plc d m ≤ 65 := by
    have := zFa (d := d) (n := zBb d m) m
    rw [plc]; omega
   try simp (maxSteps := 2000000) only [go_sem, hgi, Option.isSome_some, Option.getD_some]
   repeat with_reducible refine zAd ?_
   refine zAe (by rfl) trivial (fun g2 => ?_) (fun g2 => ?_)
   ·try simp (maxSteps := 2000000) only [go_sem, hv, hget, hst, zH7]
    repeat with_reducible refine zAd ?_
    refine yA2 rfl rfl rfl rfl (by decide) ?_
    try simp (maxSteps := 2000000) only [go_sem, hv, hget, hst, zH7]
    repeat with_reducible refine zAd ?_
    refine zAe (by rfl) trivial (fun g3 => ?_) (fun g3 => ?_)
    ·try simp (maxSteps := 2000000) only [go_sem, hv, hget, hst, zH7, hgm, hmi', hstm, Int.toNat_natCast]
     repeat with_reducible refine zAd ?_
     refine zAe (by rfl) trivial (fun g4 => ?_) (fun g4 => ?_)
     ·have hu0 : 0 ≤ u := by simpa using g4
      obtain ⟨q, rfl⟩ : ∃ q : Nat, u = q := ⟨u.toNat, by omega⟩
      have hqi : ¬ q = i := by omega
      have hql : q < d.length := by omega
      have hgq := fun g => zCF hql g
      have hstq : stF d i q = zH7 (if q < i then plc d q else 0) 0 (if q < i then ahd d q else 0) (zAP d q i) (zAG d q i).length := rfl
      have hkl := zFa (d := d) (n := q) i
      try simp (maxSteps := 2000000) only [go_sem, hgq, hqi, hstq, zH7]
      repeat with_reducible refine zAd ?_
      refine zAE (fun k : Int => [(10, .pv (iv k)), (163, .ov (.one (.os (some bw) zBZ 5 (zDV d.length (inF d i (q : Int) k))))), (107, .un)]) (fun k : Int => (k + 1).toNat) (fun k : Int => -1 ≤ k ∧ k < i ∧ (0 ≤ k → k ∈ C d (q : Int))) ((q : Int)) ?_ ⟨by omega, by omega, fun _ => by rw [zH8 d3 hql]; exact List.mem_cons_self⟩ ?_
      focus (simp (maxSteps := 2000000) only [go_sem, zAl, zAu, zAT, zAm]; all_goals (repeat' (first | exact trivial | exact zAs (by omega) | exact zAn rfl | exact zAD rfl | exact zAx | exact le_refl _ | refine And.intro ?_ ?_)))
      ·refine zAD ?_
       congr 3
       refine zAR fun j hj => ?_
       rw [zJx d3 (by omega)]
       by_cases hjq : j = q
       ·subst hjq
        have hkj : zAG d j (i + 1) = zAG d j i ++ [(i : Int)] := by rw [zAQ, if_pos hu.symm]
        rw [hkj, List.length_append]
        have e1 : j < i := by omega
        have e2 : j < i + 1 := by omega
        simp [zH7, e1, e2]
       ·rw [if_neg hjq]
        have hkj : zAG d j (i + 1) = zAG d j i := by rw [zAQ, if_neg (by rw [← hu]; omega)]
        rw [hkj]
        by_cases hji : j = i
        ·subst hji
         rw [if_pos rfl, if_pos (by omega), if_pos (by omega), hplc, hahd, hU, hK]
        ·simp only [if_neg hji, stF]
         have e : (j < i + 1) ↔ (j < i) := by omega
         simp only [e]
      rintro k ⟨hk0, hki, hkc⟩
      try simp (maxSteps := 2000000) only [go_sem]
      repeat with_reducible refine zAd ?_
      refine zAe (by rfl) trivial (fun g5 => ?_) (fun g5 => ?_)
      ·have hk1 : 0 ≤ k := by simpa using g5
       obtain ⟨q2, rfl⟩ : ∃ q2 : Nat, k = q2 := ⟨k.toNat, by omega⟩
       have hql2 : q2 < d.length := by omega
       have hqu := zBc d3 q2 hql2
       have hqv := zCr d q2 hql2
       rw [ndV] at hqv
       have hgq := fun g => zCF hql2 g
       have hkq := hkc hk1
       have hinq : inF d i (q : Int) q2 q2 = zH7 (if q2 < i + 1 then plc d q2 else 0) 0 (if q2 < i + 1 then ahd d q2 else 0) (zAP d q2 i + (if (C d (q : Int)).contains (q2 : Int) && decide ((q2 : Int) < q2) then 1 else 0)) (zAG d q2 (i + 1)).length := rfl
       obtain ⟨V, hV⟩ : ∃ V, V = zAP d q2 i + (if (C d (q : Int)).contains (q2 : Int) && decide ((q2 : Int) < q2) then 1 else 0) := ⟨_, rfl⟩
       have hVb : 0 ≤ V ∧ V ≤ i + 1 := by
        have := zDX (d := d) (n := q2) i
        rw [hV]; split <;> omega
       rw [← hV] at hinq
       have hinf := zL0 d3 (i := i) (by omega : (q : Int) < d.length) hkq
       rw [← hV] at hinf
       try simp (maxSteps := 2000000) only [go_sem, hgq, hinq, zH7, hqv]
       repeat with_reducible refine zAd ?_
       refine ⟨zBb d q2, by omega, ⟨by omega, by omega, fun h0 => ?_⟩, ?_⟩
       ·refine zZe d3 q hql hkq ?_
        rw [zH8 d3 hql2]
        obtain ⟨v, hv2⟩ : ∃ v : Nat, zBb d q2 = v := ⟨(zBb d q2).toNat, by omega⟩
        rw [hv2, zH8 d3 (by omega : v < d.length)]
        exact List.mem_cons_of_mem _ (List.mem_cons_self)
       ·simp (maxSteps := 2000000) only [go_sem, zAl, zAu, zAT, zAm]
        all_goals (repeat' (first | exact trivial | exact zAs (by omega) | exact zAn rfl | exact zAD rfl | exact zAx | exact le_refl _ | refine And.intro ?_ ?_))
        all_goals first | exact zAs rfl | skip
        refine zAD ?_
        congr 3
        refine zAR fun j hj => ?_
        rw [hinf j]
      ·have hk1 : k < 0 := by simp at g5; omega
       try simp (maxSteps := 2000000) only [go_sem]
       repeat with_reducible refine zAd ?_
       refine ⟨(i + 1, zVV ml (q : Int) i), by simp only; omega, ⟨by simp only; omega, fun w => ?_⟩, ?_⟩
       ·simp only
        rw [zJk, hml w, zAQ, ← hu]
        by_cases hw : w = (q : Int)
        ·rw [if_pos hw, if_pos hw.symm]; simp
        ·rw [if_neg hw, if_neg (Ne.symm hw)]
       ·simp (maxSteps := 2000000) only [go_sem, zAl, zAu, zAT, zAm]
        all_goals (repeat' (first | exact trivial | exact zAs (by omega) | exact zAn rfl | exact zAD rfl | exact zAx | exact le_refl _ | refine And.intro ?_ ?_))
        refine zAD ?_
        congr 3
        exact zAR fun j _ => zPv hu hk1 j
     ·have hu0 : u < 0 := by simp at g4; omega
      have hC : C d u = [] := zW9 d3 hu0
      try simp (maxSteps := 2000000) only [go_sem]
      repeat with_reducible refine zAd ?_
      refine zAE (fun k : Int => [(10, .pv (iv k)), (163, .ov (.one (.os (some bw) zBZ 5 (zDV d.length (inF d i u k))))), (107, .un)]) (fun k : Int => (k + 1).toNat) (fun k : Int => -1 ≤ k ∧ k < i ∧ (0 ≤ k → k ∈ C d u)) (u) ?_ ⟨by omega, by omega, fun h => by omega⟩ ?_
      focus (simp (maxSteps := 2000000) only [go_sem, zAl, zAu, zAT, zAm]; all_goals (repeat' (first | exact trivial | exact zAs (by omega) | exact zAn rfl | exact zAD rfl | exact zAx | exact le_refl _ | refine And.intro ?_ ?_)))
      ·refine zAD ?_
       congr 3
       refine zAR fun j hj => ?_
       rw [zJx d3 (by omega)]
       have hkj : zAG d j (i + 1) = zAG d j i := by rw [zAQ, if_neg (by rw [← hu]; omega)]
       rw [hkj]
       by_cases hji : j = i
       ·subst hji
        rw [if_pos rfl, if_pos (by omega), if_pos (by omega), hplc, hahd, hU, hK]
       ·simp only [if_neg hji, stF]
        have e : (j < i + 1) ↔ (j < i) := by omega
        simp only [e]
      rintro k ⟨hk0, hki, hkc⟩
      try simp (maxSteps := 2000000) only [go_sem]
      repeat with_reducible refine zAd ?_
      refine zAe (by rfl) trivial (fun g5 => ?_) (fun g5 => ?_)
      ·have hk1 : 0 ≤ k := by simpa using g5
       obtain ⟨q2, rfl⟩ : ∃ q2 : Nat, k = q2 := ⟨k.toNat, by omega⟩
       have hql2 : q2 < d.length := by omega
       have hqu := zBc d3 q2 hql2
       have hqv := zCr d q2 hql2
       rw [ndV] at hqv
       have hgq := fun g => zCF hql2 g
       have hkq := hkc hk1
       have hinq : inF d i u q2 q2 = zH7 (if q2 < i + 1 then plc d q2 else 0) 0 (if q2 < i + 1 then ahd d q2 else 0) (zAP d q2 i + (if (C d u).contains (q2 : Int) && decide ((q2 : Int) < q2) then 1 else 0)) (zAG d q2 (i + 1)).length := rfl
       obtain ⟨V, hV⟩ : ∃ V, V = zAP d q2 i + (if (C d u).contains (q2 : Int) && decide ((q2 : Int) < q2) then 1 else 0) := ⟨_, rfl⟩
       have hVb : 0 ≤ V ∧ V ≤ i + 1 := by
        have := zDX (d := d) (n := q2) i
        rw [hV]; split <;> omega
       rw [← hV] at hinq
       have hinf := zL0 d3 (i := i) (by omega : u < d.length) hkq
       rw [← hV] at hinf
       try simp (maxSteps := 2000000) only [go_sem, hgq, hinq, zH7, hqv]
       repeat with_reducible refine zAd ?_
       refine ⟨zBb d q2, by omega, ⟨by omega, by omega, fun h0 => ?_⟩, ?_⟩
       ·rw [hC] at hkq; cases hkq
       ·simp (maxSteps := 2000000) only [go_sem, zAl, zAu, zAT, zAm]
        all_goals (repeat' (first | exact trivial | exact zAs (by omega) | exact zAn rfl | exact zAD rfl | exact zAx | exact le_refl _ | refine And.intro ?_ ?_))
        all_goals first | exact zAs rfl | skip
        refine zAD ?_
        congr 3
        refine zAR fun j hj => ?_
        rw [hinf j]
      ·have hk1 : k < 0 := by simp at g5; omega
       try simp (maxSteps := 2000000) only [go_sem]
       repeat with_reducible refine zAd ?_
       refine ⟨(i + 1, zVV ml u i), by simp only; omega, ⟨by simp only; omega, fun w => ?_⟩, ?_⟩
       ·simp only
        rw [zJk, hml w, zAQ, ← hu]
        by_cases hw : w = u
        ·rw [if_pos hw, if_pos hw.symm]; simp
        ·rw [if_neg hw, if_neg (Ne.symm hw)]
       ·simp (maxSteps := 2000000) only [go_sem, zAl, zAu, zAT, zAm]
        all_goals (repeat' (first | exact trivial | exact zAs (by omega) | exact zAn rfl | exact zAD rfl | exact zAx | exact le_refl _ | refine And.intro ?_ ?_))
        refine zAD ?_
        congr 3
        exact zAR fun j _ => zPv hu hk1 j
    ·exact absurd g3 (by simp)
   ·simp at g2
 have hi2 : i = d.length := by simp at g1; omega
 subst hi2
 rw [zV1]
 try simp (maxSteps := 2000000) only [go_sem]
 repeat with_reducible refine zAd ?_
 refine zAE (fun i : Nat => [(129, .pv (iv i)), (163, .ov (.one (.os (some bw) zBZ 5 (zDV d.length (fiF d i))))), (11, .un), (12, .un), (130, .un), (143, .un), (169, .un), (170, .un), (171, .un), (172, .un), (173, .un)]) (fun i : Nat => d.length - i) (fun i : Nat => i ≤ d.length) (0) ?_ (Nat.zero_le _) ?_
 focus (simp (maxSteps := 2000000) only [go_sem, zAl, zAu, zAT, zAm]; all_goals (repeat' (first | exact trivial | exact zAs (by omega) | exact zAn rfl | exact zAD rfl | exact zAx | exact le_refl _ | refine And.intro ?_ ?_)))
 intro i hi
 try simp (maxSteps := 2000000) only [go_sem]
 repeat with_reducible refine zAd ?_
 refine zAe (by rfl) trivial (fun g6 => ?_) (fun g6 => ?_)
 ·have hil : i < d.length := by simpa using g6
  have hv := zCr d i hil
  rw [ndV] at hv
  obtain ⟨u, hu⟩ : ∃ u, u = zBb d i := ⟨_, rfl⟩
  have hup : (d.getD i default).up = u := hu.symm
  rw [hup] at hv
  have hub := zBc d3 i hil
  rw [← hu] at hub
  have hget := fun g => zCF hil g
  have hst : fiF d i i = zH7 (plc d i) 0 (ahd d i) (zCB d i) (zGH d i).length := by simp [fiF]
  try simp (maxSteps := 2000000) only [go_sem, hv, hget, hst, zH7]
  repeat with_reducible refine zAd ?_
  refine zAe (by rfl) trivial (fun g7 => ?_) (fun g7 => ?_)
  ·have hu0 : 0 ≤ u := by simpa using g7
   obtain ⟨q, rfl⟩ : ∃ q : Nat, u = q := ⟨u.toNat, by omega⟩
   have hqi : ¬ q = i := by omega
   have hql : q < d.length := by omega
   have hgq := fun g => zCF hql g
   have hstq : fiF d i q = zH7 (plc d q) (if q < i then ofN d q else 0) (ahd d q) (zCB d q) (zGH d q).length := rfl
   try simp (maxSteps := 2000000) only [go_sem, hgq, hqi, hstq, hget, hst, zH7]
   repeat with_reducible refine zAd ?_
   refine ⟨i + 1, by omega, by omega, ?_⟩
   simp (maxSteps := 2000000) only [go_sem, zAl, zAu, zAT, zAm]
   all_goals (repeat' (first | exact trivial | exact zAs (by omega) | exact zAn rfl | exact zAD rfl | exact zAx | exact le_refl _ | refine And.intro ?_ ?_))
   refine zAD ?_
   congr 3
   refine zAR fun j hj => ?_
   by_cases hji : j = i
   ·subst hji
    simp [fiF, ofN, ← hu]
   ·have e : (j < i + 1) ↔ (j < i) := by omega
    simp [fiF, hji, e]
  ·have hu0 : ¬ 0 ≤ u := by simpa using g7
   try simp (maxSteps := 2000000) only [go_sem]
   repeat with_reducible refine zAd ?_
   refine ⟨i + 1, by omega, by omega, ?_⟩
   simp (maxSteps := 2000000) only [go_sem, zAl, zAu, zAT, zAm]
   all_goals (repeat' (first | exact trivial | exact zAs (by omega) | exact zAn rfl | exact zAD rfl | exact zAx | exact le_refl _ | refine And.intro ?_ ?_))
   refine zAD ?_
   congr 3
   refine zAR fun j hj => ?_
   by_cases hji : j = i
   ·subst hji
    have hu1 : ¬ 0 ≤ zBb d j := by rw [← hu]; exact hu0
    simp [fiF, ofN, hu1]
   ·have e : (j < i + 1) ↔ (j < i) := by omega
    simp [fiF, hji, e]
 ·have hi2 : i = d.length := by simp at g6; omega
  subst hi2
  have hfz := fun b e => zXa d b e
  try simp (maxSteps := 2000000) only [go_sem, hfz]
  repeat with_reducible refine zAd ?_
  exact zAg rfl trivial (.inl rfl)
end Go.Hx
end

section
set_option maxRecDepth 100000
set_option linter.unusedSimpArgs false
set_option maxHeartbeats 2000000
namespace Go.Hx
open Go.Proofs
variable [Glob]
attribute [local go_sem] zAw zAq zAr zAk ndV zAo zAh zBd zA0 zBM zBH
attribute [local go_sem] reduceCtorEq Nat.reduceAdd Nat.reduceEqDiff reduceIte Nat.reduceLeDiff Nat.reduceLT Nat.reduceSub
def zRx {α : Type} (p : α → Bool) (l : List α) : Int := if l.any p then (l.findIdx p : Int) else -1
theorem zPw {α : Type} (p : α → Bool) (l : List α) : decide (0 ≤ zRx p l) = l.any p := by
 unfold zRx
 cases h : l.any p <;> simp
theorem zJy {α : Type} {d : α} {p : α → Bool} {l : List α} (h : ∀ k, k < l.length → p (l.getD k d) = false) : zRx p l = -1 := by
 unfold zRx
 have : l.any p = false := by
  rw [List.any_eq_false]
  intro x hx
  obtain ⟨k, hk, rfl⟩ := List.getElem_of_mem hx
  have := h k hk
  simp [hk] at this
  simp [this]
 rw [this]; rfl
theorem zJz {α : Type} {d : α} {p : α → Bool} {l : List α} {i : Nat} (hi : i < l.length) (h1 : p (l.getD i d) = true) (h : ∀ k, k < i → p (l.getD k d) = false) : zRx p l = i := by
 unfold zRx
 have h2 : p l[i] = true := by simpa [hi] using h1
 have : l.any p = true := List.any_eq_true.2 ⟨l[i], List.getElem_mem hi, h2⟩
 rw [if_pos this, (List.findIdx_eq hi).2 ⟨h2, fun j hj => by have := h j hj; simpa [show j < l.length by omega] using this⟩]
theorem zXb (a b : List Pt) : zLc (a ++ b) = zLc a ++ zLc b := by simp [zIY]
theorem zS1 (f : Nat) (caps : List PV) (l : List Pt) (p : Pt → Bool) (h : ∀ i, i < l.length → Contract Tryd.prog f ([.val (.agg [.sl 2 (zU3 (l.getD i default).steps), .sl 1 (zDJ (l.getD i default).links)])] ++ caps.map fun c => .val (.one c)) { res := .val (bv (p (l.getD i default))) }) :
  Contract Tryd.prog zBV [.val (.one (.sl 2 (zLc l))), .val (.one (.clo f caps))] { res := .val (iv (zRx p l)) } := by
 refine zFl (base := 0) ⟨Nat.le_of_ble_eq_true rfl, Nat.le_of_ble_eq_true rfl, Nat.le_of_ble_eq_true rfl, rfl⟩ (fun hfit => ?_)
 unfold F0 zBs
 simp (maxSteps := 2000000) only [zAV, List.set_cons_succ, List.set_cons_zero, List.map_cons, List.map_nil, zAU, zAa, ioOf, List.length_cons, List.length_nil, Nat.reduceAdd, Nat.reduceSub, List.replicate, List.cons_append, List.nil_append]
 try simp (maxSteps := 2000000) only [go_sem]
 repeat with_reducible refine zAd ?_
 have ha := zGp (k := 2) hfit.1
 rw [zA0] at ha
 refine zAE (fun i : Nat => [(8, .pv (iv i)), (4, .un), (5, .un), (9, .un), (16, .un)]) (fun i : Nat => l.length - i) (fun i : Nat => i ≤ l.length ∧ ∀ k, k < i → p (l.getD k default) = false) (0) ?_ ⟨Nat.zero_le _, fun k hk => by omega⟩ ?_
 focus (simp (maxSteps := 2000000) only [go_sem, zAl, zAu, zAT, zAm]; all_goals (repeat' (first | exact trivial | exact zAs (by omega) | exact zAn rfl | exact zAD rfl | exact zAx | exact le_refl _ | refine And.intro ?_ ?_)))
 rintro i ⟨hi, hinv⟩
 try simp (maxSteps := 2000000) only [go_sem]
 repeat with_reducible refine zAd ?_
 refine zAe (by rfl) trivial (fun h2 => ?_) (fun h2 => ?_)
 ·have hil : i < l.length := by simp at h2; omega
  have e1 := zTO l i hil
  rw [zI0] at e1
  have hc := h i hil
  try simp (maxSteps := 2000000) only [go_sem, e1]
  repeat with_reducible refine zAd ?_
  refine zDA (by rfl) trivial (by repeat' constructor) (hc) ?_
  try simp (maxSteps := 2000000) only [go_sem]
  repeat with_reducible refine zAd ?_
  refine zAe (by rfl) trivial (fun h3 => ?_) (fun h3 => ?_)
  ·try simp (maxSteps := 2000000) only [go_sem]
   repeat with_reducible refine zAd ?_
   refine zAg rfl trivial (.inl ?_)
   congr 3
   exact zJz hil h3 hinv
  ·try simp (maxSteps := 2000000) only [go_sem]
   repeat with_reducible refine zAd ?_
   refine ⟨i + 1, by omega, ⟨by omega, fun k hk => ?_⟩, ?_⟩
   ·by_cases e : k = i
    ·rw [e]; exact h3
    ·exact hinv k (by omega)
   ·simp (maxSteps := 2000000) only [go_sem, zAl, zAu, zAT, zAm]
    all_goals (repeat' (first | exact trivial | exact zAs (by omega) | exact zAn rfl | exact zAD rfl | exact zAx | exact le_refl _ | refine And.intro ?_ ?_))
 ·have hil : i = l.length := by simp at h2; omega
  try simp (maxSteps := 2000000) only [go_sem]
  repeat with_reducible refine zAd ?_
  refine zAg rfl trivial (.inl ?_)
  congr 3
  exact zJy fun k hk => hinv k (by omega)
theorem zS2 (f : Nat) (caps : List PV) (l : List Pt) (p : Pt → Bool) (h : ∀ i, i < l.length → Contract Tryd.prog f ([.val (.agg [.sl 2 (zU3 (l.getD i default).steps), .sl 1 (zDJ (l.getD i default).links)])] ++ caps.map fun c => .val (.one c)) { res := .val (bv (p (l.getD i default))) }) :
  Contract Tryd.prog zBz [.val (.one (.sl 2 (zLc l))), .val (.one (.clo f caps))] { res := .val (bv (l.any p)) } := by
 refine zEe (base := 0) ⟨Nat.le_of_ble_eq_true rfl, Nat.le_of_ble_eq_true rfl, Nat.le_of_ble_eq_true rfl, rfl⟩ (fun hfit => ?_)
 unfold F0 zA7
 simp (maxSteps := 2000000) only [zAV, List.set_cons_succ, List.set_cons_zero, List.map_cons, List.map_nil, zAU, zAa, ioOf, List.length_cons, List.length_nil, Nat.reduceAdd, Nat.reduceSub, List.replicate, List.cons_append, List.nil_append]
 try simp (maxSteps := 2000000) only [go_sem]
 repeat with_reducible refine zAd ?_
 refine zAv (by repeat' constructor) (zS1 f caps l p h) ?_
 try simp (maxSteps := 2000000) only [go_sem]
 repeat with_reducible refine zAd ?_
 refine zAg rfl trivial (.inl ?_)
 congr 3
 rw [← zPw]
theorem zS3 (f : Nat) (caps : List PV) (l : List Ts) (p : Ts → Bool) (h : ∀ i, i < l.length → Contract Tryd.prog f ([.val (.agg [bI (l.getD i default).kind, bS (l.getD i default).name, bS (l.getD i default).value, bI (l.getD i default).na, bI (l.getD i default).nb, .sl 2 (zLc (l.getD i default).list)])] ++ caps.map fun c => .val (.one c)) { res := .val (bv (p (l.getD i default))) }) :
  Contract Tryd.prog zBW [.val (.one (.sl 6 (zVB l))), .val (.one (.clo f caps))] { res := .val (iv (zRx p l)) } := by
 refine zFv (base := 0) ⟨Nat.le_of_ble_eq_true rfl, Nat.le_of_ble_eq_true rfl, Nat.le_of_ble_eq_true rfl, rfl⟩ (fun hfit => ?_)
 unfold F0 zBt
 simp (maxSteps := 2000000) only [zAV, List.set_cons_succ, List.set_cons_zero, List.map_cons, List.map_nil, zAU, zAa, ioOf, List.length_cons, List.length_nil, Nat.reduceAdd, Nat.reduceSub, List.replicate, List.cons_append, List.nil_append]
 try simp (maxSteps := 2000000) only [go_sem]
 repeat with_reducible refine zAd ?_
 have ha := zGp (k := 6) hfit.1
 rw [zBH] at ha
 refine zAE (fun i : Nat => [(8, .pv (iv i)), (4, .un), (5, .un), (9, .un), (16, .un)]) (fun i : Nat => l.length - i) (fun i : Nat => i ≤ l.length ∧ ∀ k, k < i → p (l.getD k default) = false) (0) ?_ ⟨Nat.zero_le _, fun k hk => by omega⟩ ?_
 focus (simp (maxSteps := 2000000) only [go_sem, zAl, zAu, zAT, zAm]; all_goals (repeat' (first | exact trivial | exact zAs (by omega) | exact zAn rfl | exact zAD rfl | exact zAx | exact le_refl _ | refine And.intro ?_ ?_)))
 rintro i ⟨hi, hinv⟩
 try simp (maxSteps := 2000000) only [go_sem]
 repeat with_reducible refine zAd ?_
 refine zAe (by rfl) trivial (fun h2 => ?_) (fun h2 => ?_)
 ·have hil : i < l.length := by simp at h2; omega
  have e1 := zTM l i hil
  rw [zIZ] at e1
  have hc := h i hil
  try simp (maxSteps := 2000000) only [go_sem, e1]
  repeat with_reducible refine zAd ?_
  refine zDA (by rfl) trivial (by repeat' constructor) (hc) ?_
  try simp (maxSteps := 2000000) only [go_sem]
  repeat with_reducible refine zAd ?_
  refine zAe (by rfl) trivial (fun h3 => ?_) (fun h3 => ?_)
  ·try simp (maxSteps := 2000000) only [go_sem]
   repeat with_reducible refine zAd ?_
   refine zAg rfl trivial (.inl ?_)
   congr 3
   exact zJz hil h3 hinv
  ·try simp (maxSteps := 2000000) only [go_sem]
   repeat with_reducible refine zAd ?_
   refine ⟨i + 1, by omega, ⟨by omega, fun k hk => ?_⟩, ?_⟩
   ·by_cases e : k = i
    ·rw [e]; exact h3
    ·exact hinv k (by omega)
   ·simp (maxSteps := 2000000) only [go_sem, zAl, zAu, zAT, zAm]
    all_goals (repeat' (first | exact trivial | exact zAs (by omega) | exact zAn rfl | exact zAD rfl | exact zAx | exact le_refl _ | refine And.intro ?_ ?_))
 ·have hil : i = l.length := by simp at h2; omega
  try simp (maxSteps := 2000000) only [go_sem]
  repeat with_reducible refine zAd ?_
  refine zAg rfl trivial (.inl ?_)
  congr 3
  exact zJy fun k hk => hinv k (by omega)
theorem zS4 (f : Nat) (caps : List PV) (l : List Ts) (p : Ts → Bool) (h : ∀ i, i < l.length → Contract Tryd.prog f ([.val (.agg [bI (l.getD i default).kind, bS (l.getD i default).name, bS (l.getD i default).value, bI (l.getD i default).na, bI (l.getD i default).nb, .sl 2 (zLc (l.getD i default).list)])] ++ caps.map fun c => .val (.one c)) { res := .val (bv (p (l.getD i default))) }) :
  Contract Tryd.prog zBA [.val (.one (.sl 6 (zVB l))), .val (.one (.clo f caps))] { res := .val (bv (l.any p)) } := by
 refine zEh (base := 0) ⟨Nat.le_of_ble_eq_true rfl, Nat.le_of_ble_eq_true rfl, Nat.le_of_ble_eq_true rfl, rfl⟩ (fun hfit => ?_)
 unfold F0 zA8
 simp (maxSteps := 2000000) only [zAV, List.set_cons_succ, List.set_cons_zero, List.map_cons, List.map_nil, zAU, zAa, ioOf, List.length_cons, List.length_nil, Nat.reduceAdd, Nat.reduceSub, List.replicate, List.cons_append, List.nil_append]
 try simp (maxSteps := 2000000) only [go_sem]
 repeat with_reducible refine zAd ?_
 refine zAv (by repeat' constructor) (zS3 f caps l p h) ?_
 try simp (maxSteps := 2000000) only [go_sem]
 repeat with_reducible refine zAd ?_
 refine zAg rfl trivial (.inl ?_)
 congr 3
 rw [← zPw]
theorem zS5 (f : Nat) (caps : List PV) (l : List (Bys × Bys)) (p : Bys × Bys → Bool) (h : ∀ i, i < l.length → Contract Tryd.prog f ([.val (.agg [bS (l.getD i default).1, bS (l.getD i default).2])] ++ caps.map fun c => .val (.one c)) { res := .val (bv (p (l.getD i default))) }) :
  Contract Tryd.prog zAX [.val (.one (.sl 2 (zVA l))), .val (.one (.clo f caps))] { res := .val (iv (zRx p l)) } := by
 refine zCV (base := 0) ⟨Nat.le_of_ble_eq_true rfl, Nat.le_of_ble_eq_true rfl, Nat.le_of_ble_eq_true rfl, rfl⟩ (fun hfit => ?_)
 unfold F0 zA1
 simp (maxSteps := 2000000) only [zAV, List.set_cons_succ, List.set_cons_zero, List.map_cons, List.map_nil, zAU, zAa, ioOf, List.length_cons, List.length_nil, Nat.reduceAdd, Nat.reduceSub, List.replicate, List.cons_append, List.nil_append]
 try simp (maxSteps := 2000000) only [go_sem]
 repeat with_reducible refine zAd ?_
 have ha := zGp (k := 2) hfit.1
 rw [zAr] at ha
 refine zAE (fun i : Nat => [(8, .pv (iv i)), (4, .un), (5, .un), (9, .un), (16, .un)]) (fun i : Nat => l.length - i) (fun i : Nat => i ≤ l.length ∧ ∀ k, k < i → p (l.getD k default) = false) (0) ?_ ⟨Nat.zero_le _, fun k hk => by omega⟩ ?_
 focus (simp (maxSteps := 2000000) only [go_sem, zAl, zAu, zAT, zAm]; all_goals (repeat' (first | exact trivial | exact zAs (by omega) | exact zAn rfl | exact zAD rfl | exact zAx | exact le_refl _ | refine And.intro ?_ ?_)))
 rintro i ⟨hi, hinv⟩
 try simp (maxSteps := 2000000) only [go_sem]
 repeat with_reducible refine zAd ?_
 refine zAe (by rfl) trivial (fun h2 => ?_) (fun h2 => ?_)
 ·have hil : i < l.length := by simp at h2; omega
  have e1 := zLT l i hil
  have hc := h i hil
  try simp (maxSteps := 2000000) only [go_sem, e1]
  repeat with_reducible refine zAd ?_
  refine zDA (by rfl) trivial (by repeat' constructor) (hc) ?_
  try simp (maxSteps := 2000000) only [go_sem]
  repeat with_reducible refine zAd ?_
  refine zAe (by rfl) trivial (fun h3 => ?_) (fun h3 => ?_)
  ·try simp (maxSteps := 2000000) only [go_sem]
   repeat with_reducible refine zAd ?_
   refine zAg rfl trivial (.inl ?_)
   congr 3
   exact zJz hil h3 hinv
  ·try simp (maxSteps := 2000000) only [go_sem]
   repeat with_reducible refine zAd ?_
   refine ⟨i + 1, by omega, ⟨by omega, fun k hk => ?_⟩, ?_⟩
   ·by_cases e : k = i
    ·rw [e]; exact h3
    ·exact hinv k (by omega)
   ·simp (maxSteps := 2000000) only [go_sem, zAl, zAu, zAT, zAm]
    all_goals (repeat' (first | exact trivial | exact zAs (by omega) | exact zAn rfl | exact zAD rfl | exact zAx | exact le_refl _ | refine And.intro ?_ ?_))
 ·have hil : i = l.length := by simp at h2; omega
  try simp (maxSteps := 2000000) only [go_sem]
  repeat with_reducible refine zAd ?_
  refine zAg rfl trivial (.inl ?_)
  congr 3
  exact zJy fun k hk => hinv k (by omega)
theorem zNw (l : List Bys) (s : Bys) : Contract Tryd.prog zCc [.val (.one (.sl 1 (zOw l))), .val (sv s)] { res := .val (iv (zRx (fun c => decide (c = s)) l)) } := by
 refine zGb (base := 0) ⟨Nat.le_of_ble_eq_true rfl, Nat.le_of_ble_eq_true rfl, Nat.le_of_ble_eq_true rfl, rfl⟩ (fun hfit => ?_)
 unfold F0 zBL
 simp (maxSteps := 2000000) only [zAV, List.set_cons_succ, List.set_cons_zero, List.map_cons, List.map_nil, zAU, zAa, ioOf, List.length_cons, List.length_nil, Nat.reduceAdd, Nat.reduceSub, List.replicate, List.cons_append, List.nil_append]
 try simp (maxSteps := 2000000) only [go_sem]
 repeat with_reducible refine zAd ?_
 have ha := zGp (k := 1) hfit.1
 rw [zAq] at ha
 refine zAE (fun i : Nat => [(8, .pv (iv i)), (4, .un), (5, .un), (9, .un), (16, .un)]) (fun i : Nat => l.length - i) (fun i : Nat => i ≤ l.length ∧ ∀ k, k < i → (fun c => decide (c = s)) (l.getD k []) = false) (0) ?_ ⟨Nat.zero_le _, fun k hk => by omega⟩ ?_
 focus (simp (maxSteps := 2000000) only [go_sem, zAl, zAu, zAT, zAm]; all_goals (repeat' (first | exact trivial | exact zAs (by omega) | exact zAn rfl | exact zAD rfl | exact zAx | exact le_refl _ | refine And.intro ?_ ?_)))
 rintro i ⟨hi, hinv⟩
 try simp (maxSteps := 2000000) only [go_sem]
 repeat with_reducible refine zAd ?_
 refine zAe (by rfl) trivial (fun h2 => ?_) (fun h2 => ?_)
 ·have hil : i < l.length := by simp at h2; omega
  have e1 := zTL l i hil
  try simp (maxSteps := 2000000) only [go_sem, e1]
  repeat with_reducible refine zAd ?_
  refine zAe (by rfl) trivial (fun h3 => ?_) (fun h3 => ?_)
  ·try simp (maxSteps := 2000000) only [go_sem]
   repeat with_reducible refine zAd ?_
   refine zAg rfl trivial (.inl ?_)
   congr 3
   have h4 : l.getD i [] = s := (by simpa using h3 : s = l.getD i []).symm
   exact zJz (p := fun c => decide (c = s)) (d := []) hil (decide_eq_true h4) hinv
  ·try simp (maxSteps := 2000000) only [go_sem]
   repeat with_reducible refine zAd ?_
   have h4 : ¬ l.getD i [] = s := fun e => (by simpa using h3 : ¬ s = l.getD i []) e.symm
   refine ⟨i + 1, by omega, ⟨by omega, fun k hk => ?_⟩, ?_⟩
   ·by_cases e : k = i
    ·rw [e]; first | exact h4 | exact decide_eq_false h4
    ·first | exact hinv k (by omega) | exact of_decide_eq_false (hinv k (by omega))
   ·simp (maxSteps := 2000000) only [go_sem, zAl, zAu, zAT, zAm]
    all_goals (repeat' (first | exact trivial | exact zAs (by omega) | exact zAn rfl | exact zAD rfl | exact zAx | exact le_refl _ | refine And.intro ?_ ?_))
 ·have hil : i = l.length := by simp at h2; omega
  try simp (maxSteps := 2000000) only [go_sem]
  repeat with_reducible refine zAd ?_
  refine zAg rfl trivial (.inl ?_)
  congr 3
  exact zJy (d := []) (p := fun c => decide (c = s)) fun k hk => hinv k (by omega)
theorem zFx (l : List Bys) (s : Bys) : Contract Tryd.prog zBe [.val (.one (.sl 1 (zOw l))), .val (sv s)] { res := .val (bv (l.any fun c => decide (c = s))) } := by
 refine zES (base := 0) ⟨Nat.le_of_ble_eq_true rfl, Nat.le_of_ble_eq_true rfl, Nat.le_of_ble_eq_true rfl, rfl⟩ (fun hfit => ?_)
 unfold F0 zBk
 simp (maxSteps := 2000000) only [zAV, List.set_cons_succ, List.set_cons_zero, List.map_cons, List.map_nil, zAU, zAa, ioOf, List.length_cons, List.length_nil, Nat.reduceAdd, Nat.reduceSub, List.replicate, List.cons_append, List.nil_append]
 try simp (maxSteps := 2000000) only [go_sem]
 repeat with_reducible refine zAd ?_
 refine zAv (by repeat' constructor) (zNw l s) ?_
 try simp (maxSteps := 2000000) only [go_sem]
 repeat with_reducible refine zAd ?_
 refine zAg rfl trivial (.inl ?_)
 congr 3
 rw [← zPw]
end Go.Hx
end

section
set_option maxRecDepth 100000
set_option linter.unusedSimpArgs false
set_option maxHeartbeats 2000000
namespace Go.Hx
open Go.Proofs
variable [Glob]
attribute [local go_sem] zAw zAq zAr zAk ndV zAo zAh zBd zA0 zBM zBH zBg
attribute [local go_sem] reduceCtorEq Nat.reduceAdd Nat.reduceEqDiff reduceIte Nat.reduceLeDiff Nat.reduceLT Nat.reduceSub
theorem zS6 {l : List (Bys × Bys)} {nm : Bys} (h : zRx (fun a => decide (a.1 = nm)) l < 0) : zGs l nm = none := by
 unfold zRx at h
 have h2 : l.any (fun a => decide (a.1 = nm)) = false := by
  cases e : l.any (fun a => decide (a.1 = nm)) with
  |false => rfl
  |true => rw [e] at h; simp at h; omega
 unfold zGs
 have : l.find? (fun a => decide (a.1 = nm)) = none := by
  rw [List.find?_eq_none]
  intro x hx hp
  rw [List.any_eq_false] at h2
  exact h2 x hx hp
 rw [this]; rfl
theorem zS7 {l : List (Bys × Bys)} {nm : Bys} (h : ¬ zRx (fun a => decide (a.1 = nm)) l < 0) : ∃ i : Nat, i < l.length ∧ zRx (fun a => decide (a.1 = nm)) l = i ∧ zGs l nm = some (l.getD i default).2 := by
 unfold zRx at h ⊢
 have h2 : l.any (fun a => decide (a.1 = nm)) = true := by
  cases e : l.any (fun a => decide (a.1 = nm)) with
  |true => rfl
  |false => rw [e] at h; simp at h
 rw [if_pos h2]
 have h3 : l.findIdx (fun a => decide (a.1 = nm)) < l.length := List.findIdx_lt_length.2 (by simpa using h2)
 refine ⟨_, h3, rfl, ?_⟩
 unfold zGs
 rw [List.find?_eq_getElem?_findIdx, List.getElem?_eq_getElem h3]
 simp [h3]
theorem zRy (d : List Nd) : (zRv d).length = d.length := by simp [zRv]
theorem zRz (d : List Nd) (n : Nat) (h : n < d.length) : (zRv d).getD n [] = [bI (plc d n), bI (ofN d n), bI (ahd d n), bI (zCB d n), bI (zGH d n).length] := by simp [zRv, h]
theorem zHY (a : Bys × Bys) (nm : Bys) : Contract Tryd.prog zBK [.val (.agg [bS a.1, bS a.2]), .val (.one (.fp [bS nm]))] { res := .val (bv (decide (a.1 = nm))) } := by
 refine zGN (base := 0) ⟨Nat.le_of_ble_eq_true rfl, Nat.le_of_ble_eq_true rfl, Nat.le_of_ble_eq_true rfl, rfl⟩ (fun hfit => ?_)
 unfold F0 zBR
 simp (maxSteps := 2000000) only [zAV, List.set_cons_succ, List.set_cons_zero, List.map_cons, List.map_nil, zAU, zAa, ioOf, List.length_cons, List.length_nil, Nat.reduceAdd, Nat.reduceSub, List.replicate, List.cons_append, List.nil_append]
 try simp (maxSteps := 2000000) only [go_sem]
 repeat with_reducible refine zAd ?_
 refine zAg rfl trivial (.inl ?_)
 congr 3
 rw [Bool.eq_iff_iff]; simp
theorem zJA (d : List Nd) (n : Nat) (hn : n < d.length) (nm : Bys) : Contract Tryd.prog zCQ [.val (.one (zBg d)), .val (iv n), .val (sv nm)] { res := .tup [sv ((zGs (d.getD n default).att nm).getD []), bv (zGs (d.getD n default).att nm).isSome] } := by
 have hc := zS5 zBK [.fp [bS nm]] (d.getD n default).att (fun a => decide (a.1 = nm)) (fun i hi => zHY _ nm)
 have e1 := zCr d n hn
 obtain ⟨x, hx⟩ : ∃ x, x = d.getD n default := ⟨_, rfl⟩
 rw [← hx] at e1 hc ⊢
 refine zIz (base := 0) ⟨Nat.le_of_ble_eq_true rfl, Nat.le_of_ble_eq_true rfl, Nat.le_of_ble_eq_true rfl, rfl⟩ (fun hfit => ?_)
 unfold F0 zCg
 simp (maxSteps := 2000000) only [zAV, List.set_cons_succ, List.set_cons_zero, List.map_cons, List.map_nil, zAU, zAa, ioOf, List.length_cons, List.length_nil, Nat.reduceAdd, Nat.reduceSub, List.replicate, List.cons_append, List.nil_append]
 try simp (maxSteps := 2000000) only [go_sem]
 repeat with_reducible refine zAd ?_
 try simp (maxSteps := 2000000) only [go_sem, e1]
 repeat with_reducible refine zAd ?_
 refine zAv (by repeat' constructor) (hc) ?_
 try simp (maxSteps := 2000000) only [go_sem]
 repeat with_reducible refine zAd ?_
 refine zAe (by rfl) trivial (fun h => ?_) (fun h => ?_)
 ·have h' : zRx (fun a => decide (a.1 = nm)) x.att < 0 := by simpa using h
  rw [zS6 h']
  try simp (maxSteps := 2000000) only [go_sem]
  repeat with_reducible refine zAd ?_
  exact zBU (by simp) ⟨zAW rfl trivial (.inl rfl), zAW rfl trivial (.inl rfl), rfl⟩
 ·have h' : ¬ zRx (fun a => decide (a.1 = nm)) x.att < 0 := by simpa using h
  obtain ⟨i, hi, h2, h3⟩ := zS7 h'
  have e2 := zLT x.att i hi
  rw [h3]
  rw [h2]
  try simp (maxSteps := 2000000) only [go_sem, e1, e2]
  repeat with_reducible refine zAd ?_
  exact zBU (by simp) ⟨zAW rfl trivial (.inl rfl), zAW rfl trivial (.inl rfl), rfl⟩
end Go.Hx
end

section
set_option maxRecDepth 100000
set_option linter.unusedSimpArgs false
set_option linter.unusedSectionVars false
namespace Go.Hx
open Go.Proofs
variable [Glob]
section
variable {d : List Nd} (hd : zD4 d d.length = true)
include hd
theorem zV3 {k : Nat} (hk : k + 1 < d.length) : zBb d (k + 1) ∈ C d k := by
 have h := zBG hd hk
 simp only [zUm, zZq, Bool.and_eq_true] at h
 have h2 := h.2
 rw [if_neg (by omega)] at h2
 have h3 : zBb d (k + 1) ∈ zBD d (k + 1) (((k + 1 : Nat) : Int) - 1) := by simpa using h2
 rw [show (((k + 1 : Nat) : Int) - 1) = k by omega] at h3
 unfold C
 rw [zHr d.length (k + 1) k (fun j hj => (zBc hd j (by omega)).2) (by omega) (by omega)]
 exact h3
theorem zZg {k : Nat} (h0 : 0 < k) (hk : k < d.length) : 0 ≤ zBb d k := by
 obtain ⟨j, rfl⟩ : ∃ j, k = j + 1 := ⟨k - 1, by omega⟩
 exact (zZx hd (by omega) (zV3 hd hk)).1
theorem zXd (h : 0 < d.length) : zBb d 0 = -1 := by
 have := zBG hd h
 simp only [zUm, zZq, Bool.and_eq_true] at this
 simpa using this.2
theorem zUS {n k : Nat} (hk : k + 1 < d.length) (hn : n < k) (h : (n : Int) ∈ C d (zBb d (k + 1))) : (n : Int) ∈ C d (zBb d k) := by
 have h1 := zZe hd k (by omega) (zV3 hd hk) h
 rw [zH8 hd (by omega)] at h1
 rcases List.mem_cons.1 h1 with e | e
 ·omega
 ·exact e
theorem zRG {n k : Nat} (hk : k < d.length) (h : k ≤ n) : (n : Int) ∉ C d (zBb d k) := by
 intro hx
 have := zBc hd k hk
 have := zZx hd (by omega) hx
 omega
theorem zMS {n m : Nat} (hm : m < d.length) (h : (n : Int) ∈ C d (zBb d m)) : ∀ t k, m = k + t → n < k → (n : Int) ∈ C d (zBb d k)
 |0, k, e, _ => by rw [Nat.add_zero] at e; rw [← e]; exact h
 |t + 1, k, e, hk => zUS hd (by omega) hk (zMS hm h t (k + 1) (by omega) (by omega))
theorem zDE (n k : Nat) : zAP d n (k + 1) = zAP d n k + (if (n : Int) ∈ C d (zBb d k) then 1 else 0) := by
 rw [zGG]
 by_cases h : (n : Int) ∈ C d (zBb d k)
 ·rw [if_pos h, if_pos (by simpa [C] using h)]
 ·rw [if_neg h, if_neg (by simpa [C] using h)]
theorem zIJ {n : Nat} : ∀ k, k ≤ n + 1 → k ≤ d.length → zAP d n k = 0
 |0, _, _ => zRw d n
 |k + 1, h, hk => by rw [zDE hd, zIJ k (by omega) (by omega), if_neg (zRG hd (by omega) (by omega))]; rfl
theorem zNS {n m : Nat} (hm : m < d.length) (h : ∀ k, n < k → k ≤ m → (n : Int) ∈ C d (zBb d k)) : ∀ t, n + 1 + t ≤ m + 1 → zAP d n (n + 1 + t) = t
 |0, _ => zIJ hd _ (by omega) (by omega)
 |t + 1, ht => by
  rw [show n + 1 + (t + 1) = (n + 1 + t) + 1 by omega, zDE hd, zNS hm h t (by omega), if_pos (h _ (by omega) (by omega))]
  omega
theorem zMT {n m : Nat} (hm : m < d.length) (hn : n < m) (h : (n : Int) ∉ C d (zBb d m)) : ∀ t, m + t ≤ d.length → zAP d n (m + t) = zAP d n m
 |0, _ => rfl
 |t + 1, ht => by
  rw [show m + (t + 1) = (m + t) + 1 by omega, zDE hd, zMT hm hn h t (by omega), if_neg fun hx => h (zMS hd (by omega) hx t m (by omega) hn)]
  omega
theorem zNT (n : Nat) : ∀ t k, zAP d n k ≤ zAP d n (k + t)
 |0, k => Int.le_refl _
 |t + 1, k => by rw [show k + (t + 1) = (k + t) + 1 by omega, zDE hd]; have := zNT n t k; split <;> omega
theorem zHc {n : Nat} : ∀ t, n + 1 + t ≤ d.length → zAP d n (n + 1 + t) ≤ t
 |0, h => by rw [zIJ hd _ (by omega) h]; exact Int.le_refl _
 |t + 1, h => by rw [show n + 1 + (t + 1) = (n + 1 + t) + 1 by omega, zDE hd]; have := zHc (n := n) t (by omega); split <;> omega
theorem zRH {n m : Nat} (hm : m < d.length) : zI1 d n m = true ↔ n < m ∧ (m : Int) ≤ n + zCB d n := by
 have ha : zI1 d n m = true ↔ (n : Int) ∈ C d (zBb d m) := by unfold zI1 C; simp
 rw [ha]
 constructor
 ·intro h
  have hnm : n < m := Classical.byContradiction fun hx => zRG hd hm (by omega) h
  refine ⟨hnm, ?_⟩
  have h1 := zNS hd hm (fun k hk hkm => zMS hd hm h (m - k) k (by omega) hk) (m - n) (by omega)
  have h2 := zNT hd n (d.length - (n + 1 + (m - n))) (n + 1 + (m - n))
  rw [show n + 1 + (m - n) + (d.length - (n + 1 + (m - n))) = d.length by omega, h1] at h2
  unfold zCB
  omega
 ·rintro ⟨hnm, h⟩
  apply Classical.byContradiction
  intro hx
  have h1 := zMT hd hm hnm hx (d.length - m) (by omega)
  rw [show m + (d.length - m) = d.length by omega] at h1
  have h2 := zHc hd (n := n) (m - n - 1) (by omega)
  rw [show n + 1 + (m - n - 1) = m by omega] at h2
  unfold zCB at h
  omega
theorem zUT (n : Nat) : 0 ≤ zCB d n ∧ zCB d n ≤ d.length := zDX _
end
theorem zV4 {d : List Nd} {n : Nat} (h : 0 < n) : zD5 d n = zGH d (zBb d n) := by
 unfold zD5; rw [if_neg (by omega)]; rfl
theorem zNU {d : List Nd} {n : Nat} : ∀ t, ∃ r, zAG d (zBb d n) (n + 1 + t) = zAG d (zBb d n) n ++ (n : Int) :: r ∧ ∀ x ∈ r, (n : Int) < x
 |0 => ⟨[], by rw [Nat.add_zero, zAQ, if_pos rfl], by simp⟩
 |t + 1 => by
  obtain ⟨r, h1, h2⟩ := zNU t
  rw [show n + 1 + (t + 1) = (n + 1 + t) + 1 by omega, zAQ]
  split
  ·refine ⟨r ++ [((n + 1 + t : Nat) : Int)], by rw [h1]; simp, fun x hx => ?_⟩
   rcases List.mem_append.1 hx with hx | hx
   ·exact h2 x hx
   ·have : x = ((n + 1 + t : Nat) : Int) := by simpa using hx
    omega
  ·exact ⟨r, h1, h2⟩
theorem zHw {d : List Nd} {u x : Int} : ∀ {k : Nat}, x ∈ zAG d u k → ∃ m : Nat, x = m ∧ m < k ∧ zBb d m = u
 |0, h => by rw [zJw] at h; cases h
 |k + 1, h => by
  rw [zAQ] at h
  split at h
  ·rename_i he
   rcases List.mem_append.1 h with h | h
   ·obtain ⟨m, h1, h2, h3⟩ := zHw h; exact ⟨m, h1, by omega, h3⟩
   ·exact ⟨k, by simpa using h, by omega, he⟩
  ·obtain ⟨m, h1, h2, h3⟩ := zHw h; exact ⟨m, h1, by omega, h3⟩
theorem zIK {l r : List Int} {x : Int} (h : x ∉ l) : zBq (l ++ x :: r) x = l.length := by
 unfold zBq
 have h1 : l.findIdx? (fun y => decide (y = x)) = none := by
  rw [List.findIdx?_eq_none_iff]
  intro y hy
  simp only [decide_eq_false_iff_not]
  rintro rfl
  exact h hy
 rw [List.findIdx?_append, h1, List.findIdx?_cons]
 simp
theorem zMU {d : List Nd} {u : Int} {n : Nat} : (n : Int) ∉ zAG d u n := by
 intro h
 obtain ⟨m, h1, h2, _⟩ := zHw h
 omega
section
variable {d : List Nd} (hd : zD4 d d.length = true)
include hd
theorem zRI {n : Nat} (hn : n < d.length) (h0 : 0 < n) : ∃ r, zD5 d n = zAG d (zBb d n) n ++ (n : Int) :: r ∧ ∀ x ∈ r, (n : Int) < x := by
 obtain ⟨r, h1, h2⟩ := zNU (d := d) (n := n) (d.length - (n + 1))
 rw [show n + 1 + (d.length - (n + 1)) = d.length by omega] at h1
 exact ⟨r, by rw [zV4 h0]; exact h1, h2⟩
theorem zV5 {n : Nat} (hn : n < d.length) : plc d n = zBq (zD5 d n) n + 1 := by
 unfold plc
 by_cases h0 : n = 0
 ·subst h0
  have : zD5 d 0 = [0] := rfl
  rw [this, zJw]; rfl
 ·obtain ⟨r, h1, _⟩ := zRI hd hn (by omega)
  rw [h1, zIK zMU]
theorem zZh {n : Nat} (hn : n < d.length) : ofN d n = (zD5 d n).length := by
 unfold ofN
 by_cases h0 : n = 0
 ·subst h0
  rw [zXd hd (by omega)]; rfl
 ·rw [if_pos (zZg hd (by omega) hn), zV4 (by omega)]
theorem zV6 {n : Nat} : zY0 d n = [] ↔ (zGH d n).length = 0 := by
 unfold zY0 zGH zAG
 rw [List.length_map, List.length_eq_zero_iff]
end
end Go.Hx
end

section
set_option maxRecDepth 100000
set_option linter.unusedSimpArgs false
namespace Go.Hx
open Go.Proofs
variable [Glob]
attribute [local go_sem] zAw zAq zAr zAk ndV zAo
attribute [local go_sem] reduceCtorEq Nat.reduceAdd Nat.reduceEqDiff reduceIte Nat.reduceLeDiff Nat.reduceLT Nat.reduceSub
theorem zHe (s : Bys) : Contract Tryd.prog zDS [.val (sv s)] { res := .val (sv s) } := by
 refine zOC (base := 0) ⟨Nat.le_of_ble_eq_true rfl, Nat.le_of_ble_eq_true rfl, Nat.le_of_ble_eq_true rfl, rfl⟩ (fun hfit => ?_)
 unfold F0 zEy
 simp (maxSteps := 2000000) only [zAV, List.set_cons_succ, List.set_cons_zero, List.map_cons, List.map_nil, zAU, zAa, ioOf, List.length_cons, List.length_nil, Nat.reduceAdd, Nat.reduceSub, List.replicate, List.cons_append, List.nil_append]
 try simp (maxSteps := 2000000) only [go_sem]
 repeat with_reducible refine zAd ?_
 try simp (maxSteps := 2000000) only [go_sem]
 repeat with_reducible refine zAd ?_
 refine zAg rfl trivial (.inl ?_)
 congr 3
theorem zHf (a b : Bys) : Contract Tryd.prog zDT [.val (.agg [bS a, bS b])] { res := .val (sv a) } := by
 refine zOF (base := 0) ⟨Nat.le_of_ble_eq_true rfl, Nat.le_of_ble_eq_true rfl, Nat.le_of_ble_eq_true rfl, rfl⟩ (fun hfit => ?_)
 unfold F0 zEz
 simp (maxSteps := 2000000) only [zAV, List.set_cons_succ, List.set_cons_zero, List.map_cons, List.map_nil, zAU, zAa, ioOf, List.length_cons, List.length_nil, Nat.reduceAdd, Nat.reduceSub, List.replicate, List.cons_append, List.nil_append]
 try simp (maxSteps := 2000000) only [go_sem]
 repeat with_reducible refine zAd ?_
 try simp (maxSteps := 2000000) only [go_sem]
 repeat with_reducible refine zAd ?_
 refine zAg rfl trivial (.inl ?_)
 congr 3
theorem zRN (a b : Bys) : Contract Tryd.prog zC8 [.val (.agg [bS a, bS b])] { res := .val (bv (!zGq b)) } := by
 refine zOI (base := 0) ⟨Nat.le_of_ble_eq_true rfl, Nat.le_of_ble_eq_true rfl, Nat.le_of_ble_eq_true rfl, rfl⟩ (fun hfit => ?_)
 unfold F0 zEA
 simp (maxSteps := 2000000) only [zAV, List.set_cons_succ, List.set_cons_zero, List.map_cons, List.map_nil, zAU, zAa, ioOf, List.length_cons, List.length_nil, Nat.reduceAdd, Nat.reduceSub, List.replicate, List.cons_append, List.nil_append]
 try simp (maxSteps := 2000000) only [go_sem]
 repeat with_reducible refine zAd ?_
 refine zAv (by repeat' constructor) (zMM _) ?_
 try simp (maxSteps := 2000000) only [go_sem]
 repeat with_reducible refine zAd ?_
 try simp (maxSteps := 2000000) only [go_sem]
 repeat with_reducible refine zAd ?_
 refine zAg rfl trivial (.inl ?_)
 congr 3
theorem zXg {l : List Bys} {i : Nat} : okC l (i + 1) = (okC l i && cOk l i) := zEP
theorem zNW : ∀ {x y : Bys}, Op.bytesLess x y = true → Op.bytesLess y x = false
 |[], _, h => by rename_i y; cases y <;> rfl
 |a :: x, [], h => by simp [Op.bytesLess] at h
 |a :: x, b :: y, h => by
  simp only [Op.bytesLess, Bool.or_eq_true, Bool.and_eq_true, decide_eq_true_eq, beq_iff_eq] at h
  simp only [Op.bytesLess, Bool.or_eq_false_iff, Bool.and_eq_false_iff, decide_eq_false_iff_not, beq_eq_false_iff_ne]
  rcases h with h | ⟨rfl, h⟩
  ·exact ⟨UInt8.lt_asymm h, .inl (fun e => by subst e; exact UInt8.lt_irrefl _ h)⟩
  ·exact ⟨UInt8.lt_irrefl _, .inr (zNW h)⟩
theorem zNX : ∀ {x y : Bys}, Op.bytesLess x y = false → x ≠ y → Op.bytesLess y x = true
 |[], [], _, h => (h rfl).elim
 |[], b :: y, h, _ => by simp [Op.bytesLess] at h
 |a :: x, [], _, _ => rfl
 |a :: x, b :: y, h, hn => by
  simp only [Op.bytesLess, Bool.or_eq_false_iff, Bool.and_eq_false_iff, decide_eq_false_iff_not, beq_eq_false_iff_ne] at h
  simp only [Op.bytesLess, Bool.or_eq_true, Bool.and_eq_true, decide_eq_true_eq, beq_iff_eq]
  obtain ⟨h1, h2⟩ := h
  by_cases e : a = b
  ·subst e
   refine .inr ⟨rfl, zNX (h2.resolve_left (fun h => h rfl)) (fun e => hn (by rw [e]))⟩
  ·refine .inl ?_
   have h3 : b ≤ a := UInt8.not_lt.1 h1
   exact UInt8.lt_of_le_of_ne h3 (Ne.symm e)
theorem zNY {x y : Bys} : (Op.bytesLess x y || x == y) = !Op.bytesLess y x := by
 cases h : Op.bytesLess y x with
 |true =>
  have h1 := zNW h
  have : ¬ x = y := fun e => by subst e; rw [h1] at h; cases h
  simp [h1, this]
 |false =>
  by_cases e : x = y
  ·subst e; simp
  ·simp [zNX h (Ne.symm e)]
theorem zJJ (l : List Bys) : Contract Tryd.prog zCO [.val (.one (.sl 1 (zOw l))), .val (.one (.clo zDS []))] { res := .val (bv (okC l l.length)) } := by
 refine zIp (base := 0) ⟨Nat.le_of_ble_eq_true rfl, Nat.le_of_ble_eq_true rfl, Nat.le_of_ble_eq_true rfl, rfl⟩ (fun hfit => ?_)
 unfold F0 zCe
 simp (maxSteps := 2000000) only [zAV, List.set_cons_succ, List.set_cons_zero, List.map_cons, List.map_nil, zAU, zAa, ioOf, List.length_cons, List.length_nil, Nat.reduceAdd, Nat.reduceSub, List.replicate, List.cons_append, List.nil_append]
 try simp (maxSteps := 2000000) only [go_sem]
 repeat with_reducible refine zAd ?_
 have hm := zGp (k := 1) hfit.1
 rw [zAq] at hm
 refine zAE (fun i : Nat => [(5, .pv (sv (if i = 0 then [] else l.getD (i - 1) []))), (7, .un), (10, .pv (iv i)), (11, .un), (25, .un)]) (fun i : Nat => l.length - i) (fun i : Nat => i ≤ l.length ∧ okC l i = true) (0) ?_ ⟨Nat.zero_le _, rfl⟩ ?_
 focus (simp (maxSteps := 2000000) only [go_sem, zAl, zAu, zAT, zAm]; all_goals (repeat' (first | exact trivial | exact zAs (by omega) | exact zAn rfl | exact zAD rfl | exact zAx | exact le_refl _ | refine And.intro ?_ ?_)))
 intro i ⟨hi, hok⟩
 try simp (maxSteps := 2000000) only [go_sem]
 repeat with_reducible refine zAd ?_
 refine zAe (by rfl) trivial (fun h => ?_) (fun h => ?_)
 ·have hlt : i < l.length := by simpa using h
  try simp (maxSteps := 2000000) only [go_sem, zTL _ _ hlt]
  repeat with_reducible refine zAd ?_
  refine zDA (by rfl) trivial (by repeat' constructor) (zHe _) ?_
  try simp (maxSteps := 2000000) only [go_sem]
  repeat with_reducible refine zAd ?_
  refine zAv (by repeat' constructor) (zDY _) ?_
  try simp (maxSteps := 2000000) only [go_sem]
  repeat with_reducible refine zAd ?_
  refine zMy (by simp (maxSteps := 2000000) only [go_sem]; rfl) (by rfl) (by first | exact fun _ => trivial | exact fun h => h) (by intro h; repeat' (first | exact trivial | exact h | refine And.intro ?_ ?_)) (fun _ => zHe _) ?_
  try simp (maxSteps := 2000000) only [go_sem]
  repeat with_reducible refine zAd ?_
  rw [zNY]
  refine zAe (by rfl) trivial (fun h2 => ?_) (fun h2 => ?_)
  ·try simp (maxSteps := 2000000) only [go_sem]
   repeat with_reducible refine zAd ?_
   refine zAg rfl trivial (.inl ?_)
   congr 3
   cases hn : okC l l.length with
   |false => rfl
   |true =>
    exfalso
    have h4 := zBG hn hlt
    simp only [cOk, Bool.and_eq_true, Bool.or_eq_true, decide_eq_true_eq] at h4
    rw [h4.1] at h2
    by_cases h0 : i = 0
    ·subst h0
     cases hx : l.getD 0 [] with
     |nil => rw [hx] at h4; simp [zCT] at h4
     |cons a r => rw [hx] at h2; simp [Op.bytesLess] at h2
    ·rw [if_neg h0, h4.2.resolve_left h0] at h2
     simp at h2
  ·try simp (maxSteps := 2000000) only [go_sem]
   repeat with_reducible refine zAd ?_
   refine zDA (by rfl) trivial (by repeat' constructor) (zHe _) ?_
   try simp (maxSteps := 2000000) only [go_sem]
   repeat with_reducible refine zAd ?_
   refine ⟨i + 1, by omega, ⟨hlt, ?_⟩, ?_⟩
   ·rw [zXg, hok]
    simp only [Bool.true_and, cOk]
    cases hn : zCT (l.getD i []) with
    |false => rw [hn] at h2; simp at h2
    |true =>
     rw [hn] at h2
     by_cases h0 : i = 0
     ·simp [h0]
     ·rw [if_neg h0] at h2
      simp at h2
      simp [h0, h2]
   ·simp (maxSteps := 2000000) only [go_sem, zAl, zAu, zAT, zAm]
    all_goals (repeat' (first | exact trivial | exact zAs (by omega) | exact zAn rfl | exact zAD rfl | exact zAx | exact le_refl _ | refine And.intro ?_ ?_))
 ·try simp (maxSteps := 2000000) only [go_sem]
  repeat with_reducible refine zAd ?_
  refine zAg rfl trivial (.inl ?_)
  congr 3
  have : i = l.length := by simp at h; omega
  rw [← this]; exact hok
def rOk (l : List (Bys × Bys)) (k : Nat) : Bool := zCT (l.getD k default).1 && (decide (k = 0) || Op.bytesLess (l.getD (k - 1) default).1 (l.getD k default).1)
def zRO (l : List (Bys × Bys)) (i : Nat) : Bool := (List.range i).all (rOk l)
abbrev zZl (l : List (Bys × Bys)) : Bool := zRO l l.length
theorem zTe {l : List (Bys × Bys)} {i : Nat} : zRO l (i + 1) = (zRO l i && rOk l i) := zEP
theorem zLE (l : List (Bys × Bys)) : Contract Tryd.prog zCl [.val (.one (.sl 2 (zVA l))), .val (.one (.clo zDT []))] { res := .val (bv (zZl l)) } := by
 refine zGF (base := 0) ⟨Nat.le_of_ble_eq_true rfl, Nat.le_of_ble_eq_true rfl, Nat.le_of_ble_eq_true rfl, rfl⟩ (fun hfit => ?_)
 unfold F0 zBO
 simp (maxSteps := 2000000) only [zAV, List.set_cons_succ, List.set_cons_zero, List.map_cons, List.map_nil, zAU, zAa, ioOf, List.length_cons, List.length_nil, Nat.reduceAdd, Nat.reduceSub, List.replicate, List.cons_append, List.nil_append]
 try simp (maxSteps := 2000000) only [go_sem]
 repeat with_reducible refine zAd ?_
 have hm := zGp (k := 2) hfit.1
 rw [zAr] at hm
 refine zAE (fun i : Nat => [(5, .pv (sv (if i = 0 then [] else (l.getD (i - 1) default).1))), (7, .un), (30, .un), (31, .un), (10, .pv (iv i)), (11, .un), (25, .un)]) (fun i : Nat => l.length - i) (fun i : Nat => i ≤ l.length ∧ zRO l i = true) (0) ?_ ⟨Nat.zero_le _, rfl⟩ ?_
 focus (simp (maxSteps := 2000000) only [go_sem, zAl, zAu, zAT, zAm]; all_goals (repeat' (first | exact trivial | exact zAs (by omega) | exact zAn rfl | exact zAD rfl | exact zAx | exact le_refl _ | refine And.intro ?_ ?_)))
 intro i ⟨hi, hok⟩
 try simp (maxSteps := 2000000) only [go_sem]
 repeat with_reducible refine zAd ?_
 refine zAe (by rfl) trivial (fun h => ?_) (fun h => ?_)
 ·have hlt : i < l.length := by simpa using h
  try simp (maxSteps := 2000000) only [go_sem, zLT _ _ hlt]
  repeat with_reducible refine zAd ?_
  refine zDA (by rfl) trivial (by repeat' constructor) (zHf _ _) ?_
  try simp (maxSteps := 2000000) only [go_sem]
  repeat with_reducible refine zAd ?_
  refine zAv (by repeat' constructor) (zDY _) ?_
  try simp (maxSteps := 2000000) only [go_sem]
  repeat with_reducible refine zAd ?_
  refine zMy (by simp (maxSteps := 2000000) only [go_sem]; rfl) (by rfl) (by first | exact fun _ => trivial | exact fun h => h) (by intro h; repeat' (first | exact trivial | exact h | refine And.intro ?_ ?_)) (fun _ => zHf _ _) ?_
  try simp (maxSteps := 2000000) only [go_sem]
  repeat with_reducible refine zAd ?_
  rw [zNY]
  refine zAe (by rfl) trivial (fun h2 => ?_) (fun h2 => ?_)
  ·try simp (maxSteps := 2000000) only [go_sem]
   repeat with_reducible refine zAd ?_
   refine zAg rfl trivial (.inl ?_)
   congr 3
   cases hn : zZl l with
   |false => rfl
   |true =>
    exfalso
    have h4 := zBG hn hlt
    simp only [rOk, Bool.and_eq_true, Bool.or_eq_true, decide_eq_true_eq] at h4
    rw [h4.1] at h2
    by_cases h0 : i = 0
    ·subst h0
     cases hx : (l.getD 0 default).1 with
     |nil => rw [hx] at h4; simp [zCT] at h4
     |cons a r => rw [hx] at h2; simp [Op.bytesLess] at h2
    ·rw [if_neg h0, h4.2.resolve_left h0] at h2
     simp at h2
  ·try simp (maxSteps := 2000000) only [go_sem]
   repeat with_reducible refine zAd ?_
   refine zDA (by rfl) trivial (by repeat' constructor) (zHf _ _) ?_
   try simp (maxSteps := 2000000) only [go_sem]
   repeat with_reducible refine zAd ?_
   refine ⟨i + 1, by omega, ⟨hlt, ?_⟩, ?_⟩
   ·rw [zTe, hok]
    simp only [Bool.true_and, rOk]
    cases hn : zCT ((l.getD i default).1) with
    |false => rw [hn] at h2; simp at h2
    |true =>
     rw [hn] at h2
     by_cases h0 : i = 0
     ·simp [h0]
     ·rw [if_neg h0] at h2
      simp at h2
      simp [h0, h2]
   ·simp (maxSteps := 2000000) only [go_sem, zAl, zAu, zAT, zAm]
    all_goals (repeat' (first | exact trivial | exact zAs (by omega) | exact zAn rfl | exact zAD rfl | exact zAx | exact le_refl _ | refine And.intro ?_ ?_))
 ·try simp (maxSteps := 2000000) only [go_sem]
  repeat with_reducible refine zAd ?_
  refine zAg rfl trivial (.inl ?_)
  congr 3
  have : i = l.length := by simp at h; omega
  subst this; exact hok
def zNA (l : List (Bys × Bys)) (i : Nat) : Bool := !zGq (l.getD i default).2
def zRP (l : List (Bys × Bys)) : Int := match (List.range l.length).find? (zNA l) with | some i => i | none => -1
theorem zFU (l : List (Bys × Bys)) : Contract Tryd.prog zAX [.val (.one (.sl 2 (zVA l))), .val (.one (.clo zC8 []))] { res := .val (iv (zRP l)) } := by
 refine zCV (base := 0) ⟨Nat.le_of_ble_eq_true rfl, Nat.le_of_ble_eq_true rfl, Nat.le_of_ble_eq_true rfl, rfl⟩ (fun hfit => ?_)
 unfold F0 zA1
 simp (maxSteps := 2000000) only [zAV, List.set_cons_succ, List.set_cons_zero, List.map_cons, List.map_nil, zAU, zAa, ioOf, List.length_cons, List.length_nil, Nat.reduceAdd, Nat.reduceSub, List.replicate, List.cons_append, List.nil_append]
 try simp (maxSteps := 2000000) only [go_sem]
 repeat with_reducible refine zAd ?_
 have hm := zGp (k := 2) hfit.1
 rw [zAr] at hm
 refine zAE (fun i : Nat => [(5, .un), (8, .pv (iv i)), (9, .un), (16, .un)]) (fun i : Nat => l.length - i) (fun i : Nat => i ≤ l.length ∧ ∀ k, k < i → zNA l k = false) (0) ?_ ⟨Nat.zero_le _, fun k hk => by omega⟩ ?_
 focus (simp (maxSteps := 2000000) only [go_sem, zAl, zAu, zAT, zAm]; all_goals (repeat' (first | exact trivial | exact zAs (by omega) | exact zAn rfl | exact zAD rfl | exact zAx | exact le_refl _ | refine And.intro ?_ ?_)))
 intro i ⟨hi, hok⟩
 try simp (maxSteps := 2000000) only [go_sem]
 repeat with_reducible refine zAd ?_
 refine zAe (by rfl) trivial (fun h => ?_) (fun h => ?_)
 ·have hlt : i < l.length := by simpa using h
  try simp (maxSteps := 2000000) only [go_sem, zLT _ _ hlt]
  repeat with_reducible refine zAd ?_
  refine zDA (by rfl) trivial (by repeat' constructor) (zRN _ _) ?_
  try simp (maxSteps := 2000000) only [go_sem]
  repeat with_reducible refine zAd ?_
  refine zAe (by rfl) trivial (fun h2 => ?_) (fun h2 => ?_)
  ·try simp (maxSteps := 2000000) only [go_sem]
   repeat with_reducible refine zAd ?_
   refine zAg rfl trivial (.inl ?_)
   congr 3
   have h3 : (List.range l.length).find? (zNA l) = some i := List.find?_range_eq_some.2 ⟨h2, List.mem_range.2 hlt, fun j hj => by rw [hok j hj]; rfl⟩
   rw [zRP, h3]
  ·try simp (maxSteps := 2000000) only [go_sem]
   repeat with_reducible refine zAd ?_
   refine ⟨i + 1, by omega, ⟨hlt, fun k hk => ?_⟩, ?_⟩
   ·by_cases e : k = i
    ·rw [e]; exact h2
    ·exact hok k (by omega)
   ·simp (maxSteps := 2000000) only [go_sem, zAl, zAu, zAT, zAm]
    all_goals (repeat' (first | exact trivial | exact zAs (by omega) | exact zAn rfl | exact zAD rfl | exact zAx | exact le_refl _ | refine And.intro ?_ ?_))
 ·try simp (maxSteps := 2000000) only [go_sem]
  repeat with_reducible refine zAd ?_
  refine zAg rfl trivial (.inl ?_)
  congr 3
  have : i = l.length := by simp at h; omega
  have h3 : (List.range l.length).find? (zNA l) = none := List.find?_eq_none.2 fun x hx => by rw [hok x (by rw [this]; exact List.mem_range.1 hx)]; simp
  rw [zRP, h3]
def zRQ (l : List (Bys × Bys)) : Bool := (List.range l.length).any (zNA l)
theorem zUX (l : List (Bys × Bys)) : decide (0 ≤ zRP l) = zRQ l := by
 unfold zRP zRQ
 cases h : (List.range l.length).find? (zNA l) with
 |none =>
  have := List.find?_eq_none.1 h
  have h2 : (List.range l.length).any (zNA l) = false := by
   rw [List.any_eq_false]; exact this
  rw [h2]; rfl
 |some i =>
  have := List.find?_range_eq_some.1 h
  have h2 : (List.range l.length).any (zNA l) = true := List.any_eq_true.2 ⟨i, this.2.1, this.1⟩
  rw [h2]
  simp
theorem zEp (l : List (Bys × Bys)) : Contract Tryd.prog zBy [.val (.one (.sl 2 (zVA l))), .val (.one (.clo zC8 []))] { res := .val (bv (zRQ l)) } := by
 refine zD9 (base := 0) ⟨Nat.le_of_ble_eq_true rfl, Nat.le_of_ble_eq_true rfl, Nat.le_of_ble_eq_true rfl, rfl⟩ (fun hfit => ?_)
 unfold F0 zA6
 simp (maxSteps := 2000000) only [zAV, List.set_cons_succ, List.set_cons_zero, List.map_cons, List.map_nil, zAU, zAa, ioOf, List.length_cons, List.length_nil, Nat.reduceAdd, Nat.reduceSub, List.replicate, List.cons_append, List.nil_append]
 try simp (maxSteps := 2000000) only [go_sem]
 repeat with_reducible refine zAd ?_
 refine zAv (by repeat' constructor) (zFU _) ?_
 try simp (maxSteps := 2000000) only [go_sem]
 repeat with_reducible refine zAd ?_
 try simp (maxSteps := 2000000) only [go_sem]
 repeat with_reducible refine zAd ?_
 refine zAg rfl trivial (.inl ?_)
 congr 3
 rw [← zUX]
theorem zUY (l : List (Bys × Bys)) : okA l l.length = (zZl l && !zRQ l) := by
 rw [Bool.eq_iff_iff]
 simp only [okA, zRO, zRQ, Bool.and_eq_true, Bool.not_eq_true', List.all_eq_true, List.any_eq_false, List.mem_range]
 constructor
 ·intro h
  refine ⟨fun k hk => ?_, fun k hk => ?_⟩
  ·have := h k hk
   simp only [aOk, rOk, Bool.and_eq_true] at this ⊢
   exact ⟨this.1.1, this.2⟩
  ·have := h k hk
   simp only [aOk, zNA, Bool.and_eq_true] at this ⊢
   rw [this.1.2]; simp
 ·intro ⟨h1, h2⟩ k hk
  have h3 := h1 k hk
  have h4 := h2 k hk
  simp only [aOk, rOk, zNA, Bool.and_eq_true, Bool.not_eq_true, Bool.not_eq_false'] at h3 h4 ⊢
  exact ⟨⟨h3.1, h4⟩, h3.2⟩
theorem zNZ (x : Nd) : Contract Tryd.prog zIe [.val (.agg (ndV x))] { res := .val (bv (zLU x)) } := by
 unfold ndV
 refine zSj (base := 0) ⟨Nat.le_of_ble_eq_true rfl, Nat.le_of_ble_eq_true rfl, Nat.le_of_ble_eq_true rfl, rfl⟩ (fun hfit => ?_)
 unfold F0 zHs
 simp (maxSteps := 2000000) only [zAV, List.set_cons_succ, List.set_cons_zero, List.map_cons, List.map_nil, zAU, zAa, ioOf, List.length_cons, List.length_nil, Nat.reduceAdd, Nat.reduceSub, List.replicate, List.cons_append, List.nil_append]
 try simp (maxSteps := 2000000) only [go_sem]
 repeat with_reducible refine zAd ?_
 refine zAv (by repeat' constructor) (zDY _) ?_
 try simp (maxSteps := 2000000) only [go_sem]
 repeat with_reducible refine zAd ?_
 apply zAz (h2 := fun _ => zDY _)
 ·(simp (maxSteps := 2000000) only [go_sem]; rfl)
 ·intro h; repeat' (first | exact trivial | exact h | refine And.intro ?_ ?_)
 try simp (maxSteps := 2000000) only [go_sem]
 repeat with_reducible refine zAd ?_
 apply zAz (h2 := fun _ => zJJ _)
 ·(simp (maxSteps := 2000000) only [go_sem]; rfl)
 ·intro h; repeat' (first | exact trivial | exact h | refine And.intro ?_ ?_)
 try simp (maxSteps := 2000000) only [go_sem]
 repeat with_reducible refine zAd ?_
 apply zAz (h2 := fun _ => zLE _)
 ·(simp (maxSteps := 2000000) only [go_sem]; rfl)
 ·intro h; repeat' (first | exact trivial | exact h | refine And.intro ?_ ?_)
 try simp (maxSteps := 2000000) only [go_sem]
 repeat with_reducible refine zAd ?_
 apply zAz (h2 := fun _ => zEp _)
 ·(simp (maxSteps := 2000000) only [go_sem]; rfl)
 ·intro h; repeat' (first | exact trivial | exact h | refine And.intro ?_ ?_)
 try simp (maxSteps := 2000000) only [go_sem]
 repeat with_reducible refine zAd ?_
 refine zAg rfl trivial (.inl ?_)
 congr 3
 simp only [zLU, zUY]
 grind
end Go.Hx
end

section
set_option maxRecDepth 100000
set_option linter.unusedSimpArgs false
namespace Go.Hx
open Go.Proofs
variable [Glob]
attribute [local go_sem] zAw zAq zAr zAk ndV zAo
attribute [local go_sem] reduceCtorEq Nat.reduceAdd Nat.reduceEqDiff reduceIte Nat.reduceLeDiff Nat.reduceLT Nat.reduceSub
def zKC (u : Int) (c : List Int) : List Int := c.dropWhile fun x => decide (x ≠ u)
theorem zMY {u : Int} : ∀ c : List Int, (zKC u c = []) ↔ u ∉ c
 |[] => by simp [zKC]
 |x :: c => by
  simp only [zKC, List.dropWhile_cons]
  by_cases h : x = u
  ·simp [h]
  ·have := zMY (u := u) c
   simp only [zKC] at this
   simp only [ne_eq, decide_not] at this
   simp [h, this, Ne.symm h]
theorem zMZ {d : List Nd} {u : Int} : ∀ (f : Nat) (k : Int), (∀ j : Nat, (j : Int) ≤ k → zBb d j < j) → k < f → u ∈ zBD d f k → ∀ g : Nat, u < g → zKC u (zBD d f k) = zBD d g u
 |0, k, _, _, hu => by simp [zBD] at hu
 |f + 1, k, h, hf, hu => by
  intro g hg
  have hb := zDv (f + 1) k h _ hu
  simp only [zBD] at hu ⊢
  split at hu
  ·cases hu
  ·rename_i hk
   rw [if_neg hk]
   simp only [zKC, List.dropWhile_cons]
   by_cases e : k = u
   ·subst e
    simp only [ne_eq, not_true_eq_false, decide_false, Bool.false_eq_true, if_false]
    have : k :: zBD d f (zBb d k.toNat) = zBD d (f + 1) k := by simp [zBD, hk]
    rw [this]
    exact zHr _ _ _ h hf hg
   ·simp only [ne_eq, e, not_false_eq_true, decide_true, if_true]
    have h1 := h k.toNat (by omega)
    exact zMZ f (zBb d k.toNat) (fun j hj => h j (by omega)) (by omega) ((List.mem_cons.1 hu).resolve_left (Ne.symm e)) g hg
theorem zN0 (c : List Int) (x : Int) : (zDJ ((x :: c).reverse)).getD c.length [] = [bI x] := by
 simp [zDJ]
theorem zN1 (c : List Int) (x : Int) : (zDJ ((x :: c).reverse)).take c.length = zDJ c.reverse := by
 simp [zDJ]
theorem zWf : zDJ [] = [] := rfl
theorem zRR {d : List Nd} {i : Nat} : zZq d i = ((decide (i ≠ 0) || decide (zBb d i = -1)) && (decide (i = 0) || !decide (zKC (zBb d i) (zBD d i ((i : Int) - 1)) = []))) := by
 unfold zZq
 by_cases h : i = 0
 ·simp [h]
 ·have := zMY (u := zBb d i) (zBD d i ((i : Int) - 1))
  simp only [h, if_false, ne_eq, not_false_eq_true, decide_true, Bool.true_or, Bool.true_and, decide_false, Bool.false_or, this]
  simp
theorem zRS {d : List Nd} : ∀ (f : Nat) (k : Int), (zBD d f k).length ≤ f
 |0, _ => by simp [zBD]
 |f + 1, k => by
  simp only [zBD]
  split
  ·simp
  ·have := zRS (d := d) f (zBb d k.toNat)
   simp; omega
theorem zWg (n : Nat) : ((((n + 1 : Nat) : Int)) - 1).toNat = n := by omega
theorem zWh {d : List Nd} {i : Nat} (hl : 1 ≤ d.length ∧ d.length ≤ 64) (hi : i < d.length) (h : zUm d i = false) : zAS d = 1 := by
 have : zD4 d d.length = false := by
  cases hd : zD4 d d.length with
  |false => rfl
  |true => rw [zBG hd hi] at h; cases h
 simp [zAS, hl, this]
theorem zTf (d : List Nd) : Contract Tryd.prog zGt [.val (zHq d)] { res := .val (iv (zAS d)) } := by
 unfold zHq
 refine zQt (base := 0) ⟨Nat.le_of_ble_eq_true rfl, Nat.le_of_ble_eq_true rfl, Nat.le_of_ble_eq_true rfl, rfl⟩ (fun hfit => ?_)
 unfold F0 zFJ
 simp (maxSteps := 2000000) only [zAV, List.set_cons_succ, List.set_cons_zero, List.map_cons, List.map_nil, zAU, zAa, ioOf, List.length_cons, List.length_nil, Nat.reduceAdd, Nat.reduceSub, List.replicate, List.cons_append, List.nil_append]
 try simp (maxSteps := 2000000) only [go_sem]
 repeat with_reducible refine zAd ?_
 refine zAe (by rfl) trivial (fun h => ?_) (fun h => ?_)
 ·try simp (maxSteps := 2000000) only [go_sem]
  repeat with_reducible refine zAd ?_
  refine zAg rfl trivial (.inl ?_)
  congr 3
  have hl : ¬ (1 ≤ d.length ∧ d.length ≤ 64) := by
   simp at h; omega
  simp [zAS, hl]
 have hl : 1 ≤ d.length ∧ d.length ≤ 64 := by
  simp at h; omega
 try simp (maxSteps := 2000000) only [go_sem]
 repeat with_reducible refine zAd ?_
 refine zAE (fun i : Nat => [(3, .stk zMJ 1 (zDJ (zBD d i ((i : Int) - 1)).reverse)), (4, .un), (5, .un), (19, .pv (iv i)), (20, .un), (37, .un), (63, .un), (69, .un), (70, .un), (71, .un), (72, .un), (73, .un)]) (fun i : Nat => d.length - i) (fun i : Nat => i ≤ d.length ∧ zD4 d i = true) (0) ?_ ⟨Nat.zero_le _, rfl⟩ ?_
 focus (simp (maxSteps := 2000000) only [go_sem, zAl, zAu, zAT, zAm]; all_goals (repeat' (first | exact trivial | exact zAs (by omega) | exact zAn rfl | exact zAD rfl | exact zAx | exact le_refl _ | refine And.intro ?_ ?_)))
 intro i ⟨hi, hok⟩
 try simp (maxSteps := 2000000) only [go_sem]
 repeat with_reducible refine zAd ?_
 refine zAe (by rfl) trivial (fun h2 => ?_) (fun h2 => ?_)
 ·have hlt : i < d.length := by simpa using h2
  try simp (maxSteps := 2000000) only [go_sem, zCr _ _ hlt]
  repeat with_reducible refine zAd ?_
  have hcl := zRS (d := d) i ((i : Int) - 1)
  have hx : zBb d i = (d.getD i default).up := rfl
  refine zAE (fun c : List Int => [(3, .stk zMJ 1 (zDJ c.reverse)), (37, .un)]) (fun c : List Int => c.length) (fun c : List Int => c.length ≤ i ∧ zKC (zBb d i) c = zKC (zBb d i) (zBD d i ((i : Int) - 1))) ((zBD d i ((i : Int) - 1))) ?_ ⟨hcl, rfl⟩ ?_
  focus (simp (maxSteps := 2000000) only [go_sem, zAl, zAu, zAT, zAm]; all_goals (repeat' (first | exact trivial | exact zAs (by omega) | exact zAn rfl | exact zAD rfl | exact zAx | exact le_refl _ | refine And.intro ?_ ?_)))
  intro c ⟨hcl, hc⟩
  cases c with
  |nil =>
   have hpop : zKC (zBb d i) (zBD d i ((i : Int) - 1)) = [] := by rw [← hc]; rfl
   have hup := zRR (d := d) (i := i)
   rw [hpop] at hup
   try simp (maxSteps := 2000000) only [go_sem, List.reverse_nil, zWf, List.getD_nil, List.headD_nil]
   repeat with_reducible refine zAd ?_
   refine zAe (by rfl) trivial (fun h3 => ?_) (fun h3 => ?_)
   ·simp at h3
   try simp (maxSteps := 2000000) only [go_sem]
   repeat with_reducible refine zAd ?_
   refine zP3 (by repeat' constructor) (zNZ (d.getD i default)) ?_
   try simp (maxSteps := 2000000) only [go_sem]
   repeat with_reducible refine zAd ?_
   refine zAe (by rfl) trivial (fun h4 => ?_) (fun h4 => ?_)
   ·try simp (maxSteps := 2000000) only [go_sem]
    repeat with_reducible refine zAd ?_
    refine zAg rfl trivial (.inl ?_)
    congr 3
    refine zWh hl hlt ?_
    rw [zUm, hup]
    grind
   ·try simp (maxSteps := 2000000) only [go_sem]
    repeat with_reducible refine zAd ?_
    have h5 : i = 0 := by grind
    have h6 : zUm d i = true := by
     rw [zUm, hup]
     grind
    refine ⟨i + 1, by omega, ⟨by omega, by rw [zNN, hok, h6]; rfl⟩, ?_⟩
    simp (maxSteps := 2000000) only [go_sem, zAl, zAu, zAT, zAm]
    all_goals (repeat' (first | exact trivial | exact zAs (by omega) | exact zAn rfl | exact zAD rfl | exact zAx | exact le_refl _ | refine And.intro ?_ ?_))
    refine zAD ?_
    subst h5
    have : zBb d 0 = -1 := by grind
    simp [zBD, this, zDJ]
  |cons x c =>
   have hlen : c.length + 1 ≤ 64 := by simp at hcl; omega
   try simp (maxSteps := 2000000) only [go_sem, List.length_reverse, zWg, zN0, zN1]
   repeat with_reducible refine zAd ?_
   refine zAe (by rfl) trivial (fun h3 => ?_) (fun h3 => ?_)
   ·try simp (maxSteps := 2000000) only [go_sem, List.length_reverse, zWg, zN0, zN1]
    repeat with_reducible refine zAd ?_
    refine ⟨c, by omega, ⟨by simp at hcl; omega, ?_⟩, ?_⟩
    ·rw [← hc]
     simp only [zKC, List.dropWhile_cons]
     grind
    ·simp (maxSteps := 2000000) only [go_sem, zAl, zAu, zAT, zAm]
     all_goals (repeat' (first | exact trivial | exact zAs (by omega) | exact zAn rfl | exact zAD rfl | exact zAx | exact le_refl _ | refine And.intro ?_ ?_))
   have hxu : x = zBb d i := by grind
   have hpop : zKC (zBb d i) (zBD d i ((i : Int) - 1)) = x :: c := by rw [← hc]; simp [zKC, hxu]
   have hup := zRR (d := d) (i := i)
   rw [hpop] at hup
   try simp (maxSteps := 2000000) only [go_sem, List.length_reverse]
   repeat with_reducible refine zAd ?_
   refine zP3 (by repeat' constructor) (zNZ (d.getD i default)) ?_
   try simp (maxSteps := 2000000) only [go_sem]
   repeat with_reducible refine zAd ?_
   refine zAe (by rfl) trivial (fun h4 => ?_) (fun h4 => ?_)
   ·try simp (maxSteps := 2000000) only [go_sem]
    repeat with_reducible refine zAd ?_
    refine zAg rfl trivial (.inl ?_)
    congr 3
    refine zWh hl hlt ?_
    rw [zUm, hup]
    grind
   ·try simp (maxSteps := 2000000) only [go_sem]
    repeat with_reducible refine zAd ?_
    have hmem : zBb d i ∈ zBD d i ((i : Int) - 1) := by
     have := zMY (u := zBb d i) (zBD d i ((i : Int) - 1))
     rw [hpop] at this
     simpa using this
    have h5 : i ≠ 0 := by intro h0; subst h0; simp [zBD] at hmem
    have h6 : zUm d i = true := by
     rw [zUm, hup]
     grind
    refine ⟨i + 1, by omega, ⟨by omega, by rw [zNN, hok, h6]; rfl⟩, ?_⟩
    simp (maxSteps := 2000000) only [go_sem, zAl, zAu, zAT, zAm]
    all_goals (repeat' (first | exact trivial | exact zAs (by omega) | exact zAn rfl | exact zAD rfl | exact zAx | exact le_refl _ | refine And.intro ?_ ?_))
    refine zAD ?_
    have hups : ∀ j : Nat, (j : Int) ≤ (i : Int) - 1 → zBb d j < j := fun j hj => (zBc hok j (by omega)).2
    have hb := zDv i ((i : Int) - 1) hups _ hmem
    have hch := zMZ i ((i : Int) - 1) hups (by omega) hmem i (by omega)
    rw [hpop] at hch
    have : zBD d (i + 1) (((i + 1 : Nat) : Int) - 1) = (i : Int) :: x :: c := by
     rw [show (((i + 1 : Nat) : Int) - 1) = (i : Int) by omega]
     simp only [zBD]
     rw [if_neg (by omega), hch]
     simp
    rw [this]
    simp [zDJ]
 ·try simp (maxSteps := 2000000) only [go_sem]
  repeat with_reducible refine zAd ?_
  refine zAg rfl trivial (.inl ?_)
  congr 3
  have hi2 : i = d.length := by simp at h2; omega
  subst hi2
  simp [zAS, hl, hok]
end Go.Hx
end
