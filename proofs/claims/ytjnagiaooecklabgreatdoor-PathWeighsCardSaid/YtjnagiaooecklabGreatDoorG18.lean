/-
  Walks of functions of the program over an abstract layer, and the laws that they use: each contract says what the function computes, for every input that its conditions let by. No other condition.
-/
import Derived.Test.YtjnagiaooecklabGreatDoorG8
import Derived.Test.YtjnagiaooecklabGreatDoorG10
import Derived.Test.YtjnagiaooecklabGreatDoorG16
import Derived.Test.YtjnagiaooecklabGreatDoorG17
import Derived.Shelf.Strings.SlTrimAscii
import Derived.Test.YtjnagiaooecklabGreatDoorG11
set_option linter.all false
section
set_option maxRecDepth 100000
set_option linter.unusedSimpArgs false
namespace Go.Hx
open Go.Proofs Go.RowKit
variable [Glob]
attribute [local go_sem] zAz zAx zAy zAq ndV zAu
attribute [local go_sem] reduceCtorEq Nat.reduceAdd Nat.reduceEqDiff reduceIte Nat.reduceLeDiff Nat.reduceLT Nat.reduceSub
theorem zHK {R : Nat → Prop} {w w' : World} (h : Below w.heap.size w w') : Pres R w w' := ⟨h.os, h.tape, h.output, h.size, fun b hb _ => h.block b hb⟩
theorem zNZ {m : Mem} {w w' : World} (hm : MemOk m w) (h : Below w.heap.size w w') : MemOk m w' := fun b o u hu => by
 have h1 := hm b o u hu
 have h2 : b < w.heap.size := World.block_lt_of_cell? w _ h1
 rw [← h1]
 exact World.cell?_of_block (h.block b h2)
theorem zSS {R : Nat → Prop} {w w' : World} (h : Pres R w w') (hR : ∀ b, ¬ R b) : Below w.heap.size w w' := ⟨h.os, h.tape, h.output, h.size, fun b hb => h.block b hb (hR b)⟩
theorem zST {m : Mem} {w w' : World} {avs : List AV} {us : List Value} {e : Ending} {x : PVal} {u : Value} (hm : MemOk m w) (h : Below w.heap.size w w') (he : e = .returned u) (hx : RpV m x u) (hio : ioB avs us = none) : yBc m w avs us { res := .val x } e w' :=
 ⟨m, m.le_refl, zNZ hm h, zHK h, fun _ _ _ h => .inl h, (fun b hb => by rw [hio] at hb; cases hb), u, he, hx⟩
theorem zY9 {w w' : World} (h : Below w.heap.size w w') (hG : Glob.ok w) : Glob.ok w' :=
 Glob.keep _ _ (fun b hb => h.block b (Nat.lt_of_lt_of_le hb (Glob.size _ hG))) hG
theorem yAp (s cs : Bys) : (Lib.trimS s cs).length ≤ s.length := by
 unfold Lib.trimS Lib.trimLeftS Lib.trimRightS
 refine Nat.le_trans (List.dropWhile_sublist _).length_le ?_
 rw [List.length_reverse]
 refine Nat.le_trans (List.dropWhile_sublist _).length_le ?_
 rw [List.length_reverse]
 exact Nat.le_refl _
theorem zGj {s : Bys} (h : s.length ≤ maxLen) : zEB (mkS s) = true := by
 simp only [zEB]
 exact decide_eq_true (by simpa [ByteArray.size] using h)
theorem zMd {s : Bys} (h : zEB (mkS s) = true) : s.length ≤ maxLen := by
 simp only [zEB, decide_eq_true_eq] at h
 simpa [ByteArray.size] using h
theorem zP5 (s cs : Bys) (hc : cs.length < 1000) (ha : cs.all (fun b => decide (b.toNat < 128)) = true) : Contract Tryz.prog zEt [.val (sv s), .val (sv cs)] { res := .val (sv (Lib.trimS s cs)) } := by
 refine ⟨by kernel_rfl, fun m w us hm hargs _ hG _ => ?_⟩
 obtain ⟨u1, us1, rfl, h1, u2, us2, rfl, h2, rfl⟩ := hargs
 obtain ⟨rfl, f1⟩ := h1
 obtain ⟨rfl, f2⟩ := h2
 have hs := zMd f1
 have hT := Any.strings_Trim_laid Tryz.l160 (by kernel_rfl) ⟨s.toArray⟩ ⟨cs.toArray⟩ w (by simpa [ByteArray.size, maxLen] using hs) (by simp [ByteArray.size]; omega) (ascii_of_all (by simpa using ha))
 change Calls Tryz.prog zEt _ _ _ at hT
 refine hT.mono fun e w' ⟨he, hb⟩ => zST hm hb he ⟨by simp, ?_⟩ rfl
 exact zGj (Nat.le_trans (yAp s cs) hs)
theorem zDq (s : Bys) (g : Nat) (p : Nat → Bool) (hp : ∀ r, 128 ≤ r → p r = true) (eg : ∀ args w, (callFunc g args).run Tryz.prog w = .ok (.enter g args) w)
  (hg : ∀ r : Nat, Contract Tryz.prog g [.val (.one (.v (.int .i32 r)))] { res := .val (bv (p r)) }) :
  Contract Tryz.prog zBh [.val (sv s), .val (.one (.clo g []))] { res := .val (bv (!s.all (fun b => decide (b.toNat < 128) && !p b.toNat))) } := by
 refine ⟨by kernel_rfl, fun m w us hm hargs _ hG _ => ?_⟩
 obtain ⟨u1, us1, rfl, h1, u2, us2, rfl, h2, rfl⟩ := hargs
 obtain ⟨rfl, f1⟩ := h1
 obtain ⟨us, rfl, hus⟩ := h2
 obtain rfl : us = [] := by simpa [RpL] using hus
 have hpg : PredGrows Tryz.prog g #[] p w := fun W x _ hbW => by
  refine ((hg x).2 (fun _ _ => none) W [.int .i32 x] (fun _ _ _ h => by cases h) ⟨_, _, rfl, ⟨rfl, rfl⟩, rfl⟩ (by intro g h; cases h) (zY9 hbW hG) (by rintro b (h | h) <;> cases h)).mono fun e W' ⟨m', _, _, hpr, _, _, u, hu, hr⟩ => ?_
  obtain rfl : u = .bool (p x) := hr.1
  exact ⟨hu, zSS hpr (by intro b h; rcases h with h | h <;> cases h)⟩
 have hT := Any.strings_ContainsFunc_grows Tryz.l17 g #[] eg p ⟨s.toArray⟩ w hpg
 change Calls Tryz.prog zBh _ _ _ at hT
 rw [yD9 hp] at hT
 exact hT.mono fun e w' ⟨he, hb⟩ => zST hm hb he ⟨rfl, rfl⟩ rfl
def zZa (r : Nat) : Bool := ((decide (r < 97) || decide (122 < r)) && (decide (r < 48) || decide (57 < r))) && decide (r ≠ 45)
def zQP (r : Nat) : Bool := decide (r < 32) || decide (126 < r) || decide (r = 34)
theorem zU5 (r : Nat) : Contract Tryz.prog zCn [.val (.one (.v (.int .i32 r)))] { res := .val (bv (zZa r)) } := by
 refine zRQ (base := 0) ⟨Nat.le_of_ble_eq_true rfl, Nat.le_of_ble_eq_true rfl, Nat.le_of_ble_eq_true rfl, rfl⟩ (fun hfit => ?_)
 unfold F0 zEN
 simp (maxSteps := 2000000) only [zAN, List.set_cons_succ, List.set_cons_zero, List.map_cons, List.map_nil, zAM, zAb, ioOf, List.length_cons, List.length_nil, Nat.reduceAdd, Nat.reduceSub, List.replicate, List.cons_append, List.nil_append]
 try simp (maxSteps := 2000000) only [go_sem]
 repeat with_reducible refine zAd ?_
 refine zAl rfl trivial (.inl ?_)
 congr 3
 unfold zZa
 grind
theorem zSU (r : Nat) : Contract Tryz.prog zB2 [.val (.one (.v (.int .i32 r)))] { res := .val (bv (zQP r)) } := by
 refine zPe (base := 0) ⟨Nat.le_of_ble_eq_true rfl, Nat.le_of_ble_eq_true rfl, Nat.le_of_ble_eq_true rfl, rfl⟩ (fun hfit => ?_)
 unfold F0 zD5
 simp (maxSteps := 2000000) only [zAN, List.set_cons_succ, List.set_cons_zero, List.map_cons, List.map_nil, zAM, zAb, ioOf, List.length_cons, List.length_nil, Nat.reduceAdd, Nat.reduceSub, List.replicate, List.cons_append, List.nil_append]
 try simp (maxSteps := 2000000) only [go_sem]
 repeat with_reducible refine zAd ?_
 refine zAl rfl trivial (.inl ?_)
 congr 3
 unfold zQP
 grind
theorem yEa : ∀ args w, (callFunc zCn args).run Tryz.prog w = .ok (.enter zCn args) w := enters_of Tryz.func239 (by kernel_rfl) rfl
theorem yEb : ∀ args w, (callFunc zB2 args).run Tryz.prog w = .ok (.enter zB2 args) w := enters_of Tryz.func240 (by kernel_rfl) rfl
theorem zI4 {α : Type} {l : List α} {p q : α → Bool} (h : ∀ x, p x = q x) : l.all p = l.all q := by rw [show p = q from funext h]
theorem yFV (b : UInt8) : (decide (b.toNat < 128) && !zQP b.toNat) = zWg b := by
 unfold zQP zWg
 grind
theorem yEc (b : UInt8) : (decide (b.toNat < 128) && !zZa b.toNat) = nameCh b := by
 unfold zZa nameCh
 grind
theorem yCT (b : UInt8) : ([97, 98, 99, 100, 101, 102, 103, 104, 105, 106, 107, 108, 109, 110, 111, 112, 113, 114, 115, 116, 117, 118, 119, 120, 121, 122, 48, 49, 50, 51, 52, 53, 54, 55, 56, 57, 45] : Bys).contains b = nameCh b := by
 have h : ∀ n : Fin 256, ([97, 98, 99, 100, 101, 102, 103, 104, 105, 106, 107, 108, 109, 110, 111, 112, 113, 114, 115, 116, 117, 118, 119, 120, 121, 122, 48, 49, 50, 51, 52, 53, 54, 55, 56, 57, 45] : Bys).contains (UInt8.ofFin n) = nameCh (UInt8.ofFin n) := by decide +kernel
 exact h b.toFin
theorem zW7 (s : Bys) : Contract Tryz.prog zGh [.val (sv s)] { res := .val (bv (zCN s)) } := by
 refine zUt (base := 0) ⟨Nat.le_of_ble_eq_true rfl, Nat.le_of_ble_eq_true rfl, Nat.le_of_ble_eq_true rfl, rfl⟩ (fun hfit => ?_)
 unfold F0 zFI
 simp (maxSteps := 2000000) only [zAN, List.set_cons_succ, List.set_cons_zero, List.map_cons, List.map_nil, zAM, zAb, ioOf, List.length_cons, List.length_nil, Nat.reduceAdd, Nat.reduceSub, List.replicate, List.cons_append, List.nil_append]
 try simp (maxSteps := 2000000) only [go_sem]
 repeat with_reducible refine zAd ?_
 apply zAG (h2 := fun _ => zDq s zB2 zQP (by intro r h; unfold zQP; grind) yEb zSU)
 ·(simp (maxSteps := 2000000) only [go_sem]; rfl)
 ·intro h; repeat' (first | exact trivial | exact h | refine And.intro ?_ ?_)
 try simp (maxSteps := 2000000) only [go_sem]
 repeat with_reducible refine zAd ?_
 refine zAl rfl trivial (.inl ?_)
 congr 3
 rw [zI4 yFV, zCN]
 grind
theorem zQQ (s : Bys) : Contract Tryz.prog zFH [.val (sv s)] { res := .val (bv (zBN s)) } := by
 refine zWI (base := 0) ⟨Nat.le_of_ble_eq_true rfl, Nat.le_of_ble_eq_true rfl, Nat.le_of_ble_eq_true rfl, rfl⟩ (fun hfit => ?_)
 unfold F0 zGB
 simp (maxSteps := 2000000) only [zAN, List.set_cons_succ, List.set_cons_zero, List.map_cons, List.map_nil, zAM, zAb, ioOf, List.length_cons, List.length_nil, Nat.reduceAdd, Nat.reduceSub, List.replicate, List.cons_append, List.nil_append]
 try simp (maxSteps := 2000000) only [go_sem]
 repeat with_reducible refine zAd ?_
 apply zAG (h2 := fun _ => zP5 s _ (by decide) (by decide))
 ·(simp (maxSteps := 2000000) only [go_sem]; rfl)
 ·intro h; repeat' (first | exact trivial | exact h | refine And.intro ?_ ?_)
 try simp (maxSteps := 2000000) only [go_sem]
 repeat with_reducible refine zAd ?_
 apply zAG (h2 := fun _ => zDq s zCn zZa (by intro r h; unfold zZa; grind) yEa zU5)
 ·(simp (maxSteps := 2000000) only [go_sem]; rfl)
 ·intro h; repeat' (first | exact trivial | exact h | refine And.intro ?_ ?_)
 try simp (maxSteps := 2000000) only [go_sem]
 repeat with_reducible refine zAd ?_
 refine zAl rfl trivial (.inl ?_)
 congr 3
 rw [zI4 yEc, yB2, zI4 yCT, zBN]
 grind
end Go.Hx
end

section
set_option maxRecDepth 100000
set_option linter.unusedSimpArgs false
namespace Go.Hx
open Go.Proofs
variable [Glob]
attribute [local go_sem] zAz zAx zAy zAq ndV zAu zAp fdV shV zBu zBR zBs zAW
attribute [local go_sem] reduceCtorEq Nat.reduceAdd Nat.reduceEqDiff reduceIte Nat.reduceLeDiff Nat.reduceLT Nat.reduceSub
theorem yAU (N : Nat) (ih : yHs Tryz.prog N) (s : St) (d K : Nat) (c : Fd) (hN : SizeOf.sizeOf s ≤ N + 1) (hd : d ≤ 3) (hc : c.le K) (hK : K + bdS d ≤ 1000000000) : Contract Tryz.prog zCo [.io (fdV c), .val (.agg (stV s)), .val (iv d)] { res := .tup [], io := fdV (c.add (ntS s d)) } := by
 rw [zBK]
 unfold fdV
 refine zII (base := 121) ⟨Nat.le_of_ble_eq_true rfl, Nat.le_of_ble_eq_true rfl, Nat.le_of_ble_eq_true rfl, ⟨rfl, rfl⟩⟩ (fun hfit => ?_)
 unfold F0 zCG
 simp (maxSteps := 2000000) only [zAN, List.set_cons_succ, List.set_cons_zero, List.map_cons, List.map_nil, zAM, zAb, ioOf, List.length_cons, List.length_nil, Nat.reduceAdd, Nat.reduceSub, List.replicate, List.cons_append, List.nil_append]
 try simp (maxSteps := 2000000) only [go_sem]
 repeat with_reducible refine zAd ?_
 have hbs : bdS d = 1 + 6 * bdT d := rfl
 have hbt : bdT d = 5 + bd (d + 1) := rfl
 refine zAa (by rfl) trivial (fun h => ?_) (fun h => ?_)
 ·have e : ntS s d = fM true := by rw [yCV, if_pos (by simp at h; omega)]
  have hm := hc.m
  try simp (maxSteps := 2000000) only [go_sem]
  repeat with_reducible refine zAd ?_
  refine zB6 (by repeat' constructor) (zS4 c true (by omega)) ?_
  try simp (maxSteps := 2000000) only [go_sem]
  repeat with_reducible refine zAd ?_
  rw [e]
  exact zRv rfl rfl
 ·have hl6 : s.tests.length ≤ 6 := by simp at h; omega
  have e : ntS s d = (fF (!(s.tag == []) && !zBN s.tag)).add (zX5 s.tests d) := by rw [yCV, if_neg (by omega)]
  rw [e]
  try simp (maxSteps := 2000000) only [go_sem]
  repeat with_reducible refine zAd ?_
  have hf := hc.f
  apply zAG (h2 := fun _ => zQQ s.tag)
  ·(simp (maxSteps := 2000000) only [go_sem]; rfl)
  ·intro h; repeat' (first | exact trivial | exact h | refine And.intro ?_ ?_)
  try simp (maxSteps := 2000000) only [go_sem]
  repeat with_reducible refine zAd ?_
  refine zB6 (by repeat' constructor) (zMh c (bif !(s.tag == []) then !zBN s.tag else false) (by omega)) ?_
  try simp (maxSteps := 2000000) only [go_sem, Bool.cond_false_right]
  repeat with_reducible refine zAd ?_
  obtain ⟨c1, hc1⟩ : ∃ c1, c1 = c.add (fF (!(s.tag == []) && !zBN s.tag)) := ⟨_, rfl⟩
  have hc2 : c1.le (K + 1) := by rw [hc1]; exact hc.le_add (zVa _)
  rw [← Fd.add_assoc, ← hc1]
  have hK0 : K + 1 + (s.tests.length - 0) * bdT d ≤ 1000000000 := by
   have : (s.tests.length - 0) * bdT d ≤ 6 * bdT d := Nat.mul_le_mul_right _ (by omega)
   omega
  refine zAo (fun x : Nat × Fd => [(7, .un), (8, .un), (9, .un), (30, .pv (iv x.1)), (31, .un), (113, .un), (122, .pv (.one (bI x.2.f))), (123, .pv (.one (bI x.2.m))), (124, .pv (.one (bI x.2.r))), (125, .pv (.one (bI x.2.k)))]) (fun x : Nat × Fd => s.tests.length - x.1) (fun x : Nat × Fd => x.1 ≤ s.tests.length ∧ (∃ K', x.2.le K' ∧ K' + (s.tests.length - x.1) * bdT d ≤ 1000000000) ∧ x.2.add (zX5 (s.tests.drop x.1) d) = c1.add (zX5 s.tests d)) ((0, c1)) ?_ ⟨Nat.zero_le _, ⟨K + 1, hc2, hK0⟩, by simp⟩ ?_
  focus (simp (maxSteps := 2000000) only [go_sem, zAe, zAj, zAt, zAc]; all_goals (repeat' (first | exact trivial | exact zAg (by omega) | exact zAf rfl | exact zAr rfl | exact zAk | exact le_refl _ | refine And.intro ?_ ?_)))
  rintro ⟨i, a⟩ ⟨hi, ⟨K', ha, hK'⟩, hsum⟩
  simp only at hi ha hK' hsum
  try simp (maxSteps := 2000000) only [go_sem]
  repeat with_reducible refine zAd ?_
  refine zAa (by rfl) trivial (fun h2 => ?_) (fun h2 => ?_)
  ·have hil : i < s.tests.length := by simp at h2; omega
   rw [zAX (d := default) hil] at hsum
   obtain ⟨t, ht⟩ : ∃ t, t = s.tests.getD i default := ⟨_, rfl⟩
   rw [← ht] at hsum
   have hg := zCr s.tests i hil
   rw [← ht, zCg] at hg
   have hsz : SizeOf.sizeOf t.list ≤ N := by
    have h3 := zI6 t
    have h4 := zZb hil
    rw [← ht] at h4
    have h5 := zGF s
    omega
   have hmul : (s.tests.length - i) * bdT d = bdT d + (s.tests.length - (i + 1)) * bdT d := by
    have : s.tests.length - i = (s.tests.length - (i + 1)) + 1 := by omega
    rw [this, Nat.add_mul]; omega
   have hbp := zSZ (4 - (d + 1))
   have hbe : bd (d + 1) = bdF (4 - (d + 1)) := rfl
   simp only [zX5, yFZ, yBl] at hsum
   try simp (maxSteps := 2000000) only [go_sem, hg]
   repeat with_reducible refine zAd ?_
   refine zAR (by repeat' constructor) (zVk t.kind) ?_
   try simp (maxSteps := 2000000) only [go_sem, hg]
   repeat with_reducible refine zAd ?_
   have a1 := ha.k
   refine zB6 (by repeat' constructor) (zYf a (!kOk t.kind) (by omega)) ?_
   try simp (maxSteps := 2000000) only [go_sem]
   repeat with_reducible refine zAd ?_
   obtain ⟨b1, hb1⟩ : ∃ b1, b1 = a.add (fK (!kOk t.kind)) := ⟨_, rfl⟩
   have l1 : b1.le (K' + 1) := by rw [hb1]; exact ha.le_add (yEg _)
   rw [← hb1]
   have a2 := l1.f
   apply zAG (h2 := fun _ => zQQ t.name)
   ·(simp (maxSteps := 2000000) only [go_sem]; rfl)
   ·intro h; repeat' (first | exact trivial | exact h | refine And.intro ?_ ?_)
   try simp (maxSteps := 2000000) only [go_sem]
   repeat with_reducible refine zAd ?_
   refine zB6 (by repeat' constructor) (zMh b1 _ (by omega)) ?_
   try simp (maxSteps := 2000000) only [go_sem, Bool.cond_false_right, Bool.cond_true_left]
   repeat with_reducible refine zAd ?_
   obtain ⟨b2, hb2⟩ : ∃ b2, b2 = b1.add (fF (yB3 t)) := ⟨_, rfl⟩
   have l2 : b2.le (K' + 1 + 1) := by rw [hb2]; exact l1.le_add (zVa _)
   unfold yB3 at hb2
   rw [← hb2]
   have a3 := l2.f
   apply zAG (h2 := fun _ => zW7 t.value)
   ·(simp (maxSteps := 2000000) only [go_sem]; rfl)
   ·intro h; repeat' (first | exact trivial | exact h | refine And.intro ?_ ?_)
   try simp (maxSteps := 2000000) only [go_sem]
   repeat with_reducible refine zAd ?_
   refine zB6 (by repeat' constructor) (zMh b2 _ (by omega)) ?_
   try simp (maxSteps := 2000000) only [go_sem, Bool.cond_false_right, Bool.cond_true_left]
   repeat with_reducible refine zAd ?_
   obtain ⟨b3, hb3⟩ : ∃ b3, b3 = b2.add (fF (yB4 t)) := ⟨_, rfl⟩
   have l3 : b3.le (K' + 1 + 1 + 1) := by rw [hb3]; exact l2.le_add (zVa _)
   unfold yB4 at hb3
   rw [← hb3]
   have a4 := l3.f
   have e3 : decide (0 < (t.list.length : Int)) = decide (0 < t.list.length) := decide_eq_decide.2 (by omega)
   refine zB6 (by repeat' constructor) (zMh b3 _ (by omega)) ?_
   try simp (maxSteps := 2000000) only [go_sem, Bool.cond_false_right, Bool.cond_true_left, e3]
   repeat with_reducible refine zAd ?_
   obtain ⟨b4, hb4⟩ : ∃ b4, b4 = b3.add (fF (yBg t)) := ⟨_, rfl⟩
   have l4 : b4.le (K' + 1 + 1 + 1 + 1) := by rw [hb4]; exact l3.le_add (zVa _)
   unfold yBg at hb4
   rw [← hb4]
   have a5 := l4.r
   refine zAh (by repeat' constructor) (zN5 t.na t.nb) ?_
   try simp (maxSteps := 2000000) only [go_sem]
   repeat with_reducible refine zAd ?_
   refine zB6 (by repeat' constructor) (yCi b4 _ (by omega)) ?_
   try simp (maxSteps := 2000000) only [go_sem]
   repeat with_reducible refine zAd ?_
   obtain ⟨b5, hb5⟩ : ∃ b5, b5 = b4.add (fR (zI7 t.na t.nb != 0)) := ⟨_, rfl⟩
   have l5 : b5.le (K' + 1 + 1 + 1 + 1 + 1) := by rw [hb5]; exact l4.le_add (yF3 _)
   rw [← hb5]
   have hT : b5 = a.add (yBl t) := by
    rw [hb5, hb4, hb3, hb2, hb1]
    simp only [yBl, kOk, yB3, yB4, yBg, Fd.add_assoc]
    congr 6
   refine zAa (by rfl) trivial (fun h3 => ?_) (fun h3 => ?_)
   ·rw [if_pos h3, ← Fd.add_assoc, ← Fd.add_assoc] at hsum
    have hst := ih.1 t.list (d + 1) (K' + 5) b5 hsz (by omega) l5 (by omega)
    unfold fdV zBu at hst
    rw [show ((d + 1 : Nat) : Int) = (d : Int) + 1 by omega] at hst
    try simp (maxSteps := 2000000) only [go_sem]
    repeat with_reducible refine zAd ?_
    refine zB6 (by repeat' constructor) (hst) ?_
    try simp (maxSteps := 2000000) only [go_sem]
    repeat with_reducible refine zAd ?_
    refine ⟨(i + 1, b5.add (ntL t.list (d + 1))), by simp only; omega, ⟨by simp only; omega, ⟨K' + 5 + bd (d + 1), l5.le_add (b_L _ _), by simp only; omega⟩, ?_⟩, ?_⟩
    ·simp only
     rw [← hsum, hT]
     rfl
    ·simp (maxSteps := 2000000) only [go_sem, zAe, zAj, zAt, zAc]
     all_goals (repeat' (first | exact trivial | exact zAg (by omega) | exact zAf rfl | exact zAr rfl | exact zAk | exact le_refl _ | refine And.intro ?_ ?_))
   ·rw [if_neg (by rw [h3]; simp)] at hsum
    try simp (maxSteps := 2000000) only [go_sem]
    repeat with_reducible refine zAd ?_
    refine ⟨(i + 1, b5), by simp only; omega, ⟨by simp only; omega, ⟨K' + 5, l5, by simp only; omega⟩, ?_⟩, ?_⟩
    ·simp only
     rw [← hsum, hT]
     simp only [yBl, Fd.add_assoc, Fd.zero_add]
    ·simp (maxSteps := 2000000) only [go_sem, zAe, zAj, zAt, zAc]
     all_goals (repeat' (first | exact trivial | exact zAg (by omega) | exact zAf rfl | exact zAr rfl | exact zAk | exact le_refl _ | refine And.intro ?_ ?_))
  ·have hil : i = s.tests.length := by simp at h2; omega
   subst hil
   rw [List.drop_length] at hsum
   try simp (maxSteps := 2000000) only [go_sem]
   repeat with_reducible refine zAd ?_
   rw [← hsum]
   exact zB3 rfl rfl
theorem zGo (l : List Pt) : 0 < SizeOf.sizeOf l := by cases l <;> simp <;> omega
theorem yAV (s : St) : 0 < SizeOf.sizeOf s := by cases s; simp only [St.mk.sizeOf_spec]; omega
theorem zS5 : ∀ N, yHs Tryz.prog N
 | 0 => ⟨fun l d K c h => by have := zGo l; omega, fun s d K c h => by have := yAV s; omega⟩
 | N + 1 => ⟨fun l d K c h1 h2 h3 h4 => yAT N (zS5 N) l d K c h1 h2 h3 h4, fun s d K c h1 h2 h3 h4 => yAU N (zS5 N) s d K c h1 h2 h3 h4⟩
theorem zLd (l : List Pt) : Contract Tryz.prog zBj [.io (fdV fd0), .val (zBu l), .val (iv 1)] { res := .tup [], io := fdV (ntL l 1) } := by
 have h := (zS5 (SizeOf.sizeOf l)).1 l 1 0 fd0 (Nat.le_refl _) (by omega) (zVb 0) (by have := yF2; omega)
 rw [Fd.zero_add] at h
 exact h
theorem zCR (l : List Pt) : Contract Tryz.prog zBQ [.val (zBu l)] { res := .val (iv (zBt l)) } := by
 rw [← yF1]
 have hc := zLd l
 obtain ⟨c, hcc⟩ : ∃ c, c = ntL l 1 := ⟨_, rfl⟩
 rw [← hcc] at hc ⊢
 unfold zBu
 refine zR5 (base := 0) ⟨Nat.le_of_ble_eq_true rfl, Nat.le_of_ble_eq_true rfl, Nat.le_of_ble_eq_true rfl, rfl⟩ (fun hfit => ?_)
 unfold F0 zEP
 simp (maxSteps := 2000000) only [zAN, List.set_cons_succ, List.set_cons_zero, List.map_cons, List.map_nil, zAM, zAb, ioOf, List.length_cons, List.length_nil, Nat.reduceAdd, Nat.reduceSub, List.replicate, List.cons_append, List.nil_append]
 try simp (maxSteps := 2000000) only [go_sem]
 repeat with_reducible refine zAd ?_
 unfold fdV zBu at hc
 refine zB6 (by repeat' constructor) (hc) ?_
 try simp (maxSteps := 2000000) only [go_sem]
 repeat with_reducible refine zAd ?_
 refine zAh (by repeat' constructor) (zVl) ?_
 try simp (maxSteps := 2000000) only [go_sem]
 repeat with_reducible refine zAd ?_
 refine zAo (fun i : Nat => [(5, .un), (12, .pv (iv i)), (13, .un), (21, .un)]) (fun i : Nat => 4 - i) (fun i : Nat => i ≤ 4 ∧ (1 ≤ i → c.m = 0) ∧ (2 ≤ i → c.k = 0) ∧ (3 ≤ i → c.f = 0) ∧ (4 ≤ i → c.r = 0)) (0) ?_ ⟨by omega, by omega, by omega, by omega, by omega⟩ ?_
 focus (simp (maxSteps := 2000000) only [go_sem, zAe, zAj, zAt, zAc]; all_goals (repeat' (first | exact trivial | exact zAg (by omega) | exact zAf rfl | exact zAr rfl | exact zAk | exact le_refl _ | refine And.intro ?_ ?_)))
 rintro i ⟨hi, h1, h2, h3, h4⟩
 try simp (maxSteps := 2000000) only [go_sem]
 repeat with_reducible refine zAd ?_
 refine zAa (by rfl) trivial (fun h => ?_) (fun h => ?_)
 ·have hlt : i < 4 := by simp at h; omega
  have hcase : i = 0 ∨ i = 1 ∨ i = 2 ∨ i = 3 := by omega
  rcases hcase with rfl | rfl | rfl | rfl
  ·try simp (maxSteps := 2000000) only [go_sem, Int.reduceToNat, Int.toNat_natCast, List.getD_cons_zero, List.getD_cons_succ, PV.norm, Int.cast_ofNat_Int]
   repeat with_reducible refine zAd ?_
   refine zAa (by rfl) trivial (fun h5 => ?_) (fun h5 => ?_)
   ·try simp (maxSteps := 2000000) only [go_sem]
    repeat with_reducible refine zAd ?_
    refine zAl rfl trivial (.inl ?_)
    congr 3
    have h6 : 0 < c.m := by simp at h5; omega
    unfold yEe
    simp [ h6]
   ·try simp (maxSteps := 2000000) only [go_sem]
    repeat with_reducible refine zAd ?_
    have h6 : c.m = 0 := by simp at h5; omega
    refine ⟨1, by omega, ⟨by omega, fun _ => h6, by omega, by omega, by omega⟩, ?_⟩
    simp (maxSteps := 2000000) only [go_sem, zAe, zAj, zAt, zAc]
    all_goals (repeat' (first | exact trivial | exact zAg (by omega) | exact zAf rfl | exact zAr rfl | exact zAk | exact le_refl _ | refine And.intro ?_ ?_))
  ·try simp (maxSteps := 2000000) only [go_sem, Int.reduceToNat, Int.toNat_natCast, List.getD_cons_zero, List.getD_cons_succ, PV.norm, Int.cast_ofNat_Int]
   repeat with_reducible refine zAd ?_
   refine zAa (by rfl) trivial (fun h5 => ?_) (fun h5 => ?_)
   ·try simp (maxSteps := 2000000) only [go_sem]
    repeat with_reducible refine zAd ?_
    refine zAl rfl trivial (.inl ?_)
    congr 3
    have h6 : 0 < c.k := by simp at h5; omega
    unfold yEe
    simp [h1 (by omega),  h6]
   ·try simp (maxSteps := 2000000) only [go_sem]
    repeat with_reducible refine zAd ?_
    have h6 : c.k = 0 := by simp at h5; omega
    refine ⟨2, by omega, ⟨by omega, fun _ => h1 (by omega), fun _ => h6, by omega, by omega⟩, ?_⟩
    simp (maxSteps := 2000000) only [go_sem, zAe, zAj, zAt, zAc]
    all_goals (repeat' (first | exact trivial | exact zAg (by omega) | exact zAf rfl | exact zAr rfl | exact zAk | exact le_refl _ | refine And.intro ?_ ?_))
  ·try simp (maxSteps := 2000000) only [go_sem, Int.reduceToNat, Int.toNat_natCast, List.getD_cons_zero, List.getD_cons_succ, PV.norm, Int.cast_ofNat_Int]
   repeat with_reducible refine zAd ?_
   refine zAa (by rfl) trivial (fun h5 => ?_) (fun h5 => ?_)
   ·try simp (maxSteps := 2000000) only [go_sem]
    repeat with_reducible refine zAd ?_
    refine zAl rfl trivial (.inl ?_)
    congr 3
    have h6 : 0 < c.f := by simp at h5; omega
    unfold yEe
    simp [h1 (by omega), h2 (by omega),  h6]
   ·try simp (maxSteps := 2000000) only [go_sem]
    repeat with_reducible refine zAd ?_
    have h6 : c.f = 0 := by simp at h5; omega
    refine ⟨3, by omega, ⟨by omega, fun _ => h1 (by omega), fun _ => h2 (by omega), fun _ => h6, by omega⟩, ?_⟩
    simp (maxSteps := 2000000) only [go_sem, zAe, zAj, zAt, zAc]
    all_goals (repeat' (first | exact trivial | exact zAg (by omega) | exact zAf rfl | exact zAr rfl | exact zAk | exact le_refl _ | refine And.intro ?_ ?_))
  ·try simp (maxSteps := 2000000) only [go_sem, Int.reduceToNat, Int.toNat_natCast, List.getD_cons_zero, List.getD_cons_succ, PV.norm, Int.cast_ofNat_Int]
   repeat with_reducible refine zAd ?_
   refine zAa (by rfl) trivial (fun h5 => ?_) (fun h5 => ?_)
   ·try simp (maxSteps := 2000000) only [go_sem]
    repeat with_reducible refine zAd ?_
    refine zAl rfl trivial (.inl ?_)
    congr 3
    have h6 : 0 < c.r := by simp at h5; omega
    unfold yEe
    simp [h1 (by omega), h2 (by omega), h3 (by omega),  h6]
   ·try simp (maxSteps := 2000000) only [go_sem]
    repeat with_reducible refine zAd ?_
    have h6 : c.r = 0 := by simp at h5; omega
    refine ⟨4, by omega, ⟨by omega, fun _ => h1 (by omega), fun _ => h2 (by omega), fun _ => h3 (by omega), fun _ => h6⟩, ?_⟩
    simp (maxSteps := 2000000) only [go_sem, zAe, zAj, zAt, zAc]
    all_goals (repeat' (first | exact trivial | exact zAg (by omega) | exact zAf rfl | exact zAr rfl | exact zAk | exact le_refl _ | refine And.intro ?_ ?_))
 ·have hi4 : i = 4 := by simp at h; omega
  try simp (maxSteps := 2000000) only [go_sem]
  repeat with_reducible refine zAd ?_
  refine zAl rfl trivial (.inl ?_)
  congr 3
  unfold yEe
  simp [h1 (by omega), h2 (by omega), h3 (by omega), h4 (by omega)]
end Go.Hx
end

section
set_option maxRecDepth 100000
set_option linter.unusedSimpArgs false
namespace Go.Hx
open Go.Proofs
variable [Glob]
attribute [local go_sem] zAz zAx zAy zAq ndV zAu zAp zBu zBR zBs zAW
attribute [local go_sem] reduceCtorEq Nat.reduceAdd Nat.reduceEqDiff reduceIte Nat.reduceLeDiff Nat.reduceLT Nat.reduceSub
theorem zOl (k : Int) : Contract Tryz.prog zFh [.val (iv k)] { res := .tup [bv (zU8 k), bv (zJw k), bv (yCU k), bv (zEb k)] } := by
 refine zY6 (base := 0) ⟨Nat.le_of_ble_eq_true rfl, Nat.le_of_ble_eq_true rfl, Nat.le_of_ble_eq_true rfl, rfl⟩ (fun hfit => ?_)
 unfold F0 zHI
 simp (maxSteps := 2000000) only [zAN, List.set_cons_succ, List.set_cons_zero, List.map_cons, List.map_nil, zAM, zAb, ioOf, List.length_cons, List.length_nil, Nat.reduceAdd, Nat.reduceSub, List.replicate, List.cons_append, List.nil_append]
 try simp (maxSteps := 2000000) only [go_sem]
 repeat with_reducible refine zAd ?_
 refine zAh (by repeat' constructor) (zBO k 1 8) ?_
 try simp (maxSteps := 2000000) only [go_sem]
 repeat with_reducible refine zAd ?_
 refine zAh (by repeat' constructor) (zBO k 4 8) ?_
 try simp (maxSteps := 2000000) only [go_sem]
 repeat with_reducible refine zAd ?_
 refine zAh (by repeat' constructor) (zBO k 13 15) ?_
 try simp (maxSteps := 2000000) only [go_sem]
 repeat with_reducible refine zAd ?_
 have e : yCU k = (bif k == 9 then true else k == 10) := by
  unfold yCU
  by_cases h1 : k = 9 <;> by_cases h2 : k = 10 <;> simp [h1, h2]
 rw [e]
 exact zCM (by simp) ⟨zA1 rfl trivial (.inl rfl), zA1 rfl trivial (.inl rfl), zA1 rfl trivial (.inl rfl), zA1 rfl trivial (.inl rfl), rfl⟩
theorem zYg (n : Nat) : decide (1 ≤ (n : Int) ∧ (n : Int) ≤ 5) = decide (1 ≤ n ∧ n ≤ 5) := decide_eq_decide.2 (by omega)
theorem yEp (n : Nat) : decide (6 < (n : Int)) = decide (6 < n) := decide_eq_decide.2 (by omega)
theorem yCY (a b : Int) : (a != b) = decide (a ≠ b) := by by_cases h : a = b <;> simp [h]
theorem yHJ : ∀ (N : Nat) (l : List Pt) (d : Nat), SizeOf.sizeOf l ≤ N → d ≤ 4 → Contract Tryz.prog zDy [.val (zBu l), .val (iv d)] { res := .val (bv (tmL l d)) }
 | 0, l, d, hN, _ => by have := zGo l; omega
 | N + 1, l, d, hN, hd => by
  have e3 : decide (3 < (d : Int)) = decide (3 < d) := decide_eq_decide.2 (by omega)
  unfold zBu
  refine zPs (base := 0) ⟨Nat.le_of_ble_eq_true rfl, Nat.le_of_ble_eq_true rfl, Nat.le_of_ble_eq_true rfl, rfl⟩ (fun hfit => ?_)
  unfold F0 zD7
  simp (maxSteps := 2000000) only [zAN, List.set_cons_succ, List.set_cons_zero, List.map_cons, List.map_nil, zAM, zAb, ioOf, List.length_cons, List.length_nil, Nat.reduceAdd, Nat.reduceSub, List.replicate, List.cons_append, List.nil_append]
  try simp (maxSteps := 2000000) only [go_sem]
  repeat with_reducible refine zAd ?_
  apply zAG (h2 := fun _ => zBO l.length 1 5)
  ·(simp (maxSteps := 2000000) only [go_sem]; rfl)
  ·intro h; repeat' (first | exact trivial | exact h | refine And.intro ?_ ?_)
  try simp (maxSteps := 2000000) only [go_sem, zYg, e3, Bool.cond_true_left]
  repeat with_reducible refine zAd ?_
  refine zAa (by rfl) trivial (fun h => ?_) (fun h => ?_)
  ·try simp (maxSteps := 2000000) only [go_sem]
   repeat with_reducible refine zAd ?_
   refine zAl rfl trivial (.inl ?_)
   congr 3
   unfold tmL
   rw [h]; rfl
  ·have hL : tmL l d = yAu l d := by unfold tmL; rw [h]; rfl
   have hd3 : d ≤ 3 ∧ l.length ≤ 5 := by
    simp at h; omega
   try simp (maxSteps := 2000000) only [go_sem]
   repeat with_reducible refine zAd ?_
   refine zAo (fun i : Nat => [(5, .pv (iv i)), (4, .un), (6, .un), (7, .un), (8, .un), (9, .un), (13, .un), (25, .un), (46, .un), (51, .un), (61, .un), (70, .un), (97, .un)]) (fun i : Nat => l.length - i) (fun i : Nat => i ≤ l.length ∧ yAu (l.drop i) d = tmL l d) (0) ?_ ⟨Nat.zero_le _, by rw [hL]; rfl⟩ ?_
   focus (simp (maxSteps := 2000000) only [go_sem, zAe, zAj, zAt, zAc]; all_goals (repeat' (first | exact trivial | exact zAg (by omega) | exact zAf rfl | exact zAr rfl | exact zAk | exact le_refl _ | refine And.intro ?_ ?_)))
   rintro i ⟨hi, hinv⟩
   try simp (maxSteps := 2000000) only [go_sem]
   repeat with_reducible refine zAd ?_
   refine zAa (by rfl) trivial (fun h2 => ?_) (fun h2 => ?_)
   ·have hil : i < l.length := by simp at h2; omega
    rw [zAX (d := default) hil] at hinv
    obtain ⟨p, hp⟩ : ∃ p, p = l.getD i default := ⟨_, rfl⟩
    rw [← hp] at hinv
    have hg : (zF2 l).getD i [] = [.sl 2 (zK9 p.steps), .sl 1 (zEZ p.links)] := by rw [zBC l i hil, ← hp, zA3]
    have hsz : SizeOf.sizeOf p.steps ≤ N := by
     have h3 := zGG p
     have h4 := zZd hil
     rw [← hp] at h4
     omega
    simp only [yAu] at hinv
    have hps : tmP p d = (!(decide (1 ≤ p.steps.length ∧ p.steps.length ≤ 5)) || decide ((p.links.length : Int) ≠ p.steps.length - 1) || yAv p.steps d) := by cases p; rfl
    have hin : (!decide (1 ≤ p.steps.length ∧ p.steps.length ≤ 5)) = false → inR .i64 ((p.steps.length : Int) - 1) := by
     intro h5
     have : 1 ≤ p.steps.length ∧ p.steps.length ≤ 5 := by simpa using h5
     exact zGg (by omega) (by omega)
    try simp (maxSteps := 2000000) only [go_sem, hg]
    repeat with_reducible refine zAd ?_
    refine zAh (by repeat' constructor) (zBO p.steps.length 1 5) ?_
    try simp (maxSteps := 2000000) only [go_sem, zYg, Bool.cond_true_left, yCY]
    repeat with_reducible refine zAd ?_
    refine zAa (by rfl) trivial (fun h3 => ?_) (fun h3 => ?_)
    ·try simp (maxSteps := 2000000) only [go_sem]
     repeat with_reducible refine zAd ?_
     refine zAl rfl trivial (.inl ?_)
     congr 3
     rw [← hinv, hps, h3]; rfl
    ·have hp5 : p.steps.length ≤ 5 := by simp at h3; omega
     rw [h3, Bool.false_or] at hps
     try simp (maxSteps := 2000000) only [go_sem]
     repeat with_reducible refine zAd ?_
     refine zAo (fun k : Nat => [(7, .pv (iv k)), (4, .un), (8, .un), (9, .un), (13, .un), (51, .un), (61, .un), (70, .un), (97, .un)]) (fun k : Nat => p.steps.length - k) (fun k : Nat => k ≤ p.steps.length ∧ yAv (p.steps.drop k) d = yAv p.steps d) (0) ?_ ⟨Nat.zero_le _, rfl⟩ ?_
     focus (simp (maxSteps := 2000000) only [go_sem, zAe, zAj, zAt, zAc]; all_goals (repeat' (first | exact trivial | exact zAg (by omega) | exact zAf rfl | exact zAr rfl | exact zAk | exact le_refl _ | refine And.intro ?_ ?_)))
     rintro k ⟨hk, hinv2⟩
     try simp (maxSteps := 2000000) only [go_sem]
     repeat with_reducible refine zAd ?_
     refine zAa (by rfl) trivial (fun h4 => ?_) (fun h4 => ?_)
     ·have hkl : k < p.steps.length := by simp at h4; omega
      rw [zAX (d := default) hkl] at hinv2
      obtain ⟨q, hq⟩ : ∃ q, q = p.steps.getD k default := ⟨_, rfl⟩
      rw [← hq] at hinv2
      have hg3 : (zK9 p.steps).getD k [] = [bS q.tag, .sl 6 (zSX q.tests)] := by rw [zDc _ k hkl, ← hq, zBK]
      simp only [yAv] at hinv2
      have hqs : tmS q d = (decide (6 < q.tests.length) || yAw q.tests d) := by cases q; rfl
      try simp (maxSteps := 2000000) only [go_sem, hg3, yEp]
      repeat with_reducible refine zAd ?_
      refine zAa (by rfl) trivial (fun h5 => ?_) (fun h5 => ?_)
      ·try simp (maxSteps := 2000000) only [go_sem]
       repeat with_reducible refine zAd ?_
       refine zAl rfl trivial (.inl ?_)
       congr 3
       rw [← hinv, hps, ← hinv2, hqs, h5]; rfl
      ·have hq6 : q.tests.length ≤ 6 := by simpa using h5
       rw [h5, Bool.false_or] at hqs
       try simp (maxSteps := 2000000) only [go_sem]
       repeat with_reducible refine zAd ?_
       refine zAo (fun j : Nat => [(8, .pv (iv j)), (4, .un), (9, .un), (13, .un), (70, .un), (97, .un)]) (fun j : Nat => q.tests.length - j) (fun j : Nat => j ≤ q.tests.length ∧ yAw (q.tests.drop j) d = yAw q.tests d) (0) ?_ ⟨Nat.zero_le _, rfl⟩ ?_
       focus (simp (maxSteps := 2000000) only [go_sem, zAe, zAj, zAt, zAc]; all_goals (repeat' (first | exact trivial | exact zAg (by omega) | exact zAf rfl | exact zAr rfl | exact zAk | exact le_refl _ | refine And.intro ?_ ?_)))
       rintro j ⟨hj, hinv3⟩
       try simp (maxSteps := 2000000) only [go_sem, hg3]
       repeat with_reducible refine zAd ?_
       refine zAa (by rfl) trivial (fun h6 => ?_) (fun h6 => ?_)
       ·have hjl : j < q.tests.length := by simp at h6; omega
        rw [zAX (d := default) hjl] at hinv3
        obtain ⟨t, ht⟩ : ∃ t, t = q.tests.getD j default := ⟨_, rfl⟩
        rw [← ht] at hinv3
        have hg4 := zCr q.tests j hjl
        rw [← ht, zCg] at hg4
        have hszt : SizeOf.sizeOf t.list ≤ N := by
         have h7 := zI6 t
         have h8 := zZb hjl
         rw [← ht] at h8
         have h9 := zZc hkl
         rw [← hq] at h9
         have h10 := zGF q
         omega
        simp only [yAw] at hinv3
        have hts : tmT t d = (zEb t.kind && tmL t.list (d + 1)) := by cases t; rfl
        have hrec := yHJ N t.list (d + 1) hszt (by omega)
        unfold zBu at hrec
        rw [show ((d + 1 : Nat) : Int) = (d : Int) + 1 by omega] at hrec
        try simp (maxSteps := 2000000) only [go_sem, hg3, hg4]
        repeat with_reducible refine zAd ?_
        refine zAR (by repeat' constructor) (zOl t.kind) ?_
        try simp (maxSteps := 2000000) only [go_sem]
        repeat with_reducible refine zAd ?_
        apply zAG (h2 := fun _ => hrec)
        ·(simp (maxSteps := 2000000) only [go_sem]; rfl)
        ·intro h; repeat' (first | exact trivial | exact h | refine And.intro ?_ ?_)
        try simp (maxSteps := 2000000) only [go_sem, Bool.cond_false_right]
        repeat with_reducible refine zAd ?_
        refine zAa (by rfl) trivial (fun h7 => ?_) (fun h7 => ?_)
        ·try simp (maxSteps := 2000000) only [go_sem]
         repeat with_reducible refine zAd ?_
         refine zAl rfl trivial (.inl ?_)
         congr 3
         rw [← hinv, hps, ← hinv2, hqs, ← hinv3, hts, h7]; rfl
        ·rw [h7] at hts
         rw [hts, Bool.false_or] at hinv3
         try simp (maxSteps := 2000000) only [go_sem]
         repeat with_reducible refine zAd ?_
         refine ⟨j + 1, by omega, ⟨by omega, hinv3⟩, ?_⟩
         simp (maxSteps := 2000000) only [go_sem, zAe, zAj, zAt, zAc]
         all_goals (repeat' (first | exact trivial | exact zAg (by omega) | exact zAf rfl | exact zAr rfl | exact zAk | exact le_refl _ | refine And.intro ?_ ?_))
       ·have hjl : j = q.tests.length := by simp at h6; omega
        subst hjl
        rw [List.drop_length] at hinv3
        rw [hqs, ← hinv3] at hinv2
        try simp (maxSteps := 2000000) only [go_sem]
        repeat with_reducible refine zAd ?_
        refine ⟨k + 1, by omega, ⟨by omega, hinv2⟩, ?_⟩
        simp (maxSteps := 2000000) only [go_sem, zAe, zAj, zAt, zAc]
        all_goals (repeat' (first | exact trivial | exact zAg (by omega) | exact zAf rfl | exact zAr rfl | exact zAk | exact le_refl _ | refine And.intro ?_ ?_))
     ·have hkl : k = p.steps.length := by simp at h4; omega
      subst hkl
      rw [List.drop_length] at hinv2
      rw [hps, ← hinv2] at hinv
      try simp (maxSteps := 2000000) only [go_sem]
      repeat with_reducible refine zAd ?_
      refine ⟨i + 1, by omega, ⟨by omega, hinv⟩, ?_⟩
      simp (maxSteps := 2000000) only [go_sem, zAe, zAj, zAt, zAc]
      all_goals (repeat' (first | exact trivial | exact zAg (by omega) | exact zAf rfl | exact zAr rfl | exact zAk | exact le_refl _ | refine And.intro ?_ ?_))
   ·have hil : i = l.length := by simp at h2; omega
    subst hil
    rw [List.drop_length] at hinv
    try simp (maxSteps := 2000000) only [go_sem]
    repeat with_reducible refine zAd ?_
    refine zAl rfl trivial (.inl ?_)
    congr 3
    rw [← hinv]; rfl
end Go.Hx
end

section
set_option maxRecDepth 100000
set_option linter.unusedSimpArgs false
namespace Go.Hx
open Go.Proofs
variable [Glob]
attribute [local go_sem] zAz zAx zAy zAq ndV zAu zAp zBu zBR zBs zAW
attribute [local go_sem] reduceCtorEq Nat.reduceAdd Nat.reduceEqDiff reduceIte Nat.reduceLeDiff Nat.reduceLT Nat.reduceSub
theorem zMi {k : Nat} {rows : List (List PV)} (h : PV.fits (.sl k rows)) : rows.length ≤ 9223372036854775807 := by
 simp only [PV.fits] at h; exact h.1
theorem zVq : ∀ {rows : List (List PV)} {i : Nat}, zOS rows → i < rows.length → zGK (rows.getD i [])
 | [], i, _, h => by simp at h
 | r :: rs, 0, h, _ => by simp only [zOS] at h; exact h.1
 | r :: rs, i + 1, h, hi => by simp only [zOS] at h; simpa using zVq (rows := rs) (i := i) h.2 (by simpa using hi)
theorem zYh {k : Nat} {rows : List (List PV)} {i : Nat} (h : PV.fits (.sl k rows)) (hi : i < rows.length) : zGK (rows.getD i []) := by
 simp only [PV.fits] at h; exact zVq h.2 hi
theorem zXj {x : PV} {r : List AV} (h : AVs.fits (.val (.one x) :: r)) : PV.fits x := by
 simp only [AVs.fits] at h; exact h.1
theorem zTc {l : List Pt} {i : Nat} (h : PV.fits (.sl 2 (zF2 l))) (hi : i < l.length) : PV.fits (.sl 2 (zK9 (l.getD i default).steps)) ∧ PV.fits (.sl 1 (zEZ (l.getD i default).links)) := by
 have h1 := zYh h (i := i) (by rw [zBR]; exact hi)
 rw [zBC l i hi, zA3] at h1
 simp only [zGK] at h1
 exact ⟨h1.1, h1.2.1⟩
theorem zTd {l : List St} {i : Nat} (h : PV.fits (.sl 2 (zK9 l))) (hi : i < l.length) : PV.fits (.sl 6 (zSX (l.getD i default).tests)) := by
 have h1 := zYh h (i := i) (by rw [zBs]; exact hi)
 rw [zDc l i hi, zBK] at h1
 simp only [zGK] at h1
 exact h1.2.1
theorem zTe {l : List Pt} (h : PV.fits (.sl 2 (zF2 l))) : l.length ≤ 9223372036854775807 := by have := zMi h; rwa [zBR] at this
theorem zHR {l : List St} (h : PV.fits (.sl 2 (zK9 l))) : l.length ≤ 9223372036854775807 := by have := zMi h; rwa [zBs] at this
theorem zTf {l : List Ts} (h : PV.fits (.sl 6 (zSX l))) : l.length ≤ 9223372036854775807 := by have := zMi h; rwa [zAW] at this
theorem yEq {l : List Int} (h : PV.fits (.sl 1 (zEZ l))) : l.length ≤ 9223372036854775807 := by have := zMi h; rwa [zAq] at this
theorem yHK : ∀ (N : Nat) (l : List Pt), SizeOf.sizeOf l ≤ N → Contract Tryz.prog zDx [.val (zBu l)] { res := .val (bv (zZe l)) }
 | 0, l, hN => by have := zGo l; omega
 | N + 1, l, hN => by
  unfold zBu
  refine zPD (base := 0) ⟨Nat.le_of_ble_eq_true rfl, Nat.le_of_ble_eq_true rfl, Nat.le_of_ble_eq_true rfl, rfl⟩ (fun hfit => ?_)
  unfold F0 zD8
  simp (maxSteps := 2000000) only [zAN, List.set_cons_succ, List.set_cons_zero, List.map_cons, List.map_nil, zAM, zAb, ioOf, List.length_cons, List.length_nil, Nat.reduceAdd, Nat.reduceSub, List.replicate, List.cons_append, List.nil_append]
  try simp (maxSteps := 2000000) only [go_sem]
  repeat with_reducible refine zAd ?_
  have ft := zXj hfit
  have fl := zTe ft
  refine zAo (fun i : Nat => [(3, .pv (iv i)), (2, .un), (4, .un), (5, .un), (6, .un), (7, .un), (11, .un), (15, .un), (25, .un), (37, .un), (45, .un), (59, .un), (93, .un)]) (fun i : Nat => l.length - i) (fun i : Nat => i ≤ l.length ∧ zZe (l.drop i) = zZe l) (0) ?_ ⟨Nat.zero_le _, rfl⟩ ?_
  focus (simp (maxSteps := 2000000) only [go_sem, zAe, zAj, zAt, zAc]; all_goals (repeat' (first | exact trivial | exact zAg (by omega) | exact zAf rfl | exact zAr rfl | exact zAk | exact le_refl _ | refine And.intro ?_ ?_)))
  rintro i ⟨hi, hinv⟩
  try simp (maxSteps := 2000000) only [go_sem]
  repeat with_reducible refine zAd ?_
  refine zAa (by rfl) trivial (fun h2 => ?_) (fun h2 => ?_)
  ·have hil : i < l.length := by simp at h2; omega
   have fp := zTc ft hil
   rw [zAX (d := default) hil] at hinv
   obtain ⟨p, hp⟩ : ∃ p, p = l.getD i default := ⟨_, rfl⟩
   rw [← hp] at hinv fp
   have fps := zHR fp.1
   have fpl := yEq fp.2
   have hg : (zF2 l).getD i [] = [.sl 2 (zK9 p.steps), .sl 1 (zEZ p.links)] := by rw [zBC l i hil, ← hp, zA3]
   have hsz : SizeOf.sizeOf p.steps ≤ N := by
    have h3 := zGG p
    have h4 := zZd hil
    rw [← hp] at h4
    omega
   simp only [zZe] at hinv
   have hps : bkP p = (p.links.any zLb || yAx p.steps) := by cases p; rfl
   try simp (maxSteps := 2000000) only [go_sem]
   repeat with_reducible refine zAd ?_
   refine zAo (fun k : Nat => [(4, .pv (iv k)), (2, .un), (25, .un), (37, .un)]) (fun k : Nat => p.links.length - k) (fun k : Nat => k ≤ p.links.length ∧ (p.links.drop k).any zLb = p.links.any zLb) (0) ?_ ⟨Nat.zero_le _, rfl⟩ ?_
   focus (simp (maxSteps := 2000000) only [go_sem, zAe, zAj, zAt, zAc]; all_goals (repeat' (first | exact trivial | exact zAg (by omega) | exact zAf rfl | exact zAr rfl | exact zAk | exact le_refl _ | refine And.intro ?_ ?_)))
   rintro k ⟨hk, hinv2⟩
   try simp (maxSteps := 2000000) only [go_sem, hg]
   repeat with_reducible refine zAd ?_
   refine zAa (by rfl) trivial (fun h3 => ?_) (fun h3 => ?_)
   ·have hkl : k < p.links.length := by simp at h3; omega
    rw [zAX (d := 0) hkl] at hinv2
    have hg2 := zGf p.links k hkl
    obtain ⟨v, hv⟩ : ∃ v, v = p.links.getD k 0 := ⟨_, rfl⟩
    rw [← hv] at hg2 hinv2
    rw [List.any_cons] at hinv2
    try simp (maxSteps := 2000000) only [go_sem, hg, hg2]
    repeat with_reducible refine zAd ?_
    refine zAh (by repeat' constructor) (zBO v 1 4) ?_
    try simp (maxSteps := 2000000) only [go_sem]
    repeat with_reducible refine zAd ?_
    refine zAa (by rfl) trivial (fun h4 => ?_) (fun h4 => ?_)
    ·try simp (maxSteps := 2000000) only [go_sem]
     repeat with_reducible refine zAd ?_
     refine zAl rfl trivial (.inl ?_)
     congr 3
     have h5 : zLb v = true := h4
     rw [← hinv, hps, ← hinv2, h5]; rfl
    ·have h5 : zLb v = false := h4
     rw [h5, Bool.false_or] at hinv2
     try simp (maxSteps := 2000000) only [go_sem]
     repeat with_reducible refine zAd ?_
     refine ⟨k + 1, by omega, ⟨by omega, hinv2⟩, ?_⟩
     simp (maxSteps := 2000000) only [go_sem, zAe, zAj, zAt, zAc]
     all_goals (repeat' (first | exact trivial | exact zAg (by omega) | exact zAf rfl | exact zAr rfl | exact zAk | exact le_refl _ | refine And.intro ?_ ?_))
   ·have hkl : k = p.links.length := by simp at h3; omega
    subst hkl
    rw [List.drop_length] at hinv2
    rw [← hinv2] at hps
    have hps : bkP p = yAx p.steps := hps
    try simp (maxSteps := 2000000) only [go_sem]
    repeat with_reducible refine zAd ?_
    refine zAo (fun k : Nat => [(5, .pv (iv k)), (2, .un), (6, .un), (7, .un), (11, .un), (45, .un), (59, .un), (93, .un)]) (fun k : Nat => p.steps.length - k) (fun k : Nat => k ≤ p.steps.length ∧ yAx (p.steps.drop k) = yAx p.steps) (0) ?_ ⟨Nat.zero_le _, rfl⟩ ?_
    focus (simp (maxSteps := 2000000) only [go_sem, zAe, zAj, zAt, zAc]; all_goals (repeat' (first | exact trivial | exact zAg (by omega) | exact zAf rfl | exact zAr rfl | exact zAk | exact le_refl _ | refine And.intro ?_ ?_)))
    rintro k ⟨hk, hinv2⟩
    try simp (maxSteps := 2000000) only [go_sem, hg]
    repeat with_reducible refine zAd ?_
    refine zAa (by rfl) trivial (fun h4 => ?_) (fun h4 => ?_)
    ·have hkl : k < p.steps.length := by simp at h4; omega
     have fq := zTd fp.1 hkl
     rw [zAX (d := default) hkl] at hinv2
     obtain ⟨q, hq⟩ : ∃ q, q = p.steps.getD k default := ⟨_, rfl⟩
     rw [← hq] at hinv2 fq
     have fqt := zTf fq
     have hg3 : (zK9 p.steps).getD k [] = [bS q.tag, .sl 6 (zSX q.tests)] := by rw [zDc _ k hkl, ← hq, zBK]
     simp only [yAx] at hinv2
     have hqs : bkS q = yBf q.tests := by cases q; rfl
     try simp (maxSteps := 2000000) only [go_sem, hg, hg3]
     repeat with_reducible refine zAd ?_
     refine zAo (fun j : Nat => [(6, .pv (iv j)), (2, .un), (7, .un), (11, .un), (59, .un), (93, .un)]) (fun j : Nat => q.tests.length - j) (fun j : Nat => j ≤ q.tests.length ∧ yBf (q.tests.drop j) = yBf q.tests) (0) ?_ ⟨Nat.zero_le _, rfl⟩ ?_
     focus (simp (maxSteps := 2000000) only [go_sem, zAe, zAj, zAt, zAc]; all_goals (repeat' (first | exact trivial | exact zAg (by omega) | exact zAf rfl | exact zAr rfl | exact zAk | exact le_refl _ | refine And.intro ?_ ?_)))
     rintro j ⟨hj, hinv3⟩
     try simp (maxSteps := 2000000) only [go_sem, hg, hg3]
     repeat with_reducible refine zAd ?_
     refine zAa (by rfl) trivial (fun h6 => ?_) (fun h6 => ?_)
     ·have hjl : j < q.tests.length := by simp at h6; omega
      rw [zAX (d := default) hjl] at hinv3
      obtain ⟨t, ht⟩ : ∃ t, t = q.tests.getD j default := ⟨_, rfl⟩
      rw [← ht] at hinv3
      have hg4 := zCr q.tests j hjl
      rw [← ht, zCg] at hg4
      have hszt : SizeOf.sizeOf t.list ≤ N := by
       have h7 := zI6 t
       have h8 := zZb hjl
       rw [← ht] at h8
       have h9 := zZc hkl
       rw [← hq] at h9
       have h10 := zGF q
       omega
      simp only [yBf] at hinv3
      have hts : bkT t = (!(decide (1 ≤ t.kind ∧ t.kind ≤ 15)) || (zEb t.kind && zZe t.list)) := by cases t; rfl
      have hrec := yHK N t.list hszt
      unfold zBu at hrec
      try simp (maxSteps := 2000000) only [go_sem, hg, hg3, hg4]
      repeat with_reducible refine zAd ?_
      refine zAR (by repeat' constructor) (zOl t.kind) ?_
      try simp (maxSteps := 2000000) only [go_sem]
      repeat with_reducible refine zAd ?_
      refine zAh (by repeat' constructor) (zBO t.kind 1 15) ?_
      try simp (maxSteps := 2000000) only [go_sem]
      repeat with_reducible refine zAd ?_
      apply zAG (h2 := fun _ => hrec)
      ·(simp (maxSteps := 2000000) only [go_sem]; rfl)
      ·intro h; repeat' (first | exact trivial | exact h | refine And.intro ?_ ?_)
      try simp (maxSteps := 2000000) only [go_sem, Bool.cond_false_right, Bool.cond_true_left]
      repeat with_reducible refine zAd ?_
      refine zAa (by rfl) trivial (fun h7 => ?_) (fun h7 => ?_)
      ·try simp (maxSteps := 2000000) only [go_sem]
       repeat with_reducible refine zAd ?_
       refine zAl rfl trivial (.inl ?_)
       congr 3
       rw [← hinv, hps, ← hinv2, hqs, ← hinv3, hts, h7]; rfl
      ·rw [h7] at hts
       rw [hts, Bool.false_or] at hinv3
       try simp (maxSteps := 2000000) only [go_sem]
       repeat with_reducible refine zAd ?_
       refine ⟨j + 1, by omega, ⟨by omega, hinv3⟩, ?_⟩
       simp (maxSteps := 2000000) only [go_sem, zAe, zAj, zAt, zAc]
       all_goals (repeat' (first | exact trivial | exact zAg (by omega) | exact zAf rfl | exact zAr rfl | exact zAk | exact le_refl _ | refine And.intro ?_ ?_))
     ·have hjl : j = q.tests.length := by simp at h6; omega
      subst hjl
      rw [List.drop_length] at hinv3
      rw [hqs, ← hinv3] at hinv2
      try simp (maxSteps := 2000000) only [go_sem]
      repeat with_reducible refine zAd ?_
      refine ⟨k + 1, by omega, ⟨by omega, hinv2⟩, ?_⟩
      simp (maxSteps := 2000000) only [go_sem, zAe, zAj, zAt, zAc]
      all_goals (repeat' (first | exact trivial | exact zAg (by omega) | exact zAf rfl | exact zAr rfl | exact zAk | exact le_refl _ | refine And.intro ?_ ?_))
    ·have hkl : k = p.steps.length := by simp at h4; omega
     subst hkl
     rw [List.drop_length] at hinv2
     rw [hps, ← hinv2] at hinv
     try simp (maxSteps := 2000000) only [go_sem]
     repeat with_reducible refine zAd ?_
     refine ⟨i + 1, by omega, ⟨by omega, hinv⟩, ?_⟩
     simp (maxSteps := 2000000) only [go_sem, zAe, zAj, zAt, zAc]
     all_goals (repeat' (first | exact trivial | exact zAg (by omega) | exact zAf rfl | exact zAr rfl | exact zAk | exact le_refl _ | refine And.intro ?_ ?_))
  ·have hil : i = l.length := by simp at h2; omega
   subst hil
   rw [List.drop_length] at hinv
   try simp (maxSteps := 2000000) only [go_sem]
   repeat with_reducible refine zAd ?_
   refine zAl rfl trivial (.inl ?_)
   congr 3
   rw [← hinv]; rfl
end Go.Hx
end

section
set_option maxRecDepth 100000
set_option linter.unusedSimpArgs false
set_option maxHeartbeats 2000000
namespace Go.Hx
open Go.Proofs
variable [Glob]
attribute [local go_sem] zAz zAx zAy zAq ndV zAu zAp zBu zBR zBs zAW
attribute [local go_sem] reduceCtorEq Nat.reduceAdd Nat.reduceEqDiff reduceIte Nat.reduceLeDiff Nat.reduceLT Nat.reduceSub
theorem yHL : ∀ (N : Nat) (l : List Pt), SizeOf.sizeOf l ≤ N → Contract Tryz.prog zDw [.val (zBu l)] { res := .val (bv (zZf l)) }
 | 0, l, hN => by have := zGo l; omega
 | N + 1, l, hN => by
  unfold zBu
  refine zPO (base := 0) ⟨Nat.le_of_ble_eq_true rfl, Nat.le_of_ble_eq_true rfl, Nat.le_of_ble_eq_true rfl, rfl⟩ (fun hfit => ?_)
  unfold F0 zD9
  simp (maxSteps := 2000000) only [zAN, List.set_cons_succ, List.set_cons_zero, List.map_cons, List.map_nil, zAM, zAb, ioOf, List.length_cons, List.length_nil, Nat.reduceAdd, Nat.reduceSub, List.replicate, List.cons_append, List.nil_append]
  try simp (maxSteps := 2000000) only [go_sem]
  repeat with_reducible refine zAd ?_
  have ft := zXj hfit
  have fl := zTe ft
  refine zAo (fun i : Nat => [(3, .pv (iv i)), (2, .un), (4, .un), (5, .un), (6, .un), (7, .un), (8, .un), (9, .un), (10, .un), (11, .un), (15, .un), (25, .un), (44, .un), (49, .un), (126, .un)]) (fun i : Nat => l.length - i) (fun i : Nat => i ≤ l.length ∧ zZf (l.drop i) = zZf l) (0) ?_ ⟨Nat.zero_le _, rfl⟩ ?_
  focus (simp (maxSteps := 2000000) only [go_sem, zAe, zAj, zAt, zAc]; all_goals (repeat' (first | exact trivial | exact zAg (by omega) | exact zAf rfl | exact zAr rfl | exact zAk | exact le_refl _ | refine And.intro ?_ ?_)))
  rintro i ⟨hi, hinv⟩
  try simp (maxSteps := 2000000) only [go_sem]
  repeat with_reducible refine zAd ?_
  refine zAa (by rfl) trivial (fun h2 => ?_) (fun h2 => ?_)
  ·have hil : i < l.length := by simp at h2; omega
   have fp := zTc ft hil
   rw [zAX (d := default) hil] at hinv
   obtain ⟨p, hp⟩ : ∃ p, p = l.getD i default := ⟨_, rfl⟩
   rw [← hp] at hinv fp
   have fps := zHR fp.1
   have hg : (zF2 l).getD i [] = [.sl 2 (zK9 p.steps), .sl 1 (zEZ p.links)] := by rw [zBC l i hil, ← hp, zA3]
   have hsz : SizeOf.sizeOf p.steps ≤ N := by
    have h3 := zGG p
    have h4 := zZd hil
    rw [← hp] at h4
    omega
   simp only [zZf] at hinv
   have hps : bfP p = yBh p.steps := by cases p; rfl
   try simp (maxSteps := 2000000) only [go_sem]
   repeat with_reducible refine zAd ?_
   refine zAo (fun k : Nat => [(4, .pv (iv k)), (2, .un), (5, .un), (6, .un), (7, .un), (8, .un), (9, .un), (10, .un), (11, .un), (25, .un), (44, .un), (49, .un), (126, .un)]) (fun k : Nat => p.steps.length - k) (fun k : Nat => k ≤ p.steps.length ∧ yBh (p.steps.drop k) = yBh p.steps) (0) ?_ ⟨Nat.zero_le _, rfl⟩ ?_
   focus (simp (maxSteps := 2000000) only [go_sem, zAe, zAj, zAt, zAc]; all_goals (repeat' (first | exact trivial | exact zAg (by omega) | exact zAf rfl | exact zAr rfl | exact zAk | exact le_refl _ | refine And.intro ?_ ?_)))
   rintro k ⟨hk, hinv2⟩
   try simp (maxSteps := 2000000) only [go_sem, hg]
   repeat with_reducible refine zAd ?_
   refine zAa (by rfl) trivial (fun h4 => ?_) (fun h4 => ?_)
   ·have hkl : k < p.steps.length := by simp at h4; omega
    have fq := zTd fp.1 hkl
    rw [zAX (d := default) hkl] at hinv2
    obtain ⟨q, hq⟩ : ∃ q, q = p.steps.getD k default := ⟨_, rfl⟩
    rw [← hq] at hinv2 fq
    have fqt := zTf fq
    have hg3 : (zK9 p.steps).getD k [] = [bS q.tag, .sl 6 (zSX q.tests)] := by rw [zDc _ k hkl, ← hq, zBK]
    simp only [yBh] at hinv2
    have hqs : bfS q = ((!(q.tag == []) && !zBN q.tag) || yBi q.tests) := by cases q; rfl
    try simp (maxSteps := 2000000) only [go_sem, hg, hg3]
    repeat with_reducible refine zAd ?_
    apply zAG (h2 := fun _ => zJA q.tag)
    ·(simp (maxSteps := 2000000) only [go_sem]; rfl)
    ·intro h; repeat' (first | exact trivial | exact h | refine And.intro ?_ ?_)
    try simp (maxSteps := 2000000) only [go_sem, Bool.cond_false_right]
    repeat with_reducible refine zAd ?_
    refine zAa (by rfl) trivial (fun h5 => ?_) (fun h5 => ?_)
    ·try simp (maxSteps := 2000000) only [go_sem]
     repeat with_reducible refine zAd ?_
     refine zAl rfl trivial (.inl ?_)
     congr 3
     rw [← hinv, hps, ← hinv2, hqs, h5]; rfl
    rw [h5, Bool.false_or] at hqs
    try simp (maxSteps := 2000000) only [go_sem]
    repeat with_reducible refine zAd ?_
    refine zAo (fun j : Nat => [(6, .pv (iv j)), (2, .un), (7, .un), (8, .un), (9, .un), (10, .un), (11, .un), (49, .un), (126, .un)]) (fun j : Nat => q.tests.length - j) (fun j : Nat => j ≤ q.tests.length ∧ yBi (q.tests.drop j) = yBi q.tests) (0) ?_ ⟨Nat.zero_le _, rfl⟩ ?_
    focus (simp (maxSteps := 2000000) only [go_sem, zAe, zAj, zAt, zAc]; all_goals (repeat' (first | exact trivial | exact zAg (by omega) | exact zAf rfl | exact zAr rfl | exact zAk | exact le_refl _ | refine And.intro ?_ ?_)))
    rintro j ⟨hj, hinv3⟩
    try simp (maxSteps := 2000000) only [go_sem, hg, hg3]
    repeat with_reducible refine zAd ?_
    refine zAa (by rfl) trivial (fun h6 => ?_) (fun h6 => ?_)
    ·have hjl : j < q.tests.length := by simp at h6; omega
     rw [zAX (d := default) hjl] at hinv3
     obtain ⟨t, ht⟩ : ∃ t, t = q.tests.getD j default := ⟨_, rfl⟩
     rw [← ht] at hinv3
     have hg4 := zCr q.tests j hjl
     rw [← ht, zCg] at hg4
     have hszt : SizeOf.sizeOf t.list ≤ N := by
      have h7 := zI6 t
      have h8 := zZb hjl
      rw [← ht] at h8
      have h9 := zZc hkl
      rw [← hq] at h9
      have h10 := zGF q
      omega
     simp only [yBi] at hinv3
     have hts : bfT t = ((zU8 t.kind && !zBN t.name) || ((!zU8 t.kind && !(t.name == [])) || ((zJw t.kind && !zCN t.value) || ((!zJw t.kind && !(t.value == [])) || ((!yCU t.kind && !(t.na == 0 && t.nb == 0)) || ((!zEb t.kind && decide (0 < t.list.length)) || (zEb t.kind && zZf t.list))))))) := by
      cases t
      simp only [bfT, yB3, yB4, yBg, Ts.kind, Ts.name, Ts.value, Ts.na, Ts.nb, Ts.list, Bool.or_assoc]
     have e0 : decide (0 < (t.list.length : Int)) = decide (0 < t.list.length) := decide_eq_decide.2 (by omega)
     have hrec := yHL N t.list hszt
     unfold zBu at hrec
     try simp (maxSteps := 2000000) only [go_sem, hg, hg3, hg4]
     repeat with_reducible refine zAd ?_
     refine zAR (by repeat' constructor) (zOl t.kind) ?_
     try simp (maxSteps := 2000000) only [go_sem]
     repeat with_reducible refine zAd ?_
     apply zAG (h2 := fun _ => zJA t.name)
     ·(simp (maxSteps := 2000000) only [go_sem]; rfl)
     ·intro h; repeat' (first | exact trivial | exact h | refine And.intro ?_ ?_)
     try simp (maxSteps := 2000000) only [go_sem]
     repeat with_reducible refine zAd ?_
     apply zAG (h2 := fun _ => zTb t.value)
     ·(simp (maxSteps := 2000000) only [go_sem]; rfl)
     ·intro h; repeat' (first | exact trivial | exact h | refine And.intro ?_ ?_)
     try simp (maxSteps := 2000000) only [go_sem]
     repeat with_reducible refine zAd ?_
     apply zAG (h2 := fun _ => hrec)
     ·(simp (maxSteps := 2000000) only [go_sem]; rfl)
     ·intro h; repeat' (first | exact trivial | exact h | refine And.intro ?_ ?_)
     try simp (maxSteps := 2000000) only [go_sem, Bool.cond_false_right, Bool.cond_true_left, e0, Bool.or_assoc]
     repeat with_reducible refine zAd ?_
     refine zAa (by rfl) trivial (fun h7 => ?_) (fun h7 => ?_)
     ·try simp (maxSteps := 2000000) only [go_sem]
      repeat with_reducible refine zAd ?_
      refine zAl rfl trivial (.inl ?_)
      congr 3
      rw [← hinv, hps, ← hinv2, hqs, ← hinv3, hts, h7]; simp
     ·rw [h7] at hts
      rw [hts, Bool.false_or] at hinv3
      try simp (maxSteps := 2000000) only [go_sem]
      repeat with_reducible refine zAd ?_
      refine ⟨j + 1, by omega, ⟨by omega, hinv3⟩, ?_⟩
      simp (maxSteps := 2000000) only [go_sem, zAe, zAj, zAt, zAc]
      all_goals (repeat' (first | exact trivial | exact zAg (by omega) | exact zAf rfl | exact zAr rfl | exact zAk | exact le_refl _ | refine And.intro ?_ ?_))
    ·have hjl : j = q.tests.length := by simp at h6; omega
     subst hjl
     rw [List.drop_length] at hinv3
     rw [hqs, ← hinv3] at hinv2
     try simp (maxSteps := 2000000) only [go_sem]
     repeat with_reducible refine zAd ?_
     refine ⟨k + 1, by omega, ⟨by omega, hinv2⟩, ?_⟩
     simp (maxSteps := 2000000) only [go_sem, zAe, zAj, zAt, zAc]
     all_goals (repeat' (first | exact trivial | exact zAg (by omega) | exact zAf rfl | exact zAr rfl | exact zAk | exact le_refl _ | refine And.intro ?_ ?_))
   ·have hkl : k = p.steps.length := by simp at h4; omega
    subst hkl
    rw [List.drop_length] at hinv2
    rw [hps, ← hinv2] at hinv
    try simp (maxSteps := 2000000) only [go_sem]
    repeat with_reducible refine zAd ?_
    refine ⟨i + 1, by omega, ⟨by omega, hinv⟩, ?_⟩
    simp (maxSteps := 2000000) only [go_sem, zAe, zAj, zAt, zAc]
    all_goals (repeat' (first | exact trivial | exact zAg (by omega) | exact zAf rfl | exact zAr rfl | exact zAk | exact le_refl _ | refine And.intro ?_ ?_))
  ·have hil : i = l.length := by simp at h2; omega
   subst hil
   rw [List.drop_length] at hinv
   try simp (maxSteps := 2000000) only [go_sem]
   repeat with_reducible refine zAd ?_
   refine zAl rfl trivial (.inl ?_)
   congr 3
   rw [← hinv]; rfl
theorem yHM : ∀ (N : Nat) (l : List Pt), SizeOf.sizeOf l ≤ N → Contract Tryz.prog zD6 [.val (zBu l)] { res := .val (bv (zX2 l)) }
 | 0, l, hN => by have := zGo l; omega
 | N + 1, l, hN => by
  unfold zBu
  refine zSj (base := 0) ⟨Nat.le_of_ble_eq_true rfl, Nat.le_of_ble_eq_true rfl, Nat.le_of_ble_eq_true rfl, rfl⟩ (fun hfit => ?_)
  unfold F0 zEQ
  simp (maxSteps := 2000000) only [zAN, List.set_cons_succ, List.set_cons_zero, List.map_cons, List.map_nil, zAM, zAb, ioOf, List.length_cons, List.length_nil, Nat.reduceAdd, Nat.reduceSub, List.replicate, List.cons_append, List.nil_append]
  try simp (maxSteps := 2000000) only [go_sem]
  repeat with_reducible refine zAd ?_
  have ft := zXj hfit
  have fl := zTe ft
  refine zAo (fun i : Nat => [(3, .pv (iv i)), (2, .un), (4, .un), (5, .un), (6, .un), (10, .un), (20, .un), (34, .un), (57, .un)]) (fun i : Nat => l.length - i) (fun i : Nat => i ≤ l.length ∧ zX2 (l.drop i) = zX2 l) (0) ?_ ⟨Nat.zero_le _, rfl⟩ ?_
  focus (simp (maxSteps := 2000000) only [go_sem, zAe, zAj, zAt, zAc]; all_goals (repeat' (first | exact trivial | exact zAg (by omega) | exact zAf rfl | exact zAr rfl | exact zAk | exact le_refl _ | refine And.intro ?_ ?_)))
  rintro i ⟨hi, hinv⟩
  try simp (maxSteps := 2000000) only [go_sem]
  repeat with_reducible refine zAd ?_
  refine zAa (by rfl) trivial (fun h2 => ?_) (fun h2 => ?_)
  ·have hil : i < l.length := by simp at h2; omega
   have fp := zTc ft hil
   rw [zAX (d := default) hil] at hinv
   obtain ⟨p, hp⟩ : ∃ p, p = l.getD i default := ⟨_, rfl⟩
   rw [← hp] at hinv fp
   have fps := zHR fp.1
   have hg : (zF2 l).getD i [] = [.sl 2 (zK9 p.steps), .sl 1 (zEZ p.links)] := by rw [zBC l i hil, ← hp, zA3]
   have hsz : SizeOf.sizeOf p.steps ≤ N := by
    have h3 := zGG p
    have h4 := zZd hil
    rw [← hp] at h4
    omega
   simp only [zX2] at hinv
   have hps : bnP p = yBj p.steps := by cases p; rfl
   try simp (maxSteps := 2000000) only [go_sem]
   repeat with_reducible refine zAd ?_
   refine zAo (fun k : Nat => [(4, .pv (iv k)), (2, .un), (5, .un), (6, .un), (20, .un), (34, .un), (57, .un)]) (fun k : Nat => p.steps.length - k) (fun k : Nat => k ≤ p.steps.length ∧ yBj (p.steps.drop k) = yBj p.steps) (0) ?_ ⟨Nat.zero_le _, rfl⟩ ?_
   focus (simp (maxSteps := 2000000) only [go_sem, zAe, zAj, zAt, zAc]; all_goals (repeat' (first | exact trivial | exact zAg (by omega) | exact zAf rfl | exact zAr rfl | exact zAk | exact le_refl _ | refine And.intro ?_ ?_)))
   rintro k ⟨hk, hinv2⟩
   try simp (maxSteps := 2000000) only [go_sem, hg]
   repeat with_reducible refine zAd ?_
   refine zAa (by rfl) trivial (fun h4 => ?_) (fun h4 => ?_)
   ·have hkl : k < p.steps.length := by simp at h4; omega
    have fq := zTd fp.1 hkl
    rw [zAX (d := default) hkl] at hinv2
    obtain ⟨q, hq⟩ : ∃ q, q = p.steps.getD k default := ⟨_, rfl⟩
    rw [← hq] at hinv2 fq
    have fqt := zTf fq
    have hg3 : (zK9 p.steps).getD k [] = [bS q.tag, .sl 6 (zSX q.tests)] := by rw [zDc _ k hkl, ← hq, zBK]
    simp only [yBj] at hinv2
    have hqs : bnS q = yBk q.tests := by cases q; rfl
    try simp (maxSteps := 2000000) only [go_sem, hg, hg3]
    repeat with_reducible refine zAd ?_
    refine zAo (fun j : Nat => [(5, .pv (iv j)), (2, .un), (6, .un), (34, .un), (57, .un)]) (fun j : Nat => q.tests.length - j) (fun j : Nat => j ≤ q.tests.length ∧ yBk (q.tests.drop j) = yBk q.tests) (0) ?_ ⟨Nat.zero_le _, rfl⟩ ?_
    focus (simp (maxSteps := 2000000) only [go_sem, zAe, zAj, zAt, zAc]; all_goals (repeat' (first | exact trivial | exact zAg (by omega) | exact zAf rfl | exact zAr rfl | exact zAk | exact le_refl _ | refine And.intro ?_ ?_)))
    rintro j ⟨hj, hinv3⟩
    try simp (maxSteps := 2000000) only [go_sem, hg, hg3]
    repeat with_reducible refine zAd ?_
    refine zAa (by rfl) trivial (fun h6 => ?_) (fun h6 => ?_)
    ·have hjl : j < q.tests.length := by simp at h6; omega
     rw [zAX (d := default) hjl] at hinv3
     obtain ⟨t, ht⟩ : ∃ t, t = q.tests.getD j default := ⟨_, rfl⟩
     rw [← ht] at hinv3
     have hg4 := zCr q.tests j hjl
     rw [← ht, zCg] at hg4
     have hszt : SizeOf.sizeOf t.list ≤ N := by
      have h7 := zI6 t
      have h8 := zZb hjl
      rw [← ht] at h8
      have h9 := zZc hkl
      rw [← hq] at h9
      have h10 := zGF q
      omega
     simp only [yBk] at hinv3
     have hts : bnT t = (decide (zI7 t.na t.nb ≠ 0) || zX2 t.list) := by
      cases t with
      | mk kk nn vv aa bb ll => by_cases h9 : zI7 aa bb = 0 <;> simp [bnT, Ts.na, Ts.nb, Ts.list, h9]
     have hrec := yHM N t.list hszt
     unfold zBu at hrec
     try simp (maxSteps := 2000000) only [go_sem, hg, hg3, hg4]
     repeat with_reducible refine zAd ?_
     refine zAh (by repeat' constructor) (zP6 t.na t.nb) ?_
     try simp (maxSteps := 2000000) only [go_sem, yCY]
     repeat with_reducible refine zAd ?_
     apply zAG (h2 := fun _ => hrec)
     ·(simp (maxSteps := 2000000) only [go_sem]; rfl)
     ·intro h; repeat' (first | exact trivial | exact h | refine And.intro ?_ ?_)
     try simp (maxSteps := 2000000) only [go_sem, Bool.cond_false_right, Bool.cond_true_left]
     repeat with_reducible refine zAd ?_
     refine zAa (by rfl) trivial (fun h7 => ?_) (fun h7 => ?_)
     ·try simp (maxSteps := 2000000) only [go_sem]
      repeat with_reducible refine zAd ?_
      refine zAl rfl trivial (.inl ?_)
      congr 3
      rw [← hinv, hps, ← hinv2, hqs, ← hinv3, hts, h7]; simp
     ·rw [h7] at hts
      rw [hts, Bool.false_or] at hinv3
      try simp (maxSteps := 2000000) only [go_sem]
      repeat with_reducible refine zAd ?_
      refine ⟨j + 1, by omega, ⟨by omega, hinv3⟩, ?_⟩
      simp (maxSteps := 2000000) only [go_sem, zAe, zAj, zAt, zAc]
      all_goals (repeat' (first | exact trivial | exact zAg (by omega) | exact zAf rfl | exact zAr rfl | exact zAk | exact le_refl _ | refine And.intro ?_ ?_))
    ·have hjl : j = q.tests.length := by simp at h6; omega
     subst hjl
     rw [List.drop_length] at hinv3
     rw [hqs, ← hinv3] at hinv2
     try simp (maxSteps := 2000000) only [go_sem]
     repeat with_reducible refine zAd ?_
     refine ⟨k + 1, by omega, ⟨by omega, hinv2⟩, ?_⟩
     simp (maxSteps := 2000000) only [go_sem, zAe, zAj, zAt, zAc]
     all_goals (repeat' (first | exact trivial | exact zAg (by omega) | exact zAf rfl | exact zAr rfl | exact zAk | exact le_refl _ | refine And.intro ?_ ?_))
   ·have hkl : k = p.steps.length := by simp at h4; omega
    subst hkl
    rw [List.drop_length] at hinv2
    rw [hps, ← hinv2] at hinv
    try simp (maxSteps := 2000000) only [go_sem]
    repeat with_reducible refine zAd ?_
    refine ⟨i + 1, by omega, ⟨by omega, hinv⟩, ?_⟩
    simp (maxSteps := 2000000) only [go_sem, zAe, zAj, zAt, zAc]
    all_goals (repeat' (first | exact trivial | exact zAg (by omega) | exact zAf rfl | exact zAr rfl | exact zAk | exact le_refl _ | refine And.intro ?_ ?_))
  ·have hil : i = l.length := by simp at h2; omega
   subst hil
   rw [List.drop_length] at hinv
   try simp (maxSteps := 2000000) only [go_sem]
   repeat with_reducible refine zAd ?_
   refine zAl rfl trivial (.inl ?_)
   congr 3
   rw [← hinv]; rfl
theorem zOm (l : List Pt) : Contract Tryz.prog zDP [.val (zBu l)] { res := .val (iv (zBt l)) } := by
 have t1 := yHJ (SizeOf.sizeOf l) l 1 (Nat.le_refl _) (by omega)
 have t2 := yHK (SizeOf.sizeOf l) l (Nat.le_refl _)
 have t3 := yHL (SizeOf.sizeOf l) l (Nat.le_refl _)
 have t4 := yHM (SizeOf.sizeOf l) l (Nat.le_refl _)
 unfold zBu at *
 refine zJS (base := 0) ⟨Nat.le_of_ble_eq_true rfl, Nat.le_of_ble_eq_true rfl, Nat.le_of_ble_eq_true rfl, rfl⟩ (fun hfit => ?_)
 unfold F0 zC4
 simp (maxSteps := 2000000) only [zAN, List.set_cons_succ, List.set_cons_zero, List.map_cons, List.map_nil, zAM, zAb, ioOf, List.length_cons, List.length_nil, Nat.reduceAdd, Nat.reduceSub, List.replicate, List.cons_append, List.nil_append]
 try simp (maxSteps := 2000000) only [go_sem]
 repeat with_reducible refine zAd ?_
 refine zAh (by repeat' constructor) (t1) ?_
 try simp (maxSteps := 2000000) only [go_sem]
 repeat with_reducible refine zAd ?_
 refine zAa (by rfl) trivial (fun h1 => ?_) (fun h1 => ?_)
 ·try simp (maxSteps := 2000000) only [go_sem]
  repeat with_reducible refine zAd ?_
  refine zAl rfl trivial (.inl ?_)
  congr 3
  unfold zBt
  rw [if_pos h1]
 try simp (maxSteps := 2000000) only [go_sem]
 repeat with_reducible refine zAd ?_
 refine zAh (by repeat' constructor) (t2) ?_
 try simp (maxSteps := 2000000) only [go_sem]
 repeat with_reducible refine zAd ?_
 refine zAa (by rfl) trivial (fun h2 => ?_) (fun h2 => ?_)
 ·try simp (maxSteps := 2000000) only [go_sem]
  repeat with_reducible refine zAd ?_
  refine zAl rfl trivial (.inl ?_)
  congr 3
  unfold zBt
  rw [if_neg (by rw [h1]; simp), if_pos h2]
 try simp (maxSteps := 2000000) only [go_sem]
 repeat with_reducible refine zAd ?_
 refine zAh (by repeat' constructor) (t3) ?_
 try simp (maxSteps := 2000000) only [go_sem]
 repeat with_reducible refine zAd ?_
 refine zAa (by rfl) trivial (fun h3 => ?_) (fun h3 => ?_)
 ·try simp (maxSteps := 2000000) only [go_sem]
  repeat with_reducible refine zAd ?_
  refine zAl rfl trivial (.inl ?_)
  congr 3
  unfold zBt
  rw [if_neg (by rw [h1]; simp), if_neg (by rw [h2]; simp), if_pos h3]
 try simp (maxSteps := 2000000) only [go_sem]
 repeat with_reducible refine zAd ?_
 refine zAh (by repeat' constructor) (t4) ?_
 try simp (maxSteps := 2000000) only [go_sem]
 repeat with_reducible refine zAd ?_
 refine zAa (by rfl) trivial (fun h4 => ?_) (fun h4 => ?_)
 ·try simp (maxSteps := 2000000) only [go_sem]
  repeat with_reducible refine zAd ?_
  refine zAl rfl trivial (.inl ?_)
  congr 3
  unfold zBt
  rw [if_neg (by rw [h1]; simp), if_neg (by rw [h2]; simp), if_neg (by rw [h3]; simp), if_pos h4]
 ·try simp (maxSteps := 2000000) only [go_sem]
  repeat with_reducible refine zAd ?_
  refine zAl rfl trivial (.inl ?_)
  congr 3
  unfold zBt
  rw [if_neg (by rw [h1]; simp), if_neg (by rw [h2]; simp), if_neg (by rw [h3]; simp), if_neg (by rw [h4]; simp)]
end Go.Hx
end

section
set_option maxRecDepth 100000
set_option linter.unusedSimpArgs false
namespace Go.Hx
open Go.Proofs
variable [Glob]
attribute [local go_sem] zAz zAx zAy zAq ndV zAu
end Go.Hx
end
