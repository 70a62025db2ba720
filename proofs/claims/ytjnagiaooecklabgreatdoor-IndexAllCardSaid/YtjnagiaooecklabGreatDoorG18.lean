/-
  Walks of functions of the program over an abstract layer, and the laws that they use: each contract says what the function computes, for every input that its conditions let by. No other condition.
-/
import Derived.Test.YtjnagiaooecklabGreatDoorG10
import Derived.Test.YtjnagiaooecklabGreatDoorG12
import Derived.Test.YtjnagiaooecklabGreatDoorG16
import Derived.Test.YtjnagiaooecklabGreatDoorG17
import Derived.Shelf.Strings.SlTrimAscii
import Derived.Test.YtjnagiaooecklabGreatDoorG13
import Derived.Test.YtjnagiaooecklabGreatDoorG11
set_option linter.all false
section
set_option maxRecDepth 100000
set_option linter.unusedSimpArgs false
namespace Go.Hx
open Go.Proofs Go.RowKit
variable [Glob] [GlobL]
attribute [local go_sem] zAq zAo zAp zAg ndV zAl
attribute [local go_sem] reduceCtorEq Nat.reduceAdd Nat.reduceEqDiff reduceIte Nat.reduceLeDiff Nat.reduceLT Nat.reduceSub
theorem zTR {R : Nat → Prop} {w w' : World} (h : Below w.heap.size w w') : Pres R w w' := Pres.of_below _ h
theorem zXL {m : Mem} {w w' : World} (hm : MemOk m w) (h : Below w.heap.size w w') : MemOk m w' := fun b o u hu => by
 have h1 := hm b o u hu
 have h2 : b < w.heap.size := World.block_lt_of_cell? w _ h1
 rw [← h1]
 exact World.cell?_of_block (h.block b h2)
theorem zTS {R : Nat → Prop} {w w' : World} (h : Pres R w w') (hR : ∀ b, ¬ R b) : Below w.heap.size w w' := ⟨h.os, h.tape, h.output, h.size, fun b hb => h.block b hb (hR b)⟩
theorem zYU {m : Mem} {w w' : World} {avs : List AV} {us : List Value} {e : Ending} {x : PVal} {u : Value} (hm : MemOk m w) (h : Below w.heap.size w w') (he : e = .returned u) (hx : RpV m x u) (hio : ioB avs us = none) : yC9 m w avs us { res := .val x } e w' :=
 ⟨m, m.le_refl, zXL hm h, zTR h, fun _ _ _ h => .inl h, (fun b hb => by rw [hio] at hb; cases hb), u, he, hx⟩
theorem zZQ {w w' : World} (h : Below w.heap.size w w') (hG : Glob.ok w) : Glob.ok w' :=
 Glob.keep _ _ (fun b hb => h.block b (Nat.lt_of_lt_of_le hb (Glob.size _ hG))) hG
theorem yBa (s cs : Bys) : (Lib.trimS s cs).length ≤ s.length := by
 unfold Lib.trimS Lib.trimLeftS Lib.trimRightS
 refine Nat.le_trans (List.dropWhile_sublist _).length_le ?_
 rw [List.length_reverse]
 refine Nat.le_trans (List.dropWhile_sublist _).length_le ?_
 rw [List.length_reverse]
 exact Nat.le_refl _
theorem yBb {s : Bys} (h : s.length ≤ maxLen) : zD7 (mkS s) = true := by
 simp only [zD7]
 exact decide_eq_true (by simpa [ByteArray.size] using h)
theorem yCQ {s : Bys} (h : zD7 (mkS s) = true) : s.length ≤ maxLen := by
 simp only [zD7, decide_eq_true_eq] at h
 simpa [ByteArray.size] using h
theorem zQO (s cs : Bys) (hc : cs.length < 1000) (ha : cs.all (fun b => decide (b.toNat < 128)) = true) : Contract Tryz.prog zEq [.val (sv s), .val (sv cs)] { res := .val (sv (Lib.trimS s cs)) } := by
 refine ⟨by kernel_rfl, fun m w us hm hargs _ hG _ => ?_⟩
 obtain ⟨u1, us1, rfl, h1, u2, us2, rfl, h2, rfl⟩ := hargs
 obtain ⟨rfl, f1⟩ := h1
 obtain ⟨rfl, f2⟩ := h2
 have hs := yCQ f1
 have hT := Any.strings_Trim_laid Tryz.l160 (by kernel_rfl) ⟨s.toArray⟩ ⟨cs.toArray⟩ w (by simpa [ByteArray.size, maxLen] using hs) (by simp [ByteArray.size]; omega) (ascii_of_all (by simpa using ha))
 change Calls Tryz.prog zEq _ _ _ at hT
 refine hT.mono fun e w' ⟨he, hb⟩ => zYU hm hb he ⟨by simp, ?_⟩ rfl
 exact yBb (Nat.le_trans (yBa s cs) hs)
theorem zDs (s : Bys) (g : Nat) (p : Nat → Bool) (hp : ∀ r, 128 ≤ r → p r = true) (eg : ∀ args w, (callFunc g args).run Tryz.prog w = .ok (.enter g args) w)
  (hg : ∀ r : Nat, Contract Tryz.prog g [.val (.one (.v (.int .i32 r)))] { res := .val (bv (p r)) }) :
  Contract Tryz.prog zBt [.val (sv s), .val (.one (.clo g []))] { res := .val (bv (!s.all (fun b => decide (b.toNat < 128) && !p b.toNat))) } := by
 refine ⟨by kernel_rfl, fun m w us hm hargs _ hG _ => ?_⟩
 obtain ⟨u1, us1, rfl, h1, u2, us2, rfl, h2, rfl⟩ := hargs
 obtain ⟨rfl, f1⟩ := h1
 obtain ⟨us, rfl, hus⟩ := h2
 obtain rfl : us = [] := by simpa [RpL] using hus
 have hpg : PredGrows Tryz.prog g #[] p w := fun W x _ hbW => by
  refine ((hg x).2 (fun _ _ => none) W [.int .i32 x] (fun _ _ _ h => by cases h) ⟨_, _, rfl, ⟨rfl, rfl⟩, rfl⟩ (by intro g h; cases h) (zZQ hbW hG) (by rintro b (h | h) <;> cases h)).mono fun e W' ⟨m', _, _, hpr, _, _, u, hu, hr⟩ => ?_
  obtain rfl : u = .bool (p x) := hr.1
  exact ⟨hu, zTS hpr (by intro b h; rcases h with h | h <;> cases h)⟩
 have hT := Any.strings_ContainsFunc_grows Tryz.l17 g #[] eg p ⟨s.toArray⟩ w hpg
 change Calls Tryz.prog zBt _ _ _ at hT
 rw [yEZ hp] at hT
 exact hT.mono fun e w' ⟨he, hb⟩ => zYU hm hb he ⟨rfl, rfl⟩ rfl
def zZR (r : Nat) : Bool := ((decide (r < 97) || decide (122 < r)) && (decide (r < 48) || decide (57 < r))) && decide (r ≠ 45)
def zRn (r : Nat) : Bool := decide (r < 32) || decide (126 < r) || decide (r = 34)
theorem zVT (r : Nat) : Contract Tryz.prog zCm [.val (.one (.v (.int .i32 r)))] { res := .val (bv (zZR r)) } := by
 refine mkA zSE (base := 0) (fo rfl) (fun hfit => ?_)
 unfold F0 zMJ
 simp (maxSteps := 2000000) only [zAH, List.set_cons_succ, List.set_cons_zero, List.map_cons, List.map_nil, zAG, zAa, ioOf, List.length_cons, List.length_nil, Nat.reduceAdd, Nat.reduceSub, List.replicate, List.cons_append, List.nil_append]
 try simp (maxSteps := 2000000) only [go_sem]
 repeat with_reducible refine zAb ?_
 refine zAe rfl trivial (.inl ?_)
 congr 3
 unfold zZR
 grind
theorem zTT (r : Nat) : Contract Tryz.prog zB3 [.val (.one (.v (.int .i32 r)))] { res := .val (bv (zRn r)) } := by
 refine mkA zPP (base := 0) (fo rfl) (fun hfit => ?_)
 unfold F0 zKC
 simp (maxSteps := 2000000) only [zAH, List.set_cons_succ, List.set_cons_zero, List.map_cons, List.map_nil, zAG, zAa, ioOf, List.length_cons, List.length_nil, Nat.reduceAdd, Nat.reduceSub, List.replicate, List.cons_append, List.nil_append]
 try simp (maxSteps := 2000000) only [go_sem]
 repeat with_reducible refine zAb ?_
 refine zAe rfl trivial (.inl ?_)
 congr 3
 unfold zRn
 grind
theorem yE0 : ∀ args w, (callFunc zCm args).run Tryz.prog w = .ok (.enter zCm args) w := enters_of Tryz.func239 (by kernel_rfl) rfl
theorem yE1 : ∀ args w, (callFunc zB3 args).run Tryz.prog w = .ok (.enter zB3 args) w := enters_of Tryz.func240 (by kernel_rfl) rfl
theorem zMh {α : Type} {l : List α} {p q : α → Bool} (h : ∀ x, p x = q x) : l.all p = l.all q := by rw [show p = q from funext h]
theorem yHi (b : UInt8) : (decide (b.toNat < 128) && !zRn b.toNat) = yEH b := by
 unfold zRn yEH
 grind
theorem yE2 (b : UInt8) : (decide (b.toNat < 128) && !zZR b.toNat) = zUy b := by
 unfold zZR zUy
 grind
theorem yHj (b : UInt8) : ([97, 98, 99, 100, 101, 102, 103, 104, 105, 106, 107, 108, 109, 110, 111, 112, 113, 114, 115, 116, 117, 118, 119, 120, 121, 122, 48, 49, 50, 51, 52, 53, 54, 55, 56, 57, 45] : Bys).contains b = zUy b := by
 have h : ∀ n : Fin 256, ([97, 98, 99, 100, 101, 102, 103, 104, 105, 106, 107, 108, 109, 110, 111, 112, 113, 114, 115, 116, 117, 118, 119, 120, 121, 122, 48, 49, 50, 51, 52, 53, 54, 55, 56, 57, 45] : Bys).contains (UInt8.ofFin n) = zUy (UInt8.ofFin n) := by decide +kernel
 exact h b.toFin
theorem zPb (s : Bys) : Contract Tryz.prog zET [.val (sv s)] { res := .val (bv (zHb s)) } := by
 refine mkA zU1 (base := 0) (fo rfl) (fun hfit => ?_)
 unfold F0 zOx
 simp (maxSteps := 2000000) only [zAH, List.set_cons_succ, List.set_cons_zero, List.map_cons, List.map_nil, zAG, zAa, ioOf, List.length_cons, List.length_nil, Nat.reduceAdd, Nat.reduceSub, List.replicate, List.cons_append, List.nil_append]
 try simp (maxSteps := 2000000) only [go_sem]
 repeat with_reducible refine zAb ?_
 apply zAE (h2 := fun _ => zDs s zB3 zRn (by intro r h; unfold zRn; grind) yE1 zTT)
 ·(simp (maxSteps := 2000000) only [go_sem]; rfl)
 ·intro h; repeat' (first | exact trivial | exact h | refine And.intro ?_ ?_)
 try simp (maxSteps := 2000000) only [go_sem]
 repeat with_reducible refine zAb ?_
 refine zAe rfl trivial (.inl ?_)
 congr 3
 rw [zMh yHi, zHb]
 grind
theorem zD8 (s : Bys) : Contract Tryz.prog zCg [.val (sv s)] { res := .val (bv (zCC s)) } := by
 refine mkA zW6 (base := 0) (fo rfl) (fun hfit => ?_)
 unfold F0 zRh
 simp (maxSteps := 2000000) only [zAH, List.set_cons_succ, List.set_cons_zero, List.map_cons, List.map_nil, zAG, zAa, ioOf, List.length_cons, List.length_nil, Nat.reduceAdd, Nat.reduceSub, List.replicate, List.cons_append, List.nil_append]
 try simp (maxSteps := 2000000) only [go_sem]
 repeat with_reducible refine zAb ?_
 apply zAE (h2 := fun _ => zQO s _ (by decide) (by decide))
 ·(simp (maxSteps := 2000000) only [go_sem]; rfl)
 ·intro h; repeat' (first | exact trivial | exact h | refine And.intro ?_ ?_)
 try simp (maxSteps := 2000000) only [go_sem]
 repeat with_reducible refine zAb ?_
 apply zAE (h2 := fun _ => zDs s zCm zZR (by intro r h; unfold zZR; grind) yE0 zVT)
 ·(simp (maxSteps := 2000000) only [go_sem]; rfl)
 ·intro h; repeat' (first | exact trivial | exact h | refine And.intro ?_ ?_)
 try simp (maxSteps := 2000000) only [go_sem]
 repeat with_reducible refine zAb ?_
 refine zAe rfl trivial (.inl ?_)
 congr 3
 rw [zMh yE2, yCP, zMh yHj, zCC]
 grind
end Go.Hx
end

section
set_option maxRecDepth 100000
set_option linter.unusedSimpArgs false
namespace Go.Hx
open Go.Proofs
variable [Glob] [GlobL]
attribute [local go_sem] zAq zAo zAp zAg ndV zAl
attribute [local go_sem] reduceCtorEq Nat.reduceAdd Nat.reduceEqDiff reduceIte Nat.reduceLeDiff Nat.reduceLT Nat.reduceSub
theorem zIc (s : Bys) : Contract Tryz.prog zDZ [.val (sv s)] { res := .val (sv s) } := by
 refine mkA zSr (base := 0) (fo rfl) (fun hfit => ?_)
 unfold F0 zMG
 simp (maxSteps := 2000000) only [zAH, List.set_cons_succ, List.set_cons_zero, List.map_cons, List.map_nil, zAG, zAa, ioOf, List.length_cons, List.length_nil, Nat.reduceAdd, Nat.reduceSub, List.replicate, List.cons_append, List.nil_append]
 try simp (maxSteps := 2000000) only [go_sem]
 repeat with_reducible refine zAb ?_
 try simp (maxSteps := 2000000) only [go_sem]
 repeat with_reducible refine zAb ?_
 refine zAe rfl trivial (.inl ?_)
 congr 3
theorem zId (a b : Bys) : Contract Tryz.prog zD0 [.val (.agg [bS a, bS b])] { res := .val (sv a) } := by
 refine mkA zSu (base := 0) (fo rfl) (fun hfit => ?_)
 unfold F0 zMH
 simp (maxSteps := 2000000) only [zAH, List.set_cons_succ, List.set_cons_zero, List.map_cons, List.map_nil, zAG, zAa, ioOf, List.length_cons, List.length_nil, Nat.reduceAdd, Nat.reduceSub, List.replicate, List.cons_append, List.nil_append]
 try simp (maxSteps := 2000000) only [go_sem]
 repeat with_reducible refine zAb ?_
 try simp (maxSteps := 2000000) only [go_sem]
 repeat with_reducible refine zAb ?_
 refine zAe rfl trivial (.inl ?_)
 congr 3
theorem zVU (a b : Bys) : Contract Tryz.prog zC9 [.val (.agg [bS a, bS b])] { res := .val (bv (!zHb b)) } := by
 refine mkA zSx (base := 0) (fo rfl) (fun hfit => ?_)
 unfold F0 zMI
 simp (maxSteps := 2000000) only [zAH, List.set_cons_succ, List.set_cons_zero, List.map_cons, List.map_nil, zAG, zAa, ioOf, List.length_cons, List.length_nil, Nat.reduceAdd, Nat.reduceSub, List.replicate, List.cons_append, List.nil_append]
 try simp (maxSteps := 2000000) only [go_sem]
 repeat with_reducible refine zAb ?_
 refine zAu (by repeat' constructor) (zPb _) ?_
 try simp (maxSteps := 2000000) only [go_sem]
 repeat with_reducible refine zAb ?_
 try simp (maxSteps := 2000000) only [go_sem]
 repeat with_reducible refine zAb ?_
 refine zAe rfl trivial (.inl ?_)
 congr 3
theorem yCR {l : List Bys} {i : Nat} : okC l (i + 1) = (okC l i && cOk l i) := zE9
theorem zRp : ∀ {x y : Bys}, Op.bytesLess x y = true → Op.bytesLess y x = false
 |[], _, h => by rename_i y; cases y <;> rfl
 |a :: x, [], h => by simp [Op.bytesLess] at h
 |a :: x, b :: y, h => by
  simp only [Op.bytesLess, Bool.or_eq_true, Bool.and_eq_true, decide_eq_true_eq, beq_iff_eq] at h
  simp only [Op.bytesLess, Bool.or_eq_false_iff, Bool.and_eq_false_iff, decide_eq_false_iff_not, beq_eq_false_iff_ne]
  rcases h with h | ⟨rfl, h⟩
  ·exact ⟨UInt8.lt_asymm h, .inl (fun e => by subst e; exact UInt8.lt_irrefl _ h)⟩
  ·exact ⟨UInt8.lt_irrefl _, .inr (zRp h)⟩
theorem zRq : ∀ {x y : Bys}, Op.bytesLess x y = false → x ≠ y → Op.bytesLess y x = true
 |[], [], _, h => (h rfl).elim
 |[], b :: y, h, _ => by simp [Op.bytesLess] at h
 |a :: x, [], _, _ => rfl
 |a :: x, b :: y, h, hn => by
  simp only [Op.bytesLess, Bool.or_eq_false_iff, Bool.and_eq_false_iff, decide_eq_false_iff_not, beq_eq_false_iff_ne] at h
  simp only [Op.bytesLess, Bool.or_eq_true, Bool.and_eq_true, decide_eq_true_eq, beq_iff_eq]
  obtain ⟨h1, h2⟩ := h
  by_cases e : a = b
  ·subst e
   refine .inr ⟨rfl, zRq (h2.resolve_left (fun h => h rfl)) (fun e => hn (by rw [e]))⟩
  ·refine .inl ?_
   have h3 : b ≤ a := UInt8.not_lt.1 h1
   exact UInt8.lt_of_le_of_ne h3 (Ne.symm e)
theorem zRr {x y : Bys} : (Op.bytesLess x y || x == y) = !Op.bytesLess y x := by
 cases h : Op.bytesLess y x with
 |true =>
  have h1 := zRp h
  have : ¬ x = y := fun e => by subst e; rw [h1] at h; cases h
  simp [h1, this]
 |false =>
  by_cases e : x = y
  ·subst e; simp
  ·simp [zRq h (Ne.symm e)]
theorem zLg (l : List Bys) : Contract Tryz.prog zCL [.val (.one (.sl 1 (zPC l))), .val (.one (.clo zDZ []))] { res := .val (bv (okC l l.length)) } := by
 refine mkA zJA (base := 0) (fo rfl) (fun hfit => ?_)
 unfold F0 zEV
 simp (maxSteps := 2000000) only [zAH, List.set_cons_succ, List.set_cons_zero, List.map_cons, List.map_nil, zAG, zAa, ioOf, List.length_cons, List.length_nil, Nat.reduceAdd, Nat.reduceSub, List.replicate, List.cons_append, List.nil_append]
 try simp (maxSteps := 2000000) only [go_sem]
 repeat with_reducible refine zAb ?_
 have hm := zDN (k := 1) hfit.1
 rw [zAo] at hm
 refine zAv (fun i : Nat => [(5, .pv (sv (if i = 0 then [] else l.getD (i - 1) []))), (7, .un), (10, .pv (iv i)), (11, .un), (25, .un)]) (fun i : Nat => l.length - i) (fun i : Nat => i ≤ l.length ∧ okC l i = true) (0) ?_ ⟨Nat.zero_le _, rfl⟩ ?_
 focus (simp (maxSteps := 2000000) only [go_sem, zAi, zAs, zAF, zAj]; all_goals (repeat' (first | exact trivial | exact zAr (by omega) | exact zAk rfl | exact zAw rfl | exact zAt | exact le_refl _ | refine And.intro ?_ ?_)))
 intro i ⟨hi, hok⟩
 try simp (maxSteps := 2000000) only [go_sem]
 repeat with_reducible refine zAb ?_
 refine zAc (by rfl) trivial (fun h => ?_) (fun h => ?_)
 ·have hlt : i < l.length := by simpa using h
  try simp (maxSteps := 2000000) only [go_sem, zSe _ _ hlt]
  repeat with_reducible refine zAb ?_
  refine zC7 (by rfl) trivial (by repeat' constructor) (zIc _) ?_
  try simp (maxSteps := 2000000) only [go_sem]
  repeat with_reducible refine zAb ?_
  refine zAu (by repeat' constructor) (zD8 _) ?_
  try simp (maxSteps := 2000000) only [go_sem]
  repeat with_reducible refine zAb ?_
  refine zN9 (by simp (maxSteps := 2000000) only [go_sem]; rfl) (by rfl) (by first | exact fun _ => trivial | exact fun h => h) (by intro h; repeat' (first | exact trivial | exact h | refine And.intro ?_ ?_)) (fun _ => zIc _) ?_
  try simp (maxSteps := 2000000) only [go_sem]
  repeat with_reducible refine zAb ?_
  rw [zRr]
  refine zAc (by rfl) trivial (fun h2 => ?_) (fun h2 => ?_)
  ·try simp (maxSteps := 2000000) only [go_sem]
   repeat with_reducible refine zAb ?_
   refine zAe rfl trivial (.inl ?_)
   congr 3
   cases hn : okC l l.length with
   |false => rfl
   |true =>
    exfalso
    have h4 := zBp hn hlt
    simp only [cOk, Bool.and_eq_true, Bool.or_eq_true, decide_eq_true_eq] at h4
    rw [h4.1] at h2
    by_cases h0 : i = 0
    ·subst h0
     cases hx : l.getD 0 [] with
     |nil => rw [hx] at h4; simp [zCC] at h4
     |cons a r => rw [hx] at h2; simp [Op.bytesLess] at h2
    ·rw [if_neg h0, h4.2.resolve_left h0] at h2
     simp at h2
  ·try simp (maxSteps := 2000000) only [go_sem]
   repeat with_reducible refine zAb ?_
   refine zC7 (by rfl) trivial (by repeat' constructor) (zIc _) ?_
   try simp (maxSteps := 2000000) only [go_sem]
   repeat with_reducible refine zAb ?_
   refine ⟨i + 1, by omega, ⟨hlt, ?_⟩, ?_⟩
   ·rw [yCR, hok]
    simp only [Bool.true_and, cOk]
    cases hn : zCC (l.getD i []) with
    |false => rw [hn] at h2; simp at h2
    |true =>
     rw [hn] at h2
     by_cases h0 : i = 0
     ·simp [h0]
     ·rw [if_neg h0] at h2
      simp at h2
      simp [h0, h2]
   ·simp (maxSteps := 2000000) only [go_sem, zAi, zAs, zAF, zAj]
    all_goals (repeat' (first | exact trivial | exact zAr (by omega) | exact zAk rfl | exact zAw rfl | exact zAt | exact le_refl _ | refine And.intro ?_ ?_))
 ·try simp (maxSteps := 2000000) only [go_sem]
  repeat with_reducible refine zAb ?_
  refine zAe rfl trivial (.inl ?_)
  congr 3
  have : i = l.length := by simp at h; omega
  rw [← this]; exact hok
def rOk (l : List (Bys × Bys)) (k : Nat) : Bool := zCC (l.getD k default).1 && (decide (k = 0) || Op.bytesLess (l.getD (k - 1) default).1 (l.getD k default).1)
def zVV (l : List (Bys × Bys)) (i : Nat) : Bool := (List.range i).all (rOk l)
abbrev yE3 (l : List (Bys × Bys)) : Bool := zVV l l.length
theorem zXN {l : List (Bys × Bys)} {i : Nat} : zVV l (i + 1) = (zVV l i && rOk l i) := zE9
theorem zNi (l : List (Bys × Bys)) : Contract Tryz.prog zCh [.val (.one (.sl 2 (zYE l))), .val (.one (.clo zD0 []))] { res := .val (bv (yE3 l)) } := by
 refine mkA zHs (base := 0) (fo rfl) (fun hfit => ?_)
 unfold F0 zDS
 simp (maxSteps := 2000000) only [zAH, List.set_cons_succ, List.set_cons_zero, List.map_cons, List.map_nil, zAG, zAa, ioOf, List.length_cons, List.length_nil, Nat.reduceAdd, Nat.reduceSub, List.replicate, List.cons_append, List.nil_append]
 try simp (maxSteps := 2000000) only [go_sem]
 repeat with_reducible refine zAb ?_
 have hm := zDN (k := 2) hfit.1
 rw [zAp] at hm
 refine zAv (fun i : Nat => [(5, .pv (sv (if i = 0 then [] else (l.getD (i - 1) default).1))), (7, .un), (30, .un), (31, .un), (10, .pv (iv i)), (11, .un), (25, .un)]) (fun i : Nat => l.length - i) (fun i : Nat => i ≤ l.length ∧ zVV l i = true) (0) ?_ ⟨Nat.zero_le _, rfl⟩ ?_
 focus (simp (maxSteps := 2000000) only [go_sem, zAi, zAs, zAF, zAj]; all_goals (repeat' (first | exact trivial | exact zAr (by omega) | exact zAk rfl | exact zAw rfl | exact zAt | exact le_refl _ | refine And.intro ?_ ?_)))
 intro i ⟨hi, hok⟩
 try simp (maxSteps := 2000000) only [go_sem]
 repeat with_reducible refine zAb ?_
 refine zAc (by rfl) trivial (fun h => ?_) (fun h => ?_)
 ·have hlt : i < l.length := by simpa using h
  try simp (maxSteps := 2000000) only [go_sem, zNq _ _ hlt]
  repeat with_reducible refine zAb ?_
  refine zC7 (by rfl) trivial (by repeat' constructor) (zId _ _) ?_
  try simp (maxSteps := 2000000) only [go_sem]
  repeat with_reducible refine zAb ?_
  refine zAu (by repeat' constructor) (zD8 _) ?_
  try simp (maxSteps := 2000000) only [go_sem]
  repeat with_reducible refine zAb ?_
  refine zN9 (by simp (maxSteps := 2000000) only [go_sem]; rfl) (by rfl) (by first | exact fun _ => trivial | exact fun h => h) (by intro h; repeat' (first | exact trivial | exact h | refine And.intro ?_ ?_)) (fun _ => zId _ _) ?_
  try simp (maxSteps := 2000000) only [go_sem]
  repeat with_reducible refine zAb ?_
  rw [zRr]
  refine zAc (by rfl) trivial (fun h2 => ?_) (fun h2 => ?_)
  ·try simp (maxSteps := 2000000) only [go_sem]
   repeat with_reducible refine zAb ?_
   refine zAe rfl trivial (.inl ?_)
   congr 3
   cases hn : yE3 l with
   |false => rfl
   |true =>
    exfalso
    have h4 := zBp hn hlt
    simp only [rOk, Bool.and_eq_true, Bool.or_eq_true, decide_eq_true_eq] at h4
    rw [h4.1] at h2
    by_cases h0 : i = 0
    ·subst h0
     cases hx : (l.getD 0 default).1 with
     |nil => rw [hx] at h4; simp [zCC] at h4
     |cons a r => rw [hx] at h2; simp [Op.bytesLess] at h2
    ·rw [if_neg h0, h4.2.resolve_left h0] at h2
     simp at h2
  ·try simp (maxSteps := 2000000) only [go_sem]
   repeat with_reducible refine zAb ?_
   refine zC7 (by rfl) trivial (by repeat' constructor) (zId _ _) ?_
   try simp (maxSteps := 2000000) only [go_sem]
   repeat with_reducible refine zAb ?_
   refine ⟨i + 1, by omega, ⟨hlt, ?_⟩, ?_⟩
   ·rw [zXN, hok]
    simp only [Bool.true_and, rOk]
    cases hn : zCC ((l.getD i default).1) with
    |false => rw [hn] at h2; simp at h2
    |true =>
     rw [hn] at h2
     by_cases h0 : i = 0
     ·simp [h0]
     ·rw [if_neg h0] at h2
      simp at h2
      simp [h0, h2]
   ·simp (maxSteps := 2000000) only [go_sem, zAi, zAs, zAF, zAj]
    all_goals (repeat' (first | exact trivial | exact zAr (by omega) | exact zAk rfl | exact zAw rfl | exact zAt | exact le_refl _ | refine And.intro ?_ ?_))
 ·try simp (maxSteps := 2000000) only [go_sem]
  repeat with_reducible refine zAb ?_
  refine zAe rfl trivial (.inl ?_)
  congr 3
  have : i = l.length := by simp at h; omega
  subst this; exact hok
def zQP (l : List (Bys × Bys)) (i : Nat) : Bool := !zHb (l.getD i default).2
def zVW (l : List (Bys × Bys)) : Int := match (List.range l.length).find? (zQP l) with | some i => i | none => -1
theorem zGv (l : List (Bys × Bys)) : Contract Tryz.prog zAX [.val (.one (.sl 2 (zYE l))), .val (.one (.clo zC9 []))] { res := .val (iv (zVW l)) } := by
 refine mkA zCS (base := 0) (fo rfl) (fun hfit => ?_)
 unfold F0 zBW
 simp (maxSteps := 2000000) only [zAH, List.set_cons_succ, List.set_cons_zero, List.map_cons, List.map_nil, zAG, zAa, ioOf, List.length_cons, List.length_nil, Nat.reduceAdd, Nat.reduceSub, List.replicate, List.cons_append, List.nil_append]
 try simp (maxSteps := 2000000) only [go_sem]
 repeat with_reducible refine zAb ?_
 have hm := zDN (k := 2) hfit.1
 rw [zAp] at hm
 refine zAv (fun i : Nat => [(5, .un), (8, .pv (iv i)), (9, .un), (16, .un)]) (fun i : Nat => l.length - i) (fun i : Nat => i ≤ l.length ∧ ∀ k, k < i → zQP l k = false) (0) ?_ ⟨Nat.zero_le _, fun k hk => by omega⟩ ?_
 focus (simp (maxSteps := 2000000) only [go_sem, zAi, zAs, zAF, zAj]; all_goals (repeat' (first | exact trivial | exact zAr (by omega) | exact zAk rfl | exact zAw rfl | exact zAt | exact le_refl _ | refine And.intro ?_ ?_)))
 intro i ⟨hi, hok⟩
 try simp (maxSteps := 2000000) only [go_sem]
 repeat with_reducible refine zAb ?_
 refine zAc (by rfl) trivial (fun h => ?_) (fun h => ?_)
 ·have hlt : i < l.length := by simpa using h
  try simp (maxSteps := 2000000) only [go_sem, zNq _ _ hlt]
  repeat with_reducible refine zAb ?_
  refine zC7 (by rfl) trivial (by repeat' constructor) (zVU _ _) ?_
  try simp (maxSteps := 2000000) only [go_sem]
  repeat with_reducible refine zAb ?_
  refine zAc (by rfl) trivial (fun h2 => ?_) (fun h2 => ?_)
  ·try simp (maxSteps := 2000000) only [go_sem]
   repeat with_reducible refine zAb ?_
   refine zAe rfl trivial (.inl ?_)
   congr 3
   have h3 : (List.range l.length).find? (zQP l) = some i := List.find?_range_eq_some.2 ⟨h2, List.mem_range.2 hlt, fun j hj => by rw [hok j hj]; rfl⟩
   rw [zVW, h3]
  ·try simp (maxSteps := 2000000) only [go_sem]
   repeat with_reducible refine zAb ?_
   refine ⟨i + 1, by omega, ⟨hlt, fun k hk => ?_⟩, ?_⟩
   ·by_cases e : k = i
    ·rw [e]; exact h2
    ·exact hok k (by omega)
   ·simp (maxSteps := 2000000) only [go_sem, zAi, zAs, zAF, zAj]
    all_goals (repeat' (first | exact trivial | exact zAr (by omega) | exact zAk rfl | exact zAw rfl | exact zAt | exact le_refl _ | refine And.intro ?_ ?_))
 ·try simp (maxSteps := 2000000) only [go_sem]
  repeat with_reducible refine zAb ?_
  refine zAe rfl trivial (.inl ?_)
  congr 3
  have : i = l.length := by simp at h; omega
  have h3 : (List.range l.length).find? (zQP l) = none := List.find?_eq_none.2 fun x hx => by rw [hok x (by rw [this]; exact List.mem_range.1 hx)]; simp
  rw [zVW, h3]
def zVX (l : List (Bys × Bys)) : Bool := (List.range l.length).any (zQP l)
theorem zZS (l : List (Bys × Bys)) : decide (0 ≤ zVW l) = zVX l := by
 unfold zVW zVX
 cases h : (List.range l.length).find? (zQP l) with
 |none =>
  have := List.find?_eq_none.1 h
  have h2 : (List.range l.length).any (zQP l) = false := by
   rw [List.any_eq_false]; exact this
  rw [h2]; rfl
 |some i =>
  have := List.find?_range_eq_some.1 h
  have h2 : (List.range l.length).any (zQP l) = true := List.any_eq_true.2 ⟨i, this.2.1, this.1⟩
  rw [h2]
  simp
theorem zEG (l : List (Bys × Bys)) : Contract Tryz.prog zBx [.val (.one (.sl 2 (zYE l))), .val (.one (.clo zC9 []))] { res := .val (bv (zVX l)) } := by
 refine mkA zEp (base := 0) (fo rfl) (fun hfit => ?_)
 unfold F0 zCr
 simp (maxSteps := 2000000) only [zAH, List.set_cons_succ, List.set_cons_zero, List.map_cons, List.map_nil, zAG, zAa, ioOf, List.length_cons, List.length_nil, Nat.reduceAdd, Nat.reduceSub, List.replicate, List.cons_append, List.nil_append]
 try simp (maxSteps := 2000000) only [go_sem]
 repeat with_reducible refine zAb ?_
 refine zAu (by repeat' constructor) (zGv _) ?_
 try simp (maxSteps := 2000000) only [go_sem]
 repeat with_reducible refine zAb ?_
 try simp (maxSteps := 2000000) only [go_sem]
 repeat with_reducible refine zAb ?_
 refine zAe rfl trivial (.inl ?_)
 congr 3
 rw [← zZS]
theorem zZT (l : List (Bys × Bys)) : okA l l.length = (yE3 l && !zVX l) := by
 rw [Bool.eq_iff_iff]
 simp only [okA, zVV, zVX, Bool.and_eq_true, Bool.not_eq_true', List.all_eq_true, List.any_eq_false, List.mem_range]
 constructor
 ·intro h
  refine ⟨fun k hk => ?_, fun k hk => ?_⟩
  ·have := h k hk
   simp only [aOk, rOk, Bool.and_eq_true] at this ⊢
   exact ⟨this.1.1, this.2⟩
  ·have := h k hk
   simp only [aOk, zQP, Bool.and_eq_true] at this ⊢
   rw [this.1.2]; simp
 ·intro ⟨h1, h2⟩ k hk
  have h3 := h1 k hk
  have h4 := h2 k hk
  simp only [aOk, rOk, zQP, Bool.and_eq_true, Bool.not_eq_true, Bool.not_eq_false'] at h3 h4 ⊢
  exact ⟨⟨h3.1, h4⟩, h3.2⟩
theorem zRs (x : Nd) : Contract Tryz.prog zJo [.val (.agg (ndV x))] { res := .val (bv (zGl x)) } := by
 unfold ndV
 refine mkA zW3 (base := 0) (fo rfl) (fun hfit => ?_)
 unfold F0 zRg
 simp (maxSteps := 2000000) only [zAH, List.set_cons_succ, List.set_cons_zero, List.map_cons, List.map_nil, zAG, zAa, ioOf, List.length_cons, List.length_nil, Nat.reduceAdd, Nat.reduceSub, List.replicate, List.cons_append, List.nil_append]
 try simp (maxSteps := 2000000) only [go_sem]
 repeat with_reducible refine zAb ?_
 refine zAu (by repeat' constructor) (zD8 _) ?_
 try simp (maxSteps := 2000000) only [go_sem]
 repeat with_reducible refine zAb ?_
 apply zAE (h2 := fun _ => zD8 _)
 ·(simp (maxSteps := 2000000) only [go_sem]; rfl)
 ·intro h; repeat' (first | exact trivial | exact h | refine And.intro ?_ ?_)
 try simp (maxSteps := 2000000) only [go_sem]
 repeat with_reducible refine zAb ?_
 apply zAE (h2 := fun _ => zLg _)
 ·(simp (maxSteps := 2000000) only [go_sem]; rfl)
 ·intro h; repeat' (first | exact trivial | exact h | refine And.intro ?_ ?_)
 try simp (maxSteps := 2000000) only [go_sem]
 repeat with_reducible refine zAb ?_
 apply zAE (h2 := fun _ => zNi _)
 ·(simp (maxSteps := 2000000) only [go_sem]; rfl)
 ·intro h; repeat' (first | exact trivial | exact h | refine And.intro ?_ ?_)
 try simp (maxSteps := 2000000) only [go_sem]
 repeat with_reducible refine zAb ?_
 apply zAE (h2 := fun _ => zEG _)
 ·(simp (maxSteps := 2000000) only [go_sem]; rfl)
 ·intro h; repeat' (first | exact trivial | exact h | refine And.intro ?_ ?_)
 try simp (maxSteps := 2000000) only [go_sem]
 repeat with_reducible refine zAb ?_
 refine zAe rfl trivial (.inl ?_)
 congr 3
 simp only [zGl, zZT]
 grind
end Go.Hx
end

section
set_option maxRecDepth 100000
set_option linter.unusedSimpArgs false
namespace Go.Hx
open Go.Proofs
variable [Glob] [GlobL]
attribute [local go_sem] zAq zAo zAp zAg ndV zAl
attribute [local go_sem] reduceCtorEq Nat.reduceAdd Nat.reduceEqDiff reduceIte Nat.reduceLeDiff Nat.reduceLT Nat.reduceSub
def zMi (u : Int) (c : List Int) : List Int := c.dropWhile fun x => decide (x ≠ u)
theorem zPc {u : Int} : ∀ c : List Int, (zMi u c = []) ↔ u ∉ c
 |[] => by simp [zMi]
 |x :: c => by
  simp only [zMi, List.dropWhile_cons]
  by_cases h : x = u
  ·simp [h]
  ·have := zPc (u := u) c
   simp only [zMi] at this
   simp only [ne_eq, decide_not] at this
   simp [h, this, Ne.symm h]
theorem zPd {d : List Nd} {u : Int} : ∀ (f : Nat) (k : Int), (∀ j : Nat, (j : Int) ≤ k → zBh d j < j) → k < f → u ∈ zBB d f k → ∀ g : Nat, u < g → zMi u (zBB d f k) = zBB d g u
 |0, k, _, _, hu => by simp [zBB] at hu
 |f + 1, k, h, hf, hu => by
  intro g hg
  have hb := zDx (f + 1) k h _ hu
  simp only [zBB] at hu ⊢
  split at hu
  ·cases hu
  ·rename_i hk
   rw [if_neg hk]
   simp only [zMi, List.dropWhile_cons]
   by_cases e : k = u
   ·subst e
    simp only [ne_eq, not_true_eq_false, decide_false, Bool.false_eq_true, if_false]
    have : k :: zBB d f (zBh d k.toNat) = zBB d (f + 1) k := by simp [zBB, hk]
    rw [this]
    exact zIs _ _ _ h hf hg
   ·simp only [ne_eq, e, not_false_eq_true, decide_true, if_true]
    have h1 := h k.toNat (by omega)
    exact zPd f (zBh d k.toNat) (fun j hj => h j (by omega)) (by omega) ((List.mem_cons.1 hu).resolve_left (Ne.symm e)) g hg
theorem zRt (c : List Int) (x : Int) : (zAS ((x :: c).reverse)).getD c.length [] = [bI x] := by
 simp [zAS]
theorem zRu (c : List Int) (x : Int) : (zAS ((x :: c).reverse)).take c.length = zAS c.reverse := by
 simp [zAS]
theorem yBd : zAS [] = [] := rfl
theorem zVY {d : List Nd} {i : Nat} : yFq d i = ((decide (i ≠ 0) || decide (zBh d i = -1)) && (decide (i = 0) || !decide (zMi (zBh d i) (zBB d i ((i : Int) - 1)) = []))) := by
 unfold yFq
 by_cases h : i = 0
 ·simp [h]
 ·have := zPc (u := zBh d i) (zBB d i ((i : Int) - 1))
  simp only [h, if_false, ne_eq, not_false_eq_true, decide_true, Bool.true_or, Bool.true_and, decide_false, Bool.false_or, this]
  simp
theorem zVZ {d : List Nd} : ∀ (f : Nat) (k : Int), (zBB d f k).length ≤ f
 |0, _ => by simp [zBB]
 |f + 1, k => by
  simp only [zBB]
  split
  ·simp
  ·have := zVZ (d := d) f (zBh d k.toNat)
   simp; omega
theorem yBe (n : Nat) : ((((n + 1 : Nat) : Int)) - 1).toNat = n := by omega
theorem yBf {d : List Nd} {i : Nat} (hl : 1 ≤ d.length ∧ d.length ≤ 64) (hi : i < d.length) (h : zYF d i = false) : zAz d = 1 := by
 have : zDD d d.length = false := by
  cases hd : zDD d d.length with
  |false => rfl
  |true => rw [zBp hd hi] at h; cases h
 simp [zAz, hl, this]
theorem zPe (d : List Nd) : Contract Tryz.prog zES [.val (zIr d)] { res := .val (iv (zAz d)) } := by
 unfold zIr
 refine mkA zUV (base := 0) (fo rfl) (fun hfit => ?_)
 unfold F0 zOv
 simp (maxSteps := 2000000) only [zAH, List.set_cons_succ, List.set_cons_zero, List.map_cons, List.map_nil, zAG, zAa, ioOf, List.length_cons, List.length_nil, Nat.reduceAdd, Nat.reduceSub, List.replicate, List.cons_append, List.nil_append]
 try simp (maxSteps := 2000000) only [go_sem]
 repeat with_reducible refine zAb ?_
 refine zAc (by rfl) trivial (fun h => ?_) (fun h => ?_)
 ·try simp (maxSteps := 2000000) only [go_sem]
  repeat with_reducible refine zAb ?_
  refine zAe rfl trivial (.inl ?_)
  congr 3
  have hl : ¬ (1 ≤ d.length ∧ d.length ≤ 64) := by
   simp at h; omega
  simp [zAz, hl]
 have hl : 1 ≤ d.length ∧ d.length ≤ 64 := by
  simp at h; omega
 try simp (maxSteps := 2000000) only [go_sem]
 repeat with_reducible refine zAb ?_
 refine zAv (fun i : Nat => [(3, .stk zBk 1 (zAS (zBB d i ((i : Int) - 1)).reverse)), (4, .un), (5, .un), (19, .pv (iv i)), (20, .un), (37, .un), (63, .un), (69, .un), (70, .un), (71, .un), (72, .un), (73, .un)]) (fun i : Nat => d.length - i) (fun i : Nat => i ≤ d.length ∧ zDD d i = true) (0) ?_ ⟨Nat.zero_le _, rfl⟩ ?_
 focus (simp (maxSteps := 2000000) only [go_sem, zAi, zAs, zAF, zAj]; all_goals (repeat' (first | exact trivial | exact zAr (by omega) | exact zAk rfl | exact zAw rfl | exact zAt | exact le_refl _ | refine And.intro ?_ ?_)))
 intro i ⟨hi, hok⟩
 try simp (maxSteps := 2000000) only [go_sem]
 repeat with_reducible refine zAb ?_
 refine zAc (by rfl) trivial (fun h2 => ?_) (fun h2 => ?_)
 ·have hlt : i < d.length := by simpa using h2
  try simp (maxSteps := 2000000) only [go_sem, zCl _ _ hlt]
  repeat with_reducible refine zAb ?_
  have hcl := zVZ (d := d) i ((i : Int) - 1)
  have hx : zBh d i = (d.getD i default).up := rfl
  refine zAv (fun c : List Int => [(3, .stk zBk 1 (zAS c.reverse)), (37, .un)]) (fun c : List Int => c.length) (fun c : List Int => c.length ≤ i ∧ zMi (zBh d i) c = zMi (zBh d i) (zBB d i ((i : Int) - 1))) ((zBB d i ((i : Int) - 1))) ?_ ⟨hcl, rfl⟩ ?_
  focus (simp (maxSteps := 2000000) only [go_sem, zAi, zAs, zAF, zAj]; all_goals (repeat' (first | exact trivial | exact zAr (by omega) | exact zAk rfl | exact zAw rfl | exact zAt | exact le_refl _ | refine And.intro ?_ ?_)))
  intro c ⟨hcl, hc⟩
  cases c with
  |nil =>
   have hpop : zMi (zBh d i) (zBB d i ((i : Int) - 1)) = [] := by rw [← hc]; rfl
   have hup := zVY (d := d) (i := i)
   rw [hpop] at hup
   try simp (maxSteps := 2000000) only [go_sem, List.reverse_nil, yBd, List.getD_nil, List.headD_nil]
   repeat with_reducible refine zAb ?_
   refine zAc (by rfl) trivial (fun h3 => ?_) (fun h3 => ?_)
   ·simp at h3
   try simp (maxSteps := 2000000) only [go_sem]
   repeat with_reducible refine zAb ?_
   refine zUw (by repeat' constructor) (zRs (d.getD i default)) ?_
   try simp (maxSteps := 2000000) only [go_sem]
   repeat with_reducible refine zAb ?_
   refine zAc (by rfl) trivial (fun h4 => ?_) (fun h4 => ?_)
   ·try simp (maxSteps := 2000000) only [go_sem]
    repeat with_reducible refine zAb ?_
    refine zAe rfl trivial (.inl ?_)
    congr 3
    refine yBf hl hlt ?_
    rw [zYF, hup]
    grind
   ·try simp (maxSteps := 2000000) only [go_sem]
    repeat with_reducible refine zAb ?_
    have h5 : i = 0 := by grind
    have h6 : zYF d i = true := by
     rw [zYF, hup]
     grind
    refine ⟨i + 1, by omega, ⟨by omega, by rw [zRo, hok, h6]; rfl⟩, ?_⟩
    simp (maxSteps := 2000000) only [go_sem, zAi, zAs, zAF, zAj]
    all_goals (repeat' (first | exact trivial | exact zAr (by omega) | exact zAk rfl | exact zAw rfl | exact zAt | exact le_refl _ | refine And.intro ?_ ?_))
    refine zAw ?_
    subst h5
    have : zBh d 0 = -1 := by grind
    simp [zBB, this, zAS]
  |cons x c =>
   have hlen : c.length + 1 ≤ 64 := by simp at hcl; omega
   try simp (maxSteps := 2000000) only [go_sem, List.length_reverse, yBe, zRt, zRu]
   repeat with_reducible refine zAb ?_
   refine zAc (by rfl) trivial (fun h3 => ?_) (fun h3 => ?_)
   ·try simp (maxSteps := 2000000) only [go_sem, List.length_reverse, yBe, zRt, zRu]
    repeat with_reducible refine zAb ?_
    refine ⟨c, by omega, ⟨by simp at hcl; omega, ?_⟩, ?_⟩
    ·rw [← hc]
     simp only [zMi, List.dropWhile_cons]
     grind
    ·simp (maxSteps := 2000000) only [go_sem, zAi, zAs, zAF, zAj]
     all_goals (repeat' (first | exact trivial | exact zAr (by omega) | exact zAk rfl | exact zAw rfl | exact zAt | exact le_refl _ | refine And.intro ?_ ?_))
   have hxu : x = zBh d i := by grind
   have hpop : zMi (zBh d i) (zBB d i ((i : Int) - 1)) = x :: c := by rw [← hc]; simp [zMi, hxu]
   have hup := zVY (d := d) (i := i)
   rw [hpop] at hup
   try simp (maxSteps := 2000000) only [go_sem, List.length_reverse]
   repeat with_reducible refine zAb ?_
   refine zUw (by repeat' constructor) (zRs (d.getD i default)) ?_
   try simp (maxSteps := 2000000) only [go_sem]
   repeat with_reducible refine zAb ?_
   refine zAc (by rfl) trivial (fun h4 => ?_) (fun h4 => ?_)
   ·try simp (maxSteps := 2000000) only [go_sem]
    repeat with_reducible refine zAb ?_
    refine zAe rfl trivial (.inl ?_)
    congr 3
    refine yBf hl hlt ?_
    rw [zYF, hup]
    grind
   ·try simp (maxSteps := 2000000) only [go_sem]
    repeat with_reducible refine zAb ?_
    have hmem : zBh d i ∈ zBB d i ((i : Int) - 1) := by
     have := zPc (u := zBh d i) (zBB d i ((i : Int) - 1))
     rw [hpop] at this
     simpa using this
    have h5 : i ≠ 0 := by intro h0; subst h0; simp [zBB] at hmem
    have h6 : zYF d i = true := by
     rw [zYF, hup]
     grind
    refine ⟨i + 1, by omega, ⟨by omega, by rw [zRo, hok, h6]; rfl⟩, ?_⟩
    simp (maxSteps := 2000000) only [go_sem, zAi, zAs, zAF, zAj]
    all_goals (repeat' (first | exact trivial | exact zAr (by omega) | exact zAk rfl | exact zAw rfl | exact zAt | exact le_refl _ | refine And.intro ?_ ?_))
    refine zAw ?_
    have hups : ∀ j : Nat, (j : Int) ≤ (i : Int) - 1 → zBh d j < j := fun j hj => (zBj hok j (by omega)).2
    have hb := zDx i ((i : Int) - 1) hups _ hmem
    have hch := zPd i ((i : Int) - 1) hups (by omega) hmem i (by omega)
    rw [hpop] at hch
    have : zBB d (i + 1) (((i + 1 : Nat) : Int) - 1) = (i : Int) :: x :: c := by
     rw [show (((i + 1 : Nat) : Int) - 1) = (i : Int) by omega]
     simp only [zBB]
     rw [if_neg (by omega), hch]
     simp
    rw [this]
    simp [zAS]
 ·try simp (maxSteps := 2000000) only [go_sem]
  repeat with_reducible refine zAb ?_
  refine zAe rfl trivial (.inl ?_)
  congr 3
  have hi2 : i = d.length := by simp at h2; omega
  subst hi2
  simp [zAz, hl, hok]
end Go.Hx
end

section
set_option maxRecDepth 100000
set_option linter.unusedSimpArgs false
namespace Go.Hx
open Go.Proofs
variable [Glob] [GlobL]
attribute [local go_sem] zAq zAo zAp zAg ndV zAl zAh fdV shV zBo zA3 zBr zBq
attribute [local go_sem] reduceCtorEq Nat.reduceAdd Nat.reduceEqDiff reduceIte Nat.reduceLeDiff Nat.reduceLT Nat.reduceSub
theorem yBh (N : Nat) (ih : yIR Tryz.prog N) (s : St) (d K : Nat) (c : Fd) (hN : SizeOf.sizeOf s ≤ N + 1) (hd : d ≤ 3) (hc : c.le K) (hK : K + bdS d ≤ 1000000000) : Contract Tryz.prog zCn [.io (fdV c), .val (.agg (stV s)), .val (iv d)] { res := .tup [], io := fdV (c.add (ntS s d)) } := by
 rw [zRd]
 unfold fdV
 refine mkA zMb (base := 121) ⟨Nat.le_of_ble_eq_true rfl, Nat.le_of_ble_eq_true rfl, Nat.le_of_ble_eq_true rfl, ⟨rfl, rfl⟩⟩ (fun hfit => ?_)
 unfold F0 zGB
 simp (maxSteps := 2000000) only [zAH, List.set_cons_succ, List.set_cons_zero, List.map_cons, List.map_nil, zAG, zAa, ioOf, List.length_cons, List.length_nil, Nat.reduceAdd, Nat.reduceSub, List.replicate, List.cons_append, List.nil_append]
 try simp (maxSteps := 2000000) only [go_sem]
 repeat with_reducible refine zAb ?_
 have hbs : bdS d = 1 + 6 * bdT d := rfl
 have hbt : bdT d = 5 + bd (d + 1) := rfl
 refine zAc (by rfl) trivial (fun h => ?_) (fun h => ?_)
 ·have e : ntS s d = fM true := by rw [yDx, if_pos (by simp at h; omega)]
  have hm := hc.m
  try simp (maxSteps := 2000000) only [go_sem]
  repeat with_reducible refine zAb ?_
  refine zDw (by repeat' constructor) (zTN c true (by omega)) ?_
  try simp (maxSteps := 2000000) only [go_sem]
  repeat with_reducible refine zAb ?_
  rw [e]
  exact zSd rfl rfl
 ·have hl6 : s.tests.length ≤ 6 := by simp at h; omega
  have e : ntS s d = (fF (!(s.tag == []) && !zCC s.tag)).add (zYL s.tests d) := by rw [yDx, if_neg (by omega)]
  rw [e]
  try simp (maxSteps := 2000000) only [go_sem]
  repeat with_reducible refine zAb ?_
  have hf := hc.f
  apply zAE (h2 := fun _ => zD8 s.tag)
  ·(simp (maxSteps := 2000000) only [go_sem]; rfl)
  ·intro h; repeat' (first | exact trivial | exact h | refine And.intro ?_ ?_)
  try simp (maxSteps := 2000000) only [go_sem]
  repeat with_reducible refine zAb ?_
  refine zDw (by repeat' constructor) (zNv c (bif !(s.tag == []) then !zCC s.tag else false) (by omega)) ?_
  try simp (maxSteps := 2000000) only [go_sem, Bool.cond_false_right]
  repeat with_reducible refine zAb ?_
  obtain ⟨c1, hc1⟩ : ∃ c1, c1 = c.add (fF (!(s.tag == []) && !zCC s.tag)) := ⟨_, rfl⟩
  have hc2 : c1.le (K + 1) := by rw [hc1]; exact hc.le_add (zUH _)
  rw [← Fd.add_assoc, ← hc1]
  have hK0 : K + 1 + (s.tests.length - 0) * bdT d ≤ 1000000000 := by
   have : (s.tests.length - 0) * bdT d ≤ 6 * bdT d := Nat.mul_le_mul_right _ (by omega)
   omega
  refine zAv (fun x : Nat × Fd => [(7, .un), (8, .un), (9, .un), (30, .pv (iv x.1)), (31, .un), (113, .un), (122, .pv (.one (bI x.2.f))), (123, .pv (.one (bI x.2.m))), (124, .pv (.one (bI x.2.r))), (125, .pv (.one (bI x.2.k)))]) (fun x : Nat × Fd => s.tests.length - x.1) (fun x : Nat × Fd => x.1 ≤ s.tests.length ∧ (∃ K', x.2.le K' ∧ K' + (s.tests.length - x.1) * bdT d ≤ 1000000000) ∧ x.2.add (zYL (s.tests.drop x.1) d) = c1.add (zYL s.tests d)) ((0, c1)) ?_ ⟨Nat.zero_le _, ⟨K + 1, hc2, hK0⟩, by simp⟩ ?_
  focus (simp (maxSteps := 2000000) only [go_sem, zAi, zAs, zAF, zAj]; all_goals (repeat' (first | exact trivial | exact zAr (by omega) | exact zAk rfl | exact zAw rfl | exact zAt | exact le_refl _ | refine And.intro ?_ ?_)))
  rintro ⟨i, a⟩ ⟨hi, ⟨K', ha, hK'⟩, hsum⟩
  simp only at hi ha hK' hsum
  try simp (maxSteps := 2000000) only [go_sem]
  repeat with_reducible refine zAb ?_
  refine zAc (by rfl) trivial (fun h2 => ?_) (fun h2 => ?_)
  ·have hil : i < s.tests.length := by simp at h2; omega
   rw [zD4 (d := default) hil] at hsum
   obtain ⟨t, ht⟩ : ∃ t, t = s.tests.getD i default := ⟨_, rfl⟩
   rw [← ht] at hsum
   have hg := zSi s.tests i hil
   rw [← ht, zMF] at hg
   have hsz : SizeOf.sizeOf t.list ≤ N := by
    have h3 := yEM t
    have h4 := yII hil
    rw [← ht] at h4
    have h5 := yCr s
    omega
   have hmul : (s.tests.length - i) * bdT d = bdT d + (s.tests.length - (i + 1)) * bdT d := by
    have : s.tests.length - i = (s.tests.length - (i + 1)) + 1 := by omega
    rw [this, Nat.add_mul]; omega
   have hbp := zSn (4 - (d + 1))
   have hbe : bd (d + 1) = bdF (4 - (d + 1)) := rfl
   simp only [zYL, yG8, yBO] at hsum
   try simp (maxSteps := 2000000) only [go_sem, hg]
   repeat with_reducible refine zAb ?_
   refine zBA (by repeat' constructor) (yA5 t.kind) ?_
   try simp (maxSteps := 2000000) only [go_sem, hg]
   repeat with_reducible refine zAb ?_
   have a1 := ha.k
   refine zDw (by repeat' constructor) (zYQ a (!kOk t.kind) (by omega)) ?_
   try simp (maxSteps := 2000000) only [go_sem]
   repeat with_reducible refine zAb ?_
   obtain ⟨b1, hb1⟩ : ∃ b1, b1 = a.add (fK (!kOk t.kind)) := ⟨_, rfl⟩
   have l1 : b1.le (K' + 1) := by rw [hb1]; exact ha.le_add (yEP _)
   rw [← hb1]
   have a2 := l1.f
   apply zAE (h2 := fun _ => zD8 t.name)
   ·(simp (maxSteps := 2000000) only [go_sem]; rfl)
   ·intro h; repeat' (first | exact trivial | exact h | refine And.intro ?_ ?_)
   try simp (maxSteps := 2000000) only [go_sem]
   repeat with_reducible refine zAb ?_
   refine zDw (by repeat' constructor) (zNv b1 _ (by omega)) ?_
   try simp (maxSteps := 2000000) only [go_sem, Bool.cond_false_right, Bool.cond_true_left]
   repeat with_reducible refine zAb ?_
   obtain ⟨b2, hb2⟩ : ∃ b2, b2 = b1.add (fF (yDv t)) := ⟨_, rfl⟩
   have l2 : b2.le (K' + 1 + 1) := by rw [hb2]; exact l1.le_add (zUH _)
   unfold yDv at hb2
   rw [← hb2]
   have a3 := l2.f
   apply zAE (h2 := fun _ => zPb t.value)
   ·(simp (maxSteps := 2000000) only [go_sem]; rfl)
   ·intro h; repeat' (first | exact trivial | exact h | refine And.intro ?_ ?_)
   try simp (maxSteps := 2000000) only [go_sem]
   repeat with_reducible refine zAb ?_
   refine zDw (by repeat' constructor) (zNv b2 _ (by omega)) ?_
   try simp (maxSteps := 2000000) only [go_sem, Bool.cond_false_right, Bool.cond_true_left]
   repeat with_reducible refine zAb ?_
   obtain ⟨b3, hb3⟩ : ∃ b3, b3 = b2.add (fF (yDw t)) := ⟨_, rfl⟩
   have l3 : b3.le (K' + 1 + 1 + 1) := by rw [hb3]; exact l2.le_add (zUH _)
   unfold yDw at hb3
   rw [← hb3]
   have a4 := l3.f
   have e3 : decide (0 < (t.list.length : Int)) = decide (0 < t.list.length) := decide_eq_decide.2 (by omega)
   refine zDw (by repeat' constructor) (zNv b3 _ (by omega)) ?_
   try simp (maxSteps := 2000000) only [go_sem, Bool.cond_false_right, Bool.cond_true_left, e3]
   repeat with_reducible refine zAb ?_
   obtain ⟨b4, hb4⟩ : ∃ b4, b4 = b3.add (fF (yCu t)) := ⟨_, rfl⟩
   have l4 : b4.le (K' + 1 + 1 + 1 + 1) := by rw [hb4]; exact l3.le_add (zUH _)
   unfold yCu at hb4
   rw [← hb4]
   have a5 := l4.r
   refine zAu (by repeat' constructor) (zPh t.na t.nb) ?_
   try simp (maxSteps := 2000000) only [go_sem]
   repeat with_reducible refine zAb ?_
   refine zDw (by repeat' constructor) (yCJ b4 _ (by omega)) ?_
   try simp (maxSteps := 2000000) only [go_sem]
   repeat with_reducible refine zAb ?_
   obtain ⟨b5, hb5⟩ : ∃ b5, b5 = b4.add (fR (zSm t.na t.nb != 0)) := ⟨_, rfl⟩
   have l5 : b5.le (K' + 1 + 1 + 1 + 1 + 1) := by rw [hb5]; exact l4.le_add (yHc _)
   rw [← hb5]
   have hT : b5 = a.add (yBO t) := by
    rw [hb5, hb4, hb3, hb2, hb1]
    simp only [yBO, kOk, yDv, yDw, yCu, Fd.add_assoc]
    congr 6
   refine zAc (by rfl) trivial (fun h3 => ?_) (fun h3 => ?_)
   ·rw [if_pos h3, ← Fd.add_assoc, ← Fd.add_assoc] at hsum
    have hst := ih.1 t.list (d + 1) (K' + 5) b5 hsz (by omega) l5 (by omega)
    unfold fdV zBo at hst
    rw [show ((d + 1 : Nat) : Int) = (d : Int) + 1 by omega] at hst
    try simp (maxSteps := 2000000) only [go_sem]
    repeat with_reducible refine zAb ?_
    refine zDw (by repeat' constructor) (hst) ?_
    try simp (maxSteps := 2000000) only [go_sem]
    repeat with_reducible refine zAb ?_
    refine ⟨(i + 1, b5.add (ntL t.list (d + 1))), by simp only; omega, ⟨by simp only; omega, ⟨K' + 5 + bd (d + 1), l5.le_add (b_L _ _), by simp only; omega⟩, ?_⟩, ?_⟩
    ·simp only
     rw [← hsum, hT]
     rfl
    ·simp (maxSteps := 2000000) only [go_sem, zAi, zAs, zAF, zAj]
     all_goals (repeat' (first | exact trivial | exact zAr (by omega) | exact zAk rfl | exact zAw rfl | exact zAt | exact le_refl _ | refine And.intro ?_ ?_))
   ·rw [if_neg (by rw [h3]; simp)] at hsum
    try simp (maxSteps := 2000000) only [go_sem]
    repeat with_reducible refine zAb ?_
    refine ⟨(i + 1, b5), by simp only; omega, ⟨by simp only; omega, ⟨K' + 5, l5, by simp only; omega⟩, ?_⟩, ?_⟩
    ·simp only
     rw [← hsum, hT]
     simp only [yBO, Fd.add_assoc, Fd.zero_add]
    ·simp (maxSteps := 2000000) only [go_sem, zAi, zAs, zAF, zAj]
     all_goals (repeat' (first | exact trivial | exact zAr (by omega) | exact zAk rfl | exact zAw rfl | exact zAt | exact le_refl _ | refine And.intro ?_ ?_))
  ·have hil : i = s.tests.length := by simp at h2; omega
   subst hil
   rw [List.drop_length] at hsum
   try simp (maxSteps := 2000000) only [go_sem]
   repeat with_reducible refine zAb ?_
   rw [← hsum]
   exact zB5 rfl rfl
theorem yBi (l : List Pt) : 0 < SizeOf.sizeOf l := by cases l <;> simp <;> omega
theorem yBj (s : St) : 0 < SizeOf.sizeOf s := by cases s; simp only [St.mk.sizeOf_spec]; omega
theorem zTY : ∀ N, yIR Tryz.prog N
 |0 => ⟨fun l d K c h => by have := yBi l; omega, fun s d K c h => by have := yBj s; omega⟩
 |N + 1 => ⟨fun l d K c h1 h2 h3 h4 => yA6 N (zTY N) l d K c h1 h2 h3 h4, fun s d K c h1 h2 h3 h4 => yBh N (zTY N) s d K c h1 h2 h3 h4⟩
theorem zNj (l : List Pt) : Contract Tryz.prog zBu [.io (fdV fd0), .val (zBo l), .val (iv 1)] { res := .tup [], io := fdV (ntL l 1) } := by
 have h := (zTY (SizeOf.sizeOf l)).1 l 1 0 fd0 (Nat.le_refl _) (by omega) (zUI 0) (by have := yHb; omega)
 rw [Fd.zero_add] at h
 exact h
theorem zMS (l : List Pt) : Contract Tryz.prog zD1 [.val (zBo l)] { res := .val (iv (zCD l)) } := by
 rw [← yHa]
 have hc := zNj l
 obtain ⟨c, hcc⟩ : ∃ c, c = ntL l 1 := ⟨_, rfl⟩
 rw [← hcc] at hc ⊢
 unfold zBo
 refine mkA zSS (base := 0) (fo rfl) (fun hfit => ?_)
 unfold F0 zML
 simp (maxSteps := 2000000) only [zAH, List.set_cons_succ, List.set_cons_zero, List.map_cons, List.map_nil, zAG, zAa, ioOf, List.length_cons, List.length_nil, Nat.reduceAdd, Nat.reduceSub, List.replicate, List.cons_append, List.nil_append]
 try simp (maxSteps := 2000000) only [go_sem]
 repeat with_reducible refine zAb ?_
 unfold fdV zBo at hc
 refine zDw (by repeat' constructor) (hc) ?_
 try simp (maxSteps := 2000000) only [go_sem]
 repeat with_reducible refine zAb ?_
 refine zAu (by repeat' constructor) (zVR) ?_
 try simp (maxSteps := 2000000) only [go_sem]
 repeat with_reducible refine zAb ?_
 refine zAv (fun i : Nat => [(5, .un), (12, .pv (iv i)), (13, .un), (21, .un)]) (fun i : Nat => 4 - i) (fun i : Nat => i ≤ 4 ∧ (1 ≤ i → c.m = 0) ∧ (2 ≤ i → c.k = 0) ∧ (3 ≤ i → c.f = 0) ∧ (4 ≤ i → c.r = 0)) (0) ?_ ⟨by omega, by omega, by omega, by omega, by omega⟩ ?_
 focus (simp (maxSteps := 2000000) only [go_sem, zAi, zAs, zAF, zAj]; all_goals (repeat' (first | exact trivial | exact zAr (by omega) | exact zAk rfl | exact zAw rfl | exact zAt | exact le_refl _ | refine And.intro ?_ ?_)))
 rintro i ⟨hi, h1, h2, h3, h4⟩
 try simp (maxSteps := 2000000) only [go_sem]
 repeat with_reducible refine zAb ?_
 refine zAc (by rfl) trivial (fun h => ?_) (fun h => ?_)
 ·have hlt : i < 4 := by simp at h; omega
  have hcase : i = 0 ∨ i = 1 ∨ i = 2 ∨ i = 3 := by omega
  rcases hcase with rfl | rfl | rfl | rfl
  ·try simp (maxSteps := 2000000) only [go_sem, Int.reduceToNat, Int.toNat_natCast, List.getD_cons_zero, List.getD_cons_succ, PV.norm, Int.cast_ofNat_Int]
   repeat with_reducible refine zAb ?_
   refine zAc (by rfl) trivial (fun h5 => ?_) (fun h5 => ?_)
   ·try simp (maxSteps := 2000000) only [go_sem]
    repeat with_reducible refine zAb ?_
    refine zAe rfl trivial (.inl ?_)
    congr 3
    have h6 : 0 < c.m := by simp at h5; omega
    unfold yEN
    simp [ h6]
   ·try simp (maxSteps := 2000000) only [go_sem]
    repeat with_reducible refine zAb ?_
    have h6 : c.m = 0 := by simp at h5; omega
    refine ⟨1, by omega, ⟨by omega, fun _ => h6, by omega, by omega, by omega⟩, ?_⟩
    simp (maxSteps := 2000000) only [go_sem, zAi, zAs, zAF, zAj]
    all_goals (repeat' (first | exact trivial | exact zAr (by omega) | exact zAk rfl | exact zAw rfl | exact zAt | exact le_refl _ | refine And.intro ?_ ?_))
  ·try simp (maxSteps := 2000000) only [go_sem, Int.reduceToNat, Int.toNat_natCast, List.getD_cons_zero, List.getD_cons_succ, PV.norm, Int.cast_ofNat_Int]
   repeat with_reducible refine zAb ?_
   refine zAc (by rfl) trivial (fun h5 => ?_) (fun h5 => ?_)
   ·try simp (maxSteps := 2000000) only [go_sem]
    repeat with_reducible refine zAb ?_
    refine zAe rfl trivial (.inl ?_)
    congr 3
    have h6 : 0 < c.k := by simp at h5; omega
    unfold yEN
    simp [h1 (by omega),  h6]
   ·try simp (maxSteps := 2000000) only [go_sem]
    repeat with_reducible refine zAb ?_
    have h6 : c.k = 0 := by simp at h5; omega
    refine ⟨2, by omega, ⟨by omega, fun _ => h1 (by omega), fun _ => h6, by omega, by omega⟩, ?_⟩
    simp (maxSteps := 2000000) only [go_sem, zAi, zAs, zAF, zAj]
    all_goals (repeat' (first | exact trivial | exact zAr (by omega) | exact zAk rfl | exact zAw rfl | exact zAt | exact le_refl _ | refine And.intro ?_ ?_))
  ·try simp (maxSteps := 2000000) only [go_sem, Int.reduceToNat, Int.toNat_natCast, List.getD_cons_zero, List.getD_cons_succ, PV.norm, Int.cast_ofNat_Int]
   repeat with_reducible refine zAb ?_
   refine zAc (by rfl) trivial (fun h5 => ?_) (fun h5 => ?_)
   ·try simp (maxSteps := 2000000) only [go_sem]
    repeat with_reducible refine zAb ?_
    refine zAe rfl trivial (.inl ?_)
    congr 3
    have h6 : 0 < c.f := by simp at h5; omega
    unfold yEN
    simp [h1 (by omega), h2 (by omega),  h6]
   ·try simp (maxSteps := 2000000) only [go_sem]
    repeat with_reducible refine zAb ?_
    have h6 : c.f = 0 := by simp at h5; omega
    refine ⟨3, by omega, ⟨by omega, fun _ => h1 (by omega), fun _ => h2 (by omega), fun _ => h6, by omega⟩, ?_⟩
    simp (maxSteps := 2000000) only [go_sem, zAi, zAs, zAF, zAj]
    all_goals (repeat' (first | exact trivial | exact zAr (by omega) | exact zAk rfl | exact zAw rfl | exact zAt | exact le_refl _ | refine And.intro ?_ ?_))
  ·try simp (maxSteps := 2000000) only [go_sem, Int.reduceToNat, Int.toNat_natCast, List.getD_cons_zero, List.getD_cons_succ, PV.norm, Int.cast_ofNat_Int]
   repeat with_reducible refine zAb ?_
   refine zAc (by rfl) trivial (fun h5 => ?_) (fun h5 => ?_)
   ·try simp (maxSteps := 2000000) only [go_sem]
    repeat with_reducible refine zAb ?_
    refine zAe rfl trivial (.inl ?_)
    congr 3
    have h6 : 0 < c.r := by simp at h5; omega
    unfold yEN
    simp [h1 (by omega), h2 (by omega), h3 (by omega),  h6]
   ·try simp (maxSteps := 2000000) only [go_sem]
    repeat with_reducible refine zAb ?_
    have h6 : c.r = 0 := by simp at h5; omega
    refine ⟨4, by omega, ⟨by omega, fun _ => h1 (by omega), fun _ => h2 (by omega), fun _ => h3 (by omega), fun _ => h6⟩, ?_⟩
    simp (maxSteps := 2000000) only [go_sem, zAi, zAs, zAF, zAj]
    all_goals (repeat' (first | exact trivial | exact zAr (by omega) | exact zAk rfl | exact zAw rfl | exact zAt | exact le_refl _ | refine And.intro ?_ ?_))
 ·have hi4 : i = 4 := by simp at h; omega
  try simp (maxSteps := 2000000) only [go_sem]
  repeat with_reducible refine zAb ?_
  refine zAe rfl trivial (.inl ?_)
  congr 3
  unfold yEN
  simp [h1 (by omega), h2 (by omega), h3 (by omega), h4 (by omega)]
end Go.Hx
end

section
set_option maxRecDepth 100000
set_option linter.unusedSimpArgs false
namespace Go.Hx
open Go.Proofs
variable [Glob] [GlobL]
attribute [local go_sem] zAq zAo zAp zAg ndV zAl zAh zBo zA3 zBr zBq
end Go.Hx
end

section
set_option maxRecDepth 100000
set_option linter.unusedSimpArgs false
namespace Go.Hx
open Go.Proofs
variable [Glob] [GlobL]
attribute [local go_sem] zAq zAo zAp zAg ndV zAl zAh zBo zA3 zBr zBq
end Go.Hx
end

section
set_option maxRecDepth 100000
set_option linter.unusedSimpArgs false
set_option maxHeartbeats 2000000
namespace Go.Hx
open Go.Proofs
variable [Glob] [GlobL]
attribute [local go_sem] zAq zAo zAp zAg ndV zAl zAh zBo zA3 zBr zBq
end Go.Hx
end

section
set_option maxRecDepth 100000
set_option linter.unusedSimpArgs false
namespace Go.Hx
open Go.Proofs
variable [Glob] [GlobL]
attribute [local go_sem] zAq zAo zAp zAg ndV zAl zAh zIr List.take_nil zA3
def zTZ (d : List Nd) (l : List Pt) (k : Nat) : List Int := ((List.range k).filter (lM d l)).map Int.ofNat
def yFA (d : List Nd) (l : List Pt) : List Int := zTZ d l d.length
def zLh (d : List Nd) (l : List Pt) (n : Int) : Int := if zAz d ≠ 0 then zAz d else if zCD l ≠ 0 then zCD l else yBc d n
theorem yHn {d : List Nd} (hd : zAz d = 0) : 1 ≤ d.length ∧ d.length ≤ 64 ∧ zDD d d.length = true := by
 unfold zAz at hd
 split at hd
 ·rename_i h
  split at hd
  ·rename_i h'; exact ⟨h.1, h.2, h'⟩
  ·omega
 ·omega
theorem zRv {d : List Nd} {l : List Pt} {k : Nat} : zTZ d l (k + 1) = if lM d l k then zTZ d l k ++ [(k : Int)] else zTZ d l k := by
 unfold zTZ
 rw [List.range_succ, List.filter_append, List.map_append]
 by_cases h : lM d l k = true <;> simp [List.filter, h]
theorem zV2 {d : List Nd} {l : List Pt} (k : Nat) : (zTZ d l k).length ≤ k := by
 unfold zTZ
 rw [List.length_map]
 exact Nat.le_trans (List.length_filter_le _ _) (by simp)
end Go.Hx
end

section
set_option maxRecDepth 100000
set_option linter.unusedSimpArgs false
namespace Go.Hx
open Go.Proofs
variable [Glob] [GlobL]
attribute [local go_sem] zAq zAo zAp zAg ndV zAl zAh zIr atV OVal.cells zWz List.drop_succ_cons List.drop_zero List.take_succ_cons List.take_zero List.getD_nil zYD zGy Nat.sub_zero List.map_nil List.map_cons yBl yBm zBe zJe zEf zAa
attribute [local go_sem ↓] yED yEE yG4 yG3 yG5
attribute [local go_sem] reduceCtorEq Nat.reduceAdd Nat.reduceEqDiff reduceIte Nat.reduceLeDiff Nat.reduceLT Nat.reduceSub
def ahd (d : List Nd) (n : Nat) : Int := ((zAK d (zBh d n) n).getLast?).getD (-1)
def plc (d : List Nd) (n : Nat) : Int := (zAK d (zBh d n) n).length + 1
def ofN (d : List Nd) (n : Nat) : Int := if 0 ≤ zBh d n then (zIb d (zBh d n)).length else 1
def zV3 (d : List Nd) : List (List PV) := (List.range d.length).map fun n => [bI (plc d n), bI (ofN d n), bI (ahd d n), bI (zCz d n), bI (zIb d n).length]
def zBm (d : List Nd) : PV := .fp [.sl 5 (zMC d), .sl 5 (zV3 d)]
def stF (d : List Nd) (i j : Nat) : List OV := zJc (if j < i then plc d j else 0) 0 (if j < i then ahd d j else 0) (zAT d j i) (zAK d j i).length
theorem zLi (d : List Nd) (u : Int) : zAK d u 0 = [] := rfl
theorem zV4 (d : List Nd) (u : Int) : zAT d u 0 = 0 := rfl
theorem yIU (d : List Nd) (L : Nat) : List.replicate L [OV.p (bI 0), .p (bI 0), .p (bI 0), .p (bI 0), .p (bI 0)] = zD6 L (stF d 0) := by
 rw [yBn]
 refine zAV fun j _ => ?_
 simp [stF, zLi, zV4]
theorem zGb {d : List Nd} {u p : Int} : ∀ {i : Nat}, (zAK d u i).getLast? = some p → ∃ m : Nat, m < i ∧ p = m ∧ zBh d m = u ∧ zAK d u i = zAK d u m ++ [(m : Int)]
 |0, h => by rw [zLi] at h; cases h
 |i + 1, h => by
  rw [zAU] at h
  by_cases e : zBh d i = u
  ·rw [if_pos e] at h
   have hp : p = i := by simpa using h.symm
   exact ⟨i, by omega, hp, e, by rw [zAU, if_pos e]⟩
  ·rw [if_neg e] at h
   obtain ⟨m, h1, h2, h3, h4⟩ := zGb h
   exact ⟨m, by omega, h2, h3, by rw [zAU, if_neg e, h4]⟩
def inF (d : List Nd) (i : Nat) (u k : Int) (j : Nat) : List OV := zJc (if j < i + 1 then plc d j else 0) 0 (if j < i + 1 then ahd d j else 0) (zAT d j i + if (C d u).contains (j : Int) && decide (k < j) then 1 else 0) (zAK d j (i + 1)).length
theorem zT0 {d : List Nd} {i : Nat} {u k : Int} (hu : u = zBh d i) (hk : k < 0) (j : Nat) : inF d i u k j = stF d (i + 1) j := by
 unfold inF stF
 have h1 : decide (k < (j : Int)) = true := by simp; omega
 rw [zIa, h1, Bool.and_true, ← hu]
 rfl
theorem zLj {d : List Nd} (hd : zDD d d.length = true) {i : Nat} {u : Int} (hu : u < d.length) (j : Nat) : inF d i u u j = zJc (if j < i + 1 then plc d j else 0) 0 (if j < i + 1 then ahd d j else 0) (zAT d j i) (zAK d j (i + 1)).length := by
 unfold inF
 have : ((C d u).contains (j : Int) && decide (u < j)) = false := by
  cases hc : (C d u).contains (j : Int) with
  |false => rfl
  |true =>
   have := (yFB hd hu (by simpa using hc)).2
   simp; omega
 rw [this]
 simp
theorem zNx {d : List Nd} (hd : zDD d d.length = true) {i q : Nat} {u : Int} (hu : u < d.length) (hq : (q : Int) ∈ C d u) (j : Nat) : inF d i u (zBh d q) j = if j = q then zJc (if q < i + 1 then plc d q else 0) 0 (if q < i + 1 then ahd d q else 0) (zAT d q i + (if (C d u).contains (q : Int) && decide ((q : Int) < q) then 1 else 0) + 1) (zAK d q (i + 1)).length else inF d i u q j := by
 have hql := (yFB hd hu hq)
 have hub := zBj hd q (by omega)
 by_cases h : j = q
 ·subst h
  rw [if_pos rfl]
  unfold inF
  have h1 : (C d u).contains (j : Int) = true := by simpa using hq
  have h2 : decide (zBh d j < (j : Int)) = true := by simp; omega
  have h3 : decide ((j : Int) < (j : Int)) = false := by simp
  rw [h1, h2, h3]
  simp
 ·rw [if_neg h]
  unfold inF
  have : ((C d u).contains (j : Int) && decide (zBh d q < (j : Int))) = ((C d u).contains (j : Int) && decide ((q : Int) < j)) := by
   cases hc : (C d u).contains (j : Int) with
   |false => rfl
   |true =>
    have hj : (j : Int) ∈ C d u := by simpa using hc
    obtain ⟨u', rfl⟩ : ∃ u' : Nat, u = u' := ⟨u.toNat, by omega⟩
    rw [Bool.true_and, Bool.true_and]
    rw [decide_eq_decide]
    constructor
    ·intro h1
     by_cases h2 : (q : Int) < j
     ·exact h2
     ·exfalso
      have h3 := yIT hd u' (by omega) hq hj (by omega)
      have h4 := (yFB hd (k := zBh d q) (by omega) h3).2
      omega
    ·intro h1; omega
  rw [this]
def fiF (d : List Nd) (i j : Nat) : List OV := zJc (plc d j) (if j < i then ofN d j else 0) (ahd d j) (zCz d j) (zIb d j).length
theorem yBo (d : List Nd) : zD6 d.length (stF d d.length) = zD6 d.length (fiF d 0) := by
 refine zAV fun j hj => ?_
 simp [stF, fiF, hj, zCz, zIb]
theorem yCX (d : List Nd) (b e : Nat) : (OV.os (some b) e 5 (zD6 d.length (fiF d d.length))).frz = some (.sl 5 (zV3 d)) := by
 have h : zD6 d.length (fiF d d.length) = (zV3 d).map fun r => r.map OV.p := by
  rw [zD6, zV3, List.map_map]
  refine List.map_congr_left fun j hj => ?_
  have := List.mem_range.1 hj
  simp [fiF, this]
 rw [h]
 exact yAL (zKy _)
set_option maxHeartbeats 32000000 in
theorem zZW (d : List Nd) (hd : zAz d = 0) : Contract Tryz.prog zJC [.val (zIr d)] { res := .val (.one (zBm d)) } := by
 obtain ⟨d1, d2, d3⟩ := yHn hd
 unfold zIr
 refine mkA zXv (base := 0) (fo rfl) (fun hfit => ?_)
 unfold F0 zRi
 simp (maxSteps := 2000000) only [zAH, List.set_cons_succ, List.set_cons_zero, List.map_cons, List.map_nil, zAG, zAa, ioOf, List.length_cons, List.length_nil, Nat.reduceAdd, Nat.reduceSub, List.replicate, List.cons_append, List.nil_append]
 try simp (maxSteps := 2000000) only [go_sem]
 repeat with_reducible refine zAb ?_
 intro bw
 refine yHo (fun bm => ?_)
 try simp (maxSteps := 2000000) only [go_sem]
 repeat with_reducible refine zAb ?_
 refine zAv (fun x : Nat × List (Int × Int) => [(24, .pv (iv x.1)), (20, .ov (.one (yAc bm x.2))), (163, .ov (.one (.os (some bw) zBX 5 (zD6 d.length (stF d x.1))))), (5, .un), (6, .un), (7, .un), (8, .un), (9, .un), (10, .un), (25, .un), (43, .un), (72, .un), (91, .un), (107, .un), (164, .un), (165, .un), (166, .un), (167, .un), (168, .un)]) (fun x : Nat × List (Int × Int) => d.length - x.1) (fun x : Nat × List (Int × Int) => x.1 ≤ d.length ∧ ∀ u, zPE x.2 u = (zAK d u x.1).getLast?) ((0, [])) ?_ ⟨Nat.zero_le _, fun u => rfl⟩ ?_
 focus (simp (maxSteps := 2000000) only [go_sem, zAi, zAs, zAF, zAj]; all_goals (repeat' (first | exact trivial | exact zAr (by omega) | exact zAk rfl | exact zAw rfl | exact zAt | exact le_refl _ | refine And.intro ?_ ?_)))
 ·refine zAw ?_
  rw [← yIU]
 rintro ⟨i, ml⟩ ⟨hi, hml⟩
 simp only at hi hml
 try simp (maxSteps := 2000000) only [go_sem]
 repeat with_reducible refine zAb ?_
 refine zAc (by rfl) trivial (fun g1 => ?_) (fun g1 => ?_)
 ·have hil : i < d.length := by simpa using g1
  have hv := zCl d i hil
  rw [ndV] at hv
  obtain ⟨u, hu⟩ : ∃ u, u = zBh d i := ⟨_, rfl⟩
  have hup : (d.getD i default).up = u := hu.symm
  rw [hup] at hv
  have hub := zBj d3 i hil
  rw [← hu] at hub
  have hget := fun g => zCF hil g
  obtain ⟨U, hU⟩ : ∃ U, U = zAT d i i := ⟨_, rfl⟩
  obtain ⟨K, hK⟩ : ∃ K, K = (zAK d i i).length := ⟨_, rfl⟩
  have hst : stF d i i = zJc 0 0 0 U K := by simp [stF, hU, hK]
  try simp (maxSteps := 2000000) only [go_sem, hv, hget, hst, zJc]
  repeat with_reducible refine zAb ?_
  refine yFb rfl rfl rfl ?_
  have hgi := hml u
  cases hlast : (zAK d u i).getLast? with
  |none =>
   rw [hlast] at hgi
   have hahd : ahd d i = -1 := by rw [ahd, ← hu, hlast]; rfl
   have hplc : plc d i = 1 := by
    rw [List.getLast?_eq_none_iff] at hlast
    rw [plc, ← hu, hlast]; rfl
   try simp (maxSteps := 2000000) only [go_sem, hgi, Option.isSome_none, Option.getD_none]
   repeat with_reducible refine zAb ?_
   refine zAc (by rfl) trivial (fun g2 => ?_) (fun g2 => ?_)
   ·simp at g2
   try simp (maxSteps := 2000000) only [go_sem, hv, hget, hst, zJc]
   repeat with_reducible refine zAb ?_
   refine yFa rfl rfl rfl rfl (by decide) ?_
   try simp (maxSteps := 2000000) only [go_sem, hv, hget, hst, zJc]
   repeat with_reducible refine zAb ?_
   refine zAc (by rfl) trivial (fun g3 => ?_) (fun g3 => ?_)
   ·simp at g3
   try simp (maxSteps := 2000000) only [go_sem, hv, hget, hst, zJc]
   repeat with_reducible refine zAb ?_
   refine zAc (by rfl) trivial (fun g4 => ?_) (fun g4 => ?_)
   ·have hu0 : 0 ≤ u := by simpa using g4
    obtain ⟨q, rfl⟩ : ∃ q : Nat, u = q := ⟨u.toNat, by omega⟩
    have hqi : ¬ q = i := by omega
    have hql : q < d.length := by omega
    have hgq := fun g => zCF hql g
    have hstq : stF d i q = zJc (if q < i then plc d q else 0) 0 (if q < i then ahd d q else 0) (zAT d q i) (zAK d q i).length := rfl
    have hkl := zGa (d := d) (n := q) i
    try simp (maxSteps := 2000000) only [go_sem, hgq, hqi, hstq, zJc]
    repeat with_reducible refine zAb ?_
    refine zAv (fun k : Int => [(10, .pv (iv k)), (163, .ov (.one (.os (some bw) zBX 5 (zD6 d.length (inF d i (q : Int) k))))), (107, .un)]) (fun k : Int => (k + 1).toNat) (fun k : Int => -1 ≤ k ∧ k < i ∧ (0 ≤ k → k ∈ C d (q : Int))) ((q : Int)) ?_ ⟨by omega, by omega, fun _ => by rw [zJd d3 hql]; exact List.mem_cons_self⟩ ?_
    focus (simp (maxSteps := 2000000) only [go_sem, zAi, zAs, zAF, zAj]; all_goals (repeat' (first | exact trivial | exact zAr (by omega) | exact zAk rfl | exact zAw rfl | exact zAt | exact le_refl _ | refine And.intro ?_ ?_)))
    ·refine zAw ?_
     congr 3
     refine zAV fun j hj => ?_
     rw [zLj d3 (by omega)]
     by_cases hjq : j = q
     ·subst hjq
      have hkj : zAK d j (i + 1) = zAK d j i ++ [(i : Int)] := by rw [zAU, if_pos hu.symm]
      rw [hkj, List.length_append]
      have e1 : j < i := by omega
      have e2 : j < i + 1 := by omega
      simp [zJc, e1, e2]
     ·rw [if_neg hjq]
      have hkj : zAK d j (i + 1) = zAK d j i := by rw [zAU, if_neg (by rw [← hu]; omega)]
      rw [hkj]
      by_cases hji : j = i
      ·subst hji
       rw [if_pos rfl, if_pos (by omega), if_pos (by omega), hplc, hahd, hU, hK]
      ·simp only [if_neg hji, stF]
       have e : (j < i + 1) ↔ (j < i) := by omega
       simp only [e]
    rintro k ⟨hk0, hki, hkc⟩
    try simp (maxSteps := 2000000) only [go_sem]
    repeat with_reducible refine zAb ?_
    refine zAc (by rfl) trivial (fun g5 => ?_) (fun g5 => ?_)
    ·have hk1 : 0 ≤ k := by simpa using g5
     obtain ⟨q2, rfl⟩ : ∃ q2 : Nat, k = q2 := ⟨k.toNat, by omega⟩
     have hql2 : q2 < d.length := by omega
     have hqu := zBj d3 q2 hql2
     have hqv := zCl d q2 hql2
     rw [ndV] at hqv
     have hgq := fun g => zCF hql2 g
     have hkq := hkc hk1
     have hinq : inF d i (q : Int) q2 q2 = zJc (if q2 < i + 1 then plc d q2 else 0) 0 (if q2 < i + 1 then ahd d q2 else 0) (zAT d q2 i + (if (C d (q : Int)).contains (q2 : Int) && decide ((q2 : Int) < q2) then 1 else 0)) (zAK d q2 (i + 1)).length := rfl
     obtain ⟨V, hV⟩ : ∃ V, V = zAT d q2 i + (if (C d (q : Int)).contains (q2 : Int) && decide ((q2 : Int) < q2) then 1 else 0) := ⟨_, rfl⟩
     have hVb : 0 ≤ V ∧ V ≤ i + 1 := by
      have := zD9 (d := d) (n := q2) i
      rw [hV]; split <;> omega
     rw [← hV] at hinq
     have hinf := zNx d3 (i := i) (by omega : (q : Int) < d.length) hkq
     rw [← hV] at hinf
     try simp (maxSteps := 2000000) only [go_sem, hgq, hinq, zJc, hqv]
     repeat with_reducible refine zAb ?_
     refine ⟨zBh d q2, by omega, ⟨by omega, by omega, fun h0 => ?_⟩, ?_⟩
     ·refine yFc d3 q hql hkq ?_
      rw [zJd d3 hql2]
      obtain ⟨v, hv2⟩ : ∃ v : Nat, zBh d q2 = v := ⟨(zBh d q2).toNat, by omega⟩
      rw [hv2, zJd d3 (by omega : v < d.length)]
      exact List.mem_cons_of_mem _ (List.mem_cons_self)
     ·simp (maxSteps := 2000000) only [go_sem, zAi, zAs, zAF, zAj]
      all_goals (repeat' (first | exact trivial | exact zAr (by omega) | exact zAk rfl | exact zAw rfl | exact zAt | exact le_refl _ | refine And.intro ?_ ?_))
      all_goals first | exact zAr rfl | skip
      refine zAw ?_
      congr 3
      refine zAV fun j hj => ?_
      rw [hinf j]
    ·have hk1 : k < 0 := by simp at g5; omega
     try simp (maxSteps := 2000000) only [go_sem]
     repeat with_reducible refine zAb ?_
     refine ⟨(i + 1, zZV ml (q : Int) i), by simp only; omega, ⟨by simp only; omega, fun w => ?_⟩, ?_⟩
     ·simp only
      rw [zIu, hml w, zAU, ← hu]
      by_cases hw : w = (q : Int)
      ·rw [if_pos hw, if_pos hw.symm]; simp
      ·rw [if_neg hw, if_neg (Ne.symm hw)]
     ·simp (maxSteps := 2000000) only [go_sem, zAi, zAs, zAF, zAj]
      all_goals (repeat' (first | exact trivial | exact zAr (by omega) | exact zAk rfl | exact zAw rfl | exact zAt | exact le_refl _ | refine And.intro ?_ ?_))
      refine zAw ?_
      congr 3
      exact zAV fun j _ => zT0 hu hk1 j
   ·have hu0 : u < 0 := by simp at g4; omega
    have hC : C d u = [] := yCW d3 hu0
    try simp (maxSteps := 2000000) only [go_sem]
    repeat with_reducible refine zAb ?_
    refine zAv (fun k : Int => [(10, .pv (iv k)), (163, .ov (.one (.os (some bw) zBX 5 (zD6 d.length (inF d i u k))))), (107, .un)]) (fun k : Int => (k + 1).toNat) (fun k : Int => -1 ≤ k ∧ k < i ∧ (0 ≤ k → k ∈ C d u)) (u) ?_ ⟨by omega, by omega, fun h => by omega⟩ ?_
    focus (simp (maxSteps := 2000000) only [go_sem, zAi, zAs, zAF, zAj]; all_goals (repeat' (first | exact trivial | exact zAr (by omega) | exact zAk rfl | exact zAw rfl | exact zAt | exact le_refl _ | refine And.intro ?_ ?_)))
    ·refine zAw ?_
     congr 3
     refine zAV fun j hj => ?_
     rw [zLj d3 (by omega)]
     have hkj : zAK d j (i + 1) = zAK d j i := by rw [zAU, if_neg (by rw [← hu]; omega)]
     rw [hkj]
     by_cases hji : j = i
     ·subst hji
      rw [if_pos rfl, if_pos (by omega), if_pos (by omega), hplc, hahd, hU, hK]
     ·simp only [if_neg hji, stF]
      have e : (j < i + 1) ↔ (j < i) := by omega
      simp only [e]
    rintro k ⟨hk0, hki, hkc⟩
    try simp (maxSteps := 2000000) only [go_sem]
    repeat with_reducible refine zAb ?_
    refine zAc (by rfl) trivial (fun g5 => ?_) (fun g5 => ?_)
    ·have hk1 : 0 ≤ k := by simpa using g5
     obtain ⟨q2, rfl⟩ : ∃ q2 : Nat, k = q2 := ⟨k.toNat, by omega⟩
     have hql2 : q2 < d.length := by omega
     have hqu := zBj d3 q2 hql2
     have hqv := zCl d q2 hql2
     rw [ndV] at hqv
     have hgq := fun g => zCF hql2 g
     have hkq := hkc hk1
     have hinq : inF d i u q2 q2 = zJc (if q2 < i + 1 then plc d q2 else 0) 0 (if q2 < i + 1 then ahd d q2 else 0) (zAT d q2 i + (if (C d u).contains (q2 : Int) && decide ((q2 : Int) < q2) then 1 else 0)) (zAK d q2 (i + 1)).length := rfl
     obtain ⟨V, hV⟩ : ∃ V, V = zAT d q2 i + (if (C d u).contains (q2 : Int) && decide ((q2 : Int) < q2) then 1 else 0) := ⟨_, rfl⟩
     have hVb : 0 ≤ V ∧ V ≤ i + 1 := by
      have := zD9 (d := d) (n := q2) i
      rw [hV]; split <;> omega
     rw [← hV] at hinq
     have hinf := zNx d3 (i := i) (by omega : u < d.length) hkq
     rw [← hV] at hinf
     try simp (maxSteps := 2000000) only [go_sem, hgq, hinq, zJc, hqv]
     repeat with_reducible refine zAb ?_
     refine ⟨zBh d q2, by omega, ⟨by omega, by omega, fun h0 => ?_⟩, ?_⟩
     ·rw [hC] at hkq; cases hkq
     ·simp (maxSteps := 2000000) only [go_sem, zAi, zAs, zAF, zAj]
      all_goals (repeat' (first | exact trivial | exact zAr (by omega) | exact zAk rfl | exact zAw rfl | exact zAt | exact le_refl _ | refine And.intro ?_ ?_))
      all_goals first | exact zAr rfl | skip
      refine zAw ?_
      congr 3
      refine zAV fun j hj => ?_
      rw [hinf j]
    ·have hk1 : k < 0 := by simp at g5; omega
     try simp (maxSteps := 2000000) only [go_sem]
     repeat with_reducible refine zAb ?_
     refine ⟨(i + 1, zZV ml u i), by simp only; omega, ⟨by simp only; omega, fun w => ?_⟩, ?_⟩
     ·simp only
      rw [zIu, hml w, zAU, ← hu]
      by_cases hw : w = u
      ·rw [if_pos hw, if_pos hw.symm]; simp
      ·rw [if_neg hw, if_neg (Ne.symm hw)]
     ·simp (maxSteps := 2000000) only [go_sem, zAi, zAs, zAF, zAj]
      all_goals (repeat' (first | exact trivial | exact zAr (by omega) | exact zAk rfl | exact zAw rfl | exact zAt | exact le_refl _ | refine And.intro ?_ ?_))
      refine zAw ?_
      congr 3
      exact zAV fun j _ => zT0 hu hk1 j
  |some p =>
   rw [hlast] at hgi
   obtain ⟨m, hmi, rfl, hmu, hkm⟩ := zGb hlast
   have hahd : ahd d i = m := by rw [ahd, ← hu, hlast]; rfl
   have hplc : plc d i = plc d m + 1 := by
    rw [plc, ← hu, hkm, plc, hmu, List.length_append]
    simp
   have hml2 : m < d.length := by omega
   have hmi' : ¬ m = i := by omega
   have hgm := fun g => zCF hml2 g
   have hstm : stF d i m = zJc (plc d m) 0 (ahd d m) (zAT d m i) (zAK d m i).length := by simp [stF, hmi]
   have hplb : 1 ≤ plc d m ∧ plc d m ≤ 65 := by
    have := zGa (d := d) (n := zBh d m) m
    rw [plc]; omega
   try simp (maxSteps := 2000000) only [go_sem, hgi, Option.isSome_some, Option.getD_some]
   repeat with_reducible refine zAb ?_
   refine zAc (by rfl) trivial (fun g2 => ?_) (fun g2 => ?_)
   ·try simp (maxSteps := 2000000) only [go_sem, hv, hget, hst, zJc]
    repeat with_reducible refine zAb ?_
    refine yFa rfl rfl rfl rfl (by decide) ?_
    try simp (maxSteps := 2000000) only [go_sem, hv, hget, hst, zJc]
    repeat with_reducible refine zAb ?_
    refine zAc (by rfl) trivial (fun g3 => ?_) (fun g3 => ?_)
    ·try simp (maxSteps := 2000000) only [go_sem, hv, hget, hst, zJc, hgm, hmi', hstm, Int.toNat_natCast]
     repeat with_reducible refine zAb ?_
     refine zAc (by rfl) trivial (fun g4 => ?_) (fun g4 => ?_)
     ·have hu0 : 0 ≤ u := by simpa using g4
      obtain ⟨q, rfl⟩ : ∃ q : Nat, u = q := ⟨u.toNat, by omega⟩
      have hqi : ¬ q = i := by omega
      have hql : q < d.length := by omega
      have hgq := fun g => zCF hql g
      have hstq : stF d i q = zJc (if q < i then plc d q else 0) 0 (if q < i then ahd d q else 0) (zAT d q i) (zAK d q i).length := rfl
      have hkl := zGa (d := d) (n := q) i
      try simp (maxSteps := 2000000) only [go_sem, hgq, hqi, hstq, zJc]
      repeat with_reducible refine zAb ?_
      refine zAv (fun k : Int => [(10, .pv (iv k)), (163, .ov (.one (.os (some bw) zBX 5 (zD6 d.length (inF d i (q : Int) k))))), (107, .un)]) (fun k : Int => (k + 1).toNat) (fun k : Int => -1 ≤ k ∧ k < i ∧ (0 ≤ k → k ∈ C d (q : Int))) ((q : Int)) ?_ ⟨by omega, by omega, fun _ => by rw [zJd d3 hql]; exact List.mem_cons_self⟩ ?_
      focus (simp (maxSteps := 2000000) only [go_sem, zAi, zAs, zAF, zAj]; all_goals (repeat' (first | exact trivial | exact zAr (by omega) | exact zAk rfl | exact zAw rfl | exact zAt | exact le_refl _ | refine And.intro ?_ ?_)))
      ·refine zAw ?_
       congr 3
       refine zAV fun j hj => ?_
       rw [zLj d3 (by omega)]
       by_cases hjq : j = q
       ·subst hjq
        have hkj : zAK d j (i + 1) = zAK d j i ++ [(i : Int)] := by rw [zAU, if_pos hu.symm]
        rw [hkj, List.length_append]
        have e1 : j < i := by omega
        have e2 : j < i + 1 := by omega
        simp [zJc, e1, e2]
       ·rw [if_neg hjq]
        have hkj : zAK d j (i + 1) = zAK d j i := by rw [zAU, if_neg (by rw [← hu]; omega)]
        rw [hkj]
        by_cases hji : j = i
        ·subst hji
         rw [if_pos rfl, if_pos (by omega), if_pos (by omega), hplc, hahd, hU, hK]
        ·simp only [if_neg hji, stF]
         have e : (j < i + 1) ↔ (j < i) := by omega
         simp only [e]
      rintro k ⟨hk0, hki, hkc⟩
      try simp (maxSteps := 2000000) only [go_sem]
      repeat with_reducible refine zAb ?_
      refine zAc (by rfl) trivial (fun g5 => ?_) (fun g5 => ?_)
      ·have hk1 : 0 ≤ k := by simpa using g5
       obtain ⟨q2, rfl⟩ : ∃ q2 : Nat, k = q2 := ⟨k.toNat, by omega⟩
       have hql2 : q2 < d.length := by omega
       have hqu := zBj d3 q2 hql2
       have hqv := zCl d q2 hql2
       rw [ndV] at hqv
       have hgq := fun g => zCF hql2 g
       have hkq := hkc hk1
       have hinq : inF d i (q : Int) q2 q2 = zJc (if q2 < i + 1 then plc d q2 else 0) 0 (if q2 < i + 1 then ahd d q2 else 0) (zAT d q2 i + (if (C d (q : Int)).contains (q2 : Int) && decide ((q2 : Int) < q2) then 1 else 0)) (zAK d q2 (i + 1)).length := rfl
       obtain ⟨V, hV⟩ : ∃ V, V = zAT d q2 i + (if (C d (q : Int)).contains (q2 : Int) && decide ((q2 : Int) < q2) then 1 else 0) := ⟨_, rfl⟩
       have hVb : 0 ≤ V ∧ V ≤ i + 1 := by
        have := zD9 (d := d) (n := q2) i
        rw [hV]; split <;> omega
       rw [← hV] at hinq
       have hinf := zNx d3 (i := i) (by omega : (q : Int) < d.length) hkq
       rw [← hV] at hinf
       try simp (maxSteps := 2000000) only [go_sem, hgq, hinq, zJc, hqv]
       repeat with_reducible refine zAb ?_
       refine ⟨zBh d q2, by omega, ⟨by omega, by omega, fun h0 => ?_⟩, ?_⟩
       ·refine yFc d3 q hql hkq ?_
        rw [zJd d3 hql2]
        obtain ⟨v, hv2⟩ : ∃ v : Nat, zBh d q2 = v := ⟨(zBh d q2).toNat, by omega⟩
        rw [hv2, zJd d3 (by omega : v < d.length)]
        exact List.mem_cons_of_mem _ (List.mem_cons_self)
       ·simp (maxSteps := 2000000) only [go_sem, zAi, zAs, zAF, zAj]
        all_goals (repeat' (first | exact trivial | exact zAr (by omega) | exact zAk rfl | exact zAw rfl | exact zAt | exact le_refl _ | refine And.intro ?_ ?_))
        all_goals first | exact zAr rfl | skip
        refine zAw ?_
        congr 3
        refine zAV fun j hj => ?_
        rw [hinf j]
      ·have hk1 : k < 0 := by simp at g5; omega
       try simp (maxSteps := 2000000) only [go_sem]
       repeat with_reducible refine zAb ?_
       refine ⟨(i + 1, zZV ml (q : Int) i), by simp only; omega, ⟨by simp only; omega, fun w => ?_⟩, ?_⟩
       ·simp only
        rw [zIu, hml w, zAU, ← hu]
        by_cases hw : w = (q : Int)
        ·rw [if_pos hw, if_pos hw.symm]; simp
        ·rw [if_neg hw, if_neg (Ne.symm hw)]
       ·simp (maxSteps := 2000000) only [go_sem, zAi, zAs, zAF, zAj]
        all_goals (repeat' (first | exact trivial | exact zAr (by omega) | exact zAk rfl | exact zAw rfl | exact zAt | exact le_refl _ | refine And.intro ?_ ?_))
        refine zAw ?_
        congr 3
        exact zAV fun j _ => zT0 hu hk1 j
     ·have hu0 : u < 0 := by simp at g4; omega
      have hC : C d u = [] := yCW d3 hu0
      try simp (maxSteps := 2000000) only [go_sem]
      repeat with_reducible refine zAb ?_
      refine zAv (fun k : Int => [(10, .pv (iv k)), (163, .ov (.one (.os (some bw) zBX 5 (zD6 d.length (inF d i u k))))), (107, .un)]) (fun k : Int => (k + 1).toNat) (fun k : Int => -1 ≤ k ∧ k < i ∧ (0 ≤ k → k ∈ C d u)) (u) ?_ ⟨by omega, by omega, fun h => by omega⟩ ?_
      focus (simp (maxSteps := 2000000) only [go_sem, zAi, zAs, zAF, zAj]; all_goals (repeat' (first | exact trivial | exact zAr (by omega) | exact zAk rfl | exact zAw rfl | exact zAt | exact le_refl _ | refine And.intro ?_ ?_)))
      ·refine zAw ?_
       congr 3
       refine zAV fun j hj => ?_
       rw [zLj d3 (by omega)]
       have hkj : zAK d j (i + 1) = zAK d j i := by rw [zAU, if_neg (by rw [← hu]; omega)]
       rw [hkj]
       by_cases hji : j = i
       ·subst hji
        rw [if_pos rfl, if_pos (by omega), if_pos (by omega), hplc, hahd, hU, hK]
       ·simp only [if_neg hji, stF]
        have e : (j < i + 1) ↔ (j < i) := by omega
        simp only [e]
      rintro k ⟨hk0, hki, hkc⟩
      try simp (maxSteps := 2000000) only [go_sem]
      repeat with_reducible refine zAb ?_
      refine zAc (by rfl) trivial (fun g5 => ?_) (fun g5 => ?_)
      ·have hk1 : 0 ≤ k := by simpa using g5
       obtain ⟨q2, rfl⟩ : ∃ q2 : Nat, k = q2 := ⟨k.toNat, by omega⟩
       have hql2 : q2 < d.length := by omega
       have hqu := zBj d3 q2 hql2
       have hqv := zCl d q2 hql2
       rw [ndV] at hqv
       have hgq := fun g => zCF hql2 g
       have hkq := hkc hk1
       have hinq : inF d i u q2 q2 = zJc (if q2 < i + 1 then plc d q2 else 0) 0 (if q2 < i + 1 then ahd d q2 else 0) (zAT d q2 i + (if (C d u).contains (q2 : Int) && decide ((q2 : Int) < q2) then 1 else 0)) (zAK d q2 (i + 1)).length := rfl
       obtain ⟨V, hV⟩ : ∃ V, V = zAT d q2 i + (if (C d u).contains (q2 : Int) && decide ((q2 : Int) < q2) then 1 else 0) := ⟨_, rfl⟩
       have hVb : 0 ≤ V ∧ V ≤ i + 1 := by
        have := zD9 (d := d) (n := q2) i
        rw [hV]; split <;> omega
       rw [← hV] at hinq
       have hinf := zNx d3 (i := i) (by omega : u < d.length) hkq
       rw [← hV] at hinf
       try simp (maxSteps := 2000000) only [go_sem, hgq, hinq, zJc, hqv]
       repeat with_reducible refine zAb ?_
       refine ⟨zBh d q2, by omega, ⟨by omega, by omega, fun h0 => ?_⟩, ?_⟩
       ·rw [hC] at hkq; cases hkq
       ·simp (maxSteps := 2000000) only [go_sem, zAi, zAs, zAF, zAj]
        all_goals (repeat' (first | exact trivial | exact zAr (by omega) | exact zAk rfl | exact zAw rfl | exact zAt | exact le_refl _ | refine And.intro ?_ ?_))
        all_goals first | exact zAr rfl | skip
        refine zAw ?_
        congr 3
        refine zAV fun j hj => ?_
        rw [hinf j]
      ·have hk1 : k < 0 := by simp at g5; omega
       try simp (maxSteps := 2000000) only [go_sem]
       repeat with_reducible refine zAb ?_
       refine ⟨(i + 1, zZV ml u i), by simp only; omega, ⟨by simp only; omega, fun w => ?_⟩, ?_⟩
       ·simp only
        rw [zIu, hml w, zAU, ← hu]
        by_cases hw : w = u
        ·rw [if_pos hw, if_pos hw.symm]; simp
        ·rw [if_neg hw, if_neg (Ne.symm hw)]
       ·simp (maxSteps := 2000000) only [go_sem, zAi, zAs, zAF, zAj]
        all_goals (repeat' (first | exact trivial | exact zAr (by omega) | exact zAk rfl | exact zAw rfl | exact zAt | exact le_refl _ | refine And.intro ?_ ?_))
        refine zAw ?_
        congr 3
        exact zAV fun j _ => zT0 hu hk1 j
    ·exact absurd g3 (by simp)
   ·simp at g2
 have hi2 : i = d.length := by simp at g1; omega
 subst hi2
 rw [yBo]
 try simp (maxSteps := 2000000) only [go_sem]
 repeat with_reducible refine zAb ?_
 refine zAv (fun i : Nat => [(129, .pv (iv i)), (163, .ov (.one (.os (some bw) zBX 5 (zD6 d.length (fiF d i))))), (11, .un), (12, .un), (130, .un), (143, .un), (169, .un), (170, .un), (171, .un), (172, .un), (173, .un)]) (fun i : Nat => d.length - i) (fun i : Nat => i ≤ d.length) (0) ?_ (Nat.zero_le _) ?_
 focus (simp (maxSteps := 2000000) only [go_sem, zAi, zAs, zAF, zAj]; all_goals (repeat' (first | exact trivial | exact zAr (by omega) | exact zAk rfl | exact zAw rfl | exact zAt | exact le_refl _ | refine And.intro ?_ ?_)))
 intro i hi
 try simp (maxSteps := 2000000) only [go_sem]
 repeat with_reducible refine zAb ?_
 refine zAc (by rfl) trivial (fun g6 => ?_) (fun g6 => ?_)
 ·have hil : i < d.length := by simpa using g6
  have hv := zCl d i hil
  rw [ndV] at hv
  obtain ⟨u, hu⟩ : ∃ u, u = zBh d i := ⟨_, rfl⟩
  have hup : (d.getD i default).up = u := hu.symm
  rw [hup] at hv
  have hub := zBj d3 i hil
  rw [← hu] at hub
  have hget := fun g => zCF hil g
  have hst : fiF d i i = zJc (plc d i) 0 (ahd d i) (zCz d i) (zIb d i).length := by simp [fiF]
  try simp (maxSteps := 2000000) only [go_sem, hv, hget, hst, zJc]
  repeat with_reducible refine zAb ?_
  refine zAc (by rfl) trivial (fun g7 => ?_) (fun g7 => ?_)
  ·have hu0 : 0 ≤ u := by simpa using g7
   obtain ⟨q, rfl⟩ : ∃ q : Nat, u = q := ⟨u.toNat, by omega⟩
   have hqi : ¬ q = i := by omega
   have hql : q < d.length := by omega
   have hgq := fun g => zCF hql g
   have hstq : fiF d i q = zJc (plc d q) (if q < i then ofN d q else 0) (ahd d q) (zCz d q) (zIb d q).length := rfl
   try simp (maxSteps := 2000000) only [go_sem, hgq, hqi, hstq, hget, hst, zJc]
   repeat with_reducible refine zAb ?_
   refine ⟨i + 1, by omega, by omega, ?_⟩
   simp (maxSteps := 2000000) only [go_sem, zAi, zAs, zAF, zAj]
   all_goals (repeat' (first | exact trivial | exact zAr (by omega) | exact zAk rfl | exact zAw rfl | exact zAt | exact le_refl _ | refine And.intro ?_ ?_))
   refine zAw ?_
   congr 3
   refine zAV fun j hj => ?_
   by_cases hji : j = i
   ·subst hji
    simp [fiF, ofN, ← hu]
   ·have e : (j < i + 1) ↔ (j < i) := by omega
    simp [fiF, hji, e]
  ·have hu0 : ¬ 0 ≤ u := by simpa using g7
   try simp (maxSteps := 2000000) only [go_sem]
   repeat with_reducible refine zAb ?_
   refine ⟨i + 1, by omega, by omega, ?_⟩
   simp (maxSteps := 2000000) only [go_sem, zAi, zAs, zAF, zAj]
   all_goals (repeat' (first | exact trivial | exact zAr (by omega) | exact zAk rfl | exact zAw rfl | exact zAt | exact le_refl _ | refine And.intro ?_ ?_))
   refine zAw ?_
   congr 3
   refine zAV fun j hj => ?_
   by_cases hji : j = i
   ·subst hji
    have hu1 : ¬ 0 ≤ zBh d j := by rw [← hu]; exact hu0
    simp [fiF, ofN, hu1]
   ·have e : (j < i + 1) ↔ (j < i) := by omega
    simp [fiF, hji, e]
 ·have hi2 : i = d.length := by simp at g6; omega
  subst hi2
  have hfz := fun b e => yCX d b e
  try simp (maxSteps := 2000000) only [go_sem, hfz]
  repeat with_reducible refine zAb ?_
  exact zAe rfl trivial (.inl rfl)
end Go.Hx
end

section
set_option maxRecDepth 100000
set_option linter.unusedSimpArgs false
set_option maxHeartbeats 2000000
namespace Go.Hx
open Go.Proofs
variable [Glob] [GlobL]
attribute [local go_sem] zAq zAo zAp zAg ndV zAl zAh zBo zA3 zBr zBq
attribute [local go_sem] reduceCtorEq Nat.reduceAdd Nat.reduceEqDiff reduceIte Nat.reduceLeDiff Nat.reduceLT Nat.reduceSub
def zV5 {α : Type} (p : α → Bool) (l : List α) : Int := if l.any p then (l.findIdx p : Int) else -1
theorem zT1 {α : Type} (p : α → Bool) (l : List α) : decide (0 ≤ zV5 p l) = l.any p := by
 unfold zV5
 cases h : l.any p <;> simp
theorem zLk {α : Type} {d : α} {p : α → Bool} {l : List α} (h : ∀ k, k < l.length → p (l.getD k d) = false) : zV5 p l = -1 := by
 unfold zV5
 have : l.any p = false := by
  rw [List.any_eq_false]
  intro x hx
  obtain ⟨k, hk, rfl⟩ := List.getElem_of_mem hx
  have := h k hk
  simp [hk] at this
  simp [this]
 rw [this]; rfl
theorem zLl {α : Type} {d : α} {p : α → Bool} {l : List α} {i : Nat} (hi : i < l.length) (h1 : p (l.getD i d) = true) (h : ∀ k, k < i → p (l.getD k d) = false) : zV5 p l = i := by
 unfold zV5
 have h2 : p l[i] = true := by simpa [hi] using h1
 have : l.any p = true := List.any_eq_true.2 ⟨l[i], List.getElem_mem hi, h2⟩
 rw [if_pos this, (List.findIdx_eq hi).2 ⟨h2, fun j hj => by have := h j hj; simpa [show j < l.length by omega] using this⟩]
theorem zXP (f : Nat) (caps : List PV) (l : List Pt) (p : Pt → Bool) (h : ∀ i, i < l.length → Contract Tryz.prog f ([.val (.agg [.sl 2 (zZ9 (l.getD i default).steps), .sl 1 (zAS (l.getD i default).links)])] ++ caps.map fun c => .val (.one c)) { res := .val (bv (p (l.getD i default))) }) :
  Contract Tryz.prog zBS [.val (.one (.sl 2 (zOh l))), .val (.one (.clo f caps))] { res := .val (iv (zV5 p l)) } := by
 refine mkA zFW (base := 0) (fo rfl) (fun hfit => ?_)
 unfold F0 zDg
 simp (maxSteps := 2000000) only [zAH, List.set_cons_succ, List.set_cons_zero, List.map_cons, List.map_nil, zAG, zAa, ioOf, List.length_cons, List.length_nil, Nat.reduceAdd, Nat.reduceSub, List.replicate, List.cons_append, List.nil_append]
 try simp (maxSteps := 2000000) only [go_sem]
 repeat with_reducible refine zAb ?_
 have ha := zDN (k := 2) hfit.1
 rw [zA3] at ha
 refine zAv (fun i : Nat => [(8, .pv (iv i)), (4, .un), (5, .un), (9, .un), (16, .un)]) (fun i : Nat => l.length - i) (fun i : Nat => i ≤ l.length ∧ ∀ k, k < i → p (l.getD k default) = false) (0) ?_ ⟨Nat.zero_le _, fun k hk => by omega⟩ ?_
 focus (simp (maxSteps := 2000000) only [go_sem, zAi, zAs, zAF, zAj]; all_goals (repeat' (first | exact trivial | exact zAr (by omega) | exact zAk rfl | exact zAw rfl | exact zAt | exact le_refl _ | refine And.intro ?_ ?_)))
 rintro i ⟨hi, hinv⟩
 try simp (maxSteps := 2000000) only [go_sem]
 repeat with_reducible refine zAb ?_
 refine zAc (by rfl) trivial (fun h2 => ?_) (fun h2 => ?_)
 ·have hil : i < l.length := by simp at h2; omega
  have e1 := zSk l i hil
  rw [zHd] at e1
  have hc := h i hil
  try simp (maxSteps := 2000000) only [go_sem, e1]
  repeat with_reducible refine zAb ?_
  refine zC7 (by rfl) trivial (by repeat' constructor) (hc) ?_
  try simp (maxSteps := 2000000) only [go_sem]
  repeat with_reducible refine zAb ?_
  refine zAc (by rfl) trivial (fun h3 => ?_) (fun h3 => ?_)
  ·try simp (maxSteps := 2000000) only [go_sem]
   repeat with_reducible refine zAb ?_
   refine zAe rfl trivial (.inl ?_)
   congr 3
   exact zLl hil h3 hinv
  ·try simp (maxSteps := 2000000) only [go_sem]
   repeat with_reducible refine zAb ?_
   refine ⟨i + 1, by omega, ⟨by omega, fun k hk => ?_⟩, ?_⟩
   ·by_cases e : k = i
    ·rw [e]; exact h3
    ·exact hinv k (by omega)
   ·simp (maxSteps := 2000000) only [go_sem, zAi, zAs, zAF, zAj]
    all_goals (repeat' (first | exact trivial | exact zAr (by omega) | exact zAk rfl | exact zAw rfl | exact zAt | exact le_refl _ | refine And.intro ?_ ?_))
 ·have hil : i = l.length := by simp at h2; omega
  try simp (maxSteps := 2000000) only [go_sem]
  repeat with_reducible refine zAb ?_
  refine zAe rfl trivial (.inl ?_)
  congr 3
  exact zLk fun k hk => hinv k (by omega)
theorem zXQ (f : Nat) (caps : List PV) (l : List Pt) (p : Pt → Bool) (h : ∀ i, i < l.length → Contract Tryz.prog f ([.val (.agg [.sl 2 (zZ9 (l.getD i default).steps), .sl 1 (zAS (l.getD i default).links)])] ++ caps.map fun c => .val (.one c)) { res := .val (bv (p (l.getD i default))) }) :
  Contract Tryz.prog zBy [.val (.one (.sl 2 (zOh l))), .val (.one (.clo f caps))] { res := .val (bv (l.any p)) } := by
 refine mkA zEv (base := 0) (fo rfl) (fun hfit => ?_)
 unfold F0 zCs
 simp (maxSteps := 2000000) only [zAH, List.set_cons_succ, List.set_cons_zero, List.map_cons, List.map_nil, zAG, zAa, ioOf, List.length_cons, List.length_nil, Nat.reduceAdd, Nat.reduceSub, List.replicate, List.cons_append, List.nil_append]
 try simp (maxSteps := 2000000) only [go_sem]
 repeat with_reducible refine zAb ?_
 refine zAu (by repeat' constructor) (zXP f caps l p h) ?_
 try simp (maxSteps := 2000000) only [go_sem]
 repeat with_reducible refine zAb ?_
 refine zAe rfl trivial (.inl ?_)
 congr 3
 rw [← zT1]
theorem zXR (f : Nat) (caps : List PV) (l : List Ts) (p : Ts → Bool) (h : ∀ i, i < l.length → Contract Tryz.prog f ([.val (.agg [bI (l.getD i default).kind, bS (l.getD i default).name, bS (l.getD i default).value, bI (l.getD i default).na, bI (l.getD i default).nb, .sl 2 (zOh (l.getD i default).list)])] ++ caps.map fun c => .val (.one c)) { res := .val (bv (p (l.getD i default))) }) :
  Contract Tryz.prog zBT [.val (.one (.sl 6 (yAO l))), .val (.one (.clo f caps))] { res := .val (iv (zV5 p l)) } := by
 refine mkA zF6 (base := 0) (fo rfl) (fun hfit => ?_)
 unfold F0 zDh
 simp (maxSteps := 2000000) only [zAH, List.set_cons_succ, List.set_cons_zero, List.map_cons, List.map_nil, zAG, zAa, ioOf, List.length_cons, List.length_nil, Nat.reduceAdd, Nat.reduceSub, List.replicate, List.cons_append, List.nil_append]
 try simp (maxSteps := 2000000) only [go_sem]
 repeat with_reducible refine zAb ?_
 have ha := zDN (k := 6) hfit.1
 rw [zBq] at ha
 refine zAv (fun i : Nat => [(8, .pv (iv i)), (4, .un), (5, .un), (9, .un), (16, .un)]) (fun i : Nat => l.length - i) (fun i : Nat => i ≤ l.length ∧ ∀ k, k < i → p (l.getD k default) = false) (0) ?_ ⟨Nat.zero_le _, fun k hk => by omega⟩ ?_
 focus (simp (maxSteps := 2000000) only [go_sem, zAi, zAs, zAF, zAj]; all_goals (repeat' (first | exact trivial | exact zAr (by omega) | exact zAk rfl | exact zAw rfl | exact zAt | exact le_refl _ | refine And.intro ?_ ?_)))
 rintro i ⟨hi, hinv⟩
 try simp (maxSteps := 2000000) only [go_sem]
 repeat with_reducible refine zAb ?_
 refine zAc (by rfl) trivial (fun h2 => ?_) (fun h2 => ?_)
 ·have hil : i < l.length := by simp at h2; omega
  have e1 := zSi l i hil
  rw [zMF] at e1
  have hc := h i hil
  try simp (maxSteps := 2000000) only [go_sem, e1]
  repeat with_reducible refine zAb ?_
  refine zC7 (by rfl) trivial (by repeat' constructor) (hc) ?_
  try simp (maxSteps := 2000000) only [go_sem]
  repeat with_reducible refine zAb ?_
  refine zAc (by rfl) trivial (fun h3 => ?_) (fun h3 => ?_)
  ·try simp (maxSteps := 2000000) only [go_sem]
   repeat with_reducible refine zAb ?_
   refine zAe rfl trivial (.inl ?_)
   congr 3
   exact zLl hil h3 hinv
  ·try simp (maxSteps := 2000000) only [go_sem]
   repeat with_reducible refine zAb ?_
   refine ⟨i + 1, by omega, ⟨by omega, fun k hk => ?_⟩, ?_⟩
   ·by_cases e : k = i
    ·rw [e]; exact h3
    ·exact hinv k (by omega)
   ·simp (maxSteps := 2000000) only [go_sem, zAi, zAs, zAF, zAj]
    all_goals (repeat' (first | exact trivial | exact zAr (by omega) | exact zAk rfl | exact zAw rfl | exact zAt | exact le_refl _ | refine And.intro ?_ ?_))
 ·have hil : i = l.length := by simp at h2; omega
  try simp (maxSteps := 2000000) only [go_sem]
  repeat with_reducible refine zAb ?_
  refine zAe rfl trivial (.inl ?_)
  congr 3
  exact zLk fun k hk => hinv k (by omega)
theorem zXS (f : Nat) (caps : List PV) (l : List Ts) (p : Ts → Bool) (h : ∀ i, i < l.length → Contract Tryz.prog f ([.val (.agg [bI (l.getD i default).kind, bS (l.getD i default).name, bS (l.getD i default).value, bI (l.getD i default).na, bI (l.getD i default).nb, .sl 2 (zOh (l.getD i default).list)])] ++ caps.map fun c => .val (.one c)) { res := .val (bv (p (l.getD i default))) }) :
  Contract Tryz.prog zBz [.val (.one (.sl 6 (yAO l))), .val (.one (.clo f caps))] { res := .val (bv (l.any p)) } := by
 refine mkA zEy (base := 0) (fo rfl) (fun hfit => ?_)
 unfold F0 zCt
 simp (maxSteps := 2000000) only [zAH, List.set_cons_succ, List.set_cons_zero, List.map_cons, List.map_nil, zAG, zAa, ioOf, List.length_cons, List.length_nil, Nat.reduceAdd, Nat.reduceSub, List.replicate, List.cons_append, List.nil_append]
 try simp (maxSteps := 2000000) only [go_sem]
 repeat with_reducible refine zAb ?_
 refine zAu (by repeat' constructor) (zXR f caps l p h) ?_
 try simp (maxSteps := 2000000) only [go_sem]
 repeat with_reducible refine zAb ?_
 refine zAe rfl trivial (.inl ?_)
 congr 3
 rw [← zT1]
theorem zXT (f : Nat) (caps : List PV) (l : List (Bys × Bys)) (p : Bys × Bys → Bool) (h : ∀ i, i < l.length → Contract Tryz.prog f ([.val (.agg [bS (l.getD i default).1, bS (l.getD i default).2])] ++ caps.map fun c => .val (.one c)) { res := .val (bv (p (l.getD i default))) }) :
  Contract Tryz.prog zAX [.val (.one (.sl 2 (zYE l))), .val (.one (.clo f caps))] { res := .val (iv (zV5 p l)) } := by
 refine mkA zCS (base := 0) (fo rfl) (fun hfit => ?_)
 unfold F0 zBW
 simp (maxSteps := 2000000) only [zAH, List.set_cons_succ, List.set_cons_zero, List.map_cons, List.map_nil, zAG, zAa, ioOf, List.length_cons, List.length_nil, Nat.reduceAdd, Nat.reduceSub, List.replicate, List.cons_append, List.nil_append]
 try simp (maxSteps := 2000000) only [go_sem]
 repeat with_reducible refine zAb ?_
 have ha := zDN (k := 2) hfit.1
 rw [zAp] at ha
 refine zAv (fun i : Nat => [(8, .pv (iv i)), (4, .un), (5, .un), (9, .un), (16, .un)]) (fun i : Nat => l.length - i) (fun i : Nat => i ≤ l.length ∧ ∀ k, k < i → p (l.getD k default) = false) (0) ?_ ⟨Nat.zero_le _, fun k hk => by omega⟩ ?_
 focus (simp (maxSteps := 2000000) only [go_sem, zAi, zAs, zAF, zAj]; all_goals (repeat' (first | exact trivial | exact zAr (by omega) | exact zAk rfl | exact zAw rfl | exact zAt | exact le_refl _ | refine And.intro ?_ ?_)))
 rintro i ⟨hi, hinv⟩
 try simp (maxSteps := 2000000) only [go_sem]
 repeat with_reducible refine zAb ?_
 refine zAc (by rfl) trivial (fun h2 => ?_) (fun h2 => ?_)
 ·have hil : i < l.length := by simp at h2; omega
  have e1 := zNq l i hil
  have hc := h i hil
  try simp (maxSteps := 2000000) only [go_sem, e1]
  repeat with_reducible refine zAb ?_
  refine zC7 (by rfl) trivial (by repeat' constructor) (hc) ?_
  try simp (maxSteps := 2000000) only [go_sem]
  repeat with_reducible refine zAb ?_
  refine zAc (by rfl) trivial (fun h3 => ?_) (fun h3 => ?_)
  ·try simp (maxSteps := 2000000) only [go_sem]
   repeat with_reducible refine zAb ?_
   refine zAe rfl trivial (.inl ?_)
   congr 3
   exact zLl hil h3 hinv
  ·try simp (maxSteps := 2000000) only [go_sem]
   repeat with_reducible refine zAb ?_
   refine ⟨i + 1, by omega, ⟨by omega, fun k hk => ?_⟩, ?_⟩
   ·by_cases e : k = i
    ·rw [e]; exact h3
    ·exact hinv k (by omega)
   ·simp (maxSteps := 2000000) only [go_sem, zAi, zAs, zAF, zAj]
    all_goals (repeat' (first | exact trivial | exact zAr (by omega) | exact zAk rfl | exact zAw rfl | exact zAt | exact le_refl _ | refine And.intro ?_ ?_))
 ·have hil : i = l.length := by simp at h2; omega
  try simp (maxSteps := 2000000) only [go_sem]
  repeat with_reducible refine zAb ?_
  refine zAe rfl trivial (.inl ?_)
  congr 3
  exact zLk fun k hk => hinv k (by omega)
theorem zQQ (l : List Bys) (s : Bys) : Contract Tryz.prog zB7 [.val (.one (.sl 1 (zPC l))), .val (sv s)] { res := .val (iv (zV5 (fun c => decide (c = s)) l)) } := by
 refine mkA zGU (base := 0) (fo rfl) (fun hfit => ?_)
 unfold F0 zDI
 simp (maxSteps := 2000000) only [zAH, List.set_cons_succ, List.set_cons_zero, List.map_cons, List.map_nil, zAG, zAa, ioOf, List.length_cons, List.length_nil, Nat.reduceAdd, Nat.reduceSub, List.replicate, List.cons_append, List.nil_append]
 try simp (maxSteps := 2000000) only [go_sem]
 repeat with_reducible refine zAb ?_
 have ha := zDN (k := 1) hfit.1
 rw [zAo] at ha
 refine zAv (fun i : Nat => [(8, .pv (iv i)), (4, .un), (5, .un), (9, .un), (16, .un)]) (fun i : Nat => l.length - i) (fun i : Nat => i ≤ l.length ∧ ∀ k, k < i → (fun c => decide (c = s)) (l.getD k []) = false) (0) ?_ ⟨Nat.zero_le _, fun k hk => by omega⟩ ?_
 focus (simp (maxSteps := 2000000) only [go_sem, zAi, zAs, zAF, zAj]; all_goals (repeat' (first | exact trivial | exact zAr (by omega) | exact zAk rfl | exact zAw rfl | exact zAt | exact le_refl _ | refine And.intro ?_ ?_)))
 rintro i ⟨hi, hinv⟩
 try simp (maxSteps := 2000000) only [go_sem]
 repeat with_reducible refine zAb ?_
 refine zAc (by rfl) trivial (fun h2 => ?_) (fun h2 => ?_)
 ·have hil : i < l.length := by simp at h2; omega
  have e1 := zSe l i hil
  try simp (maxSteps := 2000000) only [go_sem, e1]
  repeat with_reducible refine zAb ?_
  refine zAc (by rfl) trivial (fun h3 => ?_) (fun h3 => ?_)
  ·try simp (maxSteps := 2000000) only [go_sem]
   repeat with_reducible refine zAb ?_
   refine zAe rfl trivial (.inl ?_)
   congr 3
   have h4 : l.getD i [] = s := (by simpa using h3 : s = l.getD i []).symm
   exact zLl (p := fun c => decide (c = s)) (d := []) hil (decide_eq_true h4) hinv
  ·try simp (maxSteps := 2000000) only [go_sem]
   repeat with_reducible refine zAb ?_
   have h4 : ¬ l.getD i [] = s := fun e => (by simpa using h3 : ¬ s = l.getD i []) e.symm
   refine ⟨i + 1, by omega, ⟨by omega, fun k hk => ?_⟩, ?_⟩
   ·by_cases e : k = i
    ·rw [e]; first | exact h4 | exact decide_eq_false h4
    ·first | exact hinv k (by omega) | exact of_decide_eq_false (hinv k (by omega))
   ·simp (maxSteps := 2000000) only [go_sem, zAi, zAs, zAF, zAj]
    all_goals (repeat' (first | exact trivial | exact zAr (by omega) | exact zAk rfl | exact zAw rfl | exact zAt | exact le_refl _ | refine And.intro ?_ ?_))
 ·have hil : i = l.length := by simp at h2; omega
  try simp (maxSteps := 2000000) only [go_sem]
  repeat with_reducible refine zAb ?_
  refine zAe rfl trivial (.inl ?_)
  congr 3
  exact zLk (d := []) (p := fun c => decide (c = s)) fun k hk => hinv k (by omega)
theorem zGc (l : List Bys) (s : Bys) : Contract Tryz.prog zBc [.val (.one (.sl 1 (zPC l))), .val (sv s)] { res := .val (bv (l.any fun c => decide (c = s))) } := by
 refine mkA zFe (base := 0) (fo rfl) (fun hfit => ?_)
 unfold F0 zCT
 simp (maxSteps := 2000000) only [zAH, List.set_cons_succ, List.set_cons_zero, List.map_cons, List.map_nil, zAG, zAa, ioOf, List.length_cons, List.length_nil, Nat.reduceAdd, Nat.reduceSub, List.replicate, List.cons_append, List.nil_append]
 try simp (maxSteps := 2000000) only [go_sem]
 repeat with_reducible refine zAb ?_
 refine zAu (by repeat' constructor) (zQQ l s) ?_
 try simp (maxSteps := 2000000) only [go_sem]
 repeat with_reducible refine zAb ?_
 refine zAe rfl trivial (.inl ?_)
 congr 3
 rw [← zT1]
end Go.Hx
end

section
set_option maxRecDepth 100000
set_option linter.unusedSimpArgs false
set_option maxHeartbeats 2000000
namespace Go.Hx
open Go.Proofs
variable [Glob] [GlobL]
attribute [local go_sem] zAq zAo zAp zAg ndV zAl zAh zBo zA3 zBr zBq zBm
attribute [local go_sem] reduceCtorEq Nat.reduceAdd Nat.reduceEqDiff reduceIte Nat.reduceLeDiff Nat.reduceLT Nat.reduceSub
theorem zXU {l : List (Bys × Bys)} {nm : Bys} (h : zV5 (fun a => decide (a.1 = nm)) l < 0) : zHf l nm = none := by
 unfold zV5 at h
 have h2 : l.any (fun a => decide (a.1 = nm)) = false := by
  cases e : l.any (fun a => decide (a.1 = nm)) with
  |false => rfl
  |true => rw [e] at h; simp at h; omega
 unfold zHf
 have : l.find? (fun a => decide (a.1 = nm)) = none := by
  rw [List.find?_eq_none]
  intro x hx hp
  rw [List.any_eq_false] at h2
  exact h2 x hx hp
 rw [this]; rfl
theorem zXV {l : List (Bys × Bys)} {nm : Bys} (h : ¬ zV5 (fun a => decide (a.1 = nm)) l < 0) : ∃ i : Nat, i < l.length ∧ zV5 (fun a => decide (a.1 = nm)) l = i ∧ zHf l nm = some (l.getD i default).2 := by
 unfold zV5 at h ⊢
 have h2 : l.any (fun a => decide (a.1 = nm)) = true := by
  cases e : l.any (fun a => decide (a.1 = nm)) with
  |true => rfl
  |false => rw [e] at h; simp at h
 rw [if_pos h2]
 have h3 : l.findIdx (fun a => decide (a.1 = nm)) < l.length := List.findIdx_lt_length.2 (by simpa using h2)
 refine ⟨_, h3, rfl, ?_⟩
 unfold zHf
 rw [List.find?_eq_getElem?_findIdx, List.getElem?_eq_getElem h3]
 simp [h3]
theorem zV6 (d : List Nd) : (zV3 d).length = d.length := by simp [zV3]
theorem zV7 (d : List Nd) (n : Nat) (h : n < d.length) : (zV3 d).getD n [] = [bI (plc d n), bI (ofN d n), bI (ahd d n), bI (zCz d n), bI (zIb d n).length] := by simp [zV3, h]
theorem zIZ (a : Bys × Bys) (nm : Bys) : Contract Tryz.prog zBI [.val (.agg [bS a.1, bS a.2]), .val (.one (.fp [bS nm]))] { res := .val (bv (decide (a.1 = nm))) } := by
 refine mkA zHy (base := 0) (fo rfl) (fun hfit => ?_)
 unfold F0 zDT
 simp (maxSteps := 2000000) only [zAH, List.set_cons_succ, List.set_cons_zero, List.map_cons, List.map_nil, zAG, zAa, ioOf, List.length_cons, List.length_nil, Nat.reduceAdd, Nat.reduceSub, List.replicate, List.cons_append, List.nil_append]
 try simp (maxSteps := 2000000) only [go_sem]
 repeat with_reducible refine zAb ?_
 refine zAe rfl trivial (.inl ?_)
 congr 3
 rw [Bool.eq_iff_iff]; simp
theorem zLm (d : List Nd) (n : Nat) (hn : n < d.length) (nm : Bys) : Contract Tryz.prog zCN [.val (.one (zBm d)), .val (iv n), .val (sv nm)] { res := .tup [sv ((zHf (d.getD n default).att nm).getD []), bv (zHf (d.getD n default).att nm).isSome] } := by
 have hc := zXT zBI [.fp [bS nm]] (d.getD n default).att (fun a => decide (a.1 = nm)) (fun i hi => zIZ _ nm)
 have e1 := zCl d n hn
 obtain ⟨x, hx⟩ : ∃ x, x = d.getD n default := ⟨_, rfl⟩
 rw [← hx] at e1 hc ⊢
 refine mkA zJJ (base := 0) (fo rfl) (fun hfit => ?_)
 unfold F0 zEY
 simp (maxSteps := 2000000) only [zAH, List.set_cons_succ, List.set_cons_zero, List.map_cons, List.map_nil, zAG, zAa, ioOf, List.length_cons, List.length_nil, Nat.reduceAdd, Nat.reduceSub, List.replicate, List.cons_append, List.nil_append]
 try simp (maxSteps := 2000000) only [go_sem]
 repeat with_reducible refine zAb ?_
 try simp (maxSteps := 2000000) only [go_sem, e1]
 repeat with_reducible refine zAb ?_
 refine zAu (by repeat' constructor) (hc) ?_
 try simp (maxSteps := 2000000) only [go_sem]
 repeat with_reducible refine zAb ?_
 refine zAc (by rfl) trivial (fun h => ?_) (fun h => ?_)
 ·have h' : zV5 (fun a => decide (a.1 = nm)) x.att < 0 := by simpa using h
  rw [zXU h']
  try simp (maxSteps := 2000000) only [go_sem]
  repeat with_reducible refine zAb ?_
  exact zBg (by simp) ⟨zAP rfl trivial (.inl rfl), zAP rfl trivial (.inl rfl), rfl⟩
 ·have h' : ¬ zV5 (fun a => decide (a.1 = nm)) x.att < 0 := by simpa using h
  obtain ⟨i, hi, h2, h3⟩ := zXV h'
  have e2 := zNq x.att i hi
  rw [h3]
  rw [h2]
  try simp (maxSteps := 2000000) only [go_sem, e1, e2]
  repeat with_reducible refine zAb ?_
  exact zBg (by simp) ⟨zAP rfl trivial (.inl rfl), zAP rfl trivial (.inl rfl), rfl⟩
end Go.Hx
end

section
set_option maxRecDepth 100000
set_option linter.unusedSimpArgs false
set_option linter.unusedSectionVars false
namespace Go.Hx
open Go.Proofs
variable [Glob] [GlobL]
section
variable {d : List Nd} (hd : zDD d d.length = true)
include hd
theorem yBq {k : Nat} (hk : k + 1 < d.length) : zBh d (k + 1) ∈ C d k := by
 have h := zBp hd hk
 simp only [zYF, yFq, Bool.and_eq_true] at h
 have h2 := h.2
 rw [if_neg (by omega)] at h2
 have h3 : zBh d (k + 1) ∈ zBB d (k + 1) (((k + 1 : Nat) : Int) - 1) := by simpa using h2
 rw [show (((k + 1 : Nat) : Int) - 1) = k by omega] at h3
 unfold C
 rw [zIs d.length (k + 1) k (fun j hj => (zBj hd j (by omega)).2) (by omega) (by omega)]
 exact h3
theorem yFe {k : Nat} (h0 : 0 < k) (hk : k < d.length) : 0 ≤ zBh d k := by
 obtain ⟨j, rfl⟩ : ∃ j, k = j + 1 := ⟨k - 1, by omega⟩
 exact (yFB hd (by omega) (yBq hd hk)).1
theorem yCZ (h : 0 < d.length) : zBh d 0 = -1 := by
 have := zBp hd h
 simp only [zYF, yFq, Bool.and_eq_true] at this
 simpa using this.2
theorem zZZ {n k : Nat} (hk : k + 1 < d.length) (hn : n < k) (h : (n : Int) ∈ C d (zBh d (k + 1))) : (n : Int) ∈ C d (zBh d k) := by
 have h1 := yFc hd k (by omega) (yBq hd hk) h
 rw [zJd hd (by omega)] at h1
 rcases List.mem_cons.1 h1 with e | e
 ·omega
 ·exact e
theorem zWe {n k : Nat} (hk : k < d.length) (h : k ≤ n) : (n : Int) ∉ C d (zBh d k) := by
 intro hx
 have := zBj hd k hk
 have := yFB hd (by omega) hx
 omega
theorem zPk {n m : Nat} (hm : m < d.length) (h : (n : Int) ∈ C d (zBh d m)) : ∀ t k, m = k + t → n < k → (n : Int) ∈ C d (zBh d k)
 |0, k, e, _ => by rw [Nat.add_zero] at e; rw [← e]; exact h
 |t + 1, k, e, hk => zZZ hd (by omega) hk (zPk hm h t (k + 1) (by omega) (by omega))
theorem zDJ (n k : Nat) : zAT d n (k + 1) = zAT d n k + (if (n : Int) ∈ C d (zBh d k) then 1 else 0) := by
 rw [zIa]
 by_cases h : (n : Int) ∈ C d (zBh d k)
 ·rw [if_pos h, if_pos (by simpa [C] using h)]
 ·rw [if_neg h, if_neg (by simpa [C] using h)]
theorem zKd {n : Nat} : ∀ k, k ≤ n + 1 → k ≤ d.length → zAT d n k = 0
 |0, _, _ => zV4 d n
 |k + 1, h, hk => by rw [zDJ hd, zKd k (by omega) (by omega), if_neg (zWe hd (by omega) (by omega))]; rfl
theorem zRz {n m : Nat} (hm : m < d.length) (h : ∀ k, n < k → k ≤ m → (n : Int) ∈ C d (zBh d k)) : ∀ t, n + 1 + t ≤ m + 1 → zAT d n (n + 1 + t) = t
 |0, _ => zKd hd _ (by omega) (by omega)
 |t + 1, ht => by
  rw [show n + 1 + (t + 1) = (n + 1 + t) + 1 by omega, zDJ hd, zRz hm h t (by omega), if_pos (h _ (by omega) (by omega))]
  omega
theorem zPl {n m : Nat} (hm : m < d.length) (hn : n < m) (h : (n : Int) ∉ C d (zBh d m)) : ∀ t, m + t ≤ d.length → zAT d n (m + t) = zAT d n m
 |0, _ => rfl
 |t + 1, ht => by
  rw [show m + (t + 1) = (m + t) + 1 by omega, zDJ hd, zPl hm hn h t (by omega), if_neg fun hx => h (zPk hd (by omega) hx t m (by omega) hn)]
  omega
theorem zRA (n : Nat) : ∀ t k, zAT d n k ≤ zAT d n (k + t)
 |0, k => Int.le_refl _
 |t + 1, k => by rw [show k + (t + 1) = (k + t) + 1 by omega, zDJ hd]; have := zRA n t k; split <;> omega
theorem zIe {n : Nat} : ∀ t, n + 1 + t ≤ d.length → zAT d n (n + 1 + t) ≤ t
 |0, h => by rw [zKd hd _ (by omega) h]; exact Int.le_refl _
 |t + 1, h => by rw [show n + 1 + (t + 1) = (n + 1 + t) + 1 by omega, zDJ hd]; have := zIe (n := n) t (by omega); split <;> omega
theorem zWf {n m : Nat} (hm : m < d.length) : zKA d n m = true ↔ n < m ∧ (m : Int) ≤ n + zCz d n := by
 have ha : zKA d n m = true ↔ (n : Int) ∈ C d (zBh d m) := by unfold zKA C; simp
 rw [ha]
 constructor
 ·intro h
  have hnm : n < m := Classical.byContradiction fun hx => zWe hd hm (by omega) h
  refine ⟨hnm, ?_⟩
  have h1 := zRz hd hm (fun k hk hkm => zPk hd hm h (m - k) k (by omega) hk) (m - n) (by omega)
  have h2 := zRA hd n (d.length - (n + 1 + (m - n))) (n + 1 + (m - n))
  rw [show n + 1 + (m - n) + (d.length - (n + 1 + (m - n))) = d.length by omega, h1] at h2
  unfold zCz
  omega
 ·rintro ⟨hnm, h⟩
  apply Classical.byContradiction
  intro hx
  have h1 := zPl hd hm hnm hx (d.length - m) (by omega)
  rw [show m + (d.length - m) = d.length by omega] at h1
  have h2 := zIe hd (n := n) (m - n - 1) (by omega)
  rw [show n + 1 + (m - n - 1) = m by omega] at h2
  unfold zCz at h
  omega
theorem zZ0 (n : Nat) : 0 ≤ zCz d n ∧ zCz d n ≤ d.length := zD9 _
end
theorem yBr {d : List Nd} {n : Nat} (h : 0 < n) : zEk d n = zIb d (zBh d n) := by
 unfold zEk; rw [if_neg (by omega)]; rfl
theorem zRB {d : List Nd} {n : Nat} : ∀ t, ∃ r, zAK d (zBh d n) (n + 1 + t) = zAK d (zBh d n) n ++ (n : Int) :: r ∧ ∀ x ∈ r, (n : Int) < x
 |0 => ⟨[], by rw [Nat.add_zero, zAU, if_pos rfl], by simp⟩
 |t + 1 => by
  obtain ⟨r, h1, h2⟩ := zRB t
  rw [show n + 1 + (t + 1) = (n + 1 + t) + 1 by omega, zAU]
  split
  ·refine ⟨r ++ [((n + 1 + t : Nat) : Int)], by rw [h1]; simp, fun x hx => ?_⟩
   rcases List.mem_append.1 hx with hx | hx
   ·exact h2 x hx
   ·have : x = ((n + 1 + t : Nat) : Int) := by simpa using hx
    omega
  ·exact ⟨r, h1, h2⟩
theorem zIv {d : List Nd} {u x : Int} : ∀ {k : Nat}, x ∈ zAK d u k → ∃ m : Nat, x = m ∧ m < k ∧ zBh d m = u
 |0, h => by rw [zLi] at h; cases h
 |k + 1, h => by
  rw [zAU] at h
  split at h
  ·rename_i he
   rcases List.mem_append.1 h with h | h
   ·obtain ⟨m, h1, h2, h3⟩ := zIv h; exact ⟨m, h1, by omega, h3⟩
   ·exact ⟨k, by simpa using h, by omega, he⟩
  ·obtain ⟨m, h1, h2, h3⟩ := zIv h; exact ⟨m, h1, by omega, h3⟩
theorem zKe {l r : List Int} {x : Int} (h : x ∉ l) : zBs (l ++ x :: r) x = l.length := by
 unfold zBs
 have h1 : l.findIdx? (fun y => decide (y = x)) = none := by
  rw [List.findIdx?_eq_none_iff]
  intro y hy
  simp only [decide_eq_false_iff_not]
  rintro rfl
  exact h hy
 rw [List.findIdx?_append, h1, List.findIdx?_cons]
 simp
theorem zPm {d : List Nd} {u : Int} {n : Nat} : (n : Int) ∉ zAK d u n := by
 intro h
 obtain ⟨m, h1, h2, _⟩ := zIv h
 omega
section
variable {d : List Nd} (hd : zDD d d.length = true)
include hd
theorem zWg {n : Nat} (hn : n < d.length) (h0 : 0 < n) : ∃ r, zEk d n = zAK d (zBh d n) n ++ (n : Int) :: r ∧ ∀ x ∈ r, (n : Int) < x := by
 obtain ⟨r, h1, h2⟩ := zRB (d := d) (n := n) (d.length - (n + 1))
 rw [show n + 1 + (d.length - (n + 1)) = d.length by omega] at h1
 exact ⟨r, by rw [yBr h0]; exact h1, h2⟩
theorem yBs {n : Nat} (hn : n < d.length) : plc d n = zBs (zEk d n) n + 1 := by
 unfold plc
 by_cases h0 : n = 0
 ·subst h0
  have : zEk d 0 = [0] := rfl
  rw [this, zLi]; rfl
 ·obtain ⟨r, h1, _⟩ := zWg hd hn (by omega)
  rw [h1, zKe zPm]
theorem yFf {n : Nat} (hn : n < d.length) : ofN d n = (zEk d n).length := by
 unfold ofN
 by_cases h0 : n = 0
 ·subst h0
  rw [yCZ hd (by omega)]; rfl
 ·rw [if_pos (yFe hd (by omega) hn), yBr (by omega)]
theorem yBt {n : Nat} : yER d n = [] ↔ (zIb d n).length = 0 := by
 unfold yER zIb zAK
 rw [List.length_map, List.length_eq_zero_iff]
end
end Go.Hx
end

section
set_option maxRecDepth 100000
set_option linter.unusedSimpArgs false
namespace Go.Hx
open Go.Proofs
variable [Glob] [GlobL]
attribute [local go_sem] zAq zAo zAp zAg ndV zAl
end Go.Hx
end
