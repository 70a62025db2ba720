/-
  Walks of functions of the program over an abstract layer, and the laws that they use: each contract says what the function computes, for every input that its conditions let by. No other condition.
-/
import Derived.Test.YtjnagiaooecklabGreatDoorG10
set_option linter.all false
section
/-
 Lists of paths as plain Lean data, what is right of them, and which error is told. No condition.
-/
namespace Go.Hx
mutual
inductive Ts where
 |mk (kind : Int) (name value : Bys) (na nb : Int) (list : List Pt)
inductive St where
 |mk (tag : Bys) (tests : List Ts)
inductive Pt where
 |mk (steps : List St) (links : List Int)
end
instance : Inhabited Ts := ⟨.mk 0 [] [] 0 0 []⟩
instance : Inhabited St := ⟨.mk [] []⟩
instance : Inhabited Pt := ⟨.mk [] []⟩
def Ts.kind : Ts → Int | .mk k _ _ _ _ _ => k
def Ts.name : Ts → Bys | .mk _ n _ _ _ _ => n
def Ts.value : Ts → Bys | .mk _ _ v _ _ _ => v
def Ts.na : Ts → Int | .mk _ _ _ a _ _ => a
def Ts.nb : Ts → Int | .mk _ _ _ _ b _ => b
def Ts.list : Ts → List Pt | .mk _ _ _ _ _ l => l
def St.tag : St → Bys | .mk t _ => t
def St.tests : St → List Ts | .mk _ l => l
def Pt.steps : Pt → List St | .mk s _ => s
def Pt.links : Pt → List Int | .mk _ l => l
mutual
def tsV : Ts → List PV
 |.mk k n v a b l => [bI k, bS n, bS v, bI a, bI b, .sl 2 (zOh l)]
def yAO : List Ts → List (List PV)
 |[] => []
 |t :: r => tsV t :: yAO r
def stV : St → List PV
 |.mk t l => [bS t, .sl 6 (yAO l)]
def zZ9 : List St → List (List PV)
 |[] => []
 |s :: r => stV s :: zZ9 r
def ptV : Pt → List PV
 |.mk s l => [.sl 2 (zZ9 s), .sl 1 (zAS l)]
def zOh : List Pt → List (List PV)
 |[] => []
 |p :: r => ptV p :: zOh r
end
def zBo (l : List Pt) : PVal := .one (.sl 2 (zOh l))
theorem zNr : ∀ l : List Ts, yAO l = l.map tsV
 |[] => rfl
 |t :: r => by simp only [yAO, List.map_cons, zNr r]
theorem zNs : ∀ l : List St, zZ9 l = l.map stV
 |[] => rfl
 |t :: r => by simp only [zZ9, List.map_cons, zNs r]
theorem zNt : ∀ l : List Pt, zOh l = l.map ptV
 |[] => rfl
 |t :: r => by simp only [zOh, List.map_cons, zNt r]
theorem zBq (l : List Ts) : (yAO l).length = l.length := by simp [zNr]
theorem zBr (l : List St) : (zZ9 l).length = l.length := by simp [zNs]
theorem zA3 (l : List Pt) : (zOh l).length = l.length := by simp [zNt]
theorem zMF (t : Ts) : tsV t = [bI t.kind, bS t.name, bS t.value, bI t.na, bI t.nb, .sl 2 (zOh t.list)] := by cases t; rfl
theorem zRd (t : St) : stV t = [bS t.tag, .sl 6 (yAO t.tests)] := by cases t; rfl
theorem zHd (t : Pt) : ptV t = [.sl 2 (zZ9 t.steps), .sl 1 (zAS t.links)] := by cases t; rfl
theorem zSi (d : List Ts) (i : Nat) (h : i < d.length) : (yAO d).getD i [] = tsV (d.getD i default) := by simp [zNr, h]
theorem zSj (d : List St) (i : Nat) (h : i < d.length) : (zZ9 d).getD i [] = stV (d.getD i default) := by simp [zNs, h]
theorem zSk (d : List Pt) (i : Nat) (h : i < d.length) : (zOh d).getD i [] = ptV (d.getD i default) := by simp [zNt, h]
theorem zEQ {α : Type} [Inhabited α] {l : List α} {i : Nat} (h : i < l.length) : l.getD i default ∈ l := by
 rw [List.getD_eq_getElem?_getD, List.getElem?_eq_getElem h]
 exact List.getElem_mem h
theorem yEM (t : Ts) : SizeOf.sizeOf t.list < SizeOf.sizeOf t := by cases t; simp only [Ts.list, Ts.mk.sizeOf_spec]; omega
theorem yCr (t : St) : SizeOf.sizeOf t.tests < SizeOf.sizeOf t := by cases t; simp only [St.tests, St.mk.sizeOf_spec]; omega
theorem yCs (t : Pt) : SizeOf.sizeOf t.steps < SizeOf.sizeOf t := by cases t; simp only [Pt.steps, Pt.mk.sizeOf_spec]; omega
theorem yII {l : List Ts} {i : Nat} (h : i < l.length) : SizeOf.sizeOf (l.getD i default) < SizeOf.sizeOf l := List.sizeOf_lt_of_mem (zEQ h)
theorem yIJ {l : List St} {i : Nat} (h : i < l.length) : SizeOf.sizeOf (l.getD i default) < SizeOf.sizeOf l := List.sizeOf_lt_of_mem (zEQ h)
theorem yIK {l : List Pt} {i : Nat} (h : i < l.length) : SizeOf.sizeOf (l.getD i default) < SizeOf.sizeOf l := List.sizeOf_lt_of_mem (zEQ h)
def yAP (k : Int) : Bool := decide (1 ≤ k ∧ k ≤ 8)
def zUF (k : Int) : Bool := decide (4 ≤ k ∧ k ≤ 8)
def yHz (k : Int) : Bool := decide (k = 9) || decide (k = 10)
def zLL (k : Int) : Bool := decide (13 ≤ k ∧ k ≤ 15)
def zSl (a : Int) : Bool := decide (-1048576 ≤ a ∧ a ≤ 1048576)
def zSm (a b : Int) : Int := if zSl a && zSl b then 0 else 3
mutual
def yAa : List Pt → Nat → Bool
 |[], _ => false
 |p :: r, d => tmP p d || yAa r d
def tmP : Pt → Nat → Bool
 |.mk s l, d => !(decide (1 ≤ s.length ∧ s.length ≤ 5)) || decide ((l.length : Int) ≠ s.length - 1) || yBL s d
def yBL : List St → Nat → Bool
 |[], _ => false
 |s :: r, d => tmS s d || yBL r d
def tmS : St → Nat → Bool
 |.mk _ l, d => decide (6 < l.length) || yBM l d
def yBM : List Ts → Nat → Bool
 |[], _ => false
 |t :: r, d => tmT t d || yBM r d
def tmT : Ts → Nat → Bool
 |.mk k _ _ _ _ l, d => zLL k && (decide (3 < d + 1) || !(decide (1 ≤ l.length ∧ l.length ≤ 5)) || yAa l (d + 1))
end
def tmL (l : List Pt) (d : Nat) : Bool := decide (3 < d) || !(decide (1 ≤ l.length ∧ l.length ≤ 5)) || yAa l d
def zWW (n : Int) : Bool := !(decide (1 ≤ n ∧ n ≤ 4))
mutual
def yCt : List Pt → Bool
 |[] => false
 |p :: r => bkP p || yCt r
def bkP : Pt → Bool
 |.mk s l => l.any zWW || yFr s
def yFr : List St → Bool
 |[] => false
 |s :: r => bkS s || yFr r
def bkS : St → Bool
 |.mk _ l => yFs l
def yFs : List Ts → Bool
 |[] => false
 |t :: r => bkT t || yFs r
def bkT : Ts → Bool
 |.mk k _ _ _ _ l => !(decide (1 ≤ k ∧ k ≤ 15)) || (zLL k && yCt l)
end
def yDv (t : Ts) : Bool := (yAP t.kind && !zCC t.name) || (!yAP t.kind && !(t.name == []))
def yDw (t : Ts) : Bool := (zUF t.kind && !zHb t.value) || (!zUF t.kind && !(t.value == []))
def yCu (t : Ts) : Bool := (!yHz t.kind && !(t.na == 0 && t.nb == 0)) || (!zLL t.kind && decide (0 < t.list.length))
mutual
def yCv : List Pt → Bool
 |[] => false
 |p :: r => bfP p || yCv r
def bfP : Pt → Bool
 |.mk s _ => yFt s
def yFt : List St → Bool
 |[] => false
 |s :: r => bfS s || yFt r
def bfS : St → Bool
 |.mk t l => (!(t == []) && !zCC t) || yFu l
def yFu : List Ts → Bool
 |[] => false
 |t :: r => bfT t || yFu r
def bfT : Ts → Bool
 |.mk k n v a b l => yDv (.mk k n v a b l) || yDw (.mk k n v a b l) || yCu (.mk k n v a b l) || (zLL k && yCv l)
end
mutual
def yBN : List Pt → Bool
 |[] => false
 |p :: r => bnP p || yBN r
def bnP : Pt → Bool
 |.mk s _ => yFv s
def yFv : List St → Bool
 |[] => false
 |s :: r => bnS s || yFv r
def bnS : St → Bool
 |.mk _ l => yFw l
def yFw : List Ts → Bool
 |[] => false
 |t :: r => bnT t || yFw r
def bnT : Ts → Bool
 |.mk _ _ _ a b l => !(decide (zSm a b = 0)) || yBN l
end
def zCD (l : List Pt) : Int := if tmL l 1 then 2 else if yCt l then 4 else if yCv l then 1 else if yBN l then 3 else 0
structure Fd where
 f : Nat
 m : Nat
 r : Nat
 k : Nat
 deriving DecidableEq, Inhabited
def Fd.add (a b : Fd) : Fd := ⟨a.f + b.f, a.m + b.m, a.r + b.r, a.k + b.k⟩
def fd0 : Fd := ⟨0, 0, 0, 0⟩
def fdV (c : Fd) : List PV := [bI 0, bI c.f, bI c.m, bI c.r, bI c.k]
def nB (b : Bool) : Nat := if b then 1 else 0
def fF (b : Bool) : Fd := ⟨nB b, 0, 0, 0⟩
def fM (b : Bool) : Fd := ⟨0, nB b, 0, 0⟩
def fR (b : Bool) : Fd := ⟨0, 0, nB b, 0⟩
def fK (b : Bool) : Fd := ⟨0, 0, 0, nB b⟩
theorem Fd.add_assoc (a b c : Fd) : (a.add b).add c = a.add (b.add c) := by simp [Fd.add, Nat.add_assoc]
theorem Fd.add_zero (a : Fd) : a.add fd0 = a := rfl
theorem Fd.zero_add (a : Fd) : fd0.add a = a := by simp [Fd.add, fd0]
def zHe (l : List Pt) (d : Nat) : Bool := decide (3 < d) || decide (l.length < 1) || decide (5 < l.length)
def zWX (p : Pt) : Bool := decide (p.steps.length < 1) || decide (5 < p.steps.length) || decide ((p.links.length : Int) ≠ p.steps.length - 1)
def zYJ (l : List Int) : Fd := ⟨0, 0, 0, l.countP zWW⟩
def yBO (t : Ts) : Fd := (((((fK (!decide (1 ≤ t.kind ∧ t.kind ≤ 15))).add (fF (yDv t))).add (fF (yDw t))).add (fF (yCu t))).add (fR (!decide (zSm t.na t.nb = 0))))
mutual
def zWA : List Pt → Nat → Fd
 |[], _ => fd0
 |p :: r, d => if zWX p then fM true else ((zYJ p.links).add (ntP p d)).add (zWA r d)
def ntP : Pt → Nat → Fd
 |.mk s _, d => zYK s d
def zYK : List St → Nat → Fd
 |[], _ => fd0
 |s :: r, d => (ntS s d).add (zYK r d)
def ntS : St → Nat → Fd
 |.mk t l, d => if 6 < l.length then fM true else (fF (!(t == []) && !zCC t)).add (zYL l d)
def zYL : List Ts → Nat → Fd
 |[], _ => fd0
 |t :: r, d => (ntT t d).add (zYL r d)
def ntT : Ts → Nat → Fd
 |.mk k n v a b l, d => (yBO (.mk k n v a b l)).add (if zLL k then (if zHe l (d + 1) then fM true else zWA l (d + 1)) else fd0)
end
def ntL (l : List Pt) (d : Nat) : Fd := if zHe l d then fM true else zWA l d
theorem yG8 (t : Ts) (d : Nat) : ntT t d = (yBO t).add (if zLL t.kind then ntL t.list (d + 1) else fd0) := by cases t; rfl
theorem yDx (s : St) (d : Nat) : ntS s d = if 6 < s.tests.length then fM true else (fF (!(s.tag == []) && !zCC s.tag)).add (zYL s.tests d) := by cases s; rfl
theorem yG9 (p : Pt) (d : Nat) : ntP p d = zYK p.steps d := by cases p; rfl
theorem yAQ (b : Bool) : 0 < nB b ↔ b = true := by cases b <;> simp [nB]
theorem zUG (l : List Pt) (d : Nat) : zHe l d = (decide (3 < d) || !(decide (1 ≤ l.length ∧ l.length ≤ 5))) := by
 unfold zHe
 by_cases h1 : 3 < d <;> by_cases h2 : l.length < 1 <;> by_cases h3 : 5 < l.length <;> simp [h1, h2, h3] <;> omega
mutual
theorem yIL : ∀ (l : List Pt) (d : Nat), 0 < (zWA l d).m ↔ yAa l d = true
 |[], d => by simp [zWA, yAa, fd0]
 |p :: r, d => by
  have h1 := m_P p d
  have h2 := yIL r d
  simp only [zWA, yAa]
  have hp : zWX p = true → tmP p d = true := by
   intro hb
   cases p with
   |mk s l =>
    have hb : (decide (s.length < 1) || decide (5 < s.length) || decide ((l.length : Int) ≠ s.length - 1)) = true := hb
    simp only [Bool.or_eq_true, decide_eq_true_eq] at hb
    simp only [tmP, Bool.or_eq_true, decide_eq_true_eq, Bool.not_eq_true', decide_eq_false_iff_not]
    omega
  split
  ·rename_i hb
   simp [fM, nB, hp hb]
  ·rename_i hb
   have h3 := h1 (by simpa using hb)
   simp only [Fd.add, zYJ, Bool.or_eq_true, ← h3, ← h2]
   omega
theorem m_P : ∀ (p : Pt) (d : Nat), zWX p = false → (0 < (ntP p d).m ↔ tmP p d = true)
 |.mk s l, d, hb => by
  have h := yI3 s d
  have hb : (decide (s.length < 1) || decide (5 < s.length) || decide ((l.length : Int) ≠ s.length - 1)) = false := hb
  simp only [Bool.or_eq_false_iff, decide_eq_false_iff_not] at hb
  have e1 : decide (1 ≤ s.length ∧ s.length ≤ 5) = true := by simp; omega
  have e2 : decide ((l.length : Int) ≠ s.length - 1) = false := by simp; omega
  simp only [ntP, tmP, e1, e2, h, Bool.not_true, Bool.false_or]
theorem yI3 : ∀ (l : List St) (d : Nat), 0 < (zYK l d).m ↔ yBL l d = true
 |[], d => by simp [zYK, yBL, fd0]
 |p :: r, d => by
  have h1 := m_S p d
  have h2 := yI3 r d
  simp only [zYK, yBL, Fd.add, Bool.or_eq_true, ← h1, ← h2]
  omega
theorem m_S : ∀ (p : St) (d : Nat), 0 < (ntS p d).m ↔ tmS p d = true
 |.mk t l, d => by
  have h := yI4 l d
  simp only [ntS, tmS]
  split
  ·rename_i hb; simp [fM, nB, hb]
  ·rename_i hb
   simp only [Fd.add, fF, Bool.or_eq_true, decide_eq_true_eq, ← h]
   omega
theorem yI4 : ∀ (l : List Ts) (d : Nat), 0 < (zYL l d).m ↔ yBM l d = true
 |[], d => by simp [zYL, yBM, fd0]
 |p :: r, d => by
  have h1 := m_T p d
  have h2 := yI4 r d
  simp only [zYL, yBM, Fd.add, Bool.or_eq_true, ← h1, ← h2]
  omega
theorem m_T : ∀ (p : Ts) (d : Nat), 0 < (ntT p d).m ↔ tmT p d = true
 |.mk k n v a b l, d => by
  have h := yIL l (d + 1)
  simp only [ntT, tmT, Fd.add, yBO, fF, fK, fR, Nat.zero_add]
  by_cases hk : zLL k = true
  ·simp only [hk, if_true, Bool.true_and]
   rw [zUG]
   by_cases hb : (decide (3 < d + 1) || !(decide (1 ≤ l.length ∧ l.length ≤ 5))) = true
   ·rw [if_pos hb, hb]; simp [fM, nB]
   ·rw [if_neg hb]
    have hb2 : (decide (3 < d + 1) || !(decide (1 ≤ l.length ∧ l.length ≤ 5))) = false := eq_false_of_ne_true hb
    rw [hb2, Bool.false_or, h]
  ·have hk2 : zLL k = false := by simpa using hk
   simp [hk2, fd0]
end
theorem m_L (l : List Pt) (d : Nat) : 0 < (ntL l d).m ↔ tmL l d = true := by
 unfold ntL tmL
 rw [zUG]
 by_cases hb : (decide (3 < d) || !(decide (1 ≤ l.length ∧ l.length ≤ 5))) = true
 ·rw [if_pos hb, hb]; simp [fM, nB]
 ·rw [if_neg hb]
  have hb2 : (decide (3 < d) || !(decide (1 ≤ l.length ∧ l.length ≤ 5))) = false := eq_false_of_ne_true hb
  rw [hb2, Bool.false_or, yIL]
def Oth (c : Fd) (k f r : Bool) : Prop := c.m = 0 → ((0 < c.k ↔ k = true) ∧ (0 < c.f ↔ f = true) ∧ (c.f = 0 → (0 < c.r ↔ r = true)))
theorem Oth.add {a b : Fd} {k f r k' f' r' : Bool} (h : Oth a k f r) (g : Oth b k' f' r') : Oth (a.add b) (k || k') (f || f') (r || r') := by
 intro hm
 simp only [Fd.add] at hm ⊢
 obtain ⟨h1, h2, h3⟩ := h (by omega)
 obtain ⟨g1, g2, g3⟩ := g (by omega)
 refine ⟨?_, ?_, fun hf => ?_⟩
 ·rw [Bool.or_eq_true, ← h1, ← g1]; omega
 ·rw [Bool.or_eq_true, ← h2, ← g2]; omega
 ·have h4 := h3 (by omega)
  have g4 := g3 (by omega)
  rw [Bool.or_eq_true, ← h4, ← g4]; omega
theorem Oth.zero : Oth fd0 false false false := fun _ => ⟨by simp [fd0], by simp [fd0], fun _ => by simp [fd0]⟩
theorem Oth.many {k f r : Bool} : Oth (fM true) k f r := fun h => by simp [fM, nB] at h
theorem Oth.k (b : Bool) : Oth (fK b) b false false := fun _ => ⟨by simp [fK, yAQ], by simp [fK], fun _ => by simp [fK]⟩
theorem Oth.f (b : Bool) : Oth (fF b) false b false := fun _ => ⟨by simp [fF], by simp [fF, yAQ], fun _ => by simp [fF]⟩
theorem Oth.r (b : Bool) : Oth (fR b) false false b := fun _ => ⟨by simp [fR], by simp [fR], fun _ => by simp [fR, yAQ]⟩
theorem Oth.cast {c : Fd} {k f r k' f' r' : Bool} (h : Oth c k f r) (h1 : k = k') (h2 : f = f') (h3 : r = r') : Oth c k' f' r' := by subst h1 h2 h3; exact h
theorem Oth.lk (l : List Int) : Oth (zYJ l) (l.any zWW) false false := by
 intro _
 refine ⟨?_, by simp [zYJ], fun _ => by simp [zYJ]⟩
 simp [zYJ, List.any_eq_true, List.countP_pos_iff]
mutual
theorem yIM : ∀ (l : List Pt) (d : Nat), Oth (zWA l d) (yCt l) (yCv l) (yBN l)
 |[], d => Oth.zero
 |p :: r, d => by
  simp only [zWA, yCt, yCv, yBN]
  split
  ·exact Oth.many
  ·refine ((o_P p d).add (yIM r d))
theorem o_P : ∀ (p : Pt) (d : Nat), Oth ((zYJ p.links).add (ntP p d)) (bkP p) (bfP p) (bnP p)
 |.mk s l, d => by
  simp only [ntP, Pt.links, bkP, bfP, bnP]
  exact ((Oth.lk l).add (yI5 s d)).cast rfl (by simp) (by simp)
theorem yI5 : ∀ (l : List St) (d : Nat), Oth (zYK l d) (yFr l) (yFt l) (yFv l)
 |[], d => Oth.zero
 |p :: r, d => by
  simp only [zYK, yFr, yFt, yFv]
  exact (o_S p d).add (yI5 r d)
theorem o_S : ∀ (p : St) (d : Nat), Oth (ntS p d) (bkS p) (bfS p) (bnS p)
 |.mk t l, d => by
  simp only [ntS, bkS, bfS, bnS]
  split
  ·exact Oth.many
  ·exact ((Oth.f _).add (yI6 l d)).cast (by simp) rfl (by simp)
theorem yI6 : ∀ (l : List Ts) (d : Nat), Oth (zYL l d) (yFs l) (yFu l) (yFw l)
 |[], d => Oth.zero
 |p :: r, d => by
  simp only [zYL, yFs, yFu, yFw]
  exact (o_T p d).add (yI6 r d)
theorem o_T : ∀ (p : Ts) (d : Nat), Oth (ntT p d) (bkT p) (bfT p) (bnT p)
 |.mk k n v a b l, d => by
  have h := yIM l (d + 1)
  have h1 : Oth (yBO (.mk k n v a b l)) (!decide (1 ≤ k ∧ k ≤ 15)) (yDv (.mk k n v a b l) || yDw (.mk k n v a b l) || yCu (.mk k n v a b l)) (!decide (zSm a b = 0)) :=
   (((((Oth.k (!decide (1 ≤ k ∧ k ≤ 15))).add (Oth.f _)).add (Oth.f _)).add (Oth.f _)).add (Oth.r (!decide (zSm a b = 0)))).cast (by simp only [Bool.or_false]) (by simp only [Bool.false_or, Bool.or_false]) (by simp only [Bool.false_or])
  simp only [ntT, bkT, bfT, bnT]
  by_cases hk : zLL k = true
  ·simp only [hk, if_true, Bool.true_and]
   split
   ·intro hm
    simp [Fd.add, fM, nB] at hm
   ·exact h1.add h
  ·have hk2 : zLL k = false := eq_false_of_ne_true hk
   simp only [hk2, Bool.false_and, Bool.or_false]
   intro hm
   obtain ⟨a1, a2, a3⟩ := h1 (by simpa [Fd.add, fd0] using hm)
   refine ⟨by simpa [Fd.add, fd0] using a1, by simpa [Fd.add, fd0] using a2, fun hf => ?_⟩
   have hf0 : (yBO (.mk k n v a b l)).f = 0 := by simpa [Fd.add, fd0] using hf
   have a4 := a3 hf0
   have hl : l = [] := by
    have h5 : ¬ (yDv (.mk k n v a b l) || yDw (.mk k n v a b l) || yCu (.mk k n v a b l)) = true := by
     rw [← a2]; omega
    simp only [yCu, Ts.kind, Ts.list, hk2, Bool.not_false, Bool.true_and, Bool.or_eq_true, decide_eq_true_eq, not_or] at h5
    have := h5.2.2
    cases l with
    |nil => rfl
    |cons x y => simp at this
   subst hl
   simpa [Fd.add, fd0, yBN] using a4
end
def yEN (c : Fd) : Int := if 0 < c.m then 2 else if 0 < c.k then 4 else if 0 < c.f then 1 else if 0 < c.r then 3 else 0
theorem yHa (l : List Pt) : yEN (ntL l 1) = zCD l := by
 unfold yEN zCD
 have hm := m_L l 1
 by_cases h : tmL l 1 = true
 ·rw [if_pos (hm.2 h), if_pos h]
 ·have hm0 : ¬ 0 < (ntL l 1).m := fun hc => h (hm.1 hc)
  rw [if_neg hm0, if_neg h]
  have hb : zHe l 1 = false := by
   cases hb : zHe l 1 with
   |false => rfl
   |true => unfold ntL at hm0; rw [if_pos hb] at hm0; simp [fM, nB] at hm0
  have e : ntL l 1 = zWA l 1 := by unfold ntL; rw [if_neg (by rw [hb]; simp)]
  rw [e] at hm0 ⊢
  obtain ⟨h1, h2, h3⟩ := yIM l 1 (by omega)
  by_cases hk : yCt l = true
  ·rw [if_pos (h1.2 hk), if_pos hk]
  ·rw [if_neg (fun hc => hk (h1.1 hc)), if_neg hk]
   by_cases hf : yCv l = true
   ·rw [if_pos (h2.2 hf), if_pos hf]
   ·have hf0 : ¬ 0 < (zWA l 1).f := fun hc => hf (h2.1 hc)
    rw [if_neg hf0, if_neg hf]
    have h4 := h3 (by omega)
    by_cases hr : yBN l = true
    ·rw [if_pos (h4.2 hr), if_pos hr]
    ·rw [if_neg (fun hc => hr (h4.1 hc)), if_neg hr]
def bdF : Nat → Nat
 |0 => 1
 |f + 1 => 4 + 5 * (4 + 5 * (1 + 6 * (5 + bdF f)))
def bd (d : Nat) : Nat := bdF (4 - d)
def bdT (d : Nat) : Nat := 5 + bd (d + 1)
def bdS (d : Nat) : Nat := 1 + 6 * bdT d
def bdP (d : Nat) : Nat := 4 + 5 * bdS d
theorem zSn : ∀ f, 1 ≤ bdF f
 |0 => Nat.le_refl _
 |f + 1 => by simp only [bdF]; omega
theorem yEO {d : Nat} (h : d ≤ 3) : bd d = 4 + 5 * bdP d := by
 unfold bdP bdS bdT bd
 obtain ⟨f, hf⟩ : ∃ f, 4 - d = f + 1 := ⟨4 - d - 1, by omega⟩
 have e : 4 - (d + 1) = f := by omega
 rw [hf, e]
 rfl
theorem yHb : bd 1 ≤ 100000000 := by decide
structure Fd.le (c : Fd) (n : Nat) : Prop where
 f : c.f ≤ n
 m : c.m ≤ n
 r : c.r ≤ n
 k : c.k ≤ n
theorem Fd.le.le_add {a b : Fd} {n m : Nat} (h : a.le n) (g : b.le m) : (a.add b).le (n + m) := by
 obtain ⟨h1, h2, h3, h4⟩ := h
 obtain ⟨g1, g2, g3, g4⟩ := g
 exact ⟨Nat.add_le_add h1 g1, Nat.add_le_add h2 g2, Nat.add_le_add h3 g3, Nat.add_le_add h4 g4⟩
theorem Fd.le.le_mono {a : Fd} {n m : Nat} (h : a.le n) (g : n ≤ m) : a.le m := ⟨Nat.le_trans h.f g, Nat.le_trans h.m g, Nat.le_trans h.r g, Nat.le_trans h.k g⟩
theorem yCw (b : Bool) : nB b ≤ 1 := by cases b <;> simp [nB]
theorem yCx (b : Bool) : (fM b).le 1 := ⟨Nat.zero_le _, yCw b, Nat.zero_le _, Nat.zero_le _⟩
theorem zUH (b : Bool) : (fF b).le 1 := ⟨yCw b, Nat.zero_le _, Nat.zero_le _, Nat.zero_le _⟩
theorem yEP (b : Bool) : (fK b).le 1 := ⟨Nat.zero_le _, Nat.zero_le _, Nat.zero_le _, yCw b⟩
theorem yHc (b : Bool) : (fR b).le 1 := ⟨Nat.zero_le _, Nat.zero_le _, yCw b, Nat.zero_le _⟩
theorem zUI (n : Nat) : fd0.le n := ⟨Nat.zero_le _, Nat.zero_le _, Nat.zero_le _, Nat.zero_le _⟩
theorem yIN (t : Ts) : (yBO t).le 5 := ((((yEP _).le_add (zUH _)).le_add (zUH _)).le_add (zUH _)).le_add (yHc _)
theorem yIO (l : List Int) : (zYJ l).le l.length := ⟨Nat.zero_le _, Nat.zero_le _, Nat.zero_le _, List.countP_le_length⟩
mutual
theorem yIP : ∀ (l : List Pt) (d : Nat), (zWA l d).le (1 + l.length * bdP d)
 |[], d => zUI _
 |p :: r, d => by
  have h2 := yIP r d
  simp only [zWA, List.length_cons]
  split
  ·exact (yCx _).le_mono (Nat.le_add_right _ _)
  ·rename_i hb
   have h1 := b_P p d (eq_false_of_ne_true hb)
   exact (h1.le_add h2).le_mono (by rw [Nat.add_mul]; omega)
theorem b_P : ∀ (p : Pt) (d : Nat), zWX p = false → ((zYJ p.links).add (ntP p d)).le (bdP d)
 |.mk s l, d, hb => by
  have hb : (decide (s.length < 1) || decide (5 < s.length) || decide ((l.length : Int) ≠ s.length - 1)) = false := hb
  simp only [Bool.or_eq_false_iff, decide_eq_false_iff_not] at hb
  have h := yI7 s d
  simp only [ntP, Pt.links]
  refine ((yIO l).le_add h).le_mono ?_
  have h5 : s.length * bdS d ≤ 5 * bdS d := Nat.mul_le_mul_right _ (by omega)
  unfold bdP
  omega
theorem yI7 : ∀ (l : List St) (d : Nat), (zYK l d).le (l.length * bdS d)
 |[], d => zUI _
 |p :: r, d => by
  simp only [zYK, List.length_cons]
  exact ((b_S p d).le_add (yI7 r d)).le_mono (by rw [Nat.add_mul]; omega)
theorem b_S : ∀ (p : St) (d : Nat), (ntS p d).le (bdS d)
 |.mk t l, d => by
  simp only [ntS]
  split
  ·exact (yCx _).le_mono (by unfold bdS; omega)
  ·refine ((zUH _).le_add (yI8 l d)).le_mono ?_
   have h5 : l.length * bdT d ≤ 6 * bdT d := Nat.mul_le_mul_right _ (by omega)
   unfold bdS
   omega
theorem yI8 : ∀ (l : List Ts) (d : Nat), (zYL l d).le (l.length * bdT d)
 |[], d => zUI _
 |p :: r, d => by
  simp only [zYL, List.length_cons]
  exact ((b_T p d).le_add (yI8 r d)).le_mono (by rw [Nat.add_mul]; omega)
theorem b_T : ∀ (p : Ts) (d : Nat), (ntT p d).le (bdT d)
 |.mk k n v a b l, d => by
  have h := yIP l (d + 1)
  simp only [ntT]
  refine (yIN _).le_add ?_
  split
  ·split
   ·exact (yCx _).le_mono (zSn _)
   ·rename_i hb
    simp only [zHe, Bool.or_eq_true, decide_eq_true_eq, not_or] at hb
    have h5 : l.length * bdP (d + 1) ≤ 5 * bdP (d + 1) := Nat.mul_le_mul_right _ (by omega)
    refine h.le_mono ?_
    rw [yEO (d := d + 1) (by omega)]
    omega
  ·exact zUI _
end
theorem b_L (l : List Pt) (d : Nat) : (ntL l d).le (bd d) := by
 unfold ntL
 split
 ·exact (yCx _).le_mono (zSn _)
 ·rename_i hb
  simp only [zHe, Bool.or_eq_true, decide_eq_true_eq, not_or] at hb
  have h5 : l.length * bdP d ≤ 5 * bdP d := Nat.mul_le_mul_right _ (by omega)
  refine (yIP l d).le_mono ?_
  rw [yEO (by omega)]
  omega
end Go.Hx
end

section
/-
 Right lists of paths, and their parts. Plain Lean. No condition.
-/
set_option maxRecDepth 100000
set_option linter.unusedSimpArgs false
namespace Go.Hx
def GTs (l : List Ts) (d : Nat) : Prop := yBM l d = false ∧ yFs l = false ∧ yFu l = false ∧ yFw l = false
def GT (t : Ts) (d : Nat) : Prop := tmT t d = false ∧ bkT t = false ∧ bfT t = false ∧ bnT t = false
def GS (x : St) (d : Nat) : Prop := tmS x d = false ∧ bkS x = false ∧ bfS x = false ∧ bnS x = false
def GSs (l : List St) (d : Nat) : Prop := yBL l d = false ∧ yFr l = false ∧ yFt l = false ∧ yFv l = false
def GP (x : Pt) (d : Nat) : Prop := tmP x d = false ∧ bkP x = false ∧ bfP x = false ∧ bnP x = false
def GPs (l : List Pt) (d : Nat) : Prop := yAa l d = false ∧ yCt l = false ∧ yCv l = false ∧ yBN l = false
def GL (l : List Pt) (d : Nat) : Prop := d ≤ 3 ∧ 1 ≤ l.length ∧ l.length ≤ 5 ∧ GPs l d
theorem GTs.cons {t : Ts} {l : List Ts} {d : Nat} (h : GTs (t :: l) d) : GT t d ∧ GTs l d := by
 simp only [GTs, yBM, yFs, yFu, yFw, Bool.or_eq_false_iff] at h
 exact ⟨⟨h.1.1, h.2.1.1, h.2.2.1.1, h.2.2.2.1⟩, ⟨h.1.2, h.2.1.2, h.2.2.1.2, h.2.2.2.2⟩⟩
theorem GSs.cons {t : St} {l : List St} {d : Nat} (h : GSs (t :: l) d) : GS t d ∧ GSs l d := by
 simp only [GSs, yBL, yFr, yFt, yFv, Bool.or_eq_false_iff] at h
 exact ⟨⟨h.1.1, h.2.1.1, h.2.2.1.1, h.2.2.2.1⟩, ⟨h.1.2, h.2.1.2, h.2.2.1.2, h.2.2.2.2⟩⟩
theorem GPs.cons {t : Pt} {l : List Pt} {d : Nat} (h : GPs (t :: l) d) : GP t d ∧ GPs l d := by
 simp only [GPs, yAa, yCt, yCv, yBN, Bool.or_eq_false_iff] at h
 exact ⟨⟨h.1.1, h.2.1.1, h.2.2.1.1, h.2.2.2.1⟩, ⟨h.1.2, h.2.1.2, h.2.2.1.2, h.2.2.2.2⟩⟩
theorem GS.parts {tag : Bys} {l : List Ts} {d : Nat} (h : GS (.mk tag l) d) : l.length ≤ 6 ∧ (tag = [] ∨ zCC tag = true) ∧ GTs l d := by
 simp only [GS, tmS, bkS, bfS, bnS, Bool.or_eq_false_iff, decide_eq_false_iff_not] at h
 refine ⟨by omega, ?_, h.1.2, h.2.1, h.2.2.1.2, h.2.2.2⟩
 have := h.2.2.1.1
 cases ht : tag with
 |nil => exact .inl rfl
 |cons c tag =>
  right
  rw [ht] at this
  simpa using this
theorem GP.parts {st : List St} {lk : List Int} {d : Nat} (h : GP (.mk st lk) d) : 1 ≤ st.length ∧ st.length ≤ 5 ∧ lk.length + 1 = st.length ∧ (∀ n ∈ lk, 1 ≤ n ∧ n ≤ 4) ∧ GSs st d := by
 simp only [GP, tmP, bkP, bfP, bnP, Bool.or_eq_false_iff, Bool.not_eq_false', decide_eq_true_eq, decide_eq_false_iff_not, List.any_eq_false, zWW, Bool.not_eq_true'] at h
 obtain ⟨⟨⟨h1, h2⟩, h3⟩, ⟨h4, h5⟩, h6, h7⟩ := h
 refine ⟨h1.1, h1.2, by omega, fun n hn => ?_, h3, h5, h6, h7⟩
 have := h4 n hn
 simp only [decide_eq_false_iff_not, Classical.not_not] at this
 exact this
theorem GT.parts {k : Int} {n v : Bys} {a b : Int} {l : List Pt} {d : Nat} (h : GT (.mk k n v a b l) d) :
  (1 ≤ k ∧ k ≤ 15) ∧ (if k ≤ 8 then zCC n = true else n = []) ∧ (if 4 ≤ k ∧ k ≤ 8 then zHb v = true else v = []) ∧ (if k = 9 ∨ k = 10 then True else a = 0 ∧ b = 0) ∧ zSm a b = 0 ∧ (if 13 ≤ k then GL l (d + 1) else l = []) := by
 simp only [GT, tmT, bkT, bfT, bnT, Bool.or_eq_false_iff, Bool.and_eq_false_iff, Bool.not_eq_false', decide_eq_true_eq, decide_eq_false_iff_not, yDv, yDw, yCu, Ts.kind, Ts.name, Ts.value, Ts.na, Ts.nb, Ts.list, yAP, zUF, yHz, zLL, Bool.and_eq_true, beq_iff_eq, Bool.not_eq_true'] at h
 obtain ⟨h1, ⟨h2, h3⟩, ⟨⟨⟨⟨h4, h5⟩, h6, h7⟩, h8, h9⟩, h10⟩, h11, h12⟩ := h
 simp only [Bool.or_eq_true] at h8
 refine ⟨h2, ?_, ?_, ?_, h11, ?_⟩
 ·split
  ·rcases h4 with h | h
   ·exfalso; (first | omega | (have := of_decide_eq_false h; omega) | (have := of_decide_eq_true h; omega) | (rcases h with h | h <;> have := of_decide_eq_true h <;> omega))
   ·exact h
  ·rcases h5 with h | h
   ·exfalso; (first | omega | (have := of_decide_eq_false h; omega) | (have := of_decide_eq_true h; omega) | (rcases h with h | h <;> have := of_decide_eq_true h <;> omega))
   ·exact h
 ·split
  ·rcases h6 with h | h
   ·exfalso; (first | omega | (have := of_decide_eq_false h; omega) | (have := of_decide_eq_true h; omega) | (rcases h with h | h <;> have := of_decide_eq_true h <;> omega))
   ·exact h
  ·rcases h7 with h | h
   ·exfalso; (first | omega | (have := of_decide_eq_false h; omega) | (have := of_decide_eq_true h; omega) | (rcases h with h | h <;> have := of_decide_eq_true h <;> omega))
   ·exact h
 ·split
  ·trivial
  ·rcases h8 with h | h
   ·exfalso; (first | omega | (have := of_decide_eq_false h; omega) | (have := of_decide_eq_true h; omega) | (rcases h with h | h <;> have := of_decide_eq_true h <;> omega))
   ·exact h
 ·split
  ·rename_i hk
   rcases h1 with h | h
   ·exfalso; (first | omega | (have := of_decide_eq_false h; omega) | (have := of_decide_eq_true h; omega) | (rcases h with h | h <;> have := of_decide_eq_true h <;> omega))
   rcases h3 with h' | h'
   ·exfalso; (first | omega | (have := of_decide_eq_false h; omega) | (have := of_decide_eq_true h; omega) | (rcases h with h | h <;> have := of_decide_eq_true h <;> omega))
   rcases h10 with h'' | h''
   ·exfalso; (first | omega | (have := of_decide_eq_false h; omega) | (have := of_decide_eq_true h; omega) | (rcases h with h | h <;> have := of_decide_eq_true h <;> omega))
   exact ⟨by omega, h.1.2.1, h.1.2.2, h.2, h', h'', h12⟩
  ·rcases h9 with h | h
   ·exfalso; (first | omega | (have := of_decide_eq_false h; omega) | (have := of_decide_eq_true h; omega) | (rcases h with h | h <;> have := of_decide_eq_true h <;> omega))
   ·exact List.eq_nil_of_length_eq_zero (by have := of_decide_eq_false h; omega)
theorem yEQ {l : List Pt} (h : zCD l = 0) : GL l 1 := by
 unfold zCD at h
 split at h
 ·omega
 ·rename_i h1
  split at h
  ·omega
  ·rename_i h2
   split at h
   ·omega
   ·rename_i h3
    split at h
    ·omega
    ·rename_i h4
     simp only [tmL, Bool.not_eq_true, Bool.or_eq_false_iff, Bool.not_eq_false', decide_eq_true_eq, decide_eq_false_iff_not] at h1 h2 h3 h4
     exact ⟨by omega, h1.1.2.1, h1.1.2.2, h1.2, h2, h3, h4⟩
theorem GPs.get : ∀ {l : List Pt} {d : Nat}, GPs l d → ∀ i, i < l.length → GP (l.getD i default) d
 |_ :: _, _, h, 0, _ => h.cons.1
 |_ :: _, _, h, i + 1, hi => by
  have := GPs.get h.cons.2 i (by simpa using hi)
  simpa using this
theorem GSs.get : ∀ {l : List St} {d : Nat}, GSs l d → ∀ i, i < l.length → GS (l.getD i default) d
 |_ :: _, _, h, 0, _ => h.cons.1
 |_ :: _, _, h, i + 1, hi => by
  have := GSs.get h.cons.2 i (by simpa using hi)
  simpa using this
theorem GTs.get : ∀ {l : List Ts} {d : Nat}, GTs l d → ∀ i, i < l.length → GT (l.getD i default) d
 |_ :: _, _, h, 0, _ => h.cons.1
 |_ :: _, _, h, i + 1, hi => by
  have := GTs.get h.cons.2 i (by simpa using hi)
  simpa using this
theorem GP.parts' {p : Pt} {d : Nat} (h : GP p d) : 1 ≤ p.steps.length ∧ p.steps.length ≤ 5 ∧ p.links.length + 1 = p.steps.length ∧ (∀ n ∈ p.links, 1 ≤ n ∧ n ≤ 4) ∧ GSs p.steps d := by
 obtain ⟨st, lk⟩ := p
 exact h.parts
theorem GS.parts' {x : St} {d : Nat} (h : GS x d) : x.tests.length ≤ 6 ∧ GTs x.tests d := by
 obtain ⟨tag, l⟩ := x
 exact ⟨h.parts.1, h.parts.2.2⟩
theorem GT.parts' {t : Ts} {d : Nat} (h : GT t d) : (1 ≤ t.kind ∧ t.kind ≤ 15) ∧ (13 ≤ t.kind → GL t.list (d + 1)) := by
 obtain ⟨k, n, v, a, b, l⟩ := t
 obtain ⟨h1, _, _, _, _, h6⟩ := h.parts
 exact ⟨h1, fun hk => by change 13 ≤ k at hk; rw [if_pos hk] at h6; exact h6⟩
end Go.Hx
end

section
/-
 Which elements match: as the document's answer says it. Plain Lean. No condition.
-/
namespace Go.Hx
variable [Glob]
def zHf (l : List (Bys × Bys)) (nm : Bys) : Option Bys := (l.find? fun a => decide (a.1 = nm)).map (·.2)
def zBO (s t : Bys) (i : Int) : Bool := decide (0 ≤ i ∧ i + t.length ≤ s.length) && decide ((s.drop i.toNat).take t.length = t)
def zYM (s t : Bys) (i : Nat) : Bool := zBO s t i && (decide (i = 0) || decide (s.getD (i - 1) 0 = 32)) && (decide (i + t.length = s.length) || decide (s.getD (i + t.length) 0 = 32))
def yCy (s t : Bys) : Bool := !decide (t = []) && t.all (fun c => decide (c ≠ 32)) && (List.range (s.length + 1)).any (zYM s t)
def zGo (k : Int) (s t : Bys) : Bool :=
 if k = 3 then true else if k = 4 then decide (s = t) else if k = 8 then yCy s t else if t = [] then false
 else if k = 5 then zBO s t 0 else if k = 6 then zBO s t ((s.length : Int) - t.length) else (List.range s.length).any fun i => zBO s t i
def zEk (d : List Nd) (n : Nat) : List Int := if n = 0 then [0] else kidsUp d n d.length
where kidsUp (d : List Nd) (n k : Nat) : List Int := ((List.range k).filter fun i => decide (zBh d i = zBh d n)).map Int.ofNat
def zBs (l : List Int) (n : Int) : Int := match l.findIdx? (fun x => decide (x = n)) with
 |some i => i
 |none => -1
def zKA (d : List Nd) (m n : Nat) : Bool := (zBB d d.length (zBh d n)).contains (m : Int)
def yAR (d : List Nd) (link : Int) (m n : Nat) : Bool :=
 if link = 1 then zKA d m n else if link = 2 then decide (zBh d n = m)
 else if link = 3 then decide (0 ≤ zBs (zEk d n) m) && decide (zBs (zEk d n) m + 1 = zBs (zEk d n) n)
 else decide (0 ≤ zBs (zEk d n) m) && decide (zBs (zEk d n) m < zBs (zEk d n) n)
def yER (d : List Nd) (n : Nat) : List Nat := (List.range d.length).filter fun i => decide (zBh d i = n)
def zDz (d : List Nd) (ps : List (Nat → Bool)) (lk : List Int) : Nat → Nat → Bool
 |0, n => ps.getD 0 (fun _ => false) n
 |k + 1, n => ps.getD (k + 1) (fun _ => false) n && (List.range n).any fun m => yAR d (lk.getD k 0) m n && zDz d ps lk k m
def zYN (a b i : Int) : Bool := if zSm a b = 0 ∧ 1 ≤ i ∧ i ≤ 1073741824 then (if a = 0 ∨ i = b then decide (i = b) else if 0 < a then decide (b < i) && decide ((i - b).tmod a = 0) else decide (i < b) && decide ((b - i).tmod (-a) = 0)) else false
def zM0 (d : List Nd) (k : Int) (nm v : Bys) (a b : Int) (lp : Nat → Bool) (n : Nat) : Bool :=
 let x := d.getD n default
 if k = 1 then x.cls.any (fun c => decide (c = nm)) else if k = 2 then decide (x.id = nm)
 else if k ≤ 8 then (match zHf x.att nm with | some s => zGo k s v | none => false)
 else if k = 9 then zYN a b (zBs (zEk d n) n + 1) else if k = 10 then zYN a b ((zEk d n).length - zBs (zEk d n) n)
 else if k = 11 then decide (yER d n = []) else if k = 12 then decide (n = 0) else if k = 13 then !lp n else if k = 14 then lp n
 else (List.range d.length).any fun m => zKA d n m && lp m
mutual
def tM (d : List Nd) : Ts → Nat → Bool
 |.mk k nm v a b l => zM0 d k nm v a b (lM d l)
def lM (d : List Nd) : List Pt → Nat → Bool
 |[] => fun _ => false
 |p :: r => fun n => pM d p n || lM d r n
def pM (d : List Nd) : Pt → Nat → Bool
 |.mk s lk => zDz d (ssM d s) lk (s.length - 1)
def ssM (d : List Nd) : List St → List (Nat → Bool)
 |[] => []
 |s :: r => sM d s :: ssM d r
def sM (d : List Nd) : St → Nat → Bool
 |.mk t l => fun n => (decide (t = []) || decide (t = (d.getD n default).tag)) && tsM d l n
def tsM (d : List Nd) : List Ts → Nat → Bool
 |[] => fun _ => true
 |t :: r => fun n => tM d t n && tsM d r n
end
theorem yAS (d : List Nd) (n : Nat) : ∀ l : List Pt, lM d l n = l.any fun p => pM d p n
 |[] => by rw [lM]; rfl
 |p :: r => by rw [lM, List.any_cons, ← yAS d n r]
theorem yAT (d : List Nd) (n : Nat) : ∀ l : List Ts, tsM d l n = l.all fun t => tM d t n
 |[] => by rw [tsM]; rfl
 |t :: r => by rw [tsM, List.all_cons, ← yAT d n r]
theorem yAU (d : List Nd) : ∀ l : List St, ssM d l = l.map (sM d)
 |[] => by rw [ssM]; rfl
 |s :: r => by rw [ssM, yAU d r]; rfl
theorem yCz (d : List Nd) (s : St) (n : Nat) : sM d s n = ((decide (s.tag = []) || decide (s.tag = (d.getD n default).tag)) && s.tests.all fun t => tM d t n) := by
 obtain ⟨t, l⟩ := s
 rw [sM]; show (_ && tsM d l n) = _; rw [yAT]; rfl
theorem yHd (d : List Nd) (p : Pt) : pM d p = zDz d (p.steps.map (sM d)) p.links (p.steps.length - 1) := by
 obtain ⟨s, lk⟩ := p
 rw [pM, yAU]; rfl
theorem yES (d : List Nd) (t : Ts) : tM d t = zM0 d t.kind t.name t.value t.na t.nb (lM d t.list) := by
 obtain ⟨k, nm, v, a, b, l⟩ := t
 rw [tM]; rfl
end Go.Hx
end

section
/-
 What is looked up by a path's last step: every element that matches is among it. Plain Lean. No condition.
-/
set_option maxRecDepth 100000
set_option linter.unusedSimpArgs false
namespace Go.Hx
variable [Glob]
def yFx (l : List Ent) (k : Int) (nm : Bys) : List Int × Int := if k < 1 ∨ 3 < k then ([], 4) else if 512 < l.length then ([], 2) else (atK l (k, nm), 0)
def zSo (d : List Nd) (k : Key) : List Int := zAB (zA2 d d.length) k
theorem yET (d : List Nd) (k : Key) : atK (idxOf d) k = zSo d k := by
 have h2 := (zGm _ (zA2 d d.length) rfl).2
 unfold atK idxOf zSo
 cases hf : (zDr (zA2 d d.length)).find? (fun e => decide (e.key = k)) with
 |none =>
  rw [List.find?_eq_none] at hf
  have : zAB (zA2 d d.length) k = [] := by
   unfold zAB
   rw [List.filter_eq_nil_iff.2 (fun q hq => ?_)]
   ·rfl
   ·intro hk
    have hk : q.1 = k := by simpa using hk
    have hm : (⟨k.1, k.2, zAB (zA2 d d.length) k⟩ : Ent) ∈ zDr (zA2 d d.length) := (h2 _).2 ⟨List.mem_map.2 ⟨q, hq, hk⟩, rfl⟩
    exact hf _ hm (by simp [Ent.key])
  rw [this]; rfl
 |some x =>
  have hx := List.mem_of_find?_eq_some hf
  have hk : x.key = k := by have := List.find?_some hf; simpa using this
  have := ((h2 x).1 hx).2
  rw [hk] at this
  exact this
theorem zUJ (d : List Nd) : ∀ (n : Nat) (k : Key) (v : Int), (k, v) ∈ zA2 d n ↔ ∃ i : Nat, i < n ∧ v = i ∧ k ∈ zHc (d.getD i default)
 |0, k, v => by simp [zA2]
 |n + 1, k, v => by
  rw [zA2, List.mem_append, zUJ d n k v, List.mem_map]
  constructor
  ·rintro (⟨i, h1, h2, h3⟩ | ⟨k', h1, h2⟩)
   ·exact ⟨i, by omega, h2, h3⟩
   ·injection h2 with h2 h3
    exact ⟨n, by omega, h3.symm, by rw [← h2]; exact h1⟩
  ·rintro ⟨i, h1, h2, h3⟩
   by_cases h : i < n
   ·exact .inl ⟨i, h, h2, h3⟩
   ·have : i = n := by omega
    subst this
    exact .inr ⟨k, h3, by rw [h2]⟩
theorem zNu (d : List Nd) (k : Key) (v : Int) : v ∈ zSo d k ↔ ∃ i : Nat, i < d.length ∧ v = i ∧ k ∈ zHc (d.getD i default) := by
 unfold zSo zAB
 rw [List.mem_map, ← zUJ]
 constructor
 ·rintro ⟨q, h1, h2⟩
  rw [List.mem_filter] at h1
  have := h1.2
  simp only [decide_eq_true_eq] at this
  rw [← this, ← h2]; exact h1.1
 ·intro h
  exact ⟨(k, v), List.mem_filter.2 ⟨h, by simp⟩, rfl⟩
theorem yCA (d : List Nd) (hcls : ∀ i, i < d.length → (d.getD i default).cls.length ≤ 64) (k : Key) : (zSo d k).length ≤ d.length * 66 :=
 Nat.le_trans (zDy _ _) (zGn d d.length fun i hi => hcls i hi)
theorem zER (d : List Nd) : ∀ (n : Nat), (∀ i, i < n → (d.getD i default).cls.length ≤ 6) → (zA2 d n).length ≤ n * 8
 |0, _ => by simp [zA2]
 |n + 1, h => by
  have h1 := zER d n fun i hi => h i (by omega)
  have h2 := zRc (d.getD n default)
  have h3 := h n (by omega)
  rw [zA2, List.length_append, List.length_map]
  omega
theorem yAV (ps : List (Key × Int)) : (zDr ps).length ≤ ps.length := by
 have hi : ∀ (es : List Ent) (k : Key) (n : Int), (zZp es k n).length ≤ es.length + 1 := by
  intro es k n
  induction es with
  |nil => simp [zZp]
  |cons e r ih =>
   rw [zZp]
   split
   ·simpa using ih
   ·split <;> simp
 have : ∀ (ps : List (Key × Int)) (l : List Ent), (ps.foldl (fun l p => zZp l p.1 p.2) l).length ≤ l.length + ps.length := by
  intro ps
  induction ps with
  |nil => intro l; simp
  |cons p r ih =>
   intro l
   have h1 := hi l p.1 p.2
   have := ih (zZp l p.1 p.2)
   rw [List.foldl_cons, List.length_cons]
   omega
 have := this ps []
 simpa [zDr] using this
theorem yCB (d : List Nd) (h64 : d.length ≤ 64) (hcls : ∀ i, i < d.length → (d.getD i default).cls.length ≤ 6) {k : Int} (h1 : 1 ≤ k) (h3 : k ≤ 3) (nm : Bys) : yFx (idxOf d) k nm = (zSo d (k, nm), 0) := by
 have h2 := zER d d.length fun i hi => hcls i hi
 have h4 := yAV (zA2 d d.length)
 have h5 : (idxOf d).length ≤ 512 := by unfold idxOf; omega
 unfold yFx
 rw [if_neg (by omega), if_neg (by omega), yET]
def zPD (s : Bool × List Int) (l : List Int) : Bool × List Int := if s.1 = false ∨ l.length < s.2.length then (true, l) else s
def zDO (d : List Nd) (s : Bool × List Int) (t : Ts) : Bool × List Int := if t.kind = 2 then zPD s (zSo d (2, t.name)) else if t.kind = 1 then zPD s (zSo d (3, t.name)) else s
def zFa (d : List Nd) (s : St) : Bool × List Int := if s.tag = [] then (false, []) else zPD (false, []) (zSo d (1, s.tag))
def zFb (p : Pt) : St := p.steps.getD (p.steps.length - 1) default
def yHA (d : List Nd) : List Int := (List.range d.length).map Int.ofNat
def zOi (d : List Nd) (p : Pt) : List Int :=
 let r := (zFb p).tests.foldl (zDO d) (zFa d (zFb p))
 if r.1 then r.2 else yHA d
def yHe (d : List Nd) (q : Nat → Prop) (s : Bool × List Int) : Prop := (s.1 = true → ∀ n : Nat, n < d.length → q n → (n : Int) ∈ s.2) ∧ (∀ v ∈ s.2, ∃ n : Nat, n < d.length ∧ v = n) ∧ s.2.length ≤ 4224
theorem zWY {d : List Nd} {q : Nat → Prop} {s : Bool × List Int} {l : List Int} (h : yHe d q s) (h1 : ∀ n : Nat, n < d.length → q n → (n : Int) ∈ l) (h2 : ∀ v ∈ l, ∃ n : Nat, n < d.length ∧ v = n) (h3 : l.length ≤ 4224) : yHe d q (zPD s l) := by
 unfold zPD
 split
 ·exact ⟨fun _ => h1, h2, h3⟩
 ·exact h
theorem zOj {d : List Nd} (h64 : d.length ≤ 64) (hcls : ∀ i, i < d.length → (d.getD i default).cls.length ≤ 64) (k : Key) : (∀ v ∈ zSo d k, ∃ n : Nat, n < d.length ∧ v = n) ∧ (zSo d k).length ≤ 4224 := by
 refine ⟨fun v hv => ?_, ?_⟩
 ·obtain ⟨i, h1, h2, _⟩ := (zNu d k v).1 hv
  exact ⟨i, h1, h2⟩
 ·have := yCA d hcls k
  omega
theorem zYO {d : List Nd} (h64 : d.length ≤ 64) (hcls : ∀ i, i < d.length → (d.getD i default).cls.length ≤ 64) (q : Nat → Prop) : ∀ (l : List Ts), (∀ t ∈ l, (t.kind = 2 → ∀ n : Nat, n < d.length → q n → (2, t.name) ∈ zHc (d.getD n default)) ∧ (t.kind = 1 → ∀ n : Nat, n < d.length → q n → (3, t.name) ∈ zHc (d.getD n default))) → ∀ s, yHe d q s → yHe d q (l.foldl (zDO d) s)
 |[], _, s, h => h
 |t :: r, ht, s, h => by
  rw [List.foldl_cons]
  refine zYO h64 hcls q r (fun t' h' => ht t' (List.mem_cons_of_mem _ h')) _ ?_
  obtain ⟨g1, g2⟩ := ht t List.mem_cons_self
  unfold zDO
  split
  ·rename_i hk
   obtain ⟨h1, h2⟩ := zOj h64 hcls (2, t.name)
   exact zWY h (fun n hn hq => (zNu d _ _).2 ⟨n, hn, rfl, g1 hk n hn hq⟩) h1 h2
  ·split
   ·rename_i hk
    obtain ⟨h1, h2⟩ := zOj h64 hcls (3, t.name)
    exact zWY h (fun n hn hq => (zNu d _ _).2 ⟨n, hn, rfl, g2 hk n hn hq⟩) h1 h2
   ·exact h
theorem zWZ {d : List Nd} {p : Pt} {n : Nat} (h0 : 1 ≤ p.steps.length) (h : pM d p n = true) : sM d (zFb p) n = true := by
 rw [yHd] at h
 have hl : (p.steps.map (sM d)).getD (p.steps.length - 1) (fun _ => false) = sM d (zFb p) := by
  have hlt : p.steps.length - 1 < p.steps.length := by omega
  simp [zFb, hlt]
 cases hk : p.steps.length - 1 with
 |zero => rw [hk, zDz, ← hk, hl] at h; exact h
 |succ k => rw [hk, zDz, ← hk, hl, Bool.and_eq_true] at h; exact h.1
theorem yCC {d : List Nd} (h64 : d.length ≤ 64) (hcls : ∀ i, i < d.length → (d.getD i default).cls.length ≤ 64) {p : Pt} (hp : GP p 1) :
  (∀ n : Nat, n < d.length → pM d p n = true → (n : Int) ∈ zOi d p) ∧ (∀ v ∈ zOi d p, ∃ n : Nat, n < d.length ∧ v = n) ∧ (zOi d p).length ≤ 4224 := by
 obtain ⟨k1, k2, k3, k4, k5⟩ := hp.parts'
 have hg : GS (zFb p) 1 := GSs.get k5 _ (by omega)
 obtain ⟨tg, ts⟩ : ∃ tg ts, zFb p = St.mk tg ts := by cases zFb p; exact ⟨_, _, rfl⟩
 obtain ⟨ts, htg⟩ := ts
 have hg' := hg
 rw [htg] at hg'
 obtain ⟨q1, q2, q3⟩ := hg'.parts
 have hs : yHe d (fun n => sM d (zFb p) n = true) ((zFb p).tests.foldl (zDO d) (zFa d (zFb p))) := by
  refine zYO h64 hcls _ _ (fun t ht => ?_) _ ?_
  ·have hgt : GT t 1 := by
    obtain ⟨i, hi, rfl⟩ := List.mem_iff_getElem.1 ht
    have := GTs.get hg.parts'.2 i hi
    simpa [hi] using this
   obtain ⟨k, nm, v, a, b, l⟩ := t
   obtain ⟨r1, r2, _⟩ := hgt.parts
   refine ⟨fun hk n hn hq => ?_, fun hk n hn hq => ?_⟩
   ·have hk : k = 2 := hk
    subst hk
    rw [yCz, Bool.and_eq_true, List.all_eq_true] at hq
    have := hq.2 _ ht
    rw [yES] at this
    simp only [zM0, Ts.kind, Ts.name] at this
    simp only [show ¬ ((2 : Int) = 1) by decide, if_false, if_true] at this
    have this : (d.getD n default).id = nm := of_decide_eq_true this
    simp only [show (2 : Int) ≤ 8 by decide, if_true] at r2
    have hne : (d.getD n default).id ≠ [] := by
     rw [this]; intro e; rw [e] at r2; simp [zCC] at r2
    unfold zHc
    rw [if_neg hne, this]
    simp [Ts.name]
   ·have hk : k = 1 := hk
    subst hk
    rw [yCz, Bool.and_eq_true, List.all_eq_true] at hq
    have := hq.2 _ ht
    rw [yES] at this
    simp only [zM0, Ts.kind, Ts.name, if_true, List.any_eq_true, decide_eq_true_eq] at this
    obtain ⟨c, hc, hcn⟩ := this
    have hc : nm ∈ (d.getD n default).cls := by rw [← of_decide_eq_true hcn]; exact hc
    unfold zHc
    refine List.mem_cons_of_mem _ (List.mem_append_right _ (List.mem_map.2 ⟨nm, hc, rfl⟩))
  ·unfold zFa
   split
   ·exact ⟨(fun h => nomatch h), (fun v hv => nomatch hv), Nat.zero_le _⟩
   ·rename_i hne
    obtain ⟨h1, h2⟩ := zOj h64 hcls (1, (zFb p).tag)
    refine zWY ⟨(fun h => nomatch h), (fun v hv => nomatch hv), Nat.zero_le _⟩ (fun n hn hq => (zNu d _ _).2 ⟨n, hn, rfl, ?_⟩) h1 h2
    have hq : sM d (zFb p) n = true := hq
    rw [yCz, Bool.and_eq_true, Bool.or_eq_true] at hq
    have : (zFb p).tag = (d.getD n default).tag := by
     rcases hq.1 with h | h
     ·exact absurd (by simpa using h) hne
     ·simpa using h
    unfold zHc
    rw [this]; simp
 unfold zOi
 simp only
 split
 ·rename_i hr
  exact ⟨fun n hn hp => hs.1 hr n hn (zWZ k1 hp), hs.2.1, hs.2.2⟩
 ·refine ⟨fun n hn _ => List.mem_map.2 ⟨n, List.mem_range.2 hn, rfl⟩, fun v hv => ?_, by simp [yHA]; omega⟩
  obtain ⟨n, hn, rfl⟩ := List.mem_map.1 hv
  exact ⟨n, List.mem_range.1 hn, rfl⟩
end Go.Hx
end

section
/-
 Shorter words for printed code; a function's contract out of its code by one computation; the first frame's words. Generic over the program. No condition.
-/
namespace Go.Hx
open Go.RowKit
variable [Glob]
abbrev oV (d : Nat) (v : VOp) : HO := ⟨none, .val d v⟩
abbrev oG (g : Nat) (b : Bool) (d : Nat) (v : VOp) : HO := ⟨some (g, b), .val d v⟩
abbrev oC (d : Nat) (f : FuncId) (l : List (Opd × AM)) : HO := ⟨none, .call (some d) f l⟩
abbrev oD (i : Nat) (l : Bool) (h : HO) : DO := ⟨i, l, h⟩
abbrev oN (l : List HO) : HCode := .reg l false []
abbrev oR (l : List HO) (f : List Nat) : HCode := .reg l false [.forget f]
abbrev oQ (l : List DO) (f : List Nat) : HCode := .drg l [.forget f]
def foB (E : Env) (base : Nat) (av : List AV) : Bool := Nat.ble av.length E.N && Nat.ble (zR8 av) 1 && Nat.ble (nIo av) 1 && match ioOf av with | some cs => E.nfix == 1 && E.Γ[0]? == some (base, cs.length) | none => E.nfix == 0
theorem fo {E : Env} {base : Nat} {av : List AV} (h : foB E base av = true) : zUs E base av := by
 unfold foB at h
 simp only [Bool.and_eq_true] at h
 refine ⟨Nat.le_of_ble_eq_true h.1.1.1, Nat.le_of_ble_eq_true h.1.1.2, Nat.le_of_ble_eq_true h.1.2, ?_⟩
 have h2 := h.2
 split at h2
 ·rename_i cs e
  try rw [e]
  simpa using h2
 ·rename_i e
  try rw [e]
  simpa using h2
def zCa (P : Program) (f : FuncId) (h : HCode) (E : Env) (R : List RSrc) : Bool := match P.funcs[f]? with
 |some fn => match fn.body with
  |some c => zBN P f && (E.ok && E.unaOk) && (E.N == fn.ntmps) && zCB P E c h && zEi P E R fn.results.toList
  |none => false
 |none => false
theorem mkA {P : Program} {f : FuncId} {h : HCode} {E : Env} {R : List RSrc} (hc : zCa P f h E R = true) {base : Nat} {av : List AV} {r : RV} (hfo : zUs E base av) (hW : AVs.fits av → hwp P h (zZ8 E base av R r) (F0 E base av)) (hov : ∀ x, r.res = .ov x → zR8 av = 0 := by intro x h; cases h <;> rfl) : Contract P f av r := by
 unfold zCa at hc
 split at hc
 ·rename_i fn hf
  split at hc
  ·rename_i c hb
   simp only [Bool.and_eq_true, beq_iff_eq] at hc
   exact zPL (fn := fn) (c := c) hf hb hc.1.1.1.1 (by simp [hc.1.1.1.2]) hc.1.1.2 hc.1.2 hc.2 hfo hW hov
  ·cases hc
 ·cases hc
theorem yLe {p : Prop} (h : p := by repeat' (first | exact trivial | exact zAr (by omega) | exact zAk rfl | exact zAw rfl | exact zAt | exact le_refl _ | refine And.intro ?_ ?_)) : p := h
theorem yIn : (∀ F, zAH [] F = F) ∧ (∀ i r F, zAH (i :: r) F = zAH r (F.set i .una)) ∧ (∀ (a : Ct) l n b, (a :: l).set (n + 1) b = a :: l.set n b) ∧ (∀ (a : Ct) l b, (a :: l).set 0 b = b :: l) ∧
  (∀ (f : AV → Ct), [].map f = []) ∧ (∀ (f : AV → Ct) a l, (a :: l).map f = f a :: l.map f) ∧ (∀ (f : PV → Ct), [].map f = []) ∧ (∀ (f : PV → Ct) a l, (a :: l).map f = f a :: l.map f) ∧
  (∀ x, zAG (.val x) = .pv x) ∧ (∀ e k r, zAG (.own e k r) = .own e k r) ∧ (∀ x, zAG (.io x) = .ptr 0 0) ∧ (∀ F i, zAa F i [] = F) ∧ (∀ F i c l, zAa F i (c :: l) = zAa (F.set i c) (i + 1) l) ∧
  (ioOf [] = none) ∧ (∀ x l, ioOf (.val x :: l) = ioOf l) ∧ (∀ e k r l, ioOf (.own e k r :: l) = ioOf l) ∧ (∀ x l, ioOf (.io x :: l) = some x) ∧
  (([] : List AV).length = 0) ∧ (∀ (a : AV) l, (a :: l).length = l.length + 1) ∧ (∀ a : Ct, List.replicate 0 a = []) ∧ (∀ (a : Ct) n, List.replicate (n + 1) a = a :: List.replicate n a) ∧
  (∀ (a : Ct) l r, a :: l ++ r = a :: (l ++ r)) ∧ (∀ l : List Ct, [] ++ l = l) := by
 refine ⟨fun _ => rfl, fun _ _ _ => rfl, fun _ _ _ _ => rfl, fun _ _ _ => rfl, fun _ => rfl, fun _ _ _ => rfl, fun _ => rfl, fun _ _ _ => rfl, fun _ => rfl, fun _ _ _ => rfl, fun _ => rfl, fun _ _ => rfl, fun _ _ _ _ => rfl, rfl, fun _ _ => rfl, fun _ _ _ _ => rfl, fun _ _ => rfl, rfl, fun _ _ => rfl, fun _ => rfl, fun _ _ => rfl, fun _ _ _ => rfl, fun _ => rfl⟩
end Go.Hx
end

section
/-
 THE ABSTRACT LAYER: a closure's contract out of its code. Generic over the program. No condition.
-/
namespace Go.Hx
open Go.RowKit
variable [Glob]
def zIw : List CA → Nat → List Ct
 |[], _ => []
 |.v x :: r, j => .pv (.one x) :: zIw r j
 |.io _ :: r, j => .ptr j 0 :: zIw r (j + 1)
def zUd : List CA → List (List PV)
 |[] => []
 |.v _ :: r => zUd r
 |.io c :: r => c :: zUd r
def F0c (E : Env) (bxs : List (Nat × Nat × Nat)) (as : List AV) (cas : List CA) : List Ct := zAH E.una (
 zEJ (as.map zAG ++ zIw cas 0 ++ List.replicate (E.L - as.length - cas.length) .un) bxs (zUd cas))
def zW0 (E : Env) (bxs : List (Nat × Nat × Nat)) (as : List AV) (cas : List CA) : Prop :=
 as.length + cas.length ≤ E.N ∧ (∀ x ∈ as, ∃ p, x = .val p) ∧ E.nfix = bxs.length ∧ bxs.map (·.1) = List.range bxs.length ∧ (zUd cas).map List.length = bxs.map (·.2.2)
def zRe (F : List Ct) : List (Nat × Nat × Nat) → Option (List (List PV))
 |[] => some []
 |(_, base, n) :: r => match zAO F base n, zRe F r with
  |some c, some l => some (c :: l)
  |_, _ => none
def yHf (bxs : List (Nat × Nat × Nat)) (io' : List (List PV)) : Exit → List Ct → Prop
 |.normal, F | .ret, F => zRe F bxs = some io'
 |_, _ => False
section
variable {P : Program} {E : Env} {m : Mem} {w : World}
theorem zFD : ∀ (cas : List CA) (j : Nat), (zIw cas j).length = cas.length
 |[], _ => rfl
 |.v x :: r, j => by simp [zIw, zFD r]
 |.io c :: r, j => by simp [zIw, zFD r]
theorem CArgs.len : ∀ {cas : List CA} {cus : List Value} {bs : List Nat}, CArgs m w cas cus bs → cus.length = cas.length ∧ bs.length = (zUd cas).length
 |[], cus, bs, h => by obtain ⟨rfl, rfl⟩ := h; exact ⟨rfl, rfl⟩
 |.v x :: r, cus, bs, h => by
  obtain ⟨u, us', rfl, _, h3⟩ := h
  obtain ⟨h4, h5⟩ := h3.len
  exact ⟨by simp [h4], h5⟩
 |.io c :: r, cus, bs, h => by
  obtain ⟨b, us', bs', rfl, rfl, _, h3⟩ := h
  obtain ⟨h4, h5⟩ := h3.len
  exact ⟨by simp [h4], by simp [zUd, h5]⟩
theorem CArgs.slot {ow : Ow} {β : Bx} : ∀ {cas : List CA} {cus : List Value} {bs : List Nat} {j0 : Nat}, CArgs m w cas cus bs → (∀ j b, bs[j]? = some b → β (j0 + j) = some b) → ∀ (i n : Nat) (c : Ct), (zIw cas j0)[i]? = some c → ∃ u, cus[i]? = some u ∧ CtRep m w β ow n c u
 |[], cus, bs, j0, h, hβ, i, n, c, hc => by simp [zIw] at hc
 |.v x :: r, cus, bs, j0, h, hβ, i, n, c, hc => by
  obtain ⟨u, us', rfl, h2, h3⟩ := h
  cases i with
  |zero =>
   simp only [zIw, List.getElem?_cons_zero, Option.some.injEq] at hc
   subst hc
   exact ⟨u, rfl, h2⟩
  |succ i =>
   obtain ⟨v, g1, g2⟩ := h3.slot (ow := ow) hβ i n c (by simpa [zIw] using hc)
   exact ⟨v, by simpa using g1, g2⟩
 |.io l :: r, cus, bs, j0, h, hβ, i, n, c, hc => by
  obtain ⟨b, us', bs', rfl, rfl, h2, h3⟩ := h
  cases i with
  |zero =>
   simp only [zIw, List.getElem?_cons_zero, Option.some.injEq] at hc
   subst hc
   exact ⟨_, rfl, b, by have := hβ 0 b rfl; simpa using this, rfl⟩
  |succ i =>
   obtain ⟨v, g1, g2⟩ := h3.slot (ow := ow) (j0 := j0 + 1) (fun j b' hj => by have := hβ (j + 1) b' (by simpa using hj); rw [← this]; congr 1; omega) i n c (by simpa [zIw] using hc)
   exact ⟨v, by simpa using g1, g2⟩
theorem CArgs.box : ∀ {cas : List CA} {cus : List Value} {bs : List Nat}, CArgs m w cas cus bs → ∀ (j : Nat) (l : List PV), (zUd cas)[j]? = some l → ∃ b : Nat, bs[j]? = some b ∧ yHE m w b l
 |[], cus, bs, h, j, l, hl => by simp [zUd] at hl
 |.v x :: r, cus, bs, h, j, l, hl => by
  obtain ⟨u, us', rfl, h2, h3⟩ := h
  exact h3.box j l hl
 |.io c :: r, cus, bs, h, j, l, hl => by
  obtain ⟨b, us', bs', rfl, rfl, h2, h3⟩ := h
  cases j with
  |zero =>
   simp only [zUd, List.getElem?_cons_zero, Option.some.injEq] at hl
   subst hl
   exact ⟨b, rfl, h2⟩
  |succ j =>
   obtain ⟨b', g1, g2⟩ := h3.box j l (by simpa [zUd] using hl)
   exact ⟨b', by simpa using g1, g2⟩
theorem zRf {F : List Ct} : ∀ {bxs : List (Nat × Nat × Nat)} {io : List (List PV)}, zRe F bxs = some io → io.length = bxs.length ∧ ∀ (k : Nat) (bx : Nat × Nat × Nat) (l : List PV), bxs[k]? = some bx → io[k]? = some l → zAO F bx.2.1 bx.2.2 = some l
 |[], io, h => by
  simp only [zRe, Option.some.injEq] at h
  subst h
  exact ⟨rfl, fun k bx l hk => by simp at hk⟩
 |(j, base, n) :: r, io, h => by
  simp only [zRe] at h
  split at h
  ·rename_i c l e1 e2
   injection h with h
   subst h
   obtain ⟨h1, h2⟩ := zRf e2
   refine ⟨by simp [h1], fun k bx l' hk hl => ?_⟩
   cases k with
   |zero =>
    simp only [List.getElem?_cons_zero, Option.some.injEq] at hk hl
    subst hk; subst hl
    exact e1
   |succ k => exact h2 k bx l' (by simpa using hk) (by simpa using hl)
  ·cases h
theorem zZr (hun : E.unaOk = true) (wf : E.Wf) {bxs : List (Nat × Nat × Nat)} (hbx : zWG E bxs = true) {as : List AV} {cas : List CA} {us cus : List Value} {bs : List Nat} (hf : zW0 E bxs as cas) (hm : MemOk m w) (ha : ArgsRep m w as us) (hc : CArgs m w cas cus bs) (hnd : bs.Nodup) (hG0 : Glob.ok w) (hGR : ∀ b ∈ bs, Glob.n ≤ b) :
  Inv E { w0 := w, m0 := m, R0 := fun b => b ∈ bs, b0 := fun j => bs[j]?, g0 := hG0, gR := hGR } (F0c E bxs as cas) { tmps := (us ++ cus).toArray ++ Array.replicate (E.N - (us ++ cus).toArray.size) undef, defers := [] } w := by
 obtain ⟨hlen, hval, hnf, hrg, hls⟩ := hf
 simp only [zWG, Bool.and_eq_true, List.all_eq_true, decide_eq_true_eq] at hbx
 have hb : ∀ bx ∈ bxs, E.Γ[bx.1]? = some (bx.2.1, bx.2.2) := fun bx hbx' => zCG (hbx.1 bx hbx')
 have hul := ha.length
 obtain ⟨hcl, hbl⟩ := hc.len
 have hNL := wf.le
 have hbl2 : bs.length = bxs.length := by
  have := congrArg List.length hls
  simp only [List.length_map] at this
  omega
 have hfst : ∀ (k : Nat) (bx : Nat × Nat × Nat), bxs[k]? = some bx → bx.1 = k := by
  intro k bx hk
  have h1 : (bxs.map (·.1))[k]? = some bx.1 := by rw [List.getElem?_map, hk]; rfl
  rw [hrg, List.getElem?_range (List.getElem?_eq_some_iff.1 hk).1] at h1
  injection h1 with h1; exact h1.symm
 have hlo : ∀ bx ∈ bxs, E.N ≤ bx.2.1 := fun bx hbx' => wf.lo bx.1 _ (hb bx hbx')
 let G := as.map zAG ++ zIw cas 0 ++ List.replicate (E.L - as.length - cas.length) Ct.un
 have hFl : G.length = E.L := by simp only [G, List.length_append, List.length_map, zFD, List.length_replicate]; omega
 obtain ⟨s1, s2, s3⟩ := zNU wf (io := zUd cas) hFl hb hbx.2 hls
 refine ⟨m, fun j => bs[j]?, fun b => if b ∈ bs then some (.box (bs.idxOf b)) else none, ?_⟩
 refine zN8 wf _ _ (fun i hi => ?_) ?_
 ·have hu := List.all_eq_true.1 hun i hi
  simp only [Bool.and_eq_true, decide_eq_true_eq] at hu
  refine ⟨hu.1, fun j bn b hj hb' => ?_⟩
  have hjl : j < E.nfix := by rw [hnf, ← hbl2]; exact (List.getElem?_eq_some_iff.1 hb').1
  have := List.all_eq_true.1 hu.2 j (by simpa using hjl)
  rw [hj] at this
  simpa using this
 refine ⟨s1.trans hFl, by simp; omega, rfl, ?_, ?_, hm, m.le_refl, Pres.refl _ _, ?_, ?_, fun b o u h => .inl h, fun j _ => rfl⟩
 ·intro i hi
  rw [s2 i fun bx hbx' => by have := hlo bx hbx'; omega]
  have ht : ∀ (u : Value), (us ++ cus)[i]? = some u → ((us ++ cus).toArray ++ Array.replicate (E.N - (us ++ cus).toArray.size) undef).getD i undef = u := by
   intro u hu
   have hil := (List.getElem?_eq_some_iff.1 hu).1
   rw [Array.getD_eq_getD_getElem?, Array.getElem?_append_left (by simpa using hil)]
   simp only [List.getElem?_toArray, hu, Option.getD_some]
  by_cases hia : i < as.length
  ·have e1 : G.getD i .un = zAG as[i] := by
    simp only [G]
    rw [List.append_assoc, List.getD_eq_getElem?_getD, List.getElem?_append_left (by simpa using hia), List.getElem?_map, List.getElem?_eq_getElem hia]; rfl
   rw [e1]
   obtain ⟨u, h1, h2⟩ := ha.get i as[i] (List.getElem?_eq_getElem hia)
   rw [ht u (by rw [List.getElem?_append_left (by omega)]; exact h1)]
   obtain ⟨p, hp⟩ := hval as[i] (List.getElem_mem hia)
   rw [hp] at h2 ⊢
   exact h2
  ·by_cases hic : i < as.length + cas.length
   ·have hk : i - as.length < (zIw cas 0).length := by rw [zFD]; omega
    have e1 : G.getD i .un = (zIw cas 0)[i - as.length] := by
     simp only [G]
     rw [List.append_assoc, List.getD_eq_getElem?_getD, List.getElem?_append_right (by simpa using Nat.le_of_not_lt hia), List.length_map, List.getElem?_append_left hk, List.getElem?_eq_getElem hk]; rfl
    rw [e1]
    obtain ⟨u, h1, h2⟩ := hc.slot (ow := fun b => if b ∈ bs then some (.box (bs.idxOf b)) else none) (β := fun j => bs[j]?) (j0 := 0) (fun j b hj => by simpa using hj) (i - as.length) i _ (List.getElem?_eq_getElem hk)
    rw [ht u (by rw [List.getElem?_append_right (by omega), hul]; exact h1)]
    exact h2
   ·have e1 : G.getD i .un = .un := by
     simp only [G]
     rw [List.getD_eq_getElem?_getD, List.getElem?_append_right (by simp [zFD]; omega), List.getElem?_replicate]
     split <;> rfl
    rw [e1]
    trivial
 ·intro j bn hj
  by_cases hjb : j < bxs.length
  ·have hk := List.getElem?_eq_getElem hjb
   have hj1 := hfst j _ hk
   have hj2 := hb bxs[j] (List.getElem_mem hjb)
   rw [hj1, hj] at hj2
   injection hj2 with hj2
   subst hj2
   have hjc : j < (zUd cas).length := by rw [← hbl, hbl2]; exact hjb
   have hl := List.getElem?_eq_getElem hjc
   obtain ⟨b, g1, g2, vs, T, g3, g4⟩ := hc.box j _ hl
   simp only [g1]
   have hbm : b ∈ bs := List.mem_of_getElem? g1
   have hix : bs.idxOf b = j := by
    have hjl := (List.getElem?_eq_some_iff.1 g1).1
    have e : bs[j] = b := by rw [List.getElem?_eq_getElem hjl] at g1; injection g1
    rw [← e]
    exact hnd.idxOf_getElem j hjl
   have hll : ((zUd cas)[j]).length = bxs[j].2.2 := by
    have e1 : ((zUd cas).map List.length)[j]? = some ((zUd cas)[j]).length := by rw [List.getElem?_map, hl]; rfl
    have e2 : (bxs.map (·.2.2))[j]? = some bxs[j].2.2 := by rw [List.getElem?_map, hk]; rfl
    rw [hls, e2] at e1
    injection e1 with e1; exact e1.symm
   have hvl := g4.length
   refine ⟨by simp only [if_pos hbm, hix], g2, vs, T, g3, by simpa [hll] using hvl, fun o ho => ?_⟩
   simp only at ho ⊢
   rw [s3 j _ _ hk hl o ho]
   have ho2 : o < ((zUd cas)[j]).length := by omega
   have ho3 : o < vs.toList.length := by omega
   rw [List.getD_eq_getElem?_getD, List.getElem?_map, List.getElem?_eq_getElem ho2]
   have e3 : vs.getD o undef = vs.toList[o] := by
    rw [Array.getD_eq_getD_getElem?, ← Array.getElem?_toList, List.getElem?_eq_getElem ho3]; rfl
   rw [e3]
   exact g4.get _ _ _ (List.getElem?_eq_getElem ho2) (List.getElem?_eq_getElem ho3)
  ·have e0 : bs[j]? = none := List.getElem?_eq_none (by omega)
   simp only [e0]
   intro o ho
   have hjN := wf.lo j bn hj
   rw [s2 _ fun bx hbx' => ?_]
   ·left
    simp only [G]
    rw [List.getD_eq_getElem?_getD, List.getElem?_append_right (by simp [zFD]; omega), List.getElem?_replicate]
    split <;> rfl
   ·obtain ⟨k, hk⟩ := List.getElem?_of_mem hbx'
    have hkl := (List.getElem?_eq_some_iff.1 hk).1
    have hne : j ≠ bx.1 := by rw [hfst k bx hk]; omega
    have := wf.ap j bx.1 _ _ hj (hb bx hbx') hne
    simp only at this
    omega
 ·intro b t hb'
  split at hb'
  ·rename_i h; exact .inr h
  ·cases hb'
 ·intro b t hb'
  split at hb'
  ·rename_i h
   obtain ⟨k, hk⟩ := List.getElem?_of_mem h
   have hkl : k < (zUd cas).length := by rw [← hbl]; exact (List.getElem?_eq_some_iff.1 hk).1
   obtain ⟨b', g1, _, vs, T, g3, _⟩ := hc.box k _ (List.getElem?_eq_getElem hkl)
   rw [hk] at g1
   injection g1 with g1
   subst g1
   exact (Array.getElem?_eq_some_iff.1 g3).1
  ·cases hb'
theorem zOk {f : FuncId} {fn : Func} {c : Code} (hf : P.funcs[f]? = some fn) (hb : fn.body = some c) (hcall : zBN P f = true) (hE' : (E.ok && E.unaOk) = true) (hN : E.N = fn.ntmps)
  {h : HCode} (hk : zCB P E c h = true) (hrs : fn.results.toList.isEmpty = true) {bxs : List (Nat × Nat × Nat)} (hbx : zWG E bxs = true) {as : List AV} {cas : List CA} {io' : List (List PV)} (hfo : zW0 E bxs as cas) (hl : io'.map List.length = zNG cas) (hW : hwp P h (yHf bxs io') (F0c E bxs as cas)) : zEe P f as cas io' := by
 have hE := Bool.and_eq_true_iff.1 hE'
 have wf := Env.wf_of_ok hE.1
 refine ⟨hcall, hl, fun m w us cus bs hm ha hca hnd hG0 hGR => ?_⟩
 have h0 := zZr hE.2 wf hbx hfo hm ha hca hnd hG0 hGR
 have hc := zIq wf c h _ _ _ _ hk hW h0
 refine calls_of_wp hf hb ?_
 rw [← hN]
 refine wp_mono hc ?_
 obtain ⟨hlen, hval, hnf, hrg, hls⟩ := hfo
 obtain ⟨hcl, hbl⟩ := hca.len
 have hbl2 : bs.length = bxs.length := by
  have := congrArg List.length hls
  simp only [List.length_map] at this
  omega
 simp only [zWG, Bool.and_eq_true, List.all_eq_true, decide_eq_true_eq] at hbx
 have hb : ∀ bx ∈ bxs, E.Γ[bx.1]? = some (bx.2.1, bx.2.2) := fun bx hbx' => zCG (hbx.1 bx hbx')
 have hfst : ∀ (k : Nat) (bx : Nat × Nat × Nat), bxs[k]? = some bx → bx.1 = k := by
  intro k bx hk
  have h1 : (bxs.map (·.1))[k]? = some bx.1 := by rw [List.getElem?_map, hk]; rfl
  rw [hrg, List.getElem?_range (List.getElem?_eq_some_iff.1 hk).1] at h1
  injection h1 with h1; exact h1.symm
 have fin : ∀ {F : List Ct} {a' : Act} {w' : World}, zRe F bxs = some io' →
   Inv E { w0 := w, m0 := m, R0 := fun b => b ∈ bs, b0 := fun j => bs[j]?, g0 := hG0, gR := hGR } F a' w' →
   a'.defers = [] ∧ ∃ v, (results fn a'.tmps).run P w' = .ok v w' ∧ yF0 m w bs io' (.returned v) w' := by
  rintro F a' w' hr ⟨m', β, ow, hG⟩
  refine ⟨hG.dfr, .tuple #[], ?_, m', hG.mle, hG.mem, hG.pres, fun b o u hu => ?_, rfl, ?_⟩
  ·have e : fn.results = #[] := by
    have : fn.results.toList = [] := by simpa using hrs
    exact Array.toList_eq_nil_iff.1 this
   unfold results
   rw [e]
   simp
  ·rcases hG.new b o u hu with g | g | g
   ·exact .inl g
   ·exact .inr g
   ·obtain ⟨k, hk⟩ := List.getElem?_of_mem g
    have hkl : k < bxs.length := by rw [← hbl2]; exact (List.getElem?_eq_some_iff.1 hk).1
    have hk2 := List.getElem?_eq_getElem hkl
    have hj := hb bxs[k] (List.getElem_mem hkl)
    rw [hfst k _ hk2] at hj
    have hB := hG.boxes k _ hj
    have hβ : β k = some b := by rw [hG.fix k (by omega)]; exact hk
    rw [hβ] at hB
    have := hB.2.1 o
    rw [hu] at this
    cases this
  ·obtain ⟨g1, g2⟩ := zRf hr
   refine ⟨by omega, fun k l hkl => ?_⟩
   have hkb : k < bxs.length := by rw [← g1]; exact (List.getElem?_eq_some_iff.1 hkl).1
   have hkbs : k < bs.length := by omega
   have hk2 := List.getElem?_eq_getElem hkb
   have hcv := g2 k _ l hk2 hkl
   have hj := hb bxs[k] (List.getElem_mem hkb)
   rw [hfst k _ hk2] at hj
   have hB := hG.boxes k _ hj
   have hβ : β k = some bs[k] := by rw [hG.fix k (by omega)]; exact List.getElem?_eq_getElem hkbs
   rw [hβ] at hB
   obtain ⟨vs, T, k1, k2, k3⟩ := zG8 hB hcv
   exact ⟨bs[k], List.getElem?_eq_getElem hkbs, hB.2.1, vs, T, k1, k3⟩
 rintro e a' w' ⟨F, hq, hI⟩
 cases e with
 |normal => exact fin hq hI
 |ret => exact fin hq hI
 |panic ch => exact hq.elim
 |exit id => exact hq.elim
 |goto l => exact hq.elim
 |outgrown => exact hq.elim
end
end Go.Hx
end

section
/-
 Plainer lists of paths, as plain Lean data: the same lists, the first ones of equals, a list made plainer, how much it weighs. No condition.
-/
namespace Go.Hx
section
variable {α : Type} (eq : α → α → Bool)
end
end Go.Hx
end

section
/-
 A list made plainer: it weighs no more, it stays right, what is as plain as may be stays, and it matches what it matched. Plain Lean. No condition.
-/
set_option maxRecDepth 100000
set_option linter.unusedSimpArgs false
namespace Go.Hx
mutual
theorem zPf : ∀ (l : List Pt) (d : Nat), yAa l (d + 1) = false → yAa l d = false
 |[], _, _ => rfl
 |p :: r, d, h => by
  simp only [yAa, Bool.or_eq_false_iff] at h ⊢
  exact ⟨yCU p d h.1, zPf r d h.2⟩
theorem yCU : ∀ (p : Pt) (d : Nat), tmP p (d + 1) = false → tmP p d = false
 |.mk s l, d, h => by
  simp only [tmP, Bool.or_eq_false_iff] at h ⊢
  exact ⟨h.1, zV1 s d h.2⟩
theorem zV1 : ∀ (l : List St) (d : Nat), yBL l (d + 1) = false → yBL l d = false
 |[], _, _ => rfl
 |p :: r, d, h => by
  simp only [yBL, Bool.or_eq_false_iff] at h ⊢
  exact ⟨yCV p d h.1, zV1 r d h.2⟩
theorem yCV : ∀ (p : St) (d : Nat), tmS p (d + 1) = false → tmS p d = false
 |.mk t l, d, h => by
  simp only [tmS, Bool.or_eq_false_iff] at h ⊢
  exact ⟨h.1, zPg l d h.2⟩
theorem zPg : ∀ (l : List Ts) (d : Nat), yBM l (d + 1) = false → yBM l d = false
 |[], _, _ => rfl
 |p :: r, d, h => by
  simp only [yBM, Bool.or_eq_false_iff] at h ⊢
  exact ⟨zYW p d h.1, zPg r d h.2⟩
theorem zYW : ∀ (p : Ts) (d : Nat), tmT p (d + 1) = false → tmT p d = false
 |.mk k n v a b l, d, h => by
  simp only [tmT, Bool.and_eq_false_iff, Bool.or_eq_false_iff] at h ⊢
  rcases h with h | ⟨⟨h1, h2⟩, h3⟩
  ·exact .inl h
  ·exact .inr ⟨⟨by simp only [decide_eq_false_iff_not] at h1 ⊢; omega, h2⟩, zPf l (d + 1) h3⟩
end
theorem GT.mono {t : Ts} {d : Nat} (h : GT t (d + 1)) : GT t d := ⟨zYW t d h.1, h.2⟩
theorem GTs.mono {t : List Ts} {d : Nat} (h : GTs t (d + 1)) : GTs t d := ⟨zPg t d h.1, h.2⟩
theorem GPs.mono {t : List Pt} {d : Nat} (h : GPs t (d + 1)) : GPs t d := ⟨zPf t d h.1, h.2⟩
theorem GL.mono {t : List Pt} {d : Nat} (h : GL t (d + 1)) : GL t d := ⟨by have := h.1; omega, h.2.1, h.2.2.1, h.2.2.2.mono⟩
theorem yBg {l : List Pt} (h : GL l 1) : zCD l = 0 := by
 obtain ⟨_, h1, h2, g1, g2, g3, g4⟩ := h
 unfold zCD tmL
 rw [g1, g2, g3, g4]
 simp [h1, h2]
section
variable [Glob]
end
end Go.Hx
end

section
/-
 Lists of which the first ones are done and the others are not; small laws on owned trees. No condition.
-/
namespace Go.Hx
open Go.RowKit
section
variable {α β : Type}
variable {f g : α → β} {l : List α} {k : Nat}
end
section
variable [Glob]
variable {P : Program} {F : List Ct} {K : List Ct → Prop} {X : Value → List Ct → Prop}
end
end Go.Hx
end

section
/-
 Maps from ints to ints; rows told by a function; the neighbours of elements. Plain Lean over the layer. No condition.
-/
set_option maxRecDepth 100000
namespace Go.Hx
section
variable [Glob]
abbrev yAc (b : Nat) (l : List (Int × Int)) : OV := .mp b (l.map fun x => .int .i64 x.1) (l.map fun x => .p (bI x.2))
def zPE : List (Int × Int) → Int → Option Int
 |[], _ => none
 |x :: l, w => if w = x.1 then some x.2 else zPE l w
def zZV : List (Int × Int) → Int → Int → List (Int × Int)
 |[], u, n => [(u, n)]
 |x :: l, u, n => if u = x.1 then (x.1, n) :: l else x :: zZV l u n
theorem zIu : ∀ (l : List (Int × Int)) (u n w : Int), zPE (zZV l u n) w = if w = u then some n else zPE l w
 |[], u, n, w => by simp [zPE, zZV]
 |x :: l, u, n, w => by
  simp only [zZV]
  by_cases h : u = x.1
  ·rw [if_pos h]
   simp only [zPE]
   by_cases h2 : w = x.1
   ·rw [if_pos h2, if_pos (by rw [h2, h])]
   ·rw [if_neg h2, if_neg (by rw [h]; exact h2), if_neg h2]
  ·rw [if_neg h]
   simp only [zPE]
   rw [zIu l u n w]
   by_cases h2 : w = x.1
   ·rw [if_pos h2, if_neg (by rw [h2]; exact fun e => h e.symm), if_pos h2]
   ·rw [if_neg h2, if_neg h2]
theorem yE9 (a b : Int) : zEg (.int .i64 a) (.int .i64 b) = decide (a = b) := by
 simp [zEg, zMX]
theorem zYX (x : Int × Int) (l : List (Int × Int)) (w : Int) : zGd ((x :: l).map fun x => Value.int .i64 x.1) (.int .i64 w) = if w = x.1 then some 0 else (zGd (l.map fun x => Value.int .i64 x.1) (.int .i64 w)).map (· + 1) := by
 unfold zGd
 simp only [List.map_cons, List.findIdx?_cons, yE9]
 by_cases h : w = x.1 <;> simp [h]
theorem zXO : ∀ (l : List (Int × Int)) (w : Int), (zGd (l.map fun x => Value.int .i64 x.1) (.int .i64 w) = none ∧ zPE l w = none) ∨ (∃ i, zGd (l.map fun x => Value.int .i64 x.1) (.int .i64 w) = some i ∧ i < l.length ∧ zPE l w = some (l.getD i default).2)
 |[], w => .inl ⟨rfl, rfl⟩
 |x :: l, w => by
  rw [zYX]
  simp only [zPE]
  by_cases h : w = x.1
  ·right
   exact ⟨0, by simp [h], by simp, by simp [h]⟩
  ·rw [if_neg h, if_neg h]
   rcases zXO l w with ⟨h1, h2⟩ | ⟨i, h1, h2, h3⟩
   ·left; exact ⟨by rw [h1]; rfl, h2⟩
   ·right; exact ⟨i + 1, by rw [h1]; rfl, by simp; omega, by simpa using h3⟩
theorem yBk (b : Nat) : ∀ (l : List (Int × Int)) (u n : Int), zKr b (l.map fun x => Value.int .i64 x.1) (l.map fun x => .p (bI x.2)) (.int .i64 u) (.p (bI n)) = yAc b (zZV l u n)
 |[], u, n => rfl
 |x :: l, u, n => by
  have ih := yBk b l u n
  unfold zKr at ih ⊢
  rw [zYX]
  simp only [zZV]
  by_cases h : u = x.1
  ·rw [if_pos h, if_pos h]
   simp [yAc]
  ·rw [if_neg h, if_neg h]
   rcases zXO l u with ⟨h1, _⟩ | ⟨i, h1, h2, h3⟩
   ·rw [h1] at ih ⊢
    simp only [Option.map_none]
    simp only [yAc, OV.mp.injEq] at ih ⊢
    simp only [List.map_cons, List.cons_append]
    exact ⟨trivial, by rw [ih.2.1], by rw [ih.2.2]⟩
   ·rw [h1] at ih ⊢
    simp only [Option.map_some]
    simp only [yAc, OV.mp.injEq] at ih ⊢
    simp only [List.map_cons, List.set_cons_succ]
    exact ⟨trivial, by rw [ih.2.1], by rw [ih.2.2]⟩
theorem yDz (l : List (Int × Int)) : ∀ q ∈ (l.map fun x => Value.int .i64 x.1), zMv q = 1 := by
 intro q hq
 obtain ⟨x, _, rfl⟩ := List.mem_map.1 hq
 rfl
variable {P : Program} {F : List Ct} {K : List Ct → Prop} {X : Value → List Ct → Prop}
theorem yHo {d : Nat} (h : ∀ b, K (F.set d (.ov (.one (yAc b []))))) : hoW P ⟨none, .mmk d⟩ F K X := h
theorem yFa {x q y r b : Nat} {l : List (Int × Int)} {u n : Int} (hx : F.getD x .un = .mph b) (hr : F.getD r .un = .ov (.one (yAc b l))) (hq : F.getD q .un = .pv (iv u)) (hy : F.getD y .un = .pv (iv n)) (hyr : y ≠ r) (hK : K (F.set r (.ov (.one (yAc b (zZV l u n)))))) : hoW P ⟨none, .mps (.t x) r 1 (.t q) (.t y)⟩ F K X := by
 rw [yIv]
 have hm : zKs F (.t x) = some b := by unfold zKs; simp only [zAh, hx]
 have hqv : (zAh F (.t q)).pv? = some (iv u) := by simp only [zAh, hq]; rfl
 have hqn : (zAh F (.t q)).need := by simp only [zAh, hq]; trivial
 have hsv : zPB F (.t y) = (trivial = trivial, some (.p (bI n))) ∨ (zPB F (.t y)).1 ∧ (zPB F (.t y)).2 = some (.p (bI n)) := by
  right
  unfold zPB
  simp only [zAh, hy, Ct.pv?, Ct.need]
  exact ⟨trivial, rfl⟩
 have hs2 : (zPB F (.t y)).1 ∧ (zPB F (.t y)).2 = some (.p (bI n)) := by
  unfold zPB
  simp only [zAh, hy, Ct.pv?, Ct.need]
  exact ⟨trivial, rfl⟩
 have hcl : clr F F (.t y) = F := by simp only [clr, hy]
 unfold zJi
 rw [hm, hr, hqv]
 refine ⟨rfl, hqn, rfl, yDz l, (fun s h => by cases h; exact hyr), hs2.1, ?_⟩
 rw [hs2.2, hcl]
 change K (F.set r (Ct.ov (OVal.one (zKr b (l.map fun x => Value.int .i64 x.1) (l.map fun x => OV.p (bI x.2)) (.int .i64 u) (.p (bI n))))))
 rw [yBk]
 exact hK
theorem yFb {d x q r b : Nat} {l : List (Int × Int)} {w : Int} {ok : Bool} (hx : F.getD x .un = .mph b) (hr : F.getD r .un = .ov (.one (yAc b l))) (hq : F.getD q .un = .pv (iv w)) (hK : K (F.set d (if ok then .tup [iv ((zPE l w).getD 0), bv (zPE l w).isSome] else .pv (iv ((zPE l w).getD 0))))) : hoW P ⟨none, .mpl d (.t x) r 1 (.t q) (.v (.int .i64 0)) ok⟩ F K X := by
 rw [yIw]
 have hm : zKs F (.t x) = some b := by unfold zKs; simp only [zAh, hx]
 have hqv : (zAh F (.t q)).pv? = some (iv w) := by simp only [zAh, hq]; rfl
 have hqn : (zAh F (.t q)).need := by simp only [zAh, hq]; trivial
 unfold zJi
 rw [hm, hr, hqv]
 refine ⟨rfl, hqn, rfl, yDz l, ?_⟩
 rcases zXO l w with ⟨h1, h2⟩ | ⟨i, h1, h2, h3⟩
 ·rw [h1]
  simp only [zWF]
  rw [h2] at hK
  exact hK
 ·rw [h1]
  have : (l.map fun x => OV.p (bI x.2)).getD i .hole = .p (bI (l.getD i default).2) := by simp [h2]
  simp only [zWF, this]
  rw [h3] at hK
  exact hK
end
def zD6 (L : Nat) (g : Nat → List OV) : List (List OV) := (List.range L).map g
theorem yBl (L : Nat) (g : Nat → List OV) : (zD6 L g).length = L := by simp [zD6]
theorem zCF {L i : Nat} (h : i < L) (g : Nat → List OV) : (zD6 L g).getD i [] = g i := by simp [zD6, h]
theorem yBm (L i : Nat) (g : Nat → List OV) (r : List OV) : (zD6 L g).set i r = zD6 L (fun j => if j = i then r else g j) := by
 refine List.ext_getElem (by simp [zD6]) fun k h1 h2 => ?_
 simp only [zD6, List.getElem_set, List.getElem_map, List.getElem_range]
 by_cases h : i = k
 ·rw [if_pos h, if_pos h.symm]
 ·rw [if_neg h, if_neg (Ne.symm h)]
theorem yBn (L : Nat) (r : List OV) : List.replicate L r = zD6 L (fun _ => r) := by
 simp [zD6, List.map_const']
theorem zAV {L : Nat} {g h : Nat → List OV} (e : ∀ j, j < L → g j = h j) : zD6 L g = zD6 L h :=
 List.map_congr_left fun j hj => e j (List.mem_range.1 hj)
abbrev zJc (p o a u k : Int) : List OV := [.p (bI p), .p (bI o), .p (bI a), .p (bI u), .p (bI k)]
end Go.Hx
end

section
/-
 Right documents: what is above an element. Plain Lean. No condition.
-/
namespace Go.Hx
variable [Glob]
def C (d : List Nd) (k : Int) : List Int := zBB d d.length k
section
variable {d : List Nd} (hd : zDD d d.length = true)
include hd
theorem yCW {k : Int} (h : k < 0) : C d k = [] := by
 unfold C
 cases d.length <;> simp [zBB, h]
theorem zJd {k : Nat} (hk : k < d.length) : C d k = (k : Int) :: C d (zBh d k) := by
 unfold C
 have hu := zBj hd k hk
 obtain ⟨f, hf⟩ : ∃ f, d.length = f + 1 := ⟨d.length - 1, by omega⟩
 rw [hf]
 have e := zIs (d := d) f (f + 1) (zBh d k) (fun j hj => (zBj hd j (by omega)).2) (by omega) (by omega)
 rw [← e]
 simp only [zBB, Int.toNat_natCast]
 rw [if_neg (by omega)]
theorem yFB {k : Int} (hk : k < d.length) {x : Int} (hx : x ∈ C d k) : 0 ≤ x ∧ x ≤ k :=
 zDx d.length k (fun j hj => (zBj hd j (by omega)).2) x hx
theorem yHp {p : Nat → Prop} (h : ∀ k, k < d.length → (∀ j : Nat, zBh d k = (j : Int) → j < k → p j) → p k) : ∀ k, k < d.length → p k := by
 intro k
 induction k using Nat.strongRecOn with
 |ind k ih => intro hk; exact h k hk fun j _ hj => ih j hj (by omega)
theorem zYY {k : Nat} (hk : k < d.length) : zBh d k < 0 ∨ ∃ j : Nat, zBh d k = j ∧ j < k := by
 have := zBj hd k hk
 by_cases h : zBh d k < 0
 ·exact .inl h
 ·exact .inr ⟨(zBh d k).toNat, by omega, by omega⟩
theorem yFc : ∀ k, k < d.length → ∀ {u x : Int}, u ∈ C d k → x ∈ C d u → x ∈ C d k := by
 refine yHp hd fun k hk ih u x hu hx => ?_
 rw [zJd hd hk] at hu ⊢
 rcases List.mem_cons.1 hu with rfl | hu
 ·rw [zJd hd hk] at hx; exact hx
 ·refine List.mem_cons_of_mem _ ?_
  rcases zYY hd hk with h | ⟨j, h, hj⟩
  ·rw [yCW hd h] at hu; cases hu
  ·rw [h] at hu ⊢
   exact ih j h hj hu hx
theorem yIT : ∀ k, k < d.length → ∀ {i : Nat} {x : Int}, (i : Int) ∈ C d k → x ∈ C d k → x < i → x ∈ C d (zBh d i) := by
 refine yHp hd fun k hk ih i x hi hx hlt => ?_
 have hb := yFB hd (by omega) hi
 rw [zJd hd hk] at hi hx
 rcases List.mem_cons.1 hi with e | hi
 ·have e : i = k := by omega
  subst e
  exact (List.mem_cons.1 hx).resolve_left (by omega)
 ·have hx := (List.mem_cons.1 hx).resolve_left (by omega)
  rcases zYY hd hk with h | ⟨j, h, hj⟩
  ·rw [yCW hd h] at hi; cases hi
  ·rw [h] at hi hx
   exact ih j h hj hi hx hlt
end
end Go.Hx
end

section
/-
 An entry laid into the index, at its place. No condition.
-/
set_option maxRecDepth 100000
set_option linter.unusedSimpArgs false
namespace Go.Hx
open Go.RowKit
variable [Glob]
end Go.Hx
end

section
/-
 THE ABSTRACT LAYER: a contract out of the code of a function that is handed an owned tree and gives one zWN. Generic over the program. No condition.
-/
namespace Go.Hx
open Go.RowKit
variable [Glob]
variable {P : Program} {E : Env}
end Go.Hx
end
