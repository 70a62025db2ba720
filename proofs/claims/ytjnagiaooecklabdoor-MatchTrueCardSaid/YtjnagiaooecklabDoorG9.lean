/-
  Walks of functions of the program over an abstract layer, and the laws that they use: each contract says what the function computes, for every input that its conditions let by. No other condition.
-/
import Derived.Test.YtjnagiaooecklabDoorG8
set_option linter.all false
section
/-
 Which elements match: as the document's answer says it. Plain Lean. No condition.
-/
namespace Go.Hx
variable [Glob]
def zGs (l : List (Bys × Bys)) (nm : Bys) : Option Bys := (l.find? fun a => decide (a.1 = nm)).map (·.2)
def zBN (s t : Bys) (i : Int) : Bool := decide (0 ≤ i ∧ i + t.length ≤ s.length) && decide ((s.drop i.toNat).take t.length = t)
def zTS (s t : Bys) (i : Nat) : Bool := zBN s t i && (decide (i = 0) || decide (s.getD (i - 1) 0 = 32)) && (decide (i + t.length = s.length) || decide (s.getD (i + t.length) 0 = 32))
def zWZ (s t : Bys) : Bool := !decide (t = []) && t.all (fun c => decide (c ≠ 32)) && (List.range (s.length + 1)).any (zTS s t)
def zFH (k : Int) (s t : Bys) : Bool :=
 if k = 3 then true else if k = 4 then decide (s = t) else if k = 8 then zWZ s t else if t = [] then false
 else if k = 5 then zBN s t 0 else if k = 6 then zBN s t ((s.length : Int) - t.length) else (List.range s.length).any fun i => zBN s t i
def zD5 (d : List Nd) (n : Nat) : List Int := if n = 0 then [0] else kidsUp d n d.length
where kidsUp (d : List Nd) (n k : Nat) : List Int := ((List.range k).filter fun i => decide (zBb d i = zBb d n)).map Int.ofNat
def zBq (l : List Int) (n : Int) : Int := match l.findIdx? (fun x => decide (x = n)) with
 |some i => i
 |none => -1
def zI1 (d : List Nd) (m n : Nat) : Bool := (zBD d d.length (zBb d n)).contains (m : Int)
def zVE (d : List Nd) (link : Int) (m n : Nat) : Bool :=
 if link = 1 then zI1 d m n else if link = 2 then decide (zBb d n = m)
 else if link = 3 then decide (0 ≤ zBq (zD5 d n) m) && decide (zBq (zD5 d n) m + 1 = zBq (zD5 d n) n)
 else decide (0 ≤ zBq (zD5 d n) m) && decide (zBq (zD5 d n) m < zBq (zD5 d n) n)
def zY0 (d : List Nd) (n : Nat) : List Nat := (List.range d.length).filter fun i => decide (zBb d i = n)
def zDK (d : List Nd) (ps : List (Nat → Bool)) (lk : List Int) : Nat → Nat → Bool
 |0, n => ps.getD 0 (fun _ => false) n
 |k + 1, n => ps.getD (k + 1) (fun _ => false) n && (List.range n).any fun m => zVE d (lk.getD k 0) m n && zDK d ps lk k m
def zTT (a b i : Int) : Bool := if zOy a b = 0 ∧ 1 ≤ i ∧ i ≤ 1073741824 then (if a = 0 ∨ i = b then decide (i = b) else if 0 < a then decide (b < i) && decide ((i - b).tmod a = 0) else decide (i < b) && decide ((b - i).tmod (-a) = 0)) else false
def zM9 (d : List Nd) (k : Int) (nm v : Bys) (a b : Int) (lp : Nat → Bool) (n : Nat) : Bool :=
 let x := d.getD n default
 if k = 1 then x.cls.any (fun c => decide (c = nm)) else if k = 2 then decide (x.id = nm)
 else if k ≤ 8 then (match zGs x.att nm with | some s => zFH k s v | none => false)
 else if k = 9 then zTT a b (zBq (zD5 d n) n + 1) else if k = 10 then zTT a b ((zD5 d n).length - zBq (zD5 d n) n)
 else if k = 11 then decide (zY0 d n = []) else if k = 12 then decide (n = 0) else if k = 13 then !lp n else if k = 14 then lp n
 else (List.range d.length).any fun m => zI1 d n m && lp m
mutual
def tM (d : List Nd) : Ts → Nat → Bool
 |.mk k nm v a b l => zM9 d k nm v a b (lM d l)
def lM (d : List Nd) : List Pt → Nat → Bool
 |[] => fun _ => false
 |p :: r => fun n => pM d p n || lM d r n
def pM (d : List Nd) : Pt → Nat → Bool
 |.mk s lk => zDK d (ssM d s) lk (s.length - 1)
def ssM (d : List Nd) : List St → List (Nat → Bool)
 |[] => []
 |s :: r => sM d s :: ssM d r
def sM (d : List Nd) : St → Nat → Bool
 |.mk t l => fun n => (decide (t = []) || decide (t = (d.getD n default).tag)) && tsM d l n
def tsM (d : List Nd) : List Ts → Nat → Bool
 |[] => fun _ => true
 |t :: r => fun n => tM d t n && tsM d r n
end
theorem zQe (d : List Nd) (n : Nat) : ∀ l : List Pt, lM d l n = l.any fun p => pM d p n
 |[] => by rw [lM]; rfl
 |p :: r => by rw [lM, List.any_cons, ← zQe d n r]
theorem zVF (d : List Nd) (n : Nat) : ∀ l : List Ts, tsM d l n = l.all fun t => tM d t n
 |[] => by rw [tsM]; rfl
 |t :: r => by rw [tsM, List.all_cons, ← zVF d n r]
theorem zVG (d : List Nd) : ∀ l : List St, ssM d l = l.map (sM d)
 |[] => by rw [ssM]; rfl
 |s :: r => by rw [ssM, zVG d r]; rfl
theorem yCo (d : List Nd) (s : St) (n : Nat) : sM d s n = ((decide (s.tag = []) || decide (s.tag = (d.getD n default).tag)) && s.tests.all fun t => tM d t n) := by
 obtain ⟨t, l⟩ := s
 rw [sM]; show (_ && tsM d l n) = _; rw [zVF]; rfl
theorem yCp (d : List Nd) (p : Pt) : pM d p = zDK d (p.steps.map (sM d)) p.links (p.steps.length - 1) := by
 obtain ⟨s, lk⟩ := p
 rw [pM, zVG]; rfl
theorem zY1 (d : List Nd) (t : Ts) : tM d t = zM9 d t.kind t.name t.value t.na t.nb (lM d t.list) := by
 obtain ⟨k, nm, v, a, b, l⟩ := t
 rw [tM]; rfl
end Go.Hx
end

section
/-
 Lists of which the first ones are done and the others are not; small laws on owned trees. No condition.
-/
namespace Go.Hx
open Go.RowKit
section
variable {α β : Type}
variable {f g : α → β} {l : List α} {k : Nat}
end
section
variable [Glob]
variable {P : Program} {F : List Ct} {K : List Ct → Prop} {X : Value → List Ct → Prop}
end
end Go.Hx
end

section
/-
 Maps from ints to ints; rows told by a function; the neighbours of elements. Plain Lean over the layer. No condition.
-/
set_option maxRecDepth 100000
namespace Go.Hx
section
variable [Glob]
abbrev zW6 (b : Nat) (l : List (Int × Int)) : OV := .mp b (l.map fun x => .int .i64 x.1) (l.map fun x => .p (bI x.2))
def zUK : List (Int × Int) → Int → Option Int
 |[], _ => none
 |x :: l, w => if w = x.1 then some x.2 else zUK l w
def zVV : List (Int × Int) → Int → Int → List (Int × Int)
 |[], u, n => [(u, n)]
 |x :: l, u, n => if u = x.1 then (x.1, n) :: l else x :: zVV l u n
theorem zJk : ∀ (l : List (Int × Int)) (u n w : Int), zUK (zVV l u n) w = if w = u then some n else zUK l w
 |[], u, n, w => by simp [zUK, zVV]
 |x :: l, u, n, w => by
  simp only [zVV]
  by_cases h : u = x.1
  ·rw [if_pos h]
   simp only [zUK]
   by_cases h2 : w = x.1
   ·rw [if_pos h2, if_pos (by rw [h2, h])]
   ·rw [if_neg h2, if_neg (by rw [h]; exact h2), if_neg h2]
  ·rw [if_neg h]
   simp only [zUK]
   rw [zJk l u n w]
   by_cases h2 : w = x.1
   ·rw [if_pos h2, if_neg (by rw [h2]; exact fun e => h e.symm), if_pos h2]
   ·rw [if_neg h2, if_neg h2]
theorem zZd (a b : Int) : zEO (.int .i64 a) (.int .i64 b) = decide (a = b) := by
 simp [zEO, zM3]
theorem zTX (x : Int × Int) (l : List (Int × Int)) (w : Int) : zGc ((x :: l).map fun x => Value.int .i64 x.1) (.int .i64 w) = if w = x.1 then some 0 else (zGc (l.map fun x => Value.int .i64 x.1) (.int .i64 w)).map (· + 1) := by
 unfold zGc
 simp only [List.map_cons, List.findIdx?_cons, zZd]
 by_cases h : w = x.1 <;> simp [h]
theorem zSH : ∀ (l : List (Int × Int)) (w : Int), (zGc (l.map fun x => Value.int .i64 x.1) (.int .i64 w) = none ∧ zUK l w = none) ∨ (∃ i, zGc (l.map fun x => Value.int .i64 x.1) (.int .i64 w) = some i ∧ i < l.length ∧ zUK l w = some (l.getD i default).2)
 |[], w => .inl ⟨rfl, rfl⟩
 |x :: l, w => by
  rw [zTX]
  simp only [zUK]
  by_cases h : w = x.1
  ·right
   exact ⟨0, by simp [h], by simp, by simp [h]⟩
  ·rw [if_neg h, if_neg h]
   rcases zSH l w with ⟨h1, h2⟩ | ⟨i, h1, h2, h3⟩
   ·left; exact ⟨by rw [h1]; rfl, h2⟩
   ·right; exact ⟨i + 1, by rw [h1]; rfl, by simp; omega, by simpa using h3⟩
theorem zVW (b : Nat) : ∀ (l : List (Int × Int)) (u n : Int), zRZ b (l.map fun x => Value.int .i64 x.1) (l.map fun x => .p (bI x.2)) (.int .i64 u) (.p (bI n)) = zW6 b (zVV l u n)
 |[], u, n => rfl
 |x :: l, u, n => by
  have ih := zVW b l u n
  unfold zRZ at ih ⊢
  rw [zTX]
  simp only [zVV]
  by_cases h : u = x.1
  ·rw [if_pos h, if_pos h]
   simp [zW6]
  ·rw [if_neg h, if_neg h]
   rcases zSH l u with ⟨h1, _⟩ | ⟨i, h1, h2, h3⟩
   ·rw [h1] at ih ⊢
    simp only [Option.map_none]
    simp only [zW6, OV.mp.injEq] at ih ⊢
    simp only [List.map_cons, List.cons_append]
    exact ⟨trivial, by rw [ih.2.1], by rw [ih.2.2]⟩
   ·rw [h1] at ih ⊢
    simp only [Option.map_some]
    simp only [zW6, OV.mp.injEq] at ih ⊢
    simp only [List.map_cons, List.set_cons_succ]
    exact ⟨trivial, by rw [ih.2.1], by rw [ih.2.2]⟩
theorem zXN (l : List (Int × Int)) : ∀ q ∈ (l.map fun x => Value.int .i64 x.1), zM7 q = 1 := by
 intro q hq
 obtain ⟨x, _, rfl⟩ := List.mem_map.1 hq
 rfl
variable {P : Program} {F : List Ct} {K : List Ct → Prop} {X : Value → List Ct → Prop}
theorem yCr {d : Nat} (h : ∀ b, K (F.set d (.ov (.one (zW6 b []))))) : hoW P ⟨none, .mmk d⟩ F K X := h
theorem yA2 {x q y r b : Nat} {l : List (Int × Int)} {u n : Int} (hx : F.getD x .un = .mph b) (hr : F.getD r .un = .ov (.one (zW6 b l))) (hq : F.getD q .un = .pv (iv u)) (hy : F.getD y .un = .pv (iv n)) (hyr : y ≠ r) (hK : K (F.set r (.ov (.one (zW6 b (zVV l u n)))))) : hoW P ⟨none, .mps (.t x) r 1 (.t q) (.t y)⟩ F K X := by
 rw [yB4]
 have hm : zPT F (.t x) = some b := by unfold zPT; simp only [zAh, hx]
 have hqv : (zAh F (.t q)).pv? = some (iv u) := by simp only [zAh, hq]; rfl
 have hqn : (zAh F (.t q)).need := by simp only [zAh, hq]; trivial
 have hsv : zPS F (.t y) = (trivial = trivial, some (.p (bI n))) ∨ (zPS F (.t y)).1 ∧ (zPS F (.t y)).2 = some (.p (bI n)) := by
  right
  unfold zPS
  simp only [zAh, hy, Ct.pv?, Ct.need]
  exact ⟨trivial, rfl⟩
 have hs2 : (zPS F (.t y)).1 ∧ (zPS F (.t y)).2 = some (.p (bI n)) := by
  unfold zPS
  simp only [zAh, hy, Ct.pv?, Ct.need]
  exact ⟨trivial, rfl⟩
 have hcl : clr F F (.t y) = F := by simp only [clr, hy]
 unfold zOa
 rw [hm, hr, hqv]
 refine ⟨rfl, hqn, rfl, zXN l, (fun s h => by cases h; exact hyr), hs2.1, ?_⟩
 rw [hs2.2, hcl]
 change K (F.set r (Ct.ov (OVal.one (zRZ b (l.map fun x => Value.int .i64 x.1) (l.map fun x => OV.p (bI x.2)) (.int .i64 u) (.p (bI n))))))
 rw [zVW]
 exact hK
theorem yCs {d x q r b : Nat} {l : List (Int × Int)} {w : Int} {ok : Bool} (hx : F.getD x .un = .mph b) (hr : F.getD r .un = .ov (.one (zW6 b l))) (hq : F.getD q .un = .pv (iv w)) (hK : K (F.set d (if ok then .tup [iv ((zUK l w).getD 0), bv (zUK l w).isSome] else .pv (iv ((zUK l w).getD 0))))) : hoW P ⟨none, .mpl d (.t x) r 1 (.t q) (.v (.int .i64 0)) ok⟩ F K X := by
 rw [yB5]
 have hm : zPT F (.t x) = some b := by unfold zPT; simp only [zAh, hx]
 have hqv : (zAh F (.t q)).pv? = some (iv w) := by simp only [zAh, hq]; rfl
 have hqn : (zAh F (.t q)).need := by simp only [zAh, hq]; trivial
 unfold zOa
 rw [hm, hr, hqv]
 refine ⟨rfl, hqn, rfl, zXN l, ?_⟩
 rcases zSH l w with ⟨h1, h2⟩ | ⟨i, h1, h2, h3⟩
 ·rw [h1]
  simp only [zR0]
  rw [h2] at hK
  exact hK
 ·rw [h1]
  have : (l.map fun x => OV.p (bI x.2)).getD i .hole = .p (bI (l.getD i default).2) := by simp [h2]
  simp only [zR0, this]
  rw [h3] at hK
  exact hK
end
def zDV (L : Nat) (g : Nat → List OV) : List (List OV) := (List.range L).map g
theorem zVX (L : Nat) (g : Nat → List OV) : (zDV L g).length = L := by simp [zDV]
theorem zCF {L i : Nat} (h : i < L) (g : Nat → List OV) : (zDV L g).getD i [] = g i := by simp [zDV, h]
theorem zVY (L i : Nat) (g : Nat → List OV) (r : List OV) : (zDV L g).set i r = zDV L (fun j => if j = i then r else g j) := by
 refine List.ext_getElem (by simp [zDV]) fun k h1 h2 => ?_
 simp only [zDV, List.getElem_set, List.getElem_map, List.getElem_range]
 by_cases h : i = k
 ·rw [if_pos h, if_pos h.symm]
 ·rw [if_neg h, if_neg (Ne.symm h)]
theorem zVZ (L : Nat) (r : List OV) : List.replicate L r = zDV L (fun _ => r) := by
 simp [zDV, List.map_const']
theorem zAR {L : Nat} {g h : Nat → List OV} (e : ∀ j, j < L → g j = h j) : zDV L g = zDV L h :=
 List.map_congr_left fun j hj => e j (List.mem_range.1 hj)
abbrev zH7 (p o a u k : Int) : List OV := [.p (bI p), .p (bI o), .p (bI a), .p (bI u), .p (bI k)]
end Go.Hx
end

section
/-
 Right documents: what is above an element. Plain Lean. No condition.
-/
namespace Go.Hx
variable [Glob]
def C (d : List Nd) (k : Int) : List Int := zBD d d.length k
section
variable {d : List Nd} (hd : zD4 d d.length = true)
include hd
theorem zW9 {k : Int} (h : k < 0) : C d k = [] := by
 unfold C
 cases d.length <;> simp [zBD, h]
theorem zH8 {k : Nat} (hk : k < d.length) : C d k = (k : Int) :: C d (zBb d k) := by
 unfold C
 have hu := zBc hd k hk
 obtain ⟨f, hf⟩ : ∃ f, d.length = f + 1 := ⟨d.length - 1, by omega⟩
 rw [hf]
 have e := zHr (d := d) f (f + 1) (zBb d k) (fun j hj => (zBc hd j (by omega)).2) (by omega) (by omega)
 rw [← e]
 simp only [zBD, Int.toNat_natCast]
 rw [if_neg (by omega)]
theorem zZx {k : Int} (hk : k < d.length) {x : Int} (hx : x ∈ C d k) : 0 ≤ x ∧ x ≤ k :=
 zDv d.length k (fun j hj => (zBc hd j (by omega)).2) x hx
theorem yA3 {p : Nat → Prop} (h : ∀ k, k < d.length → (∀ j : Nat, zBb d k = (j : Int) → j < k → p j) → p k) : ∀ k, k < d.length → p k := by
 intro k
 induction k using Nat.strongRecOn with
 |ind k ih => intro hk; exact h k hk fun j _ hj => ih j hj (by omega)
theorem zTY {k : Nat} (hk : k < d.length) : zBb d k < 0 ∨ ∃ j : Nat, zBb d k = j ∧ j < k := by
 have := zBc hd k hk
 by_cases h : zBb d k < 0
 ·exact .inl h
 ·exact .inr ⟨(zBb d k).toNat, by omega, by omega⟩
theorem zZe : ∀ k, k < d.length → ∀ {u x : Int}, u ∈ C d k → x ∈ C d u → x ∈ C d k := by
 refine yA3 hd fun k hk ih u x hu hx => ?_
 rw [zH8 hd hk] at hu ⊢
 rcases List.mem_cons.1 hu with rfl | hu
 ·rw [zH8 hd hk] at hx; exact hx
 ·refine List.mem_cons_of_mem _ ?_
  rcases zTY hd hk with h | ⟨j, h, hj⟩
  ·rw [zW9 hd h] at hu; cases hu
  ·rw [h] at hu ⊢
   exact ih j h hj hu hx
theorem yCt : ∀ k, k < d.length → ∀ {i : Nat} {x : Int}, (i : Int) ∈ C d k → x ∈ C d k → x < i → x ∈ C d (zBb d i) := by
 refine yA3 hd fun k hk ih i x hi hx hlt => ?_
 have hb := zZx hd (by omega) hi
 rw [zH8 hd hk] at hi hx
 rcases List.mem_cons.1 hi with e | hi
 ·have e : i = k := by omega
  subst e
  exact (List.mem_cons.1 hx).resolve_left (by omega)
 ·have hx := (List.mem_cons.1 hx).resolve_left (by omega)
  rcases zTY hd hk with h | ⟨j, h, hj⟩
  ·rw [zW9 hd h] at hi; cases hi
  ·rw [h] at hi hx
   exact ih j h hj hi hx hlt
end
end Go.Hx
end
