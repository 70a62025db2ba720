/-
  Walks of functions of the program over an abstract layer, and the laws that they use: each contract says what the function computes, for every input that its conditions let by. No other condition.
-/
import Derived.Test.YtjnagiaooecklabGreatDoorG8
set_option linter.all false
section
/-
 Which elements match: as the document's answer says it. Plain Lean. No condition.
-/
namespace Go.Hx
variable [Glob]
def zHZ (l : List (Bys × Bys)) (nm : Bys) : Option Bys := (l.find? fun a => decide (a.1 = nm)).map (·.2)
def zBP (s t : Bys) (i : Int) : Bool := decide (0 ≤ i ∧ i + t.length ≤ s.length) && decide ((s.drop i.toNat).take t.length = t)
def zYb (s t : Bys) (i : Nat) : Bool := zBP s t i && (decide (i = 0) || decide (s.getD (i - 1) 0 = 32)) && (decide (i + t.length = s.length) || decide (s.getD (i + t.length) 0 = 32))
def yCa (s t : Bys) : Bool := !decide (t = []) && t.all (fun c => decide (c ≠ 32)) && (List.range (s.length + 1)).any (zYb s t)
def zHg (k : Int) (s t : Bys) : Bool :=
 if k = 3 then true else if k = 4 then decide (s = t) else if k = 8 then yCa s t else if t = [] then false
 else if k = 5 then zBP s t 0 else if k = 6 then zBP s t ((s.length : Int) - t.length) else (List.range s.length).any fun i => zBP s t i
def zEx (d : List Nd) (n : Nat) : List Int := if n = 0 then [0] else kidsUp d n d.length
where kidsUp (d : List Nd) (n k : Nat) : List Int := ((List.range k).filter fun i => decide (zBf d i = zBf d n)).map Int.ofNat
def zBt (l : List Int) (n : Int) : Int := match l.findIdx? (fun x => decide (x = n)) with
 | some i => i
 | none => -1
def zKW (d : List Nd) (m n : Nat) : Bool := (zBE d d.length (zBf d n)).contains (m : Int)
def yAt (d : List Nd) (link : Int) (m n : Nat) : Bool :=
 if link = 1 then zKW d m n else if link = 2 then decide (zBf d n = m)
 else if link = 3 then decide (0 ≤ zBt (zEx d n) m) && decide (zBt (zEx d n) m + 1 = zBt (zEx d n) n)
 else decide (0 ≤ zBt (zEx d n) m) && decide (zBt (zEx d n) m < zBt (zEx d n) n)
def yEu (d : List Nd) (n : Nat) : List Nat := (List.range d.length).filter fun i => decide (zBf d i = n)
def zDL (d : List Nd) (ps : List (Nat → Bool)) (lk : List Int) : Nat → Nat → Bool
 | 0, n => ps.getD 0 (fun _ => false) n
 | k + 1, n => ps.getD (k + 1) (fun _ => false) n && (List.range n).any fun m => yAt d (lk.getD k 0) m n && zDL d ps lk k m
def zYc (a b i : Int) : Bool := if zRX a b = 0 ∧ 1 ≤ i ∧ i ≤ 1073741824 then (if a = 0 ∨ i = b then decide (i = b) else if 0 < a then decide (b < i) && decide ((i - b).tmod a = 0) else decide (i < b) && decide ((b - i).tmod (-a) = 0)) else false
def zNl (d : List Nd) (k : Int) (nm v : Bys) (a b : Int) (lp : Nat → Bool) (n : Nat) : Bool :=
 let x := d.getD n default
 if k = 1 then x.cls.any (fun c => decide (c = nm)) else if k = 2 then decide (x.id = nm)
 else if k ≤ 8 then (match zHZ x.att nm with | some s => zHg k s v | none => false)
 else if k = 9 then zYc a b (zBt (zEx d n) n + 1) else if k = 10 then zYc a b ((zEx d n).length - zBt (zEx d n) n)
 else if k = 11 then decide (yEu d n = []) else if k = 12 then decide (n = 0) else if k = 13 then !lp n else if k = 14 then lp n
 else (List.range d.length).any fun m => zKW d n m && lp m
mutual
def tM (d : List Nd) : Ts → Nat → Bool
 | .mk k nm v a b l => zNl d k nm v a b (lM d l)
def lM (d : List Nd) : List Pt → Nat → Bool
 | [] => fun _ => false
 | p :: r => fun n => pM d p n || lM d r n
def pM (d : List Nd) : Pt → Nat → Bool
 | .mk s lk => zDL d (ssM d s) lk (s.length - 1)
def ssM (d : List Nd) : List St → List (Nat → Bool)
 | [] => []
 | s :: r => sM d s :: ssM d r
def sM (d : List Nd) : St → Nat → Bool
 | .mk t l => fun n => (decide (t = []) || decide (t = (d.getD n default).tag)) && tsM d l n
def tsM (d : List Nd) : List Ts → Nat → Bool
 | [] => fun _ => true
 | t :: r => fun n => tM d t n && tsM d r n
end
theorem zKX (d : List Nd) (n : Nat) : ∀ l : List Pt, lM d l n = l.any fun p => pM d p n
 | [] => by rw [lM]; rfl
 | p :: r => by rw [lM, List.any_cons, ← zKX d n r]
theorem yAu (d : List Nd) (n : Nat) : ∀ l : List Ts, tsM d l n = l.all fun t => tM d t n
 | [] => by rw [tsM]; rfl
 | t :: r => by rw [tsM, List.all_cons, ← yAu d n r]
theorem yAv (d : List Nd) : ∀ l : List St, ssM d l = l.map (sM d)
 | [] => by rw [ssM]; rfl
 | s :: r => by rw [ssM, yAv d r]; rfl
theorem zUp (d : List Nd) (s : St) (n : Nat) : sM d s n = ((decide (s.tag = []) || decide (s.tag = (d.getD n default).tag)) && s.tests.all fun t => tM d t n) := by
 obtain ⟨t, l⟩ := s
 rw [sM]; show (_ && tsM d l n) = _; rw [yAu]; rfl
theorem yCb (d : List Nd) (p : Pt) : pM d p = zDL d (p.steps.map (sM d)) p.links (p.steps.length - 1) := by
 obtain ⟨s, lk⟩ := p
 rw [pM, yAv]; rfl
theorem yAw (d : List Nd) (t : Ts) : tM d t = zNl d t.kind t.name t.value t.na t.nb (lM d t.list) := by
 obtain ⟨k, nm, v, a, b, l⟩ := t
 rw [tM]; rfl
end Go.Hx
end

section
/-
 Shorter words for printed code; a function's contract out of its code by one computation; the first frame's words. Generic over the program. No condition.
-/
namespace Go.Hx
open Go.RowKit
variable [Glob]
abbrev oV (d : Nat) (v : VOp) : HO := ⟨none, .val d v⟩
abbrev oG (g : Nat) (b : Bool) (d : Nat) (v : VOp) : HO := ⟨some (g, b), .val d v⟩
abbrev oC (d : Nat) (f : FuncId) (l : List (Opd × AM)) : HO := ⟨none, .call (some d) f l⟩
abbrev oD (i : Nat) (l : Bool) (h : HO) : DO := ⟨i, l, h⟩
abbrev oN (l : List HO) : HCode := .reg l false []
abbrev oR (l : List HO) (f : List Nat) : HCode := .reg l false [.forget f]
abbrev oQ (l : List DO) (f : List Nat) : HCode := .drg l [.forget f]
def foB (E : Env) (base : Nat) (av : List AV) : Bool := Nat.ble av.length E.N && Nat.ble (zRR av) 1 && Nat.ble (nIo av) 1 && match ioOf av with | some cs => E.nfix == 1 && E.Γ[0]? == some (base, cs.length) | none => E.nfix == 0
theorem fo {E : Env} {base : Nat} {av : List AV} (h : foB E base av = true) : zT9 E base av := by
 unfold foB at h
 simp only [Bool.and_eq_true] at h
 refine ⟨Nat.le_of_ble_eq_true h.1.1.1, Nat.le_of_ble_eq_true h.1.1.2, Nat.le_of_ble_eq_true h.1.2, ?_⟩
 have h2 := h.2
 split at h2
 ·rename_i cs e
  rw [e]
  simpa using h2
 ·rename_i e
  rw [e]
  simpa using h2
def zCf (P : Program) (f : FuncId) (h : HCode) (E : Env) (R : List RSrc) : Bool := match P.funcs[f]? with
 | some fn => match fn.body with
  | some c => zDa P f && (E.ok && E.unaOk) && (E.N == fn.ntmps) && zCS P E c h && zEv P E R fn.results.toList
  | none => false
 | none => false
theorem mkA {P : Program} {f : FuncId} {h : HCode} {E : Env} {R : List RSrc} (hc : zCf P f h E R = true) {base : Nat} {av : List AV} {r : RV} (hfo : zT9 E base av) (hW : AVs.fits av → hwp P h (zZQ E base av R r) (F0 E base av)) (hov : ∀ x, r.res = .ov x → zRR av = 0 := by intro x h; cases h <;> rfl) : Contract P f av r := by
 unfold zCf at hc
 split at hc
 ·rename_i fn hf
  split at hc
  ·rename_i c hb
   simp only [Bool.and_eq_true, beq_iff_eq] at hc
   exact zPR (fn := fn) (c := c) hf hb hc.1.1.1.1 (by simp [hc.1.1.1.2]) hc.1.1.2 hc.1.2 hc.2 hfo hW hov
  ·cases hc
 ·cases hc
theorem yIn : (∀ F, zAD [] F = F) ∧ (∀ i r F, zAD (i :: r) F = zAD r (F.set i .una)) ∧ (∀ (a : Ct) l n b, (a :: l).set (n + 1) b = a :: l.set n b) ∧ (∀ (a : Ct) l b, (a :: l).set 0 b = b :: l) ∧
  (∀ (f : AV → Ct), [].map f = []) ∧ (∀ (f : AV → Ct) a l, (a :: l).map f = f a :: l.map f) ∧ (∀ (f : PV → Ct), [].map f = []) ∧ (∀ (f : PV → Ct) a l, (a :: l).map f = f a :: l.map f) ∧
  (∀ x, zAB (.val x) = .pv x) ∧ (∀ e k r, zAB (.own e k r) = .own e k r) ∧ (∀ x, zAB (.io x) = .ptr 0 0) ∧ (∀ F i, zAa F i [] = F) ∧ (∀ F i c l, zAa F i (c :: l) = zAa (F.set i c) (i + 1) l) ∧
  (ioOf [] = none) ∧ (∀ x l, ioOf (.val x :: l) = ioOf l) ∧ (∀ e k r l, ioOf (.own e k r :: l) = ioOf l) ∧ (∀ x l, ioOf (.io x :: l) = some x) ∧
  (([] : List AV).length = 0) ∧ (∀ (a : AV) l, (a :: l).length = l.length + 1) ∧ (∀ a : Ct, List.replicate 0 a = []) ∧ (∀ (a : Ct) n, List.replicate (n + 1) a = a :: List.replicate n a) ∧
  (∀ (a : Ct) l r, a :: l ++ r = a :: (l ++ r)) ∧ (∀ l : List Ct, [] ++ l = l) := by
 refine ⟨fun _ => rfl, fun _ _ _ => rfl, fun _ _ _ _ => rfl, fun _ _ _ => rfl, fun _ => rfl, fun _ _ _ => rfl, fun _ => rfl, fun _ _ _ => rfl, fun _ => rfl, fun _ _ _ => rfl, fun _ => rfl, fun _ _ => rfl, fun _ _ _ _ => rfl, rfl, fun _ _ => rfl, fun _ _ _ _ => rfl, fun _ _ => rfl, rfl, fun _ _ => rfl, fun _ => rfl, fun _ _ => rfl, fun _ _ _ => rfl, fun _ => rfl⟩
end Go.Hx
end

section
/-
 Lists of which the first ones are done and the others are not; small laws on owned trees. No condition.
-/
namespace Go.Hx
open Go.RowKit
section
variable {α β : Type}
variable {f g : α → β} {l : List α} {k : Nat}
end
section
variable [Glob]
variable {P : Program} {F : List Ct} {K : List Ct → Prop} {X : Value → List Ct → Prop}
end
end Go.Hx
end

section
/-
 Maps from ints to ints; rows told by a function; the neighbours of elements. Plain Lean over the layer. No condition.
-/
set_option maxRecDepth 100000
namespace Go.Hx
section
variable [Glob]
abbrev yCk (b : Nat) (l : List (Int × Int)) : OV := .mp b (l.map fun x => .int .i64 x.1) (l.map fun x => .p (bI x.2))
def zZm : List (Int × Int) → Int → Option Int
 | [], _ => none
 | x :: l, w => if w = x.1 then some x.2 else zZm l w
def yAL : List (Int × Int) → Int → Int → List (Int × Int)
 | [], u, n => [(u, n)]
 | x :: l, u, n => if u = x.1 then (x.1, n) :: l else x :: yAL l u n
theorem zLe : ∀ (l : List (Int × Int)) (u n w : Int), zZm (yAL l u n) w = if w = u then some n else zZm l w
 | [], u, n, w => by simp [zZm, yAL]
 | x :: l, u, n, w => by
  simp only [yAL]
  by_cases h : u = x.1
  ·rw [if_pos h]
   simp only [zZm]
   by_cases h2 : w = x.1
   ·rw [if_pos h2, if_pos (by rw [h2, h])]
   ·rw [if_neg h2, if_neg (by rw [h]; exact h2), if_neg h2]
  ·rw [if_neg h]
   simp only [zZm]
   rw [zLe l u n w]
   by_cases h2 : w = x.1
   ·rw [if_pos h2, if_neg (by rw [h2]; exact fun e => h e.symm), if_pos h2]
   ·rw [if_neg h2, if_neg h2]
theorem yEF (a b : Int) : zFk (.int .i64 a) (.int .i64 b) = decide (a = b) := by
 simp [zFk, zPK]
theorem zYh (x : Int × Int) (l : List (Int × Int)) (w : Int) : zHM ((x :: l).map fun x => Value.int .i64 x.1) (.int .i64 w) = if w = x.1 then some 0 else (zHM (l.map fun x => Value.int .i64 x.1) (.int .i64 w)).map (· + 1) := by
 unfold zHM
 simp only [List.map_cons, List.findIdx?_cons, yEF]
 by_cases h : w = x.1 <;> simp [h]
theorem zWW : ∀ (l : List (Int × Int)) (w : Int), (zHM (l.map fun x => Value.int .i64 x.1) (.int .i64 w) = none ∧ zZm l w = none) ∨ (∃ i, zHM (l.map fun x => Value.int .i64 x.1) (.int .i64 w) = some i ∧ i < l.length ∧ zZm l w = some (l.getD i default).2)
 | [], w => .inl ⟨rfl, rfl⟩
 | x :: l, w => by
  rw [zYh]
  simp only [zZm]
  by_cases h : w = x.1
  ·right
   exact ⟨0, by simp [h], by simp, by simp [h]⟩
  ·rw [if_neg h, if_neg h]
   rcases zWW l w with ⟨h1, h2⟩ | ⟨i, h1, h2, h3⟩
   ·left; exact ⟨by rw [h1]; rfl, h2⟩
   ·right; exact ⟨i + 1, by rw [h1]; rfl, by simp; omega, by simpa using h3⟩
theorem yAM (b : Nat) : ∀ (l : List (Int × Int)) (u n : Int), zWk b (l.map fun x => Value.int .i64 x.1) (l.map fun x => .p (bI x.2)) (.int .i64 u) (.p (bI n)) = yCk b (yAL l u n)
 | [], u, n => rfl
 | x :: l, u, n => by
  have ih := yAM b l u n
  unfold zWk at ih ⊢
  rw [zYh]
  simp only [yAL]
  by_cases h : u = x.1
  ·rw [if_pos h, if_pos h]
   simp [yCk]
  ·rw [if_neg h, if_neg h]
   rcases zWW l u with ⟨h1, _⟩ | ⟨i, h1, h2, h3⟩
   ·rw [h1] at ih ⊢
    simp only [Option.map_none]
    simp only [yCk, OV.mp.injEq] at ih ⊢
    simp only [List.map_cons, List.cons_append]
    exact ⟨trivial, by rw [ih.2.1], by rw [ih.2.2]⟩
   ·rw [h1] at ih ⊢
    simp only [Option.map_some]
    simp only [yCk, OV.mp.injEq] at ih ⊢
    simp only [List.map_cons, List.set_cons_succ]
    exact ⟨trivial, by rw [ih.2.1], by rw [ih.2.2]⟩
theorem yDb (l : List (Int × Int)) : ∀ q ∈ (l.map fun x => Value.int .i64 x.1), zPO q = 1 := by
 intro q hq
 obtain ⟨x, _, rfl⟩ := List.mem_map.1 hq
 rfl
variable {P : Program} {F : List Ct} {K : List Ct → Prop} {X : Value → List Ct → Prop}
theorem yIp {d : Nat} (h : ∀ b, K (F.set d (.ov (.one (yCk b []))))) : hoW P ⟨none, .mmk d⟩ F K X := h
theorem yGB {x q y r b : Nat} {l : List (Int × Int)} {u n : Int} (hx : F.getD x .un = .mph b) (hr : F.getD r .un = .ov (.one (yCk b l))) (hq : F.getD q .un = .pv (iv u)) (hy : F.getD y .un = .pv (iv n)) (hyr : y ≠ r) (hK : K (F.set r (.ov (.one (yCk b (yAL l u n)))))) : hoW P ⟨none, .mps (.t x) r 1 (.t q) (.t y)⟩ F K X := by
 rw [yH7]
 have hm : zT2 F (.t x) = some b := by unfold zT2; simp only [zAj, hx]
 have hqv : (zAj F (.t q)).pv? = some (iv u) := by simp only [zAj, hq]; rfl
 have hqn : (zAj F (.t q)).need := by simp only [zAj, hq]; trivial
 have hsv : zT1 F (.t y) = (trivial = trivial, some (.p (bI n))) ∨ (zT1 F (.t y)).1 ∧ (zT1 F (.t y)).2 = some (.p (bI n)) := by
  right
  unfold zT1
  simp only [zAj, hy, Ct.pv?, Ct.need]
  exact ⟨trivial, rfl⟩
 have hs2 : (zT1 F (.t y)).1 ∧ (zT1 F (.t y)).2 = some (.p (bI n)) := by
  unfold zT1
  simp only [zAj, hy, Ct.pv?, Ct.need]
  exact ⟨trivial, rfl⟩
 have hcl : clr F F (.t y) = F := by simp only [clr, hy]
 unfold zRy
 rw [hm, hr, hqv]
 refine ⟨rfl, hqn, rfl, yDb l, (fun s h => by cases h; exact hyr), hs2.1, ?_⟩
 rw [hs2.2, hcl]
 change K (F.set r (Ct.ov (OVal.one (zWk b (l.map fun x => Value.int .i64 x.1) (l.map fun x => OV.p (bI x.2)) (.int .i64 u) (.p (bI n))))))
 rw [yAM]
 exact hK
theorem yIq {d x q r b : Nat} {l : List (Int × Int)} {w : Int} {ok : Bool} (hx : F.getD x .un = .mph b) (hr : F.getD r .un = .ov (.one (yCk b l))) (hq : F.getD q .un = .pv (iv w)) (hK : K (F.set d (if ok then .tup [iv ((zZm l w).getD 0), bv (zZm l w).isSome] else .pv (iv ((zZm l w).getD 0))))) : hoW P ⟨none, .mpl d (.t x) r 1 (.t q) (.v (.int .i64 0)) ok⟩ F K X := by
 rw [yH8]
 have hm : zT2 F (.t x) = some b := by unfold zT2; simp only [zAj, hx]
 have hqv : (zAj F (.t q)).pv? = some (iv w) := by simp only [zAj, hq]; rfl
 have hqn : (zAj F (.t q)).need := by simp only [zAj, hq]; trivial
 unfold zRy
 rw [hm, hr, hqv]
 refine ⟨rfl, hqn, rfl, yDb l, ?_⟩
 rcases zWW l w with ⟨h1, h2⟩ | ⟨i, h1, h2, h3⟩
 ·rw [h1]
  simp only [zWl]
  rw [h2] at hK
  exact hK
 ·rw [h1]
  have : (l.map fun x => OV.p (bI x.2)).getD i .hole = .p (bI (l.getD i default).2) := by simp [h2]
  simp only [zWl, this]
  rw [h3] at hK
  exact hK
end
def zEk (L : Nat) (g : Nat → List OV) : List (List OV) := (List.range L).map g
theorem yAN (L : Nat) (g : Nat → List OV) : (zEk L g).length = L := by simp [zEk]
theorem zCJ {L i : Nat} (h : i < L) (g : Nat → List OV) : (zEk L g).getD i [] = g i := by simp [zEk, h]
theorem yAO (L i : Nat) (g : Nat → List OV) (r : List OV) : (zEk L g).set i r = zEk L (fun j => if j = i then r else g j) := by
 refine List.ext_getElem (by simp [zEk]) fun k h1 h2 => ?_
 simp only [zEk, List.getElem_set, List.getElem_map, List.getElem_range]
 by_cases h : i = k
 ·rw [if_pos h, if_pos h.symm]
 ·rw [if_neg h, if_neg (Ne.symm h)]
theorem yAP (L : Nat) (r : List OV) : List.replicate L r = zEk L (fun _ => r) := by
 simp [zEk, List.map_const']
theorem zAT {L : Nat} {g h : Nat → List OV} (e : ∀ j, j < L → g j = h j) : zEk L g = zEk L h :=
 List.map_congr_left fun j hj => e j (List.mem_range.1 hj)
abbrev zJJ (p o a u k : Int) : List OV := [.p (bI p), .p (bI o), .p (bI a), .p (bI u), .p (bI k)]
end Go.Hx
end

section
/-
 Right documents: what is above an element. Plain Lean. No condition.
-/
namespace Go.Hx
variable [Glob]
def C (d : List Nd) (k : Int) : List Int := zBE d d.length k
section
variable {d : List Nd} (hd : zEw d d.length = true)
include hd
theorem yCm {k : Int} (h : k < 0) : C d k = [] := by
 unfold C
 cases d.length <;> simp [zBE, h]
theorem zJK {k : Nat} (hk : k < d.length) : C d k = (k : Int) :: C d (zBf d k) := by
 unfold C
 have hu := zBs hd k hk
 obtain ⟨f, hf⟩ : ∃ f, d.length = f + 1 := ⟨d.length - 1, by omega⟩
 rw [hf]
 have e := zI5 (d := d) f (f + 1) (zBf d k) (fun j hj => (zBs hd j (by omega)).2) (by omega) (by omega)
 rw [← e]
 simp only [zBE, Int.toNat_natCast]
 rw [if_neg (by omega)]
theorem yE5 {k : Int} (hk : k < d.length) {x : Int} (hx : x ∈ C d k) : 0 ≤ x ∧ x ≤ k :=
 zDK d.length k (fun j hj => (zBs hd j (by omega)).2) x hx
theorem yGC {p : Nat → Prop} (h : ∀ k, k < d.length → (∀ j : Nat, zBf d k = (j : Int) → j < k → p j) → p k) : ∀ k, k < d.length → p k := by
 intro k
 induction k using Nat.strongRecOn with
 | ind k ih => intro hk; exact h k hk fun j _ hj => ih j hj (by omega)
theorem zYi {k : Nat} (hk : k < d.length) : zBf d k < 0 ∨ ∃ j : Nat, zBf d k = j ∧ j < k := by
 have := zBs hd k hk
 by_cases h : zBf d k < 0
 ·exact .inl h
 ·exact .inr ⟨(zBf d k).toNat, by omega, by omega⟩
theorem yEG : ∀ k, k < d.length → ∀ {u x : Int}, u ∈ C d k → x ∈ C d u → x ∈ C d k := by
 refine yGC hd fun k hk ih u x hu hx => ?_
 rw [zJK hd hk] at hu ⊢
 rcases List.mem_cons.1 hu with rfl | hu
 ·rw [zJK hd hk] at hx; exact hx
 ·refine List.mem_cons_of_mem _ ?_
  rcases zYi hd hk with h | ⟨j, h, hj⟩
  ·rw [yCm hd h] at hu; cases hu
  ·rw [h] at hu ⊢
   exact ih j h hj hu hx
theorem yIr : ∀ k, k < d.length → ∀ {i : Nat} {x : Int}, (i : Int) ∈ C d k → x ∈ C d k → x < i → x ∈ C d (zBf d i) := by
 refine yGC hd fun k hk ih i x hi hx hlt => ?_
 have hb := yE5 hd (by omega) hi
 rw [zJK hd hk] at hi hx
 rcases List.mem_cons.1 hi with e | hi
 ·have e : i = k := by omega
  subst e
  exact (List.mem_cons.1 hx).resolve_left (by omega)
 ·have hx := (List.mem_cons.1 hx).resolve_left (by omega)
  rcases zYi hd hk with h | ⟨j, h, hj⟩
  ·rw [yCm hd h] at hi; cases hi
  ·rw [h] at hi hx
   exact ih j h hj hi hx hlt
end
end Go.Hx
end

section
/-
 Plainer lists of paths, as plain Lean data: the same lists, the first ones of equals, a list made plainer, how much it weighs. No condition.
-/
namespace Go.Hx
theorem St.tests_mk (t : Bys) (l : List Ts) : (St.mk t l).tests = l := rfl
theorem St.tag_mk (t : Bys) (l : List Ts) : (St.mk t l).tag = t := rfl
mutual
def zDx : Ts → Ts → Bool
 | .mk k n v a b l, t => k == t.kind && (n == t.name) && (v == t.value) && (a == t.na && b == t.nb) && zBk l t.list
def zC3 : List Ts → List Ts → Bool
 | [], [] => true
 | t :: r, t' :: r' => zDx t t' && zC3 r r'
 | _, _ => false
def zMH : St → St → Bool
 | .mk t l, s => (t == s.tag) && zC3 l s.tests
def zC4 : List St → List St → Bool
 | [], [] => true
 | t :: r, t' :: r' => zMH t t' && zC4 r r'
 | _, _ => false
def zCi : Pt → Pt → Bool
 | .mk s l, p => (l == p.links) && zC4 s p.steps
def zBk : List Pt → List Pt → Bool
 | [], [] => true
 | t :: r, t' :: r' => zCi t t' && zBk r r'
 | _, _ => false
end
mutual
theorem zVW : ∀ (t u : Ts), zDx t u = true ↔ t = u
 | .mk k n v a b l, .mk k' n' v' a' b' l' => by
  have h := zB2 l l'
  simp only [zDx, Ts.kind, Ts.name, Ts.value, Ts.na, Ts.nb, Ts.list, Bool.and_eq_true, beq_iff_eq, h, Ts.mk.injEq]
  grind
theorem zMI : ∀ (t u : List Ts), zC3 t u = true ↔ t = u
 | [], [] => by simp [zC3]
 | t :: r, t' :: r' => by
  have h := zVW t t'
  have h2 := zMI r r'
  simp only [zC3, Bool.and_eq_true, h, h2, List.cons.injEq]
 | [], t :: r => by simp [zC3]
 | t :: r, [] => by simp [zC3]
theorem yA9 : ∀ (t u : St), zMH t u = true ↔ t = u
 | .mk t l, .mk t' l' => by
  have h := zMI l l'
  simp only [zMH, St.tag, St.tests, Bool.and_eq_true, beq_iff_eq, h, St.mk.injEq]
theorem zMJ : ∀ (t u : List St), zC4 t u = true ↔ t = u
 | [], [] => by simp [zC4]
 | t :: r, t' :: r' => by
  have h := yA9 t t'
  have h2 := zMJ r r'
  simp only [zC4, Bool.and_eq_true, h, h2, List.cons.injEq]
 | [], t :: r => by simp [zC4]
 | t :: r, [] => by simp [zC4]
theorem zIQ : ∀ (t u : Pt), zCi t u = true ↔ t = u
 | .mk s l, .mk s' l' => by
  have h := zMJ s s'
  simp only [zCi, Pt.steps, Pt.links, Bool.and_eq_true, beq_iff_eq, h, Pt.mk.injEq]
  grind
theorem zB2 : ∀ (t u : List Pt), zBk t u = true ↔ t = u
 | [], [] => by simp [zBk]
 | t :: r, t' :: r' => by
  have h := zIQ t t'
  have h2 := zB2 r r'
  simp only [zBk, Bool.and_eq_true, h, h2, List.cons.injEq]
 | [], t :: r => by simp [zBk]
 | t :: r, [] => by simp [zBk]
end
theorem zYo (t u : Ts) : zDx t u = (t.kind == u.kind && (t.name == u.name) && (t.value == u.value) && (t.na == u.na && t.nb == u.nb) && zBk t.list u.list) := by cases t; simp only [zDx, Ts.kind, Ts.name, Ts.value, Ts.na, Ts.nb, Ts.list]
theorem zTF (t u : St) : zMH t u = ((t.tag == u.tag) && zC3 t.tests u.tests) := by cases t; simp only [zMH, St.tag, St.tests]
theorem zTG (t u : Pt) : zCi t u = ((t.links == u.links) && zC4 t.steps u.steps) := by cases t; simp only [zCi, Pt.steps, Pt.links]
theorem zRj {t u : List Ts} (h : t.length ≠ u.length) : zC3 t u = false := by
 cases hs : zC3 t u with
 | false => rfl
 | true => rw [zMI] at hs; exact (h (by rw [hs])).elim
theorem zRk {t u : List St} (h : t.length ≠ u.length) : zC4 t u = false := by
 cases hs : zC4 t u with
 | false => rfl
 | true => rw [zMJ] at hs; exact (h (by rw [hs])).elim
theorem zRl {t u : List Pt} (h : t.length ≠ u.length) : zBk t u = false := by
 cases hs : zBk t u with
 | false => rfl
 | true => rw [zB2] at hs; exact (h (by rw [hs])).elim
section
variable {α : Type} (eq : α → α → Bool)
def zBD (out : List α) (x : α) : List α := if out.any (fun y => eq x y) then out else out ++ [x]
def zBq (l : List α) : List α := l.foldl (zBD eq) []
theorem zPw (l : List α) (i : Nat) (h : i < l.length) : zBq eq (l.take (i + 1)) = zBD eq (zBq eq (l.take i)) l[i] := by
 unfold zBq
 rw [List.take_succ_eq_append_getElem h, List.foldl_append]; rfl
theorem zZH (out : List α) (x : α) : (zBD eq out x).length ≤ out.length + 1 := by unfold zBD; split <;> simp
theorem zVX : ∀ (l out : List α), (l.foldl (zBD eq) out).length ≤ out.length + l.length
 | [], out => by simp
 | x :: r, out => by
  have h := zVX r (zBD eq out x)
  have h2 := zZH eq out x
  simp only [List.foldl_cons, List.length_cons]
  omega
theorem zDM (l : List α) : (zBq eq l).length ≤ l.length := by
 have h := zVX eq l []
 simpa [zBq] using h
theorem zVY : ∀ (l out : List α) (x : α), x ∈ l.foldl (zBD eq) out → x ∈ out ∨ x ∈ l
 | [], out, x, h => .inl h
 | y :: r, out, x, h => by
  rcases zVY r _ x h with h | h
  ·unfold zBD at h
   split at h
   ·exact .inl h
   ·rcases List.mem_append.1 h with h | h
    ·exact .inl h
    ·simp at h; subst h; exact .inr List.mem_cons_self
  ·exact .inr (List.mem_cons_of_mem _ h)
theorem zEp {l : List α} {x : α} (h : x ∈ zBq eq l) : x ∈ l := by
 rcases zVY eq l [] x h with h | h
 ·cases h
 ·exact h
theorem zVZ (he : ∀ x y, eq x y = true ↔ x = y) (x : α) : ∀ (l out : List α), (l.foldl (zBD eq) out).any (fun y => eq x y) = (out ++ l).any (fun y => eq x y)
 | [], out => by simp
 | y :: r, out => by
  rw [List.foldl_cons, zVZ he x r]
  simp only [List.any_append, List.any_cons]
  unfold zBD
  split
  ·rename_i h
   by_cases hxy : eq x y = true
   ·have := (he x y).1 hxy
    subst this
    simp [h]
   ·simp [hxy]
  ·simp only [List.any_append, List.any_cons, List.any_nil, Bool.or_false, Bool.or_assoc]
theorem zRm (he : ∀ x y, eq x y = true ↔ x = y) (x : α) (l : List α) : (zBq eq l).any (fun y => eq x y) = l.any (fun y => eq x y) := by
 have h := zVZ eq he x l []
 simpa [zBq] using h
end
def zG7 : List Pt → Option St
 | [p] => match p.steps with
  | [x] => some x
  | _ => none
 | _ => none
def zHy (t : Ts) (x : St) : Option Ts := if t.kind = 13 ∧ x.tag = [] then match x.tests with
  | [u] => if u.kind = 13 then some u else none
  | _ => none
 else none
def zDy (o : St) (t : Ts) (r : Nat) : St := match zG7 t.list with
 | none => .mk o.tag (o.tests ++ [t])
 | some x => match zHy t x with
  | some u => .mk o.tag (o.tests ++ [.mk 14 [] [] 0 0 u.list])
  | none => if t.kind = 14 ∧ (x.tag = [] ∨ o.tag = [] ∨ x.tag = o.tag) ∧ o.tests.length + x.tests.length + r ≤ 6 then
    .mk (if o.tag = [] then x.tag else o.tag) (o.tests ++ x.tests)
   else .mk o.tag (o.tests ++ [t])
def zCO : St → List Ts → St
 | o, [] => o
 | o, t :: r => zCO (zDy o t r.length) r
def zLM (s : St) : St := .mk (zCO (.mk s.tag []) s.tests).tag (zBq zDx (zCO (.mk s.tag []) s.tests).tests)
mutual
def zLN : List Pt → List Pt
 | [] => []
 | p :: r => onP p :: zLN r
def onP : Pt → Pt
 | .mk s l => .mk (zPx s) l
def zPx : List St → List St
 | [] => []
 | s :: r => onS s :: zPx r
def onS : St → St
 | .mk t l => zLM (.mk t (zNf l))
def zNf : List Ts → List Ts
 | [] => []
 | t :: r => onT t :: zNf r
def onT : Ts → Ts
 | .mk k n v a b l => .mk k n v a b (zBq zCi (zLN l))
end
def onL (l : List Pt) : List Pt := zBq zCi (zLN l)
theorem zFj : ∀ l, zLN l = l.map onP
 | [] => rfl
 | p :: r => by simp only [zLN, List.map_cons, zFj r]
theorem zHn : ∀ l, zPx l = l.map onS
 | [] => rfl
 | p :: r => by simp only [zPx, List.map_cons, zHn r]
theorem zOk : ∀ l, zNf l = l.map onT
 | [] => rfl
 | p :: r => by simp only [zNf, List.map_cons, zOk r]
theorem yGG (p : Pt) : onP p = .mk (zPx p.steps) p.links := by cases p; rfl
theorem yGH (s : St) : onS s = zLM (.mk s.tag (zNf s.tests)) := by cases s; rfl
theorem yGI (t : Ts) : onT t = .mk t.kind t.name t.value t.na t.nb (onL t.list) := by cases t; rfl
mutual
def zFu : List Pt → Nat
 | [] => 0
 | p :: r => pzP p + zFu r
def pzP : Pt → Nat
 | .mk s _ => zTS s
def zTS : List St → Nat
 | [] => 0
 | s :: r => pzS s + zTS r
def pzS : St → Nat
 | .mk _ l => 1 + zI7 l
def zI7 : List Ts → Nat
 | [] => 0
 | t :: r => pzT t + zI7 r
def pzT : Ts → Nat
 | .mk _ _ _ _ _ l => 1 + zFu l
end
def pzB : Nat → Nat
 | 0 => 0
 | f + 1 => 5 * (5 * (1 + 6 * (1 + pzB f)))
mutual
theorem yEQ : ∀ (l : List Pt) (f : Nat), f ≤ 3 → zUk l (3 - f) = false → zWd l = false → zFu l ≤ l.length * (5 * (1 + 6 * (1 + pzB f)))
 | [], f, _, _, _ => by simp [zFu]
 | p :: r, f, hf, h, g => by
  simp only [zUk, zWd, Bool.or_eq_false_iff] at h g
  have h1 := yI4 p f hf h.1 g.1
  have h2 := yEQ r f hf h.2 g.2
  simp only [zFu, List.length_cons, Nat.add_mul]
  omega
theorem yI4 : ∀ (p : Pt) (f : Nat), f ≤ 3 → tmP p (3 - f) = false → bfP p = false → pzP p ≤ 5 * (1 + 6 * (1 + pzB f))
 | .mk s l, f, hf, h, g => by
  simp only [tmP, bfP, Bool.or_eq_false_iff, Bool.not_eq_false', decide_eq_true_eq, decide_eq_false_iff_not] at h g
  have h1 := yGJ s f hf h.2 g
  have h2 : s.length * (1 + 6 * (1 + pzB f)) ≤ 5 * (1 + 6 * (1 + pzB f)) := Nat.mul_le_mul_right _ (by omega)
  simp only [pzP]
  omega
theorem yGJ : ∀ (l : List St) (f : Nat), f ≤ 3 → zWc l (3 - f) = false → zZR l = false → zTS l ≤ l.length * (1 + 6 * (1 + pzB f))
 | [], f, _, _, _ => by simp [zTS]
 | p :: r, f, hf, h, g => by
  simp only [zWc, zZR, Bool.or_eq_false_iff] at h g
  have h1 := yI5 p f hf h.1 g.1
  have h2 := yGJ r f hf h.2 g.2
  simp only [zTS, List.length_cons, Nat.add_mul, Nat.one_mul]
  omega
theorem yI5 : ∀ (p : St) (f : Nat), f ≤ 3 → tmS p (3 - f) = false → bfS p = false → pzS p ≤ 1 + 6 * (1 + pzB f)
 | .mk t l, f, hf, h, g => by
  simp only [tmS, bfS, Bool.or_eq_false_iff, decide_eq_false_iff_not] at h g
  have h1 := yGK l f hf h.2 g.2
  have h2 : l.length * (1 + pzB f) ≤ 6 * (1 + pzB f) := Nat.mul_le_mul_right _ (by omega)
  simp only [pzS]
  omega
theorem yGK : ∀ (l : List Ts) (f : Nat), f ≤ 3 → zUl l (3 - f) = false → zY0 l = false → zI7 l ≤ l.length * (1 + pzB f)
 | [], f, _, _, _ => by simp [zI7]
 | p :: r, f, hf, h, g => by
  simp only [zUl, zY0, Bool.or_eq_false_iff] at h g
  have h1 := yI6 p f hf h.1 g.1
  have h2 := yGK r f hf h.2 g.2
  simp only [zI7, List.length_cons, Nat.add_mul, Nat.one_mul]
  omega
theorem yI6 : ∀ (p : Ts) (f : Nat), f ≤ 3 → tmT p (3 - f) = false → bfT p = false → pzT p ≤ 1 + pzB f
 | .mk k n v a b l, f, hf, h, g => by
  simp only [tmT, bfT, Bool.or_eq_false_iff] at h g
  simp only [pzT]
  by_cases hk : zFE k = true
  ·rw [hk] at h g
   simp only [Bool.true_and, Bool.or_eq_false_iff, decide_eq_false_iff_not, Bool.not_eq_false', decide_eq_true_eq] at h g
   obtain ⟨f', rfl⟩ : ∃ f', f = f' + 1 := ⟨f - 1, by omega⟩
   rw [show 3 - (f' + 1) + 1 = 3 - f' by omega] at h
   have h1 := yEQ l f' (by omega) h.2 g.2
   have h2 : l.length * (5 * (1 + 6 * (1 + pzB f'))) ≤ 5 * (5 * (1 + 6 * (1 + pzB f'))) := Nat.mul_le_mul_right _ (by omega)
   simp only [pzB]
   omega
  ·have hk2 : zFE k = false := by simpa using hk
   have hl : l.length = 0 := by
    have := g.1.2
    simp only [zYZ, Ts.kind, Ts.list, hk2, Bool.not_false, Bool.true_and, Bool.or_eq_false_iff, decide_eq_false_iff_not] at this
    have h9 := this.2
    rcases Nat.eq_zero_or_pos l.length with h10 | h10
    ·exact h10
    ·exact absurd h10 (of_decide_eq_false h9)
   have : l = [] := List.eq_nil_of_length_eq_zero hl
   subst this
   simp [zFu]
end
theorem yIA (l : List Pt) (h : zA6 l = 0) : zFu l ≤ 10000000 := by
 unfold zA6 at h
 split at h; · cases h
 rename_i h1
 split at h; · cases h
 split at h; · cases h
 rename_i h3
 have h1' : tmL l 1 = false := eq_false_of_ne_true h1
 have h3' : zWd l = false := eq_false_of_ne_true h3
 simp only [tmL, Bool.or_eq_false_iff, Bool.not_eq_false', decide_eq_true_eq] at h1'
 have := yEQ l 2 (by omega) h1'.2 h3'
 have h2 : l.length * (5 * (1 + 6 * (1 + pzB 2))) ≤ 5 * (5 * (1 + 6 * (1 + pzB 2))) := Nat.mul_le_mul_right _ (by omega)
 have h4 : 5 * (5 * (1 + 6 * (1 + pzB 2))) ≤ 10000000 := by decide
 omega
mutual
def zXo : List Pt → Bool
 | [] => true
 | p :: r => shP p && zXo r
def shP : Pt → Bool
 | .mk s l => decide (s.length ≤ 6) && decide (l.length ≤ 6) && zYp s
def zYp : List St → Bool
 | [] => true
 | s :: r => shS s && zYp r
def shS : St → Bool
 | .mk _ l => decide (l.length ≤ 6) && zPy l
def zPy : List Ts → Bool
 | [] => true
 | t :: r => shT t && zPy r
def shT : Ts → Bool
 | .mk _ _ _ _ _ l => decide (l.length ≤ 6) && zXo l
end
def shL (l : List Pt) : Bool := decide (l.length ≤ 6) && zXo l
theorem yGL (p : Pt) : shP p = (decide (p.steps.length ≤ 6) && decide (p.links.length ≤ 6) && zYp p.steps) := by cases p; rfl
theorem yBa (p : St) : shS p = (decide (p.tests.length ≤ 6) && zPy p.tests) := by cases p; rfl
theorem zYq (p : Ts) : shT p = shL p.list := by cases p; rfl
theorem zOl : ∀ l, zXo l = true ↔ ∀ p ∈ l, shP p = true
 | [] => by simp [zXo]
 | p :: r => by simp [zXo, zOl r]
theorem zYr : ∀ l, zYp l = true ↔ ∀ p ∈ l, shS p = true
 | [] => by simp [zYp]
 | p :: r => by simp [zYp, zYr r]
theorem zOm : ∀ l, zPy l = true ↔ ∀ p ∈ l, shT p = true
 | [] => by simp [zPy]
 | p :: r => by simp [zPy, zOm r]
mutual
theorem yER : ∀ (l : List Pt) (d : Nat), zUk l d = false → zWd l = false → zXo l = true
 | [], d, _, _ => rfl
 | p :: r, d, h, g => by
  simp only [zUk, zWd, Bool.or_eq_false_iff] at h g
  simp only [zXo, yI7 p d h.1 g.1, yER r d h.2 g.2, Bool.and_self]
theorem yI7 : ∀ (p : Pt) (d : Nat), tmP p d = false → bfP p = false → shP p = true
 | .mk s l, d, h, g => by
  simp only [tmP, bfP, Bool.or_eq_false_iff, Bool.not_eq_false', decide_eq_true_eq, decide_eq_false_iff_not] at h g
  simp only [shP, yGM s d h.2 g, Bool.and_true, Bool.and_eq_true, decide_eq_true_eq]
  omega
theorem yGM : ∀ (l : List St) (d : Nat), zWc l d = false → zZR l = false → zYp l = true
 | [], d, _, _ => rfl
 | p :: r, d, h, g => by
  simp only [zWc, zZR, Bool.or_eq_false_iff] at h g
  simp only [zYp, yI8 p d h.1 g.1, yGM r d h.2 g.2, Bool.and_self]
theorem yI8 : ∀ (p : St) (d : Nat), tmS p d = false → bfS p = false → shS p = true
 | .mk t l, d, h, g => by
  simp only [tmS, bfS, Bool.or_eq_false_iff, decide_eq_false_iff_not] at h g
  simp only [shS, yGN l d h.2 g.2, Bool.and_true, decide_eq_true_eq]
  omega
theorem yGN : ∀ (l : List Ts) (d : Nat), zUl l d = false → zY0 l = false → zPy l = true
 | [], d, _, _ => rfl
 | p :: r, d, h, g => by
  simp only [zUl, zY0, Bool.or_eq_false_iff] at h g
  simp only [zPy, yI9 p d h.1 g.1, yGN r d h.2 g.2, Bool.and_self]
theorem yI9 : ∀ (p : Ts) (d : Nat), tmT p d = false → bfT p = false → shT p = true
 | .mk k n v a b l, d, h, g => by
  simp only [tmT, bfT, Bool.or_eq_false_iff] at h g
  simp only [shT, Bool.and_eq_true, decide_eq_true_eq]
  by_cases hk : zFE k = true
  ·rw [hk] at h g
   simp only [Bool.true_and, Bool.or_eq_false_iff, decide_eq_false_iff_not, Bool.not_eq_false', decide_eq_true_eq] at h g
   exact ⟨by omega, yER l (d + 1) h.2 g.2⟩
  ·have hk2 : zFE k = false := by simpa using hk
   have hl : l.length = 0 := by
    have := g.1.2
    simp only [zYZ, Ts.kind, Ts.list, hk2, Bool.not_false, Bool.true_and, Bool.or_eq_false_iff, decide_eq_false_iff_not] at this
    have h9 := this.2
    rcases Nat.eq_zero_or_pos l.length with h10 | h10
    ·exact h10
    ·exact absurd h10 (of_decide_eq_false h9)
   have : l = [] := List.eq_nil_of_length_eq_zero hl
   subst this
   simp [zXo]
end
theorem yGO (l : List Pt) (h : zA6 l = 0) : shL l = true := by
 unfold zA6 at h
 split at h; · cases h
 rename_i h1
 split at h; · cases h
 split at h; · cases h
 rename_i h3
 have h1' : tmL l 1 = false := eq_false_of_ne_true h1
 have h3' : zWd l = false := eq_false_of_ne_true h3
 simp only [tmL, Bool.or_eq_false_iff, Bool.not_eq_false', decide_eq_true_eq] at h1'
 simp only [shL, Bool.and_eq_true, decide_eq_true_eq]
 exact ⟨by omega, yER l 1 h1'.2 h3'⟩
theorem zKB {l : List Pt} {x : St} (h : zG7 l = some x) : ∃ lk, l = [.mk [x] lk] := by
 unfold zG7 at h
 split at h
 ·rename_i p
  cases p with
  | mk s lk =>
   simp only [Pt.steps] at h
   split at h
   ·injection h with h; subst h; exact ⟨lk, rfl⟩
   ·cases h
 ·cases h
theorem zPz {t u : Ts} {x : St} (h : zHy t x = some u) : t.kind = 13 ∧ x = .mk [] [u] ∧ u.kind = 13 := by
 unfold zHy at h
 split at h
 ·rename_i hk
  cases x with
  | mk tg l =>
   simp only [St.tests] at h
   split at h
   ·split at h
    ·injection h with h; subst h
     rename_i hu
     have : tg = [] := hk.2
     subst this
     exact ⟨hk.1, rfl, hu⟩
    ·cases h
   ·cases h
 ·cases h
theorem zEP (o : St) (t : Ts) (r : Nat) : zDy o t r = .mk o.tag (o.tests ++ [t]) ∨
  (∃ u lk, t.kind = 13 ∧ t.list = [.mk [.mk [] [u]] lk] ∧ u.kind = 13 ∧ zDy o t r = .mk o.tag (o.tests ++ [.mk 14 [] [] 0 0 u.list])) ∨
  (∃ x lk, t.list = [.mk [x] lk] ∧ o.tests.length + x.tests.length + r ≤ 6 ∧ zDy o t r = .mk (if o.tag = [] then x.tag else o.tag) (o.tests ++ x.tests)) := by
 unfold zDy
 split
 ·exact .inl rfl
 ·rename_i x hx
  obtain ⟨lk, hl⟩ := zKB hx
  split
  ·rename_i u hu
   obtain ⟨h1, rfl, h3⟩ := zPz hu
   exact .inr (.inl ⟨u, lk, h1, hl, h3, rfl⟩)
  ·split
   ·rename_i hc
    exact .inr (.inr ⟨x, lk, hl, hc.2.2, rfl⟩)
   ·exact .inl rfl
theorem zOn : ∀ (l : List Ts) (o : St), o.tests.length + l.length ≤ 6 → zPy o.tests = true → zPy l = true → (zCO o l).tests.length ≤ 6 ∧ zPy (zCO o l).tests = true
 | [], o, h, g, _ => ⟨by simpa [zCO] using h, g⟩
 | t :: r, o, h, g, g2 => by
  simp only [zCO]
  simp only [List.length_cons] at h
  simp only [zPy, Bool.and_eq_true] at g2
  have app : ∀ (a b : List Ts), zPy a = true → zPy b = true → zPy (a ++ b) = true := by
   intro a b ha hb
   rw [zOm] at ha hb ⊢
   intro p hp
   rcases List.mem_append.1 hp with hp | hp
   ·exact ha p hp
   ·exact hb p hp
  have one : ∀ u, shT u = true → zPy [u] = true := by intro u hu; simp [zPy, hu]
  rcases zEP o t r.length with e | ⟨u, lk, h1, h2, h3, e⟩ | ⟨x, lk, h1, h2, e⟩
  ·rw [e]
   exact zOn r _ (by simp only [St.tests_mk, List.length_append, List.length_singleton]; omega) (app _ _ g (one _ g2.1)) g2.2
  ·rw [e]
   have hu : shT u = true := by
    have := g2.1
    rw [zYq, h2] at this
    simp only [shL, zXo, shP, zYp, shS, zPy, Bool.and_true, Bool.and_eq_true] at this
    exact this.2.2.2
   refine zOn r _ (by simp only [St.tests_mk, List.length_append, List.length_singleton]; omega) (app _ _ g (one _ ?_)) g2.2
   rw [zYq] at hu ⊢
   exact hu
  ·rw [e]
   have hx : zPy x.tests = true := by
    have := g2.1
    rw [zYq, h1] at this
    simp only [shL, zXo, shP, zYp, yBa, Bool.and_true, Bool.and_eq_true] at this
    exact this.2.2.2
   exact zOn r _ (by simp only [St.tests_mk, List.length_append]; omega) (app _ _ g hx) g2.2
theorem yCu (s : St) (h : shS s = true) : shS (zLM s) = true := by
 rw [yBa] at h ⊢
 simp only [Bool.and_eq_true, decide_eq_true_eq] at h
 have h1 := zOn s.tests (.mk s.tag []) (by simpa [St.tests_mk] using h.1) rfl h.2
 simp only [zLM, St.tests_mk, Bool.and_eq_true]
 refine ⟨decide_eq_true (Nat.le_trans (zDM _ _) h1.1), ?_⟩
 rw [zOm] at h1 ⊢
 exact fun p hp => h1.2 p (zEp _ hp)
mutual
theorem zXp : ∀ l, zXo l = true → zXo (zLN l) = true
 | [], _ => rfl
 | p :: r, h => by
  simp only [zXo, Bool.and_eq_true] at h
  simp only [zLN, zXo, yGP p h.1, zXp r h.2, Bool.and_self]
theorem yGP : ∀ p, shP p = true → shP (onP p) = true
 | .mk s l, h => by
  simp only [shP, Bool.and_eq_true] at h
  simp only [onP, shP, zXq s h.2, h.1.2, zHn, List.length_map, h.1.1, Bool.and_self]
  simpa [zHn] using zXq s h.2
theorem zXq : ∀ l, zYp l = true → zYp (zPx l) = true
 | [], _ => rfl
 | p :: r, h => by
  simp only [zYp, Bool.and_eq_true] at h
  simp only [zPx, zYp, yGQ p h.1, zXq r h.2, Bool.and_self]
theorem yGQ : ∀ p, shS p = true → shS (onS p) = true
 | .mk t l, h => by
  simp only [onS]
  refine yCu _ ?_
  simp only [shS, Bool.and_eq_true] at h ⊢
  exact ⟨by simpa [zOk] using h.1, yBb l h.2⟩
theorem yBb : ∀ l, zPy l = true → zPy (zNf l) = true
 | [], _ => rfl
 | p :: r, h => by
  simp only [zPy, Bool.and_eq_true] at h
  simp only [zNf, zPy, yGR p h.1, yBb r h.2, Bool.and_self]
theorem yGR : ∀ p, shT p = true → shT (onT p) = true
 | .mk k n v a b l, h => by
  simp only [shT, Bool.and_eq_true, decide_eq_true_eq] at h
  simp only [onT, shT, Bool.and_eq_true, decide_eq_true_eq]
  refine ⟨Nat.le_trans (zDM _ _) (by simpa [zFj] using h.1), ?_⟩
  have h2 := zXp l h.2
  rw [zOl] at h2 ⊢
  exact fun p hp => h2 p (zEp _ hp)
end
theorem yDf (l : List Pt) (h : shL l = true) : shL (onL l) = true := by
 simp only [shL, Bool.and_eq_true, decide_eq_true_eq] at h ⊢
 refine ⟨Nat.le_trans (zDM _ _) (by simpa [zFj] using h.1), ?_⟩
 have h2 := zXp l h.2
 rw [zOl] at h2 ⊢
 exact fun p hp => h2 p (zEp _ hp)
mutual
def zG8 : List Pt → Nat
 | [] => 0
 | p :: r => msP p + zG8 r
def msP : Pt → Nat
 | .mk s _ => 1 + yCv s
def yCv : List St → Nat
 | [] => 0
 | s :: r => msS s + yCv r
def msS : St → Nat
 | .mk _ l => 1 + zKE l
def zKE : List Ts → Nat
 | [] => 0
 | t :: r => msT t + zKE r
def msT : Ts → Nat
 | .mk _ _ _ _ _ l => 1 + zG8 l
end
theorem zYs : ∀ a b, zG8 (a ++ b) = zG8 a + zG8 b
 | [], b => by simp [zG8]
 | p :: r, b => by simp only [List.cons_append, zG8, zYs r b, Nat.add_assoc]
theorem zLO : ∀ a b, zKE (a ++ b) = zKE a + zKE b
 | [], b => by simp [zKE]
 | p :: r, b => by simp only [List.cons_append, zKE, zLO r b, Nat.add_assoc]
theorem yES (p : Pt) : 0 < msP p := by cases p; simp only [msP]; omega
theorem yET (p : Ts) : 0 < msT p := by cases p; simp only [msT]; omega
theorem yEU : ∀ (l out : List Pt), zG8 (l.foldl (zBD zCi) out) ≤ zG8 (out ++ l) ∧ (zG8 (l.foldl (zBD zCi) out) = zG8 (out ++ l) → l.foldl (zBD zCi) out = out ++ l)
 | [], out => by simp
 | x :: r, out => by
  rw [List.foldl_cons]
  obtain ⟨h1, h2⟩ := yEU r (zBD zCi out x)
  unfold zBD at h1 h2 ⊢
  split
  ·rename_i hb
   rw [if_pos hb] at h1 h2
   have := yES x
   rw [zYs] at h1 ⊢
   simp only [zG8]
   constructor
   ·omega
   ·intro h; omega
  ·rename_i hb
   rw [if_neg hb] at h1 h2
   rw [List.append_assoc] at h1 h2
   exact ⟨h1, h2⟩
theorem yGS : ∀ (l out : List Ts), zKE (l.foldl (zBD zDx) out) ≤ zKE (out ++ l) ∧ (zKE (l.foldl (zBD zDx) out) = zKE (out ++ l) → l.foldl (zBD zDx) out = out ++ l)
 | [], out => by simp
 | x :: r, out => by
  rw [List.foldl_cons]
  obtain ⟨h1, h2⟩ := yGS r (zBD zDx out x)
  unfold zBD at h1 h2 ⊢
  split
  ·rename_i hb
   rw [if_pos hb] at h1 h2
   have := yET x
   rw [zLO] at h1 ⊢
   simp only [zKE]
   constructor
   ·omega
   ·intro h; omega
  ·rename_i hb
   rw [if_neg hb] at h1 h2
   rw [List.append_assoc] at h1 h2
   exact ⟨h1, h2⟩
theorem zYt : ∀ (l : List Ts) (o : St), zKE (zCO o l).tests ≤ zKE o.tests + zKE l ∧ (zKE (zCO o l).tests = zKE o.tests + zKE l → zCO o l = .mk o.tag (o.tests ++ l))
 | [], o => by cases o; simp [zCO, zKE, St.tag, St.tests]
 | t :: r, o => by
  simp only [zCO]
  obtain ⟨h1, h2⟩ := zYt r (zDy o t r.length)
  rcases zEP o t r.length with e | ⟨u, lk, h3, h4, h5, e⟩ | ⟨x, lk, h3, h4, e⟩
  ·rw [e] at h1 h2 ⊢
   simp only [St.tests_mk, St.tag_mk, zLO, zKE, List.append_assoc, List.singleton_append, Nat.add_zero, Nat.add_assoc] at h1 h2 ⊢
   exact ⟨h1, h2⟩
  ·rw [e] at h1 h2 ⊢
   have ht : msT t = 4 + zG8 u.list + 0 := by
    cases t with
    | mk k n v a b l =>
     have : l = [.mk [.mk [] [u]] lk] := h4
     subst this
     cases u with
     | mk k' n' v' a' b' l' => simp only [msT, zG8, msP, yCv, msS, zKE, Ts.list]; omega
   simp only [St.tests_mk, St.tag_mk, zLO, zKE, msT] at h1 h2 ⊢
   constructor
   ·omega
   ·intro h; omega
  ·rw [e] at h1 h2 ⊢
   have ht : msT t = 3 + zKE x.tests := by
    cases t with
    | mk k n v a b l =>
     have : l = [.mk [x] lk] := h3
     subst this
     cases x with
     | mk tg l' => simp only [msT, zG8, msP, yCv, msS, St.tests]; omega
   simp only [St.tests_mk, St.tag_mk, zLO, zKE] at h1 h2 ⊢
   constructor
   ·omega
   ·intro h; omega
theorem yCw (s : St) : msS (zLM s) ≤ msS s ∧ (msS (zLM s) = msS s → zLM s = s) := by
 obtain ⟨h1, h2⟩ := zYt s.tests (.mk s.tag [])
 obtain ⟨g1, g2⟩ := yGS (zCO (.mk s.tag []) s.tests).tests []
 simp only [List.nil_append, St.tests_mk, St.tag_mk, zKE, Nat.zero_add] at h1 h2 g1 g2
 cases s with
 | mk tg l =>
  simp only [zLM, zBq, msS, St.tests_mk, St.tag_mk] at h1 h2 g1 g2 ⊢
  refine ⟨by omega, fun h => ?_⟩
  rw [g2 (by omega), h2 (by omega)]
  rfl
mutual
theorem zXr : ∀ l, zG8 (zLN l) ≤ zG8 l ∧ (zG8 (zLN l) = zG8 l → zLN l = l)
 | [] => by simp [zLN]
 | p :: r => by
  have h1 := yGT p
  have h2 := zXr r
  simp only [zLN, zG8]
  refine ⟨by omega, fun h => ?_⟩
  rw [h1.2 (by omega), h2.2 (by omega)]
theorem yGT : ∀ p, msP (onP p) ≤ msP p ∧ (msP (onP p) = msP p → onP p = p)
 | .mk s l => by
  have h1 := yBc s
  simp only [onP, msP]
  refine ⟨by omega, fun h => ?_⟩
  rw [h1.2 (by omega)]
theorem yBc : ∀ l, yCv (zPx l) ≤ yCv l ∧ (yCv (zPx l) = yCv l → zPx l = l)
 | [] => by simp [zPx]
 | p :: r => by
  have h1 := yGU p
  have h2 := yBc r
  simp only [zPx, yCv]
  refine ⟨by omega, fun h => ?_⟩
  rw [h1.2 (by omega), h2.2 (by omega)]
theorem yGU : ∀ p, msS (onS p) ≤ msS p ∧ (msS (onS p) = msS p → onS p = p)
 | .mk t l => by
  have h1 := yBd l
  have h2 := yCw (.mk t (zNf l))
  simp only [onS, msS] at h2 ⊢
  refine ⟨by omega, fun h => ?_⟩
  rw [h2.2 (by omega), h1.2 (by omega)]
theorem yBd : ∀ l, zKE (zNf l) ≤ zKE l ∧ (zKE (zNf l) = zKE l → zNf l = l)
 | [] => by simp [zNf]
 | p :: r => by
  have h1 := yGV p
  have h2 := yBd r
  simp only [zNf, zKE]
  refine ⟨by omega, fun h => ?_⟩
  rw [h1.2 (by omega), h2.2 (by omega)]
theorem yGV : ∀ p, msT (onT p) ≤ msT p ∧ (msT (onT p) = msT p → onT p = p)
 | .mk k n v a b l => by
  have h1 := zXr l
  have h2 := yEU (zLN l) []
  simp only [onT, msT, zBq, List.nil_append] at h2 ⊢
  refine ⟨by omega, fun h => ?_⟩
  rw [h2.2 (by omega), h1.2 (by omega)]
end
theorem yDg (l : List Pt) : zG8 (onL l) ≤ zG8 l ∧ (zG8 (onL l) = zG8 l → onL l = l) := by
 have h1 := zXr l
 have h2 := yEU (zLN l) []
 simp only [onL, zBq, List.nil_append] at h2 ⊢
 refine ⟨by omega, fun h => ?_⟩
 rw [h2.2 (by omega), h1.2 (by omega)]
def plF : Nat → List Pt → List Pt
 | 0, l => onL l
 | n + 1, l => if zBk l (onL l) then onL l else plF n (onL l)
def plL (l : List Pt) : List Pt := plF (zG8 l) l
theorem zTH : ∀ (n : Nat) (l : List Pt), zG8 l ≤ n → plF n l = plL l
 | 0, l, h => by
  have : zG8 l = 0 := by omega
  unfold plL; rw [this]
 | n + 1, l, h => by
  unfold plL
  obtain ⟨h1, h2⟩ := yDg l
  by_cases hs : zBk l (onL l) = true
  ·have e : onL l = l := ((zB2 _ _).1 hs).symm
   cases hm : zG8 l with
   | zero => simp only [plF, hs, if_true]
   | succ k => simp only [plF, hs, if_true]
  ·have hne : zG8 (onL l) ≠ zG8 l := fun hc => hs ((zB2 _ _).2 (h2 hc).symm)
   cases hm : zG8 l with
   | zero => omega
   | succ k =>
    simp only [plF, hs, Bool.false_eq_true, if_false]
    rw [zTH n (onL l) (by omega), zTH k (onL l) (by omega)]
theorem zPA {l : List Pt} (h : zBk l (onL l) = true) : plL l = onL l := by
 unfold plL
 cases zG8 l with
 | zero => rfl
 | succ k => simp only [plF, h, if_true]
theorem zV0 {l : List Pt} (h : zBk l (onL l) = false) : plL l = plL (onL l) ∧ zG8 (onL l) < zG8 l := by
 obtain ⟨h1, h2⟩ := yDg l
 have hne : zG8 (onL l) ≠ zG8 l := fun hc => by rw [(zB2 _ _).2 (h2 hc).symm] at h; cases h
 refine ⟨?_, by omega⟩
 unfold plL
 cases hm : zG8 l with
 | zero => omega
 | succ k =>
  simp only [plF, h, Bool.false_eq_true, if_false]
  exact zTH k _ (by omega)
end Go.Hx
end

section
/-
 A list made plainer: it weighs no more, it stays right, what is as plain as may be stays, and it matches what it matched. Plain Lean. No condition.
-/
set_option maxRecDepth 100000
set_option linter.unusedSimpArgs false
namespace Go.Hx
theorem zYz : ∀ a b, zFu (a ++ b) = zFu a + zFu b
 | [], b => by simp [zFu]
 | p :: r, b => by simp only [List.cons_append, zFu, zYz r b, Nat.add_assoc]
theorem zLP : ∀ a b, zI7 (a ++ b) = zI7 a + zI7 b
 | [], b => by simp [zI7]
 | p :: r, b => by simp only [List.cons_append, zI7, zLP r b, Nat.add_assoc]
theorem yEX : ∀ (l out : List Pt), zFu (l.foldl (zBD zCi) out) ≤ zFu (out ++ l)
 | [], out => by simp
 | x :: r, out => by
  rw [List.foldl_cons]
  have h1 := yEX r (zBD zCi out x)
  unfold zBD at h1 ⊢
  split
  ·rename_i hb
   rw [if_pos hb] at h1
   rw [zYz] at h1 ⊢
   simp only [zFu]
   omega
  ·rename_i hb
   rw [if_neg hb] at h1
   rw [List.append_assoc] at h1
   exact h1
theorem yG4 : ∀ (l out : List Ts), zI7 (l.foldl (zBD zDx) out) ≤ zI7 (out ++ l)
 | [], out => by simp
 | x :: r, out => by
  rw [List.foldl_cons]
  have h1 := yG4 r (zBD zDx out x)
  unfold zBD at h1 ⊢
  split
  ·rename_i hb
   rw [if_pos hb] at h1
   rw [zLP] at h1 ⊢
   simp only [zI7]
   omega
  ·rename_i hb
   rw [if_neg hb] at h1
   rw [List.append_assoc] at h1
   exact h1
theorem zYA : ∀ (l : List Ts) (o : St), zI7 (zCO o l).tests ≤ zI7 o.tests + zI7 l
 | [], o => by simp [zCO, zI7]
 | t :: r, o => by
  simp only [zCO]
  have h1 := zYA r (zDy o t r.length)
  rcases zEP o t r.length with e | ⟨u, lk, h3, h4, h5, e⟩ | ⟨x, lk, h3, h4, e⟩
  ·rw [e] at h1 ⊢
   simp only [St.tests_mk, zLP, zI7] at h1 ⊢
   omega
  ·rw [e] at h1 ⊢
   have ht : pzT t = 3 + zFu u.list := by
    cases t with
    | mk k n v a b l =>
     have : l = [.mk [.mk [] [u]] lk] := h4
     subst this
     cases u with
     | mk k' n' v' a' b' l' => simp only [pzT, zFu, pzP, zTS, pzS, zI7, Ts.list]; omega
   simp only [St.tests_mk, zLP, zI7, pzT] at h1 ⊢
   omega
  ·rw [e] at h1 ⊢
   have ht : pzT t = 2 + zI7 x.tests := by
    cases t with
    | mk k n v a b l =>
     have : l = [.mk [x] lk] := h3
     subst this
     cases x with
     | mk tg l' => simp only [pzT, zFu, pzP, zTS, pzS, St.tests]; omega
   simp only [St.tests_mk, zLP, zI7] at h1 ⊢
   omega
theorem yCG (s : St) : pzS (zLM s) ≤ pzS s := by
 have h1 := zYA s.tests (.mk s.tag [])
 have g1 := yG4 (zCO (.mk s.tag []) s.tests).tests []
 simp only [List.nil_append, St.tests_mk, zI7, Nat.zero_add] at h1 g1
 cases s with
 | mk tg l =>
  simp only [zLM, zBq, pzS, St.tests_mk, St.tag_mk] at h1 g1 ⊢
  omega
mutual
theorem zXz : ∀ l, zFu (zLN l) ≤ zFu l
 | [] => by simp [zLN]
 | p :: r => by
  have h1 := yG5 p
  have h2 := zXz r
  simp only [zLN, zFu]; omega
theorem yG5 : ∀ p, pzP (onP p) ≤ pzP p
 | .mk s l => by
  have h1 := yBk s
  simp only [onP, pzP]; omega
theorem yBk : ∀ l, zTS (zPx l) ≤ zTS l
 | [] => by simp [zPx]
 | p :: r => by
  have h1 := yG6 p
  have h2 := yBk r
  simp only [zPx, zTS]; omega
theorem yG6 : ∀ p, pzS (onS p) ≤ pzS p
 | .mk t l => by
  have h1 := yBl l
  have h2 := yCG (.mk t (zNf l))
  simp only [onS, pzS] at h2 ⊢; omega
theorem yBl : ∀ l, zI7 (zNf l) ≤ zI7 l
 | [] => by simp [zNf]
 | p :: r => by
  have h1 := yG7 p
  have h2 := yBl r
  simp only [zNf, zI7]; omega
theorem yG7 : ∀ p, pzT (onT p) ≤ pzT p
 | .mk k n v a b l => by
  have h1 := zXz l
  have h2 := yEX (zLN l) []
  simp only [onT, pzT, zBq, List.nil_append] at h2 ⊢; omega
end
theorem yG8 (l : List Pt) : zFu (onL l) ≤ zFu l := by
 have h1 := zXz l
 have h2 := yEX (zLN l) []
 simp only [onL, zBq, List.nil_append] at h2 ⊢; omega
theorem zTQ {R : List Pt → List Pt → Prop} (h1 : ∀ l, R l (onL l)) (ht : ∀ a b c, R a b → R b c → R a c) : ∀ (n : Nat) (l : List Pt), zG8 l ≤ n → R l (plL l)
 | n, l, hn => by
  by_cases hs : zBk l (onL l) = true
  ·rw [zPA hs]; exact h1 l
  ·have hs : zBk l (onL l) = false := eq_false_of_ne_true hs
   obtain ⟨e, hlt⟩ := zV0 hs
   rw [e]
   cases n with
   | zero => omega
   | succ n => exact ht _ _ _ (h1 l) (zTQ h1 ht n (onL l) (by omega))
theorem yG9 (l : List Pt) : zFu (plL l) ≤ zFu l := zTQ (R := fun a b => zFu b ≤ zFu a) yG8 (fun _ _ _ h k => Nat.le_trans k h) _ l (Nat.le_refl _)
theorem yBm : ∀ (n : Nat) (l : List Pt), zG8 l ≤ n → onL (plL l) = plL l
 | n, l, hn => by
  by_cases hs : zBk l (onL l) = true
  ·have e := (zB2 _ _).1 hs
   rw [zPA hs, ← e, ← e]
  ·have hs : zBk l (onL l) = false := eq_false_of_ne_true hs
   obtain ⟨e, hlt⟩ := zV0 hs
   rw [e]
   cases n with
   | zero => omega
   | succ n => exact yBm n (onL l) (by omega)
theorem yEY (l : List Pt) : plL (plL l) = plL l := by
 have h := yBm _ l (Nat.le_refl _)
 rw [zPA ((zB2 _ _).2 h.symm), h]
theorem zPF : ∀ {l : List Ts} {d : Nat}, GTs l d ↔ ∀ t ∈ l, GT t d
 | [], d => by simp [GTs, zUl, yB6, zY0, yB7]
 | t :: r, d => by
  have h := zPF (l := r) (d := d)
  constructor
  ·intro g
   simp only [List.mem_cons, forall_eq_or_imp]
   exact ⟨g.cons.1, h.1 g.cons.2⟩
  ·intro g
   simp only [List.mem_cons, forall_eq_or_imp] at g
   have g2 := h.2 g.2
   obtain ⟨a1, a2, a3, a4⟩ := g.1
   obtain ⟨b1, b2, b3, b4⟩ := g2
   simp [GTs, zUl, yB6, zY0, yB7, a1, a2, a3, a4, b1, b2, b3, b4]
theorem yBn : ∀ {l : List St} {d : Nat}, GSs l d ↔ ∀ t ∈ l, GS t d
 | [], d => by simp [GSs, zWc, yC7, zZR, yC8]
 | t :: r, d => by
  have h := yBn (l := r) (d := d)
  constructor
  ·intro g
   simp only [List.mem_cons, forall_eq_or_imp]
   exact ⟨g.cons.1, h.1 g.cons.2⟩
  ·intro g
   simp only [List.mem_cons, forall_eq_or_imp] at g
   have g2 := h.2 g.2
   obtain ⟨a1, a2, a3, a4⟩ := g.1
   obtain ⟨b1, b2, b3, b4⟩ := g2
   simp [GSs, zWc, yC7, zZR, yC8, a1, a2, a3, a4, b1, b2, b3, b4]
theorem zXA : ∀ {l : List Pt} {d : Nat}, GPs l d ↔ ∀ t ∈ l, GP t d
 | [], d => by simp [GPs, zUk, yBv, zWd, yAr]
 | t :: r, d => by
  have h := zXA (l := r) (d := d)
  constructor
  ·intro g
   simp only [List.mem_cons, forall_eq_or_imp]
   exact ⟨g.cons.1, h.1 g.cons.2⟩
  ·intro g
   simp only [List.mem_cons, forall_eq_or_imp] at g
   have g2 := h.2 g.2
   obtain ⟨a1, a2, a3, a4⟩ := g.1
   obtain ⟨b1, b2, b3, b4⟩ := g2
   simp [GPs, zUk, yBv, zWd, yAr, a1, a2, a3, a4, b1, b2, b3, b4]
theorem yHa {tag : Bys} {l : List Ts} {d : Nat} (h1 : l.length ≤ 6) (h2 : tag = [] ∨ zBU tag = true) (h3 : GTs l d) : GS (.mk tag l) d := by
 obtain ⟨a1, a2, a3, a4⟩ := h3
 simp only [GS, tmS, bkS, bfS, bnS, a1, a2, a3, a4, Bool.or_false, decide_eq_false_iff_not]
 refine ⟨by omega, trivial, ?_, trivial⟩
 rcases h2 with rfl | h2
 ·simp
 ·simp [h2]
theorem yIF {s s' : List St} {lk : List Int} {d : Nat} (h : GP (.mk s lk) d) (hl : s'.length = s.length) (h3 : GSs s' d) : GP (.mk s' lk) d := by
 obtain ⟨a1, a2, a3, a4⟩ := h3
 obtain ⟨b1, b2, b3, b4⟩ := h
 simp only [tmP, bkP, bfP, bnP, Bool.or_eq_false_iff] at b1 b2 b3 b4
 simp only [GP, tmP, bkP, bfP, bnP, a1, a2, a3, a4, hl, b1.1.1, b1.1.2, b2.1, Bool.or_false, and_self]
theorem yIG {k : Int} {n v : Bys} {a b : Int} {l l' : List Pt} {d : Nat} (h : GT (.mk k n v a b l) d) (h1 : 13 ≤ k → GL l' (d + 1)) (h2 : k < 13 → l' = l) : GT (.mk k n v a b l') d := by
 by_cases hk : 13 ≤ k
 ·have hp := h.parts
  obtain ⟨g1, g2, g3, g4, g5, g6, g7⟩ := h1 hk
  have hkl : zFE k = true := by unfold zFE; simp; omega
  obtain ⟨b1, b2, b3, b4⟩ := h
  simp only [GT, tmT, bkT, bfT, bnT, yBw, yBx, zYZ, Ts.kind, Ts.name, Ts.value, Ts.na, Ts.nb, Ts.list, hkl, g4, g5, g6, g7, Bool.true_and, Bool.or_false, Bool.not_true, Bool.false_and, Bool.or_eq_false_iff] at b1 b2 b3 b4 ⊢
  refine ⟨?_, b2.1, b3.1, b4.1⟩
  simp; omega
 ·rw [h2 (by omega)]; exact h
mutual
theorem zPG : ∀ (l : List Pt) (d : Nat), zUk l (d + 1) = false → zUk l d = false
 | [], _, _ => rfl
 | p :: r, d, h => by
  simp only [zUk, Bool.or_eq_false_iff] at h ⊢
  exact ⟨yCH p d h.1, zPG r d h.2⟩
theorem yCH : ∀ (p : Pt) (d : Nat), tmP p (d + 1) = false → tmP p d = false
 | .mk s l, d, h => by
  simp only [tmP, Bool.or_eq_false_iff] at h ⊢
  exact ⟨h.1, zV9 s d h.2⟩
theorem zV9 : ∀ (l : List St) (d : Nat), zWc l (d + 1) = false → zWc l d = false
 | [], _, _ => rfl
 | p :: r, d, h => by
  simp only [zWc, Bool.or_eq_false_iff] at h ⊢
  exact ⟨yCI p d h.1, zV9 r d h.2⟩
theorem yCI : ∀ (p : St) (d : Nat), tmS p (d + 1) = false → tmS p d = false
 | .mk t l, d, h => by
  simp only [tmS, Bool.or_eq_false_iff] at h ⊢
  exact ⟨h.1, zPH l d h.2⟩
theorem zPH : ∀ (l : List Ts) (d : Nat), zUl l (d + 1) = false → zUl l d = false
 | [], _, _ => rfl
 | p :: r, d, h => by
  simp only [zUl, Bool.or_eq_false_iff] at h ⊢
  exact ⟨zYB p d h.1, zPH r d h.2⟩
theorem zYB : ∀ (p : Ts) (d : Nat), tmT p (d + 1) = false → tmT p d = false
 | .mk k n v a b l, d, h => by
  simp only [tmT, Bool.and_eq_false_iff, Bool.or_eq_false_iff] at h ⊢
  rcases h with h | ⟨⟨h1, h2⟩, h3⟩
  ·exact .inl h
  ·exact .inr ⟨⟨by simp only [decide_eq_false_iff_not] at h1 ⊢; omega, h2⟩, zPG l (d + 1) h3⟩
end
theorem GT.mono {t : Ts} {d : Nat} (h : GT t (d + 1)) : GT t d := ⟨zYB t d h.1, h.2⟩
theorem GTs.mono {t : List Ts} {d : Nat} (h : GTs t (d + 1)) : GTs t d := ⟨zPH t d h.1, h.2⟩
theorem GPs.mono {t : List Pt} {d : Nat} (h : GPs t (d + 1)) : GPs t d := ⟨zPG t d h.1, h.2⟩
theorem GL.mono {t : List Pt} {d : Nat} (h : GL t (d + 1)) : GL t d := ⟨by have := h.1; omega, h.2.1, h.2.2.1, h.2.2.2.mono⟩
theorem yBo {l : List Pt} (h : GL l 1) : zA6 l = 0 := by
 obtain ⟨_, h1, h2, g1, g2, g3, g4⟩ := h
 unfold zA6 tmL
 rw [g1, g2, g3, g4]
 simp [h1, h2]
theorem yDj {x : St} {lk : List Int} {d : Nat} (h : GL [.mk [x] lk] d) : x.tests.length ≤ 6 ∧ (x.tag = [] ∨ zBU x.tag = true) ∧ GTs x.tests d := by
 have h1 := h.2.2.2.cons.1.parts
 have h2 := h1.2.2.2.2.cons.1
 obtain ⟨tg, l⟩ := x
 exact h2.parts
theorem yHb {t : Ts} {d : Nat} (h : GT t d) {p : Pt} {r : List Pt} (hl : t.list = p :: r) : 13 ≤ t.kind := by
 obtain ⟨k, n, v, a, b, l⟩ := t
 have hp := h.parts
 by_cases hk : 13 ≤ k
 ·exact hk
 ·have := hp.2.2.2.2.2
  rw [if_neg hk] at this
  have hl : l = p :: r := hl
  rw [this] at hl; cases hl
theorem yIH {l : List Pt} {d : Nat} (h : GL l (d + 1)) : GT (.mk 14 [] [] 0 0 l) d := by
 obtain ⟨g0, g1, g2, g3, g4, g5, g6⟩ := h
 have e1 : zFE 14 = true := rfl
 have e2 : zYY 14 = false := rfl
 have e3 : zQZ 14 = false := rfl
 have e4 : yGq 14 = false := rfl
 simp only [GT, tmT, bkT, bfT, bnT, yBw, yBx, zYZ, Ts.kind, Ts.name, Ts.value, Ts.na, Ts.nb, Ts.list, g3, g4, g5, g6, e1, e2, e3, e4]
 refine ⟨?_, by decide, by simp, by decide⟩
 simp; omega
theorem yEZ {o : St} {t : Ts} {r d : Nat} (ho : GTs o.tests d) (hg : o.tag = [] ∨ zBU o.tag = true) (ht : GT t d) : GTs (zDy o t r).tests d ∧ ((zDy o t r).tag = [] ∨ zBU (zDy o t r).tag = true) := by
 have app : ∀ {a b : List Ts}, GTs a d → GTs b d → GTs (a ++ b) d := fun ha hb => by
  rw [zPF] at ha hb ⊢
  intro p hp
  rcases List.mem_append.1 hp with hp | hp
  ·exact ha p hp
  ·exact hb p hp
 have one : ∀ {u : Ts}, GT u d → GTs [u] d := fun hu => by rw [zPF]; intro p hp; rw [List.mem_singleton.1 hp]; exact hu
 rcases zEP o t r with e | ⟨u, lk, h3, h4, h5, e⟩ | ⟨x, lk, h3, h4, e⟩
 ·rw [e]; exact ⟨app ho (one ht), hg⟩
 ·rw [e]
  refine ⟨app ho (one ?_), hg⟩
  have hl := ht.parts'.2 (by omega)
  rw [h4] at hl
  have hu := (yDj hl).2.2.cons.1
  have hul := (hu.parts'.2 (by omega)).mono
  exact yIH hul
 ·rw [e]
  have hl := ht.parts'.2 (yHb ht h3)
  rw [h3] at hl
  obtain ⟨x1, x2, x3⟩ := yDj hl
  refine ⟨app ho x3.mono, ?_⟩
  show (if o.tag = [] then x.tag else o.tag) = [] ∨ zBU (if o.tag = [] then x.tag else o.tag) = true
  split
  ·exact x2
  ·exact hg
theorem yBp {d : Nat} : ∀ (l : List Ts) (o : St), GTs o.tests d → (o.tag = [] ∨ zBU o.tag = true) → GTs l d → GTs (zCO o l).tests d ∧ ((zCO o l).tag = [] ∨ zBU (zCO o l).tag = true)
 | [], o, h, g, _ => ⟨h, g⟩
 | t :: r, o, h, g, g2 => by
  simp only [zCO]
  obtain ⟨h1, h2⟩ := yEZ (r := r.length) h g g2.cons.1
  exact yBp r _ h1 h2 g2.cons.2
theorem zLQ : ∀ (l : List Ts) (o : St), o.tests.length + l.length ≤ 6 → (zCO o l).tests.length ≤ 6
 | [], o, h => by simpa [zCO] using h
 | t :: r, o, h => by
  simp only [zCO]
  simp only [List.length_cons] at h
  rcases zEP o t r.length with e | ⟨u, lk, h1, h2, h3, e⟩ | ⟨x, lk, h1, h2, e⟩
  ·rw [e]; exact zLQ r _ (by simp only [St.tests_mk, List.length_append, List.length_singleton]; omega)
  ·rw [e]; exact zLQ r _ (by simp only [St.tests_mk, List.length_append, List.length_singleton]; omega)
  ·rw [e]; exact zLQ r _ (by simp only [St.tests_mk, List.length_append]; omega)
theorem yE0 {s : St} {d : Nat} (h : GS s d) : GS (zLM s) d := by
 obtain ⟨tg, l⟩ := s
 obtain ⟨h1, h2, h3⟩ := h.parts
 obtain ⟨g1, g2⟩ := yBp (d := d) l (.mk tg []) (by simp [St.tests_mk, GTs, zUl, yB6, zY0, yB7]) h2 h3
 refine yHa (Nat.le_trans (zDM _ _) (zLQ l (.mk tg []) (by simpa [St.tests_mk] using h1))) g2 ?_
 rw [zPF] at g1 ⊢
 exact fun p hp => g1 p (zEp _ hp)
theorem zZM {l : List Pt} (h : 1 ≤ l.length) : 1 ≤ (zBq zCi l).length := by
 cases l with
 | nil => cases h
 | cons x r =>
  have := zRm zCi zIQ x (x :: r)
  cases hf : zBq zCi (x :: r) with
  | nil => rw [hf] at this; simp [(zIQ x x).2 rfl] at this
  | cons y q => simp
theorem zYC {l : List Pt} {d : Nat} (h : GL l d) (hP : GPs (zLN l) d) : GL (onL l) d := by
 obtain ⟨a1, a2, a3, _⟩ := h
 refine ⟨a1, zZM (by simpa [zFj] using a2), Nat.le_trans (zDM _ _) (by simpa [zFj] using a3), ?_⟩
 rw [zXA] at hP ⊢
 exact fun p hp => hP p (zEp _ hp)
mutual
theorem yBq : ∀ (l : List Pt) (d : Nat), GPs l d → GPs (zLN l) d
 | [], _, h => h
 | p :: r, d, h => by
  have h1 := yII p d h.cons.1
  have h2 := yBq r d h.cons.2
  rw [zXA] at h2 ⊢
  intro q hq
  simp only [zLN, List.mem_cons] at hq
  rcases hq with rfl | hq
  ·exact h1
  ·exact h2 q hq
theorem yII : ∀ (p : Pt) (d : Nat), GP p d → GP (onP p) d
 | .mk s l, d, h => yIF h (by simp [zHn]) (yDk s d h.parts.2.2.2.2)
theorem yDk : ∀ (l : List St) (d : Nat), GSs l d → GSs (zPx l) d
 | [], _, h => h
 | p :: r, d, h => by
  have h1 := yIJ p d h.cons.1
  have h2 := yDk r d h.cons.2
  rw [yBn] at h2 ⊢
  intro q hq
  simp only [zPx, List.mem_cons] at hq
  rcases hq with rfl | hq
  ·exact h1
  ·exact h2 q hq
theorem yIJ : ∀ (p : St) (d : Nat), GS p d → GS (onS p) d
 | .mk t l, d, h => by
  obtain ⟨h1, h2, h3⟩ := h.parts
  exact yE0 (yHa (by simpa [zOk] using h1) h2 (yDl l d h3))
theorem yDl : ∀ (l : List Ts) (d : Nat), GTs l d → GTs (zNf l) d
 | [], _, h => h
 | p :: r, d, h => by
  have h1 := yIK p d h.cons.1
  have h2 := yDl r d h.cons.2
  rw [zPF] at h2 ⊢
  intro q hq
  simp only [zNf, List.mem_cons] at hq
  rcases hq with rfl | hq
  ·exact h1
  ·exact h2 q hq
theorem yIK : ∀ (p : Ts) (d : Nat), GT p d → GT (onT p) d
 | .mk k n v a b l, d, h => yIG h (fun hk => by
   have hg := h.parts'.2 hk
   exact zYC hg (yBq l (d + 1) hg.2.2.2)) (fun hk => by
   have := h.parts.2.2.2.2.2
   rw [if_neg (by omega)] at this
   subst this; rfl)
end
theorem yIL {l : List Pt} {d : Nat} (h : GL l d) : GL (onL l) d := zYC h (yBq l d h.2.2.2)
theorem zWa {l : List Pt} (h : zA6 l = 0) : zA6 (onL l) = 0 := yBo (yIL (yGw h))
theorem yBr {l : List Pt} (h : zA6 l = 0) : zA6 (plL l) = 0 := zTQ (R := fun a b => zA6 a = 0 → zA6 b = 0) (fun _ => zWa) (fun _ _ _ h k g => k (h g)) _ l (Nat.le_refl _) h
section
variable [Glob]
theorem zKC {α : Type} {eq : α → α → Bool} (he : ∀ x y, eq x y = true ↔ x = y) (l : List α) (f : α → Bool) : (zBq eq l).any f = l.any f := by
 rw [Bool.eq_iff_iff, List.any_eq_true, List.any_eq_true]
 constructor
 ·rintro ⟨x, hx, h⟩; exact ⟨x, zEp _ hx, h⟩
 ·rintro ⟨x, hx, h⟩
  have h1 := zRm eq he x l
  have h2 : l.any (fun y => eq x y) = true := List.any_eq_true.2 ⟨x, hx, (he x x).2 rfl⟩
  rw [h2] at h1
  obtain ⟨y, hy, h3⟩ := List.any_eq_true.1 h1
  exact ⟨x, by rw [(he x y).1 h3]; exact hy, h⟩
theorem zXB {α : Type} {eq : α → α → Bool} (he : ∀ x y, eq x y = true ↔ x = y) (l : List α) (f : α → Bool) : (zBq eq l).all f = l.all f := by
 have h := zKC he l (fun x => !f x)
 rw [List.all_eq_not_any_not, List.all_eq_not_any_not, h]
theorem yDm (d : List Nd) (x : St) (lk : List Int) : lM d [.mk [x] lk] = sM d x := by
 funext n
 rw [zKX]
 simp only [List.any_cons, List.any_nil, Bool.or_false]
 rw [yCb]; rfl
theorem zZN {o : St} {t : Ts} {r : Nat} : zDy o t r = .mk o.tag (o.tests ++ [t]) ∨
  (∃ u lk, t.kind = 13 ∧ t.list = [.mk [.mk [] [u]] lk] ∧ u.kind = 13 ∧ zDy o t r = .mk o.tag (o.tests ++ [.mk 14 [] [] 0 0 u.list])) ∨
  (∃ x lk, t.kind = 14 ∧ t.list = [.mk [x] lk] ∧ (x.tag = [] ∨ o.tag = [] ∨ x.tag = o.tag) ∧ zDy o t r = .mk (if o.tag = [] then x.tag else o.tag) (o.tests ++ x.tests)) := by
 unfold zDy
 split
 ·exact .inl rfl
 ·rename_i x hx
  obtain ⟨lk, hl⟩ := zKB hx
  split
  ·rename_i u hu
   obtain ⟨h1, rfl, h3⟩ := zPz hu
   exact .inr (.inl ⟨u, lk, h1, hl, h3, rfl⟩)
  ·split
   ·rename_i hc
    exact .inr (.inr ⟨x, lk, hc.1, hl, hc.2.1, rfl⟩)
   ·exact .inl rfl
theorem zWb (d : List Nd) (tg : Bys) (l : List Ts) (n : Nat) : sM d (.mk tg l) n = ((decide (tg = []) || decide (tg = (d.getD n default).tag)) && l.all fun t => tM d t n) := zUp d (.mk tg l) n
theorem yHc (d : List Nd) {t : Ts} (h : t.kind = 13) (n : Nat) : tM d t n = !lM d t.list n := by rw [yAw, h]; rfl
theorem yHd (d : List Nd) {t : Ts} (h : t.kind = 14) (n : Nat) : tM d t n = lM d t.list n := by rw [yAw, h]; rfl
theorem yCJ (d : List Nd) (o : St) (t : Ts) (r n : Nat) : sM d (zDy o t r) n = (sM d o n && tM d t n) := by
 rcases zZN (o := o) (t := t) (r := r) with e | ⟨u, lk, h1, h2, h3, e⟩ | ⟨x, lk, h1, h2, h3, e⟩
 ·rw [e, zWb, zUp]; simp [Bool.and_assoc]
 ·rw [e, zWb, zUp]
  have h4 : tM d t n = tM d (.mk 14 [] [] 0 0 u.list) n := by
   rw [yHc d h1, h2, yDm, zWb, yHd d (show (Ts.mk 14 [] [] 0 0 u.list).kind = 14 from rfl)]
   simp only [List.all_cons, List.all_nil, Bool.and_true, yHc d h3]
   simp [Ts.list]
  rw [h4]; simp [Bool.and_assoc]
 ·rw [e, zWb, zUp, yHd d h1, h2, yDm, zUp]
  rw [List.all_append]
  generalize (x.tests.all fun t => tM d t n) = A
  generalize (o.tests.all fun t => tM d t n) = B
  rcases h3 with h | h | h
  ·rw [h]
   by_cases ho : o.tag = []
   ·simp [ho]
   ·rw [if_neg ho]; simp [Bool.and_assoc]
  ·simp [h, Bool.and_comm, Bool.and_left_comm, Bool.and_assoc]
  ·rw [h]
   have : (if o.tag = [] then o.tag else o.tag) = o.tag := by split <;> rfl
   rw [this]
   generalize (decide (o.tag = []) || decide (o.tag = (d.getD n default).tag)) = C
   cases A <;> cases B <;> cases C <;> rfl
theorem zYD (d : List Nd) (n : Nat) : ∀ (l : List Ts) (o : St), sM d (zCO o l) n = (sM d o n && l.all fun t => tM d t n)
 | [], o => by simp [zCO]
 | t :: r, o => by
  simp only [zCO]
  rw [zYD d n r, yCJ, List.all_cons, Bool.and_assoc]
theorem yCK (d : List Nd) (s : St) (n : Nat) : sM d (zLM s) n = sM d s n := by
 unfold zLM
 rw [zWb, zXB zVW]
 have h := zYD d n s.tests (.mk s.tag [])
 rw [zUp] at h
 rw [h, zWb, zUp]
 simp
mutual
theorem yBs (d : List Nd) : ∀ (l : List Pt) (n : Nat), lM d (zLN l) n = lM d l n
 | [], _ => rfl
 | p :: r, n => by
  have h1 := yIM d p n
  have h2 := yBs d r n
  rw [zKX] at h2 ⊢
  rw [zKX] at h2 ⊢
  simp only [zLN, List.any_cons, h1, h2]
theorem yIM (d : List Nd) : ∀ (p : Pt) (n : Nat), pM d (onP p) n = pM d p n
 | .mk s l, n => by
  have h1 := yDn d s
  rw [yCb, yCb]
  show zDL d ((zPx s).map (sM d)) l ((zPx s).length - 1) n = zDL d (s.map (sM d)) l (s.length - 1) n
  rw [h1, zHn, List.length_map]
theorem yDn (d : List Nd) : ∀ (l : List St), (zPx l).map (sM d) = l.map (sM d)
 | [] => rfl
 | p :: r => by
  have h1 := yIN d p
  have h2 := yDn d r
  simp only [zPx, List.map_cons, h2]
  rw [show sM d (onS p) = sM d p from funext h1]
theorem yIN (d : List Nd) : ∀ (p : St) (n : Nat), sM d (onS p) n = sM d p n
 | .mk t l, n => by
  have h1 := yDo d l n
  simp only [onS]
  rw [yCK, zWb, zWb, h1]
theorem yDo (d : List Nd) : ∀ (l : List Ts) (n : Nat), ((zNf l).all fun t => tM d t n) = l.all fun t => tM d t n
 | [], _ => rfl
 | p :: r, n => by
  have h1 := yIO d p n
  have h2 := yDo d r n
  simp only [zNf, List.all_cons, h1, h2]
theorem yIO (d : List Nd) : ∀ (p : Ts) (n : Nat), tM d (onT p) n = tM d p n
 | .mk k nm v a b l, n => by
  have h1 := yBs d l
  rw [yAw, yAw]
  show zNl d k nm v a b (lM d (zBq zCi (zLN l))) n = zNl d k nm v a b (lM d l) n
  have : lM d (zBq zCi (zLN l)) = lM d l := by
   funext m
   rw [zKX, zKC zIQ, ← zKX, h1]
  rw [this]
end
theorem yHe (d : List Nd) (l : List Pt) : lM d (onL l) = lM d l := by
 funext m
 unfold onL
 rw [zKX, zKC zIQ, ← zKX, yBs]
theorem yIP (d : List Nd) (l : List Pt) : lM d (plL l) = lM d l := zTQ (R := fun a b => lM d b = lM d a) (yHe d) (fun _ _ _ h k => k.trans h) _ l (Nat.le_refl _)
end
end Go.Hx
end
