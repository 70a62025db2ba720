/-
  Walks of functions of the program over an abstract layer, and the laws that they use: each contract says what the function computes, for every input that its conditions let by. No other condition.
-/
import Derived.Test.YtjnagiaooecklabGreatDoorG8
set_option linter.all false
section
/-
 Which elements match: as the document's answer says it. Plain Lean. No condition.
-/
namespace Go.Hx
variable [Glob]
def zCE (l : List (Bys × Bys)) (nm : Bys) : Option Bys := (l.find? fun a => decide (a.1 = nm)).map (·.2)
def zAT (s t : Bys) (i : Int) : Bool := decide (0 ≤ i ∧ i + t.length ≤ s.length) && decide ((s.drop i.toNat).take t.length = t)
def zDN (s t : Bys) (i : Nat) : Bool := zAT s t i && (decide (i = 0) || decide (s.getD (i - 1) 0 = 32)) && (decide (i + t.length = s.length) || decide (s.getD (i + t.length) 0 = 32))
def zQB (s t : Bys) : Bool := !decide (t = []) && t.all (fun c => decide (c ≠ 32)) && (List.range (s.length + 1)).any (zDN s t)
def zCy (k : Int) (s t : Bys) : Bool :=
 if k = 3 then true else if k = 4 then decide (s = t) else if k = 8 then zQB s t else if t = [] then false
 else if k = 5 then zAT s t 0 else if k = 6 then zAT s t ((s.length : Int) - t.length) else (List.range s.length).any fun i => zAT s t i
def zCh (d : List Nd) (n : Nat) : List Int := if n = 0 then [0] else kidsUp d n d.length
where kidsUp (d : List Nd) (n k : Nat) : List Int := ((List.range k).filter fun i => decide (zAZ d i = zAZ d n)).map Int.ofNat
def zAW (l : List Int) (n : Int) : Int := match l.findIdx? (fun x => decide (x = n)) with
 | some i => i
 | none => -1
def zD3 (d : List Nd) (m n : Nat) : Bool := (zA5 d d.length (zAZ d n)).contains (m : Int)
def zDa (d : List Nd) (link : Int) (m n : Nat) : Bool :=
 if link = 1 then zD3 d m n else if link = 2 then decide (zAZ d n = m)
 else if link = 3 then decide (0 ≤ zAW (zCh d n) m) && decide (zAW (zCh d n) m + 1 = zAW (zCh d n) n)
 else decide (0 ≤ zAW (zCh d n) m) && decide (zAW (zCh d n) m < zAW (zCh d n) n)
def yBb (d : List Nd) (n : Nat) : List Nat := (List.range d.length).filter fun i => decide (zAZ d i = n)
def zBN (d : List Nd) (ps : List (Nat → Bool)) (lk : List Int) : Nat → Nat → Bool
 | 0, n => ps.getD 0 (fun _ => false) n
 | k + 1, n => ps.getD (k + 1) (fun _ => false) n && (List.range n).any fun m => zDa d (lk.getD k 0) m n && zBN d ps lk k m
def zWg (a b i : Int) : Bool := if zMX a b = 0 ∧ 1 ≤ i ∧ i ≤ 1073741824 then (if a = 0 ∨ i = b then decide (i = b) else if 0 < a then decide (b < i) && decide ((i - b).tmod a = 0) else decide (i < b) && decide ((b - i).tmod (-a) = 0)) else false
def zEy (d : List Nd) (k : Int) (nm v : Bys) (a b : Int) (lp : Nat → Bool) (n : Nat) : Bool :=
 let x := d.getD n default
 if k = 1 then x.cls.any (fun c => decide (c = nm)) else if k = 2 then decide (x.id = nm)
 else if k ≤ 8 then (match zCE x.att nm with | some s => zCy k s v | none => false)
 else if k = 9 then zWg a b (zAW (zCh d n) n + 1) else if k = 10 then zWg a b ((zCh d n).length - zAW (zCh d n) n)
 else if k = 11 then decide (yBb d n = []) else if k = 12 then decide (n = 0) else if k = 13 then !lp n else if k = 14 then lp n
 else (List.range d.length).any fun m => zD3 d n m && lp m
mutual
def tM (d : List Nd) : Ts → Nat → Bool
 | .mk k nm v a b l => zEy d k nm v a b (lM d l)
def lM (d : List Nd) : List Pt → Nat → Bool
 | [] => fun _ => false
 | p :: r => fun n => pM d p n || lM d r n
def pM (d : List Nd) : Pt → Nat → Bool
 | .mk s lk => zBN d (ssM d s) lk (s.length - 1)
def ssM (d : List Nd) : List St → List (Nat → Bool)
 | [] => []
 | s :: r => sM d s :: ssM d r
def sM (d : List Nd) : St → Nat → Bool
 | .mk t l => fun n => (decide (t = []) || decide (t = (d.getD n default).tag)) && tsM d l n
def tsM (d : List Nd) : List Ts → Nat → Bool
 | [] => fun _ => true
 | t :: r => fun n => tM d t n && tsM d r n
end
theorem yCH (d : List Nd) (n : Nat) : ∀ l : List Pt, lM d l n = l.any fun p => pM d p n
 | [] => by rw [lM]; rfl
 | p :: r => by rw [lM, List.any_cons, ← yCH d n r]
theorem yCI (d : List Nd) (n : Nat) : ∀ l : List Ts, tsM d l n = l.all fun t => tM d t n
 | [] => by rw [tsM]; rfl
 | t :: r => by rw [tsM, List.all_cons, ← yCI d n r]
theorem yCJ (d : List Nd) : ∀ l : List St, ssM d l = l.map (sM d)
 | [] => by rw [ssM]; rfl
 | s :: r => by rw [ssM, yCJ d r]; rfl
theorem yF9 (d : List Nd) (s : St) (n : Nat) : sM d s n = ((decide (s.tag = []) || decide (s.tag = (d.getD n default).tag)) && s.tests.all fun t => tM d t n) := by
 obtain ⟨t, l⟩ := s
 rw [sM]; show (_ && tsM d l n) = _; rw [yCI]; rfl
theorem yHX (d : List Nd) (p : Pt) : pM d p = zBN d (p.steps.map (sM d)) p.links (p.steps.length - 1) := by
 obtain ⟨s, lk⟩ := p
 rw [pM, yCJ]; rfl
theorem yJi (d : List Nd) (t : Ts) : tM d t = zEy d t.kind t.name t.value t.na t.nb (lM d t.list) := by
 obtain ⟨k, nm, v, a, b, l⟩ := t
 rw [tM]; rfl
end Go.Hx
end

section
/-
 Shorter words for printed code; a function's contract out of its code by one computation; the first frame's words. Generic over the program. No condition.
-/
namespace Go.Hx
open Go.RowKit
variable [Glob]
abbrev oV (d : Nat) (v : VOp) : HO := ⟨none, .val d v⟩
abbrev oG (g : Nat) (b : Bool) (d : Nat) (v : VOp) : HO := ⟨some (g, b), .val d v⟩
abbrev oC (d : Nat) (f : FuncId) (l : List (Opd × AM)) : HO := ⟨none, .call (some d) f l⟩
abbrev oD (i : Nat) (l : Bool) (h : HO) : DO := ⟨i, l, h⟩
abbrev oN (l : List HO) : HCode := .reg l false []
abbrev oR (l : List HO) (f : List Nat) : HCode := .reg l false [.forget f]
abbrev oQ (l : List DO) (f : List Nat) : HCode := .drg l [.forget f]
def foB (E : Env) (base : Nat) (av : List AV) : Bool := Nat.ble av.length E.N && Nat.ble (zTw av) 1 && Nat.ble (nIo av) 1 && match ioOf av with | some cs => E.nfix == 1 && E.Γ[0]? == some (base, cs.length) | none => E.nfix == 0
theorem fo {E : Env} {base : Nat} {av : List AV} (h : foB E base av = true) : zV1 E base av := by
 unfold foB at h
 simp only [Bool.and_eq_true] at h
 refine ⟨Nat.le_of_ble_eq_true h.1.1.1, Nat.le_of_ble_eq_true h.1.1.2, Nat.le_of_ble_eq_true h.1.2, ?_⟩
 have h2 := h.2
 split at h2
 ·rename_i cs e
  rw [e]
  simpa using h2
 ·rename_i e
  rw [e]
  simpa using h2
def zBQ (P : Program) (f : FuncId) (h : HCode) (E : Env) (R : List RSrc) : Bool := match P.funcs[f]? with
 | some fn => match fn.body with
  | some c => zC2 P f && (E.ok && E.unaOk) && (E.N == fn.ntmps) && zCN P E c h && zEw P E R fn.results.toList
  | none => false
 | none => false
theorem mkA {P : Program} {f : FuncId} {h : HCode} {E : Env} {R : List RSrc} (hc : zBQ P f h E R = true) {base : Nat} {av : List AV} {r : RV} (hfo : zV1 E base av) (hW : AVs.fits av → hwp P h (yB1 E base av R r) (F0 E base av)) (hov : ∀ x, r.res = .ov x → zTw av = 0 := by intro x h; cases h <;> rfl) : Contract P f av r := by
 unfold zBQ at hc
 split at hc
 ·rename_i fn hf
  split at hc
  ·rename_i c hb
   simp only [Bool.and_eq_true, beq_iff_eq] at hc
   exact zQA (fn := fn) (c := c) hf hb hc.1.1.1.1 (by simp [hc.1.1.1.2]) hc.1.1.2 hc.1.2 hc.2 hfo hW hov
  ·cases hc
 ·cases hc
theorem yIn : (∀ F, zAD [] F = F) ∧ (∀ i r F, zAD (i :: r) F = zAD r (F.set i .una)) ∧ (∀ (a : Ct) l n b, (a :: l).set (n + 1) b = a :: l.set n b) ∧ (∀ (a : Ct) l b, (a :: l).set 0 b = b :: l) ∧
  (∀ (f : AV → Ct), [].map f = []) ∧ (∀ (f : AV → Ct) a l, (a :: l).map f = f a :: l.map f) ∧ (∀ (f : PV → Ct), [].map f = []) ∧ (∀ (f : PV → Ct) a l, (a :: l).map f = f a :: l.map f) ∧
  (∀ x, zAC (.val x) = .pv x) ∧ (∀ e k r, zAC (.own e k r) = .own e k r) ∧ (∀ x, zAC (.io x) = .ptr 0 0) ∧ (∀ F i, zAa F i [] = F) ∧ (∀ F i c l, zAa F i (c :: l) = zAa (F.set i c) (i + 1) l) ∧
  (ioOf [] = none) ∧ (∀ x l, ioOf (.val x :: l) = ioOf l) ∧ (∀ e k r l, ioOf (.own e k r :: l) = ioOf l) ∧ (∀ x l, ioOf (.io x :: l) = some x) ∧
  (([] : List AV).length = 0) ∧ (∀ (a : AV) l, (a :: l).length = l.length + 1) ∧ (∀ a : Ct, List.replicate 0 a = []) ∧ (∀ (a : Ct) n, List.replicate (n + 1) a = a :: List.replicate n a) ∧
  (∀ (a : Ct) l r, a :: l ++ r = a :: (l ++ r)) ∧ (∀ l : List Ct, [] ++ l = l) := by
 refine ⟨fun _ => rfl, fun _ _ _ => rfl, fun _ _ _ _ => rfl, fun _ _ _ => rfl, fun _ => rfl, fun _ _ _ => rfl, fun _ => rfl, fun _ _ _ => rfl, fun _ => rfl, fun _ _ _ => rfl, fun _ => rfl, fun _ _ => rfl, fun _ _ _ _ => rfl, rfl, fun _ _ => rfl, fun _ _ _ _ => rfl, fun _ _ => rfl, rfl, fun _ _ => rfl, fun _ => rfl, fun _ _ => rfl, fun _ _ _ => rfl, fun _ => rfl⟩
end Go.Hx
end

section
/-
 Lists of which the first ones are done and the others are not; small laws on owned trees. No condition.
-/
namespace Go.Hx
open Go.RowKit
section
variable {α β : Type}
variable {f g : α → β} {l : List α} {k : Nat}
end
section
variable [Glob]
variable {P : Program} {F : List Ct} {K : List Ct → Prop} {X : Value → List Ct → Prop}
theorem zKG {g : Nat × Bool} {f : FuncId} {args : List (Opd × AM)} {d : Nat} (hg : zC4 F g = some false) (hk : K (F.set d (.gd false (bv false)))) : hoW P ⟨some g, .call (some d) f args⟩ F K X :=
 zAo hg (fun h => nomatch h) (fun h => nomatch h) hk
end
end Go.Hx
end

section
/-
 Maps from ints to ints; rows told by a function; the neighbours of elements. Plain Lean over the layer. No condition.
-/
set_option maxRecDepth 100000
namespace Go.Hx
section
variable [Glob]
abbrev yEo (b : Nat) (l : List (Int × Int)) : OV := .mp b (l.map fun x => .int .i64 x.1) (l.map fun x => .p (bI x.2))
def yBM : List (Int × Int) → Int → Option Int
 | [], _ => none
 | x :: l, w => if w = x.1 then some x.2 else yBM l w
def yC8 : List (Int × Int) → Int → Int → List (Int × Int)
 | [], u, n => [(u, n)]
 | x :: l, u, n => if u = x.1 then (x.1, n) :: l else x :: yC8 l u n
theorem zKH : ∀ (l : List (Int × Int)) (u n w : Int), yBM (yC8 l u n) w = if w = u then some n else yBM l w
 | [], u, n, w => by simp [yBM, yC8]
 | x :: l, u, n, w => by
  simp only [yC8]
  by_cases h : u = x.1
  ·rw [if_pos h]
   simp only [yBM]
   by_cases h2 : w = x.1
   ·rw [if_pos h2, if_pos (by rw [h2, h])]
   ·rw [if_neg h2, if_neg (by rw [h]; exact h2), if_neg h2]
  ·rw [if_neg h]
   simp only [yBM]
   rw [zKH l u n w]
   by_cases h2 : w = x.1
   ·rw [if_pos h2, if_neg (by rw [h2]; exact fun e => h e.symm), if_pos h2]
   ·rw [if_neg h2, if_neg h2]
theorem yGk (a b : Int) : zFg (.int .i64 a) (.int .i64 b) = decide (a = b) := by
 simp [zFg, zQt]
theorem yAJ (x : Int × Int) (l : List (Int × Int)) (w : Int) : zGG ((x :: l).map fun x => Value.int .i64 x.1) (.int .i64 w) = if w = x.1 then some 0 else (zGG (l.map fun x => Value.int .i64 x.1) (.int .i64 w)).map (· + 1) := by
 unfold zGG
 simp only [List.map_cons, List.findIdx?_cons, yGk]
 by_cases h : w = x.1 <;> simp [h]
theorem zZz : ∀ (l : List (Int × Int)) (w : Int), (zGG (l.map fun x => Value.int .i64 x.1) (.int .i64 w) = none ∧ yBM l w = none) ∨ (∃ i, zGG (l.map fun x => Value.int .i64 x.1) (.int .i64 w) = some i ∧ i < l.length ∧ yBM l w = some (l.getD i default).2)
 | [], w => .inl ⟨rfl, rfl⟩
 | x :: l, w => by
  rw [yAJ]
  simp only [yBM]
  by_cases h : w = x.1
  ·right
   exact ⟨0, by simp [h], by simp, by simp [h]⟩
  ·rw [if_neg h, if_neg h]
   rcases zZz l w with ⟨h1, h2⟩ | ⟨i, h1, h2, h3⟩
   ·left; exact ⟨by rw [h1]; rfl, h2⟩
   ·right; exact ⟨i + 1, by rw [h1]; rfl, by simp; omega, by simpa using h3⟩
theorem yC9 (b : Nat) : ∀ (l : List (Int × Int)) (u n : Int), zYA b (l.map fun x => Value.int .i64 x.1) (l.map fun x => .p (bI x.2)) (.int .i64 u) (.p (bI n)) = yEo b (yC8 l u n)
 | [], u, n => rfl
 | x :: l, u, n => by
  have ih := yC9 b l u n
  unfold zYA at ih ⊢
  rw [yAJ]
  simp only [yC8]
  by_cases h : u = x.1
  ·rw [if_pos h, if_pos h]
   simp [yEo]
  ·rw [if_neg h, if_neg h]
   rcases zZz l u with ⟨h1, _⟩ | ⟨i, h1, h2, h3⟩
   ·rw [h1] at ih ⊢
    simp only [Option.map_none]
    simp only [yEo, OV.mp.injEq] at ih ⊢
    simp only [List.map_cons, List.cons_append]
    exact ⟨trivial, by rw [ih.2.1], by rw [ih.2.2]⟩
   ·rw [h1] at ih ⊢
    simp only [Option.map_some]
    simp only [yEo, OV.mp.injEq] at ih ⊢
    simp only [List.map_cons, List.set_cons_succ]
    exact ⟨trivial, by rw [ih.2.1], by rw [ih.2.2]⟩
theorem yEZ (l : List (Int × Int)) : ∀ q ∈ (l.map fun x => Value.int .i64 x.1), zQx q = 1 := by
 intro q hq
 obtain ⟨x, _, rfl⟩ := List.mem_map.1 hq
 rfl
variable {P : Program} {F : List Ct} {K : List Ct → Prop} {X : Value → List Ct → Prop}
theorem yJk {d : Nat} (h : ∀ b, K (F.set d (.ov (.one (yEo b []))))) : hoW P ⟨none, .mmk d⟩ F K X := h
theorem yH1 {x q y r b : Nat} {l : List (Int × Int)} {u n : Int} (hx : F.getD x .un = .mph b) (hr : F.getD r .un = .ov (.one (yEo b l))) (hq : F.getD q .un = .pv (iv u)) (hy : F.getD y .un = .pv (iv n)) (hyr : y ≠ r) (hK : K (F.set r (.ov (.one (yEo b (yC8 l u n)))))) : hoW P ⟨none, .mps (.t x) r 1 (.t q) (.t y)⟩ F K X := by
 rw [yI1]
 have hm : zVU F (.t x) = some b := by unfold zVU; simp only [zAp, hx]
 have hqv : (zAp F (.t q)).pv? = some (iv u) := by simp only [zAp, hq]; rfl
 have hqn : (zAp F (.t q)).need := by simp only [zAp, hq]; trivial
 have hsv : zVT F (.t y) = (trivial = trivial, some (.p (bI n))) ∨ (zVT F (.t y)).1 ∧ (zVT F (.t y)).2 = some (.p (bI n)) := by
  right
  unfold zVT
  simp only [zAp, hy, Ct.pv?, Ct.need]
  exact ⟨trivial, rfl⟩
 have hs2 : (zVT F (.t y)).1 ∧ (zVT F (.t y)).2 = some (.p (bI n)) := by
  unfold zVT
  simp only [zAp, hy, Ct.pv?, Ct.need]
  exact ⟨trivial, rfl⟩
 have hcl : clr F F (.t y) = F := by simp only [clr, hy]
 unfold zTd
 rw [hm, hr, hqv]
 refine ⟨rfl, hqn, rfl, yEZ l, (fun s h => by cases h; exact hyr), hs2.1, ?_⟩
 rw [hs2.2, hcl]
 change K (F.set r (Ct.ov (OVal.one (zYA b (l.map fun x => Value.int .i64 x.1) (l.map fun x => OV.p (bI x.2)) (.int .i64 u) (.p (bI n))))))
 rw [yC9]
 exact hK
theorem yJl {d x q r b : Nat} {l : List (Int × Int)} {w : Int} {ok : Bool} (hx : F.getD x .un = .mph b) (hr : F.getD r .un = .ov (.one (yEo b l))) (hq : F.getD q .un = .pv (iv w)) (hK : K (F.set d (if ok then .tup [iv ((yBM l w).getD 0), bv (yBM l w).isSome] else .pv (iv ((yBM l w).getD 0))))) : hoW P ⟨none, .mpl d (.t x) r 1 (.t q) (.v (.int .i64 0)) ok⟩ F K X := by
 rw [yI2]
 have hm : zVU F (.t x) = some b := by unfold zVU; simp only [zAp, hx]
 have hqv : (zAp F (.t q)).pv? = some (iv w) := by simp only [zAp, hq]; rfl
 have hqn : (zAp F (.t q)).need := by simp only [zAp, hq]; trivial
 unfold zTd
 rw [hm, hr, hqv]
 refine ⟨rfl, hqn, rfl, yEZ l, ?_⟩
 rcases zZz l w with ⟨h1, h2⟩ | ⟨i, h1, h2, h3⟩
 ·rw [h1]
  simp only [zYB]
  rw [h2] at hK
  exact hK
 ·rw [h1]
  have : (l.map fun x => OV.p (bI x.2)).getD i .hole = .p (bI (l.getD i default).2) := by simp [h2]
  simp only [zYB, this]
  rw [h3] at hK
  exact hK
end
def zEn (L : Nat) (g : Nat → List OV) : List (List OV) := (List.range L).map g
theorem yDa (L : Nat) (g : Nat → List OV) : (zEn L g).length = L := by simp [zEn]
theorem zCG {L i : Nat} (h : i < L) (g : Nat → List OV) : (zEn L g).getD i [] = g i := by simp [zEn, h]
theorem yDb (L i : Nat) (g : Nat → List OV) (r : List OV) : (zEn L g).set i r = zEn L (fun j => if j = i then r else g j) := by
 refine List.ext_getElem (by simp [zEn]) fun k h1 h2 => ?_
 simp only [zEn, List.getElem_set, List.getElem_map, List.getElem_range]
 by_cases h : i = k
 ·rw [if_pos h, if_pos h.symm]
 ·rw [if_neg h, if_neg (Ne.symm h)]
theorem yDc (L : Nat) (r : List OV) : List.replicate L r = zEn L (fun _ => r) := by
 simp [zEn, List.map_const']
theorem zAY {L : Nat} {g h : Nat → List OV} (e : ∀ j, j < L → g j = h j) : zEn L g = zEn L h :=
 List.map_congr_left fun j hj => e j (List.mem_range.1 hj)
abbrev zII (p o a u k : Int) : List OV := [.p (bI p), .p (bI o), .p (bI a), .p (bI u), .p (bI k)]
end Go.Hx
end

section
/-
 Right documents: what is above an element. Plain Lean. No condition.
-/
namespace Go.Hx
variable [Glob]
def C (d : List Nd) (k : Int) : List Int := zA5 d d.length k
section
variable {d : List Nd} (hd : zCg d d.length = true)
include hd
theorem yEr {k : Int} (h : k < 0) : C d k = [] := by
 unfold C
 cases d.length <;> simp [zA5, h]
theorem zIJ {k : Nat} (hk : k < d.length) : C d k = (k : Int) :: C d (zAZ d k) := by
 unfold C
 have hu := zA6 hd k hk
 obtain ⟨f, hf⟩ : ∃ f, d.length = f + 1 := ⟨d.length - 1, by omega⟩
 rw [hf]
 have e := zEo (d := d) f (f + 1) (zAZ d k) (fun j hj => (zA6 hd j (by omega)).2) (by omega) (by omega)
 rw [← e]
 simp only [zA5, Int.toNat_natCast]
 rw [if_neg (by omega)]
theorem yGw {k : Int} (hk : k < d.length) {x : Int} (hx : x ∈ C d k) : 0 ≤ x ∧ x ≤ k :=
 zDz d.length k (fun j hj => (zA6 hd j (by omega)).2) x hx
theorem yH2 {p : Nat → Prop} (h : ∀ k, k < d.length → (∀ j : Nat, zAZ d k = (j : Int) → j < k → p j) → p k) : ∀ k, k < d.length → p k := by
 intro k
 induction k using Nat.strongRecOn with
 | ind k ih => intro hk; exact h k hk fun j _ hj => ih j hj (by omega)
theorem yAK {k : Nat} (hk : k < d.length) : zAZ d k < 0 ∨ ∃ j : Nat, zAZ d k = j ∧ j < k := by
 have := zA6 hd k hk
 by_cases h : zAZ d k < 0
 ·exact .inl h
 ·exact .inr ⟨(zAZ d k).toNat, by omega, by omega⟩
theorem yGl : ∀ k, k < d.length → ∀ {u x : Int}, u ∈ C d k → x ∈ C d u → x ∈ C d k := by
 refine yH2 hd fun k hk ih u x hu hx => ?_
 rw [zIJ hd hk] at hu ⊢
 rcases List.mem_cons.1 hu with rfl | hu
 ·rw [zIJ hd hk] at hx; exact hx
 ·refine List.mem_cons_of_mem _ ?_
  rcases yAK hd hk with h | ⟨j, h, hj⟩
  ·rw [yEr hd h] at hu; cases hu
  ·rw [h] at hu ⊢
   exact ih j h hj hu hx
theorem yJm : ∀ k, k < d.length → ∀ {i : Nat} {x : Int}, (i : Int) ∈ C d k → x ∈ C d k → x < i → x ∈ C d (zAZ d i) := by
 refine yH2 hd fun k hk ih i x hi hx hlt => ?_
 have hb := yGw hd (by omega) hi
 rw [zIJ hd hk] at hi hx
 rcases List.mem_cons.1 hi with e | hi
 ·have e : i = k := by omega
  subst e
  exact (List.mem_cons.1 hx).resolve_left (by omega)
 ·have hx := (List.mem_cons.1 hx).resolve_left (by omega)
  rcases yAK hd hk with h | ⟨j, h, hj⟩
  ·rw [yEr hd h] at hi; cases hi
  ·rw [h] at hi hx
   exact ih j h hj hi hx hlt
end
end Go.Hx
end
