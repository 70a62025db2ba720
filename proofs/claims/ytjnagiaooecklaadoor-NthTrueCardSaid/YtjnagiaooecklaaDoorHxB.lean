/-
  THE ABSTRACT LAYER, SECOND TEXT: what a slot or a cell may hold, what a frame says of the machine's frame and memory, contracts of functions. Generic over the program. No condition.
-/
import Derived.Test.YtjnagiaooecklaaDoorHxV
set_option linter.all false
namespace Go.Hx
open Go.RowKit

/-- A value: of one cell, or several cells (a struct, an array). -/
inductive PVal where
  | one (x : PV)
  | agg (cs : List PV)
  deriving Inhabited

def RpV (m : Mem) : PVal → Value → Prop
  | .one x, u => Rp m x u
  | .agg cs, u => ∃ us : List Value, u = .agg us.toArray ∧ RpL m cs us

theorem RpV.mono {m m' : Mem} (h : m.le m') {x : PVal} {u : Value} (g : RpV m x u) : RpV m' x u := by
  cases x with
  | one x => exact Rp.mono h x u g
  | agg cs => obtain ⟨us, e, hr⟩ := g; exact ⟨us, e, RpL.mono h cs us hr⟩

def RpVL (m : Mem) : List PVal → List Value → Prop
  | [], us => us = []
  | x :: xs, us => ∃ u us', us = u :: us' ∧ RpV m x u ∧ RpVL m xs us'

theorem RpVL.mono {m m' : Mem} (h : m.le m') : ∀ {xs : List PVal} {us : List Value}, RpVL m xs us → RpVL m' xs us
  | [], _, g => g
  | x :: xs, _, g => by
    obtain ⟨u, us', h1, h2, h3⟩ := g
    exact ⟨u, us', h1, h2.mono h, RpVL.mono h h3⟩
theorem RpVL.get {m : Mem} : ∀ {xs : List PVal} {us : List Value}, RpVL m xs us → ∀ (i : Nat) (x : PVal), xs[i]? = some x → ∃ u, us[i]? = some u ∧ RpV m x u
  | [], us, h, i, x, hx => by simp at hx
  | y :: ys, us, h, i, x, hx => by
    obtain ⟨u, us', rfl, h2, h3⟩ := h
    cases i with
    | zero => simp at hx; subst hx; exact ⟨u, rfl, h2⟩
    | succ i => simpa using RpVL.get h3 i x (by simpa using hx)

/-- An owned tree: of one cell, or several. -/
inductive OVal where
  | one (x : OV)
  | agg (cs : List OV)
  deriving Inhabited

/-- What a slot or a box's cell holds, as far as is known. gd T c: c, where T holds. -/
inductive Ct where
  | un
  | pv (x : PVal)
  | own (e k : Nat) (rows : List (List PV))
  | ptr (j off : Nat)
  | tup (xs : List PVal)
  | gd (t : Bool) (x : PVal)
  | stk (e k : Nat) (rows : List (List PV))
  | hdr (n : Nat)
  | ov (x : OVal)
  | hdp (b k n : Nat)
  | epp (b k i f : Nat)
  | una
  deriving Inhabited

inductive Tag where
  | key (i : Nat)
  | box (j : Nat)
  deriving DecidableEq

abbrev Ow := Nat → Option Tag
abbrev Bx := Nat → Option Nat

/-- A slice that may be appended to: its rows are frozen, what lies behind them is free, its block is this owner's. -/
def OwnRep (m : Mem) (w : World) (ow : Ow) (t : Tag) (e k : Nat) (rows : List (List PV)) (u : Value) : Prop :=
  (∃ xs, w.ownsRow 0 e k u rows.length xs) ∧ ∀ g, u.ownBlock = some g → ow g = some t ∧ RpRows m g k 0 rows ∧ ∀ o, rows.length * k ≤ o → m g o = none

/-- A slice whose block is this owner's, of which no cell is frozen. -/
def StkRep (m : Mem) (w : World) (ow : Ow) (t : Tag) (e k : Nat) (rows : List (List PV)) (u : Value) : Prop :=
  (∃ xs, w.ownsRow 0 e k u rows.length xs ∧ RpL m rows.flatten xs) ∧ (∀ r ∈ rows, r.length = k) ∧ ∀ g, u.ownBlock = some g → ow g = some t ∧ ∀ o, m g o = none

def OvV (m : Mem) (w : World) : OVal → Value → List Nat → Prop
  | .one x, u, fp => OvR m w x u fp
  | .agg cs, u, fp => ∃ us : List Value, u = .agg us.toArray ∧ OvL m w cs us fp

/-- An owned tree, its blocks this owner's, no cell of it frozen. -/
def OvOk (m : Mem) (w : World) (ow : Ow) (t : Tag) (x : OVal) (u : Value) : Prop := ∃ fp, OvV m w x u fp ∧ fp.Nodup ∧ ∀ g ∈ fp, ow g = some t ∧ ∀ o, m g o = none

theorem OvV.congr {m m' : Mem} {w w' : World} (hm : m.le m') {x : OVal} {u : Value} {fp : List Nat} (hw : ∀ g ∈ fp, w'.heap[g]? = w.heap[g]?) (h : OvV m w x u fp) : OvV m' w' x u fp := by
  cases x with
  | one x => exact OvR.congr hm x u fp hw h
  | agg cs => obtain ⟨us, h1, h2⟩ := h; exact ⟨us, h1, OvL.congr hm cs us fp hw h2⟩

def HdrRep (n : Nat) (u : Value) : Prop := ∃ A c, u = .slice A n c ∧ n ≤ c ∧ c ≤ maxLen

def CtRep (m : Mem) (w : World) (β : Bx) (ow : Ow) (i : Nat) : Ct → Value → Prop
  | .un, _ => True
  | .pv x, u => RpV m x u
  | .own e k rows, u => OwnRep m w ow (.key i) e k rows u
  | .ptr j off, u => ∃ b, β j = some b ∧ u = .pointer (some ⟨b, off, none⟩)
  | .tup xs, u => ∃ us : List Value, u = .tuple us.toArray ∧ RpVL m xs us
  | .gd t x, u => (t = true → RpV m x u) ∧ (t = false → u = undef)
  | .stk e k rows, u => StkRep m w ow (.key i) e k rows u
  | .hdr n, u => HdrRep n u
  | .ov x, u => OvOk m w ow (.key i) x u
  | .hdp b _ n, u => HdrRep n u ∧ (n ≠ 0 → ∃ c, u = .slice (some ⟨b, 0, none⟩) n c)
  | .epp b k r f, u => u = .pointer (some ⟨b, r * k + f, none⟩)
  | .una, _ => True

def CellRep (m : Mem) (w : World) (ow : Ow) (i : Nat) : Ct → Value → Prop
  | .un, _ => True
  | .pv (.one x), u => Rp m x u
  | .own e k rows, u => OwnRep m w ow (.key i) e k rows u
  | .ov (.one x), u => OvOk m w ow (.key i) (.one x) u
  | _, _ => False

/-- Of a cell whose box is not there yet nothing is known, or just that: una. -/
def unC (c : Ct) : Prop := c = .un ∨ c = .una
def BoxRep (m : Mem) (w : World) (ow : Ow) (F : List Ct) (j : Nat) (bn : Nat × Nat) : Option Nat → Prop
  | none => ∀ o, o < bn.2 → unC (F.getD (bn.1 + o) .un)
  | some b => ow b = some (.box j) ∧ (∀ o, m b o = none) ∧ ∃ cs T, w.heap[b]? = some (.cells cs T (0, 0)) ∧ cs.size = bn.2 ∧ ∀ o, o < bn.2 → CellRep m w ow (bn.1 + o) (F.getD (bn.1 + o) .un) (cs.getD o undef)

/-- Outside the blocks of R all that was there is as it was. -/
structure Pres (R : Nat → Prop) (w w' : World) : Prop where
  os : w'.os = w.os
  tape : w'.tape = w.tape
  output : w'.output = w.output
  size : w.heap.size ≤ w'.heap.size
  block : ∀ b, b < w.heap.size → ¬ R b → w'.heap[b]? = w.heap[b]?

theorem Pres.refl (R : Nat → Prop) (w : World) : Pres R w w := ⟨rfl, rfl, rfl, Nat.le_refl _, fun _ _ _ => rfl⟩
theorem Pres.trans {R : Nat → Prop} {a b c : World} (h : Pres R a b) (k : Pres (fun x => R x ∨ a.heap.size ≤ x) b c) : Pres R a c :=
  ⟨k.os.trans h.os, k.tape.trans h.tape, k.output.trans h.output, Nat.le_trans h.size k.size, fun x hx hr => (k.block x (Nat.lt_of_lt_of_le hx h.size) (by rintro (g | g); exact hr g; omega)).trans (h.block x hx hr)⟩
theorem Pres.mono {R R' : Nat → Prop} {w w' : World} (h : Pres R w w') (hr : ∀ b, b < w.heap.size → R b → R' b) : Pres R' w w' :=
  ⟨h.os, h.tape, h.output, h.size, fun b hb hn => h.block b hb fun g => hn (hr b hb g)⟩
theorem Pres.alloc (R : Nat → Prop) (w : World) (o : Obj) : Pres R w (w.alloc o) :=
  ⟨rfl, rfl, rfl, by simp, fun b hb _ => Below.heap_alloc w o b hb⟩
theorem Pres.drew (R : Nat → Prop) (w : World) : Pres R w w.drew := ⟨rfl, rfl, rfl, Nat.le_refl _, fun _ _ _ => rfl⟩
theorem Pres.below {w w' : World} (h : Pres (fun _ => False) w w') : Below w.heap.size w w' := ⟨h.os, h.tape, h.output, h.size, fun b hb => h.block b hb id⟩
theorem Pres.of_below {w w' : World} (R : Nat → Prop) (h : Below w.heap.size w w') : Pres R w w' := ⟨h.os, h.tape, h.output, h.size, fun b hb _ => h.block b hb⟩

/-- What a function's walk is told of its frame: N slots, the mutable boxes (where their cells lie in the abstract frame, and how many), the abstract frame's length. -/
structure Env where
  N : Nat
  Γ : List (Nat × Nat)
  L : Nat
  nfix : Nat := 0
  una : List Nat := []

/-- What is told of the program's variables, which lie in the heap's first blocks: an instance stands for what a row says of them. -/
class Glob where
  ok : World → Prop
  n : Nat
  size : ∀ w, ok w → n ≤ w.heap.size
  keep : ∀ w w' : World, (∀ b, b < n → w'.heap[b]? = w.heap[b]?) → ok w → ok w'
variable [Glob]

/-- What there was when the call began. -/
structure Start where
  w0 : World
  m0 : Mem
  R0 : Nat → Prop
  b0 : Bx
  g0 : Glob.ok w0
  gR : ∀ b, R0 b → Glob.n ≤ b

structure InvG (E : Env) (S : Start) (m : Mem) (β : Bx) (ow : Ow) (F : List Ct) (a : Act) (w : World) : Prop where
  lenF : F.length = E.L
  lenA : a.tmps.size = E.N
  dfr : a.defers = []
  slots : ∀ i, i < E.N → CtRep m w β ow i (F.getD i .un) (a.tmps.getD i undef)
  boxes : ∀ (j : Nat) (bn : Nat × Nat), E.Γ[j]? = some bn → BoxRep m w ow F j bn (β j)
  mem : MemOk m w
  mle : S.m0.le m
  pres : Pres S.R0 S.w0 w
  own : ∀ b t, ow b = some t → S.w0.heap.size ≤ b ∨ S.R0 b
  lt : ∀ b t, ow b = some t → b < w.heap.size
  new : ∀ b o u, m b o = some u → S.m0 b o = some u ∨ S.w0.heap.size ≤ b ∨ S.R0 b
  fix : ∀ j, j < E.nfix → β j = S.b0 j

theorem InvG.glob {E : Env} {S : Start} {m : Mem} {β : Bx} {ow : Ow} {F : List Ct} {a : Act} {w : World} (h : InvG E S m β ow F a w) : Glob.ok w :=
  Glob.keep _ _ (fun b hb => h.pres.block b (Nat.lt_of_lt_of_le hb (Glob.size _ S.g0)) fun hr => absurd (S.gR b hr) (Nat.not_le_of_lt hb)) S.g0
theorem InvG.gown {E : Env} {S : Start} {m : Mem} {β : Bx} {ow : Ow} {F : List Ct} {a : Act} {w : World} (h : InvG E S m β ow F a w) {b : Nat} {t : Tag} (hb : ow b = some t) : Glob.n ≤ b := by
  rcases h.own b t hb with h1 | h1
  · exact Nat.le_trans (Glob.size _ S.g0) h1
  · exact S.gR b h1

def Inv (E : Env) (S : Start) (F : List Ct) (a : Act) (w : World) : Prop := ∃ m β ow, InvG E S m β ow F a w

/-- The boxes' cells lie behind the slots, apart from each other, inside the frame. -/
structure Env.Wf (E : Env) : Prop where
  le : E.N ≤ E.L
  lo : ∀ (j : Nat) (bn : Nat × Nat), E.Γ[j]? = some bn → E.N ≤ bn.1
  hi : ∀ (j : Nat) (bn : Nat × Nat), E.Γ[j]? = some bn → bn.1 + bn.2 ≤ E.L
  ap : ∀ (i j : Nat) (x y : Nat × Nat), E.Γ[i]? = some x → E.Γ[j]? = some y → i ≠ j → x.1 + x.2 ≤ y.1 ∨ y.1 + y.2 ≤ x.1

/-- Decided by a computation. -/
def Env.ok (E : Env) : Bool :=
  decide (E.N ≤ E.L) && E.Γ.all (fun bn => decide (E.N ≤ bn.1) && decide (bn.1 + bn.2 ≤ E.L)) &&
  (List.range E.Γ.length).all fun i => (List.range E.Γ.length).all fun j =>
    i == j || (match E.Γ[i]?, E.Γ[j]? with | some x, some y => decide (x.1 + x.2 ≤ y.1) || decide (y.1 + y.2 ≤ x.1) | _, _ => true)
/-- The cells that are said to be of boxes that are not there yet. -/
def Env.unaOk (E : Env) : Bool := E.una.all fun i => decide (E.N ≤ i) && (List.range E.nfix).all fun j => match E.Γ[j]? with | some x => decide (i < x.1) || decide (x.1 + x.2 ≤ i) | none => true

theorem Env.wf_of_ok {E : Env} (h : E.ok = true) : E.Wf := by
  simp only [Env.ok, Bool.and_eq_true, List.all_eq_true, decide_eq_true_eq, List.mem_range, Bool.or_eq_true, beq_iff_eq] at h
  obtain ⟨⟨h1, h2⟩, h3⟩ := h
  refine ⟨h1, fun j bn hj => (h2 bn (List.mem_of_getElem? hj)).1, fun j bn hj => (h2 bn (List.mem_of_getElem? hj)).2, fun i j x y hi hj hne => ?_⟩
  have h4 := h3 i (List.getElem?_eq_some_iff.1 hi).1 j (List.getElem?_eq_some_iff.1 hj).1
  rw [hi, hj] at h4
  rcases h4 with h4 | h4
  · exact absurd h4 hne
  · simpa using h4

/-! ### A step that leaves what is owned as it was -/

theorem ownsRow_congr {w w' : World} {base e size : Nat} {u : Value} {n : Nat} {xs : List Value} (h : w.ownsRow base e size u n xs) (hb : ∀ g, u.ownBlock = some g → w'.heap[g]? = w.heap[g]?) : w'.ownsRow base e size u n xs := by
  obtain ⟨h1, h2⟩ := h
  refine ⟨h1, ?_⟩
  rcases h2 with h2 | ⟨g, cap, cur, rfl, hg, hh, r⟩
  · exact .inl h2
  · exact .inr ⟨g, cap, cur, rfl, hg, (hb g rfl).trans hh, r⟩

/-- From (m, w) to (m', w'): nothing that is owned has turned. -/
structure Quiet (S : Start) (ow : Ow) (m m' : Mem) (w w' : World) : Prop where
  le : m.le m'
  mem : MemOk m' w'
  heap : ∀ b t, ow b = some t → w'.heap[b]? = w.heap[b]?
  free : ∀ b t o, ow b = some t → m' b o = m b o
  new : ∀ b o u, m' b o = some u → m b o = some u ∨ S.w0.heap.size ≤ b ∨ S.R0 b
  pres : Pres (fun x => S.R0 x ∨ S.w0.heap.size ≤ x) w w'

theorem OwnRep.quiet {S : Start} {m m' : Mem} {w w' : World} {ow : Ow} {t : Tag} {e k : Nat} {rows : List (List PV)} {u : Value}
    (h : OwnRep m w ow t e k rows u) (q : Quiet S ow m m' w w') : OwnRep m' w' ow t e k rows u := by
  obtain ⟨⟨xs, h1⟩, h2⟩ := h
  refine ⟨⟨xs, ownsRow_congr h1 fun g hg => q.heap g t (h2 g hg).1⟩, fun g hg => ?_⟩
  obtain ⟨h3, h4, h5⟩ := h2 g hg
  exact ⟨h3, RpRows.mono q.le rows g k 0 h4, fun o ho => (q.free g t o h3).trans (h5 o ho)⟩

theorem StkRep.quiet {S : Start} {m m' : Mem} {w w' : World} {ow : Ow} {t : Tag} {e k : Nat} {rows : List (List PV)} {u : Value}
    (h : StkRep m w ow t e k rows u) (q : Quiet S ow m m' w w') : StkRep m' w' ow t e k rows u := by
  obtain ⟨⟨xs, h1, h0⟩, hk, h2⟩ := h
  refine ⟨⟨xs, ownsRow_congr h1 fun g hg => q.heap g t (h2 g hg).1, RpL.mono q.le _ _ h0⟩, hk, fun g hg => ?_⟩
  obtain ⟨h3, h5⟩ := h2 g hg
  exact ⟨h3, fun o => (q.free g t o h3).trans (h5 o)⟩

theorem OvOk.quiet {S : Start} {m m' : Mem} {w w' : World} {ow : Ow} {t : Tag} {x : OVal} {u : Value}
    (h : OvOk m w ow t x u) (q : Quiet S ow m m' w w') : OvOk m' w' ow t x u := by
  obtain ⟨fp, h1, h2, h3⟩ := h
  exact ⟨fp, h1.congr q.le fun g hg => q.heap g t (h3 g hg).1, h2, fun g hg => ⟨(h3 g hg).1, fun o => (q.free g t o (h3 g hg).1).trans ((h3 g hg).2 o)⟩⟩

theorem CtRep.quiet {S : Start} {m m' : Mem} {w w' : World} {β : Bx} {ow : Ow} {i : Nat} {c : Ct} {u : Value}
    (h : CtRep m w β ow i c u) (q : Quiet S ow m m' w w') : CtRep m' w' β ow i c u := by
  cases c with
  | un => trivial
  | pv x => exact RpV.mono q.le h
  | own e k rows => exact OwnRep.quiet h q
  | ptr j off => exact h
  | tup xs => obtain ⟨us, h1, h2⟩ := h; exact ⟨us, h1, h2.mono q.le⟩
  | gd t x => exact ⟨fun ht => RpV.mono q.le (h.1 ht), h.2⟩
  | stk e k rows => exact StkRep.quiet h q
  | hdr n => exact h
  | ov x => exact OvOk.quiet h q
  | hdp b k n => exact h
  | epp b k r f => exact h
  | una => trivial

theorem CellRep.quiet {S : Start} {m m' : Mem} {w w' : World} {ow : Ow} {i : Nat} {c : Ct} {u : Value}
    (h : CellRep m w ow i c u) (q : Quiet S ow m m' w w') : CellRep m' w' ow i c u := by
  cases c with
  | un => trivial
  | pv x => cases x with
    | one x => exact Rp.mono q.le x u h
    | agg cs => exact h.elim
  | own e k rows => exact OwnRep.quiet h q
  | ptr j off => exact h.elim
  | tup xs => exact h.elim
  | gd t x => exact h.elim
  | stk e k rows => exact h.elim
  | hdr n => exact h.elim
  | ov x => cases x with
    | one x => exact OvOk.quiet h q
    | agg cs => exact h.elim
  | hdp b k n => exact h.elim
  | epp b k r f => exact h.elim
  | una => exact h.elim

theorem BoxRep.quiet {S : Start} {m m' : Mem} {w w' : World} {ow : Ow} {F : List Ct} {j : Nat} {bn : Nat × Nat} {b : Option Nat}
    (h : BoxRep m w ow F j bn b) (q : Quiet S ow m m' w w') : BoxRep m' w' ow F j bn b := by
  cases b with
  | none => exact h
  | some b =>
    obtain ⟨h1, h2, cs, T, h3, h4, h5⟩ := h
    exact ⟨h1, fun o => (q.free b _ o h1).trans (h2 o), cs, T, (q.heap b _ h1).trans h3, h4, fun o ho => (h5 o ho).quiet q⟩

theorem InvG.quiet {E : Env} {S : Start} {m m' : Mem} {β : Bx} {ow : Ow} {F : List Ct} {a : Act} {w w' : World}
    (h : InvG E S m β ow F a w) (q : Quiet S ow m m' w w') : InvG E S m' β ow F a w' where
  lenF := h.lenF
  lenA := h.lenA
  dfr := h.dfr
  slots := fun i hi => (h.slots i hi).quiet q
  boxes := fun j bn hj => (h.boxes j bn hj).quiet q
  mem := q.mem
  mle := Mem.le_trans h.mle q.le
  pres := h.pres.trans q.pres
  own := h.own
  lt := fun b t hb => Nat.lt_of_lt_of_le (h.lt b t hb) q.pres.size
  new := fun b o u hu => (q.new b o u hu).elim (fun g => h.new b o u g) .inr
  fix := h.fix

theorem Quiet.refl {S : Start} {ow : Ow} {m : Mem} {w : World} (h : MemOk m w) : Quiet S ow m m w w :=
  ⟨m.le_refl, h, fun _ _ _ => rfl, fun _ _ _ _ => rfl, fun _ _ _ h => .inl h, Pres.refl _ _⟩

/-! ### A slot is written -/

theorem getD_set {α : Type} (l : List α) (d : α) (i j : Nat) (x : α) : (l.set i x).getD j d = if i = j ∧ j < l.length then x else l.getD j d := by
  simp only [List.getD_eq_getElem?_getD, List.getElem?_set]
  by_cases h : i = j
  · subst h
    by_cases h2 : i < l.length
    · simp [h2]
    · simp [h2]
  · simp [h]

theorem getD_setIf (l : Array Value) (i j : Nat) (x : Value) : (l.setIfInBounds i x).getD j undef = if i = j ∧ j < l.size then x else l.getD j undef := by
  simp only [Array.getD_eq_getD_getElem?, Array.getElem?_setIfInBounds]
  by_cases h : i = j
  · subst h
    by_cases h2 : i < l.size
    · simp [h2]
    · simp [h2]
  · simp [h]

theorem CtRep.of_slot_lt {E : Env} {F : List Ct} {base o d : Nat} {c : Ct} (hd : d < E.N) (hb : E.N ≤ base) : (F.set d c).getD (base + o) .un = F.getD (base + o) .un := by
  rw [getD_set, if_neg (by omega)]

theorem BoxRep.slot {E : Env} {m : Mem} {w : World} {ow : Ow} {F : List Ct} {j d : Nat} {c : Ct} {bn : Nat × Nat} {b : Option Nat} (hd : d < E.N) (hb : E.N ≤ bn.1)
    (h : BoxRep m w ow F j bn b) : BoxRep m w ow (F.set d c) j bn b := by
  cases b with
  | none => exact fun o ho => by rw [CtRep.of_slot_lt hd hb]; exact h o ho
  | some b =>
    obtain ⟨h1, h2, cs, T, h3, h4, h5⟩ := h
    exact ⟨h1, h2, cs, T, h3, h4, fun o ho => by rw [CtRep.of_slot_lt hd hb]; exact h5 o ho⟩

theorem InvG.slot {E : Env} (wf : E.Wf) {S : Start} {m : Mem} {β : Bx} {ow : Ow} {F : List Ct} {a : Act} {w : World}
    (h : InvG E S m β ow F a w) {d : Nat} (hd : d < E.N) {c : Ct} {u : Value} (hc : CtRep m w β ow d c u) : InvG E S m β ow (F.set d c) (a.put (some d) u) w where
  lenF := by simp [h.lenF]
  lenA := by simp [Act.put, h.lenA]
  dfr := h.dfr
  slots := fun i hi => by
    have hF : d < F.length := by rw [h.lenF]; exact Nat.lt_of_lt_of_le hd wf.le
    simp only [Act.put]
    rw [getD_set, getD_setIf]
    by_cases hdi : d = i
    · subst hdi
      rw [if_pos ⟨rfl, hF⟩, if_pos ⟨rfl, by rw [h.lenA]; exact hd⟩]
      exact hc
    · rw [if_neg (by omega), if_neg (by omega)]
      exact h.slots i hi
  boxes := fun j bn hj => (h.boxes j bn hj).slot hd (wf.lo j bn hj)
  mem := h.mem
  mle := h.mle
  pres := h.pres
  own := h.own
  lt := h.lt
  new := h.new
  fix := h.fix

/-- What is known of a slot is forgotten. -/
theorem InvG.forget {E : Env} (wf : E.Wf) {S : Start} {m : Mem} {β : Bx} {ow : Ow} {F : List Ct} {a : Act} {w : World}
    (h : InvG E S m β ow F a w) {d : Nat} (hd : d < E.N) {c : Ct} (hc : ∀ u, CtRep m w β ow d (F.getD d .un) u → CtRep m w β ow d c u) : InvG E S m β ow (F.set d c) a w where
  lenF := by simp [h.lenF]
  lenA := h.lenA
  dfr := h.dfr
  slots := fun i hi => by
    rw [getD_set]
    by_cases hdi : d = i
    · subst hdi
      split
      · exact hc _ (h.slots d hd)
      · exact h.slots d hd
    · rw [if_neg (by omega)]
      exact h.slots i hi
  boxes := fun j bn hj => (h.boxes j bn hj).slot hd (wf.lo j bn hj)
  mem := h.mem
  mle := h.mle
  pres := h.pres
  own := h.own
  lt := h.lt
  new := h.new
  fix := h.fix

end Go.Hx
