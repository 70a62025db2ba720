/-
  THE ABSTRACT LAYER, FIFTH TEXT: contracts of functions; the operations that turn the frame; the general step of what a frame says. Generic over the program. No condition.
-/
import Derived.Test.YtjnagiaooecklaaDoorHxD
set_option linter.all false
namespace Go.Hx
open Go.RowKit
variable [Glob]

/-! ### Contracts -/

inductive AV where
  | val (x : PVal)
  | own (e k : Nat) (rows : List (List PV))
  | io (cells : List PV)
  deriving Inhabited

inductive Res where
  | val (x : PVal)
  | own (e k : Nat) (rows : List (List PV))
  | tup (xs : List PVal)
  | pan (v : Value)
  | ov (x : OVal)
  deriving Inhabited

structure RV where
  res : Res
  io : List PV := []

def ptrB : Value → Option Nat
  | .pointer (some a) => some a.block
  | _ => none

/-- The block of the argument that may be appended to; of the argument that points to a box. -/
def ownB : List AV → List Value → Option Nat
  | x :: as, u :: us => match x with | .own _ _ _ => u.ownBlock | _ => ownB as us
  | _, _ => none
def ioB : List AV → List Value → Option Nat
  | x :: as, u :: us => match x with | .io _ => ptrB u | _ => ioB as us
  | _, _ => none
def isRes (as : List AV) (us : List Value) (b : Nat) : Prop := ownB as us = some b ∨ ioB as us = some b

def OwnAt (m : Mem) (w : World) (e k : Nat) (rows : List (List PV)) (u : Value) : Prop :=
  (∃ xs, w.ownsRow 0 e k u rows.length xs) ∧ ∀ g, u.ownBlock = some g → RpRows m g k 0 rows ∧ ∀ o, rows.length * k ≤ o → m g o = none

theorem OwnRep.at_ {m : Mem} {w : World} {ow : Ow} {t : Tag} {e k : Nat} {rows : List (List PV)} {u : Value} (h : OwnRep m w ow t e k rows u) : OwnAt m w e k rows u := ⟨h.1, fun g hg => (h.2 g hg).2⟩
theorem OwnAt.rep {m : Mem} {w : World} {ow : Ow} {t : Tag} {e k : Nat} {rows : List (List PV)} {u : Value} (h : OwnAt m w e k rows u) (ht : ∀ g, u.ownBlock = some g → ow g = some t) : OwnRep m w ow t e k rows u := ⟨h.1, fun g hg => ⟨ht g hg, h.2 g hg⟩⟩

theorem OwnAt.rp {m : Mem} {w : World} {e k : Nat} {rows : List (List PV)} {u : Value} (h : OwnAt m w e k rows u) : Rp m (.sl k rows) u :=
  (h.rep (ow := fun _ => some (.key 0)) (t := .key 0) fun _ _ => rfl).rp

theorem OwnAt.nil (m : Mem) (w : World) (e k : Nat) : OwnAt m w e k [] (.slice none 0 0) := ⟨⟨[], World.ownsRow_nil w 0 e k⟩, fun g hg => by simp [Value.ownBlock] at hg⟩

def ArgRep (m : Mem) (w : World) : AV → Value → Prop
  | .val x, u => RpV m x u
  | .own e k rows, u => OwnAt m w e k rows u
  | .io cells, u => ∃ b cs T, u = .pointer (some ⟨b, 0, none⟩) ∧ w.heap[b]? = some (.cells cs T (0, 0)) ∧ (∀ o, m b o = none) ∧ RpL m cells cs.toList

def ArgsRep (m : Mem) (w : World) : List AV → List Value → Prop
  | [], us => us = []
  | x :: xs, us => ∃ u us', us = u :: us' ∧ ArgRep m w x u ∧ ArgsRep m w xs us'

/-- The box of n cells at block b holds these (if it is said what it holds). -/
def IoRep (m : Mem) (w : World) (b n : Nat) (cells : Option (List PV)) : Prop :=
  (∀ o, m b o = none) ∧ ∃ cs T, w.heap[b]? = some (.cells cs T (0, 0)) ∧ cs.size = n ∧ ∀ l, cells = some l → RpL m l cs.toList

def ResRep (m' : Mem) (w w' : World) (ob : Option Nat) : Res → Ending → Prop
  | .val x, e => ∃ u, e = .returned u ∧ RpV m' x u
  | .own t k rows, e => ∃ u, e = .returned u ∧ OwnAt m' w' t k rows u ∧ ∀ g, u.ownBlock = some g → w.heap.size ≤ g ∨ ob = some g
  | .tup xs, e => ∃ us : List Value, e = .returned (.tuple us.toArray) ∧ RpVL m' xs us
  | .pan v, e => e = .panicked [{ v, recovered := false }]
  | .ov x, e => ∃ u fp, e = .returned u ∧ OvV m' w' x u fp ∧ fp.Nodup ∧ ∀ g ∈ fp, w.heap.size ≤ g ∧ ∀ o, m' g o = none

def Res.ioOf (r : RV) : Option (List PV) := match r.res with | .pan _ => none | _ => some r.io

def ioLen : List AV → Nat
  | x :: as => match x with | .io cells => cells.length | _ => ioLen as
  | [] => 0

def Post (m : Mem) (w : World) (as : List AV) (us : List Value) (r : RV) (e : Ending) (w' : World) : Prop :=
  ∃ m' : Mem, m.le m' ∧ MemOk m' w' ∧ Pres (isRes as us) w w' ∧ (∀ b o u, m' b o = some u → m b o = some u ∨ w.heap.size ≤ b ∨ ownB as us = some b) ∧
    (∀ b, ioB as us = some b → IoRep m' w' b (ioLen as) (Res.ioOf r)) ∧ ResRep m' w w' (ownB as us) r.res e

def callable (P : Program) (f : FuncId) : Bool := match P.funcs[f]? with
  | some fn => fn.body.isSome && !(fn.name == "runtime.NumGoroutine")
  | none => false

/-- THE CONTRACT: called with arguments that read as 'as', function f answers r; nothing else has turned. -/
def Contract (P : Program) (f : FuncId) (as : List AV) (r : RV) : Prop := callable P f = true ∧
  ∀ (m : Mem) (w : World) (us : List Value), MemOk m w → ArgsRep m w as us → (∀ g, ownB as us = some g → ioB as us ≠ some g) → Glob.ok w → (∀ b, isRes as us b → Glob.n ≤ b) → Calls P f us.toArray w (Post m w as us r)

/-! ### The general step -/

/-- What is owned by those outside X stays; its ghost cells too. -/
structure Step (X : Tag → Prop) (m m' : Mem) (w w' : World) (ow ow' : Ow) : Prop where
  le : m.le m'
  keep : ∀ g t, ow g = some t → ¬ X t → w'.heap[g]? = w.heap[g]? ∧ (∀ o, m' g o = m g o) ∧ ow' g = some t

section
variable {X : Tag → Prop} {m m' : Mem} {w w' : World} {ow ow' : Ow} {β : Bx}

theorem OwnRep.step (s : Step X m m' w w' ow ow') {t : Tag} (ht : ¬ X t) {e k : Nat} {rows : List (List PV)} {u : Value} (h : OwnRep m w ow t e k rows u) : OwnRep m' w' ow' t e k rows u := by
  obtain ⟨⟨xs, h1⟩, h2⟩ := h
  refine ⟨⟨xs, ownsRow_congr h1 fun g hg => (s.keep g t (h2 g hg).1 ht).1⟩, fun g hg => ?_⟩
  obtain ⟨h3, h4, h5⟩ := h2 g hg
  obtain ⟨_, h7, h8⟩ := s.keep g t h3 ht
  exact ⟨h8, RpRows.mono s.le rows g k 0 h4, fun o ho => (h7 o).trans (h5 o ho)⟩

theorem StkRep.step (s : Step X m m' w w' ow ow') {t : Tag} (ht : ¬ X t) {e k : Nat} {rows : List (List PV)} {u : Value} (h : StkRep m w ow t e k rows u) : StkRep m' w' ow' t e k rows u := by
  obtain ⟨⟨xs, h1, h0⟩, hk, h2⟩ := h
  refine ⟨⟨xs, ownsRow_congr h1 fun g hg => (s.keep g t (h2 g hg).1 ht).1, RpL.mono s.le _ _ h0⟩, hk, fun g hg => ?_⟩
  obtain ⟨h3, h5⟩ := h2 g hg
  obtain ⟨_, h7, h8⟩ := s.keep g t h3 ht
  exact ⟨h8, fun o => (h7 o).trans (h5 o)⟩

theorem OvOk.step (s : Step X m m' w w' ow ow') {t : Tag} (ht : ¬ X t) {x : OVal} {u : Value} (h : OvOk m w ow t x u) : OvOk m' w' ow' t x u := by
  obtain ⟨fp, h1, h2, h3⟩ := h
  refine ⟨fp, h1.congr s.le fun g hg => (s.keep g t (h3 g hg).1 ht).1, h2, fun g hg => ?_⟩
  obtain ⟨_, h7, h8⟩ := s.keep g t (h3 g hg).1 ht
  exact ⟨h8, fun o => (h7 o).trans ((h3 g hg).2 o)⟩

/-- It holds nothing that is owned. -/
def Ct.plain : Ct → Bool
  | .own _ _ _ | .stk _ _ _ | .ov _ => false
  | _ => true

theorem CtRep.step (s : Step X m m' w w' ow ow') {i : Nat} (ht : ¬ X (.key i)) {c : Ct} {u : Value} (h : CtRep m w β ow i c u) : CtRep m' w' β ow' i c u := by
  cases c with
  | un => trivial
  | pv x => exact RpV.mono s.le h
  | own e k rows => exact OwnRep.step s ht h
  | ptr j off => exact h
  | tup xs => obtain ⟨us, h1, h2⟩ := h; exact ⟨us, h1, h2.mono s.le⟩
  | gd t x => exact ⟨fun ht => RpV.mono s.le (h.1 ht), h.2⟩
  | stk e k rows => exact StkRep.step s ht h
  | hdr n => exact h
  | ov x => exact OvOk.step s ht h
  | hdp b k n => exact h
  | epp b k r f => exact h
  | una => trivial

/-- Where the slot holds nothing that is owned, X does not matter. -/
theorem CtRep.step_plain (s : Step X m m' w w' ow ow') {i : Nat} {c : Ct} (hc : c.plain = true) {u : Value} (h : CtRep m w β ow i c u) : CtRep m' w' β ow' i c u := by
  cases c with
  | un => trivial
  | pv x => exact RpV.mono s.le h
  | own e k rows => cases hc
  | ptr j off => exact h
  | tup xs => obtain ⟨us, h1, h2⟩ := h; exact ⟨us, h1, h2.mono s.le⟩
  | gd t x => exact ⟨fun ht => RpV.mono s.le (h.1 ht), h.2⟩
  | stk e k rows => cases hc
  | hdr n => exact h
  | ov x => cases hc
  | hdp b k n => exact h
  | epp b k r f => exact h
  | una => trivial

theorem CellRep.step (s : Step X m m' w w' ow ow') {i : Nat} (ht : ¬ X (.key i)) {c : Ct} {u : Value} (h : CellRep m w ow i c u) : CellRep m' w' ow' i c u := by
  cases c with
  | un => trivial
  | pv x => cases x with
    | one x => exact Rp.mono s.le x u h
    | agg cs => exact h.elim
  | own e k rows => exact OwnRep.step s ht h
  | ptr j off => exact h.elim
  | tup xs => exact h.elim
  | gd t x => exact h.elim
  | stk e k rows => exact h.elim
  | hdr n => exact h.elim
  | ov x => cases x with
    | one x => exact OvOk.step s ht h
    | agg cs => exact h.elim
  | hdp b k n => exact h.elim
  | epp b k r f => exact h.elim
  | una => exact h.elim

theorem BoxRep.step (s : Step X m m' w w' ow ow') {F F' : List Ct} {j : Nat} {bn : Nat × Nat} (hj : ¬ X (.box j)) (hF : ∀ o, o < bn.2 → F'.getD (bn.1 + o) .un = F.getD (bn.1 + o) .un) (hk : ∀ o, o < bn.2 → ¬ X (.key (bn.1 + o))) {b : Option Nat}
    (h : BoxRep m w ow F j bn b) : BoxRep m' w' ow' F' j bn b := by
  cases b with
  | none => exact fun o ho => by rw [hF o ho]; exact h o ho
  | some b =>
    obtain ⟨h1, h2, cs, T, h3, h4, h5⟩ := h
    obtain ⟨h6, h7, h8⟩ := s.keep b _ h1 hj
    exact ⟨h8, fun o => (h7 o).trans (h2 o), cs, T, h6.trans h3, h4, fun o ho => by rw [hF o ho]; exact (h5 o ho).step s (hk o ho)⟩

theorem InvG.step {E : Env} {S : Start} {F F' : List Ct} {a a' : Act} (h : InvG E S m β ow F a w) (s : Step X m m' w w' ow ow')
    (hF : F'.length = F.length) (ha : a'.tmps.size = a.tmps.size) (hd : a'.defers = a.defers)
    (slots : ∀ i, i < E.N → (F'.getD i .un = F.getD i .un ∧ a'.tmps.getD i undef = a.tmps.getD i undef ∧ (¬ X (.key i) ∨ (F.getD i .un).plain = true)) ∨ CtRep m' w' β ow' i (F'.getD i .un) (a'.tmps.getD i undef))
    (boxes : ∀ (j : Nat) (bn : Nat × Nat), E.Γ[j]? = some bn → (¬ X (.box j) ∧ ∀ o, o < bn.2 → F'.getD (bn.1 + o) .un = F.getD (bn.1 + o) .un ∧ ¬ X (.key (bn.1 + o))) ∨ BoxRep m' w' ow' F' j bn (β j))
    (mem : MemOk m' w') (pres : Pres (fun x => S.R0 x ∨ S.w0.heap.size ≤ x) w w') (own : ∀ b t, ow' b = some t → S.w0.heap.size ≤ b ∨ S.R0 b) (lt : ∀ b t, ow' b = some t → b < w'.heap.size)
    (new : ∀ b o u, m' b o = some u → m b o = some u ∨ S.w0.heap.size ≤ b ∨ S.R0 b) : InvG E S m' β ow' F' a' w' where
  lenF := hF.trans h.lenF
  lenA := ha.trans h.lenA
  dfr := hd.trans h.dfr
  slots := fun i hi => by
    rcases slots i hi with ⟨h1, h2, h3⟩ | h1
    · rw [h1, h2]
      rcases h3 with h3 | h3
      · exact (h.slots i hi).step s h3
      · exact (h.slots i hi).step_plain s h3
    · exact h1
  boxes := fun j bn hj => by
    rcases boxes j bn hj with ⟨h1, h2⟩ | h1
    · exact (h.boxes j bn hj).step s h1 (fun o ho => (h2 o ho).1) (fun o ho => (h2 o ho).2)
    · exact h1
  mem := mem
  mle := Mem.le_trans h.mle s.le
  pres := h.pres.trans pres
  own := own
  lt := lt
  new := fun b o u hu => (new b o u hu).elim (fun g => h.new b o u g) .inr
  fix := h.fix
end

end Go.Hx
