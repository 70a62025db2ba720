/-
  THE ABSTRACT LAYER, regions that draw their order: what an operation reads and writes of the abstract frame; where two operations that are not ordered do not meet, one order serves all. Generic over the program. No condition.
-/
import Derived.Test.YtjnagiaooecklaaDoorHxIq
set_option linter.all false
namespace Go.Hx
open Go.RowKit
variable [Glob]

/-- Some slots of a frame are set. -/
def sets (F : List Ct) : List (Nat × Ct) → List Ct
  | [] => F
  | (i, c) :: l => sets (F.set i c) l

/-- Two frames agree at these places. -/
def Ag (l : List Nat) (G F : List Ct) : Prop := ∀ i ∈ l, G.getD i .un = F.getD i .un

theorem Ag.left {a b : List Nat} {G F : List Ct} (h : Ag (a ++ b) G F) : Ag a G F := fun i hi => h i (List.mem_append_left _ hi)
theorem Ag.right {a b : List Nat} {G F : List Ct} (h : Ag (a ++ b) G F) : Ag b G F := fun i hi => h i (List.mem_append_right _ hi)

def Opd.rds : Opd → List Nat
  | .t n => [n]
  | _ => []
def rdsO : Option Opd → List Nat
  | some x => x.rds
  | none => []
def rdsP : List (Nat × Nat × Opd) → List Nat
  | [] => []
  | (_, _, x) :: r => x.rds ++ rdsP r
def rdsL : List Opd → List Nat
  | [] => []
  | x :: r => x.rds ++ rdsL r
def VOp.rds : VOp → List Nat
  | .mv x | .not x | .neg x | .conv _ x | .len _ x | .fldP x _ | .fldR x _ _ | .ldR x _ _ | .nilck x | .boxF x | .mki _ x | .b2s x => x.rds
  | .pick c a b => c.rds ++ (a.rds ++ b.rds)
  | .ints _ x y | .strs _ x y | .boo _ x y | .idxA _ x y | .idxS x y | .idxV _ x y | .steq _ _ x y | .mx x y => x.rds ++ y.rds
  | .ldB x _ base off n _ => x.rds ++ List.range' (base + off) n
  | .ldh x _ base off => x.rds ++ [base + off]
  | .sls x lo hi | .slr _ x lo hi => x.rds ++ (rdsO lo ++ rdsO hi)
  | .ext n _ => [n]
  | .bld _ parts => rdsP parts
  | .bslF _ parts => rdsL parts
  | .mkf _ caps => rdsL caps

theorem getO_ag {x : Opd} {G F : List Ct} (h : Ag x.rds G F) : getO G x = getO F x := by
  cases x with
  | t n => exact h n (by simp [Opd.rds])
  | c p => rfl
  | f n => rfl
theorem bndV_ag {d : Int} {x : Option Opd} {G F : List Ct} (h : Ag (rdsO x) G F) : bndV G d x = bndV F d x := by
  cases x with
  | none => rfl
  | some x => simp only [bndV]; rw [getO_ag (x := x) h]
theorem cellsPV_ag {G F : List Ct} : ∀ (n i : Nat), Ag (List.range' i n) G F → cellsPV G i n = cellsPV F i n
  | 0, _, _ => rfl
  | n + 1, i, h => by
    have h1 : G.getD i .un = F.getD i .un := h i (by simp)
    have h2 : cellsPV G (i + 1) n = cellsPV F (i + 1) n := cellsPV_ag n (i + 1) fun j hj => h j (by rw [List.range'_succ]; exact List.mem_cons_of_mem _ hj)
    simp only [cellsPV]; rw [h1, h2]
theorem partsV_ag {G F : List Ct} : ∀ (l : List (Nat × Nat × Opd)) (cs : List PV), Ag (rdsP l) G F → partsV G cs l = partsV F cs l
  | [], _, _ => rfl
  | (off, n, x) :: r, cs, h => by
    have h1 : getO G x = getO F x := getO_ag (Ag.left (a := x.rds) h)
    have h2 : ∀ cs, partsV G cs r = partsV F cs r := fun cs => partsV_ag r cs (Ag.right (a := x.rds) h)
    simp only [partsV]; rw [h1]
    cases (getO F x).pv? with
    | none => rfl
    | some p => simp only [h2]
theorem rowsV_ag {G F : List Ct} {k : Nat} : ∀ (l : List Opd), Ag (rdsL l) G F → rowsV G k l = rowsV F k l
  | [], _ => rfl
  | x :: r, h => by
    have h1 : getO G x = getO F x := getO_ag (Ag.left (a := x.rds) h)
    have h2 : rowsV G k r = rowsV F k r := rowsV_ag r (Ag.right (a := x.rds) h)
    simp only [rowsV]; rw [h1, h2]
theorem capsV_ag {G F : List Ct} : ∀ (l : List Opd), Ag (rdsL l) G F → capsV G l = capsV F l
  | [], _ => rfl
  | x :: r, h => by
    have h1 : getO G x = getO F x := getO_ag (Ag.left (a := x.rds) h)
    have h2 : capsV G r = capsV F r := capsV_ag r (Ag.right (a := x.rds) h)
    simp only [capsV]; rw [h1, h2]

theorem ev_ag {v : VOp} {G F : List Ct} (h : Ag v.rds G F) : ev G v = ev F v := by
  cases v with
  | pick c a b =>
    have h1 : getO G c = getO F c := getO_ag (Ag.left (a := c.rds) h)
    have h2 : getO G a = getO F a := getO_ag (Ag.left (Ag.right (a := c.rds) h))
    have h3 : getO G b = getO F b := getO_ag (Ag.right (Ag.right (a := c.rds) h))
    simp only [ev, h1, h2, h3]
  | ldB x j base off n agg =>
    have h1 : getO G x = getO F x := getO_ag (Ag.left (a := x.rds) h)
    have h2 := cellsPV_ag n (base + off) (Ag.right (a := x.rds) h)
    simp only [ev, h1, h2]
  | sls x lo hi =>
    have h1 : getO G x = getO F x := getO_ag (Ag.left (a := x.rds) h)
    have h2 : ∀ d, bndV G d lo = bndV F d lo := fun d => bndV_ag (Ag.left (Ag.right (a := x.rds) h))
    have h3 : ∀ d, bndV G d hi = bndV F d hi := fun d => bndV_ag (Ag.right (Ag.right (a := x.rds) h))
    simp only [ev, h1, h2, h3]
  | slr k x lo hi =>
    have h1 : getO G x = getO F x := getO_ag (Ag.left (a := x.rds) h)
    have h2 : ∀ d, bndV G d lo = bndV F d lo := fun d => bndV_ag (Ag.left (Ag.right (a := x.rds) h))
    have h3 : ∀ d, bndV G d hi = bndV F d hi := fun d => bndV_ag (Ag.right (Ag.right (a := x.rds) h))
    simp only [ev, h1, h2, h3]
  | ext n i => simp only [ev, h n (by simp [VOp.rds])]
  | ldh x j base off => simp only [ev, getO_ag (x := x) (Ag.left h), h (base + off) (by simp [VOp.rds])]
  | bld z parts => simp only [ev, partsV_ag parts z h]
  | bslF k parts => simp only [ev, rowsV_ag parts h]
  | mkf f caps => simp only [ev, capsV_ag caps h]
  | mv x => simp only [ev, getO_ag (x := x) h]
  | not x => simp only [ev, getO_ag (x := x) h]
  | neg x => simp only [ev, getO_ag (x := x) h]
  | conv k x => simp only [ev, getO_ag (x := x) h]
  | len s x => simp only [ev, getO_ag (x := x) h]
  | fldP x off => simp only [ev, getO_ag (x := x) h]
  | fldR x off n => simp only [ev, getO_ag (x := x) h]
  | ldR x n agg => simp only [ev, getO_ag (x := x) h]
  | nilck x => simp only [ev, getO_ag (x := x) h]
  | boxF x => simp only [ev, getO_ag (x := x) h]
  | mki t x => simp only [ev, getO_ag (x := x) h]
  | b2s x => simp only [ev, getO_ag (x := x) h]
  | ints op x y => simp only [ev, getO_ag (x := x) (Ag.left h), getO_ag (x := y) (Ag.right (a := x.rds) h)]
  | strs op x y => simp only [ev, getO_ag (x := x) (Ag.left h), getO_ag (x := y) (Ag.right (a := x.rds) h)]
  | boo ng x y => simp only [ev, getO_ag (x := x) (Ag.left h), getO_ag (x := y) (Ag.right (a := x.rds) h)]
  | idxA k x y => simp only [ev, getO_ag (x := x) (Ag.left h), getO_ag (x := y) (Ag.right (a := x.rds) h)]
  | idxV n x y => simp only [ev, getO_ag (x := x) (Ag.left h), getO_ag (x := y) (Ag.right (a := x.rds) h)]
  | idxS x y => simp only [ev, getO_ag (x := x) (Ag.left h), getO_ag (x := y) (Ag.right (a := x.rds) h)]
  | steq ng ks x y => simp only [ev, getO_ag (x := x) (Ag.left h), getO_ag (x := y) (Ag.right (a := x.rds) h)]
  | mx x y => simp only [ev, getO_ag (x := x) (Ag.left h), getO_ag (x := y) (Ag.right (a := x.rds) h)]

/-! ### Operations -/

def argsRds : List (Opd × AM) → List Nat
  | [] => []
  | (x, m) :: r => x.rds ++ ((match m with | .i _ base sz => List.range' base sz | _ => []) ++ argsRds r)

theorem avsV_ag {G F : List Ct} : ∀ (l : List (Opd × AM)), Ag (argsRds l) G F → avsV G l = avsV F l
  | [], _ => rfl
  | (x, m) :: r, h => by
    have h1 : getO G x = getO F x := getO_ag (Ag.left (a := x.rds) h)
    have h0 := Ag.right (a := x.rds) h
    have h2 : avsV G r = avsV F r := avsV_ag r (Ag.right h0)
    cases m with
    | v => simp only [avsV]; rw [h1, h2]
    | r => simp only [avsV]; rw [h1, h2]
    | o => simp only [avsV]; rw [h1, h2]
    | n e k => simp only [avsV]; rw [h1, h2]
    | i j base sz =>
      have h3 : cellsPV G base sz = cellsPV F base sz := cellsPV_ag sz base (Ag.left h0)
      simp only [avsV]; rw [h1, h2, h3]

def rdsT : List (Opd × Nat) → List Nat
  | [] => []
  | (x, _) :: r => x.rds ++ rdsT r

theorem pathV_ag {G F : List Ct} : ∀ (l : List (Opd × Nat)), Ag (rdsT l) G F → pathV G l = pathV F l
  | [], _ => rfl
  | (x, c) :: r, h => by
    have h1 : getO G x = getO F x := getO_ag (Ag.left (a := x.rds) h)
    have h2 : pathV G r = pathV F r := pathV_ag r (Ag.right (a := x.rds) h)
    simp only [pathV]; rw [h1, h2]
theorem cellsOV_ag {G F : List Ct} : ∀ (n i : Nat), Ag (List.range' i n) G F → cellsOV G i n = cellsOV F i n
  | 0, _, _ => rfl
  | n + 1, i, h => by
    have h1 : G.getD i .un = F.getD i .un := h i (by simp)
    have h2 : cellsOV G (i + 1) n = cellsOV F (i + 1) n := cellsOV_ag n (i + 1) fun j hj => h j (by rw [List.range'_succ]; exact List.mem_cons_of_mem _ hj)
    simp only [cellsOV]; rw [h1, h2]
theorem leftCells_ag {G F : List Ct} : ∀ (n i : Nat), Ag (List.range' i n) G F → leftCells G i n = leftCells F i n
  | 0, _, _ => rfl
  | n + 1, i, h => by
    have h1 : G.getD i .un = F.getD i .un := h i (by simp)
    have h2 : leftCells G (i + 1) n = leftCells F (i + 1) n := leftCells_ag n (i + 1) fun j hj => h j (by rw [List.range'_succ]; exact List.mem_cons_of_mem _ hj)
    simp only [leftCells]; rw [h1, h2]
theorem atV_ag {G F : List Ct} {x : Opd} {r : Nat} {pt : List (Opd × Nat)} {K : OV → List (Nat × Nat) → Nat → Nat → Nat → List (List OV) → Nat → Nat → Prop} (h : Ag (x.rds ++ (r :: rdsT pt)) G F) : atV G x r pt K = atV F x r pt K := by
  have h1 : getO G x = getO F x := getO_ag (Ag.left (a := x.rds) h)
  have h2 : G.getD r .un = F.getD r .un := Ag.right (a := x.rds) h r List.mem_cons_self
  have h3 : pathV G pt = pathV F pt := pathV_ag pt fun i hi => Ag.right (a := x.rds) h i (List.mem_cons_of_mem _ hi)
  unfold atV
  rw [h1, h2, h3]

def optL : Option Nat → List Nat
  | some d => [d]
  | none => []
def ioR : Option (Nat × Nat × Nat) → List Nat
  | some (_, base, sz) => List.range' base sz
  | none => []

def HOp.rds : HOp → List Nat
  | .val _ v => v.rds
  | .call _ _ args => argsRds args ++ optL (ownKey args)
  | .callv _ x args => x.rds ++ (argsRds args ++ optL (ownKey args))
  | .mvo _ x | .mvk _ x => [x]
  | .nlo _ _ _ | .nlk _ _ _ => []
  | .ldo _ x _ base off _ _ => x.rds ++ [base + off]
  | .sto x _ _ _ _ y => x.rds ++ y.rds
  | .stw x _ _ _ y => x.rds ++ [y]
  | .app _ _ _ x y => x.rds ++ y.rds
  | .bsl _ _ _ parts => rdsL parts
  | .trk _ x hi => x :: hi.rds
  | .apk _ _ _ x y => x :: y.rds
  | .vnl _ _ _ => []
  | .vmv _ x => [x]
  | .vld _ x _ base off n _ => x.rds ++ List.range' (base + off) n
  | .vst x _ _ _ _ y => x.rds ++ [y]
  | .vap _ _ _ x y => x :: y.rds
  | .vbs _ _ _ x => [x]
  | .vle _ x r _ _ pt _ _ | .vlp _ x r _ _ pt _ _ | .vlh _ x r _ _ pt => x.rds ++ (r :: rdsT pt)
  | .vse x r _ _ pt _ y => x.rds ++ (r :: (rdsT pt ++ y.rds))
  | .alloc _ _ _ _ | .box _ _ _ _ _ | .pan _ | .isn _ _ _ => []
  | .alo d _ base cells => [base]
  | .bxo d _ base n x => x.rds ++ [base]

def HOp.wrs : HOp → List Nat
  | .val d _ => [d]
  | .call d _ args => optL (ownKey args) ++ (ioR (ioKey args) ++ optL d)
  | .callv d _ args => optL (ownKey args) ++ (ioR (ioKey args) ++ optL d)
  | .mvo d x | .mvk d x => [x, d]
  | .nlo d _ _ | .nlk d _ _ => [d]
  | .ldo d _ _ base off _ _ => [base + off, d]
  | .sto _ _ base off n _ => List.range' (base + off) n
  | .stw _ _ base off y => [y, base + off]
  | .app d _ _ x _ => x.rds ++ [d]
  | .bsl d _ _ _ => [d]
  | .trk d x _ => [x, d]
  | .apk d _ _ x _ => [x, d]
  | .vnl d _ _ => [d]
  | .vmv d x => [x, d]
  | .vld d _ _ base off n _ => List.range' (base + off) n ++ [d]
  | .vst _ _ base off n y => y :: List.range' (base + off) n
  | .vap d _ _ x y => x :: (y.rds ++ [d])
  | .vbs d _ _ x => [x, d]
  | .vle d _ r _ _ _ _ _ => [r, d]
  | .vlp d _ _ _ _ _ _ _ | .vlh d _ _ _ _ _ => [d]
  | .vse _ r _ _ _ _ y => y.rds ++ [r]
  | .alloc _ _ _ _ | .box _ _ _ _ _ | .pan _ | .isn _ _ _ => []
  | .alo d _ base cells => d :: List.range' base cells.length
  | .bxo d _ base n x => d :: List.range' base n

/-- Of these we know what they read and write. -/
def HOp.loc : HOp → Bool
  | .alloc _ _ _ _ | .box _ _ _ _ _ | .pan _ | .isn _ _ _ => false
  | _ => true

def HO.rds (h : HO) : List Nat := (match h.g with | some (s, _) => [s] | none => []) ++ h.op.rds

theorem sets_append (F : List Ct) : ∀ (l l' : List (Nat × Ct)) , sets F (l ++ l') = sets (sets F l) l'
  | [], _ => rfl
  | (i, c) :: l, l' => by simp only [List.cons_append, sets]; exact sets_append _ l l'

theorem set_sets {i : Nat} {c : Ct} : ∀ (T : List (Nat × Ct)) (F : List Ct), (∀ p ∈ T, p.1 ≠ i) → sets (F.set i c) T = (sets F T).set i c
  | [], _, _ => rfl
  | (j, d) :: T, F, h => by
    simp only [sets]
    rw [List.set_comm _ _ (fun e => h (j, d) List.mem_cons_self e.symm)]
    exact set_sets T _ fun p hp => h p (List.mem_cons_of_mem _ hp)

theorem sets_comm : ∀ (T T' : List (Nat × Ct)) (F : List Ct), (∀ p ∈ T, ∀ q ∈ T', p.1 ≠ q.1) → sets (sets F T) T' = sets (sets F T') T
  | [], _, _, _ => rfl
  | (i, c) :: T, T', F, h => by
    simp only [sets]
    rw [sets_comm T T' _ fun p hp q hq => h p (List.mem_cons_of_mem _ hp) q hq]
    rw [set_sets T' F fun q hq => (h (i, c) List.mem_cons_self q hq).symm]

theorem getD_sets {j : Nat} : ∀ (T : List (Nat × Ct)) (F : List Ct), (∀ p ∈ T, p.1 ≠ j) → (sets F T).getD j .un = F.getD j .un
  | [], _, _ => rfl
  | (i, c) :: T, F, h => by
    simp only [sets]
    rw [getD_sets T _ fun p hp => h p (List.mem_cons_of_mem _ hp), getD_set, if_neg]
    exact fun e => h (i, c) List.mem_cons_self e.1

def cellT : Nat → List Ct → List (Nat × Ct)
  | _, [] => []
  | i, c :: cs => (i, c) :: cellT (i + 1) cs
theorem setCells_sets : ∀ (cs : List Ct) (i : Nat) (F : List Ct), setCells F i cs = sets F (cellT i cs)
  | [], _, _ => rfl
  | c :: cs, i, F => by simp only [setCells, cellT, sets]; exact setCells_sets cs (i + 1) _
theorem cellT_mem : ∀ (cs : List Ct) (i : Nat) (p : Nat × Ct), p ∈ cellT i cs → p.1 ∈ List.range' i cs.length
  | c :: cs, i, p, h => by
    simp only [cellT, List.mem_cons] at h
    rw [List.length_cons, List.range'_succ]
    rcases h with h | h
    · rw [h]; exact List.mem_cons_self
    · exact List.mem_cons_of_mem _ (cellT_mem cs (i + 1) p h)

def ownT (F : List Ct) : Option Nat → List (Nat × Ct)
  | some n => match F.getD n .un with | .own _ k rows => [(n, .pv (.one (.sl k rows)))] | _ => []
  | none => []
theorem dropOwn_sets (F : List Ct) (k : Option Nat) : dropOwn F k = sets F (ownT F k) := by
  cases k with
  | none => rfl
  | some n => simp only [dropOwn, ownT]; generalize F.getD n .un = c; cases c <;> rfl
theorem ownT_mem {F : List Ct} {k : Option Nat} {p : Nat × Ct} (h : p ∈ ownT F k) : p.1 ∈ optL k := by
  cases k with
  | none => simp [ownT] at h
  | some n =>
    simp only [ownT] at h
    split at h
    · simp at h; rw [h]; simp [optL]
    · simp at h
theorem ownT_ag {G F : List Ct} {k : Option Nat} (h : Ag (optL k) G F) : ownT G k = ownT F k := by
  cases k with
  | none => rfl
  | some n => simp only [ownT]; rw [h n (by simp [optL])]

def ioT (io : Option (List PV)) : Option (Nat × Nat × Nat) → List (Nat × Ct)
  | some (_, base, sz) => cellT base (ioCells sz io)
  | none => []
theorem dropIo_sets (F : List Ct) (io : Option (List PV)) (k : Option (Nat × Nat × Nat)) : dropIo F io k = sets F (ioT io k) := by
  cases k with
  | none => rfl
  | some x => obtain ⟨j, base, sz⟩ := x; exact setCells_sets _ _ _
theorem ioCells_len (sz : Nat) (io : Option (List PV)) : (ioCells sz io).length ≤ sz := by
  cases io with
  | none => simp [ioCells]
  | some l => simp only [ioCells, List.length_take]; omega
theorem ioT_mem {io : Option (List PV)} {k : Option (Nat × Nat × Nat)} {p : Nat × Ct} (h : p ∈ ioT io k) : p.1 ∈ ioR k := by
  cases k with
  | none => simp [ioT] at h
  | some x =>
    obtain ⟨j, base, sz⟩ := x
    have h1 := cellT_mem _ _ _ h
    have h2 := ioCells_len sz io
    simp only [ioR, List.mem_range'_1] at h1 ⊢
    omega

def dstT (d : Option Nat) (c : Ct) : List (Nat × Ct) := match d with | some d => [(d, c)] | none => []
theorem setD_sets (F : List Ct) (d : Option Nat) (c : Ct) : setD F d c = sets F (dstT d c) := by cases d <;> rfl
theorem dstT_mem {d : Option Nat} {c : Ct} {p : Nat × Ct} (h : p ∈ dstT d c) : p.1 ∈ optL d := by
  cases d with
  | none => simp [dstT] at h
  | some d => simp [dstT] at h; rw [h]; simp [optL]

section
variable {P : Program}

/-- What a step does: places are set; or it panics. It does the same wherever the frame agrees at what it reads. -/
def Does (P : Program) (h : HO) (F : List Ct) (N : List Ct → Prop) (X : Value → List Ct → Prop) : Prop :=
  (∃ T : List (Nat × Ct), (∀ p ∈ T, p.1 ∈ h.op.wrs) ∧ N (sets F T) ∧ ∀ G (N' : List Ct → Prop) (X' : Value → List Ct → Prop), Ag h.rds G F → N' (sets G T) → hoW P h G N' X') ∨
  ∃ v F', X v F' ∧ ∀ G (N' : List Ct → Prop) (X' : Value → List Ct → Prop), Ag h.rds G F → (∀ G', X' v G') → hoW P h G N' X'

def DoesOp (P : Program) (o : HOp) (F : List Ct) (N : List Ct → Prop) (X : Value → List Ct → Prop) : Prop :=
  (∃ T : List (Nat × Ct), (∀ p ∈ T, p.1 ∈ o.wrs) ∧ N (sets F T) ∧ ∀ G (N' : List Ct → Prop) (X' : Value → List Ct → Prop), Ag o.rds G F → N' (sets G T) → opW P o G N' X') ∨
  ∃ v F', X v F' ∧ ∀ G (N' : List Ct → Prop) (X' : Value → List Ct → Prop), Ag o.rds G F → (∀ G', X' v G') → opW P o G N' X'

theorem call_does {f : FuncId} {args : List (Opd × AM)} {extra : List AV} {d : Option Nat} {F : List Ct} {N : List Ct → Prop} {X : Value → List Ct → Prop} {p : Prop}
    (hW : p ∧ callW P f ((avsV F args).1, (avsV F args).2 ++ extra) (fun io => dropArgs F io args) d N X) :
    (∃ T : List (Nat × Ct), (∀ p ∈ T, p.1 ∈ optL (ownKey args) ++ (ioR (ioKey args) ++ optL d)) ∧ N (sets F T) ∧ ∀ G (N' : List Ct → Prop) (X' : Value → List Ct → Prop), Ag (argsRds args ++ optL (ownKey args)) G F → N' (sets G T) → callW P f ((avsV G args).1, (avsV G args).2 ++ extra) (fun io => dropArgs G io args) d N' X') ∨
    ∃ v F', X v F' ∧ ∀ G (N' : List Ct → Prop) (X' : Value → List Ct → Prop), Ag (argsRds args ++ optL (ownKey args)) G F → (∀ G', X' v G') → callW P f ((avsV G args).1, (avsV G args).2 ++ extra) (fun io => dropArgs G io args) d N' X' := by
  obtain ⟨_, h1, r, hcon, hr⟩ := hW
  have key : ∀ (io : Option (List PV)) (c : Ct) (G : List Ct), Ag (argsRds args ++ optL (ownKey args)) G F → setD (dropArgs G io args) d c = sets G (ownT F (ownKey args) ++ (ioT io (ioKey args) ++ dstT d c)) := by
    intro io c G hag
    rw [setD_sets, dropArgs, dropIo_sets, dropOwn_sets, ownT_ag (Ag.right hag), sets_append, sets_append]
  have hmem : ∀ (io : Option (List PV)) (c : Ct), ∀ q ∈ ownT F (ownKey args) ++ (ioT io (ioKey args) ++ dstT d c), q.1 ∈ optL (ownKey args) ++ (ioR (ioKey args) ++ optL d) := by
    intro io c q hq
    simp only [List.mem_append] at hq ⊢
    rcases hq with hq | hq | hq
    · exact .inl (ownT_mem hq)
    · exact .inr (.inl (ioT_mem hq))
    · exact .inr (.inr (dstT_mem hq))
  have main : ∀ c : Ct, resC r.res = c → (∀ v, r.res ≠ .pan v) → N (setD (dropArgs F (some r.io) args) d c) → (∃ T : List (Nat × Ct), (∀ p ∈ T, p.1 ∈ optL (ownKey args) ++ (ioR (ioKey args) ++ optL d)) ∧ N (sets F T) ∧ ∀ G (N' : List Ct → Prop) (X' : Value → List Ct → Prop), Ag (argsRds args ++ optL (ownKey args)) G F → N' (sets G T) → callW P f ((avsV G args).1, (avsV G args).2 ++ extra) (fun io => dropArgs G io args) d N' X') := by
    intro c hc hnp hN
    refine ⟨_, hmem (some r.io) c, by rw [← key _ _ F fun _ _ => rfl]; exact hN, fun G N' X' hag hN' => ?_⟩
    rw [← key _ _ G hag] at hN'
    unfold callW
    rw [avsV_ag args (Ag.left hag)]
    refine ⟨h1, r, hcon, ?_⟩
    split
    · rename_i v hv; exact (hnp v hv).elim
    · simp only [setRes, hc]; exact hN'
  split at hr
  · rename_i v hv
    right
    refine ⟨v, _, hr, fun G N' X' hag hX => ?_⟩
    unfold callW
    rw [avsV_ag args (Ag.left hag)]
    refine ⟨h1, r, hcon, ?_⟩
    rw [hv]
    exact hX _
  · rename_i hnp
    left
    exact main _ rfl (fun v hv => hnp v hv) hr

def clrT (F : List Ct) : Opd → List (Nat × Ct)
  | .t n => match F.getD n .un with | .ov _ => [(n, .un)] | _ => []
  | _ => []
theorem clr_sets (F G : List Ct) (y : Opd) : clr F G y = sets G (clrT F y) := by
  cases y with
  | t n => simp only [clr, clrT]; generalize F.getD n .un = c; cases c <;> rfl
  | c p => rfl
  | f n => rfl
theorem clrT_mem {F : List Ct} {y : Opd} {p : Nat × Ct} (h : p ∈ clrT F y) : p.1 ∈ y.rds := by
  cases y with
  | t n =>
    simp only [clrT] at h
    generalize F.getD n .un = c at h
    cases c <;> simp at h
    rw [h]; simp [Opd.rds]
  | c p => simp [clrT] at h
  | f n => simp [clrT] at h
theorem clrT_ag {G F : List Ct} {y : Opd} (h : Ag y.rds G F) : clrT G y = clrT F y := by
  cases y with
  | t n => simp only [clrT]; rw [h n (by simp [Opd.rds])]
  | c p => rfl
  | f n => rfl
theorem srcV_ag {G F : List Ct} {y : Opd} (h : Ag y.rds G F) : srcV G y = srcV F y := by unfold srcV; rw [getO_ag h]
theorem srcR_ag {G F : List Ct} {k : Nat} {y : Opd} (h : Ag y.rds G F) : srcR G k y = srcR F k y := by unfold srcR; rw [getO_ag h]

/-- What 'atV' says holds of what follows. -/
theorem atV_mono {F : List Ct} {x : Opd} {r : Nat} {pt : List (Opd × Nat)} {K K' : OV → List (Nat × Nat) → Nat → Nat → Nat → List (List OV) → Nat → Nat → Prop} (h : atV F x r pt K) (hk : ∀ a b c d e f g i, K a b c d e f g i → K' a b c d e f g i) : atV F x r pt K' := by
  unfold atV at h ⊢
  split at h
  · split at h
    · obtain ⟨h1, h2, h3, h4, h5⟩ := h; exact ⟨h1, h2, h3, h4, hk _ _ _ _ _ _ _ _ h5⟩
    · exact h
  · exact h

/-- There is one thing of which it speaks. -/
theorem atV_one {F : List Ct} {x : Opd} {r : Nat} {pt : List (Opd × Nat)} {K : OV → List (Nat × Nat) → Nat → Nat → Nat → List (List OV) → Nat → Nat → Prop} (h : atV F x r pt K) :
    ∃ a b c d e f g i, K a b c d e f g i ∧ ∀ K' : OV → List (Nat × Nat) → Nat → Nat → Nat → List (List OV) → Nat → Nat → Prop, K' a b c d e f g i → atV F x r pt K' := by
  unfold atV at h
  split at h
  · rename_i b k i f root e1 e2
    split at h
    · rename_i b' e k' rows e3
      obtain ⟨h1, h2, h3, h4, h5⟩ := h
      refine ⟨_, _, _, _, _, _, _, _, h5, fun K' hk => ?_⟩
      unfold atV
      simp only [e1, e2, e3]
      exact ⟨h1, h2, h3, h4, hk⟩
    · exact h.elim
  · exact h.elim

theorem op_does {o : HOp} (hl : o.loc = true) {F : List Ct} {N : List Ct → Prop} {X : Value → List Ct → Prop} (hW : opW P o F N X) : DoesOp P o F N X := by
  cases o with
  | alo d j base cells =>
    obtain ⟨hu, hN⟩ := hW
    refine .inl ⟨(d, .ptr j 0) :: cellT base (cells.map fun c => .pv (.one c)), ?_, by simp only [sets]; rw [← setCells_sets]; exact hN, fun G N' X' hag hN' => ?_⟩
    · intro q hq
      rcases List.mem_cons.1 hq with rfl | hq
      · exact List.mem_cons_self
      · have := cellT_mem _ _ _ hq
        rw [List.length_map] at this
        exact List.mem_cons_of_mem _ this
    · simp only [sets] at hN'
      rw [← setCells_sets] at hN'
      exact ⟨(hag base (by simp [HOp.rds])).trans hu, hN'⟩
  | bxo d j base n x =>
    simp only [opW] at hW
    split at hW
    · rename_i p e1
      obtain ⟨h1, h2, hu, hN⟩ := hW
      refine .inl ⟨(d, .ptr j 0) :: cellT base (p.cells.map fun c => .pv (.one c)), ?_, by simp only [sets]; rw [← setCells_sets]; exact hN, fun G N' X' hag hN' => ?_⟩
      · intro q hq
        rcases List.mem_cons.1 hq with rfl | hq
        · exact List.mem_cons_self
        · have := cellT_mem _ _ _ hq
          rw [List.length_map, h1] at this
          exact List.mem_cons_of_mem _ this
      · simp only [sets] at hN'
        rw [← setCells_sets] at hN'
        simp only [opW, getO_ag (x := x) (Ag.left hag), e1]
        exact ⟨h1, h2, (hag base (by simp [HOp.rds])).trans hu, hN'⟩
    · exact hW.elim
  | alloc d j base cells => cases hl
  | box d j base n x => cases hl
  | pan x => cases hl
  | isn d ng x => cases hl
  | val d v =>
    left
    refine ⟨[(d, (ev F v).2)], by simp [HOp.wrs], hW.2, fun G N' X' hag hN => ?_⟩
    simp only [opW, ev_ag (v := v) hag]
    exact ⟨hW.1, hN⟩
  | call d f args =>
    have := call_does (P := P) (p := True) (extra := []) (f := f) (args := args) (d := d) (F := F) (N := N) (X := X) (by simpa [opW] using hW)
    rcases this with ⟨T, h1, h2, h3⟩ | ⟨v, F', h1, h2⟩
    · exact .inl ⟨T, h1, h2, fun G N' X' hag hN => by have := h3 G N' X' hag hN; simpa [opW] using this⟩
    · exact .inr ⟨v, F', h1, fun G N' X' hag hN => by have := h2 G N' X' hag hN; simpa [opW] using this⟩
  | callv d x args =>
    simp only [opW] at hW
    split at hW
    · rename_i f caps e1
      obtain ⟨n1, hW⟩ := hW
      rcases call_does (P := P) (p := True) (extra := caps.map fun c => AV.val (.one c)) ⟨trivial, hW⟩ with ⟨T, h1, h2, h3⟩ | ⟨v, F', h1, h2⟩
      · refine .inl ⟨T, h1, h2, fun G N' X' hag hN => ?_⟩
        have := h3 G N' X' (Ag.right (a := x.rds) hag) hN
        simp only [opW, getO_ag (x := x) (Ag.left hag), e1]
        exact ⟨n1, this⟩
      · refine .inr ⟨v, F', h1, fun G N' X' hag hN => ?_⟩
        have := h2 G N' X' (Ag.right (a := x.rds) hag) hN
        simp only [opW, getO_ag (x := x) (Ag.left hag), e1]
        exact ⟨n1, this⟩
    · exact hW.elim
  | mvo d x =>
    simp only [opW] at hW
    split at hW
    · rename_i e k rows e1
      refine .inl ⟨[(x, .pv (.one (.sl k rows))), (d, .own e k rows)], by simp [HOp.wrs], hW.2, fun G N' X' hag hN => ?_⟩
      have h1 : G.getD x .un = F.getD x .un := hag x (by simp [HOp.rds])
      simp only [opW, h1, e1]
      exact ⟨hW.1, hN⟩
    · exact hW.elim
  | mvk d x =>
    simp only [opW] at hW
    split at hW
    · rename_i e k rows e1
      refine .inl ⟨[(x, .hdr rows.length), (d, .stk e k rows)], by simp [HOp.wrs], hW.2, fun G N' X' hag hN => ?_⟩
      have h1 : G.getD x .un = F.getD x .un := hag x (by simp [HOp.rds])
      simp only [opW, h1, e1]
      exact ⟨hW.1, hN⟩
    · exact hW.elim
  | nlo d e k => exact .inl ⟨[(d, .own e k [])], by simp [HOp.wrs], hW, fun G N' X' _ hN => hN⟩
  | nlk d e k => exact .inl ⟨[(d, .stk e k [])], by simp [HOp.wrs], hW, fun G N' X' _ hN => hN⟩
  | ldo d x j base off e k =>
    simp only [opW] at hW
    split at hW
    · rename_i j' off' e' k' rows e1 e2
      refine .inl ⟨[(base + off, .pv (.one (.sl k rows))), (d, .own e k rows)], by simp [HOp.wrs], hW.2.2.2.2, fun G N' X' hag hN => ?_⟩
      have h1 : G.getD (base + off) .un = F.getD (base + off) .un := hag _ (by simp [HOp.rds])
      simp only [opW, getO_ag (x := x) (Ag.left hag), h1, e1, e2]
      exact ⟨hW.1, hW.2.1, hW.2.2.1, hW.2.2.2.1, hN⟩
    · rename_i j' off' kk e1 e2
      refine .inl ⟨[(d, .own e k [])], by simp [HOp.wrs], hW.2.2, fun G N' X' hag hN => ?_⟩
      have h1 : G.getD (base + off) .un = F.getD (base + off) .un := hag _ (by simp [HOp.rds])
      simp only [opW, getO_ag (x := x) (Ag.left hag), h1, e1, e2]
      exact ⟨hW.1, hW.2.1, hN⟩
    · exact hW.elim
  | sto x j base off n y =>
    simp only [opW] at hW
    split at hW
    · rename_i j' off' p e1 e2
      obtain ⟨h1, h2, h3, h4, hN⟩ := hW
      refine .inl ⟨cellT (base + off) (p.cells.map fun c => .pv (.one c)), ?_, by rw [← setCells_sets]; exact hN, fun G N' X' hag hN' => ?_⟩
      · intro q hq
        have := cellT_mem _ _ _ hq
        rw [List.length_map, h3] at this
        exact this
      · rw [← setCells_sets] at hN'
        simp only [opW, getO_ag (x := x) (Ag.left hag), getO_ag (x := y) (Ag.right (a := x.rds) hag), e1, e2]
        exact ⟨h1, h2, h3, h4, hN'⟩
    · exact hW.elim
  | stw x j base off y =>
    simp only [opW] at hW
    split at hW
    · rename_i j' off' e k rows e1 e2
      refine .inl ⟨[(y, .pv (.one (.sl k rows))), (base + off, .own e k rows)], by simp [HOp.wrs], hW.2.2, fun G N' X' hag hN => ?_⟩
      have h1 : G.getD y .un = F.getD y .un := hag _ (by simp [HOp.rds])
      simp only [opW, getO_ag (x := x) (Ag.left hag), h1, e1, e2]
      exact ⟨hW.1, hW.2.1, hN⟩
    · exact hW.elim
  | app d e k x y =>
    simp only [opW] at hW
    split at hW
    · rename_i e' k' rows k'' rs e1 e2
      cases x with
      | t n =>
        obtain ⟨h1, h2, h3, h4, h5, h6, hN⟩ := hW
        refine .inl ⟨[(n, .pv (.one (.sl k rows))), (d, .own e k (rows ++ rs))], by simp [HOp.wrs, Opd.rds], hN, fun G N' X' hag hN' => ?_⟩
        simp only [opW, getO_ag (x := .t n) (Ag.left hag), getO_ag (x := y) (Ag.right (a := [n]) hag), e1, e2]
        exact ⟨h1, h2, h3, h4, h5, h6, hN'⟩
      | c p => exact hW.1.elim
      | f n => exact hW.1.elim
    · exact hW.elim
  | bsl d e k parts =>
    refine .inl ⟨[(d, .own e k (rowsV F k parts).2)], by simp [HOp.wrs], hW.2, fun G N' X' hag hN => ?_⟩
    simp only [opW, rowsV_ag parts hag]
    exact ⟨hW.1, hN⟩
  | vnl d e k => exact .inl ⟨[(d, .ov (.one (.os none e k [])))], by simp [HOp.wrs], hW, fun G N' X' _ hN => hN⟩
  | vmv d x =>
    simp only [opW] at hW
    split at hW
    · rename_i v e1
      refine .inl ⟨[(x, .un), (d, .ov v)], by simp [HOp.wrs], hW.2, fun G N' X' hag hN => ?_⟩
      have h1 : G.getD x .un = F.getD x .un := hag x (by simp [HOp.rds])
      simp only [opW, h1, e1]
      exact ⟨hW.1, hN⟩
    · exact hW.elim
  | vld d x j base off n agg =>
    simp only [opW] at hW
    split at hW
    · rename_i j' off' cs e1 e2
      refine .inl ⟨cellT (base + off) (leftCells F (base + off) n) ++ [(d, .ov (mkOV agg cs))], ?_, ?_, fun G N' X' hag hN => ?_⟩
      · intro q hq
        simp only [HOp.wrs, List.mem_append] at hq ⊢
        rcases hq with hq | hq
        · have := cellT_mem _ _ _ hq
          rw [leftCells_length] at this
          exact .inl this
        · right; simp at hq; simp [hq]
      · rw [sets_append, ← setCells_sets]; exact hW.2.2
      · have h1 := getO_ag (x := x) (Ag.left hag)
        have h2 := cellsOV_ag n (base + off) (Ag.right (a := x.rds) hag)
        have h3 := leftCells_ag n (base + off) (Ag.right (a := x.rds) hag)
        rw [sets_append, ← setCells_sets] at hN
        simp only [opW, h1, h2, h3, e1, e2]
        exact ⟨hW.1, hW.2.1, hN⟩
    · exact hW.elim
  | vst x j base off n y =>
    simp only [opW] at hW
    split at hW
    · rename_i j' off' v e1 e2
      obtain ⟨h1, h2, h3, hN⟩ := hW
      refine .inl ⟨(y, .un) :: cellT (base + off) (v.cells.map ovCell), ?_, ?_, fun G N' X' hag hN' => ?_⟩
      · intro q hq
        simp only [HOp.wrs, List.mem_cons] at hq ⊢
        rcases hq with hq | hq
        · exact .inl (by rw [hq])
        · have := cellT_mem _ _ _ hq
          rw [List.length_map, h3] at this
          exact .inr this
      · simp only [sets]; rw [← setCells_sets]; exact hN
      · have g1 := getO_ag (x := x) (Ag.left hag)
        have g2 : G.getD y .un = F.getD y .un := Ag.right (a := x.rds) hag y (by simp)
        simp only [sets] at hN'
        rw [← setCells_sets] at hN'
        simp only [opW, g1, g2, e1, e2]
        exact ⟨h1, h2, h3, hN'⟩
    · exact hW.elim
  | vap d e k x y =>
    simp only [opW] at hW
    split at hW
    · rename_i pb e' k' rows e1
      obtain ⟨h1, h2, h3, h4, h5, hN⟩ := hW
      refine .inl ⟨(x, .un) :: (clrT F y ++ [(d, .ov (.one (.os none e k (rows ++ (srcR F k y).2))))]), ?_, ?_, fun G N' X' hag hN' => ?_⟩
      · intro q hq
        simp only [HOp.wrs, List.mem_cons, List.mem_append] at hq ⊢
        rcases hq with hq | hq | hq
        · exact .inl (by rw [hq])
        · exact .inr (.inl (clrT_mem hq))
        · right; right; left
          rcases hq with hq | hq
          · rw [hq]
          · cases hq
      · simp only [sets]; rw [sets_append, ← clr_sets]; exact hN
      · have g1 : G.getD x .un = F.getD x .un := hag x (by simp [HOp.rds])
        have g2 : Ag y.rds G F := fun i hi => hag i (by simp [HOp.rds, hi])
        simp only [sets] at hN'
        rw [sets_append, ← clrT_ag g2, ← clr_sets] at hN'
        simp only [opW, g1, e1, srcR_ag g2]
        exact ⟨h1, h2, h3, h4, h5, hN'⟩
    · exact hW.elim
  | vbs d e k x =>
    simp only [opW] at hW
    split at hW
    · rename_i v e1
      refine .inl ⟨[(x, .un), (d, .ov (.one (.os none e k [v.cells])))], by simp [HOp.wrs], hW.2, fun G N' X' hag hN => ?_⟩
      have h1 : G.getD x .un = F.getD x .un := hag x (by simp [HOp.rds])
      simp only [opW, h1, e1]
      exact ⟨hW.1, hN⟩
    · exact hW.elim
  | vle d x r j base pt n agg =>
    simp only [opW] at hW
    obtain ⟨root, p, b, e, k, rows, i, f, hK, hall⟩ := atV_one hW
    refine .inl ⟨[(r, _), (d, _)], by simp [HOp.wrs], hK.2, fun G N' X' hag hN => ?_⟩
    simp only [opW]
    rw [atV_ag hag]
    exact hall _ ⟨hK.1, hN⟩
  | vlp d x r j base pt n agg =>
    simp only [opW] at hW
    obtain ⟨root, p, b, e, k, rows, i, f, hK, hall⟩ := atV_one hW
    obtain ⟨hf, hK⟩ := hK
    split at hK
    · rename_i ps e1
      refine .inl ⟨[(d, _)], by simp [HOp.wrs], hK, fun G N' X' hag hN => ?_⟩
      simp only [opW]
      rw [atV_ag hag]
      refine hall _ ⟨hf, ?_⟩
      simp only [e1]
      exact hN
    · exact hK.elim
  | vlh d x r j base pt =>
    simp only [opW] at hW
    obtain ⟨root, p, b, e, k, rows, i, f, hK, hall⟩ := atV_one hW
    split at hK
    · rename_i b2 e2 k2 rows2 e1
      refine .inl ⟨[(d, .hdp b2 k2 rows2.length)], by simp [HOp.wrs], hK, fun G N' X' hag hN => ?_⟩
      simp only [opW]
      rw [atV_ag hag]
      refine hall _ ?_
      simp only [e1]
      exact hN
    · rename_i e2 k2 rows2 e1
      refine .inl ⟨[(d, .hdr rows2.length)], by simp [HOp.wrs], hK, fun G N' X' hag hN => ?_⟩
      simp only [opW]
      rw [atV_ag hag]
      refine hall _ ?_
      simp only [e1]
      exact hN
    · exact hK.elim
  | vse x r j base pt n y =>
    simp only [opW] at hW
    obtain ⟨root, p, b, e, k, rows, i, f, ⟨h1, h2, h3, h4, hN⟩, hall⟩ := atV_one hW
    refine .inl ⟨clrT F y ++ [(r, .ov (.one (root.upd p (.os (some b) e k (rows.set i (layR (rows.getD i []) f (srcV F y).2))))))], ?_, ?_, fun G N' X' hag hN' => ?_⟩
    rotate_left
    · rw [sets_append, ← clr_sets]; exact hN
    · have hag' : Ag (x.rds ++ (r :: rdsT pt)) G F := by
        intro i hi
        refine hag i ?_
        simp only [HOp.rds, List.mem_append, List.mem_cons] at hi ⊢
        rcases hi with hi | hi | hi
        · exact .inl hi
        · exact .inr (.inl hi)
        · exact .inr (.inr (.inl hi))
      have g2 : Ag y.rds G F := fun i hi => hag i (by simp [HOp.rds, hi])
      rw [sets_append, ← clrT_ag g2, ← clr_sets] at hN'
      simp only [opW]
      rw [atV_ag hag', srcV_ag g2]
      exact hall _ ⟨h1, h2, h3, h4, hN'⟩
    · intro q hq
      simp only [HOp.wrs, List.mem_append] at hq ⊢
      rcases hq with hq | hq
      · exact .inl (clrT_mem hq)
      · right; simp at hq; simp [hq]
  | trk d x hi =>
    simp only [opW] at hW
    split at hW
    · rename_i e k rows ik n e1 e2
      obtain ⟨h1, h2, h3, h4, hN⟩ := hW
      refine .inl ⟨[(x, .hdr rows.length), (d, .stk e k (rows.take n.toNat))], by simp [HOp.wrs], hN, fun G N' X' hag hN' => ?_⟩
      have g1 : G.getD x .un = F.getD x .un := hag _ (by simp [HOp.rds])
      have g2 : getO G hi = getO F hi := getO_ag fun i hi' => hag i (List.mem_cons_of_mem _ hi')
      simp only [opW, g1, g2, e1, e2]
      exact ⟨h1, h2, h3, h4, hN'⟩
    · exact hW.elim
  | apk d e k x y =>
    simp only [opW] at hW
    split at hW
    · rename_i e' k' rows k'' rs e1 e2
      obtain ⟨h1, h2, h3, h4, h5, h6, hN⟩ := hW
      refine .inl ⟨[(x, .hdr rows.length), (d, .stk e k (rows ++ rs))], by simp [HOp.wrs], hN, fun G N' X' hag hN' => ?_⟩
      have g1 : G.getD x .un = F.getD x .un := hag _ (by simp [HOp.rds])
      have g2 : getO G y = getO F y := getO_ag fun i hi' => hag i (List.mem_cons_of_mem _ hi')
      simp only [opW, g1, g2, e1, e2]
      exact ⟨h1, h2, h3, h4, h5, h6, hN'⟩
    · exact hW.elim

theorem ho_does {h : HO} (hl : h.op.loc = true) {F : List Ct} {N : List Ct → Prop} {X : Value → List Ct → Prop} (hW : hoW P h F N X) : Does P h F N X := by
  obtain ⟨g, op⟩ := h
  cases g with
  | none =>
    rcases op_does hl hW with ⟨T, h1, h2, h3⟩ | ⟨v, F', h1, h2⟩
    · exact .inl ⟨T, h1, h2, fun G N' X' hag hN => h3 G N' X' hag hN⟩
    · exact .inr ⟨v, F', h1, fun G N' X' hag hN => h2 G N' X' hag hN⟩
  | some g =>
    obtain ⟨s, b⟩ := g
    have hgb : ∀ G, Ag (HO.rds ⟨some (s, b), op⟩) G F → guardB G (s, b) = guardB F (s, b) := by
      intro G hag
      unfold guardB
      rw [show G.getD (s, b).1 .un = F.getD (s, b).1 .un from hag s (by simp [HO.rds])]
    simp only [hoW] at hW
    split at hW
    · exact hW.elim
    · rename_i T hT
      cases op with
      | val d v =>
        simp only at hW
        split at hW
        · rename_i x e1
          refine .inl ⟨[(d, .gd T x)], by simp [HOp.wrs], hW.2, fun G N' X' hag hN => ?_⟩
          have e2 : ev G v = ev F v := ev_ag fun i hi => hag i (List.mem_append_right _ hi)
          simp only [hoW, hgb G hag, hT, e2, e1]
          exact ⟨hW.1, hN⟩
        · rename_i hne
          split at hW
          · refine .inl ⟨[(d, (ev F v).2)], by simp [HOp.wrs], hW.2, fun G N' X' hag hN => ?_⟩
            have e2 : ev G v = ev F v := ev_ag fun i hi => hag i (List.mem_append_right _ hi)
            have h1 := hW.1
            simp only [sets] at hN
            simp only [hoW, hgb G hag, hT, e2]
            revert hne h1 hN
            generalize ev F v = p
            obtain ⟨p1, p2⟩ := p
            cases p2 <;> intro hne hN h1 <;> first | exact (hne _ rfl).elim | exact ⟨h1, hN⟩ | exact ⟨hN, h1⟩
          · refine .inl ⟨[(d, .gd false (bv false))], by simp [HOp.wrs], hW, fun G N' X' hag hN => ?_⟩
            have e2 : ev G v = ev F v := ev_ag fun i hi => hag i (List.mem_append_right _ hi)
            simp only [hoW, hgb G hag, hT, e2]
            revert hne
            cases (ev F v).2 <;> intro hne <;> first | exact (hne _ rfl).elim | exact hN
      | call d f args =>
        cases d with
        | none => exact hW.elim
        | some d =>
          simp only at hW
          obtain ⟨h1, x, h2, h3⟩ := hW
          refine .inl ⟨[(d, .gd T x)], by simp [HOp.wrs, optL], h3, fun G N' X' hag hN => ?_⟩
          have e2 : avsV G args = avsV F args := avsV_ag _ fun i hi => hag i (List.mem_append_right _ (List.mem_append_left _ hi))
          simp only [hoW, hgb G hag, hT, e2]
          exact ⟨h1, x, h2, hN⟩
      | callv d y args =>
        cases d with
        | none => exact hW.elim
        | some d =>
          simp only at hW
          split at hW
          · rename_i f caps e1
            obtain ⟨h1, x, h2, h3⟩ := hW
            refine .inl ⟨[(d, .gd T x)], by simp [HOp.wrs, optL], h3, fun G N' X' hag hN => ?_⟩
            have e2 : avsV G args = avsV F args := avsV_ag _ fun i hi => hag i (List.mem_append_right _ (List.mem_append_right _ (List.mem_append_left _ hi)))
            have e3 : getO G y = getO F y := getO_ag fun i hi => hag i (List.mem_append_right _ (List.mem_append_left _ hi))
            simp only [hoW, hgb G hag, hT, e2, e3, e1]
            exact ⟨h1, x, h2, hN⟩
          · exact hW.elim
      | _ => exact hW.elim

/-! ### Whatever order -/

/-- An operation of a region that draws: its number in the text; whether all that comes behind it here waits for it (then it may panic); itself. -/
structure DO where
  i : Nat
  last : Bool
  h : HO
  deriving Inhabited

def dW (P : Program) : List DO → List Ct → (List Ct → Prop) → (Value → Prop) → Prop
  | [], F, N, _ => N F
  | d :: r, F, N, X => hoW P d.h F (fun F' => dW P r F' N X) (fun v _ => d.last = true ∧ X v)

def dAt (ds : List DO) (j : Nat) : Option HO := (ds.find? fun d => d.i == j).map (·.h)

def anyA (P : Program) (ops : Array Oper) (hs : Nat → Option HO) (N : List Ct → Prop) (X : Value → Prop) : Nat → Array Bool → List Ct → Prop
  | 0, listed, F => Region.ready .any ops listed = [] ∧ N F
  | fuel + 1, listed, F => (Region.ready .any ops listed = [] → N F) ∧
    ∀ i ∈ Region.ready .any ops listed, ∃ h, hs i = some h ∧ hoW P h F (anyA P ops hs N X fuel (listed.setIfInBounds i true)) (fun v _ => X v)

def disj (a b : List Nat) : Bool := a.all fun x => !b.contains x
theorem disj_spec {a b : List Nat} (h : disj a b = true) {x y : Nat} (hx : x ∈ a) (hy : y ∈ b) : x ≠ y := by
  simp only [disj, List.all_eq_true, Bool.not_eq_true', List.contains_eq_mem, decide_eq_false_iff_not] at h
  exact fun e => h x hx (e ▸ hy)

/-- Two operations do not meet. -/
def indep (h h' : HO) : Bool := disj h.op.wrs h'.rds && disj h'.op.wrs h.rds && disj h.op.wrs h'.op.wrs

def waitsFor (ops : Array Oper) (j i : Nat) : Bool := match ops[j]? with
  | some o => o.after.any fun e => Region.binds .any e && e.on == i
  | none => false

theorem waits_not_ready {ops : Array Oper} {listed : Array Bool} {i j : Nat} (hw : waitsFor ops j i = true) (hi : listed.getD i false = false) : j ∉ Region.ready .any ops listed := by
  intro hj
  unfold waitsFor at hw
  obtain ⟨_, oj, hoj, hall⟩ := mem_ready.1 hj
  rw [hoj] at hw
  simp only [Array.any_eq_true', Bool.and_eq_true, beq_iff_eq] at hw
  obtain ⟨e, he, hb, rfl⟩ := hw
  have := hall e he hb
  rw [hi] at this
  cases this

theorem getD_false_of_true {listed : Array Bool} {i : Nat} (h : listed.getD i true = false) : listed.getD i false = false := by
  simp only [Array.getD_eq_getD_getElem?] at *
  cases hx : listed[i]? with
  | none => rw [hx] at h; cases h
  | some b => rw [hx] at h; exact h

theorem anyA_first {ops : Array Oper} {hs : Nat → Option HO} {N : List Ct → Prop} {X : Value → Prop} {i : Nat} {h : HO} (hi : hs i = some h) {T : List (Nat × Ct)} (hT : ∀ p ∈ T, p.1 ∈ h.op.wrs) :
    ∀ (fuel : Nat) (listed : Array Bool) (F : List Ct),
      (∀ j, j ≠ i → listed.getD j true = false → waitsFor ops j i = true ∨ ∃ hj, hs j = some hj ∧ hj.op.loc = true ∧ indep h hj = true) →
      i ∈ Region.ready .any ops listed →
      (∀ G (N' : List Ct → Prop) (X' : Value → List Ct → Prop), Ag h.rds G F → N' (sets G T) → hoW P h G N' X') →
      anyA P ops hs N X fuel (listed.setIfInBounds i true) (sets F T) → anyA P ops hs N X (fuel + 1) listed F := by
  intro fuel
  induction fuel with
  | zero =>
    intro listed F hfree hr hD H
    refine ⟨fun h0 => (by rw [h0] at hr; cases hr), fun j hj => ?_⟩
    by_cases hji : j = i
    · subst hji
      exact ⟨h, hi, hD F _ _ (fun _ _ => rfl) H⟩
    · have := ready_mono hj hji
      rw [H.1] at this
      cases this
  | succ fuel ih =>
    intro listed F hfree hr hD H
    refine ⟨fun h0 => (by rw [h0] at hr; cases hr), fun j hj => ?_⟩
    by_cases hji : j = i
    · subst hji
      exact ⟨h, hi, hD F _ _ (fun _ _ => rfl) H⟩
    · obtain ⟨hj', e1, h1⟩ := H.2 j (ready_mono hj hji)
      have hun := (mem_ready.1 hj).1
      have hiun := (mem_ready.1 hr).1
      rcases hfree j hji hun with hw | ⟨hj'', e2, hloc, hind⟩
      · exact (waits_not_ready hw (getD_false_of_true hiun) hj).elim
      rw [e1] at e2
      injection e2 with e2
      subst e2
      simp only [indep, Bool.and_eq_true] at hind
      obtain ⟨⟨d1, d2⟩, d3⟩ := hind
      refine ⟨hj', e1, ?_⟩
      have hag1 : Ag hj'.rds F (sets F T) := fun x hx => (getD_sets T F fun p hp => disj_spec d1 (hT p hp) hx).symm
      rcases ho_does hloc h1 with ⟨T', hT', h2, h3⟩ | ⟨v, F', h2, h3⟩
      · refine h3 F _ _ hag1 ?_
        have hfree' : ∀ k, k ≠ i → (listed.setIfInBounds j true).getD k true = false → waitsFor ops k i = true ∨ ∃ hk, hs k = some hk ∧ hk.op.loc = true ∧ indep h hk = true := by
          intro k hki hkun
          refine hfree k hki ?_
          by_cases hjk : j = k
          · subst hjk; exact hun
          · rw [getD_set_ne true hjk] at hkun; exact hkun
        refine ih (listed.setIfInBounds j true) (sets F T') hfree' (ready_mono hr (Ne.symm hji)) ?_ ?_
        · intro G N' X' hag hN
          refine hD G N' X' (fun x hx => ?_) hN
          rw [hag x hx]
          exact getD_sets T' F fun p hp => disj_spec d2 (hT' p hp) hx
        · rw [Array.setIfInBounds_comm _ _ hji, sets_comm T' T F fun p hp q hq => (disj_spec d3 (hT q hq) (hT' p hp)).symm]
          exact h2
      · exact h3 F _ _ hag1 fun _ => h2

/-- One that may panic, for which all others wait. -/
theorem anyA_last {ops : Array Oper} {hs : Nat → Option HO} {N : List Ct → Prop} {X : Value → Prop} {i : Nat} {h : HO} (hi : hs i = some h) {fuel : Nat} {listed : Array Bool} {F : List Ct}
    (hr : i ∈ Region.ready .any ops listed) (hall : ∀ j ∈ Region.ready .any ops listed, j = i) (hW : hoW P h F (anyA P ops hs N X fuel (listed.setIfInBounds i true)) (fun v _ => X v)) : anyA P ops hs N X (fuel + 1) listed F :=
  ⟨fun h0 => (by rw [h0] at hr; cases hr), fun j hj => by rw [hall j hj]; exact ⟨h, hi, hW⟩⟩

/-- All that comes behind waits for it, or for one that does. -/
def allWait (ops : Array Oper) (i : Nat) : List Nat → List DO → Bool
  | _, [] => true
  | seen, d :: r => (i :: seen).any (fun k => waitsFor ops d.i k) && allWait ops i (d.i :: seen) r

/-- The walk's order is one that may come; what is not ordered does not meet. -/
def dGo (ops : Array Oper) : List DO → Array Bool → Bool
  | [], listed => (Region.ready .any ops listed).isEmpty
  | d :: r, listed => (Region.ready .any ops listed).contains d.i && d.h.op.loc && (r.all fun e => waitsFor ops e.i d.i || (e.h.op.loc && indep d.h e.h)) && (!d.last || allWait ops d.i [] r) && dGo ops r (listed.setIfInBounds d.i true)

def nodupI : List DO → Bool
  | [] => true
  | d :: r => r.all (fun e => e.i != d.i) && nodupI r

def dosChk (P : Program) (E : Env) (ops : Array Oper) (ds : List DO) : Bool :=
  P.follows .mixedOrders && nodupI ds && decide (ds.length = ops.size) && (List.range ops.size).all (fun j => ds.any fun d => d.i == j) && ds.all (fun d => match ops[d.i]? with | some o => hoChk P E ops d.h o | none => false) &&
  dGo ops ds (Array.replicate ops.size false)

theorem allWait_spec {ops : Array Oper} {listed : Array Bool} {i : Nat} (hi : listed.getD i false = false) : ∀ (r : List DO) (seen : List Nat), allWait ops i seen r = true → (∀ k ∈ seen, listed.getD k false = false) → (∀ d ∈ r, listed.getD d.i false = false) → ∀ d ∈ r, d.i ∉ Region.ready .any ops listed
  | [], _, _, _, _, d, hd => by cases hd
  | d0 :: r, seen, h, hs, hr, d, hd => by
    simp only [allWait, Bool.and_eq_true, List.any_eq_true] at h
    obtain ⟨⟨k, hk, hw⟩, h2⟩ := h
    rcases List.mem_cons.1 hd with e | hd
    · subst e
      refine waits_not_ready hw ?_
      rcases List.mem_cons.1 hk with e | hk
      · rw [e]; exact hi
      · exact hs k hk
    · refine allWait_spec hi r (d0.i :: seen) h2 ?_ (fun d hd => hr d (List.mem_cons_of_mem _ hd)) d hd
      intro k hk
      rcases List.mem_cons.1 hk with e | hk
      · rw [e]; exact hr d0 List.mem_cons_self
      · exact hs k hk

theorem dAt_mem {ds : List DO} (hn : nodupI ds = true) {d : DO} (hd : d ∈ ds) : dAt ds d.i = some d.h := by
  induction ds with
  | nil => cases hd
  | cons e r ih =>
    simp only [nodupI, Bool.and_eq_true, List.all_eq_true, bne_iff_ne, ne_eq] at hn
    unfold dAt
    rw [List.find?_cons]
    by_cases he : e.i = d.i
    · have : e = d := by
        rcases List.mem_cons.1 hd with h | h
        · exact h.symm
        · exact (hn.1 d h he.symm).elim
      subst this
      simp
    · have hne : (e.i == d.i) = false := by simp [he]
      rw [hne]
      rcases List.mem_cons.1 hd with h | h
      · subst h; exact (he rfl).elim
      · exact ih hn.2 h

theorem dW_any {ops : Array Oper} {ds : List DO} (hn : nodupI ds = true) {N : List Ct → Prop} {X : Value → Prop} : ∀ (r : List DO) (listed : Array Bool) (F : List Ct), (∀ d ∈ r, d ∈ ds) → (∀ j, listed.getD j true = false → ∃ d ∈ r, d.i = j) → (∀ d ∈ r, listed.getD d.i true = false) → nodupI r = true →
    dGo ops r listed = true → dW P r F N X → anyA P ops (dAt ds) N X r.length listed F
  | [], listed, F, _, _, _, _, hg, hW => ⟨by simpa [dGo] using hg, hW⟩
  | d :: r, listed, F, hds, hcov, hun, hnd, hg, hW => by
    simp only [dGo, Bool.and_eq_true, List.all_eq_true, Bool.or_eq_true, Bool.not_eq_true'] at hg
    obtain ⟨⟨⟨⟨hr, hloc⟩, hall⟩, hlast⟩, hgo⟩ := hg
    have hr' : d.i ∈ Region.ready .any ops listed := by simpa using hr
    have hi := dAt_mem hn (hds d List.mem_cons_self)
    have hiun := hun d List.mem_cons_self
    simp only [nodupI, Bool.and_eq_true, List.all_eq_true, bne_iff_ne, ne_eq] at hnd
    have hsz : d.i < listed.size := by
      rcases Nat.lt_or_ge d.i listed.size with h | h
      · exact h
      · simp [Array.getElem?_eq_none h] at hiun
    have rest : ∀ F', dW P r F' N X → anyA P ops (dAt ds) N X r.length (listed.setIfInBounds d.i true) F' := by
      intro F' hW'
      refine dW_any hn r _ F' (fun e he => hds e (List.mem_cons_of_mem _ he)) ?_ ?_ hnd.2 hgo hW'
      · intro j hj
        by_cases hji : d.i = j
        · subst hji
          simp [hsz] at hj
        · rw [getD_set_ne true hji] at hj
          obtain ⟨e, he, hej⟩ := hcov j hj
          rcases List.mem_cons.1 he with e' | he
          · subst e'; exact (hji hej).elim
          · exact ⟨e, he, hej⟩
      · intro e he
        rw [getD_set_ne true (fun e' => hnd.1 e he e'.symm)]
        exact hun e (List.mem_cons_of_mem _ he)
    simp only [dW] at hW
    simp only [List.length_cons]
    rcases ho_does hloc hW with ⟨T, hT, h2, h3⟩ | ⟨v, F', ⟨hl, hx⟩, h3⟩
    · refine anyA_first hi hT r.length listed F ?_ hr' h3 (rest _ h2)
      intro j hji hj
      obtain ⟨e, he, hej⟩ := hcov j hj
      rcases List.mem_cons.1 he with e' | he
      · subst e'; exact (hji hej.symm).elim
      · subst hej
        rcases hall e he with h | h
        · exact .inl h
        · exact .inr ⟨e.h, dAt_mem hn (hds e (List.mem_cons_of_mem _ he)), h.1, h.2⟩
    · have hl' : allWait ops d.i [] r = true := by
        rcases hlast with h | h
        · rw [hl] at h; cases h
        · exact h
      have hnr := allWait_spec (getD_false_of_true hiun) r [] hl' (by simp) (fun e he => getD_false_of_true (hun e (List.mem_cons_of_mem _ he)))
      refine anyA_last hi hr' ?_ (h3 F _ _ (fun _ _ => rfl) fun _ => hx)
      intro j hj
      obtain ⟨e, he, hej⟩ := hcov j (mem_ready.1 hj).1
      rcases List.mem_cons.1 he with e' | he
      · subst e'; exact hej.symm
      · subst hej; exact (hnr e he hj).elim

variable {E : Env} {S : Start}

theorem anyA_sound (wf : E.Wf) {ops : Array Oper} {hs : Nat → Option HO} {N : List Ct → Prop} {X : Value → Prop} {Q : Exit → Act → World → Prop} (hchk : ∀ (i : Nat) (h : HO), hs i = some h → ∃ o, ops[i]? = some o ∧ hoChk P E ops h o = true)
    (hN : ∀ F a w, N F → Inv E S F a w → Q .normal a w) (hX : ∀ v F a w, X v → Inv E S F a w → Q (.panic [{ v, recovered := false }]) a w) :
    ∀ (fuel : Nat) (listed : Array Bool) (F : List Ct) (a : Act) (w : World), Inv E S F a w → anyA P ops hs N X fuel listed F → wpAny P .any ops Q fuel listed a w
  | 0, _, F, a, w, hI, h => ⟨h.1, hN F a w h.2 hI⟩
  | fuel + 1, listed, F, a, w, hI, h => by
    refine ⟨fun h0 => hN F a w (h.1 h0) hI, fun i hi => ?_⟩
    obtain ⟨ho, e1, hW⟩ := h.2 i hi
    obtain ⟨o, e2, hk⟩ := hchk i ho e1
    obtain ⟨m, β, ow, hG⟩ := hI
    refine wpOp_mono ?_ (ho_sound (S := S) wf hG e2 hk (fun v F' a' w' hx hI' => hX v F' a' w' hx hI') hW)
    rintro a' w' ⟨F', hK', hI'⟩
    exact anyA_sound wf hchk hN hX fuel _ F' a' w' hI' hK'

/-- A REGION THAT DRAWS ITS ORDER. -/
theorem drawn_sound (wf : E.Wf) {id : Nat} {ops : Array Oper} {ds : List DO} (hk : dosChk P E ops ds = true) {N : List Ct → Prop} {X : Value → Prop} {Q : Exit → Act → World → Prop}
    (hN : ∀ F a w, N F → Inv E S F a w → Q .normal a w) (hX : ∀ v F a w, X v → Inv E S F a w → Q (.panic [{ v, recovered := false }]) a w) {F : List Ct} {a : Act} {w : World} (hI : Inv E S F a { w with drawn := w.drawn + 1 })
    (hW : dW P ds F N X) : (Code.region id ops true).wp P Q a w := by
  simp only [dosChk, Bool.and_eq_true, List.all_eq_true, decide_eq_true_eq, List.mem_range, List.any_eq_true, beq_iff_eq] at hk
  obtain ⟨⟨⟨⟨⟨hm, hn⟩, hlen⟩, hcov⟩, hchk⟩, hgo⟩ := hk
  refine wp_region_any hm (anyA_sound (hs := dAt ds) wf ?_ hN hX _ _ F a _ hI ?_)
  · intro i h hi
    unfold dAt at hi
    cases hf : ds.find? (fun d => d.i == i) with
    | none => rw [hf] at hi; cases hi
    | some d =>
      rw [hf] at hi
      simp only [Option.map_some, Option.some.injEq] at hi
      have hmem := List.mem_of_find?_eq_some hf
      have hdi := List.find?_some hf
      simp only [beq_iff_eq] at hdi
      have := hchk d hmem
      rw [hdi] at this
      split at this
      · rename_i o ho; exact ⟨o, ho, by rw [← hi]; exact this⟩
      · cases this
  · rw [← hlen]
    refine dW_any hn ds _ F (fun d hd => hd) ?_ ?_ hn (by rw [hlen]; exact hgo) hW
    · intro j hj
      rcases Nat.lt_or_ge j ds.length with h | h
      · rw [hlen] at h
        obtain ⟨d, hd, hdj⟩ := hcov j h
        exact ⟨d, hd, hdj⟩
      · simp [h] at hj
    · intro d hd
      have := hchk d hd
      split at this
      · rename_i o ho
        have : d.i < ds.length := by rw [hlen]; exact (Array.getElem?_eq_some_iff.1 ho).1
        simp [this]
      · cases this

end
end Go.Hx
