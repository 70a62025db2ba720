/-
  THE ABSTRACT LAYER, TENTH TEXT: code on the abstract frame; it is sound; a contract out of a function's code. Generic over the program. No condition.
-/
import Derived.Test.YtjnagiaooecklaaDoorHxR
set_option linter.all false
namespace Go.Hx
open Go.RowKit
variable [Glob]

/-- Steps of the proof's own: slots are forgotten; a box is frozen. -/
inductive Gh where
  | forget (l : List Nat)
  | frz (j base n : Nat)
  | pin (r j base : Nat) (pt : List (Opd × Nat))
  | unp (r j base : Nat) (pt : List (Opd × Nat))
  | vfr (r j base : Nat)
  deriving Inhabited

inductive HCode where
  | skip
  | reg (ops : List HO) (draw : Bool) (post : List Gh)
  | drg (ops : List DO) (post : List Gh)
  | rdr (i : Nat) (ops : List HO) (draw : Bool) (post : List Gh)
  | seq (a b : HCode)
  | cond (x : Opd) (a b : HCode)
  | block (id : Nat) (a : HCode)
  | loop (a : HCode)
  | exit (id : Nat)
  | ret
  deriving Inhabited

def frzC (j : Nat) (cs : List PV) : Ct → Ct
  | .ptr j' off => if j' = j then .pv (.one (.fp (cs.drop off))) else .ptr j' off
  | c => c

def forgetAll (F : List Ct) : List Nat → List Ct
  | [] => F
  | i :: r => forgetAll (F.set i .un) r

def ghW (F : List Ct) (K : List Ct → Prop) : List Gh → Prop
  | [] => K F
  | .forget l :: r => ghW (forgetAll F l) K r
  | .frz j base n :: r => match cellsPV F base n with
    | some cs => ghW (setCells (F.map (frzC j cs)) base (List.replicate n .un)) K r
    | none => False
  | .pin s _ _ pt :: r => match F.getD s .un with
    | .ov (.one root) => match root.get (pathV F pt).2 with
      | some (.os none e k rows) => (pathV F pt).1 ∧ ∀ b, ghW (F.set s (.ov (.one (root.upd (pathV F pt).2 (.os (some b) e k rows))))) K r
      | _ => False
    | _ => False
  | .unp s _ _ pt :: r => match F.getD s .un with
    | .ov (.one root) => match root.get (pathV F pt).2 with
      | some (.os _ e k rows) => (pathV F pt).1 ∧ ghW (F.set s (.ov (.one (root.upd (pathV F pt).2 (.os none e k rows))))) K r
      | _ => False
    | _ => False
  | .vfr s _ _ :: r => match F.getD s .un with
    | .ov (.one root) => match root.frz with
      | some x => ghW (F.set s (.pv (.one x))) K r
      | none => False
    | .ov (.agg cs) => match frzL cs with
      | some xs => ghW (F.set s (.pv (.agg xs))) K r
      | none => False
    | _ => False

def thenQ (K : List Ct → Prop) (Q : Exit → List Ct → Prop) : Exit → List Ct → Prop
  | .normal, F => K F
  | e, F => Q e F
def inBlockQ (id : Nat) (Q : Exit → List Ct → Prop) : Exit → List Ct → Prop
  | .exit id', F => if id' = id then Q .normal F else Q (.exit id') F
  | e, F => Q e F

/-- One may know less. -/
def leC (c c' : Ct) : Prop :=
  c' = .un ∨ c' = c ∨ match c, c' with
    | .own _ k rows, .pv (.one (.sl k' rows')) => k' = k ∧ rows' = rows
    | .pv (.one (.nl k)), .pv (.one (.sl k' rows')) => k' = k ∧ rows' = []
    | .pv (.one (.nl _)), .own _ _ rows' => rows' = []
    | .pv (.one (.nl _)), .ov (.one (.os none _ _ rows')) => rows' = []
    | .gd true x, .pv y => x = y
    | _, _ => False
def Le : List Ct → List Ct → Prop
  | [], l => l = []
  | c :: cs, l => ∃ c' cs', l = c' :: cs' ∧ leC c c' ∧ Le cs cs'

def hwp (P : Program) : HCode → (Exit → List Ct → Prop) → List Ct → Prop
  | .skip, Q, F => Q .normal F
  | .reg ops draw post, Q, F => match draw with
    | false => opsW P ops F (fun F' => ghW F' (fun F'' => Q .normal F'') post) (fun v F' => Q (.panic [{ v, recovered := false }]) F')
    | true => drwW P ops F (fun F' => ghW F' (fun F'' => Q .normal F'') post)
  | .drg ds post, Q, F => dW P ds F (fun F' => ghW F' (fun F'' => Q .normal F'') post) (fun v => ∀ F', Q (.panic [{ v, recovered := false }]) F')
  | .rdr i ops _ post, Q, F => match F.getD i .un with
    | .stk e k rows => drwW P ops (F.set i (.own e k rows)) (fun F1 => ghW (back F F1 (dsts ops)) (fun F'' => Q .normal F'') post)
    | _ => False
  | .seq a b, Q, F => hwp P a (thenQ (hwp P b Q) Q) F
  | .cond x a b, Q, F => match (getO F x).pv? with
    | some (.one (.v (.bool t))) => (getO F x).need ∧ (t = true → hwp P a Q F) ∧ (t = false → hwp P b Q F)
    | _ => False
  | .block id a, Q, F => hwp P a (inBlockQ id Q) F
  | .loop a, Q, F => ∃ I : Nat → List Ct → Prop, (∃ n F', Le F F' ∧ I n F') ∧ ∀ n F1, I n F1 → hwp P a (thenQ (fun F2 => ∃ n' F', n' < n ∧ Le F2 F' ∧ I n' F') Q) F1
  | .exit id, Q, F => Q (.exit id) F
  | .ret, Q, F => Q .ret F

section
variable {P : Program} {E : Env} {S : Start} {m : Mem} {β : Bx} {ow : Ow} {F : List Ct} {a : Act} {w : World}

theorem Le.length : ∀ {F F' : List Ct}, Le F F' → F'.length = F.length
  | [], l, h => by simp only [Le] at h; subst h; rfl
  | c :: cs, l, h => by
    simp only [Le] at h
    obtain ⟨c', cs', rfl, _, h2⟩ := h
    simp [Le.length h2]
theorem Le.get : ∀ {F F' : List Ct}, Le F F' → ∀ i, leC (F.getD i .un) (F'.getD i .un)
  | [], l, h, i => by simp only [Le] at h; subst h; exact .inl (by simp)
  | c :: cs, l, h, i => by
    simp only [Le] at h
    obtain ⟨c', cs', rfl, h1, h2⟩ := h
    cases i with
    | zero => simpa using h1
    | succ i => simpa using Le.get h2 i

theorem ovOk_nil {t : Tag} {e k : Nat} : OvOk m w ow t (.one (.os none e k [])) (.slice none 0 0) := by
  refine ⟨[], ?_, List.nodup_nil, fun g hg => by cases hg⟩
  simp only [OvV, OvR, OvRows]
  exact ⟨[], [], World.ownsRow_nil w 0 e k, ⟨rfl, rfl⟩, by simp [blk, Value.ownBlock], fun b h => by cases h⟩
theorem leC.ct {i : Nat} {c c' : Ct} {u : Value} (h : leC c c') (hc : CtRep m w β ow i c u) : CtRep m w β ow i c' u := by
  rcases h with h | h | h
  · rw [h]; trivial
  · rw [h]; exact hc
  · split at h
    · obtain ⟨rfl, rfl⟩ := h; exact OwnRep.rp hc
    · obtain ⟨rfl, rfl⟩ := h; exact Rp.norm (x := .nl _) hc
    · subst h
      have hu : u = .slice none 0 0 := hc
      subst hu
      exact (OwnAt.nil m w _ _).rep fun g hg => by simp [Value.ownBlock] at hg
    · subst h
      have hu : u = .slice none 0 0 := hc
      subst hu
      exact ovOk_nil
    · subst h; exact hc.1 rfl
    · exact h.elim

theorem leC.cell {i : Nat} {c c' : Ct} {u : Value} (h : leC c c') (hc : CellRep m w ow i c u) : CellRep m w ow i c' u := by
  rcases h with h | h | h
  · rw [h]; trivial
  · rw [h]; exact hc
  · split at h
    · obtain ⟨rfl, rfl⟩ := h; exact OwnRep.rp hc
    · obtain ⟨rfl, rfl⟩ := h; exact Rp.norm (x := .nl _) hc
    · subst h
      have hu : u = .slice none 0 0 := hc
      subst hu
      exact (OwnAt.nil m w _ _).rep fun g hg => by simp [Value.ownBlock] at hg
    · subst h
      have hu : u = .slice none 0 0 := hc
      subst hu
      exact ovOk_nil
    · exact hc.elim
    · exact h.elim

theorem leC.un {c' : Ct} (h : leC .un c') : c' = .un := by
  cases c' with
  | un => rfl
  | _ => simp [leC] at h

theorem leC.unc {c c' : Ct} (h : leC c c') (hc : unC c) : unC c' := by
  rcases hc with rfl | rfl
  · exact .inl h.un
  · rcases h with h | h | h
    · exact .inl h
    · exact .inr h
    · exact h.elim

theorem InvG.le {F' : List Ct} (h : InvG E S m β ow F a w) (hl : Le F F') : InvG E S m β ow F' a w where
  lenF := by rw [hl.length, h.lenF]
  lenA := h.lenA
  dfr := h.dfr
  slots := fun i hi => (hl.get i).ct (h.slots i hi)
  boxes := fun j bn hj => by
    have hB := h.boxes j bn hj
    cases hb : β j with
    | none =>
      rw [hb] at hB
      intro o ho
      exact (hl.get (bn.1 + o)).unc (hB o ho)
    | some b =>
      rw [hb] at hB
      obtain ⟨h1, h2, cs, T, h3, h4, h5⟩ := hB
      exact ⟨h1, h2, cs, T, h3, h4, fun o ho => (hl.get _).cell (h5 o ho)⟩
  mem := h.mem
  mle := h.mle
  pres := h.pres
  own := h.own
  lt := h.lt
  new := h.new
  fix := h.fix

theorem getD_forgetAll : ∀ (l : List Nat) (F : List Ct) (i : Nat), (forgetAll F l).getD i .un = if i ∈ l then .un else F.getD i .un
  | [], F, i => by simp [forgetAll]
  | x :: r, F, i => by
    simp only [forgetAll]
    rw [getD_forgetAll r, getD_set]
    by_cases h1 : i ∈ r
    · rw [if_pos h1, if_pos (List.mem_cons_of_mem _ h1)]
    · rw [if_neg h1]
      by_cases h2 : x = i
      · subst h2
        rw [if_pos List.mem_cons_self]
        split
        · rfl
        · rename_i h3
          rw [List.getD_eq_getElem?_getD, List.getElem?_eq_none (by omega)]
          rfl
      · rw [if_neg (by omega), if_neg (by simp [h1]; omega)]
theorem length_forgetAll : ∀ (l : List Nat) (F : List Ct), (forgetAll F l).length = F.length
  | [], _ => rfl
  | x :: r, F => by simp only [forgetAll]; rw [length_forgetAll r]; simp

theorem Le.of_get : ∀ {F F' : List Ct}, F'.length = F.length → (∀ i, leC (F.getD i .un) (F'.getD i .un)) → Le F F'
  | [], l, h, _ => by simp only [Le]; exact List.eq_nil_of_length_eq_zero (by simpa using h)
  | c :: cs, [], h, _ => by simp at h
  | c :: cs, c' :: cs', h, g => by
    simp only [Le]
    exact ⟨c', cs', rfl, by simpa using g 0, Le.of_get (by simpa using h) fun i => by simpa using g (i + 1)⟩

theorem Le.forget (F : List Ct) (l : List Nat) : Le F (forgetAll F l) :=
  Le.of_get (length_forgetAll l F) fun i => by
    rw [getD_forgetAll]
    split
    · exact .inl rfl
    · exact .inr (.inl rfl)

theorem getD_map_frz (F : List Ct) (j i : Nat) (cs : List PV) : (F.map (frzC j cs)).getD i .un = frzC j cs (F.getD i .un) := by
  simp only [List.getD_eq_getElem?_getD, List.getElem?_map]
  cases F[i]? <;> rfl

/-- A box is frozen: from here on it is read alone. -/
theorem inv_frz (wf : E.Wf) (h : Inv E S F a w) {j base n : Nat} (hfj : E.nfix ≤ j) (hj : E.Γ[j]? = some (base, n)) {cs : List PV} (hc : cellsPV F base n = some cs) : Inv E S (setCells (F.map (frzC j cs)) base (List.replicate n .un)) a w := by
  obtain ⟨m, β, ow, h⟩ := h
  have hL := h.lenF
  have hlo := wf.lo j _ hj
  have hhi := wf.hi j _ hj
  have hle := wf.le
  simp only at hlo hhi
  have hB := h.boxes j _ hj
  cases hb : β j with
  | none =>
    -- the box is not there: no slot points to it
    refine ⟨m, β, ow, ?_⟩
    rw [hb] at hB
    refine ⟨by rw [length_setCells]; simp [hL], h.lenA, h.dfr, ?_, ?_, h.mem, h.mle, h.pres, h.own, h.lt, h.new, h.fix⟩
    · intro i hi
      rw [getD_setCells, if_neg (by omega), getD_map_frz]
      have hs := h.slots i hi
      generalize F.getD i .un = c at hs
      cases c with
      | ptr j' off =>
        simp only [frzC]
        split
        · rename_i e; subst e
          obtain ⟨b, hb', _⟩ := hs
          rw [hb] at hb'; cases hb'
        · exact hs
      | _ => exact hs
    · intro j' bn hj'
      have hlo' := wf.lo j' bn hj'
      have hF : ∀ o, o < bn.2 → leC (F.getD (bn.1 + o) .un) ((setCells (F.map (frzC j cs)) base (List.replicate n .un)).getD (bn.1 + o) .un) := by
        intro o ho
        rw [getD_setCells]
        split
        · left; rw [List.getD_eq_getElem?_getD, List.getElem?_replicate]; split <;> rfl
        · rw [getD_map_frz]
          have hB' := h.boxes j' bn hj'
          cases hb' : β j' with
          | none => rw [hb'] at hB'; rcases hB' o ho with e | e <;> rw [e] <;> exact .inr (.inl rfl)
          | some b' =>
            rw [hb'] at hB'
            have := hB'.2.2
            obtain ⟨vs, T, _, _, h5⟩ := this
            have h6 := h5 o ho
            generalize F.getD (bn.1 + o) .un = c at h6
            cases c with
            | ptr j'' off => exact h6.elim
            | _ => exact .inr (.inl rfl)
      have hB' := h.boxes j' bn hj'
      cases hb' : β j' with
      | none =>
        rw [hb'] at hB'
        intro o ho
        exact (hF o ho).unc (hB' o ho)
      | some b' =>
        rw [hb'] at hB'
        obtain ⟨h1, h2, vs, T, h3, h4, h5⟩ := hB'
        exact ⟨h1, h2, vs, T, h3, h4, fun o ho => (hF o ho).cell (h5 o ho)⟩
  | some b =>
    rw [hb] at hB
    obtain ⟨vs, T, hh, hsz, hr⟩ := box_whole hB hc
    have hbo := hB.1
    have hbf := hB.2.1
    have hmle : m.le (fun b' o => if b' = b then vs[o]? else m b' o) := by
      intro b' o u hu
      simp only
      rw [if_neg (fun e => by subst e; rw [hbf o] at hu; cases hu)]
      exact hu
    have st : Step (fun t => t = .box j) m (fun b' o => if b' = b then vs[o]? else m b' o) w w ow (fun b' => if b' = b then none else ow b') := by
      refine ⟨hmle, fun g t hg hx => ?_⟩
      have hne : g ≠ b := fun e => by subst e; rw [hbo] at hg; exact hx (Option.some.inj hg).symm
      exact ⟨rfl, fun o => by rw [if_neg hne], by rw [if_neg hne]; exact hg⟩
    refine ⟨fun b' o => if b' = b then vs[o]? else m b' o, fun i => if i = j then none else β i, fun b' => if b' = b then none else ow b', ?_⟩
    refine ⟨by rw [length_setCells]; simp [hL], h.lenA, h.dfr, ?_, ?_, ?_, Mem.le_trans h.mle hmle, h.pres, ?_, ?_, ?_, ?_⟩
    · intro i hi
      rw [getD_setCells, if_neg (by omega), getD_map_frz]
      have hs := (h.slots i hi).step st (by rintro h3; cases h3)
      generalize F.getD i .un = c at hs
      cases c with
      | ptr j' off =>
        simp only [frzC]
        obtain ⟨b', hb', hv⟩ := hs
        split
        · rename_i e; subst e
          rw [hb] at hb'
          injection hb' with hb'
          subst hb'
          refine ⟨b, off, hv, RpAt.of_get fun i x hx => ?_⟩
          rw [List.getElem?_drop] at hx
          have hlt : off + i < vs.toList.length := by rw [hr.length]; exact (List.getElem?_eq_some_iff.1 hx).1
          refine ⟨vs.toList[off + i], by simp only [if_true]; rw [← Array.getElem?_toList, List.getElem?_eq_getElem hlt], Rp.mono hmle _ _ (hr.get _ _ _ hx (List.getElem?_eq_getElem hlt))⟩
        · rename_i hne
          exact ⟨b', by simp only; rw [if_neg hne]; exact hb', hv⟩
      | un => trivial
      | una => trivial
      | pv x => exact hs
      | own e k rows => exact hs
      | tup xs => exact hs
      | gd t x => exact hs
      | stk e k rows => exact hs
      | hdr n => exact hs
      | ov x => exact hs
      | hdp b k n => exact hs
      | epp b k r f => exact hs
    · intro j' bn hj'
      by_cases hjj : j' = j
      · subst hjj
        rw [hj] at hj'
        injection hj' with hj'
        subst hj'
        simp only [if_true]
        intro o ho
        simp only at ho ⊢
        rw [getD_setCells, if_pos (by simp; omega)]
        have e : base + o - base = o := by omega
        rw [e]
        exact .inl (by rw [List.getD_eq_getElem?_getD, List.getElem?_replicate, if_pos ho]; rfl)
      · rw [if_neg hjj]
        have hap := wf.ap j' j _ _ hj' hj hjj
        have hlo' := wf.lo j' bn hj'
        simp only at hap
        have hB' := h.boxes j' bn hj'
        have hF : ∀ o, o < bn.2 → (setCells (F.map (frzC j cs)) base (List.replicate n .un)).getD (bn.1 + o) .un = frzC j cs (F.getD (bn.1 + o) .un) := by
          intro o ho
          rw [getD_setCells, if_neg (by simp; omega), getD_map_frz]
        cases hb' : β j' with
        | none =>
          rw [hb'] at hB'
          intro o ho
          rw [hF o ho]
          rcases hB' o ho with e | e <;> rw [e]
          · exact .inl rfl
          · exact .inr rfl
        | some b' =>
          rw [hb'] at hB'
          obtain ⟨h1, h2, vs', T', h3, h4, h5⟩ := hB'
          obtain ⟨h6, h7, h8⟩ := st.keep b' _ h1 (by rintro h3; injection h3 with h3; exact hjj h3)
          refine ⟨h8, fun o => (h7 o).trans (h2 o), vs', T', h6.trans h3, h4, fun o ho => ?_⟩
          rw [hF o ho]
          have := (h5 o ho).step st (by rintro h3; cases h3)
          generalize F.getD (bn.1 + o) .un = c at this
          cases c with
          | ptr j'' off => exact this.elim
          | _ => exact this
    · intro b' o u hu
      simp only at hu
      split at hu
      · rename_i e
        subst e
        rw [cell_of_row w b' o vs T (0, 0) hh]
        exact hu
      · exact h.mem b' o u hu
    · intro b' t hb'
      split at hb'
      · cases hb'
      · exact h.own b' t hb'
    · intro b' t hb'
      split at hb'
      · cases hb'
      · exact h.lt b' t hb'
    · intro b' o u hu
      have hu' : (if b' = b then vs[o]? else m b' o) = some u := hu
      split at hu'
      · rename_i e
        subst e
        exact .inr (h.own b' _ hbo)
      · exact h.new b' o u hu'
    · intro j' hj'
      have : (if j' = j then none else β j') = S.b0 j' := by rw [if_neg (by omega)]; exact h.fix j' hj'
      exact this

def ghChk (E : Env) : List Gh → Bool
  | [] => true
  | .forget _ :: r => ghChk E r
  | .frz j base n :: r => decide (E.nfix ≤ j) && boxIs E j base n && ghChk E r
  | .pin s j base _ :: r => rootOk E s j base && ghChk E r
  | .unp s j base _ :: r => rootOk E s j base && ghChk E r
  | .vfr s j base :: r => rootOk E s j base && ghChk E r

/-- The same blocks under another tree. -/
theorem inv_retree (wf : E.Wf) (h : Inv E S F a w) {s j base : Nat} (hr : rootOk E s j base = true) {root : OV} (hx : F.getD s .un = .ov (.one root)) : ∃ u : Value, ∀ root' : OV, (∀ m fp, OvR m w root u fp → OvR m w root' u fp) → Inv E S (F.set s (.ov (.one root'))) a w := by
  obtain ⟨m, β, ow, h⟩ := h
  obtain ⟨u, fp, hat, hrep, hnd, hown⟩ := root_get wf h hr hx
  refine ⟨u, fun root' hc => ?_⟩
  have hD := detach wf h fun g hg => (hown g hg).1
  have hA := attach wf hD hat (hc m fp hrep) hnd (loose_of h hown)
  rw [List.set_set] at hA
  exact ⟨m, β, _, hA⟩

/-- The block of a slice of a tree is given a name. -/
theorem inv_pin (wf : E.Wf) (h : Inv E S F a w) {s j base : Nat} (hr : rootOk E s j base = true) {root : OV} (hx : F.getD s .un = .ov (.one root)) {p : List (Nat × Nat)} {e k : Nat} {rows : List (List OV)} (hg : root.get p = some (.os none e k rows)) : ∃ b, Inv E S (F.set s (.ov (.one (root.upd p (.os (some b) e k rows))))) a w := by
  have h0 := h
  obtain ⟨m, β, ow, h1⟩ := h0
  obtain ⟨u, fp, hat, hrep, hnd, hown⟩ := root_get wf h1 hr hx
  obtain ⟨v, f1, fy, f2, rfl, g1, _, g2⟩ := OvR.focus p _ _ u fp hrep hg
  have hnew := g2 m w (.os (some ((v.ownBlock).getD 0)) e k rows) fy m.le_refl (fun _ _ => rfl) (by
    obtain ⟨xs, f, k1, k2, k3, rfl, _⟩ := ovR_os.1 g1
    refine ovR_os.2 ⟨xs, f, k1, k2, k3, rfl, fun b hb hne => ?_⟩
    injection hb with hb
    rcases k1.2 with ⟨_, h6⟩ | ⟨g, cap, cur, rfl, _⟩
    · exact (hne (List.eq_nil_of_length_eq_zero h6)).elim
    · rw [← hb]; rfl)
  refine ⟨(v.ownBlock).getD 0, ?_⟩
  have hD := detach wf h1 fun g hg => (hown g hg).1
  have hA := attach wf hD hat hnew hnd (loose_of h1 hown)
  rw [List.set_set] at hA
  exact ⟨m, β, _, hA⟩

theorem inv_unp (wf : E.Wf) (h : Inv E S F a w) {s j base : Nat} (hr : rootOk E s j base = true) {root : OV} (hx : F.getD s .un = .ov (.one root)) {p : List (Nat × Nat)} {pb : Option Nat} {e k : Nat} {rows : List (List OV)} (hg : root.get p = some (.os pb e k rows)) : Inv E S (F.set s (.ov (.one (root.upd p (.os none e k rows))))) a w := by
  obtain ⟨u, hu⟩ := inv_retree wf h hr hx
  refine hu _ fun m fp hrep => ?_
  obtain ⟨v, f1, fy, f2, rfl, g1, _, g2⟩ := OvR.focus p _ _ u fp hrep hg
  refine g2 m w _ fy m.le_refl (fun _ _ => rfl) ?_
  obtain ⟨xs, f, k1, k2, k3, rfl, _⟩ := ovR_os.1 g1
  exact ovR_os.2 ⟨xs, f, k1, k2, k3, rfl, fun b hb => by cases hb⟩

/-- The world is as it was, more is frozen: blocks that are nobody's. -/
theorem inv_freeze {m : Mem} {β : Bx} {ow : Ow} (h : InvG E S m β ow F a w) {m' : Mem} {fp : List Nat} (hle : m.le m') (hm : MemOk m' w) (hout : ∀ g o, g ∉ fp → m' g o = m g o) (hl : Loose S m w ow fp) : InvG E S m' β ow F a w :=
  h.quiet { le := hle, mem := hm, heap := fun _ _ _ => rfl, free := fun b t o hb => hout b o fun hc => (by rw [(hl b hc).1] at hb; cases hb),
            new := fun b o u hu => (by
              by_cases hc : b ∈ fp
              · exact .inr (hl b hc).2.1
              · rw [hout b o hc] at hu; exact .inl hu),
            pres := Pres.refl _ _ }

theorem inv_vfr (wf : E.Wf) (h : Inv E S F a w) {s j base : Nat} (hr : rootOk E s j base = true) {root : OV} (hx : F.getD s .un = .ov (.one root)) {x : PV} (hf : root.frz = some x) : Inv E S (F.set s (.pv (.one x))) a w := by
  obtain ⟨m, β, ow, h⟩ := h
  obtain ⟨u, fp, hat, hrep, hnd, hown⟩ := root_get wf h hr hx
  have hD := detach wf h fun g hg => (hown g hg).1
  have hl := loose_of h hown
  obtain ⟨m', g1, g2, g3, g4⟩ := OvR.freeze w root m u fp x hrep hf h.mem hnd fun g hg => (hown g hg).2
  have hD' := inv_freeze hD g1 g2 g3 hl
  have := hD'.setIx wf hat (c := .pv (.one x)) (fun _ => g4) (fun _ => g4)
  rw [List.set_set] at this
  exact ⟨m', β, _, this⟩

theorem inv_vfrA (wf : E.Wf) (h : Inv E S F a w) {s j base : Nat} (hr : rootOk E s j base = true) {cs : List OV} (hx : F.getD s .un = .ov (.agg cs)) {xs : List PV} (hf : frzL cs = some xs) : Inv E S (F.set s (.pv (.agg xs))) a w := by
  obtain ⟨m, β, ow, h⟩ := h
  have hsN : s < E.N := by
    rcases rootOk_of hr with hs | ⟨n, hj, h1, h2⟩
    · exact hs
    · exfalso
      have hB := h.boxes j _ hj
      cases hb : β j with
      | none =>
        rw [hb] at hB
        have := hB (s - base) (by simp only; omega)
        simp only at this
        rw [show base + (s - base) = s by omega, hx] at this
        rcases this with e | e <;> cases e
      | some b =>
        rw [hb] at hB
        obtain ⟨_, _, vs, T, _, _, g5⟩ := hB
        have := g5 (s - base) (by simp only; omega)
        simp only at this
        rw [show base + (s - base) = s by omega, hx] at this
        exact this
  have hs := h.slots s hsN
  rw [hx] at hs
  obtain ⟨fp, ⟨us, hus, hrep⟩, hnd, hown⟩ := hs
  have hD := detach wf h fun g hg => (hown g hg).1
  have hl := loose_of h hown
  obtain ⟨m', g1, g2, g3, g4⟩ := OvL.freeze w cs m us fp xs hrep hf h.mem hnd fun g hg => (hown g hg).2
  have hD' := inv_freeze hD g1 g2 g3 hl
  have := hD'.setIx wf (r := s) (u := a.tmps.getD s undef) (.inl ⟨hsN, rfl⟩) (c := .pv (.agg xs)) (fun _ => ⟨us, hus, g4⟩) (fun h' => by omega)
  rw [List.set_set] at this
  exact ⟨m', β, _, this⟩

theorem gh_sound (wf : E.Wf) {K : List Ct → Prop} : ∀ {l : List Gh} {F : List Ct}, ghChk E l = true → Inv E S F a w → ghW F K l → Lift E S K a w
  | [], F, _, h, hW => ⟨F, hW, h⟩
  | .forget l :: r, F, hk, h, hW => by
    obtain ⟨m, β, ow, h⟩ := h
    exact gh_sound wf (l := r) hk ⟨m, β, ow, h.le (Le.forget F l)⟩ hW
  | .frz j base n :: r, F, hk, h, hW => by
    simp only [ghChk, Bool.and_eq_true] at hk
    simp only [ghW] at hW
    split at hW
    · rename_i cs e1
      exact gh_sound wf (l := r) hk.2 (inv_frz wf h (of_decide_eq_true hk.1.1) (boxIs_of hk.1.2) e1) hW
    · exact hW.elim
  | .pin s j base pt :: r, F, hk, h, hW => by
    simp only [ghChk, Bool.and_eq_true] at hk
    simp only [ghW] at hW
    split at hW
    · rename_i root e1
      split at hW
      · rename_i e k rows e2
        obtain ⟨b, hb⟩ := inv_pin wf h hk.1 e1 e2
        exact gh_sound wf (l := r) hk.2 hb (hW.2 b)
      · exact hW.elim
    · exact hW.elim
  | .unp s j base pt :: r, F, hk, h, hW => by
    simp only [ghChk, Bool.and_eq_true] at hk
    simp only [ghW] at hW
    split at hW
    · rename_i root e1
      split at hW
      · rename_i pb e k rows e2
        exact gh_sound wf (l := r) hk.2 (inv_unp wf h hk.1 e1 e2) hW.2
      · exact hW.elim
    · exact hW.elim
  | .vfr s j base :: r, F, hk, h, hW => by
    simp only [ghChk, Bool.and_eq_true] at hk
    simp only [ghW] at hW
    split at hW
    · rename_i root e1
      split at hW
      · rename_i x e2
        exact gh_sound wf (l := r) hk.2 (inv_vfr wf h hk.1 e1 e2) hW
      · exact hW.elim
    · rename_i cs e1
      split at hW
      · rename_i xs e2
        exact gh_sound wf (l := r) hk.2 (inv_vfrA wf h hk.1 e1 e2) hW
      · exact hW.elim
    · exact hW.elim

end
end Go.Hx
