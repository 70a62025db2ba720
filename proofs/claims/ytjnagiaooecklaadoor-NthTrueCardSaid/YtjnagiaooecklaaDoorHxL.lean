/-
  THE ABSTRACT LAYER, TWELFTH TEXT: a contract out of a function's code. Generic over the program. No condition.
-/
import Derived.Test.YtjnagiaooecklaaDoorHxK
set_option linter.all false
namespace Go.Hx
open Go.RowKit
variable [Glob]

def argCt : AV → Ct
  | .val x => .pv x
  | .own e k rows => .own e k rows
  | .io _ => .ptr 0 0

def ioOf : List AV → Option (List PV)
  | x :: as => match x with | .io cells => some cells | _ => ioOf as
  | [] => none

def nOwn : List AV → Nat
  | x :: as => match x with | .own _ _ _ => nOwn as + 1 | _ => nOwn as
  | [] => 0
def nIo : List AV → Nat
  | x :: as => match x with | .io _ => nIo as + 1 | _ => nIo as
  | [] => 0
def ownIx : List AV → Nat
  | x :: as => match x with | .own _ _ _ => 0 | _ => ownIx as + 1
  | [] => 0

/-- Cells of boxes that are not there yet. -/
def markU : List Nat → List Ct → List Ct
  | [], F => F
  | i :: r, F => markU r (F.set i .una)
/-- The frame a call begins with. -/
def F0 (E : Env) (base : Nat) (as : List AV) : List Ct := markU E.una (
  setCells (as.map argCt ++ List.replicate (E.L - as.length) .un) base (match ioOf as with | some cs => cs.map fun x => .pv (.one x) | none => []))

def formOk (E : Env) (base : Nat) (as : List AV) : Prop :=
  as.length ≤ E.N ∧ nOwn as ≤ 1 ∧ nIo as ≤ 1 ∧ match ioOf as with | some cs => E.nfix = 1 ∧ E.Γ[0]? = some (base, cs.length) | none => E.nfix = 0

inductive RSrc where
  | tmp (t : Nat)
  | cellB (t j base off n : Nat) (agg : Bool)
  | cellF (t n : Nat) (agg : Bool)
  deriving Inhabited

def rsOk (P : Program) (E : Env) : RSrc → ResultVar → Bool
  | .tmp t, .tmp t' => t == t' && decide (t < E.N)
  | .cellB t j base off n agg, .cell a ty => t == a && decide (t < E.N) && boxHas E j base (off + n) && isAggT P ty == some agg && szOf P ty == some n && (agg || n == 1)
  | .cellF t n agg, .cell a ty => t == a && decide (t < E.N) && isAggT P ty == some agg && szOf P ty == some n && (agg || n == 1)
  | _, _ => false
def rssOk (P : Program) (E : Env) : List RSrc → List ResultVar → Bool
  | [], [] => true
  | x :: xs, y :: ys => rsOk P E x y && rssOk P E xs ys
  | _, _ => false

def rsOp : RSrc → VOp
  | .tmp t => .mv (.t t)
  | .cellB t j base off n agg => .ldB (.t t) j base off n agg
  | .cellF t n agg => .ldR (.t t) n agg

def rsV (F : List Ct) : RSrc → PVal → Prop
  | .tmp t, x => match (getO F (.t t)).pv? with
    | some p => (getO F (.t t)).need ∧ (x = p ∨ x = p.norm)
    | none => False
  | .cellB t j base off n agg, x => match F.getD t .un, cellsPV F (base + off) n with
    | .ptr j' off', some cs => j' = j ∧ off' = off ∧ (x = (if agg then .agg cs else .one (cs.headD (.nl 0))) ∨ x = (if agg then PVal.agg cs else .one (cs.headD (.nl 0))).norm)
    | _, _ => False
  | .cellF t n agg, x => match (getO F (.t t)).pv? with
    | some (.one (.fp cs)) => (getO F (.t t)).need ∧ cs.length = n ∧ x = if agg then .agg (cs.map PV.norm) else .one (cs.headD (.nl 0)).norm
    | _ => False
def rsVs (F : List Ct) : List RSrc → List PVal → Prop
  | [], xs => xs = []
  | r :: rs, l => match l with | x :: xs => rsV F r x ∧ rsVs F rs xs | [] => False

def finRes (F : List Ct) (rs : List RSrc) : Res → Prop
  | .val x => match rs with | [r] => rsV F r x | _ => False
  | .own e k rows => match rs with | [.tmp t] => F.getD t .un = .own e k rows | _ => False
  | .tup xs => match rs with | [_] => False | _ => rsVs F rs xs
  | .pan _ => False
  | .ov x => match rs with
    | [.tmp t] => F.getD t .un = .ov x
    | [.cellB t j base off n agg] => F.getD t .un = .ptr j off ∧ ∃ cs, cellsOV F (base + off) n = some cs ∧ x = mkOV agg cs
    | _ => False

def finQ (E : Env) (base : Nat) (as : List AV) (rs : List RSrc) (r : RV) : Exit → List Ct → Prop
  | .normal, F | .ret, F => finRes F rs r.res ∧ ∀ cs, ioOf as = some cs → cellsPV F base cs.length = some r.io
  | .panic ch, _ => ∃ v, r.res = .pan v ∧ ch = [{ v, recovered := false }]
  | _, _ => False

section
variable {P : Program} {E : Env} {S : Start} {m : Mem} {β : Bx} {ow : Ow} {F : List Ct} {a : Act} {w : World}

/-- One result is read. -/
def rdR (tmps : Array Value) : ResultVar → Sem Value
  | .tmp t => pure (tmps.getD t undef)
  | .cell a t => do loadVar t (← asAddr (tmps.getD a undef))

theorem rs_sound (h : InvG E S m β ow F a w) {r : RSrc} {s : ResultVar} (hk : rsOk P E r s = true) {x : PVal} (hx : rsV F r x) :
    ∃ u, (rdR a.tmps s).run P w = .ok u w ∧ RpV m x u := by
  cases r with
  | tmp t =>
    cases s <;> simp only [rsOk] at hk <;> try cases hk
    rename_i t'
    simp only [Bool.and_eq_true, beq_iff_eq, decide_eq_true_eq] at hk
    obtain ⟨rfl, ht⟩ := hk
    simp only [rsV] at hx
    split at hx
    · rename_i p e1
      have hv := opd_pv h (x := .t t) (y := .tmp t) (by simp [opdOk, ht]) hx.1 e1
      rcases hx.2 with rfl | rfl
      · exact ⟨_, rfl, hv⟩
      · exact ⟨_, rfl, hv.norm⟩
    · exact hx.elim
  | cellB t j base off n agg =>
    cases s <;> simp only [rsOk] at hk <;> try cases hk
    rename_i b ty
    simp only [Bool.and_eq_true, beq_iff_eq, decide_eq_true_eq, Bool.or_eq_true] at hk
    obtain ⟨⟨⟨⟨⟨rfl, ht⟩, hb⟩, ha⟩, hn⟩, h1⟩ := hk
    simp only [rsV] at hx
    split at hx
    · rename_i j' off' cs e1 e2
      obtain ⟨rfl, rfl, hx⟩ := hx
      suffices hg : ∃ u, (rdR a.tmps (.cell t ty)).run P w = .ok u w ∧ RpV m (if agg then .agg cs else .one (cs.headD (.nl 0))) u by
        obtain ⟨u, h1, h2⟩ := hg
        rcases hx with rfl | rfl
        · exact ⟨u, h1, h2⟩
        · exact ⟨u, h1, h2.norm⟩
      clear hx
      obtain ⟨nn, hj, hle⟩ := boxHas_of hb
      obtain ⟨b, hb, hv⟩ := opd_ptr h (x := .t t) (y := .tmp t) (by simp [opdOk, ht]) e1
      have hv' : a.tmps.getD t undef = _ := hv
      have hB := h.boxes _ _ hj
      rw [hb] at hB
      obtain ⟨us, hl, hu, hm⟩ := box_cells hB n off' hle cs e2
      have hrun := run_loadVar_at (P := P) (w := w) ha hn h1 (us := us) (b := b) (o := off') hl hm
      refine ⟨if agg = true then .agg us.toArray else us.headD undef, by simp only [rdR, hv', asAddr, Sem.run_bind, Sem.run_pure, Result.andThen_ok, hrun], ?_⟩
      cases agg with
      | true => exact ⟨us, rfl, hu⟩
      | false =>
        rcases h1 with h1 | rfl
        · cases h1
        · have hcl : cs.length = 1 := by rw [← hu.length, hl]
          match cs, hcl with
          | [x], _ =>
            simp only [RpL] at hu
            obtain ⟨u, us', rfl, h2, _⟩ := hu
            exact h2
    · exact hx.elim
  | cellF t n agg =>
    cases s <;> simp only [rsOk] at hk <;> try cases hk
    rename_i b ty
    simp only [Bool.and_eq_true, beq_iff_eq, decide_eq_true_eq, Bool.or_eq_true] at hk
    obtain ⟨⟨⟨⟨rfl, ht⟩, ha⟩, hn⟩, h1⟩ := hk
    simp only [rsV] at hx
    split at hx
    · rename_i cs e1
      obtain ⟨n1, rfl, rfl⟩ := hx
      have hv := opd_pv h (x := .t t) (y := .tmp t) (by simp [opdOk, ht]) n1 e1
      obtain ⟨b, o, hv, hr⟩ := hv
      have hv' : a.tmps.getD t undef = _ := hv
      obtain ⟨us, hu, hm⟩ := hr.vals
      have hrun := run_loadVar_at (P := P) (w := w) ha hn h1 (us := us) (b := b) (o := o) (by rw [hu.length]) (fun i u hi => h.mem _ _ _ (hm i u hi))
      refine ⟨if agg = true then .agg us.toArray else us.headD undef, by simp only [rdR, hv', asAddr, Sem.run_bind, Sem.run_pure, Result.andThen_ok, hrun], ?_⟩
      cases agg with
      | true => exact ⟨us, rfl, hu.norm⟩
      | false =>
        rcases h1 with h1 | h1
        · cases h1
        · exact headD_norm hu h1
    · exact hx.elim

theorem rss_sound (h : InvG E S m β ow F a w) : ∀ {rs : List RSrc} {ss : List ResultVar} (_ : rssOk P E rs ss = true) {xs : List PVal} (_ : rsVs F rs xs),
    ∃ us : List Value, (ss.mapM (rdR a.tmps)).run P w = .ok us w ∧ RpVL m xs us
  | [], [], _, xs, hx => by
    simp only [rsVs] at hx
    subst hx
    exact ⟨[], by simp, rfl⟩
  | [], s :: ss, hk, xs, hx => by simp [rssOk] at hk
  | r :: rs, [], hk, xs, hx => by simp [rssOk] at hk
  | r :: rs, s :: ss, hk, [], hx => by simp [rsVs] at hx
  | r :: rs, s :: ss, hk, x :: xs, hx => by
    simp only [rssOk, Bool.and_eq_true] at hk
    simp only [rsVs] at hx
    obtain ⟨u, h1, h2⟩ := rs_sound h hk.1 hx.1
    obtain ⟨us, h3, h4⟩ := rss_sound h hk.2 hx.2
    refine ⟨u :: us, ?_, u, us, rfl, h2, h4⟩
    rw [List.mapM_cons, Sem.run_bind, h1]
    simp only [Result.andThen_ok]
    rw [Sem.run_bind, h3]
    simp

theorem results_run (h : InvG E S m β ow F a w) {fn : Func} {rs : List RSrc} (hk : rssOk P E rs fn.results.toList = true) {xs : List PVal} (hx : rsVs F rs xs) :
    ∃ us : List Value, (results fn a.tmps).run P w = .ok (match us with | [u] => u | _ => .tuple us.toArray) w ∧ RpVL m xs us := by
  obtain ⟨us, h1, h2⟩ := rss_sound h hk hx
  refine ⟨us, ?_, h2⟩
  have e : results fn a.tmps = (do let vs ← fn.results.mapM (rdR a.tmps); pure (if h : vs.size = 1 then vs[0] else .tuple vs)) := by
    unfold results
    congr
  rw [e, Array.mapM_eq_mapM_toList]
  have h3 : (Functor.map List.toArray (List.mapM (rdR a.tmps) fn.results.toList) : Sem (Array Value)).run P w = .ok us.toArray w := by
    rw [map_eq_pure_bind, Sem.run_bind, h1]
    rfl
  rw [Sem.run_bind, h3]
  simp only [Result.andThen_ok]
  match us with
  | [] => rfl
  | [u] => rfl
  | u :: v :: us => rfl

theorem ArgsRep.get : ∀ {as : List AV} {us : List Value}, ArgsRep m w as us → ∀ (i : Nat) (x : AV), as[i]? = some x → ∃ u, us[i]? = some u ∧ ArgRep m w x u
  | [], us, h, i, x, hx => by simp at hx
  | y :: ys, us, h, i, x, hx => by
    simp only [ArgsRep] at h
    obtain ⟨u, us', rfl, h2, h3⟩ := h
    cases i with
    | zero => simp at hx; subst hx; exact ⟨u, rfl, h2⟩
    | succ i => simpa using ArgsRep.get h3 i x (by simpa using hx)

theorem own_get : ∀ {as : List AV} {us : List Value}, ArgsRep m w as us → nOwn as ≤ 1 → ∀ (i : Nat) (e k : Nat) (rows : List (List PV)), as[i]? = some (.own e k rows) → i = ownIx as ∧ ∃ u, us[i]? = some u ∧ ownB as us = u.ownBlock
  | [], us, h, _, i, e, k, rows, hx => by simp at hx
  | y :: ys, us, h, hn, i, e, k, rows, hx => by
    simp only [ArgsRep] at h
    obtain ⟨u, us', rfl, h2, h3⟩ := h
    cases i with
    | zero =>
      simp at hx; subst hx
      exact ⟨rfl, u, rfl, rfl⟩
    | succ i =>
      have hx' : ys[i]? = some (.own e k rows) := by simpa using hx
      cases y with
      | own e' k' rows' =>
        exfalso
        have : nOwn ys = 0 := by simp [nOwn] at hn; omega
        exact absurd hx' (no_own this i e k rows)
      | val x =>
        obtain ⟨h4, u', h5, h6⟩ := own_get h3 (by simpa [nOwn] using hn) i e k rows hx'
        exact ⟨by simp [ownIx, h4], u', by simpa using h5, by simpa [ownB] using h6⟩
      | io cs =>
        obtain ⟨h4, u', h5, h6⟩ := own_get h3 (by simpa [nOwn] using hn) i e k rows hx'
        exact ⟨by simp [ownIx, h4], u', by simpa using h5, by simpa [ownB] using h6⟩
where
  no_own : ∀ {as : List AV}, nOwn as = 0 → ∀ (i : Nat) (e k : Nat) (rows : List (List PV)), as[i]? ≠ some (.own e k rows)
  | [], _, i, _, _, _ => by simp
  | .own _ _ _ :: ys, h, _, _, _, _ => by simp [nOwn] at h
  | .val _ :: ys, h, 0, _, _, _ => by simp
  | .val _ :: ys, h, i + 1, e, k, rows => by simpa using no_own (as := ys) (by simpa [nOwn] using h) i e k rows
  | .io _ :: ys, h, 0, _, _, _ => by simp
  | .io _ :: ys, h, i + 1, e, k, rows => by simpa using no_own (as := ys) (by simpa [nOwn] using h) i e k rows

theorem io_get : ∀ {as : List AV} {us : List Value}, ArgsRep m w as us → nIo as ≤ 1 → ∀ (i : Nat) (cs : List PV), as[i]? = some (.io cs) → ioOf as = some cs ∧ ∃ u, us[i]? = some u ∧ ioB as us = ptrB u
  | [], us, h, _, i, cs, hx => by simp at hx
  | y :: ys, us, h, hn, i, cs, hx => by
    simp only [ArgsRep] at h
    obtain ⟨u, us', rfl, h2, h3⟩ := h
    cases i with
    | zero =>
      simp at hx; subst hx
      exact ⟨rfl, u, rfl, rfl⟩
    | succ i =>
      have hx' : ys[i]? = some (.io cs) := by simpa using hx
      cases y with
      | io cs' =>
        exfalso
        have : nIo ys = 0 := by simp [nIo] at hn; omega
        exact absurd hx' (no_io this i cs)
      | val x =>
        obtain ⟨h4, u', h5, h6⟩ := io_get h3 (by simpa [nIo] using hn) i cs hx'
        exact ⟨by simp [ioOf, h4], u', by simpa using h5, by simpa [ioB] using h6⟩
      | own e k rows =>
        obtain ⟨h4, u', h5, h6⟩ := io_get h3 (by simpa [nIo] using hn) i cs hx'
        exact ⟨by simp [ioOf, h4], u', by simpa using h5, by simpa [ioB] using h6⟩
where
  no_io : ∀ {as : List AV}, nIo as = 0 → ∀ (i : Nat) (cs : List PV), as[i]? ≠ some (.io cs)
  | [], _, i, _ => by simp
  | .io _ :: ys, h, _, _ => by simp [nIo] at h
  | .val _ :: ys, h, 0, _ => by simp
  | .val _ :: ys, h, i + 1, cs => by simpa using no_io (as := ys) (by simpa [nIo] using h) i cs
  | .own _ _ _ :: ys, h, 0, _ => by simp
  | .own _ _ _ :: ys, h, i + 1, cs => by simpa using no_io (as := ys) (by simpa [nIo] using h) i cs

/-- Where there is one that points to a box, its box. -/
theorem io_box : ∀ {as : List AV} {us : List Value} {cs : List PV}, ArgsRep m w as us → ioOf as = some cs → ioLen as = cs.length ∧ ∃ b vs T, ioB as us = some b ∧ w.heap[b]? = some (.cells vs T (0, 0)) ∧ (∀ o, m b o = none) ∧ RpL m cs vs.toList
  | [], us, cs, h, hx => by simp [ioOf] at hx
  | y :: ys, us, cs, h, hx => by
    simp only [ArgsRep] at h
    obtain ⟨u, us', rfl, h2, h3⟩ := h
    cases y with
    | io cs' =>
      simp only [ioOf, Option.some.injEq] at hx
      subst hx
      obtain ⟨b, vs, T, rfl, h4, h5, h6⟩ := h2
      exact ⟨rfl, b, vs, T, rfl, h4, h5, h6⟩
    | val x => exact io_box (as := ys) (us := us') h3 hx
    | own e k rows => exact io_box (as := ys) (us := us') h3 hx
theorem io_none : ∀ {as : List AV} {us : List Value}, ioOf as = none → ioB as us = none
  | [], us, h => by cases us <;> rfl
  | y :: ys, [], h => rfl
  | y :: ys, u :: us, h => by
    cases y with
    | io cs => simp [ioOf] at h
    | val x => exact io_none (as := ys) h
    | own e k rows => exact io_none (as := ys) h

theorem own_block : ∀ {as : List AV} {us : List Value} {b : Nat}, ArgsRep m w as us → ownB as us = some b → ∃ (i e k : Nat) (rows : List (List PV)) (u : Value), as[i]? = some (.own e k rows) ∧ us[i]? = some u ∧ u.ownBlock = some b ∧ OwnAt m w e k rows u
  | [], us, b, h, hb => by simp [ownB] at hb
  | y :: ys, us, b, h, hb => by
    simp only [ArgsRep] at h
    obtain ⟨u, us', rfl, h2, h3⟩ := h
    cases y with
    | own e k rows => exact ⟨0, e, k, rows, u, rfl, rfl, hb, h2⟩
    | val x =>
      obtain ⟨i, e, k, rows, u', h4, h5, h6⟩ := own_block h3 (b := b) hb
      exact ⟨i + 1, e, k, rows, u', by simpa using h4, by simpa using h5, h6⟩
    | io cs =>
      obtain ⟨i, e, k, rows, u', h4, h5, h6⟩ := own_block h3 (b := b) hb
      exact ⟨i + 1, e, k, rows, u', by simpa using h4, by simpa using h5, h6⟩

theorem OwnAt.lt {e k : Nat} {rows : List (List PV)} {u : Value} (h : OwnAt m w e k rows u) {g : Nat} (hg : u.ownBlock = some g) : g < w.heap.size := by
  obtain ⟨⟨xs, h1, h2⟩, _⟩ := h
  rcases h2 with ⟨rfl, _⟩ | ⟨g', cap, cur, rfl, _, hh, _⟩
  · simp [Value.ownBlock] at hg
  · simp only [Value.ownBlock, Option.some.injEq] at hg
    subst hg
    exact (Array.getElem?_eq_some_iff.1 hh).1

theorem inv_markU (wf : E.Wf) : ∀ (l : List Nat) (F : List Ct), (∀ i ∈ l, E.N ≤ i ∧ ∀ j bn b, E.Γ[j]? = some bn → β j = some b → i < bn.1 ∨ bn.1 + bn.2 ≤ i) → InvG E S m β ow F a w → InvG E S m β ow (markU l F) a w
  | [], _, _, h => h
  | x :: r, F, hx, h => by
    refine inv_markU wf r (F.set x .una) (fun i hi => hx i (List.mem_cons_of_mem _ hi)) ?_
    obtain ⟨hN, hb⟩ := hx x List.mem_cons_self
    have hg : ∀ i, (F.set x .una).getD i .un = F.getD i .un ∨ (i = x ∧ (F.set x .una).getD i .un = .una) := by
      intro i
      rw [getD_set]
      split
      · exact .inr ⟨by omega, rfl⟩
      · exact .inl rfl
    refine { h with lenF := by rw [List.length_set]; exact h.lenF, slots := fun i hi => ?_, boxes := fun j bn hj => ?_ }
    · rcases hg i with e | ⟨e, _⟩
      · rw [e]; exact h.slots i hi
      · omega
    · have hB := h.boxes j bn hj
      cases hβ : β j with
      | none =>
        rw [hβ] at hB
        intro o ho
        rcases hg (bn.1 + o) with e | ⟨_, e⟩
        · rw [e]; exact hB o ho
        · exact .inr e
      | some b =>
        rw [hβ] at hB
        obtain ⟨h1, h2, cs, T, h3, h4, h5⟩ := hB
        refine ⟨h1, h2, cs, T, h3, h4, fun o ho => ?_⟩
        rcases hg (bn.1 + o) with e | ⟨e, _⟩
        · rw [e]; exact h5 o ho
        · have := hb j bn b hj hβ
          omega

/-- The frame a call begins with says what is so. -/
theorem inv_start (hun : E.unaOk = true) (wf : E.Wf) {base : Nat} {as : List AV} {us : List Value} (hf : formOk E base as) (hm : MemOk m w) (ha : ArgsRep m w as us) (hd : ∀ g, ownB as us = some g → ioB as us ≠ some g) (hG0 : Glob.ok w) (hGR : ∀ b, isRes as us b → Glob.n ≤ b) :
    Inv E { w0 := w, m0 := m, R0 := isRes as us, b0 := fun j => if j = 0 then ioB as us else none, g0 := hG0, gR := hGR } (F0 E base as) { tmps := us.toArray ++ Array.replicate (E.N - us.toArray.size) undef, defers := [] } w := by
  obtain ⟨hlen, hno, hni, hio⟩ := hf
  have hul := ha.length
  have hNL := wf.le
  have hFl : (as.map argCt ++ List.replicate (E.L - as.length) Ct.un).length = E.L := by simp; omega
  have hbase : ∀ cs, ioOf as = some cs → E.N ≤ base ∧ base + cs.length ≤ E.L := by
    intro cs hc
    rw [hc] at hio
    exact ⟨wf.lo 0 _ hio.2, wf.hi 0 _ hio.2⟩
  refine ⟨m, fun j => if j = 0 then ioB as us else none, fun b => if ownB as us = some b then some (.key (ownIx as)) else if ioB as us = some b then some (.box 0) else none, ?_⟩
  refine inv_markU wf _ _ (fun i hi => ?_) ?_
  · have hu := List.all_eq_true.1 hun i hi
    simp only [Bool.and_eq_true, decide_eq_true_eq] at hu
    refine ⟨hu.1, fun j bn b hj hb => ?_⟩
    split at hb
    · rename_i e
      subst e
      have hn : E.nfix = 1 := by
        cases hc : ioOf as with
        | none => rw [io_none hc] at hb; cases hb
        | some cs => rw [hc] at hio; exact hio.1
      have := List.all_eq_true.1 hu.2 0 (by rw [hn]; decide)
      rw [hj] at this
      simpa using this
    · cases hb
  refine ⟨by rw [length_setCells]; exact hFl, by simp; omega, rfl, ?_, ?_, hm, m.le_refl, Pres.refl _ _, ?_, ?_, fun b o u h => .inl h, fun j _ => rfl⟩
  · intro i hi
    have e1 : (setCells (as.map argCt ++ List.replicate (E.L - as.length) Ct.un) base (match ioOf as with | some cs => cs.map fun x => Ct.pv (.one x) | none => [])).getD i .un = (as.map argCt ++ List.replicate (E.L - as.length) Ct.un).getD i .un := by
      cases hc : ioOf as with
      | none => rfl
      | some cs =>
        have := hbase cs hc
        rw [getD_setCells, if_neg (by omega)]
    rw [e1]
    by_cases hia : i < as.length
    · rw [List.getD_eq_getElem?_getD, List.getElem?_append_left (by simpa using hia), List.getElem?_map, List.getElem?_eq_getElem hia]
      simp only [Option.map_some, Option.getD_some]
      obtain ⟨u, h1, h2⟩ := ha.get i as[i] (List.getElem?_eq_getElem hia)
      have e2 : (us.toArray ++ Array.replicate (E.N - us.toArray.size) undef).getD i undef = u := by
        rw [Array.getD_eq_getD_getElem?, Array.getElem?_append_left (by simp; omega)]
        simp [h1]
      rw [e2]
      cases hx : as[i] with
      | val x => rw [hx] at h2; exact h2
      | own e k rows =>
        rw [hx] at h2
        obtain ⟨h3, u', h4, h5⟩ := own_get ha hno i e k rows (by rw [← hx]; exact List.getElem?_eq_getElem hia)
        rw [h1] at h4
        injection h4 with h4
        subst h4
        refine OwnAt.rep h2 fun g hg => ?_
        rw [if_pos (h5.trans hg), h3]
      | io cs =>
        rw [hx] at h2
        obtain ⟨h3, u', h4, h5⟩ := io_get ha hni i cs (by rw [← hx]; exact List.getElem?_eq_getElem hia)
        rw [h1] at h4
        injection h4 with h4
        subst h4
        obtain ⟨b, vs, T, rfl, _⟩ := h2
        exact ⟨b, by simpa [ptrB] using h5, rfl⟩
    · rw [List.getD_eq_getElem?_getD, List.getElem?_append_right (by simpa using Nat.le_of_not_lt hia), List.getElem?_replicate]
      split <;> trivial
  · intro j bn hj
    by_cases hj0 : j = 0
    · subst hj0
      simp only [if_true]
      cases hc : ioOf as with
      | none =>
        rw [io_none hc]
        intro o ho
        have hlo := wf.lo 0 bn hj
        simp only [hc, setCells]
        rw [List.getD_eq_getElem?_getD, List.getElem?_append_right (by simp; omega), List.getElem?_replicate]
        left; split <;> rfl
      | some cs =>
        rw [hc] at hio
        obtain ⟨_, b, vs, T, h1, h2, h3, h4⟩ := io_box ha hc
        rw [hio.2] at hj
        injection hj with hj
        subst hj
        have := hbase cs hc
        rw [h1]
        refine ⟨?_, h3, vs, T, h2, ?_, ?_⟩
        · simp only; rw [if_neg (fun h => hd b h h1), if_pos trivial]
        · simpa using h4.length
        · intro o ho
          simp only at ho ⊢
          rw [getD_setCells, if_pos (by simp; omega)]
          have e : base + o - base = o := by omega
          have hvl : vs.toList.length = cs.length := h4.length
          rw [e, List.getD_eq_getElem?_getD, List.getElem?_map, List.getElem?_eq_getElem ho]
          have hlt : o < vs.toList.length := by omega
          have hu : vs.getD o undef = vs.toList[o] := by
            rw [Array.getD_eq_getD_getElem?, ← Array.getElem?_toList, List.getElem?_eq_getElem hlt]; rfl
          rw [hu]
          exact h4.get _ _ _ (List.getElem?_eq_getElem ho) (List.getElem?_eq_getElem hlt)
    · simp only [hj0, if_false]
      intro o ho
      have hlo := wf.lo j bn hj
      have hout : ∀ cs, ioOf as = some cs → ¬ (base ≤ bn.1 + o ∧ bn.1 + o < base + cs.length) := by
        intro cs hc
        rw [hc] at hio
        have := wf.ap j 0 _ _ hj hio.2 hj0
        simp only at this
        omega
      rw [getD_setCells]
      rw [if_neg]
      · rw [List.getD_eq_getElem?_getD, List.getElem?_append_right (by simp; omega), List.getElem?_replicate]
        left; split <;> rfl
      · cases hc : ioOf as with
        | none => simp; omega
        | some cs => intro h; exact hout cs hc (by simp at h; omega)
  · intro b t hb
    refine .inr ?_
    split at hb
    · rename_i h; exact .inl h
    · split at hb
      · rename_i h; exact .inr h
      · cases hb
  · intro b t hb
    split at hb
    · rename_i h
      obtain ⟨i, e, k, rows, u, _, _, h5, h6⟩ := own_block ha h
      exact h6.lt h5
    · split at hb
      · rename_i h
        cases hc : ioOf as with
        | none => rw [io_none hc] at h; cases h
        | some cs =>
          obtain ⟨_, b', vs, T, h1, h2, _⟩ := io_box ha hc
          rw [h] at h1
          injection h1 with h1
          subst h1
          exact (Array.getElem?_eq_some_iff.1 h2).1
      · cases hb

theorem ioLen_of : ∀ {as : List AV} {cs : List PV}, ioOf as = some cs → ioLen as = cs.length
  | [], cs, h => by simp [ioOf] at h
  | y :: ys, cs, h => by
    cases y with
    | io cs' => simp only [ioOf, Option.some.injEq] at h; subst h; rfl
    | val x => exact ioLen_of (as := ys) h
    | own e k rows => exact ioLen_of (as := ys) h

mutual
/-- What can lie in memory: no text, no slice is longer than Go lets it be. -/
def PV.fits : PV → Prop
  | .v x => flat x = true
  | .sl _ rows => rows.length ≤ maxLen ∧ fitsR rows
  | .nl _ => True
  | .fp cs => fitsL cs
  | .clo _ caps => fitsL caps
  | .any => True
def fitsL : List PV → Prop
  | [] => True
  | x :: xs => x.fits ∧ fitsL xs
def fitsR : List (List PV) → Prop
  | [] => True
  | r :: rs => fitsL r ∧ fitsR rs
end
def PVal.fits : PVal → Prop
  | .one x => x.fits
  | .agg cs => fitsL cs
def AV.fits : AV → Prop
  | .val x => x.fits
  | .own _ _ rows => rows.length ≤ maxLen ∧ fitsR rows
  | .io cells => fitsL cells
def AVs.fits : List AV → Prop
  | [] => True
  | x :: xs => x.fits ∧ AVs.fits xs

mutual
theorem Rp.fits : ∀ (x : PV) (u : Value), Rp m x u → x.fits
  | .v _, _, h => by simp only [Rp] at h; simp only [PV.fits]; exact h.2
  | .sl k rows, _, h => by
    simp only [Rp] at h
    obtain ⟨A, c, _, h2, h3, h4⟩ := h
    simp only [PV.fits]
    refine ⟨Nat.le_trans h2 h3, ?_⟩
    rcases h4 with h4 | ⟨b, o, _, h5⟩
    · subst h4; simp only [fitsR]
    · exact RpRows.fits rows b k o h5
  | .nl _, _, _ => by simp only [PV.fits]
  | .fp cs, _, h => by
    simp only [Rp] at h
    obtain ⟨b, o, _, h2⟩ := h
    simp only [PV.fits]
    exact RpAt.fits cs b o h2
  | .clo f caps, _, h => by
    simp only [Rp] at h
    obtain ⟨us, _, h2⟩ := h
    simp only [PV.fits]
    exact RpL.fits caps us h2
  | .any, _, _ => by simp only [PV.fits]
theorem RpAt.fits : ∀ (cs : List PV) (b o : Nat), RpAt m b o cs → fitsL cs
  | [], _, _, _ => by simp only [fitsL]
  | x :: xs, b, o, h => by
    simp only [RpAt] at h
    obtain ⟨⟨u, _, h2⟩, h3⟩ := h
    simp only [fitsL]
    exact ⟨Rp.fits x u h2, RpAt.fits xs b (o + 1) h3⟩
theorem RpRows.fits : ∀ (rows : List (List PV)) (b k o : Nat), RpRows m b k o rows → fitsR rows
  | [], _, _, _, _ => by simp only [fitsR]
  | r :: rs, b, k, o, h => by
    simp only [RpRows] at h
    obtain ⟨⟨_, h2⟩, h3⟩ := h
    simp only [fitsR]
    exact ⟨RpAt.fits r b o h2, RpRows.fits rs b k (o + k) h3⟩
theorem RpL.fits : ∀ (cs : List PV) (us : List Value), RpL m cs us → fitsL cs
  | [], _, _ => by simp only [fitsL]
  | x :: xs, _, h => by
    simp only [RpL] at h
    obtain ⟨u, us', _, h2, h3⟩ := h
    simp only [fitsL]
    exact ⟨Rp.fits x u h2, RpL.fits xs us' h3⟩
end

theorem ArgRep.fits {x : AV} {u : Value} (h : ArgRep m w x u) : x.fits := by
  cases x with
  | val x =>
    cases x with
    | one x => exact Rp.fits x u h
    | agg cs => obtain ⟨us, _, h2⟩ := h; exact RpL.fits cs us h2
  | own e k rows =>
    have := Rp.fits _ _ (OwnAt.rp h)
    simp only [PV.fits] at this
    exact this
  | io cells => obtain ⟨b, cs, T, _, _, _, h2⟩ := h; exact RpL.fits _ _ h2
theorem ArgsRep.fits : ∀ {as : List AV} {us : List Value}, ArgsRep m w as us → AVs.fits as
  | [], _, _ => trivial
  | x :: xs, _, h => by
    simp only [ArgsRep] at h
    obtain ⟨u, us', _, h2, h3⟩ := h
    exact ⟨h2.fits, ArgsRep.fits h3⟩

/-- THE CONTRACT OF A FUNCTION, out of a walk on the abstract frame. -/
theorem contract_of_wp {f : FuncId} {fn : Func} {c : Code} (hf : P.funcs[f]? = some fn) (hb : fn.body = some c) (hcall : callable P f = true) (hE' : (E.ok && E.unaOk) = true) (hN : E.N = fn.ntmps)
    {h : HCode} (hk : hcChk P E c h = true)
    {rs : List RSrc} (hrs : rssOk P E rs fn.results.toList = true) {base : Nat} {as : List AV} (hfo : formOk E base as) {r : RV} (hW0 : AVs.fits as → hwp P h (finQ E base as rs r) (F0 E base as)) (hov : ∀ x, r.res = .ov x → nOwn as = 0 := by intro x h; cases h <;> rfl) : Contract P f as r := by
  have hE := Bool.and_eq_true_iff.1 hE'
  have wf := Env.wf_of_ok hE.1
  refine ⟨hcall, fun m w us hm ha hd hG0 hGR => ?_⟩
  have hW := hW0 ha.fits
  have h0 := inv_start hE.2 wf hfo hm ha hd hG0 hGR
  have hc := code_sound wf c h _ _ _ _ hk hW h0
  refine calls_of_wp hf hb ?_
  rw [← hN]
  refine wp_mono hc ?_
  have hio := hfo.2.2.2
  -- what holds in any case behind the walk
  have common : ∀ {m' : Mem} {β : Bx} {ow : Ow} {F : List Ct} {a' : Act} {w' : World},
      InvG E { w0 := w, m0 := m, R0 := isRes as us, b0 := fun j => if j = 0 then ioB as us else none, g0 := hG0, gR := hGR } m' β ow F a' w' →
      m.le m' ∧ MemOk m' w' ∧ Pres (isRes as us) w w' ∧ (∀ b o u, m' b o = some u → m b o = some u ∨ w.heap.size ≤ b ∨ ownB as us = some b) ∧
      (∀ b, ioB as us = some b → ow b = some (.box 0) ∧ ∀ io : Option (List PV), (∀ l, io = some l → ∀ cs, ioOf as = some cs → cellsPV F base cs.length = some l) → IoRep m' w' b (ioLen as) io) := by
    intro m' β ow F a' w' hG
    have key : ∀ b, ioB as us = some b → ∃ cs, ioOf as = some cs ∧ E.Γ[0]? = some (base, cs.length) ∧ BoxRep m' w' ow F 0 (base, cs.length) (some b) := by
      intro b hb
      cases hc : ioOf as with
      | none => rw [io_none hc] at hb; cases hb
      | some cs =>
        rw [hc] at hio
        have hB := hG.boxes 0 _ hio.2
        have hβ : β 0 = some b := by rw [hG.fix 0 (by rw [hio.1]; exact Nat.one_pos)]; simp only [if_true]; exact hb
        rw [hβ] at hB
        exact ⟨cs, rfl, hio.2, hB⟩
    refine ⟨hG.mle, hG.mem, hG.pres, fun b o u hu => ?_, fun b hb => ?_⟩
    · rcases hG.new b o u hu with g | g | g
      · exact .inl g
      · exact .inr (.inl g)
      · rcases g with g | g
        · exact .inr (.inr g)
        · obtain ⟨cs, _, _, hB⟩ := key b g
          have := hB.2.1 o
          rw [hu] at this
          cases this
    · obtain ⟨cs, hc, hj, hB⟩ := key b hb
      refine ⟨hB.1, fun io hl => ?_⟩
      rw [ioLen_of hc]
      refine ⟨hB.2.1, ?_⟩
      cases io with
      | none =>
        obtain ⟨h1, h2, vs, T, h3, h4, h5⟩ := hB
        exact ⟨vs, T, h3, h4, fun l e => by cases e⟩
      | some l =>
        obtain ⟨vs, T, h3, h4, h5⟩ := box_whole hB (hl l rfl cs hc)
        exact ⟨vs, T, h3, h4, fun l' e => by injection e with e; subst e; exact h5⟩
  -- an ending with results
  have fin : ∀ {F : List Ct} {a' : Act} {w' : World}, (finRes F rs r.res ∧ ∀ cs, ioOf as = some cs → cellsPV F base cs.length = some r.io) →
      Inv E { w0 := w, m0 := m, R0 := isRes as us, b0 := fun j => if j = 0 then ioB as us else none, g0 := hG0, gR := hGR } F a' w' →
      a'.defers = [] ∧ ∃ v, (results fn a'.tmps).run P w' = .ok v w' ∧ Post m w as us r (.returned v) w' := by
    rintro F a' w' ⟨hr, hi⟩ ⟨m', β, ow, hG⟩
    obtain ⟨c1, c2, c3, c4, c5⟩ := common hG
    refine ⟨hG.dfr, ?_⟩
    have hmk : ∀ v, ResRep m' w w' (ownB as us) r.res (.returned v) → Post m w as us r (.returned v) w' := by
      intro v hv
      refine ⟨m', c1, c2, c3, c4, fun b hb => (c5 b hb).2 _ ?_, hv⟩
      intro l hl cs hcs
      unfold Res.ioOf at hl
      split at hl
      · cases hl
      · injection hl with hl; rw [← hl]; exact hi cs hcs
    cases hres : r.res with
    | val x =>
      rw [hres] at hr
      simp only [finRes] at hr
      split at hr
      · rename_i r1
        obtain ⟨us', h1, h2⟩ := results_run hG hrs (xs := [x]) (by simp only [rsVs]; exact ⟨hr, trivial⟩)
        obtain ⟨u, us'', rfl, h3, h4⟩ := h2
        simp only [RpVL] at h4
        subst h4
        exact ⟨_, h1, hmk _ (by rw [hres]; exact ⟨u, rfl, h3⟩)⟩
      · exact hr.elim
    | own e k rows =>
      rw [hres] at hr
      simp only [finRes] at hr
      split at hr
      · rename_i t
        have hlt : t < E.N := by
          cases hl : fn.results.toList with
          | nil => rw [hl] at hrs; simp [rssOk] at hrs
          | cons s ss =>
            rw [hl] at hrs
            simp only [rssOk, Bool.and_eq_true] at hrs
            cases s with
            | tmp t' => have := hrs.1; simp only [rsOk, Bool.and_eq_true, decide_eq_true_eq] at this; exact this.2
            | cell x y => have := hrs.1; simp [rsOk] at this
        have hs := hG.slots t hlt
        rw [hr] at hs
        obtain ⟨us', h1, h2⟩ := results_run hG hrs (xs := [.one (.sl k rows)]) (by simp only [rsVs, rsV, getO, hr]; exact ⟨⟨trivial, .inl rfl⟩, trivial⟩)
        obtain ⟨u, us'', rfl, h3, h4⟩ := h2
        simp only [RpVL] at h4
        subst h4
        refine ⟨_, h1, ?_⟩
        -- the value is the slot's
        have hu : u = a'.tmps.getD t undef := by
          have e : results fn a'.tmps = (do let vs ← fn.results.mapM (rdR a'.tmps); pure (if h : vs.size = 1 then vs[0] else .tuple vs)) := by unfold results; congr
          cases hl : fn.results.toList with
          | nil => rw [hl] at hrs; simp [rssOk] at hrs
          | cons s ss =>
            rw [hl] at hrs
            simp only [rssOk, Bool.and_eq_true] at hrs
            cases ss with
            | cons s2 ss2 => simp [rssOk] at hrs
            | nil =>
              cases s with
              | cell x y => have := hrs.1; simp [rsOk] at this
              | tmp t' =>
                have h5 := hrs.1
                simp only [rsOk, Bool.and_eq_true, beq_iff_eq, decide_eq_true_eq] at h5
                obtain ⟨rfl, _⟩ := h5
                rw [e, Array.mapM_eq_mapM_toList, hl] at h1
                simp [rdR] at h1
                rw [Array.getD_eq_getD_getElem?]; exact h1.symm
        subst hu
        refine hmk _ ?_
        rw [hres]
        refine ⟨_, rfl, OwnRep.at_ hs, fun g hg => ?_⟩
        have hg1 := (hs.2 g hg).1
        rcases hG.own g _ hg1 with h6 | h6 | h6
        · exact .inl h6
        · exact .inr h6
        · rw [(c5 g h6).1] at hg1; cases hg1
      · exact hr.elim
    | tup xs =>
      rw [hres] at hr
      simp only [finRes] at hr
      split at hr
      · exact hr.elim
      · rename_i hne
        obtain ⟨us', h1, h2⟩ := results_run hG hrs hr
        have hl1 : us'.length = xs.length := RpVL.length h2
        have hl2 : rs.length = xs.length := rsVs_length hr
        match us', h1, h2, hl1 with
        | [], h1, h2, _ => exact ⟨_, h1, hmk _ (by rw [hres]; exact ⟨[], rfl, h2⟩)⟩
        | [u], h1, h2, hl1 => 
          exfalso
          match rs, hne, hl2 with
          | [x], hne, _ => exact hne x rfl
          | [], _, h => simp at h hl1; omega
          | _ :: _ :: _, _, h => simp at h hl1; omega
        | u :: v :: l, h1, h2, _ => exact ⟨_, h1, hmk _ (by rw [hres]; exact ⟨u :: v :: l, rfl, h2⟩)⟩
    | pan v => rw [hres] at hr; exact hr.elim
    | ov x =>
      rw [hres] at hr
      have hno := hov x hres
      have hfresh : ∀ (i g : Nat), ow g = some (.key i) → w.heap.size ≤ g := by
        intro i g hg
        rcases hG.own g _ hg with h6 | h6 | h6
        · exact h6
        · exact (no_ownB hno h6).elim
        · rw [(c5 g h6).1] at hg; cases hg
      simp only [finRes] at hr
      split at hr
      · rename_i t
        have hlt : t < E.N := by
          cases hl : fn.results.toList with
          | nil => rw [hl] at hrs; simp [rssOk] at hrs
          | cons s ss =>
            rw [hl] at hrs
            simp only [rssOk, Bool.and_eq_true] at hrs
            cases s with
            | tmp t' => have := hrs.1; simp only [rsOk, Bool.and_eq_true, decide_eq_true_eq] at this; exact this.2
            | cell x y => have := hrs.1; simp [rsOk] at this
        have hs := hG.slots t hlt
        rw [hr] at hs
        obtain ⟨fp, k1, k2, k3⟩ := hs
        refine ⟨a'.tmps.getD t undef, res_one hrs (fun s hs1 => ?_), hmk _ (by rw [hres]; exact ⟨a'.tmps.getD t undef, fp, rfl, k1, k2, fun g hg => ⟨hfresh t g (k3 g hg).1, (k3 g hg).2⟩⟩)⟩
        cases s with
        | cell x y => simp [rsOk] at hs1
        | tmp t' =>
          simp only [rsOk, Bool.and_eq_true, beq_iff_eq, decide_eq_true_eq] at hs1
          obtain ⟨rfl, _⟩ := hs1
          rfl
      · rename_i t j bs off n agg
        obtain ⟨e1, cs, e2, rfl⟩ := hr
        have hsrc : ∃ s, fn.results.toList = [s] ∧ rsOk P E (.cellB t j bs off n agg) s = true := by
          cases hl : fn.results.toList with
          | nil => rw [hl] at hrs; simp [rssOk] at hrs
          | cons s ss =>
            rw [hl] at hrs
            cases ss with
            | nil => simp only [rssOk, Bool.and_eq_true] at hrs; exact ⟨s, rfl, hrs.1⟩
            | cons s2 ss => simp [rssOk] at hrs
        obtain ⟨s, _, hs1⟩ := hsrc
        cases s with
        | tmp t' => simp [rsOk] at hs1
        | cell b ty =>
          have hs1' := hs1
          simp only [rsOk, Bool.and_eq_true, beq_iff_eq, decide_eq_true_eq, Bool.or_eq_true] at hs1'
          obtain ⟨⟨⟨⟨⟨rfl, ht⟩, hb⟩, ha⟩, hn⟩, h1⟩ := hs1'
          obtain ⟨nn, hj, hle⟩ := boxHas_of hb
          obtain ⟨bb, hbb, hv⟩ := opd_ptr hG (x := .t t) (y := .tmp t) (by simp [opdOk, ht]) e1
          have hv' : a'.tmps.getD t undef = _ := hv
          have hB := hG.boxes _ _ hj
          rw [hbb] at hB
          obtain ⟨us', fp, k1, k2, k3, k4, k5⟩ := box_ovs hB n off hle cs e2
          have hrun := run_loadVar_at (P := P) (w := w') ha hn h1 (us := us') (b := bb) (o := off) k1 k5
          have hfp : ∀ g ∈ fp, w.heap.size ≤ g ∧ ∀ o, m' g o = none := fun g hg => by
            obtain ⟨⟨i, _, _, i3, _⟩, i5⟩ := k4 g hg
            exact ⟨hfresh i g i3, i5⟩
          refine ⟨if agg then .agg us'.toArray else us'.headD undef, res_one hrs (fun s hs2 => ?_), hmk _ (by rw [hres]; exact ⟨if agg then .agg us'.toArray else us'.headD undef, fp, rfl, mkOV_rep k2 (by rw [k1]; exact h1), k3, hfp⟩)⟩
          · cases s with
            | tmp t' => simp [rsOk] at hs2
            | cell b' ty' =>
              have hs2' := hs2
              simp only [rsOk, Bool.and_eq_true, beq_iff_eq, decide_eq_true_eq, Bool.or_eq_true] at hs2'
              obtain ⟨⟨⟨⟨⟨rfl, _⟩, _⟩, ha'⟩, hn'⟩, _⟩ := hs2'
              have hrun' := run_loadVar_at (P := P) (w := w') ha' hn' h1 (us := us') (b := bb) (o := off) k1 k5
              simp only [rdR, hv', asAddr, Sem.run_bind, Sem.run_pure, Result.andThen_ok, hrun']
      · exact hr.elim
  rintro e a' w' ⟨F, hq, hI⟩
  cases e with
  | normal => exact fin hq hI
  | ret => exact fin hq hI
  | panic ch =>
    obtain ⟨v, hv, rfl⟩ := hq
    obtain ⟨m', β, ow, hG⟩ := hI
    obtain ⟨c1, c2, c3, c4, c5⟩ := common hG
    refine ⟨hG.dfr, m', c1, c2, c3, c4, fun b hb => (c5 b hb).2 _ ?_, ?_⟩
    · intro l hl
      simp only [Res.ioOf, hv] at hl
      cases hl
    · rw [hv]; rfl
  | exit id => exact hq.elim
  | goto l => exact hq.elim
  | outgrown => exact hq.elim
where
  no_ownB : ∀ {as : List AV} {us : List Value} {b : Nat}, nOwn as = 0 → ownB as us ≠ some b
    | [], us, b, _ => by simp [ownB]
    | x :: as, [], b, _ => by simp [ownB]
    | .own _ _ _ :: as, u :: us, b, h => by simp [nOwn] at h
    | .val _ :: as, u :: us, b, h => by simpa [ownB] using no_ownB (as := as) (us := us) (by simpa [nOwn] using h)
    | .io _ :: as, u :: us, b, h => by simpa [ownB] using no_ownB (as := as) (us := us) (by simpa [nOwn] using h)
  res_one {fn : Func} {r : RSrc} (hrs : rssOk P E [r] fn.results.toList = true) {tmps : Array Value} {w' : World} {u : Value} (h : ∀ s, rsOk P E r s = true → (rdR tmps s).run P w' = .ok u w') : (results fn tmps).run P w' = .ok u w' := by
    have e : results fn tmps = (do let vs ← fn.results.mapM (rdR tmps); pure (if h : vs.size = 1 then vs[0] else .tuple vs)) := by unfold results; congr
    cases hl : fn.results.toList with
    | nil => rw [hl] at hrs; simp [rssOk] at hrs
    | cons s ss =>
      rw [hl] at hrs
      cases ss with
      | cons s2 ss2 => simp [rssOk] at hrs
      | nil =>
        simp only [rssOk, Bool.and_eq_true] at hrs
        have h1 := h s hrs.1
        rw [e, Array.mapM_eq_mapM_toList, hl]
        simp [h1]
  RpVL.length {m : Mem} : ∀ {xs : List PVal} {us : List Value}, RpVL m xs us → us.length = xs.length
    | [], us, h => by simp only [RpVL] at h; subst h; rfl
    | x :: xs, us, h => by
      obtain ⟨u, us', rfl, _, h3⟩ := h
      simp [RpVL.length h3]
  rsVs_length {F : List Ct} : ∀ {rs : List RSrc} {xs : List PVal}, rsVs F rs xs → rs.length = xs.length
    | [], xs, h => by simp only [rsVs] at h; subst h; rfl
    | r :: rs, [], h => by simp [rsVs] at h
    | r :: rs, x :: xs, h => by simp only [rsVs] at h; simp [rsVs_length h.2]

end
end Go.Hx
