/-
  Walks of functions of the program over an abstract layer, and the laws that they use: each contract says what the function computes, for every input that its conditions let by. No other condition.
-/
import Derived.Test.YtjnagiaooecklaaDoorG7
import Derived.Scope
set_option linter.all false
section
/-
  THE ABSTRACT LAYER, ELEVENTH TEXT: the walk of code on the abstract frame is sound; a contract out of it. Generic over the program. No condition.
-/
namespace Go.Hx
open Go.RowKit
variable [Glob]

section
variable {P : Program} {E : Env} {S : Start}

def LiftQ (E : Env) (S : Start) (Q : Exit → List Ct → Prop) : Exit → Act → World → Prop := fun e a w => ∃ F, Q e F ∧ Inv E S F a w

theorem wp_loop_idx {c : Code} {Q : Exit → Act → World → Prop} (I : Nat → Act → World → Prop)
    (round : ∀ n a w, I n a w → c.wp P (Exit.then (fun a' w' => ∃ n', n' < n ∧ I n' a' w') Q) a w) {n : Nat} {a : Act} {w : World} (h0 : I n a w) : (Code.loop c).wp P Q a w := by
  intro b k cs
  have key : ∀ n a w, I n a w → ∃ e a' w', Q e a' w' ∧ Arrives P (lone (b.at a (.code c :: .inLoop c :: k)) cs w) b k cs e a' w' := by
    intro n
    induction n using Nat.strongRecOn with
    | _ n ih =>
      intro a w hI
      obtain ⟨e, a₁, w₁, hq, harr⟩ := round n a w hI b (.inLoop c :: k) cs
      cases e with
      | normal =>
        obtain ⟨n', hlt, hI₁⟩ := hq
        obtain ⟨e₂, a₂, w₂, hq₂, harr₂⟩ := ih n' hlt a₁ w₁ hI₁
        exact ⟨e₂, a₂, w₂, hq₂, .of_steps (Steps.trans harr (.one step_inLoop)) harr₂⟩
      | exit id => exact ⟨_, a₁, w₁, hq, .pass (x := .inLoop c) rfl (fun _ _ => .inl (by simp)) harr⟩
      | goto l => exact ⟨_, a₁, w₁, hq, .pass (x := .inLoop c) rfl (fun _ _ => .inl (by simp)) harr⟩
      | ret => exact ⟨_, a₁, w₁, hq, .pass (x := .inLoop c) rfl (fun _ _ => .inl (by simp)) harr⟩
      | panic ch => exact ⟨_, a₁, w₁, hq, .pass (x := .inLoop c) rfl (fun _ _ => .inl (by simp)) harr⟩
      | outgrown => exact ⟨_, a₁, w₁, hq, .pass (x := .inLoop c) rfl (fun _ _ => .inl (by simp)) harr⟩
  obtain ⟨e, a', w', hq, harr⟩ := key n a w h0
  exact ⟨e, a', w', hq, .of_steps (.one step_loop) harr⟩

/-- Does the abstract code stand for the model's? -/
def hcChk (P : Program) (E : Env) : Code → HCode → Bool
  | .skip, .skip => true
  | .region _ ops draw, .reg hs dr post => draw == dr && opsChk P E ops hs ops.toList && ghChk E post && (!draw || dkQ P ops hs)
  | .region _ ops draw, .drg ds post => draw && dosChk P E ops ds && ghChk E post
  | .region _ ops draw, .regG pre hs post => !draw && opsChk P E ops hs ops.toList && ghChk E pre && ghChk E post
  | .region _ ops draw, .drgG pre ds post => draw && dosChk P E ops ds && ghChk E pre && ghChk E post
  | .region _ ops draw, .rdr i hs dr post => draw == dr && opsChk P E ops hs ops.toList && ghChk E post && (!draw || dkQ P ops hs) && hs.all HO.quiet && decide (i < E.N) && (dsts hs).all (fun d => decide (d < E.N))
  | .seq x y, .seq a b => hcChk P E x a && hcChk P E y b
  | .cond c x y, .cond d a b => opdOk E.N d c && hcChk P E x a && hcChk P E y b
  | .block i x, .block j a => i == j && hcChk P E x a
  | .loop x, .loop a => hcChk P E x a
  | .exit i, .exit j => i == j
  | .ret, .ret => true
  | .scope x, .scope a => hcChk P E x a
  | .label _, .label => true
  | _, _ => false

theorem inv_drew {F : List Ct} {a : Act} {w : World} (h : Inv E S F a w) : Inv E S F a { w with drawn := w.drawn + 1 } := by
  obtain ⟨m, β, ow, h⟩ := h
  exact ⟨m, β, ow, h.quiet ⟨m.le_refl, h.mem, fun _ _ _ => rfl, fun _ _ _ _ => rfl, fun _ _ _ h => .inl h, Pres.drew _ w⟩⟩

theorem liftQ_then {K : List Ct → Prop} {Q : Exit → List Ct → Prop} {e : Exit} {a : Act} {w : World} (h : LiftQ E S (thenQ K Q) e a w) : Exit.then (fun a w => Lift E S K a w) (LiftQ E S Q) e a w := by
  obtain ⟨F, h1, h2⟩ := h
  cases e <;> exact ⟨F, h1, h2⟩

theorem code_sound (wf : E.Wf) :
    ∀ (c : Code) (h : HCode) (Q : Exit → List Ct → Prop) (F : List Ct) (a : Act) (w : World), hcChk P E c h = true → hwp P h Q F → Inv E S F a w → c.wp P (LiftQ E S Q) a w := by
  intro c
  induction c with
  | skip =>
    intro h Q F a w hk hW hI
    cases h <;> simp [hcChk] at hk
    exact wp_skip ⟨F, hW, hI⟩
  | region id ops draw =>
    intro h Q F a w hk hW hI
    cases h with
    | reg hs dr post =>
      simp only [hcChk, Bool.and_eq_true, beq_iff_eq, Bool.or_eq_true, Bool.not_eq_true'] at hk
      obtain ⟨⟨⟨rfl, h2⟩, h3⟩, h4⟩ := hk
      simp only [hwp] at hW
      have hN : ∀ F' a' w', ghW F' (fun F'' => Q .normal F'') post → Inv E S F' a' w' → LiftQ E S Q .normal a' w' := fun F' a' w' hg hI' => gh_sound wf h3 hI' hg
      cases draw with
      | false =>
        refine wp_region ?_
        have := ops_sound (P := P) wf (ops := ops) (X := fun v F' => Q (.panic [{ v, recovered := false }]) F') (Q := LiftQ E S Q) (fun v F' a' w' hx hI' => ⟨F', hx, hI'⟩) hN hs ops.toList 0 (fun i o ho => by simpa using ho) h2 F a w hI hW
        rw [Array.length_toList] at this
        rwa [List.range_eq_range']
      | true =>
        have hd : dkQ P ops hs = true := by simpa using h4
        have hq : ∀ o ∈ hs, o.quiet = true := by
          simp only [dkQ, Bool.and_eq_true, List.all_eq_true] at hd
          exact hd.2
        obtain ⟨m, β, ow, hG⟩ := hI
        refine quiet_region wf (fun _ => hd) hq h2 hG hW ?_
        rintro a' w' hg ⟨F1, h5, h6, _⟩
        exact hN F1 a' w' h5 ⟨m, β, ow, h6.gr hg⟩
    | drg ds post =>
      simp only [hcChk, Bool.and_eq_true] at hk
      obtain ⟨⟨rfl, h2⟩, h3⟩ := hk
      simp only [hwp] at hW
      exact drawn_sound wf h2 (fun F' a' w' hg hI' => gh_sound wf h3 hI' hg) (fun v F' a' w' hx hag hI' => ⟨F', hx F' hag, hI'⟩) (inv_drew hI) hW
    | regG pre hs post =>
      simp only [hcChk, Bool.and_eq_true, Bool.not_eq_true'] at hk
      obtain ⟨⟨⟨rfl, h2⟩, h5⟩, h3⟩ := hk
      simp only [hwp] at hW
      have hN : ∀ F' a' w', ghW F' (fun F'' => Q .normal F'') post → Inv E S F' a' w' → LiftQ E S Q .normal a' w' := fun F' a' w' hg hI' => gh_sound wf h3 hI' hg
      obtain ⟨F0, hW0, hI0⟩ := gh_sound wf h5 hI hW
      refine wp_region ?_
      have := ops_sound (P := P) wf (ops := ops) (X := fun v F' => Q (.panic [{ v, recovered := false }]) F') (Q := LiftQ E S Q) (fun v F' a' w' hx hI' => ⟨F', hx, hI'⟩) hN hs ops.toList 0 (fun i o ho => by simpa using ho) h2 F0 a w hI0 hW0
      rw [Array.length_toList] at this
      rwa [List.range_eq_range']
    | drgG pre ds post =>
      simp only [hcChk, Bool.and_eq_true] at hk
      obtain ⟨⟨⟨rfl, h2⟩, h5⟩, h3⟩ := hk
      simp only [hwp] at hW
      obtain ⟨F0, hW0, hI0⟩ := gh_sound wf h5 hI hW
      exact drawn_sound wf h2 (fun F' a' w' hg hI' => gh_sound wf h3 hI' hg) (fun v F' a' w' hx hag hI' => ⟨F', hx F' hag, hI'⟩) (inv_drew hI0) hW0
    | rdr i hs dr post =>
      simp only [hcChk, Bool.and_eq_true, beq_iff_eq, Bool.or_eq_true, Bool.not_eq_true', List.all_eq_true, decide_eq_true_eq] at hk
      obtain ⟨⟨⟨⟨⟨⟨rfl, h2⟩, h3⟩, h4⟩, hq⟩, hi⟩, hds⟩ := hk
      simp only [hwp] at hW
      split at hW
      · rename_i e k rows e1
        obtain ⟨m, β, ow, hG⟩ := hI
        obtain ⟨m', hG'⟩ := stk_freeze wf hG hi e1
        refine quiet_region wf (fun hd => by rcases h4 with h4 | h4 <;> simp_all) hq h2 hG' hW ?_
        rintro a' w' hg ⟨F1, h5, h6, h7⟩
        exact gh_sound wf h3 ⟨m, β, ow, (stk_back wf hG h6 hds h7).gr hg⟩ h5
      · exact hW.elim
    | _ => simp [hcChk] at hk
  | seq x y ihx ihy =>
    intro h Q F a w hk hW hI
    cases h <;> simp only [hcChk] at hk <;> try cases hk
    rename_i ha hb
    simp only [Bool.and_eq_true] at hk
    refine wp_seq (wp_mono (ihx ha _ F a w hk.1 hW hI) ?_)
    intro e a' w' h'
    have := liftQ_then h'
    cases e with
    | normal => obtain ⟨F', h1, h2⟩ := this; exact ihy hb Q F' a' w' hk.2 h1 h2
    | _ => exact this
  | cond c x y ihx ihy =>
    intro h Q F a w hk hW hI
    cases h <;> simp only [hcChk] at hk <;> try cases hk
    rename_i d ha hb
    simp only [Bool.and_eq_true] at hk
    obtain ⟨⟨h1, h2⟩, h3⟩ := hk
    simp only [hwp] at hW
    split at hW
    · rename_i t e1
      obtain ⟨n1, ht, hf⟩ := hW
      obtain ⟨m, β, ow, hG⟩ := hI
      have hv := pv_bool hG h1 n1 e1
      refine wp_cond_split hv (fun e => ihx ha Q F a w h2 (ht e) ⟨m, β, ow, hG⟩) (fun e => ihy hb Q F a w h3 (hf e) ⟨m, β, ow, hG⟩)
    · exact hW.elim
  | block id x ih =>
    intro h Q F a w hk hW hI
    cases h <;> simp only [hcChk] at hk <;> try cases hk
    rename_i j ha
    simp only [Bool.and_eq_true, beq_iff_eq] at hk
    obtain ⟨rfl, hk⟩ := hk
    refine wp_block (wp_mono (ih ha _ F a w hk hW hI) ?_)
    rintro e a' w' ⟨F', h1, h2⟩
    cases e with
    | exit id' =>
      simp only [inBlockQ] at h1
      simp only [Exit.inBlock]
      split at h1
      · rename_i e'; rw [if_pos e']; exact ⟨F', h1, h2⟩
      · rename_i e'; rw [if_neg e']; exact ⟨F', h1, h2⟩
    | _ => exact ⟨F', h1, h2⟩
  | loop x ih =>
    intro h Q F a w hk hW hI
    cases h <;> simp only [hcChk] at hk <;> try cases hk
    rename_i ha
    simp only [hwp] at hW
    obtain ⟨I, ⟨n, F0, hle, hI0⟩, hround⟩ := hW
    obtain ⟨m, β, ow, hG⟩ := hI
    refine wp_loop_idx (fun n a w => ∃ F, I n F ∧ Inv E S F a w) ?_ (n := n) ⟨F0, hI0, m, β, ow, hG.le hle⟩
    rintro n a w ⟨F1, h1, h2⟩
    refine wp_mono (ih ha _ F1 a w hk (hround n F1 h1) h2) ?_
    rintro e a' w' ⟨F2, h3, h4⟩
    cases e with
    | normal =>
      obtain ⟨n', F', hlt, hle', hI'⟩ := h3
      obtain ⟨m, β, ow, hG⟩ := h4
      exact ⟨n', hlt, F', hI', m, β, ow, hG.le hle'⟩
    | _ => exact ⟨F2, h3, h4⟩
  | exit id =>
    intro h Q F a w hk hW hI
    cases h <;> simp only [hcChk] at hk <;> try cases hk
    simp only [beq_iff_eq] at hk
    subst hk
    exact wp_exit ⟨F, hW, hI⟩
  | ret =>
    intro h Q F a w hk hW hI
    cases h <;> simp [hcChk] at hk
    exact wp_ret ⟨F, hW, hI⟩
  | scope x ih =>
    intro h Q F a w hk hW hI
    cases h <;> simp only [hcChk] at hk <;> try cases hk
    rename_i ha
    refine wp_scope_straight (wp_mono (ih ha _ F a w hk hW hI) ?_)
    rintro e a' w' ⟨F', h1, h2⟩
    cases e with
    | goto l => exact h1.elim
    | _ => exact ⟨F', h1, h2⟩
  | label l =>
    intro h Q F a w hk hW hI
    cases h <;> simp [hcChk] at hk
    exact wp_label ⟨F, hW, hI⟩
  | _ =>
    intro h Q F a w hk hW hI
    cases h <;> simp [hcChk] at hk

end
end Go.Hx
end

section
/-
  THE ABSTRACT LAYER, TWELFTH TEXT: a contract out of a function's code. Generic over the program. No condition.
-/
namespace Go.Hx
open Go.RowKit
variable [Glob]

def argCt : AV → Ct
  | .val x => .pv x
  | .own e k rows => .own e k rows
  | .io _ => .ptr 0 0

def ioOf : List AV → Option (List PV)
  | x :: as => match x with | .io cells => some cells | _ => ioOf as
  | [] => none

def nOwn : List AV → Nat
  | x :: as => match x with | .own _ _ _ => nOwn as + 1 | _ => nOwn as
  | [] => 0
def nIo : List AV → Nat
  | x :: as => match x with | .io _ => nIo as + 1 | _ => nIo as
  | [] => 0
def ownIx : List AV → Nat
  | x :: as => match x with | .own _ _ _ => 0 | _ => ownIx as + 1
  | [] => 0

/-- Cells of boxes that are not there yet. -/
def markU : List Nat → List Ct → List Ct
  | [], F => F
  | i :: r, F => markU r (F.set i .una)
/-- The frame a call begins with. -/
def F0 (E : Env) (base : Nat) (as : List AV) : List Ct := markU E.una (
  setCells (as.map argCt ++ List.replicate (E.L - as.length) .un) base (match ioOf as with | some cs => cs.map fun x => .pv (.one x) | none => []))

def formOk (E : Env) (base : Nat) (as : List AV) : Prop :=
  as.length ≤ E.N ∧ nOwn as ≤ 1 ∧ nIo as ≤ 1 ∧ match ioOf as with | some cs => E.nfix = 1 ∧ E.Γ[0]? = some (base, cs.length) | none => E.nfix = 0

inductive RSrc where
  | tmp (t : Nat)
  | cellB (t j base off n : Nat) (agg : Bool)
  | cellF (t n : Nat) (agg : Bool)
  deriving Inhabited

def rsOk (P : Program) (E : Env) : RSrc → ResultVar → Bool
  | .tmp t, .tmp t' => t == t' && decide (t < E.N)
  | .cellB t j base off n agg, .cell a ty => t == a && decide (t < E.N) && boxHas E j base (off + n) && isAggT P ty == some agg && szOf P ty == some n && (agg || n == 1)
  | .cellF t n agg, .cell a ty => t == a && decide (t < E.N) && isAggT P ty == some agg && szOf P ty == some n && (agg || n == 1)
  | _, _ => false
def rssOk (P : Program) (E : Env) : List RSrc → List ResultVar → Bool
  | [], [] => true
  | x :: xs, y :: ys => rsOk P E x y && rssOk P E xs ys
  | _, _ => false

def rsV (F : List Ct) : RSrc → PVal → Prop
  | .tmp t, x => match (getO F (.t t)).pv? with
    | some p => (getO F (.t t)).need ∧ (x = p ∨ x = p.norm)
    | none => False
  | .cellB t j base off n agg, x => match F.getD t .un, cellsPV F (base + off) n with
    | .ptr j' off', some cs => j' = j ∧ off' = off ∧ (x = (if agg then .agg cs else .one (cs.headD (.nl 0))) ∨ x = (if agg then PVal.agg cs else .one (cs.headD (.nl 0))).norm)
    | _, _ => False
  | .cellF t n agg, x => match (getO F (.t t)).pv? with
    | some (.one (.fp cs)) => (getO F (.t t)).need ∧ cs.length = n ∧ x = if agg then .agg (cs.map PV.norm) else .one (cs.headD (.nl 0)).norm
    | _ => False
def rsVs (F : List Ct) : List RSrc → List PVal → Prop
  | [], xs => xs = []
  | r :: rs, l => match l with | x :: xs => rsV F r x ∧ rsVs F rs xs | [] => False

def finRes (F : List Ct) (rs : List RSrc) : Res → Prop
  | .val x => match rs with | [r] => rsV F r x | _ => False
  | .own e k rows => match rs with | [.tmp t] => F.getD t .un = .own e k rows | _ => False
  | .tup xs => match rs with | [_] => False | _ => rsVs F rs xs
  | .pan _ => False
  | .ov x => match rs with
    | [.tmp t] => F.getD t .un = .ov x
    | [.cellB t j base off n agg] => F.getD t .un = .ptr j off ∧ ∃ cs, cellsOV F (base + off) n = some cs ∧ x = mkOV agg cs
    | _ => False

def finQ (E : Env) (base : Nat) (as : List AV) (rs : List RSrc) (r : RV) : Exit → List Ct → Prop
  | .normal, F | .ret, F => finRes F rs r.res ∧ ∀ cs, ioOf as = some cs → cellsPV F base cs.length = some r.io
  | .panic ch, _ => ∃ v, r.res = .pan v ∧ ch = [{ v, recovered := false }]
  | _, _ => False

section
variable {P : Program} {E : Env} {S : Start} {m : Mem} {β : Bx} {ow : Ow} {F : List Ct} {a : Act} {w : World}

/-- One result is read. -/
def rdR (tmps : Array Value) : ResultVar → Sem Value
  | .tmp t => pure (tmps.getD t undef)
  | .cell a t => do loadVar t (← asAddr (tmps.getD a undef))

theorem rs_sound (h : InvG E S m β ow F a w) {r : RSrc} {s : ResultVar} (hk : rsOk P E r s = true) {x : PVal} (hx : rsV F r x) :
    ∃ u, (rdR a.tmps s).run P w = .ok u w ∧ RpV m x u := by
  cases r with
  | tmp t =>
    cases s <;> simp only [rsOk] at hk <;> try cases hk
    rename_i t'
    simp only [Bool.and_eq_true, beq_iff_eq, decide_eq_true_eq] at hk
    obtain ⟨rfl, ht⟩ := hk
    simp only [rsV] at hx
    split at hx
    · rename_i p e1
      have hv := opd_pv h (x := .t t) (y := .tmp t) (by simp [opdOk, ht]) hx.1 e1
      rcases hx.2 with rfl | rfl
      · exact ⟨_, rfl, hv⟩
      · exact ⟨_, rfl, hv.norm⟩
    · exact hx.elim
  | cellB t j base off n agg =>
    cases s <;> simp only [rsOk] at hk <;> try cases hk
    rename_i b ty
    simp only [Bool.and_eq_true, beq_iff_eq, decide_eq_true_eq, Bool.or_eq_true] at hk
    obtain ⟨⟨⟨⟨⟨rfl, ht⟩, hb⟩, ha⟩, hn⟩, h1⟩ := hk
    simp only [rsV] at hx
    split at hx
    · rename_i j' off' cs e1 e2
      obtain ⟨rfl, rfl, hx⟩ := hx
      suffices hg : ∃ u, (rdR a.tmps (.cell t ty)).run P w = .ok u w ∧ RpV m (if agg then .agg cs else .one (cs.headD (.nl 0))) u by
        obtain ⟨u, h1, h2⟩ := hg
        rcases hx with rfl | rfl
        · exact ⟨u, h1, h2⟩
        · exact ⟨u, h1, h2.norm⟩
      clear hx
      obtain ⟨nn, hj, hle⟩ := boxHas_of hb
      obtain ⟨b, hb, hv⟩ := opd_ptr h (x := .t t) (y := .tmp t) (by simp [opdOk, ht]) e1
      have hv' : a.tmps.getD t undef = _ := hv
      have hB := h.boxes _ _ hj
      rw [hb] at hB
      obtain ⟨us, hl, hu, hm⟩ := box_cells hB n off' hle cs e2
      have hrun := run_loadVar_at (P := P) (w := w) ha hn h1 (us := us) (b := b) (o := off') hl hm
      refine ⟨if agg = true then .agg us.toArray else us.headD undef, by simp only [rdR, hv', asAddr, Sem.run_bind, Sem.run_pure, Result.andThen_ok, hrun], ?_⟩
      cases agg with
      | true => exact ⟨us, rfl, hu⟩
      | false =>
        rcases h1 with h1 | rfl
        · cases h1
        · have hcl : cs.length = 1 := by rw [← hu.length, hl]
          match cs, hcl with
          | [x], _ =>
            simp only [RpL] at hu
            obtain ⟨u, us', rfl, h2, _⟩ := hu
            exact h2
    · exact hx.elim
  | cellF t n agg =>
    cases s <;> simp only [rsOk] at hk <;> try cases hk
    rename_i b ty
    simp only [Bool.and_eq_true, beq_iff_eq, decide_eq_true_eq, Bool.or_eq_true] at hk
    obtain ⟨⟨⟨⟨rfl, ht⟩, ha⟩, hn⟩, h1⟩ := hk
    simp only [rsV] at hx
    split at hx
    · rename_i cs e1
      obtain ⟨n1, rfl, rfl⟩ := hx
      have hv := opd_pv h (x := .t t) (y := .tmp t) (by simp [opdOk, ht]) n1 e1
      obtain ⟨b, o, hv, hr⟩ := hv
      have hv' : a.tmps.getD t undef = _ := hv
      obtain ⟨us, hu, hm⟩ := hr.vals
      have hrun := run_loadVar_at (P := P) (w := w) ha hn h1 (us := us) (b := b) (o := o) (by rw [hu.length]) (fun i u hi => h.mem _ _ _ (hm i u hi))
      refine ⟨if agg = true then .agg us.toArray else us.headD undef, by simp only [rdR, hv', asAddr, Sem.run_bind, Sem.run_pure, Result.andThen_ok, hrun], ?_⟩
      cases agg with
      | true => exact ⟨us, rfl, hu.norm⟩
      | false =>
        rcases h1 with h1 | h1
        · cases h1
        · exact headD_norm hu h1
    · exact hx.elim

theorem rss_sound (h : InvG E S m β ow F a w) : ∀ {rs : List RSrc} {ss : List ResultVar} (_ : rssOk P E rs ss = true) {xs : List PVal} (_ : rsVs F rs xs),
    ∃ us : List Value, (ss.mapM (rdR a.tmps)).run P w = .ok us w ∧ RpVL m xs us
  | [], [], _, xs, hx => by
    simp only [rsVs] at hx
    subst hx
    exact ⟨[], by simp, rfl⟩
  | [], s :: ss, hk, xs, hx => by simp [rssOk] at hk
  | r :: rs, [], hk, xs, hx => by simp [rssOk] at hk
  | r :: rs, s :: ss, hk, [], hx => by simp [rsVs] at hx
  | r :: rs, s :: ss, hk, x :: xs, hx => by
    simp only [rssOk, Bool.and_eq_true] at hk
    simp only [rsVs] at hx
    obtain ⟨u, h1, h2⟩ := rs_sound h hk.1 hx.1
    obtain ⟨us, h3, h4⟩ := rss_sound h hk.2 hx.2
    refine ⟨u :: us, ?_, u, us, rfl, h2, h4⟩
    rw [List.mapM_cons, Sem.run_bind, h1]
    simp only [Result.andThen_ok]
    rw [Sem.run_bind, h3]
    simp

theorem results_run (h : InvG E S m β ow F a w) {fn : Func} {rs : List RSrc} (hk : rssOk P E rs fn.results.toList = true) {xs : List PVal} (hx : rsVs F rs xs) :
    ∃ us : List Value, (results fn a.tmps).run P w = .ok (match us with | [u] => u | _ => .tuple us.toArray) w ∧ RpVL m xs us := by
  obtain ⟨us, h1, h2⟩ := rss_sound h hk hx
  refine ⟨us, ?_, h2⟩
  have e : results fn a.tmps = (do let vs ← fn.results.mapM (rdR a.tmps); pure (if h : vs.size = 1 then vs[0] else .tuple vs)) := by
    unfold results
    congr
  rw [e, Array.mapM_eq_mapM_toList]
  have h3 : (Functor.map List.toArray (List.mapM (rdR a.tmps) fn.results.toList) : Sem (Array Value)).run P w = .ok us.toArray w := by
    rw [map_eq_pure_bind, Sem.run_bind, h1]
    rfl
  rw [Sem.run_bind, h3]
  simp only [Result.andThen_ok]
  match us with
  | [] => rfl
  | [u] => rfl
  | u :: v :: us => rfl

theorem ArgsRep.get : ∀ {as : List AV} {us : List Value}, ArgsRep m w as us → ∀ (i : Nat) (x : AV), as[i]? = some x → ∃ u, us[i]? = some u ∧ ArgRep m w x u
  | [], us, h, i, x, hx => by simp at hx
  | y :: ys, us, h, i, x, hx => by
    simp only [ArgsRep] at h
    obtain ⟨u, us', rfl, h2, h3⟩ := h
    cases i with
    | zero => simp at hx; subst hx; exact ⟨u, rfl, h2⟩
    | succ i => simpa using ArgsRep.get h3 i x (by simpa using hx)

theorem own_get : ∀ {as : List AV} {us : List Value}, ArgsRep m w as us → nOwn as ≤ 1 → ∀ (i : Nat) (e k : Nat) (rows : List (List PV)), as[i]? = some (.own e k rows) → i = ownIx as ∧ ∃ u, us[i]? = some u ∧ ownB as us = u.ownBlock
  | [], us, h, _, i, e, k, rows, hx => by simp at hx
  | y :: ys, us, h, hn, i, e, k, rows, hx => by
    simp only [ArgsRep] at h
    obtain ⟨u, us', rfl, h2, h3⟩ := h
    cases i with
    | zero =>
      simp at hx; subst hx
      exact ⟨rfl, u, rfl, rfl⟩
    | succ i =>
      have hx' : ys[i]? = some (.own e k rows) := by simpa using hx
      cases y with
      | own e' k' rows' =>
        exfalso
        have : nOwn ys = 0 := by simp [nOwn] at hn; omega
        exact absurd hx' (no_own this i e k rows)
      | val x =>
        obtain ⟨h4, u', h5, h6⟩ := own_get h3 (by simpa [nOwn] using hn) i e k rows hx'
        exact ⟨by simp [ownIx, h4], u', by simpa using h5, by simpa [ownB] using h6⟩
      | io cs =>
        obtain ⟨h4, u', h5, h6⟩ := own_get h3 (by simpa [nOwn] using hn) i e k rows hx'
        exact ⟨by simp [ownIx, h4], u', by simpa using h5, by simpa [ownB] using h6⟩
where
  no_own : ∀ {as : List AV}, nOwn as = 0 → ∀ (i : Nat) (e k : Nat) (rows : List (List PV)), as[i]? ≠ some (.own e k rows)
  | [], _, i, _, _, _ => by simp
  | .own _ _ _ :: ys, h, _, _, _, _ => by simp [nOwn] at h
  | .val _ :: ys, h, 0, _, _, _ => by simp
  | .val _ :: ys, h, i + 1, e, k, rows => by simpa using no_own (as := ys) (by simpa [nOwn] using h) i e k rows
  | .io _ :: ys, h, 0, _, _, _ => by simp
  | .io _ :: ys, h, i + 1, e, k, rows => by simpa using no_own (as := ys) (by simpa [nOwn] using h) i e k rows

theorem io_get : ∀ {as : List AV} {us : List Value}, ArgsRep m w as us → nIo as ≤ 1 → ∀ (i : Nat) (cs : List PV), as[i]? = some (.io cs) → ioOf as = some cs ∧ ∃ u, us[i]? = some u ∧ ioB as us = ptrB u
  | [], us, h, _, i, cs, hx => by simp at hx
  | y :: ys, us, h, hn, i, cs, hx => by
    simp only [ArgsRep] at h
    obtain ⟨u, us', rfl, h2, h3⟩ := h
    cases i with
    | zero =>
      simp at hx; subst hx
      exact ⟨rfl, u, rfl, rfl⟩
    | succ i =>
      have hx' : ys[i]? = some (.io cs) := by simpa using hx
      cases y with
      | io cs' =>
        exfalso
        have : nIo ys = 0 := by simp [nIo] at hn; omega
        exact absurd hx' (no_io this i cs)
      | val x =>
        obtain ⟨h4, u', h5, h6⟩ := io_get h3 (by simpa [nIo] using hn) i cs hx'
        exact ⟨by simp [ioOf, h4], u', by simpa using h5, by simpa [ioB] using h6⟩
      | own e k rows =>
        obtain ⟨h4, u', h5, h6⟩ := io_get h3 (by simpa [nIo] using hn) i cs hx'
        exact ⟨by simp [ioOf, h4], u', by simpa using h5, by simpa [ioB] using h6⟩
where
  no_io : ∀ {as : List AV}, nIo as = 0 → ∀ (i : Nat) (cs : List PV), as[i]? ≠ some (.io cs)
  | [], _, i, _ => by simp
  | .io _ :: ys, h, _, _ => by simp [nIo] at h
  | .val _ :: ys, h, 0, _ => by simp
  | .val _ :: ys, h, i + 1, cs => by simpa using no_io (as := ys) (by simpa [nIo] using h) i cs
  | .own _ _ _ :: ys, h, 0, _ => by simp
  | .own _ _ _ :: ys, h, i + 1, cs => by simpa using no_io (as := ys) (by simpa [nIo] using h) i cs

/-- Where there is one that points to a box, its box. -/
theorem io_box : ∀ {as : List AV} {us : List Value} {cs : List PV}, ArgsRep m w as us → ioOf as = some cs → ioLen as = cs.length ∧ ∃ b vs T, ioB as us = some b ∧ w.heap[b]? = some (.cells vs T (0, 0)) ∧ (∀ o, m b o = none) ∧ RpL m cs vs.toList
  | [], us, cs, h, hx => by simp [ioOf] at hx
  | y :: ys, us, cs, h, hx => by
    simp only [ArgsRep] at h
    obtain ⟨u, us', rfl, h2, h3⟩ := h
    cases y with
    | io cs' =>
      simp only [ioOf, Option.some.injEq] at hx
      subst hx
      obtain ⟨b, vs, T, rfl, h4, h5, h6⟩ := h2
      exact ⟨rfl, b, vs, T, rfl, h4, h5, h6⟩
    | val x => exact io_box (as := ys) (us := us') h3 hx
    | own e k rows => exact io_box (as := ys) (us := us') h3 hx
theorem io_none : ∀ {as : List AV} {us : List Value}, ioOf as = none → ioB as us = none
  | [], us, h => by cases us <;> rfl
  | y :: ys, [], h => rfl
  | y :: ys, u :: us, h => by
    cases y with
    | io cs => simp [ioOf] at h
    | val x => exact io_none (as := ys) h
    | own e k rows => exact io_none (as := ys) h

theorem own_block : ∀ {as : List AV} {us : List Value} {b : Nat}, ArgsRep m w as us → ownB as us = some b → ∃ (i e k : Nat) (rows : List (List PV)) (u : Value), as[i]? = some (.own e k rows) ∧ us[i]? = some u ∧ u.ownBlock = some b ∧ OwnAt m w e k rows u
  | [], us, b, h, hb => by simp [ownB] at hb
  | y :: ys, us, b, h, hb => by
    simp only [ArgsRep] at h
    obtain ⟨u, us', rfl, h2, h3⟩ := h
    cases y with
    | own e k rows => exact ⟨0, e, k, rows, u, rfl, rfl, hb, h2⟩
    | val x =>
      obtain ⟨i, e, k, rows, u', h4, h5, h6⟩ := own_block h3 (b := b) hb
      exact ⟨i + 1, e, k, rows, u', by simpa using h4, by simpa using h5, h6⟩
    | io cs =>
      obtain ⟨i, e, k, rows, u', h4, h5, h6⟩ := own_block h3 (b := b) hb
      exact ⟨i + 1, e, k, rows, u', by simpa using h4, by simpa using h5, h6⟩

theorem OwnAt.lt {e k : Nat} {rows : List (List PV)} {u : Value} (h : OwnAt m w e k rows u) {g : Nat} (hg : u.ownBlock = some g) : g < w.heap.size := by
  obtain ⟨⟨xs, h1, h2⟩, _⟩ := h
  rcases h2 with ⟨rfl, _⟩ | ⟨g', cap, cur, rfl, _, hh, _⟩
  · simp [Value.ownBlock] at hg
  · simp only [Value.ownBlock, Option.some.injEq] at hg
    subst hg
    exact (Array.getElem?_eq_some_iff.1 hh).1

theorem inv_markU (wf : E.Wf) : ∀ (l : List Nat) (F : List Ct), (∀ i ∈ l, E.N ≤ i ∧ ∀ j bn b, E.Γ[j]? = some bn → β j = some b → i < bn.1 ∨ bn.1 + bn.2 ≤ i) → InvG E S m β ow F a w → InvG E S m β ow (markU l F) a w
  | [], _, _, h => h
  | x :: r, F, hx, h => by
    refine inv_markU wf r (F.set x .una) (fun i hi => hx i (List.mem_cons_of_mem _ hi)) ?_
    obtain ⟨hN, hb⟩ := hx x List.mem_cons_self
    have hg : ∀ i, (F.set x .una).getD i .un = F.getD i .un ∨ (i = x ∧ (F.set x .una).getD i .un = .una) := by
      intro i
      rw [getD_set]
      split
      · exact .inr ⟨by omega, rfl⟩
      · exact .inl rfl
    refine { h with lenF := by rw [List.length_set]; exact h.lenF, slots := fun i hi => ?_, boxes := fun j bn hj => ?_ }
    · rcases hg i with e | ⟨e, _⟩
      · rw [e]; exact h.slots i hi
      · omega
    · have hB := h.boxes j bn hj
      cases hβ : β j with
      | none =>
        rw [hβ] at hB
        intro o ho
        rcases hg (bn.1 + o) with e | ⟨_, e⟩
        · rw [e]; exact hB o ho
        · exact .inr e
      | some b =>
        rw [hβ] at hB
        obtain ⟨h1, h2, cs, T, h3, h4, h5⟩ := hB
        refine ⟨h1, h2, cs, T, h3, h4, fun o ho => ?_⟩
        rcases hg (bn.1 + o) with e | ⟨e, _⟩
        · rw [e]; exact h5 o ho
        · have := hb j bn b hj hβ
          omega

/-- The frame a call begins with says what is so. -/
theorem inv_start (hun : E.unaOk = true) (wf : E.Wf) {base : Nat} {as : List AV} {us : List Value} (hf : formOk E base as) (hm : MemOk m w) (ha : ArgsRep m w as us) (hd : ∀ g, ownB as us = some g → ioB as us ≠ some g) (hG0 : Glob.ok w) (hGR : ∀ b, isRes as us b → Glob.n ≤ b) :
    Inv E { w0 := w, m0 := m, R0 := isRes as us, b0 := fun j => if j = 0 then ioB as us else none, g0 := hG0, gR := hGR } (F0 E base as) { tmps := us.toArray ++ Array.replicate (E.N - us.toArray.size) undef, defers := [] } w := by
  obtain ⟨hlen, hno, hni, hio⟩ := hf
  have hul := ha.length
  have hNL := wf.le
  have hFl : (as.map argCt ++ List.replicate (E.L - as.length) Ct.un).length = E.L := by simp; omega
  have hbase : ∀ cs, ioOf as = some cs → E.N ≤ base ∧ base + cs.length ≤ E.L := by
    intro cs hc
    rw [hc] at hio
    exact ⟨wf.lo 0 _ hio.2, wf.hi 0 _ hio.2⟩
  refine ⟨m, fun j => if j = 0 then ioB as us else none, fun b => if ownB as us = some b then some (.key (ownIx as)) else if ioB as us = some b then some (.box 0) else none, ?_⟩
  refine inv_markU wf _ _ (fun i hi => ?_) ?_
  · have hu := List.all_eq_true.1 hun i hi
    simp only [Bool.and_eq_true, decide_eq_true_eq] at hu
    refine ⟨hu.1, fun j bn b hj hb => ?_⟩
    split at hb
    · rename_i e
      subst e
      have hn : E.nfix = 1 := by
        cases hc : ioOf as with
        | none => rw [io_none hc] at hb; cases hb
        | some cs => rw [hc] at hio; exact hio.1
      have := List.all_eq_true.1 hu.2 0 (by rw [hn]; decide)
      rw [hj] at this
      simpa using this
    · cases hb
  refine ⟨by rw [length_setCells]; exact hFl, by simp; omega, rfl, ?_, ?_, hm, m.le_refl, Pres.refl _ _, ?_, ?_, fun b o u h => .inl h, fun j _ => rfl⟩
  · intro i hi
    have e1 : (setCells (as.map argCt ++ List.replicate (E.L - as.length) Ct.un) base (match ioOf as with | some cs => cs.map fun x => Ct.pv (.one x) | none => [])).getD i .un = (as.map argCt ++ List.replicate (E.L - as.length) Ct.un).getD i .un := by
      cases hc : ioOf as with
      | none => rfl
      | some cs =>
        have := hbase cs hc
        rw [getD_setCells, if_neg (by omega)]
    rw [e1]
    by_cases hia : i < as.length
    · rw [List.getD_eq_getElem?_getD, List.getElem?_append_left (by simpa using hia), List.getElem?_map, List.getElem?_eq_getElem hia]
      simp only [Option.map_some, Option.getD_some]
      obtain ⟨u, h1, h2⟩ := ha.get i as[i] (List.getElem?_eq_getElem hia)
      have e2 : (us.toArray ++ Array.replicate (E.N - us.toArray.size) undef).getD i undef = u := by
        rw [Array.getD_eq_getD_getElem?, Array.getElem?_append_left (by simp; omega)]
        simp [h1]
      rw [e2]
      cases hx : as[i] with
      | val x => rw [hx] at h2; exact h2
      | own e k rows =>
        rw [hx] at h2
        obtain ⟨h3, u', h4, h5⟩ := own_get ha hno i e k rows (by rw [← hx]; exact List.getElem?_eq_getElem hia)
        rw [h1] at h4
        injection h4 with h4
        subst h4
        refine OwnAt.rep h2 fun g hg => ?_
        rw [if_pos (h5.trans hg), h3]
      | io cs =>
        rw [hx] at h2
        obtain ⟨h3, u', h4, h5⟩ := io_get ha hni i cs (by rw [← hx]; exact List.getElem?_eq_getElem hia)
        rw [h1] at h4
        injection h4 with h4
        subst h4
        obtain ⟨b, vs, T, rfl, _⟩ := h2
        exact ⟨b, by simpa [ptrB] using h5, rfl⟩
    · rw [List.getD_eq_getElem?_getD, List.getElem?_append_right (by simpa using Nat.le_of_not_lt hia), List.getElem?_replicate]
      split <;> trivial
  · intro j bn hj
    by_cases hj0 : j = 0
    · subst hj0
      simp only [if_true]
      cases hc : ioOf as with
      | none =>
        rw [io_none hc]
        intro o ho
        have hlo := wf.lo 0 bn hj
        simp only [hc, setCells]
        rw [List.getD_eq_getElem?_getD, List.getElem?_append_right (by simp; omega), List.getElem?_replicate]
        left; split <;> rfl
      | some cs =>
        rw [hc] at hio
        obtain ⟨_, b, vs, T, h1, h2, h3, h4⟩ := io_box ha hc
        rw [hio.2] at hj
        injection hj with hj
        subst hj
        have := hbase cs hc
        rw [h1]
        refine ⟨?_, h3, vs, T, h2, ?_, ?_⟩
        · simp only; rw [if_neg (fun h => hd b h h1), if_pos trivial]
        · simpa using h4.length
        · intro o ho
          simp only at ho ⊢
          rw [getD_setCells, if_pos (by simp; omega)]
          have e : base + o - base = o := by omega
          have hvl : vs.toList.length = cs.length := h4.length
          rw [e, List.getD_eq_getElem?_getD, List.getElem?_map, List.getElem?_eq_getElem ho]
          have hlt : o < vs.toList.length := by omega
          have hu : vs.getD o undef = vs.toList[o] := by
            rw [Array.getD_eq_getD_getElem?, ← Array.getElem?_toList, List.getElem?_eq_getElem hlt]; rfl
          rw [hu]
          exact h4.get _ _ _ (List.getElem?_eq_getElem ho) (List.getElem?_eq_getElem hlt)
    · simp only [hj0, if_false]
      intro o ho
      have hlo := wf.lo j bn hj
      have hout : ∀ cs, ioOf as = some cs → ¬ (base ≤ bn.1 + o ∧ bn.1 + o < base + cs.length) := by
        intro cs hc
        rw [hc] at hio
        have := wf.ap j 0 _ _ hj hio.2 hj0
        simp only at this
        omega
      rw [getD_setCells]
      rw [if_neg]
      · rw [List.getD_eq_getElem?_getD, List.getElem?_append_right (by simp; omega), List.getElem?_replicate]
        left; split <;> rfl
      · cases hc : ioOf as with
        | none => simp; omega
        | some cs => intro h; exact hout cs hc (by simp at h; omega)
  · intro b t hb
    refine .inr ?_
    split at hb
    · rename_i h; exact .inl h
    · split at hb
      · rename_i h; exact .inr h
      · cases hb
  · intro b t hb
    split at hb
    · rename_i h
      obtain ⟨i, e, k, rows, u, _, _, h5, h6⟩ := own_block ha h
      exact h6.lt h5
    · split at hb
      · rename_i h
        cases hc : ioOf as with
        | none => rw [io_none hc] at h; cases h
        | some cs =>
          obtain ⟨_, b', vs, T, h1, h2, _⟩ := io_box ha hc
          rw [h] at h1
          injection h1 with h1
          subst h1
          exact (Array.getElem?_eq_some_iff.1 h2).1
      · cases hb

theorem ioLen_of : ∀ {as : List AV} {cs : List PV}, ioOf as = some cs → ioLen as = cs.length
  | [], cs, h => by simp [ioOf] at h
  | y :: ys, cs, h => by
    cases y with
    | io cs' => simp only [ioOf, Option.some.injEq] at h; subst h; rfl
    | val x => exact ioLen_of (as := ys) h
    | own e k rows => exact ioLen_of (as := ys) h

mutual
/-- What can lie in memory: no text, no slice is longer than Go lets it be. -/
def PV.fits : PV → Prop
  | .v x => flat x = true
  | .sl _ rows => rows.length ≤ maxLen ∧ fitsR rows
  | .nl _ => True
  | .fp cs => fitsL cs
  | .clo _ caps => fitsL caps
  | .any => True
def fitsL : List PV → Prop
  | [] => True
  | x :: xs => x.fits ∧ fitsL xs
def fitsR : List (List PV) → Prop
  | [] => True
  | r :: rs => fitsL r ∧ fitsR rs
end
def PVal.fits : PVal → Prop
  | .one x => x.fits
  | .agg cs => fitsL cs
def AV.fits : AV → Prop
  | .val x => x.fits
  | .own _ _ rows => rows.length ≤ maxLen ∧ fitsR rows
  | .io cells => fitsL cells
def AVs.fits : List AV → Prop
  | [] => True
  | x :: xs => x.fits ∧ AVs.fits xs

mutual
theorem Rp.fits : ∀ (x : PV) (u : Value), Rp m x u → x.fits
  | .v _, _, h => by simp only [Rp] at h; simp only [PV.fits]; exact h.2
  | .sl k rows, _, h => by
    simp only [Rp] at h
    obtain ⟨A, c, _, h2, h3, h4⟩ := h
    simp only [PV.fits]
    refine ⟨Nat.le_trans h2 h3, ?_⟩
    rcases h4 with h4 | ⟨b, o, _, h5⟩
    · subst h4; simp only [fitsR]
    · exact RpRows.fits rows b k o h5
  | .nl _, _, _ => by simp only [PV.fits]
  | .fp cs, _, h => by
    simp only [Rp] at h
    obtain ⟨b, o, _, h2⟩ := h
    simp only [PV.fits]
    exact RpAt.fits cs b o h2
  | .clo f caps, _, h => by
    simp only [Rp] at h
    obtain ⟨us, _, h2⟩ := h
    simp only [PV.fits]
    exact RpL.fits caps us h2
  | .any, _, _ => by simp only [PV.fits]
theorem RpAt.fits : ∀ (cs : List PV) (b o : Nat), RpAt m b o cs → fitsL cs
  | [], _, _, _ => by simp only [fitsL]
  | x :: xs, b, o, h => by
    simp only [RpAt] at h
    obtain ⟨⟨u, _, h2⟩, h3⟩ := h
    simp only [fitsL]
    exact ⟨Rp.fits x u h2, RpAt.fits xs b (o + 1) h3⟩
theorem RpRows.fits : ∀ (rows : List (List PV)) (b k o : Nat), RpRows m b k o rows → fitsR rows
  | [], _, _, _, _ => by simp only [fitsR]
  | r :: rs, b, k, o, h => by
    simp only [RpRows] at h
    obtain ⟨⟨_, h2⟩, h3⟩ := h
    simp only [fitsR]
    exact ⟨RpAt.fits r b o h2, RpRows.fits rs b k (o + k) h3⟩
theorem RpL.fits : ∀ (cs : List PV) (us : List Value), RpL m cs us → fitsL cs
  | [], _, _ => by simp only [fitsL]
  | x :: xs, _, h => by
    simp only [RpL] at h
    obtain ⟨u, us', _, h2, h3⟩ := h
    simp only [fitsL]
    exact ⟨Rp.fits x u h2, RpL.fits xs us' h3⟩
end

theorem ArgRep.fits {x : AV} {u : Value} (h : ArgRep m w x u) : x.fits := by
  cases x with
  | val x =>
    cases x with
    | one x => exact Rp.fits x u h
    | agg cs => obtain ⟨us, _, h2⟩ := h; exact RpL.fits cs us h2
  | own e k rows =>
    have := Rp.fits _ _ (OwnAt.rp h)
    simp only [PV.fits] at this
    exact this
  | io cells => obtain ⟨b, cs, T, _, _, _, h2⟩ := h; exact RpL.fits _ _ h2
theorem ArgsRep.fits : ∀ {as : List AV} {us : List Value}, ArgsRep m w as us → AVs.fits as
  | [], _, _ => trivial
  | x :: xs, _, h => by
    simp only [ArgsRep] at h
    obtain ⟨u, us', _, h2, h3⟩ := h
    exact ⟨h2.fits, ArgsRep.fits h3⟩

/-- THE CONTRACT OF A FUNCTION, out of a walk on the abstract frame. -/
theorem contract_of_wp {f : FuncId} {fn : Func} {c : Code} (hf : P.funcs[f]? = some fn) (hb : fn.body = some c) (hcall : callable P f = true) (hE' : (E.ok && E.unaOk) = true) (hN : E.N = fn.ntmps)
    {h : HCode} (hk : hcChk P E c h = true)
    {rs : List RSrc} (hrs : rssOk P E rs fn.results.toList = true) {base : Nat} {as : List AV} (hfo : formOk E base as) {r : RV} (hW0 : AVs.fits as → hwp P h (finQ E base as rs r) (F0 E base as)) (hov : ∀ x, r.res = .ov x → nOwn as = 0 := by intro x h; cases h <;> rfl) : Contract P f as r := by
  have hE := Bool.and_eq_true_iff.1 hE'
  have wf := Env.wf_of_ok hE.1
  refine ⟨hcall, fun m w us hm ha hd hG0 hGR => ?_⟩
  have hW := hW0 ha.fits
  have h0 := inv_start hE.2 wf hfo hm ha hd hG0 hGR
  have hc := code_sound wf c h _ _ _ _ hk hW h0
  refine calls_of_wp hf hb ?_
  rw [← hN]
  refine wp_mono hc ?_
  have hio := hfo.2.2.2
  -- what holds in any case behind the walk
  have common : ∀ {m' : Mem} {β : Bx} {ow : Ow} {F : List Ct} {a' : Act} {w' : World},
      InvG E { w0 := w, m0 := m, R0 := isRes as us, b0 := fun j => if j = 0 then ioB as us else none, g0 := hG0, gR := hGR } m' β ow F a' w' →
      m.le m' ∧ MemOk m' w' ∧ Pres (isRes as us) w w' ∧ (∀ b o u, m' b o = some u → m b o = some u ∨ w.heap.size ≤ b ∨ ownB as us = some b) ∧
      (∀ b, ioB as us = some b → ow b = some (.box 0) ∧ ∀ io : Option (List PV), (∀ l, io = some l → ∀ cs, ioOf as = some cs → cellsPV F base cs.length = some l) → IoRep m' w' b (ioLen as) io) := by
    intro m' β ow F a' w' hG
    have key : ∀ b, ioB as us = some b → ∃ cs, ioOf as = some cs ∧ E.Γ[0]? = some (base, cs.length) ∧ BoxRep m' w' ow F 0 (base, cs.length) (some b) := by
      intro b hb
      cases hc : ioOf as with
      | none => rw [io_none hc] at hb; cases hb
      | some cs =>
        rw [hc] at hio
        have hB := hG.boxes 0 _ hio.2
        have hβ : β 0 = some b := by rw [hG.fix 0 (by rw [hio.1]; exact Nat.one_pos)]; simp only [if_true]; exact hb
        rw [hβ] at hB
        exact ⟨cs, rfl, hio.2, hB⟩
    refine ⟨hG.mle, hG.mem, hG.pres, fun b o u hu => ?_, fun b hb => ?_⟩
    · rcases hG.new b o u hu with g | g | g
      · exact .inl g
      · exact .inr (.inl g)
      · rcases g with g | g
        · exact .inr (.inr g)
        · obtain ⟨cs, _, _, hB⟩ := key b g
          have := hB.2.1 o
          rw [hu] at this
          cases this
    · obtain ⟨cs, hc, hj, hB⟩ := key b hb
      refine ⟨hB.1, fun io hl => ?_⟩
      rw [ioLen_of hc]
      refine ⟨hB.2.1, ?_⟩
      cases io with
      | none =>
        obtain ⟨h1, h2, vs, T, h3, h4, h5⟩ := hB
        exact ⟨vs, T, h3, h4, fun l e => by cases e⟩
      | some l =>
        obtain ⟨vs, T, h3, h4, h5⟩ := box_whole hB (hl l rfl cs hc)
        exact ⟨vs, T, h3, h4, fun l' e => by injection e with e; subst e; exact h5⟩
  -- an ending with results
  have fin : ∀ {F : List Ct} {a' : Act} {w' : World}, (finRes F rs r.res ∧ ∀ cs, ioOf as = some cs → cellsPV F base cs.length = some r.io) →
      Inv E { w0 := w, m0 := m, R0 := isRes as us, b0 := fun j => if j = 0 then ioB as us else none, g0 := hG0, gR := hGR } F a' w' →
      a'.defers = [] ∧ ∃ v, (results fn a'.tmps).run P w' = .ok v w' ∧ Post m w as us r (.returned v) w' := by
    rintro F a' w' ⟨hr, hi⟩ ⟨m', β, ow, hG⟩
    obtain ⟨c1, c2, c3, c4, c5⟩ := common hG
    refine ⟨hG.dfr, ?_⟩
    have hmk : ∀ v, ResRep m' w w' (ownB as us) r.res (.returned v) → Post m w as us r (.returned v) w' := by
      intro v hv
      refine ⟨m', c1, c2, c3, c4, fun b hb => (c5 b hb).2 _ ?_, hv⟩
      intro l hl cs hcs
      unfold Res.ioOf at hl
      split at hl
      · cases hl
      · injection hl with hl; rw [← hl]; exact hi cs hcs
    cases hres : r.res with
    | val x =>
      rw [hres] at hr
      simp only [finRes] at hr
      split at hr
      · rename_i r1
        obtain ⟨us', h1, h2⟩ := results_run hG hrs (xs := [x]) (by simp only [rsVs]; exact ⟨hr, trivial⟩)
        obtain ⟨u, us'', rfl, h3, h4⟩ := h2
        simp only [RpVL] at h4
        subst h4
        exact ⟨_, h1, hmk _ (by rw [hres]; exact ⟨u, rfl, h3⟩)⟩
      · exact hr.elim
    | own e k rows =>
      rw [hres] at hr
      simp only [finRes] at hr
      split at hr
      · rename_i t
        have hlt : t < E.N := by
          cases hl : fn.results.toList with
          | nil => rw [hl] at hrs; simp [rssOk] at hrs
          | cons s ss =>
            rw [hl] at hrs
            simp only [rssOk, Bool.and_eq_true] at hrs
            cases s with
            | tmp t' => have := hrs.1; simp only [rsOk, Bool.and_eq_true, decide_eq_true_eq] at this; exact this.2
            | cell x y => have := hrs.1; simp [rsOk] at this
        have hs := hG.slots t hlt
        rw [hr] at hs
        obtain ⟨us', h1, h2⟩ := results_run hG hrs (xs := [.one (.sl k rows)]) (by simp only [rsVs, rsV, getO, hr]; exact ⟨⟨trivial, .inl rfl⟩, trivial⟩)
        obtain ⟨u, us'', rfl, h3, h4⟩ := h2
        simp only [RpVL] at h4
        subst h4
        refine ⟨_, h1, ?_⟩
        -- the value is the slot's
        have hu : u = a'.tmps.getD t undef := by
          have e : results fn a'.tmps = (do let vs ← fn.results.mapM (rdR a'.tmps); pure (if h : vs.size = 1 then vs[0] else .tuple vs)) := by unfold results; congr
          cases hl : fn.results.toList with
          | nil => rw [hl] at hrs; simp [rssOk] at hrs
          | cons s ss =>
            rw [hl] at hrs
            simp only [rssOk, Bool.and_eq_true] at hrs
            cases ss with
            | cons s2 ss2 => simp [rssOk] at hrs
            | nil =>
              cases s with
              | cell x y => have := hrs.1; simp [rsOk] at this
              | tmp t' =>
                have h5 := hrs.1
                simp only [rsOk, Bool.and_eq_true, beq_iff_eq, decide_eq_true_eq] at h5
                obtain ⟨rfl, _⟩ := h5
                rw [e, Array.mapM_eq_mapM_toList, hl] at h1
                simp [rdR] at h1
                rw [Array.getD_eq_getD_getElem?]; exact h1.symm
        subst hu
        refine hmk _ ?_
        rw [hres]
        refine ⟨_, rfl, OwnRep.at_ hs, fun g hg => ?_⟩
        have hg1 := (hs.2 g hg).1
        rcases hG.own g _ hg1 with h6 | h6 | h6
        · exact .inl h6
        · exact .inr h6
        · rw [(c5 g h6).1] at hg1; cases hg1
      · exact hr.elim
    | tup xs =>
      rw [hres] at hr
      simp only [finRes] at hr
      split at hr
      · exact hr.elim
      · rename_i hne
        obtain ⟨us', h1, h2⟩ := results_run hG hrs hr
        have hl1 : us'.length = xs.length := RpVL.length h2
        have hl2 : rs.length = xs.length := rsVs_length hr
        match us', h1, h2, hl1 with
        | [], h1, h2, _ => exact ⟨_, h1, hmk _ (by rw [hres]; exact ⟨[], rfl, h2⟩)⟩
        | [u], h1, h2, hl1 => 
          exfalso
          match rs, hne, hl2 with
          | [x], hne, _ => exact hne x rfl
          | [], _, h => simp at h hl1; omega
          | _ :: _ :: _, _, h => simp at h hl1; omega
        | u :: v :: l, h1, h2, _ => exact ⟨_, h1, hmk _ (by rw [hres]; exact ⟨u :: v :: l, rfl, h2⟩)⟩
    | pan v => rw [hres] at hr; exact hr.elim
    | ov x =>
      rw [hres] at hr
      have hno := hov x hres
      have hfresh : ∀ (i g : Nat), ow g = some (.key i) → w.heap.size ≤ g := by
        intro i g hg
        rcases hG.own g _ hg with h6 | h6 | h6
        · exact h6
        · exact (no_ownB hno h6).elim
        · rw [(c5 g h6).1] at hg; cases hg
      simp only [finRes] at hr
      split at hr
      · rename_i t
        have hlt : t < E.N := by
          cases hl : fn.results.toList with
          | nil => rw [hl] at hrs; simp [rssOk] at hrs
          | cons s ss =>
            rw [hl] at hrs
            simp only [rssOk, Bool.and_eq_true] at hrs
            cases s with
            | tmp t' => have := hrs.1; simp only [rsOk, Bool.and_eq_true, decide_eq_true_eq] at this; exact this.2
            | cell x y => have := hrs.1; simp [rsOk] at this
        have hs := hG.slots t hlt
        rw [hr] at hs
        obtain ⟨fp, k1, k2, k3⟩ := hs
        refine ⟨a'.tmps.getD t undef, res_one hrs (fun s hs1 => ?_), hmk _ (by rw [hres]; exact ⟨a'.tmps.getD t undef, fp, rfl, k1, k2, fun g hg => ⟨hfresh t g (k3 g hg).1, (k3 g hg).2⟩⟩)⟩
        cases s with
        | cell x y => simp [rsOk] at hs1
        | tmp t' =>
          simp only [rsOk, Bool.and_eq_true, beq_iff_eq, decide_eq_true_eq] at hs1
          obtain ⟨rfl, _⟩ := hs1
          rfl
      · rename_i t j bs off n agg
        obtain ⟨e1, cs, e2, rfl⟩ := hr
        have hsrc : ∃ s, fn.results.toList = [s] ∧ rsOk P E (.cellB t j bs off n agg) s = true := by
          cases hl : fn.results.toList with
          | nil => rw [hl] at hrs; simp [rssOk] at hrs
          | cons s ss =>
            rw [hl] at hrs
            cases ss with
            | nil => simp only [rssOk, Bool.and_eq_true] at hrs; exact ⟨s, rfl, hrs.1⟩
            | cons s2 ss => simp [rssOk] at hrs
        obtain ⟨s, _, hs1⟩ := hsrc
        cases s with
        | tmp t' => simp [rsOk] at hs1
        | cell b ty =>
          have hs1' := hs1
          simp only [rsOk, Bool.and_eq_true, beq_iff_eq, decide_eq_true_eq, Bool.or_eq_true] at hs1'
          obtain ⟨⟨⟨⟨⟨rfl, ht⟩, hb⟩, ha⟩, hn⟩, h1⟩ := hs1'
          obtain ⟨nn, hj, hle⟩ := boxHas_of hb
          obtain ⟨bb, hbb, hv⟩ := opd_ptr hG (x := .t t) (y := .tmp t) (by simp [opdOk, ht]) e1
          have hv' : a'.tmps.getD t undef = _ := hv
          have hB := hG.boxes _ _ hj
          rw [hbb] at hB
          obtain ⟨us', fp, k1, k2, k3, k4, k5⟩ := box_ovs hB n off hle cs e2
          have hrun := run_loadVar_at (P := P) (w := w') ha hn h1 (us := us') (b := bb) (o := off) k1 k5
          have hfp : ∀ g ∈ fp, w.heap.size ≤ g ∧ ∀ o, m' g o = none := fun g hg => by
            obtain ⟨⟨i, _, _, i3, _⟩, i5⟩ := k4 g hg
            exact ⟨hfresh i g i3, i5⟩
          refine ⟨if agg then .agg us'.toArray else us'.headD undef, res_one hrs (fun s hs2 => ?_), hmk _ (by rw [hres]; exact ⟨if agg then .agg us'.toArray else us'.headD undef, fp, rfl, mkOV_rep k2 (by rw [k1]; exact h1), k3, hfp⟩)⟩
          · cases s with
            | tmp t' => simp [rsOk] at hs2
            | cell b' ty' =>
              have hs2' := hs2
              simp only [rsOk, Bool.and_eq_true, beq_iff_eq, decide_eq_true_eq, Bool.or_eq_true] at hs2'
              obtain ⟨⟨⟨⟨⟨rfl, _⟩, _⟩, ha'⟩, hn'⟩, _⟩ := hs2'
              have hrun' := run_loadVar_at (P := P) (w := w') ha' hn' h1 (us := us') (b := bb) (o := off) k1 k5
              simp only [rdR, hv', asAddr, Sem.run_bind, Sem.run_pure, Result.andThen_ok, hrun']
      · exact hr.elim
  rintro e a' w' ⟨F, hq, hI⟩
  cases e with
  | normal => exact fin hq hI
  | ret => exact fin hq hI
  | panic ch =>
    obtain ⟨v, hv, rfl⟩ := hq
    obtain ⟨m', β, ow, hG⟩ := hI
    obtain ⟨c1, c2, c3, c4, c5⟩ := common hG
    refine ⟨hG.dfr, m', c1, c2, c3, c4, fun b hb => (c5 b hb).2 _ ?_, ?_⟩
    · intro l hl
      simp only [Res.ioOf, hv] at hl
      cases hl
    · rw [hv]; rfl
  | exit id => exact hq.elim
  | goto l => exact hq.elim
  | outgrown => exact hq.elim
where
  no_ownB : ∀ {as : List AV} {us : List Value} {b : Nat}, nOwn as = 0 → ownB as us ≠ some b
    | [], us, b, _ => by simp [ownB]
    | x :: as, [], b, _ => by simp [ownB]
    | .own _ _ _ :: as, u :: us, b, h => by simp [nOwn] at h
    | .val _ :: as, u :: us, b, h => by simpa [ownB] using no_ownB (as := as) (us := us) (by simpa [nOwn] using h)
    | .io _ :: as, u :: us, b, h => by simpa [ownB] using no_ownB (as := as) (us := us) (by simpa [nOwn] using h)
  res_one {fn : Func} {r : RSrc} (hrs : rssOk P E [r] fn.results.toList = true) {tmps : Array Value} {w' : World} {u : Value} (h : ∀ s, rsOk P E r s = true → (rdR tmps s).run P w' = .ok u w') : (results fn tmps).run P w' = .ok u w' := by
    have e : results fn tmps = (do let vs ← fn.results.mapM (rdR tmps); pure (if h : vs.size = 1 then vs[0] else .tuple vs)) := by unfold results; congr
    cases hl : fn.results.toList with
    | nil => rw [hl] at hrs; simp [rssOk] at hrs
    | cons s ss =>
      rw [hl] at hrs
      cases ss with
      | cons s2 ss2 => simp [rssOk] at hrs
      | nil =>
        simp only [rssOk, Bool.and_eq_true] at hrs
        have h1 := h s hrs.1
        rw [e, Array.mapM_eq_mapM_toList, hl]
        simp [h1]
  RpVL.length {m : Mem} : ∀ {xs : List PVal} {us : List Value}, RpVL m xs us → us.length = xs.length
    | [], us, h => by simp only [RpVL] at h; subst h; rfl
    | x :: xs, us, h => by
      obtain ⟨u, us', rfl, _, h3⟩ := h
      simp [RpVL.length h3]
  rsVs_length {F : List Ct} : ∀ {rs : List RSrc} {xs : List PVal}, rsVs F rs xs → rs.length = xs.length
    | [], xs, h => by simp only [rsVs] at h; subst h; rfl
    | r :: rs, [], h => by simp [rsVs] at h
    | r :: rs, x :: xs, h => by simp only [rsVs] at h; simp [rsVs_length h.2]

end
end Go.Hx
end

section
/-
  THE ABSTRACT LAYER, THIRTEENTH TEXT: the rules by which simp walks the abstract code. Generic over the program. No condition.
-/
namespace Go.Hx
open Go.RowKit
variable [Glob]

section
variable {P : Program} {h h1 h2 : HCode} {Q : Exit → List Ct → Prop} {K : List Ct → Prop} {X : Value → List Ct → Prop} {F F' : List Ct}

/-! The continuations, as constants: simp does not look into them. -/
def opsK (P : Program) (os : List HO) (K : List Ct → Prop) (X : Value → List Ct → Prop) : List Ct → Prop := fun F => opsW P os F K X
def dK (P : Program) (ds : List DO) (N : List Ct → Prop) (X : Value → Prop) : List Ct → Prop := fun F => dW P ds F N X
def dX (l : Bool) (X : Value → Prop) : Value → List Ct → Prop := fun v _ => l = true ∧ X v
def ghK (post : List Gh) (K : List Ct → Prop) : List Ct → Prop := fun F => ghW F K post
def nrm (Q : Exit → List Ct → Prop) : List Ct → Prop := fun F => Q .normal F
def panX (Q : Exit → List Ct → Prop) : Value → List Ct → Prop := fun v F => Q (.panic [{ v, recovered := false }]) F
def panA (ds : List DO) (F : List Ct) (Q : Exit → List Ct → Prop) : Value → Prop := fun v => ∀ F', AgW (dsW ds) F F' → Q (.panic [{ v, recovered := false }]) F'
def drwK (P : Program) (os : List HO) (K : List Ct → Prop) : List Ct → Prop := fun F => drwW P os F K
def bkK (F : List Ct) (ds : List Nat) (post : List Gh) (Q : Exit → List Ct → Prop) : List Ct → Prop := fun F1 => ghW (back F F1 ds) (nrm Q) post

theorem w_skip : hwp P .skip Q F = Q .normal F := rfl
theorem w_reg {ops : List HO} {post : List Gh} : hwp P (.reg ops false post) Q F = opsK P ops (ghK post (nrm Q)) (panX Q) F := rfl
theorem w_drg {ds : List DO} {post : List Gh} : hwp P (.drg ds post) Q F = dK P ds (ghK post (nrm Q)) (panA ds F Q) F := rfl
theorem w_regG {pre : List Gh} {ops : List HO} {post : List Gh} : hwp P (.regG pre ops post) Q F = ghW F (fun F0 => opsK P ops (ghK post (nrm Q)) (panX Q) F0) pre := rfl
theorem w_drgG {pre : List Gh} {ds : List DO} {post : List Gh} : hwp P (.drgG pre ds post) Q F = ghW F (fun F0 => dK P ds (ghK post (nrm Q)) (panA ds F0 Q) F0) pre := rfl
theorem w_rdr {i : Nat} {ops : List HO} {draw : Bool} {post : List Gh} : hwp P (.rdr i ops draw post) Q F = (match F.getD i .un with
    | .stk e k rows => drwK P ops (bkK F (dsts ops) post Q) (F.set i (.own e k rows))
    | _ => False) := rfl
theorem k_nil : opsK P [] K X F = K F := rfl
theorem k_cons {o : HO} {os : List HO} : opsK P (o :: os) K X F = hoW P o F (opsK P os K X) X := rfl
theorem dk_nil {N : List Ct → Prop} {X0 : Value → Prop} : dK P [] N X0 F = N F := rfl
theorem dk_cons {i : Nat} {l : Bool} {h : HO} {ds : List DO} {N : List Ct → Prop} {X0 : Value → Prop} : dK P (⟨i, l, h⟩ :: ds) N X0 F = hoW P h F (dK P ds N X0) (dX l X0) := rfl
theorem k_gh {post : List Gh} : ghK post K F = ghW F K post := rfl
theorem k_nrm : nrm Q F = Q .normal F := rfl
theorem k_panX {v : Value} : panX Q v F = Q (.panic [{ v, recovered := false }]) F := rfl
theorem k_panA {v : Value} {ds : List DO} : panA ds F Q v = ∀ F', AgW (dsW ds) F F' → Q (.panic [{ v, recovered := false }]) F' := rfl
theorem k_dX {l : Bool} {X0 : Value → Prop} {v : Value} : dX l X0 v F = (l = true ∧ X0 v) := rfl
theorem k_bk {F0 : List Ct} {ds : List Nat} {post : List Gh} : bkK F0 ds post Q F = ghW (back F0 F ds) (nrm Q) post := rfl
theorem o_nlk {d e k : Nat} : hoW P ⟨none, .nlk d e k⟩ F K X = K (F.set d (.stk e k [])) := rfl
theorem o_mvk {d x : Nat} : hoW P ⟨none, .mvk d x⟩ F K X = (match F.getD x .un with
    | .stk e k rows => d ≠ x ∧ K ((F.set x (.hdr rows.length)).set d (.stk e k rows))
    | _ => False) := rfl
theorem o_trk {d x : Nat} {hi : Opd} : hoW P ⟨none, .trk d x hi⟩ F K X = (match F.getD x .un, (getO F hi).pv? with
    | .stk e k rows, some (.one (.v (.int _ n))) => d ≠ x ∧ (getO F hi).need ∧ 0 ≤ n ∧ n ≤ rows.length ∧ K ((F.set x (.hdr rows.length)).set d (.stk e k (rows.take n.toNat)))
    | _, _ => False) := rfl
theorem o_apk {d e k x : Nat} {y : Opd} : hoW P ⟨none, .apk d e k x y⟩ F K X = (match F.getD x .un, (getO F y).pv? with
    | .stk e' k' rows, some (.one (.sl k'' rs)) => x ≠ d ∧ e' = e ∧ k' = k ∧ k'' = k ∧ (getO F y).need ∧ (rows.length + rs.length) * 4096 ≤ 140737488355328 ∧ K ((F.set x (.hdr rows.length)).set d (.stk e k (rows ++ rs)))
    | _, _ => False) := rfl
theorem o_isn {d : Nat} {ng : Bool} {x : Opd} : hoW P ⟨none, .isn d ng x⟩ F K X = (match (getO F x).pv? with
    | some (.one (.sl _ rows)) => (getO F x).need ∧ ∀ b : Bool, (rows ≠ [] → b = false) → K (F.set d (.pv (bv (if ng then !b else b))))
    | some (.one (.nl _)) => (getO F x).need ∧ K (F.set d (.pv (bv (!ng))))
    | _ => False) := rfl
theorem b_nil {F1 : List Ct} : back F F1 [] = F := rfl
theorem b_cons {F1 : List Ct} {d : Nat} {ds : List Nat} : back F F1 (d :: ds) = back (F.set d (atomC (F1.getD d .un))) F1 ds := rfl
theorem w_seq {a b : HCode} : hwp P (.seq a b) Q F = hwp P a (thenQ (hwp P b Q) Q) F := rfl
theorem cond_of {x : Opd} {a b : HCode} {t : Bool} (e : (getO F x).pv? = some (.one (.v (.bool t)))) (n : (getO F x).need) (ht : t = true → hwp P a Q F) (hf : t = false → hwp P b Q F) : hwp P (.cond x a b) Q F := by
  simp only [hwp, e]
  exact ⟨n, ht, hf⟩
theorem w_block {id : Nat} {a : HCode} : hwp P (.block id a) Q F = hwp P a (inBlockQ id Q) F := rfl
theorem w_exit {id : Nat} : hwp P (.exit id) Q F = Q (.exit id) F := rfl
theorem w_ret : hwp P .ret Q F = Q .ret F := rfl
theorem w_scope {a : HCode} : hwp P (.scope a) Q F = hwp P a (ngQ Q) F := rfl
theorem w_label : hwp P .label Q F = Q .normal F := rfl
theorem q_ng1 : ngQ Q .normal F = Q .normal F := rfl
theorem q_ng2 {id : Nat} : ngQ Q (.exit id) F = Q (.exit id) F := rfl
theorem q_ng3 : ngQ Q .ret F = Q .ret F := rfl
theorem q_ng4 {ch : List PanicEntry} : ngQ Q (.panic ch) F = Q (.panic ch) F := rfl

theorem q_then1 : thenQ K Q .normal F = K F := rfl
theorem q_then2 {id : Nat} : thenQ K Q (.exit id) F = Q (.exit id) F := rfl
theorem q_then3 : thenQ K Q .ret F = Q .ret F := rfl
theorem q_then4 {ch : List PanicEntry} : thenQ K Q (.panic ch) F = Q (.panic ch) F := rfl
theorem q_blk1 {id : Nat} : inBlockQ id Q .normal F = Q .normal F := rfl
theorem q_blk2 {id id' : Nat} : inBlockQ id Q (.exit id') F = if id' = id then Q .normal F else Q (.exit id') F := rfl
theorem q_blk3 {id : Nat} : inBlockQ id Q .ret F = Q .ret F := rfl
theorem q_blk4 {id : Nat} {ch : List PanicEntry} : inBlockQ id Q (.panic ch) F = Q (.panic ch) F := rfl

theorem o_val {d : Nat} {v : VOp} : hoW P ⟨none, .val d v⟩ F K X = ((ev F v).1 ∧ K (F.set d (ev F v).2)) := rfl
/-- A choice; it is entered once its Bool is known. -/
def gsel (T : Bool) (A B : Prop) : Prop := match T with
  | true => A
  | false => B
theorem gsel_t {A B : Prop} : gsel true A B = A := rfl
theorem gsel_f {A B : Prop} : gsel false A B = B := rfl
theorem gsel_congr {T T' : Bool} {A B : Prop} (h : T = T') : gsel T A B = gsel T' A B := by rw [h]
attribute [congr] gsel_congr
/-- A guarded operation: what its guard says, what it gives. -/
def gdV (o : Option Bool) (p : Prop × Ct) (d : Nat) (F : List Ct) (K : List Ct → Prop) : Prop := match o with
  | none => False
  | some T => match p.2 with
    | .pv x => (T = true → p.1) ∧ K (F.set d (.gd T x))
    | c => gsel T (p.1 ∧ K (F.set d c)) (K (F.set d (.gd false (bv false))))
theorem gdV_congr {o o' : Option Bool} {p p' : Prop × Ct} {d : Nat} (h1 : o = o') (h2 : p = p') : gdV o p d F K = gdV o' p' d F K := by rw [h1, h2]
attribute [congr] gdV_congr
theorem gdV_none {p : Prop × Ct} {d : Nat} : gdV none p d F K = False := rfl
theorem gdV_pv {T : Bool} {A : Prop} {x : PVal} {d : Nat} : gdV (some T) (A, .pv x) d F K = ((T = true → A) ∧ K (F.set d (.gd T x))) := rfl
theorem gdV_un {T : Bool} {A : Prop} {d : Nat} : gdV (some T) (A, .un) d F K = gsel T (A ∧ K (F.set d .un)) (K (F.set d (.gd false (bv false)))) := rfl
theorem gdV_ptr {T : Bool} {A : Prop} {j off : Nat} {d : Nat} : gdV (some T) (A, .ptr j off) d F K = gsel T (A ∧ K (F.set d (.ptr j off))) (K (F.set d (.gd false (bv false)))) := rfl
theorem gdV_gd {T t : Bool} {A : Prop} {x : PVal} {d : Nat} : gdV (some T) (A, .gd t x) d F K = gsel T (A ∧ K (F.set d (.gd t x))) (K (F.set d (.gd false (bv false)))) := rfl
theorem gdV_tup {T : Bool} {A : Prop} {xs : List PVal} {d : Nat} : gdV (some T) (A, .tup xs) d F K = gsel T (A ∧ K (F.set d (.tup xs))) (K (F.set d (.gd false (bv false)))) := rfl
theorem gdV_hdr {T : Bool} {A : Prop} {n : Nat} {d : Nat} : gdV (some T) (A, .hdr n) d F K = gsel T (A ∧ K (F.set d (.hdr n))) (K (F.set d (.gd false (bv false)))) := rfl
theorem gdV_hdp {T : Bool} {A : Prop} {b k n : Nat} {d : Nat} : gdV (some T) (A, .hdp b k n) d F K = gsel T (A ∧ K (F.set d (.hdp b k n))) (K (F.set d (.gd false (bv false)))) := rfl
theorem gdV_epp {T : Bool} {A : Prop} {b k r f : Nat} {d : Nat} : gdV (some T) (A, .epp b k r f) d F K = gsel T (A ∧ K (F.set d (.epp b k r f))) (K (F.set d (.gd false (bv false)))) := rfl
theorem gdV_mph {T : Bool} {A : Prop} {b : Nat} {d : Nat} : gdV (some T) (A, .mph b) d F K = gsel T (A ∧ K (F.set d (.mph b))) (K (F.set d (.gd false (bv false)))) := rfl
theorem gdV_own {T : Bool} {A : Prop} {e k : Nat} {rows : List (List PV)} {d : Nat} : gdV (some T) (A, .own e k rows) d F K = gsel T (A ∧ K (F.set d (.own e k rows))) (K (F.set d (.gd false (bv false)))) := rfl
theorem gdV_stk {T : Bool} {A : Prop} {e k : Nat} {rows : List (List PV)} {d : Nat} : gdV (some T) (A, .stk e k rows) d F K = gsel T (A ∧ K (F.set d (.stk e k rows))) (K (F.set d (.gd false (bv false)))) := rfl
theorem gdV_ov {T : Bool} {A : Prop} {x : OVal} {d : Nat} : gdV (some T) (A, .ov x) d F K = gsel T (A ∧ K (F.set d (.ov x))) (K (F.set d (.gd false (bv false)))) := rfl
theorem gdV_una {T : Bool} {A : Prop} {d : Nat} : gdV (some T) (A, .una) d F K = gsel T (A ∧ K (F.set d .una)) (K (F.set d (.gd false (bv false)))) := rfl
attribute [go_sem] gdV_none gdV_pv gdV_un gdV_ptr gdV_gd gdV_tup gdV_hdr gdV_hdp gdV_epp gdV_mph gdV_own gdV_stk gdV_ov gdV_una
theorem o_guard {g : Nat × Bool} {d : Nat} {v : VOp} : hoW P ⟨some g, .val d v⟩ F K X = gdV (guardB F g) (ev F v) d F K := by
  show (match guardB F g with
    | none => False
    | some T => match (ev F v).2 with
      | .pv x => (T = true → (ev F v).1) ∧ K (F.set d (.gd T x))
      | _ => match T with
        | true => (ev F v).1 ∧ K (F.set d (ev F v).2)
        | false => K (F.set d (.gd false (bv false)))) = _
  unfold gdV
  cases guardB F g with
  | none => rfl
  | some T =>
    generalize ev F v = p
    obtain ⟨A, c⟩ := p
    cases c <;> cases T <;> rfl

theorem o_guard_vlp {g : Nat × Bool} {d : Nat} {x : Opd} {r j base : Nat} {pt : List (Opd × Nat)} {n : Nat} {agg : Bool} : hoW P ⟨some g, .vlp d x r j base pt n agg⟩ F K X = (match guardB F g with
    | none => False
    | some T => gsel T (hoW P ⟨none, .vlp d x r j base pt n agg⟩ F K X) (K (F.set d (.gd false (bv false))))) := rfl
theorem d_nil : drwK P [] K F = K F := rfl
theorem d_val {os : List HO} {d : Nat} {v : VOp} : drwK P (⟨none, .val d v⟩ :: os) K F = ((ev F v).1 ∧ drwK P os K (F.set d (ev F v).2)) := rfl
/-- A guarded operation of a region that reads alone. -/
def gdD (o : Option Bool) (p : Prop × Ct) (d : Nat) (F : List Ct) (K : List Ct → Prop) : Prop := match o with
  | none => False
  | some T => match p.2 with
    | .pv x => (T = true → p.1) ∧ K (F.set d (.gd T x))
    | _ => T = false ∧ K (F.set d (.gd T (bv false)))
theorem gdD_congr {o o' : Option Bool} {p p' : Prop × Ct} {d : Nat} (h1 : o = o') (h2 : p = p') : gdD o p d F K = gdD o' p' d F K := by rw [h1, h2]
attribute [congr] gdD_congr
theorem gdD_none {p : Prop × Ct} {d : Nat} : gdD none p d F K = False := rfl
theorem gdD_pv {T : Bool} {A : Prop} {x : PVal} {d : Nat} : gdD (some T) (A, .pv x) d F K = ((T = true → A) ∧ K (F.set d (.gd T x))) := rfl
theorem gdD_un {T : Bool} {A : Prop} {d : Nat} : gdD (some T) (A, .un) d F K = (T = false ∧ K (F.set d (.gd T (bv false)))) := rfl
theorem gdD_ptr {T : Bool} {A : Prop} {j off : Nat} {d : Nat} : gdD (some T) (A, .ptr j off) d F K = (T = false ∧ K (F.set d (.gd T (bv false)))) := rfl
theorem gdD_gd {T t : Bool} {A : Prop} {x : PVal} {d : Nat} : gdD (some T) (A, .gd t x) d F K = (T = false ∧ K (F.set d (.gd T (bv false)))) := rfl
theorem gdD_tup {T : Bool} {A : Prop} {xs : List PVal} {d : Nat} : gdD (some T) (A, .tup xs) d F K = (T = false ∧ K (F.set d (.gd T (bv false)))) := rfl
theorem gdD_hdr {T : Bool} {A : Prop} {n : Nat} {d : Nat} : gdD (some T) (A, .hdr n) d F K = (T = false ∧ K (F.set d (.gd T (bv false)))) := rfl
theorem gdD_own {T : Bool} {A : Prop} {e k : Nat} {rows : List (List PV)} {d : Nat} : gdD (some T) (A, .own e k rows) d F K = (T = false ∧ K (F.set d (.gd T (bv false)))) := rfl
theorem gdD_stk {T : Bool} {A : Prop} {e k : Nat} {rows : List (List PV)} {d : Nat} : gdD (some T) (A, .stk e k rows) d F K = (T = false ∧ K (F.set d (.gd T (bv false)))) := rfl
attribute [go_sem] gdD_none gdD_pv gdD_un gdD_ptr gdD_gd gdD_tup gdD_hdr gdD_own gdD_stk
theorem d_guard {os : List HO} {g : Nat × Bool} {d : Nat} {v : VOp} : drwK P (⟨some g, .val d v⟩ :: os) K F = gdD (guardB F g) (ev F v) d F (drwK P os K) := by
  show (match guardB F g with
    | none => False
    | some T => match (ev F v).2 with
      | .pv x => (T = true → (ev F v).1) ∧ drwK P os K (F.set d (.gd T x))
      | _ => T = false ∧ drwK P os K (F.set d (.gd T (bv false)))) = _
  unfold gdD
  cases guardB F g with
  | none => rfl
  | some T =>
    generalize ev F v = p
    obtain ⟨A, c⟩ := p
    cases c <;> rfl

/-- A call in a region that reads alone. -/
theorem dcall_val {os : List HO} {f : FuncId} {args : List (Opd × AM)} {d : Nat} {x : Value} (h1 : (avsV F args).1) (h2 : Contract P f (avsV F args).2 { res := .val (.one (.v x)) }) (h3 : drwK P os K (F.set d (.pv (.one (.v x))))) : drwK P (⟨none, .call (some d) f args⟩ :: os) K F :=
  ⟨h1, x, h2, h3⟩
/-- A call whose function has a contract. -/
theorem call_val {f : FuncId} {args : List (Opd × AM)} {d : Option Nat} {x : PVal} {io : List PV} (h1 : (avsV F args).1) (h2 : Contract P f (avsV F args).2 { res := .val x, io := io }) (h3 : K (setD (dropArgs F (some io) args) d (.pv x))) : hoW P ⟨none, .call d f args⟩ F K X :=
  ⟨h1, _, h2, h3⟩
theorem call_tup {f : FuncId} {args : List (Opd × AM)} {d : Option Nat} {x : PVal} {xs : List PVal} {io : List PV} (h1 : (avsV F args).1) (h2 : Contract P f (avsV F args).2 { res := .tup (x :: xs), io := io }) (h3 : K (setD (dropArgs F (some io) args) d (.tup (x :: xs)))) : hoW P ⟨none, .call d f args⟩ F K X :=
  ⟨h1, _, h2, h3⟩
theorem call_un {f : FuncId} {args : List (Opd × AM)} {d : Option Nat} {io : List PV} (h1 : (avsV F args).1) (h2 : Contract P f (avsV F args).2 { res := .tup [], io := io }) (h3 : K (setD (dropArgs F (some io) args) d .un)) : hoW P ⟨none, .call d f args⟩ F K X :=
  ⟨h1, _, h2, h3⟩
theorem call_pan {f : FuncId} {args : List (Opd × AM)} {d : Option Nat} {v : Value} (h1 : (avsV F args).1) (h2 : Contract P f (avsV F args).2 { res := .pan v }) (h3 : X v (dropArgs F none args)) : hoW P ⟨none, .call d f args⟩ F K X :=
  ⟨h1, _, h2, h3⟩
/-- A guarded call of a function with a contract. -/
theorem call_guard {g : Nat × Bool} {f : FuncId} {args : List (Opd × AM)} {d : Nat} {T : Bool} {x : PVal} (hg : guardB F g = some T) (h1 : T = true → (avsV F args).1) (h2 : T = true → Contract P f (avsV F args).2 { res := .val x }) (h3 : K (F.set d (.gd T x))) : hoW P ⟨some g, .call (some d) f args⟩ F K X := by
  show hoW P ⟨some g, .call (some d) f args⟩ F _ X
  unfold hoW
  simp only [hg]
  exact ⟨h1, x, h2, h3⟩
/-- A guarded call of a function value. -/
theorem callv_guard {g : Nat × Bool} {f : FuncId} {x0 : Opd} {caps : List PV} {args : List (Opd × AM)} {d : Nat} {T : Bool} {x : PVal} (hg : guardB F g = some T) (e : (getO F x0).pv? = some (.one (.clo f caps))) (n : T = true → (getO F x0).need) (h1 : T = true → (avsV F args).1)
    (h2 : T = true → Contract P f ((avsV F args).2 ++ caps.map fun c => .val (.one c)) { res := .val x }) (h3 : K (F.set d (.gd T x))) : hoW P ⟨some g, .callv (some d) x0 args⟩ F K X := by
  unfold hoW
  simp only [hg, e]
  exact ⟨fun h => ⟨n h, h1 h⟩, x, h2, h3⟩
/-- A call of a function value. -/
theorem callv_val {f : FuncId} {x0 : Opd} {caps : List PV} {args : List (Opd × AM)} {d : Option Nat} {x : PVal} {io : List PV} (e : (getO F x0).pv? = some (.one (.clo f caps))) (n : (getO F x0).need) (h1 : (avsV F args).1)
    (h2 : Contract P f ((avsV F args).2 ++ caps.map fun c => .val (.one c)) { res := .val x, io := io }) (h3 : K (setD (dropArgs F (some io) args) d (.pv x))) : hoW P ⟨none, .callv d x0 args⟩ F K X := by
  show opW P (.callv d x0 args) F _ X
  simp only [opW, e]
  exact ⟨n, h1, _, h2, h3⟩

theorem imp_and_l {p q : Prop} : (p → p ∧ q) = (p → q) := propext ⟨fun h a => (h a).2, fun h a => ⟨a, h a⟩⟩
theorem get_here (c : Ct) (F : List Ct) : (c :: F).getD 0 .un = c := rfl
theorem get_next (c : Ct) (F : List Ct) (n : Nat) : (c :: F).getD (n + 1) .un = F.getD n .un := by simp
theorem set_here (c d : Ct) (F : List Ct) : (c :: F).set 0 d = d :: F := rfl
theorem set_next (c d : Ct) (F : List Ct) (n : Nat) : (c :: F).set (n + 1) d = c :: F.set n d := rfl

theorem sets_nil : sets F [] = F := rfl
theorem sets_cons {i : Nat} {c : Ct} {l : List (Nat × Ct)} : sets F ((i, c) :: l) = sets (F.set i c) l := rfl

/-- A loop: its rounds differ in some slots alone. -/
theorem loop_sets {a : HCode} {α : Type} (us : α → List (Nat × Ct)) (μ : α → Nat) (inv : α → Prop) (s0 : α) (h0 : Le F (sets F (us s0))) (h1 : inv s0)
    (hr : ∀ s, inv s → hwp P a (thenQ (fun F2 => ∃ s', μ s' < μ s ∧ inv s' ∧ Le F2 (sets F (us s'))) Q) (sets F (us s))) : hwp P (.loop a) Q F :=
  ⟨fun n F' => ∃ s, μ s = n ∧ inv s ∧ F' = sets F (us s), ⟨μ s0, _, h0, s0, rfl, h1, rfl⟩, by
    rintro n F1 ⟨s, rfl, hs, rfl⟩
    have e : (fun F2 => ∃ n' F', n' < μ s ∧ Le F2 F' ∧ (fun n F' => ∃ s, μ s = n ∧ inv s ∧ F' = sets F (us s)) n' F') = (fun F2 => ∃ s', μ s' < μ s ∧ inv s' ∧ Le F2 (sets F (us s'))) := by
      funext F2
      apply propext
      constructor
      · rintro ⟨n', F', h2, h3, s', rfl, h4, rfl⟩
        exact ⟨s', h2, h4, h3⟩
      · rintro ⟨s', h2, h3, h4⟩
        exact ⟨_, _, h2, h4, s', rfl, h3, rfl⟩
    rw [e]
    exact hr s hs⟩

theorem le_nil : Le [] [] = True := by simp [Le]
theorem le_cons {c d : Ct} {F G : List Ct} : Le (c :: F) (d :: G) = (leC c d ∧ Le F G) := by
  simp only [Le, List.cons.injEq, eq_iff_iff]
  constructor
  · rintro ⟨c', cs', ⟨rfl, rfl⟩, h⟩; exact h
  · exact fun h => ⟨_, _, ⟨rfl, rfl⟩, h⟩
theorem le_un {c : Ct} : leC c .un = True := by simp [leC]
theorem le_same {c : Ct} : leC c c = True := by simp [leC]
theorem le_eq {c d : Ct} (h : c = d) : leC c d := .inr (.inl h.symm)
theorem le_nat0 : leC (.pv (iv 0)) (.pv (iv ((0 : Nat) : Int))) = True := by simp [leC]
theorem le_int {n m : Int} (h : n = m) : leC (.pv (iv n)) (.pv (iv m)) := le_eq (by rw [h])
theorem le_nlo {e k k' : Nat} : leC (.pv (.one (.nl k))) (.own e k' []) := .inr (.inr rfl)

theorem g_nil : ghW F K [] = K F := rfl
theorem g_frz {j base n : Nat} {r : List Gh} : ghW F K (.frz j base n :: r) = (match cellsPV F base n with
    | some cs => ghW (setCells (F.map (frzC j cs)) base (List.replicate n .un)) K r
    | none => False) := rfl
theorem g_forget {l : List Nat} {r : List Gh} : ghW F K (.forget l :: r) = ghW (forgetAll F l) K r := rfl
theorem f_nil : forgetAll F [] = F := rfl
theorem f_cons {i : Nat} {r : List Nat} : forgetAll F (i :: r) = forgetAll (F.set i .un) r := rfl
theorem c_nil {i : Nat} : setCells F i [] = F := rfl
theorem c_cons {i : Nat} {c : Ct} {cs : List Ct} : setCells F i (c :: cs) = setCells (F.set i c) (i + 1) cs := rfl

theorem o_mvo {d x : Nat} : hoW P ⟨none, .mvo d x⟩ F K X = (match F.getD x .un with
    | .own e k rows => d ≠ x ∧ K ((F.set x (.pv (.one (.sl k rows)))).set d (.own e k rows))
    | _ => False) := rfl
theorem o_nlo {d e k : Nat} : hoW P ⟨none, .nlo d e k⟩ F K X = K (F.set d (.own e k [])) := rfl
theorem o_ldo {d j base off e k : Nat} {x : Opd} : hoW P ⟨none, .ldo d x j base off e k⟩ F K X = (match getO F x, F.getD (base + off) .un with
    | .ptr j' off', .own e' k' rows => j' = j ∧ off' = off ∧ e' = e ∧ k' = k ∧ K ((F.set (base + off) (.pv (.one (.sl k rows)))).set d (.own e k rows))
    | .ptr j' off', .pv (.one (.nl _)) => j' = j ∧ off' = off ∧ K (F.set d (.own e k []))
    | _, _ => False) := rfl
theorem o_sto {j base off n : Nat} {x y : Opd} : hoW P ⟨none, .sto x j base off n y⟩ F K X = (match getO F x, (getO F y).pv? with
    | .ptr j' off', some p => j' = j ∧ off' = off ∧ p.cells.length = n ∧ (getO F y).need ∧ K (setCells F (base + off) (p.cells.map fun c => .pv (.one c)))
    | _, _ => False) := rfl
theorem o_std {j base sz : Nat} {x y : Opd} : hoW P ⟨none, .std x j base sz y⟩ F K X = (match getO F x, (getO F y).pv? with
    | .ptr j' off', some p => j' = j ∧ off' < sz ∧ p.cells.length = 1 ∧ (getO F y).need ∧ K (setCells F (base + off') (p.cells.map fun c => .pv (.one c)))
    | _, _ => False) := rfl
theorem o_stw {j base off y : Nat} {x : Opd} : hoW P ⟨none, .stw x j base off y⟩ F K X = (match getO F x, F.getD y .un with
    | .ptr j' off', .own e k rows => j' = j ∧ off' = off ∧ K ((F.set y (.pv (.one (.sl k rows)))).set (base + off) (.own e k rows))
    | _, _ => False) := rfl
theorem o_alloc {d j base : Nat} {cells : List PV} : hoW P ⟨none, .alloc d j base cells⟩ F K X = K (setCells ((F.map (killP j)).set d (.ptr j 0)) base (cells.map fun c => .pv (.one c))) := rfl
theorem o_box {d j base n : Nat} {x : Opd} : hoW P ⟨none, .box d j base n x⟩ F K X = (match (getO F x).pv? with
    | some p => p.cells.length = n ∧ (getO F x).need ∧ K (setCells ((F.map (killP j)).set d (.ptr j 0)) base (p.cells.map fun c => .pv (.one c)))
    | none => False) := rfl
theorem o_alo {d j base : Nat} {cells : List PV} : hoW P ⟨none, .alo d j base cells⟩ F K X = (F.getD base .un = .una ∧ K (setCells (F.set d (.ptr j 0)) base (cells.map fun c => .pv (.one c)))) := rfl
theorem o_bxo {d j base n : Nat} {x : Opd} : hoW P ⟨none, .bxo d j base n x⟩ F K X = (match (getO F x).pv? with
    | some p => p.cells.length = n ∧ (getO F x).need ∧ F.getD base .un = .una ∧ K (setCells (F.set d (.ptr j 0)) base (p.cells.map fun c => .pv (.one c)))
    | none => False) := rfl
theorem o_app {d e k x : Nat} {y : Opd} : hoW P ⟨none, .app d e k (.t x) y⟩ F K X = (match F.getD x .un, (getO F y).pv? with
    | .own e' k' rows, some (.one (.sl k'' rs)) => x ≠ d ∧ e' = e ∧ k' = k ∧ k'' = k ∧ (getO F y).need ∧ (rows.length + rs.length) * 4096 ≤ 140737488355328 ∧ K ((F.set x (.pv (.one (.sl k rows)))).set d (.own e k (rows ++ rs)))
    | _, _ => False) := rfl
theorem o_bsl {d e k : Nat} {parts : List Opd} : hoW P ⟨none, .bsl d e k parts⟩ F K X = ((rowsV F k parts).1 ∧ K (F.set d (.own e k (rowsV F k parts).2))) := rfl
theorem o_vnl {d e k : Nat} : hoW P ⟨none, .vnl d e k⟩ F K X = K (F.set d (.ov (.one (.os none e k [])))) := rfl
theorem leftH_os {pb : Option Nat} {e k : Nat} {rows : List (List OV)} : leftH (.one (.os pb e k rows)) = .hdr rows.length := rfl
theorem leftH_agg {cs : List OV} : leftH (.agg cs) = .un := rfl
theorem leftH_hole : leftH (.one .hole) = .un := rfl
theorem leftH_p {x : PV} : leftH (.one (.p x)) = .un := rfl
theorem leftH_mp {b : Nat} {ks : List Value} {vs : List OV} : leftH (.one (.mp b ks vs)) = .un := rfl
attribute [go_sem] leftH_os leftH_agg leftH_hole leftH_p leftH_mp
theorem o_vmv {d x : Nat} : hoW P ⟨none, .vmv d x⟩ F K X = (match F.getD x .un with
    | .ov v => d ≠ x ∧ K ((F.set x (leftH v)).set d (.ov v))
    | _ => False) := rfl
theorem o_vld {d j base off n : Nat} {x : Opd} {agg : Bool} : hoW P ⟨none, .vld d x j base off n agg⟩ F K X = (match getO F x, cellsOV F (base + off) n with
    | .ptr j' off', some cs => j' = j ∧ off' = off ∧ K ((setCells F (base + off) (leftCells F (base + off) n)).set d (.ov (mkOV agg cs)))
    | _, _ => False) := rfl
theorem o_vst {x : Opd} {j base off n y : Nat} : hoW P ⟨none, .vst x j base off n y⟩ F K X = (match getO F x, F.getD y .un with
    | .ptr j' off', .ov v => j' = j ∧ off' = off ∧ v.cells.length = n ∧ K (setCells (F.set y .un) (base + off) (v.cells.map ovCell))
    | _, _ => False) := rfl
theorem o_vap {d e k x : Nat} {y : Opd} : hoW P ⟨none, .vap d e k x y⟩ F K X = (match F.getD x .un with
    | .ov (.one (.os _ e' k' rows)) => (∀ n, y = .t n → x ≠ n) ∧ e' = e ∧ k' = k ∧ (srcR F k y).1 ∧ (rows.length + (srcR F k y).2.length) * 4096 ≤ 140737488355328 ∧ K ((clr F (F.set x .un) y).set d (.ov (.one (.os none e k (rows ++ (srcR F k y).2)))))
    | _ => False) := rfl
theorem o_vbs {d e k x : Nat} : hoW P ⟨none, .vbs d e k x⟩ F K X = (match F.getD x .un with
    | .ov v => v.cells.length = k ∧ K ((F.set x .un).set d (.ov (.one (.os none e k [v.cells]))))
    | _ => False) := rfl
theorem o_vbx {d j base n x : Nat} : hoW P ⟨none, .vbx d j base n x⟩ F K X = (match F.getD x .un with
    | .ov v => v.cells.length = n ∧ K (setCells ((((F.set x .un).map (killP j))).set d (.ptr j 0)) base (v.cells.map ovCell))
    | _ => False) := rfl
theorem o_vmk {d e k : Nat} {zs : List PV} {x : Opd} : hoW P ⟨none, .vmk d e k zs x⟩ F K X = (match (getO F x).pv? with
    | some (.one (.v (.int _ n))) => (getO F x).need ∧ 0 ≤ n ∧ n * 4096 ≤ 140737488355328 ∧ zs.length = k ∧ K (F.set d (.ov (.one (.os none e k (List.replicate n.toNat (zs.map .p))))))
    | _ => False) := rfl
theorem o_vtr {d x : Nat} {hi : Opd} : hoW P ⟨none, .vtr d x hi⟩ F K X = (match F.getD x .un, (getO F hi).pv? with
    | .ov (.one (.os pb e k rows)), some (.one (.v (.int _ n))) => d ≠ x ∧ (getO F hi).need ∧ 0 ≤ n ∧ n ≤ rows.length ∧ K ((F.set x .un).set d (.ov (.one (.os pb e k (rows.take n.toNat)))))
    | _, _ => False) := rfl
/-- What comes back of a call in place. -/
def yC : Option PVal → Ct
  | some p => .pv p
  | none => .un
theorem yC_some {p : PVal} : yC (some p) = .pv p := rfl
theorem yC_none : yC none = .un := rfl
attribute [go_sem] yC_some yC_none
theorem callm_w {d : Option Nat} {f r : Nat} {args : List (Opd × AM)} {v v' : OV} {y : Option PVal} (hv : F.getD r .un = .ov (.one v)) (hd : d ≠ some r) (h1 : (avsV F args).1) (h2 : MContract P f v (avsV F args).2 v' y)
    (h3 : K (setD (F.set r (.ov (.one v'))) d (yC y))) : hoW P ⟨none, .callm d f r args⟩ F K X := by
  show opW P (.callm d f r args) F K X
  simp only [opW, hv]
  refine ⟨hd, h1, v', y, h2, ?_⟩
  cases y <;> exact h3
theorem o_vlp {d : Nat} {x : Opd} {r j base : Nat} {pt : List (Opd × Nat)} {n : Nat} {agg : Bool} : hoW P ⟨none, .vlp d x r j base pt n agg⟩ F K X = atV F x r pt (fun _ _ _ _ _ rows i f => f + n ≤ (rows.getD i []).length ∧ match plainL (((rows.getD i []).drop f).take n) with
    | some ps => K (F.set d (.pv (if agg then .agg ps else .one (ps.headD (.nl 0)))))
    | none => False) := rfl
theorem g_pin {s j base : Nat} {pt : List (Opd × Nat)} {r : List Gh} : ghW F K (.pin s j base pt :: r) = (match F.getD s .un with
    | .ov (.one root) => match root.get (pathV F pt).2 with
      | some (.os none e k rows) => (pathV F pt).1 ∧ ∀ b, ghW (F.set s (.ov (.one (root.upd (pathV F pt).2 (.os (some b) e k rows))))) K r
      | _ => False
    | _ => False) := rfl
theorem g_unp {s j base : Nat} {pt : List (Opd × Nat)} {r : List Gh} : ghW F K (.unp s j base pt :: r) = (match F.getD s .un with
    | .ov (.one root) => match root.get (pathV F pt).2 with
      | some (.os _ e k rows) => (pathV F pt).1 ∧ ghW (F.set s (.ov (.one (root.upd (pathV F pt).2 (.os none e k rows))))) K r
      | _ => False
    | _ => False) := rfl
theorem g_vfr {s j base : Nat} {r : List Gh} : ghW F K (.vfr s j base :: r) = (match F.getD s .un with
    | .ov (.one root) => match root.frz with
      | some x => ghW (F.set s (.pv (.one x))) K r
      | none => False
    | .ov (.agg cs) => match frzL cs with
      | some xs => ghW (F.set s (.pv (.agg xs))) K r
      | none => False
    | _ => False) := rfl
theorem g_vfp {s j base : Nat} {pt : List (Opd × Nat)} {r : List Gh} : ghW F K (.vfp s j base pt :: r) = (match F.getD s .un with
    | .ov (.one root) => match root.get (pathV F pt).2 with
      | some y => match y.frz with
        | some x => (pathV F pt).1 ∧ ghW (F.set s (.ov (.one (root.upd (pathV F pt).2 (.p x))))) K r
        | none => False
      | none => False
    | _ => False) := rfl
theorem p_nil : pathV F [] = (True, []) := rfl
theorem get_nil {x : OV} : x.get [] = some x := by cases x <;> rfl
theorem upd_nil {x y : OV} : x.upd [] y = y := by cases x <;> rfl
theorem frzL_p : ∀ (r : List PV), frzL (r.map OV.p) = some r
  | [] => rfl
  | x :: r => by simp only [List.map_cons, frzL, OV.frz, frzL_p r]
theorem o_pan {x : Opd} : hoW P ⟨none, .pan x⟩ F K X = (match (getO F x).pv? with
    | some (.one (.v (.iface t u))) => (getO F x).need ∧ X (.iface t u) F
    | _ => False) := rfl
/-! ### The end -/

section
variable {E : Env} {base : Nat} {av : List AV} {t : Nat} {x : PVal}
theorem fin_val {p : PVal} (e : (getO F (.t t)).pv? = some p) (n : (getO F (.t t)).need) (h : x = p ∨ x = p.norm) (hio : ioOf av = none := by rfl) : finQ E base av [.tmp t] { res := .val x } .ret F := by
  refine ⟨?_, fun cs h => by rw [hio] at h; cases h⟩
  simp only [finRes, rsV, e]
  exact ⟨n, h⟩
theorem fin_valio {p : PVal} {cells io : List PV} (e : (getO F (.t t)).pv? = some p) (n : (getO F (.t t)).need) (h : x = p ∨ x = p.norm) (hio : ioOf av = some cells) (hc : cellsPV F base cells.length = some io) : finQ E base av [.tmp t] { res := .val x, io := io } .ret F := by
  refine ⟨?_, fun cs h => by rw [hio] at h; injection h with h; subst h; exact hc⟩
  simp only [finRes, rsV, e]
  exact ⟨n, h⟩
theorem fin_tup {rs : List RSrc} {xs : List PVal} (hn : ∀ r, rs ≠ [r]) (h : rsVs F rs xs) (hio : ioOf av = none := by rfl) : finQ E base av rs { res := .tup xs } .ret F := by
  refine ⟨?_, fun cs h => by rw [hio] at h; cases h⟩
  simp only [finRes]
  first
    | exact h
    | (split
       · rename_i r; exact (hn r rfl).elim
       · exact h)
theorem fin_cellBn {j bs off n : Nat} {agg : Bool} {cs : List PV} (e : F.getD t .un = .ptr j off) (h : cellsPV F (bs + off) n = some cs) (hx : x = (if agg then PVal.agg cs else .one (cs.headD (.nl 0))) ∨ x = (if agg then PVal.agg cs else .one (cs.headD (.nl 0))).norm) (hio : ioOf av = none := by rfl) : finQ E base av [.cellB t j bs off n agg] { res := .val x } .ret F := by
  refine ⟨?_, fun cs h => by rw [hio] at h; cases h⟩
  simp only [finRes, rsV, e, h]
  exact ⟨trivial, trivial, hx⟩
theorem fin_cellB {j bs off n : Nat} {agg : Bool} {cs : List PV} (e : F.getD t .un = .ptr j off) (h : cellsPV F (bs + off) n = some cs) (hx : x = if agg then .agg cs else .one (cs.headD (.nl 0))) (hio : ioOf av = none := by rfl) : finQ E base av [.cellB t j bs off n agg] { res := .val x } .ret F := fin_cellBn e h (.inl hx) hio
theorem rs_tmp {p : PVal} (e : (getO F (.t t)).pv? = some p) (n : (getO F (.t t)).need) (h : x = p ∨ x = p.norm) : rsV F (.tmp t) x := by
  simp only [rsV, e]; exact ⟨n, h⟩
theorem rs_cellB {j bs off n : Nat} {agg : Bool} {cs : List PV} (e : F.getD t .un = .ptr j off) (h : cellsPV F (bs + off) n = some cs) (hx : x = (if agg then PVal.agg cs else .one (cs.headD (.nl 0))) ∨ x = (if agg then PVal.agg cs else .one (cs.headD (.nl 0))).norm) : rsV F (.cellB t j bs off n agg) x := by
  simp only [rsV, e, h]; exact ⟨trivial, trivial, hx⟩
end

end

/-! The walk: these rules, in the set that the kit has. -/
attribute [go_sem ↓] w_scope w_label q_ng1 q_ng2 q_ng3 q_ng4 gsel_t gsel_f w_skip w_reg w_drg w_regG w_drgG w_rdr k_nil k_cons dk_nil dk_cons k_gh k_nrm k_panX k_panA k_dX k_bk o_nlk o_mvk o_trk o_apk o_isn w_seq w_block w_exit w_ret q_then1 q_then2 q_then3 q_then4 q_blk1 q_blk2 q_blk3 q_blk4 o_vnl o_vmv o_vld o_vst o_vap o_vtr o_vmk o_vbs o_vbx g_pin g_unp g_vfr g_vfp o_val o_guard o_guard_vlp o_mvo o_nlo o_ldo o_sto o_std o_stw o_alloc o_box o_alo o_bxo o_app o_bsl o_pan d_nil d_val d_guard g_nil g_forget g_frz
attribute [go_sem] bys_mk implies_true and_self imp_and_l Bool.not_eq_true' Bool.not_eq_false' Bool.not_not decide_eq_true_eq decide_eq_false_iff_not Nat.not_lt Int.not_lt Int.not_le gt_iff_lt ge_iff_le le_nat0 p_nil get_nil upd_nil OVal.cells ovCell cellOV cellsOV leftC leftCells mkOV srcV srcR clr get_here get_next set_here set_next ev getO Ct.pv? Ct.need intsV strsV true_and and_true guardB dsts atomC b_nil b_cons List.cons_append List.nil_append f_nil f_cons c_nil c_cons sets_nil sets_cons bndV rowsV partsV layOver PVal.cells PVal.norm PV.norm cellsPV cellPV avsV killP frzC setD dropArgs dropOwn ownKey dropIo ioKey ioCells if_true if_false Bool.false_eq_true imp_self forall_const List.map_cons List.map_nil List.length_cons List.length_nil Nat.zero_add ite_true ite_false List.take_succ_cons List.take_zero List.drop_zero List.drop_succ_cons List.headD_cons Nat.le_refl beq_true beq_false cond_true cond_false Bool.and_true Bool.true_and Bool.and_false Bool.false_and Int.toNat_natCast ne_eq not_false_eq_true not_true_eq_false List.getElem?_cons_zero List.getElem?_cons_succ capsV List.replicate bad
end Go.Hx
end

section
/-
  Documents as plain Lean data, and what the walks say of them. No condition.
-/
namespace Go.Hx
variable [Glob]

theorem Contract.av {P : Go.Program} {f : Nat} {av av' : List AV} {r : RV} (h : Contract P f av r) (e : av' = av) : Contract P f av' r := e ▸ h

abbrev Bys := List UInt8
structure Nd where
  up : Int
  tag : Bys
  id : Bys
  cls : List Bys
  att : List (Bys × Bys)
  deriving DecidableEq, Inhabited

abbrev bI (n : Int) : PV := .v (.int .i64 n)
abbrev bS (l : Bys) : PV := .v (mkS l)
def clsV (l : List Bys) : List (List PV) := l.map fun c => [bS c]
def attV (l : List (Bys × Bys)) : List (List PV) := l.map fun a => [bS a.1, bS a.2]
def ndV (x : Nd) : List PV := [bI x.up, bS x.tag, bS x.id, .sl 1 (clsV x.cls), .sl 2 (attV x.att)]
def ndsV (d : List Nd) : List (List PV) := d.map ndV
def docV (d : List Nd) : PVal := .agg [.sl 5 (ndsV d)]
def intsR (l : List Int) : List (List PV) := l.map fun n => [bI n]

theorem clsV_len (d : List Bys) : (clsV d).length = d.length := by simp [clsV]
theorem attV_len (d : List (Bys × Bys)) : (attV d).length = d.length := by simp [attV]
theorem ndsV_len (d : List Nd) : (ndsV d).length = d.length := by simp [ndsV]
theorem intsR_len (d : List Int) : (intsR d).length = d.length := by simp [intsR]
theorem clsV_get (d : List Bys) (i : Nat) (h : i < d.length) : (clsV d).getD i [] = [bS (d.getD i [])] := by simp [clsV, h]
theorem attV_get (d : List (Bys × Bys)) (i : Nat) (h : i < d.length) : (attV d).getD i [] = [bS (d.getD i default).1, bS (d.getD i default).2] := by simp [attV, h]
theorem ndsV_get (d : List Nd) (i : Nat) (h : i < d.length) : (ndsV d).getD i [] = ndV (d.getD i default) := by simp [ndsV, h]
theorem inR_small {n : Int} (h1 : -9223372036854775808 ≤ n) (h2 : n ≤ 9223372036854775807) : inR .i64 n := ⟨h1, h2⟩
/-- A goal of two: the first is small. -/
theorem sAnd {p q : Prop} (hq : q) (hp : p := by (first | omega | exact inR_small (by omega) (by omega) | exact fun _ => inR_small (by omega) (by omega) | assumption | trivial | (intros; omega) | (intro s h; injection h with h; subst h; decide) | (simp_all; done) | (intros; simp [*]; done) | (simp_all; omega) | grind)) : p ∧ q := ⟨hp, hq⟩
theorem le_bool {n m : Bool} (h : n = m) : leC (.pv (bv n)) (.pv (bv m)) := le_eq (by rw [h])
theorem le_str {n m : Bys} (h : n = m) : leC (.pv (sv n)) (.pv (sv m)) := le_eq (by rw [h])

theorem take_eq_succ {α : Type} {a b : List α} {i : Nat} (d : α) (h : a.take i = b.take i) (ha : i < a.length) (hb : i < b.length) (e : a.getD i d = b.getD i d) : a.take (i + 1) = b.take (i + 1) := by
  rw [List.take_succ_eq_append_getElem ha, List.take_succ_eq_append_getElem hb, h]
  simp [ha, hb] at e
  rw [e]
theorem ne_of_getD {α : Type} {a b : List α} {i : Nat} (d : α) (e : a.getD i d ≠ b.getD i d) : a ≠ b := fun h => e (by rw [h])
theorem eq_of_take {α : Type} {a b : List α} (hl : a.length = b.length) (h : a.take a.length = b.take a.length) : a = b := by
  rw [List.take_length, hl, List.take_length] at h; exact h
theorem fits_sl {k : Nat} {rows : List (List PV)} (h : PV.fits (.sl k rows)) : rows.length ≤ 9223372036854775807 := by
  simp only [PV.fits, maxLen] at h; omega

/-! ### Names, values -/

def nameCh (c : UInt8) : Bool := decide (97 ≤ c.toNat ∧ c.toNat ≤ 122) || decide (48 ≤ c.toNat ∧ c.toNat ≤ 57) || decide (c.toNat = 45)
def valCh (c : UInt8) : Bool := decide (32 ≤ c.toNat ∧ c.toNat ≤ 126) && !decide (c.toNat = 34)
def isName (s : Bys) : Bool := decide (1 ≤ s.length ∧ s.length ≤ 12) && decide (97 ≤ (s.getD 0 0).toNat ∧ (s.getD 0 0).toNat ≤ 122) && s.all nameCh
def isValue (s : Bys) : Bool := decide (s.length ≤ 16) && s.all valCh

/-! ### Elements, documents that are right -/

def cOk (l : List Bys) (k : Nat) : Bool := isName (l.getD k []) && (decide (k = 0) || Op.bytesLess (l.getD (k - 1) []) (l.getD k []))
def okC (l : List Bys) (i : Nat) : Bool := (List.range i).all (cOk l)
def aOk (l : List (Bys × Bys)) (k : Nat) : Bool := isName (l.getD k default).1 && isValue (l.getD k default).2 && (decide (k = 0) || Op.bytesLess (l.getD (k - 1) default).1 (l.getD k default).1)
def okA (l : List (Bys × Bys)) (i : Nat) : Bool := (List.range i).all (aOk l)
def nodeFine (x : Nd) : Bool := isName x.tag && (x.id == [] || isName x.id) && decide (x.cls.length ≤ 6) && decide (x.att.length ≤ 4) && okC x.cls x.cls.length && okA x.att x.att.length

theorem range_all_succ {p : Nat → Bool} {i : Nat} : (List.range (i + 1)).all p = ((List.range i).all p && p i) := by
  rw [List.range_succ, List.all_append]; simp
theorem range_all_get {p : Nat → Bool} {n i : Nat} (h : (List.range n).all p = true) (hi : i < n) : p i = true := by
  rw [List.all_eq_true] at h
  exact h i (List.mem_range.2 hi)
theorem range_all_le {p : Nat → Bool} {n i : Nat} (h : (List.range n).all p = true) (hi : i ≤ n) : (List.range i).all p = true := by
  rw [List.all_eq_true] at *
  exact fun x hx => h x (List.mem_range.2 (Nat.lt_of_lt_of_le (List.mem_range.1 hx) hi))

def upOf (d : List Nd) (i : Nat) : Int := (d.getD i default).up
/-- k, and what is above it. -/
def chain (d : List Nd) : Nat → Int → List Int
  | 0, _ => []
  | f + 1, k => if k < 0 then [] else k :: chain d f (upOf d k.toNat)
def okUp (d : List Nd) (i : Nat) : Bool := if i = 0 then decide (upOf d 0 = -1) else (chain d i ((i : Int) - 1)).contains (upOf d i)
def okAt (d : List Nd) (i : Nat) : Bool := nodeFine (d.getD i default) && okUp d i
def docOk (d : List Nd) (n : Nat) : Bool := (List.range n).all (okAt d)
def checkDoc (d : List Nd) : Int := if 1 ≤ d.length ∧ d.length ≤ 64 then (if docOk d d.length then 0 else 1) else 2
theorem chain_bound {d : List Nd} : ∀ (f : Nat) (k : Int), (∀ j : Nat, (j : Int) ≤ k → upOf d j < j) → ∀ x ∈ chain d f k, 0 ≤ x ∧ x ≤ k
  | 0, k, _, x, hx => by simp [chain] at hx
  | f + 1, k, h, x, hx => by
    simp only [chain] at hx
    split at hx
    · cases hx
    · rename_i hk
      rcases List.mem_cons.1 hx with rfl | hx
      · omega
      · have h1 := h k.toNat (by omega)
        have := chain_bound f (upOf d k.toNat) (fun j hj => h j (by omega)) x hx
        omega

theorem docOk_up {d : List Nd} : ∀ {n : Nat}, docOk d n = true → ∀ j, j < n → -1 ≤ upOf d j ∧ upOf d j < j
  | 0, _, j, hj => by omega
  | n + 1, h, j, hj => by
    have h0 : docOk d n = true := range_all_le h (Nat.le_succ n)
    by_cases hjn : j < n
    · exact docOk_up h0 j hjn
    · have e : j = n := by omega
      subst e
      have h1 := range_all_get h (Nat.lt_succ_self j)
      simp only [okAt, okUp, Bool.and_eq_true] at h1
      split at h1
      · rename_i e; subst e; simp at h1; omega
      · have h2 : upOf d j ∈ chain d j ((j : Int) - 1) := by simpa using h1.2
        have := chain_bound j ((j : Int) - 1) (fun k hk => (docOk_up h0 k (by omega)).2) _ h2
        omega

/-- More fuel changes nothing, where there is enough. -/
theorem chain_fuel {d : List Nd} : ∀ (f g : Nat) (k : Int), (∀ j : Nat, (j : Int) ≤ k → upOf d j < j) → k < f → k < g → chain d f k = chain d g k
  | 0, g, k, _, h1, _ => by
    have : k < 0 := by omega
    cases g <;> simp [chain, this]
  | f + 1, 0, k, _, _, h2 => by
    have : k < 0 := by omega
    simp [chain, this]
  | f + 1, g + 1, k, h, h1, h2 => by
    simp only [chain]
    split
    · rfl
    · rename_i hk
      have h3 := h k.toNat (by omega)
      rw [chain_fuel f g (upOf d k.toNat) (fun j hj => h j (by omega)) (by omega) (by omega)]

end Go.Hx
end
