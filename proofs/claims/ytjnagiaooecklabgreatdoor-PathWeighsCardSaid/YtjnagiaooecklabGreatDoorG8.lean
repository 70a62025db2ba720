/-
  Walks of functions of the program over an abstract layer, and the laws that they use: each contract says what the function computes, for every input that its conditions let by. No other condition.
-/
import Derived.Test.YtjnagiaooecklabGreatDoorG7
import Derived.Scope
set_option linter.all false
section
/-
 THE ABSTRACT LAYER, ELEVENTH TEXT: the walk of code on the abstract frame is sound; a contract out of it. Generic over the program. No condition.
-/
namespace Go.Hx
open Go.RowKit
variable [Glob]
section
variable {P : Program} {E : Env} {S : Start}
def zWb (E : Env) (S : Start) (Q : Exit → List Ct → Prop) : Exit → Act → World → Prop := fun e a w => ∃ F, Q e F ∧ Inv E S F a w
theorem zWc {c : Code} {Q : Exit → Act → World → Prop} (I : Nat → Act → World → Prop)
  (round : ∀ n a w, I n a w → c.wp P (Exit.then (fun a' w' => ∃ n', n' < n ∧ I n' a' w') Q) a w) {n : Nat} {a : Act} {w : World} (h0 : I n a w) : (Code.loop c).wp P Q a w := by
 intro b k cs
 have key : ∀ n a w, I n a w → ∃ e a' w', Q e a' w' ∧ Arrives P (lone (b.at a (.code c :: .inLoop c :: k)) cs w) b k cs e a' w' := by
  intro n
  induction n using Nat.strongRecOn with
  | _ n ih =>
   intro a w hI
   obtain ⟨e, a₁, w₁, hq, harr⟩ := round n a w hI b (.inLoop c :: k) cs
   cases e with
   | normal =>
    obtain ⟨n', hlt, hI₁⟩ := hq
    obtain ⟨e₂, a₂, w₂, hq₂, harr₂⟩ := ih n' hlt a₁ w₁ hI₁
    exact ⟨e₂, a₂, w₂, hq₂, .of_steps (Steps.trans harr (.one step_inLoop)) harr₂⟩
   | exit id => exact ⟨_, a₁, w₁, hq, .pass (x := .inLoop c) rfl (fun _ _ => .inl (by simp)) harr⟩
   | goto l => exact ⟨_, a₁, w₁, hq, .pass (x := .inLoop c) rfl (fun _ _ => .inl (by simp)) harr⟩
   | ret => exact ⟨_, a₁, w₁, hq, .pass (x := .inLoop c) rfl (fun _ _ => .inl (by simp)) harr⟩
   | panic ch => exact ⟨_, a₁, w₁, hq, .pass (x := .inLoop c) rfl (fun _ _ => .inl (by simp)) harr⟩
   | outgrown => exact ⟨_, a₁, w₁, hq, .pass (x := .inLoop c) rfl (fun _ _ => .inl (by simp)) harr⟩
 obtain ⟨e, a', w', hq, harr⟩ := key n a w h0
 exact ⟨e, a', w', hq, .of_steps (.one step_loop) harr⟩
def zDs (P : Program) (E : Env) : Code → HCode → Bool
 | .skip, .skip => true
 | .region _ ops draw, .reg hs dr post => draw == dr && zFe P E ops hs ops.toList && zFE E post && (!draw || dkQ P ops hs)
 | .region _ ops draw, .drg ds post => draw && zXU P E ops ds && zFE E post
 | .region _ ops draw, .regG pre hs post => !draw && zFe P E ops hs ops.toList && zFE E pre && zFE E post
 | .region _ ops draw, .drgG pre ds post => draw && zXU P E ops ds && zFE E pre && zFE E post
 | .region _ ops draw, .rdr i hs dr post => draw == dr && zFe P E ops hs ops.toList && zFE E post && (!draw || dkQ P ops hs) && hs.all HO.quiet && decide (i < E.N) && (yBe hs).all (fun d => decide (d < E.N))
 | .seq x y, .seq a b => zDs P E x a && zDs P E y b
 | .cond c x y, .cond d a b => zAi E.N d c && zDs P E x a && zDs P E y b
 | .block i x, .block j a => i == j && zDs P E x a
 | .loop x, .loop a => zDs P E x a
 | .exit i, .exit j => i == j
 | .ret, .ret => true
 | .scope x, .scope a => zDs P E x a
 | .label _, .label => true
 | _, _ => false
theorem zXW {F : List Ct} {a : Act} {w : World} (h : Inv E S F a w) : Inv E S F a { w with drawn := w.drawn + 1 } := by
 obtain ⟨m, β, ow, h⟩ := h
 exact ⟨m, β, ow, h.quiet ⟨m.le_refl, h.mem, fun _ _ _ => rfl, fun _ _ _ _ => rfl, fun _ _ _ h => .inl h, Pres.drew _ w⟩⟩
theorem zYE {K : List Ct → Prop} {Q : Exit → List Ct → Prop} {e : Exit} {a : Act} {w : World} (h : zWb E S (zRt K Q) e a w) : Exit.then (fun a w => zDM E S K a w) (zWb E S Q) e a w := by
 obtain ⟨F, h1, h2⟩ := h
 cases e <;> exact ⟨F, h1, h2⟩
theorem zIk (wf : E.Wf) :
  ∀ (c : Code) (h : HCode) (Q : Exit → List Ct → Prop) (F : List Ct) (a : Act) (w : World), zDs P E c h = true → hwp P h Q F → Inv E S F a w → c.wp P (zWb E S Q) a w := by
 intro c
 induction c with
 | skip =>
  intro h Q F a w hk hW hI
  cases h <;> simp [zDs] at hk
  exact wp_skip ⟨F, hW, hI⟩
 | region id ops draw =>
  intro h Q F a w hk hW hI
  cases h with
  | reg hs dr post =>
   simp only [zDs, Bool.and_eq_true, beq_iff_eq, Bool.or_eq_true, Bool.not_eq_true'] at hk
   obtain ⟨⟨⟨rfl, h2⟩, h3⟩, h4⟩ := hk
   simp only [hwp] at hW
   have hN : ∀ F' a' w', ghW F' (fun F'' => Q .normal F'') post → Inv E S F' a' w' → zWb E S Q .normal a' w' := fun F' a' w' hg hI' => zB7 wf h3 hI' hg
   cases draw with
   | false =>
    refine wp_region ?_
    have := zMD (P := P) wf (ops := ops) (X := fun v F' => Q (.panic [{ v, recovered := false }]) F') (Q := zWb E S Q) (fun v F' a' w' hx hI' => ⟨F', hx, hI'⟩) hN hs ops.toList 0 (fun i o ho => by simpa using ho) h2 F a w hI hW
    rw [Array.length_toList] at this
    rwa [List.range_eq_range']
   | true =>
    have hd : dkQ P ops hs = true := by simpa using h4
    have hq : ∀ o ∈ hs, o.quiet = true := by
     simp only [dkQ, Bool.and_eq_true, List.all_eq_true] at hd
     exact hd.2
    obtain ⟨m, β, ow, hG⟩ := hI
    refine zJr wf (fun _ => hd) hq h2 hG hW ?_
    rintro a' w' hg ⟨F1, h5, h6, _⟩
    exact hN F1 a' w' h5 ⟨m, β, ow, h6.gr hg⟩
  | drg ds post =>
   simp only [zDs, Bool.and_eq_true] at hk
   obtain ⟨⟨rfl, h2⟩, h3⟩ := hk
   simp only [hwp] at hW
   exact zMN wf h2 (fun F' a' w' hg hI' => zB7 wf h3 hI' hg) (fun v F' a' w' hx hag hI' => ⟨F', hx F' hag, hI'⟩) (zXW hI) hW
  | regG pre hs post =>
   simp only [zDs, Bool.and_eq_true, Bool.not_eq_true'] at hk
   obtain ⟨⟨⟨rfl, h2⟩, h5⟩, h3⟩ := hk
   simp only [hwp] at hW
   have hN : ∀ F' a' w', ghW F' (fun F'' => Q .normal F'') post → Inv E S F' a' w' → zWb E S Q .normal a' w' := fun F' a' w' hg hI' => zB7 wf h3 hI' hg
   obtain ⟨F0, hW0, hI0⟩ := zB7 wf h5 hI hW
   refine wp_region ?_
   have := zMD (P := P) wf (ops := ops) (X := fun v F' => Q (.panic [{ v, recovered := false }]) F') (Q := zWb E S Q) (fun v F' a' w' hx hI' => ⟨F', hx, hI'⟩) hN hs ops.toList 0 (fun i o ho => by simpa using ho) h2 F0 a w hI0 hW0
   rw [Array.length_toList] at this
   rwa [List.range_eq_range']
  | drgG pre ds post =>
   simp only [zDs, Bool.and_eq_true] at hk
   obtain ⟨⟨⟨rfl, h2⟩, h5⟩, h3⟩ := hk
   simp only [hwp] at hW
   obtain ⟨F0, hW0, hI0⟩ := zB7 wf h5 hI hW
   exact zMN wf h2 (fun F' a' w' hg hI' => zB7 wf h3 hI' hg) (fun v F' a' w' hx hag hI' => ⟨F', hx F' hag, hI'⟩) (zXW hI0) hW0
  | rdr i hs dr post =>
   simp only [zDs, Bool.and_eq_true, beq_iff_eq, Bool.or_eq_true, Bool.not_eq_true', List.all_eq_true, decide_eq_true_eq] at hk
   obtain ⟨⟨⟨⟨⟨⟨rfl, h2⟩, h3⟩, h4⟩, hq⟩, hi⟩, hds⟩ := hk
   simp only [hwp] at hW
   split at hW
   ·rename_i e k rows e1
    obtain ⟨m, β, ow, hG⟩ := hI
    obtain ⟨m', hG'⟩ := zYA wf hG hi e1
    refine zJr wf (fun hd => by rcases h4 with h4 | h4 <;> simp_all) hq h2 hG' hW ?_
    rintro a' w' hg ⟨F1, h5, h6, h7⟩
    exact zB7 wf h3 ⟨m, β, ow, (yBA wf hG h6 hds h7).gr hg⟩ h5
   ·exact hW.elim
  | _ => simp [zDs] at hk
 | seq x y ihx ihy =>
  intro h Q F a w hk hW hI
  cases h <;> simp only [zDs] at hk <;> try cases hk
  rename_i ha hb
  simp only [Bool.and_eq_true] at hk
  refine wp_seq (wp_mono (ihx ha _ F a w hk.1 hW hI) ?_)
  intro e a' w' h'
  have := zYE h'
  cases e with
  | normal => obtain ⟨F', h1, h2⟩ := this; exact ihy hb Q F' a' w' hk.2 h1 h2
  | _ => exact this
 | cond c x y ihx ihy =>
  intro h Q F a w hk hW hI
  cases h <;> simp only [zDs] at hk <;> try cases hk
  rename_i d ha hb
  simp only [Bool.and_eq_true] at hk
  obtain ⟨⟨h1, h2⟩, h3⟩ := hk
  simp only [hwp] at hW
  split at hW
  ·rename_i t e1
   obtain ⟨n1, ht, hf⟩ := hW
   obtain ⟨m, β, ow, hG⟩ := hI
   have hv := zGV hG h1 n1 e1
   refine wp_cond_split hv (fun e => ihx ha Q F a w h2 (ht e) ⟨m, β, ow, hG⟩) (fun e => ihy hb Q F a w h3 (hf e) ⟨m, β, ow, hG⟩)
  ·exact hW.elim
 | block id x ih =>
  intro h Q F a w hk hW hI
  cases h <;> simp only [zDs] at hk <;> try cases hk
  rename_i j ha
  simp only [Bool.and_eq_true, beq_iff_eq] at hk
  obtain ⟨rfl, hk⟩ := hk
  refine wp_block (wp_mono (ih ha _ F a w hk hW hI) ?_)
  rintro e a' w' ⟨F', h1, h2⟩
  cases e with
  | exit id' =>
   simp only [zFD] at h1
   simp only [Exit.inBlock]
   split at h1
   ·rename_i e'; rw [if_pos e']; exact ⟨F', h1, h2⟩
   ·rename_i e'; rw [if_neg e']; exact ⟨F', h1, h2⟩
  | _ => exact ⟨F', h1, h2⟩
 | loop x ih =>
  intro h Q F a w hk hW hI
  cases h <;> simp only [zDs] at hk <;> try cases hk
  rename_i ha
  simp only [hwp] at hW
  obtain ⟨I, ⟨n, F0, hle, hI0⟩, hround⟩ := hW
  obtain ⟨m, β, ow, hG⟩ := hI
  refine zWc (fun n a w => ∃ F, I n F ∧ Inv E S F a w) ?_ (n := n) ⟨F0, hI0, m, β, ow, hG.le hle⟩
  rintro n a w ⟨F1, h1, h2⟩
  refine wp_mono (ih ha _ F1 a w hk (hround n F1 h1) h2) ?_
  rintro e a' w' ⟨F2, h3, h4⟩
  cases e with
  | normal =>
   obtain ⟨n', F', hlt, hle', hI'⟩ := h3
   obtain ⟨m, β, ow, hG⟩ := h4
   exact ⟨n', hlt, F', hI', m, β, ow, hG.le hle'⟩
  | _ => exact ⟨F2, h3, h4⟩
 | exit id =>
  intro h Q F a w hk hW hI
  cases h <;> simp only [zDs] at hk <;> try cases hk
  simp only [beq_iff_eq] at hk
  subst hk
  exact wp_exit ⟨F, hW, hI⟩
 | ret =>
  intro h Q F a w hk hW hI
  cases h <;> simp [zDs] at hk
  exact wp_ret ⟨F, hW, hI⟩
 | scope x ih =>
  intro h Q F a w hk hW hI
  cases h <;> simp only [zDs] at hk <;> try cases hk
  rename_i ha
  refine wp_scope_straight (wp_mono (ih ha _ F a w hk hW hI) ?_)
  rintro e a' w' ⟨F', h1, h2⟩
  cases e with
  | goto l => exact h1.elim
  | _ => exact ⟨F', h1, h2⟩
 | label l =>
  intro h Q F a w hk hW hI
  cases h <;> simp [zDs] at hk
  exact wp_label ⟨F, hW, hI⟩
 | _ =>
  intro h Q F a w hk hW hI
  cases h <;> simp [zDs] at hk
end
end Go.Hx
end

section
/-
 THE ABSTRACT LAYER, TWELFTH TEXT: a contract out of a function's code. Generic over the program. No condition.
-/
namespace Go.Hx
open Go.RowKit
variable [Glob]
def zAM : AV → Ct
 | .val x => .pv x
 | .own e k rows => .own e k rows
 | .io _ => .ptr 0 0
def ioOf : List AV → Option (List PV)
 | x :: as => match x with | .io cells => some cells | _ => ioOf as
 | [] => none
def zB5 : List AV → Nat
 | x :: as => match x with | .own _ _ _ => zB5 as + 1 | _ => zB5 as
 | [] => 0
def nIo : List AV → Nat
 | x :: as => match x with | .io _ => nIo as + 1 | _ => nIo as
 | [] => 0
def zZ3 : List AV → Nat
 | x :: as => match x with | .own _ _ _ => 0 | _ => zZ3 as + 1
 | [] => 0
def zAN : List Nat → List Ct → List Ct
 | [], F => F
 | i :: r, F => zAN r (F.set i .una)
def F0 (E : Env) (base : Nat) (as : List AV) : List Ct := zAN E.una (
 zAb (as.map zAM ++ List.replicate (E.L - as.length) .un) base (match ioOf as with | some cs => cs.map fun x => .pv (.one x) | none => []))
def zAC (E : Env) (base : Nat) (as : List AV) : Prop :=
 as.length ≤ E.N ∧ zB5 as ≤ 1 ∧ nIo as ≤ 1 ∧ match ioOf as with | some cs => E.nfix = 1 ∧ E.Γ[0]? = some (base, cs.length) | none => E.nfix = 0
inductive RSrc where
 | tmp (t : Nat)
 | cellB (t j base off n : Nat) (agg : Bool)
 | cellF (t n : Nat) (agg : Bool)
 deriving Inhabited
def zRu (P : Program) (E : Env) : RSrc → ResultVar → Bool
 | .tmp t, .tmp t' => t == t' && decide (t < E.N)
 | .cellB t j base off n agg, .cell a ty => t == a && decide (t < E.N) && zDn E j base (off + n) && zBl P ty == some agg && zDl P ty == some n && (agg || n == 1)
 | .cellF t n agg, .cell a ty => t == a && decide (t < E.N) && zBl P ty == some agg && zDl P ty == some n && (agg || n == 1)
 | _, _ => false
def zEj (P : Program) (E : Env) : List RSrc → List ResultVar → Bool
 | [], [] => true
 | x :: xs, y :: ys => zRu P E x y && zEj P E xs ys
 | _, _ => false
def rsV (F : List Ct) : RSrc → PVal → Prop
 | .tmp t, x => match (zAp F (.t t)).pv? with
  | some p => (zAp F (.t t)).need ∧ (x = p ∨ x = p.norm)
  | none => False
 | .cellB t j base off n agg, x => match F.getD t .un, zAE F (base + off) n with
  | .ptr j' off', some cs => j' = j ∧ off' = off ∧ (x = (if agg then .agg cs else .one (cs.headD (.nl 0))) ∨ x = (if agg then PVal.agg cs else .one (cs.headD (.nl 0))).norm)
  | _, _ => False
 | .cellF t n agg, x => match (zAp F (.t t)).pv? with
  | some (.one (.fp cs)) => (zAp F (.t t)).need ∧ cs.length = n ∧ x = if agg then .agg (cs.map PV.norm) else .one (cs.headD (.nl 0)).norm
  | _ => False
def zVT (F : List Ct) : List RSrc → List PVal → Prop
 | [], xs => xs = []
 | r :: rs, l => match l with | x :: xs => rsV F r x ∧ zVT F rs xs | [] => False
def zCQ (F : List Ct) (rs : List RSrc) : Res → Prop
 | .val x => match rs with | [r] => rsV F r x | _ => False
 | .own e k rows => match rs with | [.tmp t] => F.getD t .un = .own e k rows | _ => False
 | .tup xs => match rs with | [_] => False | _ => zVT F rs xs
 | .pan _ => False
 | .ov x => match rs with
  | [.tmp t] => F.getD t .un = .ov x
  | [.cellB t j base off n agg] => F.getD t .un = .ptr j off ∧ ∃ cs, zCX F (base + off) n = some cs ∧ x = yCx agg cs
  | _ => False
def zCj (E : Env) (base : Nat) (as : List AV) (rs : List RSrc) (r : RV) : Exit → List Ct → Prop
 | .normal, F | .ret, F => zCQ F rs r.res ∧ ∀ cs, ioOf as = some cs → zAE F base cs.length = some r.io
 | .panic ch, _ => ∃ v, r.res = .pan v ∧ ch = [{ v, recovered := false }]
 | _, _ => False
section
variable {P : Program} {E : Env} {S : Start} {m : Mem} {β : Bx} {ow : Ow} {F : List Ct} {a : Act} {w : World}
def rdR (tmps : Array Value) : ResultVar → Sem Value
 | .tmp t => pure (tmps.getD t undef)
 | .cell a t => do loadVar t (← asAddr (tmps.getD a undef))
theorem yBH (h : InvG E S m β ow F a w) {r : RSrc} {s : ResultVar} (hk : zRu P E r s = true) {x : PVal} (hx : rsV F r x) :
  ∃ u, (rdR a.tmps s).run P w = .ok u w ∧ RpV m x u := by
 cases r with
 | tmp t =>
  cases s <;> simp only [zRu] at hk <;> try cases hk
  rename_i t'
  simp only [Bool.and_eq_true, beq_iff_eq, decide_eq_true_eq] at hk
  obtain ⟨rfl, ht⟩ := hk
  simp only [rsV] at hx
  split at hx
  ·rename_i p e1
   have hv := zAL h (x := .t t) (y := .tmp t) (by simp [zAi, ht]) hx.1 e1
   rcases hx.2 with rfl | rfl
   ·exact ⟨_, rfl, hv⟩
   ·exact ⟨_, rfl, hv.norm⟩
  ·exact hx.elim
 | cellB t j base off n agg =>
  cases s <;> simp only [zRu] at hk <;> try cases hk
  rename_i b ty
  simp only [Bool.and_eq_true, beq_iff_eq, decide_eq_true_eq, Bool.or_eq_true] at hk
  obtain ⟨⟨⟨⟨⟨rfl, ht⟩, hb⟩, ha⟩, hn⟩, h1⟩ := hk
  simp only [rsV] at hx
  split at hx
  ·rename_i j' off' cs e1 e2
   obtain ⟨rfl, rfl, hx⟩ := hx
   suffices hg : ∃ u, (rdR a.tmps (.cell t ty)).run P w = .ok u w ∧ RpV m (if agg then .agg cs else .one (cs.headD (.nl 0))) u by
    obtain ⟨u, h1, h2⟩ := hg
    rcases hx with rfl | rfl
    ·exact ⟨u, h1, h2⟩
    ·exact ⟨u, h1, h2.norm⟩
   clear hx
   obtain ⟨nn, hj, hle⟩ := zCY hb
   obtain ⟨b, hb, hv⟩ := zCv h (x := .t t) (y := .tmp t) (by simp [zAi, ht]) e1
   have hv' : a.tmps.getD t undef = _ := hv
   have hB := h.boxes _ _ hj
   rw [hb] at hB
   obtain ⟨us, hl, hu, hm⟩ := zHe hB n off' hle cs e2
   have hrun := zA4 (P := P) (w := w) ha hn h1 (us := us) (b := b) (o := off') hl hm
   refine ⟨if agg = true then .agg us.toArray else us.headD undef, by simp only [rdR, hv', asAddr, Sem.run_bind, Sem.run_pure, Result.andThen_ok, hrun], ?_⟩
   cases agg with
   | true => exact ⟨us, rfl, hu⟩
   | false =>
    rcases h1 with h1 | rfl
    ·cases h1
    ·have hcl : cs.length = 1 := by rw [← hu.length, hl]
     match cs, hcl with
     | [x], _ =>
      simp only [RpL] at hu
      obtain ⟨u, us', rfl, h2, _⟩ := hu
      exact h2
  ·exact hx.elim
 | cellF t n agg =>
  cases s <;> simp only [zRu] at hk <;> try cases hk
  rename_i b ty
  simp only [Bool.and_eq_true, beq_iff_eq, decide_eq_true_eq, Bool.or_eq_true] at hk
  obtain ⟨⟨⟨⟨rfl, ht⟩, ha⟩, hn⟩, h1⟩ := hk
  simp only [rsV] at hx
  split at hx
  ·rename_i cs e1
   obtain ⟨n1, rfl, rfl⟩ := hx
   have hv := zAL h (x := .t t) (y := .tmp t) (by simp [zAi, ht]) n1 e1
   obtain ⟨b, o, hv, hr⟩ := hv
   have hv' : a.tmps.getD t undef = _ := hv
   obtain ⟨us, hu, hm⟩ := hr.vals
   have hrun := zA4 (P := P) (w := w) ha hn h1 (us := us) (b := b) (o := o) (by rw [hu.length]) (fun i u hi => h.mem _ _ _ (hm i u hi))
   refine ⟨if agg = true then .agg us.toArray else us.headD undef, by simp only [rdR, hv', asAddr, Sem.run_bind, Sem.run_pure, Result.andThen_ok, hrun], ?_⟩
   cases agg with
   | true => exact ⟨us, rfl, hu.norm⟩
   | false =>
    rcases h1 with h1 | h1
    ·cases h1
    ·exact zQF hu h1
  ·exact hx.elim
theorem zT7 (h : InvG E S m β ow F a w) : ∀ {rs : List RSrc} {ss : List ResultVar} (_ : zEj P E rs ss = true) {xs : List PVal} (_ : zVT F rs xs),
  ∃ us : List Value, (ss.mapM (rdR a.tmps)).run P w = .ok us w ∧ RpVL m xs us
 | [], [], _, xs, hx => by
  simp only [zVT] at hx
  subst hx
  exact ⟨[], by simp, rfl⟩
 | [], s :: ss, hk, xs, hx => by simp [zEj] at hk
 | r :: rs, [], hk, xs, hx => by simp [zEj] at hk
 | r :: rs, s :: ss, hk, [], hx => by simp [zVT] at hx
 | r :: rs, s :: ss, hk, x :: xs, hx => by
  simp only [zEj, Bool.and_eq_true] at hk
  simp only [zVT] at hx
  obtain ⟨u, h1, h2⟩ := yBH h hk.1 hx.1
  obtain ⟨us, h3, h4⟩ := zT7 h hk.2 hx.2
  refine ⟨u :: us, ?_, u, us, rfl, h2, h4⟩
  rw [List.mapM_cons, Sem.run_bind, h1]
  simp only [Result.andThen_ok]
  rw [Sem.run_bind, h3]
  simp
theorem zEk (h : InvG E S m β ow F a w) {fn : Func} {rs : List RSrc} (hk : zEj P E rs fn.results.toList = true) {xs : List PVal} (hx : zVT F rs xs) :
  ∃ us : List Value, (results fn a.tmps).run P w = .ok (match us with | [u] => u | _ => .tuple us.toArray) w ∧ RpVL m xs us := by
 obtain ⟨us, h1, h2⟩ := zT7 h hk hx
 refine ⟨us, ?_, h2⟩
 have e : results fn a.tmps = (do let vs ← fn.results.mapM (rdR a.tmps); pure (if h : vs.size = 1 then vs[0] else .tuple vs)) := by
  unfold results
  congr
 rw [e, Array.mapM_eq_mapM_toList]
 have h3 : (Functor.map List.toArray (List.mapM (rdR a.tmps) fn.results.toList) : Sem (Array Value)).run P w = .ok us.toArray w := by
  rw [map_eq_pure_bind, Sem.run_bind, h1]
  rfl
 rw [Sem.run_bind, h3]
 simp only [Result.andThen_ok]
 match us with
 | [] => rfl
 | [u] => rfl
 | u :: v :: us => rfl
theorem ArgsRep.get : ∀ {as : List AV} {us : List Value}, ArgsRep m w as us → ∀ (i : Nat) (x : AV), as[i]? = some x → ∃ u, us[i]? = some u ∧ ArgRep m w x u
 | [], us, h, i, x, hx => by simp at hx
 | y :: ys, us, h, i, x, hx => by
  simp only [ArgsRep] at h
  obtain ⟨u, us', rfl, h2, h3⟩ := h
  cases i with
  | zero => simp at hx; subst hx; exact ⟨u, rfl, h2⟩
  | succ i => simpa using ArgsRep.get h3 i x (by simpa using hx)
theorem zWd : ∀ {as : List AV} {us : List Value}, ArgsRep m w as us → zB5 as ≤ 1 → ∀ (i : Nat) (e k : Nat) (rows : List (List PV)), as[i]? = some (.own e k rows) → i = zZ3 as ∧ ∃ u, us[i]? = some u ∧ zF3 as us = u.ownBlock
 | [], us, h, _, i, e, k, rows, hx => by simp at hx
 | y :: ys, us, h, hn, i, e, k, rows, hx => by
  simp only [ArgsRep] at h
  obtain ⟨u, us', rfl, h2, h3⟩ := h
  cases i with
  | zero =>
   simp at hx; subst hx
   exact ⟨rfl, u, rfl, rfl⟩
  | succ i =>
   have hx' : ys[i]? = some (.own e k rows) := by simpa using hx
   cases y with
   | own e' k' rows' =>
    exfalso
    have : zB5 ys = 0 := by simp [zB5] at hn; omega
    exact absurd hx' (no_own this i e k rows)
   | val x =>
    obtain ⟨h4, u', h5, h6⟩ := zWd h3 (by simpa [zB5] using hn) i e k rows hx'
    exact ⟨by simp [zZ3, h4], u', by simpa using h5, by simpa [zF3] using h6⟩
   | io cs =>
    obtain ⟨h4, u', h5, h6⟩ := zWd h3 (by simpa [zB5] using hn) i e k rows hx'
    exact ⟨by simp [zZ3, h4], u', by simpa using h5, by simpa [zF3] using h6⟩
where
 no_own : ∀ {as : List AV}, zB5 as = 0 → ∀ (i : Nat) (e k : Nat) (rows : List (List PV)), as[i]? ≠ some (.own e k rows)
 | [], _, i, _, _, _ => by simp
 | .own _ _ _ :: ys, h, _, _, _, _ => by simp [zB5] at h
 | .val _ :: ys, h, 0, _, _, _ => by simp
 | .val _ :: ys, h, i + 1, e, k, rows => by simpa using no_own (as := ys) (by simpa [zB5] using h) i e k rows
 | .io _ :: ys, h, 0, _, _, _ => by simp
 | .io _ :: ys, h, i + 1, e, k, rows => by simpa using no_own (as := ys) (by simpa [zB5] using h) i e k rows
theorem zZ4 : ∀ {as : List AV} {us : List Value}, ArgsRep m w as us → nIo as ≤ 1 → ∀ (i : Nat) (cs : List PV), as[i]? = some (.io cs) → ioOf as = some cs ∧ ∃ u, us[i]? = some u ∧ ioB as us = yEV u
 | [], us, h, _, i, cs, hx => by simp at hx
 | y :: ys, us, h, hn, i, cs, hx => by
  simp only [ArgsRep] at h
  obtain ⟨u, us', rfl, h2, h3⟩ := h
  cases i with
  | zero =>
   simp at hx; subst hx
   exact ⟨rfl, u, rfl, rfl⟩
  | succ i =>
   have hx' : ys[i]? = some (.io cs) := by simpa using hx
   cases y with
   | io cs' =>
    exfalso
    have : nIo ys = 0 := by simp [nIo] at hn; omega
    exact absurd hx' (no_io this i cs)
   | val x =>
    obtain ⟨h4, u', h5, h6⟩ := zZ4 h3 (by simpa [nIo] using hn) i cs hx'
    exact ⟨by simp [ioOf, h4], u', by simpa using h5, by simpa [ioB] using h6⟩
   | own e k rows =>
    obtain ⟨h4, u', h5, h6⟩ := zZ4 h3 (by simpa [nIo] using hn) i cs hx'
    exact ⟨by simp [ioOf, h4], u', by simpa using h5, by simpa [ioB] using h6⟩
where
 no_io : ∀ {as : List AV}, nIo as = 0 → ∀ (i : Nat) (cs : List PV), as[i]? ≠ some (.io cs)
 | [], _, i, _ => by simp
 | .io _ :: ys, h, _, _ => by simp [nIo] at h
 | .val _ :: ys, h, 0, _ => by simp
 | .val _ :: ys, h, i + 1, cs => by simpa using no_io (as := ys) (by simpa [nIo] using h) i cs
 | .own _ _ _ :: ys, h, 0, _ => by simp
 | .own _ _ _ :: ys, h, i + 1, cs => by simpa using no_io (as := ys) (by simpa [nIo] using h) i cs
theorem zXX : ∀ {as : List AV} {us : List Value} {cs : List PV}, ArgsRep m w as us → ioOf as = some cs → zMr as = cs.length ∧ ∃ b vs T, ioB as us = some b ∧ w.heap[b]? = some (.cells vs T (0, 0)) ∧ (∀ o, m b o = none) ∧ RpL m cs vs.toList
 | [], us, cs, h, hx => by simp [ioOf] at hx
 | y :: ys, us, cs, h, hx => by
  simp only [ArgsRep] at h
  obtain ⟨u, us', rfl, h2, h3⟩ := h
  cases y with
  | io cs' =>
   simp only [ioOf, Option.some.injEq] at hx
   subst hx
   obtain ⟨b, vs, T, rfl, h4, h5, h6⟩ := h2
   exact ⟨rfl, b, vs, T, rfl, h4, h5, h6⟩
  | val x => exact zXX (as := ys) (us := us') h3 hx
  | own e k rows => exact zXX (as := ys) (us := us') h3 hx
theorem zGd : ∀ {as : List AV} {us : List Value}, ioOf as = none → ioB as us = none
 | [], us, h => by cases us <;> rfl
 | y :: ys, [], h => rfl
 | y :: ys, u :: us, h => by
  cases y with
  | io cs => simp [ioOf] at h
  | val x => exact zGd (as := ys) h
  | own e k rows => exact zGd (as := ys) h
theorem zMO : ∀ {as : List AV} {us : List Value} {b : Nat}, ArgsRep m w as us → zF3 as us = some b → ∃ (i e k : Nat) (rows : List (List PV)) (u : Value), as[i]? = some (.own e k rows) ∧ us[i]? = some u ∧ u.ownBlock = some b ∧ OwnAt m w e k rows u
 | [], us, b, h, hb => by simp [zF3] at hb
 | y :: ys, us, b, h, hb => by
  simp only [ArgsRep] at h
  obtain ⟨u, us', rfl, h2, h3⟩ := h
  cases y with
  | own e k rows => exact ⟨0, e, k, rows, u, rfl, rfl, hb, h2⟩
  | val x =>
   obtain ⟨i, e, k, rows, u', h4, h5, h6⟩ := zMO h3 (b := b) hb
   exact ⟨i + 1, e, k, rows, u', by simpa using h4, by simpa using h5, h6⟩
  | io cs =>
   obtain ⟨i, e, k, rows, u', h4, h5, h6⟩ := zMO h3 (b := b) hb
   exact ⟨i + 1, e, k, rows, u', by simpa using h4, by simpa using h5, h6⟩
theorem OwnAt.lt {e k : Nat} {rows : List (List PV)} {u : Value} (h : OwnAt m w e k rows u) {g : Nat} (hg : u.ownBlock = some g) : g < w.heap.size := by
 obtain ⟨⟨xs, h1, h2⟩, _⟩ := h
 rcases h2 with ⟨rfl, _⟩ | ⟨g', cap, cur, rfl, _, hh, _⟩
 ·simp [Value.ownBlock] at hg
 ·simp only [Value.ownBlock, Option.some.injEq] at hg
  subst hg
  exact (Array.getElem?_eq_some_iff.1 hh).1
theorem zT8 (wf : E.Wf) : ∀ (l : List Nat) (F : List Ct), (∀ i ∈ l, E.N ≤ i ∧ ∀ j bn b, E.Γ[j]? = some bn → β j = some b → i < bn.1 ∨ bn.1 + bn.2 ≤ i) → InvG E S m β ow F a w → InvG E S m β ow (zAN l F) a w
 | [], _, _, h => h
 | x :: r, F, hx, h => by
  refine zT8 wf r (F.set x .una) (fun i hi => hx i (List.mem_cons_of_mem _ hi)) ?_
  obtain ⟨hN, hb⟩ := hx x List.mem_cons_self
  have hg : ∀ i, (F.set x .una).getD i .un = F.getD i .un ∨ (i = x ∧ (F.set x .una).getD i .un = .una) := by
   intro i
   rw [zAI]
   split
   ·exact .inr ⟨by omega, rfl⟩
   ·exact .inl rfl
  refine { h with lenF := by rw [List.length_set]; exact h.lenF, slots := fun i hi => ?_, boxes := fun j bn hj => ?_ }
  ·rcases hg i with e | ⟨e, _⟩
   ·rw [e]; exact h.slots i hi
   ·omega
  ·have hB := h.boxes j bn hj
   cases hβ : β j with
   | none =>
    rw [hβ] at hB
    intro o ho
    rcases hg (bn.1 + o) with e | ⟨_, e⟩
    ·rw [e]; exact hB o ho
    ·exact .inr e
   | some b =>
    rw [hβ] at hB
    obtain ⟨h1, h2, cs, T, h3, h4, h5⟩ := hB
    refine ⟨h1, h2, cs, T, h3, h4, fun o ho => ?_⟩
    rcases hg (bn.1 + o) with e | ⟨e, _⟩
    ·rw [e]; exact h5 o ho
    ·have := hb j bn b hj hβ
     omega
theorem zT9 (hun : E.unaOk = true) (wf : E.Wf) {base : Nat} {as : List AV} {us : List Value} (hf : zAC E base as) (hm : MemOk m w) (ha : ArgsRep m w as us) (hd : ∀ g, zF3 as us = some g → ioB as us ≠ some g) (hG0 : Glob.ok w) (hGR : ∀ b, zIe as us b → Glob.n ≤ b) :
  Inv E { w0 := w, m0 := m, R0 := zIe as us, b0 := fun j => if j = 0 then ioB as us else none, g0 := hG0, gR := hGR } (F0 E base as) { tmps := us.toArray ++ Array.replicate (E.N - us.toArray.size) undef, defers := [] } w := by
 obtain ⟨hlen, hno, hni, hio⟩ := hf
 have hul := ha.length
 have hNL := wf.le
 have hFl : (as.map zAM ++ List.replicate (E.L - as.length) Ct.un).length = E.L := by simp; omega
 have hbase : ∀ cs, ioOf as = some cs → E.N ≤ base ∧ base + cs.length ≤ E.L := by
  intro cs hc
  rw [hc] at hio
  exact ⟨wf.lo 0 _ hio.2, wf.hi 0 _ hio.2⟩
 refine ⟨m, fun j => if j = 0 then ioB as us else none, fun b => if zF3 as us = some b then some (.key (zZ3 as)) else if ioB as us = some b then some (.box 0) else none, ?_⟩
 refine zT8 wf _ _ (fun i hi => ?_) ?_
 ·have hu := List.all_eq_true.1 hun i hi
  simp only [Bool.and_eq_true, decide_eq_true_eq] at hu
  refine ⟨hu.1, fun j bn b hj hb => ?_⟩
  split at hb
  ·rename_i e
   subst e
   have hn : E.nfix = 1 := by
    cases hc : ioOf as with
    | none => rw [zGd hc] at hb; cases hb
    | some cs => rw [hc] at hio; exact hio.1
   have := List.all_eq_true.1 hu.2 0 (by rw [hn]; decide)
   rw [hj] at this
   simpa using this
  ·cases hb
 refine ⟨by rw [zAJ]; exact hFl, by simp; omega, rfl, ?_, ?_, hm, m.le_refl, Pres.refl _ _, ?_, ?_, fun b o u h => .inl h, fun j _ => rfl⟩
 ·intro i hi
  have e1 : (zAb (as.map zAM ++ List.replicate (E.L - as.length) Ct.un) base (match ioOf as with | some cs => cs.map fun x => Ct.pv (.one x) | none => [])).getD i .un = (as.map zAM ++ List.replicate (E.L - as.length) Ct.un).getD i .un := by
   cases hc : ioOf as with
   | none => rfl
   | some cs =>
    have := hbase cs hc
    rw [zAn, if_neg (by omega)]
  rw [e1]
  by_cases hia : i < as.length
  ·rw [List.getD_eq_getElem?_getD, List.getElem?_append_left (by simpa using hia), List.getElem?_map, List.getElem?_eq_getElem hia]
   simp only [Option.map_some, Option.getD_some]
   obtain ⟨u, h1, h2⟩ := ha.get i as[i] (List.getElem?_eq_getElem hia)
   have e2 : (us.toArray ++ Array.replicate (E.N - us.toArray.size) undef).getD i undef = u := by
    rw [Array.getD_eq_getD_getElem?, Array.getElem?_append_left (by simp; omega)]
    simp [h1]
   rw [e2]
   cases hx : as[i] with
   | val x => rw [hx] at h2; exact h2
   | own e k rows =>
    rw [hx] at h2
    obtain ⟨h3, u', h4, h5⟩ := zWd ha hno i e k rows (by rw [← hx]; exact List.getElem?_eq_getElem hia)
    rw [h1] at h4
    injection h4 with h4
    subst h4
    refine OwnAt.rep h2 fun g hg => ?_
    rw [if_pos (h5.trans hg), h3]
   | io cs =>
    rw [hx] at h2
    obtain ⟨h3, u', h4, h5⟩ := zZ4 ha hni i cs (by rw [← hx]; exact List.getElem?_eq_getElem hia)
    rw [h1] at h4
    injection h4 with h4
    subst h4
    obtain ⟨b, vs, T, rfl, _⟩ := h2
    exact ⟨b, by simpa [yEV] using h5, rfl⟩
  ·rw [List.getD_eq_getElem?_getD, List.getElem?_append_right (by simpa using Nat.le_of_not_lt hia), List.getElem?_replicate]
   split <;> trivial
 ·intro j bn hj
  by_cases hj0 : j = 0
  ·subst hj0
   simp only [if_true]
   cases hc : ioOf as with
   | none =>
    rw [zGd hc]
    intro o ho
    have hlo := wf.lo 0 bn hj
    simp only [hc, zAb]
    rw [List.getD_eq_getElem?_getD, List.getElem?_append_right (by simp; omega), List.getElem?_replicate]
    left; split <;> rfl
   | some cs =>
    rw [hc] at hio
    obtain ⟨_, b, vs, T, h1, h2, h3, h4⟩ := zXX ha hc
    rw [hio.2] at hj
    injection hj with hj
    subst hj
    have := hbase cs hc
    rw [h1]
    refine ⟨?_, h3, vs, T, h2, ?_, ?_⟩
    ·simp only; rw [if_neg (fun h => hd b h h1), if_pos trivial]
    ·simpa using h4.length
    ·intro o ho
     simp only at ho ⊢
     rw [zAn, if_pos (by simp; omega)]
     have e : base + o - base = o := by omega
     have hvl : vs.toList.length = cs.length := h4.length
     rw [e, List.getD_eq_getElem?_getD, List.getElem?_map, List.getElem?_eq_getElem ho]
     have hlt : o < vs.toList.length := by omega
     have hu : vs.getD o undef = vs.toList[o] := by
      rw [Array.getD_eq_getD_getElem?, ← Array.getElem?_toList, List.getElem?_eq_getElem hlt]; rfl
     rw [hu]
     exact h4.get _ _ _ (List.getElem?_eq_getElem ho) (List.getElem?_eq_getElem hlt)
  ·simp only [hj0, if_false]
   intro o ho
   have hlo := wf.lo j bn hj
   have hout : ∀ cs, ioOf as = some cs → ¬ (base ≤ bn.1 + o ∧ bn.1 + o < base + cs.length) := by
    intro cs hc
    rw [hc] at hio
    have := wf.ap j 0 _ _ hj hio.2 hj0
    simp only at this
    omega
   rw [zAn]
   rw [if_neg]
   ·rw [List.getD_eq_getElem?_getD, List.getElem?_append_right (by simp; omega), List.getElem?_replicate]
    left; split <;> rfl
   ·cases hc : ioOf as with
    | none => simp; omega
    | some cs => intro h; exact hout cs hc (by simp at h; omega)
 ·intro b t hb
  refine .inr ?_
  split at hb
  ·rename_i h; exact .inl h
  ·split at hb
   ·rename_i h; exact .inr h
   ·cases hb
 ·intro b t hb
  split at hb
  ·rename_i h
   obtain ⟨i, e, k, rows, u, _, _, h5, h6⟩ := zMO ha h
   exact h6.lt h5
  ·split at hb
   ·rename_i h
    cases hc : ioOf as with
    | none => rw [zGd hc] at h; cases h
    | some cs =>
     obtain ⟨_, b', vs, T, h1, h2, _⟩ := zXX ha hc
     rw [h] at h1
     injection h1 with h1
     subst h1
     exact (Array.getElem?_eq_some_iff.1 h2).1
   ·cases hb
theorem zMc : ∀ {as : List AV} {cs : List PV}, ioOf as = some cs → zMr as = cs.length
 | [], cs, h => by simp [ioOf] at h
 | y :: ys, cs, h => by
  cases y with
  | io cs' => simp only [ioOf, Option.some.injEq] at h; subst h; rfl
  | val x => exact zMc (as := ys) h
  | own e k rows => exact zMc (as := ys) h
mutual
def PV.fits : PV → Prop
 | .v x => zEB x = true
 | .sl _ rows => rows.length ≤ maxLen ∧ zOS rows
 | .nl _ => True
 | .fp cs => zGK cs
 | .clo _ caps => zGK caps
 | .any => True
def zGK : List PV → Prop
 | [] => True
 | x :: xs => x.fits ∧ zGK xs
def zOS : List (List PV) → Prop
 | [] => True
 | r :: rs => zGK r ∧ zOS rs
end
def PVal.fits : PVal → Prop
 | .one x => x.fits
 | .agg cs => zGK cs
def AV.fits : AV → Prop
 | .val x => x.fits
 | .own _ _ rows => rows.length ≤ maxLen ∧ zOS rows
 | .io cells => zGK cells
def AVs.fits : List AV → Prop
 | [] => True
 | x :: xs => x.fits ∧ AVs.fits xs
mutual
theorem Rp.fits : ∀ (x : PV) (u : Value), Rp m x u → x.fits
 | .v _, _, h => by simp only [Rp] at h; simp only [PV.fits]; exact h.2
 | .sl k rows, _, h => by
  simp only [Rp] at h
  obtain ⟨A, c, _, h2, h3, h4⟩ := h
  simp only [PV.fits]
  refine ⟨Nat.le_trans h2 h3, ?_⟩
  rcases h4 with h4 | ⟨b, o, _, h5⟩
  ·subst h4; simp only [zOS]
  ·exact RpRows.fits rows b k o h5
 | .nl _, _, _ => by simp only [PV.fits]
 | .fp cs, _, h => by
  simp only [Rp] at h
  obtain ⟨b, o, _, h2⟩ := h
  simp only [PV.fits]
  exact RpAt.fits cs b o h2
 | .clo f caps, _, h => by
  simp only [Rp] at h
  obtain ⟨us, _, h2⟩ := h
  simp only [PV.fits]
  exact RpL.fits caps us h2
 | .any, _, _ => by simp only [PV.fits]
theorem RpAt.fits : ∀ (cs : List PV) (b o : Nat), RpAt m b o cs → zGK cs
 | [], _, _, _ => by simp only [zGK]
 | x :: xs, b, o, h => by
  simp only [RpAt] at h
  obtain ⟨⟨u, _, h2⟩, h3⟩ := h
  simp only [zGK]
  exact ⟨Rp.fits x u h2, RpAt.fits xs b (o + 1) h3⟩
theorem RpRows.fits : ∀ (rows : List (List PV)) (b k o : Nat), RpRows m b k o rows → zOS rows
 | [], _, _, _, _ => by simp only [zOS]
 | r :: rs, b, k, o, h => by
  simp only [RpRows] at h
  obtain ⟨⟨_, h2⟩, h3⟩ := h
  simp only [zOS]
  exact ⟨RpAt.fits r b o h2, RpRows.fits rs b k (o + k) h3⟩
theorem RpL.fits : ∀ (cs : List PV) (us : List Value), RpL m cs us → zGK cs
 | [], _, _ => by simp only [zGK]
 | x :: xs, _, h => by
  simp only [RpL] at h
  obtain ⟨u, us', _, h2, h3⟩ := h
  simp only [zGK]
  exact ⟨Rp.fits x u h2, RpL.fits xs us' h3⟩
end
theorem ArgRep.fits {x : AV} {u : Value} (h : ArgRep m w x u) : x.fits := by
 cases x with
 | val x =>
  cases x with
  | one x => exact Rp.fits x u h
  | agg cs => obtain ⟨us, _, h2⟩ := h; exact RpL.fits cs us h2
 | own e k rows =>
  have := Rp.fits _ _ (OwnAt.rp h)
  simp only [PV.fits] at this
  exact this
 | io cells => obtain ⟨b, cs, T, _, _, _, h2⟩ := h; exact RpL.fits _ _ h2
theorem ArgsRep.fits : ∀ {as : List AV} {us : List Value}, ArgsRep m w as us → AVs.fits as
 | [], _, _ => trivial
 | x :: xs, _, h => by
  simp only [ArgsRep] at h
  obtain ⟨u, us', _, h2, h3⟩ := h
  exact ⟨h2.fits, ArgsRep.fits h3⟩
theorem contract_of_wp {f : FuncId} {fn : Func} {c : Code} (hf : P.funcs[f]? = some fn) (hb : fn.body = some c) (hcall : zCD P f = true) (hE' : (E.ok && E.unaOk) = true) (hN : E.N = fn.ntmps)
  {h : HCode} (hk : zDs P E c h = true)
  {rs : List RSrc} (hrs : zEj P E rs fn.results.toList = true) {base : Nat} {as : List AV} (hfo : zAC E base as) {r : RV} (hW0 : AVs.fits as → hwp P h (zCj E base as rs r) (F0 E base as)) (hov : ∀ x, r.res = .ov x → zB5 as = 0 := by intro x h; cases h <;> rfl) : Contract P f as r := by
 have hE := Bool.and_eq_true_iff.1 hE'
 have wf := Env.wf_of_ok hE.1
 refine ⟨hcall, fun m w us hm ha hd hG0 hGR => ?_⟩
 have hW := hW0 ha.fits
 have h0 := zT9 hE.2 wf hfo hm ha hd hG0 hGR
 have hc := zIk wf c h _ _ _ _ hk hW h0
 refine calls_of_wp hf hb ?_
 rw [← hN]
 refine wp_mono hc ?_
 have hio := hfo.2.2.2
 have common : ∀ {m' : Mem} {β : Bx} {ow : Ow} {F : List Ct} {a' : Act} {w' : World},
   InvG E { w0 := w, m0 := m, R0 := zIe as us, b0 := fun j => if j = 0 then ioB as us else none, g0 := hG0, gR := hGR } m' β ow F a' w' →
   m.le m' ∧ MemOk m' w' ∧ Pres (zIe as us) w w' ∧ (∀ b o u, m' b o = some u → m b o = some u ∨ w.heap.size ≤ b ∨ zF3 as us = some b) ∧
   (∀ b, ioB as us = some b → ow b = some (.box 0) ∧ ∀ io : Option (List PV), (∀ l, io = some l → ∀ cs, ioOf as = some cs → zAE F base cs.length = some l) → yEW m' w' b (zMr as) io) := by
  intro m' β ow F a' w' hG
  have key : ∀ b, ioB as us = some b → ∃ cs, ioOf as = some cs ∧ E.Γ[0]? = some (base, cs.length) ∧ BoxRep m' w' ow F 0 (base, cs.length) (some b) := by
   intro b hb
   cases hc : ioOf as with
   | none => rw [zGd hc] at hb; cases hb
   | some cs =>
    rw [hc] at hio
    have hB := hG.boxes 0 _ hio.2
    have hβ : β 0 = some b := by rw [hG.fix 0 (by rw [hio.1]; exact Nat.one_pos)]; simp only [if_true]; exact hb
    rw [hβ] at hB
    exact ⟨cs, rfl, hio.2, hB⟩
  refine ⟨hG.mle, hG.mem, hG.pres, fun b o u hu => ?_, fun b hb => ?_⟩
  ·rcases hG.new b o u hu with g | g | g
   ·exact .inl g
   ·exact .inr (.inl g)
   ·rcases g with g | g
    ·exact .inr (.inr g)
    ·obtain ⟨cs, _, _, hB⟩ := key b g
     have := hB.2.1 o
     rw [hu] at this
     cases this
  ·obtain ⟨cs, hc, hj, hB⟩ := key b hb
   refine ⟨hB.1, fun io hl => ?_⟩
   rw [zMc hc]
   refine ⟨hB.2.1, ?_⟩
   cases io with
   | none =>
    obtain ⟨h1, h2, vs, T, h3, h4, h5⟩ := hB
    exact ⟨vs, T, h3, h4, fun l e => by cases e⟩
   | some l =>
    obtain ⟨vs, T, h3, h4, h5⟩ := zHl hB (hl l rfl cs hc)
    exact ⟨vs, T, h3, h4, fun l' e => by injection e with e; subst e; exact h5⟩
 have fin : ∀ {F : List Ct} {a' : Act} {w' : World}, (zCQ F rs r.res ∧ ∀ cs, ioOf as = some cs → zAE F base cs.length = some r.io) →
   Inv E { w0 := w, m0 := m, R0 := zIe as us, b0 := fun j => if j = 0 then ioB as us else none, g0 := hG0, gR := hGR } F a' w' →
   a'.defers = [] ∧ ∃ v, (results fn a'.tmps).run P w' = .ok v w' ∧ yBc m w as us r (.returned v) w' := by
  rintro F a' w' ⟨hr, hi⟩ ⟨m', β, ow, hG⟩
  obtain ⟨c1, c2, c3, c4, c5⟩ := common hG
  refine ⟨hG.dfr, ?_⟩
  have hmk : ∀ v, zMq m' w w' (zF3 as us) r.res (.returned v) → yBc m w as us r (.returned v) w' := by
   intro v hv
   refine ⟨m', c1, c2, c3, c4, fun b hb => (c5 b hb).2 _ ?_, hv⟩
   intro l hl cs hcs
   unfold Res.ioOf at hl
   split at hl
   ·cases hl
   ·injection hl with hl; rw [← hl]; exact hi cs hcs
  cases hres : r.res with
  | val x =>
   rw [hres] at hr
   simp only [zCQ] at hr
   split at hr
   ·rename_i r1
    obtain ⟨us', h1, h2⟩ := zEk hG hrs (xs := [x]) (by simp only [zVT]; exact ⟨hr, trivial⟩)
    obtain ⟨u, us'', rfl, h3, h4⟩ := h2
    simp only [RpVL] at h4
    subst h4
    exact ⟨_, h1, hmk _ (by rw [hres]; exact ⟨u, rfl, h3⟩)⟩
   ·exact hr.elim
  | own e k rows =>
   rw [hres] at hr
   simp only [zCQ] at hr
   split at hr
   ·rename_i t
    have hlt : t < E.N := by
     cases hl : fn.results.toList with
     | nil => rw [hl] at hrs; simp [zEj] at hrs
     | cons s ss =>
      rw [hl] at hrs
      simp only [zEj, Bool.and_eq_true] at hrs
      cases s with
      | tmp t' => have := hrs.1; simp only [zRu, Bool.and_eq_true, decide_eq_true_eq] at this; exact this.2
      | cell x y => have := hrs.1; simp [zRu] at this
    have hs := hG.slots t hlt
    rw [hr] at hs
    obtain ⟨us', h1, h2⟩ := zEk hG hrs (xs := [.one (.sl k rows)]) (by simp only [zVT, rsV, zAp, hr]; exact ⟨⟨trivial, .inl rfl⟩, trivial⟩)
    obtain ⟨u, us'', rfl, h3, h4⟩ := h2
    simp only [RpVL] at h4
    subst h4
    refine ⟨_, h1, ?_⟩
    have hu : u = a'.tmps.getD t undef := by
     have e : results fn a'.tmps = (do let vs ← fn.results.mapM (rdR a'.tmps); pure (if h : vs.size = 1 then vs[0] else .tuple vs)) := by unfold results; congr
     cases hl : fn.results.toList with
     | nil => rw [hl] at hrs; simp [zEj] at hrs
     | cons s ss =>
      rw [hl] at hrs
      simp only [zEj, Bool.and_eq_true] at hrs
      cases ss with
      | cons s2 ss2 => simp [zEj] at hrs
      | nil =>
       cases s with
       | cell x y => have := hrs.1; simp [zRu] at this
       | tmp t' =>
        have h5 := hrs.1
        simp only [zRu, Bool.and_eq_true, beq_iff_eq, decide_eq_true_eq] at h5
        obtain ⟨rfl, _⟩ := h5
        rw [e, Array.mapM_eq_mapM_toList, hl] at h1
        simp [rdR] at h1
        rw [Array.getD_eq_getD_getElem?]; exact h1.symm
    subst hu
    refine hmk _ ?_
    rw [hres]
    refine ⟨_, rfl, OwnRep.at_ hs, fun g hg => ?_⟩
    have hg1 := (hs.2 g hg).1
    rcases hG.own g _ hg1 with h6 | h6 | h6
    ·exact .inl h6
    ·exact .inr h6
    ·rw [(c5 g h6).1] at hg1; cases hg1
   ·exact hr.elim
  | tup xs =>
   rw [hres] at hr
   simp only [zCQ] at hr
   split at hr
   ·exact hr.elim
   ·rename_i hne
    obtain ⟨us', h1, h2⟩ := zEk hG hrs hr
    have hl1 : us'.length = xs.length := RpVL.length h2
    have hl2 : rs.length = xs.length := rsVs_length hr
    match us', h1, h2, hl1 with
    | [], h1, h2, _ => exact ⟨_, h1, hmk _ (by rw [hres]; exact ⟨[], rfl, h2⟩)⟩
    | [u], h1, h2, hl1 => 
     exfalso
     match rs, hne, hl2 with
     | [x], hne, _ => exact hne x rfl
     | [], _, h => simp at h hl1; omega
     | _ :: _ :: _, _, h => simp at h hl1; omega
    | u :: v :: l, h1, h2, _ => exact ⟨_, h1, hmk _ (by rw [hres]; exact ⟨u :: v :: l, rfl, h2⟩)⟩
  | pan v => rw [hres] at hr; exact hr.elim
  | ov x =>
   rw [hres] at hr
   have hno := hov x hres
   have hfresh : ∀ (i g : Nat), ow g = some (.key i) → w.heap.size ≤ g := by
    intro i g hg
    rcases hG.own g _ hg with h6 | h6 | h6
    ·exact h6
    ·exact (no_ownB hno h6).elim
    ·rw [(c5 g h6).1] at hg; cases hg
   simp only [zCQ] at hr
   split at hr
   ·rename_i t
    have hlt : t < E.N := by
     cases hl : fn.results.toList with
     | nil => rw [hl] at hrs; simp [zEj] at hrs
     | cons s ss =>
      rw [hl] at hrs
      simp only [zEj, Bool.and_eq_true] at hrs
      cases s with
      | tmp t' => have := hrs.1; simp only [zRu, Bool.and_eq_true, decide_eq_true_eq] at this; exact this.2
      | cell x y => have := hrs.1; simp [zRu] at this
    have hs := hG.slots t hlt
    rw [hr] at hs
    obtain ⟨fp, k1, k2, k3⟩ := hs
    refine ⟨a'.tmps.getD t undef, res_one hrs (fun s hs1 => ?_), hmk _ (by rw [hres]; exact ⟨a'.tmps.getD t undef, fp, rfl, k1, k2, fun g hg => ⟨hfresh t g (k3 g hg).1, (k3 g hg).2⟩⟩)⟩
    cases s with
    | cell x y => simp [zRu] at hs1
    | tmp t' =>
     simp only [zRu, Bool.and_eq_true, beq_iff_eq, decide_eq_true_eq] at hs1
     obtain ⟨rfl, _⟩ := hs1
     rfl
   ·rename_i t j bs off n agg
    obtain ⟨e1, cs, e2, rfl⟩ := hr
    have hsrc : ∃ s, fn.results.toList = [s] ∧ zRu P E (.cellB t j bs off n agg) s = true := by
     cases hl : fn.results.toList with
     | nil => rw [hl] at hrs; simp [zEj] at hrs
     | cons s ss =>
      rw [hl] at hrs
      cases ss with
      | nil => simp only [zEj, Bool.and_eq_true] at hrs; exact ⟨s, rfl, hrs.1⟩
      | cons s2 ss => simp [zEj] at hrs
    obtain ⟨s, _, hs1⟩ := hsrc
    cases s with
    | tmp t' => simp [zRu] at hs1
    | cell b ty =>
     have hs1' := hs1
     simp only [zRu, Bool.and_eq_true, beq_iff_eq, decide_eq_true_eq, Bool.or_eq_true] at hs1'
     obtain ⟨⟨⟨⟨⟨rfl, ht⟩, hb⟩, ha⟩, hn⟩, h1⟩ := hs1'
     obtain ⟨nn, hj, hle⟩ := zCY hb
     obtain ⟨bb, hbb, hv⟩ := zCv hG (x := .t t) (y := .tmp t) (by simp [zAi, ht]) e1
     have hv' : a'.tmps.getD t undef = _ := hv
     have hB := hG.boxes _ _ hj
     rw [hbb] at hB
     obtain ⟨us', fp, k1, k2, k3, k4, k5⟩ := zV6 hB n off hle cs e2
     have hrun := zA4 (P := P) (w := w') ha hn h1 (us := us') (b := bb) (o := off) k1 k5
     have hfp : ∀ g ∈ fp, w.heap.size ≤ g ∧ ∀ o, m' g o = none := fun g hg => by
      obtain ⟨⟨i, _, _, i3, _⟩, i5⟩ := k4 g hg
      exact ⟨hfresh i g i3, i5⟩
     refine ⟨if agg then .agg us'.toArray else us'.headD undef, res_one hrs (fun s hs2 => ?_), hmk _ (by rw [hres]; exact ⟨if agg then .agg us'.toArray else us'.headD undef, fp, rfl, zRg k2 (by rw [k1]; exact h1), k3, hfp⟩)⟩
     ·cases s with
      | tmp t' => simp [zRu] at hs2
      | cell b' ty' =>
       have hs2' := hs2
       simp only [zRu, Bool.and_eq_true, beq_iff_eq, decide_eq_true_eq, Bool.or_eq_true] at hs2'
       obtain ⟨⟨⟨⟨⟨rfl, _⟩, _⟩, ha'⟩, hn'⟩, _⟩ := hs2'
       have hrun' := zA4 (P := P) (w := w') ha' hn' h1 (us := us') (b := bb) (o := off) k1 k5
       simp only [rdR, hv', asAddr, Sem.run_bind, Sem.run_pure, Result.andThen_ok, hrun']
   ·exact hr.elim
 rintro e a' w' ⟨F, hq, hI⟩
 cases e with
 | normal => exact fin hq hI
 | ret => exact fin hq hI
 | panic ch =>
  obtain ⟨v, hv, rfl⟩ := hq
  obtain ⟨m', β, ow, hG⟩ := hI
  obtain ⟨c1, c2, c3, c4, c5⟩ := common hG
  refine ⟨hG.dfr, m', c1, c2, c3, c4, fun b hb => (c5 b hb).2 _ ?_, ?_⟩
  ·intro l hl
   simp only [Res.ioOf, hv] at hl
   cases hl
  ·rw [hv]; rfl
 | exit id => exact hq.elim
 | goto l => exact hq.elim
 | outgrown => exact hq.elim
where
 no_ownB : ∀ {as : List AV} {us : List Value} {b : Nat}, zB5 as = 0 → zF3 as us ≠ some b
  | [], us, b, _ => by simp [zF3]
  | x :: as, [], b, _ => by simp [zF3]
  | .own _ _ _ :: as, u :: us, b, h => by simp [zB5] at h
  | .val _ :: as, u :: us, b, h => by simpa [zF3] using no_ownB (as := as) (us := us) (by simpa [zB5] using h)
  | .io _ :: as, u :: us, b, h => by simpa [zF3] using no_ownB (as := as) (us := us) (by simpa [zB5] using h)
 res_one {fn : Func} {r : RSrc} (hrs : zEj P E [r] fn.results.toList = true) {tmps : Array Value} {w' : World} {u : Value} (h : ∀ s, zRu P E r s = true → (rdR tmps s).run P w' = .ok u w') : (results fn tmps).run P w' = .ok u w' := by
  have e : results fn tmps = (do let vs ← fn.results.mapM (rdR tmps); pure (if h : vs.size = 1 then vs[0] else .tuple vs)) := by unfold results; congr
  cases hl : fn.results.toList with
  | nil => rw [hl] at hrs; simp [zEj] at hrs
  | cons s ss =>
   rw [hl] at hrs
   cases ss with
   | cons s2 ss2 => simp [zEj] at hrs
   | nil =>
    simp only [zEj, Bool.and_eq_true] at hrs
    have h1 := h s hrs.1
    rw [e, Array.mapM_eq_mapM_toList, hl]
    simp [h1]
 RpVL.length {m : Mem} : ∀ {xs : List PVal} {us : List Value}, RpVL m xs us → us.length = xs.length
  | [], us, h => by simp only [RpVL] at h; subst h; rfl
  | x :: xs, us, h => by
   obtain ⟨u, us', rfl, _, h3⟩ := h
   simp [RpVL.length h3]
 rsVs_length {F : List Ct} : ∀ {rs : List RSrc} {xs : List PVal}, zVT F rs xs → rs.length = xs.length
  | [], xs, h => by simp only [zVT] at h; subst h; rfl
  | r :: rs, [], h => by simp [zVT] at h
  | r :: rs, x :: xs, h => by simp only [zVT] at h; simp [rsVs_length h.2]
end
end Go.Hx
end

section
/-
  THE ABSTRACT LAYER, THIRTEENTH TEXT: the rules by which simp walks the abstract code. Generic over the program. No condition.
-/
namespace Go.Hx
open Go.RowKit
variable [Glob]
section
variable {P : Program} {h h1 h2 : HCode} {Q : Exit → List Ct → Prop} {K : List Ct → Prop} {X : Value → List Ct → Prop} {F F' : List Ct}
def yFt (P : Program) (os : List HO) (K : List Ct → Prop) (X : Value → List Ct → Prop) : List Ct → Prop := fun F => yEZ P os F K X
def dK (P : Program) (ds : List DO) (N : List Ct → Prop) (X : Value → Prop) : List Ct → Prop := fun F => dW P ds F N X
def dX (l : Bool) (X : Value → Prop) : Value → List Ct → Prop := fun v _ => l = true ∧ X v
def ghK (post : List Gh) (K : List Ct → Prop) : List Ct → Prop := fun F => ghW F K post
def nrm (Q : Exit → List Ct → Prop) : List Ct → Prop := fun F => Q .normal F
def yGm (Q : Exit → List Ct → Prop) : Value → List Ct → Prop := fun v F => Q (.panic [{ v, recovered := false }]) F
def yGn (ds : List DO) (F : List Ct) (Q : Exit → List Ct → Prop) : Value → Prop := fun v => ∀ F', AgW (dsW ds) F F' → Q (.panic [{ v, recovered := false }]) F'
def yCQ (P : Program) (os : List HO) (K : List Ct → Prop) : List Ct → Prop := fun F => yCz P os F K
def bkK (F : List Ct) (ds : List Nat) (post : List Gh) (Q : Exit → List Ct → Prop) : List Ct → Prop := fun F1 => ghW (zXM F F1 ds) (nrm Q) post
theorem yFu : hwp P .skip Q F = Q .normal F := rfl
theorem yGo {ops : List HO} {post : List Gh} : hwp P (.reg ops false post) Q F = yFt P ops (ghK post (nrm Q)) (yGm Q) F := rfl
theorem yGp {ds : List DO} {post : List Gh} : hwp P (.drg ds post) Q F = dK P ds (ghK post (nrm Q)) (yGn ds F Q) F := rfl
theorem yFv {pre : List Gh} {ops : List HO} {post : List Gh} : hwp P (.regG pre ops post) Q F = ghW F (fun F0 => yFt P ops (ghK post (nrm Q)) (yGm Q) F0) pre := rfl
theorem yFw {pre : List Gh} {ds : List DO} {post : List Gh} : hwp P (.drgG pre ds post) Q F = ghW F (fun F0 => dK P ds (ghK post (nrm Q)) (yGn ds F0 Q) F0) pre := rfl
theorem yGq {i : Nat} {ops : List HO} {draw : Bool} {post : List Gh} : hwp P (.rdr i ops draw post) Q F = (match F.getD i .un with
    | .stk e k rows => yCQ P ops (bkK F (yBe ops) post Q) (F.set i (.own e k rows))
    | _ => False) := rfl
theorem yGr : yFt P [] K X F = K F := rfl
theorem yFx {o : HO} {os : List HO} : yFt P (o :: os) K X F = hoW P o F (yFt P os K X) X := rfl
theorem yFy {N : List Ct → Prop} {X0 : Value → Prop} : dK P [] N X0 F = N F := rfl
theorem yDv {i : Nat} {l : Bool} {h : HO} {ds : List DO} {N : List Ct → Prop} {X0 : Value → Prop} : dK P (⟨i, l, h⟩ :: ds) N X0 F = hoW P h F (dK P ds N X0) (dX l X0) := rfl
theorem yHQ {post : List Gh} : ghK post K F = ghW F K post := rfl
theorem yGs : nrm Q F = Q .normal F := rfl
theorem yFz {v : Value} : yGm Q v F = Q (.panic [{ v, recovered := false }]) F := rfl
theorem yFA {v : Value} {ds : List DO} : yGn ds F Q v = ∀ F', AgW (dsW ds) F F' → Q (.panic [{ v, recovered := false }]) F' := rfl
theorem yHR {l : Bool} {X0 : Value → Prop} {v : Value} : dX l X0 v F = (l = true ∧ X0 v) := rfl
theorem yHS {F0 : List Ct} {ds : List Nat} {post : List Gh} : bkK F0 ds post Q F = ghW (zXM F0 F ds) (nrm Q) post := rfl
theorem yGt {d e k : Nat} : hoW P ⟨none, .nlk d e k⟩ F K X = K (F.set d (.stk e k [])) := rfl
theorem yGu {d x : Nat} : hoW P ⟨none, .mvk d x⟩ F K X = (match F.getD x .un with
    | .stk e k rows => d ≠ x ∧ K ((F.set x (.hdr rows.length)).set d (.stk e k rows))
    | _ => False) := rfl
theorem yGv {d x : Nat} {hi : Opd} : hoW P ⟨none, .trk d x hi⟩ F K X = (match F.getD x .un, (zAp F hi).pv? with
    | .stk e k rows, some (.one (.v (.int _ n))) => d ≠ x ∧ (zAp F hi).need ∧ 0 ≤ n ∧ n ≤ rows.length ∧ K ((F.set x (.hdr rows.length)).set d (.stk e k (rows.take n.toNat)))
    | _, _ => False) := rfl
theorem yGw {d e k x : Nat} {y : Opd} : hoW P ⟨none, .apk d e k x y⟩ F K X = (match F.getD x .un, (zAp F y).pv? with
    | .stk e' k' rows, some (.one (.sl k'' rs)) => x ≠ d ∧ e' = e ∧ k' = k ∧ k'' = k ∧ (zAp F y).need ∧ (rows.length + rs.length) * 4096 ≤ 140737488355328 ∧ K ((F.set x (.hdr rows.length)).set d (.stk e k (rows ++ rs)))
    | _, _ => False) := rfl
theorem yGx {d : Nat} {ng : Bool} {x : Opd} : hoW P ⟨none, .isn d ng x⟩ F K X = (match (zAp F x).pv? with
    | some (.one (.sl _ rows)) => (zAp F x).need ∧ ∀ b : Bool, (rows ≠ [] → b = false) → K (F.set d (.pv (bv (if ng then !b else b))))
    | some (.one (.nl _)) => (zAp F x).need ∧ K (F.set d (.pv (bv (!ng))))
    | _ => False) := rfl
theorem yGy {F1 : List Ct} : zXM F F1 [] = F := rfl
theorem yFB {F1 : List Ct} {d : Nat} {ds : List Nat} : zXM F F1 (d :: ds) = zXM (F.set d (yBz (F1.getD d .un))) F1 ds := rfl
theorem yGz {a b : HCode} : hwp P (.seq a b) Q F = hwp P a (zRt (hwp P b Q) Q) F := rfl
theorem zAa {x : Opd} {a b : HCode} {t : Bool} (e : (zAp F x).pv? = some (.one (.v (.bool t)))) (n : (zAp F x).need) (ht : t = true → hwp P a Q F) (hf : t = false → hwp P b Q F) : hwp P (.cond x a b) Q F := by
  simp only [hwp, e]
  exact ⟨n, ht, hf⟩
theorem yFC {x : Opd} {a b : HCode} (e : (zAp F x).pv? = some (.one (.v (.bool true)))) (n : (zAp F x).need) (ht : hwp P a Q F) : hwp P (.cond x a b) Q F :=
  zAa e n (fun _ => ht) (fun h => by cases h)
theorem yCR {x : Opd} {a b : HCode} (e : (zAp F x).pv? = some (.one (.v (.bool false)))) (n : (zAp F x).need) (hf : hwp P b Q F) : hwp P (.cond x a b) Q F :=
  zAa e n (fun h => by cases h) (fun _ => hf)
theorem yDw {id : Nat} {a : HCode} : hwp P (.block id a) Q F = hwp P a (zFD id Q) F := rfl
theorem yFD {id : Nat} : hwp P (.exit id) Q F = Q (.exit id) F := rfl
theorem yGA : hwp P .ret Q F = Q .ret F := rfl
theorem yDx {a : HCode} : hwp P (.scope a) Q F = hwp P a (ngQ Q) F := rfl
theorem yDy : hwp P .label Q F = Q .normal F := rfl
theorem yGB : ngQ Q .normal F = Q .normal F := rfl
theorem yGC {id : Nat} : ngQ Q (.exit id) F = Q (.exit id) F := rfl
theorem yGD : ngQ Q .ret F = Q .ret F := rfl
theorem yGE {ch : List PanicEntry} : ngQ Q (.panic ch) F = Q (.panic ch) F := rfl
theorem yDz : zRt K Q .normal F = K F := rfl
theorem yDA {id : Nat} : zRt K Q (.exit id) F = Q (.exit id) F := rfl
theorem yDB : zRt K Q .ret F = Q .ret F := rfl
theorem yDC {ch : List PanicEntry} : zRt K Q (.panic ch) F = Q (.panic ch) F := rfl
theorem yFE {id : Nat} : zFD id Q .normal F = Q .normal F := rfl
theorem yFF {id id' : Nat} : zFD id Q (.exit id') F = if id' = id then Q .normal F else Q (.exit id') F := rfl
theorem yFG {id : Nat} : zFD id Q .ret F = Q .ret F := rfl
theorem yFH {id : Nat} {ch : List PanicEntry} : zFD id Q (.panic ch) F = Q (.panic ch) F := rfl
theorem yGF {d : Nat} {v : VOp} : hoW P ⟨none, .val d v⟩ F K X = ((ev F v).1 ∧ K (F.set d (ev F v).2)) := rfl
def zTT (T : Bool) (A B : Prop) : Prop := match T with
  | true => A
  | false => B
theorem yFI {A B : Prop} : zTT true A B = A := rfl
theorem yFJ {A B : Prop} : zTT false A B = B := rfl
theorem zYF {T T' : Bool} {A B : Prop} (h : T = T') : zTT T A B = zTT T' A B := by rw [h]
attribute [congr] zYF
def gdV (o : Option Bool) (p : Prop × Ct) (d : Nat) (F : List Ct) (K : List Ct → Prop) : Prop := match o with
  | none => False
  | some T => match p.2 with
    | .pv x => (T = true → p.1) ∧ K (F.set d (.gd T x))
    | c => zTT T (p.1 ∧ K (F.set d c)) (K (F.set d (.gd false (bv false))))
theorem zZ5 {o o' : Option Bool} {p p' : Prop × Ct} {d : Nat} (h1 : o = o') (h2 : p = p') : gdV o p d F K = gdV o' p' d F K := by rw [h1, h2]
attribute [congr] zZ5
theorem yBI {p : Prop × Ct} {d : Nat} : gdV none p d F K = False := rfl
theorem yFK {T : Bool} {A : Prop} {x : PVal} {d : Nat} : gdV (some T) (A, .pv x) d F K = ((T = true → A) ∧ K (F.set d (.gd T x))) := rfl
theorem yFL {T : Bool} {A : Prop} {d : Nat} : gdV (some T) (A, .un) d F K = zTT T (A ∧ K (F.set d .un)) (K (F.set d (.gd false (bv false)))) := rfl
theorem yDD {T : Bool} {A : Prop} {j off : Nat} {d : Nat} : gdV (some T) (A, .ptr j off) d F K = zTT T (A ∧ K (F.set d (.ptr j off))) (K (F.set d (.gd false (bv false)))) := rfl
theorem yFM {T t : Bool} {A : Prop} {x : PVal} {d : Nat} : gdV (some T) (A, .gd t x) d F K = zTT T (A ∧ K (F.set d (.gd t x))) (K (F.set d (.gd false (bv false)))) := rfl
theorem yDE {T : Bool} {A : Prop} {xs : List PVal} {d : Nat} : gdV (some T) (A, .tup xs) d F K = zTT T (A ∧ K (F.set d (.tup xs))) (K (F.set d (.gd false (bv false)))) := rfl
theorem yDF {T : Bool} {A : Prop} {n : Nat} {d : Nat} : gdV (some T) (A, .hdr n) d F K = zTT T (A ∧ K (F.set d (.hdr n))) (K (F.set d (.gd false (bv false)))) := rfl
theorem yDG {T : Bool} {A : Prop} {b k n : Nat} {d : Nat} : gdV (some T) (A, .hdp b k n) d F K = zTT T (A ∧ K (F.set d (.hdp b k n))) (K (F.set d (.gd false (bv false)))) := rfl
theorem yDH {T : Bool} {A : Prop} {b k r f : Nat} {d : Nat} : gdV (some T) (A, .epp b k r f) d F K = zTT T (A ∧ K (F.set d (.epp b k r f))) (K (F.set d (.gd false (bv false)))) := rfl
theorem yDI {T : Bool} {A : Prop} {b : Nat} {d : Nat} : gdV (some T) (A, .mph b) d F K = zTT T (A ∧ K (F.set d (.mph b))) (K (F.set d (.gd false (bv false)))) := rfl
theorem yDJ {T : Bool} {A : Prop} {e k : Nat} {rows : List (List PV)} {d : Nat} : gdV (some T) (A, .own e k rows) d F K = zTT T (A ∧ K (F.set d (.own e k rows))) (K (F.set d (.gd false (bv false)))) := rfl
theorem yDK {T : Bool} {A : Prop} {e k : Nat} {rows : List (List PV)} {d : Nat} : gdV (some T) (A, .stk e k rows) d F K = zTT T (A ∧ K (F.set d (.stk e k rows))) (K (F.set d (.gd false (bv false)))) := rfl
theorem yFN {T : Bool} {A : Prop} {x : OVal} {d : Nat} : gdV (some T) (A, .ov x) d F K = zTT T (A ∧ K (F.set d (.ov x))) (K (F.set d (.gd false (bv false)))) := rfl
theorem yDL {T : Bool} {A : Prop} {d : Nat} : gdV (some T) (A, .una) d F K = zTT T (A ∧ K (F.set d .una)) (K (F.set d (.gd false (bv false)))) := rfl
attribute [go_sem] yBI yFK yFL yDD yFM yDE yDF yDG yDH yDI yDJ yDK yFN yDL
theorem yDM {g : Nat × Bool} {d : Nat} {v : VOp} : hoW P ⟨some g, .val d v⟩ F K X = gdV (zDG F g) (ev F v) d F K := by
  show (match zDG F g with
    | none => False
    | some T => match (ev F v).2 with
      | .pv x => (T = true → (ev F v).1) ∧ K (F.set d (.gd T x))
      | _ => match T with
        | true => (ev F v).1 ∧ K (F.set d (ev F v).2)
        | false => K (F.set d (.gd false (bv false)))) = _
  unfold gdV
  cases zDG F g with
  | none => rfl
  | some T =>
    generalize ev F v = p
    obtain ⟨A, c⟩ := p
    cases c <;> cases T <;> rfl
theorem zWe {g : Nat × Bool} {d : Nat} {x : Opd} {r j base : Nat} {pt : List (Opd × Nat)} {n : Nat} {agg : Bool} : hoW P ⟨some g, .vlp d x r j base pt n agg⟩ F K X = (match zDG F g with
    | none => False
    | some T => zTT T (hoW P ⟨none, .vlp d x r j base pt n agg⟩ F K X) (K (F.set d (.gd false (bv false))))) := rfl
theorem yGG : yCQ P [] K F = K F := rfl
theorem yGH {os : List HO} {d : Nat} {v : VOp} : yCQ P (⟨none, .val d v⟩ :: os) K F = ((ev F v).1 ∧ yCQ P os K (F.set d (ev F v).2)) := rfl
def gdD (o : Option Bool) (p : Prop × Ct) (d : Nat) (F : List Ct) (K : List Ct → Prop) : Prop := match o with
  | none => False
  | some T => match p.2 with
    | .pv x => (T = true → p.1) ∧ K (F.set d (.gd T x))
    | _ => T = false ∧ K (F.set d (.gd T (bv false)))
theorem zZ6 {o o' : Option Bool} {p p' : Prop × Ct} {d : Nat} (h1 : o = o') (h2 : p = p') : gdD o p d F K = gdD o' p' d F K := by rw [h1, h2]
attribute [congr] zZ6
theorem yBJ {p : Prop × Ct} {d : Nat} : gdD none p d F K = False := rfl
theorem yFO {T : Bool} {A : Prop} {x : PVal} {d : Nat} : gdD (some T) (A, .pv x) d F K = ((T = true → A) ∧ K (F.set d (.gd T x))) := rfl
theorem yFP {T : Bool} {A : Prop} {d : Nat} : gdD (some T) (A, .un) d F K = (T = false ∧ K (F.set d (.gd T (bv false)))) := rfl
theorem yDN {T : Bool} {A : Prop} {j off : Nat} {d : Nat} : gdD (some T) (A, .ptr j off) d F K = (T = false ∧ K (F.set d (.gd T (bv false)))) := rfl
theorem yFQ {T t : Bool} {A : Prop} {x : PVal} {d : Nat} : gdD (some T) (A, .gd t x) d F K = (T = false ∧ K (F.set d (.gd T (bv false)))) := rfl
theorem yDO {T : Bool} {A : Prop} {xs : List PVal} {d : Nat} : gdD (some T) (A, .tup xs) d F K = (T = false ∧ K (F.set d (.gd T (bv false)))) := rfl
theorem yDP {T : Bool} {A : Prop} {n : Nat} {d : Nat} : gdD (some T) (A, .hdr n) d F K = (T = false ∧ K (F.set d (.gd T (bv false)))) := rfl
theorem yDQ {T : Bool} {A : Prop} {e k : Nat} {rows : List (List PV)} {d : Nat} : gdD (some T) (A, .own e k rows) d F K = (T = false ∧ K (F.set d (.gd T (bv false)))) := rfl
theorem yDR {T : Bool} {A : Prop} {e k : Nat} {rows : List (List PV)} {d : Nat} : gdD (some T) (A, .stk e k rows) d F K = (T = false ∧ K (F.set d (.gd T (bv false)))) := rfl
attribute [go_sem] yBJ yFO yFP yDN yFQ yDO yDP yDQ yDR
theorem yDS {os : List HO} {g : Nat × Bool} {d : Nat} {v : VOp} : yCQ P (⟨some g, .val d v⟩ :: os) K F = gdD (zDG F g) (ev F v) d F (yCQ P os K) := by
  show (match zDG F g with
    | none => False
    | some T => match (ev F v).2 with
      | .pv x => (T = true → (ev F v).1) ∧ yCQ P os K (F.set d (.gd T x))
      | _ => T = false ∧ yCQ P os K (F.set d (.gd T (bv false)))) = _
  unfold gdD
  cases zDG F g with
  | none => rfl
  | some T =>
    generalize ev F v = p
    obtain ⟨A, c⟩ := p
    cases c <;> rfl
theorem zAh {f : FuncId} {args : List (Opd × AM)} {d : Option Nat} {x : PVal} {io : List PV} (h1 : (zBr F args).1) (h2 : Contract P f (zBr F args).2 { res := .val x, io := io }) (h3 : K (zVS (zAK F (some io) args) d (.pv x))) : hoW P ⟨none, .call d f args⟩ F K X :=
  ⟨h1, _, h2, h3⟩
theorem zXY {f : FuncId} {args : List (Opd × AM)} {d : Option Nat} {e k : Nat} {rows : List (List PV)} {io : List PV} (h1 : (zBr F args).1) (h2 : Contract P f (zBr F args).2 { res := .own e k rows, io := io }) (h3 : K (zVS (zAK F (some io) args) d (.own e k rows))) : hoW P ⟨none, .call d f args⟩ F K X :=
  ⟨h1, _, h2, h3⟩
theorem zAR {f : FuncId} {args : List (Opd × AM)} {d : Option Nat} {x : PVal} {xs : List PVal} {io : List PV} (h1 : (zBr F args).1) (h2 : Contract P f (zBr F args).2 { res := .tup (x :: xs), io := io }) (h3 : K (zVS (zAK F (some io) args) d (.tup (x :: xs)))) : hoW P ⟨none, .call d f args⟩ F K X :=
  ⟨h1, _, h2, h3⟩
theorem zB6 {f : FuncId} {args : List (Opd × AM)} {d : Option Nat} {io : List PV} (h1 : (zBr F args).1) (h2 : Contract P f (zBr F args).2 { res := .tup [], io := io }) (h3 : K (zVS (zAK F (some io) args) d .un)) : hoW P ⟨none, .call d f args⟩ F K X :=
  ⟨h1, _, h2, h3⟩
theorem zBA {f : FuncId} {args : List (Opd × AM)} {d : Option Nat} {v : Value} (h1 : (zBr F args).1) (h2 : Contract P f (zBr F args).2 { res := .pan v }) (h3 : X v (zAK F none args)) : hoW P ⟨none, .call d f args⟩ F K X :=
  ⟨h1, _, h2, h3⟩
theorem zAG {g : Nat × Bool} {f : FuncId} {args : List (Opd × AM)} {d : Nat} {T : Bool} {x : PVal} (hg : zDG F g = some T) (h1 : T = true → (zBr F args).1) (h2 : T = true → Contract P f (zBr F args).2 { res := .val x }) (h3 : K (F.set d (.gd T x))) : hoW P ⟨some g, .call (some d) f args⟩ F K X := by
  show hoW P ⟨some g, .call (some d) f args⟩ F _ X
  unfold hoW
  simp only [hg]
  exact ⟨h1, x, h2, h3⟩
theorem zZ7 {f : FuncId} {x0 : Opd} {caps : List PV} {args : List (Opd × AM)} {d : Option Nat} {x : PVal} {io : List PV} (e : (zAp F x0).pv? = some (.one (.clo f caps))) (n : (zAp F x0).need) (h1 : (zBr F args).1)
    (h2 : Contract P f ((zBr F args).2 ++ caps.map fun c => .val (.one c)) { res := .val x, io := io }) (h3 : K (zVS (zAK F (some io) args) d (.pv x))) : hoW P ⟨none, .callv d x0 args⟩ F K X := by
  show opW P (.callv d x0 args) F _ X
  simp only [opW, e]
  exact ⟨n, h1, _, h2, h3⟩
theorem zZ8 {p q : Prop} : (p → p ∧ q) = (p → q) := propext ⟨fun h a => (h a).2, fun h a => ⟨a, h a⟩⟩
theorem yBK (c : Ct) (F : List Ct) : (c :: F).getD 0 .un = c := rfl
theorem yBL (c : Ct) (F : List Ct) (n : Nat) : (c :: F).getD (n + 1) .un = F.getD n .un := by simp
theorem yBM (c d : Ct) (F : List Ct) : (c :: F).set 0 d = d :: F := rfl
theorem yBN (c d : Ct) (F : List Ct) (n : Nat) : (c :: F).set (n + 1) d = c :: F.set n d := rfl
theorem yBO : sets F [] = F := rfl
theorem zZ9 {i : Nat} {c : Ct} {l : List (Nat × Ct)} : sets F ((i, c) :: l) = sets (F.set i c) l := rfl
theorem zAo {a : HCode} {α : Type} (us : α → List (Nat × Ct)) (μ : α → Nat) (inv : α → Prop) (s0 : α) (h0 : Le F (sets F (us s0))) (h1 : inv s0)
    (hr : ∀ s, inv s → hwp P a (zRt (fun F2 => ∃ s', μ s' < μ s ∧ inv s' ∧ Le F2 (sets F (us s'))) Q) (sets F (us s))) : hwp P (.loop a) Q F :=
  ⟨fun n F' => ∃ s, μ s = n ∧ inv s ∧ F' = sets F (us s), ⟨μ s0, _, h0, s0, rfl, h1, rfl⟩, by
    rintro n F1 ⟨s, rfl, hs, rfl⟩
    have e : (fun F2 => ∃ n' F', n' < μ s ∧ Le F2 F' ∧ (fun n F' => ∃ s, μ s = n ∧ inv s ∧ F' = sets F (us s)) n' F') = (fun F2 => ∃ s', μ s' < μ s ∧ inv s' ∧ Le F2 (sets F (us s'))) := by
      funext F2
      apply propext
      constructor
      · rintro ⟨n', F', h2, h3, s', rfl, h4, rfl⟩
        exact ⟨s', h2, h4, h3⟩
      · rintro ⟨s', h2, h3, h4⟩
        exact ⟨_, _, h2, h4, s', rfl, h3, rfl⟩
    rw [e]
    exact hr s hs⟩
theorem zAj : Le [] [] = True := by simp [Le]
theorem zAe {c d : Ct} {F G : List Ct} : Le (c :: F) (d :: G) = (leC c d ∧ Le F G) := by
  simp only [Le, List.cons.injEq, eq_iff_iff]
  constructor
  · rintro ⟨c', cs', ⟨rfl, rfl⟩, h⟩; exact h
  · exact fun h => ⟨_, _, ⟨rfl, rfl⟩, h⟩
theorem zAt {c : Ct} : leC c .un = True := by simp [leC]
theorem zAc {c : Ct} : leC c c = True := by simp [leC]
theorem zAr {c d : Ct} (h : c = d) : leC c d := .inr (.inl h.symm)
theorem yDT : leC (.pv (iv 0)) (.pv (iv ((0 : Nat) : Int))) = True := by simp [leC]
theorem zAg {n m : Int} (h : n = m) : leC (.pv (iv n)) (.pv (iv m)) := zAr (by rw [h])
theorem zDp {e k : Nat} {r r' : List (List PV)} (h : r = r') : leC (.own e k r) (.own e k r') := zAr (by rw [h])
theorem zAk {e k k' : Nat} : leC (.pv (.one (.nl k))) (.own e k' []) := .inr (.inr rfl)
theorem yGI : ghW F K [] = K F := rfl
theorem yGJ {j base n : Nat} {r : List Gh} : ghW F K (.frz j base n :: r) = (match zAE F base n with
    | some cs => ghW (zAb (F.map (zZ2 j cs)) base (List.replicate n .un)) K r
    | none => False) := rfl
theorem yBP {l : List Nat} {r : List Gh} : ghW F K (.forget l :: r) = ghW (zBU F l) K r := rfl
theorem yGK : zBU F [] = F := rfl
theorem yFR {i : Nat} {r : List Nat} : zBU F (i :: r) = zBU (F.set i .un) r := rfl
theorem yGL {i : Nat} : zAb F i [] = F := rfl
theorem yFS {i : Nat} {c : Ct} {cs : List Ct} : zAb F i (c :: cs) = zAb (F.set i c) (i + 1) cs := rfl
theorem yGM {d x : Nat} : hoW P ⟨none, .mvo d x⟩ F K X = (match F.getD x .un with
    | .own e k rows => d ≠ x ∧ K ((F.set x (.pv (.one (.sl k rows)))).set d (.own e k rows))
    | _ => False) := rfl
theorem yGN {d e k : Nat} : hoW P ⟨none, .nlo d e k⟩ F K X = K (F.set d (.own e k [])) := rfl
theorem yGO {d j base off e k : Nat} {x : Opd} : hoW P ⟨none, .ldo d x j base off e k⟩ F K X = (match zAp F x, F.getD (base + off) .un with
    | .ptr j' off', .own e' k' rows => j' = j ∧ off' = off ∧ e' = e ∧ k' = k ∧ K ((F.set (base + off) (.pv (.one (.sl k rows)))).set d (.own e k rows))
    | .ptr j' off', .pv (.one (.nl _)) => j' = j ∧ off' = off ∧ K (F.set d (.own e k []))
    | _, _ => False) := rfl
theorem yGP {j base off n : Nat} {x y : Opd} : hoW P ⟨none, .sto x j base off n y⟩ F K X = (match zAp F x, (zAp F y).pv? with
    | .ptr j' off', some p => j' = j ∧ off' = off ∧ p.cells.length = n ∧ (zAp F y).need ∧ K (zAb F (base + off) (p.cells.map fun c => .pv (.one c)))
    | _, _ => False) := rfl
theorem yGQ {j base sz : Nat} {x y : Opd} : hoW P ⟨none, .std x j base sz y⟩ F K X = (match zAp F x, (zAp F y).pv? with
    | .ptr j' off', some p => j' = j ∧ off' < sz ∧ p.cells.length = 1 ∧ (zAp F y).need ∧ K (zAb F (base + off') (p.cells.map fun c => .pv (.one c)))
    | _, _ => False) := rfl
theorem yGR {j base off y : Nat} {x : Opd} : hoW P ⟨none, .stw x j base off y⟩ F K X = (match zAp F x, F.getD y .un with
    | .ptr j' off', .own e k rows => j' = j ∧ off' = off ∧ K ((F.set y (.pv (.one (.sl k rows)))).set (base + off) (.own e k rows))
    | _, _ => False) := rfl
theorem yDU {d j base : Nat} {cells : List PV} : hoW P ⟨none, .alloc d j base cells⟩ F K X = K (zAb ((F.map (zDO j)).set d (.ptr j 0)) base (cells.map fun c => .pv (.one c))) := rfl
theorem yGS {d j base n : Nat} {x : Opd} : hoW P ⟨none, .box d j base n x⟩ F K X = (match (zAp F x).pv? with
    | some p => p.cells.length = n ∧ (zAp F x).need ∧ K (zAb ((F.map (zDO j)).set d (.ptr j 0)) base (p.cells.map fun c => .pv (.one c)))
    | none => False) := rfl
theorem yGT {d j base : Nat} {cells : List PV} : hoW P ⟨none, .alo d j base cells⟩ F K X = (F.getD base .un = .una ∧ K (zAb (F.set d (.ptr j 0)) base (cells.map fun c => .pv (.one c)))) := rfl
theorem yGU {d j base n : Nat} {x : Opd} : hoW P ⟨none, .bxo d j base n x⟩ F K X = (match (zAp F x).pv? with
    | some p => p.cells.length = n ∧ (zAp F x).need ∧ F.getD base .un = .una ∧ K (zAb (F.set d (.ptr j 0)) base (p.cells.map fun c => .pv (.one c)))
    | none => False) := rfl
theorem yGV {d e k x : Nat} {y : Opd} : hoW P ⟨none, .app d e k (.t x) y⟩ F K X = (match F.getD x .un, (zAp F y).pv? with
    | .own e' k' rows, some (.one (.sl k'' rs)) => x ≠ d ∧ e' = e ∧ k' = k ∧ k'' = k ∧ (zAp F y).need ∧ (rows.length + rs.length) * 4096 ≤ 140737488355328 ∧ K ((F.set x (.pv (.one (.sl k rows)))).set d (.own e k (rows ++ rs)))
    | _, _ => False) := rfl
theorem yGW {d e k : Nat} {parts : List Opd} : hoW P ⟨none, .bsl d e k parts⟩ F K X = ((zDk F k parts).1 ∧ K (F.set d (.own e k (zDk F k parts).2))) := rfl
theorem yGX {d e k : Nat} : hoW P ⟨none, .vnl d e k⟩ F K X = K (F.set d (.ov (.one (.os none e k [])))) := rfl
theorem yBQ {pb : Option Nat} {e k : Nat} {rows : List (List OV)} : zOQ (.one (.os pb e k rows)) = .hdr rows.length := rfl
theorem yAa {cs : List OV} : zOQ (.agg cs) = .un := rfl
theorem zYG : zOQ (.one .hole) = .un := rfl
theorem yDV {x : PV} : zOQ (.one (.p x)) = .un := rfl
theorem yBR {b : Nat} {ks : List Value} {vs : List OV} : zOQ (.one (.mp b ks vs)) = .un := rfl
attribute [go_sem] yBQ yAa zYG yDV yBR
theorem yGY {d x : Nat} : hoW P ⟨none, .vmv d x⟩ F K X = (match F.getD x .un with
    | .ov v => d ≠ x ∧ K ((F.set x (zOQ v)).set d (.ov v))
    | _ => False) := rfl
theorem yGZ {d j base off n : Nat} {x : Opd} {agg : Bool} : hoW P ⟨none, .vld d x j base off n agg⟩ F K X = (match zAp F x, zCX F (base + off) n with
    | .ptr j' off', some cs => j' = j ∧ off' = off ∧ K ((zAb F (base + off) (zAO F (base + off) n)).set d (.ov (yCx agg cs)))
    | _, _ => False) := rfl
theorem yG0 {x : Opd} {j base off n y : Nat} : hoW P ⟨none, .vst x j base off n y⟩ F K X = (match zAp F x, F.getD y .un with
    | .ptr j' off', .ov v => j' = j ∧ off' = off ∧ v.cells.length = n ∧ K (zAb (F.set y .un) (base + off) (v.cells.map zDY))
    | _, _ => False) := rfl
theorem yG1 {d e k x : Nat} {y : Opd} : hoW P ⟨none, .vap d e k x y⟩ F K X = (match F.getD x .un with
    | .ov (.one (.os _ e' k' rows)) => (∀ n, y = .t n → x ≠ n) ∧ e' = e ∧ k' = k ∧ (zOK F k y).1 ∧ (rows.length + (zOK F k y).2.length) * 4096 ≤ 140737488355328 ∧ K ((clr F (F.set x .un) y).set d (.ov (.one (.os none e k (rows ++ (zOK F k y).2)))))
    | _ => False) := rfl
theorem yG2 {d e k : Nat} {y : Opd} : hoW P ⟨none, .vbp d e k y⟩ F K X = ((zEe F y).1 ∧ (zEe F y).2.length = k ∧ K ((clr F F y).set d (.ov (.one (.os none e k [(zEe F y).2]))))) := rfl
theorem yG3 {d off n : Nat} {zs : List PV} {y : Opd} : hoW P ⟨none, .vbd d zs off n y⟩ F K X = ((zEe F y).1 ∧ (zEe F y).2.length = n ∧ off + n ≤ zs.length ∧ K ((clr F F y).set d (.ov (.agg ((zs.take off).map .p ++ (zEe F y).2 ++ (zs.drop (off + n)).map .p))))) := rfl
theorem yG4 {d off n : Nat} {zs : List PV} {parts : List (Nat × Nat × Opd)} {y : Opd} : hoW P ⟨none, .vbe d zs parts off n y⟩ F K X = ((zA6 F zs parts).1 ∧ (zA6 F zs parts).2.length = zs.length ∧ (zEe F y).1 ∧ (zEe F y).2.length = n ∧ off + n ≤ zs.length ∧ K ((clr F F y).set d (.ov (.agg (((zA6 F zs parts).2.take off).map .p ++ (zEe F y).2 ++ ((zA6 F zs parts).2.drop (off + n)).map .p))))) := rfl
theorem yG5 {d j base n x : Nat} : hoW P ⟨none, .vby d j base n x⟩ F K X = (match F.getD x .un with
    | .ov v => v.cells.length = n ∧ F.getD base .un = .una ∧ K (zAb ((F.set x .un).set d (.ptr j 0)) base (v.cells.map zDY))
    | _ => False) := rfl
theorem yG6 {d e k x : Nat} : hoW P ⟨none, .vbs d e k x⟩ F K X = (match F.getD x .un with
    | .ov v => v.cells.length = k ∧ K ((F.set x .un).set d (.ov (.one (.os none e k [v.cells]))))
    | _ => False) := rfl
theorem yG7 {d j base n x : Nat} : hoW P ⟨none, .vbx d j base n x⟩ F K X = (match F.getD x .un with
    | .ov v => v.cells.length = n ∧ K (zAb ((((F.set x .un).map (zDO j))).set d (.ptr j 0)) base (v.cells.map zDY))
    | _ => False) := rfl
theorem yG8 {x : Opd} {r kk : Nat} {k y : Opd} : hoW P ⟨none, .mps x r kk k y⟩ F K X = zRb F x r kk k (fun b ks vs kv => (∀ s, y = .t s → s ≠ r) ∧ (yBd F y).1 ∧ match (yBd F y).2 with
    | some c => K ((clr F F y).set r (.ov (.one (zV1 b ks vs kv c))))
    | _ => False) := rfl
theorem yG9 {d : Nat} {x : Opd} {r kk : Nat} {k : Opd} {z : PV} {ok : Bool} : hoW P ⟨none, .mpl d x r kk k z ok⟩ F K X = zRb F x r kk k (fun _ ks vs kv => match zV2 vs z (zF4 ks kv) with
    | some v => K (F.set d (if ok then .tup [.one v, bv (zF4 ks kv).isSome] else .pv (.one v)))
    | none => False) := rfl
theorem yHa {d e k : Nat} {zs : List PV} {x : Opd} : hoW P ⟨none, .vmk d e k zs x⟩ F K X = (match (zAp F x).pv? with
    | some (.one (.v (.int _ n))) => (zAp F x).need ∧ 0 ≤ n ∧ n * 4096 ≤ 140737488355328 ∧ zs.length = k ∧ K (F.set d (.ov (.one (.os none e k (List.replicate n.toNat (zs.map .p))))))
    | _ => False) := rfl
theorem yHb {d x : Nat} {hi : Opd} : hoW P ⟨none, .vtr d x hi⟩ F K X = (match F.getD x .un, (zAp F hi).pv? with
    | .ov (.one (.os pb e k rows)), some (.one (.v (.int _ n))) => d ≠ x ∧ (zAp F hi).need ∧ 0 ≤ n ∧ n ≤ rows.length ∧ K ((F.set x .un).set d (.ov (.one (.os pb e k (rows.take n.toNat)))))
    | _, _ => False) := rfl
def yC : Option PVal → Ct
  | some p => .pv p
  | none => .un
theorem yDW {p : PVal} : yC (some p) = .pv p := rfl
theorem yDX : yC none = .un := rfl
attribute [go_sem] yDW yDX
theorem zMP {d : Option Nat} {f r : Nat} {args : List (Opd × AM)} {v v' : OV} {y : Option PVal} (hv : F.getD r .un = .ov (.one v)) (hd : d ≠ some r) (h1 : (zBr F args).1) (h2 : zE7 P f v (zBr F args).2 v' y)
    (h3 : K (zVS (F.set r (.ov (.one v'))) d (yC y))) : hoW P ⟨none, .callm d f r args⟩ F K X := by
  show opW P (.callm d f r args) F K X
  simp only [opW, hv]
  refine ⟨hd, h1, v', y, h2, ?_⟩
  cases y <;> exact h3
theorem yHc {s j base : Nat} {pt : List (Opd × Nat)} {r : List Gh} : ghW F K (.pin s j base pt :: r) = (match F.getD s .un with
    | .ov (.one root) => match root.get (zCK F pt).2 with
      | some (.os none e k rows) => (zCK F pt).1 ∧ ∀ b, ghW (F.set s (.ov (.one (root.upd (zCK F pt).2 (.os (some b) e k rows))))) K r
      | _ => False
    | _ => False) := rfl
theorem yHd {s j base : Nat} {pt : List (Opd × Nat)} {r : List Gh} : ghW F K (.unp s j base pt :: r) = (match F.getD s .un with
    | .ov (.one root) => match root.get (zCK F pt).2 with
      | some (.os _ e k rows) => (zCK F pt).1 ∧ ghW (F.set s (.ov (.one (root.upd (zCK F pt).2 (.os none e k rows))))) K r
      | _ => False
    | _ => False) := rfl
theorem yHe {s j base : Nat} {r : List Gh} : ghW F K (.vfr s j base :: r) = (match F.getD s .un with
    | .ov (.one root) => match root.frz with
      | some x => ghW (F.set s (.pv (.one x))) K r
      | none => False
    | .ov (.agg cs) => match zVX cs with
      | some xs => ghW (F.set s (.pv (.agg xs))) K r
      | none => False
    | _ => False) := rfl
theorem yHf {s j base : Nat} {pt : List (Opd × Nat)} {r : List Gh} : ghW F K (.vfp s j base pt :: r) = (match F.getD s .un with
    | .ov (.one root) => match root.get (zCK F pt).2 with
      | some y => match y.frz with
        | some x => (zCK F pt).1 ∧ ghW (F.set s (.ov (.one (root.upd (zCK F pt).2 (.p x))))) K r
        | none => False
      | none => False
    | _ => False) := rfl
theorem yHg : zCK F [] = (True, []) := rfl
theorem yDY {x : OV} : x.get [] = some x := by cases x <;> rfl
theorem yDZ {x y : OV} : x.upd [] y = y := by cases x <;> rfl
theorem yFT {b : Option Nat} {e k : Nat} {rows : List (List OV)} {rs : List (List PV)} (h : zEf rows = some rs) : (OV.os b e k rows).frz = some (.sl k rs) := by simp only [OV.frz, h]
theorem yCS : ∀ (r : List PV), zVX (r.map OV.p) = some r
  | [] => rfl
  | x :: r => by simp only [List.map_cons, zVX, OV.frz, yCS r]
theorem zUa : ∀ (rows : List (List PV)), zEf (rows.map fun r => r.map OV.p) = some rows
  | [] => rfl
  | r :: rows => by simp only [List.map_cons, zEf, yCS, zUa rows]
theorem yHh {x : Opd} : hoW P ⟨none, .pan x⟩ F K X = (match (zAp F x).pv? with
    | some (.one (.v (.iface t u))) => (zAp F x).need ∧ X (.iface t u) F
    | _ => False) := rfl
section
variable {E : Env} {base : Nat} {av : List AV} {t : Nat} {x : PVal}
theorem zAl {p : PVal} (e : (zAp F (.t t)).pv? = some p) (n : (zAp F (.t t)).need) (h : x = p ∨ x = p.norm) (hio : ioOf av = none := by rfl) : zCj E base av [.tmp t] { res := .val x } .ret F := by
  refine ⟨?_, fun cs h => by rw [hio] at h; cases h⟩
  simp only [zCQ, rsV, e]
  exact ⟨n, h⟩
theorem zMQ {p : PVal} {cells io : List PV} (e : (zAp F (.t t)).pv? = some p) (n : (zAp F (.t t)).need) (h : x = p ∨ x = p.norm) (hio : ioOf av = some cells) (hc : zAE F base cells.length = some io) : zCj E base av [.tmp t] { res := .val x, io := io } .ret F := by
  refine ⟨?_, fun cs h => by rw [hio] at h; injection h with h; subst h; exact hc⟩
  simp only [zCQ, rsV, e]
  exact ⟨n, h⟩
theorem zRv {cells io : List PV} (hio : ioOf av = some cells) (hc : zAE F base cells.length = some io) : zCj E base av [] { res := .tup [], io := io } .ret F :=
  ⟨rfl, fun cs h => by rw [hio] at h; injection h with h; subst h; exact hc⟩
theorem zCM {rs : List RSrc} {xs : List PVal} (hn : ∀ r, rs ≠ [r]) (h : zVT F rs xs) (hio : ioOf av = none := by rfl) : zCj E base av rs { res := .tup xs } .ret F := by
  refine ⟨?_, fun cs h => by rw [hio] at h; cases h⟩
  simp only [zCQ]
  first
    | exact h
    | (split
       · rename_i r; exact (hn r rfl).elim
       · exact h)
theorem zDH {rs : List RSrc} {xs : List PVal} {cells io : List PV} (hn : ∀ r, rs ≠ [r]) (h : zVT F rs xs) (hio : ioOf av = some cells) (hc : zAE F base cells.length = some io) : zCj E base av rs { res := .tup xs, io := io } .ret F := by
  refine ⟨?_, fun cs h => by rw [hio] at h; injection h with h; subst h; exact hc⟩
  simp only [zCQ]
  first
    | exact h
    | (split
       · rename_i r; exact (hn r rfl).elim
       · exact h)
theorem zYH {j bs off n : Nat} {agg : Bool} {cs : List PV} (e : F.getD t .un = .ptr j off) (h : zAE F (bs + off) n = some cs) (hx : x = (if agg then PVal.agg cs else .one (cs.headD (.nl 0))) ∨ x = (if agg then PVal.agg cs else .one (cs.headD (.nl 0))).norm) (hio : ioOf av = none := by rfl) : zCj E base av [.cellB t j bs off n agg] { res := .val x } .ret F := by
  refine ⟨?_, fun cs h => by rw [hio] at h; cases h⟩
  simp only [zCQ, rsV, e, h]
  exact ⟨trivial, trivial, hx⟩
theorem zGe {j bs off n : Nat} {agg : Bool} {cs : List PV} (e : F.getD t .un = .ptr j off) (h : zAE F (bs + off) n = some cs) (hx : x = if agg then .agg cs else .one (cs.headD (.nl 0))) (hio : ioOf av = none := by rfl) : zCj E base av [.cellB t j bs off n agg] { res := .val x } .ret F := zYH e h (.inl hx) hio
theorem zA1 {p : PVal} (e : (zAp F (.t t)).pv? = some p) (n : (zAp F (.t t)).need) (h : x = p ∨ x = p.norm) : rsV F (.tmp t) x := by
  simp only [rsV, e]; exact ⟨n, h⟩
theorem zBg {j bs off n : Nat} {agg : Bool} {cs : List PV} (e : F.getD t .un = .ptr j off) (h : zAE F (bs + off) n = some cs) (hx : x = (if agg then PVal.agg cs else .one (cs.headD (.nl 0))) ∨ x = (if agg then PVal.agg cs else .one (cs.headD (.nl 0))).norm) : rsV F (.cellB t j bs off n agg) x := by
  simp only [rsV, e, h]; exact ⟨trivial, trivial, hx⟩
end
end
attribute [go_sem ↓] yG4 yG5 yG2 yG3 yDx yDy yGB yGC yGD yGE yFI yFJ yFu yGo yGp yFv yFw yGq yGr yFx yFy yDv yHQ yGs yFz yFA yHR yHS yGt yGu yGv yGw yGx yGz yDw yFD yGA yDz yDA yDB yDC yFE yFF yFG yFH yGX yGY yGZ yG0 yG1 yHb yHa yG6 yG7 yHc yHd yHe yHf yGF yDM zWe yGM yGN yGO yGP yGQ yGR yDU yGS yGT yGU yGV yGW yHh yGG yGH yDS yGI yBP yGJ
attribute [go_sem] yEC implies_true and_self zZ8 Bool.not_eq_true' Bool.not_eq_false' Bool.not_not decide_eq_true_eq decide_eq_false_iff_not Nat.not_lt Int.not_lt Int.not_le gt_iff_lt ge_iff_le yDT yHg yDY yDZ OVal.cells zDY zT0 zCX yBp zAO yCx zEe zOK clr yBK yBL yBM yBN ev zAp Ct.pv? Ct.need zOO zQ4 true_and and_true zDG yBe yBz yGy yFB List.cons_append List.nil_append yGK yFR yGL yFS yBO zZ9 zB4 zDk zA6 zIc PVal.cells PVal.norm PV.norm zAE zJn zBr zDO zZ2 zVS zAK zDr zA0 zF8 zDN zCw if_true if_false Bool.false_eq_true imp_self forall_const List.map_cons List.map_nil List.length_cons List.length_nil Nat.zero_add ite_true ite_false List.take_succ_cons List.take_zero List.drop_zero List.drop_succ_cons List.headD_cons Nat.le_refl beq_true beq_false cond_true cond_false Bool.and_true Bool.true_and Bool.and_false Bool.false_and Int.toNat_natCast ne_eq not_false_eq_true not_true_eq_false List.getElem?_cons_zero List.getElem?_cons_succ zHd List.replicate bad
end Go.Hx
end

section
/-
 Documents as plain Lean data, and what the walks say of them. No condition.
-/
namespace Go.Hx
variable [Glob]
theorem Contract.av {P : Go.Program} {f : Nat} {av av' : List AV} {r : RV} (h : Contract P f av r) (e : av' = av) : Contract P f av' r := e ▸ h
abbrev Bys := List UInt8
structure Nd where
 up : Int
 tag : Bys
 id : Bys
 cls : List Bys
 att : List (Bys × Bys)
 deriving DecidableEq, Inhabited
abbrev bI (n : Int) : PV := .v (.int .i64 n)
abbrev bS (l : Bys) : PV := .v (mkS l)
abbrev bB (b : Bool) : PV := .v (.bool b)
def zWf (l : List Bys) : List (List PV) := l.map fun c => [bS c]
def yHi (l : List (Bys × Bys)) : List (List PV) := l.map fun a => [bS a.1, bS a.2]
def ndV (x : Nd) : List PV := [bI x.up, bS x.tag, bS x.id, .sl 1 (zWf x.cls), .sl 2 (yHi x.att)]
def yHz (d : List Nd) : List (List PV) := d.map ndV
def zEZ (l : List Int) : List (List PV) := l.map fun n => [bI n]
theorem zAx (d : List Bys) : (zWf d).length = d.length := by simp [zWf]
theorem zAy (d : List (Bys × Bys)) : (yHi d).length = d.length := by simp [yHi]
theorem zAz (d : List Nd) : (yHz d).length = d.length := by simp [yHz]
theorem zAq (d : List Int) : (zEZ d).length = d.length := by simp [zEZ]
theorem zRw (d : List Bys) (i : Nat) (h : i < d.length) : (zWf d).getD i [] = [bS (d.getD i [])] := by simp [zWf, h]
theorem zGf (d : List Int) (i : Nat) (h : i < d.length) : (zEZ d).getD i [] = [bI (d.getD i 0)] := by simp [zEZ, h]
theorem zGg {n : Int} (h1 : -9223372036854775808 ≤ n) (h2 : n ≤ 9223372036854775807) : inR .i64 n := ⟨h1, h2⟩
theorem zAd {p q : Prop} (hq : q) (hp : p := by (first | omega | exact zGg (by omega) (by omega) | exact fun _ => zGg (by omega) (by omega) | assumption | trivial | (intros; omega) | (intro s h; injection h with h; subst h; decide) | (simp_all; done) | (intros; simp [*]; done) | (simp_all; omega) | grind)) : p ∧ q := ⟨hp, hq⟩
theorem zHq {α : Type} {p : α → Bool} {l : List α} {i : Nat} {d : α} (h : i < l.length) : (l.take (i + 1)).all p = ((l.take i).all p && p (l.getD i d)) := by
 rw [List.take_add_one, List.all_append]
 simp [h]
theorem zAf {n m : Bool} (h : n = m) : leC (.pv (bv n)) (.pv (bv m)) := zAr (by rw [h])
theorem zUb {α : Type} {a b : List α} {i : Nat} (d : α) (h : a.take i = b.take i) (ha : i < a.length) (hb : i < b.length) (e : a.getD i d = b.getD i d) : a.take (i + 1) = b.take (i + 1) := by
 rw [List.take_succ_eq_append_getElem ha, List.take_succ_eq_append_getElem hb, h]
 simp [ha, hb] at e
 rw [e]
theorem zYI {α : Type} {a b : List α} {i : Nat} (d : α) (e : a.getD i d ≠ b.getD i d) : a ≠ b := fun h => e (by rw [h])
theorem zYJ {α : Type} {a b : List α} (hl : a.length = b.length) (h : a.take a.length = b.take a.length) : a = b := by
 rw [List.take_length, hl, List.take_length] at h; exact h
theorem yD0 {k : Nat} {rows : List (List PV)} (h : PV.fits (.sl k rows)) : rows.length ≤ 9223372036854775807 := by
 simp only [PV.fits, maxLen] at h; omega
def nameCh (c : UInt8) : Bool := decide (97 ≤ c.toNat ∧ c.toNat ≤ 122) || decide (48 ≤ c.toNat ∧ c.toNat ≤ 57) || decide (c.toNat = 45)
def zWg (c : UInt8) : Bool := decide (32 ≤ c.toNat ∧ c.toNat ≤ 126) && !decide (c.toNat = 34)
def zBN (s : Bys) : Bool := decide (1 ≤ s.length ∧ s.length ≤ 12) && decide (97 ≤ (s.getD 0 0).toNat ∧ (s.getD 0 0).toNat ≤ 122) && s.all nameCh
def zCN (s : Bys) : Bool := decide (s.length ≤ 16) && s.all zWg
end Go.Hx
end

section
/-
 Lists of paths as plain Lean data, what is right of them, and which error is told. No condition.
-/
namespace Go.Hx
mutual
inductive Ts where
 | mk (kind : Int) (name value : Bys) (na nb : Int) (list : List Pt)
inductive St where
 | mk (tag : Bys) (tests : List Ts)
inductive Pt where
 | mk (steps : List St) (links : List Int)
end
instance : Inhabited Ts := ⟨.mk 0 [] [] 0 0 []⟩
instance : Inhabited St := ⟨.mk [] []⟩
instance : Inhabited Pt := ⟨.mk [] []⟩
def Ts.kind : Ts → Int | .mk k _ _ _ _ _ => k
def Ts.name : Ts → Bys | .mk _ n _ _ _ _ => n
def Ts.value : Ts → Bys | .mk _ _ v _ _ _ => v
def Ts.na : Ts → Int | .mk _ _ _ a _ _ => a
def Ts.nb : Ts → Int | .mk _ _ _ _ b _ => b
def Ts.list : Ts → List Pt | .mk _ _ _ _ _ l => l
def St.tag : St → Bys | .mk t _ => t
def St.tests : St → List Ts | .mk _ l => l
def Pt.steps : Pt → List St | .mk s _ => s
def Pt.links : Pt → List Int | .mk _ l => l
mutual
def tsV : Ts → List PV
 | .mk k n v a b l => [bI k, bS n, bS v, bI a, bI b, .sl 2 (zF2 l)]
def zSX : List Ts → List (List PV)
 | [] => []
 | t :: r => tsV t :: zSX r
def stV : St → List PV
 | .mk t l => [bS t, .sl 6 (zSX l)]
def zK9 : List St → List (List PV)
 | [] => []
 | s :: r => stV s :: zK9 r
def ptV : Pt → List PV
 | .mk s l => [.sl 2 (zK9 s), .sl 1 (zEZ l)]
def zF2 : List Pt → List (List PV)
 | [] => []
 | p :: r => ptV p :: zF2 r
end
def zBu (l : List Pt) : PVal := .one (.sl 2 (zF2 l))
theorem zHM : ∀ l : List Ts, zSX l = l.map tsV
 | [] => rfl
 | t :: r => by simp only [zSX, List.map_cons, zHM r]
theorem zGE : ∀ l : List St, zK9 l = l.map stV
 | [] => rfl
 | t :: r => by simp only [zK9, List.map_cons, zGE r]
theorem zHN : ∀ l : List Pt, zF2 l = l.map ptV
 | [] => rfl
 | t :: r => by simp only [zF2, List.map_cons, zHN r]
theorem zAW (l : List Ts) : (zSX l).length = l.length := by simp [zHM]
theorem zBs (l : List St) : (zK9 l).length = l.length := by simp [zGE]
theorem zBR (l : List Pt) : (zF2 l).length = l.length := by simp [zHN]
theorem zCg (t : Ts) : tsV t = [bI t.kind, bS t.name, bS t.value, bI t.na, bI t.nb, .sl 2 (zF2 t.list)] := by cases t; rfl
theorem zBK (t : St) : stV t = [bS t.tag, .sl 6 (zSX t.tests)] := by cases t; rfl
theorem zA3 (t : Pt) : ptV t = [.sl 2 (zK9 t.steps), .sl 1 (zEZ t.links)] := by cases t; rfl
theorem zCr (d : List Ts) (i : Nat) (h : i < d.length) : (zSX d).getD i [] = tsV (d.getD i default) := by simp [zHM, h]
theorem zDc (d : List St) (i : Nat) (h : i < d.length) : (zK9 d).getD i [] = stV (d.getD i default) := by simp [zGE, h]
theorem zBC (d : List Pt) (i : Nat) (h : i < d.length) : (zF2 d).getD i [] = ptV (d.getD i default) := by simp [zHN, h]
theorem zSY {α : Type} [Inhabited α] {l : List α} {i : Nat} (h : i < l.length) : l.getD i default ∈ l := by
 rw [List.getD_eq_getElem?_getD, List.getElem?_eq_getElem h]
 exact List.getElem_mem h
theorem zI6 (t : Ts) : SizeOf.sizeOf t.list < SizeOf.sizeOf t := by cases t; simp only [Ts.list, Ts.mk.sizeOf_spec]; omega
theorem zGF (t : St) : SizeOf.sizeOf t.tests < SizeOf.sizeOf t := by cases t; simp only [St.tests, St.mk.sizeOf_spec]; omega
theorem zGG (t : Pt) : SizeOf.sizeOf t.steps < SizeOf.sizeOf t := by cases t; simp only [Pt.steps, Pt.mk.sizeOf_spec]; omega
theorem zZb {l : List Ts} {i : Nat} (h : i < l.length) : SizeOf.sizeOf (l.getD i default) < SizeOf.sizeOf l := List.sizeOf_lt_of_mem (zSY h)
theorem zZc {l : List St} {i : Nat} (h : i < l.length) : SizeOf.sizeOf (l.getD i default) < SizeOf.sizeOf l := List.sizeOf_lt_of_mem (zSY h)
theorem zZd {l : List Pt} {i : Nat} (h : i < l.length) : SizeOf.sizeOf (l.getD i default) < SizeOf.sizeOf l := List.sizeOf_lt_of_mem (zSY h)
def zU8 (k : Int) : Bool := decide (1 ≤ k ∧ k ≤ 8)
def zJw (k : Int) : Bool := decide (4 ≤ k ∧ k ≤ 8)
def yCU (k : Int) : Bool := decide (k = 9) || decide (k = 10)
def zEb (k : Int) : Bool := decide (13 ≤ k ∧ k ≤ 15)
def zLa (a : Int) : Bool := decide (-1048576 ≤ a ∧ a ≤ 1048576)
def zI7 (a b : Int) : Int := if zLa a && zLa b then 0 else 3
mutual
def yAu : List Pt → Nat → Bool
 | [], _ => false
 | p :: r, d => tmP p d || yAu r d
def tmP : Pt → Nat → Bool
 | .mk s l, d => !(decide (1 ≤ s.length ∧ s.length ≤ 5)) || decide ((l.length : Int) ≠ s.length - 1) || yAv s d
def yAv : List St → Nat → Bool
 | [], _ => false
 | s :: r, d => tmS s d || yAv r d
def tmS : St → Nat → Bool
 | .mk _ l, d => decide (6 < l.length) || yAw l d
def yAw : List Ts → Nat → Bool
 | [], _ => false
 | t :: r, d => tmT t d || yAw r d
def tmT : Ts → Nat → Bool
 | .mk k _ _ _ _ l, d => zEb k && (decide (3 < d + 1) || !(decide (1 ≤ l.length ∧ l.length ≤ 5)) || yAu l (d + 1))
end
def tmL (l : List Pt) (d : Nat) : Bool := decide (3 < d) || !(decide (1 ≤ l.length ∧ l.length ≤ 5)) || yAu l d
def zLb (n : Int) : Bool := !(decide (1 ≤ n ∧ n ≤ 4))
mutual
def zZe : List Pt → Bool
 | [] => false
 | p :: r => bkP p || zZe r
def bkP : Pt → Bool
 | .mk s l => l.any zLb || yAx s
def yAx : List St → Bool
 | [] => false
 | s :: r => bkS s || yAx r
def bkS : St → Bool
 | .mk _ l => yBf l
def yBf : List Ts → Bool
 | [] => false
 | t :: r => bkT t || yBf r
def bkT : Ts → Bool
 | .mk k _ _ _ _ l => !(decide (1 ≤ k ∧ k ≤ 15)) || (zEb k && zZe l)
end
def yB3 (t : Ts) : Bool := (zU8 t.kind && !zBN t.name) || (!zU8 t.kind && !(t.name == []))
def yB4 (t : Ts) : Bool := (zJw t.kind && !zCN t.value) || (!zJw t.kind && !(t.value == []))
def yBg (t : Ts) : Bool := (!yCU t.kind && !(t.na == 0 && t.nb == 0)) || (!zEb t.kind && decide (0 < t.list.length))
mutual
def zZf : List Pt → Bool
 | [] => false
 | p :: r => bfP p || zZf r
def bfP : Pt → Bool
 | .mk s _ => yBh s
def yBh : List St → Bool
 | [] => false
 | s :: r => bfS s || yBh r
def bfS : St → Bool
 | .mk t l => (!(t == []) && !zBN t) || yBi l
def yBi : List Ts → Bool
 | [] => false
 | t :: r => bfT t || yBi r
def bfT : Ts → Bool
 | .mk k n v a b l => yB3 (.mk k n v a b l) || yB4 (.mk k n v a b l) || yBg (.mk k n v a b l) || (zEb k && zZf l)
end
mutual
def zX2 : List Pt → Bool
 | [] => false
 | p :: r => bnP p || zX2 r
def bnP : Pt → Bool
 | .mk s _ => yBj s
def yBj : List St → Bool
 | [] => false
 | s :: r => bnS s || yBj r
def bnS : St → Bool
 | .mk _ l => yBk l
def yBk : List Ts → Bool
 | [] => false
 | t :: r => bnT t || yBk r
def bnT : Ts → Bool
 | .mk _ _ _ a b l => !(decide (zI7 a b = 0)) || zX2 l
end
def zBt (l : List Pt) : Int := if tmL l 1 then 2 else if zZe l then 4 else if zZf l then 1 else if zX2 l then 3 else 0
structure Fd where
 f : Nat
 m : Nat
 r : Nat
 k : Nat
 deriving DecidableEq, Inhabited
def Fd.add (a b : Fd) : Fd := ⟨a.f + b.f, a.m + b.m, a.r + b.r, a.k + b.k⟩
def fd0 : Fd := ⟨0, 0, 0, 0⟩
def fdV (c : Fd) : List PV := [bI 0, bI c.f, bI c.m, bI c.r, bI c.k]
def nB (b : Bool) : Nat := if b then 1 else 0
def fF (b : Bool) : Fd := ⟨nB b, 0, 0, 0⟩
def fM (b : Bool) : Fd := ⟨0, nB b, 0, 0⟩
def fR (b : Bool) : Fd := ⟨0, 0, nB b, 0⟩
def fK (b : Bool) : Fd := ⟨0, 0, 0, nB b⟩
theorem Fd.add_assoc (a b c : Fd) : (a.add b).add c = a.add (b.add c) := by simp [Fd.add, Nat.add_assoc]
theorem Fd.add_zero (a : Fd) : a.add fd0 = a := rfl
theorem Fd.zero_add (a : Fd) : fd0.add a = a := by simp [Fd.add, fd0]
def zGk (l : List Pt) (d : Nat) : Bool := decide (3 < d) || decide (l.length < 1) || decide (5 < l.length)
def zXa (p : Pt) : Bool := decide (p.steps.length < 1) || decide (5 < p.steps.length) || decide ((p.links.length : Int) ≠ p.steps.length - 1)
def zX3 (l : List Int) : Fd := ⟨0, 0, 0, l.countP zLb⟩
def yBl (t : Ts) : Fd := (((((fK (!decide (1 ≤ t.kind ∧ t.kind ≤ 15))).add (fF (yB3 t))).add (fF (yB4 t))).add (fF (yBg t))).add (fR (!decide (zI7 t.na t.nb = 0))))
mutual
def zVU : List Pt → Nat → Fd
 | [], _ => fd0
 | p :: r, d => if zXa p then fM true else ((zX3 p.links).add (ntP p d)).add (zVU r d)
def ntP : Pt → Nat → Fd
 | .mk s _, d => zX4 s d
def zX4 : List St → Nat → Fd
 | [], _ => fd0
 | s :: r, d => (ntS s d).add (zX4 r d)
def ntS : St → Nat → Fd
 | .mk t l, d => if 6 < l.length then fM true else (fF (!(t == []) && !zBN t)).add (zX5 l d)
def zX5 : List Ts → Nat → Fd
 | [], _ => fd0
 | t :: r, d => (ntT t d).add (zX5 r d)
def ntT : Ts → Nat → Fd
 | .mk k n v a b l, d => (yBl (.mk k n v a b l)).add (if zEb k then (if zGk l (d + 1) then fM true else zVU l (d + 1)) else fd0)
end
def ntL (l : List Pt) (d : Nat) : Fd := if zGk l d then fM true else zVU l d
theorem yFZ (t : Ts) (d : Nat) : ntT t d = (yBl t).add (if zEb t.kind then ntL t.list (d + 1) else fd0) := by cases t; rfl
theorem yCV (s : St) (d : Nat) : ntS s d = if 6 < s.tests.length then fM true else (fF (!(s.tag == []) && !zBN s.tag)).add (zX5 s.tests d) := by cases s; rfl
theorem yF0 (p : Pt) (d : Nat) : ntP p d = zX4 p.steps d := by cases p; rfl
theorem yAy (b : Bool) : 0 < nB b ↔ b = true := by cases b <;> simp [nB]
theorem zU9 (l : List Pt) (d : Nat) : zGk l d = (decide (3 < d) || !(decide (1 ≤ l.length ∧ l.length ≤ 5))) := by
 unfold zGk
 by_cases h1 : 3 < d <;> by_cases h2 : l.length < 1 <;> by_cases h3 : 5 < l.length <;> simp [h1, h2, h3] <;> omega
mutual
theorem yHj : ∀ (l : List Pt) (d : Nat), 0 < (zVU l d).m ↔ yAu l d = true
 | [], d => by simp [zVU, yAu, fd0]
 | p :: r, d => by
  have h1 := m_P p d
  have h2 := yHj r d
  simp only [zVU, yAu]
  have hp : zXa p = true → tmP p d = true := by
   intro hb
   cases p with
   | mk s l =>
    have hb : (decide (s.length < 1) || decide (5 < s.length) || decide ((l.length : Int) ≠ s.length - 1)) = true := hb
    simp only [Bool.or_eq_true, decide_eq_true_eq] at hb
    simp only [tmP, Bool.or_eq_true, decide_eq_true_eq, Bool.not_eq_true', decide_eq_false_iff_not]
    omega
  split
  ·rename_i hb
   simp [fM, nB, hp hb]
  ·rename_i hb
   have h3 := h1 (by simpa using hb)
   simp only [Fd.add, zX3, Bool.or_eq_true, ← h3, ← h2]
   omega
theorem m_P : ∀ (p : Pt) (d : Nat), zXa p = false → (0 < (ntP p d).m ↔ tmP p d = true)
 | .mk s l, d, hb => by
  have h := yHA s d
  have hb : (decide (s.length < 1) || decide (5 < s.length) || decide ((l.length : Int) ≠ s.length - 1)) = false := hb
  simp only [Bool.or_eq_false_iff, decide_eq_false_iff_not] at hb
  have e1 : decide (1 ≤ s.length ∧ s.length ≤ 5) = true := by simp; omega
  have e2 : decide ((l.length : Int) ≠ s.length - 1) = false := by simp; omega
  simp only [ntP, tmP, e1, e2, h, Bool.not_true, Bool.false_or]
theorem yHA : ∀ (l : List St) (d : Nat), 0 < (zX4 l d).m ↔ yAv l d = true
 | [], d => by simp [zX4, yAv, fd0]
 | p :: r, d => by
  have h1 := m_S p d
  have h2 := yHA r d
  simp only [zX4, yAv, Fd.add, Bool.or_eq_true, ← h1, ← h2]
  omega
theorem m_S : ∀ (p : St) (d : Nat), 0 < (ntS p d).m ↔ tmS p d = true
 | .mk t l, d => by
  have h := yHB l d
  simp only [ntS, tmS]
  split
  ·rename_i hb; simp [fM, nB, hb]
  ·rename_i hb
   simp only [Fd.add, fF, Bool.or_eq_true, decide_eq_true_eq, ← h]
   omega
theorem yHB : ∀ (l : List Ts) (d : Nat), 0 < (zX5 l d).m ↔ yAw l d = true
 | [], d => by simp [zX5, yAw, fd0]
 | p :: r, d => by
  have h1 := m_T p d
  have h2 := yHB r d
  simp only [zX5, yAw, Fd.add, Bool.or_eq_true, ← h1, ← h2]
  omega
theorem m_T : ∀ (p : Ts) (d : Nat), 0 < (ntT p d).m ↔ tmT p d = true
 | .mk k n v a b l, d => by
  have h := yHj l (d + 1)
  simp only [ntT, tmT, Fd.add, yBl, fF, fK, fR, Nat.zero_add]
  by_cases hk : zEb k = true
  ·simp only [hk, if_true, Bool.true_and]
   rw [zU9]
   by_cases hb : (decide (3 < d + 1) || !(decide (1 ≤ l.length ∧ l.length ≤ 5))) = true
   ·rw [if_pos hb, hb]; simp [fM, nB]
   ·rw [if_neg hb]
    have hb2 : (decide (3 < d + 1) || !(decide (1 ≤ l.length ∧ l.length ≤ 5))) = false := eq_false_of_ne_true hb
    rw [hb2, Bool.false_or, h]
  ·have hk2 : zEb k = false := by simpa using hk
   simp [hk2, fd0]
end
theorem m_L (l : List Pt) (d : Nat) : 0 < (ntL l d).m ↔ tmL l d = true := by
 unfold ntL tmL
 rw [zU9]
 by_cases hb : (decide (3 < d) || !(decide (1 ≤ l.length ∧ l.length ≤ 5))) = true
 ·rw [if_pos hb, hb]; simp [fM, nB]
 ·rw [if_neg hb]
  have hb2 : (decide (3 < d) || !(decide (1 ≤ l.length ∧ l.length ≤ 5))) = false := eq_false_of_ne_true hb
  rw [hb2, Bool.false_or, yHj]
def Oth (c : Fd) (k f r : Bool) : Prop := c.m = 0 → ((0 < c.k ↔ k = true) ∧ (0 < c.f ↔ f = true) ∧ (c.f = 0 → (0 < c.r ↔ r = true)))
theorem Oth.add {a b : Fd} {k f r k' f' r' : Bool} (h : Oth a k f r) (g : Oth b k' f' r') : Oth (a.add b) (k || k') (f || f') (r || r') := by
 intro hm
 simp only [Fd.add] at hm ⊢
 obtain ⟨h1, h2, h3⟩ := h (by omega)
 obtain ⟨g1, g2, g3⟩ := g (by omega)
 refine ⟨?_, ?_, fun hf => ?_⟩
 ·rw [Bool.or_eq_true, ← h1, ← g1]; omega
 ·rw [Bool.or_eq_true, ← h2, ← g2]; omega
 ·have h4 := h3 (by omega)
  have g4 := g3 (by omega)
  rw [Bool.or_eq_true, ← h4, ← g4]; omega
theorem Oth.zero : Oth fd0 false false false := fun _ => ⟨by simp [fd0], by simp [fd0], fun _ => by simp [fd0]⟩
theorem Oth.many {k f r : Bool} : Oth (fM true) k f r := fun h => by simp [fM, nB] at h
theorem Oth.k (b : Bool) : Oth (fK b) b false false := fun _ => ⟨by simp [fK, yAy], by simp [fK], fun _ => by simp [fK]⟩
theorem Oth.f (b : Bool) : Oth (fF b) false b false := fun _ => ⟨by simp [fF], by simp [fF, yAy], fun _ => by simp [fF]⟩
theorem Oth.r (b : Bool) : Oth (fR b) false false b := fun _ => ⟨by simp [fR], by simp [fR], fun _ => by simp [fR, yAy]⟩
theorem Oth.cast {c : Fd} {k f r k' f' r' : Bool} (h : Oth c k f r) (h1 : k = k') (h2 : f = f') (h3 : r = r') : Oth c k' f' r' := by subst h1 h2 h3; exact h
theorem Oth.lk (l : List Int) : Oth (zX3 l) (l.any zLb) false false := by
 intro _
 refine ⟨?_, by simp [zX3], fun _ => by simp [zX3]⟩
 simp [zX3, List.any_eq_true, List.countP_pos_iff]
mutual
theorem yHk : ∀ (l : List Pt) (d : Nat), Oth (zVU l d) (zZe l) (zZf l) (zX2 l)
 | [], d => Oth.zero
 | p :: r, d => by
  simp only [zVU, zZe, zZf, zX2]
  split
  ·exact Oth.many
  ·refine ((o_P p d).add (yHk r d))
theorem o_P : ∀ (p : Pt) (d : Nat), Oth ((zX3 p.links).add (ntP p d)) (bkP p) (bfP p) (bnP p)
 | .mk s l, d => by
  simp only [ntP, Pt.links, bkP, bfP, bnP]
  exact ((Oth.lk l).add (yHC s d)).cast rfl (by simp) (by simp)
theorem yHC : ∀ (l : List St) (d : Nat), Oth (zX4 l d) (yAx l) (yBh l) (yBj l)
 | [], d => Oth.zero
 | p :: r, d => by
  simp only [zX4, yAx, yBh, yBj]
  exact (o_S p d).add (yHC r d)
theorem o_S : ∀ (p : St) (d : Nat), Oth (ntS p d) (bkS p) (bfS p) (bnS p)
 | .mk t l, d => by
  simp only [ntS, bkS, bfS, bnS]
  split
  ·exact Oth.many
  ·exact ((Oth.f _).add (yHD l d)).cast (by simp) rfl (by simp)
theorem yHD : ∀ (l : List Ts) (d : Nat), Oth (zX5 l d) (yBf l) (yBi l) (yBk l)
 | [], d => Oth.zero
 | p :: r, d => by
  simp only [zX5, yBf, yBi, yBk]
  exact (o_T p d).add (yHD r d)
theorem o_T : ∀ (p : Ts) (d : Nat), Oth (ntT p d) (bkT p) (bfT p) (bnT p)
 | .mk k n v a b l, d => by
  have h := yHk l (d + 1)
  have h1 : Oth (yBl (.mk k n v a b l)) (!decide (1 ≤ k ∧ k ≤ 15)) (yB3 (.mk k n v a b l) || yB4 (.mk k n v a b l) || yBg (.mk k n v a b l)) (!decide (zI7 a b = 0)) :=
   (((((Oth.k (!decide (1 ≤ k ∧ k ≤ 15))).add (Oth.f _)).add (Oth.f _)).add (Oth.f _)).add (Oth.r (!decide (zI7 a b = 0)))).cast (by simp only [Bool.or_false]) (by simp only [Bool.false_or, Bool.or_false]) (by simp only [Bool.false_or])
  simp only [ntT, bkT, bfT, bnT]
  by_cases hk : zEb k = true
  ·simp only [hk, if_true, Bool.true_and]
   split
   ·intro hm
    simp [Fd.add, fM, nB] at hm
   ·exact h1.add h
  ·have hk2 : zEb k = false := eq_false_of_ne_true hk
   simp only [hk2, Bool.false_and, Bool.or_false]
   intro hm
   obtain ⟨a1, a2, a3⟩ := h1 (by simpa [Fd.add, fd0] using hm)
   refine ⟨by simpa [Fd.add, fd0] using a1, by simpa [Fd.add, fd0] using a2, fun hf => ?_⟩
   have hf0 : (yBl (.mk k n v a b l)).f = 0 := by simpa [Fd.add, fd0] using hf
   have a4 := a3 hf0
   have hl : l = [] := by
    have h5 : ¬ (yB3 (.mk k n v a b l) || yB4 (.mk k n v a b l) || yBg (.mk k n v a b l)) = true := by
     rw [← a2]; omega
    simp only [yBg, Ts.kind, Ts.list, hk2, Bool.not_false, Bool.true_and, Bool.or_eq_true, decide_eq_true_eq, not_or] at h5
    have := h5.2.2
    cases l with
    | nil => rfl
    | cons x y => simp at this
   subst hl
   simpa [Fd.add, fd0, zX2] using a4
end
def yEe (c : Fd) : Int := if 0 < c.m then 2 else if 0 < c.k then 4 else if 0 < c.f then 1 else if 0 < c.r then 3 else 0
theorem yF1 (l : List Pt) : yEe (ntL l 1) = zBt l := by
 unfold yEe zBt
 have hm := m_L l 1
 by_cases h : tmL l 1 = true
 ·rw [if_pos (hm.2 h), if_pos h]
 ·have hm0 : ¬ 0 < (ntL l 1).m := fun hc => h (hm.1 hc)
  rw [if_neg hm0, if_neg h]
  have hb : zGk l 1 = false := by
   cases hb : zGk l 1 with
   | false => rfl
   | true => unfold ntL at hm0; rw [if_pos hb] at hm0; simp [fM, nB] at hm0
  have e : ntL l 1 = zVU l 1 := by unfold ntL; rw [if_neg (by rw [hb]; simp)]
  rw [e] at hm0 ⊢
  obtain ⟨h1, h2, h3⟩ := yHk l 1 (by omega)
  by_cases hk : zZe l = true
  ·rw [if_pos (h1.2 hk), if_pos hk]
  ·rw [if_neg (fun hc => hk (h1.1 hc)), if_neg hk]
   by_cases hf : zZf l = true
   ·rw [if_pos (h2.2 hf), if_pos hf]
   ·have hf0 : ¬ 0 < (zVU l 1).f := fun hc => hf (h2.1 hc)
    rw [if_neg hf0, if_neg hf]
    have h4 := h3 (by omega)
    by_cases hr : zX2 l = true
    ·rw [if_pos (h4.2 hr), if_pos hr]
    ·rw [if_neg (fun hc => hr (h4.1 hc)), if_neg hr]
def bdF : Nat → Nat
 | 0 => 1
 | f + 1 => 4 + 5 * (4 + 5 * (1 + 6 * (5 + bdF f)))
def bd (d : Nat) : Nat := bdF (4 - d)
def bdT (d : Nat) : Nat := 5 + bd (d + 1)
def bdS (d : Nat) : Nat := 1 + 6 * bdT d
def bdP (d : Nat) : Nat := 4 + 5 * bdS d
theorem zSZ : ∀ f, 1 ≤ bdF f
 | 0 => Nat.le_refl _
 | f + 1 => by simp only [bdF]; omega
theorem yEf {d : Nat} (h : d ≤ 3) : bd d = 4 + 5 * bdP d := by
 unfold bdP bdS bdT bd
 obtain ⟨f, hf⟩ : ∃ f, 4 - d = f + 1 := ⟨4 - d - 1, by omega⟩
 have e : 4 - (d + 1) = f := by omega
 rw [hf, e]
 rfl
theorem yF2 : bd 1 ≤ 100000000 := by decide
structure Fd.le (c : Fd) (n : Nat) : Prop where
 f : c.f ≤ n
 m : c.m ≤ n
 r : c.r ≤ n
 k : c.k ≤ n
theorem Fd.le.le_add {a b : Fd} {n m : Nat} (h : a.le n) (g : b.le m) : (a.add b).le (n + m) := by
 obtain ⟨h1, h2, h3, h4⟩ := h
 obtain ⟨g1, g2, g3, g4⟩ := g
 exact ⟨Nat.add_le_add h1 g1, Nat.add_le_add h2 g2, Nat.add_le_add h3 g3, Nat.add_le_add h4 g4⟩
theorem Fd.le.le_mono {a : Fd} {n m : Nat} (h : a.le n) (g : n ≤ m) : a.le m := ⟨Nat.le_trans h.f g, Nat.le_trans h.m g, Nat.le_trans h.r g, Nat.le_trans h.k g⟩
theorem yB5 (b : Bool) : nB b ≤ 1 := by cases b <;> simp [nB]
theorem yB6 (b : Bool) : (fM b).le 1 := ⟨Nat.zero_le _, yB5 b, Nat.zero_le _, Nat.zero_le _⟩
theorem zVa (b : Bool) : (fF b).le 1 := ⟨yB5 b, Nat.zero_le _, Nat.zero_le _, Nat.zero_le _⟩
theorem yEg (b : Bool) : (fK b).le 1 := ⟨Nat.zero_le _, Nat.zero_le _, Nat.zero_le _, yB5 b⟩
theorem yF3 (b : Bool) : (fR b).le 1 := ⟨Nat.zero_le _, Nat.zero_le _, yB5 b, Nat.zero_le _⟩
theorem zVb (n : Nat) : fd0.le n := ⟨Nat.zero_le _, Nat.zero_le _, Nat.zero_le _, Nat.zero_le _⟩
theorem yHl (t : Ts) : (yBl t).le 5 := ((((yEg _).le_add (zVa _)).le_add (zVa _)).le_add (zVa _)).le_add (yF3 _)
theorem yHm (l : List Int) : (zX3 l).le l.length := ⟨Nat.zero_le _, Nat.zero_le _, Nat.zero_le _, List.countP_le_length⟩
mutual
theorem yHn : ∀ (l : List Pt) (d : Nat), (zVU l d).le (1 + l.length * bdP d)
 | [], d => zVb _
 | p :: r, d => by
  have h2 := yHn r d
  simp only [zVU, List.length_cons]
  split
  ·exact (yB6 _).le_mono (Nat.le_add_right _ _)
  ·rename_i hb
   have h1 := b_P p d (eq_false_of_ne_true hb)
   exact (h1.le_add h2).le_mono (by rw [Nat.add_mul]; omega)
theorem b_P : ∀ (p : Pt) (d : Nat), zXa p = false → ((zX3 p.links).add (ntP p d)).le (bdP d)
 | .mk s l, d, hb => by
  have hb : (decide (s.length < 1) || decide (5 < s.length) || decide ((l.length : Int) ≠ s.length - 1)) = false := hb
  simp only [Bool.or_eq_false_iff, decide_eq_false_iff_not] at hb
  have h := yHE s d
  simp only [ntP, Pt.links]
  refine ((yHm l).le_add h).le_mono ?_
  have h5 : s.length * bdS d ≤ 5 * bdS d := Nat.mul_le_mul_right _ (by omega)
  unfold bdP
  omega
theorem yHE : ∀ (l : List St) (d : Nat), (zX4 l d).le (l.length * bdS d)
 | [], d => zVb _
 | p :: r, d => by
  simp only [zX4, List.length_cons]
  exact ((b_S p d).le_add (yHE r d)).le_mono (by rw [Nat.add_mul]; omega)
theorem b_S : ∀ (p : St) (d : Nat), (ntS p d).le (bdS d)
 | .mk t l, d => by
  simp only [ntS]
  split
  ·exact (yB6 _).le_mono (by unfold bdS; omega)
  ·refine ((zVa _).le_add (yHF l d)).le_mono ?_
   have h5 : l.length * bdT d ≤ 6 * bdT d := Nat.mul_le_mul_right _ (by omega)
   unfold bdS
   omega
theorem yHF : ∀ (l : List Ts) (d : Nat), (zX5 l d).le (l.length * bdT d)
 | [], d => zVb _
 | p :: r, d => by
  simp only [zX5, List.length_cons]
  exact ((b_T p d).le_add (yHF r d)).le_mono (by rw [Nat.add_mul]; omega)
theorem b_T : ∀ (p : Ts) (d : Nat), (ntT p d).le (bdT d)
 | .mk k n v a b l, d => by
  have h := yHn l (d + 1)
  simp only [ntT]
  refine (yHl _).le_add ?_
  split
  ·split
   ·exact (yB6 _).le_mono (zSZ _)
   ·rename_i hb
    simp only [zGk, Bool.or_eq_true, decide_eq_true_eq, not_or] at hb
    have h5 : l.length * bdP (d + 1) ≤ 5 * bdP (d + 1) := Nat.mul_le_mul_right _ (by omega)
    refine h.le_mono ?_
    rw [yEf (d := d + 1) (by omega)]
    omega
  ·exact zVb _
end
theorem b_L (l : List Pt) (d : Nat) : (ntL l d).le (bd d) := by
 unfold ntL
 split
 ·exact (yB6 _).le_mono (zSZ _)
 ·rename_i hb
  simp only [zGk, Bool.or_eq_true, decide_eq_true_eq, not_or] at hb
  have h5 : l.length * bdP d ≤ 5 * bdP d := Nat.mul_le_mul_right _ (by omega)
  refine (yHn l d).le_mono ?_
  rw [yEf (by omega)]
  omega
end Go.Hx
end

section
/-
 Right lists of paths, and their parts. Plain Lean. No condition.
-/
set_option maxRecDepth 100000
set_option linter.unusedSimpArgs false
namespace Go.Hx
def GTs (l : List Ts) (d : Nat) : Prop := yAw l d = false ∧ yBf l = false ∧ yBi l = false ∧ yBk l = false
def GT (t : Ts) (d : Nat) : Prop := tmT t d = false ∧ bkT t = false ∧ bfT t = false ∧ bnT t = false
def GS (x : St) (d : Nat) : Prop := tmS x d = false ∧ bkS x = false ∧ bfS x = false ∧ bnS x = false
def GSs (l : List St) (d : Nat) : Prop := yAv l d = false ∧ yAx l = false ∧ yBh l = false ∧ yBj l = false
def GP (x : Pt) (d : Nat) : Prop := tmP x d = false ∧ bkP x = false ∧ bfP x = false ∧ bnP x = false
def GPs (l : List Pt) (d : Nat) : Prop := yAu l d = false ∧ zZe l = false ∧ zZf l = false ∧ zX2 l = false
def GL (l : List Pt) (d : Nat) : Prop := d ≤ 3 ∧ 1 ≤ l.length ∧ l.length ≤ 5 ∧ GPs l d
theorem GTs.cons {t : Ts} {l : List Ts} {d : Nat} (h : GTs (t :: l) d) : GT t d ∧ GTs l d := by
 simp only [GTs, yAw, yBf, yBi, yBk, Bool.or_eq_false_iff] at h
 exact ⟨⟨h.1.1, h.2.1.1, h.2.2.1.1, h.2.2.2.1⟩, ⟨h.1.2, h.2.1.2, h.2.2.1.2, h.2.2.2.2⟩⟩
theorem GSs.cons {t : St} {l : List St} {d : Nat} (h : GSs (t :: l) d) : GS t d ∧ GSs l d := by
 simp only [GSs, yAv, yAx, yBh, yBj, Bool.or_eq_false_iff] at h
 exact ⟨⟨h.1.1, h.2.1.1, h.2.2.1.1, h.2.2.2.1⟩, ⟨h.1.2, h.2.1.2, h.2.2.1.2, h.2.2.2.2⟩⟩
theorem GPs.cons {t : Pt} {l : List Pt} {d : Nat} (h : GPs (t :: l) d) : GP t d ∧ GPs l d := by
 simp only [GPs, yAu, zZe, zZf, zX2, Bool.or_eq_false_iff] at h
 exact ⟨⟨h.1.1, h.2.1.1, h.2.2.1.1, h.2.2.2.1⟩, ⟨h.1.2, h.2.1.2, h.2.2.1.2, h.2.2.2.2⟩⟩
theorem GS.parts {tag : Bys} {l : List Ts} {d : Nat} (h : GS (.mk tag l) d) : l.length ≤ 6 ∧ (tag = [] ∨ zBN tag = true) ∧ GTs l d := by
 simp only [GS, tmS, bkS, bfS, bnS, Bool.or_eq_false_iff, decide_eq_false_iff_not] at h
 refine ⟨by omega, ?_, h.1.2, h.2.1, h.2.2.1.2, h.2.2.2⟩
 have := h.2.2.1.1
 cases ht : tag with
 | nil => exact .inl rfl
 | cons c tag =>
  right
  rw [ht] at this
  simpa using this
theorem GP.parts {st : List St} {lk : List Int} {d : Nat} (h : GP (.mk st lk) d) : 1 ≤ st.length ∧ st.length ≤ 5 ∧ lk.length + 1 = st.length ∧ (∀ n ∈ lk, 1 ≤ n ∧ n ≤ 4) ∧ GSs st d := by
 simp only [GP, tmP, bkP, bfP, bnP, Bool.or_eq_false_iff, Bool.not_eq_false', decide_eq_true_eq, decide_eq_false_iff_not, List.any_eq_false, zLb, Bool.not_eq_true'] at h
 obtain ⟨⟨⟨h1, h2⟩, h3⟩, ⟨h4, h5⟩, h6, h7⟩ := h
 refine ⟨h1.1, h1.2, by omega, fun n hn => ?_, h3, h5, h6, h7⟩
 have := h4 n hn
 simp only [decide_eq_false_iff_not, Classical.not_not] at this
 exact this
theorem GT.parts {k : Int} {n v : Bys} {a b : Int} {l : List Pt} {d : Nat} (h : GT (.mk k n v a b l) d) :
  (1 ≤ k ∧ k ≤ 15) ∧ (if k ≤ 8 then zBN n = true else n = []) ∧ (if 4 ≤ k ∧ k ≤ 8 then zCN v = true else v = []) ∧ (if k = 9 ∨ k = 10 then True else a = 0 ∧ b = 0) ∧ zI7 a b = 0 ∧ (if 13 ≤ k then GL l (d + 1) else l = []) := by
 simp only [GT, tmT, bkT, bfT, bnT, Bool.or_eq_false_iff, Bool.and_eq_false_iff, Bool.not_eq_false', decide_eq_true_eq, decide_eq_false_iff_not, yB3, yB4, yBg, Ts.kind, Ts.name, Ts.value, Ts.na, Ts.nb, Ts.list, zU8, zJw, yCU, zEb, Bool.and_eq_true, beq_iff_eq, Bool.not_eq_true'] at h
 obtain ⟨h1, ⟨h2, h3⟩, ⟨⟨⟨⟨h4, h5⟩, h6, h7⟩, h8, h9⟩, h10⟩, h11, h12⟩ := h
 simp only [Bool.or_eq_true] at h8
 refine ⟨h2, ?_, ?_, ?_, h11, ?_⟩
 ·split
  ·rcases h4 with h | h
   ·exfalso; (first | omega | (have := of_decide_eq_false h; omega) | (have := of_decide_eq_true h; omega) | (rcases h with h | h <;> have := of_decide_eq_true h <;> omega))
   ·exact h
  ·rcases h5 with h | h
   ·exfalso; (first | omega | (have := of_decide_eq_false h; omega) | (have := of_decide_eq_true h; omega) | (rcases h with h | h <;> have := of_decide_eq_true h <;> omega))
   ·exact h
 ·split
  ·rcases h6 with h | h
   ·exfalso; (first | omega | (have := of_decide_eq_false h; omega) | (have := of_decide_eq_true h; omega) | (rcases h with h | h <;> have := of_decide_eq_true h <;> omega))
   ·exact h
  ·rcases h7 with h | h
   ·exfalso; (first | omega | (have := of_decide_eq_false h; omega) | (have := of_decide_eq_true h; omega) | (rcases h with h | h <;> have := of_decide_eq_true h <;> omega))
   ·exact h
 ·split
  ·trivial
  ·rcases h8 with h | h
   ·exfalso; (first | omega | (have := of_decide_eq_false h; omega) | (have := of_decide_eq_true h; omega) | (rcases h with h | h <;> have := of_decide_eq_true h <;> omega))
   ·exact h
 ·split
  ·rename_i hk
   rcases h1 with h | h
   ·exfalso; (first | omega | (have := of_decide_eq_false h; omega) | (have := of_decide_eq_true h; omega) | (rcases h with h | h <;> have := of_decide_eq_true h <;> omega))
   rcases h3 with h' | h'
   ·exfalso; (first | omega | (have := of_decide_eq_false h; omega) | (have := of_decide_eq_true h; omega) | (rcases h with h | h <;> have := of_decide_eq_true h <;> omega))
   rcases h10 with h'' | h''
   ·exfalso; (first | omega | (have := of_decide_eq_false h; omega) | (have := of_decide_eq_true h; omega) | (rcases h with h | h <;> have := of_decide_eq_true h <;> omega))
   exact ⟨by omega, h.1.2.1, h.1.2.2, h.2, h', h'', h12⟩
  ·rcases h9 with h | h
   ·exfalso; (first | omega | (have := of_decide_eq_false h; omega) | (have := of_decide_eq_true h; omega) | (rcases h with h | h <;> have := of_decide_eq_true h <;> omega))
   ·exact List.eq_nil_of_length_eq_zero (by have := of_decide_eq_false h; omega)
theorem yEh {l : List Pt} (h : zBt l = 0) : GL l 1 := by
 unfold zBt at h
 split at h
 ·omega
 ·rename_i h1
  split at h
  ·omega
  ·rename_i h2
   split at h
   ·omega
   ·rename_i h3
    split at h
    ·omega
    ·rename_i h4
     simp only [tmL, Bool.not_eq_true, Bool.or_eq_false_iff, Bool.not_eq_false', decide_eq_true_eq, decide_eq_false_iff_not] at h1 h2 h3 h4
     exact ⟨by omega, h1.1.2.1, h1.1.2.2, h1.2, h2, h3, h4⟩
theorem GPs.get : ∀ {l : List Pt} {d : Nat}, GPs l d → ∀ i, i < l.length → GP (l.getD i default) d
 | _ :: _, _, h, 0, _ => h.cons.1
 | _ :: _, _, h, i + 1, hi => by
  have := GPs.get h.cons.2 i (by simpa using hi)
  simpa using this
theorem GSs.get : ∀ {l : List St} {d : Nat}, GSs l d → ∀ i, i < l.length → GS (l.getD i default) d
 | _ :: _, _, h, 0, _ => h.cons.1
 | _ :: _, _, h, i + 1, hi => by
  have := GSs.get h.cons.2 i (by simpa using hi)
  simpa using this
theorem GTs.get : ∀ {l : List Ts} {d : Nat}, GTs l d → ∀ i, i < l.length → GT (l.getD i default) d
 | _ :: _, _, h, 0, _ => h.cons.1
 | _ :: _, _, h, i + 1, hi => by
  have := GTs.get h.cons.2 i (by simpa using hi)
  simpa using this
theorem GP.parts' {p : Pt} {d : Nat} (h : GP p d) : 1 ≤ p.steps.length ∧ p.steps.length ≤ 5 ∧ p.links.length + 1 = p.steps.length ∧ (∀ n ∈ p.links, 1 ≤ n ∧ n ≤ 4) ∧ GSs p.steps d := by
 obtain ⟨st, lk⟩ := p
 exact h.parts
theorem GS.parts' {x : St} {d : Nat} (h : GS x d) : x.tests.length ≤ 6 ∧ GTs x.tests d := by
 obtain ⟨tag, l⟩ := x
 exact ⟨h.parts.1, h.parts.2.2⟩
theorem GT.parts' {t : Ts} {d : Nat} (h : GT t d) : (1 ≤ t.kind ∧ t.kind ≤ 15) ∧ (13 ≤ t.kind → GL t.list (d + 1)) := by
 obtain ⟨k, n, v, a, b, l⟩ := t
 obtain ⟨h1, _, _, _, _, h6⟩ := h.parts
 exact ⟨h1, fun hk => by change 13 ≤ k at hk; rw [if_pos hk] at h6; exact h6⟩
theorem yF6 {p : Pt} (h : zBt [p] = 0) : GP p 1 := (yEh h).2.2.2.cons.1
end Go.Hx
end

section
/-
 Plainer lists of paths, as plain Lean data: the same lists, the first ones of equals, a list made plainer, how much it weighs. No condition.
-/
namespace Go.Hx
mutual
def zVr : Ts → Ts → Bool
 | .mk k n v a b l, t => k == t.kind && (n == t.name) && (v == t.value) && (a == t.na && b == t.nb) && zDJ l t.list
def zEx : List Ts → List Ts → Bool
 | [], [] => true
 | t :: r, t' :: r' => zVr t t' && zEx r r'
 | _, _ => false
def zTg : St → St → Bool
 | .mk t l, s => (t == s.tag) && zEx l s.tests
def zEy : List St → List St → Bool
 | [], [] => true
 | t :: r, t' :: r' => zTg t t' && zEy r r'
 | _, _ => false
def zTh : Pt → Pt → Bool
 | .mk s l, p => (l == p.links) && zEy s p.steps
def zDJ : List Pt → List Pt → Bool
 | [], [] => true
 | t :: r, t' :: r' => zTh t t' && zDJ r r'
 | _, _ => false
end
mutual
theorem yAX : ∀ (t u : Ts), zVr t u = true ↔ t = u
 | .mk k n v a b l, .mk k' n' v' a' b' l' => by
  have h := zGI l l'
  simp only [zVr, Ts.kind, Ts.name, Ts.value, Ts.na, Ts.nb, Ts.list, Bool.and_eq_true, beq_iff_eq, h, Ts.mk.injEq]
  grind
theorem zI9 : ∀ (t u : List Ts), zEx t u = true ↔ t = u
 | [], [] => by simp [zEx]
 | t :: r, t' :: r' => by
  have h := yAX t t'
  have h2 := zI9 r r'
  simp only [zEx, Bool.and_eq_true, h, h2, List.cons.injEq]
 | [], t :: r => by simp [zEx]
 | t :: r, [] => by simp [zEx]
theorem yAY : ∀ (t u : St), zTg t u = true ↔ t = u
 | .mk t l, .mk t' l' => by
  have h := zI9 l l'
  simp only [zTg, St.tag, St.tests, Bool.and_eq_true, beq_iff_eq, h, St.mk.injEq]
theorem zJa : ∀ (t u : List St), zEy t u = true ↔ t = u
 | [], [] => by simp [zEy]
 | t :: r, t' :: r' => by
  have h := yAY t t'
  have h2 := zJa r r'
  simp only [zEy, Bool.and_eq_true, h, h2, List.cons.injEq]
 | [], t :: r => by simp [zEy]
 | t :: r, [] => by simp [zEy]
theorem yAZ : ∀ (t u : Pt), zTh t u = true ↔ t = u
 | .mk s l, .mk s' l' => by
  have h := zJa s s'
  simp only [zTh, Pt.steps, Pt.links, Bool.and_eq_true, beq_iff_eq, h, Pt.mk.injEq]
  grind
theorem zGI : ∀ (t u : List Pt), zDJ t u = true ↔ t = u
 | [], [] => by simp [zDJ]
 | t :: r, t' :: r' => by
  have h := yAZ t t'
  have h2 := zGI r r'
  simp only [zDJ, Bool.and_eq_true, h, h2, List.cons.injEq]
 | [], t :: r => by simp [zDJ]
 | t :: r, [] => by simp [zDJ]
end
theorem yCj (t u : Ts) : zVr t u = (t.kind == u.kind && (t.name == u.name) && (t.value == u.value) && (t.na == u.na && t.nb == u.nb) && zDJ t.list u.list) := by cases t; simp only [zVr, Ts.kind, Ts.name, Ts.value, Ts.na, Ts.nb, Ts.list]
theorem zYi (t u : St) : zTg t u = ((t.tag == u.tag) && zEx t.tests u.tests) := by cases t; simp only [zTg, St.tag, St.tests]
theorem zYj (t u : Pt) : zTh t u = ((t.links == u.links) && zEy t.steps u.steps) := by cases t; simp only [zTh, Pt.steps, Pt.links]
theorem zZu {t u : List Ts} (h : t.length ≠ u.length) : zEx t u = false := by
 cases hs : zEx t u with
 | false => rfl
 | true => rw [zI9] at hs; exact (h (by rw [hs])).elim
theorem zZv {t u : List St} (h : t.length ≠ u.length) : zEy t u = false := by
 cases hs : zEy t u with
 | false => rfl
 | true => rw [zJa] at hs; exact (h (by rw [hs])).elim
theorem zZw {t u : List Pt} (h : t.length ≠ u.length) : zDJ t u = false := by
 cases hs : zDJ t u with
 | false => rfl
 | true => rw [zGI] at hs; exact (h (by rw [hs])).elim
section
variable {α : Type} (eq : α → α → Bool)
end
end Go.Hx
end
