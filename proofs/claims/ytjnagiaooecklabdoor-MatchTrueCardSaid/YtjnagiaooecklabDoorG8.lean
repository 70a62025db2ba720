/-
  Walks of functions of the program over an abstract layer, and the laws that they use: each contract says what the function computes, for every input that its conditions let by. No other condition.
-/
import Derived.Test.YtjnagiaooecklabDoorG7
import Derived.Scope
set_option linter.all false
section
/-
 THE ABSTRACT LAYER, ELEVENTH TEXT: the walk of code on the abstract frame is sound; a contract out of it. Generic over the program. No condition.
-/
namespace Go.Hx
open Go.RowKit
variable [Glob]
section
variable {P : Program} {E : Env} {S : Start}
def zR9 (E : Env) (S : Start) (Q : Exit → List Ct → Prop) : Exit → Act → World → Prop := fun e a w => ∃ F, Q e F ∧ Inv E S F a w
theorem zSa {c : Code} {Q : Exit → Act → World → Prop} (I : Nat → Act → World → Prop)
  (round : ∀ n a w, I n a w → c.wp P (Exit.then (fun a' w' => ∃ n', n' < n ∧ I n' a' w') Q) a w) {n : Nat} {a : Act} {w : World} (h0 : I n a w) : (Code.loop c).wp P Q a w := by
 intro b k cs
 have key : ∀ n a w, I n a w → ∃ e a' w', Q e a' w' ∧ Arrives P (lone (b.at a (.code c :: .inLoop c :: k)) cs w) b k cs e a' w' := by
  intro n
  induction n using Nat.strongRecOn with
  |_ n ih =>
   intro a w hI
   obtain ⟨e, a₁, w₁, hq, harr⟩ := round n a w hI b (.inLoop c :: k) cs
   cases e with
   |normal =>
    obtain ⟨n', hlt, hI₁⟩ := hq
    obtain ⟨e₂, a₂, w₂, hq₂, harr₂⟩ := ih n' hlt a₁ w₁ hI₁
    exact ⟨e₂, a₂, w₂, hq₂, .of_steps (Steps.trans harr (.one step_inLoop)) harr₂⟩
   |exit id => exact ⟨_, a₁, w₁, hq, .pass (x := .inLoop c) rfl (fun _ _ => .inl (by simp)) harr⟩
   |goto l => exact ⟨_, a₁, w₁, hq, .pass (x := .inLoop c) rfl (fun _ _ => .inl (by simp)) harr⟩
   |ret => exact ⟨_, a₁, w₁, hq, .pass (x := .inLoop c) rfl (fun _ _ => .inl (by simp)) harr⟩
   |panic ch => exact ⟨_, a₁, w₁, hq, .pass (x := .inLoop c) rfl (fun _ _ => .inl (by simp)) harr⟩
   |outgrown => exact ⟨_, a₁, w₁, hq, .pass (x := .inLoop c) rfl (fun _ _ => .inl (by simp)) harr⟩
 obtain ⟨e, a', w', hq, harr⟩ := key n a w h0
 exact ⟨e, a', w', hq, .of_steps (.one step_loop) harr⟩
def zCW (P : Program) (E : Env) : Code → HCode → Bool
 |.skip, .skip => true
 |.region _ ops draw, .reg hs dr post => draw == dr && zE0 P E ops hs ops.toList && zFE E post && (!draw || dkQ P ops hs)
 |.region _ ops draw, .drg ds post => draw && zTG P E ops ds && zFE E post
 |.region _ ops draw, .regG pre hs post => !draw && zE0 P E ops hs ops.toList && zFE E pre && zFE E post
 |.region _ ops draw, .drgG pre ds post => draw && zTG P E ops ds && zFE E pre && zFE E post
 |.region _ ops draw, .rdr i hs dr post => draw == dr && zE0 P E ops hs ops.toList && zFE E post && (!draw || dkQ P ops hs) && hs.all HO.quiet && decide (i < E.N) && (zWj hs).all (fun d => decide (d < E.N))
 |.seq x y, .seq a b => zCW P E x a && zCW P E y b
 |.cond c x y, .cond d a b => zAc E.N d c && zCW P E x a && zCW P E y b
 |.block i x, .block j a => i == j && zCW P E x a
 |.loop x, .loop a => zCW P E x a
 |.exit i, .exit j => i == j
 |.ret, .ret => true
 |.scope x, .scope a => zCW P E x a
 |.label _, .label => true
 |_, _ => false
theorem zTI {F : List Ct} {a : Act} {w : World} (h : Inv E S F a w) : Inv E S F a { w with drawn := w.drawn + 1 } := by
 obtain ⟨m, β, ow, h⟩ := h
 exact ⟨m, β, ow, h.quiet ⟨m.le_refl, h.mem, fun _ _ _ => rfl, fun _ _ _ _ => rfl, fun _ _ _ h => .inl h, Pres.drew _ w⟩⟩
theorem zUg {K : List Ct → Prop} {Q : Exit → List Ct → Prop} {e : Exit} {a : Act} {w : World} (h : zR9 E S (zOs K Q) e a w) : Exit.then (fun a w => zDF E S K a w) (zR9 E S Q) e a w := by
 obtain ⟨F, h1, h2⟩ := h
 cases e <;> exact ⟨F, h1, h2⟩
theorem zJY (wf : E.Wf) :
  ∀ (c : Code) (h : HCode) (Q : Exit → List Ct → Prop) (F : List Ct) (a : Act) (w : World), zCW P E c h = true → hwp P h Q F → Inv E S F a w → c.wp P (zR9 E S Q) a w := by
 intro c
 induction c with
 |skip =>
  intro h Q F a w hk hW hI
  cases h <;> simp [zCW] at hk
  exact wp_skip ⟨F, hW, hI⟩
 |region id ops draw =>
  intro h Q F a w hk hW hI
  cases h with
  |reg hs dr post =>
   simp only [zCW, Bool.and_eq_true, beq_iff_eq, Bool.or_eq_true, Bool.not_eq_true'] at hk
   obtain ⟨⟨⟨rfl, h2⟩, h3⟩, h4⟩ := hk
   simp only [hwp] at hW
   have hN : ∀ F' a' w', ghW F' (fun F'' => Q .normal F'') post → Inv E S F' a' w' → zR9 E S Q .normal a' w' := fun F' a' w' hg hI' => zCd wf h3 hI' hg
   cases draw with
   |false =>
    refine wp_region ?_
    have := zMm (P := P) wf (ops := ops) (X := fun v F' => Q (.panic [{ v, recovered := false }]) F') (Q := zR9 E S Q) (fun v F' a' w' hx hI' => ⟨F', hx, hI'⟩) hN hs ops.toList 0 (fun i o ho => by simpa using ho) h2 F a w hI hW
    rw [Array.length_toList] at this
    rwa [List.range_eq_range']
   |true =>
    have hd : dkQ P ops hs = true := by simpa using h4
    have hq : ∀ o ∈ hs, o.quiet = true := by
     simp only [dkQ, Bool.and_eq_true, List.all_eq_true] at hd
     exact hd.2
    obtain ⟨m, β, ow, hG⟩ := hI
    refine zK8 wf (fun _ => hd) hq h2 hG hW ?_
    rintro a' w' hg ⟨F1, h5, h6, _⟩
    exact hN F1 a' w' h5 ⟨m, β, ow, h6.gr hg⟩
  |drg ds post =>
   simp only [zCW, Bool.and_eq_true] at hk
   obtain ⟨⟨rfl, h2⟩, h3⟩ := hk
   simp only [hwp] at hW
   exact zMw wf h2 (fun F' a' w' hg hI' => zCd wf h3 hI' hg) (fun v F' a' w' hx hag hI' => ⟨F', hx F' hag, hI'⟩) (zTI hI) hW
  |regG pre hs post =>
   simp only [zCW, Bool.and_eq_true, Bool.not_eq_true'] at hk
   obtain ⟨⟨⟨rfl, h2⟩, h5⟩, h3⟩ := hk
   simp only [hwp] at hW
   have hN : ∀ F' a' w', ghW F' (fun F'' => Q .normal F'') post → Inv E S F' a' w' → zR9 E S Q .normal a' w' := fun F' a' w' hg hI' => zCd wf h3 hI' hg
   obtain ⟨F0, hW0, hI0⟩ := zCd wf h5 hI hW
   refine wp_region ?_
   have := zMm (P := P) wf (ops := ops) (X := fun v F' => Q (.panic [{ v, recovered := false }]) F') (Q := zR9 E S Q) (fun v F' a' w' hx hI' => ⟨F', hx, hI'⟩) hN hs ops.toList 0 (fun i o ho => by simpa using ho) h2 F0 a w hI0 hW0
   rw [Array.length_toList] at this
   rwa [List.range_eq_range']
  |drgG pre ds post =>
   simp only [zCW, Bool.and_eq_true] at hk
   obtain ⟨⟨⟨rfl, h2⟩, h5⟩, h3⟩ := hk
   simp only [hwp] at hW
   obtain ⟨F0, hW0, hI0⟩ := zCd wf h5 hI hW
   exact zMw wf h2 (fun F' a' w' hg hI' => zCd wf h3 hI' hg) (fun v F' a' w' hx hag hI' => ⟨F', hx F' hag, hI'⟩) (zTI hI0) hW0
  |rdr i hs dr post =>
   simp only [zCW, Bool.and_eq_true, beq_iff_eq, Bool.or_eq_true, Bool.not_eq_true', List.all_eq_true, decide_eq_true_eq] at hk
   obtain ⟨⟨⟨⟨⟨⟨rfl, h2⟩, h3⟩, h4⟩, hq⟩, hi⟩, hds⟩ := hk
   simp only [hwp] at hW
   split at hW
   ·rename_i e k rows e1
    obtain ⟨m, β, ow, hG⟩ := hI
    obtain ⟨m', hG'⟩ := zUc wf hG hi e1
    refine zK8 wf (fun hd => by rcases h4 with h4 | h4 <;> simp_all) hq h2 hG' hW ?_
    rintro a' w' hg ⟨F1, h5, h6, h7⟩
    exact zCd wf h3 ⟨m, β, ow, (zWB wf hG h6 hds h7).gr hg⟩ h5
   ·exact hW.elim
  |_ => simp [zCW] at hk
 |seq x y ihx ihy =>
  intro h Q F a w hk hW hI
  cases h <;> simp only [zCW] at hk <;> try cases hk
  rename_i ha hb
  simp only [Bool.and_eq_true] at hk
  refine wp_seq (wp_mono (ihx ha _ F a w hk.1 hW hI) ?_)
  intro e a' w' h'
  have := zUg h'
  cases e with
  |normal => obtain ⟨F', h1, h2⟩ := this; exact ihy hb Q F' a' w' hk.2 h1 h2
  |_ => exact this
 |cond c x y ihx ihy =>
  intro h Q F a w hk hW hI
  cases h <;> simp only [zCW] at hk <;> try cases hk
  rename_i d ha hb
  simp only [Bool.and_eq_true] at hk
  obtain ⟨⟨h1, h2⟩, h3⟩ := hk
  simp only [hwp] at hW
  split at hW
  ·rename_i t e1
   obtain ⟨n1, ht, hf⟩ := hW
   obtain ⟨m, β, ow, hG⟩ := hI
   have hv := zIb hG h1 n1 e1
   refine wp_cond_split hv (fun e => ihx ha Q F a w h2 (ht e) ⟨m, β, ow, hG⟩) (fun e => ihy hb Q F a w h3 (hf e) ⟨m, β, ow, hG⟩)
  ·exact hW.elim
 |block id x ih =>
  intro h Q F a w hk hW hI
  cases h <;> simp only [zCW] at hk <;> try cases hk
  rename_i j ha
  simp only [Bool.and_eq_true, beq_iff_eq] at hk
  obtain ⟨rfl, hk⟩ := hk
  refine wp_block (wp_mono (ih ha _ F a w hk hW hI) ?_)
  rintro e a' w' ⟨F', h1, h2⟩
  cases e with
  |exit id' =>
   simp only [zFD] at h1
   simp only [Exit.inBlock]
   split at h1
   ·rename_i e'; rw [if_pos e']; exact ⟨F', h1, h2⟩
   ·rename_i e'; rw [if_neg e']; exact ⟨F', h1, h2⟩
  |_ => exact ⟨F', h1, h2⟩
 |loop x ih =>
  intro h Q F a w hk hW hI
  cases h <;> simp only [zCW] at hk <;> try cases hk
  rename_i ha
  simp only [hwp] at hW
  obtain ⟨I, ⟨n, F0, hle, hI0⟩, hround⟩ := hW
  obtain ⟨m, β, ow, hG⟩ := hI
  refine zSa (fun n a w => ∃ F, I n F ∧ Inv E S F a w) ?_ (n := n) ⟨F0, hI0, m, β, ow, hG.le hle⟩
  rintro n a w ⟨F1, h1, h2⟩
  refine wp_mono (ih ha _ F1 a w hk (hround n F1 h1) h2) ?_
  rintro e a' w' ⟨F2, h3, h4⟩
  cases e with
  |normal =>
   obtain ⟨n', F', hlt, hle', hI'⟩ := h3
   obtain ⟨m, β, ow, hG⟩ := h4
   exact ⟨n', hlt, F', hI', m, β, ow, hG.le hle'⟩
  |_ => exact ⟨F2, h3, h4⟩
 |exit id =>
  intro h Q F a w hk hW hI
  cases h <;> simp only [zCW] at hk <;> try cases hk
  simp only [beq_iff_eq] at hk
  subst hk
  exact wp_exit ⟨F, hW, hI⟩
 |ret =>
  intro h Q F a w hk hW hI
  cases h <;> simp [zCW] at hk
  exact wp_ret ⟨F, hW, hI⟩
 |scope x ih =>
  intro h Q F a w hk hW hI
  cases h <;> simp only [zCW] at hk <;> try cases hk
  rename_i ha
  refine wp_scope_straight (wp_mono (ih ha _ F a w hk hW hI) ?_)
  rintro e a' w' ⟨F', h1, h2⟩
  cases e with
  |goto l => exact h1.elim
  |_ => exact ⟨F', h1, h2⟩
 |label l =>
  intro h Q F a w hk hW hI
  cases h <;> simp [zCW] at hk
  exact wp_label ⟨F, hW, hI⟩
 |_ =>
  intro h Q F a w hk hW hI
  cases h <;> simp [zCW] at hk
end
end Go.Hx
end

section
/-
 THE ABSTRACT LAYER, TWELFTH TEXT: a contract out of a function's code. Generic over the program. No condition.
-/
namespace Go.Hx
open Go.RowKit
variable [Glob]
def zAU : AV → Ct
 |.val x => .pv x
 |.own e k rows => .own e k rows
 |.io _ => .ptr 0 0
def ioOf : List AV → Option (List PV)
 |x :: as => match x with | .io cells => some cells | _ => ioOf as
 |[] => none
def zCj : List AV → Nat
 |x :: as => match x with | .own _ _ _ => zCj as + 1 | _ => zCj as
 |[] => 0
def nIo : List AV → Nat
 |x :: as => match x with | .io _ => nIo as + 1 | _ => nIo as
 |[] => 0
def zVr : List AV → Nat
 |x :: as => match x with | .own _ _ _ => 0 | _ => zVr as + 1
 |[] => 0
def zAV : List Nat → List Ct → List Ct
 |[], F => F
 |i :: r, F => zAV r (F.set i .una)
def F0 (E : Env) (base : Nat) (as : List AV) : List Ct := zAV E.una (
 zAa (as.map zAU ++ List.replicate (E.L - as.length) .un) base (match ioOf as with | some cs => cs.map fun x => .pv (.one x) | none => []))
def zAB (E : Env) (base : Nat) (as : List AV) : Prop :=
 as.length ≤ E.N ∧ zCj as ≤ 1 ∧ nIo as ≤ 1 ∧ match ioOf as with | some cs => E.nfix = 1 ∧ E.Γ[0]? = some (base, cs.length) | none => E.nfix = 0
inductive RSrc where
 |tmp (t : Nat)
 |cellB (t j base off n : Nat) (agg : Bool)
 |cellF (t n : Nat) (agg : Bool)
 deriving Inhabited
def zOt (P : Program) (E : Env) : RSrc → ResultVar → Bool
 |.tmp t, .tmp t' => t == t' && decide (t < E.N)
 |.cellB t j base off n agg, .cell a ty => t == a && decide (t < E.N) && zDq E j base (off + n) && zBv P ty == some agg && zDk P ty == some n && (agg || n == 1)
 |.cellF t n agg, .cell a ty => t == a && decide (t < E.N) && zBv P ty == some agg && zDk P ty == some n && (agg || n == 1)
 |_, _ => false
def zEl (P : Program) (E : Env) : List RSrc → List ResultVar → Bool
 |[], [] => true
 |x :: xs, y :: ys => zOt P E x y && zEl P E xs ys
 |_, _ => false
def rsV (F : List Ct) : RSrc → PVal → Prop
 |.tmp t, x => match (zAh F (.t t)).pv? with
  |some p => (zAh F (.t t)).need ∧ (x = p ∨ x = p.norm)
  |none => False
 |.cellB t j base off n agg, x => match F.getD t .un, zAZ F (base + off) n with
  |.ptr j' off', some cs => j' = j ∧ off' = off ∧ (x = (if agg then .agg cs else .one (cs.headD (.nl 0))) ∨ x = (if agg then PVal.agg cs else .one (cs.headD (.nl 0))).norm)
  |_, _ => False
 |.cellF t n agg, x => match (zAh F (.t t)).pv? with
  |some (.one (.fp cs)) => (zAh F (.t t)).need ∧ cs.length = n ∧ x = if agg then .agg (cs.map PV.norm) else .one (cs.headD (.nl 0)).norm
  |_ => False
def zSb (F : List Ct) : List RSrc → List PVal → Prop
 |[], xs => xs = []
 |r :: rs, l => match l with | x :: xs => rsV F r x ∧ zSb F rs xs | [] => False
def zH6 (F : List Ct) (rs : List RSrc) : Res → Prop
 |.val x => match rs with | [r] => rsV F r x | _ => False
 |.own e k rows => match rs with | [.tmp t] => F.getD t .un = .own e k rows | _ => False
 |.tup xs => match rs with | [_] => False | _ => zSb F rs xs
 |.pan _ => False
 |.ov x => match rs with
  |[.tmp t] => F.getD t .un = .ov x
  |[.cellB t j base off n agg] => F.getD t .un = .ptr j off ∧ ∃ cs, zC1 F (base + off) n = some cs ∧ x = zXl agg cs
  |_ => False
def zCH (E : Env) (base : Nat) (as : List AV) (rs : List RSrc) (r : RV) : Exit → List Ct → Prop
 |.normal, F | .ret, F => zH6 F rs r.res ∧ ∀ cs, ioOf as = some cs → zAZ F base cs.length = some r.io
 |.panic ch, _ => ∃ v, r.res = .pan v ∧ ch = [{ v, recovered := false }]
 |_, _ => False
section
variable {P : Program} {E : Env} {S : Start} {m : Mem} {β : Bx} {ow : Ow} {F : List Ct} {a : Act} {w : World}
def rdR (tmps : Array Value) : ResultVar → Sem Value
 |.tmp t => pure (tmps.getD t undef)
 |.cell a t => do loadVar t (← asAddr (tmps.getD a undef))
theorem zWI (h : InvG E S m β ow F a w) {r : RSrc} {s : ResultVar} (hk : zOt P E r s = true) {x : PVal} (hx : rsV F r x) :
  ∃ u, (rdR a.tmps s).run P w = .ok u w ∧ RpV m x u := by
 cases r with
 |tmp t =>
  cases s <;> simp only [zOt] at hk <;> try cases hk
  rename_i t'
  simp only [Bool.and_eq_true, beq_iff_eq, decide_eq_true_eq] at hk
  obtain ⟨rfl, ht⟩ := hk
  simp only [rsV] at hx
  split at hx
  ·rename_i p e1
   have hv := zAI h (x := .t t) (y := .tmp t) (by simp [zAc, ht]) hx.1 e1
   rcases hx.2 with rfl | rfl
   ·exact ⟨_, rfl, hv⟩
   ·exact ⟨_, rfl, hv.norm⟩
  ·exact hx.elim
 |cellB t j base off n agg =>
  cases s <;> simp only [zOt] at hk <;> try cases hk
  rename_i b ty
  simp only [Bool.and_eq_true, beq_iff_eq, decide_eq_true_eq, Bool.or_eq_true] at hk
  obtain ⟨⟨⟨⟨⟨rfl, ht⟩, hb⟩, ha⟩, hn⟩, h1⟩ := hk
  simp only [rsV] at hx
  split at hx
  ·rename_i j' off' cs e1 e2
   obtain ⟨rfl, rfl, hx⟩ := hx
   suffices hg : ∃ u, (rdR a.tmps (.cell t ty)).run P w = .ok u w ∧ RpV m (if agg then .agg cs else .one (cs.headD (.nl 0))) u by
    obtain ⟨u, h1, h2⟩ := hg
    rcases hx with rfl | rfl
    ·exact ⟨u, h1, h2⟩
    ·exact ⟨u, h1, h2.norm⟩
   clear hx
   obtain ⟨nn, hj, hle⟩ := zC2 hb
   obtain ⟨b, hb, hv⟩ := zCz h (x := .t t) (y := .tmp t) (by simp [zAc, ht]) e1
   have hv' : a.tmps.getD t undef = _ := hv
   have hB := h.boxes _ _ hj
   rw [hb] at hB
   obtain ⟨us, hl, hu, hm⟩ := zIP hB n off' hle cs e2
   have hrun := zBa (P := P) (w := w) ha hn h1 (us := us) (b := b) (o := off') hl hm
   refine ⟨if agg = true then .agg us.toArray else us.headD undef, by simp only [rdR, hv', asAddr, Sem.run_bind, Sem.run_pure, Result.andThen_ok, hrun], ?_⟩
   cases agg with
   |true => exact ⟨us, rfl, hu⟩
   |false =>
    rcases h1 with h1 | rfl
    ·cases h1
    ·have hcl : cs.length = 1 := by rw [← hu.length, hl]
     match cs, hcl with
     |[x], _ =>
      simp only [RpL] at hu
      obtain ⟨u, us', rfl, h2, _⟩ := hu
      exact h2
  ·exact hx.elim
 |cellF t n agg =>
  cases s <;> simp only [zOt] at hk <;> try cases hk
  rename_i b ty
  simp only [Bool.and_eq_true, beq_iff_eq, decide_eq_true_eq, Bool.or_eq_true] at hk
  obtain ⟨⟨⟨⟨rfl, ht⟩, ha⟩, hn⟩, h1⟩ := hk
  simp only [rsV] at hx
  split at hx
  ·rename_i cs e1
   obtain ⟨n1, rfl, rfl⟩ := hx
   have hv := zAI h (x := .t t) (y := .tmp t) (by simp [zAc, ht]) n1 e1
   obtain ⟨b, o, hv, hr⟩ := hv
   have hv' : a.tmps.getD t undef = _ := hv
   obtain ⟨us, hu, hm⟩ := hr.vals
   have hrun := zBa (P := P) (w := w) ha hn h1 (us := us) (b := b) (o := o) (by rw [hu.length]) (fun i u hi => h.mem _ _ _ (hm i u hi))
   refine ⟨if agg = true then .agg us.toArray else us.headD undef, by simp only [rdR, hv', asAddr, Sem.run_bind, Sem.run_pure, Result.andThen_ok, hrun], ?_⟩
   cases agg with
   |true => exact ⟨us, rfl, hu.norm⟩
   |false =>
    rcases h1 with h1 | h1
    ·cases h1
    ·exact zND hu h1
  ·exact hx.elim
theorem zP0 (h : InvG E S m β ow F a w) : ∀ {rs : List RSrc} {ss : List ResultVar} (_ : zEl P E rs ss = true) {xs : List PVal} (_ : zSb F rs xs),
  ∃ us : List Value, (ss.mapM (rdR a.tmps)).run P w = .ok us w ∧ RpVL m xs us
 |[], [], _, xs, hx => by
  simp only [zSb] at hx
  subst hx
  exact ⟨[], by simp, rfl⟩
 |[], s :: ss, hk, xs, hx => by simp [zEl] at hk
 |r :: rs, [], hk, xs, hx => by simp [zEl] at hk
 |r :: rs, s :: ss, hk, [], hx => by simp [zSb] at hx
 |r :: rs, s :: ss, hk, x :: xs, hx => by
  simp only [zEl, Bool.and_eq_true] at hk
  simp only [zSb] at hx
  obtain ⟨u, h1, h2⟩ := zWI h hk.1 hx.1
  obtain ⟨us, h3, h4⟩ := zP0 h hk.2 hx.2
  refine ⟨u :: us, ?_, u, us, rfl, h2, h4⟩
  rw [List.mapM_cons, Sem.run_bind, h1]
  simp only [Result.andThen_ok]
  rw [Sem.run_bind, h3]
  simp
theorem zFF (h : InvG E S m β ow F a w) {fn : Func} {rs : List RSrc} (hk : zEl P E rs fn.results.toList = true) {xs : List PVal} (hx : zSb F rs xs) :
  ∃ us : List Value, (results fn a.tmps).run P w = .ok (match us with | [u] => u | _ => .tuple us.toArray) w ∧ RpVL m xs us := by
 obtain ⟨us, h1, h2⟩ := zP0 h hk hx
 refine ⟨us, ?_, h2⟩
 have e : results fn a.tmps = (do let vs ← fn.results.mapM (rdR a.tmps); pure (if h : vs.size = 1 then vs[0] else .tuple vs)) := by
  unfold results
  congr
 rw [e, Array.mapM_eq_mapM_toList]
 have h3 : (Functor.map List.toArray (List.mapM (rdR a.tmps) fn.results.toList) : Sem (Array Value)).run P w = .ok us.toArray w := by
  rw [map_eq_pure_bind, Sem.run_bind, h1]
  rfl
 rw [Sem.run_bind, h3]
 simp only [Result.andThen_ok]
 match us with
 |[] => rfl
 |[u] => rfl
 |u :: v :: us => rfl
theorem ArgsRep.get : ∀ {as : List AV} {us : List Value}, ArgsRep m w as us → ∀ (i : Nat) (x : AV), as[i]? = some x → ∃ u, us[i]? = some u ∧ ArgRep m w x u
 |[], us, h, i, x, hx => by simp at hx
 |y :: ys, us, h, i, x, hx => by
  simp only [ArgsRep] at h
  obtain ⟨u, us', rfl, h2, h3⟩ := h
  cases i with
  |zero => simp at hx; subst hx; exact ⟨u, rfl, h2⟩
  |succ i => simpa using ArgsRep.get h3 i x (by simpa using hx)
theorem zSc : ∀ {as : List AV} {us : List Value}, ArgsRep m w as us → zCj as ≤ 1 → ∀ (i : Nat) (e k : Nat) (rows : List (List PV)), as[i]? = some (.own e k rows) → i = zVr as ∧ ∃ u, us[i]? = some u ∧ zGg as us = u.ownBlock
 |[], us, h, _, i, e, k, rows, hx => by simp at hx
 |y :: ys, us, h, hn, i, e, k, rows, hx => by
  simp only [ArgsRep] at h
  obtain ⟨u, us', rfl, h2, h3⟩ := h
  cases i with
  |zero =>
   simp at hx; subst hx
   exact ⟨rfl, u, rfl, rfl⟩
  |succ i =>
   have hx' : ys[i]? = some (.own e k rows) := by simpa using hx
   cases y with
   |own e' k' rows' =>
    exfalso
    have : zCj ys = 0 := by simp [zCj] at hn; omega
    exact absurd hx' (no_own this i e k rows)
   |val x =>
    obtain ⟨h4, u', h5, h6⟩ := zSc h3 (by simpa [zCj] using hn) i e k rows hx'
    exact ⟨by simp [zVr, h4], u', by simpa using h5, by simpa [zGg] using h6⟩
   |io cs =>
    obtain ⟨h4, u', h5, h6⟩ := zSc h3 (by simpa [zCj] using hn) i e k rows hx'
    exact ⟨by simp [zVr, h4], u', by simpa using h5, by simpa [zGg] using h6⟩
where
 no_own : ∀ {as : List AV}, zCj as = 0 → ∀ (i : Nat) (e k : Nat) (rows : List (List PV)), as[i]? ≠ some (.own e k rows)
 |[], _, i, _, _, _ => by simp
 |.own _ _ _ :: ys, h, _, _, _, _ => by simp [zCj] at h
 |.val _ :: ys, h, 0, _, _, _ => by simp
 |.val _ :: ys, h, i + 1, e, k, rows => by simpa using no_own (as := ys) (by simpa [zCj] using h) i e k rows
 |.io _ :: ys, h, 0, _, _, _ => by simp
 |.io _ :: ys, h, i + 1, e, k, rows => by simpa using no_own (as := ys) (by simpa [zCj] using h) i e k rows
theorem zVs : ∀ {as : List AV} {us : List Value}, ArgsRep m w as us → nIo as ≤ 1 → ∀ (i : Nat) (cs : List PV), as[i]? = some (.io cs) → ioOf as = some cs ∧ ∃ u, us[i]? = some u ∧ ioB as us = zZS u
 |[], us, h, _, i, cs, hx => by simp at hx
 |y :: ys, us, h, hn, i, cs, hx => by
  simp only [ArgsRep] at h
  obtain ⟨u, us', rfl, h2, h3⟩ := h
  cases i with
  |zero =>
   simp at hx; subst hx
   exact ⟨rfl, u, rfl, rfl⟩
  |succ i =>
   have hx' : ys[i]? = some (.io cs) := by simpa using hx
   cases y with
   |io cs' =>
    exfalso
    have : nIo ys = 0 := by simp [nIo] at hn; omega
    exact absurd hx' (no_io this i cs)
   |val x =>
    obtain ⟨h4, u', h5, h6⟩ := zVs h3 (by simpa [nIo] using hn) i cs hx'
    exact ⟨by simp [ioOf, h4], u', by simpa using h5, by simpa [ioB] using h6⟩
   |own e k rows =>
    obtain ⟨h4, u', h5, h6⟩ := zVs h3 (by simpa [nIo] using hn) i cs hx'
    exact ⟨by simp [ioOf, h4], u', by simpa using h5, by simpa [ioB] using h6⟩
where
 no_io : ∀ {as : List AV}, nIo as = 0 → ∀ (i : Nat) (cs : List PV), as[i]? ≠ some (.io cs)
 |[], _, i, _ => by simp
 |.io _ :: ys, h, _, _ => by simp [nIo] at h
 |.val _ :: ys, h, 0, _ => by simp
 |.val _ :: ys, h, i + 1, cs => by simpa using no_io (as := ys) (by simpa [nIo] using h) i cs
 |.own _ _ _ :: ys, h, 0, _ => by simp
 |.own _ _ _ :: ys, h, i + 1, cs => by simpa using no_io (as := ys) (by simpa [nIo] using h) i cs
theorem zTJ : ∀ {as : List AV} {us : List Value} {cs : List PV}, ArgsRep m w as us → ioOf as = some cs → zL8 as = cs.length ∧ ∃ b vs T, ioB as us = some b ∧ w.heap[b]? = some (.cells vs T (0, 0)) ∧ (∀ o, m b o = none) ∧ RpL m cs vs.toList
 |[], us, cs, h, hx => by simp [ioOf] at hx
 |y :: ys, us, cs, h, hx => by
  simp only [ArgsRep] at h
  obtain ⟨u, us', rfl, h2, h3⟩ := h
  cases y with
  |io cs' =>
   simp only [ioOf, Option.some.injEq] at hx
   subst hx
   obtain ⟨b, vs, T, rfl, h4, h5, h6⟩ := h2
   exact ⟨rfl, b, vs, T, rfl, h4, h5, h6⟩
  |val x => exact zTJ (as := ys) (us := us') h3 hx
  |own e k rows => exact zTJ (as := ys) (us := us') h3 hx
theorem zJZ : ∀ {as : List AV} {us : List Value}, ioOf as = none → ioB as us = none
 |[], us, h => by cases us <;> rfl
 |y :: ys, [], h => rfl
 |y :: ys, u :: us, h => by
  cases y with
  |io cs => simp [ioOf] at h
  |val x => exact zJZ (as := ys) h
  |own e k rows => exact zJZ (as := ys) h
theorem zMx : ∀ {as : List AV} {us : List Value} {b : Nat}, ArgsRep m w as us → zGg as us = some b → ∃ (i e k : Nat) (rows : List (List PV)) (u : Value), as[i]? = some (.own e k rows) ∧ us[i]? = some u ∧ u.ownBlock = some b ∧ OwnAt m w e k rows u
 |[], us, b, h, hb => by simp [zGg] at hb
 |y :: ys, us, b, h, hb => by
  simp only [ArgsRep] at h
  obtain ⟨u, us', rfl, h2, h3⟩ := h
  cases y with
  |own e k rows => exact ⟨0, e, k, rows, u, rfl, rfl, hb, h2⟩
  |val x =>
   obtain ⟨i, e, k, rows, u', h4, h5, h6⟩ := zMx h3 (b := b) hb
   exact ⟨i + 1, e, k, rows, u', by simpa using h4, by simpa using h5, h6⟩
  |io cs =>
   obtain ⟨i, e, k, rows, u', h4, h5, h6⟩ := zMx h3 (b := b) hb
   exact ⟨i + 1, e, k, rows, u', by simpa using h4, by simpa using h5, h6⟩
theorem OwnAt.lt {e k : Nat} {rows : List (List PV)} {u : Value} (h : OwnAt m w e k rows u) {g : Nat} (hg : u.ownBlock = some g) : g < w.heap.size := by
 obtain ⟨⟨xs, h1, h2⟩, _⟩ := h
 rcases h2 with ⟨rfl, _⟩ | ⟨g', cap, cur, rfl, _, hh, _⟩
 ·simp [Value.ownBlock] at hg
 ·simp only [Value.ownBlock, Option.some.injEq] at hg
  subst hg
  exact (Array.getElem?_eq_some_iff.1 hh).1
theorem zP1 (wf : E.Wf) : ∀ (l : List Nat) (F : List Ct), (∀ i ∈ l, E.N ≤ i ∧ ∀ j bn b, E.Γ[j]? = some bn → β j = some b → i < bn.1 ∨ bn.1 + bn.2 ≤ i) → InvG E S m β ow F a w → InvG E S m β ow (zAV l F) a w
 |[], _, _, h => h
 |x :: r, F, hx, h => by
  refine zP1 wf r (F.set x .una) (fun i hi => hx i (List.mem_cons_of_mem _ hi)) ?_
  obtain ⟨hN, hb⟩ := hx x List.mem_cons_self
  have hg : ∀ i, (F.set x .una).getD i .un = F.getD i .un ∨ (i = x ∧ (F.set x .una).getD i .un = .una) := by
   intro i
   rw [zAY]
   split
   ·exact .inr ⟨by omega, rfl⟩
   ·exact .inl rfl
  refine { h with lenF := by rw [List.length_set]; exact h.lenF, slots := fun i hi => ?_, boxes := fun j bn hj => ?_ }
  ·rcases hg i with e | ⟨e, _⟩
   ·rw [e]; exact h.slots i hi
   ·omega
  ·have hB := h.boxes j bn hj
   cases hβ : β j with
   |none =>
    rw [hβ] at hB
    intro o ho
    rcases hg (bn.1 + o) with e | ⟨_, e⟩
    ·rw [e]; exact hB o ho
    ·exact .inr e
   |some b =>
    rw [hβ] at hB
    obtain ⟨h1, h2, cs, T, h3, h4, h5⟩ := hB
    refine ⟨h1, h2, cs, T, h3, h4, fun o ho => ?_⟩
    rcases hg (bn.1 + o) with e | ⟨e, _⟩
    ·rw [e]; exact h5 o ho
    ·have := hb j bn b hj hβ
     omega
theorem zP2 (hun : E.unaOk = true) (wf : E.Wf) {base : Nat} {as : List AV} {us : List Value} (hf : zAB E base as) (hm : MemOk m w) (ha : ArgsRep m w as us) (hd : ∀ g, zGg as us = some g → ioB as us ≠ some g) (hG0 : Glob.ok w) (hGR : ∀ b, zJR as us b → Glob.n ≤ b) :
  Inv E { w0 := w, m0 := m, R0 := zJR as us, b0 := fun j => if j = 0 then ioB as us else none, g0 := hG0, gR := hGR } (F0 E base as) { tmps := us.toArray ++ Array.replicate (E.N - us.toArray.size) undef, defers := [] } w := by
 obtain ⟨hlen, hno, hni, hio⟩ := hf
 have hul := ha.length
 have hNL := wf.le
 have hFl : (as.map zAU ++ List.replicate (E.L - as.length) Ct.un).length = E.L := by simp; omega
 have hbase : ∀ cs, ioOf as = some cs → E.N ≤ base ∧ base + cs.length ≤ E.L := by
  intro cs hc
  rw [hc] at hio
  exact ⟨wf.lo 0 _ hio.2, wf.hi 0 _ hio.2⟩
 refine ⟨m, fun j => if j = 0 then ioB as us else none, fun b => if zGg as us = some b then some (.key (zVr as)) else if ioB as us = some b then some (.box 0) else none, ?_⟩
 refine zP1 wf _ _ (fun i hi => ?_) ?_
 ·have hu := List.all_eq_true.1 hun i hi
  simp only [Bool.and_eq_true, decide_eq_true_eq] at hu
  refine ⟨hu.1, fun j bn b hj hb => ?_⟩
  split at hb
  ·rename_i e
   subst e
   have hn : E.nfix = 1 := by
    cases hc : ioOf as with
    |none => rw [zJZ hc] at hb; cases hb
    |some cs => rw [hc] at hio; exact hio.1
   have := List.all_eq_true.1 hu.2 0 (by rw [hn]; decide)
   rw [hj] at this
   simpa using this
  ·cases hb
 refine ⟨by rw [zAO]; exact hFl, by simp; omega, rfl, ?_, ?_, hm, m.le_refl, Pres.refl _ _, ?_, ?_, fun b o u h => .inl h, fun j _ => rfl⟩
 ·intro i hi
  have e1 : (zAa (as.map zAU ++ List.replicate (E.L - as.length) Ct.un) base (match ioOf as with | some cs => cs.map fun x => Ct.pv (.one x) | none => [])).getD i .un = (as.map zAU ++ List.replicate (E.L - as.length) Ct.un).getD i .un := by
   cases hc : ioOf as with
   |none => rfl
   |some cs =>
    have := hbase cs hc
    rw [zAi, if_neg (by omega)]
  rw [e1]
  by_cases hia : i < as.length
  ·rw [List.getD_eq_getElem?_getD, List.getElem?_append_left (by simpa using hia), List.getElem?_map, List.getElem?_eq_getElem hia]
   simp only [Option.map_some, Option.getD_some]
   obtain ⟨u, h1, h2⟩ := ha.get i as[i] (List.getElem?_eq_getElem hia)
   have e2 : (us.toArray ++ Array.replicate (E.N - us.toArray.size) undef).getD i undef = u := by
    rw [Array.getD_eq_getD_getElem?, Array.getElem?_append_left (by simp; omega)]
    simp [h1]
   rw [e2]
   cases hx : as[i] with
   |val x => rw [hx] at h2; exact h2
   |own e k rows =>
    rw [hx] at h2
    obtain ⟨h3, u', h4, h5⟩ := zSc ha hno i e k rows (by rw [← hx]; exact List.getElem?_eq_getElem hia)
    rw [h1] at h4
    injection h4 with h4
    subst h4
    refine OwnAt.rep h2 fun g hg => ?_
    rw [if_pos (h5.trans hg), h3]
   |io cs =>
    rw [hx] at h2
    obtain ⟨h3, u', h4, h5⟩ := zVs ha hni i cs (by rw [← hx]; exact List.getElem?_eq_getElem hia)
    rw [h1] at h4
    injection h4 with h4
    subst h4
    obtain ⟨b, vs, T, rfl, _⟩ := h2
    exact ⟨b, by simpa [zZS] using h5, rfl⟩
  ·rw [List.getD_eq_getElem?_getD, List.getElem?_append_right (by simpa using Nat.le_of_not_lt hia), List.getElem?_replicate]
   split <;> trivial
 ·intro j bn hj
  by_cases hj0 : j = 0
  ·subst hj0
   simp only [if_true]
   cases hc : ioOf as with
   |none =>
    rw [zJZ hc]
    intro o ho
    have hlo := wf.lo 0 bn hj
    simp only [hc, zAa]
    rw [List.getD_eq_getElem?_getD, List.getElem?_append_right (by simp; omega), List.getElem?_replicate]
    left; split <;> rfl
   |some cs =>
    rw [hc] at hio
    obtain ⟨_, b, vs, T, h1, h2, h3, h4⟩ := zTJ ha hc
    rw [hio.2] at hj
    injection hj with hj
    subst hj
    have := hbase cs hc
    rw [h1]
    refine ⟨?_, h3, vs, T, h2, ?_, ?_⟩
    ·simp only; rw [if_neg (fun h => hd b h h1), if_pos trivial]
    ·simpa using h4.length
    ·intro o ho
     simp only at ho ⊢
     rw [zAi, if_pos (by simp; omega)]
     have e : base + o - base = o := by omega
     have hvl : vs.toList.length = cs.length := h4.length
     rw [e, List.getD_eq_getElem?_getD, List.getElem?_map, List.getElem?_eq_getElem ho]
     have hlt : o < vs.toList.length := by omega
     have hu : vs.getD o undef = vs.toList[o] := by
      rw [Array.getD_eq_getD_getElem?, ← Array.getElem?_toList, List.getElem?_eq_getElem hlt]; rfl
     rw [hu]
     exact h4.get _ _ _ (List.getElem?_eq_getElem ho) (List.getElem?_eq_getElem hlt)
  ·simp only [hj0, if_false]
   intro o ho
   have hlo := wf.lo j bn hj
   have hout : ∀ cs, ioOf as = some cs → ¬ (base ≤ bn.1 + o ∧ bn.1 + o < base + cs.length) := by
    intro cs hc
    rw [hc] at hio
    have := wf.ap j 0 _ _ hj hio.2 hj0
    simp only at this
    omega
   rw [zAi]
   rw [if_neg]
   ·rw [List.getD_eq_getElem?_getD, List.getElem?_append_right (by simp; omega), List.getElem?_replicate]
    left; split <;> rfl
   ·cases hc : ioOf as with
    |none => simp; omega
    |some cs => intro h; exact hout cs hc (by simp at h; omega)
 ·intro b t hb
  refine .inr ?_
  split at hb
  ·rename_i h; exact .inl h
  ·split at hb
   ·rename_i h; exact .inr h
   ·cases hb
 ·intro b t hb
  split at hb
  ·rename_i h
   obtain ⟨i, e, k, rows, u, _, _, h5, h6⟩ := zMx ha h
   exact h6.lt h5
  ·split at hb
   ·rename_i h
    cases hc : ioOf as with
    |none => rw [zJZ hc] at h; cases h
    |some cs =>
     obtain ⟨_, b', vs, T, h1, h2, _⟩ := zTJ ha hc
     rw [h] at h1
     injection h1 with h1
     subst h1
     exact (Array.getElem?_eq_some_iff.1 h2).1
   ·cases hb
theorem zOu : ∀ {as : List AV} {cs : List PV}, ioOf as = some cs → zL8 as = cs.length
 |[], cs, h => by simp [ioOf] at h
 |y :: ys, cs, h => by
  cases y with
  |io cs' => simp only [ioOf, Option.some.injEq] at h; subst h; rfl
  |val x => exact zOu (as := ys) h
  |own e k rows => exact zOu (as := ys) h
mutual
def PV.fits : PV → Prop
 |.v x => zEq x = true
 |.sl _ rows => rows.length ≤ maxLen ∧ zSd rows
 |.nl _ => True
 |.fp cs => zLf cs
 |.clo _ caps => zLf caps
 |.any => True
def zLf : List PV → Prop
 |[] => True
 |x :: xs => x.fits ∧ zLf xs
def zSd : List (List PV) → Prop
 |[] => True
 |r :: rs => zLf r ∧ zSd rs
end
def PVal.fits : PVal → Prop
 |.one x => x.fits
 |.agg cs => zLf cs
def AV.fits : AV → Prop
 |.val x => x.fits
 |.own _ _ rows => rows.length ≤ maxLen ∧ zSd rows
 |.io cells => zLf cells
def AVs.fits : List AV → Prop
 |[] => True
 |x :: xs => x.fits ∧ AVs.fits xs
mutual
theorem Rp.fits : ∀ (x : PV) (u : Value), Rp m x u → x.fits
 |.v _, _, h => by simp only [Rp] at h; simp only [PV.fits]; exact h.2
 |.sl k rows, _, h => by
  simp only [Rp] at h
  obtain ⟨A, c, _, h2, h3, h4⟩ := h
  simp only [PV.fits]
  refine ⟨Nat.le_trans h2 h3, ?_⟩
  rcases h4 with h4 | ⟨b, o, _, h5⟩
  ·subst h4; simp only [zSd]
  ·exact RpRows.fits rows b k o h5
 |.nl _, _, _ => by simp only [PV.fits]
 |.fp cs, _, h => by
  simp only [Rp] at h
  obtain ⟨b, o, _, h2⟩ := h
  simp only [PV.fits]
  exact RpAt.fits cs b o h2
 |.clo f caps, _, h => by
  simp only [Rp] at h
  obtain ⟨us, _, h2⟩ := h
  simp only [PV.fits]
  exact RpL.fits caps us h2
 |.any, _, _ => by simp only [PV.fits]
theorem RpAt.fits : ∀ (cs : List PV) (b o : Nat), RpAt m b o cs → zLf cs
 |[], _, _, _ => by simp only [zLf]
 |x :: xs, b, o, h => by
  simp only [RpAt] at h
  obtain ⟨⟨u, _, h2⟩, h3⟩ := h
  simp only [zLf]
  exact ⟨Rp.fits x u h2, RpAt.fits xs b (o + 1) h3⟩
theorem RpRows.fits : ∀ (rows : List (List PV)) (b k o : Nat), RpRows m b k o rows → zSd rows
 |[], _, _, _, _ => by simp only [zSd]
 |r :: rs, b, k, o, h => by
  simp only [RpRows] at h
  obtain ⟨⟨_, h2⟩, h3⟩ := h
  simp only [zSd]
  exact ⟨RpAt.fits r b o h2, RpRows.fits rs b k (o + k) h3⟩
theorem RpL.fits : ∀ (cs : List PV) (us : List Value), RpL m cs us → zLf cs
 |[], _, _ => by simp only [zLf]
 |x :: xs, _, h => by
  simp only [RpL] at h
  obtain ⟨u, us', _, h2, h3⟩ := h
  simp only [zLf]
  exact ⟨Rp.fits x u h2, RpL.fits xs us' h3⟩
end
theorem ArgRep.fits {x : AV} {u : Value} (h : ArgRep m w x u) : x.fits := by
 cases x with
 |val x =>
  cases x with
  |one x => exact Rp.fits x u h
  |agg cs => obtain ⟨us, _, h2⟩ := h; exact RpL.fits cs us h2
 |own e k rows =>
  have := Rp.fits _ _ (OwnAt.rp h)
  simp only [PV.fits] at this
  exact this
 |io cells => obtain ⟨b, cs, T, _, _, _, h2⟩ := h; exact RpL.fits _ _ h2
theorem ArgsRep.fits : ∀ {as : List AV} {us : List Value}, ArgsRep m w as us → AVs.fits as
 |[], _, _ => trivial
 |x :: xs, _, h => by
  simp only [ArgsRep] at h
  obtain ⟨u, us', _, h2, h3⟩ := h
  exact ⟨h2.fits, ArgsRep.fits h3⟩
theorem zAb {f : FuncId} {fn : Func} {c : Code} (hf : P.funcs[f]? = some fn) (hb : fn.body = some c) (hcall : zDw P f = true) (hE' : (E.ok && E.unaOk) = true) (hN : E.N = fn.ntmps)
  {h : HCode} (hk : zCW P E c h = true)
  {rs : List RSrc} (hrs : zEl P E rs fn.results.toList = true) {base : Nat} {as : List AV} (hfo : zAB E base as) {r : RV} (hW0 : AVs.fits as → hwp P h (zCH E base as rs r) (F0 E base as)) (hov : ∀ x, r.res = .ov x → zCj as = 0 := by intro x h; cases h <;> rfl) : Contract P f as r := by
 have hE := Bool.and_eq_true_iff.1 hE'
 have wf := Env.wf_of_ok hE.1
 refine ⟨hcall, fun m w us hm ha hd hG0 hGR => ?_⟩
 have hW := hW0 ha.fits
 have h0 := zP2 hE.2 wf hfo hm ha hd hG0 hGR
 have hc := zJY wf c h _ _ _ _ hk hW h0
 refine calls_of_wp hf hb ?_
 rw [← hN]
 refine wp_mono hc ?_
 have hio := hfo.2.2.2
 have common : ∀ {m' : Mem} {β : Bx} {ow : Ow} {F : List Ct} {a' : Act} {w' : World},
   InvG E { w0 := w, m0 := m, R0 := zJR as us, b0 := fun j => if j = 0 then ioB as us else none, g0 := hG0, gR := hGR } m' β ow F a' w' →
   m.le m' ∧ MemOk m' w' ∧ Pres (zJR as us) w w' ∧ (∀ b o u, m' b o = some u → m b o = some u ∨ w.heap.size ≤ b ∨ zGg as us = some b) ∧
   (∀ b, ioB as us = some b → ow b = some (.box 0) ∧ ∀ io : Option (List PV), (∀ l, io = some l → ∀ cs, ioOf as = some cs → zAZ F base cs.length = some l) → zZT m' w' b (zL8 as) io) := by
  intro m' β ow F a' w' hG
  have key : ∀ b, ioB as us = some b → ∃ cs, ioOf as = some cs ∧ E.Γ[0]? = some (base, cs.length) ∧ BoxRep m' w' ow F 0 (base, cs.length) (some b) := by
   intro b hb
   cases hc : ioOf as with
   |none => rw [zJZ hc] at hb; cases hb
   |some cs =>
    rw [hc] at hio
    have hB := hG.boxes 0 _ hio.2
    have hβ : β 0 = some b := by rw [hG.fix 0 (by rw [hio.1]; exact Nat.one_pos)]; simp only [if_true]; exact hb
    rw [hβ] at hB
    exact ⟨cs, rfl, hio.2, hB⟩
  refine ⟨hG.mle, hG.mem, hG.pres, fun b o u hu => ?_, fun b hb => ?_⟩
  ·rcases hG.new b o u hu with g | g | g
   ·exact .inl g
   ·exact .inr (.inl g)
   ·rcases g with g | g
    ·exact .inr (.inr g)
    ·obtain ⟨cs, _, _, hB⟩ := key b g
     have := hB.2.1 o
     rw [hu] at this
     cases this
  ·obtain ⟨cs, hc, hj, hB⟩ := key b hb
   refine ⟨hB.1, fun io hl => ?_⟩
   rw [zOu hc]
   refine ⟨hB.2.1, ?_⟩
   cases io with
   |none =>
    obtain ⟨h1, h2, vs, T, h3, h4, h5⟩ := hB
    exact ⟨vs, T, h3, h4, fun l e => by cases e⟩
   |some l =>
    obtain ⟨vs, T, h3, h4, h5⟩ := zMc hB (hl l rfl cs hc)
    exact ⟨vs, T, h3, h4, fun l' e => by injection e with e; subst e; exact h5⟩
 have fin : ∀ {F : List Ct} {a' : Act} {w' : World}, (zH6 F rs r.res ∧ ∀ cs, ioOf as = some cs → zAZ F base cs.length = some r.io) →
   Inv E { w0 := w, m0 := m, R0 := zJR as us, b0 := fun j => if j = 0 then ioB as us else none, g0 := hG0, gR := hGR } F a' w' →
   a'.defers = [] ∧ ∃ v, (results fn a'.tmps).run P w' = .ok v w' ∧ zXk m w as us r (.returned v) w' := by
  rintro F a' w' ⟨hr, hi⟩ ⟨m', β, ow, hG⟩
  obtain ⟨c1, c2, c3, c4, c5⟩ := common hG
  refine ⟨hG.dfr, ?_⟩
  have hmk : ∀ v, zPP m' w w' (zGg as us) r.res (.returned v) → zXk m w as us r (.returned v) w' := by
   intro v hv
   refine ⟨m', c1, c2, c3, c4, fun b hb => (c5 b hb).2 _ ?_, hv⟩
   intro l hl cs hcs
   unfold Res.ioOf at hl
   split at hl
   ·cases hl
   ·injection hl with hl; rw [← hl]; exact hi cs hcs
  cases hres : r.res with
  |val x =>
   rw [hres] at hr
   simp only [zH6] at hr
   split at hr
   ·rename_i r1
    obtain ⟨us', h1, h2⟩ := zFF hG hrs (xs := [x]) (by simp only [zSb]; exact ⟨hr, trivial⟩)
    obtain ⟨u, us'', rfl, h3, h4⟩ := h2
    simp only [RpVL] at h4
    subst h4
    exact ⟨_, h1, hmk _ (by rw [hres]; exact ⟨u, rfl, h3⟩)⟩
   ·exact hr.elim
  |own e k rows =>
   rw [hres] at hr
   simp only [zH6] at hr
   split at hr
   ·rename_i t
    have hlt : t < E.N := by
     cases hl : fn.results.toList with
     |nil => rw [hl] at hrs; simp [zEl] at hrs
     |cons s ss =>
      rw [hl] at hrs
      simp only [zEl, Bool.and_eq_true] at hrs
      cases s with
      |tmp t' => have := hrs.1; simp only [zOt, Bool.and_eq_true, decide_eq_true_eq] at this; exact this.2
      |cell x y => have := hrs.1; simp [zOt] at this
    have hs := hG.slots t hlt
    rw [hr] at hs
    obtain ⟨us', h1, h2⟩ := zFF hG hrs (xs := [.one (.sl k rows)]) (by simp only [zSb, rsV, zAh, hr]; exact ⟨⟨trivial, .inl rfl⟩, trivial⟩)
    obtain ⟨u, us'', rfl, h3, h4⟩ := h2
    simp only [RpVL] at h4
    subst h4
    refine ⟨_, h1, ?_⟩
    have hu : u = a'.tmps.getD t undef := by
     have e : results fn a'.tmps = (do let vs ← fn.results.mapM (rdR a'.tmps); pure (if h : vs.size = 1 then vs[0] else .tuple vs)) := by unfold results; congr
     cases hl : fn.results.toList with
     |nil => rw [hl] at hrs; simp [zEl] at hrs
     |cons s ss =>
      rw [hl] at hrs
      simp only [zEl, Bool.and_eq_true] at hrs
      cases ss with
      |cons s2 ss2 => simp [zEl] at hrs
      |nil =>
       cases s with
       |cell x y => have := hrs.1; simp [zOt] at this
       |tmp t' =>
        have h5 := hrs.1
        simp only [zOt, Bool.and_eq_true, beq_iff_eq, decide_eq_true_eq] at h5
        obtain ⟨rfl, _⟩ := h5
        rw [e, Array.mapM_eq_mapM_toList, hl] at h1
        simp [rdR] at h1
        rw [Array.getD_eq_getD_getElem?]; exact h1.symm
    subst hu
    refine hmk _ ?_
    rw [hres]
    refine ⟨_, rfl, OwnRep.at_ hs, fun g hg => ?_⟩
    have hg1 := (hs.2 g hg).1
    rcases hG.own g _ hg1 with h6 | h6 | h6
    ·exact .inl h6
    ·exact .inr h6
    ·rw [(c5 g h6).1] at hg1; cases hg1
   ·exact hr.elim
  |tup xs =>
   rw [hres] at hr
   simp only [zH6] at hr
   split at hr
   ·exact hr.elim
   ·rename_i hne
    obtain ⟨us', h1, h2⟩ := zFF hG hrs hr
    have hl1 : us'.length = xs.length := RpVL.length h2
    have hl2 : rs.length = xs.length := rsVs_length hr
    match us', h1, h2, hl1 with
    |[], h1, h2, _ => exact ⟨_, h1, hmk _ (by rw [hres]; exact ⟨[], rfl, h2⟩)⟩
    |[u], h1, h2, hl1 => 
     exfalso
     match rs, hne, hl2 with
     |[x], hne, _ => exact hne x rfl
     |[], _, h => simp at h hl1; omega
     |_ :: _ :: _, _, h => simp at h hl1; omega
    |u :: v :: l, h1, h2, _ => exact ⟨_, h1, hmk _ (by rw [hres]; exact ⟨u :: v :: l, rfl, h2⟩)⟩
  |pan v => rw [hres] at hr; exact hr.elim
  |ov x =>
   rw [hres] at hr
   have hno := hov x hres
   have hfresh : ∀ (i g : Nat), ow g = some (.key i) → w.heap.size ≤ g := by
    intro i g hg
    rcases hG.own g _ hg with h6 | h6 | h6
    ·exact h6
    ·exact (no_ownB hno h6).elim
    ·rw [(c5 g h6).1] at hg; cases hg
   simp only [zH6] at hr
   split at hr
   ·rename_i t
    have hlt : t < E.N := by
     cases hl : fn.results.toList with
     |nil => rw [hl] at hrs; simp [zEl] at hrs
     |cons s ss =>
      rw [hl] at hrs
      simp only [zEl, Bool.and_eq_true] at hrs
      cases s with
      |tmp t' => have := hrs.1; simp only [zOt, Bool.and_eq_true, decide_eq_true_eq] at this; exact this.2
      |cell x y => have := hrs.1; simp [zOt] at this
    have hs := hG.slots t hlt
    rw [hr] at hs
    obtain ⟨fp, k1, k2, k3⟩ := hs
    refine ⟨a'.tmps.getD t undef, res_one hrs (fun s hs1 => ?_), hmk _ (by rw [hres]; exact ⟨a'.tmps.getD t undef, fp, rfl, k1, k2, fun g hg => ⟨hfresh t g (k3 g hg).1, (k3 g hg).2⟩⟩)⟩
    cases s with
    |cell x y => simp [zOt] at hs1
    |tmp t' =>
     simp only [zOt, Bool.and_eq_true, beq_iff_eq, decide_eq_true_eq] at hs1
     obtain ⟨rfl, _⟩ := hs1
     rfl
   ·rename_i t j bs off n agg
    obtain ⟨e1, cs, e2, rfl⟩ := hr
    have hsrc : ∃ s, fn.results.toList = [s] ∧ zOt P E (.cellB t j bs off n agg) s = true := by
     cases hl : fn.results.toList with
     |nil => rw [hl] at hrs; simp [zEl] at hrs
     |cons s ss =>
      rw [hl] at hrs
      cases ss with
      |nil => simp only [zEl, Bool.and_eq_true] at hrs; exact ⟨s, rfl, hrs.1⟩
      |cons s2 ss => simp [zEl] at hrs
    obtain ⟨s, _, hs1⟩ := hsrc
    cases s with
    |tmp t' => simp [zOt] at hs1
    |cell b ty =>
     have hs1' := hs1
     simp only [zOt, Bool.and_eq_true, beq_iff_eq, decide_eq_true_eq, Bool.or_eq_true] at hs1'
     obtain ⟨⟨⟨⟨⟨rfl, ht⟩, hb⟩, ha⟩, hn⟩, h1⟩ := hs1'
     obtain ⟨nn, hj, hle⟩ := zC2 hb
     obtain ⟨bb, hbb, hv⟩ := zCz hG (x := .t t) (y := .tmp t) (by simp [zAc, ht]) e1
     have hv' : a'.tmps.getD t undef = _ := hv
     have hB := hG.boxes _ _ hj
     rw [hbb] at hB
     obtain ⟨us', fp, k1, k2, k3, k4, k5⟩ := zR4 hB n off hle cs e2
     have hrun := zBa (P := P) (w := w') ha hn h1 (us := us') (b := bb) (o := off) k1 k5
     have hfp : ∀ g ∈ fp, w.heap.size ≤ g ∧ ∀ o, m' g o = none := fun g hg => by
      obtain ⟨⟨i, _, _, i3, _⟩, i5⟩ := k4 g hg
      exact ⟨hfresh i g i3, i5⟩
     refine ⟨if agg then .agg us'.toArray else us'.headD undef, res_one hrs (fun s hs2 => ?_), hmk _ (by rw [hres]; exact ⟨if agg then .agg us'.toArray else us'.headD undef, fp, rfl, zOf k2 (by rw [k1]; exact h1), k3, hfp⟩)⟩
     ·cases s with
      |tmp t' => simp [zOt] at hs2
      |cell b' ty' =>
       have hs2' := hs2
       simp only [zOt, Bool.and_eq_true, beq_iff_eq, decide_eq_true_eq, Bool.or_eq_true] at hs2'
       obtain ⟨⟨⟨⟨⟨rfl, _⟩, _⟩, ha'⟩, hn'⟩, _⟩ := hs2'
       have hrun' := zBa (P := P) (w := w') ha' hn' h1 (us := us') (b := bb) (o := off) k1 k5
       simp only [rdR, hv', asAddr, Sem.run_bind, Sem.run_pure, Result.andThen_ok, hrun']
   ·exact hr.elim
 rintro e a' w' ⟨F, hq, hI⟩
 cases e with
 |normal => exact fin hq hI
 |ret => exact fin hq hI
 |panic ch =>
  obtain ⟨v, hv, rfl⟩ := hq
  obtain ⟨m', β, ow, hG⟩ := hI
  obtain ⟨c1, c2, c3, c4, c5⟩ := common hG
  refine ⟨hG.dfr, m', c1, c2, c3, c4, fun b hb => (c5 b hb).2 _ ?_, ?_⟩
  ·intro l hl
   simp only [Res.ioOf, hv] at hl
   cases hl
  ·rw [hv]; rfl
 |exit id => exact hq.elim
 |goto l => exact hq.elim
 |outgrown => exact hq.elim
where
 no_ownB : ∀ {as : List AV} {us : List Value} {b : Nat}, zCj as = 0 → zGg as us ≠ some b
  |[], us, b, _ => by simp [zGg]
  |x :: as, [], b, _ => by simp [zGg]
  |.own _ _ _ :: as, u :: us, b, h => by simp [zCj] at h
  |.val _ :: as, u :: us, b, h => by simpa [zGg] using no_ownB (as := as) (us := us) (by simpa [zCj] using h)
  |.io _ :: as, u :: us, b, h => by simpa [zGg] using no_ownB (as := as) (us := us) (by simpa [zCj] using h)
 res_one {fn : Func} {r : RSrc} (hrs : zEl P E [r] fn.results.toList = true) {tmps : Array Value} {w' : World} {u : Value} (h : ∀ s, zOt P E r s = true → (rdR tmps s).run P w' = .ok u w') : (results fn tmps).run P w' = .ok u w' := by
  have e : results fn tmps = (do let vs ← fn.results.mapM (rdR tmps); pure (if h : vs.size = 1 then vs[0] else .tuple vs)) := by unfold results; congr
  cases hl : fn.results.toList with
  |nil => rw [hl] at hrs; simp [zEl] at hrs
  |cons s ss =>
   rw [hl] at hrs
   cases ss with
   |cons s2 ss2 => simp [zEl] at hrs
   |nil =>
    simp only [zEl, Bool.and_eq_true] at hrs
    have h1 := h s hrs.1
    rw [e, Array.mapM_eq_mapM_toList, hl]
    simp [h1]
 RpVL.length {m : Mem} : ∀ {xs : List PVal} {us : List Value}, RpVL m xs us → us.length = xs.length
  |[], us, h => by simp only [RpVL] at h; subst h; rfl
  |x :: xs, us, h => by
   obtain ⟨u, us', rfl, _, h3⟩ := h
   simp [RpVL.length h3]
 rsVs_length {F : List Ct} : ∀ {rs : List RSrc} {xs : List PVal}, zSb F rs xs → rs.length = xs.length
  |[], xs, h => by simp only [zSb] at h; subst h; rfl
  |r :: rs, [], h => by simp [zSb] at h
  |r :: rs, x :: xs, h => by simp only [zSb] at h; simp [rsVs_length h.2]
end
end Go.Hx
end

section
/-
  THE ABSTRACT LAYER, THIRTEENTH TEXT: the rules by which simp walks the abstract code. Generic over the program. No condition.
-/
namespace Go.Hx
open Go.RowKit
variable [Glob]
section
variable {P : Program} {h h1 h2 : HCode} {Q : Exit → List Ct → Prop} {K : List Ct → Prop} {X : Value → List Ct → Prop} {F F' : List Ct}
def yAp (P : Program) (os : List HO) (K : List Ct → Prop) (X : Value → List Ct → Prop) : List Ct → Prop := fun F => zZV P os F K X
def dK (P : Program) (ds : List DO) (N : List Ct → Prop) (X : Value → Prop) : List Ct → Prop := fun F => dW P ds F N X
def dX (l : Bool) (X : Value → Prop) : Value → List Ct → Prop := fun v _ => l = true ∧ X v
def ghK (post : List Gh) (K : List Ct → Prop) : List Ct → Prop := fun F => ghW F K post
def nrm (Q : Exit → List Ct → Prop) : List Ct → Prop := fun F => Q .normal F
def yBk (Q : Exit → List Ct → Prop) : Value → List Ct → Prop := fun v F => Q (.panic [{ v, recovered := false }]) F
def yBl (ds : List DO) (F : List Ct) (Q : Exit → List Ct → Prop) : Value → Prop := fun v => ∀ F', AgW (dsW ds) F F' → Q (.panic [{ v, recovered := false }]) F'
def zWk (P : Program) (os : List HO) (K : List Ct → Prop) : List Ct → Prop := fun F => zXn P os F K
def bkK (F : List Ct) (ds : List Nat) (post : List Gh) (Q : Exit → List Ct → Prop) : List Ct → Prop := fun F1 => ghW (zTy F F1 ds) (nrm Q) post
theorem yAq : hwp P .skip Q F = Q .normal F := rfl
theorem yBm {ops : List HO} {post : List Gh} : hwp P (.reg ops false post) Q F = yAp P ops (ghK post (nrm Q)) (yBk Q) F := rfl
theorem yBn {ds : List DO} {post : List Gh} : hwp P (.drg ds post) Q F = dK P ds (ghK post (nrm Q)) (yBl ds F Q) F := rfl
theorem yAr {pre : List Gh} {ops : List HO} {post : List Gh} : hwp P (.regG pre ops post) Q F = ghW F (fun F0 => yAp P ops (ghK post (nrm Q)) (yBk Q) F0) pre := rfl
theorem yAs {pre : List Gh} {ds : List DO} {post : List Gh} : hwp P (.drgG pre ds post) Q F = ghW F (fun F0 => dK P ds (ghK post (nrm Q)) (yBl ds F0 Q) F0) pre := rfl
theorem yBo {i : Nat} {ops : List HO} {draw : Bool} {post : List Gh} : hwp P (.rdr i ops draw post) Q F = (match F.getD i .un with
    | .stk e k rows => zWk P ops (bkK F (zWj ops) post Q) (F.set i (.own e k rows))
    | _ => False) := rfl
theorem yBp : yAp P [] K X F = K F := rfl
theorem yAt {o : HO} {os : List HO} : yAp P (o :: os) K X F = hoW P o F (yAp P os K X) X := rfl
theorem yAu {N : List Ct → Prop} {X0 : Value → Prop} : dK P [] N X0 F = N F := rfl
theorem zYn {i : Nat} {l : Bool} {h : HO} {ds : List DO} {N : List Ct → Prop} {X0 : Value → Prop} : dK P (⟨i, l, h⟩ :: ds) N X0 F = hoW P h F (dK P ds N X0) (dX l X0) := rfl
theorem yCT {post : List Gh} : ghK post K F = ghW F K post := rfl
theorem yBq : nrm Q F = Q .normal F := rfl
theorem yAv {v : Value} : yBk Q v F = Q (.panic [{ v, recovered := false }]) F := rfl
theorem yAw {v : Value} {ds : List DO} : yBl ds F Q v = ∀ F', AgW (dsW ds) F F' → Q (.panic [{ v, recovered := false }]) F' := rfl
theorem yCU {l : Bool} {X0 : Value → Prop} {v : Value} : dX l X0 v F = (l = true ∧ X0 v) := rfl
theorem yCV {F0 : List Ct} {ds : List Nat} {post : List Gh} : bkK F0 ds post Q F = ghW (zTy F0 F ds) (nrm Q) post := rfl
theorem yBr {d e k : Nat} : hoW P ⟨none, .nlk d e k⟩ F K X = K (F.set d (.stk e k [])) := rfl
theorem yBs {d x : Nat} : hoW P ⟨none, .mvk d x⟩ F K X = (match F.getD x .un with
    | .stk e k rows => d ≠ x ∧ K ((F.set x (.hdr rows.length)).set d (.stk e k rows))
    | _ => False) := rfl
theorem yBt {d x : Nat} {hi : Opd} : hoW P ⟨none, .trk d x hi⟩ F K X = (match F.getD x .un, (zAh F hi).pv? with
    | .stk e k rows, some (.one (.v (.int _ n))) => d ≠ x ∧ (zAh F hi).need ∧ 0 ≤ n ∧ n ≤ rows.length ∧ K ((F.set x (.hdr rows.length)).set d (.stk e k (rows.take n.toNat)))
    | _, _ => False) := rfl
theorem yBu {d e k x : Nat} {y : Opd} : hoW P ⟨none, .apk d e k x y⟩ F K X = (match F.getD x .un, (zAh F y).pv? with
    | .stk e' k' rows, some (.one (.sl k'' rs)) => x ≠ d ∧ e' = e ∧ k' = k ∧ k'' = k ∧ (zAh F y).need ∧ (rows.length + rs.length) * 4096 ≤ 140737488355328 ∧ K ((F.set x (.hdr rows.length)).set d (.stk e k (rows ++ rs)))
    | _, _ => False) := rfl
theorem yBv {d : Nat} {ng : Bool} {x : Opd} : hoW P ⟨none, .isn d ng x⟩ F K X = (match (zAh F x).pv? with
    | some (.one (.sl _ rows)) => (zAh F x).need ∧ ∀ b : Bool, (rows ≠ [] → b = false) → K (F.set d (.pv (bv (if ng then !b else b))))
    | some (.one (.nl _)) => (zAh F x).need ∧ K (F.set d (.pv (bv (!ng))))
    | _ => False) := rfl
theorem yBw {F1 : List Ct} : zTy F F1 [] = F := rfl
theorem yAx {F1 : List Ct} {d : Nat} {ds : List Nat} : zTy F F1 (d :: ds) = zTy (F.set d (zWA (F1.getD d .un))) F1 ds := rfl
theorem yBx {a b : HCode} : hwp P (.seq a b) Q F = hwp P a (zOs (hwp P b Q) Q) F := rfl
theorem zAe {x : Opd} {a b : HCode} {t : Bool} (e : (zAh F x).pv? = some (.one (.v (.bool t)))) (n : (zAh F x).need) (ht : t = true → hwp P a Q F) (hf : t = false → hwp P b Q F) : hwp P (.cond x a b) Q F := by
  simp only [hwp, e]
  exact ⟨n, ht, hf⟩
theorem yAy {x : Opd} {a b : HCode} (e : (zAh F x).pv? = some (.one (.v (.bool true)))) (n : (zAh F x).need) (ht : hwp P a Q F) : hwp P (.cond x a b) Q F :=
  zAe e n (fun _ => ht) (fun h => by cases h)
theorem zVt {x : Opd} {a b : HCode} (e : (zAh F x).pv? = some (.one (.v (.bool false)))) (n : (zAh F x).need) (hf : hwp P b Q F) : hwp P (.cond x a b) Q F :=
  zAe e n (fun h => by cases h) (fun _ => hf)
theorem zYo {id : Nat} {a : HCode} : hwp P (.block id a) Q F = hwp P a (zFD id Q) F := rfl
theorem yAz {id : Nat} : hwp P (.exit id) Q F = Q (.exit id) F := rfl
theorem yBy : hwp P .ret Q F = Q .ret F := rfl
theorem zYp {a : HCode} : hwp P (.scope a) Q F = hwp P a (ngQ Q) F := rfl
theorem zYq : hwp P .label Q F = Q .normal F := rfl
theorem yBz : ngQ Q .normal F = Q .normal F := rfl
theorem yBA {id : Nat} : ngQ Q (.exit id) F = Q (.exit id) F := rfl
theorem yBB : ngQ Q .ret F = Q .ret F := rfl
theorem yBC {ch : List PanicEntry} : ngQ Q (.panic ch) F = Q (.panic ch) F := rfl
theorem zYr : zOs K Q .normal F = K F := rfl
theorem zYs {id : Nat} : zOs K Q (.exit id) F = Q (.exit id) F := rfl
theorem zYt : zOs K Q .ret F = Q .ret F := rfl
theorem zYu {ch : List PanicEntry} : zOs K Q (.panic ch) F = Q (.panic ch) F := rfl
theorem yAA {id : Nat} : zFD id Q .normal F = Q .normal F := rfl
theorem yAB {id id' : Nat} : zFD id Q (.exit id') F = if id' = id then Q .normal F else Q (.exit id') F := rfl
theorem yAC {id : Nat} : zFD id Q .ret F = Q .ret F := rfl
theorem yAD {id : Nat} {ch : List PanicEntry} : zFD id Q (.panic ch) F = Q (.panic ch) F := rfl
theorem yBD {d : Nat} {v : VOp} : hoW P ⟨none, .val d v⟩ F K X = ((ev F v).1 ∧ K (F.set d (ev F v).2)) := rfl
def zPJ (T : Bool) (A B : Prop) : Prop := match T with
  | true => A
  | false => B
theorem yAE {A B : Prop} : zPJ true A B = A := rfl
theorem yAF {A B : Prop} : zPJ false A B = B := rfl
theorem zUh {T T' : Bool} {A B : Prop} (h : T = T') : zPJ T A B = zPJ T' A B := by rw [h]
attribute [congr] zUh
def gdV (o : Option Bool) (p : Prop × Ct) (d : Nat) (F : List Ct) (K : List Ct → Prop) : Prop := match o with
  | none => False
  | some T => match p.2 with
    | .pv x => (T = true → p.1) ∧ K (F.set d (.gd T x))
    | c => zPJ T (p.1 ∧ K (F.set d c)) (K (F.set d (.gd false (bv false))))
theorem zVu {o o' : Option Bool} {p p' : Prop × Ct} {d : Nat} (h1 : o = o') (h2 : p = p') : gdV o p d F K = gdV o' p' d F K := by rw [h1, h2]
attribute [congr] zVu
theorem zWJ {p : Prop × Ct} {d : Nat} : gdV none p d F K = False := rfl
theorem yAG {T : Bool} {A : Prop} {x : PVal} {d : Nat} : gdV (some T) (A, .pv x) d F K = ((T = true → A) ∧ K (F.set d (.gd T x))) := rfl
theorem yAH {T : Bool} {A : Prop} {d : Nat} : gdV (some T) (A, .un) d F K = zPJ T (A ∧ K (F.set d .un)) (K (F.set d (.gd false (bv false)))) := rfl
theorem zYv {T : Bool} {A : Prop} {j off : Nat} {d : Nat} : gdV (some T) (A, .ptr j off) d F K = zPJ T (A ∧ K (F.set d (.ptr j off))) (K (F.set d (.gd false (bv false)))) := rfl
theorem yAI {T t : Bool} {A : Prop} {x : PVal} {d : Nat} : gdV (some T) (A, .gd t x) d F K = zPJ T (A ∧ K (F.set d (.gd t x))) (K (F.set d (.gd false (bv false)))) := rfl
theorem zYw {T : Bool} {A : Prop} {xs : List PVal} {d : Nat} : gdV (some T) (A, .tup xs) d F K = zPJ T (A ∧ K (F.set d (.tup xs))) (K (F.set d (.gd false (bv false)))) := rfl
theorem zYx {T : Bool} {A : Prop} {n : Nat} {d : Nat} : gdV (some T) (A, .hdr n) d F K = zPJ T (A ∧ K (F.set d (.hdr n))) (K (F.set d (.gd false (bv false)))) := rfl
theorem zYy {T : Bool} {A : Prop} {b k n : Nat} {d : Nat} : gdV (some T) (A, .hdp b k n) d F K = zPJ T (A ∧ K (F.set d (.hdp b k n))) (K (F.set d (.gd false (bv false)))) := rfl
theorem zYz {T : Bool} {A : Prop} {b k r f : Nat} {d : Nat} : gdV (some T) (A, .epp b k r f) d F K = zPJ T (A ∧ K (F.set d (.epp b k r f))) (K (F.set d (.gd false (bv false)))) := rfl
theorem zYA {T : Bool} {A : Prop} {b : Nat} {d : Nat} : gdV (some T) (A, .mph b) d F K = zPJ T (A ∧ K (F.set d (.mph b))) (K (F.set d (.gd false (bv false)))) := rfl
theorem zYB {T : Bool} {A : Prop} {e k : Nat} {rows : List (List PV)} {d : Nat} : gdV (some T) (A, .own e k rows) d F K = zPJ T (A ∧ K (F.set d (.own e k rows))) (K (F.set d (.gd false (bv false)))) := rfl
theorem zYC {T : Bool} {A : Prop} {e k : Nat} {rows : List (List PV)} {d : Nat} : gdV (some T) (A, .stk e k rows) d F K = zPJ T (A ∧ K (F.set d (.stk e k rows))) (K (F.set d (.gd false (bv false)))) := rfl
theorem yAJ {T : Bool} {A : Prop} {x : OVal} {d : Nat} : gdV (some T) (A, .ov x) d F K = zPJ T (A ∧ K (F.set d (.ov x))) (K (F.set d (.gd false (bv false)))) := rfl
theorem zYD {T : Bool} {A : Prop} {d : Nat} : gdV (some T) (A, .una) d F K = zPJ T (A ∧ K (F.set d .una)) (K (F.set d (.gd false (bv false)))) := rfl
attribute [go_sem] zWJ yAG yAH zYv yAI zYw zYx zYy zYz zYA zYB zYC yAJ zYD
theorem zYE {g : Nat × Bool} {d : Nat} {v : VOp} : hoW P ⟨some g, .val d v⟩ F K X = gdV (zDp F g) (ev F v) d F K := by
  show (match zDp F g with
    | none => False
    | some T => match (ev F v).2 with
      | .pv x => (T = true → (ev F v).1) ∧ K (F.set d (.gd T x))
      | _ => match T with
        | true => (ev F v).1 ∧ K (F.set d (ev F v).2)
        | false => K (F.set d (.gd false (bv false)))) = _
  unfold gdV
  cases zDp F g with
  | none => rfl
  | some T =>
    generalize ev F v = p
    obtain ⟨A, c⟩ := p
    cases c <;> cases T <;> rfl
theorem zSe {g : Nat × Bool} {d : Nat} {x : Opd} {r j base : Nat} {pt : List (Opd × Nat)} {n : Nat} {agg : Bool} : hoW P ⟨some g, .vlp d x r j base pt n agg⟩ F K X = (match zDp F g with
    | none => False
    | some T => zPJ T (hoW P ⟨none, .vlp d x r j base pt n agg⟩ F K X) (K (F.set d (.gd false (bv false))))) := rfl
theorem yBE : zWk P [] K F = K F := rfl
theorem yBF {os : List HO} {d : Nat} {v : VOp} : zWk P (⟨none, .val d v⟩ :: os) K F = ((ev F v).1 ∧ zWk P os K (F.set d (ev F v).2)) := rfl
def gdD (o : Option Bool) (p : Prop × Ct) (d : Nat) (F : List Ct) (K : List Ct → Prop) : Prop := match o with
  | none => False
  | some T => match p.2 with
    | .pv x => (T = true → p.1) ∧ K (F.set d (.gd T x))
    | _ => T = false ∧ K (F.set d (.gd T (bv false)))
theorem zVv {o o' : Option Bool} {p p' : Prop × Ct} {d : Nat} (h1 : o = o') (h2 : p = p') : gdD o p d F K = gdD o' p' d F K := by rw [h1, h2]
attribute [congr] zVv
theorem zWK {p : Prop × Ct} {d : Nat} : gdD none p d F K = False := rfl
theorem yAK {T : Bool} {A : Prop} {x : PVal} {d : Nat} : gdD (some T) (A, .pv x) d F K = ((T = true → A) ∧ K (F.set d (.gd T x))) := rfl
theorem yAL {T : Bool} {A : Prop} {d : Nat} : gdD (some T) (A, .un) d F K = (T = false ∧ K (F.set d (.gd T (bv false)))) := rfl
theorem zYF {T : Bool} {A : Prop} {j off : Nat} {d : Nat} : gdD (some T) (A, .ptr j off) d F K = (T = false ∧ K (F.set d (.gd T (bv false)))) := rfl
theorem yAM {T t : Bool} {A : Prop} {x : PVal} {d : Nat} : gdD (some T) (A, .gd t x) d F K = (T = false ∧ K (F.set d (.gd T (bv false)))) := rfl
theorem zYG {T : Bool} {A : Prop} {xs : List PVal} {d : Nat} : gdD (some T) (A, .tup xs) d F K = (T = false ∧ K (F.set d (.gd T (bv false)))) := rfl
theorem zYH {T : Bool} {A : Prop} {n : Nat} {d : Nat} : gdD (some T) (A, .hdr n) d F K = (T = false ∧ K (F.set d (.gd T (bv false)))) := rfl
theorem zYI {T : Bool} {A : Prop} {e k : Nat} {rows : List (List PV)} {d : Nat} : gdD (some T) (A, .own e k rows) d F K = (T = false ∧ K (F.set d (.gd T (bv false)))) := rfl
theorem zYJ {T : Bool} {A : Prop} {e k : Nat} {rows : List (List PV)} {d : Nat} : gdD (some T) (A, .stk e k rows) d F K = (T = false ∧ K (F.set d (.gd T (bv false)))) := rfl
attribute [go_sem] zWK yAK yAL zYF yAM zYG zYH zYI zYJ
theorem zYK {os : List HO} {g : Nat × Bool} {d : Nat} {v : VOp} : zWk P (⟨some g, .val d v⟩ :: os) K F = gdD (zDp F g) (ev F v) d F (zWk P os K) := by
  show (match zDp F g with
    | none => False
    | some T => match (ev F v).2 with
      | .pv x => (T = true → (ev F v).1) ∧ zWk P os K (F.set d (.gd T x))
      | _ => T = false ∧ zWk P os K (F.set d (.gd T (bv false)))) = _
  unfold gdD
  cases zDp F g with
  | none => rfl
  | some T =>
    generalize ev F v = p
    obtain ⟨A, c⟩ := p
    cases c <;> rfl
theorem zP3 {os : List HO} {f : FuncId} {args : List (Opd × AM)} {d : Nat} {x : Value} (h1 : (zBC F args).1) (h2 : Contract P f (zBC F args).2 { res := .val (.one (.v x)) }) (h3 : zWk P os K (F.set d (.pv (.one (.v x))))) : zWk P (⟨none, .call (some d) f args⟩ :: os) K F :=
  ⟨h1, x, h2, h3⟩
theorem zAv {f : FuncId} {args : List (Opd × AM)} {d : Option Nat} {x : PVal} {io : List PV} (h1 : (zBC F args).1) (h2 : Contract P f (zBC F args).2 { res := .val x, io := io }) (h3 : K (zTl (zAK F (some io) args) d (.pv x))) : hoW P ⟨none, .call d f args⟩ F K X :=
  ⟨h1, _, h2, h3⟩
theorem zBi {f : FuncId} {args : List (Opd × AM)} {d : Option Nat} {x : PVal} {xs : List PVal} {io : List PV} (h1 : (zBC F args).1) (h2 : Contract P f (zBC F args).2 { res := .tup (x :: xs), io := io }) (h3 : K (zTl (zAK F (some io) args) d (.tup (x :: xs)))) : hoW P ⟨none, .call d f args⟩ F K X :=
  ⟨h1, _, h2, h3⟩
theorem zDu {f : FuncId} {args : List (Opd × AM)} {d : Option Nat} {io : List PV} (h1 : (zBC F args).1) (h2 : Contract P f (zBC F args).2 { res := .tup [], io := io }) (h3 : K (zTl (zAK F (some io) args) d .un)) : hoW P ⟨none, .call d f args⟩ F K X :=
  ⟨h1, _, h2, h3⟩
theorem zAz {g : Nat × Bool} {f : FuncId} {args : List (Opd × AM)} {d : Nat} {T : Bool} {x : PVal} (hg : zDp F g = some T) (h1 : T = true → (zBC F args).1) (h2 : T = true → Contract P f (zBC F args).2 { res := .val x }) (h3 : K (F.set d (.gd T x))) : hoW P ⟨some g, .call (some d) f args⟩ F K X := by
  show hoW P ⟨some g, .call (some d) f args⟩ F _ X
  unfold hoW
  simp only [hg]
  exact ⟨h1, x, h2, h3⟩
theorem zMy {g : Nat × Bool} {f : FuncId} {x0 : Opd} {caps : List PV} {args : List (Opd × AM)} {d : Nat} {T : Bool} {x : PVal} (hg : zDp F g = some T) (e : (zAh F x0).pv? = some (.one (.clo f caps))) (n : T = true → (zAh F x0).need) (h1 : T = true → (zBC F args).1)
    (h2 : T = true → Contract P f ((zBC F args).2 ++ caps.map fun c => .val (.one c)) { res := .val x }) (h3 : K (F.set d (.gd T x))) : hoW P ⟨some g, .callv (some d) x0 args⟩ F K X := by
  unfold hoW
  simp only [hg, e]
  exact ⟨fun h => ⟨n h, h1 h⟩, x, h2, h3⟩
theorem zDA {f : FuncId} {x0 : Opd} {caps : List PV} {args : List (Opd × AM)} {d : Option Nat} {x : PVal} {io : List PV} (e : (zAh F x0).pv? = some (.one (.clo f caps))) (n : (zAh F x0).need) (h1 : (zBC F args).1)
    (h2 : Contract P f ((zBC F args).2 ++ caps.map fun c => .val (.one c)) { res := .val x, io := io }) (h3 : K (zTl (zAK F (some io) args) d (.pv x))) : hoW P ⟨none, .callv d x0 args⟩ F K X := by
  show opW P (.callv d x0 args) F _ X
  simp only [opW, e]
  exact ⟨n, h1, _, h2, h3⟩
theorem zVw {p q : Prop} : (p → p ∧ q) = (p → q) := propext ⟨fun h a => (h a).2, fun h a => ⟨a, h a⟩⟩
theorem zWL (c : Ct) (F : List Ct) : (c :: F).getD 0 .un = c := rfl
theorem zWM (c : Ct) (F : List Ct) (n : Nat) : (c :: F).getD (n + 1) .un = F.getD n .un := by simp
theorem zWN (c d : Ct) (F : List Ct) : (c :: F).set 0 d = d :: F := rfl
theorem zWO (c d : Ct) (F : List Ct) (n : Nat) : (c :: F).set (n + 1) d = c :: F.set n d := rfl
theorem zWP : sets F [] = F := rfl
theorem zVx {i : Nat} {c : Ct} {l : List (Nat × Ct)} : sets F ((i, c) :: l) = sets (F.set i c) l := rfl
theorem zAE {a : HCode} {α : Type} (us : α → List (Nat × Ct)) (μ : α → Nat) (inv : α → Prop) (s0 : α) (h0 : Le F (sets F (us s0))) (h1 : inv s0)
    (hr : ∀ s, inv s → hwp P a (zOs (fun F2 => ∃ s', μ s' < μ s ∧ inv s' ∧ Le F2 (sets F (us s'))) Q) (sets F (us s))) : hwp P (.loop a) Q F :=
  ⟨fun n F' => ∃ s, μ s = n ∧ inv s ∧ F' = sets F (us s), ⟨μ s0, _, h0, s0, rfl, h1, rfl⟩, by
    rintro n F1 ⟨s, rfl, hs, rfl⟩
    have e : (fun F2 => ∃ n' F', n' < μ s ∧ Le F2 F' ∧ (fun n F' => ∃ s, μ s = n ∧ inv s ∧ F' = sets F (us s)) n' F') = (fun F2 => ∃ s', μ s' < μ s ∧ inv s' ∧ Le F2 (sets F (us s'))) := by
      funext F2
      apply propext
      constructor
      · rintro ⟨n', F', h2, h3, s', rfl, h4, rfl⟩
        exact ⟨s', h2, h4, h3⟩
      · rintro ⟨s', h2, h3, h4⟩
        exact ⟨_, _, h2, h4, s', rfl, h3, rfl⟩
    rw [e]
    exact hr s hs⟩
theorem zAu : Le [] [] = True := by simp [Le]
theorem zAl {c d : Ct} {F G : List Ct} : Le (c :: F) (d :: G) = (leC c d ∧ Le F G) := by
  simp only [Le, List.cons.injEq, eq_iff_iff]
  constructor
  · rintro ⟨c', cs', ⟨rfl, rfl⟩, h⟩; exact h
  · exact fun h => ⟨_, _, ⟨rfl, rfl⟩, h⟩
theorem zAT {c : Ct} : leC c .un = True := by simp [leC]
theorem zAm {c : Ct} : leC c c = True := by simp [leC]
theorem zAD {c d : Ct} (h : c = d) : leC c d := .inr (.inl h.symm)
theorem zYL : leC (.pv (iv 0)) (.pv (iv ((0 : Nat) : Int))) = True := by simp [leC]
theorem zAs {n m : Int} (h : n = m) : leC (.pv (iv n)) (.pv (iv m)) := zAD (by rw [h])
theorem zXE {e k : Nat} {r r' : List (List PV)} (h : r = r') : leC (.own e k r) (.own e k r') := zAD (by rw [h])
theorem zAx {e k k' : Nat} : leC (.pv (.one (.nl k))) (.own e k' []) := .inr (.inr rfl)
theorem yBG : ghW F K [] = K F := rfl
theorem yBH {j base n : Nat} {r : List Gh} : ghW F K (.frz j base n :: r) = (match zAZ F base n with
    | some cs => ghW (zAa (F.map (zVq j cs)) base (List.replicate n .un)) K r
    | none => False) := rfl
theorem zWQ {l : List Nat} {r : List Gh} : ghW F K (.forget l :: r) = ghW (zB6 F l) K r := rfl
theorem yBI : zB6 F [] = F := rfl
theorem yAN {i : Nat} {r : List Nat} : zB6 F (i :: r) = zB6 (F.set i .un) r := rfl
theorem yBJ {i : Nat} : zAa F i [] = F := rfl
theorem yAO {i : Nat} {c : Ct} {cs : List Ct} : zAa F i (c :: cs) = zAa (F.set i c) (i + 1) cs := rfl
theorem yBK {d x : Nat} : hoW P ⟨none, .mvo d x⟩ F K X = (match F.getD x .un with
    | .own e k rows => d ≠ x ∧ K ((F.set x (.pv (.one (.sl k rows)))).set d (.own e k rows))
    | _ => False) := rfl
theorem yBL {d e k : Nat} : hoW P ⟨none, .nlo d e k⟩ F K X = K (F.set d (.own e k [])) := rfl
theorem yBM {d j base off e k : Nat} {x : Opd} : hoW P ⟨none, .ldo d x j base off e k⟩ F K X = (match zAh F x, F.getD (base + off) .un with
    | .ptr j' off', .own e' k' rows => j' = j ∧ off' = off ∧ e' = e ∧ k' = k ∧ K ((F.set (base + off) (.pv (.one (.sl k rows)))).set d (.own e k rows))
    | .ptr j' off', .pv (.one (.nl _)) => j' = j ∧ off' = off ∧ K (F.set d (.own e k []))
    | _, _ => False) := rfl
theorem yBN {j base off n : Nat} {x y : Opd} : hoW P ⟨none, .sto x j base off n y⟩ F K X = (match zAh F x, (zAh F y).pv? with
    | .ptr j' off', some p => j' = j ∧ off' = off ∧ p.cells.length = n ∧ (zAh F y).need ∧ K (zAa F (base + off) (p.cells.map fun c => .pv (.one c)))
    | _, _ => False) := rfl
theorem yBO {j base sz : Nat} {x y : Opd} : hoW P ⟨none, .std x j base sz y⟩ F K X = (match zAh F x, (zAh F y).pv? with
    | .ptr j' off', some p => j' = j ∧ off' < sz ∧ p.cells.length = 1 ∧ (zAh F y).need ∧ K (zAa F (base + off') (p.cells.map fun c => .pv (.one c)))
    | _, _ => False) := rfl
theorem yBP {j base off y : Nat} {x : Opd} : hoW P ⟨none, .stw x j base off y⟩ F K X = (match zAh F x, F.getD y .un with
    | .ptr j' off', .own e k rows => j' = j ∧ off' = off ∧ K ((F.set y (.pv (.one (.sl k rows)))).set (base + off) (.own e k rows))
    | _, _ => False) := rfl
theorem zYM {d j base : Nat} {cells : List PV} : hoW P ⟨none, .alloc d j base cells⟩ F K X = K (zAa ((F.map (zDH j)).set d (.ptr j 0)) base (cells.map fun c => .pv (.one c))) := rfl
theorem yBQ {d j base n : Nat} {x : Opd} : hoW P ⟨none, .box d j base n x⟩ F K X = (match (zAh F x).pv? with
    | some p => p.cells.length = n ∧ (zAh F x).need ∧ K (zAa ((F.map (zDH j)).set d (.ptr j 0)) base (p.cells.map fun c => .pv (.one c)))
    | none => False) := rfl
theorem yBR {d j base : Nat} {cells : List PV} : hoW P ⟨none, .alo d j base cells⟩ F K X = (F.getD base .un = .una ∧ K (zAa (F.set d (.ptr j 0)) base (cells.map fun c => .pv (.one c)))) := rfl
theorem yBS {d j base n : Nat} {x : Opd} : hoW P ⟨none, .bxo d j base n x⟩ F K X = (match (zAh F x).pv? with
    | some p => p.cells.length = n ∧ (zAh F x).need ∧ F.getD base .un = .una ∧ K (zAa (F.set d (.ptr j 0)) base (p.cells.map fun c => .pv (.one c)))
    | none => False) := rfl
theorem yBT {d e k x : Nat} {y : Opd} : hoW P ⟨none, .app d e k (.t x) y⟩ F K X = (match F.getD x .un, (zAh F y).pv? with
    | .own e' k' rows, some (.one (.sl k'' rs)) => x ≠ d ∧ e' = e ∧ k' = k ∧ k'' = k ∧ (zAh F y).need ∧ zL9 P e (rows.length + rs.length) ∧ K ((F.set x (.pv (.one (.sl k rows)))).set d (.own e k (rows ++ rs)))
    | _, _ => False) := rfl
theorem yBU {d e k : Nat} {parts : List Opd} : hoW P ⟨none, .bsl d e k parts⟩ F K X = ((zDj F k parts).1 ∧ K (F.set d (.own e k (zDj F k parts).2))) := rfl
theorem yBV {d e k : Nat} : hoW P ⟨none, .vnl d e k⟩ F K X = K (F.set d (.ov (.one (.os none e k [])))) := rfl
theorem zWR {pb : Option Nat} {e k : Nat} {rows : List (List OV)} : zM6 (.one (.os pb e k rows)) = .hdr rows.length := rfl
theorem zVy {cs : List OV} : zM6 (.agg cs) = .un := rfl
theorem zUi : zM6 (.one .hole) = .un := rfl
theorem zYN {x : PV} : zM6 (.one (.p x)) = .un := rfl
theorem zWS {b : Nat} {ks : List Value} {vs : List OV} : zM6 (.one (.mp b ks vs)) = .un := rfl
attribute [go_sem] zWR zVy zUi zYN zWS
theorem yBW {d x : Nat} : hoW P ⟨none, .vmv d x⟩ F K X = (match F.getD x .un with
    | .ov v => d ≠ x ∧ K ((F.set x (zM6 v)).set d (.ov v))
    | _ => False) := rfl
theorem yBX {d j base off n : Nat} {x : Opd} {agg : Bool} : hoW P ⟨none, .vld d x j base off n agg⟩ F K X = (match zAh F x, zC1 F (base + off) n with
    | .ptr j' off', some cs => j' = j ∧ off' = off ∧ K ((zAa F (base + off) (zAN F (base + off) n)).set d (.ov (zXl agg cs)))
    | _, _ => False) := rfl
theorem yBY {x : Opd} {j base off n y : Nat} : hoW P ⟨none, .vst x j base off n y⟩ F K X = (match zAh F x, F.getD y .un with
    | .ptr j' off', .ov v => j' = j ∧ off' = off ∧ v.cells.length = n ∧ K (zAa (F.set y .un) (base + off) (v.cells.map zD2))
    | _, _ => False) := rfl
theorem yBZ {d e k x : Nat} {y : Opd} : hoW P ⟨none, .vap d e k x y⟩ F K X = (match F.getD x .un with
    | .ov (.one (.os _ e' k' rows)) => (∀ n, y = .t n → x ≠ n) ∧ e' = e ∧ k' = k ∧ (zM2 F k y).1 ∧ (rows.length + (zM2 F k y).2.length) * 4096 ≤ 140737488355328 ∧ K ((clr F (F.set x .un) y).set d (.ov (.one (.os none e k (rows ++ (zM2 F k y).2)))))
    | _ => False) := rfl
theorem yB0 {d e k : Nat} {y : Opd} : hoW P ⟨none, .vbp d e k y⟩ F K X = ((zDI F y).1 ∧ (zDI F y).2.length = k ∧ K ((clr F F y).set d (.ov (.one (.os none e k [(zDI F y).2]))))) := rfl
theorem yB1 {d off n : Nat} {zs : List PV} {y : Opd} : hoW P ⟨none, .vbd d zs off n y⟩ F K X = ((zDI F y).1 ∧ (zDI F y).2.length = n ∧ off + n ≤ zs.length ∧ K ((clr F F y).set d (.ov (.agg ((zs.take off).map .p ++ (zDI F y).2 ++ (zs.drop (off + n)).map .p))))) := rfl
theorem yAP {d off n : Nat} {zs : List PV} {parts : List (Nat × Nat × Opd)} {y : Opd} : hoW P ⟨none, .vbe d zs parts off n y⟩ F K X = ((zBf F zs parts).1 ∧ (zBf F zs parts).2.length = zs.length ∧ (zDI F y).1 ∧ (zDI F y).2.length = n ∧ off + n ≤ zs.length ∧ K ((clr F F y).set d (.ov (.agg (((zBf F zs parts).2.take off).map .p ++ (zDI F y).2 ++ ((zBf F zs parts).2.drop (off + n)).map .p))))) := rfl
theorem yAQ {d j base n x : Nat} : hoW P ⟨none, .vby d j base n x⟩ F K X = (match F.getD x .un with
    | .ov v => v.cells.length = n ∧ F.getD base .un = .una ∧ K (zAa ((F.set x .un).set d (.ptr j 0)) base (v.cells.map zD2))
    | _ => False) := rfl
theorem yB2 {d e k x : Nat} : hoW P ⟨none, .vbs d e k x⟩ F K X = (match F.getD x .un with
    | .ov v => v.cells.length = k ∧ K ((F.set x .un).set d (.ov (.one (.os none e k [v.cells]))))
    | _ => False) := rfl
theorem yB3 {d j base n x : Nat} : hoW P ⟨none, .vbx d j base n x⟩ F K X = (match F.getD x .un with
    | .ov v => v.cells.length = n ∧ K (zAa ((((F.set x .un).map (zDH j))).set d (.ptr j 0)) base (v.cells.map zD2))
    | _ => False) := rfl
theorem yB4 {x : Opd} {r kk : Nat} {k y : Opd} : hoW P ⟨none, .mps x r kk k y⟩ F K X = zOa F x r kk k (fun b ks vs kv => (∀ s, y = .t s → s ≠ r) ∧ (zPS F y).1 ∧ match (zPS F y).2 with
    | some c => K ((clr F F y).set r (.ov (.one (zRZ b ks vs kv c))))
    | _ => False) := rfl
theorem yB5 {d : Nat} {x : Opd} {r kk : Nat} {k : Opd} {z : PV} {ok : Bool} : hoW P ⟨none, .mpl d x r kk k z ok⟩ F K X = zOa F x r kk k (fun _ ks vs kv => match zR0 vs z (zGc ks kv) with
    | some v => K (F.set d (if ok then .tup [.one v, bv (zGc ks kv).isSome] else .pv (.one v)))
    | none => False) := rfl
theorem yAR {d e k : Nat} {zs : List PV} {x : Opd} : hoW P ⟨none, .vmk d e k zs x⟩ F K X = (match (zAh F x).pv? with
    | some (.one (.v (.int _ n))) => (zAh F x).need ∧ 0 ≤ n ∧ n * 4096 ≤ 140737488355328 ∧ zs.length = k ∧ K (F.set d (.ov (.one (.os none e k (List.replicate n.toNat (zs.map .p))))))
    | _ => False) := rfl
theorem yB6 {d x : Nat} {hi : Opd} : hoW P ⟨none, .vtr d x hi⟩ F K X = (match F.getD x .un, (zAh F hi).pv? with
    | .ov (.one (.os pb e k rows)), some (.one (.v (.int _ n))) => d ≠ x ∧ (zAh F hi).need ∧ 0 ≤ n ∧ n ≤ rows.length ∧ K ((F.set x .un).set d (.ov (.one (.os pb e k (rows.take n.toNat)))))
    | _, _ => False) := rfl
def yC : Option PVal → Ct
  | some p => .pv p
  | none => .un
theorem zYO {p : PVal} : yC (some p) = .pv p := rfl
theorem zYP : yC none = .un := rfl
attribute [go_sem] zYO zYP
theorem yB7 {d : Nat} {x : Opd} {r j base : Nat} {pt : List (Opd × Nat)} {n : Nat} {agg : Bool} : hoW P ⟨none, .vlp d x r j base pt n agg⟩ F K X = atV F x r pt (fun _ _ _ _ _ rows i f => f + n ≤ (rows.getD i []).length ∧ match zGi (((rows.getD i []).drop f).take n) with
    | some ps => K (F.set d (.pv (if agg then .agg ps else .one (ps.headD (.nl 0)))))
    | none => False) := rfl
theorem yB8 {x : Opd} {r j base : Nat} {pt : List (Opd × Nat)} {n : Nat} {y : Opd} : hoW P ⟨none, .vse x r j base pt n y⟩ F K X = atV F x r pt (fun root p b e k rows i f => (∀ s, y = .t s → s ≠ r) ∧ (zDI F y).1 ∧ (zDI F y).2.length = n ∧ f + n ≤ (rows.getD i []).length ∧
    K ((clr F F y).set r (.ov (.one (root.upd p (.os (some b) e k (rows.set i (zTh (rows.getD i []) f (zDI F y).2)))))))) := rfl
theorem yB9 {s j base : Nat} {pt : List (Opd × Nat)} {r : List Gh} : ghW F K (.pin s j base pt :: r) = (match F.getD s .un with
    | .ov (.one root) => match root.get (zCM F pt).2 with
      | some (.os none e k rows) => (zCM F pt).1 ∧ ∀ b, ghW (F.set s (.ov (.one (root.upd (zCM F pt).2 (.os (some b) e k rows))))) K r
      | _ => False
    | _ => False) := rfl
theorem yCa {s j base : Nat} {pt : List (Opd × Nat)} {r : List Gh} : ghW F K (.unp s j base pt :: r) = (match F.getD s .un with
    | .ov (.one root) => match root.get (zCM F pt).2 with
      | some (.os _ e k rows) => (zCM F pt).1 ∧ ghW (F.set s (.ov (.one (root.upd (zCM F pt).2 (.os none e k rows))))) K r
      | _ => False
    | _ => False) := rfl
theorem yCb {s j base : Nat} {r : List Gh} : ghW F K (.vfr s j base :: r) = (match F.getD s .un with
    | .ov (.one root) => match root.frz with
      | some x => ghW (F.set s (.pv (.one x))) K r
      | none => False
    | .ov (.agg cs) => match zRV cs with
      | some xs => ghW (F.set s (.pv (.agg xs))) K r
      | none => False
    | _ => False) := rfl
theorem yCc {s j base : Nat} {pt : List (Opd × Nat)} {r : List Gh} : ghW F K (.vfp s j base pt :: r) = (match F.getD s .un with
    | .ov (.one root) => match root.get (zCM F pt).2 with
      | some y => match y.frz with
        | some x => (zCM F pt).1 ∧ ghW (F.set s (.ov (.one (root.upd (zCM F pt).2 (.p x))))) K r
        | none => False
      | none => False
    | _ => False) := rfl
theorem yCd : zCM F [] = (True, []) := rfl
theorem zYQ {x : OV} : x.get [] = some x := by cases x <;> rfl
theorem zYR {x y : OV} : x.upd [] y = y := by cases x <;> rfl
theorem yAS {b : Option Nat} {e k : Nat} {rows : List (List OV)} {rs : List (List PV)} (h : zDZ rows = some rs) : (OV.os b e k rows).frz = some (.sl k rs) := by simp only [OV.frz, h]
theorem zVz : ∀ (r : List PV), zRV (r.map OV.p) = some r
  | [] => rfl
  | x :: r => by simp only [List.map_cons, zRV, OV.frz, zVz r]
theorem zP4 : ∀ (rows : List (List PV)), zDZ (rows.map fun r => r.map OV.p) = some rows
  | [] => rfl
  | r :: rows => by simp only [List.map_cons, zDZ, zVz, zP4 rows]
theorem yCe {x : Opd} : hoW P ⟨none, .pan x⟩ F K X = (match (zAh F x).pv? with
    | some (.one (.v (.iface t u))) => (zAh F x).need ∧ X (.iface t u) F
    | _ => False) := rfl
section
variable {E : Env} {base : Nat} {av : List AV} {t : Nat} {x : PVal}
theorem zAg {p : PVal} (e : (zAh F (.t t)).pv? = some p) (n : (zAh F (.t t)).need) (h : x = p ∨ x = p.norm) (hio : ioOf av = none := by rfl) : zCH E base av [.tmp t] { res := .val x } .ret F := by
  refine ⟨?_, fun cs h => by rw [hio] at h; cases h⟩
  simp only [zH6, rsV, e]
  exact ⟨n, h⟩
theorem zOv {cells io : List PV} (hio : ioOf av = some cells) (hc : zAZ F base cells.length = some io) : zCH E base av [] { res := .tup [], io := io } .ret F :=
  ⟨rfl, fun cs h => by rw [hio] at h; injection h with h; subst h; exact hc⟩
theorem zBU {rs : List RSrc} {xs : List PVal} (hn : ∀ r, rs ≠ [r]) (h : zSb F rs xs) (hio : ioOf av = none := by rfl) : zCH E base av rs { res := .tup xs } .ret F := by
  refine ⟨?_, fun cs h => by rw [hio] at h; cases h⟩
  simp only [zH6]
  first
    | exact h
    | (split
       · rename_i r; exact (hn r rfl).elim
       · exact h)
theorem zUj {j bs off n : Nat} {agg : Bool} {cs : List PV} (e : F.getD t .un = .ptr j off) (h : zAZ F (bs + off) n = some cs) (hx : x = (if agg then PVal.agg cs else .one (cs.headD (.nl 0))) ∨ x = (if agg then PVal.agg cs else .one (cs.headD (.nl 0))).norm) (hio : ioOf av = none := by rfl) : zCH E base av [.cellB t j bs off n agg] { res := .val x } .ret F := by
  refine ⟨?_, fun cs h => by rw [hio] at h; cases h⟩
  simp only [zH6, rsV, e, h]
  exact ⟨trivial, trivial, hx⟩
theorem zP5 {j bs off n : Nat} {agg : Bool} {cs : List PV} (e : F.getD t .un = .ptr j off) (h : zAZ F (bs + off) n = some cs) (hx : x = if agg then .agg cs else .one (cs.headD (.nl 0))) (hio : ioOf av = none := by rfl) : zCH E base av [.cellB t j bs off n agg] { res := .val x } .ret F := zUj e h (.inl hx) hio
theorem zAW {p : PVal} (e : (zAh F (.t t)).pv? = some p) (n : (zAh F (.t t)).need) (h : x = p ∨ x = p.norm) : rsV F (.tmp t) x := by
  simp only [rsV, e]; exact ⟨n, h⟩
theorem zTK {j bs off n : Nat} {agg : Bool} {cs : List PV} (e : F.getD t .un = .ptr j off) (h : zAZ F (bs + off) n = some cs) (hx : x = (if agg then PVal.agg cs else .one (cs.headD (.nl 0))) ∨ x = (if agg then PVal.agg cs else .one (cs.headD (.nl 0))).norm) : rsV F (.cellB t j bs off n agg) x := by
  simp only [rsV, e, h]; exact ⟨trivial, trivial, hx⟩
end
end
attribute [go_sem ↓] yAP yAQ yB0 yB1 zYp zYq yBz yBA yBB yBC yAE yAF yAq yBm yBn yAr yAs yBo yBp yAt yAu zYn yCT yBq yAv yAw yCU yCV yBr yBs yBt yBu yBv yBx zYo yAz yBy zYr zYs zYt zYu yAA yAB yAC yAD yBV yBW yBX yBY yBZ yB6 yAR yB2 yB3 yB9 yCa yCb yCc yBD zYE zSe yBK yBL yBM yBN yBO yBP zYM yBQ yBR yBS yBT yBU yCe yBE yBF zYK yBG zWQ yBH
attribute [go_sem] zZz implies_true and_self zVw Bool.not_eq_true' Bool.not_eq_false' Bool.not_not decide_eq_true_eq decide_eq_false_iff_not Nat.not_lt Int.not_lt Int.not_le gt_iff_lt ge_iff_le zYL yCd zYQ zYR OVal.cells zD2 zPR zC1 zWq zAN zXl zDI zM2 clr zWL zWM zWN zWO ev zAh Ct.pv? Ct.need zM4 zN3 true_and and_true zDp zWj zWA yBw yAx List.cons_append List.nil_append yBI yAN yBJ yAO zWP zVx zCb zDj zBf zH9 PVal.cells PVal.norm PV.norm zAZ zIN zBC zDH zVq zTl zAK zDt zA9 zGh zDG zCA if_true if_false Bool.false_eq_true imp_self forall_const List.map_cons List.map_nil List.length_cons List.length_nil Nat.zero_add ite_true ite_false List.take_succ_cons List.take_zero List.drop_zero List.drop_succ_cons List.headD_cons Nat.le_refl beq_true beq_false cond_true cond_false Bool.and_true Bool.true_and Bool.and_false Bool.false_and Int.toNat_natCast ne_eq not_false_eq_true not_true_eq_false List.getElem?_cons_zero List.getElem?_cons_succ zIO List.replicate bad
end Go.Hx
end

section
/-
 Documents as plain Lean data, and what the walks say of them. No condition.
-/
namespace Go.Hx
variable [Glob]
theorem Contract.av {P : Go.Program} {f : Nat} {av av' : List AV} {r : RV} (h : Contract P f av r) (e : av' = av) : Contract P f av' r := e ▸ h
abbrev Bys := List UInt8
structure Nd where
 up : Int
 tag : Bys
 id : Bys
 cls : List Bys
 att : List (Bys × Bys)
 deriving DecidableEq, Inhabited
abbrev bI (n : Int) : PV := .v (.int .i64 n)
abbrev bS (l : Bys) : PV := .v (mkS l)
abbrev bB (b : Bool) : PV := .v (.bool b)
def zOw (l : List Bys) : List (List PV) := l.map fun c => [bS c]
def zVA (l : List (Bys × Bys)) : List (List PV) := l.map fun a => [bS a.1, bS a.2]
def ndV (x : Nd) : List PV := [bI x.up, bS x.tag, bS x.id, .sl 1 (zOw x.cls), .sl 2 (zVA x.att)]
def zXF (d : List Nd) : List (List PV) := d.map ndV
def zHq (d : List Nd) : PVal := .agg [.sl 5 (zXF d)]
def zDJ (l : List Int) : List (List PV) := l.map fun n => [bI n]
theorem zAq (d : List Bys) : (zOw d).length = d.length := by simp [zOw]
theorem zAr (d : List (Bys × Bys)) : (zVA d).length = d.length := by simp [zVA]
theorem zAw (d : List Nd) : (zXF d).length = d.length := by simp [zXF]
theorem zAk (d : List Int) : (zDJ d).length = d.length := by simp [zDJ]
theorem zTL (d : List Bys) (i : Nat) (h : i < d.length) : (zOw d).getD i [] = [bS (d.getD i [])] := by simp [zOw, h]
theorem zLT (d : List (Bys × Bys)) (i : Nat) (h : i < d.length) : (zVA d).getD i [] = [bS (d.getD i default).1, bS (d.getD i default).2] := by simp [zVA, h]
theorem zCr (d : List Nd) (i : Nat) (h : i < d.length) : (zXF d).getD i [] = ndV (d.getD i default) := by simp [zXF, h]
theorem zGn (d : List Int) (i : Nat) (h : i < d.length) : (zDJ d).getD i [] = [bI (d.getD i 0)] := by simp [zDJ, h]
theorem zGo {n : Int} (h1 : -9223372036854775808 ≤ n) (h2 : n ≤ 9223372036854775807) : inR .i64 n := ⟨h1, h2⟩
theorem zAd {p q : Prop} (hq : q) (hp : p := by (first | omega | exact zGo (by omega) (by omega) | exact fun _ => zGo (by omega) (by omega) | exact yBi (by omega) | assumption | trivial | (intros; omega) | (intro s h; injection h with h; subst h; decide) | (simp_all; done) | (intros; simp [*]; done) | (simp_all; omega) | grind)) : p ∧ q := ⟨hp, hq⟩
theorem zAn {n m : Bool} (h : n = m) : leC (.pv (bv n)) (.pv (bv m)) := zAD (by rw [h])
theorem zP6 {α : Type} {a b : List α} {i : Nat} (d : α) (h : a.take i = b.take i) (ha : i < a.length) (hb : i < b.length) (e : a.getD i d = b.getD i d) : a.take (i + 1) = b.take (i + 1) := by
 rw [List.take_succ_eq_append_getElem ha, List.take_succ_eq_append_getElem hb, h]
 simp [ha, hb] at e
 rw [e]
theorem zUk {α : Type} {a b : List α} {i : Nat} (d : α) (e : a.getD i d ≠ b.getD i d) : a ≠ b := fun h => e (by rw [h])
theorem zUl {α : Type} {a b : List α} (hl : a.length = b.length) (h : a.take a.length = b.take a.length) : a = b := by
 rw [List.take_length, hl, List.take_length] at h; exact h
theorem zGp {k : Nat} {rows : List (List PV)} (h : PV.fits (.sl k rows)) : rows.length ≤ 9223372036854775807 := by
 simp only [PV.fits, maxLen] at h; omega
def zP7 (c : UInt8) : Bool := decide (97 ≤ c.toNat ∧ c.toNat ≤ 122) || decide (48 ≤ c.toNat ∧ c.toNat ≤ 57) || decide (c.toNat = 45)
def zYS (c : UInt8) : Bool := decide (32 ≤ c.toNat ∧ c.toNat ≤ 126) && !decide (c.toNat = 34)
def zCT (s : Bys) : Bool := decide (1 ≤ s.length ∧ s.length ≤ 12) && decide (97 ≤ (s.getD 0 0).toNat ∧ (s.getD 0 0).toNat ≤ 122) && s.all zP7
def zGq (s : Bys) : Bool := decide (s.length ≤ 16) && s.all zYS
def cOk (l : List Bys) (k : Nat) : Bool := zCT (l.getD k []) && (decide (k = 0) || Op.bytesLess (l.getD (k - 1) []) (l.getD k []))
def okC (l : List Bys) (i : Nat) : Bool := (List.range i).all (cOk l)
def aOk (l : List (Bys × Bys)) (k : Nat) : Bool := zCT (l.getD k default).1 && zGq (l.getD k default).2 && (decide (k = 0) || Op.bytesLess (l.getD (k - 1) default).1 (l.getD k default).1)
def okA (l : List (Bys × Bys)) (i : Nat) : Bool := (List.range i).all (aOk l)
def zLU (x : Nd) : Bool := zCT x.tag && (x.id == [] || zCT x.id) && decide (x.cls.length ≤ 6) && decide (x.att.length ≤ 4) && okC x.cls x.cls.length && okA x.att x.att.length
theorem zEP {p : Nat → Bool} {i : Nat} : (List.range (i + 1)).all p = ((List.range i).all p && p i) := by
 rw [List.range_succ, List.all_append]; simp
theorem zBG {p : Nat → Bool} {n i : Nat} (h : (List.range n).all p = true) (hi : i < n) : p i = true := by
 rw [List.all_eq_true] at h
 exact h i (List.mem_range.2 hi)
theorem zP8 {p : Nat → Bool} {n i : Nat} (h : (List.range n).all p = true) (hi : i ≤ n) : (List.range i).all p = true := by
 rw [List.all_eq_true] at *
 exact fun x hx => h x (List.mem_range.2 (Nat.lt_of_lt_of_le (List.mem_range.1 hx) hi))
def zBb (d : List Nd) (i : Nat) : Int := (d.getD i default).up
def zBD (d : List Nd) : Nat → Int → List Int
 |0, _ => []
 |f + 1, k => if k < 0 then [] else k :: zBD d f (zBb d k.toNat)
def zZq (d : List Nd) (i : Nat) : Bool := if i = 0 then decide (zBb d 0 = -1) else (zBD d i ((i : Int) - 1)).contains (zBb d i)
def zUm (d : List Nd) (i : Nat) : Bool := zLU (d.getD i default) && zZq d i
def zD4 (d : List Nd) (n : Nat) : Bool := (List.range n).all (zUm d)
def zAS (d : List Nd) : Int := if 1 ≤ d.length ∧ d.length ≤ 64 then (if zD4 d d.length then 0 else 1) else 2
theorem zDv {d : List Nd} : ∀ (f : Nat) (k : Int), (∀ j : Nat, (j : Int) ≤ k → zBb d j < j) → ∀ x ∈ zBD d f k, 0 ≤ x ∧ x ≤ k
 |0, k, _, x, hx => by simp [zBD] at hx
 |f + 1, k, h, x, hx => by
  simp only [zBD] at hx
  split at hx
  ·cases hx
  ·rename_i hk
   rcases List.mem_cons.1 hx with rfl | hx
   ·omega
   ·have h1 := h k.toNat (by omega)
    have := zDv f (zBb d k.toNat) (fun j hj => h j (by omega)) x hx
    omega
theorem zBc {d : List Nd} : ∀ {n : Nat}, zD4 d n = true → ∀ j, j < n → -1 ≤ zBb d j ∧ zBb d j < j
 |0, _, j, hj => by omega
 |n + 1, h, j, hj => by
  have h0 : zD4 d n = true := zP8 h (Nat.le_succ n)
  by_cases hjn : j < n
  ·exact zBc h0 j hjn
  ·have e : j = n := by omega
   subst e
   have h1 := zBG h (Nat.lt_succ_self j)
   simp only [zUm, zZq, Bool.and_eq_true] at h1
   split at h1
   ·rename_i e; subst e; simp at h1; omega
   ·have h2 : zBb d j ∈ zBD d j ((j : Int) - 1) := by simpa using h1.2
    have := zDv j ((j : Int) - 1) (fun k hk => (zBc h0 k (by omega)).2) _ h2
    omega
theorem zHr {d : List Nd} : ∀ (f g : Nat) (k : Int), (∀ j : Nat, (j : Int) ≤ k → zBb d j < j) → k < f → k < g → zBD d f k = zBD d g k
 |0, g, k, _, h1, _ => by
  have : k < 0 := by omega
  cases g <;> simp [zBD, this]
 |f + 1, 0, k, _, _, h2 => by
  have : k < 0 := by omega
  simp [zBD, this]
 |f + 1, g + 1, k, h, h1, h2 => by
  simp only [zBD]
  split
  ·rfl
  ·rename_i hk
   have h3 := h k.toNat (by omega)
   rw [zHr f g (zBb d k.toNat) (fun j hj => h j (by omega)) (by omega) (by omega)]
end Go.Hx
end

section
/-
 Lists of paths as plain Lean data, what is right of them, and which error is told. No condition.
-/
namespace Go.Hx
mutual
inductive Ts where
 |mk (kind : Int) (name value : Bys) (na nb : Int) (list : List Pt)
inductive St where
 |mk (tag : Bys) (tests : List Ts)
inductive Pt where
 |mk (steps : List St) (links : List Int)
end
instance : Inhabited Ts := ⟨.mk 0 [] [] 0 0 []⟩
instance : Inhabited St := ⟨.mk [] []⟩
instance : Inhabited Pt := ⟨.mk [] []⟩
def Ts.kind : Ts → Int | .mk k _ _ _ _ _ => k
def Ts.name : Ts → Bys | .mk _ n _ _ _ _ => n
def Ts.value : Ts → Bys | .mk _ _ v _ _ _ => v
def Ts.na : Ts → Int | .mk _ _ _ a _ _ => a
def Ts.nb : Ts → Int | .mk _ _ _ _ b _ => b
def Ts.list : Ts → List Pt | .mk _ _ _ _ _ l => l
def St.tag : St → Bys | .mk t _ => t
def St.tests : St → List Ts | .mk _ l => l
def Pt.steps : Pt → List St | .mk s _ => s
def Pt.links : Pt → List Int | .mk _ l => l
mutual
def tsV : Ts → List PV
 |.mk k n v a b l => [bI k, bS n, bS v, bI a, bI b, .sl 2 (zLc l)]
def zVB : List Ts → List (List PV)
 |[] => []
 |t :: r => tsV t :: zVB r
def stV : St → List PV
 |.mk t l => [bS t, .sl 6 (zVB l)]
def zU3 : List St → List (List PV)
 |[] => []
 |s :: r => stV s :: zU3 r
def ptV : Pt → List PV
 |.mk s l => [.sl 2 (zU3 s), .sl 1 (zDJ l)]
def zLc : List Pt → List (List PV)
 |[] => []
 |p :: r => ptV p :: zLc r
end
def zBd (l : List Pt) : PVal := .one (.sl 2 (zLc l))
theorem zLV : ∀ l : List Ts, zVB l = l.map tsV
 |[] => rfl
 |t :: r => by simp only [zVB, List.map_cons, zLV r]
theorem zLW : ∀ l : List St, zU3 l = l.map stV
 |[] => rfl
 |t :: r => by simp only [zU3, List.map_cons, zLW r]
theorem zIY : ∀ l : List Pt, zLc l = l.map ptV
 |[] => rfl
 |t :: r => by simp only [zLc, List.map_cons, zIY r]
theorem zBH (l : List Ts) : (zVB l).length = l.length := by simp [zLV]
theorem zBM (l : List St) : (zU3 l).length = l.length := by simp [zLW]
theorem zA0 (l : List Pt) : (zLc l).length = l.length := by simp [zIY]
theorem zIZ (t : Ts) : tsV t = [bI t.kind, bS t.name, bS t.value, bI t.na, bI t.nb, .sl 2 (zLc t.list)] := by cases t; rfl
theorem zP9 (t : St) : stV t = [bS t.tag, .sl 6 (zVB t.tests)] := by cases t; rfl
theorem zI0 (t : Pt) : ptV t = [.sl 2 (zU3 t.steps), .sl 1 (zDJ t.links)] := by cases t; rfl
theorem zTM (d : List Ts) (i : Nat) (h : i < d.length) : (zVB d).getD i [] = tsV (d.getD i default) := by simp [zLV, h]
theorem zTN (d : List St) (i : Nat) (h : i < d.length) : (zU3 d).getD i [] = stV (d.getD i default) := by simp [zLW, h]
theorem zTO (d : List Pt) (i : Nat) (h : i < d.length) : (zLc d).getD i [] = ptV (d.getD i default) := by simp [zIY, h]
theorem zFG {α : Type} [Inhabited α] {l : List α} {i : Nat} (h : i < l.length) : l.getD i default ∈ l := by
 rw [List.getD_eq_getElem?_getD, List.getElem?_eq_getElem h]
 exact List.getElem_mem h
theorem zYT (t : Ts) : SizeOf.sizeOf t.list < SizeOf.sizeOf t := by cases t; simp only [Ts.list, Ts.mk.sizeOf_spec]; omega
theorem zWT (t : St) : SizeOf.sizeOf t.tests < SizeOf.sizeOf t := by cases t; simp only [St.tests, St.mk.sizeOf_spec]; omega
theorem zWU (t : Pt) : SizeOf.sizeOf t.steps < SizeOf.sizeOf t := by cases t; simp only [Pt.steps, Pt.mk.sizeOf_spec]; omega
theorem yCf {l : List Ts} {i : Nat} (h : i < l.length) : SizeOf.sizeOf (l.getD i default) < SizeOf.sizeOf l := List.sizeOf_lt_of_mem (zFG h)
theorem yCg {l : List St} {i : Nat} (h : i < l.length) : SizeOf.sizeOf (l.getD i default) < SizeOf.sizeOf l := List.sizeOf_lt_of_mem (zFG h)
theorem yCh {l : List Pt} {i : Nat} (h : i < l.length) : SizeOf.sizeOf (l.getD i default) < SizeOf.sizeOf l := List.sizeOf_lt_of_mem (zFG h)
def zVC (k : Int) : Bool := decide (1 ≤ k ∧ k ≤ 8)
def zQa (k : Int) : Bool := decide (4 ≤ k ∧ k ≤ 8)
def yBd (k : Int) : Bool := decide (k = 9) || decide (k = 10)
def zJ0 (k : Int) : Bool := decide (13 ≤ k ∧ k ≤ 15)
def zOx (a : Int) : Bool := decide (-1048576 ≤ a ∧ a ≤ 1048576)
def zOy (a b : Int) : Int := if zOx a && zOx b then 0 else 3
mutual
def zXG : List Pt → Nat → Bool
 |[], _ => false
 |p :: r, d => tmP p d || zXG r d
def tmP : Pt → Nat → Bool
 |.mk s l, d => !(decide (1 ≤ s.length ∧ s.length ≤ 5)) || decide ((l.length : Int) ≠ s.length - 1) || zYU s d
def zYU : List St → Nat → Bool
 |[], _ => false
 |s :: r, d => tmS s d || zYU r d
def tmS : St → Nat → Bool
 |.mk _ l, d => decide (6 < l.length) || zYV l d
def zYV : List Ts → Nat → Bool
 |[], _ => false
 |t :: r, d => tmT t d || zYV r d
def tmT : Ts → Nat → Bool
 |.mk k _ _ _ _ l, d => zJ0 k && (decide (3 < d + 1) || !(decide (1 ≤ l.length ∧ l.length ≤ 5)) || zXG l (d + 1))
end
def tmL (l : List Pt) (d : Nat) : Bool := decide (3 < d) || !(decide (1 ≤ l.length ∧ l.length ≤ 5)) || zXG l d
def zSf (n : Int) : Bool := !(decide (1 ≤ n ∧ n ≤ 4))
mutual
def zXH : List Pt → Bool
 |[] => false
 |p :: r => bkP p || zXH r
def bkP : Pt → Bool
 |.mk s l => l.any zSf || zZr s
def zZr : List St → Bool
 |[] => false
 |s :: r => bkS s || zZr r
def bkS : St → Bool
 |.mk _ l => zZs l
def zZs : List Ts → Bool
 |[] => false
 |t :: r => bkT t || zZs r
def bkT : Ts → Bool
 |.mk k _ _ _ _ l => !(decide (1 ≤ k ∧ k ≤ 15)) || (zJ0 k && zXH l)
end
def zXI (t : Ts) : Bool := (zVC t.kind && !zCT t.name) || (!zVC t.kind && !(t.name == []))
def zXJ (t : Ts) : Bool := (zQa t.kind && !zGq t.value) || (!zQa t.kind && !(t.value == []))
def zWV (t : Ts) : Bool := (!yBd t.kind && !(t.na == 0 && t.nb == 0)) || (!zJ0 t.kind && decide (0 < t.list.length))
mutual
def zXK : List Pt → Bool
 |[] => false
 |p :: r => bfP p || zXK r
def bfP : Pt → Bool
 |.mk s _ => zZt s
def zZt : List St → Bool
 |[] => false
 |s :: r => bfS s || zZt r
def bfS : St → Bool
 |.mk t l => (!(t == []) && !zCT t) || zZu l
def zZu : List Ts → Bool
 |[] => false
 |t :: r => bfT t || zZu r
def bfT : Ts → Bool
 |.mk k n v a b l => zXI (.mk k n v a b l) || zXJ (.mk k n v a b l) || zWV (.mk k n v a b l) || (zJ0 k && zXK l)
end
mutual
def zWW : List Pt → Bool
 |[] => false
 |p :: r => bnP p || zWW r
def bnP : Pt → Bool
 |.mk s _ => zZv s
def zZv : List St → Bool
 |[] => false
 |s :: r => bnS s || zZv r
def bnS : St → Bool
 |.mk _ l => zZw l
def zZw : List Ts → Bool
 |[] => false
 |t :: r => bnT t || zZw r
def bnT : Ts → Bool
 |.mk _ _ _ a b l => !(decide (zOy a b = 0)) || zWW l
end
def zC7 (l : List Pt) : Int := if tmL l 1 then 2 else if zXH l then 4 else if zXK l then 1 else if zWW l then 3 else 0
structure Fd where
 f : Nat
 m : Nat
 r : Nat
 k : Nat
 deriving DecidableEq, Inhabited
def Fd.add (a b : Fd) : Fd := ⟨a.f + b.f, a.m + b.m, a.r + b.r, a.k + b.k⟩
def fd0 : Fd := ⟨0, 0, 0, 0⟩
def fdV (c : Fd) : List PV := [bI 0, bI c.f, bI c.m, bI c.r, bI c.k]
def nB (b : Bool) : Nat := if b then 1 else 0
def fF (b : Bool) : Fd := ⟨nB b, 0, 0, 0⟩
def fM (b : Bool) : Fd := ⟨0, nB b, 0, 0⟩
def fR (b : Bool) : Fd := ⟨0, 0, nB b, 0⟩
def fK (b : Bool) : Fd := ⟨0, 0, 0, nB b⟩
theorem Fd.add_assoc (a b c : Fd) : (a.add b).add c = a.add (b.add c) := by simp [Fd.add, Nat.add_assoc]
theorem Fd.add_zero (a : Fd) : a.add fd0 = a := rfl
theorem Fd.zero_add (a : Fd) : fd0.add a = a := by simp [Fd.add, fd0]
def zGr (l : List Pt) (d : Nat) : Bool := decide (3 < d) || decide (l.length < 1) || decide (5 < l.length)
def zSg (p : Pt) : Bool := decide (p.steps.length < 1) || decide (5 < p.steps.length) || decide ((p.links.length : Int) ≠ p.steps.length - 1)
def zTP (l : List Int) : Fd := ⟨0, 0, 0, l.countP zSf⟩
def zWl (t : Ts) : Fd := (((((fK (!decide (1 ≤ t.kind ∧ t.kind ≤ 15))).add (fF (zXI t))).add (fF (zXJ t))).add (fF (zWV t))).add (fR (!decide (zOy t.na t.nb = 0))))
mutual
def zRU : List Pt → Nat → Fd
 |[], _ => fd0
 |p :: r, d => if zSg p then fM true else ((zTP p.links).add (ntP p d)).add (zRU r d)
def ntP : Pt → Nat → Fd
 |.mk s _, d => zTQ s d
def zTQ : List St → Nat → Fd
 |[], _ => fd0
 |s :: r, d => (ntS s d).add (zTQ r d)
def ntS : St → Nat → Fd
 |.mk t l, d => if 6 < l.length then fM true else (fF (!(t == []) && !zCT t)).add (zTR l d)
def zTR : List Ts → Nat → Fd
 |[], _ => fd0
 |t :: r, d => (ntT t d).add (zTR r d)
def ntT : Ts → Nat → Fd
 |.mk k n v a b l, d => (zWl (.mk k n v a b l)).add (if zJ0 k then (if zGr l (d + 1) then fM true else zRU l (d + 1)) else fd0)
end
def ntL (l : List Pt) (d : Nat) : Fd := if zGr l d then fM true else zRU l d
theorem yAT (t : Ts) (d : Nat) : ntT t d = (zWl t).add (if zJ0 t.kind then ntL t.list (d + 1) else fd0) := by cases t; rfl
theorem zXL (s : St) (d : Nat) : ntS s d = if 6 < s.tests.length then fM true else (fF (!(s.tag == []) && !zCT s.tag)).add (zTR s.tests d) := by cases s; rfl
theorem yAU (p : Pt) (d : Nat) : ntP p d = zTQ p.steps d := by cases p; rfl
theorem zVD (b : Bool) : 0 < nB b ↔ b = true := by cases b <;> simp [nB]
theorem zQb (l : List Pt) (d : Nat) : zGr l d = (decide (3 < d) || !(decide (1 ≤ l.length ∧ l.length ≤ 5))) := by
 unfold zGr
 by_cases h1 : 3 < d <;> by_cases h2 : l.length < 1 <;> by_cases h3 : 5 < l.length <;> simp [h1, h2, h3] <;> omega
mutual
theorem yCi : ∀ (l : List Pt) (d : Nat), 0 < (zRU l d).m ↔ zXG l d = true
 |[], d => by simp [zRU, zXG, fd0]
 |p :: r, d => by
  have h1 := m_P p d
  have h2 := yCi r d
  simp only [zRU, zXG]
  have hp : zSg p = true → tmP p d = true := by
   intro hb
   cases p with
   |mk s l =>
    have hb : (decide (s.length < 1) || decide (5 < s.length) || decide ((l.length : Int) ≠ s.length - 1)) = true := hb
    simp only [Bool.or_eq_true, decide_eq_true_eq] at hb
    simp only [tmP, Bool.or_eq_true, decide_eq_true_eq, Bool.not_eq_true', decide_eq_false_iff_not]
    omega
  split
  ·rename_i hb
   simp [fM, nB, hp hb]
  ·rename_i hb
   have h3 := h1 (by simpa using hb)
   simp only [Fd.add, zTP, Bool.or_eq_true, ← h3, ← h2]
   omega
theorem m_P : ∀ (p : Pt) (d : Nat), zSg p = false → (0 < (ntP p d).m ↔ tmP p d = true)
 |.mk s l, d, hb => by
  have h := yCL s d
  have hb : (decide (s.length < 1) || decide (5 < s.length) || decide ((l.length : Int) ≠ s.length - 1)) = false := hb
  simp only [Bool.or_eq_false_iff, decide_eq_false_iff_not] at hb
  have e1 : decide (1 ≤ s.length ∧ s.length ≤ 5) = true := by simp; omega
  have e2 : decide ((l.length : Int) ≠ s.length - 1) = false := by simp; omega
  simp only [ntP, tmP, e1, e2, h, Bool.not_true, Bool.false_or]
theorem yCL : ∀ (l : List St) (d : Nat), 0 < (zTQ l d).m ↔ zYU l d = true
 |[], d => by simp [zTQ, zYU, fd0]
 |p :: r, d => by
  have h1 := m_S p d
  have h2 := yCL r d
  simp only [zTQ, zYU, Fd.add, Bool.or_eq_true, ← h1, ← h2]
  omega
theorem m_S : ∀ (p : St) (d : Nat), 0 < (ntS p d).m ↔ tmS p d = true
 |.mk t l, d => by
  have h := yCM l d
  simp only [ntS, tmS]
  split
  ·rename_i hb; simp [fM, nB, hb]
  ·rename_i hb
   simp only [Fd.add, fF, Bool.or_eq_true, decide_eq_true_eq, ← h]
   omega
theorem yCM : ∀ (l : List Ts) (d : Nat), 0 < (zTR l d).m ↔ zYV l d = true
 |[], d => by simp [zTR, zYV, fd0]
 |p :: r, d => by
  have h1 := m_T p d
  have h2 := yCM r d
  simp only [zTR, zYV, Fd.add, Bool.or_eq_true, ← h1, ← h2]
  omega
theorem m_T : ∀ (p : Ts) (d : Nat), 0 < (ntT p d).m ↔ tmT p d = true
 |.mk k n v a b l, d => by
  have h := yCi l (d + 1)
  simp only [ntT, tmT, Fd.add, zWl, fF, fK, fR, Nat.zero_add]
  by_cases hk : zJ0 k = true
  ·simp only [hk, if_true, Bool.true_and]
   rw [zQb]
   by_cases hb : (decide (3 < d + 1) || !(decide (1 ≤ l.length ∧ l.length ≤ 5))) = true
   ·rw [if_pos hb, hb]; simp [fM, nB]
   ·rw [if_neg hb]
    have hb2 : (decide (3 < d + 1) || !(decide (1 ≤ l.length ∧ l.length ≤ 5))) = false := eq_false_of_ne_true hb
    rw [hb2, Bool.false_or, h]
  ·have hk2 : zJ0 k = false := by simpa using hk
   simp [hk2, fd0]
end
theorem m_L (l : List Pt) (d : Nat) : 0 < (ntL l d).m ↔ tmL l d = true := by
 unfold ntL tmL
 rw [zQb]
 by_cases hb : (decide (3 < d) || !(decide (1 ≤ l.length ∧ l.length ≤ 5))) = true
 ·rw [if_pos hb, hb]; simp [fM, nB]
 ·rw [if_neg hb]
  have hb2 : (decide (3 < d) || !(decide (1 ≤ l.length ∧ l.length ≤ 5))) = false := eq_false_of_ne_true hb
  rw [hb2, Bool.false_or, yCi]
def Oth (c : Fd) (k f r : Bool) : Prop := c.m = 0 → ((0 < c.k ↔ k = true) ∧ (0 < c.f ↔ f = true) ∧ (c.f = 0 → (0 < c.r ↔ r = true)))
theorem Oth.add {a b : Fd} {k f r k' f' r' : Bool} (h : Oth a k f r) (g : Oth b k' f' r') : Oth (a.add b) (k || k') (f || f') (r || r') := by
 intro hm
 simp only [Fd.add] at hm ⊢
 obtain ⟨h1, h2, h3⟩ := h (by omega)
 obtain ⟨g1, g2, g3⟩ := g (by omega)
 refine ⟨?_, ?_, fun hf => ?_⟩
 ·rw [Bool.or_eq_true, ← h1, ← g1]; omega
 ·rw [Bool.or_eq_true, ← h2, ← g2]; omega
 ·have h4 := h3 (by omega)
  have g4 := g3 (by omega)
  rw [Bool.or_eq_true, ← h4, ← g4]; omega
theorem Oth.zero : Oth fd0 false false false := fun _ => ⟨by simp [fd0], by simp [fd0], fun _ => by simp [fd0]⟩
theorem Oth.many {k f r : Bool} : Oth (fM true) k f r := fun h => by simp [fM, nB] at h
theorem Oth.k (b : Bool) : Oth (fK b) b false false := fun _ => ⟨by simp [fK, zVD], by simp [fK], fun _ => by simp [fK]⟩
theorem Oth.f (b : Bool) : Oth (fF b) false b false := fun _ => ⟨by simp [fF], by simp [fF, zVD], fun _ => by simp [fF]⟩
theorem Oth.r (b : Bool) : Oth (fR b) false false b := fun _ => ⟨by simp [fR], by simp [fR], fun _ => by simp [fR, zVD]⟩
theorem Oth.cast {c : Fd} {k f r k' f' r' : Bool} (h : Oth c k f r) (h1 : k = k') (h2 : f = f') (h3 : r = r') : Oth c k' f' r' := by subst h1 h2 h3; exact h
theorem Oth.lk (l : List Int) : Oth (zTP l) (l.any zSf) false false := by
 intro _
 refine ⟨?_, by simp [zTP], fun _ => by simp [zTP]⟩
 simp [zTP, List.any_eq_true, List.countP_pos_iff]
mutual
theorem yCj : ∀ (l : List Pt) (d : Nat), Oth (zRU l d) (zXH l) (zXK l) (zWW l)
 |[], d => Oth.zero
 |p :: r, d => by
  simp only [zRU, zXH, zXK, zWW]
  split
  ·exact Oth.many
  ·refine ((o_P p d).add (yCj r d))
theorem o_P : ∀ (p : Pt) (d : Nat), Oth ((zTP p.links).add (ntP p d)) (bkP p) (bfP p) (bnP p)
 |.mk s l, d => by
  simp only [ntP, Pt.links, bkP, bfP, bnP]
  exact ((Oth.lk l).add (yCN s d)).cast rfl (by simp) (by simp)
theorem yCN : ∀ (l : List St) (d : Nat), Oth (zTQ l d) (zZr l) (zZt l) (zZv l)
 |[], d => Oth.zero
 |p :: r, d => by
  simp only [zTQ, zZr, zZt, zZv]
  exact (o_S p d).add (yCN r d)
theorem o_S : ∀ (p : St) (d : Nat), Oth (ntS p d) (bkS p) (bfS p) (bnS p)
 |.mk t l, d => by
  simp only [ntS, bkS, bfS, bnS]
  split
  ·exact Oth.many
  ·exact ((Oth.f _).add (yCO l d)).cast (by simp) rfl (by simp)
theorem yCO : ∀ (l : List Ts) (d : Nat), Oth (zTR l d) (zZs l) (zZu l) (zZw l)
 |[], d => Oth.zero
 |p :: r, d => by
  simp only [zTR, zZs, zZu, zZw]
  exact (o_T p d).add (yCO r d)
theorem o_T : ∀ (p : Ts) (d : Nat), Oth (ntT p d) (bkT p) (bfT p) (bnT p)
 |.mk k n v a b l, d => by
  have h := yCj l (d + 1)
  have h1 : Oth (zWl (.mk k n v a b l)) (!decide (1 ≤ k ∧ k ≤ 15)) (zXI (.mk k n v a b l) || zXJ (.mk k n v a b l) || zWV (.mk k n v a b l)) (!decide (zOy a b = 0)) :=
   (((((Oth.k (!decide (1 ≤ k ∧ k ≤ 15))).add (Oth.f _)).add (Oth.f _)).add (Oth.f _)).add (Oth.r (!decide (zOy a b = 0)))).cast (by simp only [Bool.or_false]) (by simp only [Bool.false_or, Bool.or_false]) (by simp only [Bool.false_or])
  simp only [ntT, bkT, bfT, bnT]
  by_cases hk : zJ0 k = true
  ·simp only [hk, if_true, Bool.true_and]
   split
   ·intro hm
    simp [Fd.add, fM, nB] at hm
   ·exact h1.add h
  ·have hk2 : zJ0 k = false := eq_false_of_ne_true hk
   simp only [hk2, Bool.false_and, Bool.or_false]
   intro hm
   obtain ⟨a1, a2, a3⟩ := h1 (by simpa [Fd.add, fd0] using hm)
   refine ⟨by simpa [Fd.add, fd0] using a1, by simpa [Fd.add, fd0] using a2, fun hf => ?_⟩
   have hf0 : (zWl (.mk k n v a b l)).f = 0 := by simpa [Fd.add, fd0] using hf
   have a4 := a3 hf0
   have hl : l = [] := by
    have h5 : ¬ (zXI (.mk k n v a b l) || zXJ (.mk k n v a b l) || zWV (.mk k n v a b l)) = true := by
     rw [← a2]; omega
    simp only [zWV, Ts.kind, Ts.list, hk2, Bool.not_false, Bool.true_and, Bool.or_eq_true, decide_eq_true_eq, not_or] at h5
    have := h5.2.2
    cases l with
    |nil => rfl
    |cons x y => simp at this
   subst hl
   simpa [Fd.add, fd0, zWW] using a4
end
def zYW (c : Fd) : Int := if 0 < c.m then 2 else if 0 < c.k then 4 else if 0 < c.f then 1 else if 0 < c.r then 3 else 0
theorem yAV (l : List Pt) : zYW (ntL l 1) = zC7 l := by
 unfold zYW zC7
 have hm := m_L l 1
 by_cases h : tmL l 1 = true
 ·rw [if_pos (hm.2 h), if_pos h]
 ·have hm0 : ¬ 0 < (ntL l 1).m := fun hc => h (hm.1 hc)
  rw [if_neg hm0, if_neg h]
  have hb : zGr l 1 = false := by
   cases hb : zGr l 1 with
   |false => rfl
   |true => unfold ntL at hm0; rw [if_pos hb] at hm0; simp [fM, nB] at hm0
  have e : ntL l 1 = zRU l 1 := by unfold ntL; rw [if_neg (by rw [hb]; simp)]
  rw [e] at hm0 ⊢
  obtain ⟨h1, h2, h3⟩ := yCj l 1 (by omega)
  by_cases hk : zXH l = true
  ·rw [if_pos (h1.2 hk), if_pos hk]
  ·rw [if_neg (fun hc => hk (h1.1 hc)), if_neg hk]
   by_cases hf : zXK l = true
   ·rw [if_pos (h2.2 hf), if_pos hf]
   ·have hf0 : ¬ 0 < (zRU l 1).f := fun hc => hf (h2.1 hc)
    rw [if_neg hf0, if_neg hf]
    have h4 := h3 (by omega)
    by_cases hr : zWW l = true
    ·rw [if_pos (h4.2 hr), if_pos hr]
    ·rw [if_neg (fun hc => hr (h4.1 hc)), if_neg hr]
def bdF : Nat → Nat
 |0 => 1
 |f + 1 => 4 + 5 * (4 + 5 * (1 + 6 * (5 + bdF f)))
def bd (d : Nat) : Nat := bdF (4 - d)
def bdT (d : Nat) : Nat := 5 + bd (d + 1)
def bdS (d : Nat) : Nat := 1 + 6 * bdT d
def bdP (d : Nat) : Nat := 4 + 5 * bdS d
theorem zOz : ∀ f, 1 ≤ bdF f
 |0 => Nat.le_refl _
 |f + 1 => by simp only [bdF]; omega
theorem zYX {d : Nat} (h : d ≤ 3) : bd d = 4 + 5 * bdP d := by
 unfold bdP bdS bdT bd
 obtain ⟨f, hf⟩ : ∃ f, 4 - d = f + 1 := ⟨4 - d - 1, by omega⟩
 have e : 4 - (d + 1) = f := by omega
 rw [hf, e]
 rfl
theorem yAW : bd 1 ≤ 100000000 := by decide
structure Fd.le (c : Fd) (n : Nat) : Prop where
 f : c.f ≤ n
 m : c.m ≤ n
 r : c.r ≤ n
 k : c.k ≤ n
theorem Fd.le.le_add {a b : Fd} {n m : Nat} (h : a.le n) (g : b.le m) : (a.add b).le (n + m) := by
 obtain ⟨h1, h2, h3, h4⟩ := h
 obtain ⟨g1, g2, g3, g4⟩ := g
 exact ⟨Nat.add_le_add h1 g1, Nat.add_le_add h2 g2, Nat.add_le_add h3 g3, Nat.add_le_add h4 g4⟩
theorem Fd.le.le_mono {a : Fd} {n m : Nat} (h : a.le n) (g : n ≤ m) : a.le m := ⟨Nat.le_trans h.f g, Nat.le_trans h.m g, Nat.le_trans h.r g, Nat.le_trans h.k g⟩
theorem zWX (b : Bool) : nB b ≤ 1 := by cases b <;> simp [nB]
theorem zWY (b : Bool) : (fM b).le 1 := ⟨Nat.zero_le _, zWX b, Nat.zero_le _, Nat.zero_le _⟩
theorem zQc (b : Bool) : (fF b).le 1 := ⟨zWX b, Nat.zero_le _, Nat.zero_le _, Nat.zero_le _⟩
theorem zYY (b : Bool) : (fK b).le 1 := ⟨Nat.zero_le _, Nat.zero_le _, Nat.zero_le _, zWX b⟩
theorem yAX (b : Bool) : (fR b).le 1 := ⟨Nat.zero_le _, Nat.zero_le _, zWX b, Nat.zero_le _⟩
theorem zQd (n : Nat) : fd0.le n := ⟨Nat.zero_le _, Nat.zero_le _, Nat.zero_le _, Nat.zero_le _⟩
theorem yCk (t : Ts) : (zWl t).le 5 := ((((zYY _).le_add (zQc _)).le_add (zQc _)).le_add (zQc _)).le_add (yAX _)
theorem yCl (l : List Int) : (zTP l).le l.length := ⟨Nat.zero_le _, Nat.zero_le _, Nat.zero_le _, List.countP_le_length⟩
mutual
theorem yCm : ∀ (l : List Pt) (d : Nat), (zRU l d).le (1 + l.length * bdP d)
 |[], d => zQd _
 |p :: r, d => by
  have h2 := yCm r d
  simp only [zRU, List.length_cons]
  split
  ·exact (zWY _).le_mono (Nat.le_add_right _ _)
  ·rename_i hb
   have h1 := b_P p d (eq_false_of_ne_true hb)
   exact (h1.le_add h2).le_mono (by rw [Nat.add_mul]; omega)
theorem b_P : ∀ (p : Pt) (d : Nat), zSg p = false → ((zTP p.links).add (ntP p d)).le (bdP d)
 |.mk s l, d, hb => by
  have hb : (decide (s.length < 1) || decide (5 < s.length) || decide ((l.length : Int) ≠ s.length - 1)) = false := hb
  simp only [Bool.or_eq_false_iff, decide_eq_false_iff_not] at hb
  have h := yCP s d
  simp only [ntP, Pt.links]
  refine ((yCl l).le_add h).le_mono ?_
  have h5 : s.length * bdS d ≤ 5 * bdS d := Nat.mul_le_mul_right _ (by omega)
  unfold bdP
  omega
theorem yCP : ∀ (l : List St) (d : Nat), (zTQ l d).le (l.length * bdS d)
 |[], d => zQd _
 |p :: r, d => by
  simp only [zTQ, List.length_cons]
  exact ((b_S p d).le_add (yCP r d)).le_mono (by rw [Nat.add_mul]; omega)
theorem b_S : ∀ (p : St) (d : Nat), (ntS p d).le (bdS d)
 |.mk t l, d => by
  simp only [ntS]
  split
  ·exact (zWY _).le_mono (by unfold bdS; omega)
  ·refine ((zQc _).le_add (yCQ l d)).le_mono ?_
   have h5 : l.length * bdT d ≤ 6 * bdT d := Nat.mul_le_mul_right _ (by omega)
   unfold bdS
   omega
theorem yCQ : ∀ (l : List Ts) (d : Nat), (zTR l d).le (l.length * bdT d)
 |[], d => zQd _
 |p :: r, d => by
  simp only [zTR, List.length_cons]
  exact ((b_T p d).le_add (yCQ r d)).le_mono (by rw [Nat.add_mul]; omega)
theorem b_T : ∀ (p : Ts) (d : Nat), (ntT p d).le (bdT d)
 |.mk k n v a b l, d => by
  have h := yCm l (d + 1)
  simp only [ntT]
  refine (yCk _).le_add ?_
  split
  ·split
   ·exact (zWY _).le_mono (zOz _)
   ·rename_i hb
    simp only [zGr, Bool.or_eq_true, decide_eq_true_eq, not_or] at hb
    have h5 : l.length * bdP (d + 1) ≤ 5 * bdP (d + 1) := Nat.mul_le_mul_right _ (by omega)
    refine h.le_mono ?_
    rw [zYX (d := d + 1) (by omega)]
    omega
  ·exact zQd _
end
theorem b_L (l : List Pt) (d : Nat) : (ntL l d).le (bd d) := by
 unfold ntL
 split
 ·exact (zWY _).le_mono (zOz _)
 ·rename_i hb
  simp only [zGr, Bool.or_eq_true, decide_eq_true_eq, not_or] at hb
  have h5 : l.length * bdP d ≤ 5 * bdP d := Nat.mul_le_mul_right _ (by omega)
  refine (yCm l d).le_mono ?_
  rw [zYX (by omega)]
  omega
end Go.Hx
end

section
/-
 Right lists of paths, and their parts. Plain Lean. No condition.
-/
set_option maxRecDepth 100000
set_option linter.unusedSimpArgs false
namespace Go.Hx
def GTs (l : List Ts) (d : Nat) : Prop := zYV l d = false ∧ zZs l = false ∧ zZu l = false ∧ zZw l = false
def GT (t : Ts) (d : Nat) : Prop := tmT t d = false ∧ bkT t = false ∧ bfT t = false ∧ bnT t = false
def GS (x : St) (d : Nat) : Prop := tmS x d = false ∧ bkS x = false ∧ bfS x = false ∧ bnS x = false
def GSs (l : List St) (d : Nat) : Prop := zYU l d = false ∧ zZr l = false ∧ zZt l = false ∧ zZv l = false
def GP (x : Pt) (d : Nat) : Prop := tmP x d = false ∧ bkP x = false ∧ bfP x = false ∧ bnP x = false
def GPs (l : List Pt) (d : Nat) : Prop := zXG l d = false ∧ zXH l = false ∧ zXK l = false ∧ zWW l = false
def GL (l : List Pt) (d : Nat) : Prop := d ≤ 3 ∧ 1 ≤ l.length ∧ l.length ≤ 5 ∧ GPs l d
theorem GTs.cons {t : Ts} {l : List Ts} {d : Nat} (h : GTs (t :: l) d) : GT t d ∧ GTs l d := by
 simp only [GTs, zYV, zZs, zZu, zZw, Bool.or_eq_false_iff] at h
 exact ⟨⟨h.1.1, h.2.1.1, h.2.2.1.1, h.2.2.2.1⟩, ⟨h.1.2, h.2.1.2, h.2.2.1.2, h.2.2.2.2⟩⟩
theorem GSs.cons {t : St} {l : List St} {d : Nat} (h : GSs (t :: l) d) : GS t d ∧ GSs l d := by
 simp only [GSs, zYU, zZr, zZt, zZv, Bool.or_eq_false_iff] at h
 exact ⟨⟨h.1.1, h.2.1.1, h.2.2.1.1, h.2.2.2.1⟩, ⟨h.1.2, h.2.1.2, h.2.2.1.2, h.2.2.2.2⟩⟩
theorem GPs.cons {t : Pt} {l : List Pt} {d : Nat} (h : GPs (t :: l) d) : GP t d ∧ GPs l d := by
 simp only [GPs, zXG, zXH, zXK, zWW, Bool.or_eq_false_iff] at h
 exact ⟨⟨h.1.1, h.2.1.1, h.2.2.1.1, h.2.2.2.1⟩, ⟨h.1.2, h.2.1.2, h.2.2.1.2, h.2.2.2.2⟩⟩
theorem GS.parts {tag : Bys} {l : List Ts} {d : Nat} (h : GS (.mk tag l) d) : l.length ≤ 6 ∧ (tag = [] ∨ zCT tag = true) ∧ GTs l d := by
 simp only [GS, tmS, bkS, bfS, bnS, Bool.or_eq_false_iff, decide_eq_false_iff_not] at h
 refine ⟨by omega, ?_, h.1.2, h.2.1, h.2.2.1.2, h.2.2.2⟩
 have := h.2.2.1.1
 cases ht : tag with
 |nil => exact .inl rfl
 |cons c tag =>
  right
  rw [ht] at this
  simpa using this
theorem GP.parts {st : List St} {lk : List Int} {d : Nat} (h : GP (.mk st lk) d) : 1 ≤ st.length ∧ st.length ≤ 5 ∧ lk.length + 1 = st.length ∧ (∀ n ∈ lk, 1 ≤ n ∧ n ≤ 4) ∧ GSs st d := by
 simp only [GP, tmP, bkP, bfP, bnP, Bool.or_eq_false_iff, Bool.not_eq_false', decide_eq_true_eq, decide_eq_false_iff_not, List.any_eq_false, zSf, Bool.not_eq_true'] at h
 obtain ⟨⟨⟨h1, h2⟩, h3⟩, ⟨h4, h5⟩, h6, h7⟩ := h
 refine ⟨h1.1, h1.2, by omega, fun n hn => ?_, h3, h5, h6, h7⟩
 have := h4 n hn
 simp only [decide_eq_false_iff_not, Classical.not_not] at this
 exact this
theorem GT.parts {k : Int} {n v : Bys} {a b : Int} {l : List Pt} {d : Nat} (h : GT (.mk k n v a b l) d) :
  (1 ≤ k ∧ k ≤ 15) ∧ (if k ≤ 8 then zCT n = true else n = []) ∧ (if 4 ≤ k ∧ k ≤ 8 then zGq v = true else v = []) ∧ (if k = 9 ∨ k = 10 then True else a = 0 ∧ b = 0) ∧ zOy a b = 0 ∧ (if 13 ≤ k then GL l (d + 1) else l = []) := by
 simp only [GT, tmT, bkT, bfT, bnT, Bool.or_eq_false_iff, Bool.and_eq_false_iff, Bool.not_eq_false', decide_eq_true_eq, decide_eq_false_iff_not, zXI, zXJ, zWV, Ts.kind, Ts.name, Ts.value, Ts.na, Ts.nb, Ts.list, zVC, zQa, yBd, zJ0, Bool.and_eq_true, beq_iff_eq, Bool.not_eq_true'] at h
 obtain ⟨h1, ⟨h2, h3⟩, ⟨⟨⟨⟨h4, h5⟩, h6, h7⟩, h8, h9⟩, h10⟩, h11, h12⟩ := h
 simp only [Bool.or_eq_true] at h8
 refine ⟨h2, ?_, ?_, ?_, h11, ?_⟩
 ·split
  ·rcases h4 with h | h
   ·exfalso; (first | omega | (have := of_decide_eq_false h; omega) | (have := of_decide_eq_true h; omega) | (rcases h with h | h <;> have := of_decide_eq_true h <;> omega))
   ·exact h
  ·rcases h5 with h | h
   ·exfalso; (first | omega | (have := of_decide_eq_false h; omega) | (have := of_decide_eq_true h; omega) | (rcases h with h | h <;> have := of_decide_eq_true h <;> omega))
   ·exact h
 ·split
  ·rcases h6 with h | h
   ·exfalso; (first | omega | (have := of_decide_eq_false h; omega) | (have := of_decide_eq_true h; omega) | (rcases h with h | h <;> have := of_decide_eq_true h <;> omega))
   ·exact h
  ·rcases h7 with h | h
   ·exfalso; (first | omega | (have := of_decide_eq_false h; omega) | (have := of_decide_eq_true h; omega) | (rcases h with h | h <;> have := of_decide_eq_true h <;> omega))
   ·exact h
 ·split
  ·trivial
  ·rcases h8 with h | h
   ·exfalso; (first | omega | (have := of_decide_eq_false h; omega) | (have := of_decide_eq_true h; omega) | (rcases h with h | h <;> have := of_decide_eq_true h <;> omega))
   ·exact h
 ·split
  ·rename_i hk
   rcases h1 with h | h
   ·exfalso; (first | omega | (have := of_decide_eq_false h; omega) | (have := of_decide_eq_true h; omega) | (rcases h with h | h <;> have := of_decide_eq_true h <;> omega))
   rcases h3 with h' | h'
   ·exfalso; (first | omega | (have := of_decide_eq_false h; omega) | (have := of_decide_eq_true h; omega) | (rcases h with h | h <;> have := of_decide_eq_true h <;> omega))
   rcases h10 with h'' | h''
   ·exfalso; (first | omega | (have := of_decide_eq_false h; omega) | (have := of_decide_eq_true h; omega) | (rcases h with h | h <;> have := of_decide_eq_true h <;> omega))
   exact ⟨by omega, h.1.2.1, h.1.2.2, h.2, h', h'', h12⟩
  ·rcases h9 with h | h
   ·exfalso; (first | omega | (have := of_decide_eq_false h; omega) | (have := of_decide_eq_true h; omega) | (rcases h with h | h <;> have := of_decide_eq_true h <;> omega))
   ·exact List.eq_nil_of_length_eq_zero (by have := of_decide_eq_false h; omega)
theorem zYZ {l : List Pt} (h : zC7 l = 0) : GL l 1 := by
 unfold zC7 at h
 split at h
 ·omega
 ·rename_i h1
  split at h
  ·omega
  ·rename_i h2
   split at h
   ·omega
   ·rename_i h3
    split at h
    ·omega
    ·rename_i h4
     simp only [tmL, Bool.not_eq_true, Bool.or_eq_false_iff, Bool.not_eq_false', decide_eq_true_eq, decide_eq_false_iff_not] at h1 h2 h3 h4
     exact ⟨by omega, h1.1.2.1, h1.1.2.2, h1.2, h2, h3, h4⟩
theorem GPs.get : ∀ {l : List Pt} {d : Nat}, GPs l d → ∀ i, i < l.length → GP (l.getD i default) d
 |_ :: _, _, h, 0, _ => h.cons.1
 |_ :: _, _, h, i + 1, hi => by
  have := GPs.get h.cons.2 i (by simpa using hi)
  simpa using this
theorem GSs.get : ∀ {l : List St} {d : Nat}, GSs l d → ∀ i, i < l.length → GS (l.getD i default) d
 |_ :: _, _, h, 0, _ => h.cons.1
 |_ :: _, _, h, i + 1, hi => by
  have := GSs.get h.cons.2 i (by simpa using hi)
  simpa using this
theorem GTs.get : ∀ {l : List Ts} {d : Nat}, GTs l d → ∀ i, i < l.length → GT (l.getD i default) d
 |_ :: _, _, h, 0, _ => h.cons.1
 |_ :: _, _, h, i + 1, hi => by
  have := GTs.get h.cons.2 i (by simpa using hi)
  simpa using this
theorem GP.parts' {p : Pt} {d : Nat} (h : GP p d) : 1 ≤ p.steps.length ∧ p.steps.length ≤ 5 ∧ p.links.length + 1 = p.steps.length ∧ (∀ n ∈ p.links, 1 ≤ n ∧ n ≤ 4) ∧ GSs p.steps d := by
 obtain ⟨st, lk⟩ := p
 exact h.parts
theorem GS.parts' {x : St} {d : Nat} (h : GS x d) : x.tests.length ≤ 6 ∧ GTs x.tests d := by
 obtain ⟨tag, l⟩ := x
 exact ⟨h.parts.1, h.parts.2.2⟩
theorem GT.parts' {t : Ts} {d : Nat} (h : GT t d) : (1 ≤ t.kind ∧ t.kind ≤ 15) ∧ (13 ≤ t.kind → GL t.list (d + 1)) := by
 obtain ⟨k, n, v, a, b, l⟩ := t
 obtain ⟨h1, _, _, _, _, h6⟩ := h.parts
 exact ⟨h1, fun hk => by change 13 ≤ k at hk; rw [if_pos hk] at h6; exact h6⟩
theorem yCn {p : Pt} (h : zC7 [p] = 0) : GP p 1 := (zYZ h).2.2.2.cons.1
end Go.Hx
end
