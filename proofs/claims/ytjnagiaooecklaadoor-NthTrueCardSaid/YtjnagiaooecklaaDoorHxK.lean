/-
  THE ABSTRACT LAYER, ELEVENTH TEXT: the walk of code on the abstract frame is sound; a contract out of it. Generic over the program. No condition.
-/
import Derived.Test.YtjnagiaooecklaaDoorHxJ
set_option linter.all false
namespace Go.Hx
open Go.RowKit
variable [Glob]

section
variable {P : Program} {E : Env} {S : Start}

def LiftQ (E : Env) (S : Start) (Q : Exit → List Ct → Prop) : Exit → Act → World → Prop := fun e a w => ∃ F, Q e F ∧ Inv E S F a w

theorem wp_loop_idx {c : Code} {Q : Exit → Act → World → Prop} (I : Nat → Act → World → Prop)
    (round : ∀ n a w, I n a w → c.wp P (Exit.then (fun a' w' => ∃ n', n' < n ∧ I n' a' w') Q) a w) {n : Nat} {a : Act} {w : World} (h0 : I n a w) : (Code.loop c).wp P Q a w := by
  intro b k cs
  have key : ∀ n a w, I n a w → ∃ e a' w', Q e a' w' ∧ Arrives P (lone (b.at a (.code c :: .inLoop c :: k)) cs w) b k cs e a' w' := by
    intro n
    induction n using Nat.strongRecOn with
    | _ n ih =>
      intro a w hI
      obtain ⟨e, a₁, w₁, hq, harr⟩ := round n a w hI b (.inLoop c :: k) cs
      cases e with
      | normal =>
        obtain ⟨n', hlt, hI₁⟩ := hq
        obtain ⟨e₂, a₂, w₂, hq₂, harr₂⟩ := ih n' hlt a₁ w₁ hI₁
        exact ⟨e₂, a₂, w₂, hq₂, .of_steps (Steps.trans harr (.one step_inLoop)) harr₂⟩
      | exit id => exact ⟨_, a₁, w₁, hq, .pass (x := .inLoop c) rfl (fun _ _ => .inl (by simp)) harr⟩
      | goto l => exact ⟨_, a₁, w₁, hq, .pass (x := .inLoop c) rfl (fun _ _ => .inl (by simp)) harr⟩
      | ret => exact ⟨_, a₁, w₁, hq, .pass (x := .inLoop c) rfl (fun _ _ => .inl (by simp)) harr⟩
      | panic ch => exact ⟨_, a₁, w₁, hq, .pass (x := .inLoop c) rfl (fun _ _ => .inl (by simp)) harr⟩
      | outgrown => exact ⟨_, a₁, w₁, hq, .pass (x := .inLoop c) rfl (fun _ _ => .inl (by simp)) harr⟩
  obtain ⟨e, a', w', hq, harr⟩ := key n a w h0
  exact ⟨e, a', w', hq, .of_steps (.one step_loop) harr⟩

/-- Does the abstract code stand for the model's? -/
def hcChk (P : Program) (E : Env) : Code → HCode → Bool
  | .skip, .skip => true
  | .region _ ops draw, .reg hs dr post => draw == dr && opsChk P E ops hs ops.toList && ghChk E post && (!draw || dkQ P ops hs)
  | .region _ ops draw, .drg ds post => draw && dosChk P E ops ds && ghChk E post
  | .region _ ops draw, .rdr i hs dr post => draw == dr && opsChk P E ops hs ops.toList && ghChk E post && (!draw || dkQ P ops hs) && hs.all HO.quiet && decide (i < E.N) && (dsts hs).all (fun d => decide (d < E.N))
  | .seq x y, .seq a b => hcChk P E x a && hcChk P E y b
  | .cond c x y, .cond d a b => opdOk E.N d c && hcChk P E x a && hcChk P E y b
  | .block i x, .block j a => i == j && hcChk P E x a
  | .loop x, .loop a => hcChk P E x a
  | .exit i, .exit j => i == j
  | .ret, .ret => true
  | _, _ => false

theorem inv_drew {F : List Ct} {a : Act} {w : World} (h : Inv E S F a w) : Inv E S F a { w with drawn := w.drawn + 1 } := by
  obtain ⟨m, β, ow, h⟩ := h
  exact ⟨m, β, ow, h.quiet ⟨m.le_refl, h.mem, fun _ _ _ => rfl, fun _ _ _ _ => rfl, fun _ _ _ h => .inl h, Pres.drew _ w⟩⟩

theorem liftQ_then {K : List Ct → Prop} {Q : Exit → List Ct → Prop} {e : Exit} {a : Act} {w : World} (h : LiftQ E S (thenQ K Q) e a w) : Exit.then (fun a w => Lift E S K a w) (LiftQ E S Q) e a w := by
  obtain ⟨F, h1, h2⟩ := h
  cases e <;> exact ⟨F, h1, h2⟩

theorem code_sound (wf : E.Wf) :
    ∀ (c : Code) (h : HCode) (Q : Exit → List Ct → Prop) (F : List Ct) (a : Act) (w : World), hcChk P E c h = true → hwp P h Q F → Inv E S F a w → c.wp P (LiftQ E S Q) a w := by
  intro c
  induction c with
  | skip =>
    intro h Q F a w hk hW hI
    cases h <;> simp [hcChk] at hk
    exact wp_skip ⟨F, hW, hI⟩
  | region id ops draw =>
    intro h Q F a w hk hW hI
    cases h with
    | reg hs dr post =>
      simp only [hcChk, Bool.and_eq_true, beq_iff_eq, Bool.or_eq_true, Bool.not_eq_true'] at hk
      obtain ⟨⟨⟨rfl, h2⟩, h3⟩, h4⟩ := hk
      simp only [hwp] at hW
      have hN : ∀ F' a' w', ghW F' (fun F'' => Q .normal F'') post → Inv E S F' a' w' → LiftQ E S Q .normal a' w' := fun F' a' w' hg hI' => gh_sound wf h3 hI' hg
      cases draw with
      | false =>
        refine wp_region ?_
        have := ops_sound (P := P) wf (ops := ops) (X := fun v F' => Q (.panic [{ v, recovered := false }]) F') (Q := LiftQ E S Q) (fun v F' a' w' hx hI' => ⟨F', hx, hI'⟩) hN hs ops.toList 0 (fun i o ho => by simpa using ho) h2 F a w hI hW
        rw [Array.length_toList] at this
        rwa [List.range_eq_range']
      | true =>
        have hd : dkQ P ops hs = true := by simpa using h4
        have hq : ∀ o ∈ hs, o.quiet = true := by
          simp only [dkQ, Bool.and_eq_true, List.all_eq_true] at hd
          exact hd.2
        obtain ⟨m, β, ow, hG⟩ := hI
        refine quiet_region wf (fun _ => hd) hq h2 hG hW ?_
        rintro a' w' hg ⟨F1, h5, h6, _⟩
        exact hN F1 a' w' h5 ⟨m, β, ow, h6.gr hg⟩
    | drg ds post =>
      simp only [hcChk, Bool.and_eq_true] at hk
      obtain ⟨⟨rfl, h2⟩, h3⟩ := hk
      simp only [hwp] at hW
      exact drawn_sound wf h2 (fun F' a' w' hg hI' => gh_sound wf h3 hI' hg) (fun v F' a' w' hx hI' => ⟨F', hx F', hI'⟩) (inv_drew hI) hW
    | rdr i hs dr post =>
      simp only [hcChk, Bool.and_eq_true, beq_iff_eq, Bool.or_eq_true, Bool.not_eq_true', List.all_eq_true, decide_eq_true_eq] at hk
      obtain ⟨⟨⟨⟨⟨⟨rfl, h2⟩, h3⟩, h4⟩, hq⟩, hi⟩, hds⟩ := hk
      simp only [hwp] at hW
      split at hW
      · rename_i e k rows e1
        obtain ⟨m, β, ow, hG⟩ := hI
        obtain ⟨m', hG'⟩ := stk_freeze wf hG hi e1
        refine quiet_region wf (fun hd => by rcases h4 with h4 | h4 <;> simp_all) hq h2 hG' hW ?_
        rintro a' w' hg ⟨F1, h5, h6, h7⟩
        exact gh_sound wf h3 ⟨m, β, ow, (stk_back wf hG h6 hds h7).gr hg⟩ h5
      · exact hW.elim
    | _ => simp [hcChk] at hk
  | seq x y ihx ihy =>
    intro h Q F a w hk hW hI
    cases h <;> simp only [hcChk] at hk <;> try cases hk
    rename_i ha hb
    simp only [Bool.and_eq_true] at hk
    refine wp_seq (wp_mono (ihx ha _ F a w hk.1 hW hI) ?_)
    intro e a' w' h'
    have := liftQ_then h'
    cases e with
    | normal => obtain ⟨F', h1, h2⟩ := this; exact ihy hb Q F' a' w' hk.2 h1 h2
    | _ => exact this
  | cond c x y ihx ihy =>
    intro h Q F a w hk hW hI
    cases h <;> simp only [hcChk] at hk <;> try cases hk
    rename_i d ha hb
    simp only [Bool.and_eq_true] at hk
    obtain ⟨⟨h1, h2⟩, h3⟩ := hk
    simp only [hwp] at hW
    split at hW
    · rename_i t e1
      obtain ⟨n1, ht, hf⟩ := hW
      obtain ⟨m, β, ow, hG⟩ := hI
      have hv := pv_bool hG h1 n1 e1
      refine wp_cond_split hv (fun e => ihx ha Q F a w h2 (ht e) ⟨m, β, ow, hG⟩) (fun e => ihy hb Q F a w h3 (hf e) ⟨m, β, ow, hG⟩)
    · exact hW.elim
  | block id x ih =>
    intro h Q F a w hk hW hI
    cases h <;> simp only [hcChk] at hk <;> try cases hk
    rename_i j ha
    simp only [Bool.and_eq_true, beq_iff_eq] at hk
    obtain ⟨rfl, hk⟩ := hk
    refine wp_block (wp_mono (ih ha _ F a w hk hW hI) ?_)
    rintro e a' w' ⟨F', h1, h2⟩
    cases e with
    | exit id' =>
      simp only [inBlockQ] at h1
      simp only [Exit.inBlock]
      split at h1
      · rename_i e'; rw [if_pos e']; exact ⟨F', h1, h2⟩
      · rename_i e'; rw [if_neg e']; exact ⟨F', h1, h2⟩
    | _ => exact ⟨F', h1, h2⟩
  | loop x ih =>
    intro h Q F a w hk hW hI
    cases h <;> simp only [hcChk] at hk <;> try cases hk
    rename_i ha
    simp only [hwp] at hW
    obtain ⟨I, ⟨n, F0, hle, hI0⟩, hround⟩ := hW
    obtain ⟨m, β, ow, hG⟩ := hI
    refine wp_loop_idx (fun n a w => ∃ F, I n F ∧ Inv E S F a w) ?_ (n := n) ⟨F0, hI0, m, β, ow, hG.le hle⟩
    rintro n a w ⟨F1, h1, h2⟩
    refine wp_mono (ih ha _ F1 a w hk (hround n F1 h1) h2) ?_
    rintro e a' w' ⟨F2, h3, h4⟩
    cases e with
    | normal =>
      obtain ⟨n', F', hlt, hle', hI'⟩ := h3
      obtain ⟨m, β, ow, hG⟩ := h4
      exact ⟨n', hlt, F', hI', m, β, ow, hG.le hle'⟩
    | _ => exact ⟨F2, h3, h4⟩
  | exit id =>
    intro h Q F a w hk hW hI
    cases h <;> simp only [hcChk] at hk <;> try cases hk
    simp only [beq_iff_eq] at hk
    subst hk
    exact wp_exit ⟨F, hW, hI⟩
  | ret =>
    intro h Q F a w hk hW hI
    cases h <;> simp [hcChk] at hk
    exact wp_ret ⟨F, hW, hI⟩
  | _ =>
    intro h Q F a w hk hW hI
    cases h <;> simp [hcChk] at hk

end
end Go.Hx
