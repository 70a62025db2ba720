/-
  THE ABSTRACT LAYER, NINTH TEXT: every operation, every region in the text's order is sound. Generic over the program. No condition.
-/
import Derived.Test.YtjnagiaooecklaaDoorG5
set_option linter.all false
namespace Go.Hx
open Go.RowKit
variable [Glob]

section
variable {P : Program} {E : Env} {S : Start} {m : Mem} {β : Bx} {ow : Ow} {F : List Ct} {a : Act} {w : World}

theorem run_callFunc {f : FuncId} (h : callable P f = true) (args : Array Value) (w : World) : (callFunc f args).run P w = .ok (.enter f args) w := by
  unfold callable at h
  split at h
  · rename_i fn hf
    simp only [Bool.and_eq_true, Bool.not_eq_true'] at h
    obtain ⟨h1, h2⟩ := h
    have h3 : fn.body ≠ none := by intro hb; rw [hb] at h1; cases h1
    have h4 : fn.name ≠ "runtime.NumGoroutine" := by intro hb; rw [hb] at h2; simp at h2
    simp [callFunc, hf, h3, h4]
  · cases h

theorem run_call {c : Call} {o : Oper} (ho : o.op = .call c) {x : Operand} (hc : c.callee = .value x) {f : FuncId} {us : List Value} (hx : a.eval x = .func (.func f) #[] us.toArray) (hf : callable P f = true) :
    (execOp a.eval o).run P w = .ok (.enter f (c.args.toList.map a.eval ++ us).toArray) w := by
  unfold execOp
  rw [ho]
  simp only [resolve, hc, hx, Deferred.ofValue, Sem.run_bind, Sem.run_pure, Result.andThen_ok, invoke]
  rw [run_callFunc hf]
  congr 2
  apply Array.ext'
  simp

theorem allV_own {args : List (Opd × AM)} (h : allV args = true) : ownKey args = none ∧ ioKey args = none := by
  induction args with
  | nil => exact ⟨rfl, rfl⟩
  | cons x r ih =>
    obtain ⟨x, mo⟩ := x
    simp only [allV, List.all_cons, Bool.and_eq_true] at h
    obtain ⟨h1, h2⟩ := h
    cases mo <;> simp at h1
    exact ih h2

theorem os_callo (wf : E.Wf) (h : InvG E S m β ow F a w) {d f x : Nat} {o : Oper} (hd : dstOk E.N (some d) o.dst = true) {c : Call} (ho : o.op = .call c) (hc : c.callee = .value (.func f)) {y : Operand} (hargs : c.args.toList = [y]) (hk : opdOk E.N (.t x) y = true) {K : List Ct → Prop} {Q : Exit → Act → World → Prop} {v v' : OVal}
    (hx : F.getD x .un = .ov v) (hcon : OContract P f v v') (hK : K ((F.set x .un).set d (.ov v'))) : o.wp P a w (Lift E S K) Q := by
  obtain ⟨hd1, hd2⟩ := dstOk_some hd
  obtain ⟨rfl, hyN⟩ := eval_slot hk
  have hrep := h.slots x hyN
  rw [hx] at hrep
  obtain ⟨fp, r1, r2, r3⟩ := hrep
  have hD := detach wf h fun g hg => (r3 g hg).1
  have hloose := loose_of h r3
  have hop := run_call (a := a) (w := w) ho hc (f := f) (us := []) rfl hcon.1
  rw [hargs] at hop
  unfold Oper.wp
  rw [hop]
  refine Calls.mono (hcon.2 m w (a.tmps.getD x undef) fp h.mem r1 r2 (fun g hg => ⟨h.gown (r3 g hg).1, (r3 g hg).2⟩) h.glob) fun e w' hp => ?_
  obtain ⟨m', p1, p2, p3, p4, u', fp', rfl, q1, q2, q3⟩ := hp
  have hkeep : ∀ b t, dropB ow fp b = some t → b ∉ fp ∧ b < w.heap.size := by
    intro b t hb
    refine ⟨fun hc => by simp [dropB, hc] at hb, hD.lt b t hb⟩
  have hQ : InvG E S m' β (dropB ow fp) (F.set x .un) a w' := hD.quiet {
    le := p1
    mem := p2
    heap := fun b t hb => p3.block b (hkeep b t hb).2 (hkeep b t hb).1
    free := fun b t o hb => by
      cases hm : m' b o with
      | none =>
        cases hm2 : m b o with
        | none => rfl
        | some u => rw [p1 b o u hm2] at hm; cases hm
      | some u =>
        rcases p4 b o u hm with h1 | h1 | h1
        · exact h1.symm
        · have := (hkeep b t hb).2; omega
        · exact ((hkeep b t hb).1 h1).elim
    new := fun b o u hu => by
      rcases p4 b o u hu with h1 | h1 | h1
      · exact .inl h1
      · exact .inr (.inl (Nat.le_trans h.pres.size h1))
      · rcases (hloose b h1).2.1 with h2 | h2
        · exact .inr (.inl h2)
        · exact .inr (.inr h2)
    pres := p3.mono fun b _ hb => (hloose b hb).2.1.symm }
  refine ⟨_, hK, ?_⟩
  rw [hd1]
  refine slot_ov wf hQ hd2 q1 q2 fun g hg => ⟨?_, ?_, q1.lt g hg, (q3 g hg).2⟩
  · rcases (q3 g hg).1 with h1 | h1
    · cases ho : dropB ow fp g with
      | none => rfl
      | some t => have := hD.lt g t ho; omega
    · exact (hloose g h1).1
  · rcases (q3 g hg).1 with h1 | h1
    · exact .inl (Nat.le_trans h.pres.size h1)
    · exact (hloose g h1).2.1

theorem os_callp (wf : E.Wf) (h : InvG E S m β ow F a w) {d f x : Nat} {o : Oper} (hd : dstOk E.N (some d) o.dst = true) {c : Call} (ho : o.op = .call c) (hc : c.callee = .value (.func f)) {y : Operand} (hargs : c.args.toList = [y]) (hk : opdOk E.N (.t x) y = true) {K : List Ct → Prop} {Q : Exit → Act → World → Prop} {v : OVal} {cs : List OV} {xs : List PV}
    (hx : F.getD x .un = .ov v) (hcon : OContract P f v (.agg cs)) (hfz : frzL cs = some xs) (hK : K ((F.set x .un).set d (.pv (.agg xs)))) : o.wp P a w (Lift E S K) Q := by
  obtain ⟨hd1, hd2⟩ := dstOk_some hd
  obtain ⟨rfl, hyN⟩ := eval_slot hk
  have hrep := h.slots x hyN
  rw [hx] at hrep
  obtain ⟨fp, r1, r2, r3⟩ := hrep
  have hD := detach wf h fun g hg => (r3 g hg).1
  have hloose := loose_of h r3
  have hop := run_call (a := a) (w := w) ho hc (f := f) (us := []) rfl hcon.1
  rw [hargs] at hop
  unfold Oper.wp
  rw [hop]
  refine Calls.mono (hcon.2 m w (a.tmps.getD x undef) fp h.mem r1 r2 (fun g hg => ⟨h.gown (r3 g hg).1, (r3 g hg).2⟩) h.glob) fun e w' hp => ?_
  obtain ⟨m', p1, p2, p3, p4, u', fp', rfl, q1, q2, q3⟩ := hp
  have hkeep : ∀ b t, dropB ow fp b = some t → b ∉ fp ∧ b < w.heap.size := by
    intro b t hb
    refine ⟨fun hc => by simp [dropB, hc] at hb, hD.lt b t hb⟩
  have hQ : InvG E S m' β (dropB ow fp) (F.set x .un) a w' := hD.quiet {
    le := p1
    mem := p2
    heap := fun b t hb => p3.block b (hkeep b t hb).2 (hkeep b t hb).1
    free := fun b t o hb => by
      cases hm : m' b o with
      | none =>
        cases hm2 : m b o with
        | none => rfl
        | some u => rw [p1 b o u hm2] at hm; cases hm
      | some u =>
        rcases p4 b o u hm with h1 | h1 | h1
        · exact h1.symm
        · have := (hkeep b t hb).2; omega
        · exact ((hkeep b t hb).1 h1).elim
    new := fun b o u hu => by
      rcases p4 b o u hu with h1 | h1 | h1
      · exact .inl h1
      · exact .inr (.inl (Nat.le_trans h.pres.size h1))
      · rcases (hloose b h1).2.1 with h2 | h2
        · exact .inr (.inl h2)
        · exact .inr (.inr h2)
    pres := p3.mono fun b _ hb => (hloose b hb).2.1.symm }
  have hl : Loose S m' w' (dropB ow fp) fp' := fun g hg => ⟨by
    rcases (q3 g hg).1 with h1 | h1
    · cases ho : dropB ow fp g with
      | none => rfl
      | some t => have := hD.lt g t ho; omega
    · exact (hloose g h1).1, by
    rcases (q3 g hg).1 with h1 | h1
    · exact .inl (Nat.le_trans h.pres.size h1)
    · exact (hloose g h1).2.1, q1.lt g hg, (q3 g hg).2⟩
  obtain ⟨us, hus, hrep⟩ := q1
  obtain ⟨m2, g1, g2, g3, g4⟩ := OvL.freeze w' cs m' us fp' xs hrep hfz p2 q2 fun g hg => (q3 g hg).2
  have hQ2 : InvG E S m2 β (dropB ow fp) (F.set x .un) a w' := hQ.quiet {
    le := g1
    mem := g2
    heap := fun _ _ _ => rfl
    free := fun b t o hb => g3 b o fun hc => (by rw [(hl b hc).1] at hb; cases hb)
    new := fun b o u hu => (by
      by_cases hc : b ∈ fp'
      · exact .inr (hl b hc).2.1
      · rw [g3 b o hc] at hu; exact .inl hu)
    pres := Pres.refl _ _ }
  refine ⟨_, hK, ?_⟩
  rw [hd1]
  exact ⟨m2, β, _, hQ2.slot wf hd2 ⟨us, hus, g4⟩⟩

theorem hop_sound (wf : E.Wf) (h : InvG E S m β ow F a w) {ho : HOp} {o : Oper} (hk : hchk P E ho o.op o.dst = true) {K : List Ct → Prop} {X : Value → List Ct → Prop} {Q : Exit → Act → World → Prop}
    (hQ : ∀ v F' a' w', X v F' → Inv E S F' a' w' → Q (.panic [{ v, recovered := false }]) a' w') (hW : opW P ho F K X) : o.wp P a w (Lift E S K) Q := by
  cases ho with
  | val d v =>
    simp only [hchk, Bool.and_eq_true] at hk
    exact os_val wf h hk.1 hk.2 hW.1 hW.2
  | call d f args =>
    simp only [hchk] at hk
    split at hk
    · rename_i c ho
      simp only [Bool.and_eq_true] at hk
      obtain ⟨⟨h1, h2⟩, h3⟩ := hk
      split at h2
      · rename_i g hc
        simp only [beq_iff_eq] at h2
        subst h2
        have hcall : callable P g = true := by obtain ⟨_, r, hcon, _⟩ := hW; exact hcon.1
        have := run_call (a := a) (w := w) ho hc (f := g) (us := []) rfl hcall
        refine os_call wf h h1 h3 (extra := []) (us2 := []) (by simp) rfl this hQ ?_
        simpa [opW] using hW
      · cases h2
    · cases hk
  | callv d x args =>
    simp only [hchk] at hk
    split at hk
    · rename_i c ho
      simp only [Bool.and_eq_true] at hk
      obtain ⟨⟨⟨h1, h2⟩, h3⟩, h4⟩ := hk
      split at h2
      · rename_i y hc
        simp only [opW] at hW
        split at hW
        · rename_i f caps e1
          obtain ⟨n1, hW⟩ := hW
          obtain ⟨us, hv, hr⟩ := opd_pv h h2 n1 e1
          have hcall : callable P f = true := by obtain ⟨_, r, hcon, _⟩ := hW; exact hcon.1
          have := run_call (w := w) ho hc hv hcall
          refine os_call wf h h1 h4 (extra := caps.map fun c => .val (.one c)) (us2 := us) ?_ (caps_rep hr) this hQ hW
          intro x hx
          obtain ⟨c, _, rfl⟩ := List.mem_map.1 hx
          exact ⟨_, rfl⟩
        · exact hW.elim
      · cases h2
    · cases hk
  | mvo d x =>
    simp only [hchk, Bool.and_eq_true] at hk
    simp only [opW] at hW
    split at hW
    · rename_i e k rows e1
      obtain ⟨h1, h2⟩ := hk
      split at h2
      · rename_i y ho; exact os_mvo wf h h1 (.inl ho) h2 e1 hW.1 hW.2
      · rename_i y ho; exact os_mvo wf h h1 (.inr ho) h2 e1 hW.1 hW.2
      · cases h2
    · exact hW.elim
  | nlo d e k =>
    simp only [hchk, Bool.and_eq_true] at hk
    obtain ⟨h1, h2⟩ := hk
    split at h2
    · rename_i y ho; exact os_nlo wf h h1 (.inl ho) h2 hW
    · rename_i y ho; exact os_nlo wf h h1 (.inr ho) h2 hW
    · cases h2
  | ldo d x j base off e k =>
    simp only [hchk, Bool.and_eq_true] at hk
    obtain ⟨h1, h2⟩ := hk
    split at h2
    · rename_i t y ho
      simp only [Bool.and_eq_true, beq_iff_eq] at h2
      obtain ⟨⟨h3, h4⟩, h5⟩ := h2
      simp only [opW] at hW
      split at hW
      · rename_i j' off' e' k' rows e1 e2
        obtain ⟨rfl, rfl, rfl, rfl, hW⟩ := hW
        exact os_ldo wf h h1 ho h3 h4 h5 e1 e2 hW
      · rename_i j' off' kk e1 e2
        obtain ⟨rfl, rfl, hW⟩ := hW
        exact os_ldn wf h h1 ho h3 h4 h5 e1 e2 hW
      · exact hW.elim
    · cases h2
  | sto x j base off n y =>
    simp only [hchk, Bool.and_eq_true] at hk
    obtain ⟨h1, h2⟩ := hk
    split at h2
    · rename_i t x' y' ho
      simp only [Bool.and_eq_true, beq_iff_eq] at h2
      obtain ⟨⟨⟨h3, h4⟩, h5⟩, h6⟩ := h2
      simp only [opW] at hW
      split at hW
      · rename_i j' off' p e1 e2
        obtain ⟨rfl, rfl, hn, hne, hW⟩ := hW
        exact os_sto wf h (Option.isNone_iff_eq_none.1 h1) ho h3 h4 h5 h6 e1 e2 hn hne hW
      · exact hW.elim
    · cases h2
  | std x j base sz y =>
    simp only [hchk, Bool.and_eq_true] at hk
    obtain ⟨h1, h2⟩ := hk
    split at h2
    · rename_i t x' y' ho
      simp only [Bool.and_eq_true, beq_iff_eq] at h2
      obtain ⟨⟨⟨h3, h4⟩, h5⟩, h6⟩ := h2
      simp only [opW] at hW
      split at hW
      · rename_i j' off' p e1 e2
        obtain ⟨rfl, hlt, hn, hne, hW⟩ := hW
        have h5' : boxHas E j' base (off' + 1) = true := by
          unfold boxHas at h5 ⊢
          split at h5
          · simp only [Bool.and_eq_true, decide_eq_true_eq] at h5 ⊢
            exact ⟨h5.1, by omega⟩
          · cases h5
        exact os_sto wf h (Option.isNone_iff_eq_none.1 h1) ho h3 h4 h5' h6 e1 e2 hn hne hW
      · exact hW.elim
    · cases h2
  | stw x j base off y =>
    simp only [hchk, Bool.and_eq_true] at hk
    obtain ⟨h1, h2⟩ := hk
    split at h2
    · rename_i t x' y' ho
      simp only [Bool.and_eq_true, beq_iff_eq] at h2
      obtain ⟨⟨⟨h3, h4⟩, h5⟩, h6⟩ := h2
      simp only [opW] at hW
      split at hW
      · rename_i j' off' e k rows e1 e2
        obtain ⟨rfl, rfl, hW⟩ := hW
        exact os_stw wf h (Option.isNone_iff_eq_none.1 h1) ho h3 h4 h5 h6 e1 e2 hW
      · exact hW.elim
    · cases h2
  | alloc d j base cells =>
    simp only [hchk, Bool.and_eq_true] at hk
    obtain ⟨⟨⟨h0, h1⟩, h2⟩, h3⟩ := hk
    split at h3
    · rename_i t ho
      split at h3
      · rename_i z hz
        exact os_alloc wf h (of_decide_eq_true h0) h1 ho h2 hz h3 hW
      · cases h3
    · cases h3
  | box d j base n x =>
    simp only [hchk, Bool.and_eq_true] at hk
    obtain ⟨⟨⟨h0, h1⟩, h2⟩, h3⟩ := hk
    split at h3
    · rename_i t y ho
      simp only [opW] at hW
      split at hW
      · rename_i p e1
        obtain ⟨hn, hne, hW⟩ := hW
        exact os_box wf h (of_decide_eq_true h0) h1 ho h3 h2 e1 hn hne hW
      · exact hW.elim
    · cases h3
  | alo d j base cells =>
    simp only [hchk, Bool.and_eq_true] at hk
    obtain ⟨⟨⟨⟨h0, h1⟩, h2⟩, h4⟩, h3⟩ := hk
    obtain ⟨hu, hK⟩ := hW
    split at h3
    · rename_i t ho
      split at h3
      · rename_i z hz
        exact una_swap wf h (dstOk_some h1).2 (boxIs_of h2) (of_decide_eq_true h4) hu (by simp) hK fun K' hK' => os_alloc wf h (of_decide_eq_true h0) h1 ho h2 hz h3 hK'
      · cases h3
    · cases h3
  | bxo d j base n x =>
    simp only [hchk, Bool.and_eq_true] at hk
    obtain ⟨⟨⟨⟨h0, h1⟩, h2⟩, h4⟩, h3⟩ := hk
    split at h3
    · rename_i t y ho
      simp only [opW] at hW
      split at hW
      · rename_i p e1
        obtain ⟨hn, hne, hu, hW⟩ := hW
        exact una_swap wf h (dstOk_some h1).2 (boxIs_of h2) (of_decide_eq_true h4) hu (by simpa using hn) hW fun K' hK' => os_box wf h (of_decide_eq_true h0) h1 ho h3 h2 e1 hn hne hK'
      · exact hW.elim
    · cases h3
  | app d e k x y =>
    simp only [hchk, Bool.and_eq_true] at hk
    obtain ⟨h1, h2⟩ := hk
    split at h2
    · rename_i c ho
      simp only [Bool.and_eq_true] at h2
      obtain ⟨h3, h4⟩ := h2
      obtain ⟨callee, args, argTypes⟩ := c
      simp only at h3 h4
      split at h4
      · rename_i x' y' t t' e1 e2
        simp only [Bool.and_eq_true, beq_iff_eq] at h4
        obtain ⟨⟨⟨h5, h6⟩, rfl⟩, h7⟩ := h4
        have ha : args = #[x', y'] := Array.ext' e1
        have ht : argTypes = #[t, t] := Array.ext' e2
        subst ha; subst ht
        have hcl : callee = .builtin .append := by
          split at h3
          · rfl
          · cases h3
        subst hcl
        simp only [opW] at hW
        split at hW
        · rename_i e' k' rows k'' rs e3 e4
          cases x with
          | t n =>
            obtain ⟨hne, rfl, rfl, rfl, hn2, hb, hW⟩ := hW
            exact os_app wf h h1 ho h5 h6 h7 e3 e4 hne hn2 hb hW
          | c p => exact hW.1.elim
          | f n => exact hW.1.elim
        · exact hW.elim
      · cases h4
    · cases h2
  | bsl d e k parts =>
    simp only [hchk, Bool.and_eq_true] at hk
    obtain ⟨h1, h2⟩ := hk
    split at h2
    · rename_i t n ps ho
      simp only [Bool.and_eq_true, beq_iff_eq, decide_eq_true_eq] at h2
      obtain ⟨⟨⟨h3, h4⟩, h5⟩, h6⟩ := h2
      exact os_bsl wf h h1 ho h3 h4 h5 h6 hW.1 hW.2
    · cases h2
  | pan x =>
    simp only [opW] at hW
    split at hW
    · rename_i ti u' e1
      obtain ⟨hne, hX⟩ := hW
      simp only [hchk] at hk
      split at hk
      · rename_i c ho
        simp only [Bool.and_eq_true] at hk
        obtain ⟨h3, h4⟩ := hk
        obtain ⟨callee, args, argTypes⟩ := c
        simp only at h3 h4
        split at h4
        · rename_i y e2
          have ha : args = #[y] := Array.ext' e2
          subst ha
          have hcl : callee = .builtin .panic := by
            split at h3
            · rfl
            · cases h3
          subst hcl
          exact os_pan h (.inl ⟨_, ho⟩) h4 e1 hne (hQ _ _ _ _ hX ⟨m, β, ow, h⟩)
        · cases h4
      · rename_i y ho
        exact os_pan h (.inr ho) hk e1 hne (hQ _ _ _ _ hX ⟨m, β, ow, h⟩)
      · cases hk
    · exact hW.elim
  | nlk d e k =>
    simp only [hchk, Bool.and_eq_true] at hk
    obtain ⟨h1, h2⟩ := hk
    split at h2
    · rename_i y ho
      exact os_nlk wf h h1 (.inl ho) h2 hW
    · rename_i y ho
      exact os_nlk wf h h1 (.inr ho) h2 hW
    · cases h2
  | mvk d x =>
    simp only [hchk, Bool.and_eq_true] at hk
    obtain ⟨h1, h2⟩ := hk
    simp only [opW] at hW
    split at hW
    · rename_i e k rows e1
      split at h2
      · rename_i y ho
        exact os_mvk wf h h1 (.inl ho) h2 e1 hW.1 hW.2
      · rename_i y ho
        exact os_mvk wf h h1 (.inr ho) h2 e1 hW.1 hW.2
      · cases h2
    · exact hW.elim
  | trk d x hi =>
    simp only [hchk, Bool.and_eq_true] at hk
    obtain ⟨h1, h2⟩ := hk
    split at h2
    · rename_i t y lo' hi' mx ho
      simp only [Bool.and_eq_true, Option.isNone_iff_eq_none] at h2
      obtain ⟨⟨⟨⟨rfl, rfl⟩, h3⟩, h4⟩, h5⟩ := h2
      split at h5
      · rename_i et he
        obtain ⟨sz, hsz⟩ := Option.isSome_iff_exists.1 h5
        simp only [opW] at hW
        split at hW
        · rename_i e k rows ik n e1 e2
          obtain ⟨hne, hnd, h6, h7, hW⟩ := hW
          exact os_trk wf h h1 ho h3 h4 he hsz e1 e2 hne hnd h6 h7 hW
        · exact hW.elim
      · cases h5
    · cases h2
  | apk d e k x y =>
    simp only [hchk, Bool.and_eq_true] at hk
    obtain ⟨h1, h2⟩ := hk
    split at h2
    · rename_i c ho
      simp only [Bool.and_eq_true] at h2
      obtain ⟨h3, h4⟩ := h2
      obtain ⟨callee, args, argTypes⟩ := c
      simp only at h3 h4
      split at h4
      · rename_i x' y' t t' e1 e2
        simp only [Bool.and_eq_true, beq_iff_eq] at h4
        obtain ⟨⟨⟨h5, h6⟩, rfl⟩, h7⟩ := h4
        have ha : args = #[x', y'] := Array.ext' e1
        have ht : argTypes = #[t, t] := Array.ext' e2
        subst ha; subst ht
        have hcl : callee = .builtin .append := by
          split at h3
          · rfl
          · cases h3
        subst hcl
        simp only [opW] at hW
        split at hW
        · rename_i e' k' rows k'' rs e3 e4
          obtain ⟨hne, rfl, rfl, rfl, hn2, hb, hW⟩ := hW
          exact os_apk wf h h1 ho h5 h6 h7 e3 e4 hne hn2 hb hW
        · exact hW.elim
      · cases h4
    · cases h2
  | vnl d e k =>
    simp only [hchk, Bool.and_eq_true] at hk
    obtain ⟨h1, h2⟩ := hk
    split at h2
    · rename_i y ho; exact os_vnl wf h h1 (.inl ho) h2 hW
    · rename_i y ho; exact os_vnl wf h h1 (.inr ho) h2 hW
    · cases h2
  | vmv d x =>
    simp only [hchk, Bool.and_eq_true] at hk
    obtain ⟨h1, h2⟩ := hk
    simp only [opW] at hW
    split at hW
    · rename_i v e1
      split at h2
      · rename_i y ho; exact os_vmv wf h h1 (.inl ho) h2 e1 hW.2
      · rename_i y ho; exact os_vmv wf h h1 (.inr ho) h2 e1 hW.2
      · cases h2
    · exact hW.elim
  | vld d x j base off n agg =>
    simp only [hchk, Bool.and_eq_true] at hk
    obtain ⟨h1, h2⟩ := hk
    split at h2
    · rename_i t y ho
      simp only [Bool.and_eq_true, beq_iff_eq, Bool.or_eq_true] at h2
      obtain ⟨⟨⟨⟨h3, h4⟩, h5⟩, h6⟩, h7⟩ := h2
      simp only [opW] at hW
      split at hW
      · rename_i j' off' cs e1 e2
        obtain ⟨rfl, rfl, hW⟩ := hW
        exact os_vld wf h h1 ho h3 h4 h5 h6 h7 e1 e2 hW
      · exact hW.elim
    · cases h2
  | callo d f x =>
    simp only [hchk] at hk
    simp only [Bool.and_eq_true] at hk
    obtain ⟨h1, h2⟩ := hk
    split at h2
    · rename_i c ho
      simp only [Bool.and_eq_true] at h2
      obtain ⟨h2, h3⟩ := h2
      split at h2
      · rename_i g hc
        simp only [beq_iff_eq] at h2
        subst h2
        split at h3
        · rename_i y hargs
          simp only [opW] at hW
          split at hW
          · rename_i v e1
            obtain ⟨v', hcon, hW⟩ := hW
            exact os_callo wf h h1 ho hc hargs h3 e1 hcon hW
          · exact hW.elim
        · cases h3
      · cases h2
    · cases h2
  | callp d f x =>
    simp only [hchk] at hk
    simp only [Bool.and_eq_true] at hk
    obtain ⟨h1, h2⟩ := hk
    split at h2
    · rename_i c ho
      simp only [Bool.and_eq_true] at h2
      obtain ⟨h2, h3⟩ := h2
      split at h2
      · rename_i g hc
        simp only [beq_iff_eq] at h2
        subst h2
        split at h3
        · rename_i y hargs
          simp only [opW] at hW
          split at hW
          · rename_i v e1
            obtain ⟨cs, xs, hcon, hfz, hW⟩ := hW
            exact os_callp wf h h1 ho hc hargs h3 e1 hcon hfz hW
          · exact hW.elim
        · cases h3
      · cases h2
    · cases h2
  | vbx d j base n x =>
    simp only [hchk, Bool.and_eq_true, decide_eq_true_eq] at hk
    obtain ⟨⟨⟨h1, h2⟩, h3⟩, h4⟩ := hk
    split at h4
    · rename_i t y ho
      simp only [opW] at hW
      split at hW
      · rename_i v e1
        exact os_vbx wf h h1 h2 ho h4 h3 e1 hW.1 hW.2
      · exact hW.elim
    · cases h4
  | vst x j base off n y =>
    simp only [hchk, Bool.and_eq_true] at hk
    obtain ⟨h1, h2⟩ := hk
    split at h2
    · rename_i t x' y' ho
      simp only [Bool.and_eq_true, beq_iff_eq] at h2
      obtain ⟨⟨⟨h3, h4⟩, h5⟩, h6⟩ := h2
      simp only [opW] at hW
      split at hW
      · rename_i j' off' v e1 e2
        obtain ⟨rfl, rfl, hn, hW⟩ := hW
        exact os_vst wf h (Option.isNone_iff_eq_none.1 h1) ho h3 h4 h5 h6 e1 e2 hn hW
      · exact hW.elim
    · cases h2
  | vap d e k x y =>
    simp only [hchk, Bool.and_eq_true] at hk
    obtain ⟨h1, h2⟩ := hk
    split at h2
    · rename_i c ho
      simp only [Bool.and_eq_true] at h2
      obtain ⟨h3, h4⟩ := h2
      obtain ⟨callee, args, argTypes⟩ := c
      simp only at h3 h4
      split at h4
      · rename_i x' y' t t' e1 e2
        simp only [Bool.and_eq_true, beq_iff_eq] at h4
        obtain ⟨⟨⟨h5, h6⟩, rfl⟩, h7⟩ := h4
        have ha : args = #[x', y'] := Array.ext' e1
        have ht : argTypes = #[t, t] := Array.ext' e2
        subst ha; subst ht
        have hcl : callee = .builtin .append := by
          split at h3
          · rfl
          · cases h3
        subst hcl
        simp only [opW] at hW
        split at hW
        · rename_i pb e' k' rows e3
          obtain ⟨hne, rfl, rfl, hs, hb, hW⟩ := hW
          exact os_vap wf h h1 ho h5 h6 h7 e3 hne hs hb hW
        · exact hW.elim
      · cases h4
    · cases h2
  | vbs d e k x =>
    simp only [hchk, Bool.and_eq_true] at hk
    obtain ⟨h1, h2⟩ := hk
    split at h2
    · rename_i t n ps ho
      simp only [Bool.and_eq_true, beq_iff_eq, decide_eq_true_eq] at h2
      obtain ⟨⟨⟨h3, h4⟩, h5⟩, h6⟩ := h2
      simp only [opW] at hW
      split at hW
      · rename_i v e1
        exact os_vbs wf h h1 ho h3 h4 h5 h6 e1 hW.1 hW.2
      · exact hW.elim
    · cases h2
  | vle d x r j base pt n agg =>
    simp only [hchk, Bool.and_eq_true] at hk
    obtain ⟨⟨⟨h1, h2⟩, _⟩, h3⟩ := hk
    split at h3
    · rename_i t y ho
      simp only [Bool.and_eq_true, beq_iff_eq, Bool.or_eq_true] at h3
      exact os_vle wf h h1 h2 ho h3.1.1.1 h3.1.1.2 h3.1.2 h3.2 hW
    · cases h3
  | vlp d x r j base pt n agg =>
    simp only [hchk, Bool.and_eq_true] at hk
    obtain ⟨⟨⟨h1, h2⟩, _⟩, h3⟩ := hk
    split at h3
    · rename_i t y ho
      simp only [Bool.and_eq_true, beq_iff_eq, Bool.or_eq_true] at h3
      exact os_vlp wf h h1 h2 ho h3.1.1.1 h3.1.1.2 h3.1.2 h3.2 hW
    · cases h3
  | vlh d x r j base pt =>
    simp only [hchk, Bool.and_eq_true] at hk
    obtain ⟨⟨⟨h1, h2⟩, _⟩, h3⟩ := hk
    split at h3
    · rename_i t y ho
      simp only [Bool.and_eq_true, beq_iff_eq] at h3
      exact os_vlh wf h h1 h2 ho h3.1.1 h3.1.2 h3.2 hW
    · cases h3
  | vse x r j base pt n y =>
    simp only [hchk, Bool.and_eq_true] at hk
    obtain ⟨⟨⟨h1, h2⟩, _⟩, h3⟩ := hk
    split at h3
    · rename_i t x' y' ho
      simp only [Bool.and_eq_true, beq_iff_eq] at h3
      exact os_vse wf h (Option.isNone_iff_eq_none.1 h1) h2 ho h3.1.1 h3.1.2 h3.2 hW
    · cases h3
  | isn d ng x =>
    simp only [hchk, Bool.and_eq_true] at hk
    obtain ⟨h1, h2⟩ := hk
    split at h2
    · rename_i op' t x' t' ho
      simp only [Bool.and_eq_true, decide_eq_true_eq] at h2
      obtain ⟨⟨h3, h4⟩, h5⟩ := h2
      simp only [opW] at hW
      split at hW
      · rename_i k rows e1
        exact os_isn wf h h1 ho h3 h4 h5 (.inl e1) hW.1 fun b hb _ => hW.2 b hb
      · rename_i k e1
        exact os_isn wf h h1 ho h3 h4 h5 (.inr ⟨e1, rfl⟩) hW.1 fun b _ hb => by rw [hb e1]; simpa using hW.2
      · exact hW.elim
    · cases h2

/-! ### Guards, regions -/

def hoChk (P : Program) (E : Env) (ops : Array Oper) (h : HO) (o : Oper) : Bool :=
  hchk P E h.op o.op o.dst && (match h.g, o.guard with
    | none, none => true
    | some (s, b), some (j, b') => b == b' && ((ops[j]?).bind (·.dst)) == some s && decide (s < E.N) && (match h.op with | .val _ _ => true | .call (some _) _ args => allV args | .callv (some _) _ args => allV args | .vlp _ _ _ _ _ _ _ _ => true | _ => false)
    | _, _ => false)

theorem wanted_of (h : InvG E S m β ow F a w) {ops : Array Oper} {o : Oper} {s j : Nat} {pol : Bool} (hg : o.guard = some (j, pol)) (hj : (ops[j]?).bind (·.dst) = some s) (hs : s < E.N) {T : Bool} (hT : guardB F (s, pol) = some T) : Region.wanted o (yielded ops a.tmps) = T := by
  have hslot := h.slots s hs
  have hsz : s < a.tmps.size := by rw [h.lenA]; exact hs
  have hget : a.tmps[s]? = some (a.tmps.getD s undef) := getD_arr hsz
  unfold guardB at hT
  simp only at hT
  unfold Region.wanted yielded
  rw [hg]
  simp only [hj, Option.bind_some, hget]
  split at hT
  · rename_i t e1
    rw [e1] at hslot
    have hv : a.tmps.getD s undef = .bool t := hslot.1
    rw [hv]
    simp only [Option.some.injEq] at hT
    rw [← hT]
    cases t <;> cases pol <;> rfl
  · rename_i t1 t e1
    rw [e1] at hslot
    simp only [Option.some.injEq] at hT
    rw [← hT]
    cases t1 with
    | true =>
      have hv : a.tmps.getD s undef = .bool t := (hslot.1 rfl).1
      rw [hv]
      cases t <;> cases pol <;> rfl
    | false =>
      have hv := hslot.2 rfl
      rw [hv]
      rfl
  · cases hT

theorem ho_sound (wf : E.Wf) (h : InvG E S m β ow F a w) {ops : Array Oper} {i : Nat} {ho : HO} {o : Oper} (hi : ops[i]? = some o) (hk : hoChk P E ops ho o = true) {K : List Ct → Prop} {X : Value → List Ct → Prop} {Q : Exit → Act → World → Prop}
    (hQ : ∀ v F' a' w', X v F' → Inv E S F' a' w' → Q (.panic [{ v, recovered := false }]) a' w') (hW : hoW P ho F K X) : wpOp P ops Q i (Lift E S K) a w := by
  unfold wpOp
  rw [hi]
  simp only
  obtain ⟨g, op⟩ := ho
  simp only [hoChk, Bool.and_eq_true] at hk
  obtain ⟨hk1, hk2⟩ := hk
  cases g with
  | none =>
    have hgn : o.guard = none := by
      cases hg : o.guard with
      | none => rfl
      | some x => rw [hg] at hk2; cases hk2
    have hw : Region.wanted o (yielded ops a.tmps) = true := by simp [Region.wanted, hgn]
    rw [if_pos hw]
    exact .inl (hop_sound wf h hk1 hQ hW)
  | some sp =>
    obtain ⟨s, pol⟩ := sp
    cases hg : o.guard with
    | none => rw [hg] at hk2; cases hk2
    | some jb =>
      obtain ⟨j, b'⟩ := jb
      rw [hg] at hk2
      simp only [Bool.and_eq_true, beq_iff_eq, decide_eq_true_eq] at hk2
      obtain ⟨⟨⟨rfl, hj⟩, hs⟩, hop⟩ := hk2
      simp only [hoW] at hW
      split at hW
      · exact hW.elim
      · rename_i T hT
        rw [wanted_of h hg hj hs hT]
        have hskip : ∀ (d : Nat) (x : PVal), o.dst = some d → d < E.N → T = false → K (F.set d (.gd T x)) → Lift E S K (a.put o.dst undef) w := by
          intro d x hd hdN hTf hK
          subst hTf
          refine ⟨_, hK, m, β, ow, ?_⟩
          rw [hd]
          exact h.slot wf hdN ⟨fun h' => (by cases h'), fun _ => rfl⟩
        cases op with
        | val d v =>
          simp only at hW
          simp only [hchk, Bool.and_eq_true] at hk1
          obtain ⟨hd1, hd2⟩ := dstOk_some hk1.1
          split at hW
          · rename_i x e1
            obtain ⟨hc, hK⟩ := hW
            cases hTT : T with
            | true =>
              subst hTT
              rw [if_pos rfl]
              exact .inl (os_valG wf h hk1.1 hk1.2 e1 (hc rfl) hK)
            | false =>
              rw [if_neg (by simp)]
              exact hskip d x hd1 hd2 hTT hK
          · split at hW
            · rw [if_pos rfl]
              exact .inl (hop_sound (ho := .val d v) wf h (by simp only [hchk, Bool.and_eq_true]; exact hk1) (X := X) hQ hW)
            · rw [if_neg (by simp)]
              exact hskip d (bv false) hd1 hd2 rfl hW
        | call d f args =>
          cases d with
          | none => simp at hop
          | some d =>
            simp only at hW hop
            obtain ⟨hc, x, hcon, hK⟩ := hW
            have hk1' := hk1
            simp only [hchk] at hk1'
            split at hk1'
            · rename_i c hoc
              simp only [Bool.and_eq_true] at hk1'
              obtain ⟨hd1, hd2⟩ := dstOk_some hk1'.1.1
              cases hTT : T with
              | true =>
                subst hTT
                rw [if_pos rfl]
                left
                have hown := allV_own hop
                refine Oper.wp_mono (K := Lift E S (fun F' => F' = F.set d (.pv x))) ?_ (hop_sound wf h hk1 (X := X) hQ ?_)
                · rintro a' w' ⟨F', rfl, m', β', ow', h'⟩
                  refine ⟨_, hK, m', β', ow', ?_⟩
                  have hdL : d < F.length := by rw [h.lenF]; exact Nat.lt_of_lt_of_le hd2 wf.le
                  have h2 := h'.forget wf hd2 (c := .gd true x) (fun u hu => by
                    rw [set_get hdL, if_pos rfl] at hu
                    exact ⟨fun _ => hu, fun h'' => (by cases h'')⟩)
                  rwa [List.set_set] at h2
                · simp only [opW, callW]
                  refine ⟨hc rfl, _, hcon rfl, ?_⟩
                  simp only [setRes, setD, resC, dropArgs, hown.1, hown.2, dropOwn, dropIo]
              | false =>
                rw [if_neg (by simp)]
                exact hskip d x hd1 hd2 hTT hK
            · cases hk1'
        | callv d y args =>
          cases d with
          | none => simp at hop
          | some d =>
            simp only at hW hop
            split at hW
            · rename_i f caps e1
              obtain ⟨hc, x, hcon, hK⟩ := hW
              have hk1' := hk1
              simp only [hchk] at hk1'
              split at hk1'
              · rename_i c hoc
                simp only [Bool.and_eq_true] at hk1'
                obtain ⟨hd1, hd2⟩ := dstOk_some hk1'.1.1.1
                cases hTT : T with
                | true =>
                  subst hTT
                  rw [if_pos rfl]
                  left
                  have hown := allV_own hop
                  refine Oper.wp_mono (K := Lift E S (fun F' => F' = F.set d (.pv x))) ?_ (hop_sound wf h hk1 (X := X) hQ ?_)
                  · rintro a' w' ⟨F', rfl, m', β', ow', h'⟩
                    refine ⟨_, hK, m', β', ow', ?_⟩
                    have hdL : d < F.length := by rw [h.lenF]; exact Nat.lt_of_lt_of_le hd2 wf.le
                    have h2 := h'.forget wf hd2 (c := .gd true x) (fun u hu => by
                      rw [set_get hdL, if_pos rfl] at hu
                      exact ⟨fun _ => hu, fun h'' => (by cases h'')⟩)
                    rwa [List.set_set] at h2
                  · simp only [opW, e1, callW]
                    refine ⟨(hc rfl).1, (hc rfl).2, _, hcon rfl, ?_⟩
                    simp only [setRes, setD, resC, dropArgs, hown.1, hown.2, dropOwn, dropIo]
                | false =>
                  rw [if_neg (by simp)]
                  exact hskip d x hd1 hd2 hTT hK
              · cases hk1'
            · exact hW.elim
        | vlp d x r j' base pt n agg =>
          simp only at hW
          cases hTT : T with
          | true =>
            subst hTT
            rw [if_pos rfl]
            exact .inl (hop_sound (ho := .vlp d x r j' base pt n agg) wf h hk1 (X := X) hQ hW)
          | false =>
            subst hTT
            rw [if_neg (by simp)]
            simp only [hchk, Bool.and_eq_true] at hk1
            obtain ⟨hd1, hd2⟩ := dstOk_some hk1.1.1.1
            exact hskip d (bv false) hd1 hd2 rfl hW
        | _ => simp at hop

def opsChk (P : Program) (E : Env) (ops : Array Oper) : List HO → List Oper → Bool
  | [], [] => true
  | h :: hs, o :: os => hoChk P E ops h o && opsChk P E ops hs os
  | _, _ => false

theorem ops_sound (wf : E.Wf) {ops : Array Oper} {K : List Ct → Prop} {X : Value → List Ct → Prop} {Q : Exit → Act → World → Prop}
    (hQ : ∀ v F' a' w', X v F' → Inv E S F' a' w' → Q (.panic [{ v, recovered := false }]) a' w') (hN : ∀ F' a' w', K F' → Inv E S F' a' w' → Q .normal a' w') :
    ∀ (hs : List HO) (os : List Oper) (k : Nat), (∀ i o, os[i]? = some o → ops[k + i]? = some o) → opsChk P E ops hs os = true → ∀ (F : List Ct) (a : Act) (w : World), Inv E S F a w → opsW P hs F K X → wpOps P ops Q (List.range' k os.length) a w
  | [], [], k, _, _, F, a, w, hI, hW => hN F a w hW hI
  | [], _ :: _, _, _, hk, _, _, _, _, _ => by simp [opsChk] at hk
  | _ :: _, [], _, _, hk, _, _, _, _, _ => by simp [opsChk] at hk
  | h :: hs, o :: os, k, hi, hk, F, a, w, hI, hW => by
    simp only [opsChk, Bool.and_eq_true] at hk
    obtain ⟨m, β, ow, hG⟩ := hI
    have h0 : ops[k]? = some o := by simpa using hi 0 o rfl
    simp only [List.length_cons, List.range'_succ]
    rw [wpOps_cons]
    refine wpOp_mono ?_ (ho_sound wf hG h0 hk.1 hQ hW)
    rintro a' w' ⟨F', hK', hI'⟩
    exact ops_sound wf hQ hN hs os (k + 1) (fun i o' ho' => by
      have := hi (i + 1) o' (by simpa using ho')
      rw [show k + 1 + i = k + (i + 1) by omega]; exact this) hk.2 F' a' w' hI' hK'

end
end Go.Hx
