/-
  THE ABSTRACT LAYER, EIGHTH TEXT: slice literals that may be appended to, panics, calls; every operation is sound. Generic over the program. No condition.
-/
import Derived.Test.YtjnagiaooecklaaDoorHxGs
set_option linter.all false
namespace Go.Hx
open Go.RowKit
variable [Glob]

section
variable {P : Program} {E : Env} {S : Start} {m : Mem} {β : Bx} {ow : Ow} {F : List Ct} {a : Act} {w : World}

theorem os_bsl (wf : E.Wf) (h : InvG E S m β ow F a w) {d e k n : Nat} {parts : List Opd} {o : Oper} (hd : dstOk E.N (some d) o.dst = true) {t : TypeId} {ps : Array (Nat × Operand)} (ho : o.op = .buildSlice t n ps) (k0 : rowsOk E.N 0 parts ps.toList = true) (hn : n = parts.length) (hsm : n * k ≤ 2 ^ 24) (he : elemOk P t e k = true)
    {K : List Ct → Prop} {Q : Exit → Act → World → Prop} (hc : (rowsV F k parts).1) (hK : K (F.set d (.own e k (rowsV F k parts).2))) : o.wp P a w (Lift E S K) Q := by
  obtain ⟨hd1, hd2⟩ := dstOk_some hd
  obtain ⟨hu, hk, ie, z, hie, hsz, hby, hz', hzs⟩ := elemOk_of he
  obtain ⟨h1, h2, h3, h4, h5, h6⟩ := rowsV_ok h k0 hc
  have hev : (ps.map fun x => (x.1, a.eval x.2)).toList = ((ps.toList.map fun x => a.eval x.2).zipIdx 0).map (fun x => (x.2, x.1)) := by rw [Array.toList_map]; exact h1
  have hs : szOf P e = some k := by simp [szOf, hie, hsz]
  have hrun : ∃ us : List Value, us.length = n * k ∧ RpL m (rowsV F k parts).2.flatten us ∧ (execOp a.eval o).run P w = .ok (.value (.slice (some ⟨w.heap.size, 0, none⟩) n n)) (w.alloc (.cells us.toArray e)) := by
    rcases Nat.eq_zero_or_pos n with h0 | h0
    · refine ⟨[], by simp [h0], ?_, ?_⟩
      · have : parts = [] := List.eq_nil_of_length_eq_zero (by omega)
        subst this
        simp [rowsV, RpL]
      · have hps : ps = #[] := by
          apply Array.ext'
          exact List.eq_nil_of_length_eq_zero (by rw [h2]; omega)
        unfold execOp; rw [ho]
        subst hps
        simp [h0, Instr.buildSlice, run_underlying hu, run_sizeOf hs, Instr.fill, newRow]
        congr 2
        exact Array.eq_empty_of_size_eq_zero (by simp)
    · refine ⟨_, ?_, h6, ?_⟩
      · have : ((ps.toList.map fun x => a.eval x.2).flatMap fun v => v.cells.toList).length = (ps.toList.map fun x => a.eval x.2).length * k := by
          rw [List.length_flatMap]
          have hall : ∀ l : List Value, (∀ v ∈ l, v.cells.size = k) → (l.map fun v => v.cells.toList.length).sum = l.length * k := by
            intro l
            induction l with
            | nil => simp
            | cons v l ih =>
              intro hl
              simp only [List.map_cons, List.sum_cons, List.length_cons]
              rw [ih (fun u hu => hl u (List.mem_cons_of_mem _ hu)), Array.length_toList, hl v List.mem_cons_self, Nat.add_mul]
              omega
          exact hall _ h4
        rw [this, List.length_map, h2, hn]
      · have hf := Great.fill_whole (s := ie.size) (by omega) (ps.toList.map fun x => a.eval x.2) ((Array.range (n * ie.size)).map (z.cells[· % z.cells.size]!)) (by rw [hsz]; exact h4) (by simp [h2, hn])
        have hpos : ¬ n * ie.size = 0 := by rw [hsz]; exact Nat.mul_ne_zero (by omega) (by omega)
        have hr := run_buildSlice (P := P) w t e n (ps.map fun x => (x.1, a.eval x.2)) _ ie z hu hie hz' (by rw [hsz]; omega) hpos (by rw [hev]; exact hf)
        unfold execOp; rw [ho]
        simp only [Sem.run_bind, hr, Result.andThen_ok]
        rfl
  obtain ⟨us, hul, hus, hrun⟩ := hrun
  have hlen : (rowsV F k parts).2.length = n := by rw [h3, hn]
  have q := Quiet.newBlock h us e
  have hle : m.le (m.put w.heap.size us) := q.le
  have hnm : n ≤ maxLen := by
    have : n ≤ n * k := Nat.le_mul_of_pos_right n hk
    simp only [maxLen]; omega
  have st : Step (fun _ => False) m (m.put w.heap.size us) w (w.alloc (.cells us.toArray e)) ow (fun b => if b = w.heap.size then some (.key d) else ow b) := by
    refine ⟨hle, fun g t hg _ => ⟨q.heap g t hg, fun o' => q.free g t o' hg, ?_⟩⟩
    have := h.lt g t hg
    rw [if_neg (by omega)]
    exact hg
  refine wp_value hrun ⟨_, hK, m.put w.heap.size us, β, fun b => if b = w.heap.size then some (.key d) else ow b, ?_⟩
  rw [hd1]
  have hL := h.lenF
  have hle2 := wf.le
  refine h.step st (by simp) (by simp [Act.put]) rfl ?_ ?_ q.mem q.pres ?_ ?_ q.new
  · intro i hi
    rw [set_get (by omega), put_get (by rw [h.lenA]; exact hd2)]
    by_cases h1' : d = i
    · subst h1'
      right
      rw [if_pos rfl, if_pos rfl]
      refine ⟨⟨us, ?_⟩, fun g hg => ?_⟩
      · rw [hlen]
        refine ⟨hul, .inr ⟨w.heap.size, n, us.toArray, rfl, Nat.zero_le _, heap_alloc_new w _, Nat.le_refl _, hnm, by simp [hul], ?_⟩⟩
        simp [← hul]
      · simp only [Value.ownBlock, Option.some.injEq] at hg
        subst hg
        refine ⟨by simp, RpRows.of_flat h5 (RpL.mono hle _ _ hus) fun i u hi => by simp [Mem.put, hi], fun o' ho' => ?_⟩
        simp only [Mem.put, if_true]
        exact List.getElem?_eq_none (by rw [hul, ← hlen]; exact ho')
    · left
      rw [if_neg h1', if_neg h1']
      exact ⟨rfl, rfl, .inl id⟩
  · intro j bn hj
    left
    have := wf.lo j bn hj
    refine ⟨id, fun o' ho' => ⟨?_, id⟩⟩
    rw [set_get (by omega), if_neg (by omega)]
  · intro b t hb
    split at hb
    · rename_i e'
      exact .inl (by rw [e']; exact h.pres.size)
    · exact h.own b t hb
  · intro b t hb
    split at hb
    · rename_i e'
      rw [e']; simp
    · have := h.lt b t hb
      simp; omega

/-- A panic of the text's own. -/
theorem os_pan (h : InvG E S m β ow F a w) {x : Opd} {y : Operand} {o : Oper} (ho : (∃ ats, o.op = .call { callee := .builtin .panic, args := #[y], argTypes := ats }) ∨ o.op = .panic y) (hk : opdOk E.N x y = true) {ti : TypeId} {u' : Value} (hx : (getO F x).pv? = some (.one (.v (.iface ti u')))) (hne : (getO F x).need)
    {K : Act → World → Prop} {Q : Exit → Act → World → Prop} (hQ : Q (.panic [{ v := .iface ti u', recovered := false }]) a w) : o.wp P a w K Q := by
  have hv : a.eval y = .iface ti u' := (opd_pv h hk hne hx).1
  have hp : (Instr.panic (.iface ti u')).run P w = .halt (.panic (.iface ti u')) w := rfl
  have hr : (execOp a.eval o).run P w = .halt (.panic (.iface ti u')) w := by
    rcases ho with ⟨ats, ho⟩ | ho
    · obtain ⟨dst, op, ty, pos, after, gd⟩ := o
      simp only at ho
      subst ho
      rw [BigFrame.execOp_builtin, BigFrame.builtin_panic]
      simp [hv, hp]
    · unfold execOp; rw [ho]
      simp [hv, hp]
  unfold Oper.wp
  rw [hr]
  exact hQ

/-! ### Calls -/

theorem box_whole {j base sz b : Nat} (hB : BoxRep m w ow F j (base, sz) (some b)) {cs : List PV} (hc : cellsPV F base sz = some cs) : ∃ vs T, w.heap[b]? = some (.cells vs T (0, 0)) ∧ vs.size = sz ∧ RpL m cs vs.toList := by
  obtain ⟨us, h1, h2, h3⟩ := box_cells hB sz 0 (by omega) cs (by simpa using hc)
  obtain ⟨_, _, vs, T, hh, hsz, _⟩ := hB
  refine ⟨vs, T, hh, hsz, ?_⟩
  have : us = vs.toList := by
    apply List.ext_getElem?
    intro i
    by_cases hi : i < us.length
    · have := h3 i _ (List.getElem?_eq_getElem hi)
      rw [Nat.zero_add, cell_of_row w b i vs T (0, 0) hh] at this
      rw [List.getElem?_eq_getElem hi, Array.getElem?_toList, this]
    · simp only at hsz
      rw [List.getElem?_eq_none (by omega), List.getElem?_eq_none (by simp; omega)]
  rw [← this]
  exact h2

theorem args_rep (h : InvG E S m β ow F a w) : ∀ {args : List (Opd × AM)} {ys : List Operand}, argsOk E args ys = true → (avsV F args).1 →
    ArgsRep m w (avsV F args).2 (ys.map a.eval) ∧
    (∀ g, ownB (avsV F args).2 (ys.map a.eval) = some g → ∃ n e k rows, ownKey args = some n ∧ n < E.N ∧ F.getD n .un = .own e k rows ∧ ow g = some (.key n)) ∧
    (∀ n, ownKey args = some n → n < E.N ∧ ∃ e k rows, F.getD n .un = .own e k rows ∧ ownB (avsV F args).2 (ys.map a.eval) = (a.tmps.getD n undef).ownBlock) ∧
    (∀ b, ioB (avsV F args).2 (ys.map a.eval) = some b → ∃ j base sz, ioKey args = some (j, base, sz) ∧ E.Γ[j]? = some (base, sz) ∧ β j = some b ∧ ioLen (avsV F args).2 = sz) ∧
    (∀ j base sz, ioKey args = some (j, base, sz) → E.Γ[j]? = some (base, sz) ∧ ∃ b, β j = some b ∧ ioB (avsV F args).2 (ys.map a.eval) = some b)
  | [], [], _, _ => by simp [avsV, ArgsRep, ownB, ioB, ownKey, ioKey]
  | [], _ :: _, hk, _ => by simp [argsOk] at hk
  | _ :: _, [], hk, _ => by simp [argsOk] at hk
  | (x, mo) :: r, y :: ys, hk, hc => by
    simp only [argsOk, Bool.and_eq_true] at hk
    obtain ⟨⟨hk1, hk2⟩, hk3⟩ := hk
    cases mo with
    | v =>
      simp only [avsV] at hc ⊢
      split at hc
      · rename_i p e1
        obtain ⟨c1, c2⟩ := hc
        obtain ⟨i1, i2, i3, i4, i5⟩ := args_rep h hk3 c2
        have hv := (opd_pv h hk1 c1 e1).norm
        exact ⟨⟨_, _, rfl, hv, i1⟩, i2, i3, i4, i5⟩
      · exact hc.elim
    | r =>
      simp only [avsV] at hc ⊢
      split at hc
      · rename_i p e1
        obtain ⟨c1, c2⟩ := hc
        obtain ⟨i1, i2, i3, i4, i5⟩ := args_rep h hk3 c2
        have hv := opd_pv h hk1 c1 e1
        exact ⟨⟨_, _, rfl, hv, i1⟩, i2, i3, i4, i5⟩
      · exact hc.elim
    | o =>
      simp only [avsV] at hc ⊢
      split at hc
      · rename_i e k rows e1
        obtain ⟨i1, i2, i3, i4, i5⟩ := args_rep h hk3 hc
        cases x with
        | t n =>
          obtain ⟨rfl, hn⟩ := eval_slot hk1
          simp only [getO] at e1
          have hrep := h.slots n hn
          rw [e1] at hrep
          refine ⟨⟨_, _, rfl, OwnRep.at_ hrep, i1⟩, ?_, ?_, i4, i5⟩
          · intro g hg
            exact ⟨n, e, k, rows, rfl, hn, e1, (hrep.2 g hg).1⟩
          · intro n' hn'
            simp only [ownKey, Option.some.injEq] at hn'
            subst hn'
            exact ⟨hn, e, k, rows, e1, rfl⟩
        | c p => simp [getO] at e1
        | f n => simp [getO] at e1
      · exact hc.elim
    | n e k =>
      simp only [avsV] at hc ⊢
      split at hc
      · rename_i kk e1
        obtain ⟨i1, i2, i3, i4, i5⟩ := args_rep h hk3 hc
        have hv : a.eval y = .slice none 0 0 := opd_pv h hk1 (p := .one (.nl kk)) (by rw [e1]; trivial) (by rw [e1]; rfl)
        refine ⟨⟨_, _, rfl, by rw [hv]; exact OwnAt.nil m w e k, i1⟩, ?_, ?_, i4, i5⟩
        · intro g hg
          simp only [List.map_cons, hv, ownB, Value.ownBlock] at hg
          cases hg
        · intro n' hn'
          simp [ownKey] at hn'
      · exact hc.elim
    | i j base sz =>
      simp only [avsV] at hc ⊢
      split at hc
      · rename_i j' cs e1 e2
        obtain ⟨rfl, hc⟩ := hc
        obtain ⟨i1, i2, i3, i4, i5⟩ := args_rep h hk3 hc
        obtain ⟨b, hb, hv⟩ := opd_ptr h hk1 e1
        have hj := boxIs_of (by simpa using hk2)
        have hB := h.boxes j' _ hj
        rw [hb] at hB
        obtain ⟨vs, T, hh, hsz, hr⟩ := box_whole hB e2
        have hcl : cs.length = sz := by rw [← hr.length, Array.length_toList, hsz]
        refine ⟨⟨_, _, rfl, ⟨b, vs, T, hv, hh, hB.2.1, hr⟩, i1⟩, i2, i3, ?_, ?_⟩
        · intro b' hb'
          simp only [List.map_cons, hv, ioB, ptrB, Option.some.injEq] at hb'
          subst hb'
          exact ⟨j', base, sz, rfl, hj, hb, hcl⟩
        · intro j2 base2 sz2 h2
          simp only [ioKey, Option.some.injEq, Prod.mk.injEq] at h2
          obtain ⟨rfl, rfl, rfl⟩ := h2
          exact ⟨hj, b, hb, by simp [hv, ioB, ptrB]⟩
      · exact hc.elim

theorem getD_dropIo (wf : E.Wf) {j base sz : Nat} (hj : E.Γ[j]? = some (base, sz)) {F : List Ct} {io : Option (List PV)} {i : Nat} (hi : i < E.N) : (dropIo F io (some (j, base, sz))).getD i .un = F.getD i .un := by
  have := wf.lo j _ hj
  simp only at this
  simp only [dropIo]
  rw [getD_setCells, if_neg (by omega)]

theorem ArgsRep.length : ∀ {as : List AV} {us : List Value}, ArgsRep m w as us → us.length = as.length
  | [], us, h => by simp only [ArgsRep] at h; subst h; rfl
  | x :: xs, us, h => by
    simp only [ArgsRep] at h
    obtain ⟨u, us', rfl, _, h3⟩ := h
    simp [ArgsRep.length h3]

theorem ownB_vals : ∀ {extra : List AV} {us2 : List Value}, (∀ x ∈ extra, ∃ p, x = .val p) → ownB extra us2 = none
  | [], _, _ => rfl
  | x :: xs, [], _ => rfl
  | x :: xs, u :: us, h => by
    obtain ⟨p, rfl⟩ := h x List.mem_cons_self
    simp only [ownB]
    exact ownB_vals fun y hy => h y (List.mem_cons_of_mem _ hy)
theorem ioB_vals : ∀ {extra : List AV} {us2 : List Value}, (∀ x ∈ extra, ∃ p, x = .val p) → ioB extra us2 = none
  | [], _, _ => rfl
  | x :: xs, [], _ => rfl
  | x :: xs, u :: us, h => by
    obtain ⟨p, rfl⟩ := h x List.mem_cons_self
    simp only [ioB]
    exact ioB_vals fun y hy => h y (List.mem_cons_of_mem _ hy)
theorem ownB_append {extra : List AV} {us2 : List Value} (h : ∀ x ∈ extra, ∃ p, x = .val p) : ∀ {as : List AV} {us : List Value}, us.length = as.length → ownB (as ++ extra) (us ++ us2) = ownB as us
  | [], [], _ => by simpa [ownB] using ownB_vals h
  | [], _ :: _, hl => by simp at hl
  | _ :: _, [], hl => by simp at hl
  | x :: as, u :: us, hl => by
    have := ownB_append (us2 := us2) h (as := as) (us := us) (by simpa using hl)
    cases x <;> simp only [List.cons_append, ownB] <;> exact this
theorem ioB_append {extra : List AV} {us2 : List Value} (h : ∀ x ∈ extra, ∃ p, x = .val p) : ∀ {as : List AV} {us : List Value}, us.length = as.length → ioB (as ++ extra) (us ++ us2) = ioB as us
  | [], [], _ => by simpa [ioB] using ioB_vals h
  | [], _ :: _, hl => by simp at hl
  | _ :: _, [], hl => by simp at hl
  | x :: as, u :: us, hl => by
    have := ioB_append (us2 := us2) h (as := as) (us := us) (by simpa using hl)
    cases x <;> simp only [List.cons_append, ioB] <;> exact this
theorem ioLen_append {extra : List AV} : ∀ {as : List AV} {us : List Value} {b : Nat}, ioB as us = some b → ioLen (as ++ extra) = ioLen as
  | [], _, _, h => by simp [ioB] at h
  | _ :: _, [], _, h => by simp [ioB] at h
  | x :: as, u :: us, b, h => by
    cases x with
    | io cells => simp [ioLen]
    | val p => simp only [ioB] at h; simp only [List.cons_append, ioLen]; exact ioLen_append h
    | own e k rows => simp only [ioB] at h; simp only [List.cons_append, ioLen]; exact ioLen_append h

theorem after_call (wf : E.Wf) (h : InvG E S m β ow F a w) {args : List (Opd × AM)} {ys : List Operand} (hk : argsOk E args ys = true) (hc : (avsV F args).1) {extra : List AV} {us2 : List Value} (hx : ∀ x ∈ extra, ∃ p, x = .val p) {r : RV} {e : Ending} {w' : World}
    (hp : Post m w ((avsV F args).2 ++ extra) (ys.map a.eval ++ us2) r e w') :
    ∃ (m' : Mem) (ow1 : Ow) (ob : Option Nat), InvG E S m' β ow1 (dropArgs F (Res.ioOf r) args) a w' ∧ ResRep m' w w' ob r.res e ∧ (∀ g, w.heap.size ≤ g ∨ ob = some g → ow1 g = none) ∧ (∀ g, ob = some g → S.w0.heap.size ≤ g ∨ S.R0 g) ∧ w.heap.size ≤ w'.heap.size := by
  obtain ⟨r1, r2, r3, r4, r5⟩ := args_rep h hk hc
  have hlen := r1.length
  obtain ⟨m', p1, p2, p3, p4, p5, p6⟩ := hp
  rw [ownB_append hx hlen] at p4 p6
  have p3' : Pres (isRes (avsV F args).2 (ys.map a.eval)) w w' := p3.mono fun b _ hb => by
    unfold isRes at hb ⊢
    rw [ownB_append hx hlen, ioB_append hx hlen] at hb
    exact hb
  rw [ioB_append hx hlen] at p5
  generalize hgO : ownB (avsV F args).2 (ys.map a.eval) = gO at *
  generalize hgI : ioB (avsV F args).2 (ys.map a.eval) = gI at *
  let ow1 : Ow := fun b => if gO = some b then none else ow b
  let X : Tag → Prop := fun t => (∃ n, ownKey args = some n ∧ t = .key n) ∨ ∃ j base sz, ioKey args = some (j, base, sz) ∧ t = .box j
  have hOX : ∀ g t, gO = some g → ow g = some t → X t := by
    intro g t hg ht
    obtain ⟨n, e', k', rows', h1, _, _, h4⟩ := r2 g hg
    rw [h4] at ht
    exact .inl ⟨n, h1, (Option.some.inj ht).symm⟩
  have hIX : ∀ g t, gI = some g → ow g = some t → X t := by
    intro g t hg ht
    obtain ⟨j, base, sz, h1, h2, h3, _⟩ := r4 g hg
    have hB := h.boxes j _ h2
    rw [h3] at hB
    rw [hB.1] at ht
    exact .inr ⟨j, base, sz, h1, (Option.some.inj ht).symm⟩
  have hmfree : ∀ g o, g < w.heap.size → gO ≠ some g → m' g o = m g o := by
    intro g o hg hne
    cases hm : m' g o with
    | none =>
      cases hm2 : m g o with
      | none => rfl
      | some u => rw [p1 g o u hm2] at hm; cases hm
    | some u =>
      rcases p4 g o u hm with h1 | h1 | h1
      · exact h1.symm
      · omega
      · exact (hne h1).elim
  have st : Step X m m' w w' ow ow1 := by
    refine ⟨p1, fun g t hg hX => ?_⟩
    have hgl := h.lt g t hg
    have n1 : gO ≠ some g := fun e' => hX (hOX g t e' hg)
    have n2 : gI ≠ some g := fun e' => hX (hIX g t e' hg)
    refine ⟨p3'.block g hgl ?_, fun o => hmfree g o hgl n1, by simp only [ow1]; rw [if_neg n1]; exact hg⟩
    unfold isRes
    rw [hgO, hgI]
    rintro (h1 | h1)
    · exact n1 h1
    · exact n2 h1
  have hgOown : ∀ g, gO = some g → S.w0.heap.size ≤ g ∨ S.R0 g := by
    intro g hg
    obtain ⟨n, _, _, _, _, _, _, h4⟩ := r2 g hg
    exact h.own g _ h4
  have hgIown : ∀ g, gI = some g → S.w0.heap.size ≤ g ∨ S.R0 g := by
    intro g hg
    obtain ⟨j, base, sz, h1, h2, h3, _⟩ := r4 g hg
    have hB := h.boxes j _ h2
    rw [h3] at hB
    exact h.own g _ hB.1
  have hL := h.lenF
  have hle := wf.le
  -- the frame with the owned slot frozen
  have hF1 : ∀ i, (dropOwn F (ownKey args)).getD i .un = if ownKey args = some i then (match F.getD i .un with | .own _ k rows => .pv (.one (.sl k rows)) | c => c) else F.getD i .un := by
    intro i
    cases hok : ownKey args with
    | none => simp [dropOwn]
    | some n =>
      obtain ⟨hn, e', k', rows', hFn, _⟩ := r3 n hok
      simp only [dropOwn, hFn]
      rw [set_get (by omega)]
      by_cases hni : n = i
      · subst hni
        rw [if_pos rfl, if_pos rfl, hFn]
      · rw [if_neg hni, if_neg (by simpa using hni)]
  have hL1 : (dropOwn F (ownKey args)).length = F.length := by
    cases hok : ownKey args with
    | none => rfl
    | some n => simp only [dropOwn]; split <;> simp
  have hslot : ∀ i, i < E.N → (dropArgs F (Res.ioOf r) args).getD i .un = (dropOwn F (ownKey args)).getD i .un := by
    intro i hi
    unfold dropArgs
    cases hik : ioKey args with
    | none => rfl
    | some x =>
      obtain ⟨j, base, sz⟩ := x
      exact getD_dropIo wf (r5 j base sz hik).1 hi
  have hLd : (dropArgs F (Res.ioOf r) args).length = F.length := by
    unfold dropArgs
    cases hik : ioKey args with
    | none => simpa [dropIo] using hL1
    | some x => obtain ⟨j, base, sz⟩ := x; simp only [dropIo]; rw [length_setCells, hL1]
  have hcell : ∀ i, E.N ≤ i → (dropOwn F (ownKey args)).getD i .un = F.getD i .un := by
    intro i hi
    rw [hF1 i]
    rw [if_neg]
    intro hok
    have := (r3 i hok).1
    omega
  refine ⟨m', ow1, gO, ?_, p6, ?_, hgOown, p3.size⟩
  · refine h.step st hLd rfl rfl ?_ ?_ p2 (p3'.mono ?_) ?_ ?_ ?_
    · intro i hi
      rw [hslot i hi, hF1 i]
      by_cases hok : ownKey args = some i
      · right
        rw [if_pos hok]
        obtain ⟨_, e', k', rows', hFn, _⟩ := r3 i hok
        have hrep := h.slots i hi
        rw [hFn] at hrep ⊢
        exact RpV.mono (x := .one (.sl k' rows')) p1 (OwnRep.rp hrep)
      · left
        rw [if_neg hok]
        refine ⟨rfl, rfl, .inl ?_⟩
        rintro (⟨n, h1, h2⟩ | ⟨j, base, sz, h1, h2⟩)
        · injection h2 with h2; subst h2; exact hok h1
        · cases h2
    · intro j bn hj
      have hlo := wf.lo j bn hj
      have hxk : ∀ o, o < bn.2 → ¬ X (.key (bn.1 + o)) := by
        rintro o ho (⟨n, h1, h2⟩ | ⟨j', base, sz, h1, h2⟩)
        · injection h2 with h2
          have := (r3 n h1).1
          omega
        · cases h2
      cases hik : ioKey args with
      | none =>
        left
        refine ⟨?_, fun o ho => ⟨?_, hxk o ho⟩⟩
        · rintro (⟨n, h1, h2⟩ | ⟨j', base, sz, h1, h2⟩)
          · cases h2
          · rw [hik] at h1; cases h1
        · unfold dropArgs
          rw [hik]
          exact hcell _ (by omega)
      | some x =>
        obtain ⟨j2, base, sz⟩ := x
        obtain ⟨hj2, b, hb, hgb⟩ := r5 j2 base sz hik
        have hhi := wf.hi j2 _ hj2
        simp only at hhi
        by_cases hjj : j = j2
        · subst hjj
          rw [hj2] at hj
          injection hj with hj
          subst hj
          right
          rw [hb]
          have hB := h.boxes j _ hj2
          rw [hb] at hB
          have hbo : ow b = some (.box j) := hB.1
          have hne : gO ≠ some b := by
            intro e'
            obtain ⟨n, _, _, _, _, _, _, h4⟩ := r2 b e'
            rw [hbo] at h4
            cases h4
          obtain ⟨q1, cs, T, q2, q3, q4⟩ := p5 b hgb
          have hgb' : ioB (avsV F args).2 (ys.map a.eval) = some b := by rw [hgI]; exact hgb
          have hio := r4 b hgb
          obtain ⟨j3, base3, sz3, g1, g2, g3, g4⟩ := hio
          rw [hik] at g1
          simp only [Option.some.injEq, Prod.mk.injEq] at g1
          obtain ⟨rfl, rfl, rfl⟩ := g1
          rw [ioLen_append hgb', g4] at q3
          refine ⟨by simp only [ow1]; rw [if_neg hne]; exact hbo, q1, cs, T, q2, q3, fun o ho => ?_⟩
          simp only at ho ⊢
          unfold dropArgs
          rw [hik]
          simp only [dropIo]
          have hlen2 : (ioCells sz (Res.ioOf r)).length = sz := by
            cases hior : Res.ioOf r with
            | none => simp [ioCells]
            | some l => have hl := q4 l hior; simp [ioCells, ← hl.length, q3]
          rw [getD_setCells, hL1, hlen2, if_pos (by omega)]
          have e1 : base + o - base = o := by omega
          rw [e1]
          cases hior : Res.ioOf r with
          | none =>
            have : (ioCells sz none).getD o .un = .un := by simp [ioCells, ho]
            rw [this]
            trivial
          | some l =>
            have hl := q4 l hior
            have hll : l.length = sz := by rw [← hl.length, Array.length_toList, q3]
            have hol : o < l.length := by omega
            have hoc : o < cs.size := by omega
            have e2 : (ioCells sz (some l)).getD o .un = .pv (.one l[o]) := by simp [ioCells, hol, List.take_of_length_le (Nat.le_of_eq (show (l.map fun x => Ct.pv (.one x)).length = sz by simp [hll]))]
            have e3 : cs.getD o undef = cs[o] := by simp [hoc]
            rw [e2, e3]
            exact hl.get o _ _ (List.getElem?_eq_getElem hol) (by simp [hoc])
        · left
          have hap := wf.ap j j2 _ _ hj hj2 hjj
          simp only at hap
          refine ⟨?_, fun o ho => ⟨?_, hxk o ho⟩⟩
          · rintro (⟨n, h1, h2⟩ | ⟨j', base', sz', h1, h2⟩)
            · cases h2
            · rw [hik] at h1
              simp only [Option.some.injEq, Prod.mk.injEq] at h1
              injection h2 with h2
              exact hjj (by rw [h2, ← h1.1])
          · unfold dropArgs
            rw [hik]
            simp only [dropIo]
            rw [getD_setCells]
            have hll : (ioCells sz (Res.ioOf r)).length ≤ sz := by
              cases hior : Res.ioOf r with
              | none => simp [ioCells]
              | some l =>
                obtain ⟨q1, cs, T, q2, q3, q4⟩ := p5 b hgb
                have hl := q4 l hior
                have hgb' : ioB (avsV F args).2 (ys.map a.eval) = some b := by rw [hgI]; exact hgb
                obtain ⟨j3, base3, sz3, g1, g2, g3, g4⟩ := r4 b hgb
                rw [hik] at g1
                simp only [Option.some.injEq, Prod.mk.injEq] at g1
                obtain ⟨rfl, rfl, rfl⟩ := g1
                rw [ioLen_append hgb', g4] at q3
                simp only [ioCells, List.length_take]; omega
            rw [if_neg (by omega)]
            exact hcell _ (by omega)
    · rintro b hb (h1 | h1)
      · rw [hgO] at h1
        exact (hgOown b h1).symm
      · rw [hgI] at h1
        exact (hgIown b h1).symm
    · intro b t hb
      simp only [ow1] at hb
      split at hb
      · cases hb
      · exact h.own b t hb
    · intro b t hb
      simp only [ow1] at hb
      split at hb
      · cases hb
      · exact Nat.lt_of_lt_of_le (h.lt b t hb) p3.size
    · intro b o u hu
      rcases p4 b o u hu with h1 | h1 | h1
      · exact .inl h1
      · exact .inr (.inl (Nat.le_trans h.pres.size h1))
      · exact .inr (hgOown b h1)
  · rintro g (hg | hg)
    · simp only [ow1]
      split
      · rfl
      · cases ho : ow g with
        | none => rfl
        | some t => have := h.lt g t ho; omega
    · simp only [ow1]
      rw [if_pos hg]

theorem ArgsRep.append : ∀ {as bs : List AV} {us vs : List Value}, ArgsRep m w as us → ArgsRep m w bs vs → ArgsRep m w (as ++ bs) (us ++ vs)
  | [], _, us, _, h, h2 => by simp only [ArgsRep] at h; subst h; exact h2
  | x :: xs, bs, us, vs, h, h2 => by
    simp only [ArgsRep] at h
    obtain ⟨u, us', rfl, h3, h4⟩ := h
    exact ⟨u, us' ++ vs, rfl, h3, ArgsRep.append h4 h2⟩

theorem caps_rep : ∀ {caps : List PV} {us : List Value}, RpL m caps us → ArgsRep m w (caps.map fun c => .val (.one c)) us
  | [], us, h => by simp only [RpL] at h; subst h; rfl
  | x :: xs, us, h => by
    simp only [RpL] at h
    obtain ⟨u, us', rfl, h2, h3⟩ := h
    exact ⟨u, us', rfl, h2, caps_rep h3⟩

theorem slot_own (wf : E.Wf) {m' : Mem} {ow1 : Ow} {F1 : List Ct} {w' : World} (h : InvG E S m' β ow1 F1 a w') {d e k : Nat} (hd : d < E.N) {rows : List (List PV)} {u : Value} (hu : OwnAt m' w' e k rows u) (hn : ∀ g, u.ownBlock = some g → ow1 g = none ∧ (S.w0.heap.size ≤ g ∨ S.R0 g)) :
    Inv E S (F1.set d (.own e k rows)) (a.put (some d) u) w' := by
  let ow2 : Ow := fun b => if u.ownBlock = some b then some (.key d) else ow1 b
  have st : Step (fun _ => False) m' m' w' w' ow1 ow2 := by
    refine ⟨m'.le_refl, fun g t hg _ => ⟨rfl, fun _ => rfl, ?_⟩⟩
    simp only [ow2]
    rw [if_neg]
    · exact hg
    · intro e'
      rw [(hn g e').1] at hg
      cases hg
  have hult : ∀ g, u.ownBlock = some g → g < w'.heap.size := by
    intro g hg
    obtain ⟨xs, hx⟩ := hu.1
    exact (hx.lt g hg).2
  have h2 : InvG E S m' β ow2 F1 a w' := by
    refine h.step st rfl rfl rfl (fun i _ => .inl ⟨rfl, rfl, .inl id⟩) (fun j bn _ => .inl ⟨id, fun o _ => ⟨rfl, id⟩⟩) h.mem (Pres.refl _ _) ?_ ?_ (fun b o u hu => .inl hu)
    · intro b t hb
      simp only [ow2] at hb
      split at hb
      · rename_i hb'; exact (hn b hb').2
      · exact h.own b t hb
    · intro b t hb
      simp only [ow2] at hb
      split at hb
      · rename_i hb'; exact hult b hb'
      · exact h.lt b t hb
  exact ⟨m', β, ow2, h2.slot wf hd (hu.rep fun g hg => by simp [ow2, hg])⟩

/-- A slot is given an owned tree whose blocks are nobody's. -/
theorem slot_ov (wf : E.Wf) {m' : Mem} {ow1 : Ow} {F1 : List Ct} {w' : World} (h : InvG E S m' β ow1 F1 a w') {d : Nat} (hd : d < E.N) {x : OVal} {u : Value} {fp : List Nat} (hu : OvV m' w' x u fp) (hnd : fp.Nodup) (hn : ∀ g ∈ fp, ow1 g = none ∧ (S.w0.heap.size ≤ g ∨ S.R0 g) ∧ g < w'.heap.size ∧ ∀ o, m' g o = none) :
    Inv E S (F1.set d (.ov x)) (a.put (some d) u) w' := by
  let ow2 : Ow := fun b => if b ∈ fp then some (.key d) else ow1 b
  have st : Step (fun _ => False) m' m' w' w' ow1 ow2 := by
    refine ⟨m'.le_refl, fun g t hg _ => ⟨rfl, fun _ => rfl, ?_⟩⟩
    simp only [ow2]
    rw [if_neg]
    · exact hg
    · intro e'
      rw [(hn g e').1] at hg
      cases hg
  have h2 : InvG E S m' β ow2 F1 a w' := by
    refine h.step st rfl rfl rfl (fun i _ => .inl ⟨rfl, rfl, .inl id⟩) (fun j bn _ => .inl ⟨id, fun o _ => ⟨rfl, id⟩⟩) h.mem (Pres.refl _ _) ?_ ?_ (fun b o u hu => .inl hu)
    · intro b t hb
      simp only [ow2] at hb
      split at hb
      · rename_i hb'; exact (hn b hb').2.1
      · exact h.own b t hb
    · intro b t hb
      simp only [ow2] at hb
      split at hb
      · rename_i hb'; exact (hn b hb').2.2.1
      · exact h.lt b t hb
  exact ⟨m', β, ow2, h2.slot wf hd ⟨fp, hu, hnd, fun g hg => ⟨by simp [ow2, hg], (hn g hg).2.2.2⟩⟩⟩

theorem OvV.lt {x : OVal} {u : Value} {fp : List Nat} (h : OvV m w x u fp) : ∀ g ∈ fp, g < w.heap.size := by
  cases x with
  | one x => exact OvR.lt x u fp h
  | agg cs => obtain ⟨us, _, h2⟩ := h; exact OvL.lt cs us fp h2

theorem os_call (wf : E.Wf) (h : InvG E S m β ow F a w) {d : Option Nat} {f : FuncId} {args : List (Opd × AM)} {ys : List Operand} {extra : List AV} {us2 : List Value} {o : Oper} (hd : dstOk E.N d o.dst = true) (hk : argsOk E args ys = true) (hx : ∀ x ∈ extra, ∃ p, x = .val p) (hr2 : ArgsRep m w extra us2)
    (hop : (execOp a.eval o).run P w = .ok (.enter f (ys.map a.eval ++ us2).toArray) w) {K : List Ct → Prop} {X : Value → List Ct → Prop} {Q : Exit → Act → World → Prop} (hQ : ∀ v F' a' w', X v F' → Inv E S F' a' w' → Q (.panic [{ v, recovered := false }]) a' w')
    (hW : callW P f ((avsV F args).1, (avsV F args).2 ++ extra) (fun io => dropArgs F io args) d K X) : o.wp P a w (Lift E S K) Q := by
  obtain ⟨hc, r, hcon, hres⟩ := hW
  simp only at hc hcon
  obtain ⟨r1, r2, r3, r4, r5⟩ := args_rep h hk hc
  have hlen := r1.length
  have hdist : ∀ g, ownB ((avsV F args).2 ++ extra) (ys.map a.eval ++ us2) = some g → ioB ((avsV F args).2 ++ extra) (ys.map a.eval ++ us2) ≠ some g := by
    intro g hg hi
    rw [ownB_append hx hlen] at hg
    rw [ioB_append hx hlen] at hi
    obtain ⟨n, _, _, _, _, _, _, h4⟩ := r2 g hg
    obtain ⟨j, base, sz, _, g2, g3, _⟩ := r4 g hi
    have hB := h.boxes j _ g2
    rw [g3] at hB
    rw [hB.1] at h4
    cases h4
  have hcalls := hcon.2 m w (ys.map a.eval ++ us2) h.mem (r1.append hr2) hdist h.glob (by
    rintro b (hb | hb)
    · rw [ownB_append hx hlen] at hb
      obtain ⟨n, _, _, _, _, _, _, h4⟩ := r2 b hb
      exact h.gown h4
    · rw [ioB_append hx hlen] at hb
      obtain ⟨j, base, sz, _, g2, g3, _⟩ := r4 b hb
      have hB := h.boxes j _ g2
      rw [g3] at hB
      exact h.gown hB.1)
  unfold Oper.wp
  rw [hop]
  refine Calls.mono hcalls fun e w' hp => ?_
  obtain ⟨m', ow1, ob, hI, hR, hn, hobS, hsz⟩ := after_call wf h hk hc hx hp
  have hput : ∀ {F1 : List Ct} {c : Ct} {u : Value}, InvG E S m' β ow1 F1 a w' → (∀ d', d = some d' → CtRep m' w' β ow1 d' c u) → Inv E S (setD F1 d c) (a.put o.dst u) w' := by
    intro F1 c u hI' hc'
    cases d with
    | none =>
      have : o.dst = none := by
        cases hdd : o.dst with
        | none => rfl
        | some x => rw [hdd] at hd; simp [dstOk] at hd
      rw [this]
      exact ⟨m', β, ow1, hI'⟩
    | some d' =>
      obtain ⟨h1, h2⟩ := dstOk_some hd
      rw [h1]
      exact ⟨m', β, ow1, hI'.slot wf h2 (hc' d' rfl)⟩
  cases hrr : r.res with
  | pan v =>
    rw [hrr] at hR hres
    simp only [ResRep] at hR
    subst hR
    simp only [Res.ioOf, hrr] at hI
    exact hQ v _ a w' hres ⟨m', β, ow1, hI⟩
  | val x =>
    rw [hrr] at hR hres
    obtain ⟨u, rfl, hu⟩ := hR
    simp only [Res.ioOf, hrr] at hI
    refine ⟨_, hres, ?_⟩
    exact hput hI fun _ _ => hu
  | tup xs =>
    rw [hrr] at hR hres
    obtain ⟨us, rfl, hu⟩ := hR
    simp only [Res.ioOf, hrr] at hI
    refine ⟨_, hres, ?_⟩
    cases xs with
    | nil => exact hput hI fun _ _ => trivial
    | cons x xs => exact hput hI fun _ _ => ⟨us, rfl, hu⟩
  | ov x =>
    rw [hrr] at hR hres
    obtain ⟨u, fp, rfl, hu, hnd, hg⟩ := hR
    simp only [Res.ioOf, hrr] at hI
    refine ⟨_, hres, ?_⟩
    cases d with
    | none => exact hput hI (c := .un) fun _ h' => by cases h'
    | some d' =>
      obtain ⟨h1, h2⟩ := dstOk_some hd
      rw [h1]
      exact slot_ov wf hI h2 hu hnd fun g hg' => ⟨hn g (.inl (hg g hg').1), .inl (Nat.le_trans h.pres.size (hg g hg').1), hu.lt g hg', (hg g hg').2⟩
  | own e' k rows =>
    rw [hrr] at hR hres
    obtain ⟨u, rfl, hu, hg⟩ := hR
    simp only [Res.ioOf, hrr] at hI
    refine ⟨_, hres, ?_⟩
    cases d with
    | none => exact hput hI (c := .un) fun _ h' => by cases h'
    | some d' =>
      obtain ⟨h1, h2⟩ := dstOk_some hd
      rw [h1]
      refine slot_own wf hI h2 hu fun g hg' => ⟨hn g (hg g hg'), ?_⟩
      rcases hg g hg' with h3 | h3
      · exact .inl (Nat.le_trans h.pres.size h3)
      · exact hobS g h3

end
end Go.Hx
