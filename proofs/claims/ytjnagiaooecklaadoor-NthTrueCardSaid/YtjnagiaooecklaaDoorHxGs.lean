/-
  THE ABSTRACT LAYER: stacks: slices of which no cell is frozen. Generic over the program. No condition.
-/
import Derived.Test.YtjnagiaooecklaaDoorHxG
set_option linter.all false
namespace Go.Hx
open Go.RowKit
variable [Glob]

section
variable {P : Program} {E : Env} {S : Start} {m : Mem} {β : Bx} {ow : Ow} {F : List Ct} {a : Act} {w : World}

theorem StkRep.nil (m : Mem) (w : World) (ow : Ow) (t : Tag) (e k : Nat) : StkRep m w ow t e k [] (.slice none 0 0) :=
  ⟨⟨[], World.ownsRow_nil w 0 e k, by simp [RpL]⟩, by simp, fun g hg => by simp [Value.ownBlock] at hg⟩

theorem os_nlk (wf : E.Wf) (h : InvG E S m β ow F a w) {d e k : Nat} {o : Oper} (hd : dstOk E.N (some d) o.dst = true) {y : Operand} (ho : o.op = .move y ∨ o.op = .assign y) (hk : opdOk E.N (.c (.one (.nl 0))) y = true) {K : List Ct → Prop} {Q : Exit → Act → World → Prop}
    (hK : K (F.set d (.stk e k []))) : o.wp P a w (Lift E S K) Q := by
  obtain ⟨hd1, hd2⟩ := dstOk_some hd
  have hr : (execOp a.eval o).run P w = .ok (.value (a.eval y)) w := by
    unfold execOp
    rcases ho with ho | ho <;> rw [ho] <;> rfl
  have hy : a.eval y = .slice none 0 0 := by
    have := opd_pv h hk (p := .one (.nl 0)) trivial rfl
    exact this
  refine wp_value hr ⟨_, hK, m, β, ow, ?_⟩
  rw [hd1, hy]
  exact h.slot wf hd2 (StkRep.nil m w ow _ e k)

/-- Slot x hands its stack on to slot d: there it may be shorter. -/
theorem stk_move (wf : E.Wf) (h : InvG E S m β ow F a w) {d x e k : Nat} {rows rows' : List (List PV)} {v : Value} (hd2 : d < E.N) (hxN : x < E.N) (hx : F.getD x .un = .stk e k rows) 
    (hrep' : StkRep m w ow (.key x) e k rows' v) : Inv E S ((F.set x (.hdr rows.length)).set d (.stk e k rows')) (a.put (some d) v) w := by
  have hrep := h.slots x hxN
  rw [hx] at hrep
  have hL := h.lenF
  have hle := wf.le
  have key : ∀ g, v.ownBlock = some g → ow g = some (.key x) := fun g hg => (hrep'.2.2 g hg).1
  refine ⟨m, β, retag ow v d, ?_⟩
  have st : Step (fun t => t = .key x ∨ t = .key d) m m w w ow (retag ow v d) := by
    refine ⟨m.le_refl, fun g t hg hX => ⟨rfl, fun _ => rfl, ?_⟩⟩
    unfold retag
    rw [if_neg]
    · exact hg
    · intro hv'
      have := key g hv'
      rw [hg] at this
      exact hX (.inl (Option.some.inj this))
  refine h.step st (by simp) (by simp [Act.put]) rfl ?_ ?_ h.mem (Pres.refl _ _) ?_ ?_ (fun b o u hu => .inl hu)
  · intro i hi
    rw [set_get (by simp; omega), set_get (by omega), put_get (by rw [h.lenA]; exact hd2)]
    by_cases h1 : d = i
    · subst h1
      right
      rw [if_pos rfl, if_pos rfl]
      exact ⟨hrep'.1, hrep'.2.1, fun g hg => ⟨by simp [retag, hg], (hrep'.2.2 g hg).2⟩⟩
    · rw [if_neg h1, if_neg h1]
      by_cases h2 : x = i
      · subst h2
        right
        rw [if_pos rfl]
        exact StkRep.hdr hrep
      · left
        rw [if_neg h2]
        exact ⟨rfl, rfl, .inl (by rintro (h3 | h3) <;> injection h3 <;> omega)⟩
  · intro j bn hj
    left
    have := wf.lo j bn hj
    refine ⟨(by rintro (h3 | h3) <;> cases h3), fun o ho => ⟨?_, by rintro (h3 | h3) <;> injection h3 <;> omega⟩⟩
    rw [set_get (by simp; omega), set_get (by omega), if_neg (by omega), if_neg (by omega)]
  · intro b t hb
    unfold retag at hb
    split at hb
    · rename_i hv'; exact h.own b _ (key b hv')
    · exact h.own b t hb
  · intro b t hb
    unfold retag at hb
    split at hb
    · rename_i hv'; exact h.lt b _ (key b hv')
    · exact h.lt b t hb

theorem os_mvk (wf : E.Wf) (h : InvG E S m β ow F a w) {d x : Nat} {o : Oper} (hd : dstOk E.N (some d) o.dst = true) {y : Operand} (ho : o.op = .move y ∨ o.op = .assign y) (hk : opdOk E.N (.t x) y = true) {K : List Ct → Prop} {Q : Exit → Act → World → Prop}
    {e k : Nat} {rows : List (List PV)} (hx : F.getD x .un = .stk e k rows) (_hne : d ≠ x) (hK : K ((F.set x (.hdr rows.length)).set d (.stk e k rows))) : o.wp P a w (Lift E S K) Q := by
  obtain ⟨hd1, hd2⟩ := dstOk_some hd
  have hr : (execOp a.eval o).run P w = .ok (.value (a.eval y)) w := by
    unfold execOp
    rcases ho with ho | ho <;> rw [ho] <;> rfl
  obtain ⟨rfl, hxN⟩ := eval_slot hk
  have hrep := h.slots x hxN
  rw [hx] at hrep
  refine wp_value hr ⟨_, hK, ?_⟩
  rw [hd1]
  exact stk_move wf h hd2 hxN hx hrep

theorem StkRep.take {t : Tag} {e k : Nat} {rows : List (List PV)} {A : Option Addr} {l c : Nat} (h : StkRep m w ow t e k rows (.slice A l c)) (n : Nat) (hn : n ≤ rows.length) : StkRep m w ow t e k (rows.take n) (.slice A n c) := by
  obtain ⟨⟨xs, ⟨h1, h2⟩, h3⟩, h4, h5⟩ := h
  have hlen : (rows.take n).length = n := by simp; omega
  have hk' : ∀ r ∈ rows.take n, r.length = k := fun r hr => h4 r (List.mem_of_mem_take hr)
  have hfl : (rows.take n).flatten = rows.flatten.take (n * k) := flatten_take rows n h4
  refine ⟨⟨xs.take (n * k), ⟨by rw [hlen, List.length_take, h1]; exact Nat.min_eq_left (Nat.mul_le_mul_right _ hn), ?_⟩, ?_⟩, hk', ?_⟩
  · rcases h2 with ⟨e1, e2⟩ | ⟨g, cap, cur, e1, e2, e3, e4, e5, e6, e7⟩
    · injection e1 with e1 e1' e1''
      subst e1
      have : n = 0 := by omega
      subst this
      exact .inl ⟨by rw [e1''], by rw [hlen]⟩
    · injection e1 with e1 e1' e1''
      subst e1; subst e1''
      refine .inr ⟨g, c, cur, by rw [hlen], e2, e3, by rw [hlen]; omega, e5, e6, ?_⟩
      rw [hlen, ← e7, List.take_take, Nat.min_eq_left (Nat.mul_le_mul_right _ hn)]
  · rw [hfl]
    exact RpL.take' h3 _
  · intro g hg
    exact h5 g (by cases A <;> simp [Value.ownBlock] at hg ⊢; exact hg)
where
  flatten_take : ∀ (rows : List (List PV)) (n : Nat), (∀ r ∈ rows, r.length = k) → (rows.take n).flatten = rows.flatten.take (n * k)
    | [], n, _ => by simp
    | r :: rs, 0, _ => by simp
    | r :: rs, n + 1, h => by
      have hr := h r List.mem_cons_self
      rw [List.take_succ_cons, List.flatten_cons, List.flatten_cons, flatten_take rs n fun r' h' => h r' (List.mem_cons_of_mem _ h'), Nat.succ_mul, List.take_append, List.take_of_length_le (l := r) (by omega)]
      have e2 : n * k + k - r.length = n * k := by omega
      rw [e2]
  RpL.take' : ∀ {cs : List PV} {us : List Value}, RpL m cs us → ∀ n, RpL m (cs.take n) (us.take n)
    | [], us, h, n => by simp only [RpL] at h; subst h; simp [RpL]
    | x :: xs, us, h, 0 => by simp [RpL]
    | x :: xs, us, h, n + 1 => by
      simp only [RpL] at h
      obtain ⟨u, us', rfl, h2, h3⟩ := h
      simp only [List.take_succ_cons, RpL]
      exact ⟨u, _, rfl, h2, RpL.take' h3 n⟩

theorem os_trk (wf : E.Wf) (h : InvG E S m β ow F a w) {d x : Nat} {hi : Opd} {o : Oper} (hd : dstOk E.N (some d) o.dst = true) {t : TypeId} {x' : Operand} {hi' : Option Operand} (ho : o.op = .slice t x' none hi' none) (hk : opdOk E.N (.t x) x' = true) (hk2 : optOk E.N (some hi) hi' = true)
    {et : TypeId} (he : sliceElem? P t = some et) {sz : Nat} (hsz : szOf P et = some sz) {K : List Ct → Prop} {Q : Exit → Act → World → Prop} {e k : Nat} {rows : List (List PV)} {ik : IntKind} {n : Int} (hx : F.getD x .un = .stk e k rows) (hn : (getO F hi).pv? = some (.one (.v (.int ik n)))) (_hne : d ≠ x) (hnd : (getO F hi).need)
    (h0 : 0 ≤ n) (h1 : n ≤ rows.length) (hK : K ((F.set x (.hdr rows.length)).set d (.stk e k (rows.take n.toNat)))) : o.wp P a w (Lift E S K) Q := by
  obtain ⟨hd1, hd2⟩ := dstOk_some hd
  obtain ⟨rfl, hxN⟩ := eval_slot hk
  have hrep := h.slots x hxN
  rw [hx] at hrep
  obtain ⟨A, c, hv, hlc, hcm⟩ := StkRep.hdr hrep
  have hv' : a.eval (.tmp x) = .slice A rows.length c := hv
  have hbnd : bndV F rows.length (some hi) = ((getO F hi).need, n) := by simp only [bndV, hn]
  have hb := run_sliceBounds (P := P) h (lo := none) (lo' := none) (hi := some hi) (by rfl) hk2 true rows.length c hlc trivial (by rw [hbnd]; exact hnd) (by simp [bndV]) (by rw [hbnd]; simpa [bndV] using h0) (by rw [hbnd]; exact h1)
  rw [hbnd] at hb
  simp only [Option.map_none, bndV, Int.toNat_zero] at hb
  have hr : (execOp a.eval o).run P w = .ok (.value (.slice A n.toNat c)) w := by
    unfold execOp; rw [ho]
    have hu := sliceElem_of he
    simp only [hv', Instr.sliceAt, Instr.slice, Sem.run_bind, Sem.run_pure, Result.andThen_ok, run_underlying hu, Option.map_none, hb, run_sizeOf hsz]
    simp only [Nat.sub_zero, Nat.zero_mul]
    by_cases hc0 : c = 0
    · simp [hc0]
    · have hA : A.map (·.add 0) = A := by
        cases A with
        | none => rfl
        | some q => simp [Addr.add]
      simp [hc0, hA]
  refine wp_value hr ⟨_, hK, ?_⟩
  rw [hd1]
  have hrep2 := hrep
  rw [hv] at hrep2
  exact stk_move wf h hd2 hxN hx (hrep2.take n.toNat (by omega))

theorem os_apk (wf : E.Wf) (h : InvG E S m β ow F a w) {d e k x : Nat} {y : Opd} {o : Oper} (hd : dstOk E.N (some d) o.dst = true) {x' y' : Operand} {t : TypeId} (ho : o.op = .call { callee := .builtin .append, args := #[x', y'], argTypes := #[t, t] }) (hk1 : opdOk E.N (.t x) x' = true) (hk2 : opdOk E.N y y' = true) (he : elemOk P t e k = true) {K : List Ct → Prop} {Q : Exit → Act → World → Prop}
    {rows rs : List (List PV)} (hx : F.getD x .un = .stk e k rows) (hy : (getO F y).pv? = some (.one (.sl k rs))) (_hne : x ≠ d) (hne : (getO F y).need) (hb : (rows.length + rs.length) * 4096 ≤ 140737488355328)
    (hK : K ((F.set x (.hdr rows.length)).set d (.stk e k (rows ++ rs)))) : o.wp P a w (Lift E S K) Q := by
  obtain ⟨hd1, hd2⟩ := dstOk_some hd
  obtain ⟨rfl, hxN⟩ := eval_slot hk1
  have hrep := h.slots x hxN
  rw [hx] at hrep
  obtain ⟨⟨xs, hown, hv1⟩, hv2, hv3⟩ := hrep
  obtain ⟨A, c, hyv, _, _, hyr⟩ := opd_pv h hk2 hne hy
  have hnews : ∃ news : List Value, news.length = rs.length * k ∧ RpL m rs.flatten news ∧ (∀ r ∈ rs, r.length = k) ∧ (0 < rs.length → ∃ q, A = some q ∧ ∀ j u, news[j]? = some u → w.cell? (q.add j) = some u) := by
    rcases hyr with hyr | ⟨b, o', rfl, hyr⟩
    · subst hyr
      exact ⟨[], by simp, by simp [RpL], by simp, by simp⟩
    · obtain ⟨us, h1, h2, h3⟩ := hyr.vals
      refine ⟨us, h1, h2, fun r hr' => ?_, fun _ => ⟨_, rfl, fun j u hu => by rw [add_plain]; exact h.mem _ _ _ (h3 j u hu)⟩⟩
      obtain ⟨i, hi⟩ := List.getElem?_of_mem hr'
      exact (hyr.get i r hi).1
  obtain ⟨news, hl, hn2, hn3, hn4⟩ := hnews
  have hflat : ∀ u ∈ news, u.oneCell' = true := fun u hu => oneCell_of_flat (hn2.flat_ u hu)
  obtain ⟨v', w', hrun, hown', hwhere⟩ := run_app (P := P) (ty := o.type) he hown hyv hl hn4 hflat hb
  have hr : (execOp a.eval o).run P w = .ok (.value v') w' := by
    obtain ⟨dst, op, ty, pos, after, gd⟩ := o
    simp only at ho
    subst ho
    rw [BigFrame.execOp_builtin, BigFrame.builtin_append]
    have e1 : (#[Operand.tmp x, y'].map a.eval) = #[a.tmps.getD x undef, a.eval y'] := by simp [Act.eval]
    rw [e1]
    simp only [Sem.run_bind, hrun, Result.andThen_ok]
    rfl
  let ow' : Ow := fun b => if v'.ownBlock = some b then some (.key d) else ow b
  have hlt' : ∀ b, v'.ownBlock = some b → b < w'.heap.size := fun b hb => (hown'.lt b hb).2
  have hsize : w.heap.size ≤ w'.heap.size := by rcases hwhere with ⟨_, g⟩ | ⟨_, g⟩ <;> exact g.size
  have hblock : ∀ b, b < w.heap.size → v'.ownBlock ≠ some b → w'.heap[b]? = w.heap[b]? := by
    intro b hb hne'
    rcases hwhere with ⟨e1, g⟩ | ⟨_, g⟩
    · exact g.block b hb (fun e => hne' (by rw [e1]; exact e.symm))
    · exact g.block b hb (by simp)
  have hfree : ∀ b, v'.ownBlock = some b → ∀ j, m b j = none := by
    intro b hb j
    rcases hwhere with ⟨e1, _⟩ | ⟨e1, _⟩
    · exact (hv3 b (by rw [← e1]; exact hb)).2 j
    · rw [e1] at hb
      injection hb with hb
      cases hm : m b j with
      | none => rfl
      | some u => have := mem_lt h.mem hm; omega
  have hmem : MemOk m w' := by
    intro b j u hu
    have hb : v'.ownBlock ≠ some b := fun hb => by rw [hfree b hb j] at hu; cases hu
    have hbl := mem_lt h.mem hu
    rw [World.cell?_of_block (w := w) (hblock b hbl hb)]
    exact h.mem b j u hu
  have hkey : ∀ b, v'.ownBlock = some b → b < w.heap.size → ow b = some (.key x) := by
    intro b hb hbl
    rcases hwhere with ⟨e1, _⟩ | ⟨e1, _⟩
    · exact (hv3 b (by rw [← e1]; exact hb)).1
    · rw [e1] at hb; injection hb with hb; omega
  have st : Step (fun t => t = .key x ∨ t = .key d) m m w w' ow ow' := by
    refine ⟨m.le_refl, fun g t hg hX => ?_⟩
    have hgl := h.lt g t hg
    have hng : v'.ownBlock ≠ some g := by
      intro hb
      rw [hkey g hb hgl] at hg
      exact hX (.inl (Option.some.inj hg).symm)
    exact ⟨hblock g hgl hng, fun j => rfl, by simp only [ow']; rw [if_neg hng]; exact hg⟩
  have hownP : ∀ b t, ow' b = some t → S.w0.heap.size ≤ b ∨ S.R0 b := by
    intro b t hb
    simp only [ow'] at hb
    split at hb
    · rename_i hb'
      rcases Nat.lt_or_ge b w.heap.size with hbl | hbl
      · exact h.own b _ (hkey b hb' hbl)
      · exact .inl (Nat.le_trans h.pres.size hbl)
    · exact h.own b t hb
  have hL := h.lenF
  have hle2 := wf.le
  refine wp_value hr ⟨_, hK, m, β, ow', ?_⟩
  rw [hd1]
  refine h.step st (by simp) (by simp [Act.put]) rfl ?_ ?_ hmem ⟨?_, ?_, ?_, hsize, ?_⟩ hownP ?_ (fun b o u hu => .inl hu)
  · intro i hi
    rw [set_get (by simp; omega), set_get (by omega), put_get (by rw [h.lenA]; exact hd2)]
    by_cases h1 : d = i
    · subst h1
      right
      rw [if_pos rfl, if_pos rfl]
      refine ⟨⟨xs ++ news, by rw [List.length_append]; exact hown', ?_⟩, ?_, fun g hg => ⟨by simp [ow', hg], hfree g hg⟩⟩
      · rw [List.flatten_append]
        exact hv1.append hn2
      · intro r hr'
        rcases List.mem_append.1 hr' with hr' | hr'
        · exact hv2 r hr'
        · exact hn3 r hr'
    · rw [if_neg h1, if_neg h1]
      by_cases h2 : x = i
      · subst h2
        right
        rw [if_pos rfl]
        exact StkRep.hdr (m := m) (w := w) (ow := ow) (t := .key x) (e := e) (k := k) ⟨⟨xs, hown, hv1⟩, hv2, hv3⟩
      · left
        rw [if_neg h2]
        exact ⟨rfl, rfl, .inl (by rintro (h3 | h3) <;> injection h3 <;> omega)⟩
  · intro j bn hj
    left
    have := wf.lo j bn hj
    refine ⟨(by rintro (h3 | h3) <;> cases h3), fun o ho => ⟨?_, by rintro (h3 | h3) <;> injection h3 <;> omega⟩⟩
    rw [set_get (by simp; omega), set_get (by omega), if_neg (by omega), if_neg (by omega)]
  · rcases hwhere with ⟨_, g⟩ | ⟨_, g⟩ <;> exact g.os
  · rcases hwhere with ⟨_, g⟩ | ⟨_, g⟩ <;> exact g.tape
  · rcases hwhere with ⟨_, g⟩ | ⟨_, g⟩ <;> exact g.output
  · intro b hb hnb
    refine hblock b hb fun e => hnb ?_
    have := h.own b _ (hkey b e hb)
    rcases this with h1 | h1
    · exact .inr h1
    · exact .inl h1
  · intro b t hb
    simp only [ow'] at hb
    split at hb
    · rename_i hb'
      exact hlt' b hb'
    · exact Nat.lt_of_lt_of_le (h.lt b t hb) hsize

theorem run_equalIn_slice (d : Nat) {t et : TypeId} (hu : P.underlying t = some (.slice et)) (A : Option Addr) (l c : Nat) : (Op.equalIn (d + 1) t (.slice A l c) (.slice none 0 0)).run P w = .ok A.isNone w := by
  simp only [Op.equalIn, Sem.run_bind, run_underlying hu, Result.andThen_ok]
  cases A <;> rfl

theorem os_isn (wf : E.Wf) (h : InvG E S m β ow F a w) {d : Nat} {ng : Bool} {x : Opd} {o : Oper} (hd : dstOk E.N (some d) o.dst = true) {x' : Operand} {t t' : TypeId} {op : BinOp} (ho : o.op = .binOp op t x' (.const (.slice none 0 0)) t') (hop : op = if ng then .neq else .eql) (ht : isSliceT P t = true) (hk : opdOk E.N x x' = true)
    {K : List Ct → Prop} {Q : Exit → Act → World → Prop} {k : Nat} {rows : List (List PV)} (hp : (getO F x).pv? = some (.one (.sl k rows)) ∨ ((getO F x).pv? = some (.one (.nl k)) ∧ rows = [])) (hn : (getO F x).need)
    (hK : ∀ b : Bool, (rows ≠ [] → b = false) → ((getO F x).pv? = some (.one (.nl k)) → b = true) → K (F.set d (.pv (bv (if ng then !b else b))))) : o.wp P a w (Lift E S K) Q := by
  obtain ⟨hd1, hd2⟩ := dstOk_some hd
  obtain ⟨et, hu⟩ := sliceT_of ht
  have hv : ∃ A l c, a.eval x' = .slice A l c ∧ (rows ≠ [] → A ≠ none) ∧ ((getO F x).pv? = some (.one (.nl k)) → A = none) := by
    rcases hp with hp | ⟨hp, rfl⟩
    · obtain ⟨A, c, hv, _, _, hr⟩ := opd_pv h hk hn hp
      refine ⟨A, _, c, hv, fun hne => ?_, fun e => by rw [hp] at e; cases e⟩
      rcases hr with hr | ⟨b, o', rfl, _⟩
      · exact (hne hr).elim
      · simp
    · have hv := opd_pv h hk hn hp
      exact ⟨none, 0, 0, hv, fun h => (h rfl).elim, fun _ => rfl⟩
  obtain ⟨A, l, c, hv, h1, h2⟩ := hv
  have hr : (execOp a.eval o).run P w = .ok (.value (.bool (if ng then !A.isNone else A.isNone))) w := by
    unfold execOp; rw [ho]
    have e1 : a.eval (.const (.slice none 0 0)) = .slice none 0 0 := rfl
    have he : (Op.equal t (.slice A l c) (.slice none 0 0)).run P w = .ok A.isNone w := by
      simp only [Op.equal, Op.maxDepth]; exact run_equalIn_slice 9999 hu A l c
    simp only [hv, e1, Sem.run_bind, run_eqGuard_plain (P := P) (w := w) op t x' _ (.slice A l c) (.slice none 0 0) rfl, Result.andThen_ok]
    subst hop; cases ng <;> simp [binOp, he]
  refine wp_value hr ⟨_, hK A.isNone (fun hne => ?_) (fun e => by rw [h2 e]; rfl), m, β, ow, ?_⟩
  · cases A with
    | none => exact (h1 hne rfl).elim
    | some q => rfl
  · rw [hd1]
    exact h.slot wf hd2 ⟨rfl, rfl⟩

end
end Go.Hx
