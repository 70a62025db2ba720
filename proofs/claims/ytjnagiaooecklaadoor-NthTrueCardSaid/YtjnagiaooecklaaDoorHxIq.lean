/-
  THE ABSTRACT LAYER, regions whose operations read alone (or call): one walk, in whatever order; stacks frozen for the time of such a region. Generic over the program. No condition.
-/
import Derived.Test.YtjnagiaooecklaaDoorHxI
import Derived.Deep.Quiet
set_option linter.all false
namespace Go.Hx
open Go.RowKit
variable [Glob]

section
variable {P : Program} {E : Env} {S : Start} {m : Mem} {β : Bx} {ow : Ow} {F : List Ct} {a : Act} {w : World}

def dsts : List HO → List Nat
  | [] => []
  | o :: os => (match o.op with | .val d _ => [d] | .call (some d) _ _ => [d] | _ => []) ++ dsts os

/-- What a walk of reading operations leaves. -/
def QEnd (E : Env) (S : Start) (m : Mem) (β : Bx) (ow : Ow) (w : World) (ds : List Nat) (a : Act) (K : List Ct → Prop) (a' : Act) : Prop :=
  ∃ F1, K F1 ∧ InvG E S m β ow F1 a' w ∧ ∀ i, i ∉ ds → a'.tmps.getD i undef = a.tmps.getD i undef

theorem call_quiet (h : InvG E S m β ow F a w) {d : Nat} {f : Nat} {args : List (Opd × AM)} {o : Oper} (hk : hchk P E (.call (some d) f args) o.op o.dst = true) (hv : allV args = true) (hc : (avsV F args).1) {x : Value}
    (hcon : Contract P f (avsV F args).2 { res := .val (.one (.v x)) }) : (∀ w', Gr w w' → o.quietAt P a (Gr w) w' x) ∧ o.dst = some d ∧ d < E.N ∧ flat x = true := by
  simp only [hchk] at hk
  split at hk
  · rename_i c ho
    simp only [Bool.and_eq_true] at hk
    obtain ⟨⟨h1, h2⟩, h3⟩ := hk
    obtain ⟨hd1, hd2⟩ := dstOk_some h1
    split at h2
    · rename_i g hcal
      simp only [beq_iff_eq] at h2
      subst h2
      have main : ∀ w', Gr w w' → o.quietAt P a (Gr w) w' x ∧ flat x = true := ?_
      · exact ⟨fun w' hg => (main w' hg).1, hd1, hd2, (main w (Pres.refl _ w)).2⟩
      intro w' hg
      have h' := h.gr hg
      obtain ⟨r1, r2, r3, r4, r5⟩ := args_rep h' h3 hc
      have hrun := run_call (P := P) (a := a) (w := w') ho hcal (us := []) (x := .func _) rfl hcon.1
      have hown := allV_own hv
      have ho1 : ownB (avsV F args).2 (c.args.toList.map a.eval) = none := by
        cases hb : ownB (avsV F args).2 (c.args.toList.map a.eval) with
        | none => rfl
        | some g =>
          obtain ⟨n, e, k, rows, h5, _⟩ := r2 g hb
          rw [hown.1] at h5; cases h5
      have ho2 : ioB (avsV F args).2 (c.args.toList.map a.eval) = none := by
        cases hb : ioB (avsV F args).2 (c.args.toList.map a.eval) with
        | none => rfl
        | some g =>
          obtain ⟨j, base, sz, h5, _⟩ := r4 g hb
          rw [hown.2] at h5; cases h5
      have hcall := hcon.2 m w' _ h'.mem r1 (fun g hg => by rw [ho1] at hg; cases hg) h'.glob (by rintro b (hb | hb); rw [ho1] at hb; cases hb; rw [ho2] at hb; cases hb)
      obtain ⟨e, w'', fr, hp, _⟩ := hcall []
      have hfl : flat x = true := by
        obtain ⟨m', c1, c2, c3, c4, c5, c6⟩ := hp
        obtain ⟨u, hu, hr⟩ := c6
        exact hr.2
      refine ⟨?_, hfl⟩
      unfold Oper.quietAt
      rw [hrun]
      simp only [Oper.quietUpon]
      refine ⟨trivial, ?_⟩
      rw [List.append_nil]
      refine Calls.mono hcall ?_
      rintro e w'' ⟨m', c1, c2, c3, c4, c5, c6⟩
      obtain ⟨u, hu, hr⟩ := c6
      have hux : u = x := hr.1
      subst hux
      refine ⟨hu, hg.trans (c3.mono fun b hb hr => ?_)⟩
      rcases hr with hr | hr
      · rw [ho1] at hr; cases hr
      · rw [ho2] at hr; cases hr
    · cases h2
  · cases hk

theorem getD_put {d i : Nat} {u : Value} (h : i ≠ d) : (a.put (some d) u).tmps.getD i undef = a.tmps.getD i undef := by
  simp only [Act.put]
  rw [getD_setIf, if_neg (fun e => h e.1.symm)]

theorem QEnd.step {ds : List Nat} {d : Nat} {u : Value} {K : List Ct → Prop} {a' : Act} (h : QEnd E S m β ow w ds (a.put (some d) u) K a') : QEnd E S m β ow w (d :: ds) a K a' := by
  obtain ⟨F1, h1, h2, h3⟩ := h
  refine ⟨F1, h1, h2, fun i hi => ?_⟩
  rw [h3 i (fun g => hi (List.mem_cons_of_mem _ g)), getD_put (fun e => hi (by rw [e]; exact List.mem_cons_self))]

theorem wpQuiet_mono {ops : Array Oper} {C : World → Prop} {Q Q' : Act → Prop} (hq : ∀ a, Q a → Q' a) : ∀ (l : List Oper) (a : Act), wpQuiet P ops C Q l a → wpQuiet P ops C Q' l a
  | [], a, h => hq a h
  | o :: l, a, h => by
    unfold wpQuiet at h ⊢
    split
    · rename_i hw
      rw [if_pos hw] at h
      exact Oper.quiet_mono (fun a ha => wpQuiet_mono hq l a ha) h
    · rename_i hw
      rw [if_neg hw] at h
      exact wpQuiet_mono hq l _ h

/-- THE WALK OF A REGION THAT READS ALONE. -/
theorem quiet_walk (wf : E.Wf) {ops : Array Oper} {K : List Ct → Prop} : ∀ (hs : List HO) (os : List Oper), (∀ o ∈ hs, o.quiet = true) → opsChk P E ops hs os = true → ∀ (F : List Ct) (a : Act), InvG E S m β ow F a w → drwW P hs F K →
    wpQuiet P ops (Gr w) (QEnd E S m β ow w (dsts hs) a K) os a
  | [], [], _, _, F, a, hI, hW => ⟨F, hW, hI, fun _ _ => rfl⟩
  | [], _ :: _, _, hk, _, _, _, _ => by simp [opsChk] at hk
  | _ :: _, [], _, hk, _, _, _, _ => by simp [opsChk] at hk
  | ho :: hs, o :: os, hq, hk, F, a, h, hW => by
    simp only [opsChk, Bool.and_eq_true] at hk
    obtain ⟨hk1, hk2⟩ := hk
    have hq1 := hq ho List.mem_cons_self
    have hq2 : ∀ o ∈ hs, o.quiet = true := fun x hx => hq x (List.mem_cons_of_mem _ hx)
    obtain ⟨g, op⟩ := ho
    simp only [hoChk, Bool.and_eq_true] at hk1
    obtain ⟨hk1, hk3⟩ := hk1
    simp only [drwW, quW] at hW
    unfold wpQuiet
    -- how it goes on, once slot d has its value
    have go : ∀ (d : Nat) (u : Value) (c : Ct), dsts (⟨g, op⟩ :: hs) = d :: dsts hs → d < E.N → CtRep m w β ow d c u → drwW P hs (F.set d c) K → wpQuiet P ops (Gr w) (QEnd E S m β ow w (dsts (⟨g, op⟩ :: hs)) a K) os (a.put (some d) u) := by
      intro d u c hds hd hc hK
      rw [hds]
      exact wpQuiet_mono (fun a' h' => h'.step) os _ (quiet_walk wf hs os hq2 hk2 _ _ (h.slot wf hd hc) hK)
    cases g with
    | none =>
      have hgn : o.guard = none := by
        cases hg : o.guard with
        | none => rfl
        | some x => rw [hg] at hk3; cases hk3
      have hw : Region.wanted o (yielded ops a.tmps) = true := by simp [Region.wanted, hgn]
      rw [if_pos hw]
      cases op with
      | val d v =>
        simp only [HO.quiet] at hq1
        simp only at hW
        simp only [hchk, Bool.and_eq_true] at hk1
        obtain ⟨hd1, hd2⟩ := dstOk_some hk1.1
        obtain ⟨u, hr, hrep⟩ := ev_same h v o hk1.2 d hW.1 hq1
        refine ⟨u, fun w' hg => ?_, ?_⟩
        · unfold Oper.quietAt; rw [hr w' hg]; exact ⟨rfl, rfl⟩
        · rw [hd1]; exact go d u _ rfl hd2 hrep hW.2
      | call d f args =>
        cases d with
        | none => simp [HO.quiet] at hq1
        | some d =>
          simp only [HO.quiet] at hq1
          simp only at hW
          obtain ⟨hc, x, hcon, hK⟩ := hW
          obtain ⟨h1, h2, h3, h4⟩ := call_quiet h hk1 hq1 hc hcon
          refine ⟨x, h1, ?_⟩
          rw [h2]; exact go d x (.pv (.one (.v x))) rfl h3 ⟨rfl, h4⟩ hK
      | _ => simp [HO.quiet] at hq1
    | some sp =>
      obtain ⟨s, pol⟩ := sp
      cases hg : o.guard with
      | none => rw [hg] at hk3; cases hk3
      | some jb =>
        obtain ⟨j, b'⟩ := jb
        rw [hg] at hk3
        simp only [Bool.and_eq_true, beq_iff_eq, decide_eq_true_eq] at hk3
        obtain ⟨⟨⟨rfl, hj⟩, hs'⟩, hop⟩ := hk3
        cases op with
        | val d v =>
          simp only [HO.quiet] at hq1
          simp only at hW
          simp only [hchk, Bool.and_eq_true] at hk1
          obtain ⟨hd1, hd2⟩ := dstOk_some hk1.1
          split at hW
          · exact hW.elim
          · rename_i T hT
            rw [wanted_of h hg hj hs' hT]
            split at hW
            · rename_i x e1
              obtain ⟨hc, hK⟩ := hW
              cases hTT : T with
              | true =>
                subst hTT
                rw [if_pos rfl]
                obtain ⟨u, hr, hrep⟩ := ev_same h v o hk1.2 d (hc rfl) hq1
                rw [e1] at hrep
                refine ⟨u, fun w' hg => ?_, ?_⟩
                · unfold Oper.quietAt; rw [hr w' hg]; exact ⟨rfl, rfl⟩
                · rw [hd1]; exact go d u (.gd true x) rfl hd2 ⟨fun _ => hrep, (fun h => by cases h)⟩ hK
              | false =>
                subst hTT
                rw [if_neg (by simp), hd1]
                exact go d undef (.gd false x) rfl hd2 ⟨(fun h => by cases h), fun _ => rfl⟩ hK
            · obtain ⟨hTT, hK⟩ := hW
              subst hTT
              rw [if_neg (by simp), hd1]
              exact go d undef (.gd false (bv false)) rfl hd2 ⟨(fun h => by cases h), fun _ => rfl⟩ hK
        | call d f args =>
          cases d with
          | none => simp [HO.quiet] at hq1
          | some d =>
            simp only [HO.quiet] at hq1
            simp only at hW
            split at hW
            · exact hW.elim
            · rename_i T hT
              rw [wanted_of h hg hj hs' hT]
              obtain ⟨hc, x, hcon, hK⟩ := hW
              cases hTT : T with
              | true =>
                subst hTT
                rw [if_pos rfl]
                obtain ⟨h1, h2, h3, h4⟩ := call_quiet h hk1 hq1 (hc rfl) (hcon rfl)
                refine ⟨x, h1, ?_⟩
                rw [h2]; exact go d x (.gd true (.one (.v x))) rfl h3 ⟨fun _ => ⟨rfl, h4⟩, (fun h => by cases h)⟩ hK
              | false =>
                subst hTT
                have hk1' := hk1
                simp only [hchk] at hk1'
                split at hk1'
                · rename_i c hoc
                  simp only [Bool.and_eq_true] at hk1'
                  obtain ⟨hd1, hd2⟩ := dstOk_some hk1'.1.1
                  rw [if_neg (by simp), hd1]
                  exact go d undef (.gd false (.one (.v x))) rfl hd2 ⟨(fun h => by cases h), fun _ => rfl⟩ hK
                · cases hk1'
        | _ => simp [HO.quiet] at hq1

/-- Which regions that draw their order are covered. -/
def dkQ (P : Program) : Array Oper → List HO → Bool := fun ops hs => P.follows .mixedOrders && Region.lexB .any ops && hs.all HO.quiet

theorem wpOps_of_quiet {ops : Array Oper} {C : World → Prop} {Qa : Act → Prop} {Q : Exit → Act → World → Prop} (hQ : ∀ a w, C w → Qa a → Q .normal a w) :
    ∀ (l : List Oper) (k : Nat) (a : Act) (w : World), (∀ j, l[j]? = ops[k + j]?) → C w → wpQuiet P ops C Qa l a → wpOps P ops Q (List.range' k l.length) a w
  | [], k, a, w, _, hC, h => hQ a w hC h
  | o :: l, k, a, w, hl, hC, h => by
    have h0 : ops[k]? = some o := by simpa using (hl 0).symm
    have hst : qOp P ops C k (wpQuiet P ops C Qa l) a := by unfold qOp; simp only [h0]; exact h
    rw [List.length_cons, List.range'_succ]
    rw [wpOps_cons]
    refine wpOp_of_qOp hC (fun a' w' hC' h' => ?_) hst
    exact wpOps_of_quiet hQ l (k + 1) a' w' (fun j => by have := hl (j + 1); simpa [Nat.add_assoc, Nat.add_comm 1 j] using this) hC' h'

/-- A region that reads alone, whether it draws its order or not. -/
theorem quiet_region (wf : E.Wf) {ops : Array Oper} {hs : List HO} {draw : Bool} {K : List Ct → Prop} {Q : Exit → Act → World → Prop} {id : Nat} (hd : draw = true → dkQ P ops hs = true) (hq : ∀ o ∈ hs, o.quiet = true) (hk : opsChk P E ops hs ops.toList = true)
    (h : InvG E S m β ow F a w) (hW : drwW P hs F K) (hQ : ∀ a' w', Gr w w' → QEnd E S m β ow w (dsts hs) a K a' → Q .normal a' w') : (Code.region id ops draw).wp P Q a w := by
  have hw := quiet_walk wf hs ops.toList hq hk F a h hW
  cases draw with
  | true =>
    have hd := hd rfl
    simp only [dkQ, Bool.and_eq_true] at hd
    refine wp_region_quiet (C := Gr w) hd.1.1 hd.1.2 (Pres.drew _ w) (wpQuiet_mono ?_ _ _ hw)
    exact fun a' h' w' hg => hQ a' w' hg h'
  | false =>
    refine wp_region ?_
    have := wpOps_of_quiet (Q := Q) (fun a' w' hg h' => hQ a' w' hg h') ops.toList 0 a w (by simp) (Pres.refl _ w) hw
    rw [Array.length_toList] at this
    rwa [List.range_eq_range']

/-! ### A stack is frozen for the time of a region -/

def atomC : Ct → Ct
  | .pv (.one (.v x)) => .pv (.one (.v x))
  | _ => .un
def back (F F1 : List Ct) : List Nat → List Ct
  | [] => F
  | d :: ds => back (F.set d (atomC (F1.getD d .un))) F1 ds

theorem length_back (F1 : List Ct) : ∀ (ds : List Nat) (F : List Ct), (back F F1 ds).length = F.length
  | [], _ => rfl
  | d :: ds, F => by simp only [back]; rw [length_back F1 ds]; simp
theorem getD_back (F1 : List Ct) : ∀ (ds : List Nat) (F : List Ct) (i : Nat), i < F.length → (back F F1 ds).getD i .un = if i ∈ ds then atomC (F1.getD i .un) else F.getD i .un
  | [], F, i, _ => by simp [back]
  | d :: ds, F, i, hi => by
    simp only [back]
    rw [getD_back F1 ds _ i (by simpa using hi), getD_set]
    by_cases h1 : i ∈ ds
    · rw [if_pos h1, if_pos (List.mem_cons_of_mem _ h1)]
    · rw [if_neg h1]
      by_cases h2 : d = i
      · subst h2
        rw [if_pos ⟨rfl, hi⟩, if_pos List.mem_cons_self]
      · rw [if_neg (fun g => h2 g.1), if_neg (by simp [h1]; omega)]

theorem stk_freeze (wf : E.Wf) (h : InvG E S m β ow F a w) {i e k : Nat} {rows : List (List PV)} (hi : i < E.N) (hx : F.getD i .un = .stk e k rows) : ∃ m', InvG E S m' β ow (F.set i (.own e k rows)) a w := by
  have hrep := h.slots i hi
  rw [hx] at hrep
  obtain ⟨⟨xs, hown, hv1⟩, hv2, hv3⟩ := hrep
  have hL := h.lenF
  have hle2 := wf.le
  let v := a.tmps.getD i undef
  let m' : Mem := fun b j => if v.ownBlock = some b then xs[j]? else m b j
  have hle : m.le m' := by
    intro b j u hu
    simp only [m']
    rw [if_neg (fun hb => by rw [(hv3 b hb).2 j] at hu; cases hu)]
    exact hu
  have st : Step (fun t => t = .key i) m m' w w ow ow := by
    refine ⟨hle, fun g t hg hX => ⟨rfl, fun j => ?_, hg⟩⟩
    simp only [m']
    rw [if_neg]
    intro hb
    rw [(hv3 g hb).1] at hg
    exact hX (Option.some.inj hg).symm
  refine ⟨m', h.step st (by simp) rfl rfl ?_ ?_ ?_ (Pres.refl _ _) h.own h.lt ?_⟩
  · intro j hj
    rw [set_get (by omega)]
    by_cases h1 : i = j
    · subst h1
      right
      rw [if_pos rfl]
      refine ⟨⟨xs, hown⟩, fun g hg => ⟨(hv3 g hg).1, ?_, fun o ho => ?_⟩⟩
      · refine RpRows.of_flat (us := xs) hv2 (RpL.mono hle _ _ hv1) fun j u hu => ?_
        simp only [m', Nat.zero_add]
        rw [if_pos hg]
        exact hu
      · simp only [m']
        rw [if_pos hg]
        exact List.getElem?_eq_none (by rw [hown.1]; exact ho)
    · left
      rw [if_neg h1]
      exact ⟨rfl, rfl, .inl (by intro h3; injection h3; omega)⟩
  · intro j bn hj
    left
    have := wf.lo j bn hj
    refine ⟨(by intro h3; cases h3), fun o ho => ⟨?_, by intro h3; injection h3; omega⟩⟩
    rw [set_get (by omega), if_neg (by omega)]
  · intro b j u hu
    simp only [m'] at hu
    split at hu
    · rename_i hb
      have := hown.cells hb j u hu
      rw [add_plain, Nat.zero_add] at this
      exact this
    · exact h.mem b j u hu
  · intro b j u hu
    simp only [m'] at hu
    split at hu
    · rename_i hb
      exact .inr (h.own b _ (hv3 b hb).1)
    · exact .inl hu

theorem stk_back (wf : E.Wf) {m' : Mem} {F1 : List Ct} {a' : Act} {ds : List Nat} (h : InvG E S m β ow F a w) (h1 : InvG E S m' β ow F1 a' w) (hds : ∀ d ∈ ds, d < E.N) (he : ∀ i, i ∉ ds → a'.tmps.getD i undef = a.tmps.getD i undef) :
    InvG E S m β ow (back F F1 ds) a' w where
  lenF := by rw [length_back]; exact h.lenF
  lenA := h1.lenA
  dfr := h1.dfr
  slots := fun i hi => by
    have hle := wf.le
    rw [getD_back F1 ds F i (by rw [h.lenF]; omega)]
    split
    · have hs := h1.slots i hi
      generalize F1.getD i .un = c at hs
      cases c with
      | pv x =>
        cases x with
        | one x =>
          cases x with
          | v x => exact hs
          | _ => trivial
        | agg cs => trivial
      | _ => trivial
    · rename_i hni
      rw [he i hni]
      exact h.slots i hi
  boxes := fun j bn hj => by
    have hB := h.boxes j bn hj
    have hlo := wf.lo j bn hj
    have hhi := wf.hi j bn hj
    have hF : ∀ o, o < bn.2 → (back F F1 ds).getD (bn.1 + o) .un = F.getD (bn.1 + o) .un := by
      intro o ho
      rw [getD_back F1 ds F _ (by rw [h.lenF]; omega), if_neg]
      intro hm
      have := hds _ hm
      omega
    cases hb : β j with
    | none => rw [hb] at hB; intro o ho; rw [hF o ho]; exact hB o ho
    | some b =>
      rw [hb] at hB
      obtain ⟨g1, g2, cs, T, g3, g4, g5⟩ := hB
      exact ⟨g1, g2, cs, T, g3, g4, fun o ho => by rw [hF o ho]; exact g5 o ho⟩
  mem := h.mem
  mle := h.mle
  pres := h.pres
  own := h.own
  lt := h.lt
  new := h.new
  fix := h.fix

end
end Go.Hx
