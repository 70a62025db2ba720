/-
  THE ABSTRACT LAYER: operations on owned trees are sound. Generic over the program. No condition.
-/
import Derived.Test.YtjnagiaooecklabGreatDoorG5
set_option linter.all false
namespace Go.Hx
open Go.RowKit
variable [Glob]
section
variable {P:Program} {E:Env} {S:Start} {m:Mem} {β:Bx} {ow:Ow} {F:List Ct} {a:Act} {w:World}
def dropB (ow:Ow) (fp:List Nat):Ow:=fun b=>if b∈fp then none else ow b
theorem zC4 (wf:E.Wf) (h:InvG E S m β ow F a w) {r:Nat} {fp:List Nat} (hfp:∀ g∈fp,ow g=some (.key r)):InvG E S m β (dropB ow fp) (F.set r .un) a w:=by
  have h1:InvG E S m β ow (F.set r .un) a w:=by
    refine ⟨by simp [h.lenF],h.lenA,h.dfr,fun i hi=>?_,fun j bn hj=>?_,h.mem,h.mle,h.pres,h.own,h.lt,h.new,h.fix⟩
    · rw [zBm]
      split
      · trivial
      · exact h.slots i hi
    · have hB:=h.boxes j bn hj
      cases hb:β j with
      | none=>
        rw [hb] at hB
        intro o ho
        rw [zBm]
        split
        · exact .inl rfl
        · exact hB o ho
      | some b=>
        rw [hb] at hB
        obtain ⟨g1,g2,cs,T,g3,g4,g5⟩:=hB
        refine ⟨g1,g2,cs,T,g3,g4,fun o ho=>?_⟩
        rw [zBm]
        split
        · trivial
        · exact g5 o ho
  have st:Step (fun t=>t=.key r) m m w w ow (dropB ow fp):=by
    refine ⟨m.le_refl,fun g t hg hX=>⟨rfl,fun _=>rfl,?_⟩⟩
    unfold dropB
    rw [if_neg]
    · exact hg
    · intro hm
      rw [hfp g hm] at hg
      exact hX (Option.some.inj hg).symm
  have hL:=h.lenF
  have hle:=wf.le
  refine h1.step st rfl rfl rfl ?_ ?_ h.mem (Pres.refl _ _) ?_ ?_ (fun b o u hu=>.inl hu)
  · intro i hi
    by_cases hri:r=i
    · subst hri
      right
      rw [zAG (by omega),if_pos rfl]
      trivial
    · left
      exact ⟨rfl,rfl,.inl (by intro h3;injection h3;omega)⟩
  · intro j bn hj
    right
    have hB:=h1.boxes j bn hj
    have hhi:=wf.hi j bn hj
    cases hb:β j with
    | none=>rw [hb] at hB;exact hB
    | some b=>
      rw [hb] at hB
      obtain ⟨g1,g2,cs,T,g3,g4,g5⟩:=hB
      obtain ⟨_,_,k3⟩:=st.keep b _ g1 (by intro h3;cases h3)
      refine ⟨k3,g2,cs,T,g3,g4,fun o ho=>?_⟩
      by_cases hri:r=bn.1+o
      · rw [zAG (by omega),if_pos hri]
        trivial
      · exact (g5 o ho).step st (by intro h3;injection h3;omega)
  · intro b t hb
    unfold dropB at hb
    split at hb
    · cases hb
    · exact h.own b t hb
  · intro b t hb
    unfold dropB at hb
    split at hb
    · cases hb
    · exact h.lt b t hb
def AtIx (E:Env) (β:Bx) (a:Act) (w:World) (r:Nat) (u:Value):Prop:=
  (r < E.N∧u=a.tmps.getD r undef)∨∃ (j base n b:Nat) (cs:Array Value) (T:TypeId),E.N≤r∧E.Γ[j]?=some (base,n)∧base≤r∧r < base+n∧β j=some b∧w.heap[b]?=some (.cells cs T (0,0))∧u=cs.getD (r-base) undef
theorem InvG.setIx (wf:E.Wf) (h:InvG E S m β ow F a w) {r:Nat} {u:Value} (hat:AtIx E β a w r u) {c:Ct} (h1:r < E.N→CtRep m w β ow r c u) (h2:E.N≤r→CellRep m w ow r c u):InvG E S m β ow (F.set r c) a w where
  lenF:=by simp [h.lenF]
  lenA:=h.lenA
  dfr:=h.dfr
  slots:=fun i hi=>by
    have hL:=h.lenF
    have hle:=wf.le
    by_cases hri:r=i
    · subst hri
      rw [zAG (by omega),if_pos rfl]
      rcases hat with ⟨_,rfl⟩|⟨j,base,n,b,cs,T,k0,_⟩
      · exact h1 hi
      · omega
    · rw [zBm,if_neg (by omega)]
      exact h.slots i hi
  boxes:=fun j bn hj=>by
    have hB:=h.boxes j bn hj
    have hL:=h.lenF
    have hle:=wf.le
    have hlo:=wf.lo j bn hj
    have hhi:=wf.hi j bn hj
    cases hb:β j with
    | none=>
      rw [hb] at hB
      intro o ho
      by_cases hri:r=bn.1+o
      · exfalso
        rcases hat with ⟨k0,_⟩|⟨j',base,n,b,cs,T,k0,k1,k2,k3,k4,_⟩
        · omega
        · by_cases hjj:j'=j
          · subst hjj;rw [hb] at k4;cases k4
          · have:=wf.ap j' j _ _ k1 hj hjj
            simp only at this
            omega
      · rw [zBm,if_neg (by omega)]
        exact hB o ho
    | some b=>
      rw [hb] at hB
      obtain ⟨g1,g2,cs,T,g3,g4,g5⟩:=hB
      refine ⟨g1,g2,cs,T,g3,g4,fun o ho=>?_⟩
      by_cases hri:r=bn.1+o
      · rw [zAG (by omega),if_pos hri]
        rcases hat with ⟨k0,_⟩|⟨j',base,n,b',cs',T',k0,k1,k2,k3,k4,k5,rfl⟩
        · omega
        · by_cases hjj:j'=j
          · subst hjj
            rw [hj] at k1
            injection k1 with k1
            subst k1
            rw [hb] at k4
            injection k4 with k4
            subst k4
            rw [g3] at k5
            injection k5 with k5
            injection k5 with k5
            subst k5
            have:=h2 k0
            simp only at hri ⊢
            rw [hri] at this
            rw [show base+o-base=o by omega] at this
            exact this
          · have:=wf.ap j' j _ _ k1 hj hjj
            simp only at this
            omega
      · rw [zBm,if_neg (by omega)]
        exact g5 o ho
  mem:=h.mem
  mle:=h.mle
  pres:=h.pres
  own:=h.own
  lt:=h.lt
  new:=h.new
  fix:=h.fix
def zFu (ow:Ow) (fp:List Nat) (r:Nat):Ow:=fun b=>if b∈fp then some (.key r) else ow b
def Loose (S:Start) (m:Mem) (w:World) (ow:Ow) (fp:List Nat):Prop:=∀ g∈fp,ow g=none∧(S.w0.heap.size≤g∨S.R0 g)∧g < w.heap.size∧∀ o,m g o=none
theorem Loose.left {f g:List Nat} (h:Loose S m w ow (f++g)):Loose S m w ow f:=fun x hx=>h x (List.mem_append_left _ hx)
theorem Loose.right {f g:List Nat} (h:Loose S m w ow (f++g)):Loose S m w ow g:=fun x hx=>h x (List.mem_append_right _ hx)
theorem Loose.append {f g:List Nat} (h:Loose S m w ow f) (h':Loose S m w ow g):Loose S m w ow (f++g):=fun x hx=>(List.mem_append.1 hx).elim (h x) (h' x)
theorem Loose.sub {f g:List Nat} (h:Loose S m w ow f) (hs:∀ x∈g,x∈f):Loose S m w ow g:=fun x hx=>h x (hs x hx)
theorem zBn (h:InvG E S m β ow F a w) {r:Nat} {fp:List Nat} (hfp:∀ g∈fp,ow g=some (.key r)∧∀ o,m g o=none):Loose S m w (dropB ow fp) fp:=fun g hg=>
  ⟨by simp [dropB,hg],h.own g _ (hfp g hg).1,h.lt g _ (hfp g hg).1,(hfp g hg).2⟩
theorem Loose.dropB {fp f:List Nat} (h:Loose S m w ow fp):Loose S m w (dropB ow f) fp:=fun g hg=>⟨by
    unfold Go.Hx.dropB
    split
    · rfl
    · exact (h g hg).1,(h g hg).2⟩
theorem zE3 (wf:E.Wf) (h:InvG E S m β ow F a w) {r:Nat} {u:Value} (hat:AtIx E β a w r u) {x:OV} {fp:List Nat} (hu:OvR m w x u fp) (hnd:fp.Nodup) (hn:Loose S m w ow fp):
    InvG E S m β (zFu ow fp r) (F.set r (.ov (.one x))) a w:=by
  have st:Step (fun _=>False) m m w w ow (zFu ow fp r):=by
    refine ⟨m.le_refl,fun g t hg _=>⟨rfl,fun _=>rfl,?_⟩⟩
    unfold zFu
    rw [if_neg]
    · exact hg
    · intro e'
      rw [(hn g e').1] at hg
      cases hg
  have h2:InvG E S m β (zFu ow fp r) F a w:=by
    refine h.step st rfl rfl rfl (fun i _=>.inl ⟨rfl,rfl,.inl id⟩) (fun j bn _=>.inl ⟨id,fun o _=>⟨rfl,id⟩⟩) h.mem (Pres.refl _ _) ?_ ?_ (fun b o u hu=>.inl hu)
    · intro b t hb
      unfold zFu at hb
      split at hb
      · rename_i hb';exact (hn b hb').2.1
      · exact h.own b t hb
    · intro b t hb
      unfold zFu at hb
      split at hb
      · rename_i hb';exact (hn b hb').2.2.1
      · exact h.lt b t hb
  have hok:OvOk m w (zFu ow fp r) (.key r) (.one x) u:=⟨fp,hu,hnd,fun g hg=>⟨by simp [zFu,hg],(hn g hg).2.2.2⟩⟩
  exact h2.setIx wf hat (fun _=>hok) (fun _=>hok)
theorem zMO {r j base:Nat} (h:zB5 E r j base=true):r < E.N∨∃ n,E.Γ[j]?=some (base,n)∧base≤r∧r < base+n:=by
  simp only [zB5,Bool.or_eq_true,decide_eq_true_eq,Bool.and_eq_true] at h
  rcases h with h|⟨h1,h2⟩
  · exact .inl h
  · obtain ⟨n,hj,hn⟩:=zDG h2
    exact .inr ⟨n,hj,h1,by omega⟩
theorem zFv (wf:E.Wf) (h:InvG E S m β ow F a w) {r j base:Nat} (hr:zB5 E r j base=true) {x:OV} (hx:F.getD r .un=.ov (.one x)):
    ∃ u fp,AtIx E β a w r u∧OvR m w x u fp∧fp.Nodup∧∀ g∈fp,ow g=some (.key r)∧∀ o,m g o=none:=by
  by_cases hrN:r < E.N
  · have hs:=h.slots r hrN
    rw [hx] at hs
    obtain ⟨fp,h1,h2,h3⟩:=hs
    exact ⟨_,fp,.inl ⟨hrN,rfl⟩,h1,h2,h3⟩
  · rcases zMO hr with hr|⟨n,hj,h1,h2⟩
    · exact (hrN hr).elim
    · have hB:=h.boxes j _ hj
      cases hb:β j with
      | none=>
        rw [hb] at hB
        have:=hB (r-base) (by simp only;omega)
        simp only at this
        rw [show base+(r-base)=r by omega,hx] at this
        rcases this with e|e<;>cases e
      | some b=>
        rw [hb] at hB
        obtain ⟨g1,g2,cs,T,g3,g4,g5⟩:=hB
        have:=g5 (r-base) (by simp only;omega)
        simp only at this
        rw [show base+(r-base)=r by omega,hx] at this
        obtain ⟨fp,k1,k2,k3⟩:=this
        exact ⟨_,fp,.inr ⟨j,base,n,b,cs,T,by omega,hj,h1,h2,hb,g3,rfl⟩,k1,k2,k3⟩
theorem InvG.world (h:InvG E S m β ow F a w) {w':World} {b:Nat} (hb:ow b=none) (hm:∀ o,m b o=none) (hS:S.w0.heap.size≤b∨S.R0 b) (hp:w.grownBy w' (some b)) (hd:w.drawn≤w'.drawn):InvG E S m β ow F a w':=by
  have hmem:MemOk m w':=by
    intro g o u hu
    have hne:g≠b:=fun e=>by subst e;rw [hm o] at hu;cases hu
    exact (h.mem g o u hu).block (hp.block g (zFN h.mem hu) (by simpa using hne))
  refine h.quiet ⟨m.le_refl,hmem,fun g t hg=>hp.block g (h.lt g t hg) (fun e=>by injection e with e;subst e;rw [hb] at hg;cases hg),fun _ _ _ _=>rfl,fun _ _ _ h=>.inl h,⟨hp.os,hp.tape,hp.output,hp.size,fun g hg hn=>hp.block g hg fun e=>?_,fun _=>hd⟩⟩
  injection e with e
  subst e
  exact hn (hS.elim .inr .inl)
theorem Loose.grow {w':World} {fp:List Nat} (h:Loose S m w ow fp) (hs:w.heap.size≤w'.heap.size):Loose S m w' ow fp:=fun g hg=>⟨(h g hg).1,(h g hg).2.1,Nat.lt_of_lt_of_le (h g hg).2.2.1 hs,(h g hg).2.2.2⟩
theorem AtIx.world {r:Nat} {u:Value} (h:AtIx E β a w r u) (hI:InvG E S m β ow F a w) {w':World} (hb:∀ b t,ow b=some t→w'.heap[b]?=w.heap[b]?):AtIx E β a w' r u:=by
  rcases h with h|⟨j,base,n,b,cs,T,k0,k1,k2,k3,k4,k5,k6⟩
  · exact .inl h
  · have hB:=hI.boxes j _ k1
    rw [k4] at hB
    exact .inr ⟨j,base,n,b,cs,T,k0,k1,k2,k3,k4,(hb b _ hB.1).trans k5,k6⟩
theorem OvV.cells {x:OVal} {u:Value} {fp:List Nat} (h:OvV m w x u fp):OvL m w x.cells u.cells.toList fp:=by
  cases x with
  | one x=>
    have hf:=OvR.flat_ h
    rw [zG6 hf]
    simp only [OVal.cells,OvL]
    exact ⟨u,[],fp,[],rfl,by simp,h,rfl,rfl⟩
  | agg cs=>
    obtain ⟨us,rfl,h2⟩:=h
    exact h2
theorem zTl {agg:Bool} {cs:List OV} {us:List Value} {fp:List Nat} (h:OvL m w cs us fp) (hn:agg=true∨us.length=1):OvV m w (yM8 agg cs) (if agg then .agg us.toArray else us.headD undef) fp:=by
  cases agg with
  | true=>exact ⟨us,rfl,h⟩
  | false=>
    rcases hn with hn|hn
    · cases hn
    · have hl:=h.length
      match cs,us,hn,hl,h with
      | [x],[u],_,_,h=>
        simp only [OvL] at h
        obtain ⟨v,us',f1,f2,e1,rfl,h3,h4,rfl⟩:=h
        injection e1 with e1 _
        subst e1
        rw [List.append_nil]
        exact h3
      | [],_::_,_,hl,_=>simp at hl
      | _::_::_,[u],_,hl,_=>simp at hl
theorem yCq:∀ {cs:List OV} {ps:List PV} {us:List Value} {fp:List Nat},yM9 cs=some ps→OvL m w cs us fp→RpL m ps us
  | [],ps,us,fp,h,hr=>by
    simp only [yM9,Option.some.injEq] at h
    subst h
    simp only [OvL] at hr
    simp only [RpL]
    exact hr.1
  | x::r,ps,us,fp,h,hr=>by
    simp only [OvL] at hr
    obtain ⟨u,us',f1,f2,rfl,rfl,h3,h4⟩:=hr
    have hf:=h3.flat_
    cases x<;>simp only [yM9] at h<;>split at h<;>first
      | (cases h;done)
      | (rename_i xs e1
         injection h with h
         subst h
         simp only [RpL]
         first
           | exact ⟨u,us',rfl,(by simp only [OvR] at h3;exact h3.2),yCq e1 h4⟩
           | exact ⟨u,us',rfl,(by simp only [Rp];exact hf),yCq e1 h4⟩)
theorem ySJ (wf:E.Wf) (h:InvG E S m β ow F a w) {d e k:Nat} {o:Oper} (hd:zAY E.N (some d) o.dst=true) {y:Operand} (ho:o.op=.move y∨o.op=.assign y) (hk:zAk E.N (.c (.one (.nl 0))) y=true) {K:List Ct→Prop} {Q:Exit→Act→World→Prop}
    (hK:K (F.set d (.ov (.one (.os none e k []))))):o.wp P a w (zFb E S K) Q:=by
  obtain ⟨hd1,hd2⟩:=zAp hd
  have hr:(execOp a.eval o).run P w=.ok (.value (a.eval y)) w:=by
    unfold execOp
    rcases ho with ho|ho<;>rw [ho]<;>rfl
  have hy:a.eval y=.slice none 0 0:=by
    have:=zBd h hk (p:=.one (.nl 0)) trivial rfl
    exact this
  refine zAP hr ⟨_,hK,m,β,ow,?_⟩
  rw [hd1,hy]
  refine h.slot wf hd2 ⟨[],?_,List.nodup_nil,by simp⟩
  exact zCm.2 ⟨[],[],World.ownsRow_nil w 0 e k,by simp only [List.flatten_nil,OvL];exact ⟨trivial,trivial⟩,by simp,by simp [blk,Value.ownBlock],fun b hb=>by cases hb⟩
theorem ySK (wf:E.Wf) (h:InvG E S m β ow F a w) {d x:Nat} {o:Oper} (hd:zAY E.N (some d) o.dst=true) {y:Operand} (ho:o.op=.move y∨o.op=.assign y) (hk:zAk E.N (.t x) y=true) {K:List Ct→Prop} {Q:Exit→Act→World→Prop}
    {v:OVal} (hx:F.getD x .un=.ov v) (hK:K ((F.set x (zYl v)).set d (.ov v))):o.wp P a w (zFb E S K) Q:=by
  obtain ⟨hd1,hd2⟩:=zAp hd
  have hr:(execOp a.eval o).run P w=.ok (.value (a.eval y)) w:=by
    unfold execOp
    rcases ho with ho|ho<;>rw [ho]<;>rfl
  obtain ⟨rfl,hxN⟩:=zBL hk
  have hs:=h.slots x hxN
  rw [hx] at hs
  obtain ⟨fp,h1,h2,h3⟩:=hs
  have hD:=zC4 wf h fun g hg=>(h3 g hg).1
  refine zAP hr ⟨_,hK,?_⟩
  rw [hd1]
  have hH:CtRep m w β (dropB ow fp) x (zYl v) (a.tmps.getD x undef):=by
    cases v with
    | agg cs=>trivial
    | one q=>cases q with
      | os pb e k rows=>exact (zOz h1).1
      | _=>trivial
  have hD2:=hD.setIx wf (r:=x) (u:=a.tmps.getD x undef) (.inl ⟨hxN,rfl⟩) (fun _=>hH) (fun h'=>absurd hxN (Nat.not_lt.2 h'))
  rw [List.set_set] at hD2
  exact zFQ wf hD2 hd2 h1 h2 (zBn h h3)
theorem yCr (f1 fa fm fb f2:List Nat):(f1++((fa++(fm++fb))++f2)).Perm (fm++(f1++((fa++fb)++f2))):=
  List.perm_iff_count.2 fun x=>by simp only [List.count_append];omega
theorem yCs {x:Opd} {r:Nat} {pt:List (Opd×Nat)} {K:OV→List (Nat×Nat)→Nat→Nat→Nat→List (List OV)→Nat→Nat→Prop} (h:atV F x r pt K):
    ∃ root p b e k rows i f,zAn F x=.epp b k i f∧F.getD r .un=.ov (.one root)∧root.get p=some (.os (some b) e k rows)∧i < rows.length∧K root p b e k rows i f:=by
  unfold atV at h
  split at h
  · rename_i b k i f root e1 e2
    split at h
    · rename_i b' e k' rows e3
      obtain ⟨h1,rfl,rfl,h4,h5⟩:=h
      exact ⟨root,_,_,e,_,rows,i,f,e1,e2,e3,h4,h5⟩
    · exact h.elim
  · exact h.elim
theorem yCt (h:InvG E S m β ow F a w) {x:Opd} {y:Operand} (hk:zAk E.N x y=true) {b k i f:Nat} (hp:zAn F x=.epp b k i f):a.eval y=.pointer (some ⟨b,i * k+f,none⟩):=by
  obtain ⟨n',rfl,hn',hs⟩:=zBu h hk hp (by intro p;simp)
  exact hs
theorem zTm {α:Type} {rows:List (List α)} {i:Nat} (hi:i < rows.length):rows[i]?=some (rows.getD i []):=by simp [hi]
theorem yLP {t:TypeId} {agg:Bool} {n b o:Nat} {x':Operand} {op:Oper} (ho:op.op=.load t x') (hv:a.eval x'=.pointer (some ⟨b,o,none⟩)) (ha:zBV P t=some agg) (hn:zEg P t=some n) (h1:agg=true∨n=1) {us:List Value} (hl:us.length=n) (hm:∀ i u,us[i]?=some u→w.cell? ⟨b,o+i,none⟩=some u):
    (execOp a.eval op).run P w=.ok (.value (if agg then .agg us.toArray else us.headD undef)) w:=by
  have hrun:=zBf (P:=P) (w:=w) ha hn h1 hl hm
  unfold execOp;rw [ho]
  simp only [hv,Instr.loadAt,Instr.sureAddr,Sem.run_bind,Sem.run_pure,Result.andThen_ok,hrun]
theorem yVR (wf:E.Wf) (h:InvG E S m β ow F a w) {d r j base n:Nat} {x:Opd} {pt:List (Opd×Nat)} {agg:Bool} {o:Oper} (hd:zAY E.N (some d) o.dst=true) (hr:zB5 E r j base=true) {t:TypeId} {y:Operand} (ho:o.op=.load t y) (hk:zAk E.N x y=true) (ha:zBV P t=some agg) (hn:zEg P t=some n) (h1:agg=true∨n=1)
    {K:List Ct→Prop} {X:Value→List Ct→Prop} {Q:Exit→Act→World→Prop} (hW:opW P (.vlp d x r j base pt n agg) F K X):o.wp P a w (zFb E S K) Q:=by
  obtain ⟨hd1,hd2⟩:=zAp hd
  simp only [opW] at hW
  obtain ⟨root,p,b,e,k,rows,i,f,e1,e2,e3,hi,hf,hK⟩:=yCs hW
  obtain ⟨u,fp,hat,hrep,hnd,hown⟩:=zFv wf h hr e2
  obtain ⟨v,f1,fy,f2,rfl,g1,_,_⟩:=OvR.focus p _ _ u fp hrep e3
  obtain ⟨us,fa,fm,fb,rfl,k1,k2,k3,g,cap,rfl,k4,k5⟩:=g1.out (zTm hi) hf
  obtain ⟨_,_,_,_,_,_,hpin⟩:=zCm.1 g1
  have hgb:=hpin b rfl (fun e=>by rw [e] at hi;simp at hi)
  simp only [Value.ownBlock,Option.some.injEq] at hgb
  subst hgb
  have hv:=yCt h hk e1
  split at hK
  · rename_i ps e4
    have hrp:=yCq e4 k1
    refine zAP (yLP ho hv ha hn h1 k2 k5) ⟨_,hK,m,β,ow,?_⟩
    rw [hd1]
    refine h.slot wf hd2 ?_
    cases agg with
    | true=>exact ⟨us,rfl,hrp⟩
    | false=>
      rcases h1 with h1|h1
      · cases h1
      · have hl:=hrp.length
        match ps,us,k2,hl with
        | [q],[v],_,_=>
          simp only [RpL] at hrp
          obtain ⟨v',us',e5,h6,_⟩:=hrp
          injection e5 with e5 _
          subst e5
          exact h6
        | [],us,k2,hl=>rw [←k2,hl] at h1;cases h1
        | _::_::_,us,k2,hl=>rw [←k2,hl] at h1;simp at h1
  · exact hK.elim
theorem yVS (wf:E.Wf) (h:InvG E S m β ow F a w) {d r j base:Nat} {x:Opd} {pt:List (Opd×Nat)} {o:Oper} (hd:zAY E.N (some d) o.dst=true) (hr:zB5 E r j base=true) {t:TypeId} {y:Operand} (ho:o.op=.load t y) (hk:zAk E.N x y=true) (ha:zBV P t=some false) (hn:zEg P t=some 1)
    {K:List Ct→Prop} {X:Value→List Ct→Prop} {Q:Exit→Act→World→Prop} (hW:opW P (.vlh d x r j base pt) F K X):o.wp P a w (zFb E S K) Q:=by
  obtain ⟨hd1,hd2⟩:=zAp hd
  simp only [opW] at hW
  obtain ⟨root,p,b,e,k,rows,i,f,e1,e2,e3,hi,hK⟩:=yCs hW
  obtain ⟨u,fp,hat,hrep,hnd,hown⟩:=zFv wf h hr e2
  obtain ⟨v,f1,fy,f2,rfl,g1,_,_⟩:=OvR.focus p _ _ u fp hrep e3
  have main:∀ {pb:Option Nat} {e2' k2:Nat} {rows2:List (List OV)},(rows.getD i [])[f]?=some (.os pb e2' k2 rows2)→∃ u',(execOp a.eval o).run P w=.ok (.value u') w∧zMH rows2.length u'∧∀ b,pb=some b→rows2.length≠0→∃ c,u'=.slice (some ⟨b,0,none⟩) rows2.length c:=by
    intro pb e2' k2 rows2 hc
    have hf:f < (rows.getD i []).length:=(List.getElem?_eq_some_iff.1 hc).1
    obtain ⟨us,fa,fm,fb,rfl,k1,k2',k3,g,cap,rfl,k4,k5⟩:=g1.out (f:=f) (n:=1) (zTm hi) (by omega)
    obtain ⟨_,_,_,_,_,_,hpin⟩:=zCm.1 g1
    have hgb:=hpin b rfl (fun e=>by rw [e] at hi;simp at hi)
    simp only [Value.ownBlock,Option.some.injEq] at hgb
    subst hgb
    have hv:=yCt h hk e1
    have hrun:=yLP ho hv ha hn (.inr rfl) k2' k5
    have hone:((rows.getD i []).drop f).take 1=[.os pb e2' k2 rows2]:=by
      rw [List.drop_eq_getElem_cons hf]
      have:(rows.getD i [])[f]=.os pb e2' k2 rows2:=by rw [List.getElem?_eq_getElem hf] at hc;exact Option.some.inj hc
      rw [this];simp
    rw [hone] at k1
    match us,k2' with
    | [u'],_=>
      simp only [OvL] at k1
      obtain ⟨u2,us',q1,q2,q3,q4,q5,q6⟩:=k1
      injection q3 with q3 _
      subst q3
      have:=zOz q5
      exact ⟨u',hrun,this.1,this.2⟩
  split at hK
  · rename_i b2 e2' k2 rows2 hc
    obtain ⟨u',h1,h2,h3⟩:=main hc
    refine zAP h1 ⟨_,hK,m,β,ow,?_⟩
    rw [hd1]
    exact h.slot wf hd2 ⟨h2,fun hne=>h3 b2 rfl hne⟩
  · rename_i e2' k2 rows2 hc
    obtain ⟨u',h1,h2,_⟩:=main hc
    refine zAP h1 ⟨_,hK,m,β,ow,?_⟩
    rw [hd1]
    exact h.slot wf hd2 h2
  · exact hK.elim
theorem yVT (wf:E.Wf) (h:InvG E S m β ow F a w) {d r j base n:Nat} {x:Opd} {pt:List (Opd×Nat)} {agg:Bool} {o:Oper} (hd:zAY E.N (some d) o.dst=true) (hr:zB5 E r j base=true) {t:TypeId} {y:Operand} (ho:o.op=.load t y) (hk:zAk E.N x y=true) (ha:zBV P t=some agg) (hn:zEg P t=some n) (h1:agg=true∨n=1)
    {K:List Ct→Prop} {X:Value→List Ct→Prop} {Q:Exit→Act→World→Prop} (hW:opW P (.vle d x r j base pt n agg) F K X):o.wp P a w (zFb E S K) Q:=by
  obtain ⟨hd1,hd2⟩:=zAp hd
  simp only [opW] at hW
  obtain ⟨root,p,b,e,k,rows,i,f,e1,e2,e3,hi,hf,hK⟩:=yCs hW
  obtain ⟨u,fp,hat,hrep,hnd,hown⟩:=zFv wf h hr e2
  obtain ⟨v,f1,fy,f2,rfl,g1,_,g2⟩:=OvR.focus p _ _ u fp hrep e3
  obtain ⟨us,fa,fm,fb,rfl,k1,k2,k3,g,cap,rfl,k4,k5⟩:=g1.out (zTm hi) hf
  obtain ⟨_,_,_,_,_,_,hpin⟩:=zCm.1 g1
  have hgb:=hpin b rfl (fun e=>by rw [e] at hi;simp at hi)
  simp only [Value.ownBlock,Option.some.injEq] at hgb
  subst hgb
  have hv:=yCt h hk e1
  have hD:=zC4 wf h fun g hg=>(hown g hg).1
  have hloose:=zBn h hown
  have hnew:=g2 m w _ (fa++fb) m.le_refl (fun _ _=>rfl) k3
  have hnd':(f1++((fa++fb)++f2)).Nodup∧fm.Nodup∧∀ g∈fm,g∉f1++((fa++fb)++f2):=by
    have hp:=yCr f1 fa fm fb f2
    have:=hp.nodup_iff.1 hnd
    rw [List.nodup_append] at this
    exact ⟨this.2.1,this.1,fun g hg hc=>this.2.2 g hg g hc rfl⟩
  have hA:=zE3 wf hD hat hnew hnd'.1 (hloose.sub fun x hx=>by
    simp only [List.mem_append] at hx ⊢
    rcases hx with hx|(hx|hx)|hx
    · exact .inl hx
    · exact .inr (.inl (.inl hx))
    · exact .inr (.inl (.inr (.inr hx)))
    · exact .inr (.inr hx))
  rw [List.set_set] at hA
  refine zAP (yLP ho hv ha hn h1 k2 k5) ⟨_,hK,?_⟩
  rw [hd1]
  refine zFQ wf hA hd2 (zTl k1 (by rw [k2];exact h1)) hnd'.2.1 fun g hg=>?_
  have hl:=hloose g (by simp [hg])
  exact ⟨by unfold zFu;rw [if_neg (hnd'.2.2 g hg)];exact hl.1,hl.2⟩
theorem OvR.lay {b e k:Nat} {rows:List (List OV)} {u:Value} {fp:List Nat} (h:OvR m w (.os (some b) e k rows) u fp) (hnd:fp.Nodup) {i f:Nat} {ys:List OV} {us:List Value} {fy:List Nat} (hi:i < rows.length) (hf:f+ys.length≤(rows.getD i []).length) (hy:OvL m w ys us fy) (hby:b∉fy):
    ∃ fa fm fb cur T,fp=fa++(fm++fb)∧b∈fa∧w.heap[b]?=some (.cells cur T (0,0))∧i * k+f+us.length≤cur.size∧
      ∀ w',w'.heap[b]?=some (.cells (cur.toList.take (i * k+f)++us++cur.toList.drop (i * k+f+us.length)).toArray T (0,0))→(∀ g,g≠b→g < w.heap.size→w'.heap[g]?=w.heap[g]?)→
        OvR m w' (.os (some b) e k (rows.set i (yBd (rows.getD i []) f ys))) u (fa++(fy++fb)):=by
  obtain ⟨xs,f',h1,h2,h3,rfl,h5⟩:=zCm.1 h
  have hr:=zTm hi
  obtain ⟨a,c,e1,e2,e3⟩:=yCe rows i _ h3 hr
  have hrk:(rows.getD i []).length=k:=h3 _ (List.mem_of_getElem? hr)
  rw [e1] at h2
  obtain ⟨us1,us',f1,f'',rfl,rfl,k1,k2⟩:=h2.split
  obtain ⟨us2,us3,f2,f3,rfl,rfl,k3,k4⟩:=k2.split
  obtain ⟨v1,v2,v3,g1,g2,g3,rfl,rfl,hl1,hl2,q1,q2,q3⟩:=k3.take f ys.length hf
  have hul:=hy.length
  have hu1:us1.length=i * k:=by rw [k1.length,e2]
  have hu3:v3.length=k-f-ys.length:=by rw [q3.length,List.length_drop];omega
  have hgb:=h5 b rfl (fun e=>by rw [e] at hi;simp at hi)
  rcases h1.2 with ⟨rfl,h6⟩|⟨g,cap,cur,rfl,hg0,hh,h6,h7,h8,h9⟩
  · omega
  · simp only [Value.ownBlock,Option.some.injEq] at hgb
    subst hgb
    have hnb:g∉f1++((g1++(g2++g3))++f3):=by
      rw [List.nodup_append] at hnd
      exact fun hc=>hnd.2.2 g (by simp [blk,Value.ownBlock]) g hc rfl
    have hlen:(us1++((v1++(v2++v3))++us3)).length=rows.length * k:=h1.1
    have hcur:cur.toList.length=cap * k:=by rw [Array.length_toList];exact h8
    have hik:i * k+k≤rows.length * k:=by
      have:=Nat.mul_le_mul_right k (Nat.succ_le_of_lt hi)
      rw [Nat.succ_mul] at this
      exact this
    have hck:rows.length * k≤cap * k:=Nat.mul_le_mul_right k h6
    refine ⟨blk (.slice (some ⟨g,0,none⟩) rows.length cap)++(f1++g1),g2,g3++f3,cur,e,by simp [List.append_assoc],by simp [blk,Value.ownBlock],hh,by omega,fun w' hw1 hw2=>?_⟩
    have hkeep:∀ g'∈f1++((g1++(g2++g3))++f3),w'.heap[g']?=w.heap[g']?:=by
      intro g' hg'
      refine hw2 g' (fun e=>hnb (e▸hg')) ?_
      exact OvR.lt _ _ _ h g' (List.mem_append_right _ hg')
    have hkeepy:∀ g'∈fy,w'.heap[g']?=w.heap[g']?:=fun g' hg'=>hw2 g' (fun e=>hby (e▸hg')) (OvL.lt _ _ _ hy g' hg')
    refine zCm.2 ⟨us1++((v1++(us++v3))++us3),(f1++g1)++(fy++(g3++f3)),?_,?_,?_,by simp [List.append_assoc],?_⟩
    · rw [List.length_set]
      refine ⟨by simp only [List.length_append] at hlen ⊢;omega,.inr ⟨g,cap,_,rfl,hg0,hw1,h6,h7,by simp only [List.size_toArray,List.length_append,List.length_take,List.length_drop];omega,?_⟩⟩
      simp only [List.toList_toArray]
      have hsplit:cur.toList=(us1++v1)++(v2++((v3++us3)++cur.toList.drop (rows.length * k))):=by
        have h12:=List.take_append_drop (rows.length * k) cur.toList
        rw [h9] at h12
        calc cur.toList=_:=h12.symm
          _=_:=by simp [List.append_assoc]
      have hA:(us1++v1).length=i * k+f:=by simp;omega
      have t1:cur.toList.take (i * k+f)=us1++v1:=by
        rw [hsplit,←hA,List.take_left]
      have t2:cur.toList.drop (i * k+f+us.length)=(v3++us3)++cur.toList.drop (rows.length * k):=by
        conv=>lhs;rw [hsplit]
        rw [show i * k+f+us.length=(us1++v1).length+v2.length by omega,←List.drop_drop,List.drop_left,List.drop_left]
      rw [t1,t2]
      have hB:(us1++((v1++(us++v3))++us3)).length=rows.length * k:=by simp only [List.length_append] at hlen ⊢;omega
      rw [show us1++v1++us++(v3++us3++cur.toList.drop (rows.length * k))=(us1++((v1++(us++v3))++us3))++cur.toList.drop (rows.length * k) by simp [List.append_assoc],←hB,List.take_left]
    · rw [e3]
      have hlay:OvL m w' (yBd (rows.getD i []) f ys) (v1++(us++v3)) (g1++(fy++g3)):=by
        unfold yBd
        rw [List.append_assoc]
        refine (OvL.congr m.le_refl _ _ _ (fun g hg=>hkeep g (by simp [hg])) q1).append ((OvL.congr m.le_refl _ _ _ hkeepy hy).append (OvL.congr m.le_refl _ _ _ (fun g hg=>hkeep g (by simp [hg])) q3))
      have h10:=(OvL.congr m.le_refl _ _ _ (fun g hg=>hkeep g (by simp [hg])) k1).append (hlay.append (OvL.congr m.le_refl _ _ _ (fun g hg=>hkeep g (by simp [hg])) k4))
      simpa [List.append_assoc] using h10
    · intro r' hr'
      rcases List.mem_or_eq_of_mem_set hr' with hr'|rfl
      · exact h3 r' hr'
      · rw [zTM hf];exact hrk
    · intro b' hb hne
      exact h5 b' hb (fun e=>hne (by rw [e];simp))
theorem yO7 (wf:E.Wf) (h:InvG E S m β ow F a w) {y:Opd} {y':Operand} (hk:zAk E.N y y'=true) (hs:(zYg F y).1) {r:Nat} (hr:∀ s,y=.t s→s≠r):
    ∃ fy,OvL m w (zYg F y).2 (a.eval y').cells.toList fy∧fy.Nodup∧(∀ g∈fy,∃ s,y=.t s∧ow g=some (.key s)∧∀ o,m g o=none)∧InvG E S m β (dropB ow fy) (clr F F y) a w∧(clr F F y).getD r .un=F.getD r .un∧Loose S m w (dropB ow fy) fy:=by
  by_cases hov:∃ v,zAn F y=.ov v
  · obtain ⟨v,hv⟩:=hov
    obtain ⟨n,rfl,hn,hrep⟩:=zBu h hk hv (by intro p;simp)
    obtain ⟨fp,h1,h2,h3⟩:=hrep
    have hg:F.getD n .un=.ov v:=hv
    refine ⟨fp,?_,h2,fun g hg=>⟨n,rfl,h3 g hg⟩,?_,?_,zBn h h3⟩
    · simp only [zYg,hv];exact h1.cells
    · simp only [clr,hg];exact zC4 wf h fun g hg=>(h3 g hg).1
    · simp only [clr,hg]
      rw [zBm,if_neg (fun e=>hr n rfl e.1)]
  · have hc:clr F F y=F:=by
      cases y with
      | t n=>
        simp only [clr]
        split
        · rename_i v e1;exact (hov ⟨v,e1⟩).elim
        · rfl
      | c p=>rfl
      | f n=>rfl
    have hp:∃ p,(zAn F y).pv?=some p∧(zAn F y).need∧(zYg F y).2=p.norm.cells.map .p:=by
      unfold zYg at hs ⊢
      split at hs
      · rename_i v e1;exact (hov ⟨v,e1⟩).elim
      · split at hs
        · rename_i p e1;exact ⟨p,e1,hs,by simp only [e1]⟩
        · exact hs.elim
    obtain ⟨p,hp1,hp2,hp3⟩:=hp
    have hrep:=(zBd h hk hp2 hp1).norm
    refine ⟨[],?_,List.nodup_nil,by simp,?_,by rw [hc],by simp [Loose]⟩
    · rw [hp3];exact OvL.of_rp hrep.cells
    · rw [hc]
      have:dropB ow []=ow:=by funext b;simp [dropB]
      rw [this];exact h
theorem yVU (wf:E.Wf) (h:InvG E S m β ow F a w) {r j base n:Nat} {x y:Opd} {pt:List (Opd×Nat)} {o:Oper} (hd:o.dst=none) (hr:zB5 E r j base=true) {t:TypeId} {x' y':Operand} (ho:o.op=.store t x' y') (hk1:zAk E.N x x'=true) (hk2:zAk E.N y y'=true) (hs:zEg P t=some n)
    {K:List Ct→Prop} {X:Value→List Ct→Prop} {Q:Exit→Act→World→Prop} (hW:opW P (.vse x r j base pt n y) F K X):o.wp P a w (zFb E S K) Q:=by
  simp only [opW] at hW
  obtain ⟨root,p,b,e,k,rows,i,f,e1,e2,e3,hi,hyr,hsr,hlen,hf,hK⟩:=yCs hW
  obtain ⟨fy,y1,y2,y3,y4,y5,y6⟩:=yO7 wf h hk2 hsr hyr
  have hv:=yCt h hk1 e1
  obtain ⟨u,fp,hat,hrep,hnd,hown⟩:=zFv wf y4 hr (y5.trans e2)
  obtain ⟨v,f1,fn,f2,rfl,g1,_,g2⟩:=OvR.focus p _ _ u fp hrep e3
  have hndn:fn.Nodup:=by
    rw [List.nodup_append] at hnd
    have:=hnd.2.1
    rw [List.nodup_append] at this
    exact this.1
  have hfy:∀ g∈f1++(fn++f2),g∉fy:=by
    intro g hg hc
    have:=(hown g hg).1
    simp [dropB,hc] at this
  have hbfn:b∈fn:=by
    obtain ⟨_,_,_,_,_,rfl,hpin⟩:=zCm.1 g1
    have:=hpin b rfl (fun e=>by rw [e] at hi;simp at hi)
    exact List.mem_append_left _ (zC0.2 this)
  have hbmem:b∈f1++(fn++f2):=by simp [hbfn]
  obtain ⟨fa,fm,fb,cur,T,rfl,l2,l3,l4,l5⟩:=g1.lay hndn hi (by rw [hlen];exact hf) y1 (hfy b hbmem)
  have hvl:(a.eval y').cells.size=n:=by rw [←Array.length_toList,y1.length,hlen]
  have hvl':(a.eval y').cells.toList.length=n:=by rw [Array.length_toList];exact hvl
  rw [hvl'] at l4 l5
  have hrun:=zC9 (P:=P) (w:=w) hs hvl l3 l4 y1.flat_
  have hr':(execOp a.eval o).run P w=.ok .skip (w.setRow b (cur.toList.take (i * k+f)++(a.eval y').cells.toList++cur.toList.drop (i * k+f+n)).toArray):=by
    unfold execOp;rw [ho]
    simp only [hv,Instr.storeAt,Instr.sureAddr,Sem.run_bind,Sem.run_pure,Result.andThen_ok,hrun]
  have hD:=zC4 wf y4 fun g hg=>(hown g hg).1
  have hloose:=zBn y4 hown
  have hb:=hloose b hbmem
  let w':=w.setRow b (cur.toList.take (i * k+f)++(a.eval y').cells.toList++cur.toList.drop (i * k+f+n)).toArray
  have hgrow:w.grownBy w' (some b):=⟨rfl,rfl,rfl,by simp [w'],fun g _ hg=>setRow_other w b g _ (fun e=>hg (by rw [e]))⟩
  have hsz:w.heap.size≤w'.heap.size:=hgrow.size
  have hDw:=hD.world (w':=w') hb.1 hb.2.2.2 hb.2.1 hgrow (Nat.le_refl _)
  have hnode:=l5 w' (setRow_heap w b cur _ T (0,0) l3) (fun g hg _=>setRow_other w b g _ hg)
  have hperm:=yCr f1 fa fm fb f2
  have hnd1:=hperm.nodup_iff.1 hnd
  have hnew:=g2 m w' _ (fa++(fy++fb)) m.le_refl (fun g hg=>setRow_other w b g _ (fun e=>by
    subst e
    have hp2:(f1++((fa++(fm++fb))++f2)).Perm ((f1++f2)++(fa++(fm++fb))):=List.perm_iff_count.2 fun x=>by simp only [List.count_append];omega
    have:=hp2.nodup_iff.1 hnd
    rw [List.nodup_append] at this
    exact this.2.2 g hg g (by simp [l2]) rfl)) hnode
  have hnd2:(f1++((fa++(fy++fb))++f2)).Nodup:=by
    have hp3:=yCr f1 fa fy fb f2
    rw [hp3.nodup_iff,List.nodup_append]
    rw [List.nodup_append] at hnd1
    refine ⟨y2,hnd1.2.1,fun x hx z hz e=>?_⟩
    subst e
    refine hfy x ?_ hx
    simp only [List.mem_append] at hz ⊢
    rcases hz with hz|(hz|hz)|hz
    · exact .inl hz
    · exact .inr (.inl (.inl hz))
    · exact .inr (.inl (.inr (.inr hz)))
    · exact .inr (.inr hz)
  have hA:=zE3 wf hDw (hat.world hD (w':=w') (fun g t hg=>setRow_other w b g _ (fun e=>by subst e;rw [hb.1] at hg;cases hg))) hnew hnd2 (by
    intro g hg
    simp only [List.mem_append] at hg
    have:g∈f1++((fa++(fm++fb))++f2)∨g∈fy:=by
      simp only [List.mem_append]
      rcases hg with hg|(hg|hg|hg)|hg
      · exact .inl (.inl hg)
      · exact .inl (.inr (.inl (.inl hg)))
      · exact .inr hg
      · exact .inl (.inr (.inl (.inr (.inr hg))))
      · exact .inl (.inr (.inr hg))
    rcases this with hg'|hg'
    · exact (hloose.grow hsz) g hg'
    · exact ((y6.dropB).grow hsz) g hg')
  rw [List.set_set] at hA
  have:a.put o.dst undef=a:=by rw [hd];rfl
  have hA':Inv E S ((clr F F y).set r (.ov (.one (root.upd p (.os (some b) e k (rows.set i (yBd (rows.getD i []) f (zYg F y).2))))))) (a.put o.dst undef) w':=by
    rw [this]
    exact ⟨m,β,_,hA⟩
  exact zFE hr' ⟨_,hK,hA'⟩
theorem yCu {j base nn b:Nat} (hB:BoxRep m w ow F j (base,nn) (some b)):∀ (n off:Nat),off+n≤nn→∀ cs,zC1 F (base+off) n=some cs→
    ∃ us fp,us.length=n∧OvL m w cs us fp∧fp.Nodup∧(∀ g∈fp,(∃ i,base+off≤i∧i < base+off+n∧ow g=some (.key i)∧∃ v,F.getD i .un=.ov v)∧∀ o,m g o=none)∧∀ (i:Nat) (u:Value),us[i]?=some u→w.cell? ⟨b,off+i,none⟩=some u
  | 0,off,_,cs,h=>by
    simp only [zC1,Option.some.injEq] at h
    subst h
    exact ⟨[],[],rfl,by simp only [OvL];exact ⟨trivial,trivial⟩,List.nodup_nil,by simp,by simp⟩
  | n+1,off,hle,cs,h=>by
    simp only [zC1] at h
    split at h
    · rename_i x xs h1 h2
      injection h with h
      subst h
      obtain ⟨us,fp,k1,k2,k3,k4,k5⟩:=yCu hB n (off+1) (by omega) xs (by rw [show base+(off+1)=base+off+1 by omega];exact h2)
      have hB':=hB
      obtain ⟨_,_,vs,T,hh,hsz,hcell⟩:=hB'
      have hc:=hcell off (by simp only;omega)
      simp only at hc hsz
      have hcell':w.cell? ⟨b,off,none⟩=some (vs.getD off undef):=by
        rw [cell_of_row w b off vs T (0,0) hh];exact zMM (by omega)
      have hx:∃ f1,OvR m w x (vs.getD off undef) f1∧f1.Nodup∧∀ g∈f1,(ow g=some (.key (base+off))∧∃ v,F.getD (base+off) .un=.ov v)∧∀ o,m g o=none:=by
        generalize F.getD (base+off) .un=c at h1 hc
        cases c with
        | pv p=>cases p with
          | one y=>
            simp only [zQb,Option.some.injEq] at h1
            subst h1
            exact ⟨[],by simp only [OvR];exact ⟨trivial,Rp.norm hc⟩,List.nodup_nil,by simp⟩
          | agg cs=>cases h1
        | own e k rows=>
          simp only [zQb,Option.some.injEq] at h1
          subst h1
          exact ⟨[],by simp only [OvR];exact ⟨trivial,OwnRep.rp hc⟩,List.nodup_nil,by simp⟩
        | ov v=>cases v with
          | one y=>
            simp only [zQb,Option.some.injEq] at h1
            subst h1
            obtain ⟨f1,q1,q2,q3⟩:=hc
            exact ⟨f1,q1,q2,fun g hg=>⟨⟨(q3 g hg).1,_,rfl⟩,(q3 g hg).2⟩⟩
          | agg cs=>cases h1
        | _=>cases h1
      obtain ⟨f1,q1,q2,q3⟩:=hx
      refine ⟨vs.getD off undef::us,f1++fp,by simp [k1],by simp only [OvL];exact ⟨_,us,f1,fp,rfl,rfl,q1,k2⟩,?_,?_,?_⟩
      · rw [List.nodup_append]
        refine ⟨q2,k3,fun g hg g' hg' e=>?_⟩
        subst e
        obtain ⟨⟨i,i1,i2,i3,_⟩,_⟩:=k4 g hg'
        rw [(q3 g hg).1.1] at i3
        injection i3 with i3
        injection i3 with i3
        omega
      · intro g hg
        rcases List.mem_append.1 hg with hg|hg
        · exact ⟨⟨base+off,by omega,by omega,(q3 g hg).1.1,(q3 g hg).1.2⟩,(q3 g hg).2⟩
        · obtain ⟨⟨i,i1,i2,i3,i4⟩,i5⟩:=k4 g hg
          exact ⟨⟨i,by omega,by omega,i3,i4⟩,i5⟩
      · intro i u hu
        cases i with
        | zero=>simp only [List.getElem?_cons_zero,Option.some.injEq] at hu;subst hu;exact hcell'
        | succ i=>
          have:=k5 i u (by simpa using hu)
          rw [show off+(i+1)=off+1+i by omega]
          exact this
    · cases h
theorem zDQ (F:List Ct):∀ (n i:Nat),(zAV F i n).length=n
  | 0,_=>rfl
  | n+1,i=>by simp [zAV,zDQ F n]
theorem zIM (F:List Ct):∀ (n i k:Nat),k < n→(zAV F i n).getD k .un=yJb (F.getD (i+k) .un)
  | n+1,i,0,_=>by simp [zAV]
  | n+1,i,k+1,h=>by
    simp only [zAV,List.getD_cons_succ]
    rw [zIM F n (i+1) k (by omega),show i+1+k=i+(k+1) by omega]
theorem yJg (wf:E.Wf) (h:InvG E S m β ow F a w) {i n:Nat} {fp:List Nat} (hiN:E.N≤i) (hfp:∀ g∈fp,∃ k,i≤k∧k < i+n∧ow g=some (.key k)∧∃ v,F.getD k .un=.ov v):InvG E S m β (dropB ow fp) (zAi F i (zAV F i n)) a w:=by
  have hget:∀ k,(zAi F i (zAV F i n)).getD k .un=F.getD k .un∨((zAi F i (zAV F i n)).getD k .un=.un∧∃ v,F.getD k .un=.ov v)∨(zAi F i (zAV F i n)).getD k .un=.un:=by
    intro k
    rw [zAr,zDQ]
    split
    · rename_i hk
      rw [zIM F n i (k-i) (by omega),show i+(k-i)=k by omega]
      generalize F.getD k .un=c
      cases c<;>simp [yJb]
    · exact .inl rfl
  have hgetN:∀ k,k < E.N→(zAi F i (zAV F i n)).getD k .un=F.getD k .un:=by
    intro k hk
    rw [zAr,if_neg (by omega)]
  have h1:InvG E S m β ow (zAi F i (zAV F i n)) a w:=by
    refine ⟨by rw [zA4,h.lenF],h.lenA,h.dfr,fun k hk=>?_,fun j bn hj=>?_,h.mem,h.mle,h.pres,h.own,h.lt,h.new,h.fix⟩
    · rw [hgetN k hk];exact h.slots k hk
    · have hB:=h.boxes j bn hj
      cases hb:β j with
      | none=>
        rw [hb] at hB
        intro o ho
        rcases hget (bn.1+o) with e|⟨e,_⟩|e
        · rw [e];exact hB o ho
        · exact .inl e
        · exact .inl e
      | some b=>
        rw [hb] at hB
        obtain ⟨g1,g2,cs,T,g3,g4,g5⟩:=hB
        refine ⟨g1,g2,cs,T,g3,g4,fun o ho=>?_⟩
        rcases hget (bn.1+o) with e|⟨e,_⟩|e
        · rw [e];exact g5 o ho
        · rw [e];trivial
        · rw [e];trivial
  have st:Step (fun t=>∃ k,i≤k∧k < i+n∧t=.key k∧∃ v,F.getD k .un=.ov v) m m w w ow (dropB ow fp):=by
    refine ⟨m.le_refl,fun g t hg hX=>⟨rfl,fun _=>rfl,?_⟩⟩
    unfold dropB
    rw [if_neg]
    · exact hg
    · intro hm
      obtain ⟨k,k1,k2,k3,k4⟩:=hfp g hm
      rw [k3] at hg
      exact hX ⟨k,k1,k2,(Option.some.inj hg).symm,k4⟩
  have hL:=h.lenF
  have hle:=wf.le
  refine h1.step st rfl rfl rfl ?_ ?_ h.mem (Pres.refl _ _) ?_ ?_ (fun b o u hu=>.inl hu)
  · intro k hk
    left
    exact ⟨rfl,rfl,.inl (by rintro ⟨k',k1,k2,k3,_⟩;injection k3;omega)⟩
  · intro j bn hj
    right
    have hB:=h1.boxes j bn hj
    have hhi:=wf.hi j bn hj
    cases hb:β j with
    | none=>rw [hb] at hB;exact hB
    | some b=>
      rw [hb] at hB
      obtain ⟨g1,g2,cs,T,g3,g4,g5⟩:=hB
      obtain ⟨_,_,k3⟩:=st.keep b _ g1 (by rintro ⟨k',k1,k2,k3,_⟩;cases k3)
      refine ⟨k3,g2,cs,T,g3,g4,fun o ho=>?_⟩
      by_cases hX:∃ k,i≤k∧k < i+n∧(Tag.key (bn.1+o))=.key k∧∃ v,F.getD k .un=.ov v
      · obtain ⟨k,k1,k2,k3,v,k4⟩:=hX
        injection k3 with k3
        have:(zAi F i (zAV F i n)).getD (bn.1+o) .un=.un:=by
          rw [zAr,zDQ,if_pos (by omega),zIM F n i _ (by omega),show i+(bn.1+o-i)=k by omega,k4]
          rfl
        rw [this]
        trivial
      · exact (g5 o ho).step st hX
  · intro b t hb
    unfold dropB at hb
    split at hb
    · cases hb
    · exact h.own b t hb
  · intro b t hb
    unfold dropB at hb
    split at hb
    · cases hb
    · exact h.lt b t hb
theorem yVV (wf:E.Wf) (h:InvG E S m β ow F a w) {d j base off n:Nat} {x:Opd} {agg:Bool} {o:Oper} (hd:zAY E.N (some d) o.dst=true) {t:TypeId} {y:Operand} (ho:o.op=.load t y) (hk:zAk E.N x y=true) (hb:zEJ E j base (off+n)=true) (ha:zBV P t=some agg) (hn:zEg P t=some n) (h1:agg=true∨n=1)
    {K:List Ct→Prop} {Q:Exit→Act→World→Prop} {cs:List OV} (hx:zAn F x=.ptr j off) (hc:zC1 F (base+off) n=some cs) (hK:K ((zAi F (base+off) (zAV F (base+off) n)).set d (.ov (yM8 agg cs)))):o.wp P a w (zFb E S K) Q:=by
  obtain ⟨hd1,hd2⟩:=zAp hd
  obtain ⟨nn,hj,hnn⟩:=zDG hb
  obtain ⟨b,hβ,hv⟩:=zC5 h hk hx
  have hB:=h.boxes j _ hj
  rw [hβ] at hB
  obtain ⟨us,fp,k1,k2,k3,k4,k5⟩:=yCu hB n off hnn cs hc
  have hlo:=wf.lo j _ hj
  simp only at hlo
  have hD:=yJg wf h (i:=base+off) (n:=n) (by omega) fun g hg=>(k4 g hg).1
  have hloose:Loose S m w (dropB ow fp) fp:=fun g hg=>by
    obtain ⟨⟨i,_,_,i3,_⟩,i5⟩:=k4 g hg
    exact ⟨by simp [dropB,hg],h.own g _ i3,h.lt g _ i3,i5⟩
  refine zAP (yLP ho hv ha hn h1 k1 k5) ⟨_,hK,?_⟩
  rw [hd1]
  exact zFQ wf hD hd2 (zTl k2 (by rw [k1];exact h1)) k3 hloose
theorem zLU (wf:E.Wf) {j base nn b:Nat} (hj:E.Γ[j]?=some (base,nn)) (hβ:β j=some b):∀ (cs:List OV) (us:List Value) (fp:List Nat) (ow:Ow) (F:List Ct) (off:Nat),InvG E S m β ow F a w→off+cs.length≤nn→OvL m w cs us fp→fp.Nodup→Loose S m w ow fp→
    (∀ (i:Nat) (u:Value),us[i]?=some u→w.cell? ⟨b,off+i,none⟩=some u)→∃ ow',InvG E S m β ow' (zAi F (base+off) (cs.map zG7)) a w
  | [],us,fp,ow,F,off,h,_,_,_,_,_=>⟨ow,h⟩
  | x::xs,us,fp,ow,F,off,h,hle,hr,hnd,hl,hcells=>by
    simp only [OvL] at hr
    obtain ⟨u,us',f1,f2,rfl,rfl,h3,h4⟩:=hr
    simp only [List.length_cons] at hle
    rw [List.nodup_append] at hnd
    have hB:=h.boxes j _ hj
    rw [hβ] at hB
    obtain ⟨_,_,vs,T,hh,hsz,_⟩:=hB
    simp only at hsz
    have hlo:=wf.lo j _ hj
    simp only at hlo
    have hu:u=vs.getD off undef:=by
      have:=hcells 0 u rfl
      rw [Nat.add_zero,cell_of_row w b off vs T (0,0) hh,zMM (by omega)] at this
      exact (Option.some.inj this).symm
    have hat:AtIx E β a w (base+off) u:=.inr ⟨j,base,nn,b,vs,T,by omega,hj,by omega,by omega,hβ,hh,by rw [show base+off-base=off by omega];exact hu⟩
    have hstep:∃ ow1,InvG E S m β ow1 (F.set (base+off) (zG7 x)) a w∧Loose S m w ow1 f2:=by
      cases x with
      | p q=>
        simp only [OvR] at h3
        exact ⟨ow,h.setIx wf hat (fun h'=>by omega) (fun _=>h3.2),hl.right⟩
      | hole=>
        refine ⟨zFu ow f1 (base+off),zE3 wf h hat h3 hnd.1 hl.left,fun g hg=>⟨?_,(hl.right g hg).2⟩⟩
        unfold zFu
        rw [if_neg (fun hc=>hnd.2.2 g hc g hg rfl)]
        exact (hl.right g hg).1
      | os pb e k rows=>
        refine ⟨zFu ow f1 (base+off),zE3 wf h hat h3 hnd.1 hl.left,fun g hg=>⟨?_,(hl.right g hg).2⟩⟩
        unfold zFu
        rw [if_neg (fun hc=>hnd.2.2 g hc g hg rfl)]
        exact (hl.right g hg).1
      | mp b ks vs=>
        refine ⟨zFu ow f1 (base+off),zE3 wf h hat h3 hnd.1 hl.left,fun g hg=>⟨?_,(hl.right g hg).2⟩⟩
        unfold zFu
        rw [if_neg (fun hc=>hnd.2.2 g hc g hg rfl)]
        exact (hl.right g hg).1
      | bl T e b bs=>
        refine ⟨zFu ow f1 (base+off),zE3 wf h hat h3 hnd.1 hl.left,fun g hg=>⟨?_,(hl.right g hg).2⟩⟩
        unfold zFu
        rw [if_neg (fun hc=>hnd.2.2 g hc g hg rfl)]
        exact (hl.right g hg).1
      | it b n seen=>
        refine ⟨zFu ow f1 (base+off),zE3 wf h hat h3 hnd.1 hl.left,fun g hg=>⟨?_,(hl.right g hg).2⟩⟩
        unfold zFu
        rw [if_neg (fun hc=>hnd.2.2 g hc g hg rfl)]
        exact (hl.right g hg).1
    obtain ⟨ow1,g1,g2⟩:=hstep
    have:=zLU wf hj hβ xs us' f2 ow1 _ (off+1) g1 (by omega) h4 hnd.2.1 g2 fun i v hv=>by
      have:=hcells (i+1) v (by simpa using hv)
      rw [show off+1+i=off+(i+1) by omega]
      exact this
    obtain ⟨ow2,g3⟩:=this
    exact ⟨ow2,by simpa only [List.map_cons,zAi,Nat.add_assoc] using g3⟩
theorem yVW (wf:E.Wf) (h:InvG E S m β ow F a w) {x:Opd} {j base off n y:Nat} {o:Oper} (hd:o.dst=none) {t:TypeId} {x' y':Operand} (ho:o.op=.store t x' y') (hk1:zAk E.N x x'=true) (hk2:zAk E.N (.t y) y'=true) (hb:zEJ E j base (off+n)=true) (hs:zEg P t=some n)
    {K:List Ct→Prop} {Q:Exit→Act→World→Prop} {v:OVal} (hx:zAn F x=.ptr j off) (hy:F.getD y .un=.ov v) (hn:v.cells.length=n) (hK:K (zAi (F.set y .un) (base+off) (v.cells.map zG7))):o.wp P a w (zFb E S K) Q:=by
  obtain ⟨nn,hj,hnn⟩:=zDG hb
  obtain ⟨b,hβ,hv⟩:=zC5 h hk1 hx
  obtain ⟨rfl,hyN⟩:=zBL hk2
  have hrep:=h.slots y hyN
  rw [hy] at hrep
  obtain ⟨fp,r1,r2,r3⟩:=hrep
  have hD:=zC4 wf h fun g hg=>(r3 g hg).1
  have hloose:=zBn h r3
  have hcl:=r1.cells
  have hev:a.eval (.tmp y)=a.tmps.getD y undef:=rfl
  have hsz:(a.tmps.getD y undef).cells.size=n:=by rw [←Array.length_toList,hcl.length,hn]
  have hF:∀ (l:List Ct) (G:List Ct) (i:Nat),(∀ c∈l,c=.un)→InvG E S m β (dropB ow fp) G a w→InvG E S m β (dropB ow fp) (zAi G i l) a w:=by
    intro l
    induction l with
    | nil=>intro G i _ hG;exact hG
    | cons c l ih=>
      intro G i hl hG
      rw [hl c List.mem_cons_self]
      refine ih _ _ (fun c' hc'=>hl c' (List.mem_cons_of_mem _ hc')) ?_
      refine ⟨by simp [hG.lenF],hG.lenA,hG.dfr,fun i hi=>?_,fun j bn hj=>?_,hG.mem,hG.mle,hG.pres,hG.own,hG.lt,hG.new,hG.fix⟩
      · rw [zBm]
        split
        · trivial
        · exact hG.slots i hi
      · have hB:=hG.boxes j bn hj
        cases hb:β j with
        | none=>
          rw [hb] at hB
          intro o ho
          rw [zBm]
          split
          · exact .inl rfl
          · exact hB o ho
        | some b=>
          rw [hb] at hB
          obtain ⟨g1,g2,cs,T,g3,g4,g5⟩:=hB
          refine ⟨g1,g2,cs,T,g3,g4,fun o ho=>?_⟩
          rw [zBm]
          split
          · trivial
          · exact g5 o ho
  have hU:=hF (List.replicate n .un) (F.set y .un) (base+off) (fun c hc=>(List.mem_replicate.1 hc).2) hD
  have hBU:=hU.boxes j _ hj
  rw [hβ] at hBU
  obtain ⟨b1,b2,vs,T,hh,hvs,hcell⟩:=hBU
  simp only at hvs
  have hrun:=zC9 (P:=P) (w:=w) hs hsz hh (off:=off) (by omega) hcl.flat_
  let nv:Array Value:=(vs.toList.take off++(a.tmps.getD y undef).cells.toList++vs.toList.drop (off+n)).toArray
  let w':=w.setRow b nv
  have hr':(execOp a.eval o).run P w=.ok .skip w':=by
    unfold execOp;rw [ho]
    simp only [hv,hev,Instr.storeAt,Instr.sureAddr,Sem.run_bind,Sem.run_pure,Result.andThen_ok,hrun]
    rfl
  have hl:(a.tmps.getD y undef).cells.toList.length=n:=by rw [Array.length_toList];exact hsz
  have hnv:nv.size=nn:=by simp only [nv,List.size_toArray,List.length_append,List.length_take,List.length_drop,hl,Array.length_toList];omega
  have hlo:=wf.lo j _ hj
  have hhi:=wf.hi j _ hj
  have hleN:=wf.le
  simp only at hlo hhi
  have st:Step (fun t=>t=.box j) m m w w' (dropB ow fp) (dropB ow fp):=by
    refine ⟨m.le_refl,fun g t hg hX=>⟨setRow_other w b g _ (fun e=>?_),fun _=>rfl,hg⟩⟩
    subst e
    rw [b1] at hg
    exact hX (Option.some.inj hg).symm
  have hW:InvG E S m β (dropB ow fp) (zAi (F.set y .un) (base+off) (List.replicate n .un)) a w':=by
    refine hU.step st rfl rfl rfl (fun i _=>.inl ⟨rfl,rfl,.inl (by intro h3;cases h3)⟩) ?_ (MemOk.setRow h.mem b2 _) ((Pres.setRow _ w b _ (by rcases hU.own b _ b1 with g|g;exact .inr g;exact .inl g))) hU.own (fun g t hg=>by have:=hU.lt g t hg;simpa [w'] using this) (fun b o u hu=>.inl hu)
    intro j' bn hj'
    by_cases hjj:j'=j
    · subst hjj
      rw [hj] at hj'
      injection hj' with hj'
      subst hj'
      right
      rw [hβ]
      refine ⟨b1,b2,nv,T,setRow_heap w b vs nv T (0,0) hh,hnv,fun o' ho'=>?_⟩
      simp only at ho' ⊢
      by_cases hin:off≤o'∧o' < off+n
      · rw [zAr,if_pos (by simp [hU.lenF,h.lenF];omega)]
        have:(List.replicate n Ct.un).getD (base+o'-(base+off)) .un=.un:=by rw [List.getD_eq_getElem?_getD,List.getElem?_replicate];split<;>rfl
        rw [this]
        trivial
      · have hsame:nv.getD o' undef=vs.getD o' undef:=by
          have hlen:off+(a.tmps.getD y undef).cells.toList.length≤vs.toList.length:=by rw [hl,Array.length_toList];omega
          have:=zT0 vs.toList (a.tmps.getD y undef).cells.toList off o' hlen
          rw [hl,if_neg hin] at this
          have e1:nv[o']?=vs[o']?:=by
            simp only [nv,List.getElem?_toArray]
            rw [this,Array.getElem?_toList]
          simp only [Array.getD_eq_getD_getElem?,e1]
        rw [hsame]
        exact (hcell o' ho').step st (by intro h3;cases h3)
    · left
      exact ⟨by intro h3;injection h3 with h3;exact hjj h3,fun o' _=>⟨rfl,by intro h3;cases h3⟩⟩
  have hcw:OvL m w' v.cells (a.tmps.getD y undef).cells.toList fp:=OvL.congr m.le_refl _ _ _ (fun g hg=>setRow_other w b g _ (fun e=>by
    subst e
    rw [(hloose g hg).1] at b1
    cases b1)) hcl
  obtain ⟨ow',hA⟩:=zLU wf hj hβ v.cells _ fp _ _ off hW (by omega) hcw r2 (hloose.grow (by simp [w'])) fun i u hu=>by
    rw [cell_of_row w' b (off+i) nv T (0,0) (setRow_heap w b vs nv T (0,0) hh)]
    have hi:i < n:=by rw [←hl];exact (List.getElem?_eq_some_iff.1 hu).1
    have hlen:off+(a.tmps.getD y undef).cells.toList.length≤vs.toList.length:=by rw [hl,Array.length_toList];omega
    have:=zT0 vs.toList (a.tmps.getD y undef).cells.toList off (off+i) hlen
    rw [hl,if_pos (by omega),show off+i-off=i by omega] at this
    simp only [nv,List.getElem?_toArray]
    rw [this]
    exact hu
  have hcc:∀ (l l':List Ct) (G:List Ct) (i:Nat),l.length=l'.length→zAi (zAi G i l) i l'=zAi G i l':=by
    intro l
    induction l with
    | nil=>intro l' G i hl;cases l' with|nil=>rfl|cons _ _=>simp at hl
    | cons c l ih=>
      intro l' G i hl
      cases l' with
      | nil=>simp at hl
      | cons c' l'=>
        simp only [zAi]
        have hcomm:∀ (l:List Ct) (G:List Ct) (i j:Nat) (c:Ct),j < i→(zAi G i l).set j c=zAi (G.set j c) i l:=by
          intro l
          induction l with
          | nil=>intros;rfl
          | cons d l ih2=>
            intro G i j c hji
            simp only [zAi]
            rw [ih2 _ _ _ _ (by omega),List.set_comm _ _ (by omega)]
        rw [hcomm l _ (i+1) i c' (by omega),List.set_set]
        exact ih l' _ _ (by simpa using hl)
  rw [hcc _ _ _ _ (by simp [hn])] at hA
  have:a.put o.dst undef=a:=by rw [hd];rfl
  have hA':Inv E S (zAi (F.set y .un) (base+off) (v.cells.map zG7)) (a.put o.dst undef) w':=by
    rw [this]
    exact ⟨m,β,_,hA⟩
  exact zFE hr' ⟨_,hK,hA'⟩
theorem yQZ {t e k ty:Nat} (he:zFn P t e k=true) (hsm:k≤2 ^ 24) {v:Value} (hv:v.cells.size=k) {op:Oper} {y:Operand} (ho:op.op=.buildSlice t 1 #[(0,y)]) (hy:a.eval y=v) (_:ty=ty):
    (execOp a.eval op).run P w=.ok (.value (.slice (some ⟨w.heap.size,0,none⟩) 1 1)) (w.alloc (.cells v.cells.toList.toArray e)):=by
  obtain ⟨hu,hk,ie,z,hie,hsz,hby,hz',hzs⟩:=zMN he
  have hf:=Great.fill_whole (s:=ie.size) (by omega) [v] ((Array.range (1 * ie.size)).map (z.cells[· % z.cells.size]!)) (by rw [hsz];simpa using hv) (by simp)
  have hpos:¬ 1 * ie.size=0:=by rw [hsz];omega
  have hr:=run_buildSlice (P:=P) w t e 1 (#[(0,y)].map fun x=>(x.1,a.eval x.2)) _ ie z hu hie hz' (by rw [hsz];omega) hpos (by simpa [hy] using hf)
  unfold execOp;rw [ho]
  simp only [Sem.run_bind,hr,Result.andThen_ok]
  simp
theorem yVX (wf:E.Wf) (h:InvG E S m β ow F a w) {d e k x n:Nat} {o:Oper} (hd:zAY E.N (some d) o.dst=true) {t:TypeId} {ps:Array (Nat×Operand)} (ho:o.op=.buildSlice t n ps) (k0:zGm E.N 0 [.t x] ps.toList=true) (hn:n=1) (hsm:k≤2 ^ 24) (he:zFn P t e k=true)
    {K:List Ct→Prop} {Q:Exit→Act→World→Prop} {v:OVal} (hx:F.getD x .un=.ov v) (hl:v.cells.length=k) (hK:K ((F.set x .un).set d (.ov (.one (.os none e k [v.cells]))))):o.wp P a w (zFb E S K) Q:=by
  obtain ⟨hd1,hd2⟩:=zAp hd
  subst hn
  have hps:∃ y,ps=#[(0,y)]∧zAk E.N (.t x) y=true:=by
    obtain ⟨l⟩:=ps
    match l,k0 with
    | [(i,y)],k0=>
      simp only [zGm,Bool.and_eq_true,beq_iff_eq] at k0
      exact ⟨y,by rw [←k0.1.1],k0.1.2⟩
    | [],k0=>simp [zGm] at k0
    | _::_::_,k0=>simp [zGm] at k0
  obtain ⟨y,rfl,hk⟩:=hps
  obtain ⟨rfl,hxN⟩:=zBL hk
  have hs:=h.slots x hxN
  rw [hx] at hs
  obtain ⟨fp,h1,h2,h3⟩:=hs
  have hcl:=h1.cells
  have hsz:(a.tmps.getD x undef).cells.size=k:=by rw [←Array.length_toList,hcl.length,hl]
  have hrun:=yQZ (P:=P) (w:=w) (a:=a) (ty:=0) he hsm hsz ho rfl rfl
  have hD:=zC4 wf h fun g hg=>(h3 g hg).1
  have hloose:=zBn h h3
  let w':=w.alloc (.cells (a.tmps.getD x undef).cells.toList.toArray e)
  have hgrow:w.grownBy w' none:=World.grownBy_alloc w _ none
  have hown:ow w.heap.size=none:=by
    cases hb:ow w.heap.size with
    | none=>rfl
    | some t=>have:=h.lt _ _ hb;omega
  have hmn:∀ o,m w.heap.size o=none:=fun o=>by
    cases hm:m w.heap.size o with
    | none=>rfl
    | some u=>have:=zFN h.mem hm;omega
  have hnf:w.heap.size∉fp:=fun hc=>by have:=(hloose _ hc).2.2.1;omega
  have hDw:InvG E S m β (dropB ow fp) (F.set x .un) a w':=hD.world (b:=w.heap.size) (by unfold dropB;rw [if_neg hnf];exact hown) hmn (.inl h.pres.size) ⟨hgrow.os,hgrow.tape,hgrow.output,hgrow.size,fun g hg _=>hgrow.block g hg (by simp)⟩ (zMI _ _ _ _ hrun)
  refine zAP hrun ⟨_,hK,?_⟩
  rw [hd1]
  refine zFQ wf hDw hd2 (x:=.one (.os none e k [v.cells])) (fp:=w.heap.size::fp) ?_ (by rw [List.nodup_cons];exact ⟨hnf,h2⟩) ?_
  · refine zCm.2 ⟨(a.tmps.getD x undef).cells.toList,fp,?_,?_,by simp [hl],by simp [blk,Value.ownBlock],fun b hb=>by cases hb⟩
    · exact World.ownsRow_lit w _ 1 (Nat.zero_le _) (by simp [maxLen]) (by rw [List.size_toArray,Array.length_toList,hsz,Nat.one_mul])
    · simp only [List.flatten_cons,List.flatten_nil,List.append_nil]
      exact OvL.congr m.le_refl _ _ _ (fun g hg=>hgrow.block g (hloose g hg).2.2.1 (by simp)) hcl
  · intro g hg
    rcases List.mem_cons.1 hg with rfl|hg
    · exact ⟨by unfold dropB;rw [if_neg hnf];exact hown,.inl h.pres.size,by simp [w'],hmn⟩
    · exact (hloose.grow hgrow.size) g hg
theorem yQ0 (wf:E.Wf) (h:InvG E S m β ow F a w) {k:Nat} {y:Opd} {y':Operand} (hk:zAk E.N y y'=true) (hs:(zYh F k y).1) {r:Nat} (hr:∀ s,y=.t s→r≠s):
    ∃ A c news fy fall,a.eval y'=.slice A (zYh F k y).2.length c∧news.length=(zYh F k y).2.length * k∧OvL m w (zYh F k y).2.flatten news fy∧(∀ r∈(zYh F k y).2,r.length=k)∧(0 < (zYh F k y).2.length→∃ q,A=some q∧∀ j u,news[j]?=some u→w.cell? (q.add j)=some u)∧
      fy.Nodup∧(∀ g∈fy,g∈fall)∧(∀ g∈fall,∃ s,y=.t s∧ow g=some (.key s)∧∀ o,m g o=none)∧InvG E S m β (dropB ow fall) (clr F F y) a w∧Loose S m w (dropB ow fall) fall:=by
  unfold zYh at hs ⊢
  split at hs
  · rename_i pb e k' rs hv
    subst hs
    obtain ⟨n,rfl,hn,hrep⟩:=zBu h hk hv (by intro p;simp)
    obtain ⟨fp,h1,h2,h3⟩:=hrep
    have hg:F.getD n .un=.ov (.one (.os pb e k' rs)):=hv
    have hD:=zC4 wf h fun g hg=>(h3 g hg).1
    have hl:=zBn h h3
    obtain ⟨xs,f,g1,g2,g3,rfl,g5⟩:=zCm.1 h1
    have hh:=zOz h1
    obtain ⟨⟨A,c,hv',_,_⟩,_⟩:=hh
    rw [List.nodup_append] at h2
    refine ⟨A,c,xs,f,blk (a.eval y')++f,by simp only [hv];exact hv',by simp only [hv];exact g1.1,by simp only [hv];exact g2,by simp only [hv];exact g3,?_,h2.2.1,fun g hg=>List.mem_append_right _ hg,fun g hg=>⟨n,rfl,h3 g hg⟩,by simp only [clr,hg];exact hD,hl⟩
    simp only [hv]
    intro hpos
    rcases g1.2 with ⟨_,h0⟩|⟨g,cap,cur,e1,_⟩
    · omega
    · rw [e1] at hv'
      injection hv' with hA
      exact ⟨⟨g,0,none⟩,hA.symm,fun j u hu=>g1.cells (g:=g) (by rw [e1];rfl) j u hu⟩
  · split at hs
    · rename_i hno _ k' rs hp
      obtain ⟨hn,rfl⟩:=hs
      have hc:clr F F y=F:=by
        cases y with
        | t n=>
          simp only [clr]
          split
          · rename_i v e1
            simp only [zAn] at hp
            rw [e1] at hp
            cases hp
          · rfl
        | c p=>rfl
        | f n=>rfl
      have e0:dropB ow []=ow:=by funext b;simp [dropB]
      obtain ⟨A,c,hyv,_,_,hyr⟩:=zBd h hk hn hp
      have hnews:∃ news:List Value,news.length=rs.length * k'∧RpL m rs.flatten news∧(∀ r∈rs,r.length=k')∧(0 < rs.length→∃ q,A=some q∧∀ j u,news[j]?=some u→w.cell? (q.add j)=some u):=by
        rcases hyr with hyr|⟨b,o',rfl,hyr⟩
        · subst hyr
          exact ⟨[],by simp,by simp [RpL],by simp,by simp⟩
        · obtain ⟨us,h1,h2,h3⟩:=hyr.vals
          refine ⟨us,h1,h2,fun r hr'=>?_,fun _=>⟨_,rfl,fun j u hu=>by rw [zBW];exact h.mem.c _ _ _ (h3 j u hu)⟩⟩
          obtain ⟨i,hi⟩:=List.getElem?_of_mem hr'
          exact (hyr.get i r hi).1
      obtain ⟨news,n1,n2,n3,n4⟩:=hnews
      have hmap:(rs.map fun r=>r.map OV.p).flatten=rs.flatten.map OV.p:=by
        induction rs with
        | nil=>rfl
        | cons r rs ih=>simp [List.map_flatten]
      refine ⟨A,c,news,[],[],?_,?_,?_,?_,?_,List.nodup_nil,by simp,by simp,by rw [hc,e0];exact h,by simp [Loose]⟩
      · simp only [List.length_map];exact hyv
      · simp only [List.length_map];exact n1
      · simp only [hmap];exact OvL.of_rp n2
      · intro r hr
        obtain ⟨r',hr',rfl⟩:=List.mem_map.1 hr
        rw [List.length_map];exact n3 r' hr'
      · simp only [List.length_map];exact n4
    · exact hs.elim
theorem yVY (wf:E.Wf) (h:InvG E S m β ow F a w) {d e k x:Nat} {y:Opd} {o:Oper} (hd:zAY E.N (some d) o.dst=true) {x' y':Operand} {t:TypeId} (ho:o.op=.call {callee:=.builtin .append,args:=#[x',y'],argTypes:=#[t,t]}) (hk1:zAk E.N (.t x) x'=true) (hk2:zAk E.N y y'=true) (he:zFn P t e k=true) {K:List Ct→Prop} {Q:Exit→Act→World→Prop}
    {pb:Option Nat} {rows:List (List OV)} (hx:F.getD x .un=.ov (.one (.os pb e k rows))) (hxy:∀ n,y=.t n→x≠n) (hs:(zYh F k y).1) (hb:(rows.length+(zYh F k y).2.length) * 4096≤140737488355328)
    (hK:K ((clr F (F.set x .un) y).set d (.ov (.one (.os none e k (rows++(zYh F k y).2)))))):o.wp P a w (zFb E S K) Q:=by
  obtain ⟨hd1,hd2⟩:=zAp hd
  obtain ⟨rfl,hxN⟩:=zBL hk1
  obtain ⟨A,c,news,fy,fall,y1,y2,y3,y4,y5,y6,y7,y8,y9,y10⟩:=yQ0 wf h hk2 hs hxy
  have hxF:(clr F F y).getD x .un=F.getD x .un:=by
    unfold clr
    split
    · split
      · rw [zBm,if_neg (fun e=>hxy _ rfl e.1.symm)]
      · rfl
    · rfl
  have hrep:=y9.slots x hxN
  rw [hxF,hx] at hrep
  obtain ⟨fp,h1,h2,h3⟩:=hrep
  obtain ⟨xs,f,g1,g2,g3,rfl,g5⟩:=zCm.1 h1
  have hD:=zC4 wf y9 fun g hg=>(h3 g hg).1
  have hloose:=zBn y9 h3
  have hloosey:Loose S m w (dropB (dropB ow fall) (blk (a.tmps.getD x undef)++f)) fall:=y10.dropB
  have hflat:∀ u∈news,u.oneCell'=true:=fun u hu=>zCl (y3.flat_ u hu)
  obtain ⟨v',w',hrun,hown',hwhere⟩:=yJd (P:=P) (ty:=o.type) he g1 y1 y2 y5 hflat (.inl hb)
  have hr:(execOp a.eval o).run P w=.ok (.value v') w':=by
    obtain ⟨dst,op,ty,pos,after,gd⟩:=o
    simp only at ho
    subst ho
    rw [BigFrame.execOp_builtin,BigFrame.builtin_append]
    have e1:(#[Operand.tmp x,y'].map a.eval)=#[a.tmps.getD x undef,a.eval y']:=by simp [Act.eval]
    rw [e1]
    simp only [Sem.run_bind,hrun,Result.andThen_ok]
    rfl
  have hfdis:∀ g∈blk (a.tmps.getD x undef)++f,g∉fall:=by
    intro g hg hc
    have:=(h3 g hg).1
    simp [dropB,hc] at this
  have hnb:∀ g,v'.ownBlock=some g→(dropB (dropB ow fall) (blk (a.tmps.getD x undef)++f)) g=none∧(S.w0.heap.size≤g∨S.R0 g)∧(∀ o,m g o=none)∧g∉f∧g∉fy:=by
    intro g hg
    rcases hwhere with ⟨e1,_⟩|⟨e1,_⟩
    · rw [e1] at hg
      have hm:=zC0.2 hg
      have hl:=hloose g (List.mem_append_left _ hm)
      rw [List.nodup_append] at h2
      exact ⟨hl.1,hl.2.1,hl.2.2.2,fun hc=>h2.2.2 g hm g hc rfl,fun hc=>hfdis g (List.mem_append_left _ hm) (y7 g hc)⟩
    · rw [e1] at hg
      injection hg with hg
      subst hg
      refine ⟨?_,.inl h.pres.size,fun o=>?_,fun hc=>?_,fun hc=>?_⟩
      · cases hb:dropB (dropB ow fall) (blk (a.tmps.getD x undef)++f) w.heap.size with
        | none=>rfl
        | some t=>have:=hD.lt _ _ hb;omega
      · cases hm:m w.heap.size o with
        | none=>rfl
        | some u=>have:=zFN h.mem hm;omega
      · have:=(hloose _ (List.mem_append_right _ hc)).2.2.1;omega
      · have:=(hloosey _ (y7 _ hc)).2.2.1;omega
  have hblock:∀ b,b < w.heap.size→v'.ownBlock≠some b→w'.heap[b]?=w.heap[b]?:=by
    intro b hb hne'
    rcases hwhere with ⟨e1,g⟩|⟨_,g⟩
    · exact g.block b hb (fun e=>hne' (by rw [e1];exact e.symm))
    · exact g.block b hb (by simp)
  have hsize:w.heap.size≤w'.heap.size:=by rcases hwhere with ⟨_,g⟩|⟨_,g⟩<;>exact g.size
  have hDw:InvG E S m β (dropB (dropB ow fall) (blk (a.tmps.getD x undef)++f)) ((clr F F y).set x .un) a w':=by
    have hos:w'.os=w.os∧w'.tape=w.tape∧w'.output=w.output:=by rcases hwhere with ⟨_,g⟩|⟨_,g⟩<;>exact ⟨g.os,g.tape,g.output⟩
    have hmem:MemOk m w':=by
      intro g o' u hu
      have hne:v'.ownBlock≠some g:=fun e=>by rw [(hnb g e).2.2.1 o'] at hu;cases hu
      exact (h.mem g o' u hu).block (hblock g (zFN h.mem hu) hne)
    refine hD.quiet ⟨m.le_refl,hmem,fun g t hg=>hblock g (hD.lt g t hg) (fun e=>by rw [(hnb g e).1] at hg;cases hg),fun _ _ _ _=>rfl,fun _ _ _ h=>.inl h,⟨hos.1,hos.2.1,hos.2.2,hsize,fun g hg hn=>hblock g hg fun e=>?_,fun _=>zMI _ _ _ _ hr⟩⟩
    exact hn ((hnb g e).2.1.elim .inr .inl)
  have hFeq:(clr F F y).set x .un=clr F (F.set x .un) y:=by
    unfold clr
    split
    · split
      · exact List.set_comm _ _ (fun e=>hxy _ rfl e.symm)
      · rfl
    · rfl
  rw [hFeq] at hDw
  have hkf:∀ g∈f,w'.heap[g]?=w.heap[g]?:=fun g hg=>hblock g (hloose g (List.mem_append_right _ hg)).2.2.1 fun e=>(hnb g e).2.2.2.1 hg
  have hky:∀ g∈fy,w'.heap[g]?=w.heap[g]?:=fun g hg=>hblock g (hloosey g (y7 g hg)).2.2.1 fun e=>(hnb g e).2.2.2.2 hg
  refine zAP hr ⟨_,hK,?_⟩
  rw [hd1]
  refine zFQ wf hDw hd2 (x:=.one (.os none e k (rows++(zYh F k y).2))) (fp:=blk v'++(f++fy)) ?_ ?_ ?_
  · refine zCm.2 ⟨xs++news,f++fy,by rw [List.length_append];exact hown',?_,?_,rfl,fun b hb=>by cases hb⟩
    · rw [List.flatten_append]
      exact (OvL.congr m.le_refl _ _ _ hkf g2).append (OvL.congr m.le_refl _ _ _ hky y3)
    · intro r' hr'
      rcases List.mem_append.1 hr' with hr'|hr'
      · exact g3 r' hr'
      · exact y4 r' hr'
  · rw [List.nodup_append] at h2
    rw [List.nodup_append,List.nodup_append]
    refine ⟨?_,⟨h2.2.1,y6,fun g hg g' hg' e=>?_⟩,fun g hg g' hg' e=>?_⟩
    · unfold blk
      cases v'.ownBlock<;>simp
    · subst e;exact hfdis g (List.mem_append_right _ hg) (y7 g hg')
    · subst e
      rcases List.mem_append.1 hg' with hg'|hg'
      · exact (hnb g (zC0.1 hg)).2.2.2.1 hg'
      · exact (hnb g (zC0.1 hg)).2.2.2.2 hg'
  · intro g hg
    rcases List.mem_append.1 hg with hg|hg
    · have:=hnb g (zC0.1 hg)
      exact ⟨this.1,this.2.1,(hown'.lt g (zC0.1 hg)).2,this.2.2.1⟩
    · rcases List.mem_append.1 hg with hg|hg
      · exact (hloose.grow hsize) g (List.mem_append_right _ hg)
      · exact (hloosey.grow hsize) g (y7 g hg)
theorem zLt:∀ (l1 l2:List Ct) (F:List Ct) (i:Nat),l1.length=l2.length→zAi (zAi F i l1) i l2=zAi F i l2
  | [],[],F,i,_=>rfl
  | c::l1,c'::l2,F,i,h=>by
    have hc:∀ (l:List Ct) (G:List Ct) (k q:Nat) (x:Ct),q < k→(zAi G k l).set q x=zAi (G.set q x) k l:=by
      intro l
      induction l with
      | nil=>intro G k q x _;rfl
      | cons y l ih=>
        intro G k q x hq
        simp only [zAi]
        rw [ih _ _ _ _ (by omega),List.set_comm _ _ (by omega)]
    simp only [zAi]
    rw [hc l1 _ _ _ _ (by omega),List.set_set]
    exact zLt l1 l2 _ _ (by simpa using h)
theorem yVZ (wf:E.Wf) (h:InvG E S m β ow F a w) {d j base n x:Nat} {o:Oper} (hfj:E.nfix≤j) (hd:zAY E.N (some d) o.dst=true) {t:TypeId} {y:Operand} (ho:o.op=.box t y) (hk:zAk E.N (.t x) y=true) (hb:zTX E j base n=true) {K:List Ct→Prop} {Q:Exit→Act→World→Prop} {v:OVal}
    (hx:F.getD x .un=.ov v) (hn:v.cells.length=n) (hK:K (zAi ((((F.set x .un).map (zEO j))).set d (.ptr j 0)) base (v.cells.map zG7))):o.wp P a w (zFb E S K) Q:=by
  obtain ⟨hd1,hd2⟩:=zAp hd
  obtain ⟨rfl,hyN⟩:=zBL hk
  have hrep:=h.slots x hyN
  rw [hx] at hrep
  obtain ⟨fp,r1,r2,r3⟩:=hrep
  have hD:=zC4 wf h fun g hg=>(r3 g hg).1
  have hloose:=zBn h r3
  have hcl:=r1.cells
  have hev:a.eval (.tmp x)=a.tmps.getD x undef:=rfl
  have hlen:(a.tmps.getD x undef).cells.toList.length=n:=by rw [hcl.length,hn]
  have hr:(execOp a.eval o).run P w=.ok (.value (.pointer (some ⟨w.heap.size,0,none⟩))) (w.alloc (.cells (a.tmps.getD x undef).cells.toList.toArray t)):=by
    unfold execOp;rw [ho]
    simp [Instr.box,newVar,newRow,hev]
  have hj:=zK4 hb
  have hN:=yTA wf hD hfj hd2 hj hlen t
  have hsame:∀ g∈fp,(w.alloc (.cells (a.tmps.getD x undef).cells.toList.toArray t)).heap[g]?=w.heap[g]?:=fun g hg=>Below.heap_alloc w _ g (hloose g hg).2.2.1
  obtain ⟨ow',hA⟩:=zLU wf hj (b:=w.heap.size) (by simp) v.cells _ fp _ _ 0 hN (by omega) (OvL.congr m.le_refl _ _ _ hsame hcl) r2 (fun g hg=>by
    obtain ⟨a1,a2,a3,a4⟩:=hloose g hg
    refine ⟨?_,a2,by simp;omega,a4⟩
    rw [if_neg (by omega)]
    exact a1) (fun i u hu=>by
      rw [Nat.zero_add,cell_of_row _ _ i _ t (0,0) (heap_alloc_new w _)]
      simpa using hu)
  rw [Nat.add_zero,zLt _ _ _ _ (by simp [hn])] at hA
  refine zAP hr ⟨_,hK,?_⟩
  rw [hd1]
  exact ⟨_,_,ow',hA⟩
end
end Go.Hx
