/-
  THE ABSTRACT LAYER: operations on owned trees are sound. Generic over the program. No condition.
-/
import Derived.Test.YtjnagiaooecklaaGreatDoorG5
set_option linter.all false
namespace Go.Hx
open Go.RowKit
variable [Glob]
section
variable {P:Program} {E:Env} {S:Start} {m:Mem} {β:Bx} {ow:Ow} {F:List Ct} {a:Act} {w:World}
def dropB (ow:Ow) (fp:List Nat):Ow:=fun b=>if b∈fp then none else ow b
theorem zDm (wf:E.Wf) (h:InvG E S m β ow F a w) {r:Nat} {fp:List Nat} (hfp:∀ g∈fp,ow g=some (.key r)):InvG E S m β (dropB ow fp) (F.set r .un) a w:=by
  have h1:InvG E S m β ow (F.set r .un) a w:=by
    refine ⟨by simp [h.lenF],h.lenA,h.dfr,fun i hi=>?_,fun j bn hj=>?_,h.mem,h.mle,h.pres,h.own,h.lt,h.new,h.fix⟩
    · rw [zBc]
      split
      · trivial
      · exact h.slots i hi
    · have hB:=h.boxes j bn hj
      cases hb:β j with
      | none=>
        rw [hb] at hB
        intro o ho
        rw [zBc]
        split
        · exact .inl rfl
        · exact hB o ho
      | some b=>
        rw [hb] at hB
        obtain ⟨g1,g2,cs,T,g3,g4,g5⟩:=hB
        refine ⟨g1,g2,cs,T,g3,g4,fun o ho=>?_⟩
        rw [zBc]
        split
        · trivial
        · exact g5 o ho
  have st:Step (fun t=>t=.key r) m m w w ow (dropB ow fp):=by
    refine ⟨m.le_refl,fun g t hg hX=>⟨rfl,fun _=>rfl,?_⟩⟩
    unfold dropB
    rw [if_neg]
    · exact hg
    · intro hm
      rw [hfp g hm] at hg
      exact hX (Option.some.inj hg).symm
  have hL:=h.lenF
  have hle:=wf.le
  refine h1.step st rfl rfl rfl ?_ ?_ h.mem (Pres.refl _ _) ?_ ?_ (fun b o u hu=>.inl hu)
  · intro i hi
    by_cases hri:r=i
    · subst hri
      right
      rw [zAz (by omega),if_pos rfl]
      trivial
    · left
      exact ⟨rfl,rfl,.inl (by intro h3;injection h3;omega)⟩
  · intro j bn hj
    right
    have hB:=h1.boxes j bn hj
    have hhi:=wf.hi j bn hj
    cases hb:β j with
    | none=>rw [hb] at hB;exact hB
    | some b=>
      rw [hb] at hB
      obtain ⟨g1,g2,cs,T,g3,g4,g5⟩:=hB
      obtain ⟨_,_,k3⟩:=st.keep b _ g1 (by intro h3;cases h3)
      refine ⟨k3,g2,cs,T,g3,g4,fun o ho=>?_⟩
      by_cases hri:r=bn.1+o
      · rw [zAz (by omega),if_pos hri]
        trivial
      · exact (g5 o ho).step st (by intro h3;injection h3;omega)
  · intro b t hb
    unfold dropB at hb
    split at hb
    · cases hb
    · exact h.own b t hb
  · intro b t hb
    unfold dropB at hb
    split at hb
    · cases hb
    · exact h.lt b t hb
def AtIx (E:Env) (β:Bx) (a:Act) (w:World) (r:Nat) (u:Value):Prop:=
  (r < E.N∧u=a.tmps.getD r undef)∨∃ (j base n b:Nat) (cs:Array Value) (T:TypeId),E.N≤r∧E.Γ[j]?=some (base,n)∧base≤r∧r < base+n∧β j=some b∧w.heap[b]?=some (.cells cs T (0,0))∧u=cs.getD (r-base) undef
theorem InvG.setIx (wf:E.Wf) (h:InvG E S m β ow F a w) {r:Nat} {u:Value} (hat:AtIx E β a w r u) {c:Ct} (h1:r < E.N→CtRep m w β ow r c u) (h2:E.N≤r→CellRep m w ow r c u):InvG E S m β ow (F.set r c) a w where
  lenF:=by simp [h.lenF]
  lenA:=h.lenA
  dfr:=h.dfr
  slots:=fun i hi=>by
    have hL:=h.lenF
    have hle:=wf.le
    by_cases hri:r=i
    · subst hri
      rw [zAz (by omega),if_pos rfl]
      rcases hat with ⟨_,rfl⟩|⟨j,base,n,b,cs,T,k0,_⟩
      · exact h1 hi
      · omega
    · rw [zBc,if_neg (by omega)]
      exact h.slots i hi
  boxes:=fun j bn hj=>by
    have hB:=h.boxes j bn hj
    have hL:=h.lenF
    have hle:=wf.le
    have hlo:=wf.lo j bn hj
    have hhi:=wf.hi j bn hj
    cases hb:β j with
    | none=>
      rw [hb] at hB
      intro o ho
      by_cases hri:r=bn.1+o
      · exfalso
        rcases hat with ⟨k0,_⟩|⟨j',base,n,b,cs,T,k0,k1,k2,k3,k4,_⟩
        · omega
        · by_cases hjj:j'=j
          · subst hjj;rw [hb] at k4;cases k4
          · have:=wf.ap j' j _ _ k1 hj hjj
            simp only at this
            omega
      · rw [zBc,if_neg (by omega)]
        exact hB o ho
    | some b=>
      rw [hb] at hB
      obtain ⟨g1,g2,cs,T,g3,g4,g5⟩:=hB
      refine ⟨g1,g2,cs,T,g3,g4,fun o ho=>?_⟩
      by_cases hri:r=bn.1+o
      · rw [zAz (by omega),if_pos hri]
        rcases hat with ⟨k0,_⟩|⟨j',base,n,b',cs',T',k0,k1,k2,k3,k4,k5,rfl⟩
        · omega
        · by_cases hjj:j'=j
          · subst hjj
            rw [hj] at k1
            injection k1 with k1
            subst k1
            rw [hb] at k4
            injection k4 with k4
            subst k4
            rw [g3] at k5
            injection k5 with k5
            injection k5 with k5
            subst k5
            have:=h2 k0
            simp only at hri ⊢
            rw [hri] at this
            rw [show base+o-base=o by omega] at this
            exact this
          · have:=wf.ap j' j _ _ k1 hj hjj
            simp only at this
            omega
      · rw [zBc,if_neg (by omega)]
        exact g5 o ho
  mem:=h.mem
  mle:=h.mle
  pres:=h.pres
  own:=h.own
  lt:=h.lt
  new:=h.new
  fix:=h.fix
def zEt (ow:Ow) (fp:List Nat) (r:Nat):Ow:=fun b=>if b∈fp then some (.key r) else ow b
def Loose (S:Start) (m:Mem) (w:World) (ow:Ow) (fp:List Nat):Prop:=∀ g∈fp,ow g=none∧(S.w0.heap.size≤g∨S.R0 g)∧g < w.heap.size∧∀ o,m g o=none
theorem Loose.left {f g:List Nat} (h:Loose S m w ow (f++g)):Loose S m w ow f:=fun x hx=>h x (List.mem_append_left _ hx)
theorem Loose.right {f g:List Nat} (h:Loose S m w ow (f++g)):Loose S m w ow g:=fun x hx=>h x (List.mem_append_right _ hx)
theorem Loose.append {f g:List Nat} (h:Loose S m w ow f) (h':Loose S m w ow g):Loose S m w ow (f++g):=fun x hx=>(List.mem_append.1 hx).elim (h x) (h' x)
theorem Loose.sub {f g:List Nat} (h:Loose S m w ow f) (hs:∀ x∈g,x∈f):Loose S m w ow g:=fun x hx=>h x (hs x hx)
theorem zBw (h:InvG E S m β ow F a w) {r:Nat} {fp:List Nat} (hfp:∀ g∈fp,ow g=some (.key r)∧∀ o,m g o=none):Loose S m w (dropB ow fp) fp:=fun g hg=>
  ⟨by simp [dropB,hg],h.own g _ (hfp g hg).1,h.lt g _ (hfp g hg).1,(hfp g hg).2⟩
theorem Loose.dropB {fp f:List Nat} (h:Loose S m w ow fp):Loose S m w (dropB ow f) fp:=fun g hg=>⟨by
    unfold Go.Hx.dropB
    split
    · rfl
    · exact (h g hg).1,(h g hg).2⟩
theorem zEk (wf:E.Wf) (h:InvG E S m β ow F a w) {r:Nat} {u:Value} (hat:AtIx E β a w r u) {x:OV} {fp:List Nat} (hu:OvR m w x u fp) (hnd:fp.Nodup) (hn:Loose S m w ow fp):
    InvG E S m β (zEt ow fp r) (F.set r (.ov (.one x))) a w:=by
  have st:Step (fun _=>False) m m w w ow (zEt ow fp r):=by
    refine ⟨m.le_refl,fun g t hg _=>⟨rfl,fun _=>rfl,?_⟩⟩
    unfold zEt
    rw [if_neg]
    · exact hg
    · intro e'
      rw [(hn g e').1] at hg
      cases hg
  have h2:InvG E S m β (zEt ow fp r) F a w:=by
    refine h.step st rfl rfl rfl (fun i _=>.inl ⟨rfl,rfl,.inl id⟩) (fun j bn _=>.inl ⟨id,fun o _=>⟨rfl,id⟩⟩) h.mem (Pres.refl _ _) ?_ ?_ (fun b o u hu=>.inl hu)
    · intro b t hb
      unfold zEt at hb
      split at hb
      · rename_i hb';exact (hn b hb').2.1
      · exact h.own b t hb
    · intro b t hb
      unfold zEt at hb
      split at hb
      · rename_i hb';exact (hn b hb').2.2.1
      · exact h.lt b t hb
  have hok:OvOk m w (zEt ow fp r) (.key r) (.one x) u:=⟨fp,hu,hnd,fun g hg=>⟨by simp [zEt,hg],(hn g hg).2.2.2⟩⟩
  exact h2.setIx wf hat (fun _=>hok) (fun _=>hok)
theorem zYp {r j base:Nat} (h:zDl E r j base=true):r < E.N∨∃ n,E.Γ[j]?=some (base,n)∧base≤r∧r < base+n:=by
  simp only [zDl,Bool.or_eq_true,decide_eq_true_eq,Bool.and_eq_true] at h
  rcases h with h|⟨h1,h2⟩
  · exact .inl h
  · obtain ⟨n,hj,hn⟩:=zEJ h2
    exact .inr ⟨n,hj,h1,by omega⟩
theorem zGW (wf:E.Wf) (h:InvG E S m β ow F a w) {r j base:Nat} (hr:zDl E r j base=true) {x:OV} (hx:F.getD r .un=.ov (.one x)):
    ∃ u fp,AtIx E β a w r u∧OvR m w x u fp∧fp.Nodup∧∀ g∈fp,ow g=some (.key r)∧∀ o,m g o=none:=by
  by_cases hrN:r < E.N
  · have hs:=h.slots r hrN
    rw [hx] at hs
    obtain ⟨fp,h1,h2,h3⟩:=hs
    exact ⟨_,fp,.inl ⟨hrN,rfl⟩,h1,h2,h3⟩
  · rcases zYp hr with hr|⟨n,hj,h1,h2⟩
    · exact (hrN hr).elim
    · have hB:=h.boxes j _ hj
      cases hb:β j with
      | none=>
        rw [hb] at hB
        have:=hB (r-base) (by simp only;omega)
        simp only at this
        rw [show base+(r-base)=r by omega,hx] at this
        rcases this with e|e<;>cases e
      | some b=>
        rw [hb] at hB
        obtain ⟨g1,g2,cs,T,g3,g4,g5⟩:=hB
        have:=g5 (r-base) (by simp only;omega)
        simp only at this
        rw [show base+(r-base)=r by omega,hx] at this
        obtain ⟨fp,k1,k2,k3⟩:=this
        exact ⟨_,fp,.inr ⟨j,base,n,b,cs,T,by omega,hj,h1,h2,hb,g3,rfl⟩,k1,k2,k3⟩
theorem InvG.world (h:InvG E S m β ow F a w) {w':World} {b:Nat} (hb:ow b=none) (hm:∀ o,m b o=none) (hS:S.w0.heap.size≤b∨S.R0 b) (hp:w.grownBy w' (some b)) (hd:w.drawn≤w'.drawn):InvG E S m β ow F a w':=by
  have hmem:MemOk m w':=by
    intro g o u hu
    have hne:g≠b:=fun e=>by subst e;rw [hm o] at hu;cases hu
    rw [World.cell?_of_block (w:=w) (hp.block g (zD2 h.mem hu) (by simpa using hne))]
    exact h.mem g o u hu
  refine h.quiet ⟨m.le_refl,hmem,fun g t hg=>hp.block g (h.lt g t hg) (fun e=>by injection e with e;subst e;rw [hb] at hg;cases hg),fun _ _ _ _=>rfl,fun _ _ _ h=>.inl h,⟨hp.os,hp.tape,hp.output,hp.size,fun g hg hn=>hp.block g hg fun e=>?_,fun _=>hd⟩⟩
  injection e with e
  subst e
  exact hn (hS.elim .inr .inl)
theorem Loose.grow {w':World} {fp:List Nat} (h:Loose S m w ow fp) (hs:w.heap.size≤w'.heap.size):Loose S m w' ow fp:=fun g hg=>⟨(h g hg).1,(h g hg).2.1,Nat.lt_of_lt_of_le (h g hg).2.2.1 hs,(h g hg).2.2.2⟩
theorem AtIx.world {r:Nat} {u:Value} (h:AtIx E β a w r u) (hI:InvG E S m β ow F a w) {w':World} (hb:∀ b t,ow b=some t→w'.heap[b]?=w.heap[b]?):AtIx E β a w' r u:=by
  rcases h with h|⟨j,base,n,b,cs,T,k0,k1,k2,k3,k4,k5,k6⟩
  · exact .inl h
  · have hB:=hI.boxes j _ k1
    rw [k4] at hB
    exact .inr ⟨j,base,n,b,cs,T,k0,k1,k2,k3,k4,(hb b _ hB.1).trans k5,k6⟩
theorem OvV.cells {x:OVal} {u:Value} {fp:List Nat} (h:OvV m w x u fp):OvL m w x.cells u.cells.toList fp:=by
  cases x with
  | one x=>
    have hf:=OvR.flat_ h
    rw [zF9 hf]
    simp only [OVal.cells,OvL]
    exact ⟨u,[],fp,[],rfl,by simp,h,rfl,rfl⟩
  | agg cs=>
    obtain ⟨us,rfl,h2⟩:=h
    exact h2
theorem yDA {agg:Bool} {cs:List OV} {us:List Value} {fp:List Nat} (h:OvL m w cs us fp) (hn:agg=true∨us.length=1):OvV m w (yKc agg cs) (if agg then .agg us.toArray else us.headD undef) fp:=by
  cases agg with
  | true=>exact ⟨us,rfl,h⟩
  | false=>
    rcases hn with hn|hn
    · cases hn
    · have hl:=h.length
      match cs,us,hn,hl,h with
      | [x],[u],_,_,h=>
        simp only [OvL] at h
        obtain ⟨v,us',f1,f2,e1,rfl,h3,h4,rfl⟩:=h
        injection e1 with e1 _
        subst e1
        rw [List.append_nil]
        exact h3
      | [],_::_,_,hl,_=>simp at hl
      | _::_::_,[u],_,hl,_=>simp at hl
theorem zVo:∀ {cs:List OV} {ps:List PV} {us:List Value} {fp:List Nat},yEo cs=some ps→OvL m w cs us fp→RpL m ps us
  | [],ps,us,fp,h,hr=>by
    simp only [yEo,Option.some.injEq] at h
    subst h
    simp only [OvL] at hr
    simp only [RpL]
    exact hr.1
  | x::r,ps,us,fp,h,hr=>by
    simp only [OvL] at hr
    obtain ⟨u,us',f1,f2,rfl,rfl,h3,h4⟩:=hr
    have hf:=h3.flat_
    cases x<;>simp only [yEo] at h<;>split at h<;>first
      | (cases h;done)
      | (rename_i xs e1
         injection h with h
         subst h
         simp only [RpL]
         first
           | exact ⟨u,us',rfl,(by simp only [OvR] at h3;exact h3.2),zVo e1 h4⟩
           | exact ⟨u,us',rfl,(by simp only [Rp];exact hf),zVo e1 h4⟩)
theorem yJy (wf:E.Wf) (h:InvG E S m β ow F a w) {d e k:Nat} {o:Oper} (hd:zAG E.N (some d) o.dst=true) {y:Operand} (ho:o.op=.move y∨o.op=.assign y) (hk:zAc E.N (.c (.one (.nl 0))) y=true) {K:List Ct→Prop} {Q:Exit→Act→World→Prop}
    (hK:K (F.set d (.ov (.one (.os none e k []))))):o.wp P a w (zEj E S K) Q:=by
  obtain ⟨hd1,hd2⟩:=zAh hd
  have hr:(execOp a.eval o).run P w=.ok (.value (a.eval y)) w:=by
    unfold execOp
    rcases ho with ho|ho<;>rw [ho]<;>rfl
  have hy:a.eval y=.slice none 0 0:=by
    have:=zAI h hk (p:=.one (.nl 0)) trivial rfl
    exact this
  refine zAD hr ⟨_,hK,m,β,ow,?_⟩
  rw [hd1,hy]
  refine h.slot wf hd2 ⟨[],?_,List.nodup_nil,by simp⟩
  exact zCg.2 ⟨[],[],World.ownsRow_nil w 0 e k,by simp only [List.flatten_nil,OvL];exact ⟨trivial,trivial⟩,by simp,by simp [blk,Value.ownBlock],fun b hb=>by cases hb⟩
theorem yJz (wf:E.Wf) (h:InvG E S m β ow F a w) {d x:Nat} {o:Oper} (hd:zAG E.N (some d) o.dst=true) {y:Operand} (ho:o.op=.move y∨o.op=.assign y) (hk:zAc E.N (.t x) y=true) {K:List Ct→Prop} {Q:Exit→Act→World→Prop}
    {v:OVal} (hx:F.getD x .un=.ov v) (hK:K ((F.set x (zSJ v)).set d (.ov v))):o.wp P a w (zEj E S K) Q:=by
  obtain ⟨hd1,hd2⟩:=zAh hd
  have hr:(execOp a.eval o).run P w=.ok (.value (a.eval y)) w:=by
    unfold execOp
    rcases ho with ho|ho<;>rw [ho]<;>rfl
  obtain ⟨rfl,hxN⟩:=zBK hk
  have hs:=h.slots x hxN
  rw [hx] at hs
  obtain ⟨fp,h1,h2,h3⟩:=hs
  have hD:=zDm wf h fun g hg=>(h3 g hg).1
  refine zAD hr ⟨_,hK,?_⟩
  rw [hd1]
  have hH:CtRep m w β (dropB ow fp) x (zSJ v) (a.tmps.getD x undef):=by
    cases v with
    | agg cs=>trivial
    | one q=>cases q with
      | os pb e k rows=>exact (zPO h1).1
      | _=>trivial
  have hD2:=hD.setIx wf (r:=x) (u:=a.tmps.getD x undef) (.inl ⟨hxN,rfl⟩) (fun _=>hH) (fun h'=>absurd hxN (Nat.not_lt.2 h'))
  rw [List.set_set] at hD2
  exact zEM wf hD2 hd2 h1 h2 (zBw h h3)
theorem zVp (f1 fa fm fb f2:List Nat):(f1++((fa++(fm++fb))++f2)).Perm (fm++(f1++((fa++fb)++f2))):=
  List.perm_iff_count.2 fun x=>by simp only [List.count_append];omega
theorem yBa {x:Opd} {r:Nat} {pt:List (Opd×Nat)} {K:OV→List (Nat×Nat)→Nat→Nat→Nat→List (List OV)→Nat→Nat→Prop} (h:atV F x r pt K):
    ∃ root p b e k rows i f,zAf F x=.epp b k i f∧F.getD r .un=.ov (.one root)∧root.get p=some (.os (some b) e k rows)∧i < rows.length∧K root p b e k rows i f:=by
  unfold atV at h
  split at h
  · rename_i b k i f root e1 e2
    split at h
    · rename_i b' e k' rows e3
      obtain ⟨h1,rfl,rfl,h4,h5⟩:=h
      exact ⟨root,_,_,e,_,rows,i,f,e1,e2,e3,h4,h5⟩
    · exact h.elim
  · exact h.elim
theorem yBb (h:InvG E S m β ow F a w) {x:Opd} {y:Operand} (hk:zAc E.N x y=true) {b k i f:Nat} (hp:zAf F x=.epp b k i f):a.eval y=.pointer (some ⟨b,i * k+f,none⟩):=by
  obtain ⟨n',rfl,hn',hs⟩:=zA4 h hk hp (by intro p;simp)
  exact hs
theorem zVq {α:Type} {rows:List (List α)} {i:Nat} (hi:i < rows.length):rows[i]?=some (rows.getD i []):=by simp [hi]
theorem yJA {t:TypeId} {agg:Bool} {n b o:Nat} {x':Operand} {op:Oper} (ho:op.op=.load t x') (hv:a.eval x'=.pointer (some ⟨b,o,none⟩)) (ha:zB2 P t=some agg) (hn:zEc P t=some n) (h1:agg=true∨n=1) {us:List Value} (hl:us.length=n) (hm:∀ i u,us[i]?=some u→w.cell? ⟨b,o+i,none⟩=some u):
    (execOp a.eval op).run P w=.ok (.value (if agg then .agg us.toArray else us.headD undef)) w:=by
  have hrun:=zBf (P:=P) (w:=w) ha hn h1 hl hm
  unfold execOp;rw [ho]
  simp only [hv,Instr.loadAt,Instr.sureAddr,Sem.run_bind,Sem.run_pure,Result.andThen_ok,hrun]
theorem yMu (wf:E.Wf) (h:InvG E S m β ow F a w) {d r j base n:Nat} {x:Opd} {pt:List (Opd×Nat)} {agg:Bool} {o:Oper} (hd:zAG E.N (some d) o.dst=true) (hr:zDl E r j base=true) {t:TypeId} {y:Operand} (ho:o.op=.load t y) (hk:zAc E.N x y=true) (ha:zB2 P t=some agg) (hn:zEc P t=some n) (h1:agg=true∨n=1)
    {K:List Ct→Prop} {X:Value→List Ct→Prop} {Q:Exit→Act→World→Prop} (hW:opW P (.vlp d x r j base pt n agg) F K X):o.wp P a w (zEj E S K) Q:=by
  obtain ⟨hd1,hd2⟩:=zAh hd
  simp only [opW] at hW
  obtain ⟨root,p,b,e,k,rows,i,f,e1,e2,e3,hi,hf,hK⟩:=yBa hW
  obtain ⟨u,fp,hat,hrep,hnd,hown⟩:=zGW wf h hr e2
  obtain ⟨v,f1,fy,f2,rfl,g1,_,_⟩:=OvR.focus p _ _ u fp hrep e3
  obtain ⟨us,fa,fm,fb,rfl,k1,k2,k3,g,cap,rfl,k4,k5⟩:=g1.out (zVq hi) hf
  obtain ⟨_,_,_,_,_,_,hpin⟩:=zCg.1 g1
  have hgb:=hpin b rfl (fun e=>by rw [e] at hi;simp at hi)
  simp only [Value.ownBlock,Option.some.injEq] at hgb
  subst hgb
  have hv:=yBb h hk e1
  split at hK
  · rename_i ps e4
    have hrp:=zVo e4 k1
    refine zAD (yJA ho hv ha hn h1 k2 k5) ⟨_,hK,m,β,ow,?_⟩
    rw [hd1]
    refine h.slot wf hd2 ?_
    cases agg with
    | true=>exact ⟨us,rfl,hrp⟩
    | false=>
      rcases h1 with h1|h1
      · cases h1
      · have hl:=hrp.length
        match ps,us,k2,hl with
        | [q],[v],_,_=>
          simp only [RpL] at hrp
          obtain ⟨v',us',e5,h6,_⟩:=hrp
          injection e5 with e5 _
          subst e5
          exact h6
        | [],us,k2,hl=>rw [←k2,hl] at h1;cases h1
        | _::_::_,us,k2,hl=>rw [←k2,hl] at h1;simp at h1
  · exact hK.elim
theorem yMv (wf:E.Wf) (h:InvG E S m β ow F a w) {d r j base n:Nat} {x:Opd} {pt:List (Opd×Nat)} {agg:Bool} {o:Oper} (hd:zAG E.N (some d) o.dst=true) (hr:zDl E r j base=true) {t:TypeId} {y:Operand} (ho:o.op=.load t y) (hk:zAc E.N x y=true) (ha:zB2 P t=some agg) (hn:zEc P t=some n) (h1:agg=true∨n=1)
    {K:List Ct→Prop} {X:Value→List Ct→Prop} {Q:Exit→Act→World→Prop} (hW:opW P (.vle d x r j base pt n agg) F K X):o.wp P a w (zEj E S K) Q:=by
  obtain ⟨hd1,hd2⟩:=zAh hd
  simp only [opW] at hW
  obtain ⟨root,p,b,e,k,rows,i,f,e1,e2,e3,hi,hf,hK⟩:=yBa hW
  obtain ⟨u,fp,hat,hrep,hnd,hown⟩:=zGW wf h hr e2
  obtain ⟨v,f1,fy,f2,rfl,g1,_,g2⟩:=OvR.focus p _ _ u fp hrep e3
  obtain ⟨us,fa,fm,fb,rfl,k1,k2,k3,g,cap,rfl,k4,k5⟩:=g1.out (zVq hi) hf
  obtain ⟨_,_,_,_,_,_,hpin⟩:=zCg.1 g1
  have hgb:=hpin b rfl (fun e=>by rw [e] at hi;simp at hi)
  simp only [Value.ownBlock,Option.some.injEq] at hgb
  subst hgb
  have hv:=yBb h hk e1
  have hD:=zDm wf h fun g hg=>(hown g hg).1
  have hloose:=zBw h hown
  have hnew:=g2 m w _ (fa++fb) m.le_refl (fun _ _=>rfl) k3
  have hnd':(f1++((fa++fb)++f2)).Nodup∧fm.Nodup∧∀ g∈fm,g∉f1++((fa++fb)++f2):=by
    have hp:=zVp f1 fa fm fb f2
    have:=hp.nodup_iff.1 hnd
    rw [List.nodup_append] at this
    exact ⟨this.2.1,this.1,fun g hg hc=>this.2.2 g hg g hc rfl⟩
  have hA:=zEk wf hD hat hnew hnd'.1 (hloose.sub fun x hx=>by
    simp only [List.mem_append] at hx ⊢
    rcases hx with hx|(hx|hx)|hx
    · exact .inl hx
    · exact .inr (.inl (.inl hx))
    · exact .inr (.inl (.inr (.inr hx)))
    · exact .inr (.inr hx))
  rw [List.set_set] at hA
  refine zAD (yJA ho hv ha hn h1 k2 k5) ⟨_,hK,?_⟩
  rw [hd1]
  refine zEM wf hA hd2 (yDA k1 (by rw [k2];exact h1)) hnd'.2.1 fun g hg=>?_
  have hl:=hloose g (by simp [hg])
  exact ⟨by unfold zEt;rw [if_neg (hnd'.2.2 g hg)];exact hl.1,hl.2⟩
theorem OvR.lay {b e k:Nat} {rows:List (List OV)} {u:Value} {fp:List Nat} (h:OvR m w (.os (some b) e k rows) u fp) (hnd:fp.Nodup) {i f:Nat} {ys:List OV} {us:List Value} {fy:List Nat} (hi:i < rows.length) (hf:f+ys.length≤(rows.getD i []).length) (hy:OvL m w ys us fy) (hby:b∉fy):
    ∃ fa fm fb cur T,fp=fa++(fm++fb)∧b∈fa∧w.heap[b]?=some (.cells cur T (0,0))∧i * k+f+us.length≤cur.size∧
      ∀ w',w'.heap[b]?=some (.cells (cur.toList.take (i * k+f)++us++cur.toList.drop (i * k+f+us.length)).toArray T (0,0))→(∀ g,g≠b→g < w.heap.size→w'.heap[g]?=w.heap[g]?)→
        OvR m w' (.os (some b) e k (rows.set i (zVc (rows.getD i []) f ys))) u (fa++(fy++fb)):=by
  obtain ⟨xs,f',h1,h2,h3,rfl,h5⟩:=zCg.1 h
  have hr:=zVq hi
  obtain ⟨a,c,e1,e2,e3⟩:=zVd rows i _ h3 hr
  have hrk:(rows.getD i []).length=k:=h3 _ (List.mem_of_getElem? hr)
  rw [e1] at h2
  obtain ⟨us1,us',f1,f'',rfl,rfl,k1,k2⟩:=h2.split
  obtain ⟨us2,us3,f2,f3,rfl,rfl,k3,k4⟩:=k2.split
  obtain ⟨v1,v2,v3,g1,g2,g3,rfl,rfl,hl1,hl2,q1,q2,q3⟩:=k3.take f ys.length hf
  have hul:=hy.length
  have hu1:us1.length=i * k:=by rw [k1.length,e2]
  have hu3:v3.length=k-f-ys.length:=by rw [q3.length,List.length_drop];omega
  have hgb:=h5 b rfl (fun e=>by rw [e] at hi;simp at hi)
  rcases h1.2 with ⟨rfl,h6⟩|⟨g,cap,cur,rfl,hg0,hh,h6,h7,h8,h9⟩
  · omega
  · simp only [Value.ownBlock,Option.some.injEq] at hgb
    subst hgb
    have hnb:g∉f1++((g1++(g2++g3))++f3):=by
      rw [List.nodup_append] at hnd
      exact fun hc=>hnd.2.2 g (by simp [blk,Value.ownBlock]) g hc rfl
    have hlen:(us1++((v1++(v2++v3))++us3)).length=rows.length * k:=h1.1
    have hcur:cur.toList.length=cap * k:=by rw [Array.length_toList];exact h8
    have hik:i * k+k≤rows.length * k:=by
      have:=Nat.mul_le_mul_right k (Nat.succ_le_of_lt hi)
      rw [Nat.succ_mul] at this
      exact this
    have hck:rows.length * k≤cap * k:=Nat.mul_le_mul_right k h6
    refine ⟨blk (.slice (some ⟨g,0,none⟩) rows.length cap)++(f1++g1),g2,g3++f3,cur,e,by simp [List.append_assoc],by simp [blk,Value.ownBlock],hh,by omega,fun w' hw1 hw2=>?_⟩
    have hkeep:∀ g'∈f1++((g1++(g2++g3))++f3),w'.heap[g']?=w.heap[g']?:=by
      intro g' hg'
      refine hw2 g' (fun e=>hnb (e▸hg')) ?_
      exact OvR.lt _ _ _ h g' (List.mem_append_right _ hg')
    have hkeepy:∀ g'∈fy,w'.heap[g']?=w.heap[g']?:=fun g' hg'=>hw2 g' (fun e=>hby (e▸hg')) (OvL.lt _ _ _ hy g' hg')
    refine zCg.2 ⟨us1++((v1++(us++v3))++us3),(f1++g1)++(fy++(g3++f3)),?_,?_,?_,by simp [List.append_assoc],?_⟩
    · rw [List.length_set]
      refine ⟨by simp only [List.length_append] at hlen ⊢;omega,.inr ⟨g,cap,_,rfl,hg0,hw1,h6,h7,by simp only [List.size_toArray,List.length_append,List.length_take,List.length_drop];omega,?_⟩⟩
      simp only [List.toList_toArray]
      have hsplit:cur.toList=(us1++v1)++(v2++((v3++us3)++cur.toList.drop (rows.length * k))):=by
        have h12:=List.take_append_drop (rows.length * k) cur.toList
        rw [h9] at h12
        calc cur.toList=_:=h12.symm
          _=_:=by simp [List.append_assoc]
      have hA:(us1++v1).length=i * k+f:=by simp;omega
      have t1:cur.toList.take (i * k+f)=us1++v1:=by
        rw [hsplit,←hA,List.take_left]
      have t2:cur.toList.drop (i * k+f+us.length)=(v3++us3)++cur.toList.drop (rows.length * k):=by
        conv=>lhs;rw [hsplit]
        rw [show i * k+f+us.length=(us1++v1).length+v2.length by omega,←List.drop_drop,List.drop_left,List.drop_left]
      rw [t1,t2]
      have hB:(us1++((v1++(us++v3))++us3)).length=rows.length * k:=by simp only [List.length_append] at hlen ⊢;omega
      rw [show us1++v1++us++(v3++us3++cur.toList.drop (rows.length * k))=(us1++((v1++(us++v3))++us3))++cur.toList.drop (rows.length * k) by simp [List.append_assoc],←hB,List.take_left]
    · rw [e3]
      have hlay:OvL m w' (zVc (rows.getD i []) f ys) (v1++(us++v3)) (g1++(fy++g3)):=by
        unfold zVc
        rw [List.append_assoc]
        refine (OvL.congr m.le_refl _ _ _ (fun g hg=>hkeep g (by simp [hg])) q1).append ((OvL.congr m.le_refl _ _ _ hkeepy hy).append (OvL.congr m.le_refl _ _ _ (fun g hg=>hkeep g (by simp [hg])) q3))
      have h10:=(OvL.congr m.le_refl _ _ _ (fun g hg=>hkeep g (by simp [hg])) k1).append (hlay.append (OvL.congr m.le_refl _ _ _ (fun g hg=>hkeep g (by simp [hg])) k4))
      simpa [List.append_assoc] using h10
    · intro r' hr'
      rcases List.mem_or_eq_of_mem_set hr' with hr'|rfl
      · exact h3 r' hr'
      · rw [zPK hf];exact hrk
    · intro b' hb hne
      exact h5 b' hb (fun e=>hne (by rw [e];simp))
theorem yBc (wf:E.Wf) (h:InvG E S m β ow F a w) {y:Opd} {y':Operand} (hk:zAc E.N y y'=true) (hs:(zKd F y).1) {r:Nat} (hr:∀ s,y=.t s→s≠r):
    ∃ fy,OvL m w (zKd F y).2 (a.eval y').cells.toList fy∧fy.Nodup∧(∀ g∈fy,∃ s,y=.t s∧ow g=some (.key s)∧∀ o,m g o=none)∧InvG E S m β (dropB ow fy) (clr F F y) a w∧(clr F F y).getD r .un=F.getD r .un∧Loose S m w (dropB ow fy) fy:=by
  by_cases hov:∃ v,zAf F y=.ov v
  · obtain ⟨v,hv⟩:=hov
    obtain ⟨n,rfl,hn,hrep⟩:=zA4 h hk hv (by intro p;simp)
    obtain ⟨fp,h1,h2,h3⟩:=hrep
    have hg:F.getD n .un=.ov v:=hv
    refine ⟨fp,?_,h2,fun g hg=>⟨n,rfl,h3 g hg⟩,?_,?_,zBw h h3⟩
    · simp only [zKd,hv];exact h1.cells
    · simp only [clr,hg];exact zDm wf h fun g hg=>(h3 g hg).1
    · simp only [clr,hg]
      rw [zBc,if_neg (fun e=>hr n rfl e.1)]
  · have hc:clr F F y=F:=by
      cases y with
      | t n=>
        simp only [clr]
        split
        · rename_i v e1;exact (hov ⟨v,e1⟩).elim
        · rfl
      | c p=>rfl
      | f n=>rfl
    have hp:∃ p,(zAf F y).pv?=some p∧(zAf F y).need∧(zKd F y).2=p.norm.cells.map .p:=by
      unfold zKd at hs ⊢
      split at hs
      · rename_i v e1;exact (hov ⟨v,e1⟩).elim
      · split at hs
        · rename_i p e1;exact ⟨p,e1,hs,by simp only [e1]⟩
        · exact hs.elim
    obtain ⟨p,hp1,hp2,hp3⟩:=hp
    have hrep:=(zAI h hk hp2 hp1).norm
    refine ⟨[],?_,List.nodup_nil,by simp,?_,by rw [hc],by simp [Loose]⟩
    · rw [hp3];exact OvL.of_rp hrep.cells
    · rw [hc]
      have:dropB ow []=ow:=by funext b;simp [dropB]
      rw [this];exact h
theorem yMw (wf:E.Wf) (h:InvG E S m β ow F a w) {r j base n:Nat} {x y:Opd} {pt:List (Opd×Nat)} {o:Oper} (hd:o.dst=none) (hr:zDl E r j base=true) {t:TypeId} {x' y':Operand} (ho:o.op=.store t x' y') (hk1:zAc E.N x x'=true) (hk2:zAc E.N y y'=true) (hs:zEc P t=some n)
    {K:List Ct→Prop} {X:Value→List Ct→Prop} {Q:Exit→Act→World→Prop} (hW:opW P (.vse x r j base pt n y) F K X):o.wp P a w (zEj E S K) Q:=by
  simp only [opW] at hW
  obtain ⟨root,p,b,e,k,rows,i,f,e1,e2,e3,hi,hyr,hsr,hlen,hf,hK⟩:=yBa hW
  obtain ⟨fy,y1,y2,y3,y4,y5,y6⟩:=yBc wf h hk2 hsr hyr
  have hv:=yBb h hk1 e1
  obtain ⟨u,fp,hat,hrep,hnd,hown⟩:=zGW wf y4 hr (y5.trans e2)
  obtain ⟨v,f1,fn,f2,rfl,g1,_,g2⟩:=OvR.focus p _ _ u fp hrep e3
  have hndn:fn.Nodup:=by
    rw [List.nodup_append] at hnd
    have:=hnd.2.1
    rw [List.nodup_append] at this
    exact this.1
  have hfy:∀ g∈f1++(fn++f2),g∉fy:=by
    intro g hg hc
    have:=(hown g hg).1
    simp [dropB,hc] at this
  have hbfn:b∈fn:=by
    obtain ⟨_,_,_,_,_,rfl,hpin⟩:=zCg.1 g1
    have:=hpin b rfl (fun e=>by rw [e] at hi;simp at hi)
    exact List.mem_append_left _ (zCP.2 this)
  have hbmem:b∈f1++(fn++f2):=by simp [hbfn]
  obtain ⟨fa,fm,fb,cur,T,rfl,l2,l3,l4,l5⟩:=g1.lay hndn hi (by rw [hlen];exact hf) y1 (hfy b hbmem)
  have hvl:(a.eval y').cells.size=n:=by rw [←Array.length_toList,y1.length,hlen]
  have hvl':(a.eval y').cells.toList.length=n:=by rw [Array.length_toList];exact hvl
  rw [hvl'] at l4 l5
  have hrun:=zEK (P:=P) (w:=w) hs hvl l3 l4 y1.flat_
  have hr':(execOp a.eval o).run P w=.ok .skip (w.setRow b (cur.toList.take (i * k+f)++(a.eval y').cells.toList++cur.toList.drop (i * k+f+n)).toArray):=by
    unfold execOp;rw [ho]
    simp only [hv,Instr.storeAt,Instr.sureAddr,Sem.run_bind,Sem.run_pure,Result.andThen_ok,hrun]
  have hD:=zDm wf y4 fun g hg=>(hown g hg).1
  have hloose:=zBw y4 hown
  have hb:=hloose b hbmem
  let w':=w.setRow b (cur.toList.take (i * k+f)++(a.eval y').cells.toList++cur.toList.drop (i * k+f+n)).toArray
  have hgrow:w.grownBy w' (some b):=⟨rfl,rfl,rfl,by simp [w'],fun g _ hg=>setRow_other w b g _ (fun e=>hg (by rw [e]))⟩
  have hsz:w.heap.size≤w'.heap.size:=hgrow.size
  have hDw:=hD.world (w':=w') hb.1 hb.2.2.2 hb.2.1 hgrow (Nat.le_refl _)
  have hnode:=l5 w' (setRow_heap w b cur _ T (0,0) l3) (fun g hg _=>setRow_other w b g _ hg)
  have hperm:=zVp f1 fa fm fb f2
  have hnd1:=hperm.nodup_iff.1 hnd
  have hnew:=g2 m w' _ (fa++(fy++fb)) m.le_refl (fun g hg=>setRow_other w b g _ (fun e=>by
    subst e
    have hp2:(f1++((fa++(fm++fb))++f2)).Perm ((f1++f2)++(fa++(fm++fb))):=List.perm_iff_count.2 fun x=>by simp only [List.count_append];omega
    have:=hp2.nodup_iff.1 hnd
    rw [List.nodup_append] at this
    exact this.2.2 g hg g (by simp [l2]) rfl)) hnode
  have hnd2:(f1++((fa++(fy++fb))++f2)).Nodup:=by
    have hp3:=zVp f1 fa fy fb f2
    rw [hp3.nodup_iff,List.nodup_append]
    rw [List.nodup_append] at hnd1
    refine ⟨y2,hnd1.2.1,fun x hx z hz e=>?_⟩
    subst e
    refine hfy x ?_ hx
    simp only [List.mem_append] at hz ⊢
    rcases hz with hz|(hz|hz)|hz
    · exact .inl hz
    · exact .inr (.inl (.inl hz))
    · exact .inr (.inl (.inr (.inr hz)))
    · exact .inr (.inr hz)
  have hA:=zEk wf hDw (hat.world hD (w':=w') (fun g t hg=>setRow_other w b g _ (fun e=>by subst e;rw [hb.1] at hg;cases hg))) hnew hnd2 (by
    intro g hg
    simp only [List.mem_append] at hg
    have:g∈f1++((fa++(fm++fb))++f2)∨g∈fy:=by
      simp only [List.mem_append]
      rcases hg with hg|(hg|hg|hg)|hg
      · exact .inl (.inl hg)
      · exact .inl (.inr (.inl (.inl hg)))
      · exact .inr hg
      · exact .inl (.inr (.inl (.inr (.inr hg))))
      · exact .inl (.inr (.inr hg))
    rcases this with hg'|hg'
    · exact (hloose.grow hsz) g hg'
    · exact ((y6.dropB).grow hsz) g hg')
  rw [List.set_set] at hA
  have:a.put o.dst undef=a:=by rw [hd];rfl
  have hA':Inv E S ((clr F F y).set r (.ov (.one (root.upd p (.os (some b) e k (rows.set i (zVc (rows.getD i []) f (zKd F y).2))))))) (a.put o.dst undef) w':=by
    rw [this]
    exact ⟨m,β,_,hA⟩
  exact zJz hr' ⟨_,hK,hA'⟩
theorem yF1 {j base nn b:Nat} (hB:BoxRep m w ow F j (base,nn) (some b)):∀ (n off:Nat),off+n≤nn→∀ cs,zHX F (base+off) n=some cs→
    ∃ us fp,us.length=n∧OvL m w cs us fp∧fp.Nodup∧(∀ g∈fp,(∃ i,base+off≤i∧i < base+off+n∧ow g=some (.key i)∧∃ v,F.getD i .un=.ov v)∧∀ o,m g o=none)∧∀ (i:Nat) (u:Value),us[i]?=some u→w.cell? ⟨b,off+i,none⟩=some u
  | 0,off,_,cs,h=>by
    simp only [zHX,Option.some.injEq] at h
    subst h
    exact ⟨[],[],rfl,by simp only [OvL];exact ⟨trivial,trivial⟩,List.nodup_nil,by simp,by simp⟩
  | n+1,off,hle,cs,h=>by
    simp only [zHX] at h
    split at h
    · rename_i x xs h1 h2
      injection h with h
      subst h
      obtain ⟨us,fp,k1,k2,k3,k4,k5⟩:=yF1 hB n (off+1) (by omega) xs (by rw [show base+(off+1)=base+off+1 by omega];exact h2)
      have hB':=hB
      obtain ⟨_,_,vs,T,hh,hsz,hcell⟩:=hB'
      have hc:=hcell off (by simp only;omega)
      simp only at hc hsz
      have hcell':w.cell? ⟨b,off,none⟩=some (vs.getD off undef):=by
        rw [cell_of_row w b off vs T (0,0) hh];exact zLK (by omega)
      have hx:∃ f1,OvR m w x (vs.getD off undef) f1∧f1.Nodup∧∀ g∈f1,(ow g=some (.key (base+off))∧∃ v,F.getD (base+off) .un=.ov v)∧∀ o,m g o=none:=by
        generalize F.getD (base+off) .un=c at h1 hc
        cases c with
        | pv p=>cases p with
          | one y=>
            simp only [zPW,Option.some.injEq] at h1
            subst h1
            exact ⟨[],by simp only [OvR];exact ⟨trivial,Rp.norm hc⟩,List.nodup_nil,by simp⟩
          | agg cs=>cases h1
        | own e k rows=>
          simp only [zPW,Option.some.injEq] at h1
          subst h1
          exact ⟨[],by simp only [OvR];exact ⟨trivial,OwnRep.rp hc⟩,List.nodup_nil,by simp⟩
        | ov v=>cases v with
          | one y=>
            simp only [zPW,Option.some.injEq] at h1
            subst h1
            obtain ⟨f1,q1,q2,q3⟩:=hc
            exact ⟨f1,q1,q2,fun g hg=>⟨⟨(q3 g hg).1,_,rfl⟩,(q3 g hg).2⟩⟩
          | agg cs=>cases h1
        | _=>cases h1
      obtain ⟨f1,q1,q2,q3⟩:=hx
      refine ⟨vs.getD off undef::us,f1++fp,by simp [k1],by simp only [OvL];exact ⟨_,us,f1,fp,rfl,rfl,q1,k2⟩,?_,?_,?_⟩
      · rw [List.nodup_append]
        refine ⟨q2,k3,fun g hg g' hg' e=>?_⟩
        subst e
        obtain ⟨⟨i,i1,i2,i3,_⟩,_⟩:=k4 g hg'
        rw [(q3 g hg).1.1] at i3
        injection i3 with i3
        injection i3 with i3
        omega
      · intro g hg
        rcases List.mem_append.1 hg with hg|hg
        · exact ⟨⟨base+off,by omega,by omega,(q3 g hg).1.1,(q3 g hg).1.2⟩,(q3 g hg).2⟩
        · obtain ⟨⟨i,i1,i2,i3,i4⟩,i5⟩:=k4 g hg
          exact ⟨⟨i,by omega,by omega,i3,i4⟩,i5⟩
      · intro i u hu
        cases i with
        | zero=>simp only [List.getElem?_cons_zero,Option.some.injEq] at hu;subst hu;exact hcell'
        | succ i=>
          have:=k5 i u (by simpa using hu)
          rw [show off+(i+1)=off+1+i by omega]
          exact this
    · cases h
theorem zP0 (wf:E.Wf) {j base nn b:Nat} (hj:E.Γ[j]?=some (base,nn)) (hβ:β j=some b):∀ (cs:List OV) (us:List Value) (fp:List Nat) (ow:Ow) (F:List Ct) (off:Nat),InvG E S m β ow F a w→off+cs.length≤nn→OvL m w cs us fp→fp.Nodup→Loose S m w ow fp→
    (∀ (i:Nat) (u:Value),us[i]?=some u→w.cell? ⟨b,off+i,none⟩=some u)→∃ ow',InvG E S m β ow' (zAl F (base+off) (cs.map zOa)) a w
  | [],us,fp,ow,F,off,h,_,_,_,_,_=>⟨ow,h⟩
  | x::xs,us,fp,ow,F,off,h,hle,hr,hnd,hl,hcells=>by
    simp only [OvL] at hr
    obtain ⟨u,us',f1,f2,rfl,rfl,h3,h4⟩:=hr
    simp only [List.length_cons] at hle
    rw [List.nodup_append] at hnd
    have hB:=h.boxes j _ hj
    rw [hβ] at hB
    obtain ⟨_,_,vs,T,hh,hsz,_⟩:=hB
    simp only at hsz
    have hlo:=wf.lo j _ hj
    simp only at hlo
    have hu:u=vs.getD off undef:=by
      have:=hcells 0 u rfl
      rw [Nat.add_zero,cell_of_row w b off vs T (0,0) hh,zLK (by omega)] at this
      exact (Option.some.inj this).symm
    have hat:AtIx E β a w (base+off) u:=.inr ⟨j,base,nn,b,vs,T,by omega,hj,by omega,by omega,hβ,hh,by rw [show base+off-base=off by omega];exact hu⟩
    have hstep:∃ ow1,InvG E S m β ow1 (F.set (base+off) (zOa x)) a w∧Loose S m w ow1 f2:=by
      cases x with
      | p q=>
        simp only [OvR] at h3
        exact ⟨ow,h.setIx wf hat (fun h'=>by omega) (fun _=>h3.2),hl.right⟩
      | hole=>
        refine ⟨zEt ow f1 (base+off),zEk wf h hat h3 hnd.1 hl.left,fun g hg=>⟨?_,(hl.right g hg).2⟩⟩
        unfold zEt
        rw [if_neg (fun hc=>hnd.2.2 g hc g hg rfl)]
        exact (hl.right g hg).1
      | os pb e k rows=>
        refine ⟨zEt ow f1 (base+off),zEk wf h hat h3 hnd.1 hl.left,fun g hg=>⟨?_,(hl.right g hg).2⟩⟩
        unfold zEt
        rw [if_neg (fun hc=>hnd.2.2 g hc g hg rfl)]
        exact (hl.right g hg).1
      | mp b ks vs=>
        refine ⟨zEt ow f1 (base+off),zEk wf h hat h3 hnd.1 hl.left,fun g hg=>⟨?_,(hl.right g hg).2⟩⟩
        unfold zEt
        rw [if_neg (fun hc=>hnd.2.2 g hc g hg rfl)]
        exact (hl.right g hg).1
      | bl T e b bs=>
        refine ⟨zEt ow f1 (base+off),zEk wf h hat h3 hnd.1 hl.left,fun g hg=>⟨?_,(hl.right g hg).2⟩⟩
        unfold zEt
        rw [if_neg (fun hc=>hnd.2.2 g hc g hg rfl)]
        exact (hl.right g hg).1
      | it b n seen=>
        refine ⟨zEt ow f1 (base+off),zEk wf h hat h3 hnd.1 hl.left,fun g hg=>⟨?_,(hl.right g hg).2⟩⟩
        unfold zEt
        rw [if_neg (fun hc=>hnd.2.2 g hc g hg rfl)]
        exact (hl.right g hg).1
    obtain ⟨ow1,g1,g2⟩:=hstep
    have:=zP0 wf hj hβ xs us' f2 ow1 _ (off+1) g1 (by omega) h4 hnd.2.1 g2 fun i v hv=>by
      have:=hcells (i+1) v (by simpa using hv)
      rw [show off+1+i=off+(i+1) by omega]
      exact this
    obtain ⟨ow2,g3⟩:=this
    exact ⟨ow2,by simpa only [List.map_cons,zAl,Nat.add_assoc] using g3⟩
theorem yH4 {t e k ty:Nat} (he:zDM P t e k=true) (hsm:k≤2 ^ 24) {v:Value} (hv:v.cells.size=k) {op:Oper} {y:Operand} (ho:op.op=.buildSlice t 1 #[(0,y)]) (hy:a.eval y=v) (_:ty=ty):
    (execOp a.eval op).run P w=.ok (.value (.slice (some ⟨w.heap.size,0,none⟩) 1 1)) (w.alloc (.cells v.cells.toList.toArray e)):=by
  obtain ⟨hu,hk,ie,z,hie,hsz,hby,hz',hzs⟩:=zH0 he
  have hf:=Great.fill_whole (s:=ie.size) (by omega) [v] ((Array.range (1 * ie.size)).map (z.cells[· % z.cells.size]!)) (by rw [hsz];simpa using hv) (by simp)
  have hpos:¬ 1 * ie.size=0:=by rw [hsz];omega
  have hr:=run_buildSlice (P:=P) w t e 1 (#[(0,y)].map fun x=>(x.1,a.eval x.2)) _ ie z hu hie hz' (by rw [hsz];omega) hpos (by simpa [hy] using hf)
  unfold execOp;rw [ho]
  simp only [Sem.run_bind,hr,Result.andThen_ok]
  simp
theorem yMx (wf:E.Wf) (h:InvG E S m β ow F a w) {d e k x n:Nat} {o:Oper} (hd:zAG E.N (some d) o.dst=true) {t:TypeId} {ps:Array (Nat×Operand)} (ho:o.op=.buildSlice t n ps) (k0:zFg E.N 0 [.t x] ps.toList=true) (hn:n=1) (hsm:k≤2 ^ 24) (he:zDM P t e k=true)
    {K:List Ct→Prop} {Q:Exit→Act→World→Prop} {v:OVal} (hx:F.getD x .un=.ov v) (hl:v.cells.length=k) (hK:K ((F.set x .un).set d (.ov (.one (.os none e k [v.cells]))))):o.wp P a w (zEj E S K) Q:=by
  obtain ⟨hd1,hd2⟩:=zAh hd
  subst hn
  have hps:∃ y,ps=#[(0,y)]∧zAc E.N (.t x) y=true:=by
    obtain ⟨l⟩:=ps
    match l,k0 with
    | [(i,y)],k0=>
      simp only [zFg,Bool.and_eq_true,beq_iff_eq] at k0
      exact ⟨y,by rw [←k0.1.1],k0.1.2⟩
    | [],k0=>simp [zFg] at k0
    | _::_::_,k0=>simp [zFg] at k0
  obtain ⟨y,rfl,hk⟩:=hps
  obtain ⟨rfl,hxN⟩:=zBK hk
  have hs:=h.slots x hxN
  rw [hx] at hs
  obtain ⟨fp,h1,h2,h3⟩:=hs
  have hcl:=h1.cells
  have hsz:(a.tmps.getD x undef).cells.size=k:=by rw [←Array.length_toList,hcl.length,hl]
  have hrun:=yH4 (P:=P) (w:=w) (a:=a) (ty:=0) he hsm hsz ho rfl rfl
  have hD:=zDm wf h fun g hg=>(h3 g hg).1
  have hloose:=zBw h h3
  let w':=w.alloc (.cells (a.tmps.getD x undef).cells.toList.toArray e)
  have hgrow:w.grownBy w' none:=World.grownBy_alloc w _ none
  have hown:ow w.heap.size=none:=by
    cases hb:ow w.heap.size with
    | none=>rfl
    | some t=>have:=h.lt _ _ hb;omega
  have hmn:∀ o,m w.heap.size o=none:=fun o=>by
    cases hm:m w.heap.size o with
    | none=>rfl
    | some u=>have:=zD2 h.mem hm;omega
  have hnf:w.heap.size∉fp:=fun hc=>by have:=(hloose _ hc).2.2.1;omega
  have hDw:InvG E S m β (dropB ow fp) (F.set x .un) a w':=hD.world (b:=w.heap.size) (by unfold dropB;rw [if_neg hnf];exact hown) hmn (.inl h.pres.size) ⟨hgrow.os,hgrow.tape,hgrow.output,hgrow.size,fun g hg _=>hgrow.block g hg (by simp)⟩ (zHT _ _ _ _ hrun)
  refine zAD hrun ⟨_,hK,?_⟩
  rw [hd1]
  refine zEM wf hDw hd2 (x:=.one (.os none e k [v.cells])) (fp:=w.heap.size::fp) ?_ (by rw [List.nodup_cons];exact ⟨hnf,h2⟩) ?_
  · refine zCg.2 ⟨(a.tmps.getD x undef).cells.toList,fp,?_,?_,by simp [hl],by simp [blk,Value.ownBlock],fun b hb=>by cases hb⟩
    · exact World.ownsRow_lit w _ 1 (Nat.zero_le _) (by simp [maxLen]) (by rw [List.size_toArray,Array.length_toList,hsz,Nat.one_mul])
    · simp only [List.flatten_cons,List.flatten_nil,List.append_nil]
      exact OvL.congr m.le_refl _ _ _ (fun g hg=>hgrow.block g (hloose g hg).2.2.1 (by simp)) hcl
  · intro g hg
    rcases List.mem_cons.1 hg with rfl|hg
    · exact ⟨by unfold dropB;rw [if_neg hnf];exact hown,.inl h.pres.size,by simp [w'],hmn⟩
    · exact (hloose.grow hgrow.size) g hg
theorem zP1 {pl:Nat→Option (Nat×Nat)}:∀ (l1:List (Nat×Value)) {us us':Array Value} (l2:List (Nat×Value)),Instr.fill pl us l1=some us'→Instr.fill pl us (l1++l2)=Instr.fill pl us' l2
  | [],us,us',l2,h=>by simp only [Instr.fill,Option.some.injEq] at h;rw [←h];rfl
  | (f,v)::l1,us,us',l2,h=>by
    simp only [List.cons_append]
    rw [Instr.fill] at h ⊢
    cases hp:pl f with
    | none=>rw [hp] at h;cases h
    | some q=>
      obtain ⟨off,size⟩:=q
      rw [hp] at h
      simp only at h ⊢
      by_cases hc:(decide (v.cells.size≠size)||decide (off+v.cells.size > us.size))=true
      · rw [if_pos hc] at h;cases h
      · rw [if_neg hc] at h
        rw [if_neg hc]
        exact zP1 l1 l2 h
theorem zKe {t:TypeId} {N:Nat}:∀ {p1 p2:List (Nat×Nat×Opd)} {ps:List (Nat×Operand)},zCq P N t (p1++p2) ps=true→∃ q1 q2,ps=q1++q2∧zCq P N t p1 q1=true∧zCq P N t p2 q2=true
  | [],p2,ps,h=>⟨[],ps,rfl,rfl,h⟩
  | x::p1,p2,[],h=>by simp [zCq] at h
  | (off,n,x)::p1,p2,(f,y)::ps,h=>by
    simp only [List.cons_append,zCq,Bool.and_eq_true] at h
    obtain ⟨q1,q2,rfl,h1,h2⟩:=zKe h.2
    exact ⟨(f,y)::q1,q2,rfl,by simp only [zCq,Bool.and_eq_true];exact ⟨h.1,h1⟩,h2⟩
theorem yMy (wf:E.Wf) (h:InvG E S m β ow F a w) {d off n:Nat} {zs:List PV} {parts:List (Nat×Nat×Opd)} {y:Opd} {o:Oper} (hd:zAG E.N (some d) o.dst=true) {t:TypeId} {ps:Array (Nat×Operand)} (ho:o.op=.build t ps) (k0:zCq P E.N t (parts++[(off,n,y)]) ps.toList=true) {z:Array Value} (hz:(P.info? t).bind (·.zero)=some (.agg z)) (hzo:zDj zs z.toList=true) (hpl:zJv P t=true)
    {K:List Ct→Prop} {Q:Exit→Act→World→Prop} (hpv:(zBi F zs parts).1) (hpn:(zBi F zs parts).2.length=zs.length) (hs:(zKd F y).1) (hl:(zKd F y).2.length=n) (hle:off+n≤zs.length) (hK:K ((clr F F y).set d (.ov (.agg (((zBi F zs parts).2.take off).map .p++(zKd F y).2++((zBi F zs parts).2.drop (off+n)).map .p))))):o.wp P a w (zEj E S K) Q:=by
  obtain ⟨hd1,hd2⟩:=zAh hd
  unfold zJv at hpl
  split at hpl
  · rename_i fs hu
    obtain ⟨places,hpl⟩:=Option.isSome_iff_exists.1 hpl
    obtain ⟨it,hit,hz'⟩:=Option.bind_eq_some_iff.1 hz
    obtain ⟨q1,q2,hq,k1,k2⟩:=zKe k0
    have hps:∃ f y',q2=[(f,y')]∧zAc E.N y y'=true∧∃ fd,fieldAt? P t f=some fd∧fd.offset=off∧zEc P fd.type=some n:=by
      match q2,k2 with
      | [(f,y')],k0=>
        simp only [zCq,Bool.and_eq_true] at k0
        obtain ⟨⟨k1,k2⟩,_⟩:=k0
        split at k1
        · rename_i fd hfd
          simp only [Bool.and_eq_true,beq_iff_eq] at k1
          exact ⟨f,y',rfl,k2,fd,hfd,k1.1,k1.2⟩
        · cases k1
      | [],k0=>simp [zCq] at k0
      | _::_::_,k0=>simp [zCq] at k0
    obtain ⟨f,y',rfl,hk,fd,hfd,rfl,hn⟩:=hps
    obtain ⟨us',hf1,hr⟩:=zPR h hu hpl k1 (zEG (m:=m) hzo) hpv
    obtain ⟨fp,hcl,h2,_,hD,_,hloose⟩:=yBc wf h hk hs (r:=match y with|.t s=>s+1|_=>0) (by rintro s rfl;simp)
    have hvl:(a.eval y').cells.toList.length=n:=by rw [hcl.length,hl]
    have hsz:(a.eval y').cells.size=n:=by rw [←Array.length_toList];exact hvl
    have hpf:places.toArray[f]?=some (fd.offset,n):=by
      have hfs:fs[f]?=some fd:=by unfold fieldAt? at hfd;rw [hu] at hfd;exact hfd
      have:=zNg hpl f fd (by simpa using hfs)
      rw [show places.toArray[f]?=places[f]? by simp,this]
      obtain ⟨i,hi,hin⟩:=Option.map_eq_some_iff.1 hn
      simp [hi,hin]
    have hus:=hr.length
    have hps2:(ps.map fun x=>(x.1,a.eval x.2)).toList=q1.map (fun x=>(x.1,a.eval x.2))++[(f,a.eval y')]:=by
      rw [Array.toList_map,hq,List.map_append]
      rfl
    have hb:P.built t (ps.map fun x=>(x.1,a.eval x.2)).toList=some (us'.take fd.offset++(a.eval y').cells.toList++us'.drop (fd.offset+n)).toArray:=by
      have e0:(Value.agg z).cells=z:=rfl
      unfold Program.built
      simp only [hit,hu,hz',hpl,e0]
      rw [hps2,zP1 _ _ hf1]
      conv=>lhs;unfold Instr.fill
      simp only [hpf]
      rw [if_neg (by rw [hsz];simp [hus];omega)]
      simp only [Instr.fill]
      congr 1
      rw [←Array.foldl_toList,Array.toList_zipIdx]
      have:=zPQ fd.offset (a.eval y').cells.toList us'.toArray (by rw [hvl];simp [hus];omega)
      rw [hvl] at this
      simpa using this
    have hrun:(execOp a.eval o).run P w=.ok (.value (.agg (us'.take fd.offset++(a.eval y').cells.toList++us'.drop (fd.offset+n)).toArray)) w:=by
      unfold execOp;rw [ho]
      have hrun:=run_build w t (ps.map fun x=>(x.1,a.eval x.2)) _ hb
      simp only [Sem.run_bind,hrun,Result.andThen_ok]
      rfl
    refine zAD hrun ⟨_,hK,?_⟩
    rw [hd1]
    have h1:RpL m ((zBi F zs parts).2.take fd.offset) (us'.take fd.offset):=by simpa using hr.sub 0 fd.offset
    have h3:RpL m ((zBi F zs parts).2.drop (fd.offset+n)) (us'.drop (fd.offset+n)):=by
      have:=hr.sub (fd.offset+n) (zBi F zs parts).2.length
      rw [List.take_of_length_le (by simp),List.take_of_length_le (by simp [hus])] at this
      exact this
    refine zEM wf hD hd2 (x:=.agg _) (fp:=fp) ⟨_,rfl,?_⟩ h2 hloose
    have:=((OvL.of_rp (w:=w) h1).append hcl).append (OvL.of_rp (w:=w) h3)
    simpa using this
  · cases hpl
theorem yH5 (wf:E.Wf) (h:InvG E S m β ow F a w) {k:Nat} {y:Opd} {y':Operand} (hk:zAc E.N y y'=true) (hs:(zSD F k y).1) {r:Nat} (hr:∀ s,y=.t s→r≠s):
    ∃ A c news fy fall,a.eval y'=.slice A (zSD F k y).2.length c∧news.length=(zSD F k y).2.length * k∧OvL m w (zSD F k y).2.flatten news fy∧(∀ r∈(zSD F k y).2,r.length=k)∧(0 < (zSD F k y).2.length→∃ q,A=some q∧∀ j u,news[j]?=some u→w.cell? (q.add j)=some u)∧
      fy.Nodup∧(∀ g∈fy,g∈fall)∧(∀ g∈fall,∃ s,y=.t s∧ow g=some (.key s)∧∀ o,m g o=none)∧InvG E S m β (dropB ow fall) (clr F F y) a w∧Loose S m w (dropB ow fall) fall:=by
  unfold zSD at hs ⊢
  split at hs
  · rename_i pb e k' rs hv
    subst hs
    obtain ⟨n,rfl,hn,hrep⟩:=zA4 h hk hv (by intro p;simp)
    obtain ⟨fp,h1,h2,h3⟩:=hrep
    have hg:F.getD n .un=.ov (.one (.os pb e k' rs)):=hv
    have hD:=zDm wf h fun g hg=>(h3 g hg).1
    have hl:=zBw h h3
    obtain ⟨xs,f,g1,g2,g3,rfl,g5⟩:=zCg.1 h1
    have hh:=zPO h1
    obtain ⟨⟨A,c,hv',_,_⟩,_⟩:=hh
    rw [List.nodup_append] at h2
    refine ⟨A,c,xs,f,blk (a.eval y')++f,by simp only [hv];exact hv',by simp only [hv];exact g1.1,by simp only [hv];exact g2,by simp only [hv];exact g3,?_,h2.2.1,fun g hg=>List.mem_append_right _ hg,fun g hg=>⟨n,rfl,h3 g hg⟩,by simp only [clr,hg];exact hD,hl⟩
    simp only [hv]
    intro hpos
    rcases g1.2 with ⟨_,h0⟩|⟨g,cap,cur,e1,_⟩
    · omega
    · rw [e1] at hv'
      injection hv' with hA
      exact ⟨⟨g,0,none⟩,hA.symm,fun j u hu=>g1.cells (g:=g) (by rw [e1];rfl) j u hu⟩
  · split at hs
    · rename_i hno _ k' rs hp
      obtain ⟨hn,rfl⟩:=hs
      have hc:clr F F y=F:=by
        cases y with
        | t n=>
          simp only [clr]
          split
          · rename_i v e1
            simp only [zAf] at hp
            rw [e1] at hp
            cases hp
          · rfl
        | c p=>rfl
        | f n=>rfl
      have e0:dropB ow []=ow:=by funext b;simp [dropB]
      obtain ⟨A,c,hyv,_,_,hyr⟩:=zAI h hk hn hp
      have hnews:∃ news:List Value,news.length=rs.length * k'∧RpL m rs.flatten news∧(∀ r∈rs,r.length=k')∧(0 < rs.length→∃ q,A=some q∧∀ j u,news[j]?=some u→w.cell? (q.add j)=some u):=by
        rcases hyr with hyr|⟨b,o',rfl,hyr⟩
        · subst hyr
          exact ⟨[],by simp,by simp [RpL],by simp,by simp⟩
        · obtain ⟨us,h1,h2,h3⟩:=hyr.vals
          refine ⟨us,h1,h2,fun r hr'=>?_,fun _=>⟨_,rfl,fun j u hu=>by rw [zBj];exact h.mem _ _ _ (h3 j u hu)⟩⟩
          obtain ⟨i,hi⟩:=List.getElem?_of_mem hr'
          exact (hyr.get i r hi).1
      obtain ⟨news,n1,n2,n3,n4⟩:=hnews
      have hmap:(rs.map fun r=>r.map OV.p).flatten=rs.flatten.map OV.p:=by
        induction rs with
        | nil=>rfl
        | cons r rs ih=>simp [List.map_flatten]
      refine ⟨A,c,news,[],[],?_,?_,?_,?_,?_,List.nodup_nil,by simp,by simp,by rw [hc,e0];exact h,by simp [Loose]⟩
      · simp only [List.length_map];exact hyv
      · simp only [List.length_map];exact n1
      · simp only [hmap];exact OvL.of_rp n2
      · intro r hr
        obtain ⟨r',hr',rfl⟩:=List.mem_map.1 hr
        rw [List.length_map];exact n3 r' hr'
      · simp only [List.length_map];exact n4
    · exact hs.elim
theorem yMz (wf:E.Wf) (h:InvG E S m β ow F a w) {d e k x:Nat} {y:Opd} {o:Oper} (hd:zAG E.N (some d) o.dst=true) {x' y':Operand} {t:TypeId} (ho:o.op=.call {callee:=.builtin .append,args:=#[x',y'],argTypes:=#[t,t]}) (hk1:zAc E.N (.t x) x'=true) (hk2:zAc E.N y y'=true) (he:zDM P t e k=true) {K:List Ct→Prop} {Q:Exit→Act→World→Prop}
    {pb:Option Nat} {rows:List (List OV)} (hx:F.getD x .un=.ov (.one (.os pb e k rows))) (hxy:∀ n,y=.t n→x≠n) (hs:(zSD F k y).1) (hb:(rows.length+(zSD F k y).2.length) * 4096≤140737488355328)
    (hK:K ((clr F (F.set x .un) y).set d (.ov (.one (.os none e k (rows++(zSD F k y).2)))))):o.wp P a w (zEj E S K) Q:=by
  obtain ⟨hd1,hd2⟩:=zAh hd
  obtain ⟨rfl,hxN⟩:=zBK hk1
  obtain ⟨A,c,news,fy,fall,y1,y2,y3,y4,y5,y6,y7,y8,y9,y10⟩:=yH5 wf h hk2 hs hxy
  have hxF:(clr F F y).getD x .un=F.getD x .un:=by
    unfold clr
    split
    · split
      · rw [zBc,if_neg (fun e=>hxy _ rfl e.1.symm)]
      · rfl
    · rfl
  have hrep:=y9.slots x hxN
  rw [hxF,hx] at hrep
  obtain ⟨fp,h1,h2,h3⟩:=hrep
  obtain ⟨xs,f,g1,g2,g3,rfl,g5⟩:=zCg.1 h1
  have hD:=zDm wf y9 fun g hg=>(h3 g hg).1
  have hloose:=zBw y9 h3
  have hloosey:Loose S m w (dropB (dropB ow fall) (blk (a.tmps.getD x undef)++f)) fall:=y10.dropB
  have hflat:∀ u∈news,u.oneCell'=true:=fun u hu=>zB1 (y3.flat_ u hu)
  obtain ⟨v',w',hrun,hown',hwhere⟩:=yA7 (P:=P) (ty:=o.type) he g1 y1 y2 y5 hflat (.inl hb)
  have hr:(execOp a.eval o).run P w=.ok (.value v') w':=by
    obtain ⟨dst,op,ty,pos,after,gd⟩:=o
    simp only at ho
    subst ho
    rw [BigFrame.execOp_builtin,BigFrame.builtin_append]
    have e1:(#[Operand.tmp x,y'].map a.eval)=#[a.tmps.getD x undef,a.eval y']:=by simp [Act.eval]
    rw [e1]
    simp only [Sem.run_bind,hrun,Result.andThen_ok]
    rfl
  have hfdis:∀ g∈blk (a.tmps.getD x undef)++f,g∉fall:=by
    intro g hg hc
    have:=(h3 g hg).1
    simp [dropB,hc] at this
  have hnb:∀ g,v'.ownBlock=some g→(dropB (dropB ow fall) (blk (a.tmps.getD x undef)++f)) g=none∧(S.w0.heap.size≤g∨S.R0 g)∧(∀ o,m g o=none)∧g∉f∧g∉fy:=by
    intro g hg
    rcases hwhere with ⟨e1,_⟩|⟨e1,_⟩
    · rw [e1] at hg
      have hm:=zCP.2 hg
      have hl:=hloose g (List.mem_append_left _ hm)
      rw [List.nodup_append] at h2
      exact ⟨hl.1,hl.2.1,hl.2.2.2,fun hc=>h2.2.2 g hm g hc rfl,fun hc=>hfdis g (List.mem_append_left _ hm) (y7 g hc)⟩
    · rw [e1] at hg
      injection hg with hg
      subst hg
      refine ⟨?_,.inl h.pres.size,fun o=>?_,fun hc=>?_,fun hc=>?_⟩
      · cases hb:dropB (dropB ow fall) (blk (a.tmps.getD x undef)++f) w.heap.size with
        | none=>rfl
        | some t=>have:=hD.lt _ _ hb;omega
      · cases hm:m w.heap.size o with
        | none=>rfl
        | some u=>have:=zD2 h.mem hm;omega
      · have:=(hloose _ (List.mem_append_right _ hc)).2.2.1;omega
      · have:=(hloosey _ (y7 _ hc)).2.2.1;omega
  have hblock:∀ b,b < w.heap.size→v'.ownBlock≠some b→w'.heap[b]?=w.heap[b]?:=by
    intro b hb hne'
    rcases hwhere with ⟨e1,g⟩|⟨_,g⟩
    · exact g.block b hb (fun e=>hne' (by rw [e1];exact e.symm))
    · exact g.block b hb (by simp)
  have hsize:w.heap.size≤w'.heap.size:=by rcases hwhere with ⟨_,g⟩|⟨_,g⟩<;>exact g.size
  have hDw:InvG E S m β (dropB (dropB ow fall) (blk (a.tmps.getD x undef)++f)) ((clr F F y).set x .un) a w':=by
    have hos:w'.os=w.os∧w'.tape=w.tape∧w'.output=w.output:=by rcases hwhere with ⟨_,g⟩|⟨_,g⟩<;>exact ⟨g.os,g.tape,g.output⟩
    have hmem:MemOk m w':=by
      intro g o' u hu
      have hne:v'.ownBlock≠some g:=fun e=>by rw [(hnb g e).2.2.1 o'] at hu;cases hu
      rw [World.cell?_of_block (w:=w) (hblock g (zD2 h.mem hu) hne)]
      exact h.mem g o' u hu
    refine hD.quiet ⟨m.le_refl,hmem,fun g t hg=>hblock g (hD.lt g t hg) (fun e=>by rw [(hnb g e).1] at hg;cases hg),fun _ _ _ _=>rfl,fun _ _ _ h=>.inl h,⟨hos.1,hos.2.1,hos.2.2,hsize,fun g hg hn=>hblock g hg fun e=>?_,fun _=>zHT _ _ _ _ hr⟩⟩
    exact hn ((hnb g e).2.1.elim .inr .inl)
  have hFeq:(clr F F y).set x .un=clr F (F.set x .un) y:=by
    unfold clr
    split
    · split
      · exact List.set_comm _ _ (fun e=>hxy _ rfl e.symm)
      · rfl
    · rfl
  rw [hFeq] at hDw
  have hkf:∀ g∈f,w'.heap[g]?=w.heap[g]?:=fun g hg=>hblock g (hloose g (List.mem_append_right _ hg)).2.2.1 fun e=>(hnb g e).2.2.2.1 hg
  have hky:∀ g∈fy,w'.heap[g]?=w.heap[g]?:=fun g hg=>hblock g (hloosey g (y7 g hg)).2.2.1 fun e=>(hnb g e).2.2.2.2 hg
  refine zAD hr ⟨_,hK,?_⟩
  rw [hd1]
  refine zEM wf hDw hd2 (x:=.one (.os none e k (rows++(zSD F k y).2))) (fp:=blk v'++(f++fy)) ?_ ?_ ?_
  · refine zCg.2 ⟨xs++news,f++fy,by rw [List.length_append];exact hown',?_,?_,rfl,fun b hb=>by cases hb⟩
    · rw [List.flatten_append]
      exact (OvL.congr m.le_refl _ _ _ hkf g2).append (OvL.congr m.le_refl _ _ _ hky y3)
    · intro r' hr'
      rcases List.mem_append.1 hr' with hr'|hr'
      · exact g3 r' hr'
      · exact y4 r' hr'
  · rw [List.nodup_append] at h2
    rw [List.nodup_append,List.nodup_append]
    refine ⟨?_,⟨h2.2.1,y6,fun g hg g' hg' e=>?_⟩,fun g hg g' hg' e=>?_⟩
    · unfold blk
      cases v'.ownBlock<;>simp
    · subst e;exact hfdis g (List.mem_append_right _ hg) (y7 g hg')
    · subst e
      rcases List.mem_append.1 hg' with hg'|hg'
      · exact (hnb g (zCP.1 hg)).2.2.2.1 hg'
      · exact (hnb g (zCP.1 hg)).2.2.2.2 hg'
  · intro g hg
    rcases List.mem_append.1 hg with hg|hg
    · have:=hnb g (zCP.1 hg)
      exact ⟨this.1,this.2.1,(hown'.lt g (zCP.1 hg)).2,this.2.2.1⟩
    · rcases List.mem_append.1 hg with hg|hg
      · exact (hloose.grow hsize) g (List.mem_append_right _ hg)
      · exact (hloosey.grow hsize) g (y7 g hg)
theorem zKf:∀ (l1 l2:List Ct) (F:List Ct) (i:Nat),l1.length=l2.length→zAl (zAl F i l1) i l2=zAl F i l2
  | [],[],F,i,_=>rfl
  | c::l1,c'::l2,F,i,h=>by
    have hc:∀ (l:List Ct) (G:List Ct) (k q:Nat) (x:Ct),q < k→(zAl G k l).set q x=zAl (G.set q x) k l:=by
      intro l
      induction l with
      | nil=>intro G k q x _;rfl
      | cons y l ih=>
        intro G k q x hq
        simp only [zAl]
        rw [ih _ _ _ _ (by omega),List.set_comm _ _ (by omega)]
    simp only [zAl]
    rw [hc l1 _ _ _ _ (by omega),List.set_set]
    exact zKf l1 l2 _ _ (by simpa using h)
theorem yMA (wf:E.Wf) (h:InvG E S m β ow F a w) {d j base n x:Nat} {o:Oper} (hfj:E.nfix≤j) (hd:zAG E.N (some d) o.dst=true) {t:TypeId} {y:Operand} (ho:o.op=.box t y) (hk:zAc E.N (.t x) y=true) (hb:zPX E j base n=true) {K:List Ct→Prop} {Q:Exit→Act→World→Prop} {v:OVal}
    (hx:F.getD x .un=.ov v) (hn:v.cells.length=n) (hK:K (zAl ((((F.set x .un).map (zEe j))).set d (.ptr j 0)) base (v.cells.map zOa))):o.wp P a w (zEj E S K) Q:=by
  obtain ⟨hd1,hd2⟩:=zAh hd
  obtain ⟨rfl,hyN⟩:=zBK hk
  have hrep:=h.slots x hyN
  rw [hx] at hrep
  obtain ⟨fp,r1,r2,r3⟩:=hrep
  have hD:=zDm wf h fun g hg=>(r3 g hg).1
  have hloose:=zBw h r3
  have hcl:=r1.cells
  have hev:a.eval (.tmp x)=a.tmps.getD x undef:=rfl
  have hlen:(a.tmps.getD x undef).cells.toList.length=n:=by rw [hcl.length,hn]
  have hr:(execOp a.eval o).run P w=.ok (.value (.pointer (some ⟨w.heap.size,0,none⟩))) (w.alloc (.cells (a.tmps.getD x undef).cells.toList.toArray t)):=by
    unfold execOp;rw [ho]
    simp [Instr.box,newVar,newRow,hev]
  have hj:=zDW hb
  have hN:=yKe wf hD hfj hd2 hj hlen t
  have hsame:∀ g∈fp,(w.alloc (.cells (a.tmps.getD x undef).cells.toList.toArray t)).heap[g]?=w.heap[g]?:=fun g hg=>Below.heap_alloc w _ g (hloose g hg).2.2.1
  obtain ⟨ow',hA⟩:=zP0 wf hj (b:=w.heap.size) (by simp) v.cells _ fp _ _ 0 hN (by omega) (OvL.congr m.le_refl _ _ _ hsame hcl) r2 (fun g hg=>by
    obtain ⟨a1,a2,a3,a4⟩:=hloose g hg
    refine ⟨?_,a2,by simp;omega,a4⟩
    rw [if_neg (by omega)]
    exact a1) (fun i u hu=>by
      rw [Nat.zero_add,cell_of_row _ _ i _ t (0,0) (heap_alloc_new w _)]
      simpa using hu)
  rw [Nat.add_zero,zKf _ _ _ _ (by simp [hn])] at hA
  refine zAD hr ⟨_,hK,?_⟩
  rw [hd1]
  exact ⟨_,_,ow',hA⟩
end
end Go.Hx
