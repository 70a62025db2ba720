/-
  Walks of functions of the program over an abstract layer, and the laws that they use: each contract says what the function computes, for every input that its conditions let by. No other condition.
-/
import Derived.Test.YtjnagiaooecklabGreatDoorG5
set_option linter.all false
section
/-
 THE ABSTRACT LAYER, EIGHTH TEXT: slice literals that may be appended to, panics, calls; every operation is sound. Generic over the program. No condition.
-/
namespace Go.Hx
open Go.RowKit
variable [Glob]
section
variable {P:Program} {E:Env} {S:Start} {m:Mem} {β:Bx} {ow:Ow} {F:List Ct} {a:Act} {w:World}
theorem yHa (wf:E.Wf) (h:InvG E S m β ow F a w) {d e k n:Nat} {parts:List Opd} {o:Oper} (hd:zAF E.N (some d) o.dst=true) {t:TypeId} {ps:Array (Nat×Operand)} (ho:o.op=.buildSlice t n ps) (k0:zDf E.N 0 parts ps.toList=true) (hn:n=parts.length) (hsm:n * k≤2 ^ 24) (he:zC5 P t e k=true)
  {K:List Ct→Prop} {Q:Exit→Act→World→Prop} (hc:(zDz F k parts).1) (hK:K (F.set d (.own e k (zDz F k parts).2))):o.wp P a w (zDe E S K) Q:=by
 obtain ⟨hd1,hd2⟩:=zAf hd
 obtain ⟨hu,hk,ie,z,hie,hsz,hby,hz',hzs⟩:=zGB he
 obtain ⟨h1,h2,h3,h4,h5,h6⟩:=zSI h k0 hc
 have hev:(ps.map fun x=>(x.1,a.eval x.2)).toList=((ps.toList.map fun x=>a.eval x.2).zipIdx 0).map (fun x=>(x.2,x.1)):=by rw [Array.toList_map];exact h1
 have hs:zDc P e=some k:=by simp [zDc,hie,hsz]
 have hrun:∃ us:List Value,us.length=n * k∧RpL m (zDz F k parts).2.flatten us∧(execOp a.eval o).run P w=.ok (.value (.slice (some ⟨w.heap.size,0,none⟩) n n)) (w.alloc (.cells us.toArray e)):=by
  rcases Nat.eq_zero_or_pos n with h0|h0
  ·refine ⟨[],by simp [h0],?_,?_⟩
   ·have:parts=[]:=List.eq_nil_of_length_eq_zero (by omega)
    subst this
    simp [zDz,RpL]
   ·have hps:ps=#[]:=by
     apply Array.ext'
     exact List.eq_nil_of_length_eq_zero (by rw [h2];omega)
    unfold execOp;rw [ho]
    subst hps
    simp [h0,Instr.buildSlice,run_underlying hu,zBj hs,Instr.fill,newRow]
    congr 2
    exact Array.eq_empty_of_size_eq_zero (by simp)
  ·refine ⟨_,?_,h6,?_⟩
   ·have:((ps.toList.map fun x=>a.eval x.2).flatMap fun v=>v.cells.toList).length=(ps.toList.map fun x=>a.eval x.2).length * k:=by
     rw [List.length_flatMap]
     have hall:∀ l:List Value,(∀ v∈l,v.cells.size=k)→(l.map fun v=>v.cells.toList.length).sum=l.length * k:=by
      intro l
      induction l with
      |nil=>simp
      |cons v l ih=>
       intro hl
       simp only [List.map_cons,List.sum_cons,List.length_cons]
       rw [ih (fun u hu=>hl u (List.mem_cons_of_mem _ hu)),Array.length_toList,hl v List.mem_cons_self,Nat.add_mul]
       omega
     exact hall _ h4
    rw [this,List.length_map,h2,hn]
   ·have hf:=Great.fill_whole (s:=ie.size) (by omega) (ps.toList.map fun x=>a.eval x.2) ((Array.range (n * ie.size)).map (z.cells[· % z.cells.size]!)) (by rw [hsz];exact h4) (by simp [h2,hn])
    have hpos:¬ n * ie.size=0:=by rw [hsz];exact Nat.mul_ne_zero (by omega) (by omega)
    have hr:=run_buildSlice (P:=P) w t e n (ps.map fun x=>(x.1,a.eval x.2)) _ ie z hu hie hz' (by rw [hsz];omega) hpos (by rw [hev];exact hf)
    unfold execOp;rw [ho]
    simp only [Sem.run_bind,hr,Result.andThen_ok]
    rfl
 obtain ⟨us,hul,hus,hrun⟩:=hrun
 have hlen:(zDz F k parts).2.length=n:=by rw [h3,hn]
 have q:=Quiet.newBlock h us e
 have hle:m.le (m.put w.heap.size us):=q.le
 have hnm:n≤maxLen:=by
  have:n≤n * k:=Nat.le_mul_of_pos_right n hk
  simp only [maxLen];omega
 have st:Step (fun _=>False) m (m.put w.heap.size us) w (w.alloc (.cells us.toArray e)) ow (fun b=>if b=w.heap.size then some (.key d) else ow b):=by
  refine ⟨hle,fun g t hg _=>⟨q.heap g t hg,fun o'=>q.free g t o' hg,?_⟩⟩
  have:=h.lt g t hg
  rw [if_neg (by omega)]
  exact hg
 refine zAC hrun ⟨_,hK,m.put w.heap.size us,β,fun b=>if b=w.heap.size then some (.key d) else ow b,?_⟩
 rw [hd1]
 have hL:=h.lenF
 have hle2:=wf.le
 refine h.step st (by simp) (by simp [Act.put]) rfl ?_ ?_ q.mem q.pres ?_ ?_ q.new
 ·intro i hi
  rw [zAG (by omega),zGA (by rw [h.lenA];exact hd2)]
  by_cases h1':d=i
  ·subst h1'
   right
   rw [if_pos rfl,if_pos rfl]
   refine ⟨⟨us,?_⟩,fun g hg=>?_⟩
   ·rw [hlen]
    refine ⟨hul,.inr ⟨w.heap.size,n,us.toArray,rfl,Nat.zero_le _,heap_alloc_new w _,Nat.le_refl _,hnm,by simp [hul],?_⟩⟩
    simp [←hul]
   ·simp only [Value.ownBlock,Option.some.injEq] at hg
    subst hg
    refine ⟨by simp,RpRows.of_flat h5 (RpL.mono hle _ _ hus) fun i u hi=>by simp [Mem.put,hi],fun o' ho'=>?_⟩
    simp only [Mem.put,if_true]
    exact List.getElem?_eq_none (by rw [hul,←hlen];exact ho')
  ·left
   rw [if_neg h1',if_neg h1']
   exact ⟨rfl,rfl,.inl id⟩
 ·intro j bn hj
  left
  have:=wf.lo j bn hj
  refine ⟨id,fun o' ho'=>⟨?_,id⟩⟩
  rw [zAG (by omega),if_neg (by omega)]
 ·intro b t hb
  split at hb
  ·rename_i e'
   exact .inl (by rw [e'];exact h.pres.size)
  ·exact h.own b t hb
 ·intro b t hb
  split at hb
  ·rename_i e'
   rw [e'];simp
  ·have:=h.lt b t hb
   simp;omega
theorem yEG (h:InvG E S m β ow F a w) {x:Opd} {y:Operand} {o:Oper} (ho:(∃ ats,o.op=.call {callee:=.builtin .panic,args:=#[y],argTypes:=ats})∨o.op=.panic y) (hk:zAe E.N x y=true) {ti:TypeId} {u':Value} (hx:(zAp F x).pv?=some (.one (.v (.iface ti u')))) (hne:(zAp F x).need)
  {K:Act→World→Prop} {Q:Exit→Act→World→Prop} (hQ:Q (.panic [{v:=.iface ti u',recovered:=false}]) a w):o.wp P a w K Q:=by
 have hv:a.eval y=.iface ti u':=(zAT h hk hne hx).1
 have hp:(Instr.panic (.iface ti u')).run P w=.halt (.panic (.iface ti u')) w:=rfl
 have hr:(execOp a.eval o).run P w=.halt (.panic (.iface ti u')) w:=by
  rcases ho with ⟨ats,ho⟩|ho
  ·obtain ⟨dst,op,ty,pos,after,gd⟩:=o
   simp only at ho
   subst ho
   rw [BigFrame.execOp_builtin,BigFrame.builtin_panic]
   simp [hv,hp]
  ·unfold execOp;rw [ho]
   simp [hv,hp]
 unfold Oper.wp
 rw [hr]
 exact hQ
theorem zJn {j base sz b:Nat} (hB:BoxRep m w ow F j (base,sz) (some b)) {cs:List PV} (hc:zA6 F base sz=some cs):∃ vs T,w.heap[b]?=some (.cells vs T (0,0))∧vs.size=sz∧RpL m cs vs.toList:=by
 obtain ⟨us,h1,h2,h3⟩:=zJi hB sz 0 (by omega) cs (by simpa using hc)
 obtain ⟨_,_,vs,T,hh,hsz,_⟩:=hB
 refine ⟨vs,T,hh,hsz,?_⟩
 have:us=vs.toList:=by
  apply List.ext_getElem?
  intro i
  by_cases hi:i < us.length
  ·have:=h3 i _ (List.getElem?_eq_getElem hi)
   rw [Nat.zero_add,cell_of_row w b i vs T (0,0) hh] at this
   rw [List.getElem?_eq_getElem hi,Array.getElem?_toList,this]
  ·simp only at hsz
   rw [List.getElem?_eq_none (by omega),List.getElem?_eq_none (by simp;omega)]
 rw [←this]
 exact h2
theorem zDh (h:InvG E S m β ow F a w):∀ {args:List (Opd×AM)} {ys:List Operand},zEa E args ys=true→(zBp F args).1→
  ArgsRep m w (zBp F args).2 (ys.map a.eval)∧
  (∀ g,zHS (zBp F args).2 (ys.map a.eval)=some g→∃ n e k rows,zBh args=some n∧n < E.N∧F.getD n .un=.own e k rows∧ow g=some (.key n))∧
  (∀ n,zBh args=some n→n < E.N∧∃ e k rows,F.getD n .un=.own e k rows∧zHS (zBp F args).2 (ys.map a.eval)=(a.tmps.getD n undef).ownBlock)∧
  (∀ b,ioB (zBp F args).2 (ys.map a.eval)=some b→∃ j base sz,zDZ args=some (j,base,sz)∧E.Γ[j]?=some (base,sz)∧β j=some b∧zM9 (zBp F args).2=sz)∧
  (∀ j base sz,zDZ args=some (j,base,sz)→E.Γ[j]?=some (base,sz)∧∃ b,β j=some b∧ioB (zBp F args).2 (ys.map a.eval)=some b)
 |[],[],_,_=>by simp [zBp,ArgsRep,zHS,ioB,zBh,zDZ]
 |[],_::_,hk,_=>by simp [zEa] at hk
 |_::_,[],hk,_=>by simp [zEa] at hk
 |(x,mo)::r,y::ys,hk,hc=>by
  simp only [zEa,Bool.and_eq_true] at hk
  obtain ⟨⟨hk1,hk2⟩,hk3⟩:=hk
  cases mo with
  |v=>
   simp only [zBp] at hc ⊢
   split at hc
   ·rename_i p e1
    obtain ⟨c1,c2⟩:=hc
    obtain ⟨i1,i2,i3,i4,i5⟩:=zDh h hk3 c2
    have hv:=(zAT h hk1 c1 e1).norm
    exact ⟨⟨_,_,rfl,hv,i1⟩,i2,i3,i4,i5⟩
   ·exact hc.elim
  |r=>
   simp only [zBp] at hc ⊢
   split at hc
   ·rename_i p e1
    obtain ⟨c1,c2⟩:=hc
    obtain ⟨i1,i2,i3,i4,i5⟩:=zDh h hk3 c2
    have hv:=zAT h hk1 c1 e1
    exact ⟨⟨_,_,rfl,hv,i1⟩,i2,i3,i4,i5⟩
   ·exact hc.elim
  |o=>
   simp only [zBp] at hc ⊢
   split at hc
   ·rename_i e k rows e1
    obtain ⟨i1,i2,i3,i4,i5⟩:=zDh h hk3 hc
    cases x with
    |t n=>
     obtain ⟨rfl,hn⟩:=zBd hk1
     simp only [zAp] at e1
     have hrep:=h.slots n hn
     rw [e1] at hrep
     refine ⟨⟨_,_,rfl,OwnRep.at_ hrep,i1⟩,?_,?_,i4,i5⟩
     ·intro g hg
      exact ⟨n,e,k,rows,rfl,hn,e1,(hrep.2 g hg).1⟩
     ·intro n' hn'
      simp only [zBh,Option.some.injEq] at hn'
      subst hn'
      exact ⟨hn,e,k,rows,e1,rfl⟩
    |c p=>simp [zAp] at e1
    |f n=>simp [zAp] at e1
   ·exact hc.elim
  |n e k=>
   simp only [zBp] at hc ⊢
   split at hc
   ·rename_i kk e1
    obtain ⟨i1,i2,i3,i4,i5⟩:=zDh h hk3 hc
    have hv:a.eval y=.slice none 0 0:=zAT h hk1 (p:=.one (.nl kk)) (by rw [e1];trivial) (by rw [e1];rfl)
    refine ⟨⟨_,_,rfl,by rw [hv];exact OwnAt.nil m w e k,i1⟩,?_,?_,i4,i5⟩
    ·intro g hg
     simp only [List.map_cons,hv,zHS,Value.ownBlock] at hg
     cases hg
    ·intro n' hn'
     simp [zBh] at hn'
   ·exact hc.elim
  |i j base sz=>
   simp only [zBp] at hc ⊢
   split at hc
   ·rename_i j' cs e1 e2
    obtain ⟨rfl,hc⟩:=hc
    obtain ⟨i1,i2,i3,i4,i5⟩:=zDh h hk3 hc
    obtain ⟨b,hb,hv⟩:=zCd h hk1 e1
    have hj:=zDK (by simpa using hk2)
    have hB:=h.boxes j' _ hj
    rw [hb] at hB
    obtain ⟨vs,T,hh,hsz,hr⟩:=zJn hB e2
    have hcl:cs.length=sz:=by rw [←hr.length,Array.length_toList,hsz]
    refine ⟨⟨_,_,rfl,⟨b,vs,T,hv,hh,hB.2.1,hr⟩,i1⟩,i2,i3,?_,?_⟩
    ·intro b' hb'
     simp only [List.map_cons,hv,ioB,yGW,Option.some.injEq] at hb'
     subst hb'
     exact ⟨j',base,sz,rfl,hj,hb,hcl⟩
    ·intro j2 base2 sz2 h2
     simp only [zDZ,Option.some.injEq,Prod.mk.injEq] at h2
     obtain ⟨rfl,rfl,rfl⟩:=h2
     exact ⟨hj,b,hb,by simp [hv,ioB,yGW]⟩
   ·exact hc.elim
theorem zXN (wf:E.Wf) {j base sz:Nat} (hj:E.Γ[j]?=some (base,sz)) {F:List Ct} {io:Option (List PV)} {i:Nat} (hi:i < E.N):(zGy F io (some (j,base,sz))).getD i .un=F.getD i .un:=by
 have:=wf.lo j _ hj
 simp only at this
 simp only [zGy]
 rw [zAs,if_neg (by omega)]
theorem ArgsRep.length:∀ {as:List AV} {us:List Value},ArgsRep m w as us→us.length=as.length
 |[],us,h=>by simp only [ArgsRep] at h;subst h;rfl
 |x::xs,us,h=>by
  simp only [ArgsRep] at h
  obtain ⟨u,us',rfl,_,h3⟩:=h
  simp [ArgsRep.length h3]
theorem zVN:∀ {extra:List AV} {us2:List Value},(∀ x∈extra,∃ p,x=.val p)→zHS extra us2=none
 |[],_,_=>rfl
 |x::xs,[],_=>rfl
 |x::xs,u::us,h=>by
  obtain ⟨p,rfl⟩:=h x List.mem_cons_self
  simp only [zHS]
  exact zVN fun y hy=>h y (List.mem_cons_of_mem _ hy)
theorem zZA:∀ {extra:List AV} {us2:List Value},(∀ x∈extra,∃ p,x=.val p)→ioB extra us2=none
 |[],_,_=>rfl
 |x::xs,[],_=>rfl
 |x::xs,u::us,h=>by
  obtain ⟨p,rfl⟩:=h x List.mem_cons_self
  simp only [ioB]
  exact zZA fun y hy=>h y (List.mem_cons_of_mem _ hy)
theorem zEp {extra:List AV} {us2:List Value} (h:∀ x∈extra,∃ p,x=.val p):∀ {as:List AV} {us:List Value},us.length=as.length→zHS (as++extra) (us++us2)=zHS as us
 |[],[],_=>by simpa [zHS] using zVN h
 |[],_::_,hl=>by simp at hl
 |_::_,[],hl=>by simp at hl
 |x::as,u::us,hl=>by
  have:=zEp (us2:=us2) h (as:=as) (us:=us) (by simpa using hl)
  cases x<;>simp only [List.cons_append,zHS]<;>exact this
theorem zFt {extra:List AV} {us2:List Value} (h:∀ x∈extra,∃ p,x=.val p):∀ {as:List AV} {us:List Value},us.length=as.length→ioB (as++extra) (us++us2)=ioB as us
 |[],[],_=>by simpa [ioB] using zZA h
 |[],_::_,hl=>by simp at hl
 |_::_,[],hl=>by simp at hl
 |x::as,u::us,hl=>by
  have:=zFt (us2:=us2) h (as:=as) (us:=us) (by simpa using hl)
  cases x<;>simp only [List.cons_append,ioB]<;>exact this
theorem zEH {extra:List AV}:∀ {as:List AV} {us:List Value} {b:Nat},ioB as us=some b→zM9 (as++extra)=zM9 as
 |[],_,_,h=>by simp [ioB] at h
 |_::_,[],_,h=>by simp [ioB] at h
 |x::as,u::us,b,h=>by
  cases x with
  |io cells=>simp [zM9]
  |val p=>simp only [ioB] at h;simp only [List.cons_append,zM9];exact zEH h
  |own e k rows=>simp only [ioB] at h;simp only [List.cons_append,zM9];exact zEH h
theorem yAF (wf:E.Wf) (h:InvG E S m β ow F a w) {args:List (Opd×AM)} {ys:List Operand} (hk:zEa E args ys=true) (hc:(zBp F args).1) {extra:List AV} {us2:List Value} (hx:∀ x∈extra,∃ p,x=.val p) {r:RV} {e:Ending} {w':World}
  (hp:yGY m w ((zBp F args).2++extra) (ys.map a.eval++us2) r e w'):
  ∃ (m':Mem) (ow1:Ow) (ob:Option Nat),InvG E S m' β ow1 (zAV F (Res.ioOf r) args) a w'∧zZu m' w w' ob r.res e∧(∀ g,w.heap.size≤g∨ob=some g→ow1 g=none)∧(∀ g,ob=some g→S.w0.heap.size≤g∨S.R0 g)∧w.heap.size≤w'.heap.size:=by
 obtain ⟨r1,r2,r3,r4,r5⟩:=zDh h hk hc
 have hlen:=r1.length
 obtain ⟨m',p1,p2,p3,p4,p5,p6⟩:=hp
 rw [zEp hx hlen] at p4 p6
 have p3':Pres (zP6 (zBp F args).2 (ys.map a.eval)) w w':=p3.mono fun b _ hb=>by
  unfold zP6 at hb ⊢
  rw [zEp hx hlen,zFt hx hlen] at hb
  exact hb
 rw [zFt hx hlen] at p5
 generalize hgO:zHS (zBp F args).2 (ys.map a.eval)=gO at *
 generalize hgI:ioB (zBp F args).2 (ys.map a.eval)=gI at *
 let ow1:Ow:=fun b=>if gO=some b then none else ow b
 let X:Tag→Prop:=fun t=>(∃ n,zBh args=some n∧t=.key n)∨∃ j base sz,zDZ args=some (j,base,sz)∧t=.box j
 have hOX:∀ g t,gO=some g→ow g=some t→X t:=by
  intro g t hg ht
  obtain ⟨n,e',k',rows',h1,_,_,h4⟩:=r2 g hg
  rw [h4] at ht
  exact .inl ⟨n,h1,(Option.some.inj ht).symm⟩
 have hIX:∀ g t,gI=some g→ow g=some t→X t:=by
  intro g t hg ht
  obtain ⟨j,base,sz,h1,h2,h3,_⟩:=r4 g hg
  have hB:=h.boxes j _ h2
  rw [h3] at hB
  rw [hB.1] at ht
  exact .inr ⟨j,base,sz,h1,(Option.some.inj ht).symm⟩
 have hmfree:∀ g o,g < w.heap.size→gO≠some g→m' g o=m g o:=by
  intro g o hg hne
  cases hm:m' g o with
  |none=>
   cases hm2:m g o with
   |none=>rfl
   |some u=>rw [p1 g o u hm2] at hm;cases hm
  |some u=>
   rcases p4 g o u hm with h1|h1|h1
   ·exact h1.symm
   ·omega
   ·exact (hne h1).elim
 have st:Step X m m' w w' ow ow1:=by
  refine ⟨p1,fun g t hg hX=>?_⟩
  have hgl:=h.lt g t hg
  have n1:gO≠some g:=fun e'=>hX (hOX g t e' hg)
  have n2:gI≠some g:=fun e'=>hX (hIX g t e' hg)
  refine ⟨p3'.block g hgl ?_,fun o=>hmfree g o hgl n1,by simp only [ow1];rw [if_neg n1];exact hg⟩
  unfold zP6
  rw [hgO,hgI]
  rintro (h1|h1)
  ·exact n1 h1
  ·exact n2 h1
 have hgOown:∀ g,gO=some g→S.w0.heap.size≤g∨S.R0 g:=by
  intro g hg
  obtain ⟨n,_,_,_,_,_,_,h4⟩:=r2 g hg
  exact h.own g _ h4
 have hgIown:∀ g,gI=some g→S.w0.heap.size≤g∨S.R0 g:=by
  intro g hg
  obtain ⟨j,base,sz,h1,h2,h3,_⟩:=r4 g hg
  have hB:=h.boxes j _ h2
  rw [h3] at hB
  exact h.own g _ hB.1
 have hL:=h.lenF
 have hle:=wf.le
 have hF1:∀ i,(zDD F (zBh args)).getD i .un=if zBh args=some i then (match F.getD i .un with|.own _ k rows=>.pv (.one (.sl k rows))|c=>c) else F.getD i .un:=by
  intro i
  cases hok:zBh args with
  |none=>simp [zDD]
  |some n=>
   obtain ⟨hn,e',k',rows',hFn,_⟩:=r3 n hok
   simp only [zDD,hFn]
   rw [zAG (by omega)]
   by_cases hni:n=i
   ·subst hni
    rw [if_pos rfl,if_pos rfl,hFn]
   ·rw [if_neg hni,if_neg (by simpa using hni)]
 have hL1:(zDD F (zBh args)).length=F.length:=by
  cases hok:zBh args with
  |none=>rfl
  |some n=>simp only [zDD];split<;>simp
 have hslot:∀ i,i < E.N→(zAV F (Res.ioOf r) args).getD i .un=(zDD F (zBh args)).getD i .un:=by
  intro i hi
  unfold zAV
  cases hik:zDZ args with
  |none=>rfl
  |some x=>
   obtain ⟨j,base,sz⟩:=x
   exact zXN wf (r5 j base sz hik).1 hi
 have hLd:(zAV F (Res.ioOf r) args).length=F.length:=by
  unfold zAV
  cases hik:zDZ args with
  |none=>simpa [zGy] using hL1
  |some x=>obtain ⟨j,base,sz⟩:=x;simp only [zGy];rw [zAQ,hL1]
 have hcell:∀ i,E.N≤i→(zDD F (zBh args)).getD i .un=F.getD i .un:=by
  intro i hi
  rw [hF1 i]
  rw [if_neg]
  intro hok
  have:=(r3 i hok).1
  omega
 refine ⟨m',ow1,gO,?_,p6,?_,hgOown,p3.size⟩
 ·refine h.step st hLd rfl rfl ?_ ?_ p2 (p3'.mono ?_) ?_ ?_ ?_
  ·intro i hi
   rw [hslot i hi,hF1 i]
   by_cases hok:zBh args=some i
   ·right
    rw [if_pos hok]
    obtain ⟨_,e',k',rows',hFn,_⟩:=r3 i hok
    have hrep:=h.slots i hi
    rw [hFn] at hrep ⊢
    exact RpV.mono (x:=.one (.sl k' rows')) p1 (OwnRep.rp hrep)
   ·left
    rw [if_neg hok]
    refine ⟨rfl,rfl,.inl ?_⟩
    rintro (⟨n,h1,h2⟩|⟨j,base,sz,h1,h2⟩)
    ·injection h2 with h2;subst h2;exact hok h1
    ·cases h2
  ·intro j bn hj
   have hlo:=wf.lo j bn hj
   have hxk:∀ o,o < bn.2→¬ X (.key (bn.1+o)):=by
    rintro o ho (⟨n,h1,h2⟩|⟨j',base,sz,h1,h2⟩)
    ·injection h2 with h2
     have:=(r3 n h1).1
     omega
    ·cases h2
   cases hik:zDZ args with
   |none=>
    left
    refine ⟨?_,fun o ho=>⟨?_,hxk o ho⟩⟩
    ·rintro (⟨n,h1,h2⟩|⟨j',base,sz,h1,h2⟩)
     ·cases h2
     ·rw [hik] at h1;cases h1
    ·unfold zAV
     rw [hik]
     exact hcell _ (by omega)
   |some x=>
    obtain ⟨j2,base,sz⟩:=x
    obtain ⟨hj2,b,hb,hgb⟩:=r5 j2 base sz hik
    have hhi:=wf.hi j2 _ hj2
    simp only at hhi
    by_cases hjj:j=j2
    ·subst hjj
     rw [hj2] at hj
     injection hj with hj
     subst hj
     right
     rw [hb]
     have hB:=h.boxes j _ hj2
     rw [hb] at hB
     have hbo:ow b=some (.box j):=hB.1
     have hne:gO≠some b:=by
      intro e'
      obtain ⟨n,_,_,_,_,_,_,h4⟩:=r2 b e'
      rw [hbo] at h4
      cases h4
     obtain ⟨q1,cs,T,q2,q3,q4⟩:=p5 b hgb
     have hgb':ioB (zBp F args).2 (ys.map a.eval)=some b:=by rw [hgI];exact hgb
     have hio:=r4 b hgb
     obtain ⟨j3,base3,sz3,g1,g2,g3,g4⟩:=hio
     rw [hik] at g1
     simp only [Option.some.injEq,Prod.mk.injEq] at g1
     obtain ⟨rfl,rfl,rfl⟩:=g1
     rw [zEH hgb',g4] at q3
     refine ⟨by simp only [ow1];rw [if_neg hne];exact hbo,q1,cs,T,q2,q3,fun o ho=>?_⟩
     simp only at ho ⊢
     unfold zAV
     rw [hik]
     simp only [zGy]
     have hlen2:(zCJ sz (Res.ioOf r)).length=sz:=by
      cases hior:Res.ioOf r with
      |none=>simp [zCJ]
      |some l=>have hl:=q4 l hior;simp [zCJ,←hl.length,q3]
     rw [zAs,hL1,hlen2,if_pos (by omega)]
     have e1:base+o-base=o:=by omega
     rw [e1]
     cases hior:Res.ioOf r with
     |none=>
      have:(zCJ sz none).getD o .un=.un:=by simp [zCJ,ho]
      rw [this]
      trivial
     |some l=>
      have hl:=q4 l hior
      have hll:l.length=sz:=by rw [←hl.length,Array.length_toList,q3]
      have hol:o < l.length:=by omega
      have hoc:o < cs.size:=by omega
      have e2:(zCJ sz (some l)).getD o .un=.pv (.one l[o]):=by simp [zCJ,hol,List.take_of_length_le (Nat.le_of_eq (show (l.map fun x=>Ct.pv (.one x)).length=sz by simp [hll]))]
      have e3:cs.getD o undef=cs[o]:=by simp [hoc]
      rw [e2,e3]
      exact hl.get o _ _ (List.getElem?_eq_getElem hol) (by simp [hoc])
    ·left
     have hap:=wf.ap j j2 _ _ hj hj2 hjj
     simp only at hap
     refine ⟨?_,fun o ho=>⟨?_,hxk o ho⟩⟩
     ·rintro (⟨n,h1,h2⟩|⟨j',base',sz',h1,h2⟩)
      ·cases h2
      ·rw [hik] at h1
       simp only [Option.some.injEq,Prod.mk.injEq] at h1
       injection h2 with h2
       exact hjj (by rw [h2,←h1.1])
     ·unfold zAV
      rw [hik]
      simp only [zGy]
      rw [zAs]
      have hll:(zCJ sz (Res.ioOf r)).length≤sz:=by
       cases hior:Res.ioOf r with
       |none=>simp [zCJ]
       |some l=>
        obtain ⟨q1,cs,T,q2,q3,q4⟩:=p5 b hgb
        have hl:=q4 l hior
        have hgb':ioB (zBp F args).2 (ys.map a.eval)=some b:=by rw [hgI];exact hgb
        obtain ⟨j3,base3,sz3,g1,g2,g3,g4⟩:=r4 b hgb
        rw [hik] at g1
        simp only [Option.some.injEq,Prod.mk.injEq] at g1
        obtain ⟨rfl,rfl,rfl⟩:=g1
        rw [zEH hgb',g4] at q3
        simp only [zCJ,List.length_take];omega
      rw [if_neg (by omega)]
      exact hcell _ (by omega)
  ·rintro b hb (h1|h1)
   ·rw [hgO] at h1
    exact (hgOown b h1).symm
   ·rw [hgI] at h1
    exact (hgIown b h1).symm
  ·intro b t hb
   simp only [ow1] at hb
   split at hb
   ·cases hb
   ·exact h.own b t hb
  ·intro b t hb
   simp only [ow1] at hb
   split at hb
   ·cases hb
   ·exact Nat.lt_of_lt_of_le (h.lt b t hb) p3.size
  ·intro b o u hu
   rcases p4 b o u hu with h1|h1|h1
   ·exact .inl h1
   ·exact .inr (.inl (Nat.le_trans h.pres.size h1))
   ·exact .inr (hgOown b h1)
 ·rintro g (hg|hg)
  ·simp only [ow1]
   split
   ·rfl
   ·cases ho:ow g with
    |none=>rfl
    |some t=>have:=h.lt g t ho;omega
  ·simp only [ow1]
   rw [if_pos hg]
theorem ArgsRep.append:∀ {as bs:List AV} {us vs:List Value},ArgsRep m w as us→ArgsRep m w bs vs→ArgsRep m w (as++bs) (us++vs)
 |[],_,us,_,h,h2=>by simp only [ArgsRep] at h;subst h;exact h2
 |x::xs,bs,us,vs,h,h2=>by
  simp only [ArgsRep] at h
  obtain ⟨u,us',rfl,h3,h4⟩:=h
  exact ⟨u,us'++vs,rfl,h3,ArgsRep.append h4 h2⟩
theorem zZB:∀ {caps:List PV} {us:List Value},RpL m caps us→ArgsRep m w (caps.map fun c=>.val (.one c)) us
 |[],us,h=>by simp only [RpL] at h;subst h;rfl
 |x::xs,us,h=>by
  simp only [RpL] at h
  obtain ⟨u,us',rfl,h2,h3⟩:=h
  exact ⟨u,us',rfl,h2,zZB h3⟩
theorem yDo (wf:E.Wf) {m':Mem} {ow1:Ow} {F1:List Ct} {w':World} (h:InvG E S m' β ow1 F1 a w') {d e k:Nat} (hd:d < E.N) {rows:List (List PV)} {u:Value} (hu:OwnAt m' w' e k rows u) (hn:∀ g,u.ownBlock=some g→ow1 g=none∧(S.w0.heap.size≤g∨S.R0 g)):
  Inv E S (F1.set d (.own e k rows)) (a.put (some d) u) w':=by
 let ow2:Ow:=fun b=>if u.ownBlock=some b then some (.key d) else ow1 b
 have st:Step (fun _=>False) m' m' w' w' ow1 ow2:=by
  refine ⟨m'.le_refl,fun g t hg _=>⟨rfl,fun _=>rfl,?_⟩⟩
  simp only [ow2]
  rw [if_neg]
  ·exact hg
  ·intro e'
   rw [(hn g e').1] at hg
   cases hg
 have hult:∀ g,u.ownBlock=some g→g < w'.heap.size:=by
  intro g hg
  obtain ⟨xs,hx⟩:=hu.1
  exact (hx.lt g hg).2
 have h2:InvG E S m' β ow2 F1 a w':=by
  refine h.step st rfl rfl rfl (fun i _=>.inl ⟨rfl,rfl,.inl id⟩) (fun j bn _=>.inl ⟨id,fun o _=>⟨rfl,id⟩⟩) h.mem (Pres.refl _ _) ?_ ?_ (fun b o u hu=>.inl hu)
  ·intro b t hb
   simp only [ow2] at hb
   split at hb
   ·rename_i hb';exact (hn b hb').2
   ·exact h.own b t hb
  ·intro b t hb
   simp only [ow2] at hb
   split at hb
   ·rename_i hb';exact hult b hb'
   ·exact h.lt b t hb
 exact ⟨m',β,ow2,h2.slot wf hd (hu.rep fun g hg=>by simp [ow2,hg])⟩
theorem zCj (wf:E.Wf) {m':Mem} {ow1:Ow} {F1:List Ct} {w':World} (h:InvG E S m' β ow1 F1 a w') {d:Nat} (hd:d < E.N) {x:OVal} {u:Value} {fp:List Nat} (hu:OvV m' w' x u fp) (hnd:fp.Nodup) (hn:∀ g∈fp,ow1 g=none∧(S.w0.heap.size≤g∨S.R0 g)∧g < w'.heap.size∧∀ o,m' g o=none):
  Inv E S (F1.set d (.ov x)) (a.put (some d) u) w':=by
 let ow2:Ow:=fun b=>if b∈fp then some (.key d) else ow1 b
 have st:Step (fun _=>False) m' m' w' w' ow1 ow2:=by
  refine ⟨m'.le_refl,fun g t hg _=>⟨rfl,fun _=>rfl,?_⟩⟩
  simp only [ow2]
  rw [if_neg]
  ·exact hg
  ·intro e'
   rw [(hn g e').1] at hg
   cases hg
 have h2:InvG E S m' β ow2 F1 a w':=by
  refine h.step st rfl rfl rfl (fun i _=>.inl ⟨rfl,rfl,.inl id⟩) (fun j bn _=>.inl ⟨id,fun o _=>⟨rfl,id⟩⟩) h.mem (Pres.refl _ _) ?_ ?_ (fun b o u hu=>.inl hu)
  ·intro b t hb
   simp only [ow2] at hb
   split at hb
   ·rename_i hb';exact (hn b hb').2.1
   ·exact h.own b t hb
  ·intro b t hb
   simp only [ow2] at hb
   split at hb
   ·rename_i hb';exact (hn b hb').2.2.1
   ·exact h.lt b t hb
 exact ⟨m',β,ow2,h2.slot wf hd ⟨fp,hu,hnd,fun g hg=>⟨by simp [ow2,hg],(hn g hg).2.2.2⟩⟩⟩
theorem OvV.lt {x:OVal} {u:Value} {fp:List Nat} (h:OvV m w x u fp):∀ g∈fp,g < w.heap.size:=by
 cases x with
 |one x=>exact OvR.lt x u fp h
 |agg cs=>obtain ⟨us,_,h2⟩:=h;exact OvL.lt cs us fp h2
theorem zXO (wf:E.Wf) (h:InvG E S m β ow F a w) {d:Option Nat} {f:FuncId} {args:List (Opd×AM)} {ys:List Operand} {extra:List AV} {us2:List Value} {o:Oper} (hd:zAF E.N d o.dst=true) (hk:zEa E args ys=true) (hx:∀ x∈extra,∃ p,x=.val p) (hr2:ArgsRep m w extra us2)
  (hop:(execOp a.eval o).run P w=.ok (.enter f (ys.map a.eval++us2).toArray) w) {K:List Ct→Prop} {X:Value→List Ct→Prop} {Q:Exit→Act→World→Prop} (hQ:∀ v F' a' w',X v F'→Inv E S F' a' w'→Q (.panic [{v,recovered:=false}]) a' w')
  (hW:zLC P f ((zBp F args).1,(zBp F args).2++extra) (fun io=>zAV F io args) d K X):o.wp P a w (zDe E S K) Q:=by
 obtain ⟨hc,r,hcon,hres⟩:=hW
 simp only at hc hcon
 obtain ⟨r1,r2,r3,r4,r5⟩:=zDh h hk hc
 have hlen:=r1.length
 have hdist:∀ g,zHS ((zBp F args).2++extra) (ys.map a.eval++us2)=some g→ioB ((zBp F args).2++extra) (ys.map a.eval++us2)≠some g:=by
  intro g hg hi
  rw [zEp hx hlen] at hg
  rw [zFt hx hlen] at hi
  obtain ⟨n,_,_,_,_,_,_,h4⟩:=r2 g hg
  obtain ⟨j,base,sz,_,g2,g3,_⟩:=r4 g hi
  have hB:=h.boxes j _ g2
  rw [g3] at hB
  rw [hB.1] at h4
  cases h4
 have hcalls:=hcon.2 m w (ys.map a.eval++us2) h.mem (r1.append hr2) hdist h.glob (by
  rintro b (hb|hb)
  ·rw [zEp hx hlen] at hb
   obtain ⟨n,_,_,_,_,_,_,h4⟩:=r2 b hb
   exact h.gown h4
  ·rw [zFt hx hlen] at hb
   obtain ⟨j,base,sz,_,g2,g3,_⟩:=r4 b hb
   have hB:=h.boxes j _ g2
   rw [g3] at hB
   exact h.gown hB.1)
 unfold Oper.wp
 rw [hop]
 refine Calls.mono hcalls fun e w' hp=>?_
 obtain ⟨m',ow1,ob,hI,hR,hn,hobS,hsz⟩:=yAF wf h hk hc hx hp
 have hput:∀ {F1:List Ct} {c:Ct} {u:Value},InvG E S m' β ow1 F1 a w'→(∀ d',d=some d'→CtRep m' w' β ow1 d' c u)→Inv E S (zP0 F1 d c) (a.put o.dst u) w':=by
  intro F1 c u hI' hc'
  cases d with
  |none=>
   have:o.dst=none:=by
    cases hdd:o.dst with
    |none=>rfl
    |some x=>rw [hdd] at hd;simp [zAF] at hd
   rw [this]
   exact ⟨m',β,ow1,hI'⟩
  |some d'=>
   obtain ⟨h1,h2⟩:=zAf hd
   rw [h1]
   exact ⟨m',β,ow1,hI'.slot wf h2 (hc' d' rfl)⟩
 cases hrr:r.res with
 |pan v=>
  rw [hrr] at hR hres
  simp only [zZu] at hR
  subst hR
  simp only [Res.ioOf,hrr] at hI
  exact hQ v _ a w' hres ⟨m',β,ow1,hI⟩
 |val x=>
  rw [hrr] at hR hres
  obtain ⟨u,rfl,hu⟩:=hR
  simp only [Res.ioOf,hrr] at hI
  refine ⟨_,hres,?_⟩
  exact hput hI fun _ _=>hu
 |tup xs=>
  rw [hrr] at hR hres
  obtain ⟨us,rfl,hu⟩:=hR
  simp only [Res.ioOf,hrr] at hI
  refine ⟨_,hres,?_⟩
  cases xs with
  |nil=>exact hput hI fun _ _=>trivial
  |cons x xs=>exact hput hI fun _ _=>⟨us,rfl,hu⟩
 |ov x=>
  rw [hrr] at hR hres
  obtain ⟨u,fp,rfl,hu,hnd,hg⟩:=hR
  simp only [Res.ioOf,hrr] at hI
  refine ⟨_,hres,?_⟩
  cases d with
  |none=>exact hput hI (c:=.un) fun _ h'=>by cases h'
  |some d'=>
   obtain ⟨h1,h2⟩:=zAf hd
   rw [h1]
   exact zCj wf hI h2 hu hnd fun g hg'=>⟨hn g (.inl (hg g hg').1),.inl (Nat.le_trans h.pres.size (hg g hg').1),hu.lt g hg',(hg g hg').2⟩
 |own e' k rows=>
  rw [hrr] at hR hres
  obtain ⟨u,rfl,hu,hg⟩:=hR
  simp only [Res.ioOf,hrr] at hI
  refine ⟨_,hres,?_⟩
  cases d with
  |none=>exact hput hI (c:=.un) fun _ h'=>by cases h'
  |some d'=>
   obtain ⟨h1,h2⟩:=zAf hd
   rw [h1]
   refine yDo wf hI h2 hu fun g hg'=>⟨hn g (hg g hg'),?_⟩
   rcases hg g hg' with h3|h3
   ·exact .inl (Nat.le_trans h.pres.size h3)
   ·exact hobS g h3
end
end Go.Hx
end

section
/-
  THE ABSTRACT LAYER: operations on owned trees are sound. Generic over the program. No condition.
-/
namespace Go.Hx
open Go.RowKit
variable [Glob]
section
variable {P:Program} {E:Env} {S:Start} {m:Mem} {β:Bx} {ow:Ow} {F:List Ct} {a:Act} {w:World}
def dropB (ow:Ow) (fp:List Nat):Ow:=fun b=>if b∈fp then none else ow b
theorem zCf (wf:E.Wf) (h:InvG E S m β ow F a w) {r:Nat} {fp:List Nat} (hfp:∀ g∈fp,ow g=some (.key r)):InvG E S m β (dropB ow fp) (F.set r .un) a w:=by
  have h1:InvG E S m β ow (F.set r .un) a w:=by
    refine ⟨by simp [h.lenF],h.lenA,h.dfr,fun i hi=>?_,fun j bn hj=>?_,h.mem,h.mle,h.pres,h.own,h.lt,h.new,h.fix⟩
    · rw [zA3]
      split
      · trivial
      · exact h.slots i hi
    · have hB:=h.boxes j bn hj
      cases hb:β j with
      | none=>
        rw [hb] at hB
        intro o ho
        rw [zA3]
        split
        · exact .inl rfl
        · exact hB o ho
      | some b=>
        rw [hb] at hB
        obtain ⟨g1,g2,cs,T,g3,g4,g5⟩:=hB
        refine ⟨g1,g2,cs,T,g3,g4,fun o ho=>?_⟩
        rw [zA3]
        split
        · trivial
        · exact g5 o ho
  have st:Step (fun t=>t=.key r) m m w w ow (dropB ow fp):=by
    refine ⟨m.le_refl,fun g t hg hX=>⟨rfl,fun _=>rfl,?_⟩⟩
    unfold dropB
    rw [if_neg]
    · exact hg
    · intro hm
      rw [hfp g hm] at hg
      exact hX (Option.some.inj hg).symm
  have hL:=h.lenF
  have hle:=wf.le
  refine h1.step st rfl rfl rfl ?_ ?_ h.mem (Pres.refl _ _) ?_ ?_ (fun b o u hu=>.inl hu)
  · intro i hi
    by_cases hri:r=i
    · subst hri
      right
      rw [zAG (by omega),if_pos rfl]
      trivial
    · left
      exact ⟨rfl,rfl,.inl (by intro h3;injection h3;omega)⟩
  · intro j bn hj
    right
    have hB:=h1.boxes j bn hj
    have hhi:=wf.hi j bn hj
    cases hb:β j with
    | none=>rw [hb] at hB;exact hB
    | some b=>
      rw [hb] at hB
      obtain ⟨g1,g2,cs,T,g3,g4,g5⟩:=hB
      obtain ⟨_,_,k3⟩:=st.keep b _ g1 (by intro h3;cases h3)
      refine ⟨k3,g2,cs,T,g3,g4,fun o ho=>?_⟩
      by_cases hri:r=bn.1+o
      · rw [zAG (by omega),if_pos hri]
        trivial
      · exact (g5 o ho).step st (by intro h3;injection h3;omega)
  · intro b t hb
    unfold dropB at hb
    split at hb
    · cases hb
    · exact h.own b t hb
  · intro b t hb
    unfold dropB at hb
    split at hb
    · cases hb
    · exact h.lt b t hb
def AtIx (E:Env) (β:Bx) (a:Act) (w:World) (r:Nat) (u:Value):Prop:=
  (r < E.N∧u=a.tmps.getD r undef)∨∃ (j base n b:Nat) (cs:Array Value) (T:TypeId),E.N≤r∧E.Γ[j]?=some (base,n)∧base≤r∧r < base+n∧β j=some b∧w.heap[b]?=some (.cells cs T (0,0))∧u=cs.getD (r-base) undef
theorem InvG.setIx (wf:E.Wf) (h:InvG E S m β ow F a w) {r:Nat} {u:Value} (hat:AtIx E β a w r u) {c:Ct} (h1:r < E.N→CtRep m w β ow r c u) (h2:E.N≤r→CellRep m w ow r c u):InvG E S m β ow (F.set r c) a w where
  lenF:=by simp [h.lenF]
  lenA:=h.lenA
  dfr:=h.dfr
  slots:=fun i hi=>by
    have hL:=h.lenF
    have hle:=wf.le
    by_cases hri:r=i
    · subst hri
      rw [zAG (by omega),if_pos rfl]
      rcases hat with ⟨_,rfl⟩|⟨j,base,n,b,cs,T,k0,_⟩
      · exact h1 hi
      · omega
    · rw [zA3,if_neg (by omega)]
      exact h.slots i hi
  boxes:=fun j bn hj=>by
    have hB:=h.boxes j bn hj
    have hL:=h.lenF
    have hle:=wf.le
    have hlo:=wf.lo j bn hj
    have hhi:=wf.hi j bn hj
    cases hb:β j with
    | none=>
      rw [hb] at hB
      intro o ho
      by_cases hri:r=bn.1+o
      · exfalso
        rcases hat with ⟨k0,_⟩|⟨j',base,n,b,cs,T,k0,k1,k2,k3,k4,_⟩
        · omega
        · by_cases hjj:j'=j
          · subst hjj;rw [hb] at k4;cases k4
          · have:=wf.ap j' j _ _ k1 hj hjj
            simp only at this
            omega
      · rw [zA3,if_neg (by omega)]
        exact hB o ho
    | some b=>
      rw [hb] at hB
      obtain ⟨g1,g2,cs,T,g3,g4,g5⟩:=hB
      refine ⟨g1,g2,cs,T,g3,g4,fun o ho=>?_⟩
      by_cases hri:r=bn.1+o
      · rw [zAG (by omega),if_pos hri]
        rcases hat with ⟨k0,_⟩|⟨j',base,n,b',cs',T',k0,k1,k2,k3,k4,k5,rfl⟩
        · omega
        · by_cases hjj:j'=j
          · subst hjj
            rw [hj] at k1
            injection k1 with k1
            subst k1
            rw [hb] at k4
            injection k4 with k4
            subst k4
            rw [g3] at k5
            injection k5 with k5
            injection k5 with k5
            subst k5
            have:=h2 k0
            simp only at hri ⊢
            rw [hri] at this
            rw [show base+o-base=o by omega] at this
            exact this
          · have:=wf.ap j' j _ _ k1 hj hjj
            simp only at this
            omega
      · rw [zA3,if_neg (by omega)]
        exact g5 o ho
  mem:=h.mem
  mle:=h.mle
  pres:=h.pres
  own:=h.own
  lt:=h.lt
  new:=h.new
  fix:=h.fix
def zD1 (ow:Ow) (fp:List Nat) (r:Nat):Ow:=fun b=>if b∈fp then some (.key r) else ow b
def Loose (S:Start) (m:Mem) (w:World) (ow:Ow) (fp:List Nat):Prop:=∀ g∈fp,ow g=none∧(S.w0.heap.size≤g∨S.R0 g)∧g < w.heap.size∧∀ o,m g o=none
theorem Loose.left {f g:List Nat} (h:Loose S m w ow (f++g)):Loose S m w ow f:=fun x hx=>h x (List.mem_append_left _ hx)
theorem Loose.right {f g:List Nat} (h:Loose S m w ow (f++g)):Loose S m w ow g:=fun x hx=>h x (List.mem_append_right _ hx)
theorem Loose.append {f g:List Nat} (h:Loose S m w ow f) (h':Loose S m w ow g):Loose S m w ow (f++g):=fun x hx=>(List.mem_append.1 hx).elim (h x) (h' x)
theorem Loose.sub {f g:List Nat} (h:Loose S m w ow f) (hs:∀ x∈g,x∈f):Loose S m w ow g:=fun x hx=>h x (hs x hx)
theorem zA9 (h:InvG E S m β ow F a w) {r:Nat} {fp:List Nat} (hfp:∀ g∈fp,ow g=some (.key r)∧∀ o,m g o=none):Loose S m w (dropB ow fp) fp:=fun g hg=>
  ⟨by simp [dropB,hg],h.own g _ (hfp g hg).1,h.lt g _ (hfp g hg).1,(hfp g hg).2⟩
theorem Loose.dropB {fp f:List Nat} (h:Loose S m w ow fp):Loose S m w (dropB ow f) fp:=fun g hg=>⟨by
    unfold Go.Hx.dropB
    split
    · rfl
    · exact (h g hg).1,(h g hg).2⟩
theorem zDR (wf:E.Wf) (h:InvG E S m β ow F a w) {r:Nat} {u:Value} (hat:AtIx E β a w r u) {x:OV} {fp:List Nat} (hu:OvR m w x u fp) (hnd:fp.Nodup) (hn:Loose S m w ow fp):
    InvG E S m β (zD1 ow fp r) (F.set r (.ov (.one x))) a w:=by
  have st:Step (fun _=>False) m m w w ow (zD1 ow fp r):=by
    refine ⟨m.le_refl,fun g t hg _=>⟨rfl,fun _=>rfl,?_⟩⟩
    unfold zD1
    rw [if_neg]
    · exact hg
    · intro e'
      rw [(hn g e').1] at hg
      cases hg
  have h2:InvG E S m β (zD1 ow fp r) F a w:=by
    refine h.step st rfl rfl rfl (fun i _=>.inl ⟨rfl,rfl,.inl id⟩) (fun j bn _=>.inl ⟨id,fun o _=>⟨rfl,id⟩⟩) h.mem (Pres.refl _ _) ?_ ?_ (fun b o u hu=>.inl hu)
    · intro b t hb
      unfold zD1 at hb
      split at hb
      · rename_i hb';exact (hn b hb').2.1
      · exact h.own b t hb
    · intro b t hb
      unfold zD1 at hb
      split at hb
      · rename_i hb';exact (hn b hb').2.2.1
      · exact h.lt b t hb
  have hok:OvOk m w (zD1 ow fp r) (.key r) (.one x) u:=⟨fp,hu,hnd,fun g hg=>⟨by simp [zD1,hg],(hn g hg).2.2.2⟩⟩
  exact h2.setIx wf hat (fun _=>hok) (fun _=>hok)
theorem zVO {r j base:Nat} (h:zCL E r j base=true):r < E.N∨∃ n,E.Γ[j]?=some (base,n)∧base≤r∧r < base+n:=by
  simp only [zCL,Bool.or_eq_true,decide_eq_true_eq,Bool.and_eq_true] at h
  rcases h with h|⟨h1,h2⟩
  · exact .inl h
  · obtain ⟨n,hj,hn⟩:=zCM h2
    exact .inr ⟨n,hj,h1,by omega⟩
theorem zEI (wf:E.Wf) (h:InvG E S m β ow F a w) {r j base:Nat} (hr:zCL E r j base=true) {x:OV} (hx:F.getD r .un=.ov (.one x)):
    ∃ u fp,AtIx E β a w r u∧OvR m w x u fp∧fp.Nodup∧∀ g∈fp,ow g=some (.key r)∧∀ o,m g o=none:=by
  by_cases hrN:r < E.N
  · have hs:=h.slots r hrN
    rw [hx] at hs
    obtain ⟨fp,h1,h2,h3⟩:=hs
    exact ⟨_,fp,.inl ⟨hrN,rfl⟩,h1,h2,h3⟩
  · rcases zVO hr with hr|⟨n,hj,h1,h2⟩
    · exact (hrN hr).elim
    · have hB:=h.boxes j _ hj
      cases hb:β j with
      | none=>
        rw [hb] at hB
        have:=hB (r-base) (by simp only;omega)
        simp only at this
        rw [show base+(r-base)=r by omega,hx] at this
        rcases this with e|e<;>cases e
      | some b=>
        rw [hb] at hB
        obtain ⟨g1,g2,cs,T,g3,g4,g5⟩:=hB
        have:=g5 (r-base) (by simp only;omega)
        simp only at this
        rw [show base+(r-base)=r by omega,hx] at this
        obtain ⟨fp,k1,k2,k3⟩:=this
        exact ⟨_,fp,.inr ⟨j,base,n,b,cs,T,by omega,hj,h1,h2,hb,g3,rfl⟩,k1,k2,k3⟩
theorem InvG.world (h:InvG E S m β ow F a w) {w':World} {b:Nat} (hb:ow b=none) (hm:∀ o,m b o=none) (hS:S.w0.heap.size≤b∨S.R0 b) (hp:w.grownBy w' (some b)) (hd:w.drawn≤w'.drawn):InvG E S m β ow F a w':=by
  have hmem:MemOk m w':=by
    intro g o u hu
    have hne:g≠b:=fun e=>by subst e;rw [hm o] at hu;cases hu
    rw [World.cell?_of_block (w:=w) (hp.block g (zD9 h.mem hu) (by simpa using hne))]
    exact h.mem g o u hu
  refine h.quiet ⟨m.le_refl,hmem,fun g t hg=>hp.block g (h.lt g t hg) (fun e=>by injection e with e;subst e;rw [hb] at hg;cases hg),fun _ _ _ _=>rfl,fun _ _ _ h=>.inl h,⟨hp.os,hp.tape,hp.output,hp.size,fun g hg hn=>hp.block g hg fun e=>?_,fun _=>hd⟩⟩
  injection e with e
  subst e
  exact hn (hS.elim .inr .inl)
theorem Loose.grow {w':World} {fp:List Nat} (h:Loose S m w ow fp) (hs:w.heap.size≤w'.heap.size):Loose S m w' ow fp:=fun g hg=>⟨(h g hg).1,(h g hg).2.1,Nat.lt_of_lt_of_le (h g hg).2.2.1 hs,(h g hg).2.2.2⟩
theorem AtIx.world {r:Nat} {u:Value} (h:AtIx E β a w r u) (hI:InvG E S m β ow F a w) {w':World} (hb:∀ b t,ow b=some t→w'.heap[b]?=w.heap[b]?):AtIx E β a w' r u:=by
  rcases h with h|⟨j,base,n,b,cs,T,k0,k1,k2,k3,k4,k5,k6⟩
  · exact .inl h
  · have hB:=hI.boxes j _ k1
    rw [k4] at hB
    exact .inr ⟨j,base,n,b,cs,T,k0,k1,k2,k3,k4,(hb b _ hB.1).trans k5,k6⟩
theorem OvV.cells {x:OVal} {u:Value} {fp:List Nat} (h:OvV m w x u fp):OvL m w x.cells u.cells.toList fp:=by
  cases x with
  | one x=>
    have hf:=OvR.flat_ h
    rw [zFq hf]
    simp only [OVal.cells,OvL]
    exact ⟨u,[],fp,[],rfl,by simp,h,rfl,rfl⟩
  | agg cs=>
    obtain ⟨us,rfl,h2⟩:=h
    exact h2
theorem zMQ {agg:Bool} {cs:List OV} {us:List Value} {fp:List Nat} (h:OvL m w cs us fp) (hn:agg=true∨us.length=1):OvV m w (yBO agg cs) (if agg then .agg us.toArray else us.headD undef) fp:=by
  cases agg with
  | true=>exact ⟨us,rfl,h⟩
  | false=>
    rcases hn with hn|hn
    · cases hn
    · have hl:=h.length
      match cs,us,hn,hl,h with
      | [x],[u],_,_,h=>
        simp only [OvL] at h
        obtain ⟨v,us',f1,f2,e1,rfl,h3,h4,rfl⟩:=h
        injection e1 with e1 _
        subst e1
        rw [List.append_nil]
        exact h3
      | [],_::_,_,hl,_=>simp at hl
      | _::_::_,[u],_,hl,_=>simp at hl
theorem zSO:∀ {cs:List OV} {ps:List PV} {us:List Value} {fp:List Nat},yAB cs=some ps→OvL m w cs us fp→RpL m ps us
  | [],ps,us,fp,h,hr=>by
    simp only [yAB,Option.some.injEq] at h
    subst h
    simp only [OvL] at hr
    simp only [RpL]
    exact hr.1
  | x::r,ps,us,fp,h,hr=>by
    simp only [OvL] at hr
    obtain ⟨u,us',f1,f2,rfl,rfl,h3,h4⟩:=hr
    have hf:=h3.flat_
    cases x<;>simp only [yAB] at h<;>split at h<;>first
      | (cases h;done)
      | (rename_i xs e1
         injection h with h
         subst h
         simp only [RpL]
         first
           | exact ⟨u,us',rfl,(by simp only [OvR] at h3;exact h3.2),zSO e1 h4⟩
           | exact ⟨u,us',rfl,(by simp only [Rp];exact hf),zSO e1 h4⟩)
theorem yEH (wf:E.Wf) (h:InvG E S m β ow F a w) {d e k:Nat} {o:Oper} (hd:zAF E.N (some d) o.dst=true) {y:Operand} (ho:o.op=.move y∨o.op=.assign y) (hk:zAe E.N (.c (.one (.nl 0))) y=true) {K:List Ct→Prop} {Q:Exit→Act→World→Prop}
    (hK:K (F.set d (.ov (.one (.os none e k []))))):o.wp P a w (zDe E S K) Q:=by
  obtain ⟨hd1,hd2⟩:=zAf hd
  have hr:(execOp a.eval o).run P w=.ok (.value (a.eval y)) w:=by
    unfold execOp
    rcases ho with ho|ho<;>rw [ho]<;>rfl
  have hy:a.eval y=.slice none 0 0:=by
    have:=zAT h hk (p:=.one (.nl 0)) trivial rfl
    exact this
  refine zAC hr ⟨_,hK,m,β,ow,?_⟩
  rw [hd1,hy]
  refine h.slot wf hd2 ⟨[],?_,List.nodup_nil,by simp⟩
  exact zBI.2 ⟨[],[],World.ownsRow_nil w 0 e k,by simp only [List.flatten_nil,OvL];exact ⟨trivial,trivial⟩,by simp,by simp [blk,Value.ownBlock],fun b hb=>by cases hb⟩
theorem yEI (wf:E.Wf) (h:InvG E S m β ow F a w) {d x:Nat} {o:Oper} (hd:zAF E.N (some d) o.dst=true) {y:Operand} (ho:o.op=.move y∨o.op=.assign y) (hk:zAe E.N (.t x) y=true) {K:List Ct→Prop} {Q:Exit→Act→World→Prop}
    {v:OVal} (hx:F.getD x .un=.ov v) (hK:K ((F.set x (zP8 v)).set d (.ov v))):o.wp P a w (zDe E S K) Q:=by
  obtain ⟨hd1,hd2⟩:=zAf hd
  have hr:(execOp a.eval o).run P w=.ok (.value (a.eval y)) w:=by
    unfold execOp
    rcases ho with ho|ho<;>rw [ho]<;>rfl
  obtain ⟨rfl,hxN⟩:=zBd hk
  have hs:=h.slots x hxN
  rw [hx] at hs
  obtain ⟨fp,h1,h2,h3⟩:=hs
  have hD:=zCf wf h fun g hg=>(h3 g hg).1
  refine zAC hr ⟨_,hK,?_⟩
  rw [hd1]
  have hH:CtRep m w β (dropB ow fp) x (zP8 v) (a.tmps.getD x undef):=by
    cases v with
    | agg cs=>trivial
    | one q=>cases q with
      | os pb e k rows=>exact (zIn h1).1
      | _=>trivial
  have hD2:=hD.setIx wf (r:=x) (u:=a.tmps.getD x undef) (.inl ⟨hxN,rfl⟩) (fun _=>hH) (fun h'=>absurd hxN (Nat.not_lt.2 h'))
  rw [List.set_set] at hD2
  exact zCj wf hD2 hd2 h1 h2 (zA9 h h3)
theorem zSP (f1 fa fm fb f2:List Nat):(f1++((fa++(fm++fb))++f2)).Perm (fm++(f1++((fa++fb)++f2))):=
  List.perm_iff_count.2 fun x=>by simp only [List.count_append];omega
theorem zSQ {x:Opd} {r:Nat} {pt:List (Opd×Nat)} {K:OV→List (Nat×Nat)→Nat→Nat→Nat→List (List OV)→Nat→Nat→Prop} (h:atV F x r pt K):
    ∃ root p b e k rows i f,zAp F x=.epp b k i f∧F.getD r .un=.ov (.one root)∧root.get p=some (.os (some b) e k rows)∧i < rows.length∧K root p b e k rows i f:=by
  unfold atV at h
  split at h
  · rename_i b k i f root e1 e2
    split at h
    · rename_i b' e k' rows e3
      obtain ⟨h1,rfl,rfl,h4,h5⟩:=h
      exact ⟨root,_,_,e,_,rows,i,f,e1,e2,e3,h4,h5⟩
    · exact h.elim
  · exact h.elim
theorem zSR (h:InvG E S m β ow F a w) {x:Opd} {y:Operand} (hk:zAe E.N x y=true) {b k i f:Nat} (hp:zAp F x=.epp b k i f):a.eval y=.pointer (some ⟨b,i * k+f,none⟩):=by
  obtain ⟨n',rfl,hn',hs⟩:=zBc h hk hp (by intro p;simp)
  exact hs
theorem zMR {α:Type} {rows:List (List α)} {i:Nat} (hi:i < rows.length):rows[i]?=some (rows.getD i []):=by simp [hi]
theorem zZC {t:TypeId} {agg:Bool} {n b o:Nat} {x':Operand} {op:Oper} (ho:op.op=.load t x') (hv:a.eval x'=.pointer (some ⟨b,o,none⟩)) (ha:zBw P t=some agg) (hn:zDc P t=some n) (h1:agg=true∨n=1) {us:List Value} (hl:us.length=n) (hm:∀ i u,us[i]?=some u→w.cell? ⟨b,o+i,none⟩=some u):
    (execOp a.eval op).run P w=.ok (.value (if agg then .agg us.toArray else us.headD undef)) w:=by
  have hrun:=zA2 (P:=P) (w:=w) ha hn h1 hl hm
  unfold execOp;rw [ho]
  simp only [hv,Instr.loadAt,Instr.sureAddr,Sem.run_bind,Sem.run_pure,Result.andThen_ok,hrun]
theorem yHb (wf:E.Wf) (h:InvG E S m β ow F a w) {d r j base n:Nat} {x:Opd} {pt:List (Opd×Nat)} {agg:Bool} {o:Oper} (hd:zAF E.N (some d) o.dst=true) (hr:zCL E r j base=true) {t:TypeId} {y:Operand} (ho:o.op=.load t y) (hk:zAe E.N x y=true) (ha:zBw P t=some agg) (hn:zDc P t=some n) (h1:agg=true∨n=1)
    {K:List Ct→Prop} {X:Value→List Ct→Prop} {Q:Exit→Act→World→Prop} (hW:opW P (.vlp d x r j base pt n agg) F K X):o.wp P a w (zDe E S K) Q:=by
  obtain ⟨hd1,hd2⟩:=zAf hd
  simp only [opW] at hW
  obtain ⟨root,p,b,e,k,rows,i,f,e1,e2,e3,hi,hf,hK⟩:=zSQ hW
  obtain ⟨u,fp,hat,hrep,hnd,hown⟩:=zEI wf h hr e2
  obtain ⟨v,f1,fy,f2,rfl,g1,_,_⟩:=OvR.focus p _ _ u fp hrep e3
  obtain ⟨us,fa,fm,fb,rfl,k1,k2,k3,g,cap,rfl,k4,k5⟩:=g1.out (zMR hi) hf
  obtain ⟨_,_,_,_,_,_,hpin⟩:=zBI.1 g1
  have hgb:=hpin b rfl (fun e=>by rw [e] at hi;simp at hi)
  simp only [Value.ownBlock,Option.some.injEq] at hgb
  subst hgb
  have hv:=zSR h hk e1
  split at hK
  · rename_i ps e4
    have hrp:=zSO e4 k1
    refine zAC (zZC ho hv ha hn h1 k2 k5) ⟨_,hK,m,β,ow,?_⟩
    rw [hd1]
    refine h.slot wf hd2 ?_
    cases agg with
    | true=>exact ⟨us,rfl,hrp⟩
    | false=>
      rcases h1 with h1|h1
      · cases h1
      · have hl:=hrp.length
        match ps,us,k2,hl with
        | [q],[v],_,_=>
          simp only [RpL] at hrp
          obtain ⟨v',us',e5,h6,_⟩:=hrp
          injection e5 with e5 _
          subst e5
          exact h6
        | [],us,k2,hl=>rw [←k2,hl] at h1;cases h1
        | _::_::_,us,k2,hl=>rw [←k2,hl] at h1;simp at h1
  · exact hK.elim
theorem yHc (wf:E.Wf) (h:InvG E S m β ow F a w) {d r j base:Nat} {x:Opd} {pt:List (Opd×Nat)} {o:Oper} (hd:zAF E.N (some d) o.dst=true) (hr:zCL E r j base=true) {t:TypeId} {y:Operand} (ho:o.op=.load t y) (hk:zAe E.N x y=true) (ha:zBw P t=some false) (hn:zDc P t=some 1)
    {K:List Ct→Prop} {X:Value→List Ct→Prop} {Q:Exit→Act→World→Prop} (hW:opW P (.vlh d x r j base pt) F K X):o.wp P a w (zDe E S K) Q:=by
  obtain ⟨hd1,hd2⟩:=zAf hd
  simp only [opW] at hW
  obtain ⟨root,p,b,e,k,rows,i,f,e1,e2,e3,hi,hK⟩:=zSQ hW
  obtain ⟨u,fp,hat,hrep,hnd,hown⟩:=zEI wf h hr e2
  obtain ⟨v,f1,fy,f2,rfl,g1,_,_⟩:=OvR.focus p _ _ u fp hrep e3
  have main:∀ {pb:Option Nat} {e2' k2:Nat} {rows2:List (List OV)},(rows.getD i [])[f]?=some (.os pb e2' k2 rows2)→∃ u',(execOp a.eval o).run P w=.ok (.value u') w∧zJe rows2.length u'∧∀ b,pb=some b→rows2.length≠0→∃ c,u'=.slice (some ⟨b,0,none⟩) rows2.length c:=by
    intro pb e2' k2 rows2 hc
    have hf:f < (rows.getD i []).length:=(List.getElem?_eq_some_iff.1 hc).1
    obtain ⟨us,fa,fm,fb,rfl,k1,k2',k3,g,cap,rfl,k4,k5⟩:=g1.out (f:=f) (n:=1) (zMR hi) (by omega)
    obtain ⟨_,_,_,_,_,_,hpin⟩:=zBI.1 g1
    have hgb:=hpin b rfl (fun e=>by rw [e] at hi;simp at hi)
    simp only [Value.ownBlock,Option.some.injEq] at hgb
    subst hgb
    have hv:=zSR h hk e1
    have hrun:=zZC ho hv ha hn (.inr rfl) k2' k5
    have hone:((rows.getD i []).drop f).take 1=[.os pb e2' k2 rows2]:=by
      rw [List.drop_eq_getElem_cons hf]
      have:(rows.getD i [])[f]=.os pb e2' k2 rows2:=by rw [List.getElem?_eq_getElem hf] at hc;exact Option.some.inj hc
      rw [this];simp
    rw [hone] at k1
    match us,k2' with
    | [u'],_=>
      simp only [OvL] at k1
      obtain ⟨u2,us',q1,q2,q3,q4,q5,q6⟩:=k1
      injection q3 with q3 _
      subst q3
      have:=zIn q5
      exact ⟨u',hrun,this.1,this.2⟩
  split at hK
  · rename_i b2 e2' k2 rows2 hc
    obtain ⟨u',h1,h2,h3⟩:=main hc
    refine zAC h1 ⟨_,hK,m,β,ow,?_⟩
    rw [hd1]
    exact h.slot wf hd2 ⟨h2,fun hne=>h3 b2 rfl hne⟩
  · rename_i e2' k2 rows2 hc
    obtain ⟨u',h1,h2,_⟩:=main hc
    refine zAC h1 ⟨_,hK,m,β,ow,?_⟩
    rw [hd1]
    exact h.slot wf hd2 h2
  · exact hK.elim
theorem yHd (wf:E.Wf) (h:InvG E S m β ow F a w) {d r j base n:Nat} {x:Opd} {pt:List (Opd×Nat)} {agg:Bool} {o:Oper} (hd:zAF E.N (some d) o.dst=true) (hr:zCL E r j base=true) {t:TypeId} {y:Operand} (ho:o.op=.load t y) (hk:zAe E.N x y=true) (ha:zBw P t=some agg) (hn:zDc P t=some n) (h1:agg=true∨n=1)
    {K:List Ct→Prop} {X:Value→List Ct→Prop} {Q:Exit→Act→World→Prop} (hW:opW P (.vle d x r j base pt n agg) F K X):o.wp P a w (zDe E S K) Q:=by
  obtain ⟨hd1,hd2⟩:=zAf hd
  simp only [opW] at hW
  obtain ⟨root,p,b,e,k,rows,i,f,e1,e2,e3,hi,hf,hK⟩:=zSQ hW
  obtain ⟨u,fp,hat,hrep,hnd,hown⟩:=zEI wf h hr e2
  obtain ⟨v,f1,fy,f2,rfl,g1,_,g2⟩:=OvR.focus p _ _ u fp hrep e3
  obtain ⟨us,fa,fm,fb,rfl,k1,k2,k3,g,cap,rfl,k4,k5⟩:=g1.out (zMR hi) hf
  obtain ⟨_,_,_,_,_,_,hpin⟩:=zBI.1 g1
  have hgb:=hpin b rfl (fun e=>by rw [e] at hi;simp at hi)
  simp only [Value.ownBlock,Option.some.injEq] at hgb
  subst hgb
  have hv:=zSR h hk e1
  have hD:=zCf wf h fun g hg=>(hown g hg).1
  have hloose:=zA9 h hown
  have hnew:=g2 m w _ (fa++fb) m.le_refl (fun _ _=>rfl) k3
  have hnd':(f1++((fa++fb)++f2)).Nodup∧fm.Nodup∧∀ g∈fm,g∉f1++((fa++fb)++f2):=by
    have hp:=zSP f1 fa fm fb f2
    have:=hp.nodup_iff.1 hnd
    rw [List.nodup_append] at this
    exact ⟨this.2.1,this.1,fun g hg hc=>this.2.2 g hg g hc rfl⟩
  have hA:=zDR wf hD hat hnew hnd'.1 (hloose.sub fun x hx=>by
    simp only [List.mem_append] at hx ⊢
    rcases hx with hx|(hx|hx)|hx
    · exact .inl hx
    · exact .inr (.inl (.inl hx))
    · exact .inr (.inl (.inr (.inr hx)))
    · exact .inr (.inr hx))
  rw [List.set_set] at hA
  refine zAC (zZC ho hv ha hn h1 k2 k5) ⟨_,hK,?_⟩
  rw [hd1]
  refine zCj wf hA hd2 (zMQ k1 (by rw [k2];exact h1)) hnd'.2.1 fun g hg=>?_
  have hl:=hloose g (by simp [hg])
  exact ⟨by unfold zD1;rw [if_neg (hnd'.2.2 g hg)];exact hl.1,hl.2⟩
theorem OvR.lay {b e k:Nat} {rows:List (List OV)} {u:Value} {fp:List Nat} (h:OvR m w (.os (some b) e k rows) u fp) (hnd:fp.Nodup) {i f:Nat} {ys:List OV} {us:List Value} {fy:List Nat} (hi:i < rows.length) (hf:f+ys.length≤(rows.getD i []).length) (hy:OvL m w ys us fy) (hby:b∉fy):
    ∃ fa fm fb cur T,fp=fa++(fm++fb)∧b∈fa∧w.heap[b]?=some (.cells cur T (0,0))∧i * k+f+us.length≤cur.size∧
      ∀ w',w'.heap[b]?=some (.cells (cur.toList.take (i * k+f)++us++cur.toList.drop (i * k+f+us.length)).toArray T (0,0))→(∀ g,g≠b→g < w.heap.size→w'.heap[g]?=w.heap[g]?)→
        OvR m w' (.os (some b) e k (rows.set i (zSA (rows.getD i []) f ys))) u (fa++(fy++fb)):=by
  obtain ⟨xs,f',h1,h2,h3,rfl,h5⟩:=zBI.1 h
  have hr:=zMR hi
  obtain ⟨a,c,e1,e2,e3⟩:=zSB rows i _ h3 hr
  have hrk:(rows.getD i []).length=k:=h3 _ (List.mem_of_getElem? hr)
  rw [e1] at h2
  obtain ⟨us1,us',f1,f'',rfl,rfl,k1,k2⟩:=h2.split
  obtain ⟨us2,us3,f2,f3,rfl,rfl,k3,k4⟩:=k2.split
  obtain ⟨v1,v2,v3,g1,g2,g3,rfl,rfl,hl1,hl2,q1,q2,q3⟩:=k3.take f ys.length hf
  have hul:=hy.length
  have hu1:us1.length=i * k:=by rw [k1.length,e2]
  have hu3:v3.length=k-f-ys.length:=by rw [q3.length,List.length_drop];omega
  have hgb:=h5 b rfl (fun e=>by rw [e] at hi;simp at hi)
  rcases h1.2 with ⟨rfl,h6⟩|⟨g,cap,cur,rfl,hg0,hh,h6,h7,h8,h9⟩
  · omega
  · simp only [Value.ownBlock,Option.some.injEq] at hgb
    subst hgb
    have hnb:g∉f1++((g1++(g2++g3))++f3):=by
      rw [List.nodup_append] at hnd
      exact fun hc=>hnd.2.2 g (by simp [blk,Value.ownBlock]) g hc rfl
    have hlen:(us1++((v1++(v2++v3))++us3)).length=rows.length * k:=h1.1
    have hcur:cur.toList.length=cap * k:=by rw [Array.length_toList];exact h8
    have hik:i * k+k≤rows.length * k:=by
      have:=Nat.mul_le_mul_right k (Nat.succ_le_of_lt hi)
      rw [Nat.succ_mul] at this
      exact this
    have hck:rows.length * k≤cap * k:=Nat.mul_le_mul_right k h6
    refine ⟨blk (.slice (some ⟨g,0,none⟩) rows.length cap)++(f1++g1),g2,g3++f3,cur,e,by simp [List.append_assoc],by simp [blk,Value.ownBlock],hh,by omega,fun w' hw1 hw2=>?_⟩
    have hkeep:∀ g'∈f1++((g1++(g2++g3))++f3),w'.heap[g']?=w.heap[g']?:=by
      intro g' hg'
      refine hw2 g' (fun e=>hnb (e▸hg')) ?_
      exact OvR.lt _ _ _ h g' (List.mem_append_right _ hg')
    have hkeepy:∀ g'∈fy,w'.heap[g']?=w.heap[g']?:=fun g' hg'=>hw2 g' (fun e=>hby (e▸hg')) (OvL.lt _ _ _ hy g' hg')
    refine zBI.2 ⟨us1++((v1++(us++v3))++us3),(f1++g1)++(fy++(g3++f3)),?_,?_,?_,by simp [List.append_assoc],?_⟩
    · rw [List.length_set]
      refine ⟨by simp only [List.length_append] at hlen ⊢;omega,.inr ⟨g,cap,_,rfl,hg0,hw1,h6,h7,by simp only [List.size_toArray,List.length_append,List.length_take,List.length_drop];omega,?_⟩⟩
      simp only [List.toList_toArray]
      have hsplit:cur.toList=(us1++v1)++(v2++((v3++us3)++cur.toList.drop (rows.length * k))):=by
        have h12:=List.take_append_drop (rows.length * k) cur.toList
        rw [h9] at h12
        calc cur.toList=_:=h12.symm
          _=_:=by simp [List.append_assoc]
      have hA:(us1++v1).length=i * k+f:=by simp;omega
      have t1:cur.toList.take (i * k+f)=us1++v1:=by
        rw [hsplit,←hA,List.take_left]
      have t2:cur.toList.drop (i * k+f+us.length)=(v3++us3)++cur.toList.drop (rows.length * k):=by
        conv=>lhs;rw [hsplit]
        rw [show i * k+f+us.length=(us1++v1).length+v2.length by omega,←List.drop_drop,List.drop_left,List.drop_left]
      rw [t1,t2]
      have hB:(us1++((v1++(us++v3))++us3)).length=rows.length * k:=by simp only [List.length_append] at hlen ⊢;omega
      rw [show us1++v1++us++(v3++us3++cur.toList.drop (rows.length * k))=(us1++((v1++(us++v3))++us3))++cur.toList.drop (rows.length * k) by simp [List.append_assoc],←hB,List.take_left]
    · rw [e3]
      have hlay:OvL m w' (zSA (rows.getD i []) f ys) (v1++(us++v3)) (g1++(fy++g3)):=by
        unfold zSA
        rw [List.append_assoc]
        refine (OvL.congr m.le_refl _ _ _ (fun g hg=>hkeep g (by simp [hg])) q1).append ((OvL.congr m.le_refl _ _ _ hkeepy hy).append (OvL.congr m.le_refl _ _ _ (fun g hg=>hkeep g (by simp [hg])) q3))
      have h10:=(OvL.congr m.le_refl _ _ _ (fun g hg=>hkeep g (by simp [hg])) k1).append (hlay.append (OvL.congr m.le_refl _ _ _ (fun g hg=>hkeep g (by simp [hg])) k4))
      simpa [List.append_assoc] using h10
    · intro r' hr'
      rcases List.mem_or_eq_of_mem_set hr' with hr'|rfl
      · exact h3 r' hr'
      · rw [zM3 hf];exact hrk
    · intro b' hb hne
      exact h5 b' hb (fun e=>hne (by rw [e];simp))
theorem zNg (wf:E.Wf) (h:InvG E S m β ow F a w) {y:Opd} {y':Operand} (hk:zAe E.N y y'=true) (hs:(zD0 F y).1) {r:Nat} (hr:∀ s,y=.t s→s≠r):
    ∃ fy,OvL m w (zD0 F y).2 (a.eval y').cells.toList fy∧fy.Nodup∧(∀ g∈fy,∃ s,y=.t s∧ow g=some (.key s)∧∀ o,m g o=none)∧InvG E S m β (dropB ow fy) (clr F F y) a w∧(clr F F y).getD r .un=F.getD r .un∧Loose S m w (dropB ow fy) fy:=by
  by_cases hov:∃ v,zAp F y=.ov v
  · obtain ⟨v,hv⟩:=hov
    obtain ⟨n,rfl,hn,hrep⟩:=zBc h hk hv (by intro p;simp)
    obtain ⟨fp,h1,h2,h3⟩:=hrep
    have hg:F.getD n .un=.ov v:=hv
    refine ⟨fp,?_,h2,fun g hg=>⟨n,rfl,h3 g hg⟩,?_,?_,zA9 h h3⟩
    · simp only [zD0,hv];exact h1.cells
    · simp only [clr,hg];exact zCf wf h fun g hg=>(h3 g hg).1
    · simp only [clr,hg]
      rw [zA3,if_neg (fun e=>hr n rfl e.1)]
  · have hc:clr F F y=F:=by
      cases y with
      | t n=>
        simp only [clr]
        split
        · rename_i v e1;exact (hov ⟨v,e1⟩).elim
        · rfl
      | c p=>rfl
      | f n=>rfl
    have hp:∃ p,(zAp F y).pv?=some p∧(zAp F y).need∧(zD0 F y).2=p.norm.cells.map .p:=by
      unfold zD0 at hs ⊢
      split at hs
      · rename_i v e1;exact (hov ⟨v,e1⟩).elim
      · split at hs
        · rename_i p e1;exact ⟨p,e1,hs,by simp only [e1]⟩
        · exact hs.elim
    obtain ⟨p,hp1,hp2,hp3⟩:=hp
    have hrep:=(zAT h hk hp2 hp1).norm
    refine ⟨[],?_,List.nodup_nil,by simp,?_,by rw [hc],by simp [Loose]⟩
    · rw [hp3];exact OvL.of_rp hrep.cells
    · rw [hc]
      have:dropB ow []=ow:=by funext b;simp [dropB]
      rw [this];exact h
theorem yHe (wf:E.Wf) (h:InvG E S m β ow F a w) {r j base n:Nat} {x y:Opd} {pt:List (Opd×Nat)} {o:Oper} (hd:o.dst=none) (hr:zCL E r j base=true) {t:TypeId} {x' y':Operand} (ho:o.op=.store t x' y') (hk1:zAe E.N x x'=true) (hk2:zAe E.N y y'=true) (hs:zDc P t=some n)
    {K:List Ct→Prop} {X:Value→List Ct→Prop} {Q:Exit→Act→World→Prop} (hW:opW P (.vse x r j base pt n y) F K X):o.wp P a w (zDe E S K) Q:=by
  simp only [opW] at hW
  obtain ⟨root,p,b,e,k,rows,i,f,e1,e2,e3,hi,hyr,hsr,hlen,hf,hK⟩:=zSQ hW
  obtain ⟨fy,y1,y2,y3,y4,y5,y6⟩:=zNg wf h hk2 hsr hyr
  have hv:=zSR h hk1 e1
  obtain ⟨u,fp,hat,hrep,hnd,hown⟩:=zEI wf y4 hr (y5.trans e2)
  obtain ⟨v,f1,fn,f2,rfl,g1,_,g2⟩:=OvR.focus p _ _ u fp hrep e3
  have hndn:fn.Nodup:=by
    rw [List.nodup_append] at hnd
    have:=hnd.2.1
    rw [List.nodup_append] at this
    exact this.1
  have hfy:∀ g∈f1++(fn++f2),g∉fy:=by
    intro g hg hc
    have:=(hown g hg).1
    simp [dropB,hc] at this
  have hbfn:b∈fn:=by
    obtain ⟨_,_,_,_,_,rfl,hpin⟩:=zBI.1 g1
    have:=hpin b rfl (fun e=>by rw [e] at hi;simp at hi)
    exact List.mem_append_left _ (zCI.2 this)
  have hbmem:b∈f1++(fn++f2):=by simp [hbfn]
  obtain ⟨fa,fm,fb,cur,T,rfl,l2,l3,l4,l5⟩:=g1.lay hndn hi (by rw [hlen];exact hf) y1 (hfy b hbmem)
  have hvl:(a.eval y').cells.size=n:=by rw [←Array.length_toList,y1.length,hlen]
  have hvl':(a.eval y').cells.toList.length=n:=by rw [Array.length_toList];exact hvl
  rw [hvl'] at l4 l5
  have hrun:=zDg (P:=P) (w:=w) hs hvl l3 l4 y1.flat_
  have hr':(execOp a.eval o).run P w=.ok .skip (w.setRow b (cur.toList.take (i * k+f)++(a.eval y').cells.toList++cur.toList.drop (i * k+f+n)).toArray):=by
    unfold execOp;rw [ho]
    simp only [hv,Instr.storeAt,Instr.sureAddr,Sem.run_bind,Sem.run_pure,Result.andThen_ok,hrun]
  have hD:=zCf wf y4 fun g hg=>(hown g hg).1
  have hloose:=zA9 y4 hown
  have hb:=hloose b hbmem
  let w':=w.setRow b (cur.toList.take (i * k+f)++(a.eval y').cells.toList++cur.toList.drop (i * k+f+n)).toArray
  have hgrow:w.grownBy w' (some b):=⟨rfl,rfl,rfl,by simp [w'],fun g _ hg=>setRow_other w b g _ (fun e=>hg (by rw [e]))⟩
  have hsz:w.heap.size≤w'.heap.size:=hgrow.size
  have hDw:=hD.world (w':=w') hb.1 hb.2.2.2 hb.2.1 hgrow (Nat.le_refl _)
  have hnode:=l5 w' (setRow_heap w b cur _ T (0,0) l3) (fun g hg _=>setRow_other w b g _ hg)
  have hperm:=zSP f1 fa fm fb f2
  have hnd1:=hperm.nodup_iff.1 hnd
  have hnew:=g2 m w' _ (fa++(fy++fb)) m.le_refl (fun g hg=>setRow_other w b g _ (fun e=>by
    subst e
    have hp2:(f1++((fa++(fm++fb))++f2)).Perm ((f1++f2)++(fa++(fm++fb))):=List.perm_iff_count.2 fun x=>by simp only [List.count_append];omega
    have:=hp2.nodup_iff.1 hnd
    rw [List.nodup_append] at this
    exact this.2.2 g hg g (by simp [l2]) rfl)) hnode
  have hnd2:(f1++((fa++(fy++fb))++f2)).Nodup:=by
    have hp3:=zSP f1 fa fy fb f2
    rw [hp3.nodup_iff,List.nodup_append]
    rw [List.nodup_append] at hnd1
    refine ⟨y2,hnd1.2.1,fun x hx z hz e=>?_⟩
    subst e
    refine hfy x ?_ hx
    simp only [List.mem_append] at hz ⊢
    rcases hz with hz|(hz|hz)|hz
    · exact .inl hz
    · exact .inr (.inl (.inl hz))
    · exact .inr (.inl (.inr (.inr hz)))
    · exact .inr (.inr hz)
  have hA:=zDR wf hDw (hat.world hD (w':=w') (fun g t hg=>setRow_other w b g _ (fun e=>by subst e;rw [hb.1] at hg;cases hg))) hnew hnd2 (by
    intro g hg
    simp only [List.mem_append] at hg
    have:g∈f1++((fa++(fm++fb))++f2)∨g∈fy:=by
      simp only [List.mem_append]
      rcases hg with hg|(hg|hg|hg)|hg
      · exact .inl (.inl hg)
      · exact .inl (.inr (.inl (.inl hg)))
      · exact .inr hg
      · exact .inl (.inr (.inl (.inr (.inr hg))))
      · exact .inl (.inr (.inr hg))
    rcases this with hg'|hg'
    · exact (hloose.grow hsz) g hg'
    · exact ((y6.dropB).grow hsz) g hg')
  rw [List.set_set] at hA
  have:a.put o.dst undef=a:=by rw [hd];rfl
  have hA':Inv E S ((clr F F y).set r (.ov (.one (root.upd p (.os (some b) e k (rows.set i (zSA (rows.getD i []) f (zD0 F y).2))))))) (a.put o.dst undef) w':=by
    rw [this]
    exact ⟨m,β,_,hA⟩
  exact zFr hr' ⟨_,hK,hA'⟩
theorem zSS {j base nn b:Nat} (hB:BoxRep m w ow F j (base,nn) (some b)):∀ (n off:Nat),off+n≤nn→∀ cs,zCi F (base+off) n=some cs→
    ∃ us fp,us.length=n∧OvL m w cs us fp∧fp.Nodup∧(∀ g∈fp,(∃ i,base+off≤i∧i < base+off+n∧ow g=some (.key i)∧∃ v,F.getD i .un=.ov v)∧∀ o,m g o=none)∧∀ (i:Nat) (u:Value),us[i]?=some u→w.cell? ⟨b,off+i,none⟩=some u
  | 0,off,_,cs,h=>by
    simp only [zCi,Option.some.injEq] at h
    subst h
    exact ⟨[],[],rfl,by simp only [OvL];exact ⟨trivial,trivial⟩,List.nodup_nil,by simp,by simp⟩
  | n+1,off,hle,cs,h=>by
    simp only [zCi] at h
    split at h
    · rename_i x xs h1 h2
      injection h with h
      subst h
      obtain ⟨us,fp,k1,k2,k3,k4,k5⟩:=zSS hB n (off+1) (by omega) xs (by rw [show base+(off+1)=base+off+1 by omega];exact h2)
      have hB':=hB
      obtain ⟨_,_,vs,T,hh,hsz,hcell⟩:=hB'
      have hc:=hcell off (by simp only;omega)
      simp only at hc hsz
      have hcell':w.cell? ⟨b,off,none⟩=some (vs.getD off undef):=by
        rw [cell_of_row w b off vs T (0,0) hh];exact zJm (by omega)
      have hx:∃ f1,OvR m w x (vs.getD off undef) f1∧f1.Nodup∧∀ g∈f1,(ow g=some (.key (base+off))∧∃ v,F.getD (base+off) .un=.ov v)∧∀ o,m g o=none:=by
        generalize F.getD (base+off) .un=c at h1 hc
        cases c with
        | pv p=>cases p with
          | one y=>
            simp only [zNb,Option.some.injEq] at h1
            subst h1
            exact ⟨[],by simp only [OvR];exact ⟨trivial,Rp.norm hc⟩,List.nodup_nil,by simp⟩
          | agg cs=>cases h1
        | own e k rows=>
          simp only [zNb,Option.some.injEq] at h1
          subst h1
          exact ⟨[],by simp only [OvR];exact ⟨trivial,OwnRep.rp hc⟩,List.nodup_nil,by simp⟩
        | ov v=>cases v with
          | one y=>
            simp only [zNb,Option.some.injEq] at h1
            subst h1
            obtain ⟨f1,q1,q2,q3⟩:=hc
            exact ⟨f1,q1,q2,fun g hg=>⟨⟨(q3 g hg).1,_,rfl⟩,(q3 g hg).2⟩⟩
          | agg cs=>cases h1
        | _=>cases h1
      obtain ⟨f1,q1,q2,q3⟩:=hx
      refine ⟨vs.getD off undef::us,f1++fp,by simp [k1],by simp only [OvL];exact ⟨_,us,f1,fp,rfl,rfl,q1,k2⟩,?_,?_,?_⟩
      · rw [List.nodup_append]
        refine ⟨q2,k3,fun g hg g' hg' e=>?_⟩
        subst e
        obtain ⟨⟨i,i1,i2,i3,_⟩,_⟩:=k4 g hg'
        rw [(q3 g hg).1.1] at i3
        injection i3 with i3
        injection i3 with i3
        omega
      · intro g hg
        rcases List.mem_append.1 hg with hg|hg
        · exact ⟨⟨base+off,by omega,by omega,(q3 g hg).1.1,(q3 g hg).1.2⟩,(q3 g hg).2⟩
        · obtain ⟨⟨i,i1,i2,i3,i4⟩,i5⟩:=k4 g hg
          exact ⟨⟨i,by omega,by omega,i3,i4⟩,i5⟩
      · intro i u hu
        cases i with
        | zero=>simp only [List.getElem?_cons_zero,Option.some.injEq] at hu;subst hu;exact hcell'
        | succ i=>
          have:=k5 i u (by simpa using hu)
          rw [show off+(i+1)=off+1+i by omega]
          exact this
    · cases h
theorem zCS (F:List Ct):∀ (n i:Nat),(zAU F i n).length=n
  | 0,_=>rfl
  | n+1,i=>by simp [zAU,zCS F n]
theorem zFP (F:List Ct):∀ (n i k:Nat),k < n→(zAU F i n).getD k .un=yAA (F.getD (i+k) .un)
  | n+1,i,0,_=>by simp [zAU]
  | n+1,i,k+1,h=>by
    simp only [zAU,List.getD_cons_succ]
    rw [zFP F n (i+1) k (by omega),show i+1+k=i+(k+1) by omega]
theorem zXP (wf:E.Wf) (h:InvG E S m β ow F a w) {i n:Nat} {fp:List Nat} (hiN:E.N≤i) (hfp:∀ g∈fp,∃ k,i≤k∧k < i+n∧ow g=some (.key k)∧∃ v,F.getD k .un=.ov v):InvG E S m β (dropB ow fp) (zAa F i (zAU F i n)) a w:=by
  have hget:∀ k,(zAa F i (zAU F i n)).getD k .un=F.getD k .un∨((zAa F i (zAU F i n)).getD k .un=.un∧∃ v,F.getD k .un=.ov v)∨(zAa F i (zAU F i n)).getD k .un=.un:=by
    intro k
    rw [zAs,zCS]
    split
    · rename_i hk
      rw [zFP F n i (k-i) (by omega),show i+(k-i)=k by omega]
      generalize F.getD k .un=c
      cases c<;>simp [yAA]
    · exact .inl rfl
  have hgetN:∀ k,k < E.N→(zAa F i (zAU F i n)).getD k .un=F.getD k .un:=by
    intro k hk
    rw [zAs,if_neg (by omega)]
  have h1:InvG E S m β ow (zAa F i (zAU F i n)) a w:=by
    refine ⟨by rw [zAQ,h.lenF],h.lenA,h.dfr,fun k hk=>?_,fun j bn hj=>?_,h.mem,h.mle,h.pres,h.own,h.lt,h.new,h.fix⟩
    · rw [hgetN k hk];exact h.slots k hk
    · have hB:=h.boxes j bn hj
      cases hb:β j with
      | none=>
        rw [hb] at hB
        intro o ho
        rcases hget (bn.1+o) with e|⟨e,_⟩|e
        · rw [e];exact hB o ho
        · exact .inl e
        · exact .inl e
      | some b=>
        rw [hb] at hB
        obtain ⟨g1,g2,cs,T,g3,g4,g5⟩:=hB
        refine ⟨g1,g2,cs,T,g3,g4,fun o ho=>?_⟩
        rcases hget (bn.1+o) with e|⟨e,_⟩|e
        · rw [e];exact g5 o ho
        · rw [e];trivial
        · rw [e];trivial
  have st:Step (fun t=>∃ k,i≤k∧k < i+n∧t=.key k∧∃ v,F.getD k .un=.ov v) m m w w ow (dropB ow fp):=by
    refine ⟨m.le_refl,fun g t hg hX=>⟨rfl,fun _=>rfl,?_⟩⟩
    unfold dropB
    rw [if_neg]
    · exact hg
    · intro hm
      obtain ⟨k,k1,k2,k3,k4⟩:=hfp g hm
      rw [k3] at hg
      exact hX ⟨k,k1,k2,(Option.some.inj hg).symm,k4⟩
  have hL:=h.lenF
  have hle:=wf.le
  refine h1.step st rfl rfl rfl ?_ ?_ h.mem (Pres.refl _ _) ?_ ?_ (fun b o u hu=>.inl hu)
  · intro k hk
    left
    exact ⟨rfl,rfl,.inl (by rintro ⟨k',k1,k2,k3,_⟩;injection k3;omega)⟩
  · intro j bn hj
    right
    have hB:=h1.boxes j bn hj
    have hhi:=wf.hi j bn hj
    cases hb:β j with
    | none=>rw [hb] at hB;exact hB
    | some b=>
      rw [hb] at hB
      obtain ⟨g1,g2,cs,T,g3,g4,g5⟩:=hB
      obtain ⟨_,_,k3⟩:=st.keep b _ g1 (by rintro ⟨k',k1,k2,k3,_⟩;cases k3)
      refine ⟨k3,g2,cs,T,g3,g4,fun o ho=>?_⟩
      by_cases hX:∃ k,i≤k∧k < i+n∧(Tag.key (bn.1+o))=.key k∧∃ v,F.getD k .un=.ov v
      · obtain ⟨k,k1,k2,k3,v,k4⟩:=hX
        injection k3 with k3
        have:(zAa F i (zAU F i n)).getD (bn.1+o) .un=.un:=by
          rw [zAs,zCS,if_pos (by omega),zFP F n i _ (by omega),show i+(bn.1+o-i)=k by omega,k4]
          rfl
        rw [this]
        trivial
      · exact (g5 o ho).step st hX
  · intro b t hb
    unfold dropB at hb
    split at hb
    · cases hb
    · exact h.own b t hb
  · intro b t hb
    unfold dropB at hb
    split at hb
    · cases hb
    · exact h.lt b t hb
theorem yHf (wf:E.Wf) (h:InvG E S m β ow F a w) {d j base off n:Nat} {x:Opd} {agg:Bool} {o:Oper} (hd:zAF E.N (some d) o.dst=true) {t:TypeId} {y:Operand} (ho:o.op=.load t y) (hk:zAe E.N x y=true) (hb:zDB E j base (off+n)=true) (ha:zBw P t=some agg) (hn:zDc P t=some n) (h1:agg=true∨n=1)
    {K:List Ct→Prop} {Q:Exit→Act→World→Prop} {cs:List OV} (hx:zAp F x=.ptr j off) (hc:zCi F (base+off) n=some cs) (hK:K ((zAa F (base+off) (zAU F (base+off) n)).set d (.ov (yBO agg cs)))):o.wp P a w (zDe E S K) Q:=by
  obtain ⟨hd1,hd2⟩:=zAf hd
  obtain ⟨nn,hj,hnn⟩:=zCM hb
  obtain ⟨b,hβ,hv⟩:=zCd h hk hx
  have hB:=h.boxes j _ hj
  rw [hβ] at hB
  obtain ⟨us,fp,k1,k2,k3,k4,k5⟩:=zSS hB n off hnn cs hc
  have hlo:=wf.lo j _ hj
  simp only at hlo
  have hD:=zXP wf h (i:=base+off) (n:=n) (by omega) fun g hg=>(k4 g hg).1
  have hloose:Loose S m w (dropB ow fp) fp:=fun g hg=>by
    obtain ⟨⟨i,_,_,i3,_⟩,i5⟩:=k4 g hg
    exact ⟨by simp [dropB,hg],h.own g _ i3,h.lt g _ i3,i5⟩
  refine zAC (zZC ho hv ha hn h1 k1 k5) ⟨_,hK,?_⟩
  rw [hd1]
  exact zCj wf hD hd2 (zMQ k2 (by rw [k1];exact h1)) k3 hloose
theorem zIq (wf:E.Wf) {j base nn b:Nat} (hj:E.Γ[j]?=some (base,nn)) (hβ:β j=some b):∀ (cs:List OV) (us:List Value) (fp:List Nat) (ow:Ow) (F:List Ct) (off:Nat),InvG E S m β ow F a w→off+cs.length≤nn→OvL m w cs us fp→fp.Nodup→Loose S m w ow fp→
    (∀ (i:Nat) (u:Value),us[i]?=some u→w.cell? ⟨b,off+i,none⟩=some u)→∃ ow',InvG E S m β ow' (zAa F (base+off) (cs.map zEo)) a w
  | [],us,fp,ow,F,off,h,_,_,_,_,_=>⟨ow,h⟩
  | x::xs,us,fp,ow,F,off,h,hle,hr,hnd,hl,hcells=>by
    simp only [OvL] at hr
    obtain ⟨u,us',f1,f2,rfl,rfl,h3,h4⟩:=hr
    simp only [List.length_cons] at hle
    rw [List.nodup_append] at hnd
    have hB:=h.boxes j _ hj
    rw [hβ] at hB
    obtain ⟨_,_,vs,T,hh,hsz,_⟩:=hB
    simp only at hsz
    have hlo:=wf.lo j _ hj
    simp only at hlo
    have hu:u=vs.getD off undef:=by
      have:=hcells 0 u rfl
      rw [Nat.add_zero,cell_of_row w b off vs T (0,0) hh,zJm (by omega)] at this
      exact (Option.some.inj this).symm
    have hat:AtIx E β a w (base+off) u:=.inr ⟨j,base,nn,b,vs,T,by omega,hj,by omega,by omega,hβ,hh,by rw [show base+off-base=off by omega];exact hu⟩
    have hstep:∃ ow1,InvG E S m β ow1 (F.set (base+off) (zEo x)) a w∧Loose S m w ow1 f2:=by
      cases x with
      | p q=>
        simp only [OvR] at h3
        exact ⟨ow,h.setIx wf hat (fun h'=>by omega) (fun _=>h3.2),hl.right⟩
      | hole=>
        refine ⟨zD1 ow f1 (base+off),zDR wf h hat h3 hnd.1 hl.left,fun g hg=>⟨?_,(hl.right g hg).2⟩⟩
        unfold zD1
        rw [if_neg (fun hc=>hnd.2.2 g hc g hg rfl)]
        exact (hl.right g hg).1
      | os pb e k rows=>
        refine ⟨zD1 ow f1 (base+off),zDR wf h hat h3 hnd.1 hl.left,fun g hg=>⟨?_,(hl.right g hg).2⟩⟩
        unfold zD1
        rw [if_neg (fun hc=>hnd.2.2 g hc g hg rfl)]
        exact (hl.right g hg).1
      | mp b ks vs=>
        refine ⟨zD1 ow f1 (base+off),zDR wf h hat h3 hnd.1 hl.left,fun g hg=>⟨?_,(hl.right g hg).2⟩⟩
        unfold zD1
        rw [if_neg (fun hc=>hnd.2.2 g hc g hg rfl)]
        exact (hl.right g hg).1
      | bl T e b bs=>
        refine ⟨zD1 ow f1 (base+off),zDR wf h hat h3 hnd.1 hl.left,fun g hg=>⟨?_,(hl.right g hg).2⟩⟩
        unfold zD1
        rw [if_neg (fun hc=>hnd.2.2 g hc g hg rfl)]
        exact (hl.right g hg).1
      | it b n seen=>
        refine ⟨zD1 ow f1 (base+off),zDR wf h hat h3 hnd.1 hl.left,fun g hg=>⟨?_,(hl.right g hg).2⟩⟩
        unfold zD1
        rw [if_neg (fun hc=>hnd.2.2 g hc g hg rfl)]
        exact (hl.right g hg).1
    obtain ⟨ow1,g1,g2⟩:=hstep
    have:=zIq wf hj hβ xs us' f2 ow1 _ (off+1) g1 (by omega) h4 hnd.2.1 g2 fun i v hv=>by
      have:=hcells (i+1) v (by simpa using hv)
      rw [show off+1+i=off+(i+1) by omega]
      exact this
    obtain ⟨ow2,g3⟩:=this
    exact ⟨ow2,by simpa only [List.map_cons,zAa,Nat.add_assoc] using g3⟩
theorem yHg (wf:E.Wf) (h:InvG E S m β ow F a w) {x:Opd} {j base off n y:Nat} {o:Oper} (hd:o.dst=none) {t:TypeId} {x' y':Operand} (ho:o.op=.store t x' y') (hk1:zAe E.N x x'=true) (hk2:zAe E.N (.t y) y'=true) (hb:zDB E j base (off+n)=true) (hs:zDc P t=some n)
    {K:List Ct→Prop} {Q:Exit→Act→World→Prop} {v:OVal} (hx:zAp F x=.ptr j off) (hy:F.getD y .un=.ov v) (hn:v.cells.length=n) (hK:K (zAa (F.set y .un) (base+off) (v.cells.map zEo))):o.wp P a w (zDe E S K) Q:=by
  obtain ⟨nn,hj,hnn⟩:=zCM hb
  obtain ⟨b,hβ,hv⟩:=zCd h hk1 hx
  obtain ⟨rfl,hyN⟩:=zBd hk2
  have hrep:=h.slots y hyN
  rw [hy] at hrep
  obtain ⟨fp,r1,r2,r3⟩:=hrep
  have hD:=zCf wf h fun g hg=>(r3 g hg).1
  have hloose:=zA9 h r3
  have hcl:=r1.cells
  have hev:a.eval (.tmp y)=a.tmps.getD y undef:=rfl
  have hsz:(a.tmps.getD y undef).cells.size=n:=by rw [←Array.length_toList,hcl.length,hn]
  have hF:∀ (l:List Ct) (G:List Ct) (i:Nat),(∀ c∈l,c=.un)→InvG E S m β (dropB ow fp) G a w→InvG E S m β (dropB ow fp) (zAa G i l) a w:=by
    intro l
    induction l with
    | nil=>intro G i _ hG;exact hG
    | cons c l ih=>
      intro G i hl hG
      rw [hl c List.mem_cons_self]
      refine ih _ _ (fun c' hc'=>hl c' (List.mem_cons_of_mem _ hc')) ?_
      refine ⟨by simp [hG.lenF],hG.lenA,hG.dfr,fun i hi=>?_,fun j bn hj=>?_,hG.mem,hG.mle,hG.pres,hG.own,hG.lt,hG.new,hG.fix⟩
      · rw [zA3]
        split
        · trivial
        · exact hG.slots i hi
      · have hB:=hG.boxes j bn hj
        cases hb:β j with
        | none=>
          rw [hb] at hB
          intro o ho
          rw [zA3]
          split
          · exact .inl rfl
          · exact hB o ho
        | some b=>
          rw [hb] at hB
          obtain ⟨g1,g2,cs,T,g3,g4,g5⟩:=hB
          refine ⟨g1,g2,cs,T,g3,g4,fun o ho=>?_⟩
          rw [zA3]
          split
          · trivial
          · exact g5 o ho
  have hU:=hF (List.replicate n .un) (F.set y .un) (base+off) (fun c hc=>(List.mem_replicate.1 hc).2) hD
  have hBU:=hU.boxes j _ hj
  rw [hβ] at hBU
  obtain ⟨b1,b2,vs,T,hh,hvs,hcell⟩:=hBU
  simp only at hvs
  have hrun:=zDg (P:=P) (w:=w) hs hsz hh (off:=off) (by omega) hcl.flat_
  let nv:Array Value:=(vs.toList.take off++(a.tmps.getD y undef).cells.toList++vs.toList.drop (off+n)).toArray
  let w':=w.setRow b nv
  have hr':(execOp a.eval o).run P w=.ok .skip w':=by
    unfold execOp;rw [ho]
    simp only [hv,hev,Instr.storeAt,Instr.sureAddr,Sem.run_bind,Sem.run_pure,Result.andThen_ok,hrun]
    rfl
  have hl:(a.tmps.getD y undef).cells.toList.length=n:=by rw [Array.length_toList];exact hsz
  have hnv:nv.size=nn:=by simp only [nv,List.size_toArray,List.length_append,List.length_take,List.length_drop,hl,Array.length_toList];omega
  have hlo:=wf.lo j _ hj
  have hhi:=wf.hi j _ hj
  have hleN:=wf.le
  simp only at hlo hhi
  have st:Step (fun t=>t=.box j) m m w w' (dropB ow fp) (dropB ow fp):=by
    refine ⟨m.le_refl,fun g t hg hX=>⟨setRow_other w b g _ (fun e=>?_),fun _=>rfl,hg⟩⟩
    subst e
    rw [b1] at hg
    exact hX (Option.some.inj hg).symm
  have hW:InvG E S m β (dropB ow fp) (zAa (F.set y .un) (base+off) (List.replicate n .un)) a w':=by
    refine hU.step st rfl rfl rfl (fun i _=>.inl ⟨rfl,rfl,.inl (by intro h3;cases h3)⟩) ?_ (MemOk.setRow h.mem b2 _) ((Pres.setRow _ w b _ (by rcases hU.own b _ b1 with g|g;exact .inr g;exact .inl g))) hU.own (fun g t hg=>by have:=hU.lt g t hg;simpa [w'] using this) (fun b o u hu=>.inl hu)
    intro j' bn hj'
    by_cases hjj:j'=j
    · subst hjj
      rw [hj] at hj'
      injection hj' with hj'
      subst hj'
      right
      rw [hβ]
      refine ⟨b1,b2,nv,T,setRow_heap w b vs nv T (0,0) hh,hnv,fun o' ho'=>?_⟩
      simp only at ho' ⊢
      by_cases hin:off≤o'∧o' < off+n
      · rw [zAs,if_pos (by simp [hU.lenF,h.lenF];omega)]
        have:(List.replicate n Ct.un).getD (base+o'-(base+off)) .un=.un:=by rw [List.getD_eq_getElem?_getD,List.getElem?_replicate];split<;>rfl
        rw [this]
        trivial
      · have hsame:nv.getD o' undef=vs.getD o' undef:=by
          have hlen:off+(a.tmps.getD y undef).cells.toList.length≤vs.toList.length:=by rw [hl,Array.length_toList];omega
          have:=zSM vs.toList (a.tmps.getD y undef).cells.toList off o' hlen
          rw [hl,if_neg hin] at this
          have e1:nv[o']?=vs[o']?:=by
            simp only [nv,List.getElem?_toArray]
            rw [this,Array.getElem?_toList]
          simp only [Array.getD_eq_getD_getElem?,e1]
        rw [hsame]
        exact (hcell o' ho').step st (by intro h3;cases h3)
    · left
      exact ⟨by intro h3;injection h3 with h3;exact hjj h3,fun o' _=>⟨rfl,by intro h3;cases h3⟩⟩
  have hcw:OvL m w' v.cells (a.tmps.getD y undef).cells.toList fp:=OvL.congr m.le_refl _ _ _ (fun g hg=>setRow_other w b g _ (fun e=>by
    subst e
    rw [(hloose g hg).1] at b1
    cases b1)) hcl
  obtain ⟨ow',hA⟩:=zIq wf hj hβ v.cells _ fp _ _ off hW (by omega) hcw r2 (hloose.grow (by simp [w'])) fun i u hu=>by
    rw [cell_of_row w' b (off+i) nv T (0,0) (setRow_heap w b vs nv T (0,0) hh)]
    have hi:i < n:=by rw [←hl];exact (List.getElem?_eq_some_iff.1 hu).1
    have hlen:off+(a.tmps.getD y undef).cells.toList.length≤vs.toList.length:=by rw [hl,Array.length_toList];omega
    have:=zSM vs.toList (a.tmps.getD y undef).cells.toList off (off+i) hlen
    rw [hl,if_pos (by omega),show off+i-off=i by omega] at this
    simp only [nv,List.getElem?_toArray]
    rw [this]
    exact hu
  have hcc:∀ (l l':List Ct) (G:List Ct) (i:Nat),l.length=l'.length→zAa (zAa G i l) i l'=zAa G i l':=by
    intro l
    induction l with
    | nil=>intro l' G i hl;cases l' with|nil=>rfl|cons _ _=>simp at hl
    | cons c l ih=>
      intro l' G i hl
      cases l' with
      | nil=>simp at hl
      | cons c' l'=>
        simp only [zAa]
        have hcomm:∀ (l:List Ct) (G:List Ct) (i j:Nat) (c:Ct),j < i→(zAa G i l).set j c=zAa (G.set j c) i l:=by
          intro l
          induction l with
          | nil=>intros;rfl
          | cons d l ih2=>
            intro G i j c hji
            simp only [zAa]
            rw [ih2 _ _ _ _ (by omega),List.set_comm _ _ (by omega)]
        rw [hcomm l _ (i+1) i c' (by omega),List.set_set]
        exact ih l' _ _ (by simpa using hl)
  rw [hcc _ _ _ _ (by simp [hn])] at hA
  have:a.put o.dst undef=a:=by rw [hd];rfl
  have hA':Inv E S (zAa (F.set y .un) (base+off) (v.cells.map zEo)) (a.put o.dst undef) w':=by
    rw [this]
    exact ⟨m,β,_,hA⟩
  exact zFr hr' ⟨_,hK,hA'⟩
theorem zZD {t e k ty:Nat} (he:zC5 P t e k=true) (hsm:k≤2 ^ 24) {v:Value} (hv:v.cells.size=k) {op:Oper} {y:Operand} (ho:op.op=.buildSlice t 1 #[(0,y)]) (hy:a.eval y=v) (_:ty=ty):
    (execOp a.eval op).run P w=.ok (.value (.slice (some ⟨w.heap.size,0,none⟩) 1 1)) (w.alloc (.cells v.cells.toList.toArray e)):=by
  obtain ⟨hu,hk,ie,z,hie,hsz,hby,hz',hzs⟩:=zGB he
  have hf:=Great.fill_whole (s:=ie.size) (by omega) [v] ((Array.range (1 * ie.size)).map (z.cells[· % z.cells.size]!)) (by rw [hsz];simpa using hv) (by simp)
  have hpos:¬ 1 * ie.size=0:=by rw [hsz];omega
  have hr:=run_buildSlice (P:=P) w t e 1 (#[(0,y)].map fun x=>(x.1,a.eval x.2)) _ ie z hu hie hz' (by rw [hsz];omega) hpos (by simpa [hy] using hf)
  unfold execOp;rw [ho]
  simp only [Sem.run_bind,hr,Result.andThen_ok]
  simp
theorem yHh (wf:E.Wf) (h:InvG E S m β ow F a w) {d e k x n:Nat} {o:Oper} (hd:zAF E.N (some d) o.dst=true) {t:TypeId} {ps:Array (Nat×Operand)} (ho:o.op=.buildSlice t n ps) (k0:zDf E.N 0 [.t x] ps.toList=true) (hn:n=1) (hsm:k≤2 ^ 24) (he:zC5 P t e k=true)
    {K:List Ct→Prop} {Q:Exit→Act→World→Prop} {v:OVal} (hx:F.getD x .un=.ov v) (hl:v.cells.length=k) (hK:K ((F.set x .un).set d (.ov (.one (.os none e k [v.cells]))))):o.wp P a w (zDe E S K) Q:=by
  obtain ⟨hd1,hd2⟩:=zAf hd
  subst hn
  have hps:∃ y,ps=#[(0,y)]∧zAe E.N (.t x) y=true:=by
    obtain ⟨l⟩:=ps
    match l,k0 with
    | [(i,y)],k0=>
      simp only [zDf,Bool.and_eq_true,beq_iff_eq] at k0
      exact ⟨y,by rw [←k0.1.1],k0.1.2⟩
    | [],k0=>simp [zDf] at k0
    | _::_::_,k0=>simp [zDf] at k0
  obtain ⟨y,rfl,hk⟩:=hps
  obtain ⟨rfl,hxN⟩:=zBd hk
  have hs:=h.slots x hxN
  rw [hx] at hs
  obtain ⟨fp,h1,h2,h3⟩:=hs
  have hcl:=h1.cells
  have hsz:(a.tmps.getD x undef).cells.size=k:=by rw [←Array.length_toList,hcl.length,hl]
  have hrun:=zZD (P:=P) (w:=w) (a:=a) (ty:=0) he hsm hsz ho rfl rfl
  have hD:=zCf wf h fun g hg=>(h3 g hg).1
  have hloose:=zA9 h h3
  let w':=w.alloc (.cells (a.tmps.getD x undef).cells.toList.toArray e)
  have hgrow:w.grownBy w' none:=World.grownBy_alloc w _ none
  have hown:ow w.heap.size=none:=by
    cases hb:ow w.heap.size with
    | none=>rfl
    | some t=>have:=h.lt _ _ hb;omega
  have hmn:∀ o,m w.heap.size o=none:=fun o=>by
    cases hm:m w.heap.size o with
    | none=>rfl
    | some u=>have:=zD9 h.mem hm;omega
  have hnf:w.heap.size∉fp:=fun hc=>by have:=(hloose _ hc).2.2.1;omega
  have hDw:InvG E S m β (dropB ow fp) (F.set x .un) a w':=hD.world (b:=w.heap.size) (by unfold dropB;rw [if_neg hnf];exact hown) hmn (.inl h.pres.size) ⟨hgrow.os,hgrow.tape,hgrow.output,hgrow.size,fun g hg _=>hgrow.block g hg (by simp)⟩ (zFn _ _ _ _ hrun)
  refine zAC hrun ⟨_,hK,?_⟩
  rw [hd1]
  refine zCj wf hDw hd2 (x:=.one (.os none e k [v.cells])) (fp:=w.heap.size::fp) ?_ (by rw [List.nodup_cons];exact ⟨hnf,h2⟩) ?_
  · refine zBI.2 ⟨(a.tmps.getD x undef).cells.toList,fp,?_,?_,by simp [hl],by simp [blk,Value.ownBlock],fun b hb=>by cases hb⟩
    · exact World.ownsRow_lit w _ 1 (Nat.zero_le _) (by simp [maxLen]) (by rw [List.size_toArray,Array.length_toList,hsz,Nat.one_mul])
    · simp only [List.flatten_cons,List.flatten_nil,List.append_nil]
      exact OvL.congr m.le_refl _ _ _ (fun g hg=>hgrow.block g (hloose g hg).2.2.1 (by simp)) hcl
  · intro g hg
    rcases List.mem_cons.1 hg with rfl|hg
    · exact ⟨by unfold dropB;rw [if_neg hnf];exact hown,.inl h.pres.size,by simp [w'],hmn⟩
    · exact (hloose.grow hgrow.size) g hg
theorem yHi (wf:E.Wf) (h:InvG E S m β ow F a w) {d e k n:Nat} {y:Opd} {o:Oper} (hd:zAF E.N (some d) o.dst=true) {t:TypeId} {ps:Array (Nat×Operand)} (ho:o.op=.buildSlice t n ps) (k0:zDf E.N 0 [y] ps.toList=true) (hn:n=1) (hsm:k≤2 ^ 24) (he:zC5 P t e k=true)
    {K:List Ct→Prop} {Q:Exit→Act→World→Prop} (hs:(zD0 F y).1) (hl:(zD0 F y).2.length=k) (hK:K ((clr F F y).set d (.ov (.one (.os none e k [(zD0 F y).2]))))):o.wp P a w (zDe E S K) Q:=by
  obtain ⟨hd1,hd2⟩:=zAf hd
  subst hn
  have hps:∃ y',ps=#[(0,y')]∧zAe E.N y y'=true:=by
    obtain ⟨l⟩:=ps
    match l,k0 with
    | [(i,y')],k0=>
      simp only [zDf,Bool.and_eq_true,beq_iff_eq] at k0
      exact ⟨y',by rw [←k0.1.1],k0.1.2⟩
    | [],k0=>simp [zDf] at k0
    | _::_::_,k0=>simp [zDf] at k0
  obtain ⟨y',rfl,hk⟩:=hps
  obtain ⟨fp,hcl,h2,_,hD,_,hloose⟩:=zNg wf h hk hs (r:=match y with|.t s=>s+1|_=>0) (by rintro s rfl;simp)
  have hsz:(a.eval y').cells.size=k:=by rw [←Array.length_toList,hcl.length,hl]
  have hrun:=zZD (P:=P) (w:=w) (a:=a) (ty:=0) he hsm hsz ho rfl rfl
  let w':=w.alloc (.cells (a.eval y').cells.toList.toArray e)
  have hgrow:w.grownBy w' none:=World.grownBy_alloc w _ none
  have hown:ow w.heap.size=none:=by
    cases hb:ow w.heap.size with
    | none=>rfl
    | some t=>have:=h.lt _ _ hb;omega
  have hmn:∀ o,m w.heap.size o=none:=fun o=>by
    cases hm:m w.heap.size o with
    | none=>rfl
    | some u=>have:=zD9 h.mem hm;omega
  have hnf:w.heap.size∉fp:=fun hc=>by have:=(hloose _ hc).2.2.1;omega
  have hDw:InvG E S m β (dropB ow fp) (clr F F y) a w':=hD.world (b:=w.heap.size) (by unfold dropB;rw [if_neg hnf];exact hown) hmn (.inl h.pres.size) ⟨hgrow.os,hgrow.tape,hgrow.output,hgrow.size,fun g hg _=>hgrow.block g hg (by simp)⟩ (zFn _ _ _ _ hrun)
  refine zAC hrun ⟨_,hK,?_⟩
  rw [hd1]
  refine zCj wf hDw hd2 (x:=.one (.os none e k [(zD0 F y).2])) (fp:=w.heap.size::fp) ?_ (by rw [List.nodup_cons];exact ⟨hnf,h2⟩) ?_
  · refine zBI.2 ⟨(a.eval y').cells.toList,fp,?_,?_,by simp [hl],by simp [blk,Value.ownBlock],fun b hb=>by cases hb⟩
    · exact World.ownsRow_lit w _ 1 (Nat.zero_le _) (by simp [maxLen]) (by rw [List.size_toArray,Array.length_toList,hsz,Nat.one_mul])
    · simp only [List.flatten_cons,List.flatten_nil,List.append_nil]
      exact OvL.congr m.le_refl _ _ _ (fun g hg=>hgrow.block g (hloose g hg).2.2.1 (by simp)) hcl
  · intro g hg
    rcases List.mem_cons.1 hg with rfl|hg
    · exact ⟨by unfold dropB;rw [if_neg hnf];exact hown,.inl h.pres.size,by simp [w'],hmn⟩
    · exact (hloose.grow hgrow.size) g hg
theorem yHj (wf:E.Wf) (h:InvG E S m β ow F a w) {d off n:Nat} {zs:List PV} {y:Opd} {o:Oper} (hd:zAF E.N (some d) o.dst=true) {t:TypeId} {ps:Array (Nat×Operand)} (ho:o.op=.build t ps) (k0:zBx P E.N t [(off,n,y)] ps.toList=true) {z:Array Value} (hz:(P.info? t).bind (·.zero)=some (.agg z)) (hzo:zBJ zs z.toList=true) (hpl:zEg P t=true)
    {K:List Ct→Prop} {Q:Exit→Act→World→Prop} (hs:(zD0 F y).1) (hl:(zD0 F y).2.length=n) (hle:off+n≤zs.length) (hK:K ((clr F F y).set d (.ov (.agg ((zs.take off).map .p++(zD0 F y).2++(zs.drop (off+n)).map .p))))):o.wp P a w (zDe E S K) Q:=by
  obtain ⟨hd1,hd2⟩:=zAf hd
  unfold zEg at hpl
  split at hpl
  · rename_i fs hu
    obtain ⟨places,hpl⟩:=Option.isSome_iff_exists.1 hpl
    obtain ⟨it,hit,hz'⟩:=Option.bind_eq_some_iff.1 hz
    have hps:∃ f y',ps=#[(f,y')]∧zAe E.N y y'=true∧∃ fd,fieldAt? P t f=some fd∧fd.offset=off∧zDc P fd.type=some n:=by
      obtain ⟨l⟩:=ps
      match l,k0 with
      | [(f,y')],k0=>
        simp only [zBx,Bool.and_eq_true] at k0
        obtain ⟨⟨k1,k2⟩,_⟩:=k0
        split at k1
        · rename_i fd hfd
          simp only [Bool.and_eq_true,beq_iff_eq] at k1
          exact ⟨f,y',rfl,k2,fd,hfd,k1.1,k1.2⟩
        · cases k1
      | [],k0=>simp [zBx] at k0
      | _::_::_,k0=>simp [zBx] at k0
    obtain ⟨f,y',rfl,hk,fd,hfd,rfl,hn⟩:=hps
    obtain ⟨fp,hcl,h2,_,hD,_,hloose⟩:=zNg wf h hk hs (r:=match y with|.t s=>s+1|_=>0) (by rintro s rfl;simp)
    have hvl:(a.eval y').cells.toList.length=n:=by rw [hcl.length,hl]
    have hsz:(a.eval y').cells.size=n:=by rw [←Array.length_toList];exact hvl
    have hpf:places.toArray[f]?=some (fd.offset,n):=by
      have hfs:fs[f]?=some fd:=by unfold fieldAt? at hfd;rw [hu] at hfd;exact hfd
      have:=zHE hpl f fd (by simpa using hfs)
      rw [show places.toArray[f]?=places[f]? by simp,this]
      obtain ⟨i,hi,hin⟩:=Option.map_eq_some_iff.1 hn
      simp [hi,hin]
    have hr:=zDQ (m:=m) hzo
    have hus:=hr.length
    have hb:P.built t (#[(f,y')].map fun x=>(x.1,a.eval x.2)).toList=some (z.toList.take fd.offset++(a.eval y').cells.toList++z.toList.drop (fd.offset+n)).toArray:=by
      have e0:(Value.agg z).cells=z:=rfl
      unfold Program.built
      simp only [hit,hu,hz',hpl,e0,Array.toList_map]
      simp only [List.map_cons,List.map_nil]
      conv=>lhs;unfold Instr.fill
      simp only [hpf]
      rw [if_neg (by rw [hsz];simp only [Array.length_toList] at hus;simp;omega)]
      simp only [Instr.fill]
      congr 1
      rw [←Array.foldl_toList,Array.toList_zipIdx]
      have:=zJj fd.offset (a.eval y').cells.toList z (by rw [hvl];simp only [Array.length_toList] at hus;omega)
      rw [hvl] at this
      simpa using this
    have hrun:(execOp a.eval o).run P w=.ok (.value (.agg (z.toList.take fd.offset++(a.eval y').cells.toList++z.toList.drop (fd.offset+n)).toArray)) w:=by
      unfold execOp;rw [ho]
      have hrun:=run_build w t (#[(f,y')].map fun x=>(x.1,a.eval x.2)) _ hb
      simp only [Sem.run_bind,hrun,Result.andThen_ok]
      rfl
    refine zAC hrun ⟨_,hK,?_⟩
    rw [hd1]
    have h1:RpL m (zs.take fd.offset) (z.toList.take fd.offset):=by simpa using hr.sub 0 fd.offset
    have h3:RpL m (zs.drop (fd.offset+n)) (z.toList.drop (fd.offset+n)):=by
      have:=hr.sub (fd.offset+n) zs.length
      rw [List.take_of_length_le (by simp),List.take_of_length_le (by simp [hus])] at this
      exact this
    refine zCj wf hD hd2 (x:=.agg _) (fp:=fp) ⟨_,rfl,?_⟩ h2 hloose
    have:=((OvL.of_rp (w:=w) h1).append hcl).append (OvL.of_rp (w:=w) h3)
    simpa using this
  · cases hpl
theorem zNh {pl:Nat→Option (Nat×Nat)}:∀ (l1:List (Nat×Value)) {us us':Array Value} (l2:List (Nat×Value)),Instr.fill pl us l1=some us'→Instr.fill pl us (l1++l2)=Instr.fill pl us' l2
  | [],us,us',l2,h=>by simp only [Instr.fill,Option.some.injEq] at h;rw [←h];rfl
  | (f,v)::l1,us,us',l2,h=>by
    simp only [List.cons_append]
    rw [Instr.fill] at h ⊢
    cases hp:pl f with
    | none=>rw [hp] at h;cases h
    | some q=>
      obtain ⟨off,size⟩:=q
      rw [hp] at h
      simp only at h ⊢
      by_cases hc:(decide (v.cells.size≠size)||decide (off+v.cells.size > us.size))=true
      · rw [if_pos hc] at h;cases h
      · rw [if_neg hc] at h
        rw [if_neg hc]
        exact zNh l1 l2 h
theorem zH1 {t:TypeId} {N:Nat}:∀ {p1 p2:List (Nat×Nat×Opd)} {ps:List (Nat×Operand)},zBx P N t (p1++p2) ps=true→∃ q1 q2,ps=q1++q2∧zBx P N t p1 q1=true∧zBx P N t p2 q2=true
  | [],p2,ps,h=>⟨[],ps,rfl,rfl,h⟩
  | x::p1,p2,[],h=>by simp [zBx] at h
  | (off,n,x)::p1,p2,(f,y)::ps,h=>by
    simp only [List.cons_append,zBx,Bool.and_eq_true] at h
    obtain ⟨q1,q2,rfl,h1,h2⟩:=zH1 h.2
    exact ⟨(f,y)::q1,q2,rfl,by simp only [zBx,Bool.and_eq_true];exact ⟨h.1,h1⟩,h2⟩
theorem yHk (wf:E.Wf) (h:InvG E S m β ow F a w) {d off n:Nat} {zs:List PV} {parts:List (Nat×Nat×Opd)} {y:Opd} {o:Oper} (hd:zAF E.N (some d) o.dst=true) {t:TypeId} {ps:Array (Nat×Operand)} (ho:o.op=.build t ps) (k0:zBx P E.N t (parts++[(off,n,y)]) ps.toList=true) {z:Array Value} (hz:(P.info? t).bind (·.zero)=some (.agg z)) (hzo:zBJ zs z.toList=true) (hpl:zEg P t=true)
    {K:List Ct→Prop} {Q:Exit→Act→World→Prop} (hpv:(zBm F zs parts).1) (hpn:(zBm F zs parts).2.length=zs.length) (hs:(zD0 F y).1) (hl:(zD0 F y).2.length=n) (hle:off+n≤zs.length) (hK:K ((clr F F y).set d (.ov (.agg (((zBm F zs parts).2.take off).map .p++(zD0 F y).2++((zBm F zs parts).2.drop (off+n)).map .p))))):o.wp P a w (zDe E S K) Q:=by
  obtain ⟨hd1,hd2⟩:=zAf hd
  unfold zEg at hpl
  split at hpl
  · rename_i fs hu
    obtain ⟨places,hpl⟩:=Option.isSome_iff_exists.1 hpl
    obtain ⟨it,hit,hz'⟩:=Option.bind_eq_some_iff.1 hz
    obtain ⟨q1,q2,hq,k1,k2⟩:=zH1 k0
    have hps:∃ f y',q2=[(f,y')]∧zAe E.N y y'=true∧∃ fd,fieldAt? P t f=some fd∧fd.offset=off∧zDc P fd.type=some n:=by
      match q2,k2 with
      | [(f,y')],k0=>
        simp only [zBx,Bool.and_eq_true] at k0
        obtain ⟨⟨k1,k2⟩,_⟩:=k0
        split at k1
        · rename_i fd hfd
          simp only [Bool.and_eq_true,beq_iff_eq] at k1
          exact ⟨f,y',rfl,k2,fd,hfd,k1.1,k1.2⟩
        · cases k1
      | [],k0=>simp [zBx] at k0
      | _::_::_,k0=>simp [zBx] at k0
    obtain ⟨f,y',rfl,hk,fd,hfd,rfl,hn⟩:=hps
    obtain ⟨us',hf1,hr⟩:=zM8 h hu hpl k1 (zDQ (m:=m) hzo) hpv
    obtain ⟨fp,hcl,h2,_,hD,_,hloose⟩:=zNg wf h hk hs (r:=match y with|.t s=>s+1|_=>0) (by rintro s rfl;simp)
    have hvl:(a.eval y').cells.toList.length=n:=by rw [hcl.length,hl]
    have hsz:(a.eval y').cells.size=n:=by rw [←Array.length_toList];exact hvl
    have hpf:places.toArray[f]?=some (fd.offset,n):=by
      have hfs:fs[f]?=some fd:=by unfold fieldAt? at hfd;rw [hu] at hfd;exact hfd
      have:=zHE hpl f fd (by simpa using hfs)
      rw [show places.toArray[f]?=places[f]? by simp,this]
      obtain ⟨i,hi,hin⟩:=Option.map_eq_some_iff.1 hn
      simp [hi,hin]
    have hus:=hr.length
    have hps2:(ps.map fun x=>(x.1,a.eval x.2)).toList=q1.map (fun x=>(x.1,a.eval x.2))++[(f,a.eval y')]:=by
      rw [Array.toList_map,hq,List.map_append]
      rfl
    have hb:P.built t (ps.map fun x=>(x.1,a.eval x.2)).toList=some (us'.take fd.offset++(a.eval y').cells.toList++us'.drop (fd.offset+n)).toArray:=by
      have e0:(Value.agg z).cells=z:=rfl
      unfold Program.built
      simp only [hit,hu,hz',hpl,e0]
      rw [hps2,zNh _ _ hf1]
      conv=>lhs;unfold Instr.fill
      simp only [hpf]
      rw [if_neg (by rw [hsz];simp [hus];omega)]
      simp only [Instr.fill]
      congr 1
      rw [←Array.foldl_toList,Array.toList_zipIdx]
      have:=zJj fd.offset (a.eval y').cells.toList us'.toArray (by rw [hvl];simp [hus];omega)
      rw [hvl] at this
      simpa using this
    have hrun:(execOp a.eval o).run P w=.ok (.value (.agg (us'.take fd.offset++(a.eval y').cells.toList++us'.drop (fd.offset+n)).toArray)) w:=by
      unfold execOp;rw [ho]
      have hrun:=run_build w t (ps.map fun x=>(x.1,a.eval x.2)) _ hb
      simp only [Sem.run_bind,hrun,Result.andThen_ok]
      rfl
    refine zAC hrun ⟨_,hK,?_⟩
    rw [hd1]
    have h1:RpL m ((zBm F zs parts).2.take fd.offset) (us'.take fd.offset):=by simpa using hr.sub 0 fd.offset
    have h3:RpL m ((zBm F zs parts).2.drop (fd.offset+n)) (us'.drop (fd.offset+n)):=by
      have:=hr.sub (fd.offset+n) (zBm F zs parts).2.length
      rw [List.take_of_length_le (by simp),List.take_of_length_le (by simp [hus])] at this
      exact this
    refine zCj wf hD hd2 (x:=.agg _) (fp:=fp) ⟨_,rfl,?_⟩ h2 hloose
    have:=((OvL.of_rp (w:=w) h1).append hcl).append (OvL.of_rp (w:=w) h3)
    simpa using this
  · cases hpl
theorem yDp (wf:E.Wf) (h:InvG E S m β ow F a w) {k:Nat} {y:Opd} {y':Operand} (hk:zAe E.N y y'=true) (hs:(zP1 F k y).1) {r:Nat} (hr:∀ s,y=.t s→r≠s):
    ∃ A c news fy fall,a.eval y'=.slice A (zP1 F k y).2.length c∧news.length=(zP1 F k y).2.length * k∧OvL m w (zP1 F k y).2.flatten news fy∧(∀ r∈(zP1 F k y).2,r.length=k)∧(0 < (zP1 F k y).2.length→∃ q,A=some q∧∀ j u,news[j]?=some u→w.cell? (q.add j)=some u)∧
      fy.Nodup∧(∀ g∈fy,g∈fall)∧(∀ g∈fall,∃ s,y=.t s∧ow g=some (.key s)∧∀ o,m g o=none)∧InvG E S m β (dropB ow fall) (clr F F y) a w∧Loose S m w (dropB ow fall) fall:=by
  unfold zP1 at hs ⊢
  split at hs
  · rename_i pb e k' rs hv
    subst hs
    obtain ⟨n,rfl,hn,hrep⟩:=zBc h hk hv (by intro p;simp)
    obtain ⟨fp,h1,h2,h3⟩:=hrep
    have hg:F.getD n .un=.ov (.one (.os pb e k' rs)):=hv
    have hD:=zCf wf h fun g hg=>(h3 g hg).1
    have hl:=zA9 h h3
    obtain ⟨xs,f,g1,g2,g3,rfl,g5⟩:=zBI.1 h1
    have hh:=zIn h1
    obtain ⟨⟨A,c,hv',_,_⟩,_⟩:=hh
    rw [List.nodup_append] at h2
    refine ⟨A,c,xs,f,blk (a.eval y')++f,by simp only [hv];exact hv',by simp only [hv];exact g1.1,by simp only [hv];exact g2,by simp only [hv];exact g3,?_,h2.2.1,fun g hg=>List.mem_append_right _ hg,fun g hg=>⟨n,rfl,h3 g hg⟩,by simp only [clr,hg];exact hD,hl⟩
    simp only [hv]
    intro hpos
    rcases g1.2 with ⟨_,h0⟩|⟨g,cap,cur,e1,_⟩
    · omega
    · rw [e1] at hv'
      injection hv' with hA
      exact ⟨⟨g,0,none⟩,hA.symm,fun j u hu=>g1.cells (g:=g) (by rw [e1];rfl) j u hu⟩
  · split at hs
    · rename_i hno _ k' rs hp
      obtain ⟨hn,rfl⟩:=hs
      have hc:clr F F y=F:=by
        cases y with
        | t n=>
          simp only [clr]
          split
          · rename_i v e1
            simp only [zAp] at hp
            rw [e1] at hp
            cases hp
          · rfl
        | c p=>rfl
        | f n=>rfl
      have e0:dropB ow []=ow:=by funext b;simp [dropB]
      obtain ⟨A,c,hyv,_,_,hyr⟩:=zAT h hk hn hp
      have hnews:∃ news:List Value,news.length=rs.length * k'∧RpL m rs.flatten news∧(∀ r∈rs,r.length=k')∧(0 < rs.length→∃ q,A=some q∧∀ j u,news[j]?=some u→w.cell? (q.add j)=some u):=by
        rcases hyr with hyr|⟨b,o',rfl,hyr⟩
        · subst hyr
          exact ⟨[],by simp,by simp [RpL],by simp,by simp⟩
        · obtain ⟨us,h1,h2,h3⟩:=hyr.vals
          refine ⟨us,h1,h2,fun r hr'=>?_,fun _=>⟨_,rfl,fun j u hu=>by rw [zBn];exact h.mem _ _ _ (h3 j u hu)⟩⟩
          obtain ⟨i,hi⟩:=List.getElem?_of_mem hr'
          exact (hyr.get i r hi).1
      obtain ⟨news,n1,n2,n3,n4⟩:=hnews
      have hmap:(rs.map fun r=>r.map OV.p).flatten=rs.flatten.map OV.p:=by
        induction rs with
        | nil=>rfl
        | cons r rs ih=>simp [List.map_flatten]
      refine ⟨A,c,news,[],[],?_,?_,?_,?_,?_,List.nodup_nil,by simp,by simp,by rw [hc,e0];exact h,by simp [Loose]⟩
      · simp only [List.length_map];exact hyv
      · simp only [List.length_map];exact n1
      · simp only [hmap];exact OvL.of_rp n2
      · intro r hr
        obtain ⟨r',hr',rfl⟩:=List.mem_map.1 hr
        rw [List.length_map];exact n3 r' hr'
      · simp only [List.length_map];exact n4
    · exact hs.elim
theorem yHl (wf:E.Wf) (h:InvG E S m β ow F a w) {d e k x:Nat} {y:Opd} {o:Oper} (hd:zAF E.N (some d) o.dst=true) {x' y':Operand} {t:TypeId} (ho:o.op=.call {callee:=.builtin .append,args:=#[x',y'],argTypes:=#[t,t]}) (hk1:zAe E.N (.t x) x'=true) (hk2:zAe E.N y y'=true) (he:zC5 P t e k=true) {K:List Ct→Prop} {Q:Exit→Act→World→Prop}
    {pb:Option Nat} {rows:List (List OV)} (hx:F.getD x .un=.ov (.one (.os pb e k rows))) (hxy:∀ n,y=.t n→x≠n) (hs:(zP1 F k y).1) (hb:(rows.length+(zP1 F k y).2.length) * 4096≤140737488355328)
    (hK:K ((clr F (F.set x .un) y).set d (.ov (.one (.os none e k (rows++(zP1 F k y).2)))))):o.wp P a w (zDe E S K) Q:=by
  obtain ⟨hd1,hd2⟩:=zAf hd
  obtain ⟨rfl,hxN⟩:=zBd hk1
  obtain ⟨A,c,news,fy,fall,y1,y2,y3,y4,y5,y6,y7,y8,y9,y10⟩:=yDp wf h hk2 hs hxy
  have hxF:(clr F F y).getD x .un=F.getD x .un:=by
    unfold clr
    split
    · split
      · rw [zA3,if_neg (fun e=>hxy _ rfl e.1.symm)]
      · rfl
    · rfl
  have hrep:=y9.slots x hxN
  rw [hxF,hx] at hrep
  obtain ⟨fp,h1,h2,h3⟩:=hrep
  obtain ⟨xs,f,g1,g2,g3,rfl,g5⟩:=zBI.1 h1
  have hD:=zCf wf y9 fun g hg=>(h3 g hg).1
  have hloose:=zA9 y9 h3
  have hloosey:Loose S m w (dropB (dropB ow fall) (blk (a.tmps.getD x undef)++f)) fall:=y10.dropB
  have hflat:∀ u∈news,u.oneCell'=true:=fun u hu=>zBU (y3.flat_ u hu)
  obtain ⟨v',w',hrun,hown',hwhere⟩:=zXM (P:=P) (ty:=o.type) he g1 y1 y2 y5 hflat (.inl hb)
  have hr:(execOp a.eval o).run P w=.ok (.value v') w':=by
    obtain ⟨dst,op,ty,pos,after,gd⟩:=o
    simp only at ho
    subst ho
    rw [BigFrame.execOp_builtin,BigFrame.builtin_append]
    have e1:(#[Operand.tmp x,y'].map a.eval)=#[a.tmps.getD x undef,a.eval y']:=by simp [Act.eval]
    rw [e1]
    simp only [Sem.run_bind,hrun,Result.andThen_ok]
    rfl
  have hfdis:∀ g∈blk (a.tmps.getD x undef)++f,g∉fall:=by
    intro g hg hc
    have:=(h3 g hg).1
    simp [dropB,hc] at this
  have hnb:∀ g,v'.ownBlock=some g→(dropB (dropB ow fall) (blk (a.tmps.getD x undef)++f)) g=none∧(S.w0.heap.size≤g∨S.R0 g)∧(∀ o,m g o=none)∧g∉f∧g∉fy:=by
    intro g hg
    rcases hwhere with ⟨e1,_⟩|⟨e1,_⟩
    · rw [e1] at hg
      have hm:=zCI.2 hg
      have hl:=hloose g (List.mem_append_left _ hm)
      rw [List.nodup_append] at h2
      exact ⟨hl.1,hl.2.1,hl.2.2.2,fun hc=>h2.2.2 g hm g hc rfl,fun hc=>hfdis g (List.mem_append_left _ hm) (y7 g hc)⟩
    · rw [e1] at hg
      injection hg with hg
      subst hg
      refine ⟨?_,.inl h.pres.size,fun o=>?_,fun hc=>?_,fun hc=>?_⟩
      · cases hb:dropB (dropB ow fall) (blk (a.tmps.getD x undef)++f) w.heap.size with
        | none=>rfl
        | some t=>have:=hD.lt _ _ hb;omega
      · cases hm:m w.heap.size o with
        | none=>rfl
        | some u=>have:=zD9 h.mem hm;omega
      · have:=(hloose _ (List.mem_append_right _ hc)).2.2.1;omega
      · have:=(hloosey _ (y7 _ hc)).2.2.1;omega
  have hblock:∀ b,b < w.heap.size→v'.ownBlock≠some b→w'.heap[b]?=w.heap[b]?:=by
    intro b hb hne'
    rcases hwhere with ⟨e1,g⟩|⟨_,g⟩
    · exact g.block b hb (fun e=>hne' (by rw [e1];exact e.symm))
    · exact g.block b hb (by simp)
  have hsize:w.heap.size≤w'.heap.size:=by rcases hwhere with ⟨_,g⟩|⟨_,g⟩<;>exact g.size
  have hDw:InvG E S m β (dropB (dropB ow fall) (blk (a.tmps.getD x undef)++f)) ((clr F F y).set x .un) a w':=by
    have hos:w'.os=w.os∧w'.tape=w.tape∧w'.output=w.output:=by rcases hwhere with ⟨_,g⟩|⟨_,g⟩<;>exact ⟨g.os,g.tape,g.output⟩
    have hmem:MemOk m w':=by
      intro g o' u hu
      have hne:v'.ownBlock≠some g:=fun e=>by rw [(hnb g e).2.2.1 o'] at hu;cases hu
      rw [World.cell?_of_block (w:=w) (hblock g (zD9 h.mem hu) hne)]
      exact h.mem g o' u hu
    refine hD.quiet ⟨m.le_refl,hmem,fun g t hg=>hblock g (hD.lt g t hg) (fun e=>by rw [(hnb g e).1] at hg;cases hg),fun _ _ _ _=>rfl,fun _ _ _ h=>.inl h,⟨hos.1,hos.2.1,hos.2.2,hsize,fun g hg hn=>hblock g hg fun e=>?_,fun _=>zFn _ _ _ _ hr⟩⟩
    exact hn ((hnb g e).2.1.elim .inr .inl)
  have hFeq:(clr F F y).set x .un=clr F (F.set x .un) y:=by
    unfold clr
    split
    · split
      · exact List.set_comm _ _ (fun e=>hxy _ rfl e.symm)
      · rfl
    · rfl
  rw [hFeq] at hDw
  have hkf:∀ g∈f,w'.heap[g]?=w.heap[g]?:=fun g hg=>hblock g (hloose g (List.mem_append_right _ hg)).2.2.1 fun e=>(hnb g e).2.2.2.1 hg
  have hky:∀ g∈fy,w'.heap[g]?=w.heap[g]?:=fun g hg=>hblock g (hloosey g (y7 g hg)).2.2.1 fun e=>(hnb g e).2.2.2.2 hg
  refine zAC hr ⟨_,hK,?_⟩
  rw [hd1]
  refine zCj wf hDw hd2 (x:=.one (.os none e k (rows++(zP1 F k y).2))) (fp:=blk v'++(f++fy)) ?_ ?_ ?_
  · refine zBI.2 ⟨xs++news,f++fy,by rw [List.length_append];exact hown',?_,?_,rfl,fun b hb=>by cases hb⟩
    · rw [List.flatten_append]
      exact (OvL.congr m.le_refl _ _ _ hkf g2).append (OvL.congr m.le_refl _ _ _ hky y3)
    · intro r' hr'
      rcases List.mem_append.1 hr' with hr'|hr'
      · exact g3 r' hr'
      · exact y4 r' hr'
  · rw [List.nodup_append] at h2
    rw [List.nodup_append,List.nodup_append]
    refine ⟨?_,⟨h2.2.1,y6,fun g hg g' hg' e=>?_⟩,fun g hg g' hg' e=>?_⟩
    · unfold blk
      cases v'.ownBlock<;>simp
    · subst e;exact hfdis g (List.mem_append_right _ hg) (y7 g hg')
    · subst e
      rcases List.mem_append.1 hg' with hg'|hg'
      · exact (hnb g (zCI.1 hg)).2.2.2.1 hg'
      · exact (hnb g (zCI.1 hg)).2.2.2.2 hg'
  · intro g hg
    rcases List.mem_append.1 hg with hg|hg
    · have:=hnb g (zCI.1 hg)
      exact ⟨this.1,this.2.1,(hown'.lt g (zCI.1 hg)).2,this.2.2.1⟩
    · rcases List.mem_append.1 hg with hg|hg
      · exact (hloose.grow hsize) g (List.mem_append_right _ hg)
      · exact (hloosey.grow hsize) g (y7 g hg)
theorem zH2:∀ (l1 l2:List Ct) (F:List Ct) (i:Nat),l1.length=l2.length→zAa (zAa F i l1) i l2=zAa F i l2
  | [],[],F,i,_=>rfl
  | c::l1,c'::l2,F,i,h=>by
    have hc:∀ (l:List Ct) (G:List Ct) (k q:Nat) (x:Ct),q < k→(zAa G k l).set q x=zAa (G.set q x) k l:=by
      intro l
      induction l with
      | nil=>intro G k q x _;rfl
      | cons y l ih=>
        intro G k q x hq
        simp only [zAa]
        rw [ih _ _ _ _ (by omega),List.set_comm _ _ (by omega)]
    simp only [zAa]
    rw [hc l1 _ _ _ _ (by omega),List.set_set]
    exact zH2 l1 l2 _ _ (by simpa using h)
theorem yEJ (wf:E.Wf) (h:InvG E S m β ow F a w) {d j base n x:Nat} {o:Oper} (hfj:E.nfix≤j) (hd:zAF E.N (some d) o.dst=true) {t:TypeId} {y:Operand} (ho:o.op=.box t y) (hk:zAe E.N (.t x) y=true) (hb:zJl E j base n=true) {K:List Ct→Prop} {Q:Exit→Act→World→Prop} {v:OVal}
    (hx:F.getD x .un=.ov v) (hn:v.cells.length=n) (hK:K (zAa ((((F.set x .un).map (zDE j))).set d (.ptr j 0)) base (v.cells.map zEo))):o.wp P a w (zDe E S K) Q:=by
  obtain ⟨hd1,hd2⟩:=zAf hd
  obtain ⟨rfl,hyN⟩:=zBd hk
  have hrep:=h.slots x hyN
  rw [hx] at hrep
  obtain ⟨fp,r1,r2,r3⟩:=hrep
  have hD:=zCf wf h fun g hg=>(r3 g hg).1
  have hloose:=zA9 h r3
  have hcl:=r1.cells
  have hev:a.eval (.tmp x)=a.tmps.getD x undef:=rfl
  have hlen:(a.tmps.getD x undef).cells.toList.length=n:=by rw [hcl.length,hn]
  have hr:(execOp a.eval o).run P w=.ok (.value (.pointer (some ⟨w.heap.size,0,none⟩))) (w.alloc (.cells (a.tmps.getD x undef).cells.toList.toArray t)):=by
    unfold execOp;rw [ho]
    simp [Instr.box,newVar,newRow,hev]
  have hj:=zDK hb
  have hN:=yFg wf hD hfj hd2 hj hlen t
  have hsame:∀ g∈fp,(w.alloc (.cells (a.tmps.getD x undef).cells.toList.toArray t)).heap[g]?=w.heap[g]?:=fun g hg=>Below.heap_alloc w _ g (hloose g hg).2.2.1
  obtain ⟨ow',hA⟩:=zIq wf hj (b:=w.heap.size) (by simp) v.cells _ fp _ _ 0 hN (by omega) (OvL.congr m.le_refl _ _ _ hsame hcl) r2 (fun g hg=>by
    obtain ⟨a1,a2,a3,a4⟩:=hloose g hg
    refine ⟨?_,a2,by simp;omega,a4⟩
    rw [if_neg (by omega)]
    exact a1) (fun i u hu=>by
      rw [Nat.zero_add,cell_of_row _ _ i _ t (0,0) (heap_alloc_new w _)]
      simpa using hu)
  rw [Nat.add_zero,zH2 _ _ _ _ (by simp [hn])] at hA
  refine zAC hr ⟨_,hK,?_⟩
  rw [hd1]
  exact ⟨_,_,ow',hA⟩
end
end Go.Hx
end
