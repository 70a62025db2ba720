/-
 THE ABSTRACT LAYER: functions that defer one closure, which recovers a panic and writes the boxes that it has captured. Generic over the program. No condition.
-/
import Derived.Test.YtjnagiaooecklabGreatDoorG9
import Derived.Recover
set_option linter.all false
namespace Go.Hx
open Go.RowKit
variable [Glob]
section
variable {P:Program} {E:Env} {S:Start} {m:Mem} {β:Bx} {ow:Ow} {F:List Ct} {a:Act} {w:World}
theorem yLf (wf:E.Wf) (h:InvG E S m β ow F a w) {j base n b:Nat} (hj:E.Γ[j]? = some (base,n)) (hβ:β j=some b) {w':World} (hp:Pres (fun x=>x=b) w w')
  {vs:Array Value} {T:TypeId} (hh:w'.heap[b]? = some (.cells vs T (0,0))) {l:List PV} (hl:RpL m l vs.toList) (hn:l.length=n) :
  InvG E S m β ow (zAe F base (l.map fun c=>.pv (.one c))) a w':=by
 have hB:=h.boxes j _ hj
 rw [hβ] at hB
 obtain ⟨ho1,ho2,vs0,T0,hh0,hsz,hcells⟩:=hB
 have hlo:=wf.lo j _ hj
 have hhi:=wf.hi j _ hj
 simp only at hlo hhi
 have hL:=h.lenF
 have hvn:vs.size=n:=by rw [← Array.length_toList,hl.length,hn]
 have st:Step (fun t=>t = .box j) m m w w' ow ow:=by
  refine ⟨m.le_refl,fun g t hg hx=>⟨hp.block g (h.lt g t hg) ?_,fun _=>rfl,hg⟩⟩
  rintro rfl
  rw [ho1] at hg
  exact hx (Option.some.inj hg).symm
 have hmem:MemOk m w':=by
  intro b' o u hu
  have h1:=h.mem b' o u hu
  have hlt:b'<w.heap.size:=World.block_lt_of_cell? w _ h1
  have hne:b'≠b:=by rintro rfl; rw [ho2 o] at hu; cases hu
  rw [← h1]
  exact World.cell?_of_block (hp.block b' hlt hne)
 refine h.step st (zAR _ _ _) rfl rfl ?_ ?_ hmem (hp.mono fun b' _ hb'=>by subst hb'; exact (h.own _ _ ho1).elim .inr .inl) h.own (fun b' t hb'=>Nat.lt_of_lt_of_le (h.lt b' t hb') hp.size) (fun b o u hu=>.inl hu)
 ·intro i hi
  left
  refine ⟨?_,rfl,.inl (by rintro h3; cases h3)⟩
  rw [zAu,if_neg yO]
 ·intro j' bn hj'
  by_cases hjj:j'=j
  ·subst hjj
   rw [hj] at hj'
   injection hj' with hj'
   subst hj'
   right
   rw [hβ]
   refine ⟨ho1,ho2,vs,T,hh,hvn,fun o' ho'=>?_⟩
   simp only at ho' ⊢
   rw [zAu,if_pos (by rw [List.length_map,hn]; omega)]
   have e:base+o' - base=o':=by omega
   have hlt:o'<l.length:=by omega
   have hlt2:o'<vs.toList.length:=by rw [Array.length_toList]; omega
   have hu:vs.getD o' undef=vs.toList[o']:=by
    rw [Array.getD_eq_getD_getElem?,← Array.getElem?_toList,List.getElem?_eq_getElem hlt2]; rfl
   rw [e,List.getD_eq_getElem?_getD,List.getElem?_map,List.getElem?_eq_getElem hlt,hu]
   exact hl.get _ _ _ (List.getElem?_eq_getElem hlt) (List.getElem?_eq_getElem hlt2)
  ·left
   have hap:=wf.ap j' j _ _ hj' hj hjj
   simp only at hap
   refine ⟨by rintro h3; injection h3 with h3; exact hjj h3,fun o' ho'=>⟨?_,by rintro h3; cases h3⟩⟩
   rw [zAu,if_neg (by rw [List.length_map,hn]; omega)]
structure CapB where
 i:Nat
 j:Nat
 base:Nat
 cells:List PV
def zJE (F:List Ct):List CapB→List Ct
 |[]=>F
 |x :: r=>zAe (zJE F r) x.base (x.cells.map fun c=>.pv (.one c))
def yC5 (w w':World) (b:Nat):World:=match w.heap[b]? with
 |some o=>{ w' with heap:=w'.heap.setIfInBounds b o }
 |none=>w'
theorem yH9 {w':World} {b:Nat} (hb:b<w.heap.size) (hs:w.heap.size≤w'.heap.size):(yC5 w w' b).heap[b]? = w.heap[b]?:=by
 unfold yC5
 rw [Array.getElem?_eq_getElem hb]
 simp only
 rw [Array.getElem?_setIfInBounds,if_pos rfl,if_pos yO]
theorem zLW {w':World} {b g:Nat} (h:g≠b):(yC5 w w' b).heap[g]? = w'.heap[g]?:=by
 unfold yC5
 split
 ·simp only
  rw [Array.getElem?_setIfInBounds,if_neg (Ne.symm h)]
 ·rfl
theorem zY8 {w':World} {b:Nat}:(yC5 w w' b).heap.size=w'.heap.size:=by
 unfold yC5
 split <;> simp
theorem yIa {w':World} {b:Nat}:(yC5 w w' b).os=w'.os∧(yC5 w w' b).tape=w'.tape∧(yC5 w w' b).output=w'.output:=by
 unfold yC5
 split <;> exact ⟨rfl,rfl,rfl⟩
theorem yED (wf:E.Wf) (h:InvG E S m β ow F a w):∀ (l:List CapB) (bs:List Nat) (w':World),bs.length=l.length→bs.Nodup→Pres (fun x=>x ∈ bs) w w' →
  (∀ (k:Nat) (x:CapB) (b:Nat),l[k]? = some x→bs[k]? = some b→E.Γ[x.j]? = some (x.base,x.cells.length)∧β x.j=some b∧∃ vs T,w'.heap[b]? = some (.cells vs T (0,0))∧RpL m x.cells vs.toList) →
  InvG E S m β ow (zJE F l) a w'
 |[],bs,w',hl,_,hp,_=>by
  obtain rfl:bs=[]:=List.eq_nil_of_length_eq_zero hl
  have hp':Pres (fun _=>False) w w':=hp.mono fun b _ hb=>by cases hb
  exact h.quiet ⟨m.le_refl,fun b o u hu=>by
   have h1:=h.mem b o u hu
   rw [← h1]
   exact World.cell?_of_block (hp'.block b (World.block_lt_of_cell? w _ h1) id),fun b t hb=>hp'.block b (h.lt b t hb) id,fun _ _ _ _=>rfl,fun _ _ _ hu=>.inl hu,hp'.mono fun _ _ hf=>hf.elim⟩
 |x :: l,[],w',hl,_,_,_=>by simp at hl
 |x :: l,b :: bs,w',hl,hn,hp,hx=>by
  obtain ⟨hnb,hn'⟩:=List.nodup_cons.1 hn
  obtain ⟨g1,g2,vs,T,g3,g4⟩:=hx 0 x b rfl rfl
  have hB:=h.boxes x.j _ g1
  rw [g2] at hB
  have hb:b<w.heap.size:=h.lt b _ hB.1
  obtain ⟨u1,u2,u3⟩:=yIa (w:=w) (w':=w') (b:=b)
  have p1:Pres (fun y=>y ∈ bs) w (yC5 w w' b):=by
   refine ⟨u1.trans hp.os,u2.trans hp.tape,u3.trans hp.output,by rw [zY8]; exact hp.size,fun g hg hne=>?_⟩
   by_cases e:g=b
   ·subst e; exact yH9 hb hp.size
   ·rw [zLW e]
    exact hp.block g hg fun hc=>by
     rcases List.mem_cons.1 hc with hc | hc
     ·exact e hc
     ·exact hne hc
  have p2:Pres (fun y=>y=b) (yC5 w w' b) w':=
   ⟨u1.symm,u2.symm,u3.symm,by rw [zY8]; exact Nat.le_refl _,fun g _ hne=>(zLW hne).symm⟩
  have ih:=yED wf h l bs (yC5 w w' b) (by simpa using hl) hn' p1 fun k y c hy hc=>by
   obtain ⟨q1,q2,vs',T',q3,q4⟩:=hx (k+1) y c (by simpa using hy) (by simpa using hc)
   have hcb:c≠b:=by rintro rfl; exact hnb (List.mem_of_getElem? hc)
   exact ⟨q1,q2,vs',T',by rw [zLW hcb]; exact q3,q4⟩
  exact yLf wf ih g1 g2 p2 g3 g4 rfl
def zDT (bs:List Nat):List Value:=bs.map fun b=>.pointer (some ⟨b,0,none⟩)
def yLg (P:Program) (g:FuncId) (v:Value) (news:List (List PV)):Prop:=
 ∀ (m:Mem) (w:World) (bs:List Nat),MemOk m w→Glob.ok w→bs.length=news.length→bs.Nodup→(∀ b ∈ bs,Glob.n≤b∧∀ o,m b o=none) →
  (∀ (k:Nat) (b:Nat) (cs:List PV),bs[k]? = some b→news[k]? = some cs→∃ vs T,w.heap[b]? = some (.cells vs T (0,0))∧vs.size=cs.length) →
  CallsD P g (zDT bs).toArray (.panicking [{ v,recovered:=false }]) w fun e u' w'=>(∃ x,e = .returned x)∧u' = .panicking [{ v,recovered:=true }]∧Pres (fun b=>b ∈ bs) w w' ∧
   ∀ (k:Nat) (b:Nat) (cs:List PV),bs[k]? = some b→news[k]? = some cs→∃ vs T,w'.heap[b]? = some (.cells vs T (0,0))∧RpL m cs vs.toList
def yLh (P:Program) (g:FuncId) (n:Nat):Prop:=
 ∀ (w:World) (bs:List Nat),bs.length=n→Glob.ok w→CallsD P g (zDT bs).toArray .returning w fun e u' w'=>(∃ x,e = .returned x)∧u' = .returning∧Pres (fun _=>False) w w'
def yF2 (P:Program) (E:Env) (ops:Array Oper) (g k:Nat) (caps:List Nat):Bool:=match ops.toList with
 |[o1,o2]=>o1.dst == some k && decide (k<E.N) && o1.guard.isNone && (match o1.op with | .makeFunc (.func g') first cs=>g' == g && first.isEmpty && cs.toList.length == caps.length && (cs.toList.zip caps).all (fun x=>match x.1 with | .tmp t=>t == x.2 && t != k | _=>false) | _=>false) &&
   o2.dst.isNone && o2.guard.isNone && (match o2.op with | .defer c=>(match c.callee with | .value (.tmp t)=>t == k | _=>false) && c.args.isEmpty | _=>false)
 |_=>false
theorem yIb {cs:List Operand} {caps:List Nat} {k:Nat} (hl:cs.length=caps.length) (h:(cs.zip caps).all (fun x=>match x.1 with | .tmp t=>t == x.2 && t != k | _=>false)=true):cs=caps.map .tmp∧k ∉ caps:=by
 induction cs generalizing caps with
 |nil=>
  cases caps with
  |nil=>simp
  |cons=>simp at hl
 |cons c cs ih=>
  cases caps with
  |nil=>simp at hl
  |cons d caps=>
   simp only [List.zip_cons_cons,List.all_cons,Bool.and_eq_true] at h
   obtain ⟨h1,h2⟩:=h
   obtain ⟨e1,e2⟩:=ih (by simpa using hl) h2
   cases c <;> simp at h1
   obtain ⟨rfl,h3⟩:=h1
   exact ⟨by simp [e1],by simp [e2,Ne.symm h3]⟩
def dfd (g:FuncId) (us:List Value):Deferred:={ target:=.fn (.func g) us.toArray,args:=#[] }
theorem yF3 (hsz:a.tmps.size=E.N) {id:Nat} {ops:Array Oper} {g k:Nat} {caps:List Nat} (hk:yF2 P E ops g k caps=true) {Q:Exit→Act→World→Prop}
  (hQ:Q .normal ({ (a.put (some k) (.func (.func g) #[] ((caps.map fun t=>a.eval (.tmp t)).toArray))) with defers:=dfd g (caps.map fun t=>a.eval (.tmp t)) :: a.defers }) w):(Code.region id ops false).wp P Q a w:=by
 refine wp_region ?_
 unfold yF2 at hk
 split at hk
 ·rename_i o1 o2 ho
  obtain rfl:ops = #[o1,o2]:=by rw [← Array.toArray_toList (xs:=ops),ho]
  simp only [Bool.and_eq_true,beq_iff_eq,decide_eq_true_eq,Option.isNone_iff_eq_none] at hk
  obtain ⟨⟨⟨⟨⟨⟨h1,h2⟩,h3⟩,h4⟩,h5⟩,h6⟩,h7⟩:=hk
  split at h4
  ·rename_i g' first cs e1
   simp only [Bool.and_eq_true,beq_iff_eq,Array.isEmpty_iff] at h4
   obtain ⟨⟨⟨rfl,rfl⟩,h8⟩,h9⟩:=h4
   obtain ⟨e2,e3⟩:=yIb h8 h9
   split at h7
   ·rename_i c e4
    simp only [Bool.and_eq_true,Array.isEmpty_iff] at h7
    obtain ⟨h10,h11⟩:=h7
    split at h10
    ·rename_i t e5
     have ht:t=k:=by simpa using h10
     subst ht
     have hc:cs.map a.eval=(caps.map fun t=>a.eval (.tmp t)).toArray:=by
      apply Array.ext'
      rw [Array.toList_map,e2]
      simp
     have r1:(execOp a.eval o1).run P w = .ok (.value (.func (.func g') #[] (caps.map fun t=>a.eval (.tmp t)).toArray)) w:=by
      unfold execOp
      rw [e1]
      simp only [Instr.makeFunc,Sem.run_bind,Sem.run_pure,Result.andThen_ok,hc,Array.map_empty]
     have hev:(a.put (some t) (.func (.func g') #[] (caps.map fun t=>a.eval (.tmp t)).toArray)).eval (.tmp t) = .func (.func g') #[] (caps.map fun t=>a.eval (.tmp t)).toArray:=by
      simp [Act.put,Act.eval,Array.getD_eq_getD_getElem?,hsz,h2]
     have r2:(execOp (a.put (some t) (.func (.func g') #[] (caps.map fun t=>a.eval (.tmp t)).toArray)).eval o2).run P w = .ok (.defer (dfd g' (caps.map fun t=>a.eval (.tmp t)))) w:=by
      unfold execOp
      rw [e4]
      simp only [resolve,e5,hev,Deferred.ofValue,Sem.run_bind,Sem.run_pure,Result.andThen_ok,h11,Array.map_empty]
      rfl
     show wpOps P #[o1,o2] Q [0,1] a w
     have w1:Region.wanted o1 (yielded #[o1,o2] a.tmps)=true:=by unfold Region.wanted; rw [h3]
     simp only [wpOps,List.getElem?_toArray,List.getElem?_cons_zero,w1,if_true]
     left
     unfold Oper.wp
     rw [r1,Oper.upon_value,h1]
     simp only [wpOps,List.getElem?_toArray,List.getElem?_cons_succ,List.getElem?_cons_zero]
     rw [if_pos (by unfold Region.wanted; rw [h6])]
     left
     try unfold Oper.wp
     rw [r2,Oper.upon_defer,h5]
     exact hQ
    ·cases h10
   ·cases h7
  ·cases h4
 ·cases hk
theorem yBT {w0:World} {m0:Mem} {as:List AV} {us:List Value} {g0:Glob.ok w0} {gR:∀ b,zKN as us b→Glob.n≤b} {b0:Bx} {d0:List Deferred} (ha:ArgsRep m0 w0 as us)
  {base:Nat} (hio:match ioOf as with | some cs=>E.nfix≠0∧E.Γ[0]? = some (base,cs.length) | none=>True) (hb0:∀ b,ioB as us=some b→b0 0=some b)
  (hG:InvG E { w0:=w0,m0:=m0,R0:=zKN as us,b0:=b0,g0:=g0,gR:=gR,d0:=d0 } m β ow F a w) {fn:Func} {rs:List RSrc} (hrs:zD7 P E rs fn.results.toList=true) {r:RV}
  (hres:(∃ x,r.res = .val x)∨∃ xs,r.res = .tup xs) (hr:zDc F rs r.res∧∀ cs,ioOf as=some cs→zAL F base cs.length=some r.io) :
  ∃ v,(results fn a.tmps).run P w = .ok v w∧yEO m0 w0 as us r (.returned v) w:=by
 obtain ⟨hr,hi⟩:=hr
 have key:∀ b,ioB as us=some b→∃ cs,ioOf as=some cs∧E.Γ[0]? = some (base,cs.length)∧BoxRep m w ow F 0 (base,cs.length) (some b):=by
  intro b hb
  cases hc:ioOf as with
  |none=>rw [zGt hc] at hb; cases hb
  |some cs=>
   rw [hc] at hio
   have hB:=hG.boxes 0 _ hio.2
   have hβ:β 0=some b:=(hG.fix 0 (Nat.pos_of_ne_zero hio.1)).trans (hb0 b hb)
   rw [hβ] at hB
   exact ⟨cs,rfl,hio.2,hB⟩
 have hmk:∀ v,zPH m w0 w (zGj as us) r.res (.returned v)→yEO m0 w0 as us r (.returned v) w:=by
  intro v hv
  refine ⟨m,hG.mle,hG.mem,hG.pres,fun b o u hu=>?_,fun b hb=>?_,hv⟩
  ·rcases hG.new b o u hu with g | g | g
   ·exact .inl g
   ·exact .inr (.inl g)
   ·rcases g with g | g
    ·exact .inr (.inr g)
    ·obtain ⟨cs,_,_,hB⟩:=key b g
     have:=hB.2.1 o
     rw [hu] at this
     cases this
  ·obtain ⟨cs,hc,hj,hB⟩:=key b hb
   rw [zPu hc]
   refine ⟨hB.2.1,?_⟩
   obtain ⟨vs,T,h3,h4,h5⟩:=zIR hB (hi cs hc)
   refine ⟨vs,T,h3,h4,fun l' e=>?_⟩
   unfold Res.ioOf at e
   split at e
   ·cases e
   ·injection e with e; subst e; exact h5
 rcases hres with ⟨x,hx⟩ | ⟨xs,hx⟩
 ·rw [hx] at hr
  simp only [zDc] at hr
  split at hr
  ·rename_i r1
   obtain ⟨us',h1,h2⟩:=zEi hG hrs (xs:=[x]) (by simp only [zZt]; exact ⟨hr,trivial⟩)
   obtain ⟨u,us'',rfl,h3,h4⟩:=h2
   simp only [RpVL] at h4
   subst h4
   exact ⟨_,h1,hmk _ (by rw [hx]; exact ⟨u,rfl,h3⟩)⟩
  ·exact hr.elim
 ·rw [hx] at hr
  simp only [zDc] at hr
  split at hr
  ·exact hr.elim
  ·rename_i hne
   obtain ⟨us',h1,h2⟩:=zEi hG hrs hr
   have hl1:us'.length=xs.length:=contract_of_wp.RpVL.length h2
   have hl2:rs.length=xs.length:=contract_of_wp.rsVs_length hr
   match us',h1,h2,hl1 with
   |[],h1,h2,_=>exact ⟨_,h1,hmk _ (by rw [hx]; exact ⟨[],rfl,h2⟩)⟩
   |[u],h1,h2,hl1=>
    exfalso
    match rs,hne,hl2 with
    |[x],hne,_=>exact hne x rfl
    |[],_,h=>simp at h hl1; omega
    |_ :: _ :: _,_,h=>simp at h hl1; omega
   |u :: v :: l,h1,h2,_=>exact ⟨_,h1,hmk _ (by rw [hx]; exact ⟨u :: v :: l,rfl,h2⟩)⟩
def yLi (E:Env) (l:List CapB):Bool:=l.all (fun x=>decide (x.i<E.N) && decide (x.j<E.nfix) && zIO E x.j x.base x.cells.length) && decide (l.map (·.j)).Nodup
def yIc (P:Program) (base:Nat) (as:List AV) (rs:List RSrc) (r:RV) (g:FuncId) (l:List CapB):Exit→List Ct→Prop
 |.normal,F | .ret,F=>zDc F rs r.res∧∀ cs,ioOf as=some cs→zAL F base cs.length=some r.io
 |.panic ch,F=>∃ v,ch=[{ v,recovered:=false }]∧yLg P g v (l.map (·.cells))∧zDc (zJE F l) rs r.res∧∀ cs,ioOf as=some cs→zAL (zJE F l) base cs.length=some r.io
 |_,_=>False
theorem zRx {f:FuncId} {fn:Func} {c0 c1:Code} {id:Nat} {ops:Array Oper} (hf:P.funcs[f]? = some fn) (hb:fn.body=some (c0.seq ((Code.region id ops false).seq c1))) (hcall:zCC P f=true) (hE':(E.ok && E.unaOk)=true) (hN:E.N=fn.ntmps)
  {h0 h1:HCode} (hk0:zDC P E c0 h0=true) {g k:Nat} {l:List CapB} (hkd:yF2 P E ops g k (l.map (·.i))=true) {nf:Nat} (hk1:zDC P { E with nfix:=nf } c1 h1=true) (hlo:(decide (E.nfix≤nf) && yLi { E with nfix:=nf } l)=true) (hgc:zCC P g=true)
  {rs:List RSrc} (hrs:zD7 P { E with nfix:=nf } rs fn.results.toList=true) {base:Nat} {as:List AV} (hfo:zUe E base as) {r:RV} (hres:(∃ x,r.res = .val x)∨∃ xs,r.res = .tup xs) (hret:yLh P g l.length)
  (hW0:AVs.fits as→hwp P h0 (fun e F=>e = .normal∧(∀ x ∈ l,F.getD x.i .un = .ptr x.j 0)∧hwp P h1 (yIc P base as rs r g l) (F.set k .un)) (F0 E base as)):Contract P f as r:=by
 have hE:=Bool.and_eq_true_iff.1 hE'
 have wf:=Env.wf_of_ok hE.1
 have wf1:({ E with nfix:=nf }:Env).Wf:=⟨wf.le,wf.lo,wf.hi,wf.ap⟩
 obtain ⟨hnf,hlo⟩:=Bool.and_eq_true_iff.1 hlo
 have hnf:E.nfix≤nf:=of_decide_eq_true hnf
 obtain ⟨hl1,hl2⟩:=Bool.and_eq_true_iff.1 hlo
 have hl2:(l.map (·.j)).Nodup:=of_decide_eq_true hl2
 have hl3:∀ x ∈ l,x.i<E.N∧x.j<nf∧E.Γ[x.j]? = some (x.base,x.cells.length):=by
  intro x hx
  have:=List.all_eq_true.1 hl1 x hx
  simp only [Bool.and_eq_true,decide_eq_true_eq] at this
  exact ⟨this.1.1,this.1.2,zDK this.2⟩
 refine ⟨hcall,fun m0 w0 us hm ha hd hG0 hGR=>?_⟩
 have hW:=hW0 ha.fits
 have hS:=zXU hE.2 wf hfo hm ha hd hG0 hGR
 have hc:=zKT wf c0 h0 _ _ _ _ hk0 hW hS
 have hio:=hfo.2.2.2
 refine calls_of_wp_defers hf hb ?_
 rw [← hN]
 refine wp_seq (wp_mono hc ?_)
 rintro e a1 w1 ⟨F1,⟨rfl,hp,hW1⟩,m1,β1,ow1,hG1⟩
 refine wp_seq (yF3 hG1.lenA hkd ?_)
 have hβ:∀ x ∈ l,∃ b,β1 x.j=some b∧a1.eval (.tmp x.i) = .pointer (some ⟨b,0,none⟩):=by
  intro x hx
  have hs:=hG1.slots x.i (hl3 x hx).1
  rw [hp x hx] at hs
  obtain ⟨b,e1,e2⟩:=hs
  exact ⟨b,e1,e2⟩
 let bs:List Nat:=l.map fun x=>(β1 x.j).getD 0
 have hbs:l.map (fun x=>a1.eval (.tmp x.i))=zDT bs:=by
  simp only [bs,zDT,List.map_map]
  refine List.map_congr_left fun x hx=>?_
  obtain ⟨b,e1,e2⟩:=hβ x hx
  simp only [Function.comp,e1,e2,Option.getD_some]
 let S1:Start:={ w0:=w0,m0:=m0,R0:=zKN as us,b0:=β1,g0:=hG0,gR:=hGR,d0:=[dfd g (zDT bs)] }
 have hcap:(l.map (·.i)).map (fun t=>a1.eval (.tmp t))=zDT bs:=by rw [List.map_map]; exact hbs
 rw [hcap]
 have hk:k<E.N:=by
  unfold yF2 at hkd
  split at hkd
  ·simp only [Bool.and_eq_true,decide_eq_true_eq] at hkd; exact hkd.1.1.1.1.1.2
  ·cases hkd
 have hG2:InvG { E with nfix:=nf } S1 m1 β1 ow1 (F1.set k .un) { (a1.put (some k) (.func (.func g) #[] (zDT bs).toArray)) with defers:=dfd g (zDT bs) :: a1.defers } w1:=by
  have h1:=hG1.slot wf hk (c:=.un) (u:=.func (.func g) #[] (zDT bs).toArray) trivial
  exact { lenF:=h1.lenF,lenA:=h1.lenA,dfr:=by show dfd g (zDT bs) :: a1.defers=[dfd g (zDT bs)]; rw [hG1.dfr],slots:=h1.slots,boxes:=h1.boxes,mem:=h1.mem,mle:=h1.mle,pres:=h1.pres,own:=h1.own,lt:=h1.lt,new:=h1.new,fix:=fun _ _=>rfl }
 have hb0:∀ b,ioB as us=some b→β1 0=some b:=by
  intro b hb
  cases hc:ioOf as with
  |none=>rw [zGt hc] at hb; cases hb
  |some cs=>
   rw [hc] at hio
   have:=hG1.fix 0 (by rw [hio.1]; exact Nat.one_pos)
   rw [this]
   simp only [if_true]
   exact hb
 have hio1:match ioOf as with | some cs=>({ E with nfix:=nf }:Env).nfix≠0∧({ E with nfix:=nf }:Env).Γ[0]? = some (base,cs.length) | none=>True:=by
  cases hc:ioOf as with
  |none=>trivial
  |some cs=>
   rw [hc] at hio
   exact ⟨by show nf≠0; have:=hio.1; omega,hio.2⟩
 have hc1:=zKT wf1 c1 h1 _ _ _ _ hk1 hW1 ⟨m1,β1,ow1,hG2⟩
 refine wp_mono hc1 ?_
 have hinv:∀ (w:World),(invoke (.fn (.func g) (zDT bs).toArray) #[]).run P w = .ok (.enter g (zDT bs).toArray) w:=by
  intro w
  have:(invoke (.fn (.func g) (zDT bs).toArray) #[])=callFunc g (#[] ++ (zDT bs).toArray):=rfl
  rw [this,Array.empty_append]
  exact zMa hgc _ w
 have fin:∀ {F:List Ct} {a':Act} {w':World},(zDc F rs r.res∧∀ cs,ioOf as=some cs→zAL F base cs.length=some r.io)→Inv { E with nfix:=nf } S1 F a' w' →
   Leaves P fn a'.tmps (yEO m0 w0 as us r) a'.defers .returning w':=by
  rintro F a' w' hr ⟨m2,β2,ow2,hG⟩
  rw [hG.dfr]
  refine leaves_cons (by simp) (hinv w') ((hret w' bs (by simp [bs]) hG.glob).mono ?_)
  rintro e u' w'' ⟨⟨x,rfl⟩,rfl,hpr⟩
  have hG':=hG.quiet ⟨m2.le_refl,fun b o u hu=>by
   have h1:=hG.mem b o u hu
   rw [← h1]
   exact World.cell?_of_block (hpr.block b (World.block_lt_of_cell? w' _ h1) (fun h=>h)),fun b t hb=>hpr.block b (hG.lt b t hb) (fun h=>h),fun _ _ _ _=>rfl,fun _ _ _ hu=>.inl hu,hpr.mono fun _ _ hf=>hf.elim⟩
  obtain ⟨v,h2,h3⟩:=yBT ha hio1 hb0 hG' hrs hres hr
  exact ⟨v,h2,h3⟩
 rintro e a' w' ⟨F,hq,hI⟩
 cases e with
 |normal=>exact fin hq hI
 |ret=>exact fin hq hI
 |panic ch=>
  obtain ⟨v,rfl,hpan,hq⟩:=hq
  obtain ⟨m2,β2,ow2,hG⟩:=hI
  show Leaves P fn a'.tmps _ a'.defers (.panicking [{ v,recovered:=false }]) w'
  rw [hG.dfr]
  have hB:∀ x ∈ l,∃ b,(β1 x.j).getD 0=b∧β2 x.j=some b∧BoxRep m2 w' ow2 F x.j (x.base,x.cells.length) (some b):=by
   intro x hx
   obtain ⟨b,e1,_⟩:=hβ x hx
   have h2:β2 x.j=some b:=(hG.fix x.j (hl3 x hx).2.1).trans e1
   have h3:=hG.boxes x.j _ (hl3 x hx).2.2
   rw [h2] at h3
   exact ⟨b,by rw [e1]; rfl,h2,h3⟩
  have hnd:bs.Nodup:=by
   simp only [bs]
   rw [List.nodup_iff_pairwise_ne,List.pairwise_map] at hl2 ⊢
   refine hl2.imp_of_mem ?_
   intro x y hx hy hne he
   obtain ⟨b,e1,_,e3⟩:=hB x hx
   obtain ⟨b',e1',_,e3'⟩:=hB y hy
   have hbb:b=b':=by rw [← e1,← e1']; exact he
   subst hbb
   have:=e3.1.symm.trans e3'.1
   injection this with this
   injection this with this
   exact hne this
  have hget:∀ (i b:Nat),bs[i]? = some b→∃ x,l[i]? = some x∧β2 x.j=some b∧BoxRep m2 w' ow2 F x.j (x.base,x.cells.length) (some b)∧x ∈ l:=by
   intro i b hi
   simp only [bs,List.getElem?_map,Option.map_eq_some_iff] at hi
   obtain ⟨x,hx,rfl⟩:=hi
   have hm:=List.mem_of_getElem? hx
   obtain ⟨b,rfl,e2,e3⟩:=hB x hm
   exact ⟨x,hx,e2,e3,hm⟩
  refine leaves_cons (by simp) (hinv w') ((hpan m2 w' bs hG.mem hG.glob (by simp [bs]) hnd (fun b hb=>?_) (fun i b cs hi hc=>?_)).mono ?_)
  ·obtain ⟨i,hi⟩:=List.getElem?_of_mem hb
   obtain ⟨x,_,_,e3,_⟩:=hget i b hi
   exact ⟨hG.gown e3.1,e3.2.1⟩
  ·obtain ⟨x,h4,_,e3,_⟩:=hget i b hi
   rw [List.getElem?_map,h4] at hc
   obtain rfl:x.cells=cs:=by simpa using hc
   obtain ⟨_,_,vs,T,h5,h6,_⟩:=e3
   exact ⟨vs,T,h5,h6⟩
  ·rintro e u' w'' ⟨⟨x,rfl⟩,rfl,hpr,hnew⟩
   have hG':=yED wf1 hG l bs w'' (by simp [bs]) hnd hpr fun i x b hx hb=>by
    obtain ⟨y,h4,h5,h6,h7⟩:=hget i b hb
    rw [hx] at h4
    obtain rfl:=Option.some.inj h4
    refine ⟨(hl3 _ h7).2.2,h5,hnew i b _ hb (by rw [List.getElem?_map,hx]; rfl)⟩
   obtain ⟨v',h2,h3⟩:=yBT ha hio1 hb0 hG' hrs hres hq
   exact ⟨v',h2,h3⟩
 |exit id=>exact hq.elim
 |goto l=>exact hq.elim
 |outgrown=>exact hq.elim
end
def cdL:Code→Code
 |.seq a _=>a
 |c=>c
def cdR:Code→Code
 |.seq _ b=>b
 |c=>c
def cdO:Code→Array Oper
 |.region _ ops _=>ops
 |_=>#[]
def cdI:Code→Nat
 |.region id _ _=>id
 |_=>0
end Go.Hx
