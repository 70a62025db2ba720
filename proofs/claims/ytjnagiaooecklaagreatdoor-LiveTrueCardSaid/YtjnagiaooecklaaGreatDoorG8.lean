/-
  Walks of functions of the program over an abstract layer, and the laws that they use: each contract says what the function computes, for every input that its conditions let by. No other condition.
-/
import Derived.Test.YtjnagiaooecklaaGreatDoorG7
import Derived.Maps.RangeRun
set_option linter.all false
section
/-
 THE ABSTRACT LAYER: a walk through an owned map; a function that turns an owned slice's elements in place. Generic over the program. No condition.
-/
namespace Go.Hx
open Go.RowKit
variable [Glob]
section
variable {P:Program} {E:Env} {S:Start} {m:Mem} {β:Bx} {ow:Ow} {F:List Ct} {a:Act} {w:World}
theorem InvG.drewn (h:InvG E S m β ow F a w):InvG E S m β ow F a w.drew:=
 h.quiet ⟨m.le_refl,fun b x u hu=>h.mem b x u hu,fun _ _ _=>rfl,fun _ _ _ _=>rfl,fun _ _ _ hu=>.inl hu,Pres.drew _ w⟩
theorem yMF (wf:E.Wf) (h:InvG E S m β ow F a w) {d r:Nat} {x:Opd} {o:Oper} (hd:zAG E.N (some d) o.dst=true) (hr:r < E.N) {t kt et:TypeId} {x':Operand} (ho:o.op=.range t x') (hx:zAc E.N x x'=true) (hu:P.underlying t=some (.map kt et))
  {K:List Ct→Prop} {X:Value→List Ct→Prop} {Q:Exit→Act→World→Prop} (hW:opW P (.mrg d x r) F K X):o.wp P a w (zEj E S K) Q:=by
 obtain ⟨hd1,hd2⟩:=zAh hd
 simp only [opW] at hW
 split at hW
 ·rename_i b b' ks vs e1 e2
  obtain ⟨rfl,hK⟩:=hW
  have he:=zUq h hx e1
  have hs:=h.slots r hr
  rw [e2] at hs
  obtain ⟨fp,g1,g2,g3⟩:=hs
  have g1':OvR m w (.mp b' ks vs) (a.tmps.getD r undef) fp:=g1
  simp only [OvR] at g1'
  obtain ⟨us,f,q1,q2,q3,q4,rfl,q5⟩:=g1'
  have hre:(execOp a.eval o).run P w=.ok (.value (.pointer (some ⟨w.heap.size,0,none⟩))) (w.alloc (.mapIter (some b') ks.length #[] ks.length)):=by
   unfold execOp;rw [ho]
   simp only [Sem.run_bind,he,run_range_map w t kt et b' _ _ hu q2,Result.andThen_ok,Sem.run_pure]
  have hw:=h.allocd (.mapIter (some b') ks.length #[] ks.length)
  have hfr:=h.fresh
  refine zAD hre ⟨_,hK,?_⟩
  rw [hd1]
  refine zEM wf hw hd2 (x:=.one (.it b' ks.length [])) (fp:=[w.heap.size]) ?_ (by simp) fun g hg=>?_
  ·simp only [OvV,OvR]
   exact ⟨w.heap.size,rfl,zPu w _,rfl,by simp⟩
  ·obtain rfl:=List.mem_singleton.1 hg
   exact ⟨hfr.1,.inl h.pres.size,(Array.getElem?_eq_some_iff.1 (zPu w (.mapIter (some b') ks.length #[] ks.length))).1,hfr.2⟩
 ·exact hW.elim
theorem zNm:∀ {xs:List OV} {ys:List PV} {us:List Value} {fp:List Nat},zFk xs=some ys→OvL m w xs us fp→∀ i,i < xs.length→Rp m (ys.getD i (.nl 0)) (us.getD i default)
 |[],ys,us,fp,_,_,i,hi=>absurd hi (Nat.not_lt_zero _)
 |x::xs,ys,us,fp,h,hv,i,hi=>by
  cases x with
  |p y=>
   simp only [zFk] at h
   split at h
   ·rename_i zs e
    injection h with h
    subst h
    simp only [OvL,OvR] at hv
    obtain ⟨u,us',f1,f2,rfl,rfl,⟨rfl,h3⟩,h4⟩:=hv
    cases i with
    |zero=>exact h3
    |succ i=>exact zNm e h4 i (by simpa using hi)
   ·cases h
  |_=>simp [zFk] at h
theorem yDE:∀ {l:List Value},l.all zEA=true→RpL m (l.map .v) l
 |[],_=>by simp [RpL]
 |x::l,h=>by
  simp only [List.all_cons,Bool.and_eq_true] at h
  simp only [List.map_cons,RpL]
  exact ⟨x,l,rfl,by simp only [Rp];exact ⟨trivial,h.1⟩,yDE h.2⟩
theorem yDF {k:Value} (hf:zFI k=true):RpV m (yEp k) k:=by
 cases k with
 |agg cs=>exact ⟨cs.toList,rfl,yDE hf⟩
 |_=>exact ⟨rfl,hf⟩
theorem yJD (h:InvG E S m β ow F a w) {it r b b' n:Nat} {seen:List Nat} {ks:List Value} {vs:List OV} (hi:it < E.N) (hr:r < E.N) (e1:F.getD it .un=.ov (.one (.it b n seen))) (e2:F.getD r .un=.ov (.one (.mp b' ks vs))):
  ∃ g us f,a.tmps.getD it undef=.pointer (some ⟨g,0,none⟩)∧w.heap[g]?=some (.mapIter (some b) n seen.toArray n)∧(∀ i∈seen,i < n)∧ow g=some (.key it)∧(∀ o,m g o=none)∧
   w.heap[b']?=some (.map (zAQ ks us) ks.length)∧us.length=ks.length∧OvL m w vs us f∧∀ q∈ks,zFI q=true:=by
 have hs:=h.slots it hi
 rw [e1] at hs
 obtain ⟨fp,g1,g2,g3⟩:=hs
 have g1':OvR m w (.it b n seen) (a.tmps.getD it undef) fp:=g1
 simp only [OvR] at g1'
 obtain ⟨g,p1,p2,rfl,p4⟩:=g1'
 have hs:=h.slots r hr
 rw [e2] at hs
 obtain ⟨fp,k1,k2,k3⟩:=hs
 have k1':OvR m w (.mp b' ks vs) (a.tmps.getD r undef) fp:=k1
 simp only [OvR] at k1'
 obtain ⟨us,f,q1,q2,q3,q4,rfl,q5⟩:=k1'
 exact ⟨g,us,f,p1,p2,p4,(g3 g (by simp)).1,(g3 g (by simp)).2,q2,q3,q4,q5⟩
theorem zP7 {ks us:List Value} (h:us.length=ks.length) {e:MapEntry} (he:e∈(zAQ ks us).toList):∃ i,i < ks.length∧e={key:=ks.getD i default,val:=us.getD i default,born:=i}:=by
 obtain ⟨i,hi,rfl⟩:=List.mem_iff_getElem.1 he
 have hs:=zGX h
 rw [Array.length_toList] at hi
 refine ⟨i,by omega,?_⟩
 have:=zDR h (i:=i) (by omega)
 rw [Array.getElem?_eq_getElem hi] at this
 rw [Array.getElem_toList];exact Option.some.inj this
theorem zUs {ks us:List Value} (h:us.length=ks.length) {i:Nat} (hi:i < ks.length):({key:=ks.getD i default,val:=us.getD i default,born:=i}:MapEntry)∈(zAQ ks us).toList:=by
 have:=zDR h hi
 exact Array.mem_toList_iff.2 (Array.mem_of_getElem? this)
theorem yDG {ks:List Value} {i:Nat} (h:i < ks.length) (a b:Value):ks.getD i a=ks.getD i b:=by
 rw [List.getD_eq_getElem?_getD,List.getD_eq_getElem?_getD,List.getElem?_eq_getElem h];rfl
theorem yMG (wf:E.Wf) (h:InvG E S m β ow F a w) {d it r:Nat} {o:Oper} (hd:zAG E.N (some d) o.dst=true) (hr:r < E.N) {y:Operand} (ho:o.op=.entry y) (hx:zAc E.N (.t it) y=true)
  {K:List Ct→Prop} {X:Value→List Ct→Prop} {Q:Exit→Act→World→Prop} (hW:opW P (.men d it r) F K X):o.wp P a w (zEj E S K) Q:=by
 obtain ⟨hd1,hd2⟩:=zAh hd
 obtain ⟨rfl,hi⟩:=zBK hx
 simp only [opW] at hW
 split at hW
 ·rename_i b n seen b' ks vs e1 e2
  split at hW
  ·rename_i ys i hys hl
   obtain ⟨rfl,rfl,hK⟩:=hW
   obtain ⟨g,us,f,p1,p2,p4,p5,p6,q2,q3,q4,q5⟩:=yJD h hi hr e1 e2
   obtain ⟨s0,rfl⟩:∃ s0,seen=s0++[i]:=by
    have hne:seen≠[]:=by rintro rfl;simp at hl
    refine ⟨seen.dropLast,?_⟩
    rw [List.getLast?_eq_some_getLast hne,Option.some.injEq] at hl
    rw [←hl,List.dropLast_concat_getLast]
   have hin:i < ks.length:=p4 i (by simp)
   have hp:(s0++[i]).toArray=s0.toArray.push i:=by simp
   rw [hp] at p2
   have hnd:((zAQ ks us).toList.map (·.born)).Nodup:=by
    have:(zAQ ks us).toList.map (·.born)=List.range ks.length:=by
     apply List.ext_getElem?
     intro j
     rw [List.getElem?_map,Array.getElem?_toList]
     by_cases hj:j < ks.length
     ·rw [zDR q3 hj,List.getElem?_range hj];rfl
     ·rw [Array.getElem?_eq_none (by rw [zGX q3];omega),List.getElem?_eq_none (by simp;omega)];rfl
    rw [this];exact List.nodup_range
   have hrun:=run_entry_at (P:=P) w g b' ks.length s0.toArray (zAQ ks us) ks.length _ p2 q2 (zUs q3 hin) hnd
   have hre:(execOp a.eval o).run P w=.ok (.value (.tuple #[ks.getD i default,us.getD i default])) w:=by
    unfold execOp;rw [ho]
    have:a.eval (.tmp it)=.pointer (some ⟨g,0,none⟩):=p1
    simp only [Sem.run_bind,this,hrun,Result.andThen_ok,Sem.run_pure]
   refine zAD hre ⟨_,hK,m,β,ow,?_⟩
   rw [hd1]
   refine h.slot wf hd2 ?_
   rw [yDG hin .nilIface default]
   have hkf:zFI (ks.getD i default)=true:=by
    rw [List.getD_eq_getElem?_getD,List.getElem?_eq_getElem hin]
    exact q5 _ (List.getElem_mem hin)
   exact ⟨[ks.getD i default,us.getD i default],rfl,_,_,rfl,yDF hkf,_,_,rfl,zNm hys q4 i (by rw [←q4.length,q3];exact hin),rfl⟩
  ·exact hW.elim
 ·exact hW.elim
theorem yMH (wf:E.Wf) (h:InvG E S m β ow F a w) {d it r:Nat} {o:Oper} (hd:zAG E.N (some d) o.dst=true) (hr:r < E.N) {y:Operand} (ho:o.op=.next y false) (hx:zAc E.N (.t it) y=true)
  {K:List Ct→Prop} {X:Value→List Ct→Prop} {Q:Exit→Act→World→Prop} (hW:opW P (.mnx d it r) F K X):o.wp P a w (zEj E S K) Q:=by
 obtain ⟨hd1,hd2⟩:=zAh hd
 obtain ⟨rfl,hi⟩:=zBK hx
 simp only [opW] at hW
 split at hW
 ·rename_i b n seen b' ks vs e1 e2
  split at hW
  ·rename_i ys hys
   obtain ⟨rfl,rfl,hdi,hir,hK0,hK1⟩:=hW
   obtain ⟨g,us,f,p1,p2,p4,p5,p6,q2,q3,q4,q5⟩:=yJD h hi hr e1 e2
   have hold:∀ x∈(zAQ ks us).toList,x.born < ks.length:=fun x hx=>by
    obtain ⟨i,h1,rfl⟩:=zP7 q3 hx;exact h1
   have hev:a.eval (.tmp it)=.pointer (some ⟨g,0,none⟩):=p1
   rcases run_next_at (P:=P) w o.type g b' ks.length ks.length seen.toArray (zAQ ks us) ks.length p2 q2 hold (Nat.le_refl _) with ⟨h1,h2⟩|⟨e,he,w1,hw1,h2⟩
   ·have hall:∀ i,i < ks.length→i∈seen:=fun i hi'=>by
     have:=all_seen _ _ h1 _ (zUs q3 hi')
     simpa using this
    have hre:(execOp a.eval o).run P w=.ok (.value (.tuple #[.bool false])) w:=by
     unfold execOp;rw [ho]
     simp only [Sem.run_bind,hev,h2,Result.andThen_ok,Sem.run_pure]
    refine zAD hre ⟨_,hK0 hall,m,β,ow,?_⟩
    rw [hd1]
    exact h.slot wf hd2 ⟨[.bool false],rfl,_,_,rfl,⟨rfl,rfl⟩,rfl⟩
   ·obtain ⟨he1,he2⟩:=mem_left he
    obtain ⟨i,hin,rfl⟩:=zP7 q3 he1
    have hns:i∉seen:=by simpa using he2
    have hre:(execOp a.eval o).run P w=.ok (.value (.tuple #[.bool true,ks.getD i default,us.getD i default])) (Go.ChangeMaps.setBlock w1 g (.mapIter (some b') ks.length (seen.toArray.push i) ks.length)):=by
     unfold execOp;rw [ho]
     simp only [Sem.run_bind,hev,h2,Result.andThen_ok,Sem.run_pure]
    have h1:InvG E S m β ow F a w1:=by rcases hw1 with rfl|rfl;exact h;exact h.drewn
    have hh1:w1.heap[g]?=some (.mapIter (some b') ks.length seen.toArray ks.length):=by rcases hw1 with rfl|rfl<;>exact p2
    have hD:=zDm wf h1 (r:=it) (fp:=[g]) (by intro x hx;obtain rfl:=List.mem_singleton.1 hx;exact p5)
    have hlo:=zBw h1 (r:=it) (fp:=[g]) (by intro x hx;obtain rfl:=List.mem_singleton.1 hx;exact ⟨p5,p6⟩)
    have hg:=hlo g (by simp)
    have hset:=Go.MapKept.heap_set (o':=.mapIter (some b') ks.length (seen.toArray.push i) ks.length) hh1
    have hlt:g < w1.heap.size:=hg.2.2.1
    have hw2:InvG E S m β (dropB ow [g]) (F.set it .un) a (Go.ChangeMaps.setBlock w1 g (.mapIter (some b') ks.length (seen.toArray.push i) ks.length)):=
     hD.world (b:=g) hg.1 hg.2.2.2 hg.2.1 ⟨rfl,rfl,rfl,by simp [Go.ChangeMaps.setBlock],fun x _ hx=>hset.2 x (by simpa using hx)⟩ (Nat.le_refl _)
    have hA:=zEk wf hw2 (r:=it) (.inl ⟨hi,p1.symm⟩) (x:=.it b' ks.length (seen++[i])) (fp:=[g]) (by
     simp only [OvR]
     refine ⟨g,rfl,by
      have e:(seen++[i]).toArray=seen.toArray.push i:=by simp
      rw [e];exact hset.1,rfl,fun j hj=>?_⟩
     rcases List.mem_append.1 hj with hj|hj
     ·exact p4 j hj
     ·rw [List.mem_singleton.1 hj];exact hin) (by simp) (fun x hx=>by
     obtain rfl:=List.mem_singleton.1 hx
     exact ⟨hg.1,hg.2.1,by simp [Go.ChangeMaps.setBlock];exact hlt,hg.2.2.2⟩)
    rw [List.set_set] at hA
    refine zAD hre ⟨_,hK1 i hin hns,m,β,zEt (dropB ow [g]) [g] it,?_⟩
    rw [hd1]
    refine hA.slot wf hd2 ?_
    rw [yDG hin .nilIface default]
    have hkf:zFI (ks.getD i default)=true:=by
     rw [List.getD_eq_getElem?_getD,List.getElem?_eq_getElem hin]
     exact q5 _ (List.getElem_mem hin)
    exact ⟨[.bool true,ks.getD i default,us.getD i default],rfl,_,_,rfl,⟨rfl,rfl⟩,_,_,rfl,yDF hkf,_,_,rfl,zNm hys q4 i (by rw [←q4.length,q3];exact hin),rfl⟩
  ·exact hW.elim
 ·exact hW.elim
theorem yF6 (w:World) (dT sT ty elem:TypeId) (g o dLen dCap k:Nat) (a:Addr) (sLen sCap:Nat) (cur:Array Value) (t:TypeId) (cs:List Value)
  (hu:P.underlying dT=some (.slice elem)) (hs:zEc P elem=some k)
  (hg:w.heap[g]?=some (.cells cur t (0,0))) (hn:cs.length=Nat.min sLen dLen * k)
  (hsrc:∀ j v,cs[j]?=some v→w.cell? (a.add j)=some v) (hfit:o+cs.length≤cur.size) (h1:∀ v∈cs,v.oneCell'=true):
  ∃ u,(Builtin.copy_ #[dT,sT] ty #[.slice (some ⟨g,o,none⟩) dLen dCap,.slice (some a) sLen sCap]).run P w=
   .ok u (w.setRow g (cur.toList.take o++cs++cur.toList.drop (o+cs.length)).toArray):=by
 have hl:=run_loadCells_list (P:=P) w a cs hsrc
 have hst:=run_storeCells_at P g o t cs 0 cur w hg (by simpa using hfit) h1
 have hz:=zBm (P:=P) (w:=w) hs
 refine ⟨goInt (Nat.min sLen dLen),?_⟩
 simp [Builtin.copy_,run_underlying hu,Builtin.lenOf,Builtin.firstCells,hz,←hn,hl,hst]
theorem yF7 (w:World) (dT sT ty elem:TypeId) (A B:Option Addr) (dCap k:Nat) (sLen sCap:Nat) (hu:P.underlying dT=some (.slice elem)) (hs:zEc P elem=some k):
  ∃ u,(Builtin.copy_ #[dT,sT] ty #[.slice A 0 dCap,.slice B sLen sCap]).run P w=.ok u w:=by
 have hz:=zBm (P:=P) (w:=w) hs
 refine ⟨goInt 0,?_⟩
 cases A<;>cases B<;>simp [Builtin.copy_,run_underlying hu,Builtin.lenOf,Builtin.firstCells,hz,storeCells,loadCells,loadCellsFrom]
theorem zP8 {k:Nat}:∀ (l:List (List OV)),(∀ r∈l,r.length=k)→l.flatten.length=l.length * k
 |[],_=>by simp
 |r::l,h=>by rw [List.flatten_cons,List.length_append,h r List.mem_cons_self,zP8 l (fun r hr=>h r (List.mem_cons_of_mem _ hr)),List.length_cons,Nat.succ_mul,Nat.add_comm]
theorem yMI (wf:E.Wf) (h:InvG E S m β ow F a w) {d:Option Nat} {e k r:Nat} {x y:Opd} {o:Oper} (hd:zAG E.N d o.dst=true) (hr:r < E.N) {c:Call} (ho:o.op=.call c) (hc:c.callee=.builtin .copy) {x' y':Operand} {t t':TypeId} (hargs:c.args.toList=[x',y']) (hts:c.argTypes.toList=[t,t']) (kx:zAc E.N x x'=true) (ky:zAc E.N y y'=true) (htt:t=t') (he:zDM P t e k=true)
  {K:List Ct→Prop} {X:Value→List Ct→Prop} {Q:Exit→Act→World→Prop} (hW:opW P (.cpy d e k r x y) F K X):o.wp P a w (zEj E S K) Q:=by
 subst htt
 obtain ⟨hu,hkp,ie,z,hie,hsz,hby,hz',hzs⟩:=zH0 he
 have hsz':zEc P e=some k:=by simp [zEc,hie,hsz]
 simp only [opW] at hW
 split at hW
 ·rename_i b1 k1 i1 n1 b2 k2 i n2 b e' k' rows e1 e2 e3
  obtain ⟨rfl,rfl,rfl,rfl,rfl,hk',rfl,hi,rfl,rfl,hdr,hK⟩:=hW
  subst hk'
  obtain ⟨q1,rfl,hq1,hs1⟩:=zA4 h kx e1 (by intro p;simp)
  obtain ⟨q2,rfl,hq2,hs2⟩:=zA4 h ky e2 (by intro p;simp)
  have hrep:=h.slots r hr
  rw [e3] at hrep
  obtain ⟨fp,r1,r2,r3⟩:=hrep
  have r1':OvR m w (.os (some b2) e' k' rows) (a.tmps.getD r undef) fp:=r1
  obtain ⟨xs,f,g1,g2,g3,rfl,g5⟩:=zCg.1 r1'
  have hne:rows≠[]:=by rintro rfl;simp at hi
  have hub:=g5 b2 rfl hne
  obtain ⟨u,hu0⟩:∃ u,u=a.tmps.getD r undef:=⟨_,rfl⟩
  rw [←hu0] at r1' r2 r3 g1 hub
  rcases g1.2 with ⟨rfl,_⟩|⟨g,cap,cur,rfl,_,hh,hc1,hc2,hc3,hc4⟩
  ·simp [Value.ownBlock] at hub
  obtain rfl:g=b2:=by simpa [Value.ownBlock] using hub
  have hne2:rows.drop i≠[]:=by intro hc;have:=congrArg List.length hc;simp at this;omega
  have hrows:rows=rows.take i++((rows.drop i).dropLast++[(rows.drop i).getLast hne2]):=by rw [List.dropLast_concat_getLast,List.take_append_drop]
  have hgi:rows.drop i=rows.getD i []::rows.drop (i+1):=by
   rw [List.drop_eq_getElem_cons hi,List.getD_eq_getElem?_getD,List.getElem?_eq_getElem hi];rfl
  have hki:(rows.getD i []).length=k':=g3 _ (by rw [List.getD_eq_getElem?_getD,List.getElem?_eq_getElem hi];exact List.getElem_mem hi)
  have hfl:rows.flatten=(rows.take i).flatten++((rows.drop i).dropLast.flatten++(rows.drop i).getLast hne2):=by
   conv=>lhs;rw [hrows]
   simp
  have hfl2:(rows.drop i).dropLast.flatten++(rows.drop i).getLast hne2=rows.getD i []++(rows.drop (i+1)).flatten:=by
   have:(rows.drop i).flatten=(rows.drop i).dropLast.flatten++(rows.drop i).getLast hne2:=by
    conv=>lhs;rw [←List.dropLast_concat_getLast hne2]
    simp
   rw [←this,hgi,List.flatten_cons]
  rw [hfl] at g2
  obtain ⟨us1,us23,f1,f23,rfl,rfl,q3,q4⟩:=g2.split
  have q4':=q4
  rw [hfl2] at q4'
  obtain ⟨us2,us3,f2,f3,hus,_,q5,_⟩:=q4'.split
  obtain ⟨vA,vL,fA,fL,rfl,rfl,q6,q7⟩:=q4.split
  have hlt:∀ (l:List (List OV)),(∀ r∈l,r∈rows)→∀ r∈l,r.length=k':=fun l hl r hr=>g3 r (hl r hr)
  have hl1:us1.length=i * k':=by
   rw [q3.length,zP8 _ (hlt _ fun r hr=>List.mem_of_mem_take hr),List.length_take,Nat.min_eq_left (by omega)]
  have hdl:∀ r∈(rows.drop i).dropLast,r∈rows:=fun r hr=>List.mem_of_mem_drop (List.dropLast_subset _ hr)
  have hlA:vA.length=(rows.length-i-1) * k':=by
   rw [q6.length,zP8 _ (hlt _ hdl),List.length_dropLast,List.length_drop]
  have hlL:vL.length=k':=by rw [q7.length];exact g3 _ (List.mem_of_mem_drop (List.getLast_mem hne2))
  have hl2:us2.length=k':=by rw [q5.length,hki]
  have hus2:us2=(vA++vL).take k':=by rw [hus,←hl2,List.take_left]
  have hgs:g < w.heap.size:=(Array.getElem?_eq_some_iff.1 hh).1
  have hcl:cur.toList.length=cap * k':=by rw [Array.length_toList,hc3]
  have hcur:cur.toList=(us1++(vA++vL))++cur.toList.drop (rows.length * k'):=by rw [←hc4,List.take_append_drop]
  have hNk:rows.length * k'=i * k'+(rows.length-i-1) * k'+k':=by
   have:rows.length=i+(rows.length-i-1)+1:=by omega
   conv=>lhs;rw [this]
   rw [Nat.add_mul,Nat.add_mul,Nat.one_mul]
  have hcapN:rows.length * k'≤cap * k':=Nat.mul_le_mul_right _ hc1
  obtain ⟨⟨A2,c2,hv2,hlc2,hcm2⟩,hat2⟩:=hs2
  obtain ⟨⟨A1,c1',hv1,hlc1,hcm1⟩,hat1⟩:=hs1
  obtain ⟨cc2,hv2'⟩:=hat2 (by omega)
  let new:List Value:=cur.toList.take ((i+1) * k')++vA++cur.toList.drop ((i+1) * k'+vA.length)
  have hnewl:new.length=cap * k':=by
   simp only [new,List.length_append,List.length_take,List.length_drop,hcl,hlA]
   have h9:(i+1) * k'=i * k'+k':=by rw [Nat.add_mul,Nat.one_mul]
   omega
  have h9:(i+1) * k'=i * k'+k':=by rw [Nat.add_mul,Nat.one_mul]
  have htk1:cur.toList.take ((i+1) * k')=us1++us2:=by
   rw [hcur,List.take_append_of_le_length (by simp only [List.length_append,hl1,hlA,hlL];omega),hus2,h9,←hl1,List.take_length_add_append]
  have hnew0:new=(us1++us2++vA)++cur.toList.drop ((i+1) * k'+vA.length):=by simp only [new,htk1]
  have hlx:(us1++us2++vA).length=rows.length * k':=by simp only [List.length_append,hl1,hl2,hlA];omega
  have hrun:∃ v,(Builtin.copy_ #[t,t] o.type #[a.eval x',a.eval y']).run P w=.ok v (w.setRow g new.toArray):=by
   rcases Nat.eq_zero_or_pos (rows.length-i-1) with h0|h0
   ·rw [hv1,h0,hv2]
    obtain ⟨v,hv⟩:=yF7 (P:=P) w t t o.type e' A1 A2 c1' k' (rows.length-i) c2 hu hsz'
    refine ⟨v,?_⟩
    have hA0:vA=[]:=List.eq_nil_of_length_eq_zero (by rw [hlA,h0];simp)
    have:new.toArray=cur:=by
     simp only [new,hA0,List.append_nil,List.length_nil,Nat.add_zero,List.take_append_drop,Array.toArray_toList]
    rw [hv,this,setRow_self w g cur e' (0,0) hh]
   ·obtain ⟨cc1,hv1'⟩:=hat1 (by omega)
    rw [hv1',hv2']
    exact yF6 w t t o.type e' g ((i+1) * k') (rows.length-i-1) cc1 k' ⟨g,i * k',none⟩ (rows.length-i) cc2 cur e' vA hu hsz' hh (by rw [hlA];congr 1;exact (Nat.min_eq_right (by omega)).symm) (fun j v hj=>by
     have hjl:=(List.getElem?_eq_some_iff.1 hj).1
     rw [zBj]
     unfold World.cell?
     simp only [hh,Option.isSome_none,Bool.false_eq_true,if_false]
     rw [←Array.getElem?_toList,hcur,List.getElem?_append_left (by simp only [List.length_append,hl1];omega),List.getElem?_append_right (by rw [hl1];omega),hl1,Nat.add_sub_cancel_left,List.getElem?_append_left hjl]
     exact hj) (by rw [hc3,hlA];omega) (fun v hv=>zB1 (q6.flat_ v hv))
  obtain ⟨v,hrun⟩:=hrun
  have hre:(execOp a.eval o).run P w=.ok (.value v) (w.setRow g new.toArray):=by
   obtain ⟨ca,cb,cc⟩:=c
   simp only at hc hargs hts
   subst hc
   obtain rfl:cb=#[x',y']:=by rw [←Array.toArray_toList (xs:=cb),hargs]
   obtain rfl:cc=#[t,t]:=by rw [←Array.toArray_toList (xs:=cc),hts]
   obtain ⟨dst,op,ty,pos,after,gd⟩:=o
   simp only at ho hrun
   subst ho
   rw [BigFrame.execOp_builtin,BigFrame.builtin_copy]
   have e1:(#[x',y'].map a.eval)=#[a.eval x',a.eval y']:=by simp
   rw [e1]
   simp only [Sem.run_bind,hrun,Result.andThen_ok]
   rfl
  have hnd:=r2
  have hbl:blk (.slice (some ⟨g,0,none⟩) rows.length cap)=[g]:=rfl
  rw [hbl] at hnd r3
  have hD:=zDm wf h fun g hg=>(r3 g hg).1
  have hloose:=zBw h r3
  have hgl:=hloose g (by simp)
  let w':=w.setRow g new.toArray
  have hwg:w'.heap[g]?=some (.cells new.toArray e' (0,0)):=setRow_heap w g cur _ e' (0,0) hh
  have hwo:∀ x,x≠g→w'.heap[x]?=w.heap[x]?:=fun x hx=>setRow_other w g x _ hx
  have hsz2:w.heap.size≤w'.heap.size:=by simp [w']
  have hDw:=hD.world (w':=w') (b:=g) hgl.1 hgl.2.2.2 hgl.2.1 ⟨rfl,rfl,rfl,hsz2,fun x _ hx=>hwo x (fun e=>hx (by rw [e]))⟩ (Nat.le_refl _)
  rw [List.singleton_append,List.nodup_cons] at hnd
  have hf1:∀ x∈f1,w'.heap[x]?=w.heap[x]?:=fun x hx=>hwo x fun e=>hnd.1 (by rw [←e];exact List.mem_append_left _ hx)
  have hfA:∀ x∈fA,w'.heap[x]?=w.heap[x]?:=fun x hx=>hwo x fun e=>hnd.1 (by rw [←e];exact List.mem_append_right _ (List.mem_append_left _ hx))
  have hsl:(zDd i rows).length=rows.length:=by simp only [zDd,List.length_append,List.length_take,List.length_cons,List.length_nil,List.length_dropLast,List.length_drop];omega
  have hnewR:OvR m w' (.os (some g) e' k' (zDd i rows)) (.slice (some ⟨g,0,none⟩) rows.length cap) ([g]++(f1++fA)):=by
   refine zCg.2 ⟨us1++us2++vA,f1++fA,?_,?_,?_,rfl,fun b hb _=>by rw [←hb];exact hub⟩
   ·rw [hsl]
    refine ⟨hlx,.inr ⟨g,cap,_,rfl,Nat.zero_le _,hwg,hc1,hc2,by rw [List.size_toArray];exact hnewl,?_⟩⟩
    rw [List.toList_toArray,hnew0,←hlx,List.take_left]
   ·have e9:(zDd i rows).flatten=(rows.take i).flatten++(rows.getD i []).map OV.left++(rows.drop i).dropLast.flatten:=by simp [zDd]
    rw [e9]
    have:=((OvL.congr m.le_refl _ _ _ hf1 q3).append (OvL.congr (w':=w') m.le_refl _ _ _ (fun x hx=>by cases hx) q5.left)).append (OvL.congr m.le_refl _ _ _ hfA q6)
    rwa [List.append_nil] at this
   ·intro r hr
    simp only [zDd,List.mem_append,List.mem_singleton] at hr
    rcases hr with (hr|rfl)|hr
    ·exact g3 r (List.mem_of_mem_take hr)
    ·rw [List.length_map];exact hki
    ·exact g3 r (hdl r hr)
  have hnd2:([g]++(f1++fA)).Nodup:=by
   have h3:([g]++(f1++fA)).Sublist (g::(f1++(fA++fL))):=List.Sublist.cons_cons g ((List.sublist_append_left fA fL).append_left f1)
   exact (List.nodup_cons.2 hnd).sublist h3
  have hl2:Loose S m w' (dropB ow ([g]++(f1++(fA++fL)))) ([g]++(f1++fA)):=(hloose.sub fun x hx=>by
   simp only [List.mem_append,List.mem_singleton] at hx ⊢
   rcases hx with hx|hx|hx
   ·exact .inl hx
   ·exact .inr (.inl hx)
   ·exact .inr (.inr (.inl hx))).grow hsz2
  have hA:=zEk wf hDw (.inl ⟨hr,hu0⟩) hnewR hnd2 hl2
  rw [List.set_set] at hA
  refine zAD hre ⟨_,hK,m,β,zEt (dropB ow ([g]++(f1++(fA++fL)))) ([g]++(f1++fA)) r,?_⟩
  cases d with
  |none=>
   have hn:o.dst=none:=by
    cases hh:o.dst with
    |none=>rfl
    |some x=>rw [hh] at hd;simp [zAG] at hd
   rw [hn]
   exact hA
  |some d=>
   obtain ⟨hd1,hd2⟩:=zAh hd
   rw [hd1]
   exact hA.slot wf hd2 trivial
 ·exact hW.elim
end
end Go.Hx
end

section
/-
 THE ABSTRACT LAYER: closures that turn boxes that they captured; a struct with an own nil slice in it. Generic over the program. No condition.
-/
namespace Go.Hx
open Go.RowKit
variable [Glob]
section
variable {P:Program} {E:Env} {S:Start} {m:Mem} {β:Bx} {ow:Ow} {F:List Ct} {a:Act} {w:World}
theorem yMJ (wf:E.Wf) (h:InvG E S m β ow F a w) {d:Nat} {v:VOp} {off e k:Nat} {o:Oper} (hd:zAG E.N (some d) o.dst=true) (hk:yHU P E v o.op=true) {K:List Ct→Prop} {Q:Exit→Act→World→Prop}
  (hc:(ev F v).1) (hn:yMi (ev F v).2 off=true) (hK:K (F.set d (yNR (ev F v).2 off e k))):o.wp P a w (zEj E S K) Q:=by
 obtain ⟨hd1,hd2⟩:=zAh hd
 obtain ⟨u,m',w',hr,q,hrep⟩:=zVl h v o hk d hc
 generalize (ev F v).2=c at hn hK hrep
 unfold yMi at hn
 split at hn
 ·rename_i cs
  split at hn
  ·rename_i k' hcs
   obtain ⟨us,rfl,hu⟩:=hrep
   refine zAD hr ⟨_,hK,?_⟩
   rw [hd1]
   have hl:=hu.length
   have hlt:off < cs.length:=(List.getElem?_eq_some_iff.1 hcs).1
   have hltu:off < us.length:=by omega
   have hx:us[off]=.slice none 0 0:=by
    have:=hu.get off _ _ hcs (List.getElem?_eq_getElem hltu)
    exact this
   have h1:RpL m' (cs.take off) (us.take off):=by simpa using hu.sub 0 off
   have h3:RpL m' (cs.drop (off+1)) (us.drop (off+1)):=by
    have:=hu.sub (off+1) cs.length
    rw [List.take_of_length_le (by simp),List.take_of_length_le (by simp [hl])] at this
    exact this
   have h2:OvL m' w' [.os none e k []] [us[off]] []:=by
    rw [hx]
    simp only [OvL]
    refine ⟨.slice none 0 0,[],[],[],rfl,rfl,?_,rfl,rfl⟩
    simp only [OvR,OvRows]
    exact ⟨[],[],World.ownsRow_nil w' 0 e k,⟨rfl,rfl⟩,by simp [blk,Value.ownBlock],fun b h=>by cases h⟩
   have hus:us=us.take off++[us[off]]++us.drop (off+1):=by
    rw [List.append_assoc,List.singleton_append,←List.drop_eq_getElem_cons hltu,List.take_append_drop]
   refine zEM wf (h.quiet q) hd2 (x:=.agg _) (fp:=[]) ⟨us,rfl,?_⟩ List.nodup_nil (fun g hg=>by cases hg)
   have:=((OvL.of_rp (w:=w') h1).append h2).append (OvL.of_rp (w:=w') h3)
   rw [←hus] at this
   simpa using this
  ·cases hn
 ·cases hn
theorem zKC (h:InvG E S m β ow F a w):∀ {caps:List Opd} {ys:List Operand},zF7 E.N caps ys=true→(zLG F caps).1→CapsRep m β (zLG F caps).2 (ys.map a.eval)
 |[],[],_,_=>rfl
 |[],_::_,hk,_=>by simp [zF7] at hk
 |_::_,[],hk,_=>by simp [zF7] at hk
 |x::xs,y::ys,hk,hc=>by
  simp only [zF7,Bool.and_eq_true] at hk
  simp only [zLG] at hc ⊢
  split at hc
  ·rename_i j e1
   simp only [e1,List.map_cons,CapsRep]
   obtain ⟨b,h1,h2⟩:=zC4 h hk.1 e1
   exact ⟨b,_,by rw [h2],h1,zKC h hk.2 hc⟩
  ·rename_i e0
   split at hc
   ·rename_i p e1
    have h2:=zAI h hk.1 hc.1 e1
    have h3:=zKC h hk.2 hc.2
    simp only [e1,List.map_cons,CapsRep]
    exact ⟨_,_,rfl,h2,h3⟩
   ·exact hc.elim
theorem yMK (wf:E.Wf) (h:InvG E S m β ow F a w) {d f:Nat} {caps:List Opd} {first captured:Array Operand} {o:Oper} (hd:zAG E.N (some d) o.dst=true) (ho:o.op=.makeFunc (.func f) first captured) (hf:first.isEmpty=true) (hk:zF7 E.N caps captured.toList=true) {K:List Ct→Prop} {Q:Exit→Act→World→Prop}
  (hc:(zLG F caps).1) (hK:K (F.set d (.cl f (zLG F caps).2))):o.wp P a w (zEj E S K) Q:=by
 obtain ⟨hd1,hd2⟩:=zAh hd
 have hr:(execOp a.eval o).run P w=.ok (.value (.func (.func f) #[] (captured.map a.eval))) w:=by
  have hfe:first=#[]:=by simpa using hf
  subst hfe
  unfold execOp;rw [ho]
  simp [Instr.makeFunc]
 refine zAD hr ⟨_,hK,m,β,ow,?_⟩
 rw [hd1]
 refine h.slot wf hd2 ⟨captured.toList.map a.eval,?_,zKC h hk hc⟩
 congr 1
 exact Array.ext' (by simp)
theorem zKg {F:List Ct}:∀ (n i:Nat) {cs:List PV},zAM F i n=some cs→cs.length=n
 |0,_,cs,h=>by simp only [zAM,Option.some.injEq] at h;subst h;rfl
 |n+1,i,cs,h=>by
  simp only [zAM] at h
  split at h
  ·rename_i x xs e1 e2
   injection h with h
   subst h
   simp [zKg n (i+1) e2]
  ·cases h
theorem zP9 (wf:E.Wf):∀ {bxs:List (Nat×Nat×Nat)} {io:List (List PV)} {F:List Ct},F.length=E.L→(∀ bx∈bxs,E.Γ[bx.1]?=some (bx.2.1,bx.2.2))→(bxs.map (·.1)).Nodup→io.map List.length=bxs.map (·.2.2)→
  (zFj F bxs io).length=F.length∧(∀ i,(∀ bx∈bxs,i < bx.2.1∨bx.2.1+bx.2.2≤i)→(zFj F bxs io).getD i .un=F.getD i .un)∧
  ∀ (k:Nat) (bx:Nat×Nat×Nat) (l:List PV),bxs[k]?=some bx→io[k]?=some l→∀ o,o < bx.2.2→(zFj F bxs io).getD (bx.2.1+o) .un=(l.map fun x=>Ct.pv (.one x)).getD o .un
 |[],io,F,hF,hb,hn,hl=>by
  refine ⟨by cases io<;>rfl,fun i _=>by cases io<;>rfl,fun k bx l h=>by simp at h⟩
 |bx::bxs,[],F,hF,hb,hn,hl=>by simp at hl
 |(j,base,n)::bxs,l::io,F,hF,hb,hn,hl=>by
  simp only [List.map_cons,List.nodup_cons,List.cons.injEq] at hn hl
  have hj:=hb (j,base,n) List.mem_cons_self
  simp only at hj
  obtain ⟨h1,h2,h3⟩:=zP9 wf (bxs:=bxs) (io:=io) (F:=zAl F base (l.map fun x=>.pv (.one x))) (by rw [zAJ];exact hF) (fun bx h=>hb bx (List.mem_cons_of_mem _ h)) hn.2 hl.2
  have hhi:=wf.hi j _ hj
  simp only at hhi
  have hap:∀ bx∈bxs,base+n≤bx.2.1∨bx.2.1+bx.2.2≤base:=fun bx hbx=>by
   have hne:j≠bx.1:=fun e=>hn.1 (by rw [e];exact List.mem_map.2 ⟨bx,hbx,rfl⟩)
   exact wf.ap j bx.1 _ _ hj (hb bx (List.mem_cons_of_mem _ hbx)) hne
  simp only [zFj]
  refine ⟨by rw [h1,zAJ],fun i hi=>?_,fun k bx l' hk hl' o ho=>?_⟩
  ·rw [h2 i fun bx hbx=>hi bx (List.mem_cons_of_mem _ hbx),zAp]
   have:=hi (j,base,n) List.mem_cons_self
   simp only at this
   rw [if_neg]
   rw [List.length_map,hl.1]
   omega
  ·cases k with
   |zero=>
    simp only [List.getElem?_cons_zero,Option.some.injEq] at hk hl'
    subst hk;subst hl'
    simp only at ho ⊢
    rw [h2 (base+o) fun bx hbx=>by have:=hap bx hbx;omega,zAp,if_pos ⟨by omega,by rw [List.length_map,hl.1];omega,by omega⟩]
    congr 1
    omega
   |succ k=>exact h3 k bx l' (by simpa using hk) (by simpa using hl') o ho
theorem zVv (h:InvG E S m β ow F a w):∀ {caps:List Cap} {cus:List Value} {bxs:List (Nat×Nat×Nat)} {cas:List CA},CapsRep m β caps cus→zPV F bxs caps=some cas→(∀ bx∈bxs,E.Γ[bx.1]?=some (bx.2.1,bx.2.2))→
  ∃ bs:List Nat,CArgs m w cas cus bs∧zPT cas=bxs.map (·.2.2)∧bs.length=bxs.length∧∀ (k:Nat) (bx:Nat×Nat×Nat),bxs[k]?=some bx→∃ b,bs[k]?=some b∧β bx.1=some b
 |[],cus,bxs,cas,hc,ha,hb=>by
  cases bxs with
  |nil=>
   simp only [zPV,Option.some.injEq] at ha
   subst ha
   exact ⟨[],⟨hc,rfl⟩,rfl,rfl,fun k bx h=>by simp at h⟩
  |cons bx bxs=>simp [zPV] at ha
 |.p x::r,cus,bxs,cas,hc,ha,hb=>by
  obtain ⟨u,us',rfl,h2,h3⟩:=hc
  simp only [zPV] at ha
  split at ha
  ·rename_i l e1
   injection ha with ha
   subst ha
   obtain ⟨bs,g1,g0,g2,g3⟩:=zVv h h3 e1 hb
   exact ⟨bs,⟨u,us',rfl,h2,g1⟩,g0,g2,g3⟩
  ·cases ha
 |.b i::r,cus,bxs,cas,hc,ha,hb=>by
  obtain ⟨b,us',rfl,h2,h3⟩:=hc
  cases bxs with
  |nil=>simp [zPV] at ha
  |cons bx bxs=>
   obtain ⟨j,base,n⟩:=bx
   simp only [zPV] at ha
   split at ha
   ·rename_i cs l e0 e1 e2
    injection ha with ha
    subst ha
    have e0:i=j:=by simpa using e0
    subst e0
    obtain ⟨bs,g1,g0,g2,g3⟩:=zVv h h3 e2 (fun bx h=>hb bx (List.mem_cons_of_mem _ h))
    have hj:=hb (i,base,n) List.mem_cons_self
    have hB:=h.boxes i _ hj
    rw [h2] at hB
    obtain ⟨vs,T,k1,k2,k3⟩:=zH1 hB e1
    refine ⟨b::bs,⟨b,us',bs,rfl,rfl,⟨hB.2.1,vs,T,k1,k3⟩,g1⟩,?_,by simp [g2],fun k bx hk=>?_⟩
    ·simp only [zPT,List.map_cons,g0,zKg _ _ e1]
    ·cases k with
     |zero=>
      simp only [List.getElem?_cons_zero,Option.some.injEq] at hk
      subst hk
      exact ⟨b,rfl,h2⟩
     |succ k=>simpa using g3 k bx (by simpa using hk)
   ·cases ha
theorem yF8 {c:Call} {o:Oper} (ho:o.op=.call c) {x:Operand} (hc:c.callee=.value x) {f:FuncId} {us:List Value} (hx:a.eval x=.func (.func f) #[] us.toArray) (hf:zCs P f=true):
  (execOp a.eval o).run P w=.ok (.enter f (c.args.toList.map a.eval++us).toArray) w:=by
 have hcf:∀ (args:Array Value) (w:World),(callFunc f args).run P w=.ok (.enter f args) w:=by
  intro args w
  unfold zCs at hf
  split at hf
  ·rename_i fn hfn
   simp only [Bool.and_eq_true,Bool.not_eq_true'] at hf
   obtain ⟨h1,h2⟩:=hf
   have h3:fn.body≠none:=by intro hb;rw [hb] at h1;cases h1
   have h4:fn.name ≠ "runtime.NumGoroutine" := by intro hb;rw [hb] at h2;simp at h2
   simp [callFunc,hfn,h3,h4]
  ·cases hf
 unfold execOp
 rw [ho]
 simp only [resolve,hc,hx,Deferred.ofValue,Sem.run_bind,Sem.run_pure,Result.andThen_ok,invoke]
 rw [hcf]
 congr 2
 apply Array.ext'
 simp
theorem yML (wf:E.Wf) (h:InvG E S m β ow F a w) {d:Option Nat} {x:Opd} {bxs:List (Nat×Nat×Nat)} {args:List (Opd×AM)} {o:Oper} (hd:zAG E.N d o.dst=true) {c:Call} (ho:o.op=.call c) {y:Operand} (hc:c.callee=.value y) (hk:zAc E.N x y=true) (hk2:zFm E args c.args.toList=true) (hbx:yA6 E bxs=true) {K:List Ct→Prop} {Q:Exit→Act→World→Prop} {f:Nat} {caps:List Cap}
  (hx:zAf F x=.cl f caps) (hav:(zBn F args).1) {cas:List CA} {io':List (List PV)} (hcas:zPV F bxs caps=some cas) (hcon:zEH P f (zBn F args).2 cas io') (hK:K (zSC (zFj F bxs io') d .un)):o.wp P a w (zEj E S K) Q:=by
 obtain ⟨n,rfl,hn,cus,hu,hcr⟩:=zA4 h hk hx (by intro p;simp)
 simp only [yA6,Bool.and_eq_true,List.all_eq_true,decide_eq_true_eq] at hbx
 have hb:∀ bx∈bxs,E.Γ[bx.1]?=some (bx.2.1,bx.2.2):=fun bx hbx'=>zDW (hbx.1 bx hbx')
 obtain ⟨bs,q1,q0,q2,q3⟩:=zVv h hcr hcas hb
 have hlen:=hcon.2.1
 rw [q0] at hlen
 have hown:∀ (k:Nat) (bx:Nat×Nat×Nat) (b:Nat),bxs[k]?=some bx→bs[k]?=some b→ow b=some (.box bx.1)∧β bx.1=some b:=by
  intro k bx b hk hbk
  obtain ⟨b',h1,h2⟩:=q3 k bx hk
  rw [hbk] at h1
  injection h1 with h1
  subst h1
  have hB:=h.boxes bx.1 _ (hb bx (List.mem_of_getElem? hk))
  rw [h2] at hB
  exact ⟨hB.1,h2⟩
 have hof:∀ b∈bs,∃ (k:Nat) (bx:Nat×Nat×Nat),bxs[k]?=some bx∧bs[k]?=some b∧ow b=some (.box bx.1):=by
  intro b hb'
  obtain ⟨k,hk⟩:=List.getElem?_of_mem hb'
  have hkl:k < bxs.length:=by rw [←q2];exact (List.getElem?_eq_some_iff.1 hk).1
  exact ⟨k,bxs[k],List.getElem?_eq_getElem hkl,hk,(hown k _ b (List.getElem?_eq_getElem hkl) hk).1⟩
 have hnd:bs.Nodup:=by
  rw [List.nodup_iff_pairwise_ne,List.pairwise_iff_getElem]
  intro i j hi hj hij e
  have hi2:i < bxs.length:=by omega
  have hj2:j < bxs.length:=by omega
  have h1:=(hown i _ _ (List.getElem?_eq_getElem hi2) (List.getElem?_eq_getElem hi)).1
  have h2:=(hown j _ _ (List.getElem?_eq_getElem hj2) (List.getElem?_eq_getElem hj)).1
  rw [e,h2] at h1
  injection h1 with h1
  injection h1 with h1
  have h3:=List.pairwise_iff_getElem.1 (List.nodup_iff_pairwise_ne.1 hbx.2) i j (by simpa using hi2) (by simpa using hj2) hij
  simp only [List.getElem_map] at h3
  exact h3 h1.symm
 have hop:=yF8 (a:=a) (w:=w) ho hc hu hcon.1
 unfold Oper.wp
 rw [hop]
 refine Calls.mono (hcon.2.2 m w (c.args.toList.map a.eval) cus bs h.mem (zDX h hk2 hav).1 q1 hnd h.glob (fun b hb'=>by obtain ⟨k,bx,_,_,h3⟩:=hof b hb';exact h.gown h3)) fun e w' hp=>?_
 obtain ⟨m',p1,p2,p3,p4,rfl,p5,p6⟩:=hp
 obtain ⟨s1,s2,s3⟩:=zP9 wf (io:=io') h.lenF hb hbx.2 hlen
 have hA:InvG E S m' β ow (zFj F bxs io') a w':=by
  refine h.step (X:=fun t=>∃ bx∈bxs,t=.box bx.1) ⟨p1,fun g t hg hX=>?_⟩ s1 rfl rfl (fun i hi=>.inl ⟨?_,rfl,.inl (by rintro ⟨_,_,hc⟩;cases hc)⟩) (fun j bn hj=>?_) p2 ?_ h.own (fun b t hb'=>Nat.lt_of_lt_of_le (h.lt b t hb') p3.size) (fun b o u hu=>?_)
  ·have hg1:g∉bs:=fun hc=>by
    obtain ⟨k,bx,h1,_,h3⟩:=hof g hc
    rw [hg] at h3
    injection h3 with h3
    exact hX ⟨bx,List.mem_of_getElem? h1,h3⟩
   refine ⟨p3.block g (h.lt g t hg) hg1,fun o=>?_,hg⟩
   cases hm:m' g o with
   |none=>
    cases hm2:m g o with
    |none=>rfl
    |some u=>rw [p1 g o u hm2] at hm;cases hm
   |some u=>
    rcases p4 g o u hm with h1|h1
    ·exact h1.symm
    ·have:=h.lt g t hg;omega
  ·exact s2 i fun bx hbx'=>by have:=wf.lo bx.1 _ (hb bx hbx');simp only at this;omega
  ·by_cases hjb:∃ bx∈bxs,bx.1=j
   ·obtain ⟨bx,hbx',rfl⟩:=hjb
    right
    obtain ⟨k,hk⟩:=List.getElem?_of_mem hbx'
    rw [hb bx hbx'] at hj
    injection hj with hj
    subst hj
    have hkl:k < io'.length:=by
     have:=congrArg List.length hlen
     simp only [List.length_map] at this
     rw [this];exact (List.getElem?_eq_some_iff.1 hk).1
    have hlk:=List.getElem?_eq_getElem hkl
    obtain ⟨b,g1,g2,vs,T,g3,g4⟩:=p6 k _ hlk
    obtain ⟨g5,g6⟩:=hown k bx b hk g1
    rw [g6]
    have hlk2:io'[k].length=bx.2.2:=by
     have e1:(io'.map List.length)[k]?=some io'[k].length:=by rw [List.getElem?_map,hlk];rfl
     have e2:(bxs.map (·.2.2))[k]?=some bx.2.2:=by rw [List.getElem?_map,hk];rfl
     rw [hlen,e2] at e1
     injection e1 with e1;exact e1.symm
    have hvl:=g4.length
    refine ⟨g5,g2,vs,T,g3,by simpa [hlk2] using hvl,fun o ho=>?_⟩
    simp only at ho ⊢
    rw [s3 k bx _ hk hlk o ho]
    have ho2:o < io'[k].length:=by omega
    have ho3:o < vs.toList.length:=by omega
    rw [List.getD_eq_getElem?_getD,List.getElem?_map,List.getElem?_eq_getElem ho2]
    have e3:vs.getD o undef=vs.toList[o]:=by
     rw [Array.getD_eq_getD_getElem?,←Array.getElem?_toList,List.getElem?_eq_getElem ho3];rfl
    rw [e3]
    exact g4.get _ _ _ (List.getElem?_eq_getElem ho2) (List.getElem?_eq_getElem ho3)
   ·left
    refine ⟨by rintro ⟨bx,hbx',hc⟩;injection hc with hc;exact hjb ⟨bx,hbx',hc.symm⟩,fun o ho=>⟨s2 _ fun bx hbx'=>?_,by rintro ⟨_,_,hc⟩;cases hc⟩⟩
    have hne:j≠bx.1:=fun e=>hjb ⟨bx,hbx',e.symm⟩
    have:=wf.ap j bx.1 _ _ hj (hb bx hbx') hne
    simp only at this
    omega
  ·exact p3.mono fun b _ hb'=>by
    obtain ⟨k,bx,_,_,h3⟩:=hof b hb'
    exact (h.own b _ h3).symm
  ·rcases p4 b o u hu with h1|h1
   ·exact .inl h1
   ·exact .inr (.inl (Nat.le_trans h.pres.size h1))
 refine ⟨_,hK,m',β,ow,?_⟩
 cases d with
 |none=>
  have hn:o.dst=none:=by
   cases hh:o.dst with
   |none=>rfl
   |some x=>rw [hh] at hd;simp [zAG] at hd
  rw [hn]
  exact hA
 |some d=>
  obtain ⟨hd1,hd2⟩:=zAh hd
  rw [hd1]
  exact hA.slot wf hd2 trivial
end
end Go.Hx
end

section
/-
 THE ABSTRACT LAYER, NINTH TEXT: every operation, every region in the text's order is sound. Generic over the program. No condition.
-/
namespace Go.Hx
open Go.RowKit
variable [Glob]
section
variable {P:Program} {E:Env} {S:Start} {m:Mem} {β:Bx} {ow:Ow} {F:List Ct} {a:Act} {w:World}
theorem zOd {f:FuncId} (h:zCs P f=true) (args:Array Value) (w:World):(callFunc f args).run P w=.ok (.enter f args) w:=by
 unfold zCs at h
 split at h
 ·rename_i fn hf
  simp only [Bool.and_eq_true,Bool.not_eq_true'] at h
  obtain ⟨h1,h2⟩:=h
  have h3:fn.body≠none:=by intro hb;rw [hb] at h1;cases h1
  have h4:fn.name ≠ "runtime.NumGoroutine" := by intro hb;rw [hb] at h2;simp at h2
  simp [callFunc,hf,h3,h4]
 ·cases h
theorem zLO {c:Call} {o:Oper} (ho:o.op=.call c) {x:Operand} (hc:c.callee=.value x) {f:FuncId} {us:List Value} (hx:a.eval x=.func (.func f) #[] us.toArray) (hf:zCs P f=true):
  (execOp a.eval o).run P w=.ok (.enter f (c.args.toList.map a.eval++us).toArray) w:=by
 unfold execOp
 rw [ho]
 simp only [resolve,hc,hx,Deferred.ofValue,Sem.run_bind,Sem.run_pure,Result.andThen_ok,invoke]
 rw [zOd hf]
 congr 2
 apply Array.ext'
 simp
theorem zVw {args:List (Opd×AM)} (h:yHZ args=true):zBd args=none∧zEd args=none:=by
 induction args with
 |nil=>exact ⟨rfl,rfl⟩
 |cons x r ih=>
  obtain ⟨x,mo⟩:=x
  simp only [yHZ,List.all_cons,Bool.and_eq_true] at h
  obtain ⟨h1,h2⟩:=h
  cases mo<;>simp at h1
  exact ih h2
theorem yKi (wf:E.Wf) (h:InvG E S m β ow F a w) {d:Option Nat} {f r:Nat} {x:Opd} {args:List (Opd×AM)} {o:Oper} (hd:zAG E.N d o.dst=true) (hr:r < E.N) {c:Call} (ho:o.op=.call c) (hc:c.callee=.value (.func f)) {y:Operand} {ys:List Operand} (hargs:c.args.toList=y::ys) (hk:zAc E.N x y=true) (hk2:zFm E args ys=true) {K:List Ct→Prop} {X:Value→List Ct→Prop} {Q:Exit→Act→World→Prop} (hW:opW P (.cals d f r x args) F K X):o.wp P a w (zEj E S K) Q:=by
 simp only [opW] at hW
 split at hW
 ·rename_i b k0 n b' e k rows e1 e2
  obtain ⟨rfl,rfl,hne,hdr,hav,rows',hcon,hK⟩:=hW
  have hrep:=h.slots r hr
  rw [e2] at hrep
  obtain ⟨fp,r1,r2,r3⟩:=hrep
  have r1':OvR m w (.os (some b') e k rows) (a.tmps.getD r undef) fp:=r1
  obtain ⟨c',hy⟩:∃ c',a.eval y=.slice (some ⟨b',0,none⟩) rows.length c':=by
   cases x with
   |t i=>
    obtain ⟨rfl,hiN⟩:=zBK hk
    have hs:=h.slots i hiN
    rw [show F.getD i .un=.hdp b' k0 rows.length from e1] at hs
    exact hs.2 (fun hc=>hne (List.eq_nil_of_length_eq_zero hc))
   |c p=>simp [zAf] at e1
   |f g=>simp [zAf] at e1
  have hD:=zDm wf h fun g hg=>(r3 g hg).1
  have hloose:=zBw h r3
  have hop:=zLO (a:=a) (w:=w) ho hc (f:=f) (us:=[]) rfl hcon.1
  rw [hargs] at hop
  unfold Oper.wp
  rw [hop]
  simp only [List.map_cons,List.append_nil,hy]
  refine Calls.mono (hcon.2 m w (a.tmps.getD r undef) b' c' fp (ys.map a.eval) h.mem r1' hne r2 (fun g hg=>⟨h.gown (r3 g hg).1,(r3 g hg).2⟩) h.glob (zDX h hk2 hav).1) fun e w' hp=>?_
  obtain ⟨m',p1,p2,p3,p4,u',fp',rfl,q0,q1,q2,q3⟩:=hp
  have hkeep:∀ b t,dropB ow fp b=some t→b∉fp∧b < w.heap.size:=by
   intro b t hb
   refine ⟨fun hc=>by simp [dropB,hc] at hb,hD.lt b t hb⟩
  have hQ:InvG E S m' β (dropB ow fp) (F.set r .un) a w':=hD.quiet {
   le:=p1
   mem:=p2
   heap:=fun b t hb=>p3.block b (hkeep b t hb).2 (hkeep b t hb).1
   free:=fun b t o hb=>by
    cases hm:m' b o with
    |none=>
     cases hm2:m b o with
     |none=>rfl
     |some u=>rw [p1 b o u hm2] at hm;cases hm
    |some u=>
     rcases p4 b o u hm with h1|h1|h1
     ·exact h1.symm
     ·have:=(hkeep b t hb).2;omega
     ·exact ((hkeep b t hb).1 h1).elim
   new:=fun b o u hu=>by
    rcases p4 b o u hu with h1|h1|h1
    ·exact .inl h1
    ·exact .inr (.inl (Nat.le_trans h.pres.size h1))
    ·rcases (hloose b h1).2.1 with h2|h2
     ·exact .inr (.inl h2)
     ·exact .inr (.inr h2)
   pres:=p3.mono fun b _ hb=>(hloose b hb).2.1.symm}
  have hl:Loose S m' w' (dropB ow fp) fp':=fun g hg=>⟨by
   rcases (q3 g hg).1 with h1|h1
   ·cases ho:dropB ow fp g with
    |none=>rfl
    |some t=>have:=hD.lt g t ho;omega
   ·exact (hloose g h1).1,by
   rcases (q3 g hg).1 with h1|h1
   ·exact .inl (Nat.le_trans h.pres.size h1)
   ·exact (hloose g h1).2.1,OvR.lt _ _ _ q1 g hg,(q3 g hg).2⟩
  have hA:=zEk wf hQ (.inl ⟨hr,rfl⟩) q1 q2 hl
  rw [List.set_set] at hA
  refine ⟨_,hK,m',β,zEt (dropB ow fp) fp' r,?_⟩
  cases d with
  |none=>
   have hn:o.dst=none:=by
    cases hh:o.dst with
    |none=>rfl
    |some x=>rw [hh] at hd;simp [zAG] at hd
   rw [hn]
   exact hA
  |some d=>
   obtain ⟨hd1,hd2⟩:=zAh hd
   rw [hd1]
   exact hA.slot wf hd2 trivial
 ·exact hW.elim
theorem zGc (wf:E.Wf) (h:InvG E S m β ow F a w) {ho:HOp} {o:Oper} (hk:zDi P E ho o.op o.dst=true) {K:List Ct→Prop} {X:Value→List Ct→Prop} {Q:Exit→Act→World→Prop}
  (hQ:∀ v F' a' w',X v F'→Inv E S F' a' w'→Q (.panic [{v,recovered:=false}]) a' w') (hW:opW P ho F K X):o.wp P a w (zEj E S K) Q:=by
 cases ho with
 |val d v=>
  simp only [zDi,Bool.and_eq_true] at hk
  exact yMl wf h hk.1 hk.2 hW.1 hW.2
 |call d f args=>
  simp only [zDi] at hk
  split at hk
  ·rename_i c ho
   simp only [Bool.and_eq_true] at hk
   obtain ⟨⟨h1,h2⟩,h3⟩:=hk
   split at h2
   ·rename_i g hc
    simp only [beq_iff_eq] at h2
    subst h2
    have hcall:zCs P g=true:=by obtain ⟨_,r,hcon,_⟩:=hW;exact hcon.1
    have:=zLO (a:=a) (w:=w) ho hc (f:=g) (us:=[]) rfl hcall
    refine yA9 wf h h1 h3 (extra:=[]) (us2:=[]) (by simp) rfl this hQ ?_
    simpa [opW] using hW
   ·cases h2
  ·cases hk
 |callg d f args=>
  simp only [zDi] at hk
  split at hk
  ·rename_i c ho
   simp only [Bool.and_eq_true] at hk
   obtain ⟨⟨h1,h2⟩,h3⟩:=hk
   split at h2
   ·rename_i g hc
    simp only [beq_iff_eq] at h2
    subst h2
    have hcall:zCs P g=true:=by obtain ⟨_,r,hcon,_⟩:=hW;exact hcon.1
    have:=zLO (a:=a) (w:=w) ho hc (f:=g) (us:=[]) rfl hcall
    refine yA9 wf h h1 h3 (extra:=[]) (us2:=[]) (by simp) rfl this hQ ?_
    simpa [opW] using hW
   ·cases h2
  ·cases hk
 |callv d x args=>
  simp only [zDi] at hk
  split at hk
  ·rename_i c ho
   simp only [Bool.and_eq_true] at hk
   obtain ⟨⟨⟨h1,h2⟩,h3⟩,h4⟩:=hk
   split at h2
   ·rename_i y hc
    simp only [opW] at hW
    split at hW
    ·rename_i f caps e1
     obtain ⟨n1,hW⟩:=hW
     obtain ⟨us,hv,hr⟩:=zAI h h2 n1 e1
     have hcall:zCs P f=true:=by obtain ⟨_,r,hcon,_⟩:=hW;exact hcon.1
     have:=zLO (w:=w) ho hc hv hcall
     refine yA9 wf h h1 h4 (extra:=caps.map fun c=>.val (.one c)) (us2:=us) ?_ (yDz hr) this hQ hW
     intro x hx
     obtain ⟨c,_,rfl⟩:=List.mem_map.1 hx
     exact ⟨_,rfl⟩
    ·exact hW.elim
   ·cases h2
  ·cases hk
 |mvo d x=>
  simp only [zDi,Bool.and_eq_true] at hk
  simp only [opW] at hW
  split at hW
  ·rename_i e k rows e1
   obtain ⟨h1,h2⟩:=hk
   split at h2
   ·rename_i y ho;exact yJq wf h h1 (.inl ho) h2 e1 hW.1 hW.2
   ·rename_i y ho;exact yJq wf h h1 (.inr ho) h2 e1 hW.1 hW.2
   ·cases h2
  ·exact hW.elim
 |nlo d e k=>
  simp only [zDi,Bool.and_eq_true] at hk
  obtain ⟨h1,h2⟩:=hk
  split at h2
  ·rename_i y ho;exact yJr wf h h1 (.inl ho) h2 hW
  ·rename_i y ho;exact yJr wf h h1 (.inr ho) h2 hW
  ·cases h2
 |ldo d x j base off e k=>
  simp only [zDi,Bool.and_eq_true] at hk
  obtain ⟨h1,h2⟩:=hk
  split at h2
  ·rename_i t y ho
   simp only [Bool.and_eq_true,beq_iff_eq] at h2
   obtain ⟨⟨h3,h4⟩,h5⟩:=h2
   simp only [opW] at hW
   split at hW
   ·rename_i j' off' e' k' rows e1 e2
    obtain ⟨rfl,rfl,rfl,rfl,hW⟩:=hW
    exact yMm wf h h1 ho h3 h4 h5 e1 e2 hW
   ·rename_i j' off' kk e1 e2
    obtain ⟨rfl,rfl,hW⟩:=hW
    exact yMp wf h h1 ho h3 h4 h5 e1 e2 hW
   ·exact hW.elim
  ·cases h2
 |sto x j base off n y=>
  simp only [zDi,Bool.and_eq_true] at hk
  obtain ⟨h1,h2⟩:=hk
  split at h2
  ·rename_i t x' y' ho
   simp only [Bool.and_eq_true,beq_iff_eq] at h2
   obtain ⟨⟨⟨h3,h4⟩,h5⟩,h6⟩:=h2
   simp only [opW] at hW
   split at hW
   ·rename_i j' off' p e1 e2
    obtain ⟨rfl,rfl,hn,hne,hW⟩:=hW
    exact yJs wf h (Option.isNone_iff_eq_none.1 h1) ho h3 h4 h5 h6 e1 e2 hn hne hW
   ·exact hW.elim
  ·cases h2
 |std x j base sz y=>
  simp only [zDi,Bool.and_eq_true] at hk
  obtain ⟨h1,h2⟩:=hk
  split at h2
  ·rename_i t x' y' ho
   simp only [Bool.and_eq_true,beq_iff_eq] at h2
   obtain ⟨⟨⟨h3,h4⟩,h5⟩,h6⟩:=h2
   simp only [opW] at hW
   split at hW
   ·rename_i j' off' p e1 e2
    obtain ⟨rfl,hlt,hn,hne,hW⟩:=hW
    have h5':zFl E j' base (off'+1)=true:=by
     unfold zFl at h5 ⊢
     split at h5
     ·simp only [Bool.and_eq_true,decide_eq_true_eq] at h5 ⊢
      exact ⟨h5.1,by omega⟩
     ·cases h5
    exact yJs wf h (Option.isNone_iff_eq_none.1 h1) ho h3 h4 h5' h6 e1 e2 hn hne hW
   ·exact hW.elim
  ·cases h2
 |stw x j base off y=>
  simp only [zDi,Bool.and_eq_true] at hk
  obtain ⟨h1,h2⟩:=hk
  split at h2
  ·rename_i t x' y' ho
   simp only [Bool.and_eq_true,beq_iff_eq] at h2
   obtain ⟨⟨⟨h3,h4⟩,h5⟩,h6⟩:=h2
   simp only [opW] at hW
   split at hW
   ·rename_i j' off' e k rows e1 e2
    obtain ⟨rfl,rfl,hW⟩:=hW
    exact yMn wf h (Option.isNone_iff_eq_none.1 h1) ho h3 h4 h5 h6 e1 e2 hW
   ·exact hW.elim
  ·cases h2
 |alloc d j base cells=>
  simp only [zDi,Bool.and_eq_true] at hk
  obtain ⟨⟨⟨h0,h1⟩,h2⟩,h3⟩:=hk
  split at h3
  ·rename_i t ho
   split at h3
   ·rename_i z hz
    exact yH1 wf h (of_decide_eq_true h0) h1 ho h2 hz h3 hW
   ·cases h3
  ·cases h3
 |box d j base n x=>
  simp only [zDi,Bool.and_eq_true] at hk
  obtain ⟨⟨⟨h0,h1⟩,h2⟩,h3⟩:=hk
  split at h3
  ·rename_i t y ho
   simp only [opW] at hW
   split at hW
   ·rename_i p e1
    obtain ⟨hn,hne,hW⟩:=hW
    exact yMo wf h (of_decide_eq_true h0) h1 ho h3 h2 e1 hn hne hW
   ·exact hW.elim
  ·cases h3
 |app d e k x y=>
  simp only [zDi,Bool.and_eq_true] at hk
  obtain ⟨h1,h2⟩:=hk
  split at h2
  ·rename_i c ho
   simp only [Bool.and_eq_true] at h2
   obtain ⟨h3,h4⟩:=h2
   obtain ⟨callee,args,argTypes⟩:=c
   simp only at h3 h4
   split at h4
   ·rename_i x' y' t t' e1 e2
    simp only [Bool.and_eq_true,beq_iff_eq] at h4
    obtain ⟨⟨⟨h5,h6⟩,rfl⟩,h7⟩:=h4
    have ha:args=#[x',y']:=Array.ext' e1
    have ht:argTypes=#[t,t]:=Array.ext' e2
    subst ha;subst ht
    have hcl:callee=.builtin .append:=by
     split at h3
     ·rfl
     ·cases h3
    subst hcl
    simp only [opW] at hW
    split at hW
    ·rename_i e' k' rows k'' rs e3 e4
     cases x with
     |t n=>
      obtain ⟨hne,rfl,rfl,rfl,hn2,hb,hW⟩:=hW
      exact yMq wf h h1 ho h5 h6 h7 e3 e4 hne hn2 hb hW
     |c p=>exact hW.1.elim
     |f n=>exact hW.1.elim
    ·exact hW.elim
   ·cases h4
  ·cases h2
 |bsl d e k parts=>
  simp only [zDi,Bool.and_eq_true] at hk
  obtain ⟨h1,h2⟩:=hk
  split at h2
  ·rename_i t n ps ho
   simp only [Bool.and_eq_true,beq_iff_eq,decide_eq_true_eq] at h2
   obtain ⟨⟨⟨h3,h4⟩,h5⟩,h6⟩:=h2
   exact yMt wf h h1 ho h3 h4 h5 h6 hW.1 hW.2
  ·cases h2
 |pan x=>
  simp only [opW] at hW
  split at hW
  ·rename_i ti u' e1
   obtain ⟨hne,hX⟩:=hW
   simp only [zDi] at hk
   split at hk
   ·rename_i c ho
    simp only [Bool.and_eq_true] at hk
    obtain ⟨h3,h4⟩:=hk
    obtain ⟨callee,args,argTypes⟩:=c
    simp only at h3 h4
    split at h4
    ·rename_i y e2
     have ha:args=#[y]:=Array.ext' e2
     subst ha
     have hcl:callee=.builtin .panic:=by
      split at h3
      ·rfl
      ·cases h3
     subst hcl
     exact yJx h (.inl ⟨_,ho⟩) h4 e1 hne (hQ _ _ _ _ hX ⟨m,β,ow,h⟩)
    ·cases h4
   ·rename_i y ho
    exact yJx h (.inr ho) hk e1 hne (hQ _ _ _ _ hX ⟨m,β,ow,h⟩)
   ·cases hk
  ·exact hW.elim
 |nlk d e k=>
  simp only [zDi,Bool.and_eq_true] at hk
  obtain ⟨h1,h2⟩:=hk
  split at h2
  ·rename_i y ho
   exact yJu wf h h1 (.inl ho) h2 hW
  ·rename_i y ho
   exact yJu wf h h1 (.inr ho) h2 hW
  ·cases h2
 |mvk d x=>
  simp only [zDi,Bool.and_eq_true] at hk
  obtain ⟨h1,h2⟩:=hk
  simp only [opW] at hW
  split at hW
  ·rename_i e k rows e1
   split at h2
   ·rename_i y ho
    exact yJv wf h h1 (.inl ho) h2 e1 hW.1 hW.2
   ·rename_i y ho
    exact yJv wf h h1 (.inr ho) h2 e1 hW.1 hW.2
   ·cases h2
  ·exact hW.elim
 |trk d x hi=>
  simp only [zDi,Bool.and_eq_true] at hk
  obtain ⟨h1,h2⟩:=hk
  split at h2
  ·rename_i t y lo' hi' mx ho
   simp only [Bool.and_eq_true,Option.isNone_iff_eq_none] at h2
   obtain ⟨⟨⟨⟨rfl,rfl⟩,h3⟩,h4⟩,h5⟩:=h2
   split at h5
   ·rename_i et he
    obtain ⟨sz,hsz⟩:=Option.isSome_iff_exists.1 h5
    simp only [opW] at hW
    split at hW
    ·rename_i e k rows ik n e1 e2
     obtain ⟨hne,hnd,h6,h7,hW⟩:=hW
     exact yMr wf h h1 ho h3 h4 he hsz e1 e2 hne hnd h6 h7 hW
    ·exact hW.elim
   ·cases h5
  ·cases h2
 |apk d e k x y=>
  simp only [zDi,Bool.and_eq_true] at hk
  obtain ⟨h1,h2⟩:=hk
  split at h2
  ·rename_i c ho
   simp only [Bool.and_eq_true] at h2
   obtain ⟨h3,h4⟩:=h2
   obtain ⟨callee,args,argTypes⟩:=c
   simp only at h3 h4
   split at h4
   ·rename_i x' y' t t' e1 e2
    simp only [Bool.and_eq_true,beq_iff_eq] at h4
    obtain ⟨⟨⟨h5,h6⟩,rfl⟩,h7⟩:=h4
    have ha:args=#[x',y']:=Array.ext' e1
    have ht:argTypes=#[t,t]:=Array.ext' e2
    subst ha;subst ht
    have hcl:callee=.builtin .append:=by
     split at h3
     ·rfl
     ·cases h3
    subst hcl
    simp only [opW] at hW
    split at hW
    ·rename_i e' k' rows k'' rs e3 e4
     obtain ⟨hne,rfl,rfl,rfl,hn2,hb,hW⟩:=hW
     exact yMs wf h h1 ho h5 h6 h7 e3 e4 hne hn2 hb hW
    ·exact hW.elim
   ·cases h4
  ·cases h2
 |vnl d e k=>
  simp only [zDi,Bool.and_eq_true] at hk
  obtain ⟨h1,h2⟩:=hk
  split at h2
  ·rename_i y ho;exact yJy wf h h1 (.inl ho) h2 hW
  ·rename_i y ho;exact yJy wf h h1 (.inr ho) h2 hW
  ·cases h2
 |vmv d x=>
  simp only [zDi,Bool.and_eq_true] at hk
  obtain ⟨h1,h2⟩:=hk
  simp only [opW] at hW
  split at hW
  ·rename_i v e1
   split at h2
   ·rename_i y ho;exact yJz wf h h1 (.inl ho) h2 e1 hW.2
   ·rename_i y ho;exact yJz wf h h1 (.inr ho) h2 e1 hW.2
   ·cases h2
  ·exact hW.elim
 |vap d e k x y=>
  simp only [zDi,Bool.and_eq_true] at hk
  obtain ⟨h1,h2⟩:=hk
  split at h2
  ·rename_i c ho
   simp only [Bool.and_eq_true] at h2
   obtain ⟨h3,h4⟩:=h2
   obtain ⟨callee,args,argTypes⟩:=c
   simp only at h3 h4
   split at h4
   ·rename_i x' y' t t' e1 e2
    simp only [Bool.and_eq_true,beq_iff_eq] at h4
    obtain ⟨⟨⟨h5,h6⟩,rfl⟩,h7⟩:=h4
    have ha:args=#[x',y']:=Array.ext' e1
    have ht:argTypes=#[t,t]:=Array.ext' e2
    subst ha;subst ht
    have hcl:callee=.builtin .append:=by
     split at h3
     ·rfl
     ·cases h3
    subst hcl
    simp only [opW] at hW
    split at hW
    ·rename_i pb e' k' rows e3
     obtain ⟨hne,rfl,rfl,hs,hb,hW⟩:=hW
     exact yMz wf h h1 ho h5 h6 h7 e3 hne hs hb hW
    ·exact hW.elim
   ·cases h4
  ·cases h2
 |vbs d e k x=>
  simp only [zDi,Bool.and_eq_true] at hk
  obtain ⟨h1,h2⟩:=hk
  split at h2
  ·rename_i t n ps ho
   simp only [Bool.and_eq_true,beq_iff_eq,decide_eq_true_eq] at h2
   obtain ⟨⟨⟨h3,h4⟩,h5⟩,h6⟩:=h2
   simp only [opW] at hW
   split at hW
   ·rename_i v e1
    exact yMx wf h h1 ho h3 h4 h5 h6 e1 hW.1 hW.2
   ·exact hW.elim
  ·cases h2
 |vbe d zs parts off n y=>
  simp only [zDi,Bool.and_eq_true] at hk
  obtain ⟨h1,h2⟩:=hk
  split at h2
  ·rename_i t ps ho
   simp only [Bool.and_eq_true] at h2
   obtain ⟨⟨h3,h4⟩,h5⟩:=h2
   split at h3
   ·rename_i z hz
    simp only [opW] at hW
    exact yMy wf h h1 ho h4 hz h3 h5 hW.1 hW.2.1 hW.2.2.1 hW.2.2.2.1 hW.2.2.2.2.1 hW.2.2.2.2.2
   ·cases h3
  ·cases h2
 |vby d j base n x=>
  simp only [zDi,Bool.and_eq_true] at hk
  obtain ⟨⟨⟨⟨h0,h1⟩,h2⟩,h4⟩,h3⟩:=hk
  split at h3
  ·rename_i t y ho
   simp only [opW] at hW
   split at hW
   ·rename_i v e1
    obtain ⟨hn,hu,hW⟩:=hW
    have hxN:=(zBK h3).2
    have hlo:=wf.lo j _ (zDW h2)
    refine yH2 wf (h.forget wf hxN (c:=.un) (fun _ _=>trivial)) (zAh h1).2 (zDW h2) (of_decide_eq_true h4) ?_ (by simpa using hn) hW fun K' hK'=>yMA wf h (of_decide_eq_true h0) h1 ho h3 h2 e1 hn hK'
    simp only at hlo
    rw [zBc,if_neg (by omega)]
    exact hu
   ·exact hW.elim
  ·cases h3
 |vle d x r j base pt n agg=>
  simp only [zDi,Bool.and_eq_true] at hk
  obtain ⟨⟨⟨h1,h2⟩,_⟩,h3⟩:=hk
  split at h3
  ·rename_i t y ho
   simp only [Bool.and_eq_true,beq_iff_eq,Bool.or_eq_true] at h3
   exact yMv wf h h1 h2 ho h3.1.1.1 h3.1.1.2 h3.1.2 h3.2 hW
  ·cases h3
 |vlp d x r j base pt n agg=>
  simp only [zDi,Bool.and_eq_true] at hk
  obtain ⟨⟨⟨h1,h2⟩,_⟩,h3⟩:=hk
  split at h3
  ·rename_i t y ho
   simp only [Bool.and_eq_true,beq_iff_eq,Bool.or_eq_true] at h3
   exact yMu wf h h1 h2 ho h3.1.1.1 h3.1.1.2 h3.1.2 h3.2 hW
  ·cases h3
 |vse x r j base pt n y=>
  simp only [zDi,Bool.and_eq_true] at hk
  obtain ⟨⟨⟨h1,h2⟩,_⟩,h3⟩:=hk
  split at h3
  ·rename_i t x' y' ho
   simp only [Bool.and_eq_true,beq_iff_eq] at h3
   exact yMw wf h (Option.isNone_iff_eq_none.1 h1) h2 ho h3.1.1 h3.1.2 h3.2 hW
  ·cases h3
 |mmk d=>
  simp only [zDi,Bool.and_eq_true] at hk
  obtain ⟨h1,h2⟩:=hk
  split at h2
  ·rename_i t r ho
   have hr:r=none:=Option.isNone_iff_eq_none.1 h2
   subst hr
   exact yMB wf h h1 ho hW
  ·cases h2
 |mps x r kk k y=>
  simp only [zDi,Bool.and_eq_true,decide_eq_true_eq] at hk
  obtain ⟨⟨h1,h0⟩,h2⟩:=hk
  split at h2
  ·rename_i t m' k' y' ho
   simp only [Bool.and_eq_true] at h2
   exact yJC wf h (Option.isNone_iff_eq_none.1 h1) h0 (.inl ho) h2.1.1.1 h2.1.1.2 h2.1.2 h2.2 hW
  ·rename_i t m' k' y' ho
   simp only [Bool.and_eq_true] at h2
   exact yJC wf h (Option.isNone_iff_eq_none.1 h1) h0 (.inr ho) h2.1.1.1 h2.1.1.2 h2.1.2 h2.2 hW
  ·cases h2
 |mpl d x r kk k z ok=>
  simp only [zDi,Bool.and_eq_true,decide_eq_true_eq] at hk
  obtain ⟨⟨h1,h0⟩,h2⟩:=hk
  split at h2
  ·rename_i t m' k' ok' ho
   simp only [Bool.and_eq_true,beq_iff_eq] at h2
   obtain ⟨⟨⟨⟨rfl,h3⟩,h4⟩,h5⟩,h6⟩:=h2
   exact yMC wf h h1 h0 ho h3 h4 h5 h6 hW
  ·cases h2
 |mpv d x r kk k e kw=>
  simp only [zDi,Bool.and_eq_true,decide_eq_true_eq] at hk
  obtain ⟨⟨h1,h0⟩,h2⟩:=hk
  split at h2
  ·rename_i t m' k' ok' ho
   simp only [Bool.and_eq_true,Bool.not_eq_true'] at h2
   obtain ⟨⟨⟨⟨rfl,h3⟩,h4⟩,h5⟩,h6⟩:=h2
   exact yMD wf h h1 h0 ho h3 h4 h5 h6 hW
  ·cases h2
 |mrg d x r=>
  simp only [zDi,Bool.and_eq_true,decide_eq_true_eq] at hk
  obtain ⟨⟨h1,h0⟩,h2⟩:=hk
  split at h2
  ·rename_i t y ho
   simp only [Bool.and_eq_true] at h2
   obtain ⟨h3,h4⟩:=h2
   split at h4
   ·rename_i kt et hu
    exact yMF wf h h1 h0 ho h3 hu hW
   ·cases h4
  ·cases h2
 |mnx d it r=>
  simp only [zDi,Bool.and_eq_true,decide_eq_true_eq] at hk
  obtain ⟨⟨h1,h0⟩,h2⟩:=hk
  split at h2
  ·rename_i y s ho
   simp only [Bool.and_eq_true,Bool.not_eq_true'] at h2
   obtain ⟨rfl,h3⟩:=h2
   exact yMH wf h h1 h0 ho h3 hW
  ·cases h2
 |men d it r=>
  simp only [zDi,Bool.and_eq_true,decide_eq_true_eq] at hk
  obtain ⟨⟨h1,h0⟩,h2⟩:=hk
  split at h2
  ·rename_i y ho
   exact yMG wf h h1 h0 ho h2 hW
  ·cases h2
 |cpy d e k r x y=>
  simp only [zDi,Bool.and_eq_true,decide_eq_true_eq] at hk
  obtain ⟨⟨h1,h0⟩,h2⟩:=hk
  split at h2
  ·rename_i c ho
   simp only [Bool.and_eq_true] at h2
   obtain ⟨h3,h4⟩:=h2
   split at h4
   ·rename_i x' y' t t' hargs hts
    simp only [Bool.and_eq_true,beq_iff_eq] at h4
    have hc:c.callee=.builtin .copy:=by
     split at h3
     ·assumption
     ·cases h3
    exact yMI wf h h1 h0 ho hc hargs hts h4.1.1.1 h4.1.1.2 h4.1.2 h4.2 hW
   ·cases h4
  ·cases h2
 |cals d f r x args=>
  simp only [zDi,Bool.and_eq_true,decide_eq_true_eq] at hk
  obtain ⟨⟨⟨h1,h9⟩,h0⟩,h2⟩:=hk
  split at h2
  ·rename_i c ho
   simp only [Bool.and_eq_true] at h2
   obtain ⟨h3,h4⟩:=h2
   split at h4
   ·rename_i y ys hargs
    simp only [Bool.and_eq_true] at h4
    have hc:c.callee=.value (.func f):=by
     split at h3
     ·rename_i g hg
      rw [hg,show g=f by simpa using h3]
     ·cases h3
    exact yKi wf h h1 h0 ho hc hargs h4.1 h4.2 hW
   ·cases h4
  ·cases h2
 |vow d v off e k=>
  simp only [zDi,Bool.and_eq_true] at hk
  obtain ⟨g1,g2,g3⟩:=hW
  exact yMJ wf h hk.1 hk.2 g1 g2 g3
 |mkc d f caps=>
  simp only [zDi,Bool.and_eq_true] at hk
  obtain ⟨h1,h2⟩:=hk
  split at h2
  ·rename_i g first captured ho
   simp only [Bool.and_eq_true,beq_iff_eq] at h2
   obtain ⟨⟨rfl,h3⟩,h4⟩:=h2
   exact yMK wf h h1 ho h3 h4 hW.1 hW.2
  ·cases h2
 |clc d x bxs args=>
  simp only [zDi,Bool.and_eq_true] at hk
  obtain ⟨⟨⟨h1,_⟩,h5⟩,h2⟩:=hk
  split at h2
  ·rename_i c ho
   simp only [Bool.and_eq_true] at h2
   obtain ⟨h3,h4⟩:=h2
   split at h3
   ·rename_i y hc
    simp only [opW] at hW
    split at hW
    ·rename_i f caps hx
     obtain ⟨g1,hW⟩:=hW
     split at hW
     ·rename_i cas hcas
      obtain ⟨io',g2,g3⟩:=hW
      exact yML wf h h1 ho hc h3 h4 h5 hx g1 hcas g2 g3
     ·exact hW.elim
    ·exact hW.elim
   ·cases h3
  ·cases h2
 |vmk d e k zs x=>
  simp only [zDi,Bool.and_eq_true] at hk
  obtain ⟨h1,h2⟩:=hk
  split at h2
  ·rename_i t l c ho
   simp only [Bool.and_eq_true] at h2
   exact yME wf h h1 ho h2.1.1.1 h2.1.1.2 h2.1.2 h2.2 hW
  ·cases h2
 |isn d ng x=>
  simp only [zDi,Bool.and_eq_true] at hk
  obtain ⟨h1,h2⟩:=hk
  split at h2
  ·rename_i op' t x' t' ho
   simp only [Bool.and_eq_true,decide_eq_true_eq] at h2
   obtain ⟨⟨h3,h4⟩,h5⟩:=h2
   simp only [opW] at hW
   split at hW
   ·rename_i k rows e1
    exact yJw wf h h1 ho h3 h4 h5 (.inl e1) hW.1 fun b hb _=>hW.2 b hb
   ·rename_i k e1
    exact yJw wf h h1 ho h3 h4 h5 (.inr ⟨e1,rfl⟩) hW.1 fun b _ hb=>by rw [hb e1];simpa using hW.2
   ·exact hW.elim
  ·cases h2
def yEv (P:Program) (E:Env) (ops:Array Oper) (h:HO) (o:Oper):Bool:=
 zDi P E h.op o.op o.dst&&(match h.g,o.guard with
  |none,none=>true
  |some (s,b),some (j,b')=>b==b'&&((ops[j]?).bind (·.dst))==some s&&decide (s < E.N)&&(match h.op with|.val _ _=>true|.call (some _) _ args=>yHZ args|.callv (some _) _ args=>yHZ args|.vlp _ _ _ _ _ _ _ _=>true|.callg _ _ _=>true|_=>false)
  |_,_=>false)
theorem zQa (h:InvG E S m β ow F a w) {ops:Array Oper} {o:Oper} {s j:Nat} {pol:Bool} (hg:o.guard=some (j,pol)) (hj:(ops[j]?).bind (·.dst)=some s) (hs:s < E.N) {T:Bool} (hT:zDL F (s,pol)=some T):Region.wanted o (yielded ops a.tmps)=T:=by
 have hslot:=h.slots s hs
 have hsz:s < a.tmps.size:=by rw [h.lenA];exact hs
 have hget:a.tmps[s]?=some (a.tmps.getD s undef):=zLK hsz
 unfold zDL at hT
 simp only at hT
 unfold Region.wanted yielded
 rw [hg]
 simp only [hj,Option.bind_some,hget]
 split at hT
 ·rename_i t e1
  rw [e1] at hslot
  have hv:a.tmps.getD s undef=.bool t:=hslot.1
  rw [hv]
  simp only [Option.some.injEq] at hT
  rw [←hT]
  cases t<;>cases pol<;>rfl
 ·rename_i t1 t e1
  rw [e1] at hslot
  simp only [Option.some.injEq] at hT
  rw [←hT]
  cases t1 with
  |true=>
   have hv:a.tmps.getD s undef=.bool t:=(hslot.1 rfl).1
   rw [hv]
   cases t<;>cases pol<;>rfl
  |false=>
   have hv:=hslot.2 rfl
   rw [hv]
   rfl
 ·cases hT
theorem yDH (wf:E.Wf) (h:InvG E S m β ow F a w) {ops:Array Oper} {i:Nat} {ho:HO} {o:Oper} (hi:ops[i]?=some o) (hk:yEv P E ops ho o=true) {K:List Ct→Prop} {X:Value→List Ct→Prop} {Q:Exit→Act→World→Prop}
  (hQ:∀ v F' a' w',X v F'→Inv E S F' a' w'→Q (.panic [{v,recovered:=false}]) a' w') (hW:hoW P ho F K X):wpOp P ops Q i (zEj E S K) a w:=by
 unfold wpOp
 rw [hi]
 simp only
 obtain ⟨g,op⟩:=ho
 simp only [yEv,Bool.and_eq_true] at hk
 obtain ⟨hk1,hk2⟩:=hk
 cases g with
 |none=>
  have hgn:o.guard=none:=by
   cases hg:o.guard with
   |none=>rfl
   |some x=>rw [hg] at hk2;cases hk2
  have hw:Region.wanted o (yielded ops a.tmps)=true:=by simp [Region.wanted,hgn]
  rw [if_pos hw]
  exact .inl (zGc wf h hk1 hQ hW)
 |some sp=>
  obtain ⟨s,pol⟩:=sp
  cases hg:o.guard with
  |none=>rw [hg] at hk2;cases hk2
  |some jb=>
   obtain ⟨j,b'⟩:=jb
   rw [hg] at hk2
   simp only [Bool.and_eq_true,beq_iff_eq,decide_eq_true_eq] at hk2
   obtain ⟨⟨⟨rfl,hj⟩,hs⟩,hop⟩:=hk2
   simp only [hoW] at hW
   split at hW
   ·exact hW.elim
   ·rename_i T hT
    rw [zQa h hg hj hs hT]
    have hskip:∀ (d:Nat) (x:PVal),o.dst=some d→d < E.N→T=false→K (F.set d (.gd T x))→zEj E S K (a.put o.dst undef) w:=by
     intro d x hd hdN hTf hK
     subst hTf
     refine ⟨_,hK,m,β,ow,?_⟩
     rw [hd]
     exact h.slot wf hdN ⟨fun h'=>(by cases h'),fun _=>rfl⟩
    cases op with
    |val d v=>
     simp only at hW
     simp only [zDi,Bool.and_eq_true] at hk1
     obtain ⟨hd1,hd2⟩:=zAh hk1.1
     split at hW
     ·rename_i x e1
      obtain ⟨hc,hK⟩:=hW
      cases hTT:T with
      |true=>
       subst hTT
       rw [if_pos rfl]
       exact .inl (yKd wf h hk1.1 hk1.2 e1 (hc rfl) hK)
      |false=>
       rw [if_neg (by simp)]
       exact hskip d x hd1 hd2 hTT hK
     ·split at hW
      ·rw [if_pos rfl]
       exact .inl (zGc (ho:=.val d v) wf h (by simp only [zDi,Bool.and_eq_true];exact hk1) (X:=X) hQ hW)
      ·rw [if_neg (by simp)]
       exact hskip d (bv false) hd1 hd2 rfl hW
    |call d f args=>
     cases d with
     |none=>simp at hop
     |some d=>
      simp only at hW hop
      obtain ⟨hc,x,hcon,hK⟩:=hW
      have hk1':=hk1
      simp only [zDi] at hk1'
      split at hk1'
      ·rename_i c hoc
       simp only [Bool.and_eq_true] at hk1'
       obtain ⟨hd1,hd2⟩:=zAh hk1'.1.1
       cases hTT:T with
       |true=>
        subst hTT
        rw [if_pos rfl]
        left
        have hown:=zVw hop
        refine Oper.wp_mono (K:=zEj E S (fun F'=>F'=F.set d (.pv x))) ?_ (zGc wf h hk1 (X:=X) hQ ?_)
        ·rintro a' w' ⟨F',rfl,m',β',ow',h'⟩
         refine ⟨_,hK,m',β',ow',?_⟩
         have hdL:d < F.length:=by rw [h.lenF];exact Nat.lt_of_lt_of_le hd2 wf.le
         have h2:=h'.forget wf hd2 (c:=.gd true x) (fun u hu=>by
          rw [zAz hdL,if_pos rfl] at hu
          exact ⟨fun _=>hu,fun h''=>(by cases h'')⟩)
         rwa [List.set_set] at h2
        ·simp only [opW,zOE]
         refine ⟨hc rfl,_,hcon rfl,?_⟩
         simp only [yDv,zSC,yNQ,zAF,hown.1,hown.2,zDQ,zHW]
       |false=>
        rw [if_neg (by simp)]
        exact hskip d x hd1 hd2 hTT hK
      ·cases hk1'
    |callv d y args=>
     cases d with
     |none=>simp at hop
     |some d=>
      simp only at hW hop
      split at hW
      ·rename_i f caps e1
       obtain ⟨hc,x,hcon,hK⟩:=hW
       have hk1':=hk1
       simp only [zDi] at hk1'
       split at hk1'
       ·rename_i c hoc
        simp only [Bool.and_eq_true] at hk1'
        obtain ⟨hd1,hd2⟩:=zAh hk1'.1.1.1
        cases hTT:T with
        |true=>
         subst hTT
         rw [if_pos rfl]
         left
         have hown:=zVw hop
         refine Oper.wp_mono (K:=zEj E S (fun F'=>F'=F.set d (.pv x))) ?_ (zGc wf h hk1 (X:=X) hQ ?_)
         ·rintro a' w' ⟨F',rfl,m',β',ow',h'⟩
          refine ⟨_,hK,m',β',ow',?_⟩
          have hdL:d < F.length:=by rw [h.lenF];exact Nat.lt_of_lt_of_le hd2 wf.le
          have h2:=h'.forget wf hd2 (c:=.gd true x) (fun u hu=>by
           rw [zAz hdL,if_pos rfl] at hu
           exact ⟨fun _=>hu,fun h''=>(by cases h'')⟩)
          rwa [List.set_set] at h2
         ·simp only [opW,e1,zOE]
          refine ⟨(hc rfl).1,(hc rfl).2,_,hcon rfl,?_⟩
          simp only [yDv,zSC,yNQ,zAF,hown.1,hown.2,zDQ,zHW]
        |false=>
         rw [if_neg (by simp)]
         exact hskip d x hd1 hd2 hTT hK
       ·cases hk1'
      ·exact hW.elim
    |callg d f args=>
     simp only at hW
     cases hTT:T with
     |true=>
      subst hTT
      rw [if_pos rfl]
      exact .inl (zGc (ho:=.callg d f args) wf h hk1 (X:=X) hQ hW)
     |false=>
      subst hTT
      rw [if_neg (by simp)]
      simp only [zDi] at hk1
      split at hk1
      ·simp only [Bool.and_eq_true] at hk1
       obtain ⟨hd1,hd2⟩:=zAh hk1.1.1
       exact hskip d (bv false) hd1 hd2 rfl hW
      ·cases hk1
    |vlp d x r j' base pt n agg=>
     simp only at hW
     cases hTT:T with
     |true=>
      subst hTT
      rw [if_pos rfl]
      exact .inl (zGc (ho:=.vlp d x r j' base pt n agg) wf h hk1 (X:=X) hQ hW)
     |false=>
      subst hTT
      rw [if_neg (by simp)]
      simp only [zDi,Bool.and_eq_true] at hk1
      obtain ⟨hd1,hd2⟩:=zAh hk1.1.1.1
      exact hskip d (bv false) hd1 hd2 rfl hW
    |_=>simp at hop
def zGd (P:Program) (E:Env) (ops:Array Oper):List HO→List Oper→Bool
 |[],[]=>true
 |h::hs,o::os=>yEv P E ops h o&&zGd P E ops hs os
 |_,_=>false
theorem zQb (wf:E.Wf) {ops:Array Oper} {K:List Ct→Prop} {X:Value→List Ct→Prop} {Q:Exit→Act→World→Prop}
  (hQ:∀ v F' a' w',X v F'→Inv E S F' a' w'→Q (.panic [{v,recovered:=false}]) a' w') (hN:∀ F' a' w',K F'→Inv E S F' a' w'→Q .normal a' w'):
  ∀ (hs:List HO) (os:List Oper) (k:Nat),(∀ i o,os[i]?=some o→ops[k+i]?=some o)→zGd P E ops hs os=true→∀ (F:List Ct) (a:Act) (w:World),Inv E S F a w→yMk P hs F K X→wpOps P ops Q (List.range' k os.length) a w
 |[],[],k,_,_,F,a,w,hI,hW=>hN F a w hW hI
 |[],_::_,_,_,hk,_,_,_,_,_=>by simp [zGd] at hk
 |_::_,[],_,_,hk,_,_,_,_,_=>by simp [zGd] at hk
 |h::hs,o::os,k,hi,hk,F,a,w,hI,hW=>by
  simp only [zGd,Bool.and_eq_true] at hk
  obtain ⟨m,β,ow,hG⟩:=hI
  have h0:ops[k]?=some o:=by simpa using hi 0 o rfl
  simp only [List.length_cons,List.range'_succ]
  rw [wpOps_cons]
  refine wpOp_mono ?_ (yDH wf hG h0 hk.1 hQ hW)
  rintro a' w' ⟨F',hK',hI'⟩
  exact zQb wf hQ hN hs os (k+1) (fun i o' ho'=>by
   have:=hi (i+1) o' (by simpa using ho')
   rw [show k+1+i=k+(i+1) by omega];exact this) hk.2 F' a' w' hI' hK'
end
end Go.Hx
end
