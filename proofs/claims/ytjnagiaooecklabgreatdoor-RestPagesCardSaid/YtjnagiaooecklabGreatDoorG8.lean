/-
  Walks of functions of the program over an abstract layer, and the laws that they use: each contract says what the function computes, for every input that its conditions let by. No other condition.
-/
import Derived.Test.YtjnagiaooecklabGreatDoorG7
import Derived.Maps.RangeRun
set_option linter.all false
section
namespace Go.Hx
open Go.RowKit
variable [Glob]
section
variable {P:Program} {E:Env} {S:Start} {m:Mem} {β:Bx} {ow:Ow} {F:List Ct} {a:Act} {w:World}
theorem InvG.drewn (h:InvG E S m β ow F a w):InvG E S m β ow F a w.drew:=
 h.quiet ⟨m.le_refl,fun b x u hu=>h.mem b x u hu,fun _ _ _=>rfl,fun _ _ _ _=>rfl,fun _ _ _ hu=>.inl hu,Pres.drew _ w⟩
theorem yV2 (wf:E.Wf) (h:InvG E S m β ow F a w) {d r:Nat} {x:Opd} {o:Oper} (hd:zAY E.N (some d) o.dst=true) (hr:r < E.N) {t kt et:TypeId} {x':Operand} (ho:o.op=.range t x') (hx:zAk E.N x x'=true) (hu:P.underlying t=some (.map kt et))
  {K:List Ct→Prop} {X:Value→List Ct→Prop} {Q:Exit→Act→World→Prop} (hW:opW P (.mrg d x r) F K X):o.wp P a w (zFb E S K) Q:=by
 obtain ⟨hd1,hd2⟩:=zAp hd
 simp only [opW] at hW
 split at hW
 ·rename_i b b' ks vs e1 e2
  obtain ⟨rfl,hK⟩:=hW
  have he:=yBj h hx e1
  have hs:=h.slots r hr
  rw [e2] at hs
  obtain ⟨fp,g1,g2,g3⟩:=hs
  have g1':OvR m w (.mp b' ks vs) (a.tmps.getD r undef) fp:=g1
  simp only [OvR] at g1'
  obtain ⟨us,f,q1,q2,q3,q4,rfl,q5⟩:=g1'
  have hre:(execOp a.eval o).run P w=.ok (.value (.pointer (some ⟨w.heap.size,0,none⟩))) (w.alloc (.mapIter (some b') ks.length #[] ks.length)):=by
   unfold execOp;rw [ho]
   simp only [Sem.run_bind,he,run_range_map w t kt et b' _ _ hu q2,Result.andThen_ok,Sem.run_pure]
  have hw:=h.allocd (.mapIter (some b') ks.length #[] ks.length)
  have hfr:=h.fresh
  refine zAP hre ⟨_,hK,?_⟩
  rw [hd1]
  refine zFQ wf hw hd2 (x:=.one (.it b' ks.length [])) (fp:=[w.heap.size]) ?_ (by simp) fun g hg=>?_
  ·simp only [OvV,OvR]
   exact ⟨w.heap.size,rfl,zTn w _,rfl,by simp⟩
  ·obtain rfl:=List.mem_singleton.1 hg
   exact ⟨hfr.1,.inl h.pres.size,(Array.getElem?_eq_some_iff.1 (zTn w (.mapIter (some b') ks.length #[] ks.length))).1,hfr.2⟩
 ·exact hW.elim
theorem zOE:∀ {xs:List OV} {ys:List PV} {us:List Value} {fp:List Nat},zFO xs=some ys→OvL m w xs us fp→∀ i,i < xs.length→Rp m (ys.getD i (.nl 0)) (us.getD i default)
 |[],ys,us,fp,_,_,i,hi=>absurd hi (Nat.not_lt_zero _)
 |x::xs,ys,us,fp,h,hv,i,hi=>by
  cases x with
  |p y=>
   simp only [zFO] at h
   split at h
   ·rename_i zs e
    injection h with h
    subst h
    simp only [OvL,OvR] at hv
    obtain ⟨u,us',f1,f2,rfl,rfl,⟨rfl,h3⟩,h4⟩:=hv
    cases i with
    |zero=>exact h3
    |succ i=>exact zOE e h4 i (by simpa using hi)
   ·cases h
  |_=>simp [zFO] at h
theorem yLV:∀ {l:List Value},l.all zFI=true→RpL m (l.map .v) l
 |[],_=>by simp [RpL]
 |x::l,h=>by
  simp only [List.all_cons,Bool.and_eq_true] at h
  simp only [List.map_cons,RpL]
  exact ⟨x,l,rfl,by simp only [Rp];exact ⟨trivial,h.1⟩,yLV h.2⟩
theorem yLW {k:Value} (hf:zIK k=true):RpV m (yNa k) k:=by
 cases k with
 |agg cs=>exact ⟨cs.toList,rfl,yLV hf⟩
 |_=>exact ⟨rfl,hf⟩
theorem ySN (h:InvG E S m β ow F a w) {it r b b' n:Nat} {seen:List Nat} {ks:List Value} {vs:List OV} (hi:it < E.N) (hr:r < E.N) (e1:F.getD it .un=.ov (.one (.it b n seen))) (e2:F.getD r .un=.ov (.one (.mp b' ks vs))):
  ∃ g us f,a.tmps.getD it undef=.pointer (some ⟨g,0,none⟩)∧w.heap[g]?=some (.mapIter (some b) n seen.toArray n)∧(∀ i∈seen,i < n)∧ow g=some (.key it)∧(∀ o,m g o=none)∧
   w.heap[b']?=some (.map (zBc ks us) ks.length)∧us.length=ks.length∧OvL m w vs us f∧∀ q∈ks,zIK q=true:=by
 have hs:=h.slots it hi
 rw [e1] at hs
 obtain ⟨fp,g1,g2,g3⟩:=hs
 have g1':OvR m w (.it b n seen) (a.tmps.getD it undef) fp:=g1
 simp only [OvR] at g1'
 obtain ⟨g,p1,p2,rfl,p4⟩:=g1'
 have hs:=h.slots r hr
 rw [e2] at hs
 obtain ⟨fp,k1,k2,k3⟩:=hs
 have k1':OvR m w (.mp b' ks vs) (a.tmps.getD r undef) fp:=k1
 simp only [OvR] at k1'
 obtain ⟨us,f,q1,q2,q3,q4,rfl,q5⟩:=k1'
 exact ⟨g,us,f,p1,p2,p4,(g3 g (by simp)).1,(g3 g (by simp)).2,q2,q3,q4,q5⟩
theorem zT4 {ks us:List Value} (h:us.length=ks.length) {e:MapEntry} (he:e∈(zBc ks us).toList):∃ i,i < ks.length∧e={key:=ks.getD i default,val:=us.getD i default,born:=i}:=by
 obtain ⟨i,hi,rfl⟩:=List.mem_iff_getElem.1 he
 have hs:=zIN h
 rw [Array.length_toList] at hi
 refine ⟨i,by omega,?_⟩
 have:=zEP h (i:=i) (by omega)
 rw [Array.getElem?_eq_getElem hi] at this
 rw [Array.getElem_toList];exact Option.some.inj this
theorem yBl {ks us:List Value} (h:us.length=ks.length) {i:Nat} (hi:i < ks.length):({key:=ks.getD i default,val:=us.getD i default,born:=i}:MapEntry)∈(zBc ks us).toList:=by
 have:=zEP h hi
 exact Array.mem_toList_iff.2 (Array.mem_of_getElem? this)
theorem yLX {ks:List Value} {i:Nat} (h:i < ks.length) (a b:Value):ks.getD i a=ks.getD i b:=by
 rw [List.getD_eq_getElem?_getD,List.getD_eq_getElem?_getD,List.getElem?_eq_getElem h];rfl
theorem yV3 (wf:E.Wf) (h:InvG E S m β ow F a w) {d it r:Nat} {o:Oper} (hd:zAY E.N (some d) o.dst=true) (hr:r < E.N) {y:Operand} (ho:o.op=.entry y) (hx:zAk E.N (.t it) y=true)
  {K:List Ct→Prop} {X:Value→List Ct→Prop} {Q:Exit→Act→World→Prop} (hW:opW P (.men d it r) F K X):o.wp P a w (zFb E S K) Q:=by
 obtain ⟨hd1,hd2⟩:=zAp hd
 obtain ⟨rfl,hi⟩:=zBL hx
 simp only [opW] at hW
 split at hW
 ·rename_i b n seen b' ks vs e1 e2
  split at hW
  ·rename_i ys i hys hl
   obtain ⟨rfl,rfl,hK⟩:=hW
   obtain ⟨g,us,f,p1,p2,p4,p5,p6,q2,q3,q4,q5⟩:=ySN h hi hr e1 e2
   obtain ⟨s0,rfl⟩:∃ s0,seen=s0++[i]:=by
    have hne:seen≠[]:=by rintro rfl;simp at hl
    refine ⟨seen.dropLast,?_⟩
    rw [List.getLast?_eq_some_getLast hne,Option.some.injEq] at hl
    rw [←hl,List.dropLast_concat_getLast]
   have hin:i < ks.length:=p4 i (by simp)
   have hp:(s0++[i]).toArray=s0.toArray.push i:=by simp
   rw [hp] at p2
   have hnd:((zBc ks us).toList.map (·.born)).Nodup:=by
    have:(zBc ks us).toList.map (·.born)=List.range ks.length:=by
     apply List.ext_getElem?
     intro j
     rw [List.getElem?_map,Array.getElem?_toList]
     by_cases hj:j < ks.length
     ·rw [zEP q3 hj,List.getElem?_range hj];rfl
     ·rw [Array.getElem?_eq_none (by rw [zIN q3];omega),List.getElem?_eq_none (by simp;omega)];rfl
    rw [this];exact List.nodup_range
   have hrun:=run_entry_at (P:=P) w g b' ks.length s0.toArray (zBc ks us) ks.length _ p2 q2 (yBl q3 hin) hnd
   have hre:(execOp a.eval o).run P w=.ok (.value (.tuple #[ks.getD i default,us.getD i default])) w:=by
    unfold execOp;rw [ho]
    have:a.eval (.tmp it)=.pointer (some ⟨g,0,none⟩):=p1
    simp only [Sem.run_bind,this,hrun,Result.andThen_ok,Sem.run_pure]
   refine zAP hre ⟨_,hK,m,β,ow,?_⟩
   rw [hd1]
   refine h.slot wf hd2 ?_
   rw [yLX hin .nilIface default]
   have hkf:zIK (ks.getD i default)=true:=by
    rw [List.getD_eq_getElem?_getD,List.getElem?_eq_getElem hin]
    exact q5 _ (List.getElem_mem hin)
   exact ⟨[ks.getD i default,us.getD i default],rfl,_,_,rfl,yLW hkf,_,_,rfl,zOE hys q4 i (by rw [←q4.length,q3];exact hin),rfl⟩
  ·exact hW.elim
 ·exact hW.elim
theorem yV4 (wf:E.Wf) (h:InvG E S m β ow F a w) {d it r:Nat} {o:Oper} (hd:zAY E.N (some d) o.dst=true) (hr:r < E.N) {y:Operand} (ho:o.op=.next y false) (hx:zAk E.N (.t it) y=true)
  {K:List Ct→Prop} {X:Value→List Ct→Prop} {Q:Exit→Act→World→Prop} (hW:opW P (.mnx d it r) F K X):o.wp P a w (zFb E S K) Q:=by
 obtain ⟨hd1,hd2⟩:=zAp hd
 obtain ⟨rfl,hi⟩:=zBL hx
 simp only [opW] at hW
 split at hW
 ·rename_i b n seen b' ks vs e1 e2
  split at hW
  ·rename_i ys hys
   obtain ⟨rfl,rfl,hdi,hir,hK0,hK1⟩:=hW
   obtain ⟨g,us,f,p1,p2,p4,p5,p6,q2,q3,q4,q5⟩:=ySN h hi hr e1 e2
   have hold:∀ x∈(zBc ks us).toList,x.born < ks.length:=fun x hx=>by
    obtain ⟨i,h1,rfl⟩:=zT4 q3 hx;exact h1
   have hev:a.eval (.tmp it)=.pointer (some ⟨g,0,none⟩):=p1
   rcases run_next_at (P:=P) w o.type g b' ks.length ks.length seen.toArray (zBc ks us) ks.length p2 q2 hold (Nat.le_refl _) with ⟨h1,h2⟩|⟨e,he,w1,hw1,h2⟩
   ·have hall:∀ i,i < ks.length→i∈seen:=fun i hi'=>by
     have:=all_seen _ _ h1 _ (yBl q3 hi')
     simpa using this
    have hre:(execOp a.eval o).run P w=.ok (.value (.tuple #[.bool false])) w:=by
     unfold execOp;rw [ho]
     simp only [Sem.run_bind,hev,h2,Result.andThen_ok,Sem.run_pure]
    refine zAP hre ⟨_,hK0 hall,m,β,ow,?_⟩
    rw [hd1]
    exact h.slot wf hd2 ⟨[.bool false],rfl,_,_,rfl,⟨rfl,rfl⟩,rfl⟩
   ·obtain ⟨he1,he2⟩:=mem_left he
    obtain ⟨i,hin,rfl⟩:=zT4 q3 he1
    have hns:i∉seen:=by simpa using he2
    have hre:(execOp a.eval o).run P w=.ok (.value (.tuple #[.bool true,ks.getD i default,us.getD i default])) (Go.ChangeMaps.setBlock w1 g (.mapIter (some b') ks.length (seen.toArray.push i) ks.length)):=by
     unfold execOp;rw [ho]
     simp only [Sem.run_bind,hev,h2,Result.andThen_ok,Sem.run_pure]
    have h1:InvG E S m β ow F a w1:=by rcases hw1 with rfl|rfl;exact h;exact h.drewn
    have hh1:w1.heap[g]?=some (.mapIter (some b') ks.length seen.toArray ks.length):=by rcases hw1 with rfl|rfl<;>exact p2
    have hD:=zC4 wf h1 (r:=it) (fp:=[g]) (by intro x hx;obtain rfl:=List.mem_singleton.1 hx;exact p5)
    have hlo:=zBn h1 (r:=it) (fp:=[g]) (by intro x hx;obtain rfl:=List.mem_singleton.1 hx;exact ⟨p5,p6⟩)
    have hg:=hlo g (by simp)
    have hset:=Go.MapKept.heap_set (o':=.mapIter (some b') ks.length (seen.toArray.push i) ks.length) hh1
    have hlt:g < w1.heap.size:=hg.2.2.1
    have hw2:InvG E S m β (dropB ow [g]) (F.set it .un) a (Go.ChangeMaps.setBlock w1 g (.mapIter (some b') ks.length (seen.toArray.push i) ks.length)):=
     hD.world (b:=g) hg.1 hg.2.2.2 hg.2.1 ⟨rfl,rfl,rfl,by simp [Go.ChangeMaps.setBlock],fun x _ hx=>hset.2 x (by simpa using hx)⟩ (Nat.le_refl _)
    have hA:=zE3 wf hw2 (r:=it) (.inl ⟨hi,p1.symm⟩) (x:=.it b' ks.length (seen++[i])) (fp:=[g]) (by
     simp only [OvR]
     refine ⟨g,rfl,by
      have e:(seen++[i]).toArray=seen.toArray.push i:=by simp
      rw [e];exact hset.1,rfl,fun j hj=>?_⟩
     rcases List.mem_append.1 hj with hj|hj
     ·exact p4 j hj
     ·rw [List.mem_singleton.1 hj];exact hin) (by simp) (fun x hx=>by
     obtain rfl:=List.mem_singleton.1 hx
     exact ⟨hg.1,hg.2.1,by simp [Go.ChangeMaps.setBlock];exact hlt,hg.2.2.2⟩)
    rw [List.set_set] at hA
    refine zAP hre ⟨_,hK1 i hin hns,m,β,zFu (dropB ow [g]) [g] it,?_⟩
    rw [hd1]
    refine hA.slot wf hd2 ?_
    rw [yLX hin .nilIface default]
    have hkf:zIK (ks.getD i default)=true:=by
     rw [List.getD_eq_getElem?_getD,List.getElem?_eq_getElem hin]
     exact q5 _ (List.getElem_mem hin)
    exact ⟨[.bool true,ks.getD i default,us.getD i default],rfl,_,_,rfl,⟨rfl,rfl⟩,_,_,rfl,yLW hkf,_,_,rfl,zOE hys q4 i (by rw [←q4.length,q3];exact hin),rfl⟩
  ·exact hW.elim
 ·exact hW.elim
theorem yPb (w:World) (dT sT ty elem:TypeId) (g o dLen dCap k:Nat) (a:Addr) (sLen sCap:Nat) (cur:Array Value) (t:TypeId) (cs:List Value)
  (hu:P.underlying dT=some (.slice elem)) (hs:zEg P elem=some k)
  (hg:w.heap[g]?=some (.cells cur t (0,0))) (hn:cs.length=Nat.min sLen dLen * k)
  (hsrc:∀ j v,cs[j]?=some v→w.cell? (a.add j)=some v) (hfit:o+cs.length≤cur.size) (h1:∀ v∈cs,v.oneCell'=true):
  ∃ u,(Builtin.copy_ #[dT,sT] ty #[.slice (some ⟨g,o,none⟩) dLen dCap,.slice (some a) sLen sCap]).run P w=
   .ok u (w.setRow g (cur.toList.take o++cs++cur.toList.drop (o+cs.length)).toArray):=by
 have hl:=run_loadCells_list (P:=P) w a cs hsrc
 have hst:=run_storeCells_at P g o t cs 0 cur w hg (by simpa using hfit) h1
 have hz:=zBG (P:=P) (w:=w) hs
 refine ⟨goInt (Nat.min sLen dLen),?_⟩
 simp [Builtin.copy_,run_underlying hu,Builtin.lenOf,Builtin.firstCells,hz,←hn,hl,hst]
theorem yPc (w:World) (dT sT ty elem:TypeId) (A B:Option Addr) (dCap k:Nat) (sLen sCap:Nat) (hu:P.underlying dT=some (.slice elem)) (hs:zEg P elem=some k):
  ∃ u,(Builtin.copy_ #[dT,sT] ty #[.slice A 0 dCap,.slice B sLen sCap]).run P w=.ok u w:=by
 have hz:=zBG (P:=P) (w:=w) hs
 refine ⟨goInt 0,?_⟩
 cases A<;>cases B<;>simp [Builtin.copy_,run_underlying hu,Builtin.lenOf,Builtin.firstCells,hz,storeCells,loadCells,loadCellsFrom]
theorem zT5 {k:Nat}:∀ (l:List (List OV)),(∀ r∈l,r.length=k)→l.flatten.length=l.length * k
 |[],_=>by simp
 |r::l,h=>by rw [List.flatten_cons,List.length_append,h r List.mem_cons_self,zT5 l (fun r hr=>h r (List.mem_cons_of_mem _ hr)),List.length_cons,Nat.succ_mul,Nat.add_comm]
theorem yV5 (wf:E.Wf) (h:InvG E S m β ow F a w) {d:Option Nat} {e k r:Nat} {x y:Opd} {o:Oper} (hd:zAY E.N d o.dst=true) (hr:r < E.N) {c:Call} (ho:o.op=.call c) (hc:c.callee=.builtin .copy) {x' y':Operand} {t t':TypeId} (hargs:c.args.toList=[x',y']) (hts:c.argTypes.toList=[t,t']) (kx:zAk E.N x x'=true) (ky:zAk E.N y y'=true) (htt:t=t') (he:zFn P t e k=true)
  {K:List Ct→Prop} {X:Value→List Ct→Prop} {Q:Exit→Act→World→Prop} (hW:opW P (.cpy d e k r x y) F K X):o.wp P a w (zFb E S K) Q:=by
 subst htt
 obtain ⟨hu,hkp,ie,z,hie,hsz,hby,hz',hzs⟩:=zMN he
 have hsz':zEg P e=some k:=by simp [zEg,hie,hsz]
 simp only [opW] at hW
 split at hW
 ·rename_i b1 k1 i1 n1 b2 k2 i n2 b e' k' rows e1 e2 e3
  obtain ⟨rfl,rfl,rfl,rfl,rfl,hk',rfl,hi,rfl,rfl,hdr,hK⟩:=hW
  subst hk'
  obtain ⟨q1,rfl,hq1,hs1⟩:=zBu h kx e1 (by intro p;simp)
  obtain ⟨q2,rfl,hq2,hs2⟩:=zBu h ky e2 (by intro p;simp)
  have hrep:=h.slots r hr
  rw [e3] at hrep
  obtain ⟨fp,r1,r2,r3⟩:=hrep
  have r1':OvR m w (.os (some b2) e' k' rows) (a.tmps.getD r undef) fp:=r1
  obtain ⟨xs,f,g1,g2,g3,rfl,g5⟩:=zCm.1 r1'
  have hne:rows≠[]:=by rintro rfl;simp at hi
  have hub:=g5 b2 rfl hne
  obtain ⟨u,hu0⟩:∃ u,u=a.tmps.getD r undef:=⟨_,rfl⟩
  rw [←hu0] at r1' r2 r3 g1 hub
  rcases g1.2 with ⟨rfl,_⟩|⟨g,cap,cur,rfl,_,hh,hc1,hc2,hc3,hc4⟩
  ·simp [Value.ownBlock] at hub
  obtain rfl:g=b2:=by simpa [Value.ownBlock] using hub
  have hne2:rows.drop i≠[]:=by intro hc;have:=congrArg List.length hc;simp at this;omega
  have hrows:rows=rows.take i++((rows.drop i).dropLast++[(rows.drop i).getLast hne2]):=by rw [List.dropLast_concat_getLast,List.take_append_drop]
  have hgi:rows.drop i=rows.getD i []::rows.drop (i+1):=by
   rw [List.drop_eq_getElem_cons hi,List.getD_eq_getElem?_getD,List.getElem?_eq_getElem hi];rfl
  have hki:(rows.getD i []).length=k':=g3 _ (by rw [List.getD_eq_getElem?_getD,List.getElem?_eq_getElem hi];exact List.getElem_mem hi)
  have hfl:rows.flatten=(rows.take i).flatten++((rows.drop i).dropLast.flatten++(rows.drop i).getLast hne2):=by
   conv=>lhs;rw [hrows]
   simp
  have hfl2:(rows.drop i).dropLast.flatten++(rows.drop i).getLast hne2=rows.getD i []++(rows.drop (i+1)).flatten:=by
   have:(rows.drop i).flatten=(rows.drop i).dropLast.flatten++(rows.drop i).getLast hne2:=by
    conv=>lhs;rw [←List.dropLast_concat_getLast hne2]
    simp
   rw [←this,hgi,List.flatten_cons]
  rw [hfl] at g2
  obtain ⟨us1,us23,f1,f23,rfl,rfl,q3,q4⟩:=g2.split
  have q4':=q4
  rw [hfl2] at q4'
  obtain ⟨us2,us3,f2,f3,hus,_,q5,_⟩:=q4'.split
  obtain ⟨vA,vL,fA,fL,rfl,rfl,q6,q7⟩:=q4.split
  have hlt:∀ (l:List (List OV)),(∀ r∈l,r∈rows)→∀ r∈l,r.length=k':=fun l hl r hr=>g3 r (hl r hr)
  have hl1:us1.length=i * k':=by
   rw [q3.length,zT5 _ (hlt _ fun r hr=>List.mem_of_mem_take hr),List.length_take,Nat.min_eq_left (by omega)]
  have hdl:∀ r∈(rows.drop i).dropLast,r∈rows:=fun r hr=>List.mem_of_mem_drop (List.dropLast_subset _ hr)
  have hlA:vA.length=(rows.length-i-1) * k':=by
   rw [q6.length,zT5 _ (hlt _ hdl),List.length_dropLast,List.length_drop]
  have hlL:vL.length=k':=by rw [q7.length];exact g3 _ (List.mem_of_mem_drop (List.getLast_mem hne2))
  have hl2:us2.length=k':=by rw [q5.length,hki]
  have hus2:us2=(vA++vL).take k':=by rw [hus,←hl2,List.take_left]
  have hgs:g < w.heap.size:=(Array.getElem?_eq_some_iff.1 hh).1
  have hcl:cur.toList.length=cap * k':=by rw [Array.length_toList,hc3]
  have hcur:cur.toList=(us1++(vA++vL))++cur.toList.drop (rows.length * k'):=by rw [←hc4,List.take_append_drop]
  have hNk:rows.length * k'=i * k'+(rows.length-i-1) * k'+k':=by
   have:rows.length=i+(rows.length-i-1)+1:=by omega
   conv=>lhs;rw [this]
   rw [Nat.add_mul,Nat.add_mul,Nat.one_mul]
  have hcapN:rows.length * k'≤cap * k':=Nat.mul_le_mul_right _ hc1
  obtain ⟨⟨A2,c2,hv2,hlc2,hcm2⟩,hat2⟩:=hs2
  obtain ⟨⟨A1,c1',hv1,hlc1,hcm1⟩,hat1⟩:=hs1
  obtain ⟨cc2,hv2'⟩:=hat2 (by omega)
  let new:List Value:=cur.toList.take ((i+1) * k')++vA++cur.toList.drop ((i+1) * k'+vA.length)
  have hnewl:new.length=cap * k':=by
   simp only [new,List.length_append,List.length_take,List.length_drop,hcl,hlA]
   have h9:(i+1) * k'=i * k'+k':=by rw [Nat.add_mul,Nat.one_mul]
   omega
  have h9:(i+1) * k'=i * k'+k':=by rw [Nat.add_mul,Nat.one_mul]
  have htk1:cur.toList.take ((i+1) * k')=us1++us2:=by
   rw [hcur,List.take_append_of_le_length (by simp only [List.length_append,hl1,hlA,hlL];omega),hus2,h9,←hl1,List.take_length_add_append]
  have hnew0:new=(us1++us2++vA)++cur.toList.drop ((i+1) * k'+vA.length):=by simp only [new,htk1]
  have hlx:(us1++us2++vA).length=rows.length * k':=by simp only [List.length_append,hl1,hl2,hlA];omega
  have hrun:∃ v,(Builtin.copy_ #[t,t] o.type #[a.eval x',a.eval y']).run P w=.ok v (w.setRow g new.toArray):=by
   rcases Nat.eq_zero_or_pos (rows.length-i-1) with h0|h0
   ·rw [hv1,h0,hv2]
    obtain ⟨v,hv⟩:=yPc (P:=P) w t t o.type e' A1 A2 c1' k' (rows.length-i) c2 hu hsz'
    refine ⟨v,?_⟩
    have hA0:vA=[]:=List.eq_nil_of_length_eq_zero (by rw [hlA,h0];simp)
    have:new.toArray=cur:=by
     simp only [new,hA0,List.append_nil,List.length_nil,Nat.add_zero,List.take_append_drop,Array.toArray_toList]
    rw [hv,this,setRow_self w g cur e' (0,0) hh]
   ·obtain ⟨cc1,hv1'⟩:=hat1 (by omega)
    rw [hv1',hv2']
    exact yPb w t t o.type e' g ((i+1) * k') (rows.length-i-1) cc1 k' ⟨g,i * k',none⟩ (rows.length-i) cc2 cur e' vA hu hsz' hh (by rw [hlA];congr 1;exact (Nat.min_eq_right (by omega)).symm) (fun j v hj=>by
     have hjl:=(List.getElem?_eq_some_iff.1 hj).1
     rw [zBW]
     unfold World.cell?
     simp only [hh,Option.isSome_none,Bool.false_eq_true,if_false]
     rw [←Array.getElem?_toList,hcur,List.getElem?_append_left (by simp only [List.length_append,hl1];omega),List.getElem?_append_right (by rw [hl1];omega),hl1,Nat.add_sub_cancel_left,List.getElem?_append_left hjl]
     exact hj) (by rw [hc3,hlA];omega) (fun v hv=>zCl (q6.flat_ v hv))
  obtain ⟨v,hrun⟩:=hrun
  have hre:(execOp a.eval o).run P w=.ok (.value v) (w.setRow g new.toArray):=by
   obtain ⟨ca,cb,cc⟩:=c
   simp only at hc hargs hts
   subst hc
   obtain rfl:cb=#[x',y']:=by rw [←Array.toArray_toList (xs:=cb),hargs]
   obtain rfl:cc=#[t,t]:=by rw [←Array.toArray_toList (xs:=cc),hts]
   obtain ⟨dst,op,ty,pos,after,gd⟩:=o
   simp only at ho hrun
   subst ho
   rw [BigFrame.execOp_builtin,BigFrame.builtin_copy]
   have e1:(#[x',y'].map a.eval)=#[a.eval x',a.eval y']:=by simp
   rw [e1]
   simp only [Sem.run_bind,hrun,Result.andThen_ok]
   rfl
  have hnd:=r2
  have hbl:blk (.slice (some ⟨g,0,none⟩) rows.length cap)=[g]:=rfl
  rw [hbl] at hnd r3
  have hD:=zC4 wf h fun g hg=>(r3 g hg).1
  have hloose:=zBn h r3
  have hgl:=hloose g (by simp)
  let w':=w.setRow g new.toArray
  have hwg:w'.heap[g]?=some (.cells new.toArray e' (0,0)):=setRow_heap w g cur _ e' (0,0) hh
  have hwo:∀ x,x≠g→w'.heap[x]?=w.heap[x]?:=fun x hx=>setRow_other w g x _ hx
  have hsz2:w.heap.size≤w'.heap.size:=by simp [w']
  have hDw:=hD.world (w':=w') (b:=g) hgl.1 hgl.2.2.2 hgl.2.1 ⟨rfl,rfl,rfl,hsz2,fun x _ hx=>hwo x (fun e=>hx (by rw [e]))⟩ (Nat.le_refl _)
  rw [List.singleton_append,List.nodup_cons] at hnd
  have hf1:∀ x∈f1,w'.heap[x]?=w.heap[x]?:=fun x hx=>hwo x fun e=>hnd.1 (by rw [←e];exact List.mem_append_left _ hx)
  have hfA:∀ x∈fA,w'.heap[x]?=w.heap[x]?:=fun x hx=>hwo x fun e=>hnd.1 (by rw [←e];exact List.mem_append_right _ (List.mem_append_left _ hx))
  have hsl:(zD3 i rows).length=rows.length:=by simp only [zD3,List.length_append,List.length_take,List.length_cons,List.length_nil,List.length_dropLast,List.length_drop];omega
  have hnewR:OvR m w' (.os (some g) e' k' (zD3 i rows)) (.slice (some ⟨g,0,none⟩) rows.length cap) ([g]++(f1++fA)):=by
   refine zCm.2 ⟨us1++us2++vA,f1++fA,?_,?_,?_,rfl,fun b hb _=>by rw [←hb];exact hub⟩
   ·rw [hsl]
    refine ⟨hlx,.inr ⟨g,cap,_,rfl,Nat.zero_le _,hwg,hc1,hc2,by rw [List.size_toArray];exact hnewl,?_⟩⟩
    rw [List.toList_toArray,hnew0,←hlx,List.take_left]
   ·have e9:(zD3 i rows).flatten=(rows.take i).flatten++(rows.getD i []).map OV.left++(rows.drop i).dropLast.flatten:=by simp [zD3]
    rw [e9]
    have:=((OvL.congr m.le_refl _ _ _ hf1 q3).append (OvL.congr (w':=w') m.le_refl _ _ _ (fun x hx=>by cases hx) q5.left)).append (OvL.congr m.le_refl _ _ _ hfA q6)
    rwa [List.append_nil] at this
   ·intro r hr
    simp only [zD3,List.mem_append,List.mem_singleton] at hr
    rcases hr with (hr|rfl)|hr
    ·exact g3 r (List.mem_of_mem_take hr)
    ·rw [List.length_map];exact hki
    ·exact g3 r (hdl r hr)
  have hnd2:([g]++(f1++fA)).Nodup:=by
   have h3:([g]++(f1++fA)).Sublist (g::(f1++(fA++fL))):=List.Sublist.cons_cons g ((List.sublist_append_left fA fL).append_left f1)
   exact (List.nodup_cons.2 hnd).sublist h3
  have hl2:Loose S m w' (dropB ow ([g]++(f1++(fA++fL)))) ([g]++(f1++fA)):=(hloose.sub fun x hx=>by
   simp only [List.mem_append,List.mem_singleton] at hx ⊢
   rcases hx with hx|hx|hx
   ·exact .inl hx
   ·exact .inr (.inl hx)
   ·exact .inr (.inr (.inl hx))).grow hsz2
  have hA:=zE3 wf hDw (.inl ⟨hr,hu0⟩) hnewR hnd2 hl2
  rw [List.set_set] at hA
  refine zAP hre ⟨_,hK,m,β,zFu (dropB ow ([g]++(f1++(fA++fL)))) ([g]++(f1++fA)) r,?_⟩
  cases d with
  |none=>
   have hn:o.dst=none:=by
    cases hh:o.dst with
    |none=>rfl
    |some x=>rw [hh] at hd;simp [zAY] at hd
   rw [hn]
   exact hA
  |some d=>
   obtain ⟨hd1,hd2⟩:=zAp hd
   rw [hd1]
   exact hA.slot wf hd2 trivial
 ·exact hW.elim
end
end Go.Hx
end

section
namespace Go.Hx
open Go.RowKit
variable [Glob]
section
variable {P:Program} {E:Env} {S:Start} {m:Mem} {β:Bx} {ow:Ow} {F:List Ct} {a:Act} {w:World}
theorem yV6 (wf:E.Wf) (h:InvG E S m β ow F a w) {d:Nat} {v:VOp} {off e k:Nat} {o:Oper} (hd:zAY E.N (some d) o.dst=true) (hk:yQR P E v o.op=true) {K:List Ct→Prop} {Q:Exit→Act→World→Prop}
  (hc:(ev F v).1) (hn:yVF (ev F v).2 off=true) (hK:K (F.set d (yXD (ev F v).2 off e k))):o.wp P a w (zFb E S K) Q:=by
 obtain ⟨hd1,hd2⟩:=zAp hd
 obtain ⟨u,m',w',hr,q,hrep⟩:=yCn h v o hk d hc
 generalize (ev F v).2=c at hn hK hrep
 unfold yVF at hn
 split at hn
 ·rename_i cs
  split at hn
  ·rename_i k' hcs
   obtain ⟨us,rfl,hu⟩:=hrep
   refine zAP hr ⟨_,hK,?_⟩
   rw [hd1]
   have hl:=hu.length
   have hlt:off < cs.length:=(List.getElem?_eq_some_iff.1 hcs).1
   have hltu:off < us.length:=by omega
   have hx:us[off]=.slice none 0 0:=by
    have:=hu.get off _ _ hcs (List.getElem?_eq_getElem hltu)
    exact this
   have h1:RpL m' (cs.take off) (us.take off):=by simpa using hu.sub 0 off
   have h3:RpL m' (cs.drop (off+1)) (us.drop (off+1)):=by
    have:=hu.sub (off+1) cs.length
    rw [List.take_of_length_le (by simp),List.take_of_length_le (by simp [hl])] at this
    exact this
   have h2:OvL m' w' [.os none e k []] [us[off]] []:=by
    rw [hx]
    simp only [OvL]
    refine ⟨.slice none 0 0,[],[],[],rfl,rfl,?_,rfl,rfl⟩
    simp only [OvR,OvRows]
    exact ⟨[],[],World.ownsRow_nil w' 0 e k,⟨rfl,rfl⟩,by simp [blk,Value.ownBlock],fun b h=>by cases h⟩
   have hus:us=us.take off++[us[off]]++us.drop (off+1):=by
    rw [List.append_assoc,List.singleton_append,←List.drop_eq_getElem_cons hltu,List.take_append_drop]
   refine zFQ wf (h.quiet q) hd2 (x:=.agg _) (fp:=[]) ⟨us,rfl,?_⟩ List.nodup_nil (fun g hg=>by cases hg)
   have:=((OvL.of_rp (w:=w') h1).append h2).append (OvL.of_rp (w:=w') h3)
   rw [←hus] at this
   simpa using this
  ·cases hn
 ·cases hn
end
end Go.Hx
end

section
namespace Go.Hx
open Go.RowKit
variable [Glob]
section
variable {P:Program} {E:Env} {S:Start} {m:Mem} {β:Bx} {ow:Ow} {F:List Ct} {a:Act} {w:World}
theorem zQd {f:FuncId} (h:zDm P f=true) (args:Array Value) (w:World):(callFunc f args).run P w=.ok (.enter f args) w:=by
 unfold zDm at h
 split at h
 ·rename_i fn hf
  simp only [Bool.and_eq_true,Bool.not_eq_true'] at h
  obtain ⟨h1,h2⟩:=h
  have h3:fn.body≠none:=by intro hb;rw [hb] at h1;cases h1
  have h4:fn.name ≠ "runtime.NumGoroutine" := by intro hb;rw [hb] at h2;simp at h2
  simp [callFunc,hf,h3,h4]
 ·cases h
theorem zIO {c:Call} {o:Oper} (ho:o.op=.call c) {x:Operand} (hc:c.callee=.value x) {f:FuncId} {us:List Value} (hx:a.eval x=.func (.func f) #[] us.toArray) (hf:zDm P f=true):
  (execOp a.eval o).run P w=.ok (.enter f (c.args.toList.map a.eval++us).toArray) w:=by
 unfold execOp
 rw [ho]
 simp only [resolve,hc,hx,Deferred.ofValue,Sem.run_bind,Sem.run_pure,Result.andThen_ok,invoke]
 rw [zQd hf]
 congr 2
 apply Array.ext'
 simp
theorem yCx {args:List (Opd×AM)} (h:ySz args=true):zBw args=none∧zFc args=none:=by
 induction args with
 |nil=>exact ⟨rfl,rfl⟩
 |cons x r ih=>
  obtain ⟨x,mo⟩:=x
  simp only [ySz,List.all_cons,Bool.and_eq_true] at h
  obtain ⟨h1,h2⟩:=h
  cases mo<;>simp at h1
  exact ih h2
theorem yQ2 (wf:E.Wf) (h:InvG E S m β ow F a w) {d f x:Nat} {o:Oper} (hd:zAY E.N (some d) o.dst=true) {c:Call} (ho:o.op=.call c) (hc:c.callee=.value (.func f)) {y:Operand} (hargs:c.args.toList=[y]) (hk:zAk E.N (.t x) y=true) {K:List Ct→Prop} {Q:Exit→Act→World→Prop} {v v':OVal}
  (hx:F.getD x .un=.ov v) (hcon:zC8 P f v v') (hK:K ((F.set x .un).set d (.ov v'))):o.wp P a w (zFb E S K) Q:=by
 obtain ⟨hd1,hd2⟩:=zAp hd
 obtain ⟨rfl,hyN⟩:=zBL hk
 have hrep:=h.slots x hyN
 rw [hx] at hrep
 obtain ⟨fp,r1,r2,r3⟩:=hrep
 have hD:=zC4 wf h fun g hg=>(r3 g hg).1
 have hloose:=zBn h r3
 have hop:=zIO (a:=a) (w:=w) ho hc (f:=f) (us:=[]) rfl hcon.1
 rw [hargs] at hop
 unfold Oper.wp
 rw [hop]
 refine Calls.mono (hcon.2 m w (a.tmps.getD x undef) fp h.mem r1 r2 (fun g hg=>⟨h.gown (r3 g hg).1,(r3 g hg).2⟩) h.glob) fun e w' hp=>?_
 obtain ⟨m',p1,p2,p3,p4,u',fp',rfl,q1,q2,q3⟩:=hp
 have hkeep:∀ b t,dropB ow fp b=some t→b∉fp∧b < w.heap.size:=by
  intro b t hb
  refine ⟨fun hc=>by simp [dropB,hc] at hb,hD.lt b t hb⟩
 have hQ:InvG E S m' β (dropB ow fp) (F.set x .un) a w':=hD.quiet {
  le:=p1
  mem:=p2
  heap:=fun b t hb=>p3.block b (hkeep b t hb).2 (hkeep b t hb).1
  free:=fun b t o hb=>by
   cases hm:m' b o with
   |none=>
    cases hm2:m b o with
    |none=>rfl
    |some u=>rw [p1 b o u hm2] at hm;cases hm
   |some u=>
    rcases p4 b o u hm with h1|h1|h1
    ·exact h1.symm
    ·have:=(hkeep b t hb).2;omega
    ·exact ((hkeep b t hb).1 h1).elim
  new:=fun b o u hu=>by
   rcases p4 b o u hu with h1|h1|h1
   ·exact .inl h1
   ·exact .inr (.inl (Nat.le_trans h.pres.size h1))
   ·rcases (hloose b h1).2.1 with h2|h2
    ·exact .inr (.inl h2)
    ·exact .inr (.inr h2)
  pres:=p3.mono fun b _ hb=>(hloose b hb).2.1.symm}
 refine ⟨_,hK,?_⟩
 rw [hd1]
 refine zFQ wf hQ hd2 q1 q2 fun g hg=>⟨?_,?_,q1.lt g hg,(q3 g hg).2⟩
 ·rcases (q3 g hg).1 with h1|h1
  ·cases ho:dropB ow fp g with
   |none=>rfl
   |some t=>have:=hD.lt g t ho;omega
  ·exact (hloose g h1).1
 ·rcases (q3 g hg).1 with h1|h1
  ·exact .inl (Nat.le_trans h.pres.size h1)
  ·exact (hloose g h1).2.1
theorem yQ3 (wf:E.Wf) (h:InvG E S m β ow F a w) {d f x:Nat} {o:Oper} (hd:zAY E.N (some d) o.dst=true) {c:Call} (ho:o.op=.call c) (hc:c.callee=.value (.func f)) {y:Operand} (hargs:c.args.toList=[y]) (hk:zAk E.N (.t x) y=true) {K:List Ct→Prop} {Q:Exit→Act→World→Prop} {v:OVal} {cs:List OV} {xs:List PV}
  (hx:F.getD x .un=.ov v) (hcon:zC8 P f v (.agg cs)) (hfz:zOv cs=some xs) (hK:K ((F.set x .un).set d (.pv (.agg xs)))):o.wp P a w (zFb E S K) Q:=by
 obtain ⟨hd1,hd2⟩:=zAp hd
 obtain ⟨rfl,hyN⟩:=zBL hk
 have hrep:=h.slots x hyN
 rw [hx] at hrep
 obtain ⟨fp,r1,r2,r3⟩:=hrep
 have hD:=zC4 wf h fun g hg=>(r3 g hg).1
 have hloose:=zBn h r3
 have hop:=zIO (a:=a) (w:=w) ho hc (f:=f) (us:=[]) rfl hcon.1
 rw [hargs] at hop
 unfold Oper.wp
 rw [hop]
 refine Calls.mono (hcon.2 m w (a.tmps.getD x undef) fp h.mem r1 r2 (fun g hg=>⟨h.gown (r3 g hg).1,(r3 g hg).2⟩) h.glob) fun e w' hp=>?_
 obtain ⟨m',p1,p2,p3,p4,u',fp',rfl,q1,q2,q3⟩:=hp
 have hkeep:∀ b t,dropB ow fp b=some t→b∉fp∧b < w.heap.size:=by
  intro b t hb
  refine ⟨fun hc=>by simp [dropB,hc] at hb,hD.lt b t hb⟩
 have hQ:InvG E S m' β (dropB ow fp) (F.set x .un) a w':=hD.quiet {
  le:=p1
  mem:=p2
  heap:=fun b t hb=>p3.block b (hkeep b t hb).2 (hkeep b t hb).1
  free:=fun b t o hb=>by
   cases hm:m' b o with
   |none=>
    cases hm2:m b o with
    |none=>rfl
    |some u=>rw [p1 b o u hm2] at hm;cases hm
   |some u=>
    rcases p4 b o u hm with h1|h1|h1
    ·exact h1.symm
    ·have:=(hkeep b t hb).2;omega
    ·exact ((hkeep b t hb).1 h1).elim
  new:=fun b o u hu=>by
   rcases p4 b o u hu with h1|h1|h1
   ·exact .inl h1
   ·exact .inr (.inl (Nat.le_trans h.pres.size h1))
   ·rcases (hloose b h1).2.1 with h2|h2
    ·exact .inr (.inl h2)
    ·exact .inr (.inr h2)
  pres:=p3.mono fun b _ hb=>(hloose b hb).2.1.symm}
 have hl:Loose S m' w' (dropB ow fp) fp':=fun g hg=>⟨by
  rcases (q3 g hg).1 with h1|h1
  ·cases ho:dropB ow fp g with
   |none=>rfl
   |some t=>have:=hD.lt g t ho;omega
  ·exact (hloose g h1).1,by
  rcases (q3 g hg).1 with h1|h1
  ·exact .inl (Nat.le_trans h.pres.size h1)
  ·exact (hloose g h1).2.1,q1.lt g hg,(q3 g hg).2⟩
 obtain ⟨us,hus,hrep⟩:=q1
 obtain ⟨m2,g1,g2,g3,g4⟩:=OvL.freeze w' cs m' us fp' xs hrep hfz p2 q2 fun g hg=>(q3 g hg).2
 have hQ2:InvG E S m2 β (dropB ow fp) (F.set x .un) a w':=hQ.quiet {
  le:=g1
  mem:=g2
  heap:=fun _ _ _=>rfl
  free:=fun b t o hb=>g3 b o fun hc=>(by rw [(hl b hc).1] at hb;cases hb)
  new:=fun b o u hu=>(by
   by_cases hc:b∈fp'
   ·exact .inr (hl b hc).2.1
   ·rw [g3 b o hc] at hu;exact .inl hu)
  pres:=Pres.refl _ _}
 refine ⟨_,hK,?_⟩
 rw [hd1]
 exact ⟨m2,β,_,hQ2.slot wf hd2 ⟨us,hus,g4⟩⟩
theorem yTE (wf:E.Wf) (h:InvG E S m β ow F a w) {d:Option Nat} {f r:Nat} {x:Opd} {args:List (Opd×AM)} {o:Oper} (hd:zAY E.N d o.dst=true) (hr:r < E.N) {c:Call} (ho:o.op=.call c) (hc:c.callee=.value (.func f)) {y:Operand} {ys:List Operand} (hargs:c.args.toList=y::ys) (hk:zAk E.N x y=true) (hk2:zJk E args ys=true) {K:List Ct→Prop} {X:Value→List Ct→Prop} {Q:Exit→Act→World→Prop} (hW:opW P (.cals d f r x args) F K X):o.wp P a w (zFb E S K) Q:=by
 simp only [opW] at hW
 split at hW
 ·rename_i b k0 n b' e k rows e1 e2
  obtain ⟨rfl,rfl,hne,hdr,hav,rows',hcon,hK⟩:=hW
  have hrep:=h.slots r hr
  rw [e2] at hrep
  obtain ⟨fp,r1,r2,r3⟩:=hrep
  have r1':OvR m w (.os (some b') e k rows) (a.tmps.getD r undef) fp:=r1
  obtain ⟨c',hy⟩:∃ c',a.eval y=.slice (some ⟨b',0,none⟩) rows.length c':=by
   cases x with
   |t i=>
    obtain ⟨rfl,hiN⟩:=zBL hk
    have hs:=h.slots i hiN
    rw [show F.getD i .un=.hdp b' k0 rows.length from e1] at hs
    exact hs.2 (fun hc=>hne (List.eq_nil_of_length_eq_zero hc))
   |c p=>simp [zAn] at e1
   |f g=>simp [zAn] at e1
  have hD:=zC4 wf h fun g hg=>(r3 g hg).1
  have hloose:=zBn h r3
  have hop:=zIO (a:=a) (w:=w) ho hc (f:=f) (us:=[]) rfl hcon.1
  rw [hargs] at hop
  unfold Oper.wp
  rw [hop]
  simp only [List.map_cons,List.append_nil,hy]
  refine Calls.mono (hcon.2 m w (a.tmps.getD r undef) b' c' fp (ys.map a.eval) h.mem r1' hne r2 (fun g hg=>⟨h.gown (r3 g hg).1,(r3 g hg).2⟩) h.glob (zFt h hk2 hav).1) fun e w' hp=>?_
  obtain ⟨m',p1,p2,p3,p4,u',fp',rfl,q0,q1,q2,q3⟩:=hp
  have hkeep:∀ b t,dropB ow fp b=some t→b∉fp∧b < w.heap.size:=by
   intro b t hb
   refine ⟨fun hc=>by simp [dropB,hc] at hb,hD.lt b t hb⟩
  have hQ:InvG E S m' β (dropB ow fp) (F.set r .un) a w':=hD.quiet {
   le:=p1
   mem:=p2
   heap:=fun b t hb=>p3.block b (hkeep b t hb).2 (hkeep b t hb).1
   free:=fun b t o hb=>by
    cases hm:m' b o with
    |none=>
     cases hm2:m b o with
     |none=>rfl
     |some u=>rw [p1 b o u hm2] at hm;cases hm
    |some u=>
     rcases p4 b o u hm with h1|h1|h1
     ·exact h1.symm
     ·have:=(hkeep b t hb).2;omega
     ·exact ((hkeep b t hb).1 h1).elim
   new:=fun b o u hu=>by
    rcases p4 b o u hu with h1|h1|h1
    ·exact .inl h1
    ·exact .inr (.inl (Nat.le_trans h.pres.size h1))
    ·rcases (hloose b h1).2.1 with h2|h2
     ·exact .inr (.inl h2)
     ·exact .inr (.inr h2)
   pres:=p3.mono fun b _ hb=>(hloose b hb).2.1.symm}
  have hl:Loose S m' w' (dropB ow fp) fp':=fun g hg=>⟨by
   rcases (q3 g hg).1 with h1|h1
   ·cases ho:dropB ow fp g with
    |none=>rfl
    |some t=>have:=hD.lt g t ho;omega
   ·exact (hloose g h1).1,by
   rcases (q3 g hg).1 with h1|h1
   ·exact .inl (Nat.le_trans h.pres.size h1)
   ·exact (hloose g h1).2.1,OvR.lt _ _ _ q1 g hg,(q3 g hg).2⟩
  have hA:=zE3 wf hQ (.inl ⟨hr,rfl⟩) q1 q2 hl
  rw [List.set_set] at hA
  refine ⟨_,hK,m',β,zFu (dropB ow fp) fp' r,?_⟩
  cases d with
  |none=>
   have hn:o.dst=none:=by
    cases hh:o.dst with
    |none=>rfl
    |some x=>rw [hh] at hd;simp [zAY] at hd
   rw [hn]
   exact hA
  |some d=>
   obtain ⟨hd1,hd2⟩:=zAp hd
   rw [hd1]
   exact hA.slot wf hd2 trivial
 ·exact hW.elim
theorem zHa (wf:E.Wf) (h:InvG E S m β ow F a w) {ho:HOp} {o:Oper} (hk:zD4 P E ho o.op o.dst=true) {K:List Ct→Prop} {X:Value→List Ct→Prop} {Q:Exit→Act→World→Prop}
  (hQ:∀ v F' a' w',X v F'→Inv E S F' a' w'→Q (.panic [{v,recovered:=false}]) a' w') (hW:opW P ho F K X):o.wp P a w (zFb E S K) Q:=by
 cases ho with
 |val d v=>
  simp only [zD4,Bool.and_eq_true] at hk
  exact yVI wf h hk.1 hk.2 hW.1 hW.2
 |call d f args=>
  simp only [zD4] at hk
  split at hk
  ·rename_i c ho
   simp only [Bool.and_eq_true] at hk
   obtain ⟨⟨h1,h2⟩,h3⟩:=hk
   split at h2
   ·rename_i g hc
    simp only [beq_iff_eq] at h2
    subst h2
    have hcall:zDm P g=true:=by obtain ⟨_,r,hcon,_⟩:=hW;exact hcon.1
    have:=zIO (a:=a) (w:=w) ho hc (f:=g) (us:=[]) rfl hcall
    refine yJf wf h h1 h3 (extra:=[]) (us2:=[]) (by simp) rfl this hQ ?_
    simpa [opW] using hW
   ·cases h2
  ·cases hk
 |callg d f args=>
  simp only [zD4] at hk
  split at hk
  ·rename_i c ho
   simp only [Bool.and_eq_true] at hk
   obtain ⟨⟨h1,h2⟩,h3⟩:=hk
   split at h2
   ·rename_i g hc
    simp only [beq_iff_eq] at h2
    subst h2
    have hcall:zDm P g=true:=by obtain ⟨_,r,hcon,_⟩:=hW;exact hcon.1
    have:=zIO (a:=a) (w:=w) ho hc (f:=g) (us:=[]) rfl hcall
    refine yJf wf h h1 h3 (extra:=[]) (us2:=[]) (by simp) rfl this hQ ?_
    simpa [opW] using hW
   ·cases h2
  ·cases hk
 |callv d x args=>
  simp only [zD4] at hk
  split at hk
  ·rename_i c ho
   simp only [Bool.and_eq_true] at hk
   obtain ⟨⟨⟨h1,h2⟩,h3⟩,h4⟩:=hk
   split at h2
   ·rename_i y hc
    simp only [opW] at hW
    split at hW
    ·rename_i f caps e1
     obtain ⟨n1,hW⟩:=hW
     obtain ⟨us,hv,hr⟩:=zBd h h2 n1 e1
     have hcall:zDm P f=true:=by obtain ⟨_,r,hcon,_⟩:=hW;exact hcon.1
     have:=zIO (w:=w) ho hc hv hcall
     refine yJf wf h h1 h4 (extra:=caps.map fun c=>.val (.one c)) (us2:=us) ?_ (yLO hr) this hQ hW
     intro x hx
     obtain ⟨c,_,rfl⟩:=List.mem_map.1 hx
     exact ⟨_,rfl⟩
    ·exact hW.elim
   ·cases h2
  ·cases hk
 |mvo d x=>
  simp only [zD4,Bool.and_eq_true] at hk
  simp only [opW] at hW
  split at hW
  ·rename_i e k rows e1
   obtain ⟨h1,h2⟩:=hk
   split at h2
   ·rename_i y ho;exact ySB wf h h1 (.inl ho) h2 e1 hW.1 hW.2
   ·rename_i y ho;exact ySB wf h h1 (.inr ho) h2 e1 hW.1 hW.2
   ·cases h2
  ·exact hW.elim
 |nlo d e k=>
  simp only [zD4,Bool.and_eq_true] at hk
  obtain ⟨h1,h2⟩:=hk
  split at h2
  ·rename_i y ho;exact ySC wf h h1 (.inl ho) h2 hW
  ·rename_i y ho;exact ySC wf h h1 (.inr ho) h2 hW
  ·cases h2
 |ldo d x j base off e k=>
  simp only [zD4,Bool.and_eq_true] at hk
  obtain ⟨h1,h2⟩:=hk
  split at h2
  ·rename_i t y ho
   simp only [Bool.and_eq_true,beq_iff_eq] at h2
   obtain ⟨⟨h3,h4⟩,h5⟩:=h2
   simp only [opW] at hW
   split at hW
   ·rename_i j' off' e' k' rows e1 e2
    obtain ⟨rfl,rfl,rfl,rfl,hW⟩:=hW
    exact yVJ wf h h1 ho h3 h4 h5 e1 e2 hW
   ·rename_i j' off' kk e1 e2
    obtain ⟨rfl,rfl,hW⟩:=hW
    exact yVM wf h h1 ho h3 h4 h5 e1 e2 hW
   ·exact hW.elim
  ·cases h2
 |sto x j base off n y=>
  simp only [zD4,Bool.and_eq_true] at hk
  obtain ⟨h1,h2⟩:=hk
  split at h2
  ·rename_i t x' y' ho
   simp only [Bool.and_eq_true,beq_iff_eq] at h2
   obtain ⟨⟨⟨h3,h4⟩,h5⟩,h6⟩:=h2
   simp only [opW] at hW
   split at hW
   ·rename_i j' off' p e1 e2
    obtain ⟨rfl,rfl,hn,hne,hW⟩:=hW
    exact ySD wf h (Option.isNone_iff_eq_none.1 h1) ho h3 h4 h5 h6 e1 e2 hn hne hW
   ·exact hW.elim
  ·cases h2
 |std x j base sz y=>
  simp only [zD4,Bool.and_eq_true] at hk
  obtain ⟨h1,h2⟩:=hk
  split at h2
  ·rename_i t x' y' ho
   simp only [Bool.and_eq_true,beq_iff_eq] at h2
   obtain ⟨⟨⟨h3,h4⟩,h5⟩,h6⟩:=h2
   simp only [opW] at hW
   split at hW
   ·rename_i j' off' p e1 e2
    obtain ⟨rfl,hlt,hn,hne,hW⟩:=hW
    have h5':zEJ E j' base (off'+1)=true:=by
     unfold zEJ at h5 ⊢
     split at h5
     ·simp only [Bool.and_eq_true,decide_eq_true_eq] at h5 ⊢
      exact ⟨h5.1,by omega⟩
     ·cases h5
    exact ySD wf h (Option.isNone_iff_eq_none.1 h1) ho h3 h4 h5' h6 e1 e2 hn hne hW
   ·exact hW.elim
  ·cases h2
 |stw x j base off y=>
  simp only [zD4,Bool.and_eq_true] at hk
  obtain ⟨h1,h2⟩:=hk
  split at h2
  ·rename_i t x' y' ho
   simp only [Bool.and_eq_true,beq_iff_eq] at h2
   obtain ⟨⟨⟨h3,h4⟩,h5⟩,h6⟩:=h2
   simp only [opW] at hW
   split at hW
   ·rename_i j' off' e k rows e1 e2
    obtain ⟨rfl,rfl,hW⟩:=hW
    exact yVK wf h (Option.isNone_iff_eq_none.1 h1) ho h3 h4 h5 h6 e1 e2 hW
   ·exact hW.elim
  ·cases h2
 |alloc d j base cells=>
  simp only [zD4,Bool.and_eq_true] at hk
  obtain ⟨⟨⟨h0,h1⟩,h2⟩,h3⟩:=hk
  split at h3
  ·rename_i t ho
   split at h3
   ·rename_i z hz
    exact yLL wf h (of_decide_eq_true h0) h1 ho h2 hz h3 hW
   ·cases h3
  ·cases h3
 |box d j base n x=>
  simp only [zD4,Bool.and_eq_true] at hk
  obtain ⟨⟨⟨h0,h1⟩,h2⟩,h3⟩:=hk
  split at h3
  ·rename_i t y ho
   simp only [opW] at hW
   split at hW
   ·rename_i p e1
    obtain ⟨hn,hne,hW⟩:=hW
    exact yVL wf h (of_decide_eq_true h0) h1 ho h3 h2 e1 hn hne hW
   ·exact hW.elim
  ·cases h3
 |alo d j base cells=>
  simp only [zD4,Bool.and_eq_true] at hk
  obtain ⟨⟨⟨⟨h0,h1⟩,h2⟩,h4⟩,h3⟩:=hk
  obtain ⟨hu,hK⟩:=hW
  split at h3
  ·rename_i t ho
   split at h3
   ·rename_i z hz
    exact yQX wf h (zAp h1).2 (zK4 h2) (of_decide_eq_true h4) hu (by simp) hK fun K' hK'=>yLL wf h (of_decide_eq_true h0) h1 ho h2 hz h3 hK'
   ·cases h3
  ·cases h3
 |app d e k x y=>
  simp only [zD4,Bool.and_eq_true] at hk
  obtain ⟨h1,h2⟩:=hk
  split at h2
  ·rename_i c ho
   simp only [Bool.and_eq_true] at h2
   obtain ⟨h3,h4⟩:=h2
   obtain ⟨callee,args,argTypes⟩:=c
   simp only at h3 h4
   split at h4
   ·rename_i x' y' t t' e1 e2
    simp only [Bool.and_eq_true,beq_iff_eq] at h4
    obtain ⟨⟨⟨h5,h6⟩,rfl⟩,h7⟩:=h4
    have ha:args=#[x',y']:=Array.ext' e1
    have ht:argTypes=#[t,t]:=Array.ext' e2
    subst ha;subst ht
    have hcl:callee=.builtin .append:=by
     split at h3
     ·rfl
     ·cases h3
    subst hcl
    simp only [opW] at hW
    split at hW
    ·rename_i e' k' rows k'' rs e3 e4
     cases x with
     |t n=>
      obtain ⟨hne,rfl,rfl,rfl,hn2,hb,hW⟩:=hW
      exact yVN wf h h1 ho h5 h6 h7 e3 e4 hne hn2 hb hW
     |c p=>exact hW.1.elim
     |f n=>exact hW.1.elim
    ·exact hW.elim
   ·cases h4
  ·cases h2
 |bsl d e k parts=>
  simp only [zD4,Bool.and_eq_true] at hk
  obtain ⟨h1,h2⟩:=hk
  split at h2
  ·rename_i t n ps ho
   simp only [Bool.and_eq_true,beq_iff_eq,decide_eq_true_eq] at h2
   obtain ⟨⟨⟨h3,h4⟩,h5⟩,h6⟩:=h2
   exact yVQ wf h h1 ho h3 h4 h5 h6 hW.1 hW.2
  ·cases h2
 |pan x=>
  simp only [opW] at hW
  split at hW
  ·rename_i ti u' e1
   obtain ⟨hne,hX⟩:=hW
   simp only [zD4] at hk
   split at hk
   ·rename_i c ho
    simp only [Bool.and_eq_true] at hk
    obtain ⟨h3,h4⟩:=hk
    obtain ⟨callee,args,argTypes⟩:=c
    simp only at h3 h4
    split at h4
    ·rename_i y e2
     have ha:args=#[y]:=Array.ext' e2
     subst ha
     have hcl:callee=.builtin .panic:=by
      split at h3
      ·rfl
      ·cases h3
     subst hcl
     exact ySI h (.inl ⟨_,ho⟩) h4 e1 hne (hQ _ _ _ _ hX ⟨m,β,ow,h⟩)
    ·cases h4
   ·rename_i y ho
    exact ySI h (.inr ho) hk e1 hne (hQ _ _ _ _ hX ⟨m,β,ow,h⟩)
   ·cases hk
  ·exact hW.elim
 |nlk d e k=>
  simp only [zD4,Bool.and_eq_true] at hk
  obtain ⟨h1,h2⟩:=hk
  split at h2
  ·rename_i y ho
   exact ySF wf h h1 (.inl ho) h2 hW
  ·rename_i y ho
   exact ySF wf h h1 (.inr ho) h2 hW
  ·cases h2
 |mvk d x=>
  simp only [zD4,Bool.and_eq_true] at hk
  obtain ⟨h1,h2⟩:=hk
  simp only [opW] at hW
  split at hW
  ·rename_i e k rows e1
   split at h2
   ·rename_i y ho
    exact ySG wf h h1 (.inl ho) h2 e1 hW.1 hW.2
   ·rename_i y ho
    exact ySG wf h h1 (.inr ho) h2 e1 hW.1 hW.2
   ·cases h2
  ·exact hW.elim
 |trk d x hi=>
  simp only [zD4,Bool.and_eq_true] at hk
  obtain ⟨h1,h2⟩:=hk
  split at h2
  ·rename_i t y lo' hi' mx ho
   simp only [Bool.and_eq_true,Option.isNone_iff_eq_none] at h2
   obtain ⟨⟨⟨⟨rfl,rfl⟩,h3⟩,h4⟩,h5⟩:=h2
   split at h5
   ·rename_i et he
    obtain ⟨sz,hsz⟩:=Option.isSome_iff_exists.1 h5
    simp only [opW] at hW
    split at hW
    ·rename_i e k rows ik n e1 e2
     obtain ⟨hne,hnd,h6,h7,hW⟩:=hW
     exact yVO wf h h1 ho h3 h4 he hsz e1 e2 hne hnd h6 h7 hW
    ·exact hW.elim
   ·cases h5
  ·cases h2
 |apk d e k x y=>
  simp only [zD4,Bool.and_eq_true] at hk
  obtain ⟨h1,h2⟩:=hk
  split at h2
  ·rename_i c ho
   simp only [Bool.and_eq_true] at h2
   obtain ⟨h3,h4⟩:=h2
   obtain ⟨callee,args,argTypes⟩:=c
   simp only at h3 h4
   split at h4
   ·rename_i x' y' t t' e1 e2
    simp only [Bool.and_eq_true,beq_iff_eq] at h4
    obtain ⟨⟨⟨h5,h6⟩,rfl⟩,h7⟩:=h4
    have ha:args=#[x',y']:=Array.ext' e1
    have ht:argTypes=#[t,t]:=Array.ext' e2
    subst ha;subst ht
    have hcl:callee=.builtin .append:=by
     split at h3
     ·rfl
     ·cases h3
    subst hcl
    simp only [opW] at hW
    split at hW
    ·rename_i e' k' rows k'' rs e3 e4
     obtain ⟨hne,rfl,rfl,rfl,hn2,hb,hW⟩:=hW
     exact yVP wf h h1 ho h5 h6 h7 e3 e4 hne hn2 hb hW
    ·exact hW.elim
   ·cases h4
  ·cases h2
 |vnl d e k=>
  simp only [zD4,Bool.and_eq_true] at hk
  obtain ⟨h1,h2⟩:=hk
  split at h2
  ·rename_i y ho;exact ySJ wf h h1 (.inl ho) h2 hW
  ·rename_i y ho;exact ySJ wf h h1 (.inr ho) h2 hW
  ·cases h2
 |vmv d x=>
  simp only [zD4,Bool.and_eq_true] at hk
  obtain ⟨h1,h2⟩:=hk
  simp only [opW] at hW
  split at hW
  ·rename_i v e1
   split at h2
   ·rename_i y ho;exact ySK wf h h1 (.inl ho) h2 e1 hW.2
   ·rename_i y ho;exact ySK wf h h1 (.inr ho) h2 e1 hW.2
   ·cases h2
  ·exact hW.elim
 |vld d x j base off n agg=>
  simp only [zD4,Bool.and_eq_true] at hk
  obtain ⟨h1,h2⟩:=hk
  split at h2
  ·rename_i t y ho
   simp only [Bool.and_eq_true,beq_iff_eq,Bool.or_eq_true] at h2
   obtain ⟨⟨⟨⟨h3,h4⟩,h5⟩,h6⟩,h7⟩:=h2
   simp only [opW] at hW
   split at hW
   ·rename_i j' off' cs e1 e2
    obtain ⟨rfl,rfl,hW⟩:=hW
    exact yVV wf h h1 ho h3 h4 h5 h6 h7 e1 e2 hW
   ·exact hW.elim
  ·cases h2
 |callo d f x=>
  simp only [zD4] at hk
  simp only [Bool.and_eq_true] at hk
  obtain ⟨h1,h2⟩:=hk
  split at h2
  ·rename_i c ho
   simp only [Bool.and_eq_true] at h2
   obtain ⟨h2,h3⟩:=h2
   split at h2
   ·rename_i g hc
    simp only [beq_iff_eq] at h2
    subst h2
    split at h3
    ·rename_i y hargs
     simp only [opW] at hW
     split at hW
     ·rename_i v e1
      obtain ⟨v',hcon,hW⟩:=hW
      exact yQ2 wf h h1 ho hc hargs h3 e1 hcon hW
     ·exact hW.elim
    ·cases h3
   ·cases h2
  ·cases h2
 |callp d f x=>
  simp only [zD4] at hk
  simp only [Bool.and_eq_true] at hk
  obtain ⟨h1,h2⟩:=hk
  split at h2
  ·rename_i c ho
   simp only [Bool.and_eq_true] at h2
   obtain ⟨h2,h3⟩:=h2
   split at h2
   ·rename_i g hc
    simp only [beq_iff_eq] at h2
    subst h2
    split at h3
    ·rename_i y hargs
     simp only [opW] at hW
     split at hW
     ·rename_i v e1
      obtain ⟨cs,xs,hcon,hfz,hW⟩:=hW
      exact yQ3 wf h h1 ho hc hargs h3 e1 hcon hfz hW
     ·exact hW.elim
    ·cases h3
   ·cases h2
  ·cases h2
 |vbx d j base n x=>
  simp only [zD4,Bool.and_eq_true,decide_eq_true_eq] at hk
  obtain ⟨⟨⟨h1,h2⟩,h3⟩,h4⟩:=hk
  split at h4
  ·rename_i t y ho
   simp only [opW] at hW
   split at hW
   ·rename_i v e1
    exact yVZ wf h h1 h2 ho h4 h3 e1 hW.1 hW.2
   ·exact hW.elim
  ·cases h4
 |vst x j base off n y=>
  simp only [zD4,Bool.and_eq_true] at hk
  obtain ⟨h1,h2⟩:=hk
  split at h2
  ·rename_i t x' y' ho
   simp only [Bool.and_eq_true,beq_iff_eq] at h2
   obtain ⟨⟨⟨h3,h4⟩,h5⟩,h6⟩:=h2
   simp only [opW] at hW
   split at hW
   ·rename_i j' off' v e1 e2
    obtain ⟨rfl,rfl,hn,hW⟩:=hW
    exact yVW wf h (Option.isNone_iff_eq_none.1 h1) ho h3 h4 h5 h6 e1 e2 hn hW
   ·exact hW.elim
  ·cases h2
 |vap d e k x y=>
  simp only [zD4,Bool.and_eq_true] at hk
  obtain ⟨h1,h2⟩:=hk
  split at h2
  ·rename_i c ho
   simp only [Bool.and_eq_true] at h2
   obtain ⟨h3,h4⟩:=h2
   obtain ⟨callee,args,argTypes⟩:=c
   simp only at h3 h4
   split at h4
   ·rename_i x' y' t t' e1 e2
    simp only [Bool.and_eq_true,beq_iff_eq] at h4
    obtain ⟨⟨⟨h5,h6⟩,rfl⟩,h7⟩:=h4
    have ha:args=#[x',y']:=Array.ext' e1
    have ht:argTypes=#[t,t]:=Array.ext' e2
    subst ha;subst ht
    have hcl:callee=.builtin .append:=by
     split at h3
     ·rfl
     ·cases h3
    subst hcl
    simp only [opW] at hW
    split at hW
    ·rename_i pb e' k' rows e3
     obtain ⟨hne,rfl,rfl,hs,hb,hW⟩:=hW
     exact yVY wf h h1 ho h5 h6 h7 e3 hne hs hb hW
    ·exact hW.elim
   ·cases h4
  ·cases h2
 |vbs d e k x=>
  simp only [zD4,Bool.and_eq_true] at hk
  obtain ⟨h1,h2⟩:=hk
  split at h2
  ·rename_i t n ps ho
   simp only [Bool.and_eq_true,beq_iff_eq,decide_eq_true_eq] at h2
   obtain ⟨⟨⟨h3,h4⟩,h5⟩,h6⟩:=h2
   simp only [opW] at hW
   split at hW
   ·rename_i v e1
    exact yVX wf h h1 ho h3 h4 h5 h6 e1 hW.1 hW.2
   ·exact hW.elim
  ·cases h2
 |vle d x r j base pt n agg=>
  simp only [zD4,Bool.and_eq_true] at hk
  obtain ⟨⟨⟨h1,h2⟩,_⟩,h3⟩:=hk
  split at h3
  ·rename_i t y ho
   simp only [Bool.and_eq_true,beq_iff_eq,Bool.or_eq_true] at h3
   exact yVT wf h h1 h2 ho h3.1.1.1 h3.1.1.2 h3.1.2 h3.2 hW
  ·cases h3
 |vlp d x r j base pt n agg=>
  simp only [zD4,Bool.and_eq_true] at hk
  obtain ⟨⟨⟨h1,h2⟩,_⟩,h3⟩:=hk
  split at h3
  ·rename_i t y ho
   simp only [Bool.and_eq_true,beq_iff_eq,Bool.or_eq_true] at h3
   exact yVR wf h h1 h2 ho h3.1.1.1 h3.1.1.2 h3.1.2 h3.2 hW
  ·cases h3
 |vlh d x r j base pt=>
  simp only [zD4,Bool.and_eq_true] at hk
  obtain ⟨⟨⟨h1,h2⟩,_⟩,h3⟩:=hk
  split at h3
  ·rename_i t y ho
   simp only [Bool.and_eq_true,beq_iff_eq] at h3
   exact yVS wf h h1 h2 ho h3.1.1 h3.1.2 h3.2 hW
  ·cases h3
 |vse x r j base pt n y=>
  simp only [zD4,Bool.and_eq_true] at hk
  obtain ⟨⟨⟨h1,h2⟩,_⟩,h3⟩:=hk
  split at h3
  ·rename_i t x' y' ho
   simp only [Bool.and_eq_true,beq_iff_eq] at h3
   exact yVU wf h (Option.isNone_iff_eq_none.1 h1) h2 ho h3.1.1 h3.1.2 h3.2 hW
  ·cases h3
 |mmk d=>
  simp only [zD4,Bool.and_eq_true] at hk
  obtain ⟨h1,h2⟩:=hk
  split at h2
  ·rename_i t r ho
   have hr:r=none:=Option.isNone_iff_eq_none.1 h2
   subst hr
   exact yV0 wf h h1 ho hW
  ·cases h2
 |mps x r kk k y=>
  simp only [zD4,Bool.and_eq_true,decide_eq_true_eq] at hk
  obtain ⟨⟨h1,h0⟩,h2⟩:=hk
  split at h2
  ·rename_i t m' k' y' ho
   simp only [Bool.and_eq_true] at h2
   exact ySM wf h (Option.isNone_iff_eq_none.1 h1) h0 (.inl ho) h2.1.1.1 h2.1.1.2 h2.1.2 h2.2 hW
  ·rename_i t m' k' y' ho
   simp only [Bool.and_eq_true] at h2
   exact ySM wf h (Option.isNone_iff_eq_none.1 h1) h0 (.inr ho) h2.1.1.1 h2.1.1.2 h2.1.2 h2.2 hW
  ·cases h2
 |mpv d x r kk k e kw=>
  simp only [zD4,Bool.and_eq_true,decide_eq_true_eq] at hk
  obtain ⟨⟨h1,h0⟩,h2⟩:=hk
  split at h2
  ·rename_i t m' k' ok' ho
   simp only [Bool.and_eq_true,Bool.not_eq_true'] at h2
   obtain ⟨⟨⟨⟨rfl,h3⟩,h4⟩,h5⟩,h6⟩:=h2
   exact yV1 wf h h1 h0 ho h3 h4 h5 h6 hW
  ·cases h2
 |mrg d x r=>
  simp only [zD4,Bool.and_eq_true,decide_eq_true_eq] at hk
  obtain ⟨⟨h1,h0⟩,h2⟩:=hk
  split at h2
  ·rename_i t y ho
   simp only [Bool.and_eq_true] at h2
   obtain ⟨h3,h4⟩:=h2
   split at h4
   ·rename_i kt et hu
    exact yV2 wf h h1 h0 ho h3 hu hW
   ·cases h4
  ·cases h2
 |mnx d it r=>
  simp only [zD4,Bool.and_eq_true,decide_eq_true_eq] at hk
  obtain ⟨⟨h1,h0⟩,h2⟩:=hk
  split at h2
  ·rename_i y s ho
   simp only [Bool.and_eq_true,Bool.not_eq_true'] at h2
   obtain ⟨rfl,h3⟩:=h2
   exact yV4 wf h h1 h0 ho h3 hW
  ·cases h2
 |men d it r=>
  simp only [zD4,Bool.and_eq_true,decide_eq_true_eq] at hk
  obtain ⟨⟨h1,h0⟩,h2⟩:=hk
  split at h2
  ·rename_i y ho
   exact yV3 wf h h1 h0 ho h2 hW
  ·cases h2
 |cpy d e k r x y=>
  simp only [zD4,Bool.and_eq_true,decide_eq_true_eq] at hk
  obtain ⟨⟨h1,h0⟩,h2⟩:=hk
  split at h2
  ·rename_i c ho
   simp only [Bool.and_eq_true] at h2
   obtain ⟨h3,h4⟩:=h2
   split at h4
   ·rename_i x' y' t t' hargs hts
    simp only [Bool.and_eq_true,beq_iff_eq] at h4
    have hc:c.callee=.builtin .copy:=by
     split at h3
     ·assumption
     ·cases h3
    exact yV5 wf h h1 h0 ho hc hargs hts h4.1.1.1 h4.1.1.2 h4.1.2 h4.2 hW
   ·cases h4
  ·cases h2
 |cals d f r x args=>
  simp only [zD4,Bool.and_eq_true,decide_eq_true_eq] at hk
  obtain ⟨⟨⟨h1,h9⟩,h0⟩,h2⟩:=hk
  split at h2
  ·rename_i c ho
   simp only [Bool.and_eq_true] at h2
   obtain ⟨h3,h4⟩:=h2
   split at h4
   ·rename_i y ys hargs
    simp only [Bool.and_eq_true] at h4
    have hc:c.callee=.value (.func f):=by
     split at h3
     ·rename_i g hg
      rw [hg,show g=f by simpa using h3]
     ·cases h3
    exact yTE wf h h1 h0 ho hc hargs h4.1 h4.2 hW
   ·cases h4
  ·cases h2
 |vow d v off e k=>
  simp only [zD4,Bool.and_eq_true] at hk
  obtain ⟨g1,g2,g3⟩:=hW
  exact yV6 wf h hk.1 hk.2 g1 g2 g3
 |isn d ng x=>
  simp only [zD4,Bool.and_eq_true] at hk
  obtain ⟨h1,h2⟩:=hk
  split at h2
  ·rename_i op' t x' t' ho
   simp only [Bool.and_eq_true,decide_eq_true_eq] at h2
   obtain ⟨⟨h3,h4⟩,h5⟩:=h2
   simp only [opW] at hW
   split at hW
   ·rename_i k rows e1
    exact ySH wf h h1 ho h3 h4 h5 (.inl e1) hW.1 fun b hb _=>hW.2 b hb
   ·rename_i k e1
    exact ySH wf h h1 ho h3 h4 h5 (.inr ⟨e1,rfl⟩) hW.1 fun b _ hb=>by rw [hb e1];simpa using hW.2
   ·exact hW.elim
  ·cases h2
def yNg (P:Program) (E:Env) (ops:Array Oper) (h:HO) (o:Oper):Bool:=
 zD4 P E h.op o.op o.dst&&(match h.g,o.guard with
  |none,none=>true
  |some (s,b),some (j,b')=>b==b'&&((ops[j]?).bind (·.dst))==some s&&decide (s < E.N)&&(match h.op with|.val _ _=>true|.call (some _) _ args=>ySz args|.callv (some _) _ args=>ySz args|.vlp _ _ _ _ _ _ _ _=>true|.callg _ _ _=>true|_=>false)
  |_,_=>false)
theorem zT6 (h:InvG E S m β ow F a w) {ops:Array Oper} {o:Oper} {s j:Nat} {pol:Bool} (hg:o.guard=some (j,pol)) (hj:(ops[j]?).bind (·.dst)=some s) (hs:s < E.N) {T:Bool} (hT:zEh F (s,pol)=some T):Region.wanted o (yielded ops a.tmps)=T:=by
 have hslot:=h.slots s hs
 have hsz:s < a.tmps.size:=by rw [h.lenA];exact hs
 have hget:a.tmps[s]?=some (a.tmps.getD s undef):=zMM hsz
 unfold zEh at hT
 simp only at hT
 unfold Region.wanted yielded
 rw [hg]
 simp only [hj,Option.bind_some,hget]
 split at hT
 ·rename_i t e1
  rw [e1] at hslot
  have hv:a.tmps.getD s undef=.bool t:=hslot.1
  rw [hv]
  simp only [Option.some.injEq] at hT
  rw [←hT]
  cases t<;>cases pol<;>rfl
 ·rename_i t1 t e1
  rw [e1] at hslot
  simp only [Option.some.injEq] at hT
  rw [←hT]
  cases t1 with
  |true=>
   have hv:a.tmps.getD s undef=.bool t:=(hslot.1 rfl).1
   rw [hv]
   cases t<;>cases pol<;>rfl
  |false=>
   have hv:=hslot.2 rfl
   rw [hv]
   rfl
 ·cases hT
theorem yCy (wf:E.Wf) (h:InvG E S m β ow F a w) {ops:Array Oper} {i:Nat} {ho:HO} {o:Oper} (hi:ops[i]?=some o) (hk:yNg P E ops ho o=true) {K:List Ct→Prop} {X:Value→List Ct→Prop} {Q:Exit→Act→World→Prop}
  (hQ:∀ v F' a' w',X v F'→Inv E S F' a' w'→Q (.panic [{v,recovered:=false}]) a' w') (hW:hoW P ho F K X):wpOp P ops Q i (zFb E S K) a w:=by
 unfold wpOp
 rw [hi]
 simp only
 obtain ⟨g,op⟩:=ho
 simp only [yNg,Bool.and_eq_true] at hk
 obtain ⟨hk1,hk2⟩:=hk
 cases g with
 |none=>
  have hgn:o.guard=none:=by
   cases hg:o.guard with
   |none=>rfl
   |some x=>rw [hg] at hk2;cases hk2
  have hw:Region.wanted o (yielded ops a.tmps)=true:=by simp [Region.wanted,hgn]
  rw [if_pos hw]
  exact .inl (zHa wf h hk1 hQ hW)
 |some sp=>
  obtain ⟨s,pol⟩:=sp
  cases hg:o.guard with
  |none=>rw [hg] at hk2;cases hk2
  |some jb=>
   obtain ⟨j,b'⟩:=jb
   rw [hg] at hk2
   simp only [Bool.and_eq_true,beq_iff_eq,decide_eq_true_eq] at hk2
   obtain ⟨⟨⟨rfl,hj⟩,hs⟩,hop⟩:=hk2
   simp only [hoW] at hW
   split at hW
   ·exact hW.elim
   ·rename_i T hT
    rw [zT6 h hg hj hs hT]
    have hskip:∀ (d:Nat) (x:PVal),o.dst=some d→d < E.N→T=false→K (F.set d (.gd T x))→zFb E S K (a.put o.dst undef) w:=by
     intro d x hd hdN hTf hK
     subst hTf
     refine ⟨_,hK,m,β,ow,?_⟩
     rw [hd]
     exact h.slot wf hdN ⟨fun h'=>(by cases h'),fun _=>rfl⟩
    cases op with
    |val d v=>
     simp only at hW
     simp only [zD4,Bool.and_eq_true] at hk1
     obtain ⟨hd1,hd2⟩:=zAp hk1.1
     split at hW
     ·rename_i x e1
      obtain ⟨hc,hK⟩:=hW
      cases hTT:T with
      |true=>
       subst hTT
       rw [if_pos rfl]
       exact .inl (yTz wf h hk1.1 hk1.2 e1 (hc rfl) hK)
      |false=>
       rw [if_neg (by simp)]
       exact hskip d x hd1 hd2 hTT hK
     ·split at hW
      ·rw [if_pos rfl]
       exact .inl (zHa (ho:=.val d v) wf h (by simp only [zD4,Bool.and_eq_true];exact hk1) (X:=X) hQ hW)
      ·rw [if_neg (by simp)]
       exact hskip d (bv false) hd1 hd2 rfl hW
    |call d f args=>
     cases d with
     |none=>simp at hop
     |some d=>
      simp only at hW hop
      obtain ⟨hc,x,hcon,hK⟩:=hW
      have hk1':=hk1
      simp only [zD4] at hk1'
      split at hk1'
      ·rename_i c hoc
       simp only [Bool.and_eq_true] at hk1'
       obtain ⟨hd1,hd2⟩:=zAp hk1'.1.1
       cases hTT:T with
       |true=>
        subst hTT
        rw [if_pos rfl]
        left
        have hown:=yCx hop
        refine Oper.wp_mono (K:=zFb E S (fun F'=>F'=F.set d (.pv x))) ?_ (zHa wf h hk1 (X:=X) hQ ?_)
        ·rintro a' w' ⟨F',rfl,m',β',ow',h'⟩
         refine ⟨_,hK,m',β',ow',?_⟩
         have hdL:d < F.length:=by rw [h.lenF];exact Nat.lt_of_lt_of_le hd2 wf.le
         have h2:=h'.forget wf hd2 (c:=.gd true x) (fun u hu=>by
          rw [zAG hdL,if_pos rfl] at hu
          exact ⟨fun _=>hu,fun h''=>(by cases h'')⟩)
         rwa [List.set_set] at h2
        ·simp only [opW,zQP]
         refine ⟨hc rfl,_,hcon rfl,?_⟩
         simp only [yLI,yCo,yXC,zAX,hown.1,hown.2,zEN,zJM]
       |false=>
        rw [if_neg (by simp)]
        exact hskip d x hd1 hd2 hTT hK
      ·cases hk1'
    |callv d y args=>
     cases d with
     |none=>simp at hop
     |some d=>
      simp only at hW hop
      split at hW
      ·rename_i f caps e1
       obtain ⟨hc,x,hcon,hK⟩:=hW
       have hk1':=hk1
       simp only [zD4] at hk1'
       split at hk1'
       ·rename_i c hoc
        simp only [Bool.and_eq_true] at hk1'
        obtain ⟨hd1,hd2⟩:=zAp hk1'.1.1.1
        cases hTT:T with
        |true=>
         subst hTT
         rw [if_pos rfl]
         left
         have hown:=yCx hop
         refine Oper.wp_mono (K:=zFb E S (fun F'=>F'=F.set d (.pv x))) ?_ (zHa wf h hk1 (X:=X) hQ ?_)
         ·rintro a' w' ⟨F',rfl,m',β',ow',h'⟩
          refine ⟨_,hK,m',β',ow',?_⟩
          have hdL:d < F.length:=by rw [h.lenF];exact Nat.lt_of_lt_of_le hd2 wf.le
          have h2:=h'.forget wf hd2 (c:=.gd true x) (fun u hu=>by
           rw [zAG hdL,if_pos rfl] at hu
           exact ⟨fun _=>hu,fun h''=>(by cases h'')⟩)
          rwa [List.set_set] at h2
         ·simp only [opW,e1,zQP]
          refine ⟨(hc rfl).1,(hc rfl).2,_,hcon rfl,?_⟩
          simp only [yLI,yCo,yXC,zAX,hown.1,hown.2,zEN,zJM]
        |false=>
         rw [if_neg (by simp)]
         exact hskip d x hd1 hd2 hTT hK
       ·cases hk1'
      ·exact hW.elim
    |callg d f args=>
     simp only at hW
     cases hTT:T with
     |true=>
      subst hTT
      rw [if_pos rfl]
      exact .inl (zHa (ho:=.callg d f args) wf h hk1 (X:=X) hQ hW)
     |false=>
      subst hTT
      rw [if_neg (by simp)]
      simp only [zD4] at hk1
      split at hk1
      ·simp only [Bool.and_eq_true] at hk1
       obtain ⟨hd1,hd2⟩:=zAp hk1.1.1
       exact hskip d (bv false) hd1 hd2 rfl hW
      ·cases hk1
    |vlp d x r j' base pt n agg=>
     simp only at hW
     cases hTT:T with
     |true=>
      subst hTT
      rw [if_pos rfl]
      exact .inl (zHa (ho:=.vlp d x r j' base pt n agg) wf h hk1 (X:=X) hQ hW)
     |false=>
      subst hTT
      rw [if_neg (by simp)]
      simp only [zD4,Bool.and_eq_true] at hk1
      obtain ⟨hd1,hd2⟩:=zAp hk1.1.1.1
      exact hskip d (bv false) hd1 hd2 rfl hW
    |_=>simp at hop
def zEK (P:Program) (E:Env) (ops:Array Oper):List HO→List Oper→Bool
 |[],[]=>true
 |h::hs,o::os=>yNg P E ops h o&&zEK P E ops hs os
 |_,_=>false
theorem zT7 (wf:E.Wf) {ops:Array Oper} {K:List Ct→Prop} {X:Value→List Ct→Prop} {Q:Exit→Act→World→Prop}
  (hQ:∀ v F' a' w',X v F'→Inv E S F' a' w'→Q (.panic [{v,recovered:=false}]) a' w') (hN:∀ F' a' w',K F'→Inv E S F' a' w'→Q .normal a' w'):
  ∀ (hs:List HO) (os:List Oper) (k:Nat),(∀ i o,os[i]?=some o→ops[k+i]?=some o)→zEK P E ops hs os=true→∀ (F:List Ct) (a:Act) (w:World),Inv E S F a w→yTy P hs F K X→wpOps P ops Q (List.range' k os.length) a w
 |[],[],k,_,_,F,a,w,hI,hW=>hN F a w hW hI
 |[],_::_,_,_,hk,_,_,_,_,_=>by simp [zEK] at hk
 |_::_,[],_,_,hk,_,_,_,_,_=>by simp [zEK] at hk
 |h::hs,o::os,k,hi,hk,F,a,w,hI,hW=>by
  simp only [zEK,Bool.and_eq_true] at hk
  obtain ⟨m,β,ow,hG⟩:=hI
  have h0:ops[k]?=some o:=by simpa using hi 0 o rfl
  simp only [List.length_cons,List.range'_succ]
  rw [wpOps_cons]
  refine wpOp_mono ?_ (yCy wf hG h0 hk.1 hQ hW)
  rintro a' w' ⟨F',hK',hI'⟩
  exact zT7 wf hQ hN hs os (k+1) (fun i o' ho'=>by
   have:=hi (i+1) o' (by simpa using ho')
   rw [show k+1+i=k+(i+1) by omega];exact this) hk.2 F' a' w' hI' hK'
end
end Go.Hx
end
