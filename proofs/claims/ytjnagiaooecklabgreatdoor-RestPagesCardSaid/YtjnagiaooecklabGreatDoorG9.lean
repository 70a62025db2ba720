/-
  Walks of functions of the program over an abstract layer, and the laws that they use: each contract says what the function computes, for every input that its conditions let by. No other condition.
-/
import Derived.Test.YtjnagiaooecklabGreatDoorG8
import Derived.Deep.Quiet
set_option linter.all false
section
namespace Go.Hx
open Go.RowKit
variable [Glob]
section
variable {P:Program} {E:Env} {S:Start} {m:Mem} {β:Bx} {ow:Ow} {F:List Ct} {a:Act} {w:World}
def yQK:List HO→List Nat
 |[]=>[]
 |o::os=>(match o.op with|.val d _=>[d]|.call (some d) _ _=>[d]|_=>[])++yQK os
def QEnd (E:Env) (S:Start) (m:Mem) (β:Bx) (ow:Ow) (w:World) (ds:List Nat) (a:Act) (K:List Ct→Prop) (a':Act):Prop:=
 ∃ F1,K F1∧InvG E S m β ow F1 a' w∧∀ i,i∉ds→a'.tmps.getD i undef=a.tmps.getD i undef
theorem yBm (h:InvG E S m β ow F a w) {d:Nat} {f:Nat} {args:List (Opd×AM)} {o:Oper} (hk:zD4 P E (.call (some d) f args) o.op o.dst=true) (hv:ySz args=true) (hc:(zBR F args).1) {x:Value}
  (hcon:Contract P f (zBR F args).2 {res:=.val (.one (.v x))}):(∀ w',Gr w w'→o.quietAt P a (Gr w) w' x)∧o.dst=some d∧d < E.N∧zFI x=true:=by
 simp only [zD4] at hk
 split at hk
 ·rename_i c ho
  simp only [Bool.and_eq_true] at hk
  obtain ⟨⟨h1,h2⟩,h3⟩:=hk
  obtain ⟨hd1,hd2⟩:=zAp h1
  split at h2
  ·rename_i g hcal
   simp only [beq_iff_eq] at h2
   subst h2
   have main:∀ w',Gr w w'→o.quietAt P a (Gr w) w' x∧zFI x=true:=?_
   ·exact ⟨fun w' hg=>(main w' hg).1,hd1,hd2,(main w (Pres.refl _ w)).2⟩
   intro w' hg
   have h':=h.gr hg
   obtain ⟨r1,r2,r3,r4,r5⟩:=zFt h' h3 hc
   have hrun:=zIO (P:=P) (a:=a) (w:=w') ho hcal (us:=[]) (x:=.func _) rfl hcon.1
   have hown:=yCx hv
   have ho1:zIJ (zBR F args).2 (c.args.toList.map a.eval)=none:=by
    cases hb:zIJ (zBR F args).2 (c.args.toList.map a.eval) with
    |none=>rfl
    |some g=>
     obtain ⟨n,e,k,rows,h5,_⟩:=r2 g hb
     rw [hown.1] at h5;cases h5
   have ho2:ioB (zBR F args).2 (c.args.toList.map a.eval)=none:=by
    cases hb:ioB (zBR F args).2 (c.args.toList.map a.eval) with
    |none=>rfl
    |some g=>
     obtain ⟨j,base,sz,h5,_⟩:=r4 g hb
     rw [hown.2] at h5;cases h5
   have hcall:=hcon.2 m w' _ h'.mem r1 (fun g hg=>by rw [ho1] at hg;cases hg) h'.glob (by rintro b (hb|hb);rw [ho1] at hb;cases hb;rw [ho2] at hb;cases hb)
   obtain ⟨e,w'',fr,hp,_⟩:=hcall []
   have hfl:zFI x=true:=by
    obtain ⟨m',c1,c2,c3,c4,c5,c6⟩:=hp
    obtain ⟨u,hu,hr⟩:=c6
    exact hr.2
   refine ⟨?_,hfl⟩
   unfold Oper.quietAt
   rw [hrun]
   simp only [Oper.quietUpon]
   refine ⟨trivial,?_⟩
   rw [List.append_nil]
   refine Calls.mono hcall ?_
   rintro e w'' ⟨m',c1,c2,c3,c4,c5,c6⟩
   obtain ⟨u,hu,hr⟩:=c6
   have hux:u=x:=hr.1
   subst hux
   refine ⟨hu,hg.trans (c3.mono fun b hb hr=>?_)⟩
   rcases hr with hr|hr
   ·rw [ho1] at hr;cases hr
   ·rw [ho2] at hr;cases hr
  ·cases h2
 ·cases hk
theorem yQ4 {d i:Nat} {u:Value} (h:i≠d):(a.put (some d) u).tmps.getD i undef=a.tmps.getD i undef:=by
 simp only [Act.put]
 rw [zOy,if_neg (fun e=>h e.1.symm)]
theorem QEnd.step {ds:List Nat} {d:Nat} {u:Value} {K:List Ct→Prop} {a':Act} (h:QEnd E S m β ow w ds (a.put (some d) u) K a'):QEnd E S m β ow w (d::ds) a K a':=by
 obtain ⟨F1,h1,h2,h3⟩:=h
 refine ⟨F1,h1,h2,fun i hi=>?_⟩
 rw [h3 i (fun g=>hi (List.mem_cons_of_mem _ g)),yQ4 (fun e=>hi (by rw [e];exact List.mem_cons_self))]
theorem zGo {ops:Array Oper} {C:World→Prop} {Q Q':Act→Prop} (hq:∀ a,Q a→Q' a):∀ (l:List Oper) (a:Act),wpQuiet P ops C Q l a→wpQuiet P ops C Q' l a
 |[],a,h=>hq a h
 |o::l,a,h=>by
  unfold wpQuiet at h ⊢
  split
  ·rename_i hw
   rw [if_pos hw] at h
   exact Oper.quiet_mono (fun a ha=>zGo hq l a ha) h
  ·rename_i hw
   rw [if_neg hw] at h
   exact zGo hq l _ h
theorem yBn (wf:E.Wf) {ops:Array Oper} {K:List Ct→Prop}:∀ (hs:List HO) (os:List Oper),(∀ o∈hs,o.quiet=true)→zEK P E ops hs os=true→∀ (F:List Ct) (a:Act),InvG E S m β ow F a w→ySA P hs F K→
  wpQuiet P ops (Gr w) (QEnd E S m β ow w (yQK hs) a K) os a
 |[],[],_,_,F,a,hI,hW=>⟨F,hW,hI,fun _ _=>rfl⟩
 |[],_::_,_,hk,_,_,_,_=>by simp [zEK] at hk
 |_::_,[],_,hk,_,_,_,_=>by simp [zEK] at hk
 |ho::hs,o::os,hq,hk,F,a,h,hW=>by
  simp only [zEK,Bool.and_eq_true] at hk
  obtain ⟨hk1,hk2⟩:=hk
  have hq1:=hq ho List.mem_cons_self
  have hq2:∀ o∈hs,o.quiet=true:=fun x hx=>hq x (List.mem_cons_of_mem _ hx)
  obtain ⟨g,op⟩:=ho
  simp only [yNg,Bool.and_eq_true] at hk1
  obtain ⟨hk1,hk3⟩:=hk1
  simp only [ySA,quW] at hW
  unfold wpQuiet
  have go:∀ (d:Nat) (u:Value) (c:Ct),yQK (⟨g,op⟩::hs)=d::yQK hs→d < E.N→CtRep m w β ow d c u→ySA P hs (F.set d c) K→wpQuiet P ops (Gr w) (QEnd E S m β ow w (yQK (⟨g,op⟩::hs)) a K) os (a.put (some d) u):=by
   intro d u c hds hd hc hK
   rw [hds]
   exact zGo (fun a' h'=>h'.step) os _ (yBn wf hs os hq2 hk2 _ _ (h.slot wf hd hc) hK)
  cases g with
  |none=>
   have hgn:o.guard=none:=by
    cases hg:o.guard with
    |none=>rfl
    |some x=>rw [hg] at hk3;cases hk3
   have hw:Region.wanted o (yielded ops a.tmps)=true:=by simp [Region.wanted,hgn]
   rw [if_pos hw]
   cases op with
   |val d v=>
    simp only [HO.quiet] at hq1
    simp only at hW
    simp only [zD4,Bool.and_eq_true] at hk1
    obtain ⟨hd1,hd2⟩:=zAp hk1.1
    obtain ⟨u,hr,hrep⟩:=yJa h v o hk1.2 d hW.1 hq1
    refine ⟨u,fun w' hg=>?_,?_⟩
    ·unfold Oper.quietAt;rw [hr w' hg];exact ⟨rfl,rfl⟩
    ·rw [hd1];exact go d u _ rfl hd2 hrep hW.2
   |call d f args=>
    cases d with
    |none=>simp [HO.quiet] at hq1
    |some d=>
     simp only [HO.quiet] at hq1
     simp only at hW
     obtain ⟨hc,x,hcon,hK⟩:=hW
     obtain ⟨h1,h2,h3,h4⟩:=yBm h hk1 hq1 hc hcon
     refine ⟨x,h1,?_⟩
     rw [h2];exact go d x (.pv (.one (.v x))) rfl h3 ⟨rfl,h4⟩ hK
   |_=>simp [HO.quiet] at hq1
  |some sp=>
   obtain ⟨s,pol⟩:=sp
   cases hg:o.guard with
   |none=>rw [hg] at hk3;cases hk3
   |some jb=>
    obtain ⟨j,b'⟩:=jb
    rw [hg] at hk3
    simp only [Bool.and_eq_true,beq_iff_eq,decide_eq_true_eq] at hk3
    obtain ⟨⟨⟨rfl,hj⟩,hs'⟩,hop⟩:=hk3
    cases op with
    |val d v=>
     simp only [HO.quiet] at hq1
     simp only at hW
     simp only [zD4,Bool.and_eq_true] at hk1
     obtain ⟨hd1,hd2⟩:=zAp hk1.1
     split at hW
     ·exact hW.elim
     ·rename_i T hT
      rw [zT6 h hg hj hs' hT]
      split at hW
      ·rename_i x e1
       obtain ⟨hc,hK⟩:=hW
       cases hTT:T with
       |true=>
        subst hTT
        rw [if_pos rfl]
        obtain ⟨u,hr,hrep⟩:=yJa h v o hk1.2 d (hc rfl) hq1
        rw [e1] at hrep
        refine ⟨u,fun w' hg=>?_,?_⟩
        ·unfold Oper.quietAt;rw [hr w' hg];exact ⟨rfl,rfl⟩
        ·rw [hd1];exact go d u (.gd true x) rfl hd2 ⟨fun _=>hrep,(fun h=>by cases h)⟩ hK
       |false=>
        subst hTT
        rw [if_neg (by simp),hd1]
        exact go d undef (.gd false x) rfl hd2 ⟨(fun h=>by cases h),fun _=>rfl⟩ hK
      ·obtain ⟨hTT,hK⟩:=hW
       subst hTT
       rw [if_neg (by simp),hd1]
       exact go d undef (.gd false (bv false)) rfl hd2 ⟨(fun h=>by cases h),fun _=>rfl⟩ hK
    |call d f args=>
     cases d with
     |none=>simp [HO.quiet] at hq1
     |some d=>
      simp only [HO.quiet] at hq1
      simp only at hW
      split at hW
      ·exact hW.elim
      ·rename_i T hT
       rw [zT6 h hg hj hs' hT]
       obtain ⟨hc,x,hcon,hK⟩:=hW
       cases hTT:T with
       |true=>
        subst hTT
        rw [if_pos rfl]
        obtain ⟨h1,h2,h3,h4⟩:=yBm h hk1 hq1 (hc rfl) (hcon rfl)
        refine ⟨x,h1,?_⟩
        rw [h2];exact go d x (.gd true (.one (.v x))) rfl h3 ⟨fun _=>⟨rfl,h4⟩,(fun h=>by cases h)⟩ hK
       |false=>
        subst hTT
        have hk1':=hk1
        simp only [zD4] at hk1'
        split at hk1'
        ·rename_i c hoc
         simp only [Bool.and_eq_true] at hk1'
         obtain ⟨hd1,hd2⟩:=zAp hk1'.1.1
         rw [if_neg (by simp),hd1]
         exact go d undef (.gd false (.one (.v x))) rfl hd2 ⟨(fun h=>by cases h),fun _=>rfl⟩ hK
        ·cases hk1'
    |_=>simp [HO.quiet] at hq1
def dkQ (P:Program):Array Oper→List HO→Bool:=fun ops hs=>P.follows .mixedOrders&&Region.lexB .any ops&&hs.all HO.quiet
theorem zLu {ops:Array Oper} {C:World→Prop} {Qa:Act→Prop} {Q:Exit→Act→World→Prop} (hQ:∀ a w,C w→Qa a→Q .normal a w):
  ∀ (l:List Oper) (k:Nat) (a:Act) (w:World),(∀ j,l[j]?=ops[k+j]?)→C w→wpQuiet P ops C Qa l a→wpOps P ops Q (List.range' k l.length) a w
 |[],k,a,w,_,hC,h=>hQ a w hC h
 |o::l,k,a,w,hl,hC,h=>by
  have h0:ops[k]?=some o:=by simpa using (hl 0).symm
  have hst:qOp P ops C k (wpQuiet P ops C Qa l) a:=by unfold qOp;simp only [h0];exact h
  rw [List.length_cons,List.range'_succ]
  rw [wpOps_cons]
  refine wpOp_of_qOp hC (fun a' w' hC' h'=>?_) hst
  exact zLu hQ l (k+1) a' w' (fun j=>by have:=hl (j+1);simpa [Nat.add_assoc,Nat.add_comm 1 j] using this) hC' h'
theorem zQe (wf:E.Wf) {ops:Array Oper} {hs:List HO} {draw:Bool} {K:List Ct→Prop} {Q:Exit→Act→World→Prop} {id:Nat} (hd:draw=true→dkQ P ops hs=true) (hq:∀ o∈hs,o.quiet=true) (hk:zEK P E ops hs ops.toList=true)
  (h:InvG E S m β ow F a w) (hW:ySA P hs F K) (hQ:∀ a' w',Gr w w'→QEnd E S m β ow w (yQK hs) a K a'→Q .normal a' w'):(Code.region id ops draw).wp P Q a w:=by
 have hw:=yBn wf hs ops.toList hq hk F a h hW
 cases draw with
 |true=>
  have hd:=hd rfl
  simp only [dkQ,Bool.and_eq_true] at hd
  refine wp_region_quiet (C:=Gr w) hd.1.1 hd.1.2 (Pres.drew _ w) (zGo ?_ _ _ hw)
  exact fun a' h' w' hg=>hQ a' w' hg h'
 |false=>
  refine wp_region ?_
  have:=zLu (Q:=Q) (fun a' w' hg h'=>hQ a' w' hg h') ops.toList 0 a w (by simp) (Pres.refl _ w) hw
  rw [Array.length_toList] at this
  rwa [List.range_eq_range']
def yQ5:Ct→Ct
 |.pv (.one (.v x))=>.pv (.one (.v x))
 |_=>.un
def yJi (F F1:List Ct):List Nat→List Ct
 |[]=>F
 |d::ds=>yJi (F.set d (yQ5 (F1.getD d .un))) F1 ds
theorem zT8 (F1:List Ct):∀ (ds:List Nat) (F:List Ct),(yJi F F1 ds).length=F.length
 |[],_=>rfl
 |d::ds,F=>by simp only [yJi];rw [zT8 F1 ds];simp
theorem zT9 (F1:List Ct):∀ (ds:List Nat) (F:List Ct) (i:Nat),i < F.length→(yJi F F1 ds).getD i .un=if i∈ds then yQ5 (F1.getD i .un) else F.getD i .un
 |[],F,i,_=>by simp [yJi]
 |d::ds,F,i,hi=>by
  simp only [yJi]
  rw [zT9 F1 ds _ i (by simpa using hi),zBm]
  by_cases h1:i∈ds
  ·rw [if_pos h1,if_pos (List.mem_cons_of_mem _ h1)]
  ·rw [if_neg h1]
   by_cases h2:d=i
   ·subst h2
    rw [if_pos ⟨rfl,hi⟩,if_pos List.mem_cons_self]
   ·rw [if_neg (fun g=>h2 g.1),if_neg (by simp [h1];omega)]
theorem yNh (wf:E.Wf) (h:InvG E S m β ow F a w) {i e k:Nat} {rows:List (List PV)} (hi:i < E.N) (hx:F.getD i .un=.stk e k rows):∃ m',InvG E S m' β ow (F.set i (.own e k rows)) a w:=by
 have hrep:=h.slots i hi
 rw [hx] at hrep
 obtain ⟨⟨xs,hown,hv1⟩,hv2,hv3⟩:=hrep
 have hL:=h.lenF
 have hle2:=wf.le
 let v:=a.tmps.getD i undef
 let m':Mem:=fun b j=>if v.ownBlock=some b then xs[j]? else m b j
 have hle:m.le m':=by
  intro b j u hu
  simp only [m']
  rw [if_neg (fun hb=>by rw [(hv3 b hb).2 j] at hu;cases hu)]
  exact hu
 have st:Step (fun t=>t=.key i) m m' w w ow ow:=by
  refine ⟨hle,fun g t hg hX=>⟨rfl,fun j=>?_,hg⟩⟩
  simp only [m']
  rw [if_neg]
  intro hb
  rw [(hv3 g hb).1] at hg
  exact hX (Option.some.inj hg).symm
 refine ⟨m',h.step st (by simp) rfl rfl ?_ ?_ ?_ (Pres.refl _ _) h.own h.lt ?_⟩
 ·intro j hj
  rw [zAG (by omega)]
  by_cases h1:i=j
  ·subst h1
   right
   rw [if_pos rfl]
   refine ⟨⟨xs,hown⟩,fun g hg=>⟨(hv3 g hg).1,?_,fun o ho=>?_⟩⟩
   ·refine RpRows.of_flat (us:=xs) hv2 (RpL.mono hle _ _ hv1) fun j u hu=>?_
    simp only [m',Nat.zero_add]
    rw [if_pos hg]
    exact hu
   ·simp only [m']
    rw [if_pos hg]
    exact List.getElem?_eq_none (by rw [hown.1];exact ho)
  ·left
   rw [if_neg h1]
   exact ⟨rfl,rfl,.inl (by intro h3;injection h3;omega)⟩
 ·intro j bn hj
  left
  have:=wf.lo j bn hj
  refine ⟨(by intro h3;cases h3),fun o ho=>⟨?_,by intro h3;injection h3;omega⟩⟩
  rw [zAG (by omega),if_neg (by omega)]
 ·intro b j u hu
  simp only [m'] at hu
  split at hu
  ·rename_i hb
   exact zTL hown hb hu
  ·exact h.mem b j u hu
 ·intro b j u hu
  simp only [m'] at hu
  split at hu
  ·rename_i hb
   exact .inr (h.own b _ (hv3 b hb).1)
  ·exact .inl hu
theorem yQ6 (wf:E.Wf) {m':Mem} {F1:List Ct} {a':Act} {ds:List Nat} (h:InvG E S m β ow F a w) (h1:InvG E S m' β ow F1 a' w) (hds:∀ d∈ds,d < E.N) (he:∀ i,i∉ds→a'.tmps.getD i undef=a.tmps.getD i undef):
  InvG E S m β ow (yJi F F1 ds) a' w where
 lenF:=by rw [zT8];exact h.lenF
 lenA:=h1.lenA
 dfr:=h1.dfr
 slots:=fun i hi=>by
  have hle:=wf.le
  rw [zT9 F1 ds F i (by rw [h.lenF];omega)]
  split
  ·have hs:=h1.slots i hi
   generalize F1.getD i .un=c at hs
   cases c with
   |pv x=>
    cases x with
    |one x=>
     cases x with
     |v x=>exact hs
     |_=>trivial
    |agg cs=>trivial
   |_=>trivial
  ·rename_i hni
   rw [he i hni]
   exact h.slots i hi
 boxes:=fun j bn hj=>by
  have hB:=h.boxes j bn hj
  have hlo:=wf.lo j bn hj
  have hhi:=wf.hi j bn hj
  have hF:∀ o,o < bn.2→(yJi F F1 ds).getD (bn.1+o) .un=F.getD (bn.1+o) .un:=by
   intro o ho
   rw [zT9 F1 ds F _ (by rw [h.lenF];omega),if_neg]
   intro hm
   have:=hds _ hm
   omega
  cases hb:β j with
  |none=>rw [hb] at hB;intro o ho;rw [hF o ho];exact hB o ho
  |some b=>
   rw [hb] at hB
   obtain ⟨g1,g2,cs,T,g3,g4,g5⟩:=hB
   exact ⟨g1,g2,cs,T,g3,g4,fun o ho=>by rw [hF o ho];exact g5 o ho⟩
 mem:=h.mem
 mle:=h.mle
 pres:=h.pres
 own:=h.own
 lt:=h.lt
 new:=h.new
 fix:=h.fix
end
end Go.Hx
end

section
set_option maxHeartbeats 1000000
namespace Go.Hx
open Go.RowKit
variable [Glob]
def sets (F:List Ct):List (Nat×Ct)→List Ct
 |[]=>F
 |(i,c)::l=>sets (F.set i c) l
def Ag (l:List Nat) (G F:List Ct):Prop:=∀ i∈l,G.getD i .un=F.getD i .un
theorem Ag.left {a b:List Nat} {G F:List Ct} (h:Ag (a++b) G F):Ag a G F:=fun i hi=>h i (List.mem_append_left _ hi)
theorem Ag.right {a b:List Nat} {G F:List Ct} (h:Ag (a++b) G F):Ag b G F:=fun i hi=>h i (List.mem_append_right _ hi)
def Opd.rds:Opd→List Nat
 |.t n=>[n]
 |_=>[]
def yXL:Option Opd→List Nat
 |some x=>x.rds
 |none=>[]
def yXM:List (Nat×Nat×Opd)→List Nat
 |[]=>[]
 |(_,_,x)::r=>x.rds++yXM r
def yVi:List Opd→List Nat
 |[]=>[]
 |x::r=>x.rds++yVi r
def VOp.rds:VOp→List Nat
 |.mv x|.not x|.len _ x|.fldP x _|.fldR x _ _|.ldR x _ _|.nilck x|.boxF x|.mki _ x|.pnl _ _ x=>x.rds
 |.pick c a b=>c.rds++(a.rds++b.rds)
 |.ints _ x y|.strs _ x y|.idxA _ x y|.idxS x y|.idxV _ x y|.ixB _ x y|.steq _ _ x y=>x.rds++y.rds
 |.ldB x _ base off n _=>x.rds++List.range' (base+off) n
 |.ldh x _ base off=>x.rds++[base+off]
 |.ldD x _ base sz=>x.rds++List.range' base sz
 |.slr _ x lo hi=>x.rds++(yXL lo++yXL hi)
 |.ext n _=>[n]
 |.bld _ parts=>yXM parts
 |.bslF _ parts=>yVi parts
 |.mkf _ caps=>yVi caps
theorem zAw {x:Opd} {G F:List Ct} (h:Ag x.rds G F):zAn G x=zAn F x:=by
 cases x with
 |t n=>exact h n (by simp [Opd.rds])
 |c p=>rfl
 |f n=>rfl
theorem yPd {d:Int} {x:Option Opd} {G F:List Ct} (h:Ag (yXL x) G F):zC6 G d x=zC6 F d x:=by
 cases x with
 |none=>rfl
 |some x=>simp only [zC6];rw [zAw (x:=x) h]
theorem zOF {G F:List Ct}:∀ (n i:Nat),Ag (List.range' i n) G F→zBq G i n=zBq F i n
 |0,_,_=>rfl
 |n+1,i,h=>by
  have h1:G.getD i .un=F.getD i .un:=h i (by simp)
  have h2:zBq G (i+1) n=zBq F (i+1) n:=zOF n (i+1) fun j hj=>h j (by rw [List.range'_succ];exact List.mem_cons_of_mem _ hj)
  simp only [zBq];rw [h1,h2]
theorem yGI {G F:List Ct}:∀ (l:List (Nat×Nat×Opd)) (cs:List PV),Ag (yXM l) G F→zFm G cs l=zFm F cs l
 |[],_,_=>rfl
 |(off,n,x)::r,cs,h=>by
  have h1:zAn G x=zAn F x:=zAw (Ag.left (a:=x.rds) h)
  have h2:∀ cs,zFm G cs r=zFm F cs r:=fun cs=>yGI r cs (Ag.right (a:=x.rds) h)
  simp only [zFm];rw [h1]
  cases (zAn F x).pv? with
  |none=>rfl
  |some p=>simp only [h2]
theorem yCz {G F:List Ct} {k:Nat}:∀ (l:List Opd),Ag (yVi l) G F→zEI G k l=zEI F k l
 |[],_=>rfl
 |x::r,h=>by
  have h1:zAn G x=zAn F x:=zAw (Ag.left (a:=x.rds) h)
  have h2:zEI G k r=zEI F k r:=yCz r (Ag.right (a:=x.rds) h)
  simp only [zEI];rw [h1,h2]
theorem yLY {G F:List Ct}:∀ (l:List Opd),Ag (yVi l) G F→zMJ G l=zMJ F l
 |[],_=>rfl
 |x::r,h=>by
  have h1:zAn G x=zAn F x:=zAw (Ag.left (a:=x.rds) h)
  have h2:zMJ G r=zMJ F r:=yLY r (Ag.right (a:=x.rds) h)
  simp only [zMJ];rw [h1,h2]
theorem yQ7 {v:VOp} {G F:List Ct} (h:Ag v.rds G F):ev G v=ev F v:=by
 cases v with
 |pick c a b=>
  have h1:zAn G c=zAn F c:=zAw (Ag.left (a:=c.rds) h)
  have h2:zAn G a=zAn F a:=zAw (Ag.left (Ag.right (a:=c.rds) h))
  have h3:zAn G b=zAn F b:=zAw (Ag.right (Ag.right (a:=c.rds) h))
  simp only [ev,h1,h2,h3]
 |ldB x j base off n agg=>
  have h1:zAn G x=zAn F x:=zAw (Ag.left (a:=x.rds) h)
  have h2:=zOF n (base+off) (Ag.right (a:=x.rds) h)
  simp only [ev,h1,h2]
 |slr k x lo hi=>
  have h1:zAn G x=zAn F x:=zAw (Ag.left (a:=x.rds) h)
  have h2:∀ d,zC6 G d lo=zC6 F d lo:=fun d=>yPd (Ag.left (Ag.right (a:=x.rds) h))
  have h3:∀ d,zC6 G d hi=zC6 F d hi:=fun d=>yPd (Ag.right (Ag.right (a:=x.rds) h))
  simp only [ev,h1,h2,h3]
 |ext n i=>simp only [ev,h n (by simp [VOp.rds])]
 |ldh x j base off=>simp only [ev,zAw (x:=x) (Ag.left h),h (base+off) (by simp [VOp.rds])]
 |bld z parts=>simp only [ev,yGI parts z h]
 |bslF k parts=>simp only [ev,yCz parts h]
 |mkf f caps=>simp only [ev,yLY caps h]
 |mv x=>simp only [ev,zAw (x:=x) h]
 |not x=>simp only [ev,zAw (x:=x) h]
 |len s x=>simp only [ev,zAw (x:=x) h]
 |fldP x off=>simp only [ev,zAw (x:=x) h]
 |fldR x off n=>simp only [ev,zAw (x:=x) h]
 |ldR x n agg=>simp only [ev,zAw (x:=x) h]
 |nilck x=>simp only [ev,zAw (x:=x) h]
 |boxF x=>simp only [ev,zAw (x:=x) h]
 |mki t x=>simp only [ev,zAw (x:=x) h]
 |pnl ng pt x=>simp only [ev,zAw (x:=x) h]
 |ixB n x y=>simp only [ev,zAw (x:=x) (Ag.left h),zAw (x:=y) (Ag.right (a:=x.rds) h)]
 |ldD x j base sz=>
  have h1:zAn G x=zAn F x:=zAw (Ag.left (a:=x.rds) h)
  have h2:∀ off,(if off < sz then zP9 (G.getD (base+off) .un) else none)=(if off < sz then zP9 (F.getD (base+off) .un) else none):=by
   intro off
   by_cases ho:off < sz
   ·rw [if_pos ho,if_pos ho,Ag.right (a:=x.rds) h (base+off) (by simp [List.mem_range'];omega)]
   ·rw [if_neg ho,if_neg ho]
  simp only [ev,h1,h2]
 |ints op x y=>simp only [ev,zAw (x:=x) (Ag.left h),zAw (x:=y) (Ag.right (a:=x.rds) h)]
 |strs op x y=>simp only [ev,zAw (x:=x) (Ag.left h),zAw (x:=y) (Ag.right (a:=x.rds) h)]
 |idxA k x y=>simp only [ev,zAw (x:=x) (Ag.left h),zAw (x:=y) (Ag.right (a:=x.rds) h)]
 |idxV n x y=>simp only [ev,zAw (x:=x) (Ag.left h),zAw (x:=y) (Ag.right (a:=x.rds) h)]
 |idxS x y=>simp only [ev,zAw (x:=x) (Ag.left h),zAw (x:=y) (Ag.right (a:=x.rds) h)]
 |steq ng ks x y=>simp only [ev,zAw (x:=x) (Ag.left h),zAw (x:=y) (Ag.right (a:=x.rds) h)]
def zIP:List (Opd×AM)→List Nat
 |[]=>[]
 |(x,m)::r=>x.rds++((match m with|.i _ base sz=>List.range' base sz|_=>[])++zIP r)
theorem zUa {G F:List Ct}:∀ (l:List (Opd×AM)),Ag (zIP l) G F→zBR G l=zBR F l
 |[],_=>rfl
 |(x,m)::r,h=>by
  have h1:zAn G x=zAn F x:=zAw (Ag.left (a:=x.rds) h)
  have h0:=Ag.right (a:=x.rds) h
  have h2:zBR G r=zBR F r:=zUa r (Ag.right h0)
  cases m with
  |v=>simp only [zBR];rw [h1,h2]
  |r=>simp only [zBR];rw [h1,h2]
  |o=>simp only [zBR];rw [h1,h2]
  |n e k=>simp only [zBR];rw [h1,h2]
  |i j base sz=>
   have h3:zBq G base sz=zBq F base sz:=zOF sz base (Ag.left h0)
   simp only [zBR];rw [h1,h2,h3]
def yVj:List (Opd×Nat)→List Nat
 |[]=>[]
 |(x,_)::r=>x.rds++yVj r
theorem yLZ {G F:List Ct}:∀ (l:List (Opd×Nat)),Ag (yVj l) G F→zDn G l=zDn F l
 |[],_=>rfl
 |(x,c)::r,h=>by
  have h1:zAn G x=zAn F x:=zAw (Ag.left (a:=x.rds) h)
  have h2:zDn G r=zDn F r:=yLZ r (Ag.right (a:=x.rds) h)
  simp only [zDn];rw [h1,h2]
theorem yBo {G F:List Ct}:∀ (n i:Nat),Ag (List.range' i n) G F→zC1 G i n=zC1 F i n
 |0,_,_=>rfl
 |n+1,i,h=>by
  have h1:G.getD i .un=F.getD i .un:=h i (by simp)
  have h2:zC1 G (i+1) n=zC1 F (i+1) n:=yBo n (i+1) fun j hj=>h j (by rw [List.range'_succ];exact List.mem_cons_of_mem _ hj)
  simp only [zC1];rw [h1,h2]
theorem zQf {G F:List Ct}:∀ (n i:Nat),Ag (List.range' i n) G F→zAV G i n=zAV F i n
 |0,_,_=>rfl
 |n+1,i,h=>by
  have h1:G.getD i .un=F.getD i .un:=h i (by simp)
  have h2:zAV G (i+1) n=zAV F (i+1) n:=zQf n (i+1) fun j hj=>h j (by rw [List.range'_succ];exact List.mem_cons_of_mem _ hj)
  simp only [zAV];rw [h1,h2]
theorem yBp {G F:List Ct} {x:Opd} {r:Nat} {pt:List (Opd×Nat)} {K:OV→List (Nat×Nat)→Nat→Nat→Nat→List (List OV)→Nat→Nat→Prop} (h:Ag (x.rds++(r::yVj pt)) G F):atV G x r pt K=atV F x r pt K:=by
 have h1:zAn G x=zAn F x:=zAw (Ag.left (a:=x.rds) h)
 have h2:G.getD r .un=F.getD r .un:=Ag.right (a:=x.rds) h r List.mem_cons_self
 have h3:zDn G pt=zDn F pt:=yLZ pt fun i hi=>Ag.right (a:=x.rds) h i (List.mem_cons_of_mem _ hi)
 unfold atV
 rw [h1,h2,h3]
def zLV:Option Nat→List Nat
 |some d=>[d]
 |none=>[]
def ioR:Option (Nat×Nat×Nat)→List Nat
 |some (_,base,sz)=>List.range' base sz
 |none=>[]
def HOp.rds:HOp→List Nat
 |.val _ v=>v.rds
 |.call _ _ args=>zIP args++zLV (zBw args)
 |.callg _ _ args=>zIP args++zLV (zBw args)
 |.callv _ x args=>x.rds++(zIP args++zLV (zBw args))
 |.mvo _ x|.mvk _ x=>[x]
 |.nlo _ _ _|.nlk _ _ _=>[]
 |.ldo _ x _ base off _ _=>x.rds++[base+off]
 |.sto x _ _ _ _ y|.std x _ _ _ y=>x.rds++y.rds
 |.stw x _ _ _ y=>x.rds++[y]
 |.app _ _ _ x y=>x.rds++y.rds
 |.bsl _ _ _ parts=>yVi parts
 |.trk _ x hi=>x::hi.rds
 |.apk _ _ _ x y=>x::y.rds
 |.vnl _ _ _=>[]
 |.vmv _ x=>[x]
 |.vld _ x _ base off n _=>x.rds++List.range' (base+off) n
 |.vst x _ _ _ _ y=>x.rds++[y]
 |.vap _ _ _ x y=>x::y.rds
 |.vbs _ _ _ x|.callo _ _ x|.callp _ _ x=>[x]
 |.vle _ x r _ _ pt _ _|.vlp _ x r _ _ pt _ _|.vlh _ x r _ _ pt=>x.rds++(r::yVj pt)
 |.vse x r _ _ pt _ y=>x.rds++(r::(yVj pt++y.rds))
 |.alloc _ _ _ _|.box _ _ _ _ _|.pan _|.isn _ _ _|.vbx _ _ _ _ _|.mmk _|.cals _ _ _ _ _|.mrg _ _ _|.mnx _ _ _|.men _ _ _|.vow _ _ _ _ _=>[]
 |.alo d _ base cells=>[base]
 |.cpy _ _ _ r x y=>x.rds++(y.rds++[r])
 |.mps x r _ k y=>x.rds++(k.rds++(y.rds++[r]))
 |.mpv _ x r _ k _ _=>x.rds++(k.rds++[r])
def HOp.wrs:HOp→List Nat
 |.val d _=>[d]
 |.call d _ args=>zLV (zBw args)++(ioR (zFc args)++zLV d)
 |.callg d _ args=>zLV (zBw args)++(ioR (zFc args)++[d])
 |.callv d _ args=>zLV (zBw args)++(ioR (zFc args)++zLV d)
 |.mvo d x|.mvk d x=>[x,d]
 |.nlo d _ _|.nlk d _ _=>[d]
 |.ldo d _ _ base off _ _=>[base+off,d]
 |.sto _ _ base off n _=>List.range' (base+off) n
 |.std _ _ base sz _=>List.range' base sz
 |.stw _ _ base off y=>[y,base+off]
 |.app d _ _ x _=>x.rds++[d]
 |.bsl d _ _ _=>[d]
 |.trk d x _=>[x,d]
 |.apk d _ _ x _=>[x,d]
 |.vnl d _ _=>[d]
 |.vmv d x=>[x,d]
 |.vld d _ _ base off n _=>List.range' (base+off) n++[d]
 |.vst _ _ base off n y=>y::List.range' (base+off) n
 |.vap d _ _ x y=>x::(y.rds++[d])
 |.vbs d _ _ x|.callo d _ x|.callp d _ x=>[x,d]
 |.vle d _ r _ _ _ _ _=>[r,d]
 |.vlp d _ _ _ _ _ _ _|.vlh d _ _ _ _ _=>[d]
 |.vse _ r _ _ _ _ y=>y.rds++[r]
 |.alloc _ _ _ _|.box _ _ _ _ _|.pan _|.isn _ _ _|.vbx _ _ _ _ _|.mmk _|.cals _ _ _ _ _|.mrg _ _ _|.mnx _ _ _|.men _ _ _|.vow _ _ _ _ _=>[]
 |.alo d _ base cells=>d::List.range' base cells.length
 |.cpy d _ _ r _ _=>r::zLV d
 |.mps _ r _ _ y=>y.rds++[r]
 |.mpv d _ r _ _ _ _=>[r,d]
def HOp.loc:HOp→Bool
 |.alloc _ _ _ _|.box _ _ _ _ _|.pan _|.isn _ _ _|.vbx _ _ _ _ _|.mmk _|.cals _ _ _ _ _|.mrg _ _ _|.mnx _ _ _|.men _ _ _|.callg _ _ _|.vow _ _ _ _ _=>false
 |_=>true
def HO.rds (h:HO):List Nat:=(match h.g with|some (s,_)=>[s]|none=>[])++h.op.rds
theorem zBJ (F:List Ct):∀ (l l':List (Nat×Ct)) , sets F (l++l')=sets (sets F l) l'
 |[],_=>rfl
 |(i,c)::l,l'=>by simp only [List.cons_append,sets];exact zBJ _ l l'
theorem yL0 {i:Nat} {c:Ct}:∀ (T:List (Nat×Ct)) (F:List Ct),(∀ p∈T,p.1≠i)→sets (F.set i c) T=(sets F T).set i c
 |[],_,_=>rfl
 |(j,d)::T,F,h=>by
  simp only [sets]
  rw [List.set_comm _ _ (fun e=>h (j,d) List.mem_cons_self e.symm)]
  exact yL0 T _ fun p hp=>h p (List.mem_cons_of_mem _ hp)
theorem yGJ:∀ (T T':List (Nat×Ct)) (F:List Ct),(∀ p∈T,∀ q∈T',p.1≠q.1)→sets (sets F T) T'=sets (sets F T') T
 |[],_,_,_=>rfl
 |(i,c)::T,T',F,h=>by
  simp only [sets]
  rw [yGJ T T' _ fun p hp q hq=>h p (List.mem_cons_of_mem _ hp) q hq]
  rw [yL0 T' F fun q hq=>(h (i,c) List.mem_cons_self q hq).symm]
theorem zHb {j:Nat}:∀ (T:List (Nat×Ct)) (F:List Ct),(∀ p∈T,p.1≠j)→(sets F T).getD j .un=F.getD j .un
 |[],_,_=>rfl
 |(i,c)::T,F,h=>by
  simp only [sets]
  rw [zHb T _ fun p hp=>h p (List.mem_cons_of_mem _ hp),zBm,if_neg]
  exact fun e=>h (i,c) List.mem_cons_self e.1
def zUb:Nat→List Ct→List (Nat×Ct)
 |_,[]=>[]
 |i,c::cs=>(i,c)::zUb (i+1) cs
theorem zBh:∀ (cs:List Ct) (i:Nat) (F:List Ct),zAi F i cs=sets F (zUb i cs)
 |[],_,_=>rfl
 |c::cs,i,F=>by simp only [zAi,zUb,sets];exact zBh cs (i+1) _
theorem zFR:∀ (cs:List Ct) (i:Nat) (p:Nat×Ct),p∈zUb i cs→p.1∈List.range' i cs.length
 |c::cs,i,p,h=>by
  simp only [zUb,List.mem_cons] at h
  rw [List.length_cons,List.range'_succ]
  rcases h with h|h
  ·rw [h];exact List.mem_cons_self
  ·exact List.mem_cons_of_mem _ (zFR cs (i+1) p h)
def yPe (F:List Ct):Option Nat→List (Nat×Ct)
 |some n=>match F.getD n .un with|.own _ k rows=>[(n,.pv (.one (.sl k rows)))]|_=>[]
 |none=>[]
theorem zQg (F:List Ct) (k:Option Nat):zEN F k=sets F (yPe F k):=by
 cases k with
 |none=>rfl
 |some n=>simp only [zEN,yPe];generalize F.getD n .un=c;cases c<;>rfl
theorem yL1 {F:List Ct} {k:Option Nat} {p:Nat×Ct} (h:p∈yPe F k):p.1∈zLV k:=by
 cases k with
 |none=>simp [yPe] at h
 |some n=>
  simp only [yPe] at h
  split at h
  ·simp at h;rw [h];simp [zLV]
  ·simp at h
theorem yPf {G F:List Ct} {k:Option Nat} (h:Ag (zLV k) G F):yPe G k=yPe F k:=by
 cases k with
 |none=>rfl
 |some n=>simp only [yPe];rw [h n (by simp [zLV])]
def ioT (io:Option (List PV)):Option (Nat×Nat×Nat)→List (Nat×Ct)
 |some (_,base,sz)=>zUb base (zDF sz io)
 |none=>[]
theorem zUc (F:List Ct) (io:Option (List PV)) (k:Option (Nat×Nat×Nat)):zJM F io k=sets F (ioT io k):=by
 cases k with
 |none=>rfl
 |some x=>obtain ⟨j,base,sz⟩:=x;exact zBh _ _ _
theorem yJj (sz:Nat) (io:Option (List PV)):(zDF sz io).length≤sz:=by
 cases io with
 |none=>simp [zDF]
 |some l=>simp only [zDF,List.length_take];omega
theorem yPg {io:Option (List PV)} {k:Option (Nat×Nat×Nat)} {p:Nat×Ct} (h:p∈ioT io k):p.1∈ioR k:=by
 cases k with
 |none=>simp [ioT] at h
 |some x=>
  obtain ⟨j,base,sz⟩:=x
  have h1:=zFR _ _ _ h
  have h2:=yJj sz io
  simp only [ioR,List.mem_range'_1] at h1 ⊢
  omega
def yQ8 (d:Option Nat) (c:Ct):List (Nat×Ct):=match d with|some d=>[(d,c)]|none=>[]
theorem zJO (F:List Ct) (d:Option Nat) (c:Ct):yCo F d c=sets F (yQ8 d c):=by cases d<;>rfl
theorem zTo {d:Option Nat} {c:Ct} {p:Nat×Ct} (h:p∈yQ8 d c):p.1∈zLV d:=by
 cases d with
 |none=>simp [yQ8] at h
 |some d=>simp [yQ8] at h;rw [h];simp [zLV]
section
variable {P:Program}
def yZO (P:Program) (h:HO) (F:List Ct) (N:List Ct→Prop) (X:Value→List Ct→Prop):Prop:=
 (∃ T:List (Nat×Ct),(∀ p∈T,p.1∈h.op.wrs)∧N (sets F T)∧∀ G (N':List Ct→Prop) (X':Value→List Ct→Prop),Ag h.rds G F→N' (sets G T)→hoW P h G N' X')∨
 ∃ v F',X v F'∧∀ G (N':List Ct→Prop) (X':Value→List Ct→Prop),Ag h.rds G F→(∀ T:List (Nat×Ct),(∀ p∈T,p.1∈h.op.wrs)→X' v (sets G T))→hoW P h G N' X'
def yV7 (P:Program) (o:HOp) (F:List Ct) (N:List Ct→Prop) (X:Value→List Ct→Prop):Prop:=
 (∃ T:List (Nat×Ct),(∀ p∈T,p.1∈o.wrs)∧N (sets F T)∧∀ G (N':List Ct→Prop) (X':Value→List Ct→Prop),Ag o.rds G F→N' (sets G T)→opW P o G N' X')∨
 ∃ v F',X v F'∧∀ G (N':List Ct→Prop) (X':Value→List Ct→Prop),Ag o.rds G F→(∀ T:List (Nat×Ct),(∀ p∈T,p.1∈o.wrs)→X' v (sets G T))→opW P o G N' X'
theorem yGK {f:FuncId} {args:List (Opd×AM)} {extra:List AV} {d:Option Nat} {F:List Ct} {N:List Ct→Prop} {X:Value→List Ct→Prop} {p:Prop}
  (hW:p∧zQP P f ((zBR F args).1,(zBR F args).2++extra) (fun io=>zAX F io args) d N X):
  (∃ T:List (Nat×Ct),(∀ p∈T,p.1∈zLV (zBw args)++(ioR (zFc args)++zLV d))∧N (sets F T)∧∀ G (N':List Ct→Prop) (X':Value→List Ct→Prop),Ag (zIP args++zLV (zBw args)) G F→N' (sets G T)→zQP P f ((zBR G args).1,(zBR G args).2++extra) (fun io=>zAX G io args) d N' X')∨
  ∃ v F',X v F'∧∀ G (N':List Ct→Prop) (X':Value→List Ct→Prop),Ag (zIP args++zLV (zBw args)) G F→(∀ T:List (Nat×Ct),(∀ p∈T,p.1∈zLV (zBw args)++(ioR (zFc args)++zLV d))→X' v (sets G T))→zQP P f ((zBR G args).1,(zBR G args).2++extra) (fun io=>zAX G io args) d N' X':=by
 obtain ⟨_,h1,r,hcon,hr⟩:=hW
 have key:∀ (io:Option (List PV)) (c:Ct) (G:List Ct),Ag (zIP args++zLV (zBw args)) G F→yCo (zAX G io args) d c=sets G (yPe F (zBw args)++(ioT io (zFc args)++yQ8 d c)):=by
  intro io c G hag
  rw [zJO,zAX,zUc,zQg,yPf (Ag.right hag),zBJ,zBJ]
 have hmem:∀ (io:Option (List PV)) (c:Ct),∀ q∈yPe F (zBw args)++(ioT io (zFc args)++yQ8 d c),q.1∈zLV (zBw args)++(ioR (zFc args)++zLV d):=by
  intro io c q hq
  simp only [List.mem_append] at hq ⊢
  rcases hq with hq|hq|hq
  ·exact .inl (yL1 hq)
  ·exact .inr (.inl (yPg hq))
  ·exact .inr (.inr (zTo hq))
 have main:∀ c:Ct,yXC r.res=c→(∀ v,r.res≠.pan v)→N (yCo (zAX F (some r.io) args) d c)→(∃ T:List (Nat×Ct),(∀ p∈T,p.1∈zLV (zBw args)++(ioR (zFc args)++zLV d))∧N (sets F T)∧∀ G (N':List Ct→Prop) (X':Value→List Ct→Prop),Ag (zIP args++zLV (zBw args)) G F→N' (sets G T)→zQP P f ((zBR G args).1,(zBR G args).2++extra) (fun io=>zAX G io args) d N' X'):=by
  intro c hc hnp hN
  refine ⟨_,hmem (some r.io) c,by rw [←key _ _ F fun _ _=>rfl];exact hN,fun G N' X' hag hN'=>?_⟩
  rw [←key _ _ G hag] at hN'
  unfold zQP
  rw [zUa args (Ag.left hag)]
  refine ⟨h1,r,hcon,?_⟩
  split
  ·rename_i v hv;exact (hnp v hv).elim
  ·simp only [yLI,hc];exact hN'
 split at hr
 ·rename_i v hv
  right
  refine ⟨v,_,hr,fun G N' X' hag hX=>?_⟩
  unfold zQP
  rw [zUa args (Ag.left hag)]
  refine ⟨h1,r,hcon,?_⟩
  rw [hv]
  have e:zAX G none args=sets G (yPe F (zBw args)++ioT none (zFc args)):=by
   rw [zAX,zUc,zQg,yPf (Ag.right hag),zBJ]
  simp only [e]
  refine hX _ fun q hq=>?_
  simp only [List.mem_append] at hq ⊢
  rcases hq with hq|hq
  ·exact .inl (yL1 hq)
  ·exact .inr (.inl (yPg hq))
 ·rename_i hnp
  left
  exact main _ rfl (fun v hv=>hnp v hv) hr
def yOX (F:List Ct):Opd→List (Nat×Ct)
 |.t n=>match F.getD n .un with|.ov _=>[(n,.un)]|_=>[]
 |_=>[]
theorem zK5 (F G:List Ct) (y:Opd):clr F G y=sets G (yOX F y):=by
 cases y with
 |t n=>simp only [clr,yOX];generalize F.getD n .un=c;cases c<;>rfl
 |c p=>rfl
 |f n=>rfl
theorem yCA {F:List Ct} {y:Opd} {p:Nat×Ct} (h:p∈yOX F y):p.1∈y.rds:=by
 cases y with
 |t n=>
  simp only [yOX] at h
  generalize F.getD n .un=c at h
  cases c<;>simp at h
  rw [h];simp [Opd.rds]
 |c p=>simp [yOX] at h
 |f n=>simp [yOX] at h
theorem yJk {G F:List Ct} {y:Opd} (h:Ag y.rds G F):yOX G y=yOX F y:=by
 cases y with
 |t n=>simp only [yOX];rw [h n (by simp [Opd.rds])]
 |c p=>rfl
 |f n=>rfl
theorem yTF {G F:List Ct} {y:Opd} (h:Ag y.rds G F):zYg G y=zYg F y:=by unfold zYg;rw [zAw h]
theorem yTG {G F:List Ct} {k:Nat} {y:Opd} (h:Ag y.rds G F):zYh G k y=zYh F k y:=by unfold zYh;rw [zAw h]
theorem yCB {F:List Ct} {x:Opd} {r:Nat} {pt:List (Opd×Nat)} {K:OV→List (Nat×Nat)→Nat→Nat→Nat→List (List OV)→Nat→Nat→Prop} (h:atV F x r pt K):
  ∃ a b c d e f g i,K a b c d e f g i∧∀ K':OV→List (Nat×Nat)→Nat→Nat→Nat→List (List OV)→Nat→Nat→Prop,K' a b c d e f g i→atV F x r pt K':=by
 unfold atV at h
 split at h
 ·rename_i b k i f root e1 e2
  split at h
  ·rename_i b' e k' rows e3
   obtain ⟨h1,h2,h3,h4,h5⟩:=h
   refine ⟨_,_,_,_,_,_,_,_,h5,fun K' hk=>?_⟩
   unfold atV
   simp only [e1,e2,e3]
   exact ⟨h1,h2,h3,h4,hk⟩
  ·exact h.elim
 ·exact h.elim
theorem yGL {F:List Ct} {x:Opd} {r kk:Nat} {k:Opd} {K:Nat→List Value→List OV→Value→Prop} (h:zYo F x r kk k K):
  ∃ b ks vs kv,K b ks vs kv∧∀ G (K':Nat→List Value→List OV→Value→Prop),zAn G x=zAn F x→zAn G k=zAn F k→G.getD r .un=F.getD r .un→K' b ks vs kv→zYo G x r kk k K':=by
 unfold zYo at h
 split at h
 ·rename_i b b' ks vs p e1 e2 e3
  split at h
  ·rename_i kv e4
   obtain ⟨h1,h2,h3,h4,h5⟩:=h
   refine ⟨_,_,_,_,h5,fun G K' g1 g2 g3 hk=>?_⟩
   have g4:zYn G x=some b:=by rw [←e1];unfold zYn;rw [g1]
   unfold zYo
   simp only [g4,g2,g3,e2,e3,e4]
   exact ⟨h1,h2,h3,h4,hk⟩
  ·exact h.elim
 ·exact h.elim
theorem yPh {G F:List Ct} {y:Opd} (h:zAn G y=zAn F y):yNc G y=yNc F y:=by unfold yNc;rw [h]
theorem yPi {o:HOp} (hl:o.loc=true) {F:List Ct} {N:List Ct→Prop} {X:Value→List Ct→Prop} (hW:opW P o F N X):yV7 P o F N X:=by
 cases o with
 |alo d j base cells=>
  obtain ⟨hu,hN⟩:=hW
  refine .inl ⟨(d,.ptr j 0)::zUb base (cells.map fun c=>.pv (.one c)),?_,by simp only [sets];rw [←zBh];exact hN,fun G N' X' hag hN'=>?_⟩
  ·intro q hq
   rcases List.mem_cons.1 hq with rfl|hq
   ·exact List.mem_cons_self
   ·have:=zFR _ _ _ hq
    rw [List.length_map] at this
    exact List.mem_cons_of_mem _ this
  ·simp only [sets] at hN'
   rw [←zBh] at hN'
   exact ⟨(hag base (by simp [HOp.rds])).trans hu,hN'⟩
 |alloc d j base cells=>cases hl
 |box d j base n x=>cases hl
 |pan x=>cases hl
 |isn d ng x=>cases hl
 |vbx d j base n x=>cases hl
 |mmk d=>cases hl
 |mps x r kk k y=>
  simp only [opW] at hW
  obtain ⟨b,ks,vs,kv,⟨h1,h2,h3⟩,hall⟩:=yGL hW
  split at h3
  ·rename_i c hc
   refine .inl ⟨yOX F y++[(r,.ov (.one (zYm b ks vs kv c)))],?_,?_,fun G N' X' hag hN=>?_⟩
   ·intro q hq
    simp only [HOp.wrs,List.mem_append] at hq ⊢
    rcases hq with hq|hq
    ·exact .inl (yCA hq)
    ·right;simp at hq;simp [hq]
   ·rw [zBJ,←zK5];exact h3
   ·have g0:=Ag.left hag
    have g1:=Ag.right (a:=x.rds) hag
    have g2:=Ag.right (a:=k.rds) g1
    have gy:Ag y.rds G F:=Ag.left g2
    have gr:G.getD r .un=F.getD r .un:=Ag.right (a:=y.rds) g2 r (by simp)
    rw [zBJ,←yJk gy,←zK5] at hN
    simp only [opW]
    refine hall G _ (zAw g0) (zAw (Ag.left g1)) gr ⟨h1,?_,?_⟩
    ·rw [yPh (zAw gy)];exact h2
    ·rw [yPh (zAw gy),hc];exact hN
  ·exact h3.elim
 |mpv d x r kk k e kw=>
  simp only [opW] at hW
  obtain ⟨b,ks,vs,kv,⟨h1,h2⟩,hall⟩:=yGL hW
  have gg:∀ G,Ag (x.rds++(k.rds++[r])) G F→zAn G x=zAn F x∧zAn G k=zAn F k∧G.getD r .un=F.getD r .un:=fun G hag=>
   ⟨zAw (Ag.left hag),zAw (Ag.left (Ag.right (a:=x.rds) hag)),Ag.right (a:=k.rds) (Ag.right (a:=x.rds) hag) r (by simp)⟩
  split at h2
  ·rename_i i hi
   refine .inl ⟨[(r,.ov (.one (.mp b ks (vs.set i .hole)))),(d,.ov (.one (vs.getD i .hole)))],by simp [HOp.wrs],h2.2,fun G N' X' hag hN=>?_⟩
   obtain ⟨g1,g2,g3⟩:=gg G hag
   simp only [opW]
   refine hall G _ g1 g2 g3 ⟨h1,?_⟩
   simp only [hi]
   exact ⟨h2.1,hN⟩
  ·rename_i hi
   refine .inl ⟨[(d,.ov (.one (.os none e kw [])))],by simp [HOp.wrs],h2,fun G N' X' hag hN=>?_⟩
   obtain ⟨g1,g2,g3⟩:=gg G hag
   simp only [opW]
   refine hall G _ g1 g2 g3 ⟨h1,?_⟩
   simp only [hi]
   exact hN
 |mrg d x r=>cases hl
 |mnx d it r=>cases hl
 |men d it r=>cases hl
 |callg d f args=>cases hl
 |cals d f r x args=>cases hl
 |cpy d e k r x y=>
  simp only [opW] at hW
  split at hW
  ·rename_i b1 k1 i1 n1 b2 k2 i2 n2 b e' k' rows e1 e2 e3
   obtain ⟨h1,h2,h3,h4,h5,h6,h7,h8,h9,h10,h11,hN⟩:=hW
   refine .inl ⟨(r,.ov (.one (.os (some b) e k (zD3 i2 rows))))::yQ8 d .un,?_,?_,fun G N' X' hag hN'=>?_⟩
   ·intro q hq
    simp only [HOp.wrs,List.mem_cons] at hq ⊢
    rcases hq with rfl|hq
    ·exact .inl rfl
    ·exact .inr (zTo hq)
   ·simp only [sets];rw [←zJO];exact hN
   ·have g1:=zAw (x:=x) (Ag.left hag)
    have g2:=zAw (x:=y) (Ag.left (Ag.right (a:=x.rds) hag))
    have g3:G.getD r .un=F.getD r .un:=Ag.right (a:=y.rds) (Ag.right (a:=x.rds) hag) r (by simp)
    simp only [sets] at hN'
    rw [←zJO] at hN'
    simp only [opW,g1,g2,g3,e1,e2,e3]
    exact ⟨h1,h2,h3,h4,h5,h6,h7,h8,h9,h10,h11,hN'⟩
  ·exact hW.elim
 |val d v=>
  left
  refine ⟨[(d,(ev F v).2)],by simp [HOp.wrs],hW.2,fun G N' X' hag hN=>?_⟩
  simp only [opW,yQ7 (v:=v) hag]
  exact ⟨hW.1,hN⟩
 |call d f args=>
  have:=yGK (P:=P) (p:=True) (extra:=[]) (f:=f) (args:=args) (d:=d) (F:=F) (N:=N) (X:=X) (by simpa [opW] using hW)
  rcases this with ⟨T,h1,h2,h3⟩|⟨v,F',h1,h2⟩
  ·exact .inl ⟨T,h1,h2,fun G N' X' hag hN=>by have:=h3 G N' X' hag hN;simpa [opW] using this⟩
  ·exact .inr ⟨v,F',h1,fun G N' X' hag hN=>by have:=h2 G N' X' hag hN;simpa [opW] using this⟩
 |callv d x args=>
  simp only [opW] at hW
  split at hW
  ·rename_i f caps e1
   obtain ⟨n1,hW⟩:=hW
   rcases yGK (P:=P) (p:=True) (extra:=caps.map fun c=>AV.val (.one c)) ⟨trivial,hW⟩ with ⟨T,h1,h2,h3⟩|⟨v,F',h1,h2⟩
   ·refine .inl ⟨T,h1,h2,fun G N' X' hag hN=>?_⟩
    have:=h3 G N' X' (Ag.right (a:=x.rds) hag) hN
    simp only [opW,zAw (x:=x) (Ag.left hag),e1]
    exact ⟨n1,this⟩
   ·refine .inr ⟨v,F',h1,fun G N' X' hag hN=>?_⟩
    have:=h2 G N' X' (Ag.right (a:=x.rds) hag) hN
    simp only [opW,zAw (x:=x) (Ag.left hag),e1]
    exact ⟨n1,this⟩
  ·exact hW.elim
 |mvo d x=>
  simp only [opW] at hW
  split at hW
  ·rename_i e k rows e1
   refine .inl ⟨[(x,.pv (.one (.sl k rows))),(d,.own e k rows)],by simp [HOp.wrs],hW.2,fun G N' X' hag hN=>?_⟩
   have h1:G.getD x .un=F.getD x .un:=hag x (by simp [HOp.rds])
   simp only [opW,h1,e1]
   exact ⟨hW.1,hN⟩
  ·exact hW.elim
 |mvk d x=>
  simp only [opW] at hW
  split at hW
  ·rename_i e k rows e1
   refine .inl ⟨[(x,.hdr rows.length),(d,.stk e k rows)],by simp [HOp.wrs],hW.2,fun G N' X' hag hN=>?_⟩
   have h1:G.getD x .un=F.getD x .un:=hag x (by simp [HOp.rds])
   simp only [opW,h1,e1]
   exact ⟨hW.1,hN⟩
  ·exact hW.elim
 |nlo d e k=>exact .inl ⟨[(d,.own e k [])],by simp [HOp.wrs],hW,fun G N' X' _ hN=>hN⟩
 |nlk d e k=>exact .inl ⟨[(d,.stk e k [])],by simp [HOp.wrs],hW,fun G N' X' _ hN=>hN⟩
 |ldo d x j base off e k=>
  simp only [opW] at hW
  split at hW
  ·rename_i j' off' e' k' rows e1 e2
   refine .inl ⟨[(base+off,.pv (.one (.sl k rows))),(d,.own e k rows)],by simp [HOp.wrs],hW.2.2.2.2,fun G N' X' hag hN=>?_⟩
   have h1:G.getD (base+off) .un=F.getD (base+off) .un:=hag _ (by simp [HOp.rds])
   simp only [opW,zAw (x:=x) (Ag.left hag),h1,e1,e2]
   exact ⟨hW.1,hW.2.1,hW.2.2.1,hW.2.2.2.1,hN⟩
  ·rename_i j' off' kk e1 e2
   refine .inl ⟨[(d,.own e k [])],by simp [HOp.wrs],hW.2.2,fun G N' X' hag hN=>?_⟩
   have h1:G.getD (base+off) .un=F.getD (base+off) .un:=hag _ (by simp [HOp.rds])
   simp only [opW,zAw (x:=x) (Ag.left hag),h1,e1,e2]
   exact ⟨hW.1,hW.2.1,hN⟩
  ·exact hW.elim
 |sto x j base off n y=>
  simp only [opW] at hW
  split at hW
  ·rename_i j' off' p e1 e2
   obtain ⟨h1,h2,h3,h4,hN⟩:=hW
   refine .inl ⟨zUb (base+off) (p.cells.map fun c=>.pv (.one c)),?_,by rw [←zBh];exact hN,fun G N' X' hag hN'=>?_⟩
   ·intro q hq
    have:=zFR _ _ _ hq
    rw [List.length_map,h3] at this
    exact this
   ·rw [←zBh] at hN'
    simp only [opW,zAw (x:=x) (Ag.left hag),zAw (x:=y) (Ag.right (a:=x.rds) hag),e1,e2]
    exact ⟨h1,h2,h3,h4,hN'⟩
  ·exact hW.elim
 |std x j base sz y=>
  simp only [opW] at hW
  split at hW
  ·rename_i j' off' p e1 e2
   obtain ⟨h1,h2,h3,h4,hN⟩:=hW
   refine .inl ⟨zUb (base+off') (p.cells.map fun c=>.pv (.one c)),?_,by rw [←zBh];exact hN,fun G N' X' hag hN'=>?_⟩
   ·intro q hq
    have:=zFR _ _ _ hq
    rw [List.length_map,h3] at this
    simp only [HOp.wrs,List.mem_range'_1] at this ⊢
    omega
   ·rw [←zBh] at hN'
    simp only [opW,zAw (x:=x) (Ag.left hag),zAw (x:=y) (Ag.right (a:=x.rds) hag),e1,e2]
    exact ⟨h1,h2,h3,h4,hN'⟩
  ·exact hW.elim
 |stw x j base off y=>
  simp only [opW] at hW
  split at hW
  ·rename_i j' off' e k rows e1 e2
   refine .inl ⟨[(y,.pv (.one (.sl k rows))),(base+off,.own e k rows)],by simp [HOp.wrs],hW.2.2,fun G N' X' hag hN=>?_⟩
   have h1:G.getD y .un=F.getD y .un:=hag _ (by simp [HOp.rds])
   simp only [opW,zAw (x:=x) (Ag.left hag),h1,e1,e2]
   exact ⟨hW.1,hW.2.1,hN⟩
  ·exact hW.elim
 |app d e k x y=>
  simp only [opW] at hW
  split at hW
  ·rename_i e' k' rows k'' rs e1 e2
   cases x with
   |t n=>
    obtain ⟨h1,h2,h3,h4,h5,h6,hN⟩:=hW
    refine .inl ⟨[(n,.pv (.one (.sl k rows))),(d,.own e k (rows++rs))],by simp [HOp.wrs,Opd.rds],hN,fun G N' X' hag hN'=>?_⟩
    simp only [opW,zAw (x:=.t n) (Ag.left hag),zAw (x:=y) (Ag.right (a:=[n]) hag),e1,e2]
    exact ⟨h1,h2,h3,h4,h5,h6,hN'⟩
   |c p=>exact hW.1.elim
   |f n=>exact hW.1.elim
  ·exact hW.elim
 |bsl d e k parts=>
  refine .inl ⟨[(d,.own e k (zEI F k parts).2)],by simp [HOp.wrs],hW.2,fun G N' X' hag hN=>?_⟩
  simp only [opW,yCz parts hag]
  exact ⟨hW.1,hN⟩
 |vnl d e k=>exact .inl ⟨[(d,.ov (.one (.os none e k [])))],by simp [HOp.wrs],hW,fun G N' X' _ hN=>hN⟩
 |vmv d x=>
  simp only [opW] at hW
  split at hW
  ·rename_i v e1
   refine .inl ⟨[(x,zYl v),(d,.ov v)],by simp [HOp.wrs],hW.2,fun G N' X' hag hN=>?_⟩
   have h1:G.getD x .un=F.getD x .un:=hag x (by simp [HOp.rds])
   simp only [opW,h1,e1]
   exact ⟨hW.1,hN⟩
  ·exact hW.elim
 |vld d x j base off n agg=>
  simp only [opW] at hW
  split at hW
  ·rename_i j' off' cs e1 e2
   refine .inl ⟨zUb (base+off) (zAV F (base+off) n)++[(d,.ov (yM8 agg cs))],?_,?_,fun G N' X' hag hN=>?_⟩
   ·intro q hq
    simp only [HOp.wrs,List.mem_append] at hq ⊢
    rcases hq with hq|hq
    ·have:=zFR _ _ _ hq
     rw [zDQ] at this
     exact .inl this
    ·right;simp at hq;simp [hq]
   ·rw [zBJ,←zBh];exact hW.2.2
   ·have h1:=zAw (x:=x) (Ag.left hag)
    have h2:=yBo n (base+off) (Ag.right (a:=x.rds) hag)
    have h3:=zQf n (base+off) (Ag.right (a:=x.rds) hag)
    rw [zBJ,←zBh] at hN
    simp only [opW,h1,h2,h3,e1,e2]
    exact ⟨hW.1,hW.2.1,hN⟩
  ·exact hW.elim
 |vst x j base off n y=>
  simp only [opW] at hW
  split at hW
  ·rename_i j' off' v e1 e2
   obtain ⟨h1,h2,h3,hN⟩:=hW
   refine .inl ⟨(y,.un)::zUb (base+off) (v.cells.map zG7),?_,?_,fun G N' X' hag hN'=>?_⟩
   ·intro q hq
    simp only [HOp.wrs,List.mem_cons] at hq ⊢
    rcases hq with hq|hq
    ·exact .inl (by rw [hq])
    ·have:=zFR _ _ _ hq
     rw [List.length_map,h3] at this
     exact .inr this
   ·simp only [sets];rw [←zBh];exact hN
   ·have g1:=zAw (x:=x) (Ag.left hag)
    have g2:G.getD y .un=F.getD y .un:=Ag.right (a:=x.rds) hag y (by simp)
    simp only [sets] at hN'
    rw [←zBh] at hN'
    simp only [opW,g1,g2,e1,e2]
    exact ⟨h1,h2,h3,hN'⟩
  ·exact hW.elim
 |vap d e k x y=>
  simp only [opW] at hW
  split at hW
  ·rename_i pb e' k' rows e1
   obtain ⟨h1,h2,h3,h4,h5,hN⟩:=hW
   refine .inl ⟨(x,.un)::(yOX F y++[(d,.ov (.one (.os none e k (rows++(zYh F k y).2))))]),?_,?_,fun G N' X' hag hN'=>?_⟩
   ·intro q hq
    simp only [HOp.wrs,List.mem_cons,List.mem_append] at hq ⊢
    rcases hq with hq|hq|hq
    ·exact .inl (by rw [hq])
    ·exact .inr (.inl (yCA hq))
    ·right;right;left
     rcases hq with hq|hq
     ·rw [hq]
     ·cases hq
   ·simp only [sets];rw [zBJ,←zK5];exact hN
   ·have g1:G.getD x .un=F.getD x .un:=hag x (by simp [HOp.rds])
    have g2:Ag y.rds G F:=fun i hi=>hag i (by simp [HOp.rds,hi])
    simp only [sets] at hN'
    rw [zBJ,←yJk g2,←zK5] at hN'
    simp only [opW,g1,e1,yTG g2]
    exact ⟨h1,h2,h3,h4,h5,hN'⟩
  ·exact hW.elim
 |vow d v off e k=>cases hl
 |vbs d e k x=>
  simp only [opW] at hW
  split at hW
  ·rename_i v e1
   refine .inl ⟨[(x,.un),(d,.ov (.one (.os none e k [v.cells])))],by simp [HOp.wrs],hW.2,fun G N' X' hag hN=>?_⟩
   have h1:G.getD x .un=F.getD x .un:=hag x (by simp [HOp.rds])
   simp only [opW,h1,e1]
   exact ⟨hW.1,hN⟩
  ·exact hW.elim
 |callo d f x=>
  simp only [opW] at hW
  split at hW
  ·rename_i v e1
   obtain ⟨v',hcon,hN⟩:=hW
   refine .inl ⟨[(x,.un),(d,.ov v')],by simp [HOp.wrs],hN,fun G N' X' hag hN'=>?_⟩
   have h1:G.getD x .un=F.getD x .un:=hag x (by simp [HOp.rds])
   simp only [opW,h1,e1]
   exact ⟨v',hcon,hN'⟩
  ·exact hW.elim
 |callp d f x=>
  simp only [opW] at hW
  split at hW
  ·rename_i v e1
   obtain ⟨cs,xs,hcon,hfz,hN⟩:=hW
   refine .inl ⟨[(x,.un),(d,.pv (.agg xs))],by simp [HOp.wrs],hN,fun G N' X' hag hN'=>?_⟩
   have h1:G.getD x .un=F.getD x .un:=hag x (by simp [HOp.rds])
   simp only [opW,h1,e1]
   exact ⟨cs,xs,hcon,hfz,hN'⟩
  ·exact hW.elim
 |vle d x r j base pt n agg=>
  simp only [opW] at hW
  obtain ⟨root,p,b,e,k,rows,i,f,hK,hall⟩:=yCB hW
  refine .inl ⟨[(r,_),(d,_)],by simp [HOp.wrs],hK.2,fun G N' X' hag hN=>?_⟩
  simp only [opW]
  rw [yBp hag]
  exact hall _ ⟨hK.1,hN⟩
 |vlp d x r j base pt n agg=>
  simp only [opW] at hW
  obtain ⟨root,p,b,e,k,rows,i,f,hK,hall⟩:=yCB hW
  obtain ⟨hf,hK⟩:=hK
  split at hK
  ·rename_i ps e1
   refine .inl ⟨[(d,_)],by simp [HOp.wrs],hK,fun G N' X' hag hN=>?_⟩
   simp only [opW]
   rw [yBp hag]
   refine hall _ ⟨hf,?_⟩
   simp only [e1]
   exact hN
  ·exact hK.elim
 |vlh d x r j base pt=>
  simp only [opW] at hW
  obtain ⟨root,p,b,e,k,rows,i,f,hK,hall⟩:=yCB hW
  split at hK
  ·rename_i b2 e2 k2 rows2 e1
   refine .inl ⟨[(d,.hdp b2 k2 rows2.length)],by simp [HOp.wrs],hK,fun G N' X' hag hN=>?_⟩
   simp only [opW]
   rw [yBp hag]
   refine hall _ ?_
   simp only [e1]
   exact hN
  ·rename_i e2 k2 rows2 e1
   refine .inl ⟨[(d,.hdr rows2.length)],by simp [HOp.wrs],hK,fun G N' X' hag hN=>?_⟩
   simp only [opW]
   rw [yBp hag]
   refine hall _ ?_
   simp only [e1]
   exact hN
  ·exact hK.elim
 |vse x r j base pt n y=>
  simp only [opW] at hW
  obtain ⟨root,p,b,e,k,rows,i,f,⟨h1,h2,h3,h4,hN⟩,hall⟩:=yCB hW
  refine .inl ⟨yOX F y++[(r,.ov (.one (root.upd p (.os (some b) e k (rows.set i (yBd (rows.getD i []) f (zYg F y).2))))))],?_,?_,fun G N' X' hag hN'=>?_⟩
  rotate_left
  ·rw [zBJ,←zK5];exact hN
  ·have hag':Ag (x.rds++(r::yVj pt)) G F:=by
    intro i hi
    refine hag i ?_
    simp only [HOp.rds,List.mem_append,List.mem_cons] at hi ⊢
    rcases hi with hi|hi|hi
    ·exact .inl hi
    ·exact .inr (.inl hi)
    ·exact .inr (.inr (.inl hi))
   have g2:Ag y.rds G F:=fun i hi=>hag i (by simp [HOp.rds,hi])
   rw [zBJ,←yJk g2,←zK5] at hN'
   simp only [opW]
   rw [yBp hag',yTF g2]
   exact hall _ ⟨h1,h2,h3,h4,hN'⟩
  ·intro q hq
   simp only [HOp.wrs,List.mem_append] at hq ⊢
   rcases hq with hq|hq
   ·exact .inl (yCA hq)
   ·right;simp at hq;simp [hq]
 |trk d x hi=>
  simp only [opW] at hW
  split at hW
  ·rename_i e k rows ik n e1 e2
   obtain ⟨h1,h2,h3,h4,hN⟩:=hW
   refine .inl ⟨[(x,.hdr rows.length),(d,.stk e k (rows.take n.toNat))],by simp [HOp.wrs],hN,fun G N' X' hag hN'=>?_⟩
   have g1:G.getD x .un=F.getD x .un:=hag _ (by simp [HOp.rds])
   have g2:zAn G hi=zAn F hi:=zAw fun i hi'=>hag i (List.mem_cons_of_mem _ hi')
   simp only [opW,g1,g2,e1,e2]
   exact ⟨h1,h2,h3,h4,hN'⟩
  ·exact hW.elim
 |apk d e k x y=>
  simp only [opW] at hW
  split at hW
  ·rename_i e' k' rows k'' rs e1 e2
   obtain ⟨h1,h2,h3,h4,h5,h6,hN⟩:=hW
   refine .inl ⟨[(x,.hdr rows.length),(d,.stk e k (rows++rs))],by simp [HOp.wrs],hN,fun G N' X' hag hN'=>?_⟩
   have g1:G.getD x .un=F.getD x .un:=hag _ (by simp [HOp.rds])
   have g2:zAn G y=zAn F y:=zAw fun i hi'=>hag i (List.mem_cons_of_mem _ hi')
   simp only [opW,g1,g2,e1,e2]
   exact ⟨h1,h2,h3,h4,h5,h6,hN'⟩
  ·exact hW.elim
theorem yPj {h:HO} (hl:h.op.loc=true) {F:List Ct} {N:List Ct→Prop} {X:Value→List Ct→Prop} (hW:hoW P h F N X):yZO P h F N X:=by
 obtain ⟨g,op⟩:=h
 cases g with
 |none=>
  rcases yPi hl hW with ⟨T,h1,h2,h3⟩|⟨v,F',h1,h2⟩
  ·exact .inl ⟨T,h1,h2,fun G N' X' hag hN=>h3 G N' X' hag hN⟩
  ·exact .inr ⟨v,F',h1,fun G N' X' hag hN=>h2 G N' X' hag hN⟩
 |some g=>
  obtain ⟨s,b⟩:=g
  have hgb:∀ G,Ag (HO.rds ⟨some (s,b),op⟩) G F→zEh G (s,b)=zEh F (s,b):=by
   intro G hag
   unfold zEh
   rw [show G.getD (s,b).1 .un=F.getD (s,b).1 .un from hag s (by simp [HO.rds])]
  simp only [hoW] at hW
  split at hW
  ·exact hW.elim
  ·rename_i T hT
   cases op with
   |val d v=>
    simp only at hW
    split at hW
    ·rename_i x e1
     refine .inl ⟨[(d,.gd T x)],by simp [HOp.wrs],hW.2,fun G N' X' hag hN=>?_⟩
     have e2:ev G v=ev F v:=yQ7 fun i hi=>hag i (List.mem_append_right _ hi)
     simp only [hoW,hgb G hag,hT,e2,e1]
     exact ⟨hW.1,hN⟩
    ·rename_i hne
     split at hW
     ·refine .inl ⟨[(d,(ev F v).2)],by simp [HOp.wrs],hW.2,fun G N' X' hag hN=>?_⟩
      have e2:ev G v=ev F v:=yQ7 fun i hi=>hag i (List.mem_append_right _ hi)
      have h1:=hW.1
      simp only [sets] at hN
      simp only [hoW,hgb G hag,hT,e2]
      revert hne h1 hN
      generalize ev F v=p
      obtain ⟨p1,p2⟩:=p
      cases p2<;>intro hne hN h1<;>first|exact (hne _ rfl).elim|exact ⟨h1,hN⟩|exact ⟨hN,h1⟩
     ·refine .inl ⟨[(d,.gd false (bv false))],by simp [HOp.wrs],hW,fun G N' X' hag hN=>?_⟩
      have e2:ev G v=ev F v:=yQ7 fun i hi=>hag i (List.mem_append_right _ hi)
      simp only [hoW,hgb G hag,hT,e2]
      revert hne
      cases (ev F v).2<;>intro hne<;>first|exact (hne _ rfl).elim|exact hN
   |call d f args=>
    cases d with
    |none=>exact hW.elim
    |some d=>
     simp only at hW
     obtain ⟨h1,x,h2,h3⟩:=hW
     refine .inl ⟨[(d,.gd T x)],by simp [HOp.wrs,zLV],h3,fun G N' X' hag hN=>?_⟩
     have e2:zBR G args=zBR F args:=zUa _ fun i hi=>hag i (List.mem_append_right _ (List.mem_append_left _ hi))
     simp only [hoW,hgb G hag,hT,e2]
     exact ⟨h1,x,h2,hN⟩
   |callv d y args=>
    cases d with
    |none=>exact hW.elim
    |some d=>
     simp only at hW
     split at hW
     ·rename_i f caps e1
      obtain ⟨h1,x,h2,h3⟩:=hW
      refine .inl ⟨[(d,.gd T x)],by simp [HOp.wrs,zLV],h3,fun G N' X' hag hN=>?_⟩
      have e2:zBR G args=zBR F args:=zUa _ fun i hi=>hag i (List.mem_append_right _ (List.mem_append_right _ (List.mem_append_left _ hi)))
      have e3:zAn G y=zAn F y:=zAw fun i hi=>hag i (List.mem_append_right _ (List.mem_append_left _ hi))
      simp only [hoW,hgb G hag,hT,e2,e3,e1]
      exact ⟨h1,x,h2,hN⟩
     ·exact hW.elim
   |vlp d x r j' base pt n agg=>
    simp only at hW
    cases hTT:T with
    |true=>
     subst hTT
     rcases yPi hl hW with ⟨T',h1,h2,h3⟩|⟨v,F',h1,h2⟩
     ·refine .inl ⟨T',h1,h2,fun G N' X' hag hN=>?_⟩
      simp only [hoW,hgb G hag,hT]
      exact h3 G N' X' (fun i hi=>hag i (List.mem_append_right _ hi)) hN
     ·refine .inr ⟨v,F',h1,fun G N' X' hag hN=>?_⟩
      simp only [hoW,hgb G hag,hT]
      exact h2 G N' X' (fun i hi=>hag i (List.mem_append_right _ hi)) hN
    |false=>
     subst hTT
     refine .inl ⟨[(d,.gd false (bv false))],by simp [HOp.wrs],hW,fun G N' X' hag hN=>?_⟩
     simp only [hoW,hgb G hag,hT]
     exact hN
   |callg d f args=>cases hl
   |_=>exact hW.elim
def zIQ:Ct→Ct
 |.ov (.one (.os pb e k rows))=>.ov (.one (.os pb e k (List.replicate rows.length [])))
 |c=>c
def HO.hrd (h:HO):List Nat:=match h.g,h.op with
 |none,.val _ (.ldh _ _ base off)=>[base+off]
 |none,.val _ (.mv (.t n))=>[n]
 |_,_=>[]
def HO.srd (h:HO):List Nat:=match h.g,h.op with
 |none,.val _ (.ldh x _ _ _)=>x.rds
 |none,.val _ (.mv (.t _))=>[]
 |_,_=>h.rds
def HO.swr (h:HO):List Nat:=match h.g,h.op with
 |none,.vle d _ r _ _ _ _ _=>if d=r then [] else [r]
 |none,.cpy d _ _ r _ _=>if d=some r then [] else [r]
 |_,_=>[]
def AgS (h:HO) (G F:List Ct):Prop:=Ag h.srd G F∧∀ i∈h.hrd,zIQ (G.getD i .un)=zIQ (F.getD i .un)
def yV8 (P:Program) (h:HO) (F:List Ct) (N:List Ct→Prop) (X:Value→List Ct→Prop):Prop:=
 (∃ T:List (Nat×Ct),(∀ p∈T,p.1∈h.op.wrs)∧N (sets F T)∧∀ G,AgS h G F→(∀ i∈h.swr,zIQ ((sets G T).getD i .un)=zIQ (G.getD i .un))∧∀ (N':List Ct→Prop) (X':Value→List Ct→Prop),N' (sets G T)→hoW P h G N' X')∨
 ∃ v F',X v F'∧∀ G (N':List Ct→Prop) (X':Value→List Ct→Prop),AgS h G F→(∀ T:List (Nat×Ct),(∀ p∈T,p.1∈h.op.wrs)→X' v (sets G T))→hoW P h G N' X'
def yXE (j off:Nat) (a c:Ct):Prop×Ct:=match a,c with
 |.ptr j' off',.ov (.one (.os (some b) _ k rows))=>(j'=j∧off'=off,.hdp b k rows.length)
 |.ptr j' off',.ov (.one (.os none _ _ rows))=>(j'=j∧off'=off,.hdr rows.length)
 |_,_=>bad
theorem yPk {F:List Ct} {x:Opd} {j base off:Nat}:ev F (.ldh x j base off)=yXE j off (zAn F x) (F.getD (base+off) .un):=rfl
theorem yL2 {j off:Nat} (a c:Ct):yXE j off a c=yXE j off a (zIQ c):=by
 cases a with
 |ptr j' off'=>
  cases c with
  |ov x=>
   cases x with
   |one y=>
    cases y with
    |os pb e k rows=>cases pb<;>simp [yXE,zIQ]
    |_=>rfl
   |agg cs=>rfl
  |_=>rfl
 |_=>
  cases c with
  |ov x=>
   cases x with
   |one y=>cases y<;>rfl
   |agg cs=>rfl
  |_=>rfl
theorem yNi {x:Opd} {j base off:Nat} {G F:List Ct} (h1:zAn G x=zAn F x) (h2:zIQ (G.getD (base+off) .un)=zIQ (F.getD (base+off) .un)):ev G (.ldh x j base off)=ev F (.ldh x j base off):=by
 rw [yPk,yPk,h1,yL2,h2,←yL2]
theorem yQ9 {F:List Ct} {x:Opd} {r:Nat} {pt:List (Opd×Nat)} {K:OV→List (Nat×Nat)→Nat→Nat→Nat→List (List OV)→Nat→Nat→Prop} (h:atV F x r pt K):
  ∃ a b c d e f g i,F.getD r .un=.ov (.one a)∧a.get b=some (.os (some c) d e f)∧K a b c d e f g i∧∀ K':OV→List (Nat×Nat)→Nat→Nat→Nat→List (List OV)→Nat→Nat→Prop,K' a b c d e f g i→atV F x r pt K':=by
 unfold atV at h
 split at h
 ·rename_i b k i f root e1 e2
  split at h
  ·rename_i b' e k' rows e3
   obtain ⟨h1,rfl,rfl,h4,h5⟩:=h
   refine ⟨_,_,_,_,_,_,_,_,e2,e3,h5,fun K' hk=>?_⟩
   unfold atV
   simp only [e1,e2,e3]
   exact ⟨h1,trivial,trivial,h4,hk⟩
  ·exact h.elim
 ·exact h.elim
theorem yTH {b:Nat} {e k:Nat} {rows rows':List (List OV)} {p:List (Nat×Nat)} {root:OV} (hg:root.get p=some (.os (some b) e k rows)) (hl:rows'.length=rows.length):zIQ (.ov (.one (root.upd p (.os (some b) e k rows'))))=zIQ (.ov (.one root)):=by
 cases p with
 |nil=>
  rw [show root=.os (some b) e k rows by simpa [OV.get] using hg]
  simp only [OV.upd,zIQ,hl]
 |cons ic p=>
  obtain ⟨i,c⟩:=ic
  cases root with
  |p x=>simp [OV.get] at hg
  |hole=>simp [OV.get] at hg
  |mp b ks vs=>simp [OV.get] at hg
  |it b n seen=>simp [OV.get] at hg
  |bl T e b bs=>simp [OV.get] at hg
  |os pb e' k' rows0=>simp only [OV.upd,zIQ,List.length_set]
theorem yPl {n:Nat} {G F:List Ct} (h:zIQ (G.getD n .un)=zIQ (F.getD n .un)):ev G (.mv (.t n))=ev F (.mv (.t n)):=by
 have e:∀ (H:List Ct),ev H (.mv (.t n))=ev [H.getD n .un] (.mv (.t 0)):=fun H=>by simp [ev,zAn]
 have g:∀ c:Ct,ev [c] (.mv (.t 0))=ev [zIQ c] (.mv (.t 0)):=fun c=>by
  cases c with
  |ov x=>
   cases x with
   |one y=>
    cases y with
    |os pb e k rows=>cases pb<;>simp [ev,zAn,zIQ]
    |_=>rfl
   |agg cs=>rfl
  |_=>rfl
 rw [e G,e F,g,h,←g]
theorem yL3 {h:HO} (hl:h.op.loc=true) {F:List Ct} {N:List Ct→Prop} {X:Value→List Ct→Prop} (hW:hoW P h F N X):yV8 P h F N X:=by
 have gen:h.srd=h.rds→h.swr=[]→yV8 P h F N X:=by
  intro h1 h2
  rcases yPj hl hW with ⟨T,a1,a2,a3⟩|⟨v,F',a1,a2⟩
  ·exact .inl ⟨T,a1,a2,fun G hag=>⟨by rw [h2];simp,fun N' X' hN=>a3 G N' X' (h1▸hag.1) hN⟩⟩
  ·exact .inr ⟨v,F',a1,fun G N' X' hag hN=>a2 G N' X' (h1▸hag.1) hN⟩
 obtain ⟨g,op⟩:=h
 cases g with
 |some g=>exact gen rfl rfl
 |none=>
  cases op with
  |val d v=>
   cases v with
   |ldh x j base off=>
    refine .inl ⟨[(d,(ev F (.ldh x j base off)).2)],by simp [HOp.wrs],hW.2,fun G hag=>⟨by simp [HO.swr],fun N' X' hN=>?_⟩⟩
    have e:=yNi (j:=j) (zAw (x:=x) hag.1) (hag.2 (base+off) (by simp [HO.hrd]))
    show opW P (.val d (.ldh x j base off)) G N' X'
    simp only [opW,e]
    exact ⟨hW.1,hN⟩
   |mv x=>
    cases x with
    |t n=>
     refine .inl ⟨[(d,(ev F (.mv (.t n))).2)],by simp [HOp.wrs],hW.2,fun G hag=>⟨by simp [HO.swr],fun N' X' hN=>?_⟩⟩
     have e:=yPl (hag.2 n (by simp [HO.hrd]))
     show opW P (.val d (.mv (.t n))) G N' X'
     simp only [opW,e]
     exact ⟨hW.1,hN⟩
    |c p=>exact gen rfl rfl
    |f n=>exact gen rfl rfl
   |_=>exact gen rfl rfl
  |cpy d e k r x y=>
   have hW':opW P (.cpy d e k r x y) F N X:=hW
   simp only [opW] at hW'
   split at hW'
   ·rename_i b1 k1 i1 n1 b2 k2 i2 n2 b e' k' rows e1 e2 e3
    obtain ⟨h1,h2,h3,h4,h5,h6,h7,h8,h9,h10,h11,hN⟩:=hW'
    refine .inl ⟨(r,.ov (.one (.os (some b) e k (zD3 i2 rows))))::yQ8 d .un,?_,?_,fun G hag=>⟨?_,fun N' X' hN'=>?_⟩⟩
    ·intro q hq
     simp only [HOp.wrs,List.mem_cons] at hq ⊢
     rcases hq with rfl|hq
     ·exact .inl rfl
     ·exact .inr (zTo hq)
    ·simp only [sets];rw [←zJO];exact hN
    ·intro q hq
     simp only [HO.swr] at hq
     split at hq
     ·cases hq
     ·rename_i hdr
      simp only [List.mem_singleton] at hq
      subst hq
      have e9:G.getD q .un=F.getD q .un:=hag.1 q (by simp [HO.srd,HO.rds,HOp.rds])
      simp only [sets]
      rw [zHb (yQ8 d .un) _ (fun p hp=>by
       have:=zTo hp
       cases d with
       |none=>simp [zLV] at this
       |some d0=>simp [zLV] at this;rw [this];exact fun e0=>hdr (by rw [e0])),zBm]
      split
      ·rw [e9,e3]
       simp only [zIQ,h5,h6]
       have:(zD3 i2 rows).length=rows.length:=by
        simp only [zD3,List.length_append,List.length_take,List.length_cons,List.length_nil,List.length_dropLast,List.length_drop];omega
       rw [this]
      ·rfl
    ·have hag':Ag (HOp.rds (.cpy d e k r x y)) G F:=hag.1
     have g1:=zAw (x:=x) (Ag.left hag')
     have g2:=zAw (x:=y) (Ag.left (Ag.right (a:=x.rds) hag'))
     have g3:G.getD r .un=F.getD r .un:=Ag.right (a:=y.rds) (Ag.right (a:=x.rds) hag') r (by simp)
     simp only [sets] at hN'
     rw [←zJO] at hN'
     show opW P (.cpy d e k r x y) G N' X'
     simp only [opW,g1,g2,g3,e1,e2,e3]
     exact ⟨h1,h2,h3,h4,h5,h6,h7,h8,h9,h10,h11,hN'⟩
   ·exact hW'.elim
  |vle d x r j base pt n agg=>
   have hW':opW P (.vle d x r j base pt n agg) F N X:=hW
   simp only [opW] at hW'
   obtain ⟨root,p,b,e,k,rows,i,f,hr1,hr2,hK,hall⟩:=yQ9 hW'
   refine .inl ⟨[(r,_),(d,_)],by simp [HOp.wrs],hK.2,fun G hag=>⟨?_,fun N' X' hN=>?_⟩⟩
   ·intro q hq
    simp only [HO.swr] at hq
    split at hq
    ·cases hq
    ·rename_i hdr
     simp only [List.mem_singleton] at hq
     subst hq
     have e1:G.getD q .un=F.getD q .un:=hag.1 q (by simp [HO.srd,HO.rds,HOp.rds])
     simp only [sets]
     rw [zBm,if_neg (fun hc=>hdr hc.1),zBm]
     split
     ·rw [e1,hr1]
      exact yTH hr2 (by simp)
     ·rfl
   ·show opW P (.vle d x r j base pt n agg) G N' X'
    simp only [opW]
    rw [yBp hag.1]
    exact hall _ ⟨hK.1,hN⟩
  |_=>exact gen rfl rfl
structure DO where
 i:Nat
 last:Bool
 h:HO
 deriving Inhabited
def dW (P:Program):List DO→List Ct→(List Ct→Prop)→(Value→Prop)→Prop
 |[],F,N,_=>N F
 |d::r,F,N,X=>hoW P d.h F (fun F'=>dW P r F' N X) (fun v _=>d.last=true∧X v)
def dAt (ds:List DO) (j:Nat):Option HO:=(ds.find? fun d=>d.i==j).map (·.h)
def yRa (P:Program) (ops:Array Oper) (hs:Nat→Option HO) (N:List Ct→Prop) (X:Value→Prop):Nat→Array Bool→List Ct→Prop
 |0,listed,F=>Region.ready .any ops listed=[]∧N F
 |fuel+1,listed,F=>(Region.ready .any ops listed=[]→N F)∧
  ∀ i∈Region.ready .any ops listed,∃ h,hs i=some h∧hoW P h F (yRa P ops hs N X fuel (listed.setIfInBounds i true)) (fun v _=>X v)
def yV9 (a b:List Nat):Bool:=a.all fun x=>!b.contains x
theorem zUd {a b:List Nat} (h:yV9 a b=true) {x y:Nat} (hx:x∈a) (hy:y∈b):x≠y:=by
 simp only [yV9,List.all_eq_true,Bool.not_eq_true',List.contains_eq_mem,decide_eq_false_iff_not] at h
 exact fun e=>h x hx (e▸hy)
def yL4 (h h':HO):Bool:=h'.hrd.all fun x=>!h.op.wrs.contains x||h.swr.contains x
theorem zUe {h h':HO} (hs:yL4 h h'=true) {x:Nat} (hx:x∈h'.hrd):x∉h.op.wrs∨x∈h.swr:=by
 simp only [yL4,List.all_eq_true,Bool.or_eq_true,Bool.not_eq_true',List.contains_eq_mem,decide_eq_false_iff_not,decide_eq_true_eq] at hs
 exact hs x hx
def yRb (h h':HO):Bool:=yV9 h.op.wrs h'.srd&&yV9 h'.op.wrs h.srd&&yV9 h.op.wrs h'.op.wrs&&yL4 h h'&&yL4 h' h
def zK6 (ops:Array Oper) (j i:Nat):Bool:=match ops[j]? with
 |some o=>o.after.any fun e=>Region.binds .any e&&e.on==i
 |none=>false
theorem zJP {ops:Array Oper} {listed:Array Bool} {i j:Nat} (hw:zK6 ops j i=true) (hi:listed.getD i false=false):j∉Region.ready .any ops listed:=by
 intro hj
 unfold zK6 at hw
 obtain ⟨_,oj,hoj,hall⟩:=mem_ready.1 hj
 rw [hoj] at hw
 simp only [Array.any_eq_true',Bool.and_eq_true,beq_iff_eq] at hw
 obtain ⟨e,he,hb,rfl⟩:=hw
 have:=hall e he hb
 rw [hi] at this
 cases this
theorem zEj {listed:Array Bool} {i:Nat} (h:listed.getD i true=false):listed.getD i false=false:=by
 simp only [Array.getD_eq_getD_getElem?] at *
 cases hx:listed[i]? with
 |none=>rw [hx] at h;cases h
 |some b=>rw [hx] at h;exact h
theorem yNj {ops:Array Oper} {hs:Nat→Option HO} {N:List Ct→Prop} {X:Value→Prop} {i:Nat} {h:HO} (hi:hs i=some h) {T:List (Nat×Ct)} (hT:∀ p∈T,p.1∈h.op.wrs):
  ∀ (fuel:Nat) (listed:Array Bool) (F:List Ct),
   (∀ j,j≠i→listed.getD j true=false→zK6 ops j i=true∨∃ hj,hs j=some hj∧hj.op.loc=true∧yRb h hj=true)→
   i∈Region.ready .any ops listed→
   (∀ G,AgS h G F→(∀ i∈h.swr,zIQ ((sets G T).getD i .un)=zIQ (G.getD i .un))∧∀ (N':List Ct→Prop) (X':Value→List Ct→Prop),N' (sets G T)→hoW P h G N' X')→
   yRa P ops hs N X fuel (listed.setIfInBounds i true) (sets F T)→yRa P ops hs N X (fuel+1) listed F:=by
 intro fuel
 induction fuel with
 |zero=>
  intro listed F hfree hr hD H
  refine ⟨fun h0=>(by rw [h0] at hr;cases hr),fun j hj=>?_⟩
  by_cases hji:j=i
  ·subst hji
   exact ⟨h,hi,(hD F ⟨fun _ _=>rfl,fun _ _=>rfl⟩).2 _ _ H⟩
  ·have:=ready_mono hj hji
   rw [H.1] at this
   cases this
 |succ fuel ih=>
  intro listed F hfree hr hD H
  refine ⟨fun h0=>(by rw [h0] at hr;cases hr),fun j hj=>?_⟩
  by_cases hji:j=i
  ·subst hji
   exact ⟨h,hi,(hD F ⟨fun _ _=>rfl,fun _ _=>rfl⟩).2 _ _ H⟩
  ·obtain ⟨hj',e1,h1⟩:=H.2 j (ready_mono hj hji)
   have hun:=(mem_ready.1 hj).1
   have hiun:=(mem_ready.1 hr).1
   rcases hfree j hji hun with hw|⟨hj'',e2,hloc,hind⟩
   ·exact (zJP hw (zEj hiun) hj).elim
   rw [e1] at e2
   injection e2 with e2
   subst e2
   simp only [yRb,Bool.and_eq_true] at hind
   obtain ⟨⟨⟨⟨d1,d2⟩,d3⟩,d4⟩,d5⟩:=hind
   refine ⟨hj',e1,?_⟩
   have hag1:AgS hj' F (sets F T):=⟨fun x hx=>(zHb T F fun p hp=>zUd d1 (hT p hp) hx).symm,fun x hx=>by
    rcases zUe d4 hx with h9|h9
    ·rw [zHb T F fun p hp e=>h9 (by rw [←e];exact hT p hp)]
    ·exact ((hD F ⟨fun _ _=>rfl,fun _ _=>rfl⟩).1 x h9).symm⟩
   rcases yL3 hloc h1 with ⟨T',hT',h2,h3⟩|⟨v,F',h2,h3⟩
   ·refine (h3 F hag1).2 _ _ ?_
    have hfree':∀ k,k≠i→(listed.setIfInBounds j true).getD k true=false→zK6 ops k i=true∨∃ hk,hs k=some hk∧hk.op.loc=true∧yRb h hk=true:=by
     intro k hki hkun
     refine hfree k hki ?_
     by_cases hjk:j=k
     ·subst hjk;exact hun
     ·rw [getD_set_ne true hjk] at hkun;exact hkun
    refine ih (listed.setIfInBounds j true) (sets F T') hfree' (ready_mono hr (Ne.symm hji)) ?_ ?_
    ·intro G hag
     refine hD G ⟨fun x hx=>?_,fun x hx=>?_⟩
     ·rw [hag.1 x hx]
      exact zHb T' F fun p hp=>zUd d2 (hT' p hp) hx
     ·rw [hag.2 x hx]
      rcases zUe d5 hx with h9|h9
      ·rw [zHb T' F fun p hp e=>h9 (by rw [←e];exact hT' p hp)]
      ·exact (h3 F hag1).1 x h9
    ·rw [Array.setIfInBounds_comm _ _ hji,yGJ T' T F fun p hp q hq=>(zUd d3 (hT q hq) (hT' p hp)).symm]
     exact h2
   ·exact h3 F _ _ hag1 fun _ _=>h2
theorem yPm {ops:Array Oper} {hs:Nat→Option HO} {N:List Ct→Prop} {X:Value→Prop} {i:Nat} {h:HO} (hi:hs i=some h) {fuel:Nat} {listed:Array Bool} {F:List Ct}
  (hr:i∈Region.ready .any ops listed) (hall:∀ j∈Region.ready .any ops listed,j=i) (hW:hoW P h F (yRa P ops hs N X fuel (listed.setIfInBounds i true)) (fun v _=>X v)):yRa P ops hs N X (fuel+1) listed F:=
 ⟨fun h0=>(by rw [h0] at hr;cases hr),fun j hj=>by rw [hall j hj];exact ⟨h,hi,hW⟩⟩
def zUf (ops:Array Oper) (i:Nat):List Nat→List DO→Bool
 |_,[]=>true
 |seen,d::r=>(i::seen).any (fun k=>zK6 ops d.i k)&&zUf ops i (d.i::seen) r
def dGo (ops:Array Oper):List DO→Array Bool→Bool
 |[],listed=>(Region.ready .any ops listed).isEmpty
 |d::r,listed=>(Region.ready .any ops listed).contains d.i&&d.h.op.loc&&(r.all fun e=>zK6 ops e.i d.i||(e.h.op.loc&&yRb d.h e.h))&&(!d.last||zUf ops d.i [] r)&&dGo ops r (listed.setIfInBounds d.i true)
def zUg:List DO→Bool
 |[]=>true
 |d::r=>r.all (fun e=>e.i != d.i)&&zUg r
def yL5 (P:Program) (E:Env) (ops:Array Oper) (ds:List DO):Bool:=
 P.follows .mixedOrders&&zUg ds&&decide (ds.length=ops.size)&&(List.range ops.size).all (fun j=>ds.any fun d=>d.i==j)&&ds.all (fun d=>match ops[d.i]? with|some o=>yNg P E ops d.h o|none=>false) &&
 dGo ops ds (Array.replicate ops.size false)
theorem zQh {ops:Array Oper} {listed:Array Bool} {i:Nat} (hi:listed.getD i false=false):∀ (r:List DO) (seen:List Nat),zUf ops i seen r=true→(∀ k∈seen,listed.getD k false=false)→(∀ d∈r,listed.getD d.i false=false)→∀ d∈r,d.i∉Region.ready .any ops listed
 |[],_,_,_,_,d,hd=>by cases hd
 |d0::r,seen,h,hs,hr,d,hd=>by
  simp only [zUf,Bool.and_eq_true,List.any_eq_true] at h
  obtain ⟨⟨k,hk,hw⟩,h2⟩:=h
  rcases List.mem_cons.1 hd with e|hd
  ·subst e
   refine zJP hw ?_
   rcases List.mem_cons.1 hk with e|hk
   ·rw [e];exact hi
   ·exact hs k hk
  ·refine zQh hi r (d0.i::seen) h2 ?_ (fun d hd=>hr d (List.mem_cons_of_mem _ hd)) d hd
   intro k hk
   rcases List.mem_cons.1 hk with e|hk
   ·rw [e];exact hr d0 List.mem_cons_self
   ·exact hs k hk
theorem yPn {ds:List DO} (hn:zUg ds=true) {d:DO} (hd:d∈ds):dAt ds d.i=some d.h:=by
 induction ds with
 |nil=>cases hd
 |cons e r ih=>
  simp only [zUg,Bool.and_eq_true,List.all_eq_true,bne_iff_ne,ne_eq] at hn
  unfold dAt
  rw [List.find?_cons]
  by_cases he:e.i=d.i
  ·have:e=d:=by
    rcases List.mem_cons.1 hd with h|h
    ·exact h.symm
    ·exact (hn.1 d h he.symm).elim
   subst this
   simp
  ·have hne:(e.i==d.i)=false:=by simp [he]
   rw [hne]
   rcases List.mem_cons.1 hd with h|h
   ·subst h;exact (he rfl).elim
   ·exact ih hn.2 h
theorem ySO {ops:Array Oper} {ds:List DO} (hn:zUg ds=true) {N:List Ct→Prop} {X:Value→Prop}:∀ (r:List DO) (listed:Array Bool) (F:List Ct),(∀ d∈r,d∈ds)→(∀ j,listed.getD j true=false→∃ d∈r,d.i=j)→(∀ d∈r,listed.getD d.i true=false)→zUg r=true→
  dGo ops r listed=true→dW P r F N X→yRa P ops (dAt ds) N X r.length listed F
 |[],listed,F,_,_,_,_,hg,hW=>⟨by simpa [dGo] using hg,hW⟩
 |d::r,listed,F,hds,hcov,hun,hnd,hg,hW=>by
  simp only [dGo,Bool.and_eq_true,List.all_eq_true,Bool.or_eq_true,Bool.not_eq_true'] at hg
  obtain ⟨⟨⟨⟨hr,hloc⟩,hall⟩,hlast⟩,hgo⟩:=hg
  have hr':d.i∈Region.ready .any ops listed:=by simpa using hr
  have hi:=yPn hn (hds d List.mem_cons_self)
  have hiun:=hun d List.mem_cons_self
  simp only [zUg,Bool.and_eq_true,List.all_eq_true,bne_iff_ne,ne_eq] at hnd
  have hsz:d.i < listed.size:=by
   rcases Nat.lt_or_ge d.i listed.size with h|h
   ·exact h
   ·simp [Array.getElem?_eq_none h] at hiun
  have rest:∀ F',dW P r F' N X→yRa P ops (dAt ds) N X r.length (listed.setIfInBounds d.i true) F':=by
   intro F' hW'
   refine ySO hn r _ F' (fun e he=>hds e (List.mem_cons_of_mem _ he)) ?_ ?_ hnd.2 hgo hW'
   ·intro j hj
    by_cases hji:d.i=j
    ·subst hji
     simp [hsz] at hj
    ·rw [getD_set_ne true hji] at hj
     obtain ⟨e,he,hej⟩:=hcov j hj
     rcases List.mem_cons.1 he with e'|he
     ·subst e';exact (hji hej).elim
     ·exact ⟨e,he,hej⟩
   ·intro e he
    rw [getD_set_ne true (fun e'=>hnd.1 e he e'.symm)]
    exact hun e (List.mem_cons_of_mem _ he)
  simp only [dW] at hW
  simp only [List.length_cons]
  rcases yL3 hloc hW with ⟨T,hT,h2,h3⟩|⟨v,F',⟨hl,hx⟩,h3⟩
  ·refine yNj hi hT r.length listed F ?_ hr' h3 (rest _ h2)
   intro j hji hj
   obtain ⟨e,he,hej⟩:=hcov j hj
   rcases List.mem_cons.1 he with e'|he
   ·subst e';exact (hji hej.symm).elim
   ·subst hej
    rcases hall e he with h|h
    ·exact .inl h
    ·exact .inr ⟨e.h,yPn hn (hds e (List.mem_cons_of_mem _ he)),h.1,h.2⟩
  ·have hl':zUf ops d.i [] r=true:=by
    rcases hlast with h|h
    ·rw [hl] at h;cases h
    ·exact h
   have hnr:=zQh (zEj hiun) r [] hl' (by simp) (fun e he=>zEj (hun e (List.mem_cons_of_mem _ he)))
   refine yPm hi hr' ?_ (h3 F _ _ ⟨fun _ _=>rfl,fun _ _=>rfl⟩ fun _ _=>hx)
   intro j hj
   obtain ⟨e,he,hej⟩:=hcov j (mem_ready.1 hj).1
   rcases List.mem_cons.1 he with e'|he
   ·subst e';exact hej.symm
   ·subst hej;exact (hnr e he hj).elim
variable {E:Env} {S:Start}
def AgW (W:List Nat) (F F':List Ct):Prop:=F'.length=F.length∧∀ i,i∉W→F'.getD i .un=F.getD i .un
theorem AgW.refl {W:List Nat} {F:List Ct}:AgW W F F:=⟨rfl,fun _ _=>rfl⟩
theorem AgW.sets {W:List Nat} {F0:List Ct}:∀ {T:List (Nat×Ct)} {F:List Ct},(∀ p∈T,p.1∈W)→AgW W F0 F→AgW W F0 (sets F T)
 |[],_,_,h=>h
 |(i,c)::T,F,hT,h=>by
  refine AgW.sets (T:=T) (fun p hp=>hT p (List.mem_cons_of_mem _ hp)) ⟨by rw [List.length_set];exact h.1,fun j hj=>?_⟩
  have hij:i≠j:=fun e=>hj (e▸hT (i,c) List.mem_cons_self)
  rw [zBm,if_neg (fun hc=>hij hc.1)]
  exact h.2 j hj
def dsW (ds:List DO):List Nat:=ds.flatMap fun d=>d.h.op.wrs
theorem yBq (wf:E.Wf) {ops:Array Oper} {hs:Nat→Option HO} {N:List Ct→Prop} {X:Value→Prop} {Q:Exit→Act→World→Prop} (zD4:∀ (i:Nat) (h:HO),hs i=some h→∃ o,ops[i]?=some o∧yNg P E ops h o=true)
  {W:List Nat} {F0:List Ct} (hloc:∀ (i:Nat) (h:HO),hs i=some h→h.op.loc=true∧∀ x∈h.op.wrs,x∈W)
  (hN:∀ F a w,N F→Inv E S F a w→Q .normal a w) (hX:∀ v F a w,X v→AgW W F0 F→Inv E S F a w→Q (.panic [{v,recovered:=false}]) a w):
  ∀ (fuel:Nat) (listed:Array Bool) (F:List Ct) (a:Act) (w:World),AgW W F0 F→Inv E S F a w→yRa P ops hs N X fuel listed F→wpAny P .any ops Q fuel listed a w
 |0,_,F,a,w,_,hI,h=>⟨h.1,hN F a w h.2 hI⟩
 |fuel+1,listed,F,a,w,hA,hI,h=>by
  refine ⟨fun h0=>hN F a w (h.1 h0) hI,fun i hi=>?_⟩
  obtain ⟨ho,e1,hW⟩:=h.2 i hi
  obtain ⟨o,e2,hk⟩:=zD4 i ho e1
  obtain ⟨hl,hw⟩:=hloc i ho e1
  have hW':hoW P ho F (fun F'=>yRa P ops hs N X fuel (listed.setIfInBounds i true) F'∧AgW W F0 F') (fun v F'=>X v∧AgW W F0 F'):=by
   rcases yPj hl hW with ⟨T,t1,t2,t3⟩|⟨v,F',t1,t2⟩
   ·exact t3 F _ _ (fun _ _=>rfl) ⟨t2,hA.sets fun p hp=>hw _ (t1 p hp)⟩
   ·exact t2 F _ _ (fun _ _=>rfl) fun T hT=>⟨t1,hA.sets fun p hp=>hw _ (hT p hp)⟩
  obtain ⟨m,β,ow,hG⟩:=hI
  refine wpOp_mono ?_ (yCy (S:=S) wf hG e2 hk (fun v F' a' w' hx hI'=>hX v F' a' w' hx.1 hx.2 hI') hW')
  rintro a' w' ⟨F',hK',hI'⟩
  exact yBq wf zD4 hloc hN hX fuel _ F' a' w' hK'.2 hI' hK'.1
theorem yPo {ops:Array Oper}:∀ (ds:List DO) (listed:Array Bool),dGo ops ds listed=true→∀ d∈ds,d.h.op.loc=true
 |d::r,listed,h,e,he=>by
  simp only [dGo,Bool.and_eq_true] at h
  rcases List.mem_cons.1 he with rfl|he
  ·exact h.1.1.1.2
  ·exact yPo r _ h.2 e he
theorem zUh (wf:E.Wf) {id:Nat} {ops:Array Oper} {ds:List DO} (hk:yL5 P E ops ds=true) {N:List Ct→Prop} {X:Value→Prop} {Q:Exit→Act→World→Prop} {F:List Ct}
  (hN:∀ F a w,N F→Inv E S F a w→Q .normal a w) (hX:∀ v F' a w,X v→AgW (dsW ds) F F'→Inv E S F' a w→Q (.panic [{v,recovered:=false}]) a w) {a:Act} {w:World} (hI:Inv E S F a {w with drawn:=w.drawn+1})
  (hW:dW P ds F N X):(Code.region id ops true).wp P Q a w:=by
 simp only [yL5,Bool.and_eq_true,List.all_eq_true,decide_eq_true_eq,List.mem_range,List.any_eq_true,beq_iff_eq] at hk
 obtain ⟨⟨⟨⟨⟨hm,hn⟩,hlen⟩,hcov⟩,zD4⟩,hgo⟩:=hk
 have hds:∀ (i:Nat) (h:HO),dAt ds i=some h→∃ d∈ds,d.i=i∧d.h=h:=by
  intro i h hi
  unfold dAt at hi
  cases hf:ds.find? (fun d=>d.i==i) with
  |none=>rw [hf] at hi;cases hi
  |some d=>
   rw [hf] at hi
   simp only [Option.map_some,Option.some.injEq] at hi
   have hdi:=List.find?_some hf
   simp only [beq_iff_eq] at hdi
   exact ⟨d,List.mem_of_find?_eq_some hf,hdi,hi⟩
 refine wp_region_any hm (yBq (hs:=dAt ds) wf ?_ (W:=dsW ds) (F0:=F) ?_ hN hX _ _ F a _ AgW.refl hI ?_)
 ·intro i h hi
  obtain ⟨d,hmem,hdi,hi⟩:=hds i h hi
  have:=zD4 d hmem
  rw [hdi] at this
  split at this
  ·rename_i o ho;exact ⟨o,ho,by rw [←hi];exact this⟩
  ·cases this
 ·intro i h hi
  obtain ⟨d,hmem,hdi,rfl⟩:=hds i h hi
  exact ⟨yPo ds _ hgo d hmem,fun x hx=>List.mem_flatMap.2 ⟨d,hmem,hx⟩⟩
 ·rw [←hlen]
  refine ySO hn ds _ F (fun d hd=>hd) ?_ ?_ hn (by rw [hlen];exact hgo) hW
  ·intro j hj
   rcases Nat.lt_or_ge j ds.length with h|h
   ·rw [hlen] at h
    obtain ⟨d,hd,hdj⟩:=hcov j h
    exact ⟨d,hd,hdj⟩
   ·simp [h] at hj
  ·intro d hd
   have:=zD4 d hd
   split at this
   ·rename_i o ho
    have:d.i < ds.length:=by rw [hlen];exact (Array.getElem?_eq_some_iff.1 ho).1
    simp [this]
   ·cases this
end
end Go.Hx
end

section
namespace Go.Hx
open Go.RowKit
variable [Glob]
inductive Gh where
  | forget (l:List Nat)
  | frz (j base n:Nat)
  | pin (r j base:Nat) (pt:List (Opd×Nat))
  | unp (r j base:Nat) (pt:List (Opd×Nat))
  | vfr (r j base:Nat)
  | vfp (r j base:Nat) (pt:List (Opd×Nat))
  | vfm (r:Nat)
  | ffr (r j base:Nat)
  | vmf (r:Nat)
  deriving Inhabited
def memFree:Ct→Bool
  | .un=>true
  | .una=>true
  | .ptr _ _=>true
  | .pv (.one (.v _))=>true
  | .pv (.one (.w _ .any))=>true
  | _=>false
def zBj (c:Ct):Ct:=if memFree c then c else .un
def yI0 (m:Mem) (b o:Nat) (vs:List Value):Mem:=fun g q=>if g=b∧o≤q∧q < o+vs.length then vs[q-o]? else m g q
def jgo (cs ys:List PV) (F:List Ct) (K:List Ct→Prop):List (Nat×Nat×Nat)→List Ct→Prop
  | [],G=>K G
  | q::r,G=>∃ (x:PV) (R:PV→Prop),F.getD q.1 .un=.pv (.one x)∧(∀ (m:Mem) (b o:Nat) (u:Value) (us vs:List Value),(∀ i u,us[i]?=some u→m b (o+i)=some u)→RpL m cs us→RpL m ys vs→Rp m x u→∃ x',R x'∧Rp (yI0 m b o vs) x' u)∧∀ x',R x'→jgo cs ys F K r (G.set q.1 (.pv (.one x')))
def jst (F:List Ct) (x:Opd) (n:Nat) (y:Opd) (js:List (Nat×Nat×Nat)) (K:List Ct→Prop):Prop:=match (zAn F x).pv?,(zAn F y).pv? with
  | some (.one (.fp cs)),some p=>(zAn F x).need∧(zAn F y).need∧cs.length=n∧p.cells.length=n∧jgo cs p.cells F K js (F.map zBj)
  | _,_=>False
inductive HCode where
  | skip
  | reg (ops:List HO) (draw:Bool) (post:List Gh)
  | drg (ops:List DO) (post:List Gh)
  | rdr (i:Nat) (ops:List HO) (draw:Bool) (post:List Gh)
  | regG (pre:List Gh) (ops:List HO) (post:List Gh)
  | drgG (pre:List Gh) (ops:List DO) (post:List Gh)
  | seq (a b:HCode)
  | cond (x:Opd) (a b:HCode)
  | block (id:Nat) (a:HCode)
  | loop (a:HCode)
  | exit (id:Nat)
  | ret
  | scope (a:HCode)
  | label
  | jreg (ops:List HO) (x:Opd) (n:Nat) (y:Opd) (js:List (Nat×Nat×Nat)) (post:List Gh)
  deriving Inhabited
def frP (n:Nat) (u:Value):Prop:=∀ A l c,u=.slice (some A) l c→n≤A.block
def yJl (vs:List OV):Bool:=vs.all fun x=>match x with|.os _ _ _ _=>true|_=>false
def yNk (j:Nat) (cs:List PV):Ct→Ct
  | .ptr j' off=>if j'=j then .pv (.one (.fp (cs.drop off))) else .ptr j' off
  | .cl f caps=>if zFJ j caps then .un else .cl f caps
  | c=>c
def zCG (F:List Ct):List Nat→List Ct
  | []=>F
  | i::r=>zCG (F.set i .un) r
def ghW (F:List Ct) (K:List Ct→Prop):List Gh→Prop
  | []=>K F
  | .forget l::r=>ghW (zCG F l) K r
  | .frz j base n::r=>match zBq F base n with
    | some cs=>ghW (zAi (F.map (yNk j cs)) base (List.replicate n .un)) K r
    | none=>False
  | .pin s _ _ pt::r=>match F.getD s .un with
    | .ov (.one root)=>match root.get (zDn F pt).2 with
      | some (.os none e k rows)=>(zDn F pt).1∧∀ b,ghW (F.set s (.ov (.one (root.upd (zDn F pt).2 (.os (some b) e k rows))))) K r
      | _=>False
    | _=>False
  | .unp s _ _ pt::r=>match F.getD s .un with
    | .ov (.one root)=>match root.get (zDn F pt).2 with
      | some (.os _ e k rows)=>(zDn F pt).1∧ghW (F.set s (.ov (.one (root.upd (zDn F pt).2 (.os none e k rows))))) K r
      | _=>False
    | _=>False
  | .vfr s _ _::r=>match F.getD s .un with
    | .ov (.one root)=>match root.frz with
      | some x=>ghW (F.set s (.pv (.one x))) K r
      | none=>False
    | .ov (.agg cs)=>match zOv cs with
      | some xs=>ghW (F.set s (.pv (.agg xs))) K r
      | none=>False
    | _=>False
  | .vfp s _ _ pt::r=>match F.getD s .un with
    | .ov (.one root)=>match root.get (zDn F pt).2 with
      | some y=>match y.frz with
        | some x=>(zDn F pt).1∧ghW (F.set s (.ov (.one (root.upd (zDn F pt).2 (.p x))))) K r
        | none=>False
      | none=>False
    | _=>False
  | .vfm s::r=>match F.getD s .un with
    | .ov (.one (.mp b ks vs))=>match zOv vs with
      | some xs=>ghW (F.set s (.ov (.one (.mp b ks (xs.map .p))))) K r
      | none=>False
    | _=>False
  | .ffr s _ _::r=>match F.getD s .un with
    | .own _ k rows=>ghW (F.set s (.pv (.one (.w (frP Glob.n) (.sl k rows))))) K r
    | .ov (.one (.os _ _ k rows))=>match zCz rows with
      | some rs=>ghW (F.set s (.pv (.one (.w (frP Glob.n) (.sl k rs))))) K r
      | none=>False
    | _=>False
  | .vmf s::r=>match F.getD s .un with
    | .ov (.one (.mp b ks vs))=>match zOv vs with
      | some xs=>yJl vs=true∧ghW (F.set s (.ov (.one (.mp b ks (xs.map fun x=>.p (.w (frP Glob.n) x)))))) K r
      | none=>False
    | _=>False
def zYq (K:List Ct→Prop) (Q:Exit→List Ct→Prop):Exit→List Ct→Prop
  | .normal,F=>K F
  | e,F=>Q e F
def zIR (id:Nat) (Q:Exit→List Ct→Prop):Exit→List Ct→Prop
  | .exit id',F=>if id'=id then Q .normal F else Q (.exit id') F
  | e,F=>Q e F
def ngQ (Q:Exit→List Ct→Prop):Exit→List Ct→Prop
  | .goto _,_=>False
  | e,F=>Q e F
def leC (c c':Ct):Prop:=
  c'=.un∨c'=c∨match c,c' with
    | .own _ k rows,.pv (.one (.sl k' rows'))=>k'=k∧rows'=rows
    | .pv (.one (.nl k)),.pv (.one (.sl k' rows'))=>k'=k∧rows'=[]
    | .pv (.one (.nl _)),.own _ _ rows'=>rows'=[]
    | .pv (.one (.nl _)),.ov (.one (.os none _ _ rows'))=>rows'=[]
    | .gd true x,.pv y=>x=y
    | _,_=>False
def Le:List Ct→List Ct→Prop
  | [],l=>l=[]
  | c::cs,l=>∃ c' cs',l=c'::cs'∧leC c c'∧Le cs cs'
def hwp (P:Program):HCode→(Exit→List Ct→Prop)→List Ct→Prop
  | .skip,Q,F=>Q .normal F
  | .reg ops draw post,Q,F=>match draw with
    | false=>yTy P ops F (fun F'=>ghW F' (fun F''=>Q .normal F'') post) (fun v F'=>Q (.panic [{v,recovered:=false}]) F')
    | true=>ySA P ops F (fun F'=>ghW F' (fun F''=>Q .normal F'') post)
  | .drg ds post,Q,F=>dW P ds F (fun F'=>ghW F' (fun F''=>Q .normal F'') post) (fun v=>∀ F',AgW (dsW ds) F F'→Q (.panic [{v,recovered:=false}]) F')
  | .regG pre ops post,Q,F=>ghW F (fun F0=>yTy P ops F0 (fun F'=>ghW F' (fun F''=>Q .normal F'') post) (fun v F'=>Q (.panic [{v,recovered:=false}]) F')) pre
  | .drgG pre ds post,Q,F=>ghW F (fun F0=>dW P ds F0 (fun F'=>ghW F' (fun F''=>Q .normal F'') post) (fun v=>∀ F',AgW (dsW ds) F0 F'→Q (.panic [{v,recovered:=false}]) F')) pre
  | .rdr i ops _ post,Q,F=>match F.getD i .un with
    | .stk e k rows=>ySA P ops (F.set i (.own e k rows)) (fun F1=>ghW (yJi F F1 (yQK ops)) (fun F''=>Q .normal F'') post)
    | _=>False
  | .seq a b,Q,F=>hwp P a (zYq (hwp P b Q) Q) F
  | .cond x a b,Q,F=>match (zAn F x).pv? with
    | some (.one (.v (.bool t)))=>(zAn F x).need∧(t=true→hwp P a Q F)∧(t=false→hwp P b Q F)
    | _=>False
  | .block id a,Q,F=>hwp P a (zIR id Q) F
  | .loop a,Q,F=>∃ I:Nat→List Ct→Prop,(∃ n F',Le F F'∧I n F')∧∀ n F1,I n F1→hwp P a (zYq (fun F2=>∃ n' F',n' < n∧Le F2 F'∧I n' F') Q) F1
  | .exit id,Q,F=>Q (.exit id) F
  | .ret,Q,F=>Q .ret F
  | .scope a,Q,F=>hwp P a (ngQ Q) F
  | .label,Q,F=>Q .normal F
  | .jreg ops x n y js post,Q,F=>yTy P ops F (fun F1=>jst F1 x n y js (fun F2=>ghW F2 (fun F3=>Q .normal F3) post)) (fun v F'=>Q (.panic [{v,recovered:=false}]) F')
section
variable {P:Program} {E:Env} {S:Start} {m:Mem} {β:Bx} {ow:Ow} {F:List Ct} {a:Act} {w:World}
theorem Le.length:∀ {F F':List Ct},Le F F'→F'.length=F.length
  | [],l,h=>by simp only [Le] at h;subst h;rfl
  | c::cs,l,h=>by
    simp only [Le] at h
    obtain ⟨c',cs',rfl,_,h2⟩:=h
    simp [Le.length h2]
theorem Le.get:∀ {F F':List Ct},Le F F'→∀ i,leC (F.getD i .un) (F'.getD i .un)
  | [],l,h,i=>by simp only [Le] at h;subst h;exact .inl (by simp)
  | c::cs,l,h,i=>by
    simp only [Le] at h
    obtain ⟨c',cs',rfl,h1,h2⟩:=h
    cases i with
    | zero=>simpa using h1
    | succ i=>simpa using Le.get h2 i
theorem yL6 {t:Tag} {e k:Nat}:OvOk m w ow t (.one (.os none e k [])) (.slice none 0 0):=by
  refine ⟨[],?_,List.nodup_nil,fun g hg=>by cases hg⟩
  simp only [OvV,OvR,OvRows]
  exact ⟨[],[],World.ownsRow_nil w 0 e k,⟨rfl,rfl⟩,by simp [blk,Value.ownBlock],fun b h=>by cases h⟩
theorem leC.ct {i:Nat} {c c':Ct} {u:Value} (h:leC c c') (hc:CtRep m w β ow i c u):CtRep m w β ow i c' u:=by
  rcases h with h|h|h
  · rw [h];trivial
  · rw [h];exact hc
  · split at h
    · obtain ⟨rfl,rfl⟩:=h;exact OwnRep.rp hc
    · obtain ⟨rfl,rfl⟩:=h;exact Rp.norm (x:=.nl _) hc
    · subst h
      have hu:u=.slice none 0 0:=hc
      subst hu
      exact (OwnAt.nil m w _ _).rep fun g hg=>by simp [Value.ownBlock] at hg
    · subst h
      have hu:u=.slice none 0 0:=hc
      subst hu
      exact yL6
    · subst h;exact hc.1 rfl
    · exact h.elim
theorem leC.cell {i:Nat} {c c':Ct} {u:Value} (h:leC c c') (hc:CellRep m w ow i c u):CellRep m w ow i c' u:=by
  rcases h with h|h|h
  · rw [h];trivial
  · rw [h];exact hc
  · split at h
    · obtain ⟨rfl,rfl⟩:=h;exact OwnRep.rp hc
    · obtain ⟨rfl,rfl⟩:=h;exact Rp.norm (x:=.nl _) hc
    · subst h
      have hu:u=.slice none 0 0:=hc
      subst hu
      exact (OwnAt.nil m w _ _).rep fun g hg=>by simp [Value.ownBlock] at hg
    · subst h
      have hu:u=.slice none 0 0:=hc
      subst hu
      exact yL6
    · exact hc.elim
    · exact h.elim
theorem leC.un {c':Ct} (h:leC .un c'):c'=.un:=by
  cases c' with
  | un=>rfl
  | _=>simp [leC] at h
theorem leC.unc {c c':Ct} (h:leC c c') (hc:unC c):unC c':=by
  rcases hc with rfl|rfl
  · exact .inl h.un
  · rcases h with h|h|h
    · exact .inl h
    · exact .inr h
    · exact h.elim
theorem InvG.le {F':List Ct} (h:InvG E S m β ow F a w) (hl:Le F F'):InvG E S m β ow F' a w where
  lenF:=by rw [hl.length,h.lenF]
  lenA:=h.lenA
  dfr:=h.dfr
  slots:=fun i hi=>(hl.get i).ct (h.slots i hi)
  boxes:=fun j bn hj=>by
    have hB:=h.boxes j bn hj
    cases hb:β j with
    | none=>
      rw [hb] at hB
      intro o ho
      exact (hl.get (bn.1+o)).unc (hB o ho)
    | some b=>
      rw [hb] at hB
      obtain ⟨h1,h2,cs,T,h3,h4,h5⟩:=hB
      exact ⟨h1,h2,cs,T,h3,h4,fun o ho=>(hl.get _).cell (h5 o ho)⟩
  mem:=h.mem
  mle:=h.mle
  pres:=h.pres
  own:=h.own
  lt:=h.lt
  new:=h.new
  fix:=h.fix
theorem zLv:∀ (l:List Nat) (F:List Ct) (i:Nat),(zCG F l).getD i .un=if i∈l then .un else F.getD i .un
  | [],F,i=>by simp [zCG]
  | x::r,F,i=>by
    simp only [zCG]
    rw [zLv r,zBm]
    by_cases h1:i∈r
    · rw [if_pos h1,if_pos (List.mem_cons_of_mem _ h1)]
    · rw [if_neg h1]
      by_cases h2:x=i
      · subst h2
        rw [if_pos List.mem_cons_self]
        split
        · rfl
        · rename_i h3
          rw [List.getD_eq_getElem?_getD,List.getElem?_eq_none (by omega)]
          rfl
      · rw [if_neg (by omega),if_neg (by simp [h1];omega)]
theorem zJl:∀ (l:List Nat) (F:List Ct),(zCG F l).length=F.length
  | [],_=>rfl
  | x::r,F=>by simp only [zCG];rw [zJl r];simp
theorem Le.of_get:∀ {F F':List Ct},F'.length=F.length→(∀ i,leC (F.getD i .un) (F'.getD i .un))→Le F F'
  | [],l,h,_=>by simp only [Le];exact List.eq_nil_of_length_eq_zero (by simpa using h)
  | c::cs,[],h,_=>by simp at h
  | c::cs,c'::cs',h,g=>by
    simp only [Le]
    exact ⟨c',cs',rfl,by simpa using g 0,Le.of_get (by simpa using h) fun i=>by simpa using g (i+1)⟩
theorem Le.forget (F:List Ct) (l:List Nat):Le F (zCG F l):=
  Le.of_get (zJl l F) fun i=>by
    rw [zLv]
    split
    · exact .inl rfl
    · exact .inr (.inl rfl)
theorem zGp (F:List Ct) (j i:Nat) (cs:List PV):(F.map (yNk j cs)).getD i .un=yNk j cs (F.getD i .un):=by
  simp only [List.getD_eq_getElem?_getD,List.getElem?_map]
  cases F[i]?<;>rfl
theorem yTI (wf:E.Wf) (h:Inv E S F a w) {j base n:Nat} (hfj:E.nfix≤j) (hj:E.Γ[j]?=some (base,n)) {cs:List PV} (hc:zBq F base n=some cs):Inv E S (zAi (F.map (yNk j cs)) base (List.replicate n .un)) a w:=by
  obtain ⟨m,β,ow,h⟩:=h
  have hL:=h.lenF
  have hlo:=wf.lo j _ hj
  have hhi:=wf.hi j _ hj
  have hle:=wf.le
  simp only at hlo hhi
  have hB:=h.boxes j _ hj
  cases hb:β j with
  | none=>
    refine ⟨m,β,ow,?_⟩
    rw [hb] at hB
    refine ⟨by rw [zA4];simp [hL],h.lenA,h.dfr,?_,?_,h.mem,h.mle,h.pres,h.own,h.lt,h.new,h.fix⟩
    · intro i hi
      rw [zAr,if_neg (by omega),zGp]
      have hs:=h.slots i hi
      generalize F.getD i .un=c at hs
      cases c with
      | ptr j' off=>
        simp only [yNk]
        split
        · rename_i e;subst e
          obtain ⟨b,hb',_⟩:=hs
          rw [hb] at hb';cases hb'
        · exact hs
      | cl f caps=>
        simp only [yNk]
        split
        · trivial
        · exact hs
      | _=>exact hs
    · intro j' bn hj'
      have hlo':=wf.lo j' bn hj'
      have hF:∀ o,o < bn.2→leC (F.getD (bn.1+o) .un) ((zAi (F.map (yNk j cs)) base (List.replicate n .un)).getD (bn.1+o) .un):=by
        intro o ho
        rw [zAr]
        split
        · left;rw [List.getD_eq_getElem?_getD,List.getElem?_replicate];split<;>rfl
        · rw [zGp]
          have hB':=h.boxes j' bn hj'
          cases hb':β j' with
          | none=>rw [hb'] at hB';rcases hB' o ho with e|e<;>rw [e]<;>exact .inr (.inl rfl)
          | some b'=>
            rw [hb'] at hB'
            have:=hB'.2.2
            obtain ⟨vs,T,_,_,h5⟩:=this
            have h6:=h5 o ho
            generalize F.getD (bn.1+o) .un=c at h6
            cases c with
            | ptr j'' off=>exact h6.elim
            | cl f caps=>exact h6.elim
            | _=>exact .inr (.inl rfl)
      have hB':=h.boxes j' bn hj'
      cases hb':β j' with
      | none=>
        rw [hb'] at hB'
        intro o ho
        exact (hF o ho).unc (hB' o ho)
      | some b'=>
        rw [hb'] at hB'
        obtain ⟨h1,h2,vs,T,h3,h4,h5⟩:=hB'
        exact ⟨h1,h2,vs,T,h3,h4,fun o ho=>(hF o ho).cell (h5 o ho)⟩
  | some b=>
    rw [hb] at hB
    obtain ⟨vs,T,hh,hsz,hr⟩:=zT1 hB hc
    have hbo:=hB.1
    have hbf:=hB.2.1
    have hmle:m.le (fun b' o=>if b'=b then vs[o]? else m b' o):=by
      intro b' o u hu
      simp only
      rw [if_neg (fun e=>by subst e;rw [hbf o] at hu;cases hu)]
      exact hu
    have st:Step (fun t=>t=.box j) m (fun b' o=>if b'=b then vs[o]? else m b' o) w w ow (fun b'=>if b'=b then none else ow b'):=by
      refine ⟨hmle,fun g t hg hx=>?_⟩
      have hne:g≠b:=fun e=>by subst e;rw [hbo] at hg;exact hx (Option.some.inj hg).symm
      exact ⟨rfl,fun o=>by rw [if_neg hne],by rw [if_neg hne];exact hg⟩
    refine ⟨fun b' o=>if b'=b then vs[o]? else m b' o,fun i=>if i=j then none else β i,fun b'=>if b'=b then none else ow b',?_⟩
    refine ⟨by rw [zA4];simp [hL],h.lenA,h.dfr,?_,?_,?_,Mem.le_trans h.mle hmle,h.pres,?_,?_,?_,?_⟩
    · intro i hi
      rw [zAr,if_neg (by omega),zGp]
      have hs:=(h.slots i hi).step st (by rintro h3;cases h3)
      generalize F.getD i .un=c at hs
      cases c with
      | ptr j' off=>
        simp only [yNk]
        obtain ⟨b',hb',hv⟩:=hs
        split
        · rename_i e;subst e
          rw [hb] at hb'
          injection hb' with hb'
          subst hb'
          refine ⟨b,off,hv,RpAt.of_get fun i x hx=>?_⟩
          rw [List.getElem?_drop] at hx
          have hlt:off+i < vs.toList.length:=by rw [hr.length];exact (List.getElem?_eq_some_iff.1 hx).1
          refine ⟨vs.toList[off+i],by simp only [if_true];rw [←Array.getElem?_toList,List.getElem?_eq_getElem hlt],Rp.mono hmle _ _ (hr.get _ _ _ hx (List.getElem?_eq_getElem hlt))⟩
        · rename_i hne
          exact ⟨b',by simp only;rw [if_neg hne];exact hb',hv⟩
      | un=>trivial
      | una=>trivial
      | pv x=>exact hs
      | own e k rows=>exact hs
      | tup xs=>exact hs
      | gd t x=>exact hs
      | stk e k rows=>exact hs
      | hdr n=>exact hs
      | ov x=>exact hs
      | hdp b k n=>exact hs
      | hds b k i n=>exact hs
      | epp b k r f=>exact hs
      | mph b=>exact hs
      | cl f caps=>
        simp only [yNk]
        split
        · trivial
        · rename_i hne
          obtain ⟨us,h1,h2⟩:=hs
          exact ⟨us,h1,h2.congr (j:=j) (fun i hi=>if_neg hi) (by simpa using hne)⟩
    · intro j' bn hj'
      by_cases hjj:j'=j
      · subst hjj
        rw [hj] at hj'
        injection hj' with hj'
        subst hj'
        simp only [if_true]
        intro o ho
        simp only at ho ⊢
        rw [zAr,if_pos (by simp;omega)]
        have e:base+o-base=o:=by omega
        rw [e]
        exact .inl (by rw [List.getD_eq_getElem?_getD,List.getElem?_replicate,if_pos ho];rfl)
      · rw [if_neg hjj]
        have hap:=wf.ap j' j _ _ hj' hj hjj
        have hlo':=wf.lo j' bn hj'
        simp only at hap
        have hB':=h.boxes j' bn hj'
        have hF:∀ o,o < bn.2→(zAi (F.map (yNk j cs)) base (List.replicate n .un)).getD (bn.1+o) .un=yNk j cs (F.getD (bn.1+o) .un):=by
          intro o ho
          rw [zAr,if_neg (by simp;omega),zGp]
        cases hb':β j' with
        | none=>
          rw [hb'] at hB'
          intro o ho
          rw [hF o ho]
          rcases hB' o ho with e|e<;>rw [e]
          · exact .inl rfl
          · exact .inr rfl
        | some b'=>
          rw [hb'] at hB'
          obtain ⟨h1,h2,vs',T',h3,h4,h5⟩:=hB'
          obtain ⟨h6,h7,h8⟩:=st.keep b' _ h1 (by rintro h3;injection h3 with h3;exact hjj h3)
          refine ⟨h8,fun o=>(h7 o).trans (h2 o),vs',T',h6.trans h3,h4,fun o ho=>?_⟩
          rw [hF o ho]
          have:=(h5 o ho).step st (by rintro h3;cases h3)
          generalize F.getD (bn.1+o) .un=c at this
          cases c with
          | ptr j'' off=>exact this.elim
          | cl f caps=>exact this.elim
          | _=>exact this
    · intro b' o u hu
      simp only at hu
      split at hu
      · rename_i e
        subst e
        exact UCell.of_cells hh (by rw [cell_of_row w b' o vs T (0,0) hh];exact hu)
      · exact h.mem b' o u hu
    · intro b' t hb'
      split at hb'
      · cases hb'
      · exact h.own b' t hb'
    · intro b' t hb'
      split at hb'
      · cases hb'
      · exact h.lt b' t hb'
    · intro b' o u hu
      have hu':(if b'=b then vs[o]? else m b' o)=some u:=hu
      split at hu'
      · rename_i e
        subst e
        exact .inr (h.own b' _ hbo)
      · exact h.new b' o u hu'
    · intro j' hj'
      have:(if j'=j then none else β j')=S.b0 j':=by rw [if_neg (by omega)];exact h.fix j' hj'
      exact this
def zE4 (E:Env):List Gh→Bool
  | []=>true
  | .forget _::r=>zE4 E r
  | .frz j base n::r=>decide (E.nfix≤j)&&zTX E j base n&&zE4 E r
  | .pin s j base _::r=>zB5 E s j base&&zE4 E r
  | .unp s j base _::r=>zB5 E s j base&&zE4 E r
  | .vfr s j base::r=>zB5 E s j base&&zE4 E r
  | .vfp s j base _::r=>zB5 E s j base&&zE4 E r
  | .vfm s::r=>decide (s < E.N)&&zE4 E r
  | .ffr s j base::r=>zB5 E s j base&&zE4 E r
  | .vmf s::r=>decide (s < E.N)&&zE4 E r
theorem yNl (wf:E.Wf) (h:Inv E S F a w) {s j base:Nat} (hr:zB5 E s j base=true) {root:OV} (hx:F.getD s .un=.ov (.one root)):∃ u:Value,∀ root':OV,(∀ m fp,OvR m w root u fp→OvR m w root' u fp)→Inv E S (F.set s (.ov (.one root'))) a w:=by
  obtain ⟨m,β,ow,h⟩:=h
  obtain ⟨u,fp,hat,hrep,hnd,hown⟩:=zFv wf h hr hx
  refine ⟨u,fun root' hc=>?_⟩
  have hD:=zC4 wf h fun g hg=>(hown g hg).1
  have hA:=zE3 wf hD hat (hc m fp hrep) hnd (zBn h hown)
  rw [List.set_set] at hA
  exact ⟨m,β,_,hA⟩
theorem yTJ (wf:E.Wf) (h:Inv E S F a w) {s j base:Nat} (hr:zB5 E s j base=true) {root:OV} (hx:F.getD s .un=.ov (.one root)) {p:List (Nat×Nat)} {e k:Nat} {rows:List (List OV)} (hg:root.get p=some (.os none e k rows)):∃ b,Inv E S (F.set s (.ov (.one (root.upd p (.os (some b) e k rows))))) a w:=by
  have h0:=h
  obtain ⟨m,β,ow,h1⟩:=h0
  obtain ⟨u,fp,hat,hrep,hnd,hown⟩:=zFv wf h1 hr hx
  obtain ⟨v,f1,fy,f2,rfl,g1,_,g2⟩:=OvR.focus p _ _ u fp hrep hg
  have hnew:=g2 m w (.os (some ((v.ownBlock).getD 0)) e k rows) fy m.le_refl (fun _ _=>rfl) (by
    obtain ⟨xs,f,k1,k2,k3,rfl,_⟩:=zCm.1 g1
    refine zCm.2 ⟨xs,f,k1,k2,k3,rfl,fun b hb hne=>?_⟩
    injection hb with hb
    rcases k1.2 with ⟨_,h6⟩|⟨g,cap,cur,rfl,_⟩
    · exact (hne (List.eq_nil_of_length_eq_zero h6)).elim
    · rw [←hb];rfl)
  refine ⟨(v.ownBlock).getD 0,?_⟩
  have hD:=zC4 wf h1 fun g hg=>(hown g hg).1
  have hA:=zE3 wf hD hat hnew hnd (zBn h1 hown)
  rw [List.set_set] at hA
  exact ⟨m,β,_,hA⟩
theorem yTK (wf:E.Wf) (h:Inv E S F a w) {s j base:Nat} (hr:zB5 E s j base=true) {root:OV} (hx:F.getD s .un=.ov (.one root)) {p:List (Nat×Nat)} {pb:Option Nat} {e k:Nat} {rows:List (List OV)} (hg:root.get p=some (.os pb e k rows)):Inv E S (F.set s (.ov (.one (root.upd p (.os none e k rows))))) a w:=by
  obtain ⟨u,hu⟩:=yNl wf h hr hx
  refine hu _ fun m fp hrep=>?_
  obtain ⟨v,f1,fy,f2,rfl,g1,_,g2⟩:=OvR.focus p _ _ u fp hrep hg
  refine g2 m w _ fy m.le_refl (fun _ _=>rfl) ?_
  obtain ⟨xs,f,k1,k2,k3,rfl,_⟩:=zCm.1 g1
  exact zCm.2 ⟨xs,f,k1,k2,k3,rfl,fun b hb=>by cases hb⟩
theorem zFF {m:Mem} {β:Bx} {ow:Ow} (h:InvG E S m β ow F a w) {m':Mem} {fp:List Nat} (hle:m.le m') (hm:MemOk m' w) (hout:∀ g o,g∉fp→m' g o=m g o) (hl:Loose S m w ow fp):InvG E S m' β ow F a w:=
  h.quiet {le:=hle,mem:=hm,heap:=fun _ _ _=>rfl,free:=fun b t o hb=>hout b o fun hc=>(by rw [(hl b hc).1] at hb;cases hb),
            new:=fun b o u hu=>(by
              by_cases hc:b∈fp
              · exact .inr (hl b hc).2.1
              · rw [hout b o hc] at hu;exact .inl hu),
            pres:=Pres.refl _ _}
theorem yTL (wf:E.Wf) (h:Inv E S F a w) {s j base:Nat} (hr:zB5 E s j base=true) {root:OV} (hx:F.getD s .un=.ov (.one root)) {x:PV} (hf:root.frz=some x):Inv E S (F.set s (.pv (.one x))) a w:=by
  obtain ⟨m,β,ow,h⟩:=h
  obtain ⟨u,fp,hat,hrep,hnd,hown⟩:=zFv wf h hr hx
  have hD:=zC4 wf h fun g hg=>(hown g hg).1
  have hl:=zBn h hown
  obtain ⟨m',g1,g2,g3,g4⟩:=OvR.freeze w root m u fp x hrep hf h.mem hnd fun g hg=>(hown g hg).2
  have hD':=zFF hD g1 g2 g3 hl
  have:=hD'.setIx wf hat (c:=.pv (.one x)) (fun _=>g4) (fun _=>g4)
  rw [List.set_set] at this
  exact ⟨m',β,_,this⟩
theorem yTM (wf:E.Wf) (h:Inv E S F a w) {s j base:Nat} (hr:zB5 E s j base=true) {root y:OV} (hx:F.getD s .un=.ov (.one root)) {p:List (Nat×Nat)} (hg:root.get p=some y) {x:PV} (hf:y.frz=some x):Inv E S (F.set s (.ov (.one (root.upd p (.p x))))) a w:=by
  obtain ⟨m,β,ow,h⟩:=h
  obtain ⟨u,fp,hat,hrep,hnd,hown⟩:=zFv wf h hr hx
  have hD:=zC4 wf h fun g hg=>(hown g hg).1
  have hl:=zBn h hown
  obtain ⟨v,f1,fy,f2,rfl,g1,_,g2⟩:=OvR.focus p _ _ u fp hrep hg
  have hin:∀ g,g∈fy→g∈f1++(fy++f2):=fun g hg=>List.mem_append_right _ (List.mem_append_left _ hg)
  have hin2:∀ g,g∈f1++f2→g∈f1++(fy++f2):=by
    intro g hg
    rcases List.mem_append.1 hg with hg|hg
    · exact List.mem_append_left _ hg
    · exact List.mem_append_right _ (List.mem_append_right _ hg)
  have hnd':=hnd
  rw [List.nodup_append,List.nodup_append] at hnd'
  obtain ⟨n1,⟨n2,n3,n4⟩,n5⟩:=hnd'
  have hnfy:∀ g,g∈f1++f2→g∉fy:=by
    intro g hg hc
    rcases List.mem_append.1 hg with hg|hg
    · exact n5 g hg g (List.mem_append_left _ hc) rfl
    · exact n4 g hc g hg rfl
  obtain ⟨m',k1,k2,k3,k4⟩:=OvR.freeze w y m v fy x g1 hf h.mem n2 fun g hg=>(hown g (hin g hg)).2
  have hD':=zFF hD k1 k2 k3 (fun g hg=>hl g (hin g hg))
  have hnew:=g2 m' w (.p x) [] k1 (fun _ _=>rfl) (by simp only [OvR];exact ⟨trivial,k4⟩)
  rw [List.nil_append] at hnew
  have hnd2:(f1++f2).Nodup:=List.nodup_append.2 ⟨n1,n3,fun a ha b hb e=>n5 a ha b (List.mem_append_right _ hb) e⟩
  have hl2:Loose S m' w (dropB ow (f1++(fy++f2))) (f1++f2):=fun g hg=>by
    obtain ⟨a1,a2,a3,a4⟩:=hl g (hin2 g hg)
    exact ⟨a1,a2,a3,fun o=>by rw [k3 g o (hnfy g hg)];exact a4 o⟩
  have hA:=zE3 wf hD' hat hnew hnd2 hl2
  rw [List.set_set] at hA
  exact ⟨m',β,_,hA⟩
theorem yTN (wf:E.Wf) (h:Inv E S F a w) {s:Nat} (hs:s < E.N) {b:Nat} {ks:List Value} {vs:List OV} (hx:F.getD s .un=.ov (.one (.mp b ks vs))) {xs:List PV} (hf:zOv vs=some xs):Inv E S (F.set s (.ov (.one (.mp b ks (xs.map .p))))) a w:=by
  obtain ⟨m,β,ow,h⟩:=h
  have hg:=h.slots s hs
  rw [hx] at hg
  obtain ⟨fp,g1,g2,g3⟩:=hg
  have g1':OvR m w (.mp b ks vs) (a.tmps.getD s undef) fp:=g1
  simp only [OvR] at g1'
  obtain ⟨us,f,q1,q2,q3,q4,rfl,q5⟩:=g1'
  have hD:=zC4 wf h fun g hg=>(g3 g hg).1
  have hl:=zBn h g3
  obtain ⟨hb,hnf⟩:=List.nodup_cons.1 g2
  obtain ⟨m',k1,k2,k3,k4⟩:=OvL.freeze w vs m us f xs q4 hf h.mem hnf fun g hg=>(g3 g (List.mem_cons_of_mem _ hg)).2
  have hD':=zFF hD k1 k2 k3 (fun g hg=>hl g (List.mem_cons_of_mem _ hg))
  have hA:=zE3 wf hD' (r:=s) (.inl ⟨hs,rfl⟩) (x:=.mp b ks (xs.map .p)) (fp:=[b]) (by
    simp only [OvR]
    exact ⟨us,[],q1,q2,q3,OvL.of_rp k4,rfl,q5⟩) (by simp) (fun g hg=>by
    obtain rfl:=List.mem_singleton.1 hg
    obtain ⟨a1,a2,a3,a4⟩:=hl g List.mem_cons_self
    exact ⟨a1,a2,a3,fun o=>by rw [k3 g o hb];exact a4 o⟩)
  rw [List.set_set] at hA
  exact ⟨m',β,_,hA⟩
theorem yRc (wf:E.Wf) (h:Inv E S F a w) {s j base:Nat} (hr:zB5 E s j base=true) {cs:List OV} (hx:F.getD s .un=.ov (.agg cs)) {xs:List PV} (hf:zOv cs=some xs):Inv E S (F.set s (.pv (.agg xs))) a w:=by
  obtain ⟨m,β,ow,h⟩:=h
  have hsN:s < E.N:=by
    rcases zMO hr with hs|⟨n,hj,h1,h2⟩
    · exact hs
    · exfalso
      have hB:=h.boxes j _ hj
      cases hb:β j with
      | none=>
        rw [hb] at hB
        have:=hB (s-base) (by simp only;omega)
        simp only at this
        rw [show base+(s-base)=s by omega,hx] at this
        rcases this with e|e<;>cases e
      | some b=>
        rw [hb] at hB
        obtain ⟨_,_,vs,T,_,_,g5⟩:=hB
        have:=g5 (s-base) (by simp only;omega)
        simp only at this
        rw [show base+(s-base)=s by omega,hx] at this
        exact this
  have hs:=h.slots s hsN
  rw [hx] at hs
  obtain ⟨fp,⟨us,hus,hrep⟩,hnd,hown⟩:=hs
  have hD:=zC4 wf h fun g hg=>(hown g hg).1
  have hl:=zBn h hown
  obtain ⟨m',g1,g2,g3,g4⟩:=OvL.freeze w cs m us fp xs hrep hf h.mem hnd fun g hg=>(hown g hg).2
  have hD':=zFF hD g1 g2 g3 hl
  have:=hD'.setIx wf (r:=s) (u:=a.tmps.getD s undef) (.inl ⟨hsN,rfl⟩) (c:=.pv (.agg xs)) (fun _=>⟨us,hus,g4⟩) (fun h'=>by omega)
  rw [List.set_set] at this
  exact ⟨m',β,_,this⟩
theorem yRd (wf:E.Wf) (h:InvG E S m β ow F a w) {r j base:Nat} (hr:zB5 E r j base=true) {e k:Nat} {rows:List (List PV)} (hx:F.getD r .un=.own e k rows):
    ∃ u,AtIx E β a w r u∧OwnRep m w ow (.key r) e k rows u:=by
  by_cases hrN:r < E.N
  · have hs:=h.slots r hrN
    rw [hx] at hs
    exact ⟨_,.inl ⟨hrN,rfl⟩,hs⟩
  · rcases zMO hr with hr|⟨n,hj,h1,h2⟩
    · exact (hrN hr).elim
    · have hB:=h.boxes j _ hj
      cases hb:β j with
      | none=>
        rw [hb] at hB
        have:=hB (r-base) (by simp only;omega)
        simp only at this
        rw [show base+(r-base)=r by omega,hx] at this
        rcases this with e|e<;>cases e
      | some b=>
        rw [hb] at hB
        obtain ⟨g1,g2,cs,T,g3,g4,g5⟩:=hB
        have:=g5 (r-base) (by simp only;omega)
        simp only at this
        rw [show base+(r-base)=r by omega,hx] at this
        exact ⟨_,.inr ⟨j,base,n,b,cs,T,by omega,hj,h1,h2,hb,g3,rfl⟩,this⟩
theorem zK7 {n0 base e size n:Nat} {u:Value} {xs:List Value} (h:w.ownsRow base e size u n xs) (hg:∀ g,u.ownBlock=some g→n0≤g):frP n0 u:=by
  intro A l c e0
  rcases h.2 with ⟨rfl,_⟩|⟨g,cap,cur,rfl,_⟩
  · cases e0
  · injection e0 with e1
    injection e1 with e1
    subst e1
    exact hg _ rfl
theorem yTO (wf:E.Wf) (h:Inv E S F a w) {s j base:Nat} (hr:zB5 E s j base=true) {e k:Nat} {rows:List (List PV)} (hx:F.getD s .un=.own e k rows):Inv E S (F.set s (.pv (.one (.w (frP Glob.n) (.sl k rows))))) a w:=by
  obtain ⟨m,β,ow,h⟩:=h
  obtain ⟨u,hat,hrep⟩:=yRd wf h hr hx
  have hfr:frP Glob.n u:=by
    obtain ⟨xs,h1⟩:=hrep.1
    exact zK7 h1 fun g hg=>h.gown (hrep.2 g hg).1
  have hR:Rp m (.w (frP Glob.n) (.sl k rows)) u:=by
    simp only [Rp]
    have:=OwnRep.rp hrep
    simp only [Rp] at this
    exact ⟨hfr,this⟩
  exact ⟨m,β,ow,h.setIx wf hat (c:=.pv (.one (.w (frP Glob.n) (.sl k rows)))) (fun _=>hR) (fun _=>hR)⟩
theorem yTP (wf:E.Wf) (h:Inv E S F a w) {s j base:Nat} (hr:zB5 E s j base=true) {pb:Option Nat} {e k:Nat} {rows:List (List OV)} (hx:F.getD s .un=.ov (.one (.os pb e k rows))) {rs:List (List PV)} (hf:zCz rows=some rs):Inv E S (F.set s (.pv (.one (.w (frP Glob.n) (.sl k rs))))) a w:=by
  obtain ⟨m,β,ow,h⟩:=h
  obtain ⟨u,fp,hat,hrep,hnd,hown⟩:=zFv wf h hr hx
  have hD:=zC4 wf h fun g hg=>(hown g hg).1
  have hl:=zBn h hown
  have hfr:frP Glob.n u:=by
    obtain ⟨xs,f,k1,_,_,rfl,_⟩:=zCm.1 hrep
    exact zK7 k1 fun g hg=>h.gown (hown g (List.mem_append_left _ (zC0.2 hg))).1
  obtain ⟨m',g1,g2,g3,g4⟩:=OvR.freeze w (.os pb e k rows) m u fp (.sl k rs) hrep (by simp only [OV.frz,hf]) h.mem hnd fun g hg=>(hown g hg).2
  have hD':=zFF hD g1 g2 g3 hl
  have hR:Rp m' (.w (frP Glob.n) (.sl k rs)) u:=by
    simp only [Rp] at g4 ⊢
    exact ⟨hfr,g4⟩
  have:=hD'.setIx wf hat (c:=.pv (.one (.w (frP Glob.n) (.sl k rs)))) (fun _=>hR) (fun _=>hR)
  rw [List.set_set] at this
  exact ⟨m',β,_,this⟩
theorem ySP (n0:Nat):∀ (vs:List OV) (us:List Value) (f:List Nat),yJl vs=true→OvL m w vs us f→(∀ g∈f,n0≤g)→∀ u∈us,frP n0 u
  | [],us,f,_,h,_=>by simp only [OvL] at h;rw [h.1];intro u hu;cases hu
  | x::vs,us,f,ho,h,hg=>by
    simp only [OvL] at h
    obtain ⟨u,us',f1,f2,rfl,rfl,h3,h4⟩:=h
    simp only [yJl,List.all_cons,Bool.and_eq_true] at ho
    intro v hv
    rcases List.mem_cons.1 hv with rfl|hv
    · cases x with
      | os pb e k rows=>
        obtain ⟨xs,f,k1,_,_,rfl,_⟩:=zCm.1 h3
        exact zK7 k1 fun g hb=>hg g (List.mem_append_left _ (List.mem_append_left _ (zC0.2 hb)))
      | _=>cases ho.1
    · exact ySP n0 vs us' f2 ho.2 h4 (fun g hb=>hg g (List.mem_append_right _ hb)) v hv
theorem ySQ (n0:Nat):∀ (xs:List PV) (us:List Value),RpL m xs us→(∀ u∈us,frP n0 u)→RpL m (xs.map fun x=>.w (frP n0) x) us
  | [],us,h,_=>h
  | x::xs,us,h,hf=>by
    simp only [RpL] at h
    obtain ⟨u,us',rfl,h2,h3⟩:=h
    simp only [List.map_cons,RpL]
    refine ⟨u,us',rfl,?_,ySQ n0 xs us' h3 fun v hv=>hf v (List.mem_cons_of_mem _ hv)⟩
    simp only [Rp]
    exact ⟨hf u List.mem_cons_self,h2⟩
theorem yTQ (wf:E.Wf) (h:Inv E S F a w) {s:Nat} (hs:s < E.N) {b:Nat} {ks:List Value} {vs:List OV} (hx:F.getD s .un=.ov (.one (.mp b ks vs))) {xs:List PV} (hf:zOv vs=some xs) (ho:yJl vs=true):Inv E S (F.set s (.ov (.one (.mp b ks (xs.map fun x=>.p (.w (frP Glob.n) x)))))) a w:=by
  obtain ⟨m,β,ow,h⟩:=h
  have hg:=h.slots s hs
  rw [hx] at hg
  obtain ⟨fp,g1,g2,g3⟩:=hg
  have g1':OvR m w (.mp b ks vs) (a.tmps.getD s undef) fp:=g1
  simp only [OvR] at g1'
  obtain ⟨us,f,q1,q2,q3,q4,rfl,q5⟩:=g1'
  have hD:=zC4 wf h fun g hg=>(g3 g hg).1
  have hl:=zBn h g3
  obtain ⟨hb,hnf⟩:=List.nodup_cons.1 g2
  have hfr:=ySP Glob.n vs us f ho q4 fun g hg=>h.gown (g3 g (List.mem_cons_of_mem _ hg)).1
  obtain ⟨m',k1,k2,k3,k4⟩:=OvL.freeze w vs m us f xs q4 hf h.mem hnf fun g hg=>(g3 g (List.mem_cons_of_mem _ hg)).2
  have hD':=zFF hD k1 k2 k3 (fun g hg=>hl g (List.mem_cons_of_mem _ hg))
  have k5:=ySQ Glob.n xs us k4 hfr
  have e5:(xs.map fun x=>OV.p (.w (frP Glob.n) x))=(xs.map fun x=>PV.w (frP Glob.n) x).map .p:=by simp
  rw [e5]
  have hA:=zE3 wf hD' (r:=s) (.inl ⟨hs,rfl⟩) (x:=.mp b ks ((xs.map fun x=>PV.w (frP Glob.n) x).map .p)) (fp:=[b]) (by
    simp only [OvR]
    exact ⟨us,[],q1,q2,q3,OvL.of_rp k5,rfl,q5⟩) (by simp) (fun g hg=>by
    obtain rfl:=List.mem_singleton.1 hg
    obtain ⟨a1,a2,a3,a4⟩:=hl g List.mem_cons_self
    exact ⟨a1,a2,a3,fun o=>by rw [k3 g o hb];exact a4 o⟩)
  rw [List.set_set] at hA
  exact ⟨m',β,_,hA⟩
theorem zBP (wf:E.Wf) {K:List Ct→Prop}:∀ {l:List Gh} {F:List Ct},zE4 E l=true→Inv E S F a w→ghW F K l→zFb E S K a w
  | [],F,_,h,hW=>⟨F,hW,h⟩
  | .forget l::r,F,hk,h,hW=>by
    obtain ⟨m,β,ow,h⟩:=h
    exact zBP wf (l:=r) hk ⟨m,β,ow,h.le (Le.forget F l)⟩ hW
  | .frz j base n::r,F,hk,h,hW=>by
    simp only [zE4,Bool.and_eq_true] at hk
    simp only [ghW] at hW
    split at hW
    · rename_i cs e1
      exact zBP wf (l:=r) hk.2 (yTI wf h (of_decide_eq_true hk.1.1) (zK4 hk.1.2) e1) hW
    · exact hW.elim
  | .pin s j base pt::r,F,hk,h,hW=>by
    simp only [zE4,Bool.and_eq_true] at hk
    simp only [ghW] at hW
    split at hW
    · rename_i root e1
      split at hW
      · rename_i e k rows e2
        obtain ⟨b,hb⟩:=yTJ wf h hk.1 e1 e2
        exact zBP wf (l:=r) hk.2 hb (hW.2 b)
      · exact hW.elim
    · exact hW.elim
  | .unp s j base pt::r,F,hk,h,hW=>by
    simp only [zE4,Bool.and_eq_true] at hk
    simp only [ghW] at hW
    split at hW
    · rename_i root e1
      split at hW
      · rename_i pb e k rows e2
        exact zBP wf (l:=r) hk.2 (yTK wf h hk.1 e1 e2) hW.2
      · exact hW.elim
    · exact hW.elim
  | .vfr s j base::r,F,hk,h,hW=>by
    simp only [zE4,Bool.and_eq_true] at hk
    simp only [ghW] at hW
    split at hW
    · rename_i root e1
      split at hW
      · rename_i x e2
        exact zBP wf (l:=r) hk.2 (yTL wf h hk.1 e1 e2) hW
      · exact hW.elim
    · rename_i cs e1
      split at hW
      · rename_i xs e2
        exact zBP wf (l:=r) hk.2 (yRc wf h hk.1 e1 e2) hW
      · exact hW.elim
    · exact hW.elim
  | .vfp s j base pt::r,F,hk,h,hW=>by
    simp only [zE4,Bool.and_eq_true] at hk
    simp only [ghW] at hW
    split at hW
    · rename_i root e1
      split at hW
      · rename_i y e2
        split at hW
        · rename_i x e3
          exact zBP wf (l:=r) hk.2 (yTM wf h hk.1 e1 e2 e3) hW.2
        · exact hW.elim
      · exact hW.elim
    · exact hW.elim
  | .vfm s::r,F,hk,h,hW=>by
    simp only [zE4,Bool.and_eq_true,decide_eq_true_eq] at hk
    simp only [ghW] at hW
    split at hW
    · rename_i b ks vs e1
      split at hW
      · rename_i xs e2
        exact zBP wf (l:=r) hk.2 (yTN wf h hk.1 e1 e2) hW
      · exact hW.elim
    · exact hW.elim
  | .ffr s j base::r,F,hk,h,hW=>by
    simp only [zE4,Bool.and_eq_true] at hk
    simp only [ghW] at hW
    split at hW
    · rename_i e k rows e1
      exact zBP wf (l:=r) hk.2 (yTO wf h hk.1 e1) hW
    · rename_i pb e k rows e1
      split at hW
      · rename_i rs e2
        exact zBP wf (l:=r) hk.2 (yTP wf h hk.1 e1 e2) hW
      · exact hW.elim
    · exact hW.elim
  | .vmf s::r,F,hk,h,hW=>by
    simp only [zE4,Bool.and_eq_true,decide_eq_true_eq] at hk
    simp only [ghW] at hW
    split at hW
    · rename_i b ks vs e1
      split at hW
      · rename_i xs e2
        exact zBP wf (l:=r) hk.2 (yTQ wf h hk.1 e1 e2 hW.1) hW.2
      · exact hW.elim
    · exact hW.elim
theorem yPp (wf:E.Wf) (h:InvG E S m β ow F a w) {r j base:Nat} (hr:zB5 E r j base=true) {x:PV} (hx:F.getD r .un=.pv (.one x)):∃ u,AtIx E β a w r u∧Rp m x u:=by
  by_cases hrN:r < E.N
  · have hs:=h.slots r hrN
    rw [hx] at hs
    exact ⟨_,.inl ⟨hrN,rfl⟩,hs⟩
  · rcases zMO hr with hr|⟨n,hj,h1,h2⟩
    · exact (hrN hr).elim
    · have hB:=h.boxes j _ hj
      cases hb:β j with
      | none=>
        rw [hb] at hB
        have:=hB (r-base) (by simp only;omega)
        simp only at this
        rw [show base+(r-base)=r by omega,hx] at this
        rcases this with e|e<;>cases e
      | some b=>
        rw [hb] at hB
        obtain ⟨g1,g2,cs,T,g3,g4,g5⟩:=hB
        have:=g5 (r-base) (by simp only;omega)
        simp only at this
        rw [show base+(r-base)=r by omega,hx] at this
        exact ⟨_,.inr ⟨j,base,n,b,cs,T,by omega,hj,h1,h2,hb,g3,rfl⟩,this⟩
theorem zGI (F:List Ct) (i:Nat):(F.map zBj).getD i .un=zBj (F.getD i .un):=by
  simp only [List.getD_eq_getElem?_getD,List.getElem?_map]
  cases F[i]?<;>rfl
theorem zQi {m':Mem} {w':World} {i:Nat} {c:Ct} {u:Value} (h:CtRep m w β ow i c u):CtRep m' w' β ow i (zBj c) u:=by
  unfold zBj
  split
  · rename_i hf
    cases c with
    | un=>trivial
    | una=>trivial
    | ptr j off=>exact h
    | pv x=>cases x with
      | one x=>cases x with
        | v z=>exact h
        | w φ y=>cases y with
          | any=>
            have h':Rp m (.w φ .any) u:=h
            simp only [Rp] at h'
            show Rp m' (.w φ .any) u
            simp only [Rp];exact h'
          | _=>cases hf
        | _=>cases hf
      | agg xs=>cases hf
    | _=>cases hf
  · trivial
theorem zLw {m':Mem} {w':World} {i:Nat} {c:Ct} {u:Value} (h:CellRep m w ow i c u):CellRep m' w' ow i (zBj c) u:=by
  unfold zBj
  split
  · rename_i hf
    cases c with
    | un=>trivial
    | una=>exact h.elim
    | ptr j off=>exact h.elim
    | pv x=>cases x with
      | one x=>cases x with
        | v z=>exact h
        | w φ y=>cases y with
          | any=>
            have h':Rp m (.w φ .any) u:=h
            simp only [Rp] at h'
            show Rp m' (.w φ .any) u
            simp only [Rp];exact h'
          | _=>cases hf
        | _=>cases hf
      | agg xs=>cases hf
    | _=>cases hf
  · trivial
theorem yGM (wf:E.Wf) {cs ys:List PV} {b o:Nat} {us vs:List Value} {w':World} (h1:∀ i u,us[i]?=some u→m b (o+i)=some u) (h2:RpL m cs us) (h3:RpL m ys vs) (h:InvG E S m β ow F a w) (hbx:∀ (j:Nat) (bn:Nat×Nat) (b2:Nat),E.Γ[j]?=some bn→β j=some b2→w'.heap[b2]?=w.heap[b2]?) {K:List Ct→Prop}:
    ∀ (js:List (Nat×Nat×Nat)) (F':List Ct),js.all (fun q=>zB5 E q.1 q.2.1 q.2.2)=true→InvG E S (yI0 m b o vs) β ow F' a w'→jgo cs ys F K js F'→∃ F'',K F''∧InvG E S (yI0 m b o vs) β ow F'' a w'
  | [],F',_,hI,hK=>⟨F',hK,hI⟩
  | q::r,F',hk,hI,hK=>by
    simp only [List.all_cons,Bool.and_eq_true] at hk
    obtain ⟨x,R,hx,hcl,hK⟩:=hK
    obtain ⟨u,hat,hr⟩:=yPp wf h hk.1 hx
    obtain ⟨x',k1,k2⟩:=hcl m b o u us vs h1 h2 h3 hr
    have hat':AtIx E β a w' q.1 u:=by
      rcases hat with hat|⟨j,base,n,b2,cs,T,g0,g1,g2,g3,g4,g5,g6⟩
      · exact .inl hat
      · exact .inr ⟨j,base,n,b2,cs,T,g0,g1,g2,g3,g4,(hbx j _ b2 g1 g4).trans g5,g6⟩
    have hI':=hI.setIx wf hat' (c:=.pv (.one x')) (fun _=>k2) (fun _=>k2)
    exact yGM wf h1 h2 h3 h hbx r _ hk.2 hI' (hK x' k1)
theorem yWa (wf:E.Wf) (hS:∀ b o,S.m0 b o=none) (h:InvG E S m β ow F a w) {x y:Opd} {n:Nat} {js:List (Nat×Nat×Nat)} {o:Oper} (hd:o.dst=none) {t:TypeId} {x' y':Operand} (ho:o.op=.store t x' y') (hk1:zAk E.N x x'=true) (hk2:zAk E.N y y'=true) (hs:zEg P t=some n) (h0:0 < n)
    (hjs:js.all (fun q=>zB5 E q.1 q.2.1 q.2.2)=true) {K:List Ct→Prop} {Q:Exit→Act→World→Prop} (hW:jst F x n y js K):o.wp P a w (zFb E S K) Q:=by
  unfold jst at hW
  split at hW
  rotate_left
  · exact hW.elim
  rename_i cs p hx hp
  obtain ⟨hnx,hny,hsc,hz,hja⟩:=hW
  obtain ⟨b,o',hv,hat⟩:=zBd h hk1 hnx hx
  have hrv:=(zBd h hk2 hny hp).cells
  obtain ⟨us,hus,hum⟩:=hat.vals
  have hul:us.length=n:=by rw [hus.length,hsc]
  have hlen:us.length=(a.eval y').cells.toList.length:=by rw [hul,hrv.length,hz]
  have hvs:(a.eval y').cells.size=n:=by rw [←Array.length_toList,←hlen,hul]
  have hm0:m b o'=some (us[0]'(by omega)):=by
    have:=hum 0 _ (List.getElem?_eq_getElem (by omega))
    rwa [Nat.add_zero] at this
  have hbS:S.w0.heap.size≤b∨S.R0 b:=by
    rcases h.new b o' _ hm0 with h1|h1|h1
    · rw [hS] at h1;cases h1
    · exact .inl h1
    · exact .inr h1
  have hbn:Glob.n≤b:=by
    rcases hbS with h1|h1
    · exact Nat.le_trans (Glob.size _ S.g0) h1
    · exact S.gR b h1
  obtain ⟨cur,T,hh⟩:=(h.mem b o' _ hm0).2 hbn
  have hcell:∀ q u,m b q=some u→cur[q]?=some u:=fun q u hq=>by
    have:=h.mem.c b q u hq
    rwa [cell_of_row w b q cur T (0,0) hh] at this
  have hsz:o'+n≤cur.size:=by
    have h1:=hcell _ _ (hum (n-1) _ (List.getElem?_eq_getElem (by omega)))
    have:=(Array.getElem?_eq_some_iff.1 h1).1
    omega
  have hrun:=zC9 (P:=P) (w:=w) hs hvs hh (off:=o') hsz hrv.flat_
  have hr:(execOp a.eval o).run P w=.ok .skip (w.setRow b (cur.toList.take o'++(a.eval y').cells.toList++cur.toList.drop (o'+n)).toArray):=by
    unfold execOp;rw [ho]
    simp only [hv,Instr.storeAt,Instr.sureAddr,Sem.run_bind,Sem.run_pure,Result.andThen_ok,hrun]
  obtain ⟨vs,hvsd⟩:∃ vs,vs=(a.eval y').cells.toList:=⟨_,rfl⟩
  rw [←hvsd] at hlen hr hrv
  have hvl:vs.length=n:=by omega
  obtain ⟨w',hw'⟩:∃ w',w'=w.setRow b (cur.toList.take o'++vs++cur.toList.drop (o'+n)).toArray:=⟨_,rfl⟩
  rw [←hw'] at hr
  have hb':w'.heap[b]?=some (.cells (cur.toList.take o'++vs++cur.toList.drop (o'+n)).toArray T (0,0)):=by rw [hw'];exact setRow_heap w b cur _ T (0,0) hh
  have hoth:∀ g,g≠b→w'.heap[g]?=w.heap[g]?:=fun g hg=>by rw [hw'];exact setRow_other w b g _ hg
  have hsize:w'.heap.size=w.heap.size:=by rw [hw'];simp
  have hnew:∀ q,(cur.toList.take o'++vs++cur.toList.drop (o'+n)).toArray[q]?=if o'≤q∧q < o'+n then vs[q-o']? else cur[q]?:=fun q=>by
    have:=zT0 cur.toList vs o' q (by rw [hvl,Array.length_toList];omega)
    rw [hvl] at this
    simpa using this
  obtain ⟨m',hm'⟩:∃ m':Mem,m'=yI0 m b o' vs:=⟨_,rfl⟩
  have hmv:∀ g q,m' g q=if g=b∧o'≤q∧q < o'+n then vs[q-o']? else m g q:=fun g q=>by rw [hm',←hvl];rfl
  have hbox:∀ (j:Nat) (bn:Nat×Nat) (b2:Nat),E.Γ[j]?=some bn→β j=some b2→b2≠b:=by
    intro j bn b2 hj hb2 e
    subst e
    have hB:=h.boxes j bn hj
    rw [hb2] at hB
    have:=hB.2.1 o'
    rw [hm0] at this
    cases this
  have hI:InvG E S m' β ow (F.map zBj) a w':={
    lenF:=by rw [List.length_map];exact h.lenF
    lenA:=h.lenA
    dfr:=h.dfr
    slots:=fun i hi=>by rw [zGI];exact zQi (h.slots i hi)
    boxes:=fun j bn hj=>by
      have hB:=h.boxes j bn hj
      cases hb2:β j with
      | none=>
        rw [hb2] at hB
        intro q hq
        rw [zGI]
        rcases hB q hq with e|e<;>rw [e]
        · exact .inl rfl
        · exact .inr rfl
      | some b2=>
        rw [hb2] at hB
        obtain ⟨g1,g2,cs2,T2,g3,g4,g5⟩:=hB
        have hne:=hbox j bn b2 hj hb2
        refine ⟨g1,fun q=>?_,cs2,T2,(hoth b2 hne).trans g3,g4,fun q hq=>?_⟩
        · rw [hmv,if_neg (fun hc=>hne hc.1)]
          exact g2 q
        · rw [zGI];exact zLw (g5 q hq)
    mem:=fun g q u hq=>by
      rw [hmv] at hq
      by_cases hc:g=b∧o'≤q∧q < o'+n
      · rw [if_pos hc] at hq
        obtain ⟨rfl,h1,h2⟩:=hc
        refine UCell.of_cells hb' ?_
        rw [cell_of_row w' g q _ T (0,0) hb',hnew,if_pos ⟨h1,h2⟩]
        exact hq
      · rw [if_neg hc] at hq
        by_cases hg:g=b
        · subst hg
          refine UCell.of_cells hb' ?_
          rw [cell_of_row w' g q _ T (0,0) hb',hnew,if_neg (fun hh=>hc ⟨rfl,hh⟩)]
          exact hcell q u hq
        · exact (h.mem g q u hq).block (hoth g hg)
    mle:=fun g q u hq=>by rw [hS] at hq;cases hq
    pres:=h.pres.trans (by rw [hw'];exact Pres.setRow _ w b _ (hbS.elim .inr .inl))
    own:=h.own
    lt:=fun g t hg=>by rw [hsize];exact h.lt g t hg
    new:=fun g q u hq=>by
      rw [hmv] at hq
      split at hq
      · rename_i hc;rw [hc.1];exact .inr hbS
      · exact h.new g q u hq
    fix:=h.fix}
  rw [hm'] at hI
  obtain ⟨F'',k1,k2⟩:=yGM wf hum hus hrv h (fun j bn b2 hj hb2=>hoth b2 (hbox j bn b2 hj hb2)) js _ hjs hI hja
  refine zFE hr ⟨F'',k1,yI0 m b o' vs,β,ow,?_⟩
  rw [hd]
  exact k2
end
end Go.Hx
end
