/-
  Walks of functions of the program over an abstract layer, and the laws that they use: each contract says what the function computes, for every input that its conditions let by. No other condition.
-/
import Derived.Test.YtjnagiaooecklabGreatDoorG10
set_option linter.all false
section
/-
 THE ABSTRACT LAYER: a closure's contract out of its code. Generic over the program. No condition.
-/
namespace Go.Hx
open Go.RowKit
variable [Glob]
def zV5:List CA→Nat→List Ct
 |[],_=>[]
 |.v x::r,j=>.pv (.one x)::zV5 r j
 |.io _::r,j=>.ptr j 0::zV5 r (j+1)
def yEQ:List CA→List (List PV)
 |[]=>[]
 |.v _::r=>yEQ r
 |.io c::r=>c::yEQ r
section
variable {P:Program} {E:Env} {m:Mem} {w:World}
theorem CArgs.len:∀ {cas:List CA} {cus:List Value} {bs:List Nat},CArgs m w cas cus bs→cus.length=cas.length∧bs.length=(yEQ cas).length
 |[],cus,bs,h=>by obtain ⟨rfl,rfl⟩:=h;exact ⟨rfl,rfl⟩
 |.v x::r,cus,bs,h=>by
  obtain ⟨u,us',rfl,_,h3⟩:=h
  obtain ⟨h4,h5⟩:=h3.len
  exact ⟨by simp [h4],h5⟩
 |.io c::r,cus,bs,h=>by
  obtain ⟨b,us',bs',rfl,rfl,_,h3⟩:=h
  obtain ⟨h4,h5⟩:=h3.len
  exact ⟨by simp [h4],by simp [yEQ,h5]⟩
theorem CArgs.slot {ow:Ow} {β:Bx}:∀ {cas:List CA} {cus:List Value} {bs:List Nat} {j0:Nat},CArgs m w cas cus bs→(∀ j b,bs[j]?=some b→β (j0+j)=some b)→∀ (i n:Nat) (c:Ct),(zV5 cas j0)[i]?=some c→∃ u,cus[i]?=some u∧CtRep m w β ow n c u
 |[],cus,bs,j0,h,hβ,i,n,c,hc=>by simp [zV5] at hc
 |.v x::r,cus,bs,j0,h,hβ,i,n,c,hc=>by
  obtain ⟨u,us',rfl,h2,h3⟩:=h
  cases i with
  |zero=>
   simp only [zV5,List.getElem?_cons_zero,Option.some.injEq] at hc
   subst hc
   exact ⟨u,rfl,h2⟩
  |succ i=>
   obtain ⟨v,g1,g2⟩:=h3.slot (ow:=ow) hβ i n c (by simpa [zV5] using hc)
   exact ⟨v,by simpa using g1,g2⟩
 |.io l::r,cus,bs,j0,h,hβ,i,n,c,hc=>by
  obtain ⟨b,us',bs',rfl,rfl,h2,h3⟩:=h
  cases i with
  |zero=>
   simp only [zV5,List.getElem?_cons_zero,Option.some.injEq] at hc
   subst hc
   exact ⟨_,rfl,b,by have:=hβ 0 b rfl;simpa using this,rfl⟩
  |succ i=>
   obtain ⟨v,g1,g2⟩:=h3.slot (ow:=ow) (j0:=j0+1) (fun j b' hj=>by have:=hβ (j+1) b' (by simpa using hj);rw [←this];congr 1;omega) i n c (by simpa [zV5] using hc)
   exact ⟨v,by simpa using g1,g2⟩
theorem CArgs.box:∀ {cas:List CA} {cus:List Value} {bs:List Nat},CArgs m w cas cus bs→∀ (j:Nat) (l:List PV),(yEQ cas)[j]?=some l→∃ b:Nat,bs[j]?=some b∧yIJ m w b l
 |[],cus,bs,h,j,l,hl=>by simp [yEQ] at hl
 |.v x::r,cus,bs,h,j,l,hl=>by
  obtain ⟨u,us',rfl,h2,h3⟩:=h
  exact h3.box j l hl
 |.io c::r,cus,bs,h,j,l,hl=>by
  obtain ⟨b,us',bs',rfl,rfl,h2,h3⟩:=h
  cases j with
  |zero=>
   simp only [yEQ,List.getElem?_cons_zero,Option.some.injEq] at hl
   subst hl
   exact ⟨b,rfl,h2⟩
  |succ j=>
   obtain ⟨b',g1,g2⟩:=h3.box j l (by simpa [yEQ] using hl)
   exact ⟨b',by simpa using g1,g2⟩
end
end Go.Hx
end

section
/-
 Plainer lists of paths, as plain Lean data: the same lists, the first ones of equals, a list made plainer, how much it weighs. No condition.
-/
namespace Go.Hx
section
variable {α:Type} (eq:α→α→Bool)
end
end Go.Hx
end

section
/-
 A list made plainer: it weighs no more, it stays right, what is as plain as may be stays, and it matches what it matched. Plain Lean. No condition.
-/
set_option maxRecDepth 100000
set_option linter.unusedSimpArgs false
namespace Go.Hx
mutual
theorem zPg:∀ (l:List Pt) (d:Nat),yF5 l (d+1)=false→yF5 l d=false
 |[],_,_=>rfl
 |p::r,d,h=>by
  simp only [yF5,Bool.or_eq_false_iff] at h ⊢
  exact ⟨yEa p d h.1,zPg r d h.2⟩
theorem yEa:∀ (p:Pt) (d:Nat),tmP p (d+1)=false→tmP p d=false
 |.mk s l,d,h=>by
  simp only [tmP,Bool.or_eq_false_iff] at h ⊢
  exact ⟨h.1,zW5 s d h.2⟩
theorem zW5:∀ (l:List St) (d:Nat),yF6 l (d+1)=false→yF6 l d=false
 |[],_,_=>rfl
 |p::r,d,h=>by
  simp only [yF6,Bool.or_eq_false_iff] at h ⊢
  exact ⟨yEb p d h.1,zW5 r d h.2⟩
theorem yEb:∀ (p:St) (d:Nat),tmS p (d+1)=false→tmS p d=false
 |.mk t l,d,h=>by
  simp only [tmS,Bool.or_eq_false_iff] at h ⊢
  exact ⟨h.1,zPh l d h.2⟩
theorem zPh:∀ (l:List Ts) (d:Nat),yF7 l (d+1)=false→yF7 l d=false
 |[],_,_=>rfl
 |p::r,d,h=>by
  simp only [yF7,Bool.or_eq_false_iff] at h ⊢
  exact ⟨yAa p d h.1,zPh r d h.2⟩
theorem yAa:∀ (p:Ts) (d:Nat),tmT p (d+1)=false→tmT p d=false
 |.mk k n v a b l,d,h=>by
  simp only [tmT,Bool.and_eq_false_iff,Bool.or_eq_false_iff] at h ⊢
  rcases h with h|⟨⟨h1,h2⟩,h3⟩
  ·exact .inl h
  ·exact .inr ⟨⟨by simp only [decide_eq_false_iff_not] at h1 ⊢;omega,h2⟩,zPg l (d+1) h3⟩
end
theorem GT.mono {t:Ts} {d:Nat} (h:GT t (d+1)):GT t d:=⟨yAa t d h.1,h.2⟩
theorem GTs.mono {t:List Ts} {d:Nat} (h:GTs t (d+1)):GTs t d:=⟨zPh t d h.1,h.2⟩
theorem GPs.mono {t:List Pt} {d:Nat} (h:GPs t (d+1)):GPs t d:=⟨zPg t d h.1,h.2⟩
theorem GL.mono {t:List Pt} {d:Nat} (h:GL t (d+1)):GL t d:=⟨by have:=h.1;omega,h.2.1,h.2.2.1,h.2.2.2.mono⟩
section
variable [Glob]
end
end Go.Hx
end

section
/-
 Lists of which the first ones are done and the others are not; small laws on owned trees. No condition.
-/
namespace Go.Hx
open Go.RowKit
section
variable {α β:Type}
def mix (f g:α→β) (l:List α) (k:Nat):List β:=(l.take k).map f++(l.drop k).map g
variable {f g:α→β} {l:List α} {k:Nat}
theorem yCK:(mix f g l k).length=l.length:=by simp [mix];omega
theorem yJO:mix f g l 0=l.map g:=by simp [mix]
theorem yGk:mix f g l l.length=l.map f:=by simp [mix]
theorem yGl [Inhabited α] {d:β} (h:k < l.length):(mix f g l k).getD k d=g (l.getD k default):=by
 unfold mix
 rw [List.getD_eq_getElem?_getD,List.getElem?_append_right (by simp;omega)]
 simp [Nat.min_eq_left (Nat.le_of_lt h),h]
theorem yGm [Inhabited α] (h:k < l.length):(mix f g l k).set k (f (l.getD k default))=mix f g l (k+1):=by
 have e1:l.drop k=l.getD k default::l.drop (k+1):=by simp [h]
 have e2:l.take (k+1)=l.take k++[l.getD k default]:=by rw [List.take_succ_eq_append_getElem h];simp [h]
 unfold mix
 rw [e1,e2,List.map_append,List.map_cons,List.set_append_right _ _ (by simp;omega)]
 simp [Nat.min_eq_left (Nat.le_of_lt h)]
end
section
variable [Glob]
theorem yEc {l:List (List OV)} {m:Nat} (h:m < l.length) (r:List OV):(l.set m r).getD m []=r:=by simp [h]
variable {P:Program} {F:List Ct} {K:List Ct→Prop} {X:Value→List Ct→Prop}
theorem yIk {d f x:Nat} {v v':OVal} (e:F.getD x .un=.ov v) (h:zCh P f v v') (hk:K ((F.set x .un).set d (.ov v'))):hoW P ⟨none,.callo d f x⟩ F K X:=by
 rw [yFU,e]
 exact ⟨v',h,hk⟩
theorem yIl {d f x:Nat} {v:OVal} {cs:List OV} {xs:List PV} (e:F.getD x .un=.ov v) (h:zCh P f v (.agg cs)) (hf:zK5 cs=some xs) (hk:K ((F.set x .un).set d (.pv (.agg xs)))):hoW P ⟨none,.callp d f x⟩ F K X:=by
 rw [yFV,e]
 exact ⟨cs,xs,h,hf,hk⟩
end
end Go.Hx
end

section
/-
 Maps from ints to ints; rows told by a function; the neighbours of elements. Plain Lean over the layer. No condition.
-/
set_option maxRecDepth 100000
namespace Go.Hx
section
variable [Glob]
variable {P:Program} {F:List Ct} {K:List Ct→Prop} {X:Value→List Ct→Prop}
end
end Go.Hx
end

section
/-
 Right documents: what is above an element. Plain Lean. No condition.
-/
namespace Go.Hx
variable [Glob]
def C (d:List Nd) (k:Int):List Int:=zBr d d.length k
section
variable {d:List Nd} (hd:zCm d d.length=true)
include hd
theorem yIm {k:Int} (h:k < 0):C d k=[]:=by
 unfold C
 cases d.length<;>simp [zBr,h]
theorem zEZ {k:Nat} (hk:k < d.length):C d k=(k:Int)::C d (zAS d k):=by
 unfold C
 have hu:=zBB hd k hk
 obtain ⟨f,hf⟩:∃ f,d.length=f+1:=⟨d.length-1,by omega⟩
 rw [hf]
 have e:=zFy (d:=d) f (f+1) (zAS d k) (fun j hj=>(zBB hd j (by omega)).2) (by omega) (by omega)
 rw [←e]
 simp only [zBr,Int.toNat_natCast]
 rw [if_neg (by omega)]
theorem yIG {k:Int} (hk:k < d.length) {x:Int} (hx:x∈C d k):0≤x∧x≤k:=
 zEq d.length k (fun j hj=>(zBB hd j (by omega)).2) x hx
theorem yGn {p:Nat→Prop} (h:∀ k,k < d.length→(∀ j:Nat,zAS d k=(j:Int)→j < k→p j)→p k):∀ k,k < d.length→p k:=by
 intro k
 induction k using Nat.strongRecOn with
 |ind k ih=>intro hk;exact h k hk fun j _ hj=>ih j hj (by omega)
theorem zVb {k:Nat} (hk:k < d.length):zAS d k < 0∨∃ j:Nat,zAS d k=j∧j < k:=by
 have:=zBB hd k hk
 by_cases h:zAS d k < 0
 ·exact .inl h
 ·exact .inr ⟨(zAS d k).toNat,by omega,by omega⟩
theorem yJP:∀ k,k < d.length→∀ {u x:Int},u∈C d k→x∈C d u→x∈C d k:=by
 refine yGn hd fun k hk ih u x hu hx=>?_
 rw [zEZ hd hk] at hu ⊢
 rcases List.mem_cons.1 hu with rfl|hu
 ·rw [zEZ hd hk] at hx;exact hx
 ·refine List.mem_cons_of_mem _ ?_
  rcases zVb hd hk with h|⟨j,h,hj⟩
  ·rw [yIm hd h] at hu;cases hu
  ·rw [h] at hu ⊢
   exact ih j h hj hu hx
theorem yJQ:∀ k,k < d.length→∀ {i:Nat} {x:Int},(i:Int)∈C d k→x∈C d k→x < i→x∈C d (zAS d i):=by
 refine yGn hd fun k hk ih i x hi hx hlt=>?_
 have hb:=yIG hd (by omega) hi
 rw [zEZ hd hk] at hi hx
 rcases List.mem_cons.1 hi with e|hi
 ·have e:i=k:=by omega
  subst e
  exact (List.mem_cons.1 hx).resolve_left (by omega)
 ·have hx:=(List.mem_cons.1 hx).resolve_left (by omega)
  rcases zVb hd hk with h|⟨j,h,hj⟩
  ·rw [yIm hd h] at hi;cases hi
  ·rw [h] at hi hx
   exact ih j h hj hi hx hlt
end
end Go.Hx
end

section
/-
 An entry laid into the index, at its place. No condition.
-/
set_option maxRecDepth 100000
set_option linter.unusedSimpArgs false
namespace Go.Hx
open Go.RowKit
theorem yAb:∀ (es:List Ent) (i:Nat) (k:Key) (n:Int),i≤es.length→(∀ j,j < i→zAI (es.getD j default).key k=true)→(i=es.length∨zAI k (es.getD i default).key=true)→zR6 es k n=es.take i++⟨k.1,k.2,[n]⟩::es.drop i
 |[],i,k,n,hi,_,_=>by
  have:i=0:=by simpa using hi
  subst this;rfl
 |e::r,0,k,n,_,_,h=>by
  have h1:zAI k e.key=true:=by rcases h with h|h;simp at h;exact h
  rw [zR6,if_neg (by rw [zFW h1];decide),if_pos h1];rfl
 |e::r,i+1,k,n,hi,hj,h=>by
  have h0:zAI e.key k=true:=hj 0 (by omega)
  rw [zR6,if_pos h0,yAb r i k n (by simpa using hi) (fun j hjj=>by have:=hj (j+1) (by omega);simpa using this) (by
   rcases h with h|h
   ·exact .inl (by simpa using h)
   ·exact .inr (by simpa using h))]
  rfl
theorem yAc:∀ (es:List Ent) (i:Nat) (k:Key) (n:Int),i < es.length→(∀ j,j < i→zAI (es.getD j default).key k=true)→(es.getD i default).key=k→zR6 es k n=es.set i ⟨(es.getD i default).kind,(es.getD i default).name,(es.getD i default).nodes++[n]⟩
 |[],i,k,n,hi,_,_=>by simp at hi
 |e::r,0,k,n,_,_,h=>by
  have h1:e.key=k:=h
  rw [zR6,if_neg (by rw [h1,zBk];decide),if_neg (by rw [h1,zBk];decide)];rfl
 |e::r,i+1,k,n,hi,hj,h=>by
  have h0:zAI e.key k=true:=hj 0 (by omega)
  rw [zR6,if_pos h0,yAc r i k n (by simpa using hi) (fun j hjj=>by have:=hj (j+1) (by omega);simpa using this) (by simpa using h)]
  rfl
theorem yEd (es:List Ent) (k:Key) (n:Int):(zR6 es k n).length≤es.length+1:=by
 induction es with
 |nil=>simp [zR6]
 |cons e r ih=>
  rw [zR6]
  split
  ·simpa using ih
  ·split<;>simp
theorem yBA (ps:List (Key×Int)):(zB5 ps).length≤ps.length:=by
 have:∀ (ps:List (Key×Int)) (l:List Ent),(ps.foldl (fun l p=>zR6 l p.1 p.2) l).length≤l.length+ps.length:=by
  intro ps
  induction ps with
  |nil=>intro l;simp
  |cons p r ih=>
   intro l
   have h1:=yEd l p.1 p.2
   have:=ih (zR6 l p.1 p.2)
   rw [List.foldl_cons,List.length_cons]
   omega
 have:=this ps []
 simpa [zB5] using this
theorem zYK (ps:List (Key×Int)) {e:Ent} (h:e∈zB5 ps):e.nodes.length≤ps.length:=by
 have:=((zJt ps.length ps rfl).2 e).1 h
 rw [this.2]
 unfold zAK
 rw [List.length_map]
 exact List.length_filter_le _ _
def zW7 (t:Nat) (e:Ent):List OV:=[.p (bI e.kind),.p (bS e.name),zH7 t e.nodes]
def ovT (t:Nat) (es:List Ent):List (List OV):=es.map (zW7 t)
theorem zDw (t:Nat) (es:List Ent):(ovT t es).length=es.length:=by simp [ovT]
theorem zPi (t:Nat) (es:List Ent) (i:Nat) (h:i < es.length):(ovT t es).getD i []=zW7 t (es.getD i default):=by simp [ovT,h]
variable [Glob]
theorem yCL (t:Nat) (e:Ent):zK5 (zW7 t e)=some [bI e.kind,bS e.name,.sl 1 (zBi e.nodes)]:=by
 have:(zH7 t e.nodes).frz=some (.sl 1 (zBi e.nodes)):=by
  have e1:(e.nodes.map fun n=>[OV.p (bI n)])=(zBi e.nodes).map fun r=>r.map OV.p:=by simp [zBi]
  unfold zH7
  rw [e1]
  exact zVY (zGF _)
 simp only [zW7,zK5,OV.frz,this]
theorem zPj (t:Nat):∀ (es:List Ent),zCX (ovT t es)=some (es.map fun e=>[bI e.kind,bS e.name,.sl 1 (zBi e.nodes)])
 |[]=>rfl
 |e::es=>by
  have ih:=zPj t es
  unfold ovT at ih ⊢
  simp only [List.map_cons,zCX,yCL,ih]
theorem zW8 (t:Nat) (es:List Ent) (i:Nat) (hi:i≤es.length) (z r:List OV):(zC4 i (ovT t es++[z])).set i r=ovT t (es.take i)++r::ovT t (es.drop i):=by
 have hl:(List.take i (ovT t es++[z])).length=i:=by rw [List.length_take,List.length_append,zDw];simp;omega
 have h1:List.take i (ovT t es++[z])=ovT t (es.take i):=by
  rw [List.take_append_of_le_length (by rw [zDw];exact hi)]
  simp [ovT]
 have h2:(List.drop i (ovT t es++[z])).dropLast=ovT t (es.drop i):=by
  rw [List.drop_append_of_le_length (by rw [zDw];exact hi),List.dropLast_concat]
  simp [ovT]
 unfold zC4
 rw [List.append_assoc,List.set_append_right _ _ (by rw [hl];exact Nat.le_refl _),hl,Nat.sub_self,h1,h2]
 rfl
theorem zW9 (t:Nat) (es:List Ent) (i:Nat) (hi:i≤es.length) (z:List OV):(zC4 i (ovT t es++[z])).length=es.length+1:=by
 unfold zC4
 simp only [List.length_append,List.length_take,List.length_cons,List.length_nil,List.length_dropLast,List.length_drop,zDw]
 omega
end Go.Hx
end

section
/-
 THE ABSTRACT LAYER: a contract out of the code of a function that is handed an owned tree and gives one zXR. Generic over the program. No condition.
-/
namespace Go.Hx
open Go.RowKit
variable [Glob]
variable {P:Program} {E:Env}
def F0v (E:Env) (x:OVal):List Ct:=.ov x::List.replicate (E.L-1) .un
theorem yAd {fn:Func} {r:RSrc} (hrs:zCN P E [r] fn.results.toList=true) {tmps:Array Value} {w':World} {u:Value} (h:∀ s,zJr P E r s=true→(rdR tmps s).run P w'=.ok u w'):(results fn tmps).run P w'=.ok u w':=by
 have e:results fn tmps=(do let vs ←fn.results.mapM (rdR tmps);pure (if h:vs.size=1 then vs[0] else .tuple vs)):=by unfold results;congr
 cases hl:fn.results.toList with
 |nil=>rw [hl] at hrs;simp [zCN] at hrs
 |cons s ss=>
  rw [hl] at hrs
  cases ss with
  |cons s2 ss2=>simp [zCN] at hrs
  |nil=>
   simp only [zCN,Bool.and_eq_true] at hrs
   have h1:=h s hrs.1
   rw [e,Array.mapM_eq_mapM_toList,hl]
   simp [h1]
theorem zPl {f:FuncId} {fn:Func} {c:Code} (hf:P.funcs[f]?=some fn) (hb:fn.body=some c) (hcall:zBT P f=true) (hE':(E.ok&&E.unaOk)=true) (hN:E.N=fn.ntmps)
  {h:HCode} (hk:zDG P E c h=true) {rs:List RSrc} (hrs:zCN P E rs fn.results.toList=true) (hnf:E.nfix=0) (hN1:1≤E.N) {x x':OVal} (hW:hwp P h (yCf E 0 [] rs {res:=.ov x'}) (F0v E x)):zCh P f x x':=by
 have hE:=Bool.and_eq_true_iff.1 hE'
 have wf:=Env.wf_of_ok hE.1
 refine ⟨hcall,fun m w u fp hm hx hnd hfp hG0=>?_⟩
 have hNL:=wf.le
 have hget:∀ i,(F0v E x).getD i .un=if i=0 then .ov x else .un:=by
  intro i
  cases i with
  |zero=>rfl
  |succ i=>
   simp only [F0v,List.getD_cons_succ]
   rw [List.getD_eq_getElem?_getD,List.getElem?_replicate]
   split<;>rfl
 have h0:Inv E {w0:=w,m0:=m,R0:=fun b=>b∈fp,b0:=fun _=>none,g0:=hG0,gR:=fun b hb=>(hfp b hb).1} (F0v E x) {tmps:=#[u]++Array.replicate (E.N-(#[u]:Array Value).size) undef,defers:=[]} w:=by
  refine ⟨m,fun _=>none,fun b=>if b∈fp then some (.key 0) else none,⟨by simp [F0v];omega,by simp;omega,rfl,fun i hi=>?_,fun j bn hj=>?_,hm,m.le_refl,Pres.refl _ _,fun b t hb'=>?_,fun b t hb'=>?_,fun b o v hv=>.inl hv,fun j _=>rfl⟩⟩
  ·rw [hget]
   split
   ·rename_i e
    subst e
    have e2:(#[u]++Array.replicate (E.N-(#[u]:Array Value).size) undef).getD 0 undef=u:=by
     rw [Array.getD_eq_getD_getElem?,Array.getElem?_append_left (by simp)]
     simp
    simp only
    rw [e2]
    exact ⟨fp,hx,hnd,fun g hg=>⟨by simp [hg],(hfp g hg).2⟩⟩
   ·trivial
  ·have hlo:=wf.lo j bn hj
   show ∀ o,o < bn.2→unC ((F0v E x).getD (bn.1+o) .un)
   intro o ho
   rw [hget,if_neg (by omega)]
   exact .inl rfl
  ·split at hb'
   ·rename_i hin;exact .inr hin
   ·cases hb'
  ·split at hb'
   ·rename_i hin;exact hx.lt b hin
   ·cases hb'
 have hc:=zR3 wf c h _ _ _ _ hk hW h0
 refine calls_of_wp hf hb ?_
 rw [←hN]
 refine wp_mono hc ?_
 have fin:∀ {F:List Ct} {a':Act} {w':World},zGE F rs (.ov x')→
   Inv E {w0:=w,m0:=m,R0:=fun b=>b∈fp,b0:=fun _=>none,g0:=hG0,gR:=fun b hb=>(hfp b hb).1} F a' w'→
   a'.defers=[]∧∃ v,(results fn a'.tmps).run P w'=.ok v w'∧yFd m w fp x' (.returned v) w':=by
  rintro F a' w' hr ⟨m',β,ow,hG⟩
  refine ⟨hG.dfr,?_⟩
  have hfresh:∀ (g:Nat) (t:Tag),ow g=some t→w.heap.size≤g∨g∈fp:=fun g t hg=>hG.own g t hg
  have hmk:∀ v fp',OvV m' w' x' v fp'→fp'.Nodup→(∀ g∈fp',(∃ t,ow g=some t)∧∀ o,m' g o=none)→yFd m w fp x' (.returned v) w':=by
   intro v fp' k1 k2 k3
   exact ⟨m',hG.mle,hG.mem,hG.pres,hG.new,v,fp',rfl,k1,k2,fun g hg=>⟨(k3 g hg).1.elim fun t ht=>hfresh g t ht,(k3 g hg).2⟩⟩
  simp only [zGE] at hr
  split at hr
  ·rename_i t
   have hlt:t < E.N:=by
    cases hl:fn.results.toList with
    |nil=>rw [hl] at hrs;simp [zCN] at hrs
    |cons s ss=>
     rw [hl] at hrs
     simp only [zCN,Bool.and_eq_true] at hrs
     cases s with
     |tmp t'=>have:=hrs.1;simp only [zJr,Bool.and_eq_true,decide_eq_true_eq] at this;exact this.2
     |cell x y=>have:=hrs.1;simp [zJr] at this
   have hs:=hG.slots t hlt
   rw [hr] at hs
   obtain ⟨fp',k1,k2,k3⟩:=hs
   refine ⟨a'.tmps.getD t undef,yAd hrs (fun s hs1=>?_),hmk _ fp' k1 k2 fun g hg=>⟨⟨_,(k3 g hg).1⟩,(k3 g hg).2⟩⟩
   cases s with
   |cell x y=>simp [zJr] at hs1
   |tmp t'=>
    simp only [zJr,Bool.and_eq_true,beq_iff_eq,decide_eq_true_eq] at hs1
    obtain ⟨rfl,_⟩:=hs1
    rfl
  ·rename_i t j bs off n agg
   obtain ⟨e1,cs,e2,rfl⟩:=hr
   have hsrc:∃ s,fn.results.toList=[s]∧zJr P E (.cellB t j bs off n agg) s=true:=by
    cases hl:fn.results.toList with
    |nil=>rw [hl] at hrs;simp [zCN] at hrs
    |cons s ss=>
     rw [hl] at hrs
     cases ss with
     |nil=>simp only [zCN,Bool.and_eq_true] at hrs;exact ⟨s,rfl,hrs.1⟩
     |cons s2 ss=>simp [zCN] at hrs
   obtain ⟨s,_,hs1⟩:=hsrc
   cases s with
   |tmp t'=>simp [zJr] at hs1
   |cell b ty=>
    have hs1':=hs1
    simp only [zJr,Bool.and_eq_true,beq_iff_eq,decide_eq_true_eq,Bool.or_eq_true] at hs1'
    obtain ⟨⟨⟨⟨⟨rfl,ht⟩,hb⟩,ha⟩,hn⟩,h1⟩:=hs1'
    obtain ⟨nn,hj,hle⟩:=zCM hb
    obtain ⟨bb,hbb,hv⟩:=zCd hG (x:=.t t) (y:=.tmp t) (by simp [zAe,ht]) e1
    have hv':a'.tmps.getD t undef=_:=hv
    have hB:=hG.boxes _ _ hj
    rw [hbb] at hB
    obtain ⟨us',fp',k1,k2,k3,k4,k5⟩:=zSS hB n off hle cs e2
    have hrun:=zA2 (P:=P) (w:=w') ha hn h1 (us:=us') (b:=bb) (o:=off) k1 k5
    refine ⟨if agg then .agg us'.toArray else us'.headD undef,yAd hrs (fun s hs2=>?_),hmk _ fp' (zMQ k2 (by rw [k1];exact h1)) k3 fun g hg=>?_⟩
    ·cases s with
     |tmp t'=>simp [zJr] at hs2
     |cell b' ty'=>
      have hs2':=hs2
      simp only [zJr,Bool.and_eq_true,beq_iff_eq,decide_eq_true_eq,Bool.or_eq_true] at hs2'
      obtain ⟨⟨⟨⟨⟨rfl,_⟩,_⟩,ha'⟩,hn'⟩,_⟩:=hs2'
      have hrun':=zA2 (P:=P) (w:=w') ha' hn' h1 (us:=us') (b:=bb) (o:=off) k1 k5
      simp only [rdR,hv',asAddr,Sem.run_bind,Sem.run_pure,Result.andThen_ok,hrun']
    ·obtain ⟨⟨i,_,_,i3,_⟩,i5⟩:=k4 g hg
     exact ⟨⟨_,i3⟩,i5⟩
  ·exact hr.elim
 rintro e a' w' ⟨F,hq,hI⟩
 cases e with
 |normal=>exact fin hq.1 hI
 |ret=>exact fin hq.1 hI
 |panic ch=>
  obtain ⟨v,hv,_⟩:=hq
  cases hv
 |exit id=>exact hq.elim
 |goto l=>exact hq.elim
 |outgrown=>exact hq.elim
end Go.Hx
end
