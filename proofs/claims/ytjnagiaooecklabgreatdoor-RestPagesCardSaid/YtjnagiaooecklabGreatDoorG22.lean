/-
  Walks of functions of the program over an abstract layer, and the laws that they use: each contract says what the function computes, for every input that its conditions let by. No other condition.
-/
import Derived.Test.YtjnagiaooecklabGreatDoorG11
import Derived.Test.YtjnagiaooecklabGreatDoorG17
import Derived.Test.YtjnagiaooecklabGreatDoorG20
import Derived.Test.YtjnagiaooecklabGreatDoorG14
set_option linter.all false
section
set_option maxRecDepth 100000
set_option maxHeartbeats 4000000
namespace Go.Hx
open Go.Proofs
variable [Glob] [GlobL]
attribute [local go_sem] zAh zAj zAg zAd ndV zAm zAn zCq
attribute [local go_sem] reduceCtorEq Nat.reduceAdd Nat.reduceEqDiff reduceIte Nat.reduceLeDiff Nat.reduceLT Nat.reduceSub
def mpF (b:Nat) (ps:List (Key×Int)):OV:=.mp b ((gK ps).map zME) ((gK ps).map fun k=>.p (fr (.sl 1 (zAM (zAK ps k)))))
def ysF (ps:List (Key×Int)):List PV:=(gK ps).map fun k=>fr (.sl 1 (zAM (zAK ps k)))
theorem yRL (e:Nat) (l:List Int):(zK9 e l).frz=some (.sl 1 (zAM l)):=by
 have:(l.map fun n=>[OV.p (bI n)])=(zAM l).map fun r=>r.map OV.p:=by simp [zAM]
 unfold zK9
 rw [this]
 exact yBs (zFS _)
theorem yH2 (e:Nat) (ps:List (Key×Int)):∀ (l:List Key),zOv (l.map fun k=>zK9 e (zAK ps k))=some (l.map fun k=>.sl 1 (zAM (zAK ps k)))
 |[]=>rfl
 |k::l=>by simp only [List.map_cons,zOv,yRL,yH2 e ps l]
theorem yFa (ps:List (Key×Int)):∀ (l:List Key),zFO (l.map fun k=>OV.p (fr (.sl 1 (zAM (zAK ps k)))))=some (l.map fun k=>fr (.sl 1 (zAM (zAK ps k))))
 |[]=>rfl
 |k::l=>by simp only [List.map_cons,zFO,yFa ps l]
theorem yH3 (e:Nat) (ps:List (Key×Int)):∀ (l:List Key),yJl (l.map fun k=>zK9 e (zAK ps k))=true
 |[]=>rfl
 |k::l=>by simp only [yJl,List.map_cons,List.all_cons,zK9,Bool.true_and];exact yH3 e ps l
theorem yYO {F:List Ct} {K:List Ct→Prop} {r b e:Nat} {ps:List (Key×Int)} {l:List Gh} (h1:F.getD r .un=.ov (.one (mpO b e ps))) (h:ghW (F.set r (.ov (.one (mpF b ps)))) K l):ghW F K (.vmf r::l):=by
 rw [yYA,h1]
 simp only [mpO,yH2]
 rw [List.map_map]
 exact ⟨yH3 e ps _,h⟩
theorem ySY (ps:List (Key×Int)) {i:Nat} (h:i < (gK ps).length):yNa (((gK ps).map zME).getD i .nilIface)=.agg [bI (yGU ps i).kind,bS (yGU ps i).name]:=by
 have:((gK ps).map zME).getD i .nilIface=zME ((gK ps).getD i default):=by
  rw [List.getD_eq_getElem?_getD,List.getElem?_map,yGV ps h,List.getElem?_eq_getElem h];rfl
 rw [this];rfl
theorem yWP (ps:List (Key×Int)) {i:Nat} (h:i < (gK ps).length):(ysF ps).getD i (.nl 0)=fr (.sl 1 (zAM (yGU ps i).nodes)):=by
 unfold ysF
 rw [List.getD_eq_getElem?_getD,List.getElem?_map,List.getElem?_eq_getElem h]
 show fr (.sl 1 (zAM (zAK ps (gK ps)[i])))=fr (.sl 1 (zAM (zAK ps ((gK ps).getD i default))))
 rw [yGV ps h]
theorem yKu (l:List Ent):zCz (ovE l)=some (zFi l):=zFS _
theorem yRM (l:List Ent) (e:Ent):ovE (l++[e])=ovE l++[[.p (bI e.kind),.p (bS e.name),.p (fr (.sl 1 (zAM e.nodes)))]]:=by simp [ovE,zFi,yYN]
theorem yWQ {l:List Ent} (h:l≠[]):ovE l≠[]:=by
 cases l with
 |nil=>exact absurd rfl h
 |cons e r=>simp [ovE,zFi]
theorem zNP (d:List Nd):Contract Tryz.prog zDK [.val (zB6 d)] {res:=.tup [.one (if zAl d=0 then fr (.sl 3 (zFi (zBF d))) else .sl 3 []),iv (zAl d)]}:=by
 have hC:=zI8 d
 obtain ⟨e,he⟩:∃ e,e=zAl d:=⟨_,rfl⟩
 rw [←he] at hC ⊢
 unfold zB6 at hC ⊢
 refine mkA zZL (base:=0) (fo rfl) (fun hfit=>?_)
 unfold F0 zNI
 refine goU ?_
 refine zAe (by repeat' constructor) (hC) ?_
 refine goW ?_
 refine zAa (by rfl) trivial (fun h0=>?_) (fun h0=>?_)
 ·have h1:e≠0:=by simpa using h0
  rw [if_neg h1]
  refine goW ?_
  exact zAL (by simp) ⟨zA5 rfl trivial (.inr rfl),zA5 rfl trivial (.inl rfl),rfl⟩
 have h1:e=0:=by simpa using h0
 subst h1
 rw [if_pos rfl]
 obtain ⟨d1,d2,d3⟩:=zA0 he.symm
 have hcls:∀ i,i < d.length→(d.getD i default).cls.length≤64:=fun i hi=>Nat.le_trans (zBD (zCY d3 hi)).1 (by decide)
 refine goW ?_
 rw [yYu]
 intro b
 refine goW ?_
 refine zAc (fun i:Nat=>[(22,.pv (iv i)),(18,.ov (.one (mpO b zAz (zDd d i)))),(6,.un),(7,.un),(9,.un),(23,.un),(41,.un),(55,.un),(56,.un),(57,.un),(58,.un),(92,.un),(93,.un),(94,.un),(95,.un),(96,.un)]) (fun i:Nat=>d.length-i) (fun i:Nat=>i≤d.length) (0) ?_ (Nat.zero_le _) ?_
 focus (exact leA)
 intro i hi
 refine goW ?_
 refine zAa (by rfl) trivial (fun g1=>?_) (fun g1=>?_)
 ·have hil:i < d.length:=by simpa using g1
  have hx:=zBv d i hil
  have hpl:=zIU d i fun j hj=>hcls j (by omega)
  have hsu:=zQm d i
  have hc:=hcls i hil
  obtain ⟨x,hxe⟩:∃ x,x=d.getD i default:=⟨_,rfl⟩
  rw [←hxe] at hx hsu hc
  unfold ndV at hx
  obtain ⟨p0,hp0⟩:∃ p,p=zDd d i:=⟨_,rfl⟩
  rw [←hp0] at hpl hsu ⊢
  try simp (maxSteps:=2000000) only [go_sem,hx]
  repeat with_reducible refine zAt ?_
  refine yUq (b:=b) (e:=zAz) (ps:=p0) (key:=(1,x.tag)) rfl rfl (by simp) rfl rfl trivial (by decide) (fun K1 V1 hK hp=>?_)
  have hn:=zLY p0 (1,x.tag)
  try simp (maxSteps:=2000000) only [go_sem,zK9,List.length_map]
  repeat with_reducible refine zAt ?_
  refine yUr (b:=b) (e:=zAz) (ps:=p0) (key:=(1,x.tag)) (v:=i) rfl rfl rfl rfl trivial hK hp rfl (zUq _ _ _).symm (by decide) ?_
  refine goW ?_
  obtain ⟨p1,hp1⟩:∃ p,p=p0++[((1,x.tag),(i:Int))]:=⟨_,rfl⟩
  have hp1l:p1.length≤i * 66+1:=by rw [hp1];simp;omega
  rw [←hp1] at hsu ⊢
  refine zAa (by rfl) trivial (fun g2=>?_) (fun g2=>?_)
  have hid:x.id≠[]:=by simpa using g2
  rw [if_neg hid] at hsu
  refine goW ?_
  refine yUq (b:=b) (e:=zAz) (ps:=p1) (key:=(2,x.id)) rfl rfl (by simp) rfl rfl trivial (by decide) (fun K1 V1 hK hp=>?_)
  have hn:=zLY p1 (2,x.id)
  try simp (maxSteps:=2000000) only [go_sem,zK9,List.length_map]
  repeat with_reducible refine zAt ?_
  refine yUr (b:=b) (e:=zAz) (ps:=p1) (key:=(2,x.id)) (v:=i) rfl rfl rfl rfl trivial hK hp rfl (zUq _ _ _).symm (by decide) ?_
  refine goW ?_
  obtain ⟨p2,hp2⟩:∃ p,p=p1++[((2,x.id),(i:Int))]:=⟨_,rfl⟩
  have hp2l:p2.length≤i * 66+2:=by rw [hp2];simp;omega
  rw [←hp2] at hsu ⊢
  rotate_left
  have hid:x.id=[]:=by simpa using g2
  rw [if_pos hid,List.append_nil] at hsu
  refine goW ?_
  obtain ⟨p2,hp2⟩:∃ p,p=p1:=⟨_,rfl⟩
  have hp2l:p2.length≤i * 66+2:=by rw [hp2];omega
  rw [←hp2] at hsu ⊢
  all_goals
   refine zAc (fun j:Nat=>[(57,.pv (iv j)),(18,.ov (.one (mpO b zAz (p2++(x.cls.take j).map fun c=>((3,c),(i:Int)))))),(9,.un),(58,.un)]) (fun j:Nat=>x.cls.length-j) (fun j:Nat=>j≤x.cls.length) (0) ?_ (Nat.zero_le _) ?_
   focus (simp (maxSteps:=2000000) only [go_sem,zAu,zAE,zA9,zAv];all_goals (repeat' (first|exact trivial|exact zAI (by omega)|exact zAB rfl|exact zAU rfl|exact zAW|exact le_refl _|refine And.intro ?_ ?_)))
   ·exact zAU (by rw [List.append_nil])
   intro j hj
   refine goW ?_
   refine zAa (by rfl) trivial (fun g3=>?_) (fun g3=>?_)
   ·have hjl:j < x.cls.length:=by simpa using g3
    have hcj:=zGq x.cls j hjl
    obtain ⟨p3,hp3⟩:∃ p,p=p2++(x.cls.take j).map (fun c=>(((3,c):Key),(i:Int))):=⟨_,rfl⟩
    have hp3l:p3.length≤i * 66+66:=by rw [hp3];simp;omega
    have hstep:p2++(x.cls.take (j+1)).map (fun c=>(((3,c):Key),(i:Int)))=p3++[((3,x.cls.getD j []),(i:Int))]:=by
     rw [hp3,List.take_succ_eq_append_getElem hjl,List.map_append,←List.append_assoc]
     simp [hjl]
    rw [←hp3]
    try simp (maxSteps:=2000000) only [go_sem,hcj]
    repeat with_reducible refine zAt ?_
    refine yUq (b:=b) (e:=zAz) (ps:=p3) (key:=(3,x.cls.getD j [])) rfl rfl (by simp) rfl rfl trivial (by decide) (fun K1 V1 hK hp=>?_)
    have hn:=zLY p3 (3,x.cls.getD j [])
    try simp (maxSteps:=2000000) only [go_sem,zK9,List.length_map]
    repeat with_reducible refine zAt ?_
    refine yUr (b:=b) (e:=zAz) (ps:=p3) (key:=(3,x.cls.getD j [])) (v:=i) rfl rfl rfl rfl trivial hK hp rfl (zUq _ _ _).symm (by decide) ?_
    refine goW ?_
    refine ⟨j+1,by omega,by omega,?_⟩
    rw [hstep]
    exact leA
   ·have hjl:j=x.cls.length:=by simp at g3;omega
    rw [hjl,List.take_length,←hsu]
    refine goW ?_
    refine ⟨i+1,by omega,by omega,?_⟩
    exact leA
 ·have hil:i=d.length:=by simp at g1;omega
  rw [hil]
  have hpl:=zIU d d.length hcls
  have hid:zBF d=zCI (zDd d d.length):=rfl
  rw [hid]
  obtain ⟨ps,hps⟩:∃ p,p=zDd d d.length:=⟨_,rfl⟩
  rw [←hps] at hpl ⊢
  have hN:=yWE ps
  refine goW ?_
  refine yYO (e:=zAz) (ps:=ps) rfl ?_
  refine goW ?_
  refine yYB (b:=b) (ks:=(gK ps).map zME) (vs:=(gK ps).map fun k=>.p (fr (.sl 1 (zAM (zAK ps k))))) rfl rfl ?_
  rw [List.length_map]
  refine goW ?_
  refine zAc (fun seen:List Nat=>[(74,.ov (.one (.it b (gK ps).length seen))),(10,.ov (.one (.os none zAF 3 (ovE (seen.map (yGU ps)))))),(11,.un),(12,.un),(76,.un),(97,.un),(98,.un)]) (fun seen:List Nat=>(gK ps).length-seen.length) (fun seen:List Nat=>seen.Nodup∧∀ q∈seen,q < (gK ps).length) ([]) ?_ ⟨List.nodup_nil,by simp⟩ ?_
  focus (exact leA)
  rintro seen ⟨hn1,hn2⟩
  have hsl:=zUr _ seen hn1 hn2
  refine goW ?_
  refine yYC (b:=b) (ks:=(gK ps).map zME) (vs:=(gK ps).map fun k=>.p (fr (.sl 1 (zAM (zAK ps k))))) (ys:=ysF ps) rfl rfl (yFa ps _) (List.length_map _).symm (by decide) (by decide) (fun hall=>?_) (fun q hq hqn=>?_)
  ·refine goW ?_
   refine zJR (by rfl) trivial ?_
   refine goW ?_
   have hperm:=yRr hn1 hn2 hall
   have hne:seen.map (yGU ps)≠[]:=by
    intro hc
    rw [hc] at hperm
    have h2:zCI ps=[]:=hperm.symm.eq_nil
    obtain ⟨n,hn⟩:∃ n,d.length=n+1:=⟨d.length-1,by omega⟩
    rw [hn,zQm] at hps
    obtain ⟨p,hp⟩:∃ p,p∈ps:=⟨((1,(d.getD n default).tag),(n:Int)),by rw [hps];simp⟩
    have h3:(⟨p.1.1,p.1.2,zAK ps p.1⟩:Ent)∈zCI ps:=((zMU ps.length ps rfl).2 _).2 ⟨List.mem_map.2 ⟨p,hp,rfl⟩,rfl⟩
    rw [h2] at h3
    cases h3
   have hlen:(seen.map (yGU ps)).length≤1000000:=by rw [List.length_map];omega
   have hsrt:=yWM (zMU ps.length ps rfl).1 hperm hlen
   intro b2
   refine yWD (b:=b2) (k0:=3) (e:=zAF) (k:=3) rfl rfl (yWQ hne) (by decide) (by repeat' constructor) hsrt ?_
   try simp (maxSteps:=2000000) only [go_sem,yKu]
   repeat with_reducible refine zAt ?_
   exact zAL (by simp) ⟨zA5 rfl trivial (.inl rfl),zA5 rfl trivial (.inl rfl),rfl⟩
  ·rw [ySY ps hq,yWP ps hq]
   refine goW ?_
   refine zE5 (by rfl) trivial ?_
   refine goW ?_
   refine yYD (b:=b) (ks:=(gK ps).map zME) (vs:=(gK ps).map fun k=>.p (fr (.sl 1 (zAM (zAK ps k))))) (ys:=ysF ps) (i:=q) (seen:=seen) rfl rfl (yFa ps _) (List.length_map _).symm ?_
   rw [ySY ps hq,yWP ps hq]
   try simp (maxSteps:=2000000) only [go_sem,yE5,List.length_map]
   repeat with_reducible refine zAt ?_
   have hn3:(seen++[q]).Nodup:=List.nodup_append.2 ⟨hn1,by simp,fun a ha b hb e=>by rw [List.mem_singleton.1 hb] at e;exact hqn (e▸ha)⟩
   have hn4:∀ r∈seen++[q],r < (gK ps).length:=fun r hr=>by
    rcases List.mem_append.1 hr with hr|hr
    ·exact hn2 r hr
    ·rw [List.mem_singleton.1 hr];exact hq
   have hn5:=zUr _ _ hn3 hn4
   rw [List.length_append,List.length_singleton] at hn5
   refine ⟨seen++[q],by rw [List.length_append,List.length_singleton];omega,⟨hn3,hn4⟩,?_⟩
   rw [List.map_append,List.map_cons,List.map_nil,yRM]
   exact leA
theorem yFb (d:List Nd):Contract Tryz.prog zDK [.val (zB6 d)] {res:=.tup [.one (.sl 3 (zEf (if zAl d=0 then zBF d else []))),iv (zAl d)]}:=by
 refine (zNP d).dnt ⟨?_,DnV.refl _,trivial⟩
 by_cases h:zAl d=0
 ·rw [if_pos h,if_pos h];exact Dn.fsl (yKq _)
 ·rw [if_neg h,if_neg h];exact Dn.refl _
end Go.Hx
end

section
set_option maxRecDepth 100000
set_option maxHeartbeats 4000000
namespace Go.Hx
open Go.Proofs
variable [Glob] [GlobL]
attribute [local go_sem] zAh zAj zAg zAd ndV zAm zAn zCq zAD
def zEw (d:List Nd) (ix:List Ent):PVal:=.agg [.sl 5 (zDW d),.sl 3 (zEf ix)]
def zD0 (d:List Nd) (ix:List Ent):Int:=if zAl d≠0 then zAl d else if zBF d==ix then 0 else 1
theorem yH4 (d:List Nd) (ix:List Ent):Contract Tryz.prog zI3 [.val (zEw d ix)] {res:=.val (iv (zD0 d ix))}:=by
 have hB:=yFb d
 have hE:=yKm (zBF d) ix
 unfold zD0 zEw
 obtain ⟨e,he⟩:∃ e,e=zAl d:=⟨_,rfl⟩
 rw [←he] at hB ⊢
 unfold zB6 at hB
 refine mkA yE2 (base:=0) (fo rfl) (fun hfit=>?_)
 unfold F0 zQD
 refine goU ?_
 refine zA8 (by repeat' constructor) (hB) ?_
 refine goW ?_
 refine zAa (by rfl) trivial (fun h0=>?_) (fun h0=>?_)
 ·have h1:e≠0:=by simpa using h0
  rw [if_pos h1]
  refine goW ?_
  exact zAb rfl trivial (.inl rfl)
 have h1:e=0:=by simpa using h0
 subst h1
 rw [if_neg (by decide)]
 refine goW ?_
 refine zAe (by repeat' constructor) (hE) ?_
 refine goW ?_
 refine zAa (by rfl) trivial (fun h2=>?_) (fun h2=>?_)
 ·have h3:(zBF d==ix)=false:=by simpa using h2
  rw [h3]
  refine goW ?_
  exact zAb rfl trivial (.inl rfl)
 ·have h3:(zBF d==ix)=true:=by simpa using h2
  rw [h3]
  refine goW ?_
  exact zAb rfl trivial (.inl rfl)
end Go.Hx
end
