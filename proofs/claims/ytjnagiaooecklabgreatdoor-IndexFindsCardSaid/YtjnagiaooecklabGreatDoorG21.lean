/-
  Walks of functions of the program: each contract says what the function computes, for every input that its conditions let by. No other condition.
-/
import Derived.Test.YtjnagiaooecklabGreatDoorG10
import Derived.Test.YtjnagiaooecklabGreatDoorG17
import Derived.Test.YtjnagiaooecklabGreatDoorG20
set_option linter.all false
set_option maxRecDepth 100000
set_option linter.unusedSimpArgs false
set_option maxHeartbeats 4000000
namespace Go.Hx
open Go.Proofs
variable [Glob] [GlobL]
attribute [local go_sem] zAk zAl zAj zAf ndV zAm zAh zCw
attribute [local go_sem] reduceCtorEq Nat.reduceAdd Nat.reduceEqDiff reduceIte Nat.reduceLeDiff Nat.reduceLT Nat.reduceSub
def mpF (b:Nat) (ps:List (Key×Int)):OV:=.mp b ((gK ps).map zLN) ((gK ps).map fun k=>.p (.sl 1 (zAy (zAv ps k))))
def ysF (ps:List (Key×Int)):List PV:=(gK ps).map fun k=>.sl 1 (zAy (zAv ps k))
theorem yLC (e:Nat) (l:List Int):(zKc e l).frz=some (.sl 1 (zAy l)):=by
 have:(l.map fun n=>[OV.p (bI n)])=(zAy l).map fun r=>r.map OV.p:=by simp [zAy]
 unfold zKc
 rw [this]
 exact yBE (zIa _)
theorem yDo (e:Nat) (ps:List (Key×Int)):∀ (l:List Key),zXg (l.map fun k=>zKc e (zAv ps k))=some (l.map fun k=>.sl 1 (zAy (zAv ps k)))
 |[]=>rfl
 |k::l=>by simp only [List.map_cons,zXg,yLC,yDo e ps l]
theorem yAZ (ps:List (Key×Int)):∀ (l:List Key),zHv (l.map fun k=>OV.p (.sl 1 (zAy (zAv ps k))))=some (l.map fun k=>.sl 1 (zAy (zAv ps k)))
 |[]=>rfl
 |k::l=>by simp only [List.map_cons,zHv,yAZ ps l]
theorem yRf {F:List Ct} {K:List Ct→Prop} {r b e:Nat} {ps:List (Key×Int)} {l:List Gh} (h1:F.getD r .un=.ov (.one (mpO b e ps))) (h:ghW (F.set r (.ov (.one (mpF b ps)))) K l):ghW F K (.vfm r::l):=by
 rw [yQ2,h1]
 simp only [mpO,yDo]
 rw [List.map_map]
 exact h
theorem yMg (ps:List (Key×Int)) {i:Nat} (h:i < (gK ps).length):yHj (((gK ps).map zLN).getD i .nilIface)=.agg [bI (yBI ps i).kind,bS (yBI ps i).name]:=by
 have:((gK ps).map zLN).getD i .nilIface=zLN ((gK ps).getD i default):=by
  rw [List.getD_eq_getElem?_getD,List.getElem?_map,yBJ ps h,List.getElem?_eq_getElem h];rfl
 rw [this];rfl
theorem yPU (ps:List (Key×Int)) {i:Nat} (h:i < (gK ps).length):(ysF ps).getD i (.nl 0)=.sl 1 (zAy (yBI ps i).nodes):=by
 unfold ysF
 rw [List.getD_eq_getElem?_getD,List.getElem?_map,List.getElem?_eq_getElem h]
 show PV.sl 1 (zAy (zAv ps (gK ps)[i]))=PV.sl 1 (zAy (zAv ps ((gK ps).getD i default)))
 rw [yBJ ps h]
theorem yNM {b:Option Nat} {e:Nat} {l:List Ent}:(OV.os b e 3 (ovE l)).frz=some (.sl 3 (zCv l)):=yBE (zIa _)
theorem yLD (l:List Ent) (e:Ent):ovE (l++[e])=ovE l++[[.p (bI e.kind),.p (bS e.name),.p (.sl 1 (zAy e.nodes))]]:=by simp [ovE,zCv,entV]
theorem yPV {l:List Ent} (h:l≠[]):ovE l≠[]:=by
 cases l with
 |nil=>exact absurd rfl h
 |cons e r=>simp [ovE,zCv]
theorem zHs (d:List Nd):Contract Tryz.prog zCR [.val (zC9 d)] {res:=.tup [.one (.sl 3 (zCv (if zAq d=0 then idxOf d else []))),iv (zAq d)]}:=by
 have hC:=zTI d
 obtain ⟨e,he⟩:∃ e,e=zAq d:=⟨_,rfl⟩
 rw [←he] at hC ⊢
 unfold zC9 at hC ⊢
 refine mkA zWV (base:=0) (fo rfl) (fun hfit=>?_)
 unfold F0 zNm
 refine goU ?_
 refine zAc (by repeat' constructor) (hC) ?_
 refine goW ?_
 refine zAa (by rfl) trivial (fun h0=>?_) (fun h0=>?_)
 ·have h1:e≠0:=by simpa using h0
  rw [if_neg h1]
  refine goW ?_
  exact zBd (by simp) ⟨zAH rfl trivial (.inr rfl),zAH rfl trivial (.inl rfl),rfl⟩
 have h1:e=0:=by simpa using h0
 subst h1
 rw [if_pos rfl]
 obtain ⟨d1,d2,d3⟩:=zFo he.symm
 have hcls:∀ i,i < d.length→(d.getD i default).cls.length≤64:=fun i hi=>Nat.le_trans (zEb (zG6 d3 hi)).1 (by decide)
 refine goW ?_
 rw [yQU]
 intro b
 refine goW ?_
 refine zAd (fun i:Nat=>[(22,.pv (iv i)),(18,.ov (.one (mpO b zAr (zAS d i)))),(6,.un),(7,.un),(9,.un),(23,.un),(41,.un),(55,.un),(56,.un),(57,.un),(58,.un),(92,.un),(93,.un),(94,.un),(95,.un),(96,.un)]) (fun i:Nat=>d.length-i) (fun i:Nat=>i≤d.length) (0) ?_ (Nat.zero_le _) ?_
 focus (exact leA)
 intro i hi
 refine goW ?_
 refine zAa (by rfl) trivial (fun g1=>?_) (fun g1=>?_)
 ·have hil:i < d.length:=by simpa using g1
  have hx:=zAW d i hil
  have hpl:=zE2 d i fun j hj=>hcls j (by omega)
  have hsu:=zO3 d i
  have hc:=hcls i hil
  obtain ⟨x,hxe⟩:∃ x,x=d.getD i default:=⟨_,rfl⟩
  rw [←hxe] at hx hsu hc
  unfold ndV at hx
  obtain ⟨p0,hp0⟩:∃ p,p=zAS d i:=⟨_,rfl⟩
  rw [←hp0] at hpl hsu ⊢
  try simp (maxSteps:=2000000) only [go_sem,hx]
  repeat with_reducible refine zAt ?_
  refine yNt (b:=b) (e:=zAr) (ps:=p0) (key:=(1,x.tag)) rfl rfl (by simp) rfl rfl trivial (by decide) (fun K1 V1 hK hp=>?_)
  have hn:=zDT p0 (1,x.tag)
  try simp (maxSteps:=2000000) only [go_sem,zKc,List.length_map]
  repeat with_reducible refine zAt ?_
  refine yNu (b:=b) (e:=zAr) (ps:=p0) (key:=(1,x.tag)) (v:=i) rfl rfl rfl rfl trivial hK hp rfl (zRx _ _ _).symm (by decide) ?_
  refine goW ?_
  obtain ⟨p1,hp1⟩:∃ p,p=p0++[((1,x.tag),(i:Int))]:=⟨_,rfl⟩
  have hp1l:p1.length≤i * 66+1:=by rw [hp1];simp;omega
  rw [←hp1] at hsu ⊢
  refine zAa (by rfl) trivial (fun g2=>?_) (fun g2=>?_)
  have hid:x.id≠[]:=by simpa using g2
  rw [if_neg hid] at hsu
  refine goW ?_
  refine yNt (b:=b) (e:=zAr) (ps:=p1) (key:=(2,x.id)) rfl rfl (by simp) rfl rfl trivial (by decide) (fun K1 V1 hK hp=>?_)
  have hn:=zDT p1 (2,x.id)
  try simp (maxSteps:=2000000) only [go_sem,zKc,List.length_map]
  repeat with_reducible refine zAt ?_
  refine yNu (b:=b) (e:=zAr) (ps:=p1) (key:=(2,x.id)) (v:=i) rfl rfl rfl rfl trivial hK hp rfl (zRx _ _ _).symm (by decide) ?_
  refine goW ?_
  obtain ⟨p2,hp2⟩:∃ p,p=p1++[((2,x.id),(i:Int))]:=⟨_,rfl⟩
  have hp2l:p2.length≤i * 66+2:=by rw [hp2];simp;omega
  rw [←hp2] at hsu ⊢
  rotate_left
  have hid:x.id=[]:=by simpa using g2
  rw [if_pos hid,List.append_nil] at hsu
  refine goW ?_
  obtain ⟨p2,hp2⟩:∃ p,p=p1:=⟨_,rfl⟩
  have hp2l:p2.length≤i * 66+2:=by rw [hp2];omega
  rw [←hp2] at hsu ⊢
  all_goals
   refine zAd (fun j:Nat=>[(57,.pv (iv j)),(18,.ov (.one (mpO b zAr (p2++(x.cls.take j).map fun c=>((3,c),(i:Int)))))),(9,.un),(58,.un)]) (fun j:Nat=>x.cls.length-j) (fun j:Nat=>j≤x.cls.length) (0) ?_ (Nat.zero_le _) ?_
   focus (simp (maxSteps:=2000000) only [go_sem,zAC,zA1,zB5,zAD];all_goals (repeat' (first|exact trivial|exact zA2 (by omega)|exact zA4 rfl|exact zBm rfl|exact zBK|exact le_refl _|refine And.intro ?_ ?_)))
   ·exact zBm (by rw [List.append_nil])
   intro j hj
   refine goW ?_
   refine zAa (by rfl) trivial (fun g3=>?_) (fun g3=>?_)
   ·have hjl:j < x.cls.length:=by simpa using g3
    have hcj:=zFE x.cls j hjl
    obtain ⟨p3,hp3⟩:∃ p,p=p2++(x.cls.take j).map (fun c=>(((3,c):Key),(i:Int))):=⟨_,rfl⟩
    have hp3l:p3.length≤i * 66+66:=by rw [hp3];simp;omega
    have hstep:p2++(x.cls.take (j+1)).map (fun c=>(((3,c):Key),(i:Int)))=p3++[((3,x.cls.getD j []),(i:Int))]:=by
     rw [hp3,List.take_succ_eq_append_getElem hjl,List.map_append,←List.append_assoc]
     simp [hjl]
    rw [←hp3]
    try simp (maxSteps:=2000000) only [go_sem,hcj]
    repeat with_reducible refine zAt ?_
    refine yNt (b:=b) (e:=zAr) (ps:=p3) (key:=(3,x.cls.getD j [])) rfl rfl (by simp) rfl rfl trivial (by decide) (fun K1 V1 hK hp=>?_)
    have hn:=zDT p3 (3,x.cls.getD j [])
    try simp (maxSteps:=2000000) only [go_sem,zKc,List.length_map]
    repeat with_reducible refine zAt ?_
    refine yNu (b:=b) (e:=zAr) (ps:=p3) (key:=(3,x.cls.getD j [])) (v:=i) rfl rfl rfl rfl trivial hK hp rfl (zRx _ _ _).symm (by decide) ?_
    refine goW ?_
    refine ⟨j+1,by omega,by omega,?_⟩
    rw [hstep]
    exact leA
   ·have hjl:j=x.cls.length:=by simp at g3;omega
    rw [hjl,List.take_length,←hsu]
    refine goW ?_
    refine ⟨i+1,by omega,by omega,?_⟩
    exact leA
 ·have hil:i=d.length:=by simp at g1;omega
  rw [hil]
  have hpl:=zE2 d d.length hcls
  have hid:idxOf d=zBL (zAS d d.length):=rfl
  rw [hid]
  obtain ⟨ps,hps⟩:∃ p,p=zAS d d.length:=⟨_,rfl⟩
  rw [←hps] at hpl ⊢
  have hN:=yPI ps
  refine goW ?_
  refine yRf (e:=zAr) (ps:=ps) rfl ?_
  refine goW ?_
  refine yQ3 (b:=b) (ks:=(gK ps).map zLN) (vs:=(gK ps).map fun k=>.p (.sl 1 (zAy (zAv ps k)))) rfl rfl ?_
  rw [List.length_map]
  refine goW ?_
  refine zAd (fun seen:List Nat=>[(74,.ov (.one (.it b (gK ps).length seen))),(10,.ov (.one (.os none zAu 3 (ovE (seen.map (yBI ps)))))),(11,.un),(12,.un),(76,.un),(97,.un),(98,.un)]) (fun seen:List Nat=>(gK ps).length-seen.length) (fun seen:List Nat=>seen.Nodup∧∀ q∈seen,q < (gK ps).length) ([]) ?_ ⟨List.nodup_nil,by simp⟩ ?_
  focus (exact leA)
  rintro seen ⟨hn1,hn2⟩
  have hsl:=zRy _ seen hn1 hn2
  refine goW ?_
  refine yQ4 (b:=b) (ks:=(gK ps).map zLN) (vs:=(gK ps).map fun k=>.p (.sl 1 (zAy (zAv ps k)))) (ys:=ysF ps) rfl rfl (yAZ ps _) (List.length_map _).symm (by decide) (by decide) (fun hall=>?_) (fun q hq hqn=>?_)
  ·refine goW ?_
   refine zH9 (by rfl) trivial ?_
   refine goW ?_
   have hperm:=yLb hn1 hn2 hall
   have hne:seen.map (yBI ps)≠[]:=by
    intro hc
    rw [hc] at hperm
    have h2:zBL ps=[]:=hperm.symm.eq_nil
    obtain ⟨n,hn⟩:∃ n,d.length=n+1:=⟨d.length-1,by omega⟩
    rw [hn,zO3] at hps
    obtain ⟨p,hp⟩:∃ p,p∈ps:=⟨((1,(d.getD n default).tag),(n:Int)),by rw [hps];simp⟩
    have h3:(⟨p.1.1,p.1.2,zAv ps p.1⟩:Ent)∈zBL ps:=((zFF ps.length ps rfl).2 _).2 ⟨List.mem_map.2 ⟨p,hp,rfl⟩,rfl⟩
    rw [h2] at h3
    cases h3
   have hlen:(seen.map (yBI ps)).length≤1000000:=by rw [List.length_map];omega
   have hsrt:=yPR (zFF ps.length ps rfl).1 hperm hlen
   intro b2
   refine yPG (b:=b2) (k0:=3) (e:=zAu) (k:=3) rfl rfl (yPV hne) (by decide) (by repeat' constructor) hsrt ?_
   try simp (maxSteps:=2000000) only [go_sem,yNM]
   repeat with_reducible refine zAt ?_
   exact zBd (by simp) ⟨zAH rfl trivial (.inl rfl),zAH rfl trivial (.inl rfl),rfl⟩
  ·rw [yMg ps hq,yPU ps hq]
   refine goW ?_
   refine zL0 (by rfl) trivial ?_
   refine goW ?_
   refine yQ5 (b:=b) (ks:=(gK ps).map zLN) (vs:=(gK ps).map fun k=>.p (.sl 1 (zAy (zAv ps k)))) (ys:=ysF ps) (i:=q) (seen:=seen) rfl rfl (yAZ ps _) (List.length_map _).symm ?_
   rw [yMg ps hq,yPU ps hq]
   try simp (maxSteps:=2000000) only [go_sem,yAS,List.length_map]
   repeat with_reducible refine zAt ?_
   have hn3:(seen++[q]).Nodup:=List.nodup_append.2 ⟨hn1,by simp,fun a ha b hb e=>by rw [List.mem_singleton.1 hb] at e;exact hqn (e▸ha)⟩
   have hn4:∀ r∈seen++[q],r < (gK ps).length:=fun r hr=>by
    rcases List.mem_append.1 hr with hr|hr
    ·exact hn2 r hr
    ·rw [List.mem_singleton.1 hr];exact hq
   have hn5:=zRy _ _ hn3 hn4
   rw [List.length_append,List.length_singleton] at hn5
   refine ⟨seen++[q],by rw [List.length_append,List.length_singleton];omega,⟨hn3,hn4⟩,?_⟩
   rw [List.map_append,List.map_cons,List.map_nil,yLD]
   exact leA
end Go.Hx
