/-
  Walks of functions of the program: each contract says what the function computes, for every input that its conditions let by. No other condition.
-/
import Derived.Test.YtjnagiaooecklaaGreatDoorG10
import Derived.Test.YtjnagiaooecklaaGreatDoorG16
import Derived.Test.YtjnagiaooecklaaGreatDoorG19
set_option linter.all false
set_option maxRecDepth 100000
set_option linter.unusedSimpArgs false
set_option maxHeartbeats 4000000
namespace Go.Hx
open Go.Proofs
variable [Glob] [GlobL]
attribute [local go_sem] zAk zAi zAj zAe ndV zAg zAf zB5
attribute [local go_sem] reduceCtorEq Nat.reduceAdd Nat.reduceEqDiff reduceIte Nat.reduceLeDiff Nat.reduceLT Nat.reduceSub
def mpF (b:Nat) (ps:List (Key×Int)):OV:=.mp b ((gK ps).map zLB) ((gK ps).map fun k=>.p (.sl 1 (zAH (zAx ps k))))
def ysF (ps:List (Key×Int)):List PV:=(gK ps).map fun k=>.sl 1 (zAH (zAx ps k))
theorem yIZ (e:Nat) (l:List Int):(zKm e l).frz=some (.sl 1 (zAH l)):=by
 have:(l.map fun n=>[OV.p (bI n)])=(zAH l).map fun r=>r.map OV.p:=by simp [zAH]
 unfold zKm
 rw [this]
 exact zUw (zGf _)
theorem yAg (e:Nat) (ps:List (Key×Int)):∀ (l:List Key),zUm (l.map fun k=>zKm e (zAx ps k))=some (l.map fun k=>.sl 1 (zAH (zAx ps k)))
 |[]=>rfl
 |k::l=>by simp only [List.map_cons,zUm,yIZ,yAg e ps l]
theorem zXP (ps:List (Key×Int)):∀ (l:List Key),zFk (l.map fun k=>OV.p (.sl 1 (zAH (zAx ps k))))=some (l.map fun k=>.sl 1 (zAH (zAx ps k)))
 |[]=>rfl
 |k::l=>by simp only [List.map_cons,zFk,zXP ps l]
theorem yO2 {F:List Ct} {K:List Ct→Prop} {r b e:Nat} {ps:List (Key×Int)} {l:List Gh} (h1:F.getD r .un=.ov (.one (mpO b e ps))) (h:ghW (F.set r (.ov (.one (mpF b ps)))) K l):ghW F K (.vfm r::l):=by
 rw [yOM,h1]
 simp only [mpO,yAg]
 rw [List.map_map]
 exact h
theorem yJK (ps:List (Key×Int)) {i:Nat} (h:i < (gK ps).length):yEp (((gK ps).map zLB).getD i .nilIface)=.agg [bI (zYC ps i).kind,bS (zYC ps i).name]:=by
 have:((gK ps).map zLB).getD i .nilIface=zLB ((gK ps).getD i default):=by
  rw [List.getD_eq_getElem?_getD,List.getElem?_map,zYD ps h,List.getElem?_eq_getElem h];rfl
 rw [this];rfl
theorem yNA (ps:List (Key×Int)) {i:Nat} (h:i < (gK ps).length):(ysF ps).getD i (.nl 0)=.sl 1 (zAH (zYC ps i).nodes):=by
 unfold ysF
 rw [List.getD_eq_getElem?_getD,List.getElem?_map,List.getElem?_eq_getElem h]
 show PV.sl 1 (zAH (zAx ps (gK ps)[i]))=PV.sl 1 (zAH (zAx ps ((gK ps).getD i default)))
 rw [zYD ps h]
theorem yLm {b:Option Nat} {e:Nat} {l:List Ent}:(OV.os b e 3 (ovE l)).frz=some (.sl 3 (zCK l)):=zUw (zGf _)
theorem yI0 (l:List Ent) (e:Ent):ovE (l++[e])=ovE l++[[.p (bI e.kind),.p (bS e.name),.p (.sl 1 (zAH e.nodes))]]:=by simp [ovE,zCK,yFk]
theorem yNB {l:List Ent} (h:l≠[]):ovE l≠[]:=by
 cases l with
 |nil=>exact absurd rfl h
 |cons e r=>simp [ovE,zCK]
theorem zMN (d:List Nd):Contract Tryz.prog zDZ [.val (zCv d)] {res:=.tup [.one (.sl 3 (zCK (if zAd d=0 then idxOf d else []))),iv (zAd d)]}:=by
 have hC:=zDV d
 obtain ⟨e,he⟩:∃ e,e=zAd d:=⟨_,rfl⟩
 rw [←he] at hC ⊢
 unfold zCv at hC ⊢
 refine mkA zTV (base:=0) (fo rfl) (fun hfit=>?_)
 unfold F0 zMG
 refine goU ?_
 refine zAo (by repeat' constructor) (hC) ?_
 refine goW ?_
 refine zAa (by rfl) trivial (fun h0=>?_) (fun h0=>?_)
 ·have h1:e≠0:=by simpa using h0
  rw [if_neg h1]
  refine goW ?_
  exact zAA (by simp) ⟨zAv rfl trivial (.inr rfl),zAv rfl trivial (.inl rfl),rfl⟩
 have h1:e=0:=by simpa using h0
 subst h1
 rw [if_pos rfl]
 obtain ⟨d1,d2,d3⟩:=zBr he.symm
 have hcls:∀ i,i < d.length→(d.getD i default).cls.length≤64:=fun i hi=>Nat.le_trans (zD9 (zJD d3 hi)).1 (by decide)
 refine goW ?_
 rw [yOF]
 intro b
 refine goW ?_
 refine zAn (fun i:Nat=>[(22,.pv (iv i)),(18,.ov (.one (mpO b zAs (zAY d i)))),(6,.un),(7,.un),(9,.un),(23,.un),(41,.un),(55,.un),(56,.un),(57,.un),(58,.un),(92,.un),(93,.un),(94,.un),(95,.un),(96,.un)]) (fun i:Nat=>d.length-i) (fun i:Nat=>i≤d.length) (0) ?_ (Nat.zero_le _) ?_
 focus (exact leA)
 intro i hi
 refine goW ?_
 refine zAa (by rfl) trivial (fun g1=>?_) (fun g1=>?_)
 ·have hil:i < d.length:=by simpa using g1
  have hx:=zBo d i hil
  have hpl:=zEQ d i fun j hj=>hcls j (by omega)
  have hsu:=zOi d i
  have hc:=hcls i hil
  obtain ⟨x,hxe⟩:∃ x,x=d.getD i default:=⟨_,rfl⟩
  rw [←hxe] at hx hsu hc
  unfold ndV at hx
  obtain ⟨p0,hp0⟩:∃ p,p=zAY d i:=⟨_,rfl⟩
  rw [←hp0] at hpl hsu ⊢
  try simp (maxSteps:=2000000) only [go_sem,hx]
  repeat with_reducible refine zAP ?_
  refine yK0 (b:=b) (e:=zAs) (ps:=p0) (key:=(1,x.tag)) rfl rfl (by simp) rfl rfl trivial (by decide) (fun K1 V1 hK hp=>?_)
  have hn:=zEP p0 (1,x.tag)
  try simp (maxSteps:=2000000) only [go_sem,zKm,List.length_map]
  repeat with_reducible refine zAP ?_
  refine yK1 (b:=b) (e:=zAs) (ps:=p0) (key:=(1,x.tag)) (v:=i) rfl rfl rfl rfl trivial hK hp rfl (zQv _ _ _).symm (by decide) ?_
  refine goW ?_
  obtain ⟨p1,hp1⟩:∃ p,p=p0++[((1,x.tag),(i:Int))]:=⟨_,rfl⟩
  have hp1l:p1.length≤i * 66+1:=by rw [hp1];simp;omega
  rw [←hp1] at hsu ⊢
  refine zAa (by rfl) trivial (fun g2=>?_) (fun g2=>?_)
  have hid:x.id≠[]:=by simpa using g2
  rw [if_neg hid] at hsu
  refine goW ?_
  refine yK0 (b:=b) (e:=zAs) (ps:=p1) (key:=(2,x.id)) rfl rfl (by simp) rfl rfl trivial (by decide) (fun K1 V1 hK hp=>?_)
  have hn:=zEP p1 (2,x.id)
  try simp (maxSteps:=2000000) only [go_sem,zKm,List.length_map]
  repeat with_reducible refine zAP ?_
  refine yK1 (b:=b) (e:=zAs) (ps:=p1) (key:=(2,x.id)) (v:=i) rfl rfl rfl rfl trivial hK hp rfl (zQv _ _ _).symm (by decide) ?_
  refine goW ?_
  obtain ⟨p2,hp2⟩:∃ p,p=p1++[((2,x.id),(i:Int))]:=⟨_,rfl⟩
  have hp2l:p2.length≤i * 66+2:=by rw [hp2];simp;omega
  rw [←hp2] at hsu ⊢
  rotate_left
  have hid:x.id=[]:=by simpa using g2
  rw [if_pos hid,List.append_nil] at hsu
  refine goW ?_
  obtain ⟨p2,hp2⟩:∃ p,p=p1:=⟨_,rfl⟩
  have hp2l:p2.length≤i * 66+2:=by rw [hp2];omega
  rw [←hp2] at hsu ⊢
  all_goals
   refine zAn (fun j:Nat=>[(57,.pv (iv j)),(18,.ov (.one (mpO b zAs (p2++(x.cls.take j).map fun c=>((3,c),(i:Int)))))),(9,.un),(58,.un)]) (fun j:Nat=>x.cls.length-j) (fun j:Nat=>j≤x.cls.length) (0) ?_ (Nat.zero_le _) ?_
   focus (simp (maxSteps:=2000000) only [go_sem,zAS,zBu,zCR,zAT];all_goals (repeat' (first|exact trivial|exact zBa (by omega)|exact zAX rfl|exact zBb rfl|exact zBB|exact le_refl _|refine And.intro ?_ ?_)))
   ·exact zBb (by rw [List.append_nil])
   intro j hj
   refine goW ?_
   refine zAa (by rfl) trivial (fun g3=>?_) (fun g3=>?_)
   ·have hjl:j < x.cls.length:=by simpa using g3
    have hcj:=zPx x.cls j hjl
    obtain ⟨p3,hp3⟩:∃ p,p=p2++(x.cls.take j).map (fun c=>(((3,c):Key),(i:Int))):=⟨_,rfl⟩
    have hp3l:p3.length≤i * 66+66:=by rw [hp3];simp;omega
    have hstep:p2++(x.cls.take (j+1)).map (fun c=>(((3,c):Key),(i:Int)))=p3++[((3,x.cls.getD j []),(i:Int))]:=by
     rw [hp3,List.take_succ_eq_append_getElem hjl,List.map_append,←List.append_assoc]
     simp [hjl]
    rw [←hp3]
    try simp (maxSteps:=2000000) only [go_sem,hcj]
    repeat with_reducible refine zAP ?_
    refine yK0 (b:=b) (e:=zAs) (ps:=p3) (key:=(3,x.cls.getD j [])) rfl rfl (by simp) rfl rfl trivial (by decide) (fun K1 V1 hK hp=>?_)
    have hn:=zEP p3 (3,x.cls.getD j [])
    try simp (maxSteps:=2000000) only [go_sem,zKm,List.length_map]
    repeat with_reducible refine zAP ?_
    refine yK1 (b:=b) (e:=zAs) (ps:=p3) (key:=(3,x.cls.getD j [])) (v:=i) rfl rfl rfl rfl trivial hK hp rfl (zQv _ _ _).symm (by decide) ?_
    refine goW ?_
    refine ⟨j+1,by omega,by omega,?_⟩
    rw [hstep]
    exact leA
   ·have hjl:j=x.cls.length:=by simp at g3;omega
    rw [hjl,List.take_length,←hsu]
    refine goW ?_
    refine ⟨i+1,by omega,by omega,?_⟩
    exact leA
 ·have hil:i=d.length:=by simp at g1;omega
  rw [hil]
  have hpl:=zEQ d d.length hcls
  have hid:idxOf d=zBM (zAY d d.length):=rfl
  rw [hid]
  obtain ⟨ps,hps⟩:∃ p,p=zAY d d.length:=⟨_,rfl⟩
  rw [←hps] at hpl ⊢
  have hN:=yNm ps
  refine goW ?_
  refine yO2 (e:=zAs) (ps:=ps) rfl ?_
  refine goW ?_
  refine yON (b:=b) (ks:=(gK ps).map zLB) (vs:=(gK ps).map fun k=>.p (.sl 1 (zAH (zAx ps k)))) rfl rfl ?_
  rw [List.length_map]
  refine goW ?_
  refine zAn (fun seen:List Nat=>[(74,.ov (.one (.it b (gK ps).length seen))),(10,.ov (.one (.os none zAw 3 (ovE (seen.map (zYC ps)))))),(11,.un),(12,.un),(76,.un),(97,.un),(98,.un)]) (fun seen:List Nat=>(gK ps).length-seen.length) (fun seen:List Nat=>seen.Nodup∧∀ q∈seen,q < (gK ps).length) ([]) ?_ ⟨List.nodup_nil,by simp⟩ ?_
  focus (exact leA)
  rintro seen ⟨hn1,hn2⟩
  have hsl:=zQw _ seen hn1 hn2
  refine goW ?_
  refine yOO (b:=b) (ks:=(gK ps).map zLB) (vs:=(gK ps).map fun k=>.p (.sl 1 (zAH (zAx ps k)))) (ys:=ysF ps) rfl rfl (zXP ps _) (List.length_map _).symm (by decide) (by decide) (fun hall=>?_) (fun q hq hqn=>?_)
  ·refine goW ?_
   refine zHm (by rfl) trivial ?_
   refine goW ?_
   have hperm:=yIv hn1 hn2 hall
   have hne:seen.map (zYC ps)≠[]:=by
    intro hc
    rw [hc] at hperm
    have h2:zBM ps=[]:=hperm.symm.eq_nil
    obtain ⟨n,hn⟩:∃ n,d.length=n+1:=⟨d.length-1,by omega⟩
    rw [hn,zOi] at hps
    obtain ⟨p,hp⟩:∃ p,p∈ps:=⟨((1,(d.getD n default).tag),(n:Int)),by rw [hps];simp⟩
    have h3:(⟨p.1.1,p.1.2,zAx ps p.1⟩:Ent)∈zBM ps:=((zG5 ps.length ps rfl).2 _).2 ⟨List.mem_map.2 ⟨p,hp,rfl⟩,rfl⟩
    rw [h2] at h3
    cases h3
   have hlen:(seen.map (zYC ps)).length≤1000000:=by rw [List.length_map];omega
   have hsrt:=yNx (zG5 ps.length ps rfl).1 hperm hlen
   intro b2
   refine yNl (b:=b2) (k0:=3) (e:=zAw) (k:=3) rfl rfl (yNB hne) (by decide) (by repeat' constructor) hsrt ?_
   try simp (maxSteps:=2000000) only [go_sem,yLm]
   repeat with_reducible refine zAP ?_
   exact zAA (by simp) ⟨zAv rfl trivial (.inl rfl),zAv rfl trivial (.inl rfl),rfl⟩
  ·rw [yJK ps hq,yNA ps hq]
   refine goW ?_
   refine zKk (by rfl) trivial ?_
   refine goW ?_
   refine yOP (b:=b) (ks:=(gK ps).map zLB) (vs:=(gK ps).map fun k=>.p (.sl 1 (zAH (zAx ps k)))) (ys:=ysF ps) (i:=q) (seen:=seen) rfl rfl (zXP ps _) (List.length_map _).symm ?_
   rw [yJK ps hq,yNA ps hq]
   try simp (maxSteps:=2000000) only [go_sem,zXK,List.length_map]
   repeat with_reducible refine zAP ?_
   have hn3:(seen++[q]).Nodup:=List.nodup_append.2 ⟨hn1,by simp,fun a ha b hb e=>by rw [List.mem_singleton.1 hb] at e;exact hqn (e▸ha)⟩
   have hn4:∀ r∈seen++[q],r < (gK ps).length:=fun r hr=>by
    rcases List.mem_append.1 hr with hr|hr
    ·exact hn2 r hr
    ·rw [List.mem_singleton.1 hr];exact hq
   have hn5:=zQw _ _ hn3 hn4
   rw [List.length_append,List.length_singleton] at hn5
   refine ⟨seen++[q],by rw [List.length_append,List.length_singleton];omega,⟨hn3,hn4⟩,?_⟩
   rw [List.map_append,List.map_cons,List.map_nil,yI0]
   exact leA
end Go.Hx
