/-
  Walks of functions of the program: each contract says what the function computes, for every input that its conditions let by. No other condition.
-/
import Derived.Test.YtjnagiaooecklabGreatDoorG10
import Derived.Test.YtjnagiaooecklabGreatDoorG16
import Derived.Test.YtjnagiaooecklabGreatDoorG19
set_option linter.all false
set_option maxRecDepth 100000
set_option linter.unusedSimpArgs false
set_option maxHeartbeats 4000000
namespace Go.Hx
open Go.Proofs
variable [Glob] [GlobL]
attribute [local go_sem] zAh zAm zAk zAg ndV zAr zAp zB6
attribute [local go_sem] reduceCtorEq Nat.reduceAdd Nat.reduceEqDiff reduceIte Nat.reduceLeDiff Nat.reduceLT Nat.reduceSub
def mpF (b:Nat) (ps:List (Key×Int)):OV:=.mp b ((gK ps).map zJb) ((gK ps).map fun k=>.p (.sl 1 (zBi (zAK ps k))))
def ysF (ps:List (Key×Int)):List PV:=(gK ps).map fun k=>.sl 1 (zBi (zAK ps k))
theorem yD8 (e:Nat) (l:List Int):(zH7 e l).frz=some (.sl 1 (zBi l)):=by
 have:(l.map fun n=>[OV.p (bI n)])=(zBi l).map fun r=>r.map OV.p:=by simp [zBi]
 unfold zH7
 rw [this]
 exact zVY (zGF _)
theorem zW4 (e:Nat) (ps:List (Key×Int)):∀ (l:List Key),zK5 (l.map fun k=>zH7 e (zAK ps k))=some (l.map fun k=>.sl 1 (zBi (zAK ps k)))
 |[]=>rfl
 |k::l=>by simp only [List.map_cons,zK5,yD8,zW4 e ps l]
theorem zVa (ps:List (Key×Int)):∀ (l:List Key),zEG (l.map fun k=>OV.p (.sl 1 (zBi (zAK ps k))))=some (l.map fun k=>.sl 1 (zBi (zAK ps k)))
 |[]=>rfl
 |k::l=>by simp only [List.map_cons,zEG,zVa ps l]
theorem yJN {F:List Ct} {K:List Ct→Prop} {r b e:Nat} {ps:List (Key×Int)} {l:List Gh} (h1:F.getD r .un=.ov (.one (mpO b e ps))) (h:ghW (F.set r (.ov (.one (mpF b ps)))) K l):ghW F K (.vfm r::l):=by
 rw [yJG,h1]
 simp only [mpO,zW4]
 rw [List.map_map]
 exact h
theorem yER (ps:List (Key×Int)) {i:Nat} (h:i < (gK ps).length):yAC (((gK ps).map zJb).getD i .nilIface)=.agg [bI (zV2 ps i).kind,bS (zV2 ps i).name]:=by
 have:((gK ps).map zJb).getD i .nilIface=zJb ((gK ps).getD i default):=by
  rw [List.getD_eq_getElem?_getD,List.getElem?_map,zV3 ps h,List.getElem?_eq_getElem h];rfl
 rw [this];rfl
theorem yIi (ps:List (Key×Int)) {i:Nat} (h:i < (gK ps).length):(ysF ps).getD i (.nl 0)=.sl 1 (zBi (zV2 ps i).nodes):=by
 unfold ysF
 rw [List.getD_eq_getElem?_getD,List.getElem?_map,List.getElem?_eq_getElem h]
 show PV.sl 1 (zBi (zAK ps (gK ps)[i]))=PV.sl 1 (zBi (zAK ps ((gK ps).getD i default)))
 rw [zV3 ps h]
theorem yGj {b:Option Nat} {e:Nat} {l:List Ent}:(OV.os b e 3 (ovE l)).frz=some (.sl 3 (zCK l)):=zVY (zGF _)
theorem yD9 (l:List Ent) (e:Ent):ovE (l++[e])=ovE l++[[.p (bI e.kind),.p (bS e.name),.p (.sl 1 (zBi e.nodes))]]:=by simp [ovE,zCK,entV]
theorem yIj {l:List Ent} (h:l≠[]):ovE l≠[]:=by
 cases l with
 |nil=>exact absurd rfl h
 |cons e r=>simp [ovE,zCK]
theorem zJ6 (d:List Nd):Contract Tryz.prog zDM [.val (zBE d)] {res:=.tup [.one (.sl 3 (zCK (if zAi d=0 then zCo d else []))),iv (zAi d)]}:=by
 have hC:=zF6 d
 obtain ⟨e,he⟩:∃ e,e=zAi d:=⟨_,rfl⟩
 rw [←he] at hC ⊢
 unfold zBE at hC ⊢
 refine mkA zQ1 (base:=0) (fo rfl) (fun hfit=>?_)
 unfold F0 zJZ
 simp (maxSteps:=2000000) only [zAM,List.set_cons_succ,List.set_cons_zero,List.map_cons,List.map_nil,zAL,zAa,ioOf,List.length_cons,List.length_nil,Nat.reduceAdd,Nat.reduceSub,List.replicate,List.cons_append,List.nil_append]
 try simp (maxSteps:=2000000) only [go_sem]
 repeat with_reducible refine zAb ?_
 refine zAq (by repeat' constructor) (hC) ?_
 try simp (maxSteps:=2000000) only [go_sem]
 repeat with_reducible refine zAb ?_
 refine zAd (by rfl) trivial (fun h0=>?_) (fun h0=>?_)
 ·have h1:e≠0:=by simpa using h0
  rw [if_neg h1]
  try simp (maxSteps:=2000000) only [go_sem]
  repeat with_reducible refine zAb ?_
  exact zAR (by simp) ⟨zA7 rfl trivial (.inr rfl),zA7 rfl trivial (.inl rfl),rfl⟩
 have h1:e=0:=by simpa using h0
 subst h1
 rw [if_pos rfl]
 obtain ⟨d1,d2,d3⟩:=zAO he.symm
 have hcls:∀ i,i < d.length→(d.getD i default).cls.length≤64:=fun i hi=>Nat.le_trans (zBu (zC9 d3 hi)).1 (by decide)
 try simp (maxSteps:=2000000) only [go_sem]
 repeat with_reducible refine zAb ?_
 rw [yJz]
 intro b
 try simp (maxSteps:=2000000) only [go_sem]
 repeat with_reducible refine zAb ?_
 refine zAx (fun i:Nat=>[(22,.pv (iv i)),(18,.ov (.one (mpO b zAD (zCn d i)))),(6,.un),(7,.un),(9,.un),(23,.un),(41,.un),(55,.un),(56,.un),(57,.un),(58,.un),(92,.un),(93,.un),(94,.un),(95,.un),(96,.un)]) (fun i:Nat=>d.length-i) (fun i:Nat=>i≤d.length) (0) ?_ (Nat.zero_le _) ?_
 focus (simp (maxSteps:=2000000) only [go_sem,zAn,zAw,zAJ,zAo];all_goals (repeat' (first|exact trivial|exact zAy (by omega)|exact zAu rfl|exact zAN rfl|exact zAA|exact le_refl _|refine And.intro ?_ ?_)))
 intro i hi
 try simp (maxSteps:=2000000) only [go_sem]
 repeat with_reducible refine zAb ?_
 refine zAd (by rfl) trivial (fun g1=>?_) (fun g1=>?_)
 ·have hil:i < d.length:=by simpa using g1
  have hx:=zA4 d i hil
  have hpl:=zFX d i fun j hj=>hcls j (by omega)
  have hsu:=zLi d i
  have hc:=hcls i hil
  obtain ⟨x,hxe⟩:∃ x,x=d.getD i default:=⟨_,rfl⟩
  rw [←hxe] at hx hsu hc
  unfold ndV at hx
  obtain ⟨p0,hp0⟩:∃ p,p=zCn d i:=⟨_,rfl⟩
  rw [←hp0] at hpl hsu ⊢
  try simp (maxSteps:=2000000) only [go_sem,hx]
  repeat with_reducible refine zAb ?_
  refine yF2 (b:=b) (e:=zAD) (ps:=p0) (key:=(1,x.tag)) rfl rfl (by simp) rfl rfl trivial (by decide) (fun K1 V1 hK hp=>?_)
  have hn:=zIv p0 (1,x.tag)
  try simp (maxSteps:=2000000) only [go_sem,zH7,List.length_map]
  repeat with_reducible refine zAb ?_
  refine yF3 (b:=b) (e:=zAD) (ps:=p0) (key:=(1,x.tag)) (v:=i) rfl rfl rfl rfl trivial hK hp rfl (zNI _ _ _).symm (by decide) ?_
  try simp (maxSteps:=2000000) only [go_sem]
  repeat with_reducible refine zAb ?_
  obtain ⟨p1,hp1⟩:∃ p,p=p0++[((1,x.tag),(i:Int))]:=⟨_,rfl⟩
  have hp1l:p1.length≤i * 66+1:=by rw [hp1];simp;omega
  rw [←hp1] at hsu ⊢
  refine zAd (by rfl) trivial (fun g2=>?_) (fun g2=>?_)
  have hid:x.id≠[]:=by simpa using g2
  rw [if_neg hid] at hsu
  try simp (maxSteps:=2000000) only [go_sem]
  repeat with_reducible refine zAb ?_
  refine yF2 (b:=b) (e:=zAD) (ps:=p1) (key:=(2,x.id)) rfl rfl (by simp) rfl rfl trivial (by decide) (fun K1 V1 hK hp=>?_)
  have hn:=zIv p1 (2,x.id)
  try simp (maxSteps:=2000000) only [go_sem,zH7,List.length_map]
  repeat with_reducible refine zAb ?_
  refine yF3 (b:=b) (e:=zAD) (ps:=p1) (key:=(2,x.id)) (v:=i) rfl rfl rfl rfl trivial hK hp rfl (zNI _ _ _).symm (by decide) ?_
  try simp (maxSteps:=2000000) only [go_sem]
  repeat with_reducible refine zAb ?_
  obtain ⟨p2,hp2⟩:∃ p,p=p1++[((2,x.id),(i:Int))]:=⟨_,rfl⟩
  have hp2l:p2.length≤i * 66+2:=by rw [hp2];simp;omega
  rw [←hp2] at hsu ⊢
  rotate_left
  have hid:x.id=[]:=by simpa using g2
  rw [if_pos hid,List.append_nil] at hsu
  try simp (maxSteps:=2000000) only [go_sem]
  repeat with_reducible refine zAb ?_
  obtain ⟨p2,hp2⟩:∃ p,p=p1:=⟨_,rfl⟩
  have hp2l:p2.length≤i * 66+2:=by rw [hp2];omega
  rw [←hp2] at hsu ⊢
  all_goals
   refine zAx (fun j:Nat=>[(57,.pv (iv j)),(18,.ov (.one (mpO b zAD (p2++(x.cls.take j).map fun c=>((3,c),(i:Int)))))),(9,.un),(58,.un)]) (fun j:Nat=>x.cls.length-j) (fun j:Nat=>j≤x.cls.length) (0) ?_ (Nat.zero_le _) ?_
   focus (simp (maxSteps:=2000000) only [go_sem,zAn,zAw,zAJ,zAo];all_goals (repeat' (first|exact trivial|exact zAy (by omega)|exact zAu rfl|exact zAN rfl|exact zAA|exact le_refl _|refine And.intro ?_ ?_)))
   ·exact zAN (by rw [List.append_nil])
   intro j hj
   try simp (maxSteps:=2000000) only [go_sem]
   repeat with_reducible refine zAb ?_
   refine zAd (by rfl) trivial (fun g3=>?_) (fun g3=>?_)
   ·have hjl:j < x.cls.length:=by simpa using g3
    have hcj:=zEN x.cls j hjl
    obtain ⟨p3,hp3⟩:∃ p,p=p2++(x.cls.take j).map (fun c=>(((3,c):Key),(i:Int))):=⟨_,rfl⟩
    have hp3l:p3.length≤i * 66+66:=by rw [hp3];simp;omega
    have hstep:p2++(x.cls.take (j+1)).map (fun c=>(((3,c):Key),(i:Int)))=p3++[((3,x.cls.getD j []),(i:Int))]:=by
     rw [hp3,List.take_succ_eq_append_getElem hjl,List.map_append,←List.append_assoc]
     simp [hjl]
    rw [←hp3]
    try simp (maxSteps:=2000000) only [go_sem,hcj]
    repeat with_reducible refine zAb ?_
    refine yF2 (b:=b) (e:=zAD) (ps:=p3) (key:=(3,x.cls.getD j [])) rfl rfl (by simp) rfl rfl trivial (by decide) (fun K1 V1 hK hp=>?_)
    have hn:=zIv p3 (3,x.cls.getD j [])
    try simp (maxSteps:=2000000) only [go_sem,zH7,List.length_map]
    repeat with_reducible refine zAb ?_
    refine yF3 (b:=b) (e:=zAD) (ps:=p3) (key:=(3,x.cls.getD j [])) (v:=i) rfl rfl rfl rfl trivial hK hp rfl (zNI _ _ _).symm (by decide) ?_
    try simp (maxSteps:=2000000) only [go_sem]
    repeat with_reducible refine zAb ?_
    refine ⟨j+1,by omega,by omega,?_⟩
    rw [hstep]
    simp (maxSteps:=2000000) only [go_sem,zAn,zAw,zAJ,zAo]
    all_goals (repeat' (first|exact trivial|exact zAy (by omega)|exact zAu rfl|exact zAN rfl|exact zAA|exact le_refl _|refine And.intro ?_ ?_))
   ·have hjl:j=x.cls.length:=by simp at g3;omega
    rw [hjl,List.take_length,←hsu]
    try simp (maxSteps:=2000000) only [go_sem]
    repeat with_reducible refine zAb ?_
    refine ⟨i+1,by omega,by omega,?_⟩
    simp (maxSteps:=2000000) only [go_sem,zAn,zAw,zAJ,zAo]
    all_goals (repeat' (first|exact trivial|exact zAy (by omega)|exact zAu rfl|exact zAN rfl|exact zAA|exact le_refl _|refine And.intro ?_ ?_))
 ·have hil:i=d.length:=by simp at g1;omega
  rw [hil]
  have hpl:=zFX d d.length hcls
  have hid:zCo d=zB5 (zCn d d.length):=rfl
  rw [hid]
  obtain ⟨ps,hps⟩:∃ p,p=zCn d d.length:=⟨_,rfl⟩
  rw [←hps] at hpl ⊢
  have hN:=yH9 ps
  try simp (maxSteps:=2000000) only [go_sem]
  repeat with_reducible refine zAb ?_
  refine yJN (e:=zAD) (ps:=ps) rfl ?_
  try simp (maxSteps:=2000000) only [go_sem]
  repeat with_reducible refine zAb ?_
  refine yJH (b:=b) (ks:=(gK ps).map zJb) (vs:=(gK ps).map fun k=>.p (.sl 1 (zBi (zAK ps k)))) rfl rfl ?_
  rw [List.length_map]
  try simp (maxSteps:=2000000) only [go_sem]
  repeat with_reducible refine zAb ?_
  refine zAx (fun seen:List Nat=>[(74,.ov (.one (.it b (gK ps).length seen))),(10,.ov (.one (.os none zAE 3 (ovE (seen.map (zV2 ps)))))),(11,.un),(12,.un),(76,.un),(97,.un),(98,.un)]) (fun seen:List Nat=>(gK ps).length-seen.length) (fun seen:List Nat=>seen.Nodup∧∀ q∈seen,q < (gK ps).length) ([]) ?_ ⟨List.nodup_nil,by simp⟩ ?_
  focus (simp (maxSteps:=2000000) only [go_sem,zAn,zAw,zAJ,zAo];all_goals (repeat' (first|exact trivial|exact zAy (by omega)|exact zAu rfl|exact zAN rfl|exact zAA|exact le_refl _|refine And.intro ?_ ?_)))
  rintro seen ⟨hn1,hn2⟩
  have hsl:=zNJ _ seen hn1 hn2
  try simp (maxSteps:=2000000) only [go_sem]
  repeat with_reducible refine zAb ?_
  refine yJI (b:=b) (ks:=(gK ps).map zJb) (vs:=(gK ps).map fun k=>.p (.sl 1 (zBi (zAK ps k)))) (ys:=ysF ps) rfl rfl (zVa ps _) (List.length_map _).symm (by decide) (by decide) (fun hall=>?_) (fun q hq hqn=>?_)
  ·try simp (maxSteps:=2000000) only [go_sem]
   repeat with_reducible refine zAb ?_
   refine zNC (by rfl) trivial ?_
   try simp (maxSteps:=2000000) only [go_sem]
   repeat with_reducible refine zAb ?_
   have hperm:=yDR hn1 hn2 hall
   have hne:seen.map (zV2 ps)≠[]:=by
    intro hc
    rw [hc] at hperm
    have h2:zB5 ps=[]:=hperm.symm.eq_nil
    obtain ⟨n,hn⟩:∃ n,d.length=n+1:=⟨d.length-1,by omega⟩
    rw [hn,zLi] at hps
    obtain ⟨p,hp⟩:∃ p,p∈ps:=⟨((1,(d.getD n default).tag),(n:Int)),by rw [hps];simp⟩
    have h3:(⟨p.1.1,p.1.2,zAK ps p.1⟩:Ent)∈zB5 ps:=((zJt ps.length ps rfl).2 _).2 ⟨List.mem_map.2 ⟨p,hp,rfl⟩,rfl⟩
    rw [h2] at h3
    cases h3
   have hlen:(seen.map (zV2 ps)).length≤1000000:=by rw [List.length_map];omega
   have hsrt:=yIe (zJt ps.length ps rfl).1 hperm hlen
   intro b2
   refine yH8 (b:=b2) (k0:=3) (e:=zAE) (k:=3) rfl rfl (yIj hne) (by decide) (by repeat' constructor) hsrt ?_
   try simp (maxSteps:=2000000) only [go_sem,yGj]
   repeat with_reducible refine zAb ?_
   exact zAR (by simp) ⟨zA7 rfl trivial (.inl rfl),zA7 rfl trivial (.inl rfl),rfl⟩
  ·rw [yER ps hq,yIi ps hq]
   try simp (maxSteps:=2000000) only [go_sem]
   repeat with_reducible refine zAb ?_
   refine zVW (by rfl) trivial ?_
   try simp (maxSteps:=2000000) only [go_sem]
   repeat with_reducible refine zAb ?_
   refine yJJ (b:=b) (ks:=(gK ps).map zJb) (vs:=(gK ps).map fun k=>.p (.sl 1 (zBi (zAK ps k)))) (ys:=ysF ps) (i:=q) (seen:=seen) rfl rfl (zVa ps _) (List.length_map _).symm ?_
   rw [yER ps hq,yIi ps hq]
   try simp (maxSteps:=2000000) only [go_sem,zU5,List.length_map]
   repeat with_reducible refine zAb ?_
   have hn3:(seen++[q]).Nodup:=List.nodup_append.2 ⟨hn1,by simp,fun a ha b hb e=>by rw [List.mem_singleton.1 hb] at e;exact hqn (e▸ha)⟩
   have hn4:∀ r∈seen++[q],r < (gK ps).length:=fun r hr=>by
    rcases List.mem_append.1 hr with hr|hr
    ·exact hn2 r hr
    ·rw [List.mem_singleton.1 hr];exact hq
   have hn5:=zNJ _ _ hn3 hn4
   rw [List.length_append,List.length_singleton] at hn5
   refine ⟨seen++[q],by rw [List.length_append,List.length_singleton];omega,⟨hn3,hn4⟩,?_⟩
   rw [List.map_append,List.map_cons,List.map_nil,yD9]
   simp (maxSteps:=2000000) only [go_sem,zAn,zAw,zAJ,zAo]
   all_goals (repeat' (first|exact trivial|exact zAy (by omega)|exact zAu rfl|exact zAN rfl|exact zAA|exact le_refl _|refine And.intro ?_ ?_))
end Go.Hx
