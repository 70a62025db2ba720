/-
  Walks of functions of the program over an abstract layer, and the laws that they use: each contract says what the function computes, for every input that its conditions let by. No other condition.
-/
import Derived.Test.YtjnagiaooecklabGreatDoorG10
import Derived.Test.YtjnagiaooecklabGreatDoorG11
import Derived.Test.YtjnagiaooecklabGreatDoorG13
import Derived.Test.YtjnagiaooecklabGreatDoorProg
import Derived.Test.YtjnagiaooecklabGreatDoorG12
set_option linter.all false
section
set_option maxRecDepth 100000
set_option linter.unusedSimpArgs false
set_option maxHeartbeats 4000000
namespace Go.Hx
open Go.Proofs
variable [Glob]
attribute [local go_sem] zAk zAl zAj zAf ndV zAm zAh zCw entV zBp zBh
attribute [local go_sem] reduceCtorEq Nat.reduceAdd Nat.reduceEqDiff reduceIte Nat.reduceLeDiff Nat.reduceLT Nat.reduceSub
theorem zPm (l:List Ent) (k:Int) (nm:Bys) (hs:∀ e∈l,e.nodes.length * 8≤140737488355328):Contract Tryz.prog zEJ [.val (.one (.sl 3 (zCv l))),.val (iv k),.val (sv nm)] {res:=.tup [.one (.sl 1 (zAy (yN9 l k nm).1)),iv (yN9 l k nm).2]}:=by
 unfold yN9
 refine mkA yAt (base:=0) (fo rfl) (fun hfit=>?_)
 unfold F0 zPj
 refine goU ?_
 have hfl:=zDn (k:=3) hfit.1
 rw [zCw] at hfl
 refine zAa (by rfl) trivial (fun g1=>?_) (fun g1=>?_)
 ·have h1:k < 1∨3 < k:=by
   by_cases h:k < 1
   ·exact .inl h
   ·right;simp [h] at g1;omega
  rw [if_pos h1]
  refine goW ?_
  exact zBd (by simp) ⟨zAH rfl trivial (.inr rfl),zAH rfl trivial (.inl rfl),rfl⟩
 have h1:¬ (k < 1∨3 < k):=by
  by_cases h:k < 1
  ·simp [h] at g1
  ·simp [h] at g1;omega
 rw [if_neg h1]
 refine goW ?_
 refine zAa (by rfl) trivial (fun g2=>?_) (fun g2=>?_)
 ·have h2:512 < l.length:=by simp at g2;omega
  rw [if_pos h2]
  refine goW ?_
  exact zBd (by simp) ⟨zAH rfl trivial (.inr rfl),zAH rfl trivial (.inl rfl),rfl⟩
 have h2:¬ 512 < l.length:=by simp at g2;omega
 rw [if_neg h2]
 refine goW ?_
 refine zAd (fun i:Nat=>[(21,.pv (iv i)),(6,.un),(7,.un),(9,.un),(22,.un),(34,.un)]) (fun i:Nat=>l.length-i) (fun i:Nat=>i≤l.length∧l.find? (fun e=>decide (e.key=(k,nm)))=(l.drop i).find? (fun e=>decide (e.key=(k,nm)))) (0) ?_ ⟨Nat.zero_le _,rfl⟩ ?_
 focus (exact leA)
 rintro i ⟨hi,hinv⟩
 refine goW ?_
 refine zAa (by rfl) trivial (fun g3=>?_) (fun g3=>?_)
 ·have hil:i < l.length:=by simpa using g3
  have e1:=zJc l i hil
  rw [zA0 (d:=default) hil] at hinv
  have hmem:l.getD i default∈l:=by simp [hil]
  have hsz:=hs _ hmem
  obtain ⟨e,he⟩:∃ e,e=l.getD i default:=⟨_,rfl⟩
  rw [←he] at e1 hinv hsz
  have hC:=yFG e.nodes hsz
  unfold entV at e1
  try simp (maxSteps:=2000000) only [go_sem,e1]
  repeat with_reducible refine zAt ?_
  refine zAa (by rfl) trivial (fun g4=>?_) (fun g4=>?_)
  ·have hk:e.key=(k,nm):=by
    by_cases h:e.kind=k
    ·simp [h] at g4;exact Prod.ext h g4
    ·simp [h] at g4
   rw [List.find?_cons_of_pos (by simpa using hk)] at hinv
   have ha:atK l (k,nm)=e.nodes:=by unfold atK;rw [hinv];rfl
   rw [ha]
   refine goW ?_
   refine zFD (by repeat' constructor) (hC) ?_
   refine goW ?_
   exact zBd (by simp) ⟨zAH rfl trivial (.inl rfl),zAH rfl trivial (.inl rfl),rfl⟩
  ·have hk:¬ e.key=(k,nm):=by
    intro h
    have h:(e.kind,e.name)=(k,nm):=h
    injection h with h3 h4
    simp [h3,h4] at g4
   rw [List.find?_cons_of_neg (by simpa using hk)] at hinv
   refine goW ?_
   refine ⟨i+1,by omega,⟨by omega,hinv⟩,?_⟩
   exact leA
 ·have hil:i=l.length:=by simp at g3;omega
  rw [hil,List.drop_length] at hinv
  have ha:atK l (k,nm)=[]:=by unfold atK;rw [hinv];rfl
  rw [ha]
  refine goW ?_
  exact zBd (by simp) ⟨zAH rfl trivial (.inr rfl),zAH rfl trivial (.inl rfl),rfl⟩
theorem yJF (d:List Nd) (z:PV) (h64:d.length≤64) (hcls:∀ i,i < d.length→(d.getD i default).cls.length≤6) {k:Int} (hk1:1≤k) (hk3:k≤3) (nm:Bys) (s:Bool×List Int) (hsl:s.2.length≤4224):
  zEU Tryz.prog zCW [.val (iv k),.val (sv nm)] [.v (.fp [z,.sl 3 (zCv (idxOf d))]),.io [bB s.1],.io [.sl 1 (zAy s.2)]] [[bB (zUh s (zYt d (k,nm))).1],[.sl 1 (zAy (zUh s (zYt d (k,nm))).2)]]:=by
 have hn:∀ e∈idxOf d,e.nodes.length * 8≤140737488355328:=fun e he=>by
  have h1:=((zFF _ (zAS d d.length) rfl).2 e).1 he
  have h2:=zDT (zAS d d.length) e.key
  have h3:=zFH d d.length fun i hi=>hcls i hi
  rw [h1.2];omega
 have hL:=zPm (idxOf d) k nm hn
 rw [yLj d h64 hcls hk1 hk3] at hL
 have hnl:=(zRC (d:=d) h64 (fun i hi=>Nat.le_trans (hcls i hi) (by decide)) (k,nm)).2
 obtain ⟨N,hN⟩:∃ N,N=zYt d (k,nm):=⟨_,rfl⟩
 rw [←hN] at hL hnl ⊢
 obtain ⟨b,S⟩:=s
 refine zQo ⟨Nat.le_of_ble_eq_true rfl,(fun x hx=>by simp at hx;rcases hx with rfl|rfl<;>exact ⟨_,rfl⟩),rfl,rfl,rfl⟩ rfl ?_
 unfold F0c zFn zDG
 simp only [zUp,zFw,zAn,zJy,yBk,zNV,List.set_cons_succ,List.set_cons_zero,List.map_cons,List.map_nil,List.length_cons,List.length_nil,Nat.reduceAdd,Nat.reduceSub,List.replicate,List.cons_append,List.nil_append]
 refine goW ?_
 refine zBx (by repeat' constructor) (hL) ?_
 refine goW ?_
 have hS:S.length≤4224:=hsl
 refine zAa (by rfl) trivial (fun g1=>?_) (fun g1=>?_)
 ·have ht:zUh (b,S) N=(true,N):=by
   unfold zUh
   rw [if_pos]
   by_cases h:b=false
   ·exact .inl h
   ·right;simp [h] at g1;exact g1
  rw [ht]
  refine goW ?_
  rfl
 ·have ht:zUh (b,S) N=(b,S):=by
   unfold zUh
   rw [if_neg]
   rintro (h|h)
   ·have h:b=false:=h
    simp [h] at g1
   ·have h:N.length < S.length:=h
    by_cases hb:b=false
    ·simp [hb] at g1
    ·simp [hb] at g1;omega
  rw [ht]
  refine goW ?_
  rfl
def zTp (s:Bool×List Int):PV:=if s.1 then .sl 1 (zAy s.2) else .nl 1
theorem yIe {s:Bool×List Int} (h:s.1=false→s.2=[]):(zTp s).norm=.sl 1 (zAy s.2):=by
 unfold zTp
 cases hs:s.1 with
 |true=>rfl
 |false=>rw [h hs];rfl
theorem yGX (s:Bool×List Int) (l:List Int):(zUh s l).1=true:=by
 unfold zUh
 split
 ·rfl
 ·rename_i h
  cases hs:s.1 with
  |true=>rfl
  |false=>exact absurd (.inl hs) h
theorem yJG (s:Bool×List Int) (l:List Int):zTp (zUh s l)=.sl 1 (zAy (zUh s l).2):=by
 unfold zTp;rw [yGX];rfl
theorem yAQ {s:Bool×List Int} {l:List Int} (h:s.2.length≤4224) (h2:l.length≤4224):(zUh s l).2.length≤4224:=by
 unfold zUh;split
 ·exact h2
 ·exact h
theorem yAR (d:List Nd) (h64:d.length≤64) (hcls:∀ i,i < d.length→(d.getD i default).cls.length≤6) (p:Pt) (h1:1≤p.steps.length) (h6:(zF2 p).tests.length≤6):
  Contract Tryz.prog zF8 [.val (.agg [.sl 5 (zNI d),.sl 3 (zCv (idxOf d))]),.val (.agg (ptV p))] {res:=.val (.one (.sl 1 (zAy (zRB d p))))}:=by
 have hc64:∀ i,i < d.length→(d.getD i default).cls.length≤64:=fun i hi=>Nat.le_trans (hcls i hi) (by decide)
 have hnd:=fun k=>(zRC (d:=d) h64 hc64 k).2
 have hx:=zDY p.steps (p.steps.length-1) (by omega)
 have hS1:∀ (k:Int) (nm:Bys) (s:Bool×List Int),1≤k→k≤3→(s.1=false→s.2=[])→s.2.length≤4224→zEU Tryz.prog zCW [.val (iv k),.val (sv nm)] [.v (.fp [.sl 5 (zNI d),.sl 3 (zCv (idxOf d))]),.io [bB s.1],.io [(zTp s).norm]] [[bB (zUh s (zYt d (k,nm))).1],[zTp (zUh s (zYt d (k,nm)))]]:=by
  intro k nm s h2 h3 h4 h5
  rw [yIe h4,yJG]
  exact yJF d _ h64 hcls h2 h3 nm s h5
 have hseed:zRB d p=if ((zF2 p).tests.foldl (zEh d) (zF1 d (zF2 p))).1 then ((zF2 p).tests.foldl (zEh d) (zF1 d (zF2 p))).2 else yP8 d:=rfl
 rw [hseed]
 have hlast:p.steps.getD (p.steps.length-1) default=zF2 p:=rfl
 rw [hlast] at hx
 obtain ⟨S,hS⟩:∃ S,S=zF2 p:=⟨_,rfl⟩
 rw [←hS] at hx h6 ⊢
 rw [zGv] at hx
 obtain ⟨sts,hsts⟩:∃ s,s=p.steps:=⟨_,rfl⟩
 rw [←hsts] at h1 hx
 rw [zDM,←hsts]
 have hsub:((sts.length:Int)-1).toNat=sts.length-1:=by omega
 refine mkA zWs (base:=0) (fo rfl) (fun hfit=>?_)
 unfold F0 zNa
 refine goU ?_
 have hfl:=zDn (k:=2) hfit.2.1.1
 rw [zBh] at hfl
 try simp (maxSteps:=2000000) only [go_sem,hsub,hx]
 repeat with_reducible refine zAt ?_
 have hI:∀ i,((S.tests.take i).foldl (zEh d) (zF1 d S)).2.length≤4224∧(((S.tests.take i).foldl (zEh d) (zF1 d S)).1=false→((S.tests.take i).foldl (zEh d) (zF1 d S)).2=[]):=by
  have h0:(zF1 d S).2.length≤4224∧((zF1 d S).1=false→(zF1 d S).2=[]):=by
   unfold zF1
   split
   ·exact ⟨Nat.zero_le _,fun _=>rfl⟩
   ·exact ⟨yAQ (Nat.zero_le _) (hnd _),fun h=>by rw [yGX] at h;cases h⟩
  have hF:∀ (l:List Ts) (s:Bool×List Int),s.2.length≤4224∧(s.1=false→s.2=[])→(l.foldl (zEh d) s).2.length≤4224∧((l.foldl (zEh d) s).1=false→(l.foldl (zEh d) s).2=[]):=by
   intro l
   induction l with
   |nil=>intro s h;exact h
   |cons t r ih=>
    intro s h
    rw [List.foldl_cons]
    refine ih _ ?_
    unfold zEh
    split
    ·exact ⟨yAQ h.1 (hnd _),fun h=>by rw [yGX] at h;cases h⟩
    ·split
     ·exact ⟨yAQ h.1 (hnd _),fun h=>by rw [yGX] at h;cases h⟩
     ·exact h
  exact fun i=>hF _ _ h0
 have hst:∀ i,i < S.tests.length→(S.tests.take (i+1)).foldl (zEh d) (zF1 d S)=zEh d ((S.tests.take i).foldl (zEh d) (zF1 d S)) (S.tests.getD i default):=by
  intro i hi
  rw [List.take_succ_eq_append_getElem hi,List.foldl_append]
  simp [hi]
 refine zAa (by rfl) trivial (fun g1=>?_) (fun g1=>?_)
 have htg:S.tag≠[]:=by simpa using g1
 have e0:zUh (false,[]) (zYt d (1,S.tag))=zF1 d S:=by unfold zF1;rw [if_neg htg]
 have hC:=hS1 1 S.tag (false,[]) (by decide) (by decide) (fun _=>rfl) (Nat.zero_le _)
 rw [e0] at hC
 refine goW ?_
 refine yNj (by rfl) (by repeat' constructor) (by rfl) hC ?_
 simp only [zFw]
 refine goW ?_
 rotate_left
 have htg:S.tag=[]:=by simpa using g1
 have e0:zF1 d S=(false,[]):=by unfold zF1;rw [if_pos htg]
 refine goW ?_
 all_goals
  refine zAd (fun i:Nat=>[(31,.pv (iv i)),(68,.pv (.one (bB ((S.tests.take i).foldl (zEh d) (zF1 d S)).1))),(67,.pv (.one (zTp ((S.tests.take i).foldl (zEh d) (zF1 d S))))),(69,.un),(70,.un),(71,.un),(72,.un),(73,.un),(74,.un),(10,.un),(32,.un),(36,.un),(37,.un),(43,.un)]) (fun i:Nat=>S.tests.length-i) (fun i:Nat=>i≤S.tests.length) (0) ?_ (Nat.zero_le _) ?_
  focus (simp (maxSteps:=2000000) only [go_sem,zAC,zA1,zB5,zAD];all_goals (repeat' (first|exact trivial|exact zA2 (by omega)|exact zA4 rfl|exact zBm rfl|exact zBK|exact le_refl _|refine And.intro ?_ ?_)))
  all_goals try (rw [e0];exact zBm rfl)
  intro i hi
  obtain ⟨hI1,hI2⟩:=hI i
  have hsti:=hst i
  obtain ⟨s,hs⟩:∃ s,s=(S.tests.take i).foldl (zEh d) (zF1 d S):=⟨_,rfl⟩
  rw [←hs] at hI1 hI2 hsti ⊢
  refine goW ?_
  refine zAa (by rfl) trivial (fun g2=>?_) (fun g2=>?_)
  ·have hil:i < S.tests.length:=by simpa using g2
   have hy:=zDp S.tests i hil
   have hsti:=hsti hil
   rw [zEp] at hy
   obtain ⟨t,ht⟩:∃ t,t=S.tests.getD i default:=⟨_,rfl⟩
   rw [←ht] at hy hsti
   try simp (maxSteps:=2000000) only [go_sem,hy]
   repeat with_reducible refine zAt ?_
   refine zAa (by rfl) trivial (fun g3=>?_) (fun g3=>?_)
   ·have hk:t.kind=2:=by simpa using g3
    have hC:=hS1 2 t.name s (by decide) (by decide) hI2 hI1
    have e1:zUh s (zYt d (2,t.name))=zEh d s t:=by unfold zEh;rw [if_pos hk]
    rw [e1,←hsti] at hC
    refine goW ?_
    refine yNj (by rfl) (by repeat' constructor) (by rfl) hC ?_
    simp only [zFw]
    refine goW ?_
    refine ⟨i+1,by omega,by omega,?_⟩
    exact leA
   ·have hk:¬ t.kind=2:=by simpa using g3
    refine goW ?_
    refine zAa (by rfl) trivial (fun g4=>?_) (fun g4=>?_)
    ·have hk1:t.kind=1:=by simpa using g4
     have hC:=hS1 3 t.name s (by decide) (by decide) hI2 hI1
     have e1:zUh s (zYt d (3,t.name))=zEh d s t:=by unfold zEh;rw [if_neg hk,if_pos hk1]
     rw [e1,←hsti] at hC
     refine goW ?_
     refine yNj (by rfl) (by repeat' constructor) (by rfl) hC ?_
     simp only [zFw]
     refine goW ?_
     refine ⟨i+1,by omega,by omega,?_⟩
     exact leA
    ·have hk1:¬ t.kind=1:=by simpa using g4
     have e1:s=zEh d s t:=by unfold zEh;rw [if_neg hk,if_neg hk1]
     rw [←e1] at hsti
     refine goW ?_
     refine ⟨i+1,by omega,by omega,?_⟩
     rw [hsti]
     exact leA
  ·have hil:i=S.tests.length:=by simp at g2;omega
   rw [hil,List.take_length] at hs
   rw [←hs]
   refine goW ?_
   cases hs1:s.1 with
   |true=>
    have hb:zTp s=.sl 1 (zAy s.2):=by unfold zTp;rw [hs1];rfl
    rw [hb]
    try simp (maxSteps:=2000000) only [go_sem,hs1]
    repeat with_reducible refine zAt ?_
    refine zH9 (by rfl) trivial ?_
    refine goW ?_
    exact zAb rfl trivial (.inl rfl)
   |false=>
    have hb:zTp s=.nl 1:=by unfold zTp;rw [hs1];rfl
    rw [hb]
    try simp (maxSteps:=2000000) only [go_sem,hs1]
    repeat with_reducible refine zAt ?_
    refine zL0 (by rfl) trivial ?_
    refine goW ?_
    refine zAd (fun j:Nat=>[(56,.pv (iv j)),(67,.own zAr 1 (zAy ((List.range j).map Int.ofNat))),(11,.un),(57,.un)]) (fun j:Nat=>d.length-j) (fun j:Nat=>j≤d.length) (0) ?_ (Nat.zero_le _) ?_
    focus (exact leA)
    intro j hj
    have hjl:((List.range j).map Int.ofNat).length≤64:=by simp;omega
    have hjs:zAy ((List.range (j+1)).map Int.ofNat)=zAy ((List.range j).map Int.ofNat)++[[bI (j:Int)]]:=by simp [List.range_succ,zAy]
    obtain ⟨L,hL⟩:∃ L,L=(List.range j).map Int.ofNat:=⟨_,rfl⟩
    rw [←hL] at hjl hjs ⊢
    refine goW ?_
    refine zAa (by rfl) trivial (fun g5=>?_) (fun g5=>?_)
    ·have hjd:j < d.length:=by simpa using g5
     refine goW ?_
     refine ⟨j+1,by omega,by omega,?_⟩
     rw [hjs]
     exact leA
    ·have hjd:j=d.length:=by simp at g5;omega
     have hall:L=yP8 d:=by rw [hL,hjd];rfl
     refine goW ?_
     rw [hall]
     exact zAb rfl trivial (.inl rfl)
end Go.Hx
end

section
/-
 The abstract code of functions of the program, printed by gen.py; each stands for the given one. No condition.
-/
namespace Go.Hx
open Go.Proofs
variable [Glob]
abbrev zDe:Nat:=100
abbrev zWL:HCode:=oN [oV 1 (.boxF (.t 0)),
  oV 2 (.mv (.c (.one (.nl 3)))),
  oV 3 (.mv (.c (iv 0)))]
abbrev zWM:HCode:=oR [oV 13 (.ldR (.t 1) 1 true),
  oC 14 zFJ [(.t 13,.v)],
  oV 4 (.mv (.t 14))] [13,14]
abbrev zWN:HCode:=oR [oV 15 (.mv (.t 4)),
  oV 16 (.ints .neq (.t 15) (.c (iv 0)))] [15]
abbrev zWO:HCode:=oR [oV 17 (.mv (.t 4)),
  oV 2 (.mv (.c (.one (.nl 3)))),
  oV 3 (.mv (.t 17))] [17]
abbrev zWP:HCode:=oN [⟨none,.mmk 18⟩,
  oV 5 (.mv (.t 18))]
abbrev zWQ:HCode:=oR [oV 19 (.fldR (.t 1) 0 1),
  oV 20 (.ldR (.t 19) 1 false),
  oV 21 (.len false (.t 20)),
  oV 22 (.mv (.c (iv 0)))] [19]
abbrev zWR:HCode:=oN [oV 23 (.ints .lss (.t 22) (.t 21))]
abbrev zWS:HCode:=oR [oV 24 (.mv (.t 22)),
  oV 25 (.idxA 5 (.t 20) (.t 22)),
  oV 26 (.ldR (.t 25) 5 true),
  ⟨none,.alloc 7 0 92 [.v (.int .i64 0),.v (mkS []),.v (mkS []),.nl 1,.nl 2]⟩,
  oV 6 (.mv (.t 24)),
  ⟨none,.sto (.t 7) 0 92 0 5 (.t 26)⟩] [24,25,26]
abbrev zWT:HCode:=oQ [oD 0 false (oV 27 (.mv (.t 5))),
  oD 1 false (oV 28 (.fldP (.t 7) 1)),
  oD 2 false (oV 29 (.ldB (.t 28) 0 92 1 1 false)),
  oD 3 false (oV 30 (.bld [.v (.int .i64 0),.v (mkS [])] [(0,1,.c (iv 1)),(1,1,.t 29)])),
  oD 4 false (oV 31 (.mv (.t 5))),
  oD 5 false (oV 32 (.fldP (.t 7) 1)),
  oD 6 false (oV 33 (.ldB (.t 32) 0 92 1 1 false)),
  oD 7 false (oV 34 (.bld [.v (.int .i64 0),.v (mkS [])] [(0,1,.c (iv 1)),(1,1,.t 33)])),
  oD 8 false ⟨none,.mpv 35 (.t 31) 18 3 (.t 34) zAr 1⟩,
  oD 9 false (oV 36 (.mv (.t 6))),
  oD 10 false (oV 37 (.bslF 1 [.t 36])),
  oD 11 false ⟨none,.vap 38 zAr 1 35 (.t 37)⟩,
  oD 12 false ⟨none,.mps (.t 27) 18 3 (.t 30) (.t 38)⟩] [27,28,29,30,31,32,33,34,35,36,37,38]
abbrev zWU:HCode:=oR [oV 39 (.fldP (.t 7) 2),
  oV 40 (.ldB (.t 39) 0 92 2 1 false),
  oV 41 (.strs .neq (.t 40) (.c (sv [])))] [39,40]
abbrev zTr:HCode:=oQ [oD 0 false (oV 42 (.mv (.t 5))),
  oD 1 false (oV 43 (.fldP (.t 7) 2)),
  oD 2 false (oV 44 (.ldB (.t 43) 0 92 2 1 false)),
  oD 3 false (oV 45 (.bld [.v (.int .i64 0),.v (mkS [])] [(0,1,.c (iv 2)),(1,1,.t 44)])),
  oD 4 false (oV 46 (.mv (.t 5))),
  oD 5 false (oV 47 (.fldP (.t 7) 2)),
  oD 6 false (oV 48 (.ldB (.t 47) 0 92 2 1 false)),
  oD 7 false (oV 49 (.bld [.v (.int .i64 0),.v (mkS [])] [(0,1,.c (iv 2)),(1,1,.t 48)])),
  oD 8 false ⟨none,.mpv 50 (.t 46) 18 3 (.t 49) zAr 1⟩,
  oD 9 false (oV 51 (.mv (.t 6))),
  oD 10 false (oV 52 (.bslF 1 [.t 51])),
  oD 11 false ⟨none,.vap 53 zAr 1 50 (.t 52)⟩,
  oD 12 false ⟨none,.mps (.t 42) 18 3 (.t 45) (.t 53)⟩] [42,43,44,45,46,47,48,49,50,51,52,53]
abbrev zTs:HCode:=oR [oV 54 (.fldP (.t 7) 3),
  oV 55 (.ldB (.t 54) 0 92 3 1 false),
  oV 56 (.len false (.t 55)),
  oV 57 (.mv (.c (iv 0)))] [54]
abbrev zTt:HCode:=oN [oV 58 (.ints .lss (.t 57) (.t 56))]
abbrev zTu:HCode:=oR [oV 59 (.idxA 1 (.t 55) (.t 57)),
  oV 60 (.ldR (.t 59) 1 false),
  oV 9 (.mv (.t 60))] [59,60]
abbrev zTv:HCode:=oR [oV 61 (.mv (.t 5)),
  oV 62 (.mv (.t 9)),
  oV 63 (.bld [.v (.int .i64 0),.v (mkS [])] [(0,1,.c (iv 3)),(1,1,.t 62)]),
  oV 64 (.mv (.t 5)),
  oV 65 (.mv (.t 9)),
  oV 66 (.bld [.v (.int .i64 0),.v (mkS [])] [(0,1,.c (iv 3)),(1,1,.t 65)]),
  ⟨none,.mpv 67 (.t 64) 18 3 (.t 66) zAr 1⟩,
  oV 68 (.mv (.t 6)),
  oV 69 (.bslF 1 [.t 68]),
  ⟨none,.vap 70 zAr 1 67 (.t 69)⟩,
  ⟨none,.mps (.t 61) 18 3 (.t 63) (.t 70)⟩] [61,62,63,64,65,66,67,68,69,70]
abbrev zTw:HCode:=oR [oV 71 (.ints .add (.t 57) (.c (iv 1))),
  oV 57 (.mv (.t 71))] [71]
abbrev zTx:HCode:=oR [oV 72 (.ints .add (.t 22) (.c (iv 1))),
  oV 22 (.mv (.t 72))] [72]
abbrev zTy:HCode:=oN [⟨none,.vnl 10 zAu 3⟩]
abbrev zTz:HCode:=.regG [.vfm 18] [oV 73 (.mv (.t 5)),
  ⟨none,.mrg 74 (.t 73) 18⟩] [.forget [73]]
abbrev zTA:HCode:=oR [⟨none,.mnx 75 74 18⟩,
  oV 76 (.ext 75 0)] [75]
abbrev zTB:HCode:=oR [⟨none,.men 77 74 18⟩,
  oV 78 (.ext 77 0),
  oV 79 (.ext 77 1),
  ⟨none,.alloc 11 1 97 [.v (.int .i64 0),.v (mkS [])]⟩,
  ⟨none,.sto (.t 11) 1 97 0 2 (.t 78)⟩,
  oV 12 (.mv (.t 79))] [77,78,79]
abbrev zTC:HCode:=oR [⟨none,.vmv 80 10⟩,
  oV 81 (.fldP (.t 11) 0),
  oV 82 (.ldB (.t 81) 1 97 0 1 false),
  oV 83 (.fldP (.t 11) 1),
  oV 84 (.ldB (.t 83) 1 97 1 1 false),
  oV 85 (.mv (.t 12)),
  oV 86 (.bld [.v (.int .i64 0),.v (mkS []),.nl 1] [(0,1,.t 82),(1,1,.t 84),(2,1,.t 85)]),
  oV 87 (.bslF 3 [.t 86]),
  ⟨none,.vap 88 zAu 3 80 (.t 87)⟩,
  ⟨none,.vmv 10 88⟩] [80,81,82,83,84,85,86,87,88]
abbrev zTD:HCode:=.regG [.pin 10 0 0 []] [oV 89 (.mv (.t 10)),
  ⟨none,.cals (some 90) zDe 10 (.t 89) [(.f zBj,.v)]⟩] [.forget [89,90]]
abbrev zTE:HCode:=.regG [.vfr 10 0 0] [oV 91 (.mv (.t 10)),
  oV 2 (.mv (.t 91)),
  oV 3 (.mv (.c (iv 0)))] [.forget [91]]
abbrev yFK:HCode:=(.seq zWL (.seq (.seq zWM (.seq zWN (.cond (.t 16) (.seq zWO .ret) .skip))) (.seq zWP (.seq (.seq zWQ (.block 0 (.loop (.seq zWR (.seq (.cond (.t 23) .skip (.exit 0)) (.seq (.block 1 (.seq zWS (.seq zWT (.seq (.seq zWU (.cond (.t 41) zTr .skip)) (.seq zTs (.block 2 (.loop (.seq zTt (.seq (.cond (.t 58) .skip (.exit 2)) (.seq (.block 3 (.seq zTu zTv)) zTw)))))))))) zTx)))))) (.seq zTy (.seq (.seq zTz (.block 4 (.loop (.seq zTA (.seq (.cond (.t 76) .skip (.exit 4)) (.block 5 (.seq zTB zTC))))))) (.seq zTD (.seq zTE .ret))))))))
abbrev zNm:Env:={N:=92,Γ:=[(92,5),(97,2)],L:=99,nfix:=0}
abbrev index_Build_R:List RSrc:=[.tmp 2,.tmp 3]
theorem zWV:zBs Tryz.prog zCR yFK zNm index_Build_R:=by kernel_rfl
end Go.Hx
end

section
set_option maxRecDepth 100000
set_option linter.unusedSimpArgs false
namespace Go.Hx
open Go.Proofs
variable [Glob]
attribute [local go_sem] zAk zAl zAj zAf ndV zAm
end Go.Hx
end

section
set_option maxRecDepth 100000
set_option linter.unusedSimpArgs false
namespace Go.Hx
open Go.Proofs
variable [Glob]
attribute [local go_sem] zAk zAl zAj zAf ndV zAm
attribute [local go_sem] reduceCtorEq Nat.reduceAdd Nat.reduceEqDiff reduceIte Nat.reduceLeDiff Nat.reduceLT Nat.reduceSub
theorem zOv {d:List Nd} {i:Nat}:zCd d (i+1)=(zCd d i&&yBj d i):=zCP
theorem zWX (d:List Nd):Contract Tryz.prog zE3 [.val (zC9 d)] {res:=.val (iv (zAq d))}:=by
 unfold zC9
 refine mkA zRZ (base:=0) (fo rfl) (fun hfit=>?_)
 unfold F0 zKe
 refine goU ?_
 try simp (maxSteps:=2000000) only [go_sem,zAk]
 repeat with_reducible refine zAt ?_
 refine zAc (by repeat' constructor) (zBz _ _ _) ?_
 refine goW ?_
 refine zAa (by rfl) trivial (fun h=>?_) (fun h=>?_)
 ·refine goW ?_
  refine zAb rfl trivial (.inl ?_)
  congr 3
  have h2:¬ (1≤d.length∧d.length≤64):=by simp at h;omega
  simp [zAq,h2]
 have hr:1≤d.length∧d.length≤64:=by simp at h;omega
 obtain ⟨hr1,hr2⟩:=hr
 refine goW ?_
 refine zAd (fun i:Nat=>[(3,.pv (iv i)),(4,.un),(5,.un),(15,.un),(37,.un),(47,.un),(63,.un)]) (fun i:Nat=>d.length-i) (fun i:Nat=>i≤d.length∧zCd d i=true) (0) ?_ ⟨Nat.zero_le _,rfl⟩ ?_
 focus (exact leA)
 intro i ⟨hi,hok⟩
 try simp (maxSteps:=2000000) only [go_sem,zAk]
 repeat with_reducible refine zAt ?_
 refine zAa (by rfl) trivial (fun h2=>?_) (fun h2=>?_)
 ·have hlt:i < d.length:=by simpa using h2
  try simp (maxSteps:=2000000) only [go_sem,zAk,zAW _ _ hlt]
  repeat with_reducible refine zAt ?_
  refine zAc (by repeat' constructor) (zWK _) ?_
  try simp (maxSteps:=2000000) only [go_sem,zAk,zAW _ _ hlt,ndV]
  repeat with_reducible refine zAt ?_
  refine zAa (by rfl) trivial (fun h3=>?_) (fun h3=>?_)
  ·refine goW ?_
   refine zAb rfl trivial (.inl ?_)
   congr 3
   have:zCd d d.length=false:=by
    cases hn:zCd d d.length with
    |false=>rfl
    |true=>
     exfalso
     have h4:=zAF hn hlt
     simp only [yBj,yJi,zAX,Bool.and_eq_true] at h4
     rw [h4.1] at h3
     by_cases h5:i=0
     ·subst h5;simp at h3 h4;omega
     ·simp at h3;omega
   simp [zAq,hr1,hr2,this]
  have hn:zBo (d.getD i default)=true:=by
   cases hn:zBo (d.getD i default) with
   |true=>rfl
   |false=>rw [hn] at h3;simp at h3
  rw [hn] at h3
  have h4:i=0→zAX d i=-1:=by
   intro h5;subst h5;simpa [zAX] using h3
  have hup:=zBb hok
  refine goW ?_
  refine zAd (fun x:Int×Bool=>[(4,.pv (bv x.2)),(5,.pv (iv x.1)),(47,.un)]) (fun x:Int×Bool=>(x.1+1).toNat) (fun x:Int×Bool=>-1≤x.1∧x.1 < i∧(x.2=true→yJi d i=true)∧(x.2=false→yJi d i=(zA5 d (x.1+1).toNat x.1).contains (zAX d i))) (((i:Int)-1,(i:Int)==0)) ?_ ⟨by show -1≤(i:Int)-1;omega,by show (i:Int)-1 < i;omega,fun h=>by simp at h;subst h;simp [yJi,h4],fun h=>by simp at h;simp [yJi,h]⟩ ?_
  focus (exact leA)
  intro ⟨k,fine⟩ ⟨hk1,hk2,hk3,hk4⟩
  simp only at hk1 hk2 hk3 hk4
  refine goW ?_
  refine zAa (by rfl) trivial (fun h5=>?_) (fun h5=>?_)
  ·have hk5:0≤k∧fine=false:=by simp at h5;exact h5
   obtain ⟨hk5,rfl⟩:=hk5
   have hkn:k.toNat < d.length:=by omega
   try simp (maxSteps:=2000000) only [go_sem,zAW _ _ hlt,zAW _ _ hkn]
   repeat with_reducible refine zAt ?_
   have h6:=hup k.toNat (by omega)
   refine ⟨(zAX d k.toNat,k==zAX d i),?_,⟨h6.1,?_,?_,?_⟩,?_⟩
   ·simp only;omega
   ·simp only;omega
   ·simp only
    intro h7
    have h8:k=zAX d i:=by simpa using h7
    rw [hk4 rfl,show (k+1).toNat=k.toNat+1 by omega,zA5,if_neg (by omega),h8]
    simp
   ·simp only
    intro h7
    have h8:¬ k=zAX d i:=by simpa using h7
    rw [hk4 rfl,show (k+1).toNat=k.toNat+1 by omega,zA5,if_neg (by omega),List.contains_cons]
    rw [zEO k.toNat (zAX d k.toNat+1).toNat _ (fun j hj=>(hup j (by omega)).2) (by omega) (by omega)]
    simp [Ne.symm h8]
   ·exact leA
  ·refine goW ?_
   refine zAa (by rfl) trivial (fun h6=>?_) (fun h6=>?_)
   ·refine goW ?_
    refine zAb rfl trivial (.inl ?_)
    congr 3
    have hf:fine=false:=by simpa using h6
    subst hf
    have hk:k=-1:=by simp at h5;omega
    subst hk
    have:zCd d d.length=false:=by
     cases hn:zCd d d.length with
     |false=>rfl
     |true=>
      exfalso
      have h7:=zAF hn hlt
      simp only [yBj,Bool.and_eq_true] at h7
      rw [hk4 rfl] at h7
      simp [zA5] at h7
    simp [zAq,hr1,hr2,this]
   ·have hf:fine=true:=by simpa using h6
    subst hf
    refine goW ?_
    refine ⟨i+1,by omega,⟨hlt,?_⟩,?_⟩
    ·rw [zOv,hok,yBj,hn,hk3 rfl];rfl
    ·exact leA
 ·refine goW ?_
  refine zAb rfl trivial (.inl ?_)
  congr 3
  have:i=d.length:=by simp at h2;omega
  subst this
  simp [zAq,hr1,hr2,hok]
end Go.Hx
end

section
set_option maxRecDepth 100000
set_option linter.unusedSimpArgs false
namespace Go.Hx
open Go.Proofs
variable [Glob]
attribute [local go_sem] zAk zAl zAj zAf ndV zAm
attribute [local go_sem] reduceCtorEq Nat.reduceAdd Nat.reduceEqDiff reduceIte Nat.reduceLeDiff Nat.reduceLT Nat.reduceSub
def yJK (d:List Nd) (k:Int):Int:=if zAq d=0 then (if 0≤k∧k≤(d.length:Int)-1 then 0 else 5) else zAq d
def zAU (d:List Nd) (n:Int) (k:Nat):Int:=((List.range k).filter fun i=>(zA5 d d.length (zAX d i)).contains n).length
def zCM (d:List Nd) (n:Int):Int:=zAU d n d.length
theorem zJd {d:List Nd} {n:Int} {k:Nat}:zAU d n (k+1)=zAU d n k+(if (zA5 d d.length (zAX d k)).contains n then 1 else 0):=by
 unfold zAU
 rw [List.range_succ,List.filter_append,List.length_append,List.filter_cons,List.filter_nil]
 split<;>simp
theorem zEQ {d:List Nd} {n:Int}:∀ k:Nat,0≤zAU d n k∧zAU d n k≤k
 |0=>by simp [zAU]
 |k+1=>by have:=zEQ (d:=d) (n:=n) k;rw [zJd];split<;>omega
def zAB (d:List Nd) (n:Int) (k:Nat):List Int:=((List.range k).filter fun i=>decide (zAX d i=n)).map Int.ofNat
def zEw (d:List Nd) (n:Int):List Int:=zAB d n d.length
theorem zAM {d:List Nd} {n:Int} {k:Nat}:zAB d n (k+1)=if zAX d k=n then zAB d n k++[(k:Int)] else zAB d n k:=by
 unfold zAB
 rw [List.range_succ,List.filter_append,List.map_append]
 by_cases h:zAX d k=n<;>simp [List.filter,h]
theorem zDU {d:List Nd} {n:Int} (k:Nat):(zAB d n k).length≤k:=by
 unfold zAB
 rw [List.length_map]
 exact Nat.le_trans (List.length_filter_le _ _) (by simp)
theorem zPn (d:List Nd) (n:Int) (hd:d.length≤64):Contract Tryz.prog zEB [.val (zC9 d),.val (iv n)] {res:=.own zAr 1 (zAy (zEw d n))}:=by
 unfold zC9
 refine mkA zYP (base:=0) (fo rfl) (fun hfit=>?_)
 unfold F0 zO6
 refine goU ?_
 have hm:=zDn (k:=5) (hfit.1.1)
 rw [zAk] at hm
 refine zAd (fun i:Nat=>[(5,.own zAr 1 (zAy (zAB d n i))),(6,.pv (iv i)),(11,.un),(21,.un)]) (fun i:Nat=>d.length-i) (fun i:Nat=>i≤d.length) (0) ?_ (Nat.zero_le _) ?_
 focus (exact leA)
 intro i hi
 refine goW ?_
 have hu:=zDU (d:=d) (n:=n) i
 refine zAa (by rfl) trivial (fun h=>?_) (fun h=>?_)
 ·have hlt:i < d.length:=by simpa using h
  try simp (maxSteps:=2000000) only [go_sem,zAW _ _ hlt]
  repeat with_reducible refine zAt ?_
  refine zAa (by rfl) trivial (fun h2=>?_) (fun h2=>?_)
  ·refine goW ?_
   refine ⟨i+1,by omega,hlt,?_⟩
   simp (maxSteps:=2000000) only [go_sem,zAC,zA1,zB5,zAD]
   all_goals (repeat' (first|exact trivial|exact zA2 (by omega)|exact zA4 rfl|exact zBm rfl|exact zBK|exact le_refl _|refine And.intro ?_ ?_))
   refine zXq ?_
   have h3:zAX d i=n:=by simpa [zAX] using h2
   simp [zAM,h3,zAy]
  ·refine goW ?_
   refine ⟨i+1,by omega,hlt,?_⟩
   simp (maxSteps:=2000000) only [go_sem,zAC,zA1,zB5,zAD]
   all_goals (repeat' (first|exact trivial|exact zA2 (by omega)|exact zA4 rfl|exact zBm rfl|exact zBK|exact le_refl _|refine And.intro ?_ ?_))
   refine zXq ?_
   have h3:¬ zAX d i=n:=by simpa [zAX] using h2
   simp [zAM,h3,zAy]
 ·refine goW ?_
  have:i=d.length:=by simp at h;omega
  subst this
  exact zF0 rfl
end Go.Hx
end

section
set_option maxRecDepth 100000
set_option linter.unusedSimpArgs false
namespace Go.Hx
open Go.Proofs
variable [Glob]
inductive Tr where
 |mk (x:Nd) (k:List Tr)
instance:Inhabited Tr:=⟨.mk default []⟩
attribute [local go_sem] zAk zAl zAj zAf ndV zAm List.take_zero List.map_nil
def Tr.nd:Tr→Nd|.mk x _=>x
mutual
def trV:Tr→List PV
 |.mk x k=>[bI x.up,bS x.tag,bS x.id,.sl 1 (zUg x.cls),.sl 2 (yGI x.att),.sl 6 (yOb k)]
def yOb:List Tr→List (List PV)
 |[]=>[]
 |t::r=>trV t::yOb r
end
theorem yG1:∀ l:List Tr,yOb l=l.map trV
 |[]=>rfl
 |t::r=>by simp [yOb,yG1 r]
theorem yFM (t:Tr):(trV t).length=6:=by cases t;rfl
attribute [local go_sem] yFM
theorem yAW (t:Tr):(trV t).map PV.norm=trV t:=by cases t;rfl
attribute [local go_sem] yAW
theorem yAX:yOb []=[]:=rfl
attribute [local go_sem] yAX
theorem yAY (l:List Tr):(yOb l).length=l.length:=by simp [yG1]
attribute [local go_sem] yAY
theorem zG6 {d:List Nd} (hd:zCd d d.length=true) {n:Nat} (h:n < d.length):zBo (d.getD n default)=true:=by
 have:=zAF hd h
 simp only [yBj,Bool.and_eq_true] at this
 exact this.1
theorem zEb {x:Nd} (h:zBo x=true):x.cls.length≤6∧x.att.length≤4:=by
 simp only [zBo,Bool.and_eq_true,decide_eq_true_eq] at h
 exact ⟨h.1.1.1.2,h.1.1.2⟩
end Go.Hx
end

section
set_option maxRecDepth 100000
set_option linter.unusedSimpArgs false
namespace Go.Hx
open Go.Proofs
variable [Glob]
attribute [local go_sem] zAk zAl zAj zAf ndV zAm yAY yAX yFM yAW List.take_zero List.map_nil
end Go.Hx
end

section
set_option maxRecDepth 100000
set_option linter.unusedSimpArgs false
namespace Go.Hx
open Go.Proofs
variable [Glob]
attribute [local go_sem] zAk zAl zAj zAf ndV zAm yAY yAX yFM yAW List.take_zero List.map_nil
theorem zFo {d:List Nd} (h:zAq d=0):1≤d.length∧d.length≤64∧zCd d d.length=true:=by
 unfold zAq at h
 split at h
 ·rename_i h1
  split at h
  ·rename_i h2
   exact ⟨h1.1,h1.2,h2⟩
  ·omega
 ·omega
end Go.Hx
end

section
set_option maxRecDepth 100000
set_option linter.unusedSimpArgs false
namespace Go.Hx
open Go.Proofs
variable [Glob]
attribute [local go_sem] zAk zAl zAj zAf ndV zAm zAh
attribute [local go_sem] reduceCtorEq Nat.reduceAdd Nat.reduceEqDiff reduceIte Nat.reduceLeDiff Nat.reduceLT Nat.reduceSub
theorem zPo (n lo hi:Int):Contract Tryz.prog zAG [.val (iv n),.val (iv lo),.val (iv hi)] {res:=.val (bv (decide (lo≤n∧n≤hi)))}:=by
 refine mkA zL5 (base:=0) (fo rfl) (fun hfit=>?_)
 unfold F0 zIe
 refine goU ?_
 refine zAb rfl trivial (.inl ?_)
 congr 3
 by_cases h1:lo≤n<;>by_cases h2:n≤hi<;>simp [h1,h2]
theorem yJP {a b:Int} (h:zPy a b=0):(-1048576≤a∧a≤1048576)∧(-1048576≤b∧b≤1048576):=by
 unfold zPy at h
 split at h
 ·rename_i h1;simpa [zRA] using h1
 ·cases h
def yLG (a b:Int):PVal:=.agg [bI a,bI b]
theorem zKk (a b:Int):Contract Tryz.prog zDs [.val (yLG a b)] {res:=.val (iv (zPy a b))}:=by
 unfold yLG
 refine mkA zSk (base:=0) (fo rfl) (fun hfit=>?_)
 unfold F0 zKg
 refine goU ?_
 refine zAc (by repeat' constructor) (zPo a (-1048576) 1048576) ?_
 refine goW ?_
 apply zAg (h2:=fun _=>zPo b (-1048576) 1048576)
 ·(simp (maxSteps:=2000000) only [go_sem];rfl)
 ·intro h;repeat' (first|exact trivial|exact h|refine And.intro ?_ ?_)
 refine goW ?_
 refine zAa (by rfl) trivial (fun h=>?_) (fun h=>?_)
 ·refine goW ?_
  refine zAb rfl trivial (.inl ?_)
  congr 3
  unfold zPy zRA
  rw [if_neg]
  simp at h ⊢
  omega
 ·refine goW ?_
  refine zAb rfl trivial (.inl ?_)
  congr 3
  unfold zPy zRA
  rw [if_pos]
  simp at h ⊢
  omega
theorem zTL (a b:Int):Contract Tryz.prog zFN [.val (yLG a b)] {res:=.val (iv (zPy a b))}:=by
 unfold yLG
 refine mkA yCs (base:=0) (fo rfl) (fun hfit=>?_)
 unfold F0 zSe
 refine goU ?_
 refine zAd (fun i:Nat=>[(4,.un),(10,.pv (iv i)),(11,.un),(18,.un)]) (fun i:Nat=>2-i) (fun i:Nat=>i≤2∧(1≤i→zRA a=true)∧(2≤i→zRA b=true)) (0) ?_ ⟨by omega,by omega,by omega⟩ ?_
 focus (exact leA)
 intro i hi
 obtain ⟨h1,h2,h3⟩:=hi
 refine goW ?_
 refine zAa (by rfl) trivial (fun h=>?_) (fun h=>?_)
 ·have hlt:i < 2:=by simp at h;omega
  have hcase:i=0∨i=1:=by omega
  rcases hcase with rfl|rfl
  ·try simp (maxSteps:=2000000) only [go_sem,List.getD_cons_zero,Int.toNat_natCast,Int.cast_ofNat_Int,Int.toNat_zero,PV.norm]
   repeat with_reducible refine zAt ?_
   refine zAa (by rfl) trivial (fun h9=>?_) (fun h9=>?_)
   ·refine goW ?_
    refine zAb rfl trivial (.inl ?_)
    congr 3
    unfold zPy
    rw [if_neg]
    simp [zRA] at h9 ⊢
    omega
   ·refine goW ?_
    refine ⟨1,by omega,⟨by omega,fun _=>?_,by omega⟩,?_⟩
    ·simp [zRA] at h9 ⊢;omega
    ·exact leA
  ·try simp (maxSteps:=2000000) only [go_sem,List.getD_cons_zero,List.getD_cons_succ,Int.toNat_natCast,Int.cast_ofNat_Int,Int.toNat_one,PV.norm]
   repeat with_reducible refine zAt ?_
   refine zAa (by rfl) trivial (fun h9=>?_) (fun h9=>?_)
   ·refine goW ?_
    refine zAb rfl trivial (.inl ?_)
    congr 3
    unfold zPy
    rw [if_neg]
    simp [zRA] at h9 ⊢
    omega
   ·refine goW ?_
    refine ⟨2,by omega,⟨by omega,fun _=>h2 (by omega),fun _=>?_⟩,?_⟩
    ·simp [zRA] at h9 ⊢;omega
    ·exact leA
 ·refine goW ?_
  have:i=2:=by simp at h;omega
  refine zAb rfl trivial (.inl ?_)
  congr 3
  unfold zPy
  rw [h2 (by omega),h3 (by omega)]
  rfl
def zFU (a b i:Int):Bool:=decide (zPy a b=0∧1≤i∧i≤1073741824)&&(if a=0 then decide (i-b=0) else decide ((i-b).tmod a=0)&&decide (0≤(i-b).tdiv a))
theorem yIk {x y:Int} (h1:-2147483648≤x) (h2:x≤2147483648):-2147483648≤x.tdiv y∧x.tdiv y≤2147483648:=by
 have h:=Int.natAbs_tdiv_le_natAbs x y
 omega
theorem zTM (a b i:Int):Contract Tryz.prog zFO [.val (yLG a b),.val (iv i)] {res:=.val (bv (zFU a b i))}:=by
 unfold yLG
 refine mkA yCA (base:=0) (fo rfl) (fun hfit=>?_)
 unfold F0 zSf
 refine goU ?_
 refine zAc (by repeat' constructor) (zTL a b) ?_
 refine goW ?_
 refine zAa (by rfl) trivial (fun h=>?_) (fun h=>?_)
 ·refine goW ?_
  refine zAb rfl trivial (.inl ?_)
  congr 3
  unfold zFU
  rw [decide_eq_false]
  ·rfl
  ·simp at h;omega
 have h2:zPy a b=0∧1≤i∧i≤1073741824:=by simp at h;omega
 obtain ⟨h3,h4⟩:=yJP h2.1
 refine goW ?_
 have hh:zFU a b i=(if a=0 then decide (i-b=0) else decide ((i-b).tmod a=0)&&decide (0≤(i-b).tdiv a)):=by
  unfold zFU
  rw [decide_eq_true h2,Bool.true_and]
 refine zAa (by rfl) trivial (fun h5=>?_) (fun h5=>?_)
 ·refine goW ?_
  refine zAb rfl trivial (.inl ?_)
  congr 3
  rw [hh,if_pos (by simpa using h5)]
  grind
 ·have ha:a≠0:=by simpa using h5
  have hd:=yIk (x:=i-b) (y:=a) (by omega) (by omega)
  try simp (maxSteps:=2000000) only [go_sem,ha]
  repeat with_reducible refine zAt ?_
  refine zAb rfl trivial (.inl ?_)
  congr 3
  rw [hh,if_neg ha]
  grind
def zEK (a b i:Int):Bool:=if zPy a b=0∧1≤i∧i≤1073741824 then (if a=0∨i=b then decide (i=b) else if 0 < a then decide (b < i)&&decide ((i-b).tmod a=0) else decide (i < b)&&decide ((b-i).tmod (-a)=0)) else false
theorem zKl (a b i:Int):Contract Tryz.prog zDt [.val (yLG a b),.val (iv i)] {res:=.val (bv (zEK a b i))}:=by
 unfold yLG
 refine mkA zSt (base:=0) (fo rfl) (fun hfit=>?_)
 unfold F0 zKh
 refine goU ?_
 refine zAc (by repeat' constructor) (zKk a b) ?_
 refine goW ?_
 refine zAa (by rfl) trivial (fun h=>?_) (fun h=>?_)
 ·refine goW ?_
  refine zAb rfl trivial (.inl ?_)
  congr 3
  unfold zEK
  rw [if_neg (by simp at h;omega)]
 have h2:zPy a b=0∧1≤i∧i≤1073741824:=by simp at h;omega
 obtain ⟨h3,h4⟩:=yJP h2.1
 refine goW ?_
 have hh:zEK a b i=(if a=0∨i=b then decide (i=b) else if 0 < a then decide (b < i)&&decide ((i-b).tmod a=0) else decide (i < b)&&decide ((b-i).tmod (-a)=0)):=by
  unfold zEK
  rw [if_pos h2]
 refine zAa (by rfl) trivial (fun h5=>?_) (fun h5=>?_)
 ·refine goW ?_
  refine zAb rfl trivial (.inl ?_)
  congr 3
  rw [hh,if_pos (by simp at h5;omega)]
  grind
 have h6:¬ (a=0∨i=b):=by simp at h5;omega
 have ha:a≠0:=by omega
 refine goW ?_
 refine zAa (by rfl) trivial (fun h7=>?_) (fun h7=>?_)
 ·have h8:0 < a:=by simpa using h7
  try simp (maxSteps:=2000000) only [go_sem,ha]
  repeat with_reducible refine zAt ?_
  refine zAb rfl trivial (.inl ?_)
  congr 3
  rw [hh,if_neg h6,if_pos h8]
  grind
 ·have h8:¬ 0 < a:=by simpa using h7
  have hna:-a≠0:=by omega
  try simp (maxSteps:=2000000) only [go_sem,hna]
  repeat with_reducible refine zAt ?_
  refine zAb rfl trivial (.inl ?_)
  congr 3
  rw [hh,if_neg h6,if_neg h8]
  grind
end Go.Hx
end

section
set_option maxRecDepth 100000
set_option linter.unusedSimpArgs false
namespace Go.Hx
open Go.Proofs
variable [Glob]
attribute [local go_sem] zAk zAl zAj zAf ndV zAm zAh zC9
attribute [local go_sem] reduceCtorEq Nat.reduceAdd Nat.reduceEqDiff reduceIte Nat.reduceLeDiff Nat.reduceLT Nat.reduceSub
theorem yJQ {α:Type} {p:α→Bool} {l:List α} {i:Nat} (d:α) (h:i < l.length) (h0:(l.take i).find? p=none):(p (l.getD i d)=true→l.find? p=some (l.getD i d))∧(p (l.getD i d)=false→(l.take (i+1)).find? p=none):=by
 have e1:l=l.take i++l.getD i d::l.drop (i+1):=by
  have:l.drop i=l.getD i d::l.drop (i+1):=by
   rw [List.getD_eq_getElem?_getD,List.getElem?_eq_getElem h];exact List.drop_eq_getElem_cons h
  rw [←this,List.take_append_drop]
 have e2:l.take (i+1)=l.take i++[l.getD i d]:=by
  rw [List.take_add_one];simp [h]
 refine ⟨fun hp=>?_,fun hp=>?_⟩
 ·rw [e1,List.find?_append,h0,Option.none_or]
  rw [←e1,List.find?_cons,hp]
 ·rw [e2,List.find?_append,h0,Option.none_or,List.find?_cons,hp]
  rfl
theorem yDq (x:Nd) (nm:Bys) (h:x.att.length≤64):Contract Tryz.prog zHm [.val (.agg (ndV x)),.val (sv nm)] {res:=.tup [sv ((zCQ x.att nm).getD []),bv (zCQ x.att nm).isSome]}:=by
 unfold ndV
 refine mkA zZD (base:=0) (fo rfl) (fun hfit=>?_)
 unfold F0 zPe
 refine goU ?_
 refine zAd (fun i:Nat=>[(6,.pv (iv i)),(4,.un),(5,.un),(11,.un),(21,.un)]) (fun i:Nat=>x.att.length-i) (fun i:Nat=>i≤x.att.length∧(x.att.take i).find? (fun a=>decide (a.1=nm))=none) (0) ?_ ⟨Nat.zero_le _,by simp⟩ ?_
 focus (exact leA)
 rintro i ⟨hi,hf⟩
 refine goW ?_
 refine zAa (by rfl) trivial (fun g1=>?_) (fun g1=>?_)
 ·have hil:i < x.att.length:=by simpa using g1
  have hv:=zEz x.att i hil
  obtain ⟨h1,h2⟩:=yJQ default hil hf
  obtain ⟨y,hy⟩:∃ y,y=x.att.getD i default:=⟨_,rfl⟩
  rw [←hy] at h1 h2 hv
  try simp (maxSteps:=2000000) only [go_sem,hv]
  repeat with_reducible refine zAt ?_
  refine zAa (by rfl) trivial (fun g2=>?_) (fun g2=>?_)
  ·try simp (maxSteps:=2000000) only [go_sem,hv]
   repeat with_reducible refine zAt ?_
   have e:=h1 (by simpa using g2)
   exact zBd (by simp) ⟨zAH rfl trivial (.inl (by rw [zCQ,e];rfl)),zAH rfl trivial (.inl (by rw [zCQ,e];rfl)),rfl⟩
  ·refine goW ?_
   refine ⟨i+1,by omega,⟨by omega,h2 (by simpa using g2)⟩,?_⟩
   exact leA
 ·refine goW ?_
  have hil:i=x.att.length:=by simp at g1;omega
  rw [hil,List.take_length] at hf
  exact zBd (by simp) ⟨zAH rfl trivial (.inl (by rw [zCQ,hf];rfl)),zAH rfl trivial (.inl (by rw [zCQ,hf];rfl)),rfl⟩
theorem zTN (s t:Bys) (i:Int):(bif bif decide (0≤i) then decide (i+t.length≤s.length) else false then ((s.take (i+t.length).toNat).drop i.toNat==t) else false)=zAN s t i:=by
 by_cases h1:0≤i
 ·by_cases h2:i+t.length≤s.length
  ·have e:(i+(t.length:Int)).toNat=i.toNat+t.length:=by omega
   have e2:(s.take (i.toNat+t.length)).drop i.toNat=(s.drop i.toNat).take t.length:=by rw [List.drop_take];congr 1;omega
   simp only [zAN,h1,h2,e,e2,decide_true,cond_true,and_self,Bool.true_and]
   rw [Bool.eq_iff_iff,beq_iff_eq,decide_eq_true_eq]
  ·simp [zAN,h1,h2]
 ·simp [zAN,h1]
theorem zBA (s t:Bys) (i:Int) (hs:s.length≤64) (ht:t.length≤64) (hi:-100≤i∧i≤100):Contract Tryz.prog zB0 [.val (sv s),.val (sv t),.val (iv i)] {res:=.val (bv (zAN s t i))}:=by
 by_cases h1:0≤i
 ·by_cases h2:i+t.length≤s.length
  ·refine mkA zFb (base:=0) (fo rfl) (fun hfit=>?_)
   unfold F0 zD3
   refine goU ?_
   exact zAb rfl trivial (.inl (by rw [zTN]))
  ·refine mkA zFb (base:=0) (fo rfl) (fun hfit=>?_)
   unfold F0 zD3
   refine goU ?_
   exact zAb rfl trivial (.inl (by rw [zTN]))
 ·refine mkA zFb (base:=0) (fo rfl) (fun hfit=>?_)
  unfold F0 zD3
  refine goU ?_
  exact zAb rfl trivial (.inl (by rw [zTN]))
theorem yJR {s t:Bys} {i:Nat} (h:zAN s t i=true):i+t.length≤s.length:=by
 simp only [zAN,Bool.and_eq_true,decide_eq_true_eq] at h
 omega
theorem zCT {p:Nat→Bool} {n:Nat}:(List.range (n+1)).any p=((List.range n).any p||p n):=by
 rw [List.range_succ,List.any_append];simp
theorem yNN (c k:UInt8):(((c.toNat:Int)==(k.toNat:Int)):Bool)=decide (c=k):=by
 rw [Bool.eq_iff_iff,beq_iff_eq,decide_eq_true_eq,Int.ofNat_inj,UInt8.toNat_inj]
theorem yIl (s t:Bys) (hs:s.length≤64) (ht:t.length≤64):Contract Tryz.prog zKJ [.val (sv s),.val (sv t)] {res:=.val (bv (zUs s t))}:=by
 have hb32:∀ c:UInt8,(((c.toNat:Int)==32):Bool)=decide (c=32):=fun c=>yNN c 32
 refine mkA yE8 (base:=0) (fo rfl) (fun hfit=>?_)
 unfold F0 zXx
 refine goU ?_
 refine zAa (by rfl) trivial (fun g1=>?_) (fun g1=>?_)
 ·refine goW ?_
  refine zAb rfl trivial (.inl ?_)
  congr 3
  have ht0:t=[]:=by simpa using g1
  simp [zUs,ht0]
 have ht0:t≠[]:=by simpa using g1
 refine goW ?_
 refine zAd (fun i:Nat=>[(5,.pv (iv i)),(4,.un),(12,.un),(18,.un)]) (fun i:Nat=>t.length-i) (fun i:Nat=>i≤t.length∧(t.take i).all (fun c=>decide (c≠32))=true) (0) ?_ ⟨Nat.zero_le _,rfl⟩ ?_
 focus (exact leA)
 rintro i ⟨hi,ha⟩
 refine goW ?_
 refine zAa (by rfl) trivial (fun g2=>?_) (fun g2=>?_)
 ·have hil:i < t.length:=by simpa using g2
  have hst:=zHi (p:=fun c=>decide (c≠(32:UInt8))) (d:=0) hil
  refine goW ?_
  refine zAa (by rfl) trivial (fun g3=>?_) (fun g3=>?_)
  ·refine goW ?_
   have h32:t.getD i 0=32:=by rw [hb32] at g3;simpa using g3
   refine zAb rfl trivial (.inl ?_)
   have:t.all (fun c=>decide (c≠(32:UInt8)))=false:=by
    rw [List.all_eq_false]
    exact ⟨t.getD i 0,by simp [hil],by rw [h32];simp⟩
   rw [zUs,this]
   simp
  ·refine goW ?_
   refine ⟨i+1,by omega,⟨by omega,?_⟩,?_⟩
   ·rw [hst,ha]
    rw [hb32] at g3
    simpa using g3
   ·exact leA
 ·have hil:i=t.length:=by simp at g2;omega
  rw [hil,List.take_length] at ha
  have hin:∀ j,j≤s.length→zD5 s t j=true→zUs s t=true:=by
   intro j hj h
   simp only [zUs,ha,Bool.and_true,Bool.and_eq_true,List.any_eq_true,List.mem_range]
   exact ⟨by simpa using ht0,j,by omega,h⟩
  refine goW ?_
  refine zAd (fun j:Nat=>[(6,.pv (iv j)),(4,.un),(22,.un),(57,.un)]) (fun j:Nat=>s.length+1-j) (fun j:Nat=>j≤s.length+1∧(List.range j).any (zD5 s t)=false) (0) ?_ ⟨Nat.zero_le _,rfl⟩ ?_
  focus (exact leA)
  rintro j ⟨hj,hw⟩
  refine goW ?_
  refine zAa (by rfl) trivial (fun g4=>?_) (fun g4=>?_)
  ·have hjl:j≤s.length:=by simp at g4;omega
   have hsucc:=zCT (p:=zD5 s t) (n:=j)
   refine goW ?_
   cases hb:zAN s t j with
   |false=>
    refine zAc (by repeat' constructor) (zBA s t j hs ht (by omega)) ?_
    try simp (maxSteps:=2000000) only [go_sem,hb]
    repeat with_reducible refine zAt ?_
    refine zAa (by rfl) trivial (fun g5=>?_) (fun g5=>?_)
    ·refine goW ?_
     exact zAb rfl trivial (.inl (by rw [hin j (by omega) (by revert g5;simp [zD5,hb,hb32])]))
    ·refine goW ?_
     refine ⟨j+1,by omega,⟨by omega,?_⟩,?_⟩
     ·rw [hsucc,hw,Bool.false_or]
      revert g5
      simp [zD5,hb,hb32]
     ·exact leA
   |true=>
    have hle:=yJR hb
    by_cases hj0:j=0
    ·subst hj0
     have e0:(((0:Nat):Int)+(t.length:Int)).toNat=t.length:=by omega
     have hei:(((t.length:Nat):Int)=(s.length:Int))↔t.length=s.length:=by omega
     have hb0:zAN s t 0=true:=hb
     by_cases he:t.length=s.length
     ·refine zAc (by repeat' constructor) (zBA s t (0:Nat) hs ht (by omega)) ?_
      try simp (maxSteps:=2000000) only [go_sem,hb,he]
      repeat with_reducible refine zAt ?_
      refine zAa (by rfl) trivial (fun g5=>?_) (fun g5=>?_)
      ·refine goW ?_
       exact zAb rfl trivial (.inl (by rw [hin 0 (by omega) (by revert g5;simp [zD5,hb0,hb32,hei,he])]))
      ·refine goW ?_
       refine ⟨0+1,by omega,⟨by omega,?_⟩,?_⟩
       ·rw [hsucc,hw,Bool.false_or]
        revert g5
        simp [zD5,hb0,hb32,hei,he]
       ·exact leA
     ·refine zAc (by repeat' constructor) (zBA s t (0:Nat) hs ht (by omega)) ?_
      try simp (maxSteps:=2000000) only [go_sem,hb,e0]
      repeat with_reducible refine zAt ?_
      refine zAa (by rfl) trivial (fun g5=>?_) (fun g5=>?_)
      ·refine goW ?_
       exact zAb rfl trivial (.inl (by rw [hin 0 (by omega) (by revert g5;simp [zD5,hb0,hb32,hei,he])]))
      ·refine goW ?_
       refine ⟨0+1,by omega,⟨by omega,?_⟩,?_⟩
       ·rw [hsucc,hw,Bool.false_or]
        revert g5
        simp [zD5,hb0,hb32,hei,he]
       ·exact leA
    ·have e0:((j:Int)-1).toNat=j-1:=by omega
     have e1:((j:Int)+(t.length:Int)).toNat=j+t.length:=by omega
     have hei:((j:Int)+(t.length:Int)=(s.length:Int))↔j+t.length=s.length:=by omega
     by_cases he:j+t.length=s.length
     ·refine zAc (by repeat' constructor) (zBA s t j hs ht (by omega)) ?_
      try simp (maxSteps:=2000000) only [go_sem,hb,he,e0,e1]
      repeat with_reducible refine zAt ?_
      refine zAa (by rfl) trivial (fun g5=>?_) (fun g5=>?_)
      ·refine goW ?_
       exact zAb rfl trivial (.inl (by rw [hin j (by omega) (by revert g5;simp [zD5,hb,hb32,hei,he,hj0])]))
      ·refine goW ?_
       refine ⟨j+1,by omega,⟨by omega,?_⟩,?_⟩
       ·rw [hsucc,hw,Bool.false_or]
        revert g5
        simp [zD5,hb,hb32,hei,he,hj0]
       ·exact leA
     ·refine zAc (by repeat' constructor) (zBA s t j hs ht (by omega)) ?_
      try simp (maxSteps:=2000000) only [go_sem,hb,e0,e1]
      repeat with_reducible refine zAt ?_
      refine zAa (by rfl) trivial (fun g5=>?_) (fun g5=>?_)
      ·refine goW ?_
       exact zAb rfl trivial (.inl (by rw [hin j (by omega) (by revert g5;simp [zD5,hb,hb32,hei,he,hj0])]))
      ·refine goW ?_
       refine ⟨j+1,by omega,⟨by omega,?_⟩,?_⟩
       ·rw [hsucc,hw,Bool.false_or]
        revert g5
        simp [zD5,hb,hb32,hei,he,hj0]
       ·exact leA
  ·refine goW ?_
   have hjl:j=s.length+1:=by simp at g4;omega
   rw [hjl] at hw
   exact zAb rfl trivial (.inl (by rw [zUs,hw];simp))
end Go.Hx
end

section
set_option maxRecDepth 100000
set_option linter.unusedSimpArgs false
namespace Go.Hx
open Go.Proofs
variable [Glob]
attribute [local go_sem] zAk zAl zAj zAf ndV zAm zAh zC9
attribute [local go_sem] reduceCtorEq Nat.reduceAdd Nat.reduceEqDiff reduceIte Nat.reduceLeDiff Nat.reduceLT Nat.reduceSub
theorem zOx (k:Int) (s t:Bys) (hs:s.length≤64) (ht:t.length≤64):Contract Tryz.prog zDu [.val (iv k),.val (sv s),.val (sv t)] {res:=.val (bv (zCI k s t))}:=by
 refine mkA zMA (base:=0) (fo rfl) (fun hfit=>?_)
 unfold F0 zGH
 refine goU ?_
 refine zAa (by rfl) trivial (fun g3=>?_) (fun g3=>?_)
 ·have hk:k=3:=by simpa using g3
  refine goW ?_
  exact zAb rfl trivial (.inl (by simp [zCI,hk]))
 have k3:k≠3:=by simpa using g3
 refine goW ?_
 refine zAa (by rfl) trivial (fun g4=>?_) (fun g4=>?_)
 ·have hk:k=4:=by simpa using g4
  refine goW ?_
  refine zAb rfl trivial (.inl ?_)
  rw [zCI,if_neg k3,if_pos hk]
  congr 3
  rw [Bool.eq_iff_iff];simp
 have k4:k≠4:=by simpa using g4
 refine goW ?_
 refine zAa (by rfl) trivial (fun g8=>?_) (fun g8=>?_)
 ·have hk:k=8:=by simpa using g8
  refine goW ?_
  refine zAc (by repeat' constructor) (yIl s t hs ht) ?_
  refine goW ?_
  refine zAb rfl trivial (.inl ?_)
  rw [zCI,if_neg k3,if_neg k4,if_pos hk]
 have k8:k≠8:=by simpa using g8
 refine goW ?_
 have hv:zCI k s t=(if t=[] then false else if k=5 then zAN s t 0 else if k=6 then zAN s t ((s.length:Int)-t.length) else (List.range s.length).any fun i=>zAN s t i):=by
  rw [zCI,if_neg k3,if_neg k4,if_neg k8]
 rw [hv]
 refine zAa (by rfl) trivial (fun g1=>?_) (fun g1=>?_)
 ·have h0:t=[]:=by simpa using g1
  refine goW ?_
  exact zAb rfl trivial (.inl (by rw [if_pos h0]))
 have h0:t≠[]:=by simpa using g1
 rw [if_neg h0]
 refine goW ?_
 refine zAa (by rfl) trivial (fun g5=>?_) (fun g5=>?_)
 ·have hk:k=5:=by simpa using g5
  refine goW ?_
  refine zAc (by repeat' constructor) (zBA s t 0 hs ht (by omega)) ?_
  refine goW ?_
  exact zAb rfl trivial (.inl (by rw [if_pos hk]))
 have k5:k≠5:=by simpa using g5
 refine goW ?_
 refine zAa (by rfl) trivial (fun g6=>?_) (fun g6=>?_)
 ·have hk:k=6:=by simpa using g6
  refine goW ?_
  refine zAc (by repeat' constructor) (zBA s t _ hs ht (by omega)) ?_
  refine goW ?_
  exact zAb rfl trivial (.inl (by rw [if_neg k5,if_pos hk]))
 have k6:k≠6:=by simpa using g6
 refine goW ?_
 rw [if_neg k5,if_neg k6]
 refine zAd (fun i:Nat=>[(7,.pv (iv i)),(6,.un),(42,.un),(48,.un)]) (fun i:Nat=>s.length-i) (fun i:Nat=>i≤s.length∧(List.range i).any (fun i:Nat=>zAN s t i)=false) (0) ?_ ⟨Nat.zero_le _,rfl⟩ ?_
 focus (exact leA)
 rintro i ⟨hi,hw⟩
 refine goW ?_
 refine zAa (by rfl) trivial (fun g2=>?_) (fun g2=>?_)
 ·have hil:i < s.length:=by simpa using g2
  refine goW ?_
  refine zAc (by repeat' constructor) (zBA s t i hs ht (by omega)) ?_
  refine goW ?_
  refine zAa (by rfl) trivial (fun g7=>?_) (fun g7=>?_)
  ·refine goW ?_
   exact zAb rfl trivial (.inl (by rw [List.any_eq_true.2 ⟨i,List.mem_range.2 hil,g7⟩]))
  ·refine goW ?_
   refine ⟨i+1,by omega,⟨by omega,?_⟩,?_⟩
   ·rw [zCT,hw,g7];rfl
   ·exact leA
 ·refine goW ?_
  have hil:i=s.length:=by simp at g2;omega
  rw [hil] at hw
  exact zAb rfl trivial (.inl (by rw [hw]))
theorem yA0 (d:List Nd) (n:Nat):zCr d n=if n=0 then [0] else zEw d (zAX d n):=rfl
theorem zPp (d:List Nd) (n:Nat) (hl:d.length≤64) (hn:n < d.length):Contract Tryz.prog zEH [.val (zC9 d),.val (iv n)] {res:=.own zAr 1 (zAy (zCr d n))}:=by
 have hv:=zAW d n hn
 unfold zC9
 refine mkA zZI (base:=0) (fo rfl) (fun hfit=>?_)
 unfold F0 zPf
 refine goU ?_
 refine zAa (by rfl) trivial (fun g1=>?_) (fun g1=>?_)
 ·have h0:n=0:=by simpa using g1
  refine goW ?_
  refine zF0 ?_
  rw [yA0,if_pos h0]
  rfl
 ·have h0:n≠0:=by simpa using g1
  have hk:=zPn d (zAX d n) hl
  try simp (maxSteps:=2000000) only [go_sem,hv,ndV]
  repeat with_reducible refine zAt ?_
  refine zFD (by repeat' constructor) (hk) ?_
  refine goW ?_
  refine zF0 ?_
  rw [yA0,if_neg h0]
  rfl
theorem zLH {α:Type} {l:List α} {i:Nat} (d:α) (h:i < l.length):l.take (i+1)=l.take i++[l.getD i d]:=by
 rw [List.take_add_one];simp [h]
theorem yIm {l:List Int} {n:Int} {i:Nat} (h:i < l.length) (h0:(l.take i).findIdx? (fun x=>decide (x=n))=none):(l.getD i 0=n→zAT l n=i)∧(l.getD i 0≠n→(l.take (i+1)).findIdx? (fun x=>decide (x=n))=none):=by
 rw [List.findIdx?_eq_none_iff] at h0
 refine ⟨fun e=>?_,fun e=>?_⟩
 ·unfold zAT
  have:l.findIdx? (fun x=>decide (x=n))=some i:=by
   rw [List.findIdx?_eq_some_iff_getElem]
   refine ⟨h,by simpa [h] using e,fun j hj=>?_⟩
   have:=h0 l[j] (by rw [List.mem_take_iff_getElem];exact ⟨j,by omega,rfl⟩)
   simpa using this
  rw [this]
 ·rw [List.findIdx?_eq_none_iff,zLH 0 h]
  intro x hx
  rcases List.mem_append.1 hx with hx|hx
  ·exact h0 x hx
  ·rw [List.mem_singleton.1 hx]
   simpa using e
theorem zEL (l:List Int) (n:Int) (hl:l.length≤64):Contract Tryz.prog zCi [.val (.one (.sl 1 (zAy l))),.val (iv n)] {res:=.val (iv (zAT l n))}:=by
 refine mkA zVr (base:=0) (fo rfl) (fun hfit=>?_)
 unfold F0 zMB
 refine goU ?_
 refine zAd (fun i:Nat=>[(5,.pv (iv i)),(4,.un),(9,.un),(17,.un)]) (fun i:Nat=>l.length-i) (fun i:Nat=>i≤l.length∧(l.take i).findIdx? (fun x=>decide (x=n))=none) (0) ?_ ⟨Nat.zero_le _,by simp⟩ ?_
 focus (exact leA)
 rintro i ⟨hi,hw⟩
 refine goW ?_
 refine zAa (by rfl) trivial (fun g1=>?_) (fun g1=>?_)
 ·have hil:i < l.length:=by simpa using g1
  have hv:=zCO l i hil
  obtain ⟨h1,h2⟩:=yIm hil hw
  obtain ⟨y,hy⟩:∃ y,y=l.getD i 0:=⟨_,rfl⟩
  rw [←hy] at h1 h2 hv
  try simp (maxSteps:=2000000) only [go_sem,hv]
  repeat with_reducible refine zAt ?_
  refine zAa (by rfl) trivial (fun g2=>?_) (fun g2=>?_)
  ·refine goW ?_
   exact zAb rfl trivial (.inl (by rw [h1 (by simpa using g2)]))
  ·refine goW ?_
   refine ⟨i+1,by omega,⟨by omega,h2 (by simpa using g2)⟩,?_⟩
   exact leA
 ·refine goW ?_
  have hil:i=l.length:=by simp at g1;omega
  rw [hil,List.take_length] at hw
  exact zAb rfl trivial (.inl (by unfold zAT;rw [hw]))
end Go.Hx
end

section
set_option maxRecDepth 100000
set_option linter.unusedSimpArgs false
namespace Go.Hx
open Go.Proofs
variable [Glob]
attribute [local go_sem] zAk zAl zAj zAf ndV zAm zAh zC9 List.take_nil
attribute [local go_sem] reduceCtorEq Nat.reduceAdd Nat.reduceEqDiff reduceIte Nat.reduceLeDiff Nat.reduceLT Nat.reduceSub
theorem yDr (d:List Nd) (n:Nat) (hl:d.length≤64):(zCr d n).length≤64:=by
 rw [yA0]
 split
 ·simp
 ·exact Nat.le_trans (zDU _) hl
theorem zTO (l:List Int) (n:Int) (hl:l.length≤64):-1≤zAT l n∧zAT l n≤64:=by
 unfold zAT
 split
 ·rename_i i hi
  have:=(List.findIdx?_eq_some_iff_getElem.1 hi).1
  omega
 ·omega
theorem zNo (d:List Nd) (hd:zCd d d.length=true) (hl:d.length≤64) (lk:Int) (m n:Nat) (hn:n < d.length):Contract Tryz.prog zF3 [.val (zC9 d),.val (iv lk),.val (iv m),.val (iv n)] {res:=.val (bv (zDq d lk m n))}:=by
 have hv:=zAW d n hn
 have hfl:=yDr d n hl
 have hp1:=zTO (zCr d n) m hfl
 have hp2:=zTO (zCr d n) n hfl
 unfold zC9
 refine mkA zVZ (base:=0) (fo rfl) (fun hfit=>?_)
 unfold F0 zMC
 refine goU ?_
 refine zAa (by rfl) trivial (fun g1=>?_) (fun g1=>?_)
 ·have h1:lk=1:=by simpa using g1
  refine goW ?_
  refine zAc (by repeat' constructor) (zTo d hd m n hn) ?_
  refine goW ?_
  exact zAb rfl trivial (.inl (by rw [zDq,if_pos h1];rfl))
 have h1:lk≠1:=by simpa using g1
 refine goW ?_
 refine zAa (by rfl) trivial (fun g2=>?_) (fun g2=>?_)
 ·have h2:lk=2:=by simpa using g2
  try simp (maxSteps:=2000000) only [go_sem,hv,ndV]
  repeat with_reducible refine zAt ?_
  refine zAb rfl trivial (.inl ?_)
  rw [zDq,if_neg h1,if_pos h2]
  congr 3
  try (rw [Bool.eq_iff_iff];simp [zAX])
 have h2:lk≠2:=by simpa using g2
 refine goW ?_
 refine zFD (by repeat' constructor) (zPp d n hl hn) ?_
 refine goW ?_
 refine zAc (by repeat' constructor) (zEL (zCr d n) m hfl) ?_
 refine goW ?_
 refine zAc (by repeat' constructor) (zEL (zCr d n) n hfl) ?_
 refine goW ?_
 refine zAa (by rfl) trivial (fun g3=>?_) (fun g3=>?_)
 ·have h3:lk=3:=by simpa using g3
  refine goW ?_
  refine zAb rfl trivial (.inl ?_)
  rw [zDq,if_neg h1,if_neg h2,if_pos h3]
  congr 3
  by_cases h0:0≤zAT (zCr d n) m<;>simp [h0]
  try (rw [Bool.eq_iff_iff];simp)
 have h3:lk≠3:=by simpa using g3
 refine goW ?_
 refine zAb rfl trivial (.inl ?_)
 rw [zDq,if_neg h1,if_neg h2,if_neg h3]
 congr 3
 by_cases h0:0≤zAT (zCr d n) m<;>simp [h0]
theorem yDs {s:Bys} (h:zCq s=true):s.length≤16:=by
 simp only [zCq,Bool.and_eq_true,decide_eq_true_eq] at h
 exact h.1
theorem yJS {l:List (Bys×Bys)} {i:Nat} (h:okA l l.length=true) (hi:i < l.length):(l.getD i default).2.length≤16:=by
 have:=zAF h hi
 simp only [aOk,Bool.and_eq_true] at this
 exact yDs this.1.2
theorem yIo {l:List (Bys×Bys)} {nm s:Bys} (h:okA l l.length=true) (hs:zCQ l nm=some s):s.length≤16:=by
 unfold zCQ at hs
 rw [Option.map_eq_some_iff] at hs
 obtain ⟨a,ha,rfl⟩:=hs
 obtain ⟨i,hi,rfl⟩:=List.getElem_of_mem (List.mem_of_find?_eq_some ha)
 have:=yJS h hi
 simpa [hi] using this
theorem yIp {x:Nd} (h:zBo x=true):x.cls.length≤6∧x.att.length≤4∧okA x.att x.att.length=true:=by
 simp only [zBo,Bool.and_eq_true,decide_eq_true_eq] at h
 exact ⟨h.1.1.1.2,h.1.1.2,h.2⟩
theorem yIq {d:List Nd} (hd:zCd d d.length=true) {n:Nat} (hn:n < d.length):zBo (d.getD n default)=true:=by
 have:=zAF hd hn
 simp only [yBj,Bool.and_eq_true] at this
 exact this.1
theorem zXL {α:Type} {p:α→Bool} {l:List α} {i:Nat} (d:α) (h:i < l.length):(l.take (i+1)).any p=((l.take i).any p||p (l.getD i d)):=by
 rw [zLH d h,List.any_append];simp
theorem zJu {α:Type} {p:α→Bool} {l:List α} {i:Nat} (d:α) (h:i < l.length):(l.take (i+1)).all p=((l.take i).all p&&p (l.getD i d)):=by
 rw [zLH d h,List.all_append];simp
theorem yDt {α:Type} {p:α→Bool} {l:List α} {i:Nat} {d:α} (h:i < l.length) (hp:p (l.getD i d)=true):l.any p=true:=
 List.any_eq_true.2 ⟨l.getD i d,by simp [h],hp⟩
theorem zNp {α:Type} {p:α→Bool} {l:List α} {i:Nat} {d:α} (h:i < l.length) (hp:p (l.getD i d)=false):l.all p=false:=
 List.all_eq_false.2 ⟨l.getD i d,by simp [h],by simp only [hp];simp⟩
theorem yJT (d:List Nd) (n:Nat):(zEw d n).length=(yHF d n).length:=by
 unfold zEw zAB yHF
 rw [List.length_map]
end Go.Hx
end

section
set_option maxRecDepth 100000
set_option linter.unusedSimpArgs false
namespace Go.Hx
open Go.Proofs
variable [Glob]
attribute [local go_sem] zAk zAl zAj zAf ndV zAm zAh zC9 List.take_nil
attribute [local go_sem] reduceCtorEq Nat.reduceAdd Nat.reduceEqDiff reduceIte Nat.reduceLeDiff Nat.reduceLT Nat.reduceSub
theorem yFO {v:Bys} {k:Int} (h:if 4≤k∧k≤8 then zCq v=true else v=[]):v.length≤64:=by
 split at h
 ·have:=yDs h;omega
 ·rw [h];simp
set_option maxHeartbeats 16000000 in
theorem yJU (d:List Nd) (hd:zCd d d.length=true) (hl:d.length≤64) (e:Nat) (t:Ts) (ht:GT t e)
  (hL:13≤t.kind→∀ m:Nat,m < d.length→Contract Tryz.prog zAP [.val (zC9 d),.val (zAQ t.list),.val (iv m)] {res:=.val (bv (lM d t.list m))})
  (n:Nat) (hn:n < d.length):Contract Tryz.prog zEG [.val (zC9 d),.val (.agg (tsV t)),.val (iv n)] {res:=.val (bv (tM d t n))}:=by
 have hv:=zAW d n hn
 have hnf:=yIq hd hn
 have hfl:=yDr d n hl
 have hp:=zTO (zCr d n) n hfl
 have hk:=zPn d n hl
 obtain ⟨k,nm,v,a,b,l⟩:=t
 obtain ⟨k1,_,hval,_,hnth,_⟩:=ht.parts
 have hvl:=yFO hval
 have hL':13≤k→∀ m:Nat,m < d.length→Contract Tryz.prog zAP [.val (zC9 d),.val (zAQ l),.val (iv m)] {res:=.val (bv (lM d l m))}:=hL
 rw [tM]
 obtain ⟨x,hx⟩:∃ x,x=d.getD n default:=⟨_,rfl⟩
 obtain ⟨x1,x2,x3⟩:=yIp (hx▸hnf)
 have hx0:=hx
 rw [←hx] at hv
 have hA:=yDq x nm (by omega)
 unfold zC9
 unfold tsV
 unfold zC9 at hL' hk
 unfold zAQ at hL'
 rw [ndV] at hv hA
 have hfam:=zPp d n hl hn
 unfold zC9 at hfam
 refine mkA zZT (base:=0) (fo rfl) (fun hfit=>?_)
 unfold F0 zPg
 refine goU ?_
 try simp (maxSteps:=2000000) only [go_sem,hv]
 repeat with_reducible refine zAt ?_
 refine zFD (by repeat' constructor) (hfam) ?_
 refine goW ?_
 refine zAa (by rfl) trivial (fun g1=>?_) (fun g1=>?_)
 ·have h1:k=1:=by simpa using g1
  subst h1
  refine goW ?_
  refine zAd (fun i:Nat=>[(9,.pv (iv i)),(6,.un),(29,.un),(39,.un)]) (fun i:Nat=>x.cls.length-i) (fun i:Nat=>i≤x.cls.length∧(x.cls.take i).any (fun c=>decide (c=nm))=false) (0) ?_ ⟨Nat.zero_le _,by simp⟩ ?_
  focus (exact leA)
  rintro i ⟨hi,hw⟩
  refine goW ?_
  refine zAa (by rfl) trivial (fun g2=>?_) (fun g2=>?_)
  ·have hil:i < x.cls.length:=by simpa using g2
   have hcv:=zFE x.cls i hil
   have hcs:=zXL (p:=fun c=>decide (c=nm)) ([]:Bys) hil
   obtain ⟨y,hy⟩:∃ y,y=x.cls.getD i []:=⟨_,rfl⟩
   have hany:=yDt (p:=fun c=>decide (c=nm)) (d:=([]:Bys)) hil
   rw [←hy] at hcv hcs hany
   try simp (maxSteps:=2000000) only [go_sem,hcv]
   repeat with_reducible refine zAt ?_
   refine zAa (by rfl) trivial (fun g3=>?_) (fun g3=>?_)
   ·refine goW ?_
    refine zAb rfl trivial (.inl ?_)
    have e:y=nm:=by simpa using g3
    simp only [zEg,←hx0,if_true]
    rw [hany (by simpa using e)]
   ·refine goW ?_
    refine ⟨i+1,by omega,⟨by omega,?_⟩,?_⟩
    ·rw [hcs,hw];simpa using g3
    ·exact leA
  ·refine goW ?_
   have hil:i=x.cls.length:=by simp at g2;omega
   rw [hil,List.take_length] at hw
   refine zAb rfl trivial (.inl ?_)
   simp only [zEg,←hx0,if_true]
   rw [hw]
 have h1:k≠1:=by simpa using g1
 refine goW ?_
 refine zAa (by rfl) trivial (fun g2=>?_) (fun g2=>?_)
 ·have h2:k=2:=by simpa using g2
  subst h2
  refine goW ?_
  refine zAb rfl trivial (.inl ?_)
  simp only [zEg,←hx0,if_true]
  rw [if_neg (by decide)]
  congr 3
  try (rw [Bool.eq_iff_iff];simp)
 have h2:k≠2:=by simpa using g2
 refine goW ?_
 refine zAc (by repeat' constructor) (zBz k 3 8) ?_
 refine goW ?_
 refine zAa (by rfl) trivial (fun g3=>?_) (fun g3=>?_)
 ·have h3:3≤k∧k≤8:=by simpa using g3
  refine goW ?_
  refine zBx (by repeat' constructor) (hA) ?_
  refine goW ?_
  have hres:zEg d k nm v a b (lM d l) n=(match zCQ x.att nm with|some s=>zCI k s v|none=>false):=by
   simp only [zEg,←hx0]
   rw [if_neg h1,if_neg h2,if_pos h3.2]
   rfl
  rw [hres]
  cases hat:zCQ x.att nm with
  |none=>
   try simp (maxSteps:=2000000) only [go_sem,Option.isSome_none,Option.getD_none]
   repeat with_reducible refine zAt ?_
   refine zNq (by rfl) ?_
   refine goW ?_
   exact zAb rfl trivial (.inl rfl)
  |some s=>
   have hsl:=yIo x3 hat
   try simp (maxSteps:=2000000) only [go_sem,Option.isSome_some,Option.getD_some]
   repeat with_reducible refine zAt ?_
   apply zAg (h2:=fun _=>zOx k s v (by omega) hvl)
   ·(simp (maxSteps:=2000000) only [go_sem];rfl)
   ·intro h;repeat' (first|exact trivial|exact h|refine And.intro ?_ ?_)
   refine goW ?_
   exact zAb rfl trivial (.inl (by simp))
 have h3:¬ (3≤k∧k≤8):=by simpa using g3
 have h8:¬ k≤8:=by omega
 have hnr:∀ i,zEK a b i=yBQ a b i:=fun _=>rfl
 refine goW ?_
 refine zAa (by rfl) trivial (fun g9=>?_) (fun g9=>?_)
 ·have h9:k=9:=by simpa using g9
  refine goW ?_
  refine zAc (by repeat' constructor) (zEL (zCr d n) n hfl) ?_
  refine goW ?_
  refine zAc (by repeat' constructor) (zKl a b _) ?_
  refine goW ?_
  refine zAb rfl trivial (.inl ?_)
  simp only [zEg]
  rw [if_neg h1,if_neg h2,if_neg h8,if_pos h9]
  rfl
 have h9:k≠9:=by simpa using g9
 refine goW ?_
 refine zAa (by rfl) trivial (fun g10=>?_) (fun g10=>?_)
 ·have h10:k=10:=by simpa using g10
  refine goW ?_
  refine zAc (by repeat' constructor) (zEL (zCr d n) n hfl) ?_
  refine goW ?_
  refine zAc (by repeat' constructor) (zKl a b _) ?_
  refine goW ?_
  refine zAb rfl trivial (.inl ?_)
  simp only [zEg]
  rw [if_neg h1,if_neg h2,if_neg h8,if_neg h9,if_pos h10]
  rfl
 have h10:k≠10:=by simpa using g10
 refine goW ?_
 refine zAa (by rfl) trivial (fun g11=>?_) (fun g11=>?_)
 ·have h11:k=11:=by simpa using g11
  refine goW ?_
  refine zFD (by repeat' constructor) (hk) ?_
  refine goW ?_
  refine zAb rfl trivial (.inl ?_)
  simp only [zEg]
  rw [if_neg h1,if_neg h2,if_neg h8,if_neg h9,if_neg h10,if_pos h11]
  have:=yJT d n
  have e:decide (yHF d n=[])=(((zEw d n).length:Int)==0):=by
   rw [Bool.eq_iff_iff]
   simp only [decide_eq_true_eq,beq_iff_eq]
   rw [←List.length_eq_zero_iff]
   omega
  rw [e]
 have h11:k≠11:=by simpa using g11
 refine goW ?_
 refine zAa (by rfl) trivial (fun g12=>?_) (fun g12=>?_)
 ·have h12:k=12:=by simpa using g12
  refine goW ?_
  refine zAb rfl trivial (.inl ?_)
  simp only [zEg]
  rw [if_neg h1,if_neg h2,if_neg h8,if_neg h9,if_neg h10,if_neg h11,if_pos h12]
  have e:decide (n=0)=((n:Int)==0):=by
   rw [Bool.eq_iff_iff]
   simp only [decide_eq_true_eq,beq_iff_eq]
   omega
  rw [e]
 have h12:k≠12:=by simpa using g12
 have hL:=hL' (by omega)
 refine goW ?_
 refine zAa (by rfl) trivial (fun g13=>?_) (fun g13=>?_)
 ·have h13:k=13:=by simpa using g13
  refine goW ?_
  refine zAc (by repeat' constructor) (hL n hn) ?_
  refine goW ?_
  refine zAb rfl trivial (.inl ?_)
  simp only [zEg]
  rw [if_neg h1,if_neg h2,if_neg h8,if_neg h9,if_neg h10,if_neg h11,if_neg h12,if_pos h13]
 have h13:k≠13:=by simpa using g13
 refine goW ?_
 refine zAa (by rfl) trivial (fun g14=>?_) (fun g14=>?_)
 ·have h14:k=14:=by simpa using g14
  refine goW ?_
  refine zAc (by repeat' constructor) (hL n hn) ?_
  refine goW ?_
  refine zAb rfl trivial (.inl ?_)
  simp only [zEg]
  rw [if_neg h1,if_neg h2,if_neg h8,if_neg h9,if_neg h10,if_neg h11,if_neg h12,if_neg h13,if_pos h14]
 have h14:k≠14:=by simpa using g14
 have hres:zEg d k nm v a b (lM d l) n=(List.range d.length).any fun m=>zEq d n m&&lM d l m:=by
  simp only [zEg]
  rw [if_neg h1,if_neg h2,if_neg h8,if_neg h9,if_neg h10,if_neg h11,if_neg h12,if_neg h13,if_neg h14]
 rw [hres]
 refine goW ?_
 refine zAd (fun i:Nat=>[(12,.pv (iv i)),(6,.un),(131,.un),(144,.un)]) (fun i:Nat=>d.length-i) (fun i:Nat=>i≤d.length∧(List.range i).any (fun m=>zEq d n m&&lM d l m)=false) (0) ?_ ⟨Nat.zero_le _,rfl⟩ ?_
 focus (exact leA)
 rintro i ⟨hi,hw⟩
 refine goW ?_
 refine zAa (by rfl) trivial (fun g15=>?_) (fun g15=>?_)
 ·have hil:i < d.length:=by simpa using g15
  have hsucc:=zCT (p:=fun m=>zEq d n m&&lM d l m) (n:=i)
  have hab:=zTo d hd n i hil
  have hin:(zEq d n i&&lM d l i)=true→(List.range d.length).any (fun m=>zEq d n m&&lM d l m)=true:=fun h=>List.any_eq_true.2 ⟨i,List.mem_range.2 hil,h⟩
  have hab':(zA5 d d.length (zAX d i)).contains (n:Int)=zEq d n i:=rfl
  rw [hab'] at hab
  unfold zC9 at hab
  refine goW ?_
  cases hb:zEq d n i with
  |false=>
   rw [hb] at hab hin hsucc
   refine zAc (by repeat' constructor) (hab) ?_
   refine goW ?_
   refine zNq (by rfl) ?_
   refine goW ?_
   refine zAa (by rfl) trivial (fun g16=>?_) (fun g16=>?_)
   ·simp at g16
   ·refine goW ?_
    refine ⟨i+1,by omega,⟨by omega,by rw [hsucc,hw];rfl⟩,?_⟩
    exact leA
  |true=>
   rw [hb] at hab hin hsucc
   refine zAc (by repeat' constructor) (hab) ?_
   refine goW ?_
   apply zAg (h2:=fun _=>hL i hil)
   ·(simp (maxSteps:=2000000) only [go_sem];rfl)
   ·intro h;repeat' (first|exact trivial|exact h|refine And.intro ?_ ?_)
   refine goW ?_
   refine zAa (by rfl) trivial (fun g16=>?_) (fun g16=>?_)
   ·refine goW ?_
    have e:lM d l i=true:=by simpa using g16
    exact zAb rfl trivial (.inl (by rw [hin (by rw [e];rfl)]))
   ·refine goW ?_
    have e:lM d l i=false:=by simpa using g16
    refine ⟨i+1,by omega,⟨by omega,by rw [hsucc,hw,e];rfl⟩,?_⟩
    exact leA
 ·refine goW ?_
  have hil:i=d.length:=by simp at g15;omega
  rw [hil] at hw
  exact zAb rfl trivial (.inl (by rw [hw]))
end Go.Hx
end

section
set_option maxRecDepth 100000
set_option linter.unusedSimpArgs false
namespace Go.Hx
open Go.Proofs
variable [Glob]
attribute [local go_sem] zAk zAl zAj zAf ndV zAm zAh zC9 List.take_nil zBh zBp
attribute [local go_sem] reduceCtorEq Nat.reduceAdd Nat.reduceEqDiff reduceIte Nat.reduceLeDiff Nat.reduceLT Nat.reduceSub
theorem yIr (l:List St) (n:Nat):(zNJ l).take n=zNJ (l.take n):=by rw [zJt,zJt,List.map_take]
theorem yFP (l:List Int) (n:Nat):(zAy l).take n=zAy (l.take n):=by simp [zAy]
theorem zLI {α:Type} {l:List α} {i n:Nat} {d:α} (h:i < n):(l.take n).getD i d=l.getD i d:=by
 simp [List.getD_eq_getElem?_getD,List.getElem?_take,h]
set_option maxHeartbeats 16000000 in
theorem zWZ (d:List Nd) (hd:zCd d d.length=true) (hl:d.length≤64) (p:Pt) (hp1:1≤p.steps.length) (hp5:p.steps.length≤5) (hlk:p.links.length+1=p.steps.length)
  (hT:∀ s∈p.steps,s.tests.length≤6∧∀ t∈s.tests,∀ n:Nat,n < d.length→Contract Tryz.prog zEG [.val (zC9 d),.val (.agg (tsV t)),.val (iv n)] {res:=.val (bv (tM d t n))}):
  ∀ k:Nat,k < p.steps.length→∀ n:Nat,n < d.length→Contract Tryz.prog zBN [.val (zC9 d),.val (.agg [.sl 2 (zNJ (p.steps.take (k+1))),.sl 1 (zAy (p.links.take k))]),.val (iv n)] {res:=.val (bv (zBH d (p.steps.map (sM d)) p.links k n))}:=by
 intro k
 have hnn:(([]:Bys)==[])=true:=rfl
 induction k with
 |zero=>
  intro hk n hn
  have hv:=zAW d n hn
  rw [ndV] at hv
  obtain ⟨S,hS⟩:∃ S,S=p.steps.take (0+1):=⟨_,rfl⟩
  have hSl:S.length=1:=by rw [hS,List.length_take];omega
  have hst:S.getD 0 default=p.steps.getD 0 default:=by rw [hS];exact zLI (by omega)
  have hsv:=zDY S 0 (by omega)
  rw [hst] at hsv
  obtain ⟨x,hx⟩:∃ x,x=p.steps.getD 0 default:=⟨_,rfl⟩
  rw [←hx,zGv] at hsv
  have hmem:x∈p.steps:=by rw [hx,List.getD_eq_getElem?_getD,List.getElem?_eq_getElem hk];exact List.getElem_mem hk
  obtain ⟨hx6,hxT⟩:=hT x hmem
  obtain ⟨L,hL⟩:∃ L,L=p.links.take 0:=⟨_,rfl⟩
  have hpm:zBH d (p.steps.map (sM d)) p.links 0 n=sM d x n:=by
   rw [zBH]
   have e:(p.steps.map (sM d)).getD 0 (fun _=>false)=sM d x:=by
    rw [hx]
    simp [List.getD_eq_getElem?_getD,List.getElem?_eq_getElem hk]
   rw [e]
  rw [hpm,yHG,←hS,←hL]
  have e1:(((1:Nat):Int)-1).toNat=0:=by omega
  have e2:(((1:Nat):Int)-1)=((0:Nat):Int):=by omega
  obtain ⟨nd,hnd⟩:∃ nd,nd=d.getD n default:=⟨_,rfl⟩
  rw [←hnd] at hv ⊢
  unfold zC9 at hxT ⊢
  by_cases htag:x.tag=[]
  ·refine mkA zCo (base:=0) (fo rfl) (fun hfit=>?_)
   unfold F0 zB1
   refine goU ?_
   try simp (maxSteps:=2000000) only [go_sem,hSl,e1,e2,hsv,htag,hnn,Bool.not_true,hv]
   repeat with_reducible refine zAt ?_
   refine zAa (by rfl) trivial (fun g1=>?_) (fun g1=>?_)
   ·cases g1
   try simp (maxSteps:=2000000) only [go_sem,hSl]
   repeat with_reducible refine zAt ?_
   refine zAd (fun j:Nat=>[(9,.pv (iv j)),(6,.un),(39,.un),(50,.un)]) (fun j:Nat=>x.tests.length-j) (fun j:Nat=>j≤x.tests.length∧(x.tests.take j).all (fun t=>tM d t n)=true) (0) ?_ ⟨Nat.zero_le _,rfl⟩ ?_
   focus (exact leA)
   rintro j ⟨hj,hall⟩
   refine goW ?_
   refine zAa (by rfl) trivial (fun g2=>?_) (fun g2=>?_)
   ·have hjl:j < x.tests.length:=by simpa using g2
    have htv:=zDp x.tests j hjl
    have hall2:=zJu (p:=fun t=>tM d t n) (default:Ts) hjl
    have hnot:=zNp (p:=fun t=>tM d t n) (d:=(default:Ts)) hjl
    obtain ⟨t,ht⟩:∃ t,t=x.tests.getD j default:=⟨_,rfl⟩
    have htm:t∈x.tests:=by rw [ht,List.getD_eq_getElem?_getD,List.getElem?_eq_getElem hjl];exact List.getElem_mem hjl
    rw [←ht] at htv hall2 hnot
    have hc:=hxT t htm n hn
    rw [zEp] at htv hc
    try simp (maxSteps:=2000000) only [go_sem,htv]
    repeat with_reducible refine zAt ?_
    refine zAc (by repeat' constructor) (hc) ?_
    refine goW ?_
    refine zAa (by rfl) trivial (fun g3=>?_) (fun g3=>?_)
    ·refine goW ?_
     have e:tM d t n=false:=by simpa using g3
     exact zAb rfl trivial (.inl (by rw [hnot e];simp))
    ·refine goW ?_
     have e:tM d t n=true:=by simpa using g3
     refine ⟨j+1,by omega,⟨by omega,by rw [hall2,hall,e];rfl⟩,?_⟩
     exact leA
   ·have hjl:j=x.tests.length:=by simp at g2;omega
    rw [hjl,List.take_length] at hall
    try simp (maxSteps:=2000000) only [go_sem,hSl]
    repeat with_reducible refine zAt ?_
    refine zAa (by rfl) trivial (fun g4=>?_) (fun g4=>?_)
    ·refine goW ?_
     exact zAb rfl trivial (.inl (by rw [hall];simp [htag]))
    ·exact absurd g4 (by simp)
  ·have htb:(x.tag==([]:Bys))=false:=by simpa using htag
   refine mkA zCo (base:=0) (fo rfl) (fun hfit=>?_)
   unfold F0 zB1
   refine goU ?_
   try simp (maxSteps:=2000000) only [go_sem,hSl,e1,e2,hsv,htb,Bool.not_false,hv]
   repeat with_reducible refine zAt ?_
   refine zAa (by rfl) trivial (fun g1=>?_) (fun g1=>?_)
   ·refine goW ?_
    have htg:x.tag≠nd.tag:=by simpa using g1
    exact zAb rfl trivial (.inl (by simp [htag,htg]))
   have htg:x.tag=nd.tag:=by simpa using g1
   try simp (maxSteps:=2000000) only [go_sem,hSl]
   repeat with_reducible refine zAt ?_
   refine zAd (fun j:Nat=>[(9,.pv (iv j)),(6,.un),(39,.un),(50,.un)]) (fun j:Nat=>x.tests.length-j) (fun j:Nat=>j≤x.tests.length∧(x.tests.take j).all (fun t=>tM d t n)=true) (0) ?_ ⟨Nat.zero_le _,rfl⟩ ?_
   focus (exact leA)
   rintro j ⟨hj,hall⟩
   refine goW ?_
   refine zAa (by rfl) trivial (fun g2=>?_) (fun g2=>?_)
   ·have hjl:j < x.tests.length:=by simpa using g2
    have htv:=zDp x.tests j hjl
    have hall2:=zJu (p:=fun t=>tM d t n) (default:Ts) hjl
    have hnot:=zNp (p:=fun t=>tM d t n) (d:=(default:Ts)) hjl
    obtain ⟨t,ht⟩:∃ t,t=x.tests.getD j default:=⟨_,rfl⟩
    have htm:t∈x.tests:=by rw [ht,List.getD_eq_getElem?_getD,List.getElem?_eq_getElem hjl];exact List.getElem_mem hjl
    rw [←ht] at htv hall2 hnot
    have hc:=hxT t htm n hn
    rw [zEp] at htv hc
    try simp (maxSteps:=2000000) only [go_sem,htv]
    repeat with_reducible refine zAt ?_
    refine zAc (by repeat' constructor) (hc) ?_
    refine goW ?_
    refine zAa (by rfl) trivial (fun g3=>?_) (fun g3=>?_)
    ·refine goW ?_
     have e:tM d t n=false:=by simpa using g3
     exact zAb rfl trivial (.inl (by rw [hnot e];simp))
    ·refine goW ?_
     have e:tM d t n=true:=by simpa using g3
     refine ⟨j+1,by omega,⟨by omega,by rw [hall2,hall,e];rfl⟩,?_⟩
     exact leA
   ·have hjl:j=x.tests.length:=by simp at g2;omega
    rw [hjl,List.take_length] at hall
    try simp (maxSteps:=2000000) only [go_sem,hSl]
    repeat with_reducible refine zAt ?_
    refine zAa (by rfl) trivial (fun g4=>?_) (fun g4=>?_)
    ·refine goW ?_
     exact zAb rfl trivial (.inl (by rw [hall];simp [htg]))
    ·exact absurd g4 (by simp)
 |succ k ih=>
  intro hk n hn
  have hv:=zAW d n hn
  rw [ndV] at hv
  obtain ⟨S,hS⟩:∃ S,S=p.steps.take (k+1+1):=⟨_,rfl⟩
  have hSl:S.length=k+2:=by rw [hS,List.length_take];omega
  have hst:S.getD (k+1) default=p.steps.getD (k+1) default:=by rw [hS];exact zLI (by omega)
  have hsv:=zDY S (k+1) (by omega)
  rw [hst] at hsv
  obtain ⟨x,hx⟩:∃ x,x=p.steps.getD (k+1) default:=⟨_,rfl⟩
  rw [←hx,zGv] at hsv
  have hmem:x∈p.steps:=by rw [hx,List.getD_eq_getElem?_getD,List.getElem?_eq_getElem hk];exact List.getElem_mem hk
  obtain ⟨hx6,hxT⟩:=hT x hmem
  obtain ⟨L,hL⟩:∃ L,L=p.links.take (k+1):=⟨_,rfl⟩
  have hLl:L.length=k+1:=by rw [hL,List.length_take];omega
  have hlv:=zCO L k (by omega)
  have hlg:L.getD k 0=p.links.getD k 0:=by rw [hL];exact zLI (by omega)
  rw [hlg] at hlv
  have hS2:(zNJ S).take (k+1)=zNJ (p.steps.take (k+1)):=by rw [yIr,hS,List.take_take];congr 2;omega
  have hL2:(zAy L).take k=zAy (p.links.take k):=by rw [yFP,hL,List.take_take];congr 2;omega
  have hpm:zBH d (p.steps.map (sM d)) p.links (k+1) n=(sM d x n&&(List.range n).any fun m=>zDq d (p.links.getD k 0) m n&&zBH d (p.steps.map (sM d)) p.links k m):=by
   rw [zBH]
   have e:(p.steps.map (sM d)).getD (k+1) (fun _=>false)=sM d x:=by
    rw [hx]
    simp [List.getD_eq_getElem?_getD,hk]
   rw [e]
  rw [hpm,yHG,←hS,←hL]
  have e1:(((k+2:Nat):Int)-1).toNat=k+1:=by omega
  have e2:(((k+2:Nat):Int)-1)=((k+1:Nat):Int):=by omega
  have e3:(((k+1:Nat):Int)-1).toNat=k:=by omega
  obtain ⟨nd,hnd⟩:∃ nd,nd=d.getD n default:=⟨_,rfl⟩
  rw [←hnd] at hv ⊢
  unfold zC9 at hxT ih ⊢
  by_cases htag:x.tag=[]
  ·refine mkA zCo (base:=0) (fo rfl) (fun hfit=>?_)
   unfold F0 zB1
   refine goU ?_
   try simp (maxSteps:=2000000) only [go_sem,hSl,e1,e2,hsv,htag,hnn,Bool.not_true,hv]
   repeat with_reducible refine zAt ?_
   refine zAa (by rfl) trivial (fun g1=>?_) (fun g1=>?_)
   ·cases g1
   try simp (maxSteps:=2000000) only [go_sem,hSl]
   repeat with_reducible refine zAt ?_
   refine zAd (fun j:Nat=>[(9,.pv (iv j)),(6,.un),(39,.un),(50,.un)]) (fun j:Nat=>x.tests.length-j) (fun j:Nat=>j≤x.tests.length∧(x.tests.take j).all (fun t=>tM d t n)=true) (0) ?_ ⟨Nat.zero_le _,rfl⟩ ?_
   focus (exact leA)
   rintro j ⟨hj,hall⟩
   refine goW ?_
   refine zAa (by rfl) trivial (fun g2=>?_) (fun g2=>?_)
   ·have hjl:j < x.tests.length:=by simpa using g2
    have htv:=zDp x.tests j hjl
    have hall2:=zJu (p:=fun t=>tM d t n) (default:Ts) hjl
    have hnot:=zNp (p:=fun t=>tM d t n) (d:=(default:Ts)) hjl
    obtain ⟨t,ht⟩:∃ t,t=x.tests.getD j default:=⟨_,rfl⟩
    have htm:t∈x.tests:=by rw [ht,List.getD_eq_getElem?_getD,List.getElem?_eq_getElem hjl];exact List.getElem_mem hjl
    rw [←ht] at htv hall2 hnot
    have hc:=hxT t htm n hn
    rw [zEp] at htv hc
    try simp (maxSteps:=2000000) only [go_sem,htv]
    repeat with_reducible refine zAt ?_
    refine zAc (by repeat' constructor) (hc) ?_
    refine goW ?_
    refine zAa (by rfl) trivial (fun g3=>?_) (fun g3=>?_)
    ·refine goW ?_
     have e:tM d t n=false:=by simpa using g3
     exact zAb rfl trivial (.inl (by rw [hnot e];simp))
    ·refine goW ?_
     have e:tM d t n=true:=by simpa using g3
     refine ⟨j+1,by omega,⟨by omega,by rw [hall2,hall,e];rfl⟩,?_⟩
     exact leA
   ·have hjl:j=x.tests.length:=by simp at g2;omega
    rw [hjl,List.take_length] at hall
    try simp (maxSteps:=2000000) only [go_sem,hSl]
    repeat with_reducible refine zAt ?_
    refine zAa (by rfl) trivial (fun g4=>?_) (fun g4=>?_)
    ·exact absurd g4 (by simp;omega)
    try simp (maxSteps:=2000000) only [go_sem,hSl,hLl,e1,e2,e3,hS2,hL2]
    repeat with_reducible refine zAt ?_
    refine zAd (fun m:Nat=>[(11,.pv (iv m)),(6,.un),(65,.un),(83,.un)]) (fun m:Nat=>n-m) (fun m:Nat=>m≤n∧(List.range m).any (fun m=>zDq d (p.links.getD k 0) m n&&zBH d (p.steps.map (sM d)) p.links k m)=false) (0) ?_ ⟨Nat.zero_le _,rfl⟩ ?_
    focus (exact leA)
    rintro m ⟨hm,hw⟩
    refine goW ?_
    refine zAa (by rfl) trivial (fun g5=>?_) (fun g5=>?_)
    ·have hml:m < n:=by simpa using g5
     have hsucc:=zCT (p:=fun m=>zDq d (p.links.getD k 0) m n&&zBH d (p.steps.map (sM d)) p.links k m) (n:=m)
     have hin:(zDq d (p.links.getD k 0) m n&&zBH d (p.steps.map (sM d)) p.links k m)=true→(List.range n).any (fun m=>zDq d (p.links.getD k 0) m n&&zBH d (p.steps.map (sM d)) p.links k m)=true:=fun h=>List.any_eq_true.2 ⟨m,List.mem_range.2 hml,h⟩
     have hr:=zNo d hd hl (p.links.getD k 0) m n hn
     unfold zC9 at hr
     have hih:=ih (by omega) m (by omega)
     try simp (maxSteps:=2000000) only [go_sem,hLl,e2,e3,hlv]
     repeat with_reducible refine zAt ?_
     cases hb:zDq d (p.links.getD k 0) m n with
     |false=>
      rw [hb] at hr hin hsucc
      refine zAc (by repeat' constructor) (hr) ?_
      refine goW ?_
      refine zNq (by rfl) ?_
      refine goW ?_
      refine zAa (by rfl) trivial (fun g6=>?_) (fun g6=>?_)
      ·simp at g6
      ·refine goW ?_
       refine ⟨m+1,by omega,⟨by omega,by rw [hsucc,hw];rfl⟩,?_⟩
       exact leA
     |true=>
      rw [hb] at hr hin hsucc
      refine zAc (by repeat' constructor) (hr) ?_
      refine goW ?_
      apply zAg (h2:=fun _=>hih)
      ·(simp (maxSteps:=2000000) only [go_sem];rfl)
      ·intro h;repeat' (first|exact trivial|exact h|refine And.intro ?_ ?_)
      refine goW ?_
      refine zAa (by rfl) trivial (fun g6=>?_) (fun g6=>?_)
      ·refine goW ?_
       have e:zBH d (p.steps.map (sM d)) p.links k m=true:=by simpa using g6
       exact zAb rfl trivial (.inl (by rw [hall,hin (by rw [e];rfl)];simp [htag]))
      ·refine goW ?_
       have e:zBH d (p.steps.map (sM d)) p.links k m=false:=by simpa using g6
       refine ⟨m+1,by omega,⟨by omega,by rw [hsucc,hw,e];rfl⟩,?_⟩
       exact leA
    ·refine goW ?_
     have hml:m=n:=by simp at g5;omega
     rw [hml] at hw
     exact zAb rfl trivial (.inl (by rw [hw];simp))
  ·have htb:(x.tag==([]:Bys))=false:=by simpa using htag
   refine mkA zCo (base:=0) (fo rfl) (fun hfit=>?_)
   unfold F0 zB1
   refine goU ?_
   try simp (maxSteps:=2000000) only [go_sem,hSl,e1,e2,hsv,htb,Bool.not_false,hv]
   repeat with_reducible refine zAt ?_
   refine zAa (by rfl) trivial (fun g1=>?_) (fun g1=>?_)
   ·refine goW ?_
    have htg:x.tag≠nd.tag:=by simpa using g1
    exact zAb rfl trivial (.inl (by simp [htag,htg]))
   have htg:x.tag=nd.tag:=by simpa using g1
   try simp (maxSteps:=2000000) only [go_sem,hSl]
   repeat with_reducible refine zAt ?_
   refine zAd (fun j:Nat=>[(9,.pv (iv j)),(6,.un),(39,.un),(50,.un)]) (fun j:Nat=>x.tests.length-j) (fun j:Nat=>j≤x.tests.length∧(x.tests.take j).all (fun t=>tM d t n)=true) (0) ?_ ⟨Nat.zero_le _,rfl⟩ ?_
   focus (exact leA)
   rintro j ⟨hj,hall⟩
   refine goW ?_
   refine zAa (by rfl) trivial (fun g2=>?_) (fun g2=>?_)
   ·have hjl:j < x.tests.length:=by simpa using g2
    have htv:=zDp x.tests j hjl
    have hall2:=zJu (p:=fun t=>tM d t n) (default:Ts) hjl
    have hnot:=zNp (p:=fun t=>tM d t n) (d:=(default:Ts)) hjl
    obtain ⟨t,ht⟩:∃ t,t=x.tests.getD j default:=⟨_,rfl⟩
    have htm:t∈x.tests:=by rw [ht,List.getD_eq_getElem?_getD,List.getElem?_eq_getElem hjl];exact List.getElem_mem hjl
    rw [←ht] at htv hall2 hnot
    have hc:=hxT t htm n hn
    rw [zEp] at htv hc
    try simp (maxSteps:=2000000) only [go_sem,htv]
    repeat with_reducible refine zAt ?_
    refine zAc (by repeat' constructor) (hc) ?_
    refine goW ?_
    refine zAa (by rfl) trivial (fun g3=>?_) (fun g3=>?_)
    ·refine goW ?_
     have e:tM d t n=false:=by simpa using g3
     exact zAb rfl trivial (.inl (by rw [hnot e];simp))
    ·refine goW ?_
     have e:tM d t n=true:=by simpa using g3
     refine ⟨j+1,by omega,⟨by omega,by rw [hall2,hall,e];rfl⟩,?_⟩
     exact leA
   ·have hjl:j=x.tests.length:=by simp at g2;omega
    rw [hjl,List.take_length] at hall
    try simp (maxSteps:=2000000) only [go_sem,hSl]
    repeat with_reducible refine zAt ?_
    refine zAa (by rfl) trivial (fun g4=>?_) (fun g4=>?_)
    ·exact absurd g4 (by simp;omega)
    try simp (maxSteps:=2000000) only [go_sem,hSl,hLl,e1,e2,e3,hS2,hL2]
    repeat with_reducible refine zAt ?_
    refine zAd (fun m:Nat=>[(11,.pv (iv m)),(6,.un),(65,.un),(83,.un)]) (fun m:Nat=>n-m) (fun m:Nat=>m≤n∧(List.range m).any (fun m=>zDq d (p.links.getD k 0) m n&&zBH d (p.steps.map (sM d)) p.links k m)=false) (0) ?_ ⟨Nat.zero_le _,rfl⟩ ?_
    focus (exact leA)
    rintro m ⟨hm,hw⟩
    refine goW ?_
    refine zAa (by rfl) trivial (fun g5=>?_) (fun g5=>?_)
    ·have hml:m < n:=by simpa using g5
     have hsucc:=zCT (p:=fun m=>zDq d (p.links.getD k 0) m n&&zBH d (p.steps.map (sM d)) p.links k m) (n:=m)
     have hin:(zDq d (p.links.getD k 0) m n&&zBH d (p.steps.map (sM d)) p.links k m)=true→(List.range n).any (fun m=>zDq d (p.links.getD k 0) m n&&zBH d (p.steps.map (sM d)) p.links k m)=true:=fun h=>List.any_eq_true.2 ⟨m,List.mem_range.2 hml,h⟩
     have hr:=zNo d hd hl (p.links.getD k 0) m n hn
     unfold zC9 at hr
     have hih:=ih (by omega) m (by omega)
     try simp (maxSteps:=2000000) only [go_sem,hLl,e2,e3,hlv]
     repeat with_reducible refine zAt ?_
     cases hb:zDq d (p.links.getD k 0) m n with
     |false=>
      rw [hb] at hr hin hsucc
      refine zAc (by repeat' constructor) (hr) ?_
      refine goW ?_
      refine zNq (by rfl) ?_
      refine goW ?_
      refine zAa (by rfl) trivial (fun g6=>?_) (fun g6=>?_)
      ·simp at g6
      ·refine goW ?_
       refine ⟨m+1,by omega,⟨by omega,by rw [hsucc,hw];rfl⟩,?_⟩
       exact leA
     |true=>
      rw [hb] at hr hin hsucc
      refine zAc (by repeat' constructor) (hr) ?_
      refine goW ?_
      apply zAg (h2:=fun _=>hih)
      ·(simp (maxSteps:=2000000) only [go_sem];rfl)
      ·intro h;repeat' (first|exact trivial|exact h|refine And.intro ?_ ?_)
      refine goW ?_
      refine zAa (by rfl) trivial (fun g6=>?_) (fun g6=>?_)
      ·refine goW ?_
       have e:zBH d (p.steps.map (sM d)) p.links k m=true:=by simpa using g6
       exact zAb rfl trivial (.inl (by rw [hall,hin (by rw [e];rfl)];simp [htg]))
      ·refine goW ?_
       have e:zBH d (p.steps.map (sM d)) p.links k m=false:=by simpa using g6
       refine ⟨m+1,by omega,⟨by omega,by rw [hsucc,hw,e];rfl⟩,?_⟩
       exact leA
    ·refine goW ?_
     have hml:m=n:=by simp at g5;omega
     rw [hml] at hw
     exact zAb rfl trivial (.inl (by rw [hw];simp))
end Go.Hx
end

section
set_option maxRecDepth 100000
set_option linter.unusedSimpArgs false
namespace Go.Hx
open Go.Proofs
variable [Glob]
attribute [local go_sem] zAk zAl zAj zAf ndV zAm zAh zC9 List.take_nil zAY
attribute [local go_sem] reduceCtorEq Nat.reduceAdd Nat.reduceEqDiff reduceIte Nat.reduceLeDiff Nat.reduceLT Nat.reduceSub
theorem yDu (d:List Nd) (hl:d.length≤64) (l:List Pt) (hl5:l.length≤64)
  (hP:∀ p∈l,∀ n:Nat,n < d.length→Contract Tryz.prog zBN [.val (zC9 d),.val (.agg (ptV p)),.val (iv n)] {res:=.val (bv (pM d p n))}) (n:Nat) (hn:n < d.length):
  Contract Tryz.prog zAP [.val (zC9 d),.val (zAQ l),.val (iv n)] {res:=.val (bv (lM d l n))}:=by
 rw [yGT]
 unfold zAQ
 unfold zC9 at hP ⊢
 refine mkA zP3 (base:=0) (fo rfl) (fun hfit=>?_)
 unfold F0 zIt
 refine goU ?_
 refine zAd (fun i:Nat=>[(7,.pv (iv i)),(6,.un),(11,.un),(20,.un)]) (fun i:Nat=>l.length-i) (fun i:Nat=>i≤l.length∧(l.take i).any (fun p=>pM d p n)=false) (0) ?_ ⟨Nat.zero_le _,rfl⟩ ?_
 focus (exact leA)
 rintro i ⟨hi,hw⟩
 refine goW ?_
 refine zAa (by rfl) trivial (fun g1=>?_) (fun g1=>?_)
 ·have hil:i < l.length:=by simpa using g1
  have hv:=zEA l i hil
  have hsucc:=zXL (p:=fun p=>pM d p n) (default:Pt) hil
  have hany:=yDt (p:=fun p=>pM d p n) (d:=(default:Pt)) hil
  obtain ⟨p,hp⟩:∃ p,p=l.getD i default:=⟨_,rfl⟩
  have hm:p∈l:=by rw [hp,List.getD_eq_getElem?_getD,List.getElem?_eq_getElem hil];exact List.getElem_mem hil
  rw [←hp] at hv hsucc hany
  have hc:=hP p hm n hn
  rw [zDM] at hv hc
  try simp (maxSteps:=2000000) only [go_sem,hv]
  repeat with_reducible refine zAt ?_
  refine zAc (by repeat' constructor) (hc) ?_
  refine goW ?_
  refine zAa (by rfl) trivial (fun g2=>?_) (fun g2=>?_)
  ·refine goW ?_
   exact zAb rfl trivial (.inl (by rw [hany (by simpa using g2)]))
  ·refine goW ?_
   refine ⟨i+1,by omega,⟨by omega,by rw [hsucc,hw];simpa using g2⟩,?_⟩
   exact leA
 ·refine goW ?_
  have hil:i=l.length:=by simp at g1;omega
  rw [hil,List.take_length] at hw
  exact zAb rfl trivial (.inl (by rw [hw]))
theorem yJV:∀ {l:List Pt} {e:Nat},GPs l e→∀ p∈l,GP p e:=fun h p hp=>by
 obtain ⟨i,hi,rfl⟩:=List.getElem_of_mem hp
 have:=h.get i hi
 simpa [hi] using this
theorem yJW:∀ {l:List St} {e:Nat},GSs l e→∀ p∈l,GS p e:=fun h p hp=>by
 obtain ⟨i,hi,rfl⟩:=List.getElem_of_mem hp
 have:=h.get i hi
 simpa [hi] using this
theorem yJX:∀ {l:List Ts} {e:Nat},GTs l e→∀ p∈l,GT p e:=fun h p hp=>by
 obtain ⟨i,hi,rfl⟩:=List.getElem_of_mem hp
 have:=h.get i hi
 simpa [hi] using this
theorem zJg (d:List Nd) (hd:zCd d d.length=true) (hl:d.length≤64):∀ (f e:Nat),e+f=4→∀ l:List Pt,GL l e→∀ n:Nat,n < d.length→Contract Tryz.prog zAP [.val (zC9 d),.val (zAQ l),.val (iv n)] {res:=.val (bv (lM d l n))}
 |0,e,he,l,hg,n,hn=>by exact absurd hg.1 (by omega)
 |f+1,e,he,l,hg,n,hn=>by
  have hl5:=hg.2.2.1
  refine yDu d hl l (by omega) (fun p hp n hn=>?_) n hn
  obtain ⟨p1,p2,p3,_,p5⟩:=(yJV hg.2.2.2 p hp).parts'
  have:=zWZ d hd hl p p1 p2 p3 (fun s hs=>by
   obtain ⟨s1,s2⟩:=(yJW p5 s hs).parts'
   refine ⟨s1,fun t ht n hn=>?_⟩
   have hgt:=yJX s2 t ht
   exact yJU d hd hl e t hgt (fun hk m hm=>zJg d hd hl f (e+1) (by omega) t.list (hgt.parts'.2 hk) m hm) n hn) (p.steps.length-1) (by omega) n hn
  have e1:p.steps.length-1+1=p.steps.length:=by omega
  have e2:p.steps.length-1=p.links.length:=by omega
  rw [yNy,zDM]
  rw [e1,List.take_length] at this
  have e3:p.links.take (p.steps.length-1)=p.links:=by rw [e2,List.take_length]
  rw [e3] at this
  exact this
theorem zTP (d:List Nd) (hd:zAq d=0) (l:List Pt) (h:zBD l=0) (n:Nat) (hn:n < d.length):Contract Tryz.prog zAP [.val (zC9 d),.val (zAQ l),.val (iv n)] {res:=.val (bv (lM d l n))}:=by
 obtain ⟨h1,h2,h3⟩:1≤d.length∧d.length≤64∧zCd d d.length=true:=by
  unfold zAq at hd
  split at hd
  ·rename_i h
   split at hd
   ·rename_i h';exact ⟨h.1,h.2,h'⟩
   ·omega
  ·omega
 exact zJg d h3 h2 3 1 rfl l (yLh h) n hn
end Go.Hx
end

section
/-
 Where a count holds: what the program and the document reckon is the same. Plain Lean. No condition.
-/
namespace Go.Hx
variable [Glob] [GlobL]
theorem yKa {x y:Int} (_:y≠0):x.tmod y=0↔∃ k,x=y * k:=by
 constructor
 ·intro h;exact ⟨x.tdiv y,by have:=Int.mul_tdiv_add_tmod x y;omega⟩
 ·rintro ⟨k,rfl⟩;exact Int.mul_tmod_right y k
theorem yIy {a b i:Int} (he:zPy a b=0) (hi:1≤i∧i≤1073741824):zFU a b i=true↔∃ k:Int,0≤k∧i=b+a * k:=by
 unfold zFU
 rw [decide_eq_true ⟨he,hi⟩,Bool.true_and]
 by_cases ha:a=0
 ·subst ha
  rw [if_pos rfl,decide_eq_true_eq]
  constructor
  ·intro h;exact ⟨0,by omega,by omega⟩
  ·rintro ⟨k,_,h⟩;rw [Int.zero_mul] at h;omega
 ·rw [if_neg ha,Bool.and_eq_true,decide_eq_true_eq,decide_eq_true_eq,yKa ha]
  constructor
  ·rintro ⟨⟨k,hk⟩,h2⟩
   rw [hk,Int.mul_tdiv_cancel_left _ ha] at h2
   exact ⟨k,h2,by omega⟩
  ·rintro ⟨k,hk,h⟩
   have e:i-b=a * k:=by omega
   exact ⟨⟨k,e⟩,by rw [e,Int.mul_tdiv_cancel_left _ ha];exact hk⟩
theorem yLL {a b i:Int} (he:zPy a b=0) (hi:1≤i∧i≤1073741824):zEK a b i=true↔∃ k:Int,0≤k∧i=b+a * k:=by
 unfold zEK
 rw [if_pos ⟨he,hi⟩]
 by_cases h1:a=0∨i=b
 ·rw [if_pos h1,decide_eq_true_eq]
  constructor
  ·intro h;exact ⟨0,by omega,by omega⟩
  ·rintro ⟨k,_,h⟩
   rcases h1 with rfl|h1
   ·rw [Int.zero_mul] at h;omega
   ·exact h1
 ·rw [if_neg h1]
  have ha:a≠0:=fun h=>h1 (.inl h)
  by_cases h2:0 < a
  ·rw [if_pos h2,Bool.and_eq_true,decide_eq_true_eq,decide_eq_true_eq,yKa ha]
   constructor
   ·rintro ⟨h3,k,hk⟩
    refine ⟨k,?_,by omega⟩
    apply Classical.byContradiction
    intro hn
    have:=Int.mul_nonpos_of_nonneg_of_nonpos (show 0≤a by omega) (show k≤0 by omega)
    omega
   ·rintro ⟨k,hk,h⟩
    refine ⟨?_,k,by omega⟩
    have:=Int.mul_nonneg (show 0≤a by omega) hk
    omega
  ·rw [if_neg h2,Bool.and_eq_true,decide_eq_true_eq,decide_eq_true_eq,yKa (by omega)]
   constructor
   ·rintro ⟨h3,k,hk⟩
    refine ⟨k,?_,?_⟩
    ·apply Classical.byContradiction
     intro hn
     have:=Int.mul_nonpos_of_nonneg_of_nonpos (show 0≤-a by omega) (show k≤0 by omega)
     omega
    ·rw [Int.neg_mul] at hk;omega
   ·rintro ⟨k,hk,h⟩
    refine ⟨?_,k,by rw [Int.neg_mul];omega⟩
    have:=Int.mul_nonneg (show 0≤-a by omega) hk
    rw [Int.neg_mul] at this
    omega
theorem yDL (a b i:Int):zFU a b i=zEK a b i:=by
 by_cases h:zPy a b=0∧1≤i∧i≤1073741824
 ·have h1:=yIy h.1 h.2
  have h2:=yLL h.1 h.2
  rw [Bool.eq_iff_iff,h1,h2]
 ·unfold zFU zEK
  rw [decide_eq_false h,if_neg h,Bool.false_and]
end Go.Hx
end

section
/-
 The abstract code of functions of the program, printed by gen.py; each stands for the given one. No condition.
-/
namespace Go.Hx
open Go.Proofs
variable [Glob]
end Go.Hx
end

section
/-
 The abstract code of functions of the program, printed by gen.py; each stands for the given one. No condition.
-/
namespace Go.Hx
open Go.Proofs
variable [Glob]
end Go.Hx
end

section
/-
 The abstract code of functions of the program, printed by gen.py; each stands for the given one. No condition.
-/
namespace Go.Hx
open Go.Proofs
variable [Glob]
end Go.Hx
end

section
/-
 The abstract code of functions of the program, printed by gen.py; each stands for the given one. No condition.
-/
namespace Go.Hx
open Go.Proofs
variable [Glob]
abbrev zLL:Nat:=90
abbrev zJj:Nat:=27
abbrev zW3:HCode:=oN [oV 1 (.boxF (.t 0)),
  oV 2 (.mv (.c (.one (.nl 3))))]
abbrev zW4:HCode:=oN [⟨none,.vnl 3 zAu 3⟩]
abbrev zW5:HCode:=oN [oV 4 (.mv (.c (iv 0)))]
abbrev zW6:HCode:=oR [oV 8 (.mv (.t 4)),
  oV 9 (.fldR (.t 1) 0 1),
  oV 10 (.ldR (.t 9) 1 false),
  oV 11 (.len false (.t 10)),
  oV 12 (.ints .lss (.t 8) (.t 11))] [8,9,10,11]
abbrev zW7:HCode:=oR [oV 15 (.fldR (.t 1) 0 1),
  oV 16 (.ldR (.t 15) 1 false),
  oV 17 (.mv (.t 4)),
  oV 18 (.idxA 5 (.t 16) (.t 17)),
  oV 19 (.ldR (.t 18) 5 true),
  oC 20 zLj [(.t 19,.v)],
  ⟨none,.vmv 5 20⟩] [15,16,17,18,19,20]
abbrev zW8:HCode:=oN [oV 6 (.mv (.c (iv 0)))]
abbrev zW9:HCode:=oR [oV 21 (.mv (.t 6)),
  oV 22 (.mv (.t 5)),
  oV 23 (.len false (.t 22)),
  oV 24 (.ints .lss (.t 21) (.t 23))] [21,22,23]
abbrev zXa:HCode:=oN [oV 7 (.mv (.c (iv 0)))]
abbrev zXb:HCode:=.drgG [.pin 3 0 0 [],.pin 5 0 0 []] [oD 0 false (oV 27 (.mv (.t 7))),
  oD 1 false (oV 28 (.mv (.t 3))),
  oD 2 false (oV 29 (.len false (.t 28))),
  oD 3 false (oV 30 (.ints .lss (.t 27) (.t 29))),
  oD 4 false (oV 31 (.mv (.t 30))),
  oD 5 false (oG 31 true 32 (.mv (.t 5))),
  oD 6 false (oG 31 true 33 (.mv (.t 6))),
  oD 7 false (oG 31 true 34 (.idxA 3 (.t 32) (.t 33))),
  oD 8 false ⟨some (31,true),.vlp 35 (.t 34) 5 0 0 [] 3 true⟩,
  oD 9 false (oG 31 true 36 (.mv (.t 3))),
  oD 10 false (oG 31 true 37 (.mv (.t 7))),
  oD 11 false (oG 31 true 38 (.idxA 3 (.t 36) (.t 37))),
  oD 12 false ⟨some (31,true),.vlp 39 (.t 38) 3 0 0 [] 3 true⟩,
  oD 13 true ⟨some (31,true),.call (some 40) zBI [(.t 35,.v),(.t 39,.v)]⟩,
  oD 14 false (oV 41 (.pick (.t 31) (.t 40) (.c (bv false))))] [.forget [27,28,29,30,31,32,33,34,35,36,37,38,39,40],.unp 3 0 0 [],.unp 5 0 0 []]
abbrev zXc:HCode:=oR [oV 42 (.mv (.t 7)),
  oV 43 (.ints .add (.t 42) (.c (iv 1))),
  oV 7 (.mv (.t 43))] [42,43]
abbrev zT4:HCode:=.drgG [.pin 3 0 0 [],.pin 5 0 0 []] [oD 0 false (oV 44 (.mv (.t 7))),
  oD 1 false (oV 45 (.mv (.t 3))),
  oD 2 false (oV 46 (.len false (.t 45))),
  oD 3 false (oV 47 (.ints .eql (.t 44) (.t 46))),
  oD 4 false (oV 48 (.mv (.t 47))),
  oD 5 false (oG 48 false 49 (.mv (.t 3))),
  oD 6 false (oG 48 false 50 (.mv (.t 7))),
  oD 7 false (oG 48 false 51 (.idxA 3 (.t 49) (.t 50))),
  oD 8 false ⟨some (48,false),.vlp 52 (.t 51) 3 0 0 [] 3 true⟩,
  oD 9 false (oG 48 false 53 (.mv (.t 5))),
  oD 10 false (oG 48 false 54 (.mv (.t 6))),
  oD 11 false (oG 48 false 55 (.idxA 3 (.t 53) (.t 54))),
  oD 12 false ⟨some (48,false),.vlp 56 (.t 55) 5 0 0 [] 3 true⟩,
  oD 13 true ⟨some (48,false),.call (some 57) zBI [(.t 52,.v),(.t 56,.v)]⟩,
  oD 14 false (oV 58 (.pick (.t 48) (.c (bv true)) (.t 57)))] [.forget [44,45,46,47,48,49,50,51,52,53,54,55,56,57],.unp 3 0 0 [],.unp 5 0 0 []]
abbrev zT5:HCode:=oR [⟨none,.vmv 59 3⟩,
  oV 60 (.bld [.v (.int .i64 0),.v (mkS []),.nl 1] []),
  oV 61 (.bslF 3 [.t 60]),
  ⟨none,.vap 62 zAu 3 59 (.t 61)⟩,
  ⟨none,.vmv 3 62⟩] [59,60,61,62]
abbrev zT6:HCode:=.drgG [.pin 3 0 0 []] [oD 0 false (oV 63 (.mv (.t 3))),
  oD 1 false (oV 64 (.mv (.t 7))),
  oD 2 false (oV 65 (.ints .add (.t 64) (.c (iv 1)))),
  oD 3 false (oV 66 (.slr 3 (.t 63) (some (.t 65)) none)),
  oD 4 false (oV 67 (.mv (.t 3))),
  oD 5 false (oV 68 (.mv (.t 7))),
  oD 6 false (oV 69 (.slr 3 (.t 67) (some (.t 68)) none)),
  oD 7 false ⟨none,.cpy (some 70) zAu 3 3 (.t 66) (.t 69)⟩] [.forget [63,64,65,66,67,68,69,70],.unp 3 0 0 []]
abbrev zT7:HCode:=.regG [.pin 3 0 0 [],.pin 5 0 0 []] [oV 71 (.mv (.t 3)),
  oV 72 (.mv (.t 7)),
  oV 73 (.mv (.t 5)),
  oV 74 (.mv (.t 6)),
  oV 75 (.idxA 3 (.t 73) (.t 74)),
  ⟨none,.vle 76 (.t 75) 5 0 0 [] 3 true⟩,
  oV 77 (.idxA 3 (.t 71) (.t 72)),
  ⟨none,.vse (.t 77) 3 0 0 [] 3 (.t 76)⟩] [.forget [71,72,73,74,75,76,77],.unp 3 0 0 [],.unp 5 0 0 []]
abbrev zDI:HCode:=.regG [.pin 3 0 0 []] [oV 78 (.mv (.t 3)),
  oV 79 (.mv (.t 7)),
  oV 80 (.mv (.t 3)),
  oV 81 (.mv (.t 7)),
  oV 82 (.idxA 3 (.t 80) (.t 81)),
  oV 83 (.fldP (.t 82) 2),
  ⟨none,.vle 84 (.t 83) 3 0 0 [] 1 false⟩,
  oV 85 (.mv (.t 4)),
  oV 86 (.bslF 1 [.t 85]),
  ⟨none,.vap 87 zAr 1 84 (.t 86)⟩,
  oV 88 (.idxA 3 (.t 78) (.t 79)),
  oV 89 (.fldP (.t 88) 2),
  ⟨none,.vse (.t 89) 3 0 0 [] 1 (.t 87)⟩] [.forget [78,79,80,81,82,83,84,85,86,87,88,89],.unp 3 0 0 []]
abbrev zT8:HCode:=oR [oV 25 (.mv (.t 6)),
  oV 26 (.ints .add (.t 25) (.c (iv 1))),
  oV 6 (.mv (.t 26))] [25,26]
abbrev zT9:HCode:=oR [oV 13 (.mv (.t 4)),
  oV 14 (.ints .add (.t 13) (.c (iv 1))),
  oV 4 (.mv (.t 14))] [13,14]
abbrev zUa:HCode:=.regG [.vfr 3 0 0] [oV 90 (.mv (.t 3)),
  oV 2 (.mv (.t 90))] [.forget [90]]
abbrev yF8:HCode:=(.seq zW3 (.seq zW4 (.seq (.seq zW5 (.block 0 (.loop (.seq (.seq zW6 (.cond (.t 12) .skip (.exit 0))) (.seq (.block 1 (.seq zW7 (.seq zW8 (.block 2 (.loop (.seq (.seq zW9 (.cond (.t 24) .skip (.exit 2))) (.seq (.block 3 (.seq zXa (.seq (.block 4 (.loop (.seq (.seq zXb (.cond (.t 41) .skip (.exit 4))) (.block 5 zXc)))) (.seq (.seq zT4 (.cond (.t 58) (.seq zT5 (.seq zT6 zT7)) .skip)) zDI)))) zT8))))))) zT9))))) (.seq zUa .ret))))
abbrev zNH:Env:={N:=91,Γ:=[],L:=91,nfix:=0}
abbrev ref_IndexOf_R:List RSrc:=[.tmp 2]
theorem zXd:zBs Tryz.prog zF9 yF8 zNH ref_IndexOf_R:=by kernel_rfl
abbrev yDW:HCode:=oN [oV 1 (.boxF (.t 0)),
  ⟨none,.alloc 2 0 45 [.nl 5,.nl 3]⟩,
  oV 3 (.mv (.c (iv 0)))]
abbrev yDX:HCode:=oR [oV 10 (.ldR (.t 1) 1 true),
  oC 11 zCR [(.t 10,.v)],
  oV 9 (.mv (.t 11)),
  oV 12 (.ext 9 0),
  oV 13 (.ext 9 1),
  oV 4 (.mv (.t 12)),
  oV 5 (.mv (.t 13))] [9,10,11,12,13]
abbrev yDY:HCode:=oR [oV 14 (.mv (.t 5)),
  oV 15 (.ints .neq (.t 14) (.c (iv 0)))] [14]
abbrev yDZ:HCode:=oR [oV 16 (.bld [.nl 5,.nl 3] []),
  oV 17 (.mv (.t 5)),
  ⟨none,.sto (.t 2) 0 45 0 2 (.t 16)⟩,
  oV 3 (.mv (.t 17))] [16,17]
abbrev yD0:HCode:=oR [oV 18 (.mv (.t 4)),
  oV 19 (.bld [.nl 5,.nl 3] [(1,1,.t 18)]),
  ⟨none,.alloc 6 1 47 [.nl 5,.nl 3]⟩,
  ⟨none,.sto (.t 6) 1 47 0 2 (.t 19)⟩] [18,19]
abbrev yD1:HCode:=oR [oV 20 (.fldR (.t 1) 0 1),
  oV 21 (.ldR (.t 20) 1 false),
  oV 22 (.len false (.t 21)),
  oV 23 (.mv (.c (iv 0)))] [20]
abbrev yD2:HCode:=oN [oV 24 (.ints .lss (.t 23) (.t 22))]
abbrev yD3:HCode:=oR [oV 25 (.idxA 5 (.t 21) (.t 23)),
  oV 26 (.ldR (.t 25) 5 true),
  ⟨none,.alloc 8 2 49 [.v (.int .i64 0),.v (mkS []),.v (mkS []),.nl 1,.nl 2]⟩,
  ⟨none,.sto (.t 8) 2 49 0 5 (.t 26)⟩] [25,26]
abbrev yD4:HCode:=oQ [oD 0 false (oV 27 (.fldP (.t 8) 3)),
  oD 1 false (oV 28 (.ldB (.t 27) 2 49 3 1 false)),
  oD 2 false (oC 29 zCl [(.t 28,.v)]),
  oD 3 false (oV 30 (.fldP (.t 8) 4)),
  oD 4 false (oV 31 (.ldB (.t 30) 2 49 4 1 false)),
  oD 5 false (oC 32 zCJ [(.t 31,.v)]),
  oD 6 false (oV 33 (.fldP (.t 8) 3)),
  oD 7 false ⟨none,.sto (.t 33) 2 49 3 1 (.t 29)⟩,
  oD 8 false (oV 34 (.fldP (.t 8) 4)),
  oD 9 false ⟨none,.sto (.t 34) 2 49 4 1 (.t 32)⟩] [27,28,29,30,31,32,33,34]
abbrev yD5:HCode:=oR [oV 35 (.fldP (.t 6) 0),
  oV 36 (.fldP (.t 35) 0),
  ⟨none,.ldo 37 (.t 36) 1 47 0 zKv 5⟩,
  oV 38 (.ldB (.t 8) 2 49 0 5 true),
  oV 39 (.bslF 5 [.t 38]),
  ⟨none,.app 40 zKv 5 (.t 37) (.t 39)⟩,
  oV 41 (.fldP (.t 6) 0),
  oV 42 (.fldP (.t 41) 0),
  ⟨none,.stw (.t 42) 1 47 0 40⟩] [35,36,37,38,39,40,41,42]
abbrev yBd:HCode:=oR [oV 43 (.ints .add (.t 23) (.c (iv 1))),
  oV 23 (.mv (.t 43))] [43]
abbrev yBe:HCode:=oR [oV 44 (.ldB (.t 6) 1 47 0 2 true),
  ⟨none,.sto (.t 2) 0 45 0 2 (.t 44)⟩,
  oV 3 (.mv (.c (iv 0)))] [44]
abbrev yKm:HCode:=(.seq yDW (.seq yDX (.seq (.seq yDY (.cond (.t 15) (.seq yDZ .ret) .skip)) (.seq yD0 (.seq (.seq yD1 (.block 0 (.loop (.seq yD2 (.seq (.cond (.t 24) .skip (.exit 0)) (.seq (.block 1 (.seq yD3 (.seq yD4 yD5))) yBd)))))) (.seq yBe .ret))))))
abbrev zUb:Env:={N:=45,Γ:=[(45,2),(47,2),(49,5)],L:=54,nfix:=0}
abbrev live_Open_R:List RSrc:=[.cellB 2 0 45 0 2 true,.tmp 3]
theorem yD6:zBs Tryz.prog zJj yKm zUb live_Open_R:=by kernel_rfl
abbrev yF9:HCode:=oN [⟨none,.alloc 0 0 9 [.nl 5,.nl 3]⟩]
abbrev yGa:HCode:=oR [oC 4 zFL [],
  oC 5 zJj [(.t 4,.v)],
  oV 3 (.mv (.t 5)),
  oV 6 (.ext 3 0),
  oV 7 (.ext 3 1),
  ⟨none,.alloc 1 1 11 [.nl 5,.nl 3]⟩,
  ⟨none,.sto (.t 1) 1 11 0 2 (.t 6)⟩,
  oV 2 (.mv (.t 7))] [2,3,4,5,6,7]
abbrev yGb:HCode:=oR [oV 8 (.ldB (.t 1) 1 11 0 2 true),
  ⟨none,.sto (.t 0) 0 9 0 2 (.t 8)⟩] [8]
abbrev yLP:HCode:=(.seq yF9 (.seq yGa (.seq yGb .ret)))
abbrev zXV:Env:={N:=9,Γ:=[(9,2),(11,2)],L:=13,nfix:=0}
abbrev law_page_R:List RSrc:=[.cellB 0 0 9 0 2 true]
theorem yGc:zBs Tryz.prog zLL yLP zXV law_page_R:=by kernel_rfl
end Go.Hx
end

section
set_option maxRecDepth 100000
set_option linter.unusedSimpArgs false
set_option maxHeartbeats 4000000
namespace Go.Hx
open Go.Proofs
variable [Glob]
attribute [local go_sem] zAk zAl zAj zAf ndV zAm zAh atV OVal.cells yBn List.drop_succ_cons List.drop_zero List.take_succ_cons List.getD_nil Nat.sub_zero List.map_nil List.map_cons List.take_zero zDH OV.left List.length_set
attribute [local go_sem ↓] yNm yNn yQX
attribute [local go_sem] reduceCtorEq Nat.reduceAdd Nat.reduceEqDiff reduceIte Nat.reduceLeDiff Nat.reduceLT Nat.reduceSub
def kE (k:Key):Ent:=⟨k.1,k.2,[]⟩
def ksO (l:List Key):List (List OV):=ovT zAr (l.map kE)
theorem yKn (l:List Key):(ksO l).length=l.length:=by simp [ksO,zDH]
theorem yN0 (a b:List Key):ksO (a++b)=ksO a++ksO b:=by simp [ksO,ovT]
theorem yID (x:Nd) (hx:x.cls.length≤100):Contract Tryz.prog zLj [.val (.agg (ndV x))] {res:=.ov (.one (.os none zAu 3 (ksO (zE1 x))))}:=by
 have hk:zE1 x=((1,x.tag)::(if x.id=[] then [] else [(2,x.id)]))++x.cls.map fun c=>((3:Int),c):=rfl
 unfold ndV
 refine mkA yFC (base:=0) (fo rfl) (fun hfit=>?_)
 unfold F0 zXA
 refine goU ?_
 refine zAa (by rfl) trivial (fun h1=>?_) (fun h1=>?_)
 have hid:x.id≠[]:=by simpa using h1
 rw [if_neg hid] at hk
 refine goW ?_
 obtain ⟨K0,hK0⟩:∃ k,k=[((1:Int),x.tag),(2,x.id)]:=⟨_,rfl⟩
 rw [←hK0] at hk
 have hKl:K0.length≤2:=by rw [hK0];simp
 have hKr:ksO K0=[[.p (.v (.int .i64 1)),.p (bS x.tag),.os none zAr 1 []],[.p (.v (.int .i64 2)),.p (bS x.id),.os none zAr 1 []]]:=by rw [hK0];rfl
 rotate_left
 have hid:x.id=[]:=by simpa using h1
 rw [if_pos hid] at hk
 refine goW ?_
 obtain ⟨K0,hK0⟩:∃ k,k=[((1:Int),x.tag)]:=⟨_,rfl⟩
 rw [←hK0] at hk
 have hKl:K0.length≤2:=by rw [hK0];simp
 have hKr:ksO K0=[[.p (.v (.int .i64 1)),.p (bS x.tag),.os none zAr 1 []]]:=by rw [hK0];rfl
 all_goals
  refine zAd (fun i:Nat=>[(4,.pv (iv i)),(3,.ov (.one (.os none zAu 3 (ksO (K0++(x.cls.take i).map fun c=>((3:Int),c)))))),(22,.un)]) (fun i:Nat=>x.cls.length-i) (fun i:Nat=>i≤x.cls.length) (0) ?_ (Nat.zero_le _) ?_
  focus (simp (maxSteps:=2000000) only [go_sem,zAC,zA1,zB5,zAD];all_goals (repeat' (first|exact trivial|exact zA2 (by omega)|exact zA4 rfl|exact zBm rfl|exact zBK|exact le_refl _|refine And.intro ?_ ?_)))
  ·rw [List.append_nil,hKr];exact zBm rfl
  intro i hi
  have hkl:(ksO (K0++(x.cls.take i).map fun c=>((3:Int),c))).length≤102:=by rw [yKn,List.length_append,List.length_map,List.length_take];omega
  obtain ⟨R,hR⟩:∃ R,R=ksO (K0++(x.cls.take i).map fun c=>((3:Int),c)):=⟨_,rfl⟩
  rw [←hR] at hkl ⊢
  refine goW ?_
  refine zAa (by rfl) trivial (fun g=>?_) (fun g=>?_)
  ·have hil:i < x.cls.length:=by simpa using g
   have hcj:=zFE x.cls i hil
   try simp (maxSteps:=2000000) only [go_sem,hcj]
   repeat with_reducible refine zAt ?_
   refine ⟨i+1,by omega,by omega,?_⟩
   have e:ksO (K0++(x.cls.take (i+1)).map fun c=>((3:Int),c))=R++[[.p (.v (.int .i64 3)),.p (bS (x.cls.getD i [])),.os none zAr 1 []]]:=by
    rw [hR,List.take_succ_eq_append_getElem hil,List.map_append,←List.append_assoc,yN0]
    simp [ksO,ovT,yDT,zKc,kE,hil]
   rw [e]
   exact leA
  ·have hil:i=x.cls.length:=by simp at g;omega
   rw [hil,List.take_length,←hk] at hR
   refine goW ?_
   rw [hR]
   exact yPH rfl
theorem zXW (es:List Ent) (i:Nat) (hi:i≤es.length) (z:List OV) (hz:z.length=3):((zC7 i (ovT zAr es++[z])).getD i []).length=3:=by
 have hl:(List.take i (ovT zAr es++[z])).length=i:=by rw [List.length_take,List.length_append,zDH];simp;omega
 have h3:((ovT zAr es++[z]).getD i []).length=3:=by
  rcases Nat.lt_or_ge i es.length with h|h
  ·rw [List.getD_eq_getElem?_getD,List.getElem?_append_left (by rw [zDH];exact h),←List.getD_eq_getElem?_getD,zT2 _ _ _ h];rfl
  ·have:i=es.length:=by omega
   rw [List.getD_eq_getElem?_getD,List.getElem?_append_right (by rw [zDH];omega),zDH,this,Nat.sub_self];exact hz
 unfold zC7
 rw [List.getD_eq_getElem?_getD,List.getElem?_append_left (by simp [hl]),List.getElem?_append_right (by omega),hl,Nat.sub_self]
 simpa using h3
theorem yKo (es:List Ent) (k:Key) (n:Int) (i:Nat) (hi:i≤es.length) (hj:∀ j,j < i→zAx (es.getD j default).key k=true) (h:i=es.length∨zAx k (es.getD i default).key=true):zPx es k n=(es.take i++kE k::es.drop i).set i ⟨k.1,k.2,[n]⟩:=by
 rw [yHa es i k n hi hj h,List.set_append_right _ _ (by simp;omega)]
 have:i-(es.take i).length=0:=by simp;omega
 rw [this];rfl
theorem yHc (es:List Ent) (i:Nat) (x:Ent) (hi:i≤es.length):(es.take i++x::es.drop i).getD i default=x:=by
 rw [List.getD_eq_getElem?_getD,List.getElem?_append_right (by simp;omega)]
 have:i-(es.take i).length=0:=by simp;omega
 rw [this];rfl
theorem yN1 (es:List Ent) (i:Nat) (e:Ent):(ovT zAr es).set i (yDT zAr e)=ovT zAr (es.set i e):=by
 unfold ovT;rw [List.map_set]
theorem yBf (d:List Nd) (h64:d.length≤64) (hcls:∀ i,i < d.length→(d.getD i default).cls.length≤64):Contract Tryz.prog zF9 [.val (zC9 d)] {res:=.val (.one (.sl 3 (zCv (idxOf d))))}:=by
 unfold zC9
 refine mkA zXd (base:=0) (fo rfl) (fun hfit=>?_)
 unfold F0 zNH
 refine goU ?_
 refine zAd (fun n:Nat=>[(4,.pv (iv n)),(3,.ov (.one (.os none zAu 3 (ovT zAr (zBL (zAS d n)))))),(5,.un),(6,.un),(7,.un),(12,.un),(24,.un),(41,.un),(58,.un)]) (fun n:Nat=>d.length-n) (fun n:Nat=>n≤d.length) (0) ?_ (Nat.zero_le _) ?_
 focus (exact leA)
 intro n hn
 refine goW ?_
 refine zAa (by rfl) trivial (fun g1=>?_) (fun g1=>?_)
 ·have hnl:n < d.length:=by simpa using g1
  have hx:=zAW d n hnl
  have hpl:=zE2 d n fun j hj=>hcls j (by omega)
  have hc:=hcls n hnl
  have hsu:zAS d (n+1)=zAS d n++(zE1 (d.getD n default)).map fun k=>(k,(n:Int)):=rfl
  obtain ⟨x,hxe⟩:∃ x,x=d.getD n default:=⟨_,rfl⟩
  rw [←hxe] at hx hsu hc
  have hK:=yID x (by omega)
  have hkl:=zNX x
  obtain ⟨ks,hks⟩:∃ k,k=zE1 x:=⟨_,rfl⟩
  rw [←hks] at hK hkl hsu
  unfold ndV at hx hK
  obtain ⟨p0,hp0⟩:∃ p,p=zAS d n:=⟨_,rfl⟩
  rw [←hp0] at hpl hsu ⊢
  try simp (maxSteps:=2000000) only [go_sem,hx]
  repeat with_reducible refine zAt ?_
  refine yNo (by repeat' constructor) (hK) ?_
  refine goW ?_
  refine zAd (fun s:Nat×List (List OV)=>[(6,.pv (iv s.1)),(5,.ov (.one (.os none zAu 3 s.2))),(3,.ov (.one (.os none zAu 3 (ovT zAr (zBL (p0++(ks.take s.1).map fun k=>(k,(n:Int)))))))),(7,.un),(24,.un),(41,.un),(58,.un)]) (fun s:Nat×List (List OV)=>ks.length-s.1) (fun s:Nat×List (List OV)=>s.1≤ks.length∧s.2.length=ks.length∧(∀ j,s.1≤j→j < ks.length→s.2.getD j []=yDT zAr (kE (ks.getD j default)))) ((0,ksO ks)) ?_ ⟨Nat.zero_le _,yKn _,fun j _ hj=>(by simp [ksO,ovT,hj])⟩ ?_
  focus (simp (maxSteps:=2000000) only [go_sem,zAC,zA1,zB5,zAD];all_goals (repeat' (first|exact trivial|exact zA2 (by omega)|exact zA4 rfl|exact zBm rfl|exact zBK|exact le_refl _|refine And.intro ?_ ?_)))
  ·exact zBm (by rw [List.append_nil])
  rintro ⟨q,R⟩ ⟨hq,hRl,hR⟩
  simp only at hq hRl hR
  try simp (maxSteps:=2000000) only [go_sem,hRl]
  repeat with_reducible refine zAt ?_
  refine zAa (by rfl) trivial (fun g2=>?_) (fun g2=>?_)
  ·have hql:q < ks.length:=by simpa using g2
   have hRq:=hR q (Nat.le_refl _) hql
   obtain ⟨ky,hky⟩:∃ k,k=ks.getD q default:=⟨_,rfl⟩
   rw [←hky] at hRq
   have hstep:p0++(ks.take (q+1)).map (fun k=>(k,(n:Int)))=(p0++(ks.take q).map fun k=>(k,(n:Int)))++[(ky,(n:Int))]:=by
    rw [List.take_succ_eq_append_getElem hql,List.map_append,←List.append_assoc,hky]
    simp [hql]
   obtain ⟨p1,hp1⟩:∃ p,p=p0++(ks.take q).map fun k=>(k,(n:Int)):=⟨_,rfl⟩
   have hp1l:p1.length≤n * 66+66:=by rw [hp1,List.length_append,List.length_map,List.length_take];omega
   have hel:=yIC p1
   have hnode:=fun e=>yF7 p1 (e:=e)
   have hins:=zRw p1 (ky,(n:Int))
   rw [←hp1] at hstep ⊢
   rw [←hstep] at hins
   obtain ⟨es,hes⟩:∃ e,e=zBL p1:=⟨_,rfl⟩
   rw [←hes] at hel hnode hins ⊢
   refine goW ?_
   refine zAd (fun i:Nat=>[(7,.pv (iv i)),(5,.ov (.one (.os none zAu 3 R))),(3,.ov (.one (.os none zAu 3 (ovT zAr es)))),(41,.un)]) (fun i:Nat=>es.length-i) (fun i:Nat=>i≤es.length∧∀ j,j < i→zAx (es.getD j default).key ky=true) (0) ?_ ⟨Nat.zero_le _,fun j hj=>absurd hj (Nat.not_lt_zero _)⟩ ?_
   focus (exact leA)
   rintro i ⟨hi,hlt⟩
   have hRq:R.getD q []=[.p (bI ky.1),.p (bS ky.2),.os none zAr 1 []]:=hRq
   have h48:es.length≤4400:=by omega
   have A:i < es.length∧zAx (es.getD i default).key ky=true∨(i=es.length∨i < es.length∧zAx ky (es.getD i default).key=true)∨(i < es.length∧(es.getD i default).key=ky):=by
    rcases Nat.lt_or_ge i es.length with h|h
    ·cases h1:zAx (es.getD i default).key ky with
     |true=>exact .inl ⟨h,rfl⟩
     |false=>
      cases h2:zAx ky (es.getD i default).key with
      |true=>exact .inr (.inl (.inr ⟨h,rfl⟩))
      |false=>exact .inr (.inr ⟨h,zHj h1 h2⟩)
    ·exact .inr (.inl (.inl (by omega)))
   refine goW ?_
   intro b3 b5
   have hB:∀ e:Ent,Contract Tryz.prog zBI [.val (.agg [bI ky.1,bS ky.2,.any]),.val (.agg [bI e.kind,bS e.name,.any])] {res:=.val (bv (zAx e.key ky))}:=fun e=>zHz ⟨ky.1,ky.2,[]⟩ e .any .any
   have hB2:∀ e:Ent,Contract Tryz.prog zBI [.val (.agg [bI e.kind,bS e.name,.any]),.val (.agg [bI ky.1,bS ky.2,.any])] {res:=.val (bv (zAx ky e.key))}:=fun e=>zHz e ⟨ky.1,ky.2,[]⟩ .any .any
   rcases A with ⟨hil,hk1⟩|(hie|⟨hil,hk1⟩)|⟨hil,hk1⟩
   ·have t1:decide ((i:Int) < (es.length:Int))=true:=by simpa using hil
    have hei:=zT2 zAr es i hil
    have hB:=hB (es.getD i default)
    rw [hk1] at hB
    have hlt':∀ j,j < i+1→zAx (es.getD j default).key ky=true:=fun j hj=>by
     rcases Nat.lt_or_ge j i with h|h
     ·exact hlt j h
     ·have:j=i:=by omega
      rw [this];exact hk1
    obtain ⟨e,he⟩:∃ e,e=es.getD i default:=⟨_,rfl⟩
    rw [←he] at hei hB
    unfold yDT zKc at hei
    try simp (maxSteps:=2000000) only [go_sem,t1,hRq,hei,yHi]
    repeat with_reducible refine zAt ?_
    apply zAg (h2:=fun _=>hB)
    ·(simp (maxSteps:=2000000) only [go_sem];rfl)
    ·intro h;repeat' (first|exact trivial|exact h|refine And.intro ?_ ?_)
    refine goW ?_
    refine zL0 (by rfl) trivial ?_
    refine goW ?_
    refine ⟨i+1,by omega,⟨by omega,hlt'⟩,?_⟩
    exact leA
   have t1:decide ((i:Int) < (es.length:Int))=false:=by rw [hie];simp
   have t2:((i:Int)==(es.length:Int))=true:=by rw [hie];simp
   have hnew:=yKo es ky n i hi hlt (.inl hie)
   try simp (maxSteps:=2000000) only [go_sem,t1,hRq]
   repeat with_reducible refine zAt ?_
   refine zAg (T:=false) (x:=bv false) (by rfl) (fun h=>by cases h) (fun h=>by cases h) ?_
   refine goW ?_
   refine zH9 (by rfl) trivial ?_
   refine goW ?_
   intro b6 b7
   try simp (maxSteps:=2000000) only [go_sem,t2,Bool.not_true]
   repeat with_reducible refine zAt ?_
   refine zAg (T:=false) (x:=bv false) (by rfl) (fun h=>by cases h) (fun h=>by cases h) ?_
   refine goW ?_
   refine zL0 (by rfl) trivial ?_
   refine goW ?_
   obtain ⟨RR,hRR⟩:∃ RR,RR=ovT zAr es++[[OV.p (PV.v (Value.int IntKind.i64 0)),OV.p (PV.v (mkS [])),OV.p (PV.sl 1 [])]]:=⟨_,rfl⟩
   have hRl2:RR.length=es.length+1:=by rw [hRR,List.length_append,zDH];rfl
   have hto:((i:Int)+1).toNat=i+1:=by omega
   rw [←hRR]
   intro b8
   try simp (maxSteps:=2000000) only [go_sem,hRl2,hto]
   repeat with_reducible refine zAt ?_
   refine yPF (b:=b8) (i:=i) (rows:=RR) rfl rfl rfl (by omega) (by omega) (by omega) (by decide) ?_
   obtain ⟨R3,hR3⟩:∃ R3,R3=zC7 i RR:=⟨_,rfl⟩
   have hR3l:R3.length=es.length+1:=by rw [hR3,hRR];exact yDV _ _ _ hi _
   have hrow:(R3.getD i []).length=3:=by rw [hR3,hRR];exact zXW _ _ hi _ rfl
   rw [←hR3]
   have hdr:List.drop 3 (R3.getD i [])=[]:=List.drop_eq_nil_of_le (by omega)
   have hset:R3.set i [OV.p (bI ky.1),.p (bS ky.2),.os none zAr 1 []]=ovT zAr (es.take i++kE ky::es.drop i):=by
    rw [hR3,hRR,yDU _ _ _ hi]
    simp [ovT,yDT,zKc,kE]
   generalize hG14:hwp Tryz.prog zDI=G14
   try simp (maxSteps:=2000000) only [go_sem,hR3l,hRq,hrow,hdr,List.append_nil,hset,OV.left]
   repeat with_reducible refine zAt ?_
   have hR1l:(R.set q [OV.p (bI ky.1),.p (bS ky.2),.hole]).length=ks.length:=by rw [List.length_set];exact hRl
   have hR1:∀ j,q+1≤j→j < ks.length→(R.set q [OV.p (bI ky.1),.p (bS ky.2),.hole]).getD j []=yDT zAr (kE (ks.getD j default)):=fun j h1 h2=>by
    rw [List.getD_eq_getElem?_getD,List.getElem?_set_ne (by omega),←List.getD_eq_getElem?_getD];exact hR j (by omega) h2
   obtain ⟨R1,hR1e⟩:∃ R1,R1=R.set q [OV.p (bI ky.1),.p (bS ky.2),.hole]:=⟨_,rfl⟩
   rw [←hR1e] at hR1l hR1 ⊢
   have hi1:i < (es.take i++kE ky::es.drop i).length:=by simp;omega
   have hl1:(es.take i++kE ky::es.drop i).length≤5000:=by simp;omega
   have hn1:((es.take i++kE ky::es.drop i).getD i default).nodes.length≤5000:=by rw [yHc _ _ _ hi];simp [kE]
   have hins1:zBL (p0++(ks.take (q+1)).map fun k=>(k,(n:Int)))=(es.take i++kE ky::es.drop i).set i ⟨((es.take i++kE ky::es.drop i).getD i default).kind,((es.take i++kE ky::es.drop i).getD i default).name,((es.take i++kE ky::es.drop i).getD i default).nodes++[(n:Int)]⟩:=by
    rw [hins,yHc _ _ _ hi];exact hnew
   obtain ⟨es1,hes1⟩:∃ e,e=es.take i++kE ky::es.drop i:=⟨_,rfl⟩
   rw [←hes1] at hi1 hl1 hn1 hins1 ⊢
   rotate_left
   have t1:decide ((i:Int) < (es.length:Int))=true:=by simpa using hil
   have t2:((i:Int)==(es.length:Int))=false:=by simp;omega
   have hnew:=yKo es ky n i hi hlt (.inr hk1)
   have hei:=zT2 zAr es i hil
   have hB:=hB (es.getD i default)
   rw [zHk hk1] at hB
   have hB2:=hB2 (es.getD i default)
   rw [hk1] at hB2
   obtain ⟨e,he⟩:∃ e,e=es.getD i default:=⟨_,rfl⟩
   rw [←he] at hei hB hB2
   unfold yDT zKc at hei
   try simp (maxSteps:=2000000) only [go_sem,t1,hRq,hei,yHi]
   repeat with_reducible refine zAt ?_
   apply zAg (h2:=fun _=>hB)
   ·(simp (maxSteps:=2000000) only [go_sem];rfl)
   ·intro h;repeat' (first|exact trivial|exact h|refine And.intro ?_ ?_)
   refine goW ?_
   refine zH9 (by rfl) trivial ?_
   refine goW ?_
   intro b6 b7
   try simp (maxSteps:=2000000) only [go_sem,t2,Bool.not_false,hRq,hei,yHi]
   repeat with_reducible refine zAt ?_
   apply zAg (h2:=fun _=>hB2)
   ·(simp (maxSteps:=2000000) only [go_sem];rfl)
   ·intro h;repeat' (first|exact trivial|exact h|refine And.intro ?_ ?_)
   refine goW ?_
   refine zL0 (by rfl) trivial ?_
   refine goW ?_
   obtain ⟨RR,hRR⟩:∃ RR,RR=ovT zAr es++[[OV.p (PV.v (Value.int IntKind.i64 0)),OV.p (PV.v (mkS [])),OV.p (PV.sl 1 [])]]:=⟨_,rfl⟩
   have hRl2:RR.length=es.length+1:=by rw [hRR,List.length_append,zDH];rfl
   have hto:((i:Int)+1).toNat=i+1:=by omega
   rw [←hRR]
   intro b8
   try simp (maxSteps:=2000000) only [go_sem,hRl2,hto]
   repeat with_reducible refine zAt ?_
   refine yPF (b:=b8) (i:=i) (rows:=RR) rfl rfl rfl (by omega) (by omega) (by omega) (by decide) ?_
   obtain ⟨R3,hR3⟩:∃ R3,R3=zC7 i RR:=⟨_,rfl⟩
   have hR3l:R3.length=es.length+1:=by rw [hR3,hRR];exact yDV _ _ _ hi _
   have hrow:(R3.getD i []).length=3:=by rw [hR3,hRR];exact zXW _ _ hi _ rfl
   rw [←hR3]
   have hdr:List.drop 3 (R3.getD i [])=[]:=List.drop_eq_nil_of_le (by omega)
   have hset:R3.set i [OV.p (bI ky.1),.p (bS ky.2),.os none zAr 1 []]=ovT zAr (es.take i++kE ky::es.drop i):=by
    rw [hR3,hRR,yDU _ _ _ hi]
    simp [ovT,yDT,zKc,kE]
   generalize hG14:hwp Tryz.prog zDI=G14
   try simp (maxSteps:=2000000) only [go_sem,hR3l,hRq,hrow,hdr,List.append_nil,hset,OV.left]
   repeat with_reducible refine zAt ?_
   have hR1l:(R.set q [OV.p (bI ky.1),.p (bS ky.2),.hole]).length=ks.length:=by rw [List.length_set];exact hRl
   have hR1:∀ j,q+1≤j→j < ks.length→(R.set q [OV.p (bI ky.1),.p (bS ky.2),.hole]).getD j []=yDT zAr (kE (ks.getD j default)):=fun j h1 h2=>by
    rw [List.getD_eq_getElem?_getD,List.getElem?_set_ne (by omega),←List.getD_eq_getElem?_getD];exact hR j (by omega) h2
   obtain ⟨R1,hR1e⟩:∃ R1,R1=R.set q [OV.p (bI ky.1),.p (bS ky.2),.hole]:=⟨_,rfl⟩
   rw [←hR1e] at hR1l hR1 ⊢
   have hi1:i < (es.take i++kE ky::es.drop i).length:=by simp;omega
   have hl1:(es.take i++kE ky::es.drop i).length≤5000:=by simp;omega
   have hn1:((es.take i++kE ky::es.drop i).getD i default).nodes.length≤5000:=by rw [yHc _ _ _ hi];simp [kE]
   have hins1:zBL (p0++(ks.take (q+1)).map fun k=>(k,(n:Int)))=(es.take i++kE ky::es.drop i).set i ⟨((es.take i++kE ky::es.drop i).getD i default).kind,((es.take i++kE ky::es.drop i).getD i default).name,((es.take i++kE ky::es.drop i).getD i default).nodes++[(n:Int)]⟩:=by
    rw [hins,yHc _ _ _ hi];exact hnew
   obtain ⟨es1,hes1⟩:∃ e,e=es.take i++kE ky::es.drop i:=⟨_,rfl⟩
   rw [←hes1] at hi1 hl1 hn1 hins1 ⊢
   rotate_left
   have t1:decide ((i:Int) < (es.length:Int))=true:=by simpa using hil
   have t2:((i:Int)==(es.length:Int))=false:=by simp;omega
   have hei:=zT2 zAr es i hil
   have hB:=hB (es.getD i default)
   have hB2:=hB2 (es.getD i default)
   have hirr:=zBe ky
   rw [hk1,hirr] at hB hB2
   have hi1:=hil
   have hl1:es.length≤5000:=by omega
   have hn1:(es.getD i default).nodes.length≤5000:=by
    have:=hnode (es.getD i default) (by rw [hes,←hes];simp [hil])
    omega
   have hins1:zBL (p0++(ks.take (q+1)).map fun k=>(k,(n:Int)))=es.set i ⟨(es.getD i default).kind,(es.getD i default).name,(es.getD i default).nodes++[(n:Int)]⟩:=by
    rw [hins,yHb es i ky n hil hlt hk1]
   obtain ⟨e,he⟩:∃ e,e=es.getD i default:=⟨_,rfl⟩
   rw [←he] at hei hB hB2
   unfold yDT zKc at hei
   try simp (maxSteps:=2000000) only [go_sem,t1,hRq,hei,yHi]
   repeat with_reducible refine zAt ?_
   apply zAg (h2:=fun _=>hB)
   ·(simp (maxSteps:=2000000) only [go_sem];rfl)
   ·intro h;repeat' (first|exact trivial|exact h|refine And.intro ?_ ?_)
   refine goW ?_
   refine zH9 (by rfl) trivial ?_
   refine goW ?_
   intro b6 b7
   try simp (maxSteps:=2000000) only [go_sem,t2,Bool.not_false,hRq,hei,yHi]
   repeat with_reducible refine zAt ?_
   apply zAg (h2:=fun _=>hB2)
   ·(simp (maxSteps:=2000000) only [go_sem];rfl)
   ·intro h;repeat' (first|exact trivial|exact h|refine And.intro ?_ ?_)
   refine goW ?_
   refine zH9 (by rfl) trivial ?_
   generalize hG14:hwp Tryz.prog zDI=G14
   refine goW ?_
   have hR1l:=hRl
   have hR1:∀ j,q+1≤j→j < ks.length→R.getD j []=yDT zAr (kE (ks.getD j default)):=fun j h1 h2=>hR j (by omega) h2
   obtain ⟨R1,hR1e⟩:∃ R1,R1=R:=⟨_,rfl⟩
   rw [←hR1e] at hR1l hR1 ⊢
   obtain ⟨es1,hes1⟩:∃ e,e=es:=⟨_,rfl⟩
   rw [←hes1] at hi1 hl1 hn1 hins1 ⊢
   all_goals
    have he1:=zT2 zAr es1 i hi1
    obtain ⟨e1,hee⟩:∃ e,e=es1.getD i default:=⟨_,rfl⟩
    rw [←hee] at he1 hn1 hins1
    have hset1:(ovT zAr es1).set i [OV.p (bI e1.kind),OV.p (bS e1.name),OV.os none zAr 1 (e1.nodes.map (fun n=>[OV.p (bI n)])++[[OV.p (bI (n:Int))]])]=ovT zAr (zBL (p0++(ks.take (q+1)).map fun k=>(k,(n:Int)))):=by
     rw [hins1,←yN1];simp [yDT,zKc]
    have hgs:∀ X,((ovT zAr es1).set i X).getD i []=X:=fun X=>by simp [zDH,hi1]
    unfold yDT zKc at he1
    subst hG14
    try simp (maxSteps:=2000000) only [go_sem,he1,zDH,List.length_map,hgs,List.set_set,hset1]
    repeat with_reducible refine zAt ?_
    refine ⟨(q+1,R1),by simp only;omega,⟨by simp only;omega,hR1l,hR1⟩,?_⟩
    exact leA
  ·have hql:q=ks.length:=by simp at g2;omega
   rw [hql,List.take_length,←hsu]
   refine goW ?_
   refine ⟨n+1,by omega,by omega,?_⟩
   exact leA
 ·have hnl:n=d.length:=by simp at g1;omega
  have hfz:∀ (b:Option Nat) (e:Nat) (es:List Ent),(OV.os b e 3 (ovT zAr es)).frz=some (.sl 3 (zCv es)):=fun b e es=>yBE (zT3 _ _)
  rw [hnl,show zBL (zAS d d.length)=idxOf d from rfl]
  try simp (maxSteps:=2000000) only [go_sem,hfz]
  repeat with_reducible refine zAt ?_
  exact zAb rfl trivial (.inl rfl)
end Go.Hx
end
