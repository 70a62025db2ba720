/-
  Walks of functions of the program over an abstract layer, and the laws that they use: each contract says what the function computes, for every input that its conditions let by. No other condition.
-/
import Derived.Test.YtjnagiaooecklabGreatDoorG11
import Derived.Test.YtjnagiaooecklabGreatDoorG10
import Derived.Test.YtjnagiaooecklabGreatDoorG13
import Derived.Test.YtjnagiaooecklabGreatDoorProg
import Derived.Test.YtjnagiaooecklabGreatDoorG12
set_option linter.all false
section
set_option maxRecDepth 100000
set_option linter.unusedSimpArgs false
set_option maxHeartbeats 4000000
namespace Go.Hx
open Go.Proofs
variable [Glob]
attribute [local go_sem] zAh zAm zAk zAg ndV zAr zAp atV OVal.cells zSA List.drop_succ_cons List.drop_zero List.take_succ_cons List.getD_nil Nat.sub_zero List.map_nil List.map_cons List.take_zero zDw OV.left List.length_set
attribute [local go_sem ↓] yCn yCo yH6
attribute [local go_sem] reduceCtorEq Nat.reduceAdd Nat.reduceEqDiff reduceIte Nat.reduceLeDiff Nat.reduceLT Nat.reduceSub
def kE (k:Key):Ent:=⟨k.1,k.2,[]⟩
def ksO (l:List Key):List (List OV):=ovT zAD (l.map kE)
theorem yCN (l:List Key):(ksO l).length=l.length:=by simp [ksO,zDw]
theorem yGo (a b:List Key):ksO (a++b)=ksO a++ksO b:=by simp [ksO,ovT]
theorem yBD (x:Nd) (hx:x.cls.length≤100):Contract Tryz.prog zIJ [.val (.agg (ndV x))] {res:=.ov (.one (.os none zAE 3 (ksO (zLg x))))}:=by
 have hk:zLg x=((1,x.tag)::(if x.id=[] then [] else [(2,x.id)]))++x.cls.map fun c=>((3:Int),c):=rfl
 unfold ndV
 refine mkA zYA (base:=0) (fo rfl) (fun hfit=>?_)
 unfold F0 zSd
 simp (maxSteps:=2000000) only [zAM,List.set_cons_succ,List.set_cons_zero,List.map_cons,List.map_nil,zAL,zAa,ioOf,List.length_cons,List.length_nil,Nat.reduceAdd,Nat.reduceSub,List.replicate,List.cons_append,List.nil_append]
 try simp (maxSteps:=2000000) only [go_sem]
 repeat with_reducible refine zAb ?_
 refine zAd (by rfl) trivial (fun h1=>?_) (fun h1=>?_)
 have hid:x.id≠[]:=by simpa using h1
 rw [if_neg hid] at hk
 try simp (maxSteps:=2000000) only [go_sem]
 repeat with_reducible refine zAb ?_
 obtain ⟨K0,hK0⟩:∃ k,k=[((1:Int),x.tag),(2,x.id)]:=⟨_,rfl⟩
 rw [←hK0] at hk
 have hKl:K0.length≤2:=by rw [hK0];simp
 have hKr:ksO K0=[[.p (.v (.int .i64 1)),.p (bS x.tag),.os none zAD 1 []],[.p (.v (.int .i64 2)),.p (bS x.id),.os none zAD 1 []]]:=by rw [hK0];rfl
 rotate_left
 have hid:x.id=[]:=by simpa using h1
 rw [if_pos hid] at hk
 try simp (maxSteps:=2000000) only [go_sem]
 repeat with_reducible refine zAb ?_
 obtain ⟨K0,hK0⟩:∃ k,k=[((1:Int),x.tag)]:=⟨_,rfl⟩
 rw [←hK0] at hk
 have hKl:K0.length≤2:=by rw [hK0];simp
 have hKr:ksO K0=[[.p (.v (.int .i64 1)),.p (bS x.tag),.os none zAD 1 []]]:=by rw [hK0];rfl
 all_goals
  refine zAx (fun i:Nat=>[(4,.pv (iv i)),(3,.ov (.one (.os none zAE 3 (ksO (K0++(x.cls.take i).map fun c=>((3:Int),c)))))),(22,.un)]) (fun i:Nat=>x.cls.length-i) (fun i:Nat=>i≤x.cls.length) (0) ?_ (Nat.zero_le _) ?_
  focus (simp (maxSteps:=2000000) only [go_sem,zAn,zAw,zAJ,zAo];all_goals (repeat' (first|exact trivial|exact zAy (by omega)|exact zAu rfl|exact zAN rfl|exact zAA|exact le_refl _|refine And.intro ?_ ?_)))
  ·rw [List.append_nil,hKr];exact zAN rfl
  intro i hi
  have hkl:(ksO (K0++(x.cls.take i).map fun c=>((3:Int),c))).length≤102:=by rw [yCN,List.length_append,List.length_map,List.length_take];omega
  obtain ⟨R,hR⟩:∃ R,R=ksO (K0++(x.cls.take i).map fun c=>((3:Int),c)):=⟨_,rfl⟩
  rw [←hR] at hkl ⊢
  try simp (maxSteps:=2000000) only [go_sem]
  repeat with_reducible refine zAb ?_
  refine zAd (by rfl) trivial (fun g=>?_) (fun g=>?_)
  ·have hil:i < x.cls.length:=by simpa using g
   have hcj:=zEN x.cls i hil
   try simp (maxSteps:=2000000) only [go_sem,hcj]
   repeat with_reducible refine zAb ?_
   refine ⟨i+1,by omega,by omega,?_⟩
   have e:ksO (K0++(x.cls.take (i+1)).map fun c=>((3:Int),c))=R++[[.p (.v (.int .i64 3)),.p (bS (x.cls.getD i [])),.os none zAD 1 []]]:=by
    rw [hR,List.take_succ_eq_append_getElem hil,List.map_append,←List.append_assoc,yGo]
    simp [ksO,ovT,zW7,zH7,kE,hil]
   rw [e]
   simp (maxSteps:=2000000) only [go_sem,zAn,zAw,zAJ,zAo]
   all_goals (repeat' (first|exact trivial|exact zAy (by omega)|exact zAu rfl|exact zAN rfl|exact zAA|exact le_refl _|refine And.intro ?_ ?_))
  ·have hil:i=x.cls.length:=by simp at g;omega
   rw [hil,List.take_length,←hk] at hR
   try simp (maxSteps:=2000000) only [go_sem]
   repeat with_reducible refine zAb ?_
   rw [hR]
   exact yEP rfl
theorem zSr (es:List Ent) (i:Nat) (hi:i≤es.length) (z:List OV) (hz:z.length=3):((zC4 i (ovT zAD es++[z])).getD i []).length=3:=by
 have hl:(List.take i (ovT zAD es++[z])).length=i:=by rw [List.length_take,List.length_append,zDw];simp;omega
 have h3:((ovT zAD es++[z]).getD i []).length=3:=by
  rcases Nat.lt_or_ge i es.length with h|h
  ·rw [List.getD_eq_getElem?_getD,List.getElem?_append_left (by rw [zDw];exact h),←List.getD_eq_getElem?_getD,zPi _ _ _ h];rfl
  ·have:i=es.length:=by omega
   rw [List.getD_eq_getElem?_getD,List.getElem?_append_right (by rw [zDw];omega),zDw,this,Nat.sub_self];exact hz
 unfold zC4
 rw [List.getD_eq_getElem?_getD,List.getElem?_append_left (by simp [hl]),List.getElem?_append_right (by omega),hl,Nat.sub_self]
 simpa using h3
theorem yCO (es:List Ent) (k:Key) (n:Int) (i:Nat) (hi:i≤es.length) (hj:∀ j,j < i→zAI (es.getD j default).key k=true) (h:i=es.length∨zAI k (es.getD i default).key=true):zR6 es k n=(es.take i++kE k::es.drop i).set i ⟨k.1,k.2,[n]⟩:=by
 rw [yAb es i k n hi hj h,List.set_append_right _ _ (by simp;omega)]
 have:i-(es.take i).length=0:=by simp;omega
 rw [this];rfl
theorem yAe (es:List Ent) (i:Nat) (x:Ent) (hi:i≤es.length):(es.take i++x::es.drop i).getD i default=x:=by
 rw [List.getD_eq_getElem?_getD,List.getElem?_append_right (by simp;omega)]
 have:i-(es.take i).length=0:=by simp;omega
 rw [this];rfl
theorem yGp (es:List Ent) (i:Nat) (e:Ent):(ovT zAD es).set i (zW7 zAD e)=ovT zAD (es.set i e):=by
 unfold ovT;rw [List.map_set]
theorem zF8 (d:List Nd) (h64:d.length≤64) (hcls:∀ i,i < d.length→(d.getD i default).cls.length≤64):Contract Tryz.prog zCQ [.val (zBE d)] {res:=.val (.one (.sl 3 (zCK (zCo d))))}:=by
 unfold zBE
 refine mkA zRJ (base:=0) (fo rfl) (fun hfit=>?_)
 unfold F0 zKe
 simp (maxSteps:=2000000) only [zAM,List.set_cons_succ,List.set_cons_zero,List.map_cons,List.map_nil,zAL,zAa,ioOf,List.length_cons,List.length_nil,Nat.reduceAdd,Nat.reduceSub,List.replicate,List.cons_append,List.nil_append]
 try simp (maxSteps:=2000000) only [go_sem]
 repeat with_reducible refine zAb ?_
 refine zAx (fun n:Nat=>[(4,.pv (iv n)),(3,.ov (.one (.os none zAE 3 (ovT zAD (zB5 (zCn d n)))))),(5,.un),(6,.un),(7,.un),(12,.un),(24,.un),(41,.un),(58,.un)]) (fun n:Nat=>d.length-n) (fun n:Nat=>n≤d.length) (0) ?_ (Nat.zero_le _) ?_
 focus (simp (maxSteps:=2000000) only [go_sem,zAn,zAw,zAJ,zAo];all_goals (repeat' (first|exact trivial|exact zAy (by omega)|exact zAu rfl|exact zAN rfl|exact zAA|exact le_refl _|refine And.intro ?_ ?_)))
 intro n hn
 try simp (maxSteps:=2000000) only [go_sem]
 repeat with_reducible refine zAb ?_
 refine zAd (by rfl) trivial (fun g1=>?_) (fun g1=>?_)
 ·have hnl:n < d.length:=by simpa using g1
  have hx:=zA4 d n hnl
  have hpl:=zFX d n fun j hj=>hcls j (by omega)
  have hc:=hcls n hnl
  have hsu:zCn d (n+1)=zCn d n++(zLg (d.getD n default)).map fun k=>(k,(n:Int)):=rfl
  obtain ⟨x,hxe⟩:∃ x,x=d.getD n default:=⟨_,rfl⟩
  rw [←hxe] at hx hsu hc
  have hK:=yBD x (by omega)
  have hkl:=zR8 x
  obtain ⟨ks,hks⟩:∃ k,k=zLg x:=⟨_,rfl⟩
  rw [←hks] at hK hkl hsu
  unfold ndV at hx hK
  obtain ⟨p0,hp0⟩:∃ p,p=zCn d n:=⟨_,rfl⟩
  rw [←hp0] at hpl hsu ⊢
  try simp (maxSteps:=2000000) only [go_sem,hx]
  repeat with_reducible refine zAb ?_
  refine zNE (by repeat' constructor) (hK) ?_
  try simp (maxSteps:=2000000) only [go_sem]
  repeat with_reducible refine zAb ?_
  refine zAx (fun s:Nat×List (List OV)=>[(6,.pv (iv s.1)),(5,.ov (.one (.os none zAE 3 s.2))),(3,.ov (.one (.os none zAE 3 (ovT zAD (zB5 (p0++(ks.take s.1).map fun k=>(k,(n:Int)))))))),(7,.un),(24,.un),(41,.un),(58,.un)]) (fun s:Nat×List (List OV)=>ks.length-s.1) (fun s:Nat×List (List OV)=>s.1≤ks.length∧s.2.length=ks.length∧(∀ j,s.1≤j→j < ks.length→s.2.getD j []=zW7 zAD (kE (ks.getD j default)))) ((0,ksO ks)) ?_ ⟨Nat.zero_le _,yCN _,fun j _ hj=>(by simp [ksO,ovT,hj])⟩ ?_
  focus (simp (maxSteps:=2000000) only [go_sem,zAn,zAw,zAJ,zAo];all_goals (repeat' (first|exact trivial|exact zAy (by omega)|exact zAu rfl|exact zAN rfl|exact zAA|exact le_refl _|refine And.intro ?_ ?_)))
  ·exact zAN (by rw [List.append_nil])
  rintro ⟨q,R⟩ ⟨hq,hRl,hR⟩
  simp only at hq hRl hR
  try simp (maxSteps:=2000000) only [go_sem,hRl]
  repeat with_reducible refine zAb ?_
  refine zAd (by rfl) trivial (fun g2=>?_) (fun g2=>?_)
  ·have hql:q < ks.length:=by simpa using g2
   have hRq:=hR q (Nat.le_refl _) hql
   obtain ⟨ky,hky⟩:∃ k,k=ks.getD q default:=⟨_,rfl⟩
   rw [←hky] at hRq
   have hstep:p0++(ks.take (q+1)).map (fun k=>(k,(n:Int)))=(p0++(ks.take q).map fun k=>(k,(n:Int)))++[(ky,(n:Int))]:=by
    rw [List.take_succ_eq_append_getElem hql,List.map_append,←List.append_assoc,hky]
    simp [hql]
   obtain ⟨p1,hp1⟩:∃ p,p=p0++(ks.take q).map fun k=>(k,(n:Int)):=⟨_,rfl⟩
   have hp1l:p1.length≤n * 66+66:=by rw [hp1,List.length_append,List.length_map,List.length_take];omega
   have hel:=yBA p1
   have hnode:=fun e=>zYK p1 (e:=e)
   have hins:=zNH p1 (ky,(n:Int))
   rw [←hp1] at hstep ⊢
   rw [←hstep] at hins
   obtain ⟨es,hes⟩:∃ e,e=zB5 p1:=⟨_,rfl⟩
   rw [←hes] at hel hnode hins ⊢
   try simp (maxSteps:=2000000) only [go_sem]
   repeat with_reducible refine zAb ?_
   refine zAx (fun i:Nat=>[(7,.pv (iv i)),(5,.ov (.one (.os none zAE 3 R))),(3,.ov (.one (.os none zAE 3 (ovT zAD es)))),(41,.un)]) (fun i:Nat=>es.length-i) (fun i:Nat=>i≤es.length∧∀ j,j < i→zAI (es.getD j default).key ky=true) (0) ?_ ⟨Nat.zero_le _,fun j hj=>absurd hj (Nat.not_lt_zero _)⟩ ?_
   focus (simp (maxSteps:=2000000) only [go_sem,zAn,zAw,zAJ,zAo];all_goals (repeat' (first|exact trivial|exact zAy (by omega)|exact zAu rfl|exact zAN rfl|exact zAA|exact le_refl _|refine And.intro ?_ ?_)))
   rintro i ⟨hi,hlt⟩
   have hRq:R.getD q []=[.p (bI ky.1),.p (bS ky.2),.os none zAD 1 []]:=hRq
   have h48:es.length≤4400:=by omega
   have A:i < es.length∧zAI (es.getD i default).key ky=true∨(i=es.length∨i < es.length∧zAI ky (es.getD i default).key=true)∨(i < es.length∧(es.getD i default).key=ky):=by
    rcases Nat.lt_or_ge i es.length with h|h
    ·cases h1:zAI (es.getD i default).key ky with
     |true=>exact .inl ⟨h,rfl⟩
     |false=>
      cases h2:zAI ky (es.getD i default).key with
      |true=>exact .inr (.inl (.inr ⟨h,rfl⟩))
      |false=>exact .inr (.inr ⟨h,zFV h1 h2⟩)
    ·exact .inr (.inl (.inl (by omega)))
   try simp (maxSteps:=2000000) only [go_sem]
   repeat with_reducible refine zAb ?_
   intro b3 b5
   have hB:∀ e:Ent,Contract Tryz.prog zBG [.val (.agg [bI ky.1,bS ky.2,.any]),.val (.agg [bI e.kind,bS e.name,.any])] {res:=.val (bv (zAI e.key ky))}:=fun e=>zGd ⟨ky.1,ky.2,[]⟩ e .any .any
   have hB2:∀ e:Ent,Contract Tryz.prog zBG [.val (.agg [bI e.kind,bS e.name,.any]),.val (.agg [bI ky.1,bS ky.2,.any])] {res:=.val (bv (zAI ky e.key))}:=fun e=>zGd e ⟨ky.1,ky.2,[]⟩ .any .any
   rcases A with ⟨hil,hk1⟩|(hie|⟨hil,hk1⟩)|⟨hil,hk1⟩
   ·have t1:decide ((i:Int) < (es.length:Int))=true:=by simpa using hil
    have hei:=zPi zAD es i hil
    have hB:=hB (es.getD i default)
    rw [hk1] at hB
    have hlt':∀ j,j < i+1→zAI (es.getD j default).key ky=true:=fun j hj=>by
     rcases Nat.lt_or_ge j i with h|h
     ·exact hlt j h
     ·have:j=i:=by omega
      rw [this];exact hk1
    obtain ⟨e,he⟩:∃ e,e=es.getD i default:=⟨_,rfl⟩
    rw [←he] at hei hB
    unfold zW7 zH7 at hei
    try simp (maxSteps:=2000000) only [go_sem,t1,hRq,hei,yAB]
    repeat with_reducible refine zAb ?_
    apply zAB (h2:=fun _=>hB)
    ·(simp (maxSteps:=2000000) only [go_sem];rfl)
    ·intro h;repeat' (first|exact trivial|exact h|refine And.intro ?_ ?_)
    try simp (maxSteps:=2000000) only [go_sem]
    repeat with_reducible refine zAb ?_
    refine zVW (by rfl) trivial ?_
    try simp (maxSteps:=2000000) only [go_sem]
    repeat with_reducible refine zAb ?_
    refine ⟨i+1,by omega,⟨by omega,hlt'⟩,?_⟩
    simp (maxSteps:=2000000) only [go_sem,zAn,zAw,zAJ,zAo]
    all_goals (repeat' (first|exact trivial|exact zAy (by omega)|exact zAu rfl|exact zAN rfl|exact zAA|exact le_refl _|refine And.intro ?_ ?_))
   have t1:decide ((i:Int) < (es.length:Int))=false:=by rw [hie];simp
   have t2:((i:Int)==(es.length:Int))=true:=by rw [hie];simp
   have hnew:=yCO es ky n i hi hlt (.inl hie)
   try simp (maxSteps:=2000000) only [go_sem,t1,hRq]
   repeat with_reducible refine zAb ?_
   refine zAB (T:=false) (x:=bv false) (by rfl) (fun h=>by cases h) (fun h=>by cases h) ?_
   try simp (maxSteps:=2000000) only [go_sem]
   repeat with_reducible refine zAb ?_
   refine zNC (by rfl) trivial ?_
   try simp (maxSteps:=2000000) only [go_sem]
   repeat with_reducible refine zAb ?_
   intro b6 b7
   try simp (maxSteps:=2000000) only [go_sem,t2,Bool.not_true]
   repeat with_reducible refine zAb ?_
   refine zAB (T:=false) (x:=bv false) (by rfl) (fun h=>by cases h) (fun h=>by cases h) ?_
   try simp (maxSteps:=2000000) only [go_sem]
   repeat with_reducible refine zAb ?_
   refine zVW (by rfl) trivial ?_
   try simp (maxSteps:=2000000) only [go_sem]
   repeat with_reducible refine zAb ?_
   obtain ⟨RR,hRR⟩:∃ RR,RR=ovT zAD es++[[OV.p (PV.v (Value.int IntKind.i64 0)),OV.p (PV.v (mkS [])),OV.p (PV.sl 1 [])]]:=⟨_,rfl⟩
   have hRl2:RR.length=es.length+1:=by rw [hRR,List.length_append,zDw];rfl
   have hto:((i:Int)+1).toNat=i+1:=by omega
   rw [←hRR]
   intro b8
   try simp (maxSteps:=2000000) only [go_sem,hRl2,hto]
   repeat with_reducible refine zAb ?_
   refine yH7 (b:=b8) (i:=i) (rows:=RR) rfl rfl rfl (by omega) (by omega) (by omega) (by decide) ?_
   obtain ⟨R3,hR3⟩:∃ R3,R3=zC4 i RR:=⟨_,rfl⟩
   have hR3l:R3.length=es.length+1:=by rw [hR3,hRR];exact zW9 _ _ _ hi _
   have hrow:(R3.getD i []).length=3:=by rw [hR3,hRR];exact zSr _ _ hi _ rfl
   rw [←hR3]
   have hdr:List.drop 3 (R3.getD i [])=[]:=List.drop_eq_nil_of_le (by omega)
   have hset:R3.set i [OV.p (bI ky.1),.p (bS ky.2),.os none zAD 1 []]=ovT zAD (es.take i++kE ky::es.drop i):=by
    rw [hR3,hRR,zW8 _ _ _ hi]
    simp [ovT,zW7,zH7,kE]
   generalize hG14:hwp Tryz.prog zDx=G14
   try simp (maxSteps:=2000000) only [go_sem,hR3l,hRq,hrow,hdr,List.append_nil,hset,OV.left]
   repeat with_reducible refine zAb ?_
   have hR1l:(R.set q [OV.p (bI ky.1),.p (bS ky.2),.hole]).length=ks.length:=by rw [List.length_set];exact hRl
   have hR1:∀ j,q+1≤j→j < ks.length→(R.set q [OV.p (bI ky.1),.p (bS ky.2),.hole]).getD j []=zW7 zAD (kE (ks.getD j default)):=fun j h1 h2=>by
    rw [List.getD_eq_getElem?_getD,List.getElem?_set_ne (by omega),←List.getD_eq_getElem?_getD];exact hR j (by omega) h2
   obtain ⟨R1,hR1e⟩:∃ R1,R1=R.set q [OV.p (bI ky.1),.p (bS ky.2),.hole]:=⟨_,rfl⟩
   rw [←hR1e] at hR1l hR1 ⊢
   have hi1:i < (es.take i++kE ky::es.drop i).length:=by simp;omega
   have hl1:(es.take i++kE ky::es.drop i).length≤5000:=by simp;omega
   have hn1:((es.take i++kE ky::es.drop i).getD i default).nodes.length≤5000:=by rw [yAe _ _ _ hi];simp [kE]
   have hins1:zB5 (p0++(ks.take (q+1)).map fun k=>(k,(n:Int)))=(es.take i++kE ky::es.drop i).set i ⟨((es.take i++kE ky::es.drop i).getD i default).kind,((es.take i++kE ky::es.drop i).getD i default).name,((es.take i++kE ky::es.drop i).getD i default).nodes++[(n:Int)]⟩:=by
    rw [hins,yAe _ _ _ hi];exact hnew
   obtain ⟨es1,hes1⟩:∃ e,e=es.take i++kE ky::es.drop i:=⟨_,rfl⟩
   rw [←hes1] at hi1 hl1 hn1 hins1 ⊢
   rotate_left
   have t1:decide ((i:Int) < (es.length:Int))=true:=by simpa using hil
   have t2:((i:Int)==(es.length:Int))=false:=by simp;omega
   have hnew:=yCO es ky n i hi hlt (.inr hk1)
   have hei:=zPi zAD es i hil
   have hB:=hB (es.getD i default)
   rw [zFW hk1] at hB
   have hB2:=hB2 (es.getD i default)
   rw [hk1] at hB2
   obtain ⟨e,he⟩:∃ e,e=es.getD i default:=⟨_,rfl⟩
   rw [←he] at hei hB hB2
   unfold zW7 zH7 at hei
   try simp (maxSteps:=2000000) only [go_sem,t1,hRq,hei,yAB]
   repeat with_reducible refine zAb ?_
   apply zAB (h2:=fun _=>hB)
   ·(simp (maxSteps:=2000000) only [go_sem];rfl)
   ·intro h;repeat' (first|exact trivial|exact h|refine And.intro ?_ ?_)
   try simp (maxSteps:=2000000) only [go_sem]
   repeat with_reducible refine zAb ?_
   refine zNC (by rfl) trivial ?_
   try simp (maxSteps:=2000000) only [go_sem]
   repeat with_reducible refine zAb ?_
   intro b6 b7
   try simp (maxSteps:=2000000) only [go_sem,t2,Bool.not_false,hRq,hei,yAB]
   repeat with_reducible refine zAb ?_
   apply zAB (h2:=fun _=>hB2)
   ·(simp (maxSteps:=2000000) only [go_sem];rfl)
   ·intro h;repeat' (first|exact trivial|exact h|refine And.intro ?_ ?_)
   try simp (maxSteps:=2000000) only [go_sem]
   repeat with_reducible refine zAb ?_
   refine zVW (by rfl) trivial ?_
   try simp (maxSteps:=2000000) only [go_sem]
   repeat with_reducible refine zAb ?_
   obtain ⟨RR,hRR⟩:∃ RR,RR=ovT zAD es++[[OV.p (PV.v (Value.int IntKind.i64 0)),OV.p (PV.v (mkS [])),OV.p (PV.sl 1 [])]]:=⟨_,rfl⟩
   have hRl2:RR.length=es.length+1:=by rw [hRR,List.length_append,zDw];rfl
   have hto:((i:Int)+1).toNat=i+1:=by omega
   rw [←hRR]
   intro b8
   try simp (maxSteps:=2000000) only [go_sem,hRl2,hto]
   repeat with_reducible refine zAb ?_
   refine yH7 (b:=b8) (i:=i) (rows:=RR) rfl rfl rfl (by omega) (by omega) (by omega) (by decide) ?_
   obtain ⟨R3,hR3⟩:∃ R3,R3=zC4 i RR:=⟨_,rfl⟩
   have hR3l:R3.length=es.length+1:=by rw [hR3,hRR];exact zW9 _ _ _ hi _
   have hrow:(R3.getD i []).length=3:=by rw [hR3,hRR];exact zSr _ _ hi _ rfl
   rw [←hR3]
   have hdr:List.drop 3 (R3.getD i [])=[]:=List.drop_eq_nil_of_le (by omega)
   have hset:R3.set i [OV.p (bI ky.1),.p (bS ky.2),.os none zAD 1 []]=ovT zAD (es.take i++kE ky::es.drop i):=by
    rw [hR3,hRR,zW8 _ _ _ hi]
    simp [ovT,zW7,zH7,kE]
   generalize hG14:hwp Tryz.prog zDx=G14
   try simp (maxSteps:=2000000) only [go_sem,hR3l,hRq,hrow,hdr,List.append_nil,hset,OV.left]
   repeat with_reducible refine zAb ?_
   have hR1l:(R.set q [OV.p (bI ky.1),.p (bS ky.2),.hole]).length=ks.length:=by rw [List.length_set];exact hRl
   have hR1:∀ j,q+1≤j→j < ks.length→(R.set q [OV.p (bI ky.1),.p (bS ky.2),.hole]).getD j []=zW7 zAD (kE (ks.getD j default)):=fun j h1 h2=>by
    rw [List.getD_eq_getElem?_getD,List.getElem?_set_ne (by omega),←List.getD_eq_getElem?_getD];exact hR j (by omega) h2
   obtain ⟨R1,hR1e⟩:∃ R1,R1=R.set q [OV.p (bI ky.1),.p (bS ky.2),.hole]:=⟨_,rfl⟩
   rw [←hR1e] at hR1l hR1 ⊢
   have hi1:i < (es.take i++kE ky::es.drop i).length:=by simp;omega
   have hl1:(es.take i++kE ky::es.drop i).length≤5000:=by simp;omega
   have hn1:((es.take i++kE ky::es.drop i).getD i default).nodes.length≤5000:=by rw [yAe _ _ _ hi];simp [kE]
   have hins1:zB5 (p0++(ks.take (q+1)).map fun k=>(k,(n:Int)))=(es.take i++kE ky::es.drop i).set i ⟨((es.take i++kE ky::es.drop i).getD i default).kind,((es.take i++kE ky::es.drop i).getD i default).name,((es.take i++kE ky::es.drop i).getD i default).nodes++[(n:Int)]⟩:=by
    rw [hins,yAe _ _ _ hi];exact hnew
   obtain ⟨es1,hes1⟩:∃ e,e=es.take i++kE ky::es.drop i:=⟨_,rfl⟩
   rw [←hes1] at hi1 hl1 hn1 hins1 ⊢
   rotate_left
   have t1:decide ((i:Int) < (es.length:Int))=true:=by simpa using hil
   have t2:((i:Int)==(es.length:Int))=false:=by simp;omega
   have hei:=zPi zAD es i hil
   have hB:=hB (es.getD i default)
   have hB2:=hB2 (es.getD i default)
   have hirr:=zBk ky
   rw [hk1,hirr] at hB hB2
   have hi1:=hil
   have hl1:es.length≤5000:=by omega
   have hn1:(es.getD i default).nodes.length≤5000:=by
    have:=hnode (es.getD i default) (by rw [hes,←hes];simp [hil])
    omega
   have hins1:zB5 (p0++(ks.take (q+1)).map fun k=>(k,(n:Int)))=es.set i ⟨(es.getD i default).kind,(es.getD i default).name,(es.getD i default).nodes++[(n:Int)]⟩:=by
    rw [hins,yAc es i ky n hil hlt hk1]
   obtain ⟨e,he⟩:∃ e,e=es.getD i default:=⟨_,rfl⟩
   rw [←he] at hei hB hB2
   unfold zW7 zH7 at hei
   try simp (maxSteps:=2000000) only [go_sem,t1,hRq,hei,yAB]
   repeat with_reducible refine zAb ?_
   apply zAB (h2:=fun _=>hB)
   ·(simp (maxSteps:=2000000) only [go_sem];rfl)
   ·intro h;repeat' (first|exact trivial|exact h|refine And.intro ?_ ?_)
   try simp (maxSteps:=2000000) only [go_sem]
   repeat with_reducible refine zAb ?_
   refine zNC (by rfl) trivial ?_
   try simp (maxSteps:=2000000) only [go_sem]
   repeat with_reducible refine zAb ?_
   intro b6 b7
   try simp (maxSteps:=2000000) only [go_sem,t2,Bool.not_false,hRq,hei,yAB]
   repeat with_reducible refine zAb ?_
   apply zAB (h2:=fun _=>hB2)
   ·(simp (maxSteps:=2000000) only [go_sem];rfl)
   ·intro h;repeat' (first|exact trivial|exact h|refine And.intro ?_ ?_)
   try simp (maxSteps:=2000000) only [go_sem]
   repeat with_reducible refine zAb ?_
   refine zNC (by rfl) trivial ?_
   generalize hG14:hwp Tryz.prog zDx=G14
   try simp (maxSteps:=2000000) only [go_sem]
   repeat with_reducible refine zAb ?_
   have hR1l:=hRl
   have hR1:∀ j,q+1≤j→j < ks.length→R.getD j []=zW7 zAD (kE (ks.getD j default)):=fun j h1 h2=>hR j (by omega) h2
   obtain ⟨R1,hR1e⟩:∃ R1,R1=R:=⟨_,rfl⟩
   rw [←hR1e] at hR1l hR1 ⊢
   obtain ⟨es1,hes1⟩:∃ e,e=es:=⟨_,rfl⟩
   rw [←hes1] at hi1 hl1 hn1 hins1 ⊢
   all_goals
    have he1:=zPi zAD es1 i hi1
    obtain ⟨e1,hee⟩:∃ e,e=es1.getD i default:=⟨_,rfl⟩
    rw [←hee] at he1 hn1 hins1
    have hset1:(ovT zAD es1).set i [OV.p (bI e1.kind),OV.p (bS e1.name),OV.os none zAD 1 (e1.nodes.map (fun n=>[OV.p (bI n)])++[[OV.p (bI (n:Int))]])]=ovT zAD (zB5 (p0++(ks.take (q+1)).map fun k=>(k,(n:Int)))):=by
     rw [hins1,←yGp];simp [zW7,zH7]
    have hgs:∀ X,((ovT zAD es1).set i X).getD i []=X:=fun X=>by simp [zDw,hi1]
    unfold zW7 zH7 at he1
    subst hG14
    try simp (maxSteps:=2000000) only [go_sem,he1,zDw,List.length_map,hgs,List.set_set,hset1]
    repeat with_reducible refine zAb ?_
    refine ⟨(q+1,R1),by simp only;omega,⟨by simp only;omega,hR1l,hR1⟩,?_⟩
    simp (maxSteps:=2000000) only [go_sem,zAn,zAw,zAJ,zAo]
    all_goals (repeat' (first|exact trivial|exact zAy (by omega)|exact zAu rfl|exact zAN rfl|exact zAA|exact le_refl _|refine And.intro ?_ ?_))
  ·have hql:q=ks.length:=by simp at g2;omega
   rw [hql,List.take_length,←hsu]
   try simp (maxSteps:=2000000) only [go_sem]
   repeat with_reducible refine zAb ?_
   refine ⟨n+1,by omega,by omega,?_⟩
   simp (maxSteps:=2000000) only [go_sem,zAn,zAw,zAJ,zAo]
   all_goals (repeat' (first|exact trivial|exact zAy (by omega)|exact zAu rfl|exact zAN rfl|exact zAA|exact le_refl _|refine And.intro ?_ ?_))
 ·have hnl:n=d.length:=by simp at g1;omega
  have hfz:∀ (b:Option Nat) (e:Nat) (es:List Ent),(OV.os b e 3 (ovT zAD es)).frz=some (.sl 3 (zCK es)):=fun b e es=>zVY (zPj _ _)
  rw [hnl,show zB5 (zCn d d.length)=zCo d from rfl]
  try simp (maxSteps:=2000000) only [go_sem,hfz]
  repeat with_reducible refine zAb ?_
  exact zAj rfl trivial (.inl rfl)
end Go.Hx
end

section
/-
 The abstract code of functions of the program, printed by gen.py; each stands for the given one. No condition.
-/
namespace Go.Hx
open Go.Proofs
variable [Glob]
end Go.Hx
end
