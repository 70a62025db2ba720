/-
  Walks of functions of the program over an abstract layer, and the laws that they use: each contract says what the function computes, for every input that its conditions let by. No other condition.
-/
import Derived.Test.YtjnagiaooecklaaGreatDoorG10
import Derived.Test.YtjnagiaooecklaaGreatDoorG19
import Derived.Test.YtjnagiaooecklaaGreatDoorG21
import Derived.Test.YtjnagiaooecklaaGreatDoorG22
import Derived.Shelf.Strings.Split
import Derived.Shelf.Strings.Search3
import Derived.Test.YtjnagiaooecklaaGreatDoorG13
set_option linter.all false
section
set_option maxRecDepth 100000
set_option linter.unusedSimpArgs false
set_option maxHeartbeats 2000000
namespace Go.Hx
open Go.Proofs
variable [Glob] [GlobL]
attribute [local go_sem] zAk zAi zAj zAe ndV zAg zAf zBC zA2 zBy zBx zBs
attribute [local go_sem] reduceCtorEq Nat.reduceAdd Nat.reduceEqDiff reduceIte Nat.reduceLeDiff Nat.reduceLT Nat.reduceSub
def zO6:Prop:=∀ w,Glob.ok w→∃ m:Int,w.cell? ⟨0,0,none⟩=some (.int .i64 m)
theorem yPv {s:Bys} (h:zEA (mkS s)=true):s.length≤9223372036854775807:=by
 simp only [zEA,decide_eq_true_eq] at h
 have h2:s.length≤maxLen:=by simpa [ByteArray.size] using h
 exact h2
theorem yG9:∀ (f:Nat) (s:Bys),s.length < f→Lib.countFrom [32] f s=s.count 32
 |0,s,h=>by omega
 |f+1,s,h=>by
  rw [Lib.countFrom]
  by_cases hi:Lib.index s [32]=-1
  ·rw [if_pos (by simpa using hi)]
   have:=zUU hi
   exact (List.count_eq_zero.2 fun hc=>this 32 hc rfl).symm
  ·obtain ⟨i,hix⟩:∃ i:Nat,Lib.index s [32]=i:=⟨(Lib.index s [32]).toNat,by have:=Lib.index_ge s [32];omega⟩
   obtain ⟨h1,h2⟩:=zUV hix
   rw [if_neg (by simpa using hi),hix]
   simp only [Int.toNat_natCast,List.length_singleton]
   have h3:=congrArg List.length h2
   simp only [List.length_append,List.length_cons,List.length_take,List.length_drop] at h3
   rw [yG9 f _ (by simp only [List.length_drop];omega)]
   have h4:=congrArg (List.count 32) h2
   rw [List.count_append,List.count_cons_self] at h4
   have h5:(s.take i).count 32=0:=List.count_eq_zero.2 fun hc=>h1 32 hc rfl
   omega
theorem yAq:∀ (s w:Bys),w∈zBt s→w.length≤s.length
 |[],w,h=>by simp [zBt] at h;subst h;simp
 |c::r,w,h=>by
  obtain ⟨w',ws',h'⟩:=zMU r
  have ih:=yAq r
  rw [zBt] at h
  by_cases hc:c=32
  ·rw [if_pos hc,List.mem_cons] at h
   rcases h with rfl|h
   ·simp
   ·have:=ih w h;simp;omega
  ·rw [if_neg hc,h',List.mem_cons] at h
   rcases h with rfl|h
   ·have:=ih w' (by rw [h'];simp);simp;omega
   ·have:=ih w (by rw [h'];simp [h]);simp;omega
theorem yEc {m:Mem}:∀ (bs:List ByteArray),(∀ b∈bs,b.data.toList.length≤9223372036854775807)→RpL m (zQr (bs.map (·.data.toList))).flatten (bs.map Value.string)
 |[],_=>by simp [zQr,RpL]
 |b::bs,h=>by
  have ih:=yEc (m:=m) bs fun x hx=>h x (by simp [hx])
  have e:(zQr ((b::bs).map (·.data.toList))).flatten=bS b.data.toList::(zQr (bs.map (·.data.toList))).flatten:=by simp [zQr]
  rw [e,List.map_cons]
  simp only [RpL]
  refine ⟨_,_,rfl,⟨rfl,?_⟩,ih⟩
  have:=h b (by simp)
  simp only [zEA,decide_eq_true_eq]
  show b.data.toList.toArray.size≤maxLen
  simp only [maxLen,List.size_toArray]
  exact this
theorem mkB (s:Bys):(ByteArray.mk s.toArray).data.toList=s:=rfl
theorem yAr (s t:Bys):Contract Tryz.prog zA5 [.val (sv s),.val (sv t)] {res:=.val (bv (zBY s t 0))}:=by
 refine mkA zDw (base:=0) (fo rfl) (fun hfit=>?_)
 unfold F0 zBU
 refine goU ?_
 by_cases h:t.length≤s.length
 ·have g:decide ((t.length:Int)≤(s.length:Int))=true:=by simpa using h
  try simp (maxSteps:=2000000) only [go_sem,g]
  repeat with_reducible refine zAP ?_
  refine zAb rfl trivial (.inl ?_)
  congr 3
  unfold zBY
  rw [Bool.eq_iff_iff]
  simp [h]
 ·have g:decide ((t.length:Int)≤(s.length:Int))=false:=by simpa using h
  try simp (maxSteps:=2000000) only [go_sem,g]
  repeat with_reducible refine zAP ?_
  refine zAb rfl trivial (.inl ?_)
  congr 3
  unfold zBY
  rw [Bool.eq_iff_iff]
  simp;omega
theorem yCG (s t:Bys):Contract Tryz.prog zCS [.val (sv s),.val (sv t)] {res:=.val (bv (zBY s t 0))}:=by
 refine mkA zJP (base:=0) (fo rfl) (fun hfit=>?_)
 unfold F0 zEY
 refine goU ?_
 refine zAo (by repeat' constructor) (yAr s t) ?_
 refine goW ?_
 exact zAb rfl trivial (.inl rfl)
theorem yAs (s t:Bys):Contract Tryz.prog zA6 [.val (sv s),.val (sv t)] {res:=.val (bv (zBY s t ((s.length:Int)-t.length)))}:=by
 refine mkA zDz (base:=0) (fo rfl) (fun hfit=>?_)
 unfold F0 zBV
 refine goU ?_
 have fs:=yPv hfit.1
 have ft:=yPv hfit.2.1
 by_cases h:t.length≤s.length
 ·have g:decide ((t.length:Int)≤(s.length:Int))=true:=by simpa using h
  try simp (maxSteps:=2000000) only [go_sem,g]
  repeat with_reducible refine zAP ?_
  refine zAb rfl trivial (.inl ?_)
  congr 3
  unfold zBY
  rw [Bool.eq_iff_iff]
  have e:(((s.length:Int)-t.length)).toNat=s.length-t.length:=by omega
  have e2:(s.drop (s.length-t.length)).take t.length=s.drop (s.length-t.length):=List.take_of_length_le (by simp;omega)
  rw [e,e2]
  simp;omega
 ·have g:decide ((t.length:Int)≤(s.length:Int))=false:=by simpa using h
  try simp (maxSteps:=2000000) only [go_sem,g]
  repeat with_reducible refine zAP ?_
  refine zAb rfl trivial (.inl ?_)
  congr 3
  unfold zBY
  rw [Bool.eq_iff_iff]
  simp;omega
theorem yCH (s t:Bys):Contract Tryz.prog zCT [.val (sv s),.val (sv t)] {res:=.val (bv (zBY s t ((s.length:Int)-t.length)))}:=by
 refine mkA zJS (base:=0) (fo rfl) (fun hfit=>?_)
 unfold F0 zEZ
 refine goU ?_
 refine zAo (by repeat' constructor) (yAs s t) ?_
 refine goW ?_
 exact zAb rfl trivial (.inl rfl)
theorem yNG {m:Mem} {w:World} {avs:List AV} {us:List Value} {e:Ending} {r:Res} (hm:MemOk m w) (hio:ioB avs us=none) (hr:zYn m w w (zHV avs us) r e):yJn m w avs us {res:=r} e w:=
 ⟨m,m.le_refl,hm,Pres.refl _ w,fun _ _ _ h=>.inl h,(fun b hb=>by rw [hio] at hb;cases hb),hr⟩
theorem yI6 {s:Bys}:(ByteArray.mk s.toArray).size=s.length:=by simp [ByteArray.size]
theorem yFv (hM:zO6) (s t:Bys) (hs:s.length < 4294967281) (ht:t≠[]):Contract Tryz.prog zC9 [.val (sv s),.val (sv t)] {res:=.val (bv ((List.range s.length).any fun i=>zBY s t i))}:=by
 refine ⟨by kernel_rfl,fun m w us hm hargs _ hG _=>?_⟩
 obtain ⟨u1,us1,rfl,h2,h3⟩:=hargs
 obtain ⟨u2,us2,rfl,h4,rfl⟩:=h3
 obtain ⟨rfl,f1⟩:=h2
 obtain ⟨rfl,f2⟩:=h4
 obtain ⟨mx,hmx⟩:=hM w hG
 have hT:=Any.strings_Contains Tryz.lays144 ⟨s.toArray⟩ ⟨t.toArray⟩ mx w (by rw [yI6];exact hs) hmx
 change Calls Tryz.prog zC9 _ _ _ at hT
 refine hT.mono fun e w' ⟨he,hw⟩=>?_
 subst hw
 refine yNG hm rfl ⟨_,he,?_⟩
 rw [mkB,mkB,yAo s t ht]
 exact ⟨rfl,rfl⟩
theorem yLv (hM:zO6) (s:Bys) (hs:s.length < 4294967281):Contract Tryz.prog zEi [.val (sv s),.val (sv [32])] {res:=.val (.one (.sl 1 (zQr (zBt s))))}:=by
 refine ⟨by kernel_rfl,fun m w us hm hargs _ hG _=>?_⟩
 obtain ⟨u1,us1,rfl,h2,h3⟩:=hargs
 obtain ⟨u2,us2,rfl,h4,rfl⟩:=h3
 obtain ⟨rfl,f1⟩:=h2
 obtain ⟨rfl,f2⟩:=h4
 obtain ⟨mx,hmx⟩:=hM w hG
 have hT:=Any.strings_Split Tryz.lays146 (by kernel_rfl) ⟨s.toArray⟩ ⟨([32]:Bys).toArray⟩ mx w (by rw [yI6];exact hs) hmx (by decide)
 change Calls Tryz.prog zEi _ _ _ at hT
 refine hT.mono fun e w' ⟨he,hw⟩=>?_
 have hN:=Lib.splitB_all ⟨([32]:Bys).toArray⟩ (by decide) 0 _ ⟨s.toArray⟩ rfl
 have hdat:=Lib.splitB_data ⟨([32]:Bys).toArray⟩ 0 (Lib.countB ⟨s.toArray⟩ ⟨([32]:Bys).toArray⟩) ⟨s.toArray⟩
 rw [mkB,mkB,zRQ _ _ (by rw [←yG9 (s.length+1) s (by omega)];exact Nat.le_refl _)] at hdat
 generalize Lib.splitB ⟨([32]:Bys).toArray⟩ 0 (Lib.countB ⟨s.toArray⟩ ⟨([32]:Bys).toArray⟩) ⟨s.toArray⟩=bs at he hw hN hdat
 have hle:=Lib.countB_le ⟨([32]:Bys).toArray⟩ (by decide) s.length ⟨s.toArray⟩ (by rw [yI6];exact Nat.le_refl _)
 rw [yI6] at hle
 rw [←hN] at he
 have hlw:(zBt s).length=bs.length:=by rw [←hdat,List.length_map]
 have hrl:RpL m (zQr (zBt s)).flatten (bs.map Value.string):=by
  rw [←hdat]
  refine yEc bs fun b hb=>?_
  have h9:=yAq s b.data.toList (by rw [←hdat];exact List.mem_map_of_mem hb)
  omega
 have hq:m.le (m.put w.heap.size (bs.map Value.string)):=fun b o u hu=>by
  have:=zD2 hm hu
  simp only [Mem.put]
  rw [if_neg (by omega)]
  exact hu
 subst hw
 refine ⟨m.put w.heap.size (bs.map Value.string),hq,?_,Pres.alloc _ w _,?_,(fun b hb=>by cases hb),?_⟩
 ·intro b o u hu
  simp only [Mem.put] at hu
  split at hu
  ·rename_i hb
   subst hb
   rw [cell_of_row _ _ o (bs.map Value.string).toArray _ (0,0) (heap_alloc_new w _)]
   simpa using hu
  ·have:=zD2 hm hu
   rw [World.cell?_alloc_lt w _ _ (by simpa using this)]
   exact hm b o u hu
 ·intro b o u hu
  simp only [Mem.put] at hu
  split at hu
  ·rename_i hb
   exact .inr (.inl (by omega))
  ·exact .inl hu
 ·refine ⟨_,he,?_⟩
  have hl2:(zQr (zBt s)).length=bs.length:=by rw [zAi,hlw]
  refine ⟨some ⟨w.heap.size,0,none⟩,bs.length,by rw [hl2],by rw [hl2];exact Nat.le_refl _,by rw [hN];simp only [maxLen];omega,.inr ⟨w.heap.size,0,rfl,?_⟩⟩
  exact RpRows.of_flat (by intro r hr;simp [zQr] at hr;obtain ⟨a,_,rfl⟩:=hr;rfl) (RpL.mono hq _ _ hrl) fun i u hi=>by simp only [Mem.put,if_true,Nat.zero_add];exact hi
theorem yAt (hM:zO6) (t:Ts) (s:Bys) (hs:s.length < 4294967281) (hk:3≤t.kind∧t.kind≤8):Contract Tryz.prog zHb [.val (.agg (tsV t)),.val (sv s)] {res:=.val (bv (zG6 t.kind s t.value))}:=by
 rw [zOj]
 obtain ⟨k,hkk⟩:∃ k,k=t.kind:=⟨_,rfl⟩
 obtain ⟨v,hv⟩:∃ v,v=t.value:=⟨_,rfl⟩
 rw [←hkk] at hk ⊢
 rw [←hv]
 have hP:=yCG s v
 have hS:=yCH s v
 have hW:=yLv hM s hs
 have hWc:=zGS (zBt s) v
 refine mkA zWW (base:=0) (fo rfl) (fun hfit=>?_)
 unfold F0 zOt
 refine goU ?_
 refine zAa (by rfl) trivial (fun h1=>?_) (fun h1=>?_)
 ·have e:k=4:=by simpa using h1
  subst e
  refine goW ?_
  refine zAb rfl trivial (.inl ?_)
  congr 3
  unfold zG6
  rw [Bool.eq_iff_iff];simp
 refine goW ?_
 refine zAa (by rfl) trivial (fun h2=>?_) (fun h2=>?_)
 ·have e:k=5:=by simpa using h2
  subst e
  refine goW ?_
  apply zAr (h2:=fun _=>hP)
  ·(simp (maxSteps:=2000000) only [go_sem];rfl)
  ·intro h;repeat' (first|exact trivial|exact h|refine And.intro ?_ ?_)
  refine goW ?_
  refine zAb rfl trivial (.inl ?_)
  congr 3
  unfold zG6
  rw [Bool.eq_iff_iff];simp
 refine goW ?_
 refine zAa (by rfl) trivial (fun h3=>?_) (fun h3=>?_)
 ·have e:k=6:=by simpa using h3
  subst e
  refine goW ?_
  apply zAr (h2:=fun _=>hS)
  ·(simp (maxSteps:=2000000) only [go_sem];rfl)
  ·intro h;repeat' (first|exact trivial|exact h|refine And.intro ?_ ?_)
  refine goW ?_
  refine zAb rfl trivial (.inl ?_)
  congr 3
  unfold zG6
  rw [Bool.eq_iff_iff];simp
 refine goW ?_
 refine zAa (by rfl) trivial (fun h4=>?_) (fun h4=>?_)
 ·have e:k=7:=by simpa using h4
  subst e
  by_cases hv0:v=[]
  ·have g:(v != [])=false:=by simp [hv0]
   try simp (maxSteps:=2000000) only [go_sem,g]
   repeat with_reducible refine zAP ?_
   refine zAr rfl (fun h=>absurd h (by simp [hv0])) (fun h=>absurd h (by simp [hv0])) (x:=bv false) ?_
   simp only [go_sem]
   refine goW ?_
   refine zAb rfl trivial (.inl ?_)
   congr 3
   unfold zG6
   simp [hv0]
  ·have g:(v != [])=true:=by simp [hv0]
   have hC:=yFv hM s v hs hv0
   try simp (maxSteps:=2000000) only [go_sem,g]
   repeat with_reducible refine zAP ?_
   apply zAr (h2:=fun _=>hC)
   ·(simp (maxSteps:=2000000) only [go_sem];rfl)
   ·intro h;repeat' (first|exact trivial|exact h|refine And.intro ?_ ?_)
   refine goW ?_
   refine zAb rfl trivial (.inl ?_)
   congr 3
   unfold zG6
   simp [hv0]
 refine goW ?_
 refine zAa (by rfl) trivial (fun h5=>?_) (fun h5=>?_)
 ·have e:k=8:=by simpa using h5
  subst e
  refine goW ?_
  apply zAr (h2:=fun _=>hW)
  ·(simp (maxSteps:=2000000) only [go_sem];rfl)
  ·intro h;repeat' (first|exact trivial|exact h|refine And.intro ?_ ?_)
  refine goW ?_
  apply zAr (h2:=fun _=>hWc)
  ·(simp (maxSteps:=2000000) only [go_sem];rfl)
  ·intro h;repeat' (first|exact trivial|exact h|refine And.intro ?_ ?_)
  refine goW ?_
  refine zAb rfl trivial (.inl ?_)
  congr 3
  unfold zG6
  by_cases hv0:v=[]
  ·simp [hv0,yID]
  ·rw [yFu s v hv0];simp [hv0]
 have e:k=3:=by simp at h1 h2 h3 h4 h5;omega
 subst e
 refine goW ?_
 exact zAb rfl trivial (.inl rfl)
end Go.Hx
end

section
set_option maxRecDepth 100000
set_option linter.unusedSimpArgs false
set_option maxHeartbeats 4000000
namespace Go.Hx
open Go.Proofs
variable [Glob] [GlobL]
attribute [local go_sem] zAk zAi zAj zAe ndV zAg zAf zBC zA2 zBy zBx zBs
attribute [local go_sem] reduceCtorEq Nat.reduceAdd Nat.reduceEqDiff reduceIte Nat.reduceLeDiff Nat.reduceLT Nat.reduceSub
theorem yHf {d:List Nd} (hd:zCF d d.length=true) {n:Nat} (hn:n < d.length) (nm:Bys) {v:Bys} (h:zIa (d.getD n default).att nm=some v):v.length≤16:=by
 have h1:=zA0 hd hn
 simp only [zVH,Bool.and_eq_true,zCb] at h1
 have h2:=h1.1.2
 unfold zIa at h
 obtain ⟨a,ha,rfl⟩:=Option.map_eq_some_iff.1 h
 have hm:=List.mem_of_find?_eq_some ha
 obtain ⟨j,hj,hje⟩:=List.getElem_of_mem hm
 have h3:=zA0 h2 hj
 simp only [aOk,Bool.and_eq_true] at h3
 have h4:=h3.1.2
 unfold zH6 at h4
 simp only [Bool.and_eq_true,decide_eq_true_eq] at h4
 have e:(d.getD n default).att.getD j default=a:=by rw [List.getD_eq_getElem?_getD,List.getElem?_eq_getElem hj,hje];rfl
 rw [e] at h4
 exact h4.1
theorem yLy (d:List Nd) (t:Ts) (n:Nat):tM d t n=zOH d t.kind t.name t.value t.na t.nb (lM d t.list) n:=by rw [yK8]
theorem yHg {d:List Nd} (lp:Nat→Bool) (n:Nat) (hd:zCF d d.length=true):((List.range d.length).any fun m=>zLQ d n m&&lp m)=true↔∃ m,n < m∧(m:Int)≤n+zCU d n∧m < d.length∧lp m=true:=by
 rw [List.any_eq_true]
 constructor
 ·rintro ⟨m,hm,h⟩
  rw [Bool.and_eq_true] at h
  have hml:=List.mem_range.1 hm
  obtain ⟨h1,h2⟩:=(yAv hd hml).1 h.1
  exact ⟨m,h1,h2,hml,h.2⟩
 ·rintro ⟨m,h1,h2,h3,h4⟩
  exact ⟨m,List.mem_range.2 h3,by rw [Bool.and_eq_true];exact ⟨(yAv hd h3).2 ⟨h1,h2⟩,h4⟩⟩
theorem zKb (hM:zO6) (d:List Nd) (hd:zAd d=0) (t:Ts) (hk:1≤t.kind∧t.kind≤15) (n:Nat) (hn:n < d.length) (hL:∀ m,m < d.length→Contract Tryz.prog zAy [.val (.one (zBs d)),.val (zBC t.list),.val (iv m)] {res:=.val (bv (lM d t.list m))}):
  Contract Tryz.prog zA9 [.val (.one (zBs d)),.val (.agg (tsV t)),.val (iv n)] {res:=.val (bv (tM d t n))}:=by
 obtain ⟨d1,d2,d3⟩:=yND hd
 rw [yLy,zOj]
 have e1:=zBo d n hn
 have e2:=yAn d n hn
 obtain ⟨x,hx⟩:∃ x,x=d.getD n default:=⟨_,rfl⟩
 have hln:=yAm d
 rw [←hx] at e1
 have hcl:=zGS x.cls t.name
 have hva:=zMT d n hn t.name
 rw [←hx] at hva
 obtain ⟨k,hkk⟩:∃ k,k=t.kind:=⟨_,rfl⟩
 rw [←hkk] at hk ⊢
 have hH1:=zRP t.na t.nb (plc d n)
 have hH2:=zRP t.na t.nb (ofN d n-plc d n+1)
 unfold yNC at hH1 hH2
 have hL0:=hL n hn
 unfold zBC at hL0
 have hp:=yHc d3 hn
 have ho:=yLx d3 hn
 have hu:=yFx d3 n
 have hpb:0≤plc d n∧plc d n≤65:=by
  have:=zGQ (d:=d) (n:=zAB d n) n
  unfold plc;omega
 have hob:0≤ofN d n∧ofN d n≤64:=by
  have:=zGQ (d:=d) (n:=zAB d n) d.length
  unfold ofN zDO;split<;>omega
 refine mkA zJ3 (base:=0) (fo rfl) (fun hfit=>?_)
 unfold F0 zE6
 refine goU ?_
 try simp (maxSteps:=2000000) only [go_sem,e1]
 repeat with_reducible refine zAP ?_
 refine zAa (by rfl) trivial (fun h1=>?_) (fun h1=>?_)
 ·have e:k=1:=by simpa using h1
  subst e
  refine goW ?_
  refine zAo (by repeat' constructor) (hcl) ?_
  refine goW ?_
  refine zAb rfl trivial (.inl ?_)
  congr 3
  unfold zOH
  rw [if_pos rfl,←hx]
 refine goW ?_
 refine zAa (by rfl) trivial (fun h2=>?_) (fun h2=>?_)
 ·have e:k=2:=by simpa using h2
  subst e
  refine goW ?_
  refine zAb rfl trivial (.inl ?_)
  congr 3
  unfold zOH
  rw [←hx,Bool.eq_iff_iff];simp
 refine goW ?_
 refine zAa (by rfl) trivial (fun h9=>?_) (fun h9=>?_)
 ·have e:k=9:=by simpa using h9
  subst e
  try simp (maxSteps:=2000000) only [go_sem,e2]
  repeat with_reducible refine zAP ?_
  refine zAo (by repeat' constructor) (hH1) ?_
  refine goW ?_
  refine zAb rfl trivial (.inl ?_)
  congr 3
  rw [yAx,hp];rfl
 refine goW ?_
 refine zAa (by rfl) trivial (fun h10=>?_) (fun h10=>?_)
 ·have e:k=10:=by simpa using h10
  subst e
  try simp (maxSteps:=2000000) only [go_sem,e2]
  repeat with_reducible refine zAP ?_
  refine zAo (by repeat' constructor) (hH2) ?_
  refine goW ?_
  refine zAb rfl trivial (.inl ?_)
  congr 3
  rw [yAx,hp,ho]
  show yD1 _ _ _=yD1 _ _ _
  congr 1;omega
 refine goW ?_
 refine zAa (by rfl) trivial (fun h11=>?_) (fun h11=>?_)
 ·have e:k=11:=by simpa using h11
  subst e
  try simp (maxSteps:=2000000) only [go_sem,e2]
  repeat with_reducible refine zAP ?_
  refine zAb rfl trivial (.inl ?_)
  congr 3
  unfold zOH
  rw [Bool.eq_iff_iff]
  simp [yHd d3]
 refine goW ?_
 refine zAa (by rfl) trivial (fun h12=>?_) (fun h12=>?_)
 ·have e:k=12:=by simpa using h12
  subst e
  refine goW ?_
  refine zAb rfl trivial (.inl ?_)
  congr 3
  unfold zOH
  rw [Bool.eq_iff_iff];simp
 refine goW ?_
 refine zAa (by rfl) trivial (fun h13=>?_) (fun h13=>?_)
 ·have e:k=13:=by simpa using h13
  subst e
  refine goW ?_
  refine zAo (by repeat' constructor) (hL0) ?_
  refine goW ?_
  refine zAb rfl trivial (.inl ?_)
  rfl
 refine goW ?_
 refine zAa (by rfl) trivial (fun h14=>?_) (fun h14=>?_)
 ·have e:k=14:=by simpa using h14
  subst e
  refine goW ?_
  refine zAo (by repeat' constructor) (hL0) ?_
  refine goW ?_
  refine zAb rfl trivial (.inl ?_)
  rfl
 refine goW ?_
 refine zAa (by rfl) trivial (fun h15=>?_) (fun h15=>?_)
 ·have e:k=15:=by simpa using h15
  subst e
  have hb:=yHg (d:=d) (lM d t.list) n d3
  have hT:zOH d 15 t.name t.value t.na t.nb (lM d t.list) n=((List.range d.length).any fun m=>zLQ d n m&&lM d t.list m):=rfl
  rw [hT]
  refine goW ?_
  refine zAn (fun i:Nat=>[(8,.pv (iv i)),(6,.un),(116,.un),(123,.un)]) (fun i:Nat=>d.length+1-i) (fun i:Nat=>n < i∧i≤d.length+1∧∀ m,n < m→m < i→m < d.length→(m:Int)≤n+zCU d n→lM d t.list m=false) ((n+1)) ?_ ⟨by omega,by omega,fun m h1 h2=>by omega⟩ ?_
  focus (exact leA)
  rintro i ⟨hi1,hi2,hinv⟩
  try simp (maxSteps:=2000000) only [go_sem,e2]
  repeat with_reducible refine zAP ?_
  refine zAa (by rfl) trivial (fun h16=>?_) (fun h16=>?_)
  ·have hil:(i:Int)≤n+zCU d n:=by simpa using h16
   have hid:i < d.length:=by
    have:=zJm d3 (n:=n) (d.length-(n+1)) (by omega)
    rw [show n+1+(d.length-(n+1))=d.length by omega] at this
    unfold zCU at hil
    omega
   have hLi:=hL i hid
   unfold zBC at hLi
   refine goW ?_
   refine zAo (by repeat' constructor) (hLi) ?_
   refine goW ?_
   refine zAa (by rfl) trivial (fun h17=>?_) (fun h17=>?_)
   ·have h17':lM d t.list i=true:=by simpa using h17
    refine goW ?_
    refine zAb rfl trivial (.inl ?_)
    congr 3
    exact hb.2 ⟨i,by omega,hil,hid,h17'⟩
   ·have h17':lM d t.list i=false:=by simpa using h17
    refine goW ?_
    refine ⟨i+1,by omega,⟨by omega,by omega,fun m g1 g2 g3 g4=>?_⟩,?_⟩
    ·by_cases e:m=i
     ·rw [e];exact h17'
     ·exact hinv m g1 (by omega) g3 g4
    ·exact leA
  ·have hil:¬ (i:Int)≤n+zCU d n:=by simpa using h16
   refine goW ?_
   refine zAb rfl trivial (.inl ?_)
   congr 3
   cases hc:((List.range d.length).any fun m=>zLQ d n m&&lM d t.list m) with
   |false=>rfl
   |true=>
    obtain ⟨m,g1,g2,g3,g4⟩:=hb.1 hc
    rw [hinv m g1 (by omega) g3 g2] at g4
    cases g4
 have hk2:3≤k∧k≤8:=by
  simp at h1 h2 h9 h10 h11 h12 h13 h14 h15
  omega
 refine goW ?_
 refine zAR (by repeat' constructor) (hva) ?_
 refine goW ?_
 have hT:zOH d k t.name t.value t.na t.nb (lM d t.list) n=(match zIa x.att t.name with|some s=>zG6 k s t.value|none=>false):=by
  unfold zOH
  rw [if_neg (by omega),if_neg (by omega),if_pos hk2.2,←hx]<;>rfl
 rw [hT]
 cases hat:zIa x.att t.name with
 |none=>
  refine goW ?_
  refine zAr rfl (fun h=>by cases h) (fun h=>by cases h) (x:=bv false) ?_
  refine goW ?_
  refine zAb rfl trivial (.inl ?_)
  rfl
 |some s=>
  have hs:=yHf d3 hn t.name (v:=s) (by rw [←hx];exact hat)
  have hc:=yAt hM t s (by omega) (by rw [←hkk];exact hk2)
  rw [zOj,←hkk] at hc
  refine goW ?_
  apply zAr (h2:=fun _=>hc)
  ·(simp (maxSteps:=2000000) only [go_sem];rfl)
  ·intro h;repeat' (first|exact trivial|exact h|refine And.intro ?_ ?_)
  refine goW ?_
  refine zAb rfl trivial (.inl ?_)
  simp
end Go.Hx
end

section
set_option maxRecDepth 100000
set_option linter.unusedSimpArgs false
set_option maxHeartbeats 4000000
namespace Go.Hx
open Go.Proofs
variable [Glob] [GlobL]
attribute [local go_sem] zAk zAi zAj zAe ndV zAg zAf zBC zA2 zBy zBx zBs
attribute [local go_sem] reduceCtorEq Nat.reduceAdd Nat.reduceEqDiff reduceIte Nat.reduceLeDiff Nat.reduceLT Nat.reduceSub
theorem zTZ (d:List Nd) (t:Ts) (n:Nat) (r:Bool) (h:Contract Tryz.prog zA9 [.val (.one (zBs d)),.val (.agg (tsV t)),.val (iv n)] {res:=.val (bv r)}):
  Contract Tryz.prog zB0 [.val (.agg (tsV t)),.val (.one (.fp [zBs d])),.val (.one (.fp [bI n]))] {res:=.val (bv !r)}:=by
 rw [zOj] at h ⊢
 refine mkA zJ6 (base:=0) (fo rfl) (fun hfit=>?_)
 unfold F0 zE7
 refine goU ?_
 refine zAo (by repeat' constructor) (h) ?_
 refine goW ?_
 exact zAb rfl trivial (.inl rfl)
theorem zXX (d:List Nd) (s:St) (n:Nat) (hn:n < d.length) (h:∀ i,i < s.tests.length→Contract Tryz.prog zA9 [.val (.one (zBs d)),.val (.agg (tsV (s.tests.getD i default))),.val (iv n)] {res:=.val (bv (tM d (s.tests.getD i default) n))}):
  Contract Tryz.prog zBp [.val (.one (zBs d)),.val (.agg (stV s)),.val (iv n)] {res:=.val (bv (sM d s n))}:=by
 have hc:=yCC zB0 [.fp [zBs d],.fp [bI n]] s.tests (fun t=>!tM d t n) (fun i hi=>by
  have:=zTZ d (s.tests.getD i default) n _ (h i hi)
  rw [zOj] at this
  exact this)
 have e1:=zBo d n hn
 obtain ⟨x,hx⟩:∃ x,x=d.getD n default:=⟨_,rfl⟩
 rw [←hx] at e1
 rw [zUA,yIE,←hx]
 refine mkA zMb (base:=0) (fo rfl) (fun hfit=>?_)
 unfold F0 zGM
 refine goU ?_
 by_cases h0:s.tag=[]
 ·have g:(s.tag==[])=true:=by simp [h0]
  try simp (maxSteps:=2000000) only [go_sem,g,e1]
  repeat with_reducible refine zAP ?_
  apply zAr (h2:=fun _=>hc)
  ·(simp (maxSteps:=2000000) only [go_sem];rfl)
  ·intro h;repeat' (first|exact trivial|exact h|refine And.intro ?_ ?_)
  refine goW ?_
  refine zAb rfl trivial (.inl ?_)
  congr 3
  rw [h0,Bool.eq_iff_iff]
  simp
 ·have g:(s.tag==[])=false:=by simp [h0]
  try simp (maxSteps:=2000000) only [go_sem,g,e1]
  repeat with_reducible refine zAP ?_
  apply zAr (h2:=fun _=>hc)
  ·(simp (maxSteps:=2000000) only [go_sem];rfl)
  ·intro h;repeat' (first|exact trivial|exact h|refine And.intro ?_ ?_)
  refine goW ?_
  refine zAb rfl trivial (.inl ?_)
  congr 3
  rw [Bool.eq_iff_iff]
  simp [h0]
theorem zT0 (d:List Nd) (p:Pt) (n:Nat) (r:Bool) (h:Contract Tryz.prog zA7 [.val (.one (zBs d)),.val (.agg (ptV p)),.val (iv p.steps.length),.val (iv n)] {res:=.val (bv r)}):
  Contract Tryz.prog zBZ [.val (.agg (ptV p)),.val (.one (.fp [zBs d])),.val (.one (.fp [bI n]))] {res:=.val (bv r)}:=by
 rw [zH8] at h ⊢
 refine mkA zJ9 (base:=0) (fo rfl) (fun hfit=>?_)
 unfold F0 zE8
 refine goU ?_
 refine zAo (by repeat' constructor) (h) ?_
 refine goW ?_
 exact zAb rfl trivial (.inl rfl)
theorem zMV (d:List Nd) (l:List Pt) (n:Nat) (h:∀ i,i < l.length→Contract Tryz.prog zA7 [.val (.one (zBs d)),.val (.agg (ptV (l.getD i default))),.val (iv (l.getD i default).steps.length),.val (iv n)] {res:=.val (bv (pM d (l.getD i default) n))}):
  Contract Tryz.prog zAy [.val (.one (zBs d)),.val (zBC l),.val (iv n)] {res:=.val (bv (lM d l n))}:=by
 have hc:=yCA zBZ [.fp [zBs d],.fp [bI n]] l (fun p=>pM d p n) (fun i hi=>by
  have:=zT0 d (l.getD i default) n _ (h i hi)
  rw [zH8] at this
  exact this)
 rw [yGB]
 unfold zBC
 refine mkA zMg (base:=0) (fo rfl) (fun hfit=>?_)
 unfold F0 zGN
 refine goU ?_
 refine zAo (by repeat' constructor) (hc) ?_
 refine goW ?_
 exact zAb rfl trivial (.inl rfl)
end Go.Hx
end

section
set_option maxRecDepth 100000
set_option linter.unusedSimpArgs false
set_option maxHeartbeats 4000000
namespace Go.Hx
open Go.Proofs
variable [Glob] [GlobL]
attribute [local go_sem] zAk zAi zAj zAe ndV zAg zAf zBC zA2 zBy zBx zBs
attribute [local go_sem] reduceCtorEq Nat.reduceAdd Nat.reduceEqDiff reduceIte Nat.reduceLeDiff Nat.reduceLT Nat.reduceSub
theorem zRU (d:List Nd) (k:Nat) (hk:k < d.length):Contract Tryz.prog zBO [.val (iv k),.val (.one (.fp [zBs d]))] {res:=.val (iv (zAB d k))}:=by
 have e1:=zBo d k hk
 refine mkA zI0 (base:=0) (fo rfl) (fun hfit=>?_)
 unfold F0 zEo
 refine goU ?_
 try simp (maxSteps:=2000000) only [go_sem,e1]
 repeat with_reducible refine zAP ?_
 exact zAb rfl trivial (.inl rfl)
theorem zRV (d:List Nd) (k:Nat) (hk:k < d.length):Contract Tryz.prog zBP [.val (iv k),.val (.one (.fp [zBs d]))] {res:=.val (iv (ahd d k))}:=by
 have e2:=yAn d k hk
 have hln:=yAm d
 refine mkA zI3 (base:=0) (fo rfl) (fun hfit=>?_)
 unfold F0 zEp
 refine goU ?_
 try simp (maxSteps:=2000000) only [go_sem,e2]
 repeat with_reducible refine zAP ?_
 exact zAb rfl trivial (.inl rfl)
def zO7 (link:Int):Nat:=if link=3∨link=4 then zBP else zBO
def yHh (d:List Nd) (link:Int) (n:Nat):PV:=.clo zD5 [.fp [.clo (zO7 link) [.fp [zBs d]]],.fp [bI n],.fp [bI link]]
theorem zXY (d:List Nd) (link:Int) (n:Nat):Contract Tryz.prog zC7 [.val (.one (zBs d)),.val (iv link),.val (iv n)] {res:=.val (.one (yHh d link n))}:=by
 unfold yHh zO7
 refine mkA zK7 (base:=0) (fo rfl) (fun hfit=>?_)
 unfold F0 zFz
 refine goU ?_
 by_cases h3:link=3
 ·subst h3
  refine goW ?_
  refine zAa (by rfl) trivial (fun h=>?_) (fun h=>?_)
  ·refine goW ?_
   exact zAb rfl trivial (.inl rfl)
  ·simp at h
 ·have g3:(link==3)=false:=by simp [h3]
  try simp (maxSteps:=2000000) only [go_sem,g3]
  repeat with_reducible refine zAP ?_
  refine zAa (by rfl) trivial (fun h=>?_) (fun h=>?_)
  ·have h4:link=4:=by simpa using h
   subst h4
   refine goW ?_
   exact zAb rfl trivial (.inl rfl)
  ·have h4:¬ link=4:=by simpa using h
   rw [if_neg (by omega)]
   refine goW ?_
   exact zAb rfl trivial (.inl rfl)
end Go.Hx
end
