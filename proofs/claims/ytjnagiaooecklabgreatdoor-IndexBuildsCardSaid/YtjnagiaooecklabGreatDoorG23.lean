/-
  Walks of functions of the program over an abstract layer, and the laws that they use: each contract says what the function computes, for every input that its conditions let by. No other condition.
-/
import Derived.Test.YtjnagiaooecklabGreatDoorG19
import Derived.Test.YtjnagiaooecklabGreatDoorG21
import Derived.Test.YtjnagiaooecklabGreatDoorG22
import Derived.Shelf.Strings.Split
import Derived.Shelf.Strings.Search3
import Derived.Test.YtjnagiaooecklabGreatDoorG14
set_option linter.all false
section
set_option maxRecDepth 100000
set_option linter.unusedSimpArgs false
set_option maxHeartbeats 2000000
namespace Go.Hx
open Go.Proofs
variable [Glob] [GlobL]
attribute [local go_sem] zAt zAp zAn zAj ndV zAq zAk zBD zA7 zBt zBs zBo
attribute [local go_sem] reduceCtorEq Nat.reduceAdd Nat.reduceEqDiff reduceIte Nat.reduceLeDiff Nat.reduceLT Nat.reduceSub
def zOy:Prop:=∀ w,Glob.ok w→∃ m:Int,w.cell? ⟨0,0,none⟩=some (.int .i64 m)
theorem yLE {s:Bys} (h:zEj (mkS s)=true):s.length≤9223372036854775807:=by
 simp only [zEj,decide_eq_true_eq] at h
 have h2:s.length≤maxLen:=by simpa [ByteArray.size] using h
 exact h2
theorem yDG:∀ (f:Nat) (s:Bys),s.length < f→Lib.countFrom [32] f s=s.count 32
 |0,s,h=>by omega
 |f+1,s,h=>by
  rw [Lib.countFrom]
  by_cases hi:Lib.index s [32]=-1
  ·rw [if_pos (by simpa using hi)]
   have:=zTl hi
   exact (List.count_eq_zero.2 fun hc=>this 32 hc rfl).symm
  ·obtain ⟨i,hix⟩:∃ i:Nat,Lib.index s [32]=i:=⟨(Lib.index s [32]).toNat,by have:=Lib.index_ge s [32];omega⟩
   obtain ⟨h1,h2⟩:=zTm hix
   rw [if_neg (by simpa using hi),hix]
   simp only [Int.toNat_natCast,List.length_singleton]
   have h3:=congrArg List.length h2
   simp only [List.length_append,List.length_cons,List.length_take,List.length_drop] at h3
   rw [yDG f _ (by simp only [List.length_drop];omega)]
   have h4:=congrArg (List.count 32) h2
   rw [List.count_append,List.count_cons_self] at h4
   have h5:(s.take i).count 32=0:=List.count_eq_zero.2 fun hc=>h1 32 hc rfl
   omega
theorem zX7:∀ (s w:Bys),w∈zBp s→w.length≤s.length
 |[],w,h=>by simp [zBp] at h;subst h;simp
 |c::r,w,h=>by
  obtain ⟨w',ws',h'⟩:=zL6 r
  have ih:=zX7 r
  rw [zBp] at h
  by_cases hc:c=32
  ·rw [if_pos hc,List.mem_cons] at h
   rcases h with rfl|h
   ·simp
   ·have:=ih w h;simp;omega
  ·rw [if_neg hc,h',List.mem_cons] at h
   rcases h with rfl|h
   ·have:=ih w' (by rw [h'];simp);simp;omega
   ·have:=ih w (by rw [h'];simp [h]);simp;omega
theorem yA8 {m:Mem}:∀ (bs:List ByteArray),(∀ b∈bs,b.data.toList.length≤9223372036854775807)→RpL m (zRd (bs.map (·.data.toList))).flatten (bs.map Value.string)
 |[],_=>by simp [zRd,RpL]
 |b::bs,h=>by
  have ih:=yA8 (m:=m) bs fun x hx=>h x (by simp [hx])
  have e:(zRd ((b::bs).map (·.data.toList))).flatten=bS b.data.toList::(zRd (bs.map (·.data.toList))).flatten:=by simp [zRd]
  rw [e,List.map_cons]
  simp only [RpL]
  refine ⟨_,_,rfl,⟨rfl,?_⟩,ih⟩
  have:=h b (by simp)
  simp only [zEj,decide_eq_true_eq]
  show b.data.toList.toArray.size≤maxLen
  simp only [maxLen,List.size_toArray]
  exact this
theorem mkB (s:Bys):(ByteArray.mk s.toArray).data.toList=s:=rfl
theorem zX8 (s t:Bys):Contract Tryz.prog zA8 [.val (sv s),.val (sv t)] {res:=.val (bv (zBT s t 0))}:=by
 refine mkA zDl (base:=0) (fo rfl) (fun hfit=>?_)
 unfold F0 zBQ
 simp (maxSteps:=2000000) only [zAJ,List.set_cons_succ,List.set_cons_zero,List.map_cons,List.map_nil,zAH,zAa,ioOf,List.length_cons,List.length_nil,Nat.reduceAdd,Nat.reduceSub,List.replicate,List.cons_append,List.nil_append]
 try simp (maxSteps:=2000000) only [go_sem]
 repeat with_reducible refine zAb ?_
 by_cases h:t.length≤s.length
 ·have g:decide ((t.length:Int)≤(s.length:Int))=true:=by simpa using h
  try simp (maxSteps:=2000000) only [go_sem,g]
  repeat with_reducible refine zAb ?_
  refine zAd rfl trivial (.inl ?_)
  congr 3
  unfold zBT
  rw [Bool.eq_iff_iff]
  simp [h]
 ·have g:decide ((t.length:Int)≤(s.length:Int))=false:=by simpa using h
  try simp (maxSteps:=2000000) only [go_sem,g]
  repeat with_reducible refine zAb ?_
  refine zAd rfl trivial (.inl ?_)
  congr 3
  unfold zBT
  rw [Bool.eq_iff_iff]
  simp;omega
theorem zZ8 (s t:Bys):Contract Tryz.prog zCE [.val (sv s),.val (sv t)] {res:=.val (bv (zBT s t 0))}:=by
 refine mkA zIY (base:=0) (fo rfl) (fun hfit=>?_)
 unfold F0 zEG
 simp (maxSteps:=2000000) only [zAJ,List.set_cons_succ,List.set_cons_zero,List.map_cons,List.map_nil,zAH,zAa,ioOf,List.length_cons,List.length_nil,Nat.reduceAdd,Nat.reduceSub,List.replicate,List.cons_append,List.nil_append]
 try simp (maxSteps:=2000000) only [go_sem]
 repeat with_reducible refine zAb ?_
 refine zAw (by repeat' constructor) (zX8 s t) ?_
 try simp (maxSteps:=2000000) only [go_sem]
 repeat with_reducible refine zAb ?_
 exact zAd rfl trivial (.inl rfl)
theorem zX9 (s t:Bys):Contract Tryz.prog zA9 [.val (sv s),.val (sv t)] {res:=.val (bv (zBT s t ((s.length:Int)-t.length)))}:=by
 refine mkA zDo (base:=0) (fo rfl) (fun hfit=>?_)
 unfold F0 zBR
 simp (maxSteps:=2000000) only [zAJ,List.set_cons_succ,List.set_cons_zero,List.map_cons,List.map_nil,zAH,zAa,ioOf,List.length_cons,List.length_nil,Nat.reduceAdd,Nat.reduceSub,List.replicate,List.cons_append,List.nil_append]
 try simp (maxSteps:=2000000) only [go_sem]
 repeat with_reducible refine zAb ?_
 have fs:=yLE hfit.1
 have ft:=yLE hfit.2.1
 by_cases h:t.length≤s.length
 ·have g:decide ((t.length:Int)≤(s.length:Int))=true:=by simpa using h
  try simp (maxSteps:=2000000) only [go_sem,g]
  repeat with_reducible refine zAb ?_
  refine zAd rfl trivial (.inl ?_)
  congr 3
  unfold zBT
  rw [Bool.eq_iff_iff]
  have e:(((s.length:Int)-t.length)).toNat=s.length-t.length:=by omega
  have e2:(s.drop (s.length-t.length)).take t.length=s.drop (s.length-t.length):=List.take_of_length_le (by simp;omega)
  rw [e,e2]
  simp;omega
 ·have g:decide ((t.length:Int)≤(s.length:Int))=false:=by simpa using h
  try simp (maxSteps:=2000000) only [go_sem,g]
  repeat with_reducible refine zAb ?_
  refine zAd rfl trivial (.inl ?_)
  congr 3
  unfold zBT
  rw [Bool.eq_iff_iff]
  simp;omega
theorem zZ9 (s t:Bys):Contract Tryz.prog zCF [.val (sv s),.val (sv t)] {res:=.val (bv (zBT s t ((s.length:Int)-t.length)))}:=by
 refine mkA zI1 (base:=0) (fo rfl) (fun hfit=>?_)
 unfold F0 zEH
 simp (maxSteps:=2000000) only [zAJ,List.set_cons_succ,List.set_cons_zero,List.map_cons,List.map_nil,zAH,zAa,ioOf,List.length_cons,List.length_nil,Nat.reduceAdd,Nat.reduceSub,List.replicate,List.cons_append,List.nil_append]
 try simp (maxSteps:=2000000) only [go_sem]
 repeat with_reducible refine zAb ?_
 refine zAw (by repeat' constructor) (zX9 s t) ?_
 try simp (maxSteps:=2000000) only [go_sem]
 repeat with_reducible refine zAb ?_
 exact zAd rfl trivial (.inl rfl)
theorem yJS {m:Mem} {w:World} {avs:List AV} {us:List Value} {e:Ending} {r:Res} (hm:MemOk m w) (hio:ioB avs us=none) (hr:zWq m w w (zHq avs us) r e):yFB m w avs us {res:=r} e w:=
 ⟨m,m.le_refl,hm,Pres.refl _ w,fun _ _ _ h=>.inl h,(fun b hb=>by rw [hio] at hb;cases hb),hr⟩
theorem yFn {s:Bys}:(ByteArray.mk s.toArray).size=s.length:=by simp [ByteArray.size]
theorem yCg (hM:zOy) (s t:Bys) (hs:s.length < 4294967281) (ht:t≠[]):Contract Tryz.prog zCW [.val (sv s),.val (sv t)] {res:=.val (bv ((List.range s.length).any fun i=>zBT s t i))}:=by
 refine ⟨by kernel_rfl,fun m w us hm hargs _ hG _=>?_⟩
 obtain ⟨u1,us1,rfl,h2,h3⟩:=hargs
 obtain ⟨u2,us2,rfl,h4,rfl⟩:=h3
 obtain ⟨rfl,f1⟩:=h2
 obtain ⟨rfl,f2⟩:=h4
 obtain ⟨mx,hmx⟩:=hM w hG
 have hT:=Any.strings_Contains Tryz.lays144 ⟨s.toArray⟩ ⟨t.toArray⟩ mx w (by rw [yFn];exact hs) hmx
 change Calls Tryz.prog zCW _ _ _ at hT
 refine hT.mono fun e w' ⟨he,hw⟩=>?_
 subst hw
 refine yJS hm rfl ⟨_,he,?_⟩
 rw [mkB,mkB,zX5 s t ht]
 exact ⟨rfl,rfl⟩
theorem yHE (hM:zOy) (s:Bys) (hs:s.length < 4294967281):Contract Tryz.prog zD3 [.val (sv s),.val (sv [32])] {res:=.val (.one (.sl 1 (zRd (zBp s))))}:=by
 refine ⟨by kernel_rfl,fun m w us hm hargs _ hG _=>?_⟩
 obtain ⟨u1,us1,rfl,h2,h3⟩:=hargs
 obtain ⟨u2,us2,rfl,h4,rfl⟩:=h3
 obtain ⟨rfl,f1⟩:=h2
 obtain ⟨rfl,f2⟩:=h4
 obtain ⟨mx,hmx⟩:=hM w hG
 have hT:=Any.strings_Split Tryz.lays146 (by kernel_rfl) ⟨s.toArray⟩ ⟨([32]:Bys).toArray⟩ mx w (by rw [yFn];exact hs) hmx (by decide)
 change Calls Tryz.prog zD3 _ _ _ at hT
 refine hT.mono fun e w' ⟨he,hw⟩=>?_
 have hN:=Lib.splitB_all ⟨([32]:Bys).toArray⟩ (by decide) 0 _ ⟨s.toArray⟩ rfl
 have hdat:=Lib.splitB_data ⟨([32]:Bys).toArray⟩ 0 (Lib.countB ⟨s.toArray⟩ ⟨([32]:Bys).toArray⟩) ⟨s.toArray⟩
 rw [mkB,mkB,zQQ _ _ (by rw [←yDG (s.length+1) s (by omega)];exact Nat.le_refl _)] at hdat
 generalize Lib.splitB ⟨([32]:Bys).toArray⟩ 0 (Lib.countB ⟨s.toArray⟩ ⟨([32]:Bys).toArray⟩) ⟨s.toArray⟩=bs at he hw hN hdat
 have hle:=Lib.countB_le ⟨([32]:Bys).toArray⟩ (by decide) s.length ⟨s.toArray⟩ (by rw [yFn];exact Nat.le_refl _)
 rw [yFn] at hle
 rw [←hN] at he
 have hlw:(zBp s).length=bs.length:=by rw [←hdat,List.length_map]
 have hrl:RpL m (zRd (zBp s)).flatten (bs.map Value.string):=by
  rw [←hdat]
  refine yA8 bs fun b hb=>?_
  have h9:=zX7 s b.data.toList (by rw [←hdat];exact List.mem_map_of_mem hb)
  omega
 have hq:m.le (m.put w.heap.size (bs.map Value.string)):=fun b o u hu=>by
  have:=zDA hm hu
  simp only [Mem.put]
  rw [if_neg (by omega)]
  exact hu
 subst hw
 refine ⟨m.put w.heap.size (bs.map Value.string),hq,?_,Pres.alloc _ w _,?_,(fun b hb=>by cases hb),?_⟩
 ·intro b o u hu
  simp only [Mem.put] at hu
  split at hu
  ·rename_i hb
   subst hb
   rw [cell_of_row _ _ o (bs.map Value.string).toArray _ (0,0) (heap_alloc_new w _)]
   simpa using hu
  ·have:=zDA hm hu
   rw [World.cell?_alloc_lt w _ _ (by simpa using this)]
   exact hm b o u hu
 ·intro b o u hu
  simp only [Mem.put] at hu
  split at hu
  ·rename_i hb
   exact .inr (.inl (by omega))
  ·exact .inl hu
 ·refine ⟨_,he,?_⟩
  have hl2:(zRd (zBp s)).length=bs.length:=by rw [zAp,hlw]
  refine ⟨some ⟨w.heap.size,0,none⟩,bs.length,by rw [hl2],by rw [hl2];exact Nat.le_refl _,by rw [hN];simp only [maxLen];omega,.inr ⟨w.heap.size,0,rfl,?_⟩⟩
  exact RpRows.of_flat (by intro r hr;simp [zRd] at hr;obtain ⟨a,_,rfl⟩:=hr;rfl) (RpL.mono hq _ _ hrl) fun i u hi=>by simp only [Mem.put,if_true,Nat.zero_add];exact hi
theorem zYa (hM:zOy) (t:Ts) (s:Bys) (hs:s.length < 4294967281) (hk:3≤t.kind∧t.kind≤8):Contract Tryz.prog zGO [.val (.agg (tsV t)),.val (sv s)] {res:=.val (bv (zGM t.kind s t.value))}:=by
 rw [zND]
 obtain ⟨k,hkk⟩:∃ k,k=t.kind:=⟨_,rfl⟩
 obtain ⟨v,hv⟩:∃ v,v=t.value:=⟨_,rfl⟩
 rw [←hkk] at hk ⊢
 rw [←hv]
 have hP:=zZ8 s v
 have hS:=zZ9 s v
 have hW:=yHE hM s hs
 have hWc:=zGz (zBp s) v
 refine mkA zU8 (base:=0) (fo rfl) (fun hfit=>?_)
 unfold F0 zNM
 simp (maxSteps:=2000000) only [zAJ,List.set_cons_succ,List.set_cons_zero,List.map_cons,List.map_nil,zAH,zAa,ioOf,List.length_cons,List.length_nil,Nat.reduceAdd,Nat.reduceSub,List.replicate,List.cons_append,List.nil_append]
 try simp (maxSteps:=2000000) only [go_sem]
 repeat with_reducible refine zAb ?_
 refine zAc (by rfl) trivial (fun h1=>?_) (fun h1=>?_)
 ·have e:k=4:=by simpa using h1
  subst e
  try simp (maxSteps:=2000000) only [go_sem]
  repeat with_reducible refine zAb ?_
  refine zAd rfl trivial (.inl ?_)
  congr 3
  unfold zGM
  rw [Bool.eq_iff_iff];simp
 try simp (maxSteps:=2000000) only [go_sem]
 repeat with_reducible refine zAb ?_
 refine zAc (by rfl) trivial (fun h2=>?_) (fun h2=>?_)
 ·have e:k=5:=by simpa using h2
  subst e
  try simp (maxSteps:=2000000) only [go_sem]
  repeat with_reducible refine zAb ?_
  apply zAu (h2:=fun _=>hP)
  ·(simp (maxSteps:=2000000) only [go_sem];rfl)
  ·intro h;repeat' (first|exact trivial|exact h|refine And.intro ?_ ?_)
  try simp (maxSteps:=2000000) only [go_sem]
  repeat with_reducible refine zAb ?_
  refine zAd rfl trivial (.inl ?_)
  congr 3
  unfold zGM
  rw [Bool.eq_iff_iff];simp
 try simp (maxSteps:=2000000) only [go_sem]
 repeat with_reducible refine zAb ?_
 refine zAc (by rfl) trivial (fun h3=>?_) (fun h3=>?_)
 ·have e:k=6:=by simpa using h3
  subst e
  try simp (maxSteps:=2000000) only [go_sem]
  repeat with_reducible refine zAb ?_
  apply zAu (h2:=fun _=>hS)
  ·(simp (maxSteps:=2000000) only [go_sem];rfl)
  ·intro h;repeat' (first|exact trivial|exact h|refine And.intro ?_ ?_)
  try simp (maxSteps:=2000000) only [go_sem]
  repeat with_reducible refine zAb ?_
  refine zAd rfl trivial (.inl ?_)
  congr 3
  unfold zGM
  rw [Bool.eq_iff_iff];simp
 try simp (maxSteps:=2000000) only [go_sem]
 repeat with_reducible refine zAb ?_
 refine zAc (by rfl) trivial (fun h4=>?_) (fun h4=>?_)
 ·have e:k=7:=by simpa using h4
  subst e
  by_cases hv0:v=[]
  ·have g:(v != [])=false:=by simp [hv0]
   try simp (maxSteps:=2000000) only [go_sem,g]
   repeat with_reducible refine zAb ?_
   refine zAu rfl (fun h=>absurd h (by simp [hv0])) (fun h=>absurd h (by simp [hv0])) (x:=bv false) ?_
   simp only [go_sem]
   try simp (maxSteps:=2000000) only [go_sem]
   repeat with_reducible refine zAb ?_
   refine zAd rfl trivial (.inl ?_)
   congr 3
   unfold zGM
   simp [hv0]
  ·have g:(v != [])=true:=by simp [hv0]
   have hC:=yCg hM s v hs hv0
   try simp (maxSteps:=2000000) only [go_sem,g]
   repeat with_reducible refine zAb ?_
   apply zAu (h2:=fun _=>hC)
   ·(simp (maxSteps:=2000000) only [go_sem];rfl)
   ·intro h;repeat' (first|exact trivial|exact h|refine And.intro ?_ ?_)
   try simp (maxSteps:=2000000) only [go_sem]
   repeat with_reducible refine zAb ?_
   refine zAd rfl trivial (.inl ?_)
   congr 3
   unfold zGM
   simp [hv0]
 try simp (maxSteps:=2000000) only [go_sem]
 repeat with_reducible refine zAb ?_
 refine zAc (by rfl) trivial (fun h5=>?_) (fun h5=>?_)
 ·have e:k=8:=by simpa using h5
  subst e
  try simp (maxSteps:=2000000) only [go_sem]
  repeat with_reducible refine zAb ?_
  apply zAu (h2:=fun _=>hW)
  ·(simp (maxSteps:=2000000) only [go_sem];rfl)
  ·intro h;repeat' (first|exact trivial|exact h|refine And.intro ?_ ?_)
  try simp (maxSteps:=2000000) only [go_sem]
  repeat with_reducible refine zAb ?_
  apply zAu (h2:=fun _=>hWc)
  ·(simp (maxSteps:=2000000) only [go_sem];rfl)
  ·intro h;repeat' (first|exact trivial|exact h|refine And.intro ?_ ?_)
  try simp (maxSteps:=2000000) only [go_sem]
  repeat with_reducible refine zAb ?_
  refine zAd rfl trivial (.inl ?_)
  congr 3
  unfold zGM
  by_cases hv0:v=[]
  ·simp [hv0,yEW]
  ·rw [yCf s v hv0];simp [hv0]
 have e:k=3:=by simp at h1 h2 h3 h4 h5;omega
 subst e
 try simp (maxSteps:=2000000) only [go_sem]
 repeat with_reducible refine zAb ?_
 exact zAd rfl trivial (.inl rfl)
end Go.Hx
end

section
set_option maxRecDepth 100000
set_option linter.unusedSimpArgs false
set_option maxHeartbeats 4000000
namespace Go.Hx
open Go.Proofs
variable [Glob] [GlobL]
attribute [local go_sem] zAt zAp zAn zAj ndV zAq zAk zBD zA7 zBt zBs zBo
attribute [local go_sem] reduceCtorEq Nat.reduceAdd Nat.reduceEqDiff reduceIte Nat.reduceLeDiff Nat.reduceLT Nat.reduceSub
theorem yDM {d:List Nd} (hd:zCS d d.length=true) {n:Nat} (hn:n < d.length) (nm:Bys) {v:Bys} (h:zHD (d.getD n default).att nm=some v):v.length≤16:=by
 have h1:=zAV hd hn
 simp only [zWG,Bool.and_eq_true,zBK] at h1
 have h2:=h1.1.2
 unfold zHD at h
 obtain ⟨a,ha,rfl⟩:=Option.map_eq_some_iff.1 h
 have hm:=List.mem_of_find?_eq_some ha
 obtain ⟨j,hj,hje⟩:=List.getElem_of_mem hm
 have h3:=zAV h2 hj
 simp only [aOk,Bool.and_eq_true] at h3
 have h4:=h3.1.2
 unfold zDJ at h4
 simp only [Bool.and_eq_true,decide_eq_true_eq] at h4
 have e:(d.getD n default).att.getD j default=a:=by rw [List.getD_eq_getElem?_getD,List.getElem?_eq_getElem hj,hje];rfl
 rw [e] at h4
 exact h4.1
theorem yHH (d:List Nd) (t:Ts) (n:Nat):tM d t n=zNZ d t.kind t.name t.value t.na t.nb (lM d t.list) n:=by rw [yHj]
theorem yDN {d:List Nd} (lp:Nat→Bool) (n:Nat) (hd:zCS d d.length=true):((List.range d.length).any fun m=>zK8 d n m&&lp m)=true↔∃ m,n < m∧(m:Int)≤n+zCG d n∧m < d.length∧lp m=true:=by
 rw [List.any_eq_true]
 constructor
 ·rintro ⟨m,hm,h⟩
  rw [Bool.and_eq_true] at h
  have hml:=List.mem_range.1 hm
  obtain ⟨h1,h2⟩:=(zYc hd hml).1 h.1
  exact ⟨m,h1,h2,hml,h.2⟩
 ·rintro ⟨m,h1,h2,h3,h4⟩
  exact ⟨m,List.mem_range.2 h3,by rw [Bool.and_eq_true];exact ⟨(zYc hd h3).2 ⟨h1,h2⟩,h4⟩⟩
theorem zJk (hM:zOy) (d:List Nd) (hd:zAy d=0) (t:Ts) (hk:1≤t.kind∧t.kind≤15) (n:Nat) (hn:n < d.length) (hL:∀ m,m < d.length→Contract Tryz.prog zAK [.val (.one (zBo d)),.val (zBD t.list),.val (iv m)] {res:=.val (bv (lM d t.list m))}):
  Contract Tryz.prog zBb [.val (.one (zBo d)),.val (.agg (tsV t)),.val (iv n)] {res:=.val (bv (tM d t n))}:=by
 obtain ⟨d1,d2,d3⟩:=yJ3 hd
 rw [yHH,zND]
 have e1:=zBC d n hn
 have e2:=zX4 d n hn
 obtain ⟨x,hx⟩:∃ x,x=d.getD n default:=⟨_,rfl⟩
 have hln:=zX3 d
 rw [←hx] at e1
 have hcl:=zGz x.cls t.name
 have hva:=zL5 d n hn t.name
 rw [←hx] at hva
 obtain ⟨k,hkk⟩:∃ k,k=t.kind:=⟨_,rfl⟩
 rw [←hkk] at hk ⊢
 have hH1:=zQP t.na t.nb (plc d n)
 have hH2:=zQP t.na t.nb (ofN d n-plc d n+1)
 unfold yJP at hH1 hH2
 have hL0:=hL n hn
 unfold zBD at hL0
 have hp:=yDJ d3 hn
 have ho:=yHG d3 hn
 have hu:=yCi d3 n
 have hpb:0≤plc d n∧plc d n≤65:=by
  have:=zGw (d:=d) (n:=zBc d n) n
  unfold plc;omega
 have hob:0≤ofN d n∧ofN d n≤64:=by
  have:=zGw (d:=d) (n:=zBc d n) d.length
  unfold ofN zIA;split<;>omega
 refine mkA zJc (base:=0) (fo rfl) (fun hfit=>?_)
 unfold F0 zEO
 simp (maxSteps:=2000000) only [zAJ,List.set_cons_succ,List.set_cons_zero,List.map_cons,List.map_nil,zAH,zAa,ioOf,List.length_cons,List.length_nil,Nat.reduceAdd,Nat.reduceSub,List.replicate,List.cons_append,List.nil_append]
 try simp (maxSteps:=2000000) only [go_sem]
 repeat with_reducible refine zAb ?_
 try simp (maxSteps:=2000000) only [go_sem,e1]
 repeat with_reducible refine zAb ?_
 refine zAc (by rfl) trivial (fun h1=>?_) (fun h1=>?_)
 ·have e:k=1:=by simpa using h1
  subst e
  try simp (maxSteps:=2000000) only [go_sem]
  repeat with_reducible refine zAb ?_
  refine zAw (by repeat' constructor) (hcl) ?_
  try simp (maxSteps:=2000000) only [go_sem]
  repeat with_reducible refine zAb ?_
  refine zAd rfl trivial (.inl ?_)
  congr 3
  unfold zNZ
  rw [if_pos rfl,←hx]
 try simp (maxSteps:=2000000) only [go_sem]
 repeat with_reducible refine zAb ?_
 refine zAc (by rfl) trivial (fun h2=>?_) (fun h2=>?_)
 ·have e:k=2:=by simpa using h2
  subst e
  try simp (maxSteps:=2000000) only [go_sem]
  repeat with_reducible refine zAb ?_
  refine zAd rfl trivial (.inl ?_)
  congr 3
  unfold zNZ
  rw [←hx,Bool.eq_iff_iff];simp
 try simp (maxSteps:=2000000) only [go_sem]
 repeat with_reducible refine zAb ?_
 refine zAc (by rfl) trivial (fun h9=>?_) (fun h9=>?_)
 ·have e:k=9:=by simpa using h9
  subst e
  try simp (maxSteps:=2000000) only [go_sem,e2]
  repeat with_reducible refine zAb ?_
  refine zAw (by repeat' constructor) (hH1) ?_
  try simp (maxSteps:=2000000) only [go_sem]
  repeat with_reducible refine zAb ?_
  refine zAd rfl trivial (.inl ?_)
  congr 3
  rw [zYe,hp];rfl
 try simp (maxSteps:=2000000) only [go_sem]
 repeat with_reducible refine zAb ?_
 refine zAc (by rfl) trivial (fun h10=>?_) (fun h10=>?_)
 ·have e:k=10:=by simpa using h10
  subst e
  try simp (maxSteps:=2000000) only [go_sem,e2]
  repeat with_reducible refine zAb ?_
  refine zAw (by repeat' constructor) (hH2) ?_
  try simp (maxSteps:=2000000) only [go_sem]
  repeat with_reducible refine zAb ?_
  refine zAd rfl trivial (.inl ?_)
  congr 3
  rw [zYe,hp,ho]
  show yAW _ _ _=yAW _ _ _
  congr 1;omega
 try simp (maxSteps:=2000000) only [go_sem]
 repeat with_reducible refine zAb ?_
 refine zAc (by rfl) trivial (fun h11=>?_) (fun h11=>?_)
 ·have e:k=11:=by simpa using h11
  subst e
  try simp (maxSteps:=2000000) only [go_sem,e2]
  repeat with_reducible refine zAb ?_
  refine zAd rfl trivial (.inl ?_)
  congr 3
  unfold zNZ
  rw [Bool.eq_iff_iff]
  simp [yDK d3]
 try simp (maxSteps:=2000000) only [go_sem]
 repeat with_reducible refine zAb ?_
 refine zAc (by rfl) trivial (fun h12=>?_) (fun h12=>?_)
 ·have e:k=12:=by simpa using h12
  subst e
  try simp (maxSteps:=2000000) only [go_sem]
  repeat with_reducible refine zAb ?_
  refine zAd rfl trivial (.inl ?_)
  congr 3
  unfold zNZ
  rw [Bool.eq_iff_iff];simp
 try simp (maxSteps:=2000000) only [go_sem]
 repeat with_reducible refine zAb ?_
 refine zAc (by rfl) trivial (fun h13=>?_) (fun h13=>?_)
 ·have e:k=13:=by simpa using h13
  subst e
  try simp (maxSteps:=2000000) only [go_sem]
  repeat with_reducible refine zAb ?_
  refine zAw (by repeat' constructor) (hL0) ?_
  try simp (maxSteps:=2000000) only [go_sem]
  repeat with_reducible refine zAb ?_
  refine zAd rfl trivial (.inl ?_)
  rfl
 try simp (maxSteps:=2000000) only [go_sem]
 repeat with_reducible refine zAb ?_
 refine zAc (by rfl) trivial (fun h14=>?_) (fun h14=>?_)
 ·have e:k=14:=by simpa using h14
  subst e
  try simp (maxSteps:=2000000) only [go_sem]
  repeat with_reducible refine zAb ?_
  refine zAw (by repeat' constructor) (hL0) ?_
  try simp (maxSteps:=2000000) only [go_sem]
  repeat with_reducible refine zAb ?_
  refine zAd rfl trivial (.inl ?_)
  rfl
 try simp (maxSteps:=2000000) only [go_sem]
 repeat with_reducible refine zAb ?_
 refine zAc (by rfl) trivial (fun h15=>?_) (fun h15=>?_)
 ·have e:k=15:=by simpa using h15
  subst e
  have hb:=yDN (d:=d) (lM d t.list) n d3
  have hT:zNZ d 15 t.name t.value t.na t.nb (lM d t.list) n=((List.range d.length).any fun m=>zK8 d n m&&lM d t.list m):=rfl
  rw [hT]
  try simp (maxSteps:=2000000) only [go_sem]
  repeat with_reducible refine zAb ?_
  refine zAv (fun i:Nat=>[(8,.pv (iv i)),(6,.un),(116,.un),(123,.un)]) (fun i:Nat=>d.length+1-i) (fun i:Nat=>n < i∧i≤d.length+1∧∀ m,n < m→m < i→m < d.length→(m:Int)≤n+zCG d n→lM d t.list m=false) ((n+1)) ?_ ⟨by omega,by omega,fun m h1 h2=>by omega⟩ ?_
  focus (simp (maxSteps:=2000000) only [go_sem,zAf,zAl,zAz,zAg];all_goals (repeat' (first|exact trivial|exact zAm (by omega)|exact zAi rfl|exact zAx rfl|exact zAs|exact le_refl _|refine And.intro ?_ ?_)))
  rintro i ⟨hi1,hi2,hinv⟩
  try simp (maxSteps:=2000000) only [go_sem,e2]
  repeat with_reducible refine zAb ?_
  refine zAc (by rfl) trivial (fun h16=>?_) (fun h16=>?_)
  ·have hil:(i:Int)≤n+zCG d n:=by simpa using h16
   have hid:i < d.length:=by
    have:=zID d3 (n:=n) (d.length-(n+1)) (by omega)
    rw [show n+1+(d.length-(n+1))=d.length by omega] at this
    unfold zCG at hil
    omega
   have hLi:=hL i hid
   unfold zBD at hLi
   try simp (maxSteps:=2000000) only [go_sem]
   repeat with_reducible refine zAb ?_
   refine zAw (by repeat' constructor) (hLi) ?_
   try simp (maxSteps:=2000000) only [go_sem]
   repeat with_reducible refine zAb ?_
   refine zAc (by rfl) trivial (fun h17=>?_) (fun h17=>?_)
   ·have h17':lM d t.list i=true:=by simpa using h17
    try simp (maxSteps:=2000000) only [go_sem]
    repeat with_reducible refine zAb ?_
    refine zAd rfl trivial (.inl ?_)
    congr 3
    exact hb.2 ⟨i,by omega,hil,hid,h17'⟩
   ·have h17':lM d t.list i=false:=by simpa using h17
    try simp (maxSteps:=2000000) only [go_sem]
    repeat with_reducible refine zAb ?_
    refine ⟨i+1,by omega,⟨by omega,by omega,fun m g1 g2 g3 g4=>?_⟩,?_⟩
    ·by_cases e:m=i
     ·rw [e];exact h17'
     ·exact hinv m g1 (by omega) g3 g4
    ·simp (maxSteps:=2000000) only [go_sem,zAf,zAl,zAz,zAg]
     all_goals (repeat' (first|exact trivial|exact zAm (by omega)|exact zAi rfl|exact zAx rfl|exact zAs|exact le_refl _|refine And.intro ?_ ?_))
  ·have hil:¬ (i:Int)≤n+zCG d n:=by simpa using h16
   try simp (maxSteps:=2000000) only [go_sem]
   repeat with_reducible refine zAb ?_
   refine zAd rfl trivial (.inl ?_)
   congr 3
   cases hc:((List.range d.length).any fun m=>zK8 d n m&&lM d t.list m) with
   |false=>rfl
   |true=>
    obtain ⟨m,g1,g2,g3,g4⟩:=hb.1 hc
    rw [hinv m g1 (by omega) g3 g2] at g4
    cases g4
 have hk2:3≤k∧k≤8:=by
  simp at h1 h2 h9 h10 h11 h12 h13 h14 h15
  omega
 try simp (maxSteps:=2000000) only [go_sem]
 repeat with_reducible refine zAb ?_
 refine zCi (by repeat' constructor) (hva) ?_
 try simp (maxSteps:=2000000) only [go_sem]
 repeat with_reducible refine zAb ?_
 have hT:zNZ d k t.name t.value t.na t.nb (lM d t.list) n=(match zHD x.att t.name with|some s=>zGM k s t.value|none=>false):=by
  unfold zNZ
  rw [if_neg (by omega),if_neg (by omega),if_pos hk2.2,←hx]<;>rfl
 rw [hT]
 cases hat:zHD x.att t.name with
 |none=>
  try simp (maxSteps:=2000000) only [go_sem]
  repeat with_reducible refine zAb ?_
  refine zAu rfl (fun h=>by cases h) (fun h=>by cases h) (x:=bv false) ?_
  try simp (maxSteps:=2000000) only [go_sem]
  repeat with_reducible refine zAb ?_
  refine zAd rfl trivial (.inl ?_)
  rfl
 |some s=>
  have hs:=yDM d3 hn t.name (v:=s) (by rw [←hx];exact hat)
  have hc:=zYa hM t s (by omega) (by rw [←hkk];exact hk2)
  rw [zND,←hkk] at hc
  try simp (maxSteps:=2000000) only [go_sem]
  repeat with_reducible refine zAb ?_
  apply zAu (h2:=fun _=>hc)
  ·(simp (maxSteps:=2000000) only [go_sem];rfl)
  ·intro h;repeat' (first|exact trivial|exact h|refine And.intro ?_ ?_)
  try simp (maxSteps:=2000000) only [go_sem]
  repeat with_reducible refine zAb ?_
  refine zAd rfl trivial (.inl ?_)
  simp
end Go.Hx
end

section
set_option maxRecDepth 100000
set_option linter.unusedSimpArgs false
set_option maxHeartbeats 4000000
namespace Go.Hx
open Go.Proofs
variable [Glob] [GlobL]
attribute [local go_sem] zAt zAp zAn zAj ndV zAq zAk zBD zA7 zBt zBs zBo
attribute [local go_sem] reduceCtorEq Nat.reduceAdd Nat.reduceEqDiff reduceIte Nat.reduceLeDiff Nat.reduceLT Nat.reduceSub
theorem zSB (d:List Nd) (t:Ts) (n:Nat) (r:Bool) (h:Contract Tryz.prog zBb [.val (.one (zBo d)),.val (.agg (tsV t)),.val (iv n)] {res:=.val (bv r)}):
  Contract Tryz.prog zBV [.val (.agg (tsV t)),.val (.one (.fp [zBo d])),.val (.one (.fp [bI n]))] {res:=.val (bv !r)}:=by
 rw [zND] at h ⊢
 refine mkA zJf (base:=0) (fo rfl) (fun hfit=>?_)
 unfold F0 zEP
 simp (maxSteps:=2000000) only [zAJ,List.set_cons_succ,List.set_cons_zero,List.map_cons,List.map_nil,zAH,zAa,ioOf,List.length_cons,List.length_nil,Nat.reduceAdd,Nat.reduceSub,List.replicate,List.cons_append,List.nil_append]
 try simp (maxSteps:=2000000) only [go_sem]
 repeat with_reducible refine zAb ?_
 refine zAw (by repeat' constructor) (h) ?_
 try simp (maxSteps:=2000000) only [go_sem]
 repeat with_reducible refine zAb ?_
 exact zAd rfl trivial (.inl rfl)
theorem zV8 (d:List Nd) (s:St) (n:Nat) (hn:n < d.length) (h:∀ i,i < s.tests.length→Contract Tryz.prog zBb [.val (.one (zBo d)),.val (.agg (tsV (s.tests.getD i default))),.val (iv n)] {res:=.val (bv (tM d (s.tests.getD i default) n))}):
  Contract Tryz.prog zBn [.val (.one (zBo d)),.val (.agg (stV s)),.val (iv n)] {res:=.val (bv (sM d s n))}:=by
 have hc:=zZ4 zBV [.fp [zBo d],.fp [bI n]] s.tests (fun t=>!tM d t n) (fun i hi=>by
  have:=zSB d (s.tests.getD i default) n _ (h i hi)
  rw [zND] at this
  exact this)
 have e1:=zBC d n hn
 obtain ⟨x,hx⟩:∃ x,x=d.getD n default:=⟨_,rfl⟩
 rw [←hx] at e1
 rw [zS3,yEX,←hx]
 refine mkA zLt (base:=0) (fo rfl) (fun hfit=>?_)
 unfold F0 zGr
 simp (maxSteps:=2000000) only [zAJ,List.set_cons_succ,List.set_cons_zero,List.map_cons,List.map_nil,zAH,zAa,ioOf,List.length_cons,List.length_nil,Nat.reduceAdd,Nat.reduceSub,List.replicate,List.cons_append,List.nil_append]
 try simp (maxSteps:=2000000) only [go_sem]
 repeat with_reducible refine zAb ?_
 by_cases h0:s.tag=[]
 ·have g:(s.tag==[])=true:=by simp [h0]
  try simp (maxSteps:=2000000) only [go_sem,g,e1]
  repeat with_reducible refine zAb ?_
  apply zAu (h2:=fun _=>hc)
  ·(simp (maxSteps:=2000000) only [go_sem];rfl)
  ·intro h;repeat' (first|exact trivial|exact h|refine And.intro ?_ ?_)
  try simp (maxSteps:=2000000) only [go_sem]
  repeat with_reducible refine zAb ?_
  refine zAd rfl trivial (.inl ?_)
  congr 3
  rw [h0,Bool.eq_iff_iff]
  simp
 ·have g:(s.tag==[])=false:=by simp [h0]
  try simp (maxSteps:=2000000) only [go_sem,g,e1]
  repeat with_reducible refine zAb ?_
  apply zAu (h2:=fun _=>hc)
  ·(simp (maxSteps:=2000000) only [go_sem];rfl)
  ·intro h;repeat' (first|exact trivial|exact h|refine And.intro ?_ ?_)
  try simp (maxSteps:=2000000) only [go_sem]
  repeat with_reducible refine zAb ?_
  refine zAd rfl trivial (.inl ?_)
  congr 3
  rw [Bool.eq_iff_iff]
  simp [h0]
theorem zSC (d:List Nd) (p:Pt) (n:Nat) (r:Bool) (h:Contract Tryz.prog zBa [.val (.one (zBo d)),.val (.agg (ptV p)),.val (iv p.steps.length),.val (iv n)] {res:=.val (bv r)}):
  Contract Tryz.prog zBU [.val (.agg (ptV p)),.val (.one (.fp [zBo d])),.val (.one (.fp [bI n]))] {res:=.val (bv r)}:=by
 rw [zHB] at h ⊢
 refine mkA zJi (base:=0) (fo rfl) (fun hfit=>?_)
 unfold F0 zEQ
 simp (maxSteps:=2000000) only [zAJ,List.set_cons_succ,List.set_cons_zero,List.map_cons,List.map_nil,zAH,zAa,ioOf,List.length_cons,List.length_nil,Nat.reduceAdd,Nat.reduceSub,List.replicate,List.cons_append,List.nil_append]
 try simp (maxSteps:=2000000) only [go_sem]
 repeat with_reducible refine zAb ?_
 refine zAw (by repeat' constructor) (h) ?_
 try simp (maxSteps:=2000000) only [go_sem]
 repeat with_reducible refine zAb ?_
 exact zAd rfl trivial (.inl rfl)
theorem zL7 (d:List Nd) (l:List Pt) (n:Nat) (h:∀ i,i < l.length→Contract Tryz.prog zBa [.val (.one (zBo d)),.val (.agg (ptV (l.getD i default))),.val (iv (l.getD i default).steps.length),.val (iv n)] {res:=.val (bv (pM d (l.getD i default) n))}):
  Contract Tryz.prog zAK [.val (.one (zBo d)),.val (zBD l),.val (iv n)] {res:=.val (bv (lM d l n))}:=by
 have hc:=zZ2 zBU [.fp [zBo d],.fp [bI n]] l (fun p=>pM d p n) (fun i hi=>by
  have:=zSC d (l.getD i default) n _ (h i hi)
  rw [zHB] at this
  exact this)
 rw [yC9]
 unfold zBD
 refine mkA zLy (base:=0) (fo rfl) (fun hfit=>?_)
 unfold F0 zGs
 simp (maxSteps:=2000000) only [zAJ,List.set_cons_succ,List.set_cons_zero,List.map_cons,List.map_nil,zAH,zAa,ioOf,List.length_cons,List.length_nil,Nat.reduceAdd,Nat.reduceSub,List.replicate,List.cons_append,List.nil_append]
 try simp (maxSteps:=2000000) only [go_sem]
 repeat with_reducible refine zAb ?_
 refine zAw (by repeat' constructor) (hc) ?_
 try simp (maxSteps:=2000000) only [go_sem]
 repeat with_reducible refine zAb ?_
 exact zAd rfl trivial (.inl rfl)
end Go.Hx
end

section
set_option maxRecDepth 100000
set_option linter.unusedSimpArgs false
set_option maxHeartbeats 4000000
namespace Go.Hx
open Go.Proofs
variable [Glob] [GlobL]
attribute [local go_sem] zAt zAp zAn zAj ndV zAq zAk zBD zA7 zBt zBs zBo
attribute [local go_sem] reduceCtorEq Nat.reduceAdd Nat.reduceEqDiff reduceIte Nat.reduceLeDiff Nat.reduceLT Nat.reduceSub
theorem zQU (d:List Nd) (k:Nat) (hk:k < d.length):Contract Tryz.prog zBM [.val (iv k),.val (.one (.fp [zBo d]))] {res:=.val (iv (zBc d k))}:=by
 have e1:=zBC d k hk
 refine mkA zIg (base:=0) (fo rfl) (fun hfit=>?_)
 unfold F0 zD8
 simp (maxSteps:=2000000) only [zAJ,List.set_cons_succ,List.set_cons_zero,List.map_cons,List.map_nil,zAH,zAa,ioOf,List.length_cons,List.length_nil,Nat.reduceAdd,Nat.reduceSub,List.replicate,List.cons_append,List.nil_append]
 try simp (maxSteps:=2000000) only [go_sem]
 repeat with_reducible refine zAb ?_
 try simp (maxSteps:=2000000) only [go_sem,e1]
 repeat with_reducible refine zAb ?_
 exact zAd rfl trivial (.inl rfl)
theorem zQV (d:List Nd) (k:Nat) (hk:k < d.length):Contract Tryz.prog zBN [.val (iv k),.val (.one (.fp [zBo d]))] {res:=.val (iv (ahd d k))}:=by
 have e2:=zX4 d k hk
 have hln:=zX3 d
 refine mkA zIj (base:=0) (fo rfl) (fun hfit=>?_)
 unfold F0 zD9
 simp (maxSteps:=2000000) only [zAJ,List.set_cons_succ,List.set_cons_zero,List.map_cons,List.map_nil,zAH,zAa,ioOf,List.length_cons,List.length_nil,Nat.reduceAdd,Nat.reduceSub,List.replicate,List.cons_append,List.nil_append]
 try simp (maxSteps:=2000000) only [go_sem]
 repeat with_reducible refine zAb ?_
 try simp (maxSteps:=2000000) only [go_sem,e2]
 repeat with_reducible refine zAb ?_
 exact zAd rfl trivial (.inl rfl)
def zOz (link:Int):Nat:=if link=3∨link=4 then zBN else zBM
def yDO (d:List Nd) (link:Int) (n:Nat):PV:=.clo zDS [.fp [.clo (zOz link) [.fp [zBo d]]],.fp [bI n],.fp [bI link]]
theorem zV9 (d:List Nd) (link:Int) (n:Nat):Contract Tryz.prog zCU [.val (.one (zBo d)),.val (iv link),.val (iv n)] {res:=.val (.one (yDO d link n))}:=by
 unfold yDO zOz
 refine mkA zKc (base:=0) (fo rfl) (fun hfit=>?_)
 unfold F0 zFh
 simp (maxSteps:=2000000) only [zAJ,List.set_cons_succ,List.set_cons_zero,List.map_cons,List.map_nil,zAH,zAa,ioOf,List.length_cons,List.length_nil,Nat.reduceAdd,Nat.reduceSub,List.replicate,List.cons_append,List.nil_append]
 try simp (maxSteps:=2000000) only [go_sem]
 repeat with_reducible refine zAb ?_
 by_cases h3:link=3
 ·subst h3
  try simp (maxSteps:=2000000) only [go_sem]
  repeat with_reducible refine zAb ?_
  refine zAc (by rfl) trivial (fun h=>?_) (fun h=>?_)
  ·try simp (maxSteps:=2000000) only [go_sem]
   repeat with_reducible refine zAb ?_
   exact zAd rfl trivial (.inl rfl)
  ·simp at h
 ·have g3:(link==3)=false:=by simp [h3]
  try simp (maxSteps:=2000000) only [go_sem,g3]
  repeat with_reducible refine zAb ?_
  refine zAc (by rfl) trivial (fun h=>?_) (fun h=>?_)
  ·have h4:link=4:=by simpa using h
   subst h4
   try simp (maxSteps:=2000000) only [go_sem]
   repeat with_reducible refine zAb ?_
   exact zAd rfl trivial (.inl rfl)
  ·have h4:¬ link=4:=by simpa using h
   rw [if_neg (by omega)]
   try simp (maxSteps:=2000000) only [go_sem]
   repeat with_reducible refine zAb ?_
   exact zAd rfl trivial (.inl rfl)
end Go.Hx
end
