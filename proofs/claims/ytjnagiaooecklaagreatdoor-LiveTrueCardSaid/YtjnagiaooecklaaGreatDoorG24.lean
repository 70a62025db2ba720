/-
  Walks of functions of the program over an abstract layer, and the laws that they use: each contract says what the function computes, for every input that its conditions let by. No other condition.
-/
import Derived.Test.YtjnagiaooecklaaGreatDoorG23
import Derived.RangeFuncNested
import Derived.RangeFuncBound
import Derived.RangeFuncCalls
import Derived.RangeFuncLeaves
import Derived.Shelf.Abstract
import Derived.Shelf.RegionOpen
import Derived.WalkKit
import Derived.OwnWalkIn
import Derived.TacticsInMore
import Derived.LoopNIn
import Derived.LoopIn
set_option linter.all false
section
set_option maxRecDepth 100000
set_option linter.unusedSimpArgs false
set_option maxHeartbeats 4000000
namespace Go.Hx
open Go.Proofs Go.RowKit Go.Shelf
variable [Glob] [GlobL]
def zDK (d:List Nd) (link:Int) (k:Nat):Int:=if link=3∨link=4 then ahd d k else zAB d k
def yHT (link:Int):Bool:=decide (link=1)||decide (link=4)
def zAK (d:List Nd) (link:Int):Nat→Int→List Nat
 |0,_=>[]
 |f+1,k=>if 0≤k then k.toNat::(if yHT link then zAK d link f (zDK d link k.toNat) else []) else []
def yFR (d:List Nd) (link:Int) (n:Nat):List Nat:=zAK d link d.length (zDK d link n)
theorem yNH (d:List Nd) (n:Nat):-1≤ahd d n∧ahd d n < n:=by
 unfold ahd
 cases h:(zAt d (zAB d n) n).getLast? with
 |none=>simp;omega
 |some p=>
  obtain ⟨m,h1,h2,_⟩:=zGR h
  simp;omega
theorem zPG {d:List Nd} (hd:zCF d d.length=true) (link:Int) {n:Nat} (hn:n < d.length):-1≤zDK d link n∧zDK d link n < n:=by
 unfold zDK
 split
 ·exact yNH d n
 ·exact zA1 hd n hn
theorem zOz (d:List Nd) (link:Int):∀ (f:Nat) (k:Int),(zAK d link f k).length≤f
 |0,_=>by simp [zAK]
 |f+1,k=>by
  rw [zAK]
  split
  ·split
   ·have:=zOz d link f (zDK d link k.toNat)
    simp only [List.length_cons];omega
   ·simp
  ·simp
theorem zMW {d:List Nd} (hd:zCF d d.length=true) (link:Int):∀ (f g:Nat) (k:Int),k < d.length→k < f→k < g→zAK d link f k=zAK d link g k
 |0,0,_,_,_,_=>rfl
 |0,g+1,k,_,h,_=>by rw [zAK,zAK,if_neg (by omega)]
 |f+1,0,k,_,_,h=>by rw [zAK,zAK,if_neg (by omega)]
 |f+1,g+1,k,h0,h1,h2=>by
  rw [zAK,zAK]
  by_cases hk:0≤k
  ·rw [if_pos hk,if_pos hk]
   have:=zPG hd link (n:=k.toNat) (by omega)
   rw [zMW hd link f g (zDK d link k.toNat) (by omega) (by omega) (by omega)]
  ·rw [if_neg hk,if_neg hk]
theorem yAy (d:List Nd) (link:Int) (f:Nat) {k:Int} (h:k < 0):zAK d link f k=[]:=by
 cases f with
 |zero=>rfl
 |succ f=>rw [zAK,if_neg (by omega)]
theorem zXZ {d:List Nd} (hd:zCF d d.length=true) (link:Int) {k:Nat} (hk:k < d.length):zAK d link d.length k=k::(if yHT link then zAK d link d.length (zDK d link k) else []):=by
 obtain ⟨f,hf⟩:∃ f,d.length=f+1:=⟨d.length-1,by omega⟩
 have h:=zPG hd link hk
 have e:=zMW hd link f d.length (zDK d link k) (by omega) (by omega) (by omega)
 conv=>lhs;rw [hf]
 rw [zAK,if_pos (by omega),Int.toNat_natCast,e]
theorem yFz (d:List Nd) (link:Int) {k:Nat} (hk:k < d.length) {m:Mem} {w:World} (hm:MemOk m w) (hG:Glob.ok w) {u:Value} (hu:RpL m [.fp [zBs d]] [u]):
  Calls Tryz.prog (zO7 link) #[.int .i64 k,u] w fun e w'=>e=.returned (.int .i64 (zDK d link k))∧Below w.heap.size w w':=by
 have hc:Contract Tryz.prog (zO7 link) [.val (iv k),.val (.one (.fp [zBs d]))] {res:=.val (iv (zDK d link k))}:=by
  unfold zO7 zDK
  by_cases h:link=3∨link=4
  ·rw [if_pos h,if_pos h];exact zRV d k hk
  ·rw [if_neg h,if_neg h];exact zRU d k hk
 obtain ⟨u',us',e,h1,h2⟩:=hu
 cases e
 have hT:=hc.2 m w [.int .i64 k,u] hm ⟨_,_,rfl,⟨rfl,rfl⟩,_,_,rfl,h1,rfl⟩ (by intro g h;cases h) hG (by rintro b (h|h)<;>cases h)
 refine hT.mono fun e w' ⟨m',_,_,hp,_,_,v,hv,hr⟩=>?_
 refine ⟨by rw [hv];exact congrArg _ hr.1,⟨hp.os,hp.tape,hp.output,hp.size,fun b hb=>hp.block b hb (by rintro (h|h)<;>cases h)⟩⟩
end Go.Hx
end

section
set_option maxRecDepth 100000
set_option linter.unusedSimpArgs false
set_option maxHeartbeats 4000000
attribute [local go_sem] Go.Oper.semAt_some
namespace Go.Hx
open Go.Proofs Go.RowKit Go.Shelf
variable [Glob] [GlobL]
theorem yHi {d:List Nd} {link:Int} {n:Nat} {m:Mem} {lb:List Value} (h:RpL m [.fp [.clo (zO7 link) [.fp [zBs d]]],.fp [bI n],.fp [bI link]] lb):
  ∃ (b1 o1 b2 o2 b3 o3:Nat) (u:Value),lb=[.pointer (some ⟨b1,o1,none⟩),.pointer (some ⟨b2,o2,none⟩),.pointer (some ⟨b3,o3,none⟩)]∧
   m b1 o1=some (.func (.func (zO7 link)) #[] #[u])∧RpL m [.fp [zBs d]] [u]∧m b2 o2=some (.int .i64 n)∧m b3 o3=some (.int .i64 link):=by
 simp only [RpL,Rp,RpAt] at h
 obtain ⟨u1,us1,rfl,⟨b1,o1,rfl,⟨v1,g1,us,rfl,hus⟩,_⟩,u2,us2,rfl,⟨b2,o2,rfl,⟨v2,g2,rfl,_⟩,_⟩,u3,us3,rfl,⟨b3,o3,rfl,⟨v3,g3,rfl,_⟩,_⟩,rfl⟩:=h
 obtain ⟨w1,ws,rfl,hw,rfl⟩:=hus
 exact ⟨b1,o1,b2,o2,b3,o3,w1,rfl,g1,⟨w1,[],rfl,by simpa [Rp,RpAt] using hw,rfl⟩,g2,g3⟩
theorem yNV {m:Mem} {w w':World} (hm:MemOk m w) (h:Below w.heap.size w w'):MemOk m w':=fun b o u hu=>by
 have h1:=hm b o u hu
 have h2:b < w.heap.size:=World.block_lt_of_cell? w _ h1
 rw [←h1]
 exact World.cell?_of_block (h.block b h2)
theorem yNI {w w':World} (hG:Glob.ok w) (h:Below w.heap.size w w'):Glob.ok w':=
 Glob.keep w w' (fun b hb=>h.block b (Nat.lt_of_lt_of_le hb (Glob.size w hG))) hG
abbrev El (d:List Nd):={x:Nat // x < d.length}
theorem yCI (d:List Nd) (hd:zCF d d.length=true) (link:Int) (n:Nat) (hn:n < d.length) (m:Mem) (w:World) (lb:List Value) (hm:MemOk m w) (hG:Glob.ok w)
  (hlb:RpL m [.fp [.clo (zO7 link) [.fp [zBs d]]],.fp [bI n],.fp [bI link]] lb) (nn:Nat) (hnn:1≤nn):
  SeqStopsK Fence.wide nn Tryz.prog 205 lb.toArray (fun x:El d=>#[.int .i64 x.1]) (Below w.heap.size) (fun xs=>xs.map (·.1)=yFR d link n) (fun pre=>pre.map (·.1) <+: yFR d link n) d.length w:=by
 obtain ⟨b1,o1,b2,o2,b3,o3,u,rfl,g1,hu,g2,g3⟩:=yHi hlb
 intro l J Jx W hW hJ hJx hY h0
 have hcell:∀ W',Below w.heap.size w W'→MemOk m W':=fun W' h=>yNV hm h
 have hnext:∀ (k:Nat),k < d.length→∀ W',Below w.heap.size w W'→Calls Tryz.prog (zO7 link) #[.int .i64 k,u] W' fun e w'=>e=.returned (.int .i64 (zDK d link k))∧Below W'.heap.size W' w':=
  fun k hk W' h=>yFz d link hk (hcell W' h) (yNI hG h) hu
 have c1:=hcell W hW b1 o1 _ g1
 have c2:=hcell W hW b2 o2 _ g2
 have c3:=hcell W hW b3 o3 _ g3
 have hn0:=hnext n hn W hW
 have he:∀ args w,(callFunc (zO7 link) args).run Tryz.prog w=.ok (.enter (zO7 link) args) w:=by
  unfold zO7
  split
  ·exact enters_of Tryz.func204 (by kernel_rfl) rfl
  ·exact enters_of Tryz.func203 (by kernel_rfl) rfl
 have hfw:∀ g,Fence.wide.fn g:=fun _=>trivial
 refine callsIn_of_wp Tryz.func205 rfl trivial ?_ rfl
 simp only [Tryz.ntmps205,List.size_toArray,List.length_cons,List.length_nil,Nat.reduceAdd,Nat.reduceSub,Array.replicate_succ,Array.replicate_zero,List.push_toArray,List.append_toArray,List.nil_append,List.cons_append]
 have hbn:∀ {W':World},Below w.heap.size w W'→w.heap.size≤W'.heap.size:=fun h=>h.size
 gi_wp2
 refine (callsIn_wide.2 hn0).mono ?_
 rintro e w1 ⟨rfl,hb1⟩
 have hB1:Below w.heap.size w w1:=hW.trans (hb1.mono hW.size)
 have hJb:∀ {s:List (El d)} {A B:World},J s A→Below A.heap.size A B→J s B:=fun hs hb=>hJ _ _ _ none hs ⟨hb.os,hb.tape,hb.output,hb.size,fun k hk _=>hb.block k hk⟩ (fun _ e=>by cases e)
 have hJ1:J [] w1:=hJb h0 hb1
 have hnx:=zPG hd link hn
 gi_wp2
 gi_loopw [5] (fun p wr=>∃ (pre:List (El d)) (k:Int),p=.int .i64 k∧-1≤k∧k < d.length∧pre.map (·.1)++zAK d link d.length k=yFR d link n∧J pre wr∧Below w.heap.size w wr) (fun p _=>(RowKit.intOf p+1).toNat)
 case atStart=>exact ⟨[],_,rfl,hnx.1,by omega,rfl,hJ1,hB1⟩
 case round=>
  obtain ⟨pre,k,rfl,hk1,hk2,hroad,hJs,hBs⟩:=hrel
  by_cases h0:0≤k
  ·obtain ⟨q,rfl⟩:∃ q:Nat,k=q:=⟨k.toNat,by omega⟩
   have hq:q < d.length:=by omega
   have hstep:=zXZ hd link hq
   have hlen:pre.length < d.length:=by
    have h1:=congrArg List.length hroad
    have h2:=zOz d link d.length (zDK d link n)
    rw [hstep] at h1
    simp only [List.length_append,List.length_map,List.length_cons,yFR] at h1
    omega
   obtain ⟨fn,tmps,assign,body,hy,hR⟩:=hY pre ⟨q,hq⟩ wr hJs hlen
   dsimp only at hy
   gi_wp2
   refine hR.mono ?_
   rintro e W3 (⟨rfl,hJ3,hk3⟩|⟨rfl,hJx3⟩)
   ·have hB3:Below w.heap.size w W3:=hBs.trans hk3
    have d1:=hcell W3 hB3 b1 o1 _ g1
    have d3:=hcell W3 hB3 b3 o3 _ g3
    have hnq:=hnext q hq W3 hB3
    have hnl:=zPG hd link hq
    rw [hstep] at hroad
    have hfin:yHT link=true→∀ w4,Below W3.heap.size W3 w4→∃ (pre:List (El d)) (k:Int),Value.int .i64 (zDK d link q)=.int .i64 k∧-1≤k∧k < d.length∧pre.map (·.1)++zAK d link d.length k=yFR d link n∧J pre w4∧Below w.heap.size w w4:=fun hf w4 hw4=>
     ⟨pre++[⟨q,hq⟩],_,rfl,hnl.1,by omega,by rw [←hroad,if_pos hf];simp,hJb hJ3 hw4,hB3.trans (hw4.mono hB3.size)⟩
    by_cases l1:link=1
    ·subst l1
     gi_wp2
     refine (callsIn_wide.2 hnq).mono ?_
     rintro e w4 ⟨rfl,hw4⟩
     gi_wp2
     exact ⟨hfin (by decide) w4 hw4,by simp [RowKit.intOf];omega⟩
    ·by_cases l4:link=4
     ·subst l4
      gi_wp2
      refine (callsIn_wide.2 hnq).mono ?_
      rintro e w4 ⟨rfl,hw4⟩
      gi_wp2
      exact ⟨hfin (by decide) w4 hw4,by simp [RowKit.intOf];omega⟩
     ·have hf:¬ yHT link=true:=by unfold yHT;simp [l1,l4]
      gi_wp2
      ·exfalso
       have hx:(link==1)=true∨(link==4)=true:=by assumption
       simp [l1,l4] at hx
      ·go_end0
       exact ⟨⟨_,rfl⟩,.inl ⟨pre++[⟨q,hq⟩],by rw [←hroad,if_neg hf];simp,hJ3⟩⟩
   ·gi_wp2
    go_end0
    exact ⟨⟨_,rfl⟩,.inr ⟨pre++[⟨q,hq⟩],⟨if yHT link then zAK d link d.length (zDK d link q) else [],by rw [←hroad,hstep];simp⟩,hJx3⟩⟩
  ·have hk:k=-1:=by omega
   subst hk
   gi_wp2
   go_end0
   have hnil:zAK d link d.length (-1)=[]:=yAy d link _ (by omega)
   exact ⟨⟨_,rfl⟩,.inl ⟨pre,by rw [←hroad,hnil];simp,hJs⟩⟩
end Go.Hx
end

section
set_option maxRecDepth 100000
set_option linter.unusedSectionVars false
namespace Go.Hx
variable [Glob] [GlobL]
theorem yHj (d:List Nd):∀ (f:Nat) (k:Int),(zAK d 1 f k).map Int.ofNat=zBk d f k
 |0,_=>rfl
 |f+1,k=>by
  rw [zAK,zBk]
  by_cases h:0≤k
  ·rw [if_pos h]
   have hk:¬ k < 0:=by omega
   have e:zDK d 1 k.toNat=zAB d k.toNat:=by unfold zDK;rw [if_neg (by decide)]
   have e2:yHT 1=true:=by decide
   have:Int.ofNat k.toNat=k:=by simp;omega
   rw [e2,if_pos rfl,List.map_cons,e,yHj d f,if_neg hk,this]
  ·rw [if_neg h,if_pos (by omega)];rfl
theorem yEd (d:List Nd):∀ (f n:Nat),n≤f→∀ x:Nat,x∈zAK d 4 f (ahd d n)↔(x:Int)∈zAt d (zAB d n) n
 |0,n,h,x=>by
  obtain rfl:n=0:=by omega
  rw [zMP];simp [zAK]
 |f+1,n,h,x=>by
  rw [zAK]
  cases e:(zAt d (zAB d n) n).getLast? with
  |none=>
   have e1:ahd d n=-1:=by unfold ahd;rw [e];rfl
   rw [e1,if_neg (by omega),List.getLast?_eq_none_iff.1 e];simp
  |some p=>
   obtain ⟨m,h1,rfl,h3,h4⟩:=zGR e
   have e1:ahd d n=m:=by unfold ahd;rw [e];rfl
   have e2:yHT 4=true:=by decide
   have e3:zDK d 4 m=ahd d m:=by unfold zDK;rw [if_pos (.inr rfl)]
   rw [e1,if_pos (by omega),Int.toNat_natCast,e2,if_pos rfl,e3,h4,List.mem_cons,yEd d f m (by omega) x,h3,List.mem_append]
   simp only [List.mem_singleton]
   constructor
   ·rintro (rfl|h)
    ·exact .inr rfl
    ·exact .inl h
   ·rintro (h|h)
    ·exact .inr h
    ·exact .inl (by omega)
theorem zU0 {l:List Int} {x:Int} (h:0≤zBz l x):∃ i:Nat,zBz l x=i∧l[i]?=some x:=by
 unfold zBz at h ⊢
 cases e:l.findIdx? (fun y=>decide (y=x)) with
 |none=>rw [e] at h;simp at h
 |some i=>
  obtain ⟨h1,h2,_⟩:=List.findIdx?_eq_some_iff_getElem.1 e
  exact ⟨i,rfl,by rw [List.getElem?_eq_getElem h1];simpa using h2⟩
theorem yHk {l:List Int} {x:Int} (h:x∈l) (r:List Int):0≤zBz (l++r) x∧zBz (l++r) x < l.length:=by
 unfold zBz
 cases e:l.findIdx? (fun y=>decide (y=x)) with
 |none=>
  rw [List.findIdx?_eq_none_iff] at e
  have:=e x h
  simp at this
 |some i=>
  obtain ⟨h1,_,_⟩:=List.findIdx?_eq_some_iff_getElem.1 e
  rw [List.findIdx?_append,e]
  simp;omega
section
variable {d:List Nd} (hd:zCF d d.length=true)
include hd
theorem zN3 {n:Nat} (hn:n < d.length):∃ r,zER d n=zAt d (zAB d n) n++(n:Int)::r:=by
 by_cases h0:n=0
 ·subst h0;exact ⟨[],rfl⟩
 ·obtain ⟨r,h,_⟩:=yAw hd hn (by omega);exact ⟨r,h⟩
theorem yAz {n:Nat} (hn:n < d.length):zBz (zER d n) n=(zAt d (zAB d n) n).length:=by
 obtain ⟨r,h⟩:=zN3 hd hn
 rw [h,zLx zRT]
theorem yHl {n m:Nat} (hn:n < d.length):(0≤zBz (zER d n) m∧zBz (zER d n) m < zBz (zER d n) n)↔(m:Int)∈zAt d (zAB d n) n:=by
 obtain ⟨r,h⟩:=zN3 hd hn
 rw [yAz hd hn]
 constructor
 ·rintro ⟨h1,h2⟩
  obtain ⟨i,e,hi⟩:=zU0 h1
  rw [e] at h2
  rw [h,List.getElem?_append_left (by omega)] at hi
  exact List.mem_of_getElem? hi
 ·intro hm
  rw [h]
  exact yHk hm _
theorem yI9 {n m:Nat} (hn:n < d.length):(0≤zBz (zER d n) m∧zBz (zER d n) m+1=zBz (zER d n) n)↔(zAt d (zAB d n) n).getLast?=some (m:Int):=by
 obtain ⟨r,h⟩:=zN3 hd hn
 rw [yAz hd hn]
 constructor
 ·rintro ⟨h1,h2⟩
  obtain ⟨i,e,hi⟩:=zU0 h1
  rw [e] at h2
  rw [h,List.getElem?_append_left (by omega)] at hi
  rw [List.getLast?_eq_getElem?,←hi]
  congr 1;omega
 ·intro hm
  obtain ⟨m',h1,e,h3,h4⟩:=zGR hm
  obtain rfl:m=m':=by omega
  rw [h,h4,List.append_assoc,List.singleton_append,zLx zRT]
  simp
theorem yEe {n m:Nat} (hn:n < d.length) {link:Int} (h1:1≤link) (h2:link≤4):m∈yFR d link n↔m < n∧yGA d link m n=true:=by
 have hu:=zA1 hd n hn
 unfold yFR yGA
 by_cases l1:link=1
 ·subst l1
  rw [if_pos rfl]
  have e:zDK d 1 n=zAB d n:=by unfold zDK;rw [if_neg (by decide)]
  rw [e]
  have hm:m∈zAK d 1 d.length (zAB d n)↔(m:Int)∈zBk d d.length (zAB d n):=by
   rw [←yHj,List.mem_map]
   constructor
   ·intro h;exact ⟨m,h,rfl⟩
   ·rintro ⟨a,ha,hb⟩
    have:a=m:=Int.ofNat.inj hb
    rwa [←this]
  rw [hm]
  unfold zLQ
  rw [List.contains_iff_mem]
  constructor
  ·intro h
   have:=zDT d.length (zAB d n) (fun j hj=>(zA1 hd j (by omega)).2) _ h
   exact ⟨by omega,h⟩
  ·exact fun h=>h.2
 rw [if_neg l1]
 by_cases l2:link=2
 ·subst l2
  rw [if_pos rfl]
  have e:zDK d 2 n=zAB d n:=by unfold zDK;rw [if_neg (by decide)]
  have e2:yHT 2=false:=by decide
  obtain ⟨f,hf⟩:∃ f,d.length=f+1:=⟨d.length-1,by omega⟩
  rw [e,hf,zAK,e2]
  simp only [Bool.false_eq_true,if_false,decide_eq_true_eq]
  by_cases h0:0≤zAB d n
  ·rw [if_pos h0];simp;omega
  ·rw [if_neg h0];simp;omega
 rw [if_neg l2]
 by_cases l3:link=3
 ·subst l3
  rw [if_pos rfl]
  have e:zDK d 3 n=ahd d n:=by unfold zDK;rw [if_pos (.inl rfl)]
  have e2:yHT 3=false:=by decide
  obtain ⟨f,hf⟩:∃ f,d.length=f+1:=⟨d.length-1,by omega⟩
  rw [e,hf,zAK,e2]
  simp only [Bool.false_eq_true,if_false,Bool.and_eq_true,decide_eq_true_eq]
  rw [yI9 hd hn]
  unfold ahd
  cases e:(zAt d (zAB d n) n).getLast? with
  |none=>simp
  |some p=>
   obtain ⟨m',h1,rfl,h3,h4⟩:=zGR e
   simp;omega
 ·obtain rfl:link=4:=by omega
  rw [if_neg (by decide)]
  have e:zDK d 4 n=ahd d n:=by unfold zDK;rw [if_pos (.inr rfl)]
  rw [e,yEd d d.length n (by omega)]
  simp only [Bool.and_eq_true,decide_eq_true_eq]
  rw [yHl hd hn]
  constructor
  ·intro h
   obtain ⟨m',h1,h2,_⟩:=zJF h
   exact ⟨by omega,h⟩
  ·exact fun h=>h.2
theorem yFA {n k:Nat} (hn:n < d.length) {ps:List (Nat→Bool)} {lk:List Int} (h1:1≤lk.getD k 0) (h2:lk.getD k 0≤4):
  zDU d ps lk (k+1) n=(ps.getD (k+1) (fun _=>false) n&&(yFR d (lk.getD k 0) n).any fun m=>zDU d ps lk k m):=by
 rw [zDU]
 congr 1
 rw [Bool.eq_iff_iff,List.any_eq_true,List.any_eq_true]
 constructor
 ·rintro ⟨m,hm,h⟩
  obtain ⟨ha,hb⟩:=Bool.and_eq_true_iff.1 h
  exact ⟨m,(yEe hd hn h1 h2).2 ⟨List.mem_range.1 hm,ha⟩,hb⟩
 ·rintro ⟨m,hm,h⟩
  obtain ⟨ha,hb⟩:=(yEe hd hn h1 h2).1 hm
  exact ⟨m,List.mem_range.2 ha,Bool.and_eq_true_iff.2 ⟨hb,h⟩⟩
end
end Go.Hx
end
