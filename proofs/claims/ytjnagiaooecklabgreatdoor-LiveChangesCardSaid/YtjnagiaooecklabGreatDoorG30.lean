/-
  Walks of functions of the program over an abstract layer, and the laws that they use: each contract says what the function computes, for every input that its conditions let by. No other condition.
-/
import Derived.Test.YtjnagiaooecklabGreatDoorG19
import Derived.Test.YtjnagiaooecklabGreatDoorG29
import Derived.Test.YtjnagiaooecklabGreatDoorG13
import Derived.Test.YtjnagiaooecklabGreatDoorG11
set_option linter.all false
section
set_option maxRecDepth 100000
set_option linter.unusedSimpArgs false
namespace Go.Hx
open Go.Proofs
variable [Glob] [GlobL]
attribute [local go_sem] zAh zAm zAk zAg ndV zAr
attribute [local go_sem] reduceCtorEq Nat.reduceAdd Nat.reduceEqDiff reduceIte Nat.reduceLeDiff Nat.reduceLT Nat.reduceSub
theorem zBO (l:List Bys) (hl:l.length≤64):Contract Tryz.prog zA1 [.val (.one (.sl 1 (zVD l)))] {res:=.own zDU 1 (zVD l)}:=by
 refine mkA zGj (base:=0) (fo rfl) (fun hfit=>?_)
 unfold F0 zDV
 simp (maxSteps:=2000000) only [zAM,List.set_cons_succ,List.set_cons_zero,List.map_cons,List.map_nil,zAL,zAa,ioOf,List.length_cons,List.length_nil,Nat.reduceAdd,Nat.reduceSub,List.replicate,List.cons_append,List.nil_append]
 try simp (maxSteps:=2000000) only [go_sem]
 repeat with_reducible refine zAb ?_
 intro b hb
 refine zAd (by rfl) trivial (fun h=>?_) (fun h=>?_)
 ·try simp (maxSteps:=2000000) only [go_sem]
  repeat with_reducible refine zAb ?_
  have:zVD l=[]:=by
   apply Classical.byContradiction
   intro h2;rw [hb h2] at h;cases h
  rw [this]
  exact zFU rfl
 ·try simp (maxSteps:=2000000) only [go_sem]
  repeat with_reducible refine zAb ?_
  exact zFU rfl
theorem zB3 (l:List (Bys×Bys)) (hl:l.length≤64):Contract Tryz.prog zBg [.val (.one (.sl 2 (zVE l)))] {res:=.own zCZ 2 (zVE l)}:=by
 refine mkA zHY (base:=0) (fo rfl) (fun hfit=>?_)
 unfold F0 zEu
 simp (maxSteps:=2000000) only [zAM,List.set_cons_succ,List.set_cons_zero,List.map_cons,List.map_nil,zAL,zAa,ioOf,List.length_cons,List.length_nil,Nat.reduceAdd,Nat.reduceSub,List.replicate,List.cons_append,List.nil_append]
 try simp (maxSteps:=2000000) only [go_sem]
 repeat with_reducible refine zAb ?_
 intro b hb
 refine zAd (by rfl) trivial (fun h=>?_) (fun h=>?_)
 ·try simp (maxSteps:=2000000) only [go_sem]
  repeat with_reducible refine zAb ?_
  have:zVE l=[]:=by
   apply Classical.byContradiction
   intro h2;rw [hb h2] at h;cases h
  rw [this]
  exact zFU rfl
 ·try simp (maxSteps:=2000000) only [go_sem]
  repeat with_reducible refine zAb ?_
  exact zFU rfl
def zBv (g:Int→Int) (x:Nd):Nd:={x with up:=g x.up}
def zVr (x:Nd):Prop:=x.cls.length≤64∧x.att.length≤64
theorem zKr {l:List Nd} {i:Nat} (h:i < l.length):l.getD i default∈l:=by
 simp [h]
theorem zHw (l:List Nd) (f:Nat) (caps:List PV) (g:Int→Int) (hl:l.length≤64) (hs:∀ x∈l,zVr x)
  (hg:∀ x∈l,Contract Tryz.prog f ([.val (iv x.up)]++caps.map fun c=>.val (.one c)) {res:=.val (iv (g x.up))}):
  Contract Tryz.prog zCb [.val (.one (.sl 5 (zDd l))),.val (.one (.clo f caps))] {res:=.own zAz 5 (zDd (l.map (zBv g)))}:=by
 refine mkA yBp (base:=0) (fo rfl) (fun hfit=>?_)
 unfold F0 zWE
 simp (maxSteps:=2000000) only [zAM,List.set_cons_succ,List.set_cons_zero,List.map_cons,List.map_nil,zAL,zAa,ioOf,List.length_cons,List.length_nil,Nat.reduceAdd,Nat.reduceSub,List.replicate,List.cons_append,List.nil_append]
 try simp (maxSteps:=2000000) only [go_sem]
 repeat with_reducible refine zAb ?_
 refine zAx (fun i:Nat=>[(5,.own zAz 5 (zDd ((l.take i).map (zBv g)))),(7,.un),(10,.pv (iv i)),(11,.un),(33,.un),(34,.un),(35,.un),(36,.un),(37,.un)]) (fun i:Nat=>l.length-i) (fun i:Nat=>i≤l.length) (0) ?_ (Nat.zero_le _) ?_
 focus (simp (maxSteps:=2000000) only [go_sem,zAn,zAw,zAJ,zAo];all_goals (repeat' (first|exact trivial|exact zAy (by omega)|exact zAu rfl|exact zAN rfl|exact zAA|exact le_refl _|refine And.intro ?_ ?_)))
 intro i hi
 try simp (maxSteps:=2000000) only [go_sem]
 repeat with_reducible refine zAb ?_
 refine zAd (by rfl) trivial (fun h=>?_) (fun h=>?_)
 ·have hlt:i < l.length:=by simpa using h
  have hmem:=zKr hlt
  obtain ⟨hs1,hs2⟩:=hs _ hmem
  try simp (maxSteps:=2000000) only [go_sem,zA4 _ _ hlt]
  repeat with_reducible refine zAb ?_
  refine zDS (by rfl) trivial (by repeat' constructor) (hg _ hmem) ?_
  try simp (maxSteps:=2000000) only [go_sem]
  repeat with_reducible refine zAb ?_
  refine zBa (by repeat' constructor) (zBO _ hs1) ?_
  try simp (maxSteps:=2000000) only [go_sem]
  repeat with_reducible refine zAb ?_
  refine zBa (by repeat' constructor) (zB3 _ hs2) ?_
  try simp (maxSteps:=2000000) only [go_sem]
  repeat with_reducible refine zAb ?_
  refine ⟨i+1,by omega,hlt,?_⟩
  simp (maxSteps:=2000000) only [go_sem,zAn,zAw,zAJ,zAo]
  all_goals (repeat' (first|exact trivial|exact zAy (by omega)|exact zAu rfl|exact zAN rfl|exact zAA|exact le_refl _|refine And.intro ?_ ?_))
  refine zFx ?_
  rw [zDv default hlt,zHN]
  rfl
 ·try simp (maxSteps:=2000000) only [go_sem]
  repeat with_reducible refine zAb ?_
  have:i=l.length:=by simp at h;omega
  subst this
  rw [List.take_length]
  exact zFU rfl
theorem zZl (up:Int):Contract Tryz.prog zER [.val (iv up)] {res:=.val (iv up)}:=by
 refine mkA zWK (base:=0) (fo rfl) (fun hfit=>?_)
 unfold F0 zOI
 simp (maxSteps:=2000000) only [zAM,List.set_cons_succ,List.set_cons_zero,List.map_cons,List.map_nil,zAL,zAa,ioOf,List.length_cons,List.length_nil,Nat.reduceAdd,Nat.reduceSub,List.replicate,List.cons_append,List.nil_append]
 try simp (maxSteps:=2000000) only [go_sem]
 repeat with_reducible refine zAb ?_
 try simp (maxSteps:=2000000) only [go_sem]
 repeat with_reducible refine zAb ?_
 refine zAj rfl trivial (.inl ?_)
 congr 3
theorem zIj (up n e:Int) (h1:-1000≤up∧up≤1000) (h2:-1000≤n∧n≤1000) (h3:-1000≤e∧e≤1000):Contract Tryz.prog zCq [.val (iv up),.val (.one (.fp [bI e])),.val (.one (.fp [bI n]))] {res:=.val (iv (if up≥e then up-e+n else up))}:=by
 refine mkA zOH (base:=0) (fo rfl) (fun hfit=>?_)
 unfold F0 zIe
 simp (maxSteps:=2000000) only [zAM,List.set_cons_succ,List.set_cons_zero,List.map_cons,List.map_nil,zAL,zAa,ioOf,List.length_cons,List.length_nil,Nat.reduceAdd,Nat.reduceSub,List.replicate,List.cons_append,List.nil_append]
 try simp (maxSteps:=2000000) only [go_sem]
 repeat with_reducible refine zAb ?_
 refine zAd (by rfl) trivial (fun h=>?_) (fun h=>?_)
 ·try simp (maxSteps:=2000000) only [go_sem]
  repeat with_reducible refine zAb ?_
  refine zAj rfl trivial (.inl ?_)
  congr 3
  rw [if_pos (by simpa using h)]
 ·try simp (maxSteps:=2000000) only [go_sem]
  repeat with_reducible refine zAb ?_
  refine zAj rfl trivial (.inl ?_)
  congr 3
  rw [if_neg (by simpa using h)]
theorem zIk (up n:Int) (e:List Nd) (h1:-1000≤up∧up≤1000) (h2:-1000≤n∧n≤1000) (h3:e.length≤64):Contract Tryz.prog zCp [.val (iv up),.val (.one (.fp [bI n])),.val (.one (.fp [.sl 5 (zDd e)]))] {res:=.val (iv (if up≥n then up+e.length else up))}:=by
 refine mkA zOx (base:=0) (fo rfl) (fun hfit=>?_)
 unfold F0 zIc
 simp (maxSteps:=2000000) only [zAM,List.set_cons_succ,List.set_cons_zero,List.map_cons,List.map_nil,zAL,zAa,ioOf,List.length_cons,List.length_nil,Nat.reduceAdd,Nat.reduceSub,List.replicate,List.cons_append,List.nil_append]
 try simp (maxSteps:=2000000) only [go_sem]
 repeat with_reducible refine zAb ?_
 refine zAd (by rfl) trivial (fun h=>?_) (fun h=>?_)
 ·try simp (maxSteps:=2000000) only [go_sem]
  repeat with_reducible refine zAb ?_
  refine zAj rfl trivial (.inl ?_)
  congr 3
  rw [if_pos (by simpa using h)]
 ·try simp (maxSteps:=2000000) only [go_sem]
  repeat with_reducible refine zAb ?_
  refine zAj rfl trivial (.inl ?_)
  congr 3
  rw [if_neg (by simpa using h)]
theorem zRQ (k n up:Int) (h1:-1000≤k∧k≤1000) (h2:-1000≤n∧n≤1000):Contract Tryz.prog zDq [.val (iv k),.val (.one (.fp [bI up])),.val (.one (.fp [bI n]))] {res:=.val (iv (if k < 0 then up else k+n))}:=by
 refine mkA zOC (base:=0) (fo rfl) (fun hfit=>?_)
 unfold F0 zId
 simp (maxSteps:=2000000) only [zAM,List.set_cons_succ,List.set_cons_zero,List.map_cons,List.map_nil,zAL,zAa,ioOf,List.length_cons,List.length_nil,Nat.reduceAdd,Nat.reduceSub,List.replicate,List.cons_append,List.nil_append]
 try simp (maxSteps:=2000000) only [go_sem]
 repeat with_reducible refine zAb ?_
 refine zAd (by rfl) trivial (fun h=>?_) (fun h=>?_)
 ·try simp (maxSteps:=2000000) only [go_sem]
  repeat with_reducible refine zAb ?_
  refine zAj rfl trivial (.inl ?_)
  congr 3
  rw [if_pos (by simpa using h)]
 ·try simp (maxSteps:=2000000) only [go_sem]
  repeat with_reducible refine zAb ?_
  refine zAj rfl trivial (.inl ?_)
  congr 3
  rw [if_neg (by simpa using h)]
theorem c_slices_Grow_Node (n:Nat) (hn:n≤1000):Contract Tryz.prog zEt [.val (.one (.nl 5)),.val (iv n)] {res:=.own zAz 5 []}:=Go.Proofs.c_slices_Grow_Node n hn
def sls (ls:List (List Nd)):List (List PV):=ls.map fun l=>[.sl 5 (zDd l)]
theorem zVs (ls:List (List Nd)):(sls ls).length=ls.length:=by simp [sls]
theorem yCS (ls:List (List Nd)) (i:Nat) (h:i < ls.length):(sls ls).getD i []=[.sl 5 (zDd (ls.getD i []))]:=by simp [sls,h]
theorem zFk (ls:List (List Nd)) (i:Nat) (h:i < ls.length):(ls.take (i+1)).flatten=(ls.take i).flatten++ls.getD i []:=by
 rw [zC2 [] h];simp
theorem yAf (ls:List (List Nd)) (i:Nat) (h:i < ls.length):(ls.take i).flatten.length+(ls.getD i []).length≤ls.flatten.length:=by
 have e:ls.flatten=(ls.take (i+1)).flatten++(ls.drop (i+1)).flatten:=by rw [←List.flatten_append,List.take_append_drop]
 rw [e,zFk ls i h];simp
theorem zEe (ls:List (List Nd)) (hl:ls.flatten.length≤1000) (hn:ls.length≤10):Contract Tryz.prog zBM [.val (.one (.sl 1 (sls ls)))] {res:=.own zAz 5 (zDd ls.flatten)}:=by
 refine mkA zG9 (base:=0) (fo rfl) (fun hfit=>?_)
 unfold F0 zEc
 simp (maxSteps:=2000000) only [zAM,List.set_cons_succ,List.set_cons_zero,List.map_cons,List.map_nil,zAL,zAa,ioOf,List.length_cons,List.length_nil,Nat.reduceAdd,Nat.reduceSub,List.replicate,List.cons_append,List.nil_append]
 try simp (maxSteps:=2000000) only [go_sem]
 repeat with_reducible refine zAb ?_
 try simp (maxSteps:=2000000) only [go_sem,zVs]
 repeat with_reducible refine zAb ?_
 refine zAx (fun i:Nat=>[(3,.pv (iv ((ls.take i).flatten.length))),(5,.un),(11,.pv (iv i)),(12,.un),(20,.un)]) (fun i:Nat=>ls.length-i) (fun i:Nat=>i≤ls.length) (0) ?_ (Nat.zero_le _) ?_
 focus (simp (maxSteps:=2000000) only [go_sem,zAn,zAw,zAJ,zAo];all_goals (repeat' (first|exact trivial|exact zAy (by omega)|exact zAu rfl|exact zAN rfl|exact zAA|exact le_refl _|refine And.intro ?_ ?_)))
 intro i hi
 try simp (maxSteps:=2000000) only [go_sem]
 repeat with_reducible refine zAb ?_
 refine zAd (by rfl) trivial (fun h=>?_) (fun h=>?_)
 ·have hlt:i < ls.length:=by simpa using h
  have hfl:=yAf ls i hlt
  try simp (maxSteps:=2000000) only [go_sem,zVs,yCS _ _ hlt]
  repeat with_reducible refine zAb ?_
  refine zAd (by rfl) trivial (fun h2=>?_) (fun h2=>?_)
  ·exfalso;simp at h2;omega
  ·try simp (maxSteps:=2000000) only [go_sem]
   repeat with_reducible refine zAb ?_
   refine ⟨i+1,by omega,hlt,?_⟩
   simp (maxSteps:=2000000) only [go_sem,zAn,zAw,zAJ,zAo]
   all_goals (repeat' (first|exact trivial|exact zAy (by omega)|exact zAu rfl|exact zAN rfl|exact zAA|exact le_refl _|refine And.intro ?_ ?_))
   rw [zFk ls i hlt]
   exact zAy (by simp)
 try simp (maxSteps:=2000000) only [go_sem]
 repeat with_reducible refine zAb ?_
 have hi2:i=ls.length:=by simp at h;omega
 subst hi2
 rw [List.take_length]
 refine zBa (by repeat' constructor) (c_slices_Grow_Node _ hl) ?_
 try simp (maxSteps:=2000000) only [go_sem]
 repeat with_reducible refine zAb ?_
 try simp (maxSteps:=2000000) only [go_sem,zVs]
 repeat with_reducible refine zAb ?_
 refine zAx (fun i:Nat=>[(6,.own zAz 5 (zDd (ls.take i).flatten)),(8,.un),(27,.pv (iv i)),(28,.un)]) (fun i:Nat=>ls.length-i) (fun i:Nat=>i≤ls.length) (0) ?_ (Nat.zero_le _) ?_
 focus (simp (maxSteps:=2000000) only [go_sem,zAn,zAw,zAJ,zAo];all_goals (repeat' (first|exact trivial|exact zAy (by omega)|exact zAu rfl|exact zAN rfl|exact zAA|exact le_refl _|refine And.intro ?_ ?_)))
 intro i hi
 try simp (maxSteps:=2000000) only [go_sem]
 repeat with_reducible refine zAb ?_
 refine zAd (by rfl) trivial (fun h=>?_) (fun h=>?_)
 ·have hlt:i < ls.length:=by simpa using h
  have hfl:=yAf ls i hlt
  try simp (maxSteps:=2000000) only [go_sem,zVs,yCS _ _ hlt]
  repeat with_reducible refine zAb ?_
  refine ⟨i+1,by omega,hlt,?_⟩
  simp (maxSteps:=2000000) only [go_sem,zAn,zAw,zAJ,zAo]
  all_goals (repeat' (first|exact trivial|exact zAy (by omega)|exact zAu rfl|exact zAN rfl|exact zAA|exact le_refl _|refine And.intro ?_ ?_))
  rw [zFk ls i hlt,zHN]
  exact zFx rfl
 try simp (maxSteps:=2000000) only [go_sem]
 repeat with_reducible refine zAb ?_
 have hi2:i=ls.length:=by simp at h;omega
 subst hi2
 rw [List.take_length]
 exact zFU rfl
end Go.Hx
end

section
set_option maxRecDepth 100000
set_option linter.unusedSimpArgs false
namespace Go.Hx
open Go.Proofs
variable [Glob] [GlobL]
attribute [local go_sem] zAh zAm zAk zAg ndV zAr List.take_length
attribute [local go_sem] reduceCtorEq Nat.reduceAdd Nat.reduceEqDiff reduceIte Nat.reduceLeDiff Nat.reduceLT Nat.reduceSub
theorem yCT (d:List Nd) (n:Nat):(zDd d).take n=zDd (d.take n):=by simp [zDd]
attribute [local go_sem] yCT
theorem yCU (d:List Nd) (n:Nat):(zDd d).drop n=zDd (d.drop n):=by simp [zDd]
attribute [local go_sem] yCU
theorem yCV {l:List Int} {i:Nat} (h:i < l.length):l.getD i 0∈l:=by simp [h]
theorem yGq {d:List Nd} {x:Nd} (h:x∈d):∃ i,i < d.length∧d.getD i default=x:=by
 obtain ⟨i,hi,e⟩:=List.getElem_of_mem h
 exact ⟨i,hi,by simp [hi,e]⟩
theorem zBX {d:List Nd} (hd:zCm d d.length=true) (hl:d.length≤64) {x:Nd} (h:x∈d):zVr x∧-1000≤x.up∧x.up≤1000:=by
 obtain ⟨i,hi,rfl⟩:=yGq h
 have h1:=zBu (zC9 hd hi)
 have h2:=zBB hd i hi
 simp only [zAS] at h2
 exact ⟨⟨by omega,by omega⟩,by omega,by omega⟩
def zZm (d:List Nd) (n:Nat):List Nd:=((d.take (zAc d n)).drop n).map (zBv fun up=>max (up-n) (-1))
def zBA (d:List Nd) (n:Nat):List Nd:=[(d.take n).map (zBv fun k=>if k≥zAc d n then k-zAc d n+n else k),(d.drop (zAc d n)).map (zBv fun k=>if k≥zAc d n then k-zAc d n+n else k)].flatten
def zP2 (d:List Nd) (k:Int):Int:=if zBq d k=0 then (if k=0 then 3 else 0) else zBq d k
theorem zXn (d:List Nd) (k:Int):Contract Tryz.prog zF1 [.val (zBE d),.val (iv k)] {res:=.tup [zBE (if zP2 d k=0 then zBA d k.toNat else []),iv (zP2 d k)]}:=by
 unfold zBE
 refine mkA zUF (base:=0) (fo rfl) (fun hfit=>?_)
 unfold F0 zLu
 simp (maxSteps:=2000000) only [zAM,List.set_cons_succ,List.set_cons_zero,List.map_cons,List.map_nil,zAL,zAa,ioOf,List.length_cons,List.length_nil,Nat.reduceAdd,Nat.reduceSub,List.replicate,List.cons_append,List.nil_append]
 try simp (maxSteps:=2000000) only [go_sem]
 repeat with_reducible refine zAb ?_
 refine zAq (by repeat' constructor) (zPM d k) ?_
 try simp (maxSteps:=2000000) only [go_sem]
 repeat with_reducible refine zAb ?_
 refine zAd (by rfl) trivial (fun h=>?_) (fun h=>?_)
 ·try simp (maxSteps:=2000000) only [go_sem]
  repeat with_reducible refine zAb ?_
  have h2:¬ zBq d k=0:=by simpa using h
  have h3:zP2 d k=zBq d k:=by simp [zP2,h2]
  rw [h3,if_neg h2]
  exact zAR (by simp) ⟨zAH rfl rfl (.inr rfl),zA7 rfl trivial (.inl rfl),rfl⟩
 have h2:zBq d k=0:=by simpa using h
 obtain ⟨h3,h4,h5⟩:=zDX h2
 obtain ⟨h6,h7,h8⟩:=zAO h3
 obtain ⟨m,rfl⟩:∃ m:Nat,k=m:=⟨k.toNat,by omega⟩
 try simp (maxSteps:=2000000) only [go_sem]
 repeat with_reducible refine zAb ?_
 refine zAd (by rfl) trivial (fun h9=>?_) (fun h9=>?_)
 ·try simp (maxSteps:=2000000) only [go_sem]
  repeat with_reducible refine zAb ?_
  have h10:(m:Int)=0:=by simpa using h9
  have h3:zP2 d m=3:=by rw [zP2,if_pos h2,if_pos h10]
  rw [h3,if_neg (by omega)]
  exact zAR (by simp) ⟨zAH rfl rfl (.inr rfl),zA7 rfl trivial (.inl rfl),rfl⟩
 have h10:¬ (m:Int)=0:=by simpa using h9
 have hr:zP2 d m=0:=by simp only [zP2,h2,h10,if_true,if_false]
 rw [hr,if_pos rfl]
 have hm:m < d.length:=by omega
 have hb:=zAv hm
 try simp (maxSteps:=2000000) only [go_sem]
 repeat with_reducible refine zAb ?_
 refine zAq (by repeat' constructor) (Contract.av (zE2 d m hm) (by first|rfl|(simp (maxSteps:=2000000) only [go_sem];done)|(simp (maxSteps:=2000000) only [go_sem];rfl))) ?_
 try simp (maxSteps:=2000000) only [go_sem]
 repeat with_reducible refine zAb ?_
 have hs1:∀ x∈d.take m,x∈d:=fun x hx=>List.mem_of_mem_take hx
 have hs2:∀ x∈d.drop (zAc d m),x∈d:=fun x hx=>List.mem_of_mem_drop hx
 refine zBa (by repeat' constructor) (Contract.av (zHw (d.take m) zCq [.fp [bI (zAc d m)],.fp [bI m]] (fun k=>if k≥zAc d m then k-zAc d m+m else k) (by simp;omega) (fun x hx=>(zBX h8 h7 (hs1 x hx)).1) (fun x hx=>zIj x.up m (zAc d m) (zBX h8 h7 (hs1 x hx)).2 (by omega) (by omega))) (by first|rfl|(simp (maxSteps:=2000000) only [go_sem];done)|(simp (maxSteps:=2000000) only [go_sem];rfl))) ?_
 try simp (maxSteps:=2000000) only [go_sem]
 repeat with_reducible refine zAb ?_
 refine zBa (by repeat' constructor) (Contract.av (zHw (d.drop (zAc d m)) zCq [.fp [bI (zAc d m)],.fp [bI m]] (fun k=>if k≥zAc d m then k-zAc d m+m else k) (by simp;omega) (fun x hx=>(zBX h8 h7 (hs2 x hx)).1) (fun x hx=>zIj x.up m (zAc d m) (zBX h8 h7 (hs2 x hx)).2 (by omega) (by omega))) (by first|rfl|(simp (maxSteps:=2000000) only [go_sem];done)|(simp (maxSteps:=2000000) only [go_sem];rfl))) ?_
 try simp (maxSteps:=2000000) only [go_sem]
 repeat with_reducible refine zAb ?_
 refine zBa (by repeat' constructor) (Contract.av (zEe [(d.take m).map (zBv fun k=>if k≥zAc d m then k-zAc d m+m else k),(d.drop (zAc d m)).map (zBv fun k=>if k≥zAc d m then k-zAc d m+m else k)] (by simp;omega) (by simp)) (by first|rfl|(simp (maxSteps:=2000000) only [go_sem];done)|(simp (maxSteps:=2000000) only [go_sem];rfl))) ?_
 try simp (maxSteps:=2000000) only [go_sem]
 repeat with_reducible refine zAb ?_
 exact zAR (by simp) ⟨zAH rfl rfl (.inl rfl),zA7 rfl trivial (.inl rfl),rfl⟩
theorem zXo {d:List Nd} {n:Nat} (hb:zAc d n≤d.length):∀ (f i:Nat),(zDy d n f i).length≤f∧∀ x∈zDy d n f i,(i:Int)≤x∧x < d.length
 |0,i=>by simp [zDy]
 |f+1,i=>by
  simp only [zDy]
  split
  ·rename_i h
   have h1:=zAv (d:=d) (n:=i) (by omega)
   have h2:=zXo hb f (zAc d i)
   refine ⟨by simp;omega,fun x hx=>?_⟩
   rcases List.mem_cons.1 hx with rfl|hx
   ·omega
   ·have:=h2.2 x hx;omega
  ·simp
theorem zVt {d:List Nd} {n:Nat} (hn:n < d.length):(zB2 d n).length≤d.length∧∀ x∈zB2 d n++[(zAc d n:Int)],(n:Int) < x∧x≤d.length:=by
 have hb:=zAv hn
 have h:=zXo hb.2 d.length (n+1)
 refine ⟨h.1,fun x hx=>?_⟩
 rcases List.mem_append.1 hx with hx|hx
 ·have:=h.2 x hx;omega
 ·simp at hx;omega
def zA8 (d:List Nd) (up:Nat):List Int:=zB2 d up++[(zAc d up:Int)]
def zFm (d:List Nd) (up at':Int) (e:List Nd):Int:=
 if zAi d=0 then (if zAi e=0 then (if up < 0∨up≥d.length then 5 else if at' < 0∨at'≥(zA8 d up.toNat).length then 3 else if d.length+e.length > 64 then 2 else 0) else zAi e) else zAi d
def zAY (d:List Nd) (up:Int) (n:Nat) (e:List Nd):List Nd:=
 [(d.take n).map (zBv fun k=>if k≥n then k+e.length else k),e.map (zBv fun k=>if k < 0 then up else k+n),(d.drop n).map (zBv fun k=>if k≥n then k+e.length else k)].flatten
def zBs (d:List Nd) (up at':Int) (e:List Nd):List Nd:=zAY d up ((zA8 d up.toNat).getD at'.toNat 0).toNat e
theorem zXp (d:List Nd) (up at':Int) (e:List Nd):Contract Tryz.prog zF0 [.val (zBE d),.val (iv up),.val (iv at'),.val (zBE e)] {res:=.tup [zBE (if zFm d up at' e=0 then zBs d up at' e else []),iv (zFm d up at' e)]}:=by
 unfold zBE
 refine mkA zUv (base:=0) (fo rfl) (fun hfit=>?_)
 unfold F0 zLt
 simp (maxSteps:=2000000) only [zAM,List.set_cons_succ,List.set_cons_zero,List.map_cons,List.map_nil,zAL,zAa,ioOf,List.length_cons,List.length_nil,Nat.reduceAdd,Nat.reduceSub,List.replicate,List.cons_append,List.nil_append]
 try simp (maxSteps:=2000000) only [go_sem]
 repeat with_reducible refine zAb ?_
 refine zAq (by repeat' constructor) (zF6 d) ?_
 try simp (maxSteps:=2000000) only [go_sem]
 repeat with_reducible refine zAb ?_
 refine zAd (by rfl) trivial (fun h=>?_) (fun h=>?_)
 ·try simp (maxSteps:=2000000) only [go_sem]
  repeat with_reducible refine zAb ?_
  have h2:¬ zAi d=0:=by simpa using h
  have h3:zFm d up at' e=zAi d:=by rw [zFm,if_neg h2]
  rw [h3,if_neg h2]
  exact zAR (by simp) ⟨zAH rfl rfl (.inr rfl),zA7 rfl trivial (.inl rfl),rfl⟩
 have h2:zAi d=0:=by simpa using h
 obtain ⟨h6,h7,h8⟩:=zAO h2
 try simp (maxSteps:=2000000) only [go_sem]
 repeat with_reducible refine zAb ?_
 refine zAq (by repeat' constructor) (zF6 e) ?_
 try simp (maxSteps:=2000000) only [go_sem]
 repeat with_reducible refine zAb ?_
 refine zAd (by rfl) trivial (fun h=>?_) (fun h=>?_)
 ·try simp (maxSteps:=2000000) only [go_sem]
  repeat with_reducible refine zAb ?_
  have h3:¬ zAi e=0:=by simpa using h
  have h4:zFm d up at' e=zAi e:=by rw [zFm,if_pos h2,if_neg h3]
  rw [h4,if_neg h3]
  exact zAR (by simp) ⟨zAH rfl rfl (.inr rfl),zA7 rfl trivial (.inl rfl),rfl⟩
 have h3:zAi e=0:=by simpa using h
 obtain ⟨g6,g7,g8⟩:=zAO h3
 try simp (maxSteps:=2000000) only [go_sem]
 repeat with_reducible refine zAb ?_
 refine zAd (by rfl) trivial (fun h=>?_) (fun h=>?_)
 ·try simp (maxSteps:=2000000) only [go_sem]
  repeat with_reducible refine zAb ?_
  have h4:up < 0∨up≥d.length:=by grind
  have h5:zFm d up at' e=5:=by rw [zFm,if_pos h2,if_pos h3,if_pos h4]
  rw [h5,if_neg (by omega)]
  exact zAR (by simp) ⟨zAH rfl rfl (.inr rfl),zA7 rfl trivial (.inl rfl),rfl⟩
 have h4:¬ (up < 0∨up≥d.length):=by grind
 obtain ⟨m,rfl⟩:∃ m:Nat,up=m:=⟨up.toNat,by omega⟩
 have hm:m < d.length:=by omega
 have hb:=zAv hm
 obtain ⟨hkl,hpl⟩:=zVt hm
 try simp (maxSteps:=2000000) only [go_sem]
 repeat with_reducible refine zAb ?_
 refine zBa (by repeat' constructor) (Contract.av (yBE d m hm h7) (by first|rfl|(simp (maxSteps:=2000000) only [go_sem];done)|(simp (maxSteps:=2000000) only [go_sem];rfl))) ?_
 try simp (maxSteps:=2000000) only [go_sem]
 repeat with_reducible refine zAb ?_
 refine zAq (by repeat' constructor) (Contract.av (zE2 d m hm) (by first|rfl|(simp (maxSteps:=2000000) only [go_sem];done)|(simp (maxSteps:=2000000) only [go_sem];rfl))) ?_
 try simp (maxSteps:=2000000) only [go_sem]
 repeat with_reducible refine zAb ?_
 have hpl':(zB2 d m).length≤64:=by omega
 have happ:zBi (zB2 d m)++[[PV.v (Value.int IntKind.i64 ↑(zAc d m))]]=zBi (zA8 d m):=by simp [zA8,zBi]
 rw [happ]
 have hlp:(zA8 d m).length=(zB2 d m).length+1:=by simp [zA8]
 try simp (maxSteps:=2000000) only [go_sem]
 repeat with_reducible refine zAb ?_
 refine zAd (by rfl) trivial (fun h=>?_) (fun h=>?_)
 ·try simp (maxSteps:=2000000) only [go_sem]
  repeat with_reducible refine zAb ?_
  have h5:at' < 0∨at'≥(zA8 d (m:Int).toNat).length:=by grind
  have h6:zFm d m at' e=3:=by rw [zFm,if_pos h2,if_pos h3,if_neg h4,if_pos h5]
  rw [h6,if_neg (by omega)]
  exact zAR (by simp) ⟨zAH rfl rfl (.inr rfl),zA7 rfl trivial (.inl rfl),rfl⟩
 have h5:¬ (at' < 0∨at'≥(zA8 d (m:Int).toNat).length):=by grind
 obtain ⟨p,rfl⟩:∃ p:Nat,at'=p:=⟨at'.toNat,by omega⟩
 have hp:p < (zA8 d m).length:=by simp at h5;omega
 try simp (maxSteps:=2000000) only [go_sem]
 repeat with_reducible refine zAb ?_
 refine zAd (by rfl) trivial (fun h=>?_) (fun h=>?_)
 ·try simp (maxSteps:=2000000) only [go_sem]
  repeat with_reducible refine zAb ?_
  have h6:d.length+e.length > 64:=by simp at h;omega
  have h7:zFm d m p e=2:=by rw [zFm,if_pos h2,if_pos h3,if_neg h4,if_neg h5,if_pos h6]
  rw [h7,if_neg (by omega)]
  exact zAR (by simp) ⟨zAH rfl rfl (.inr rfl),zA7 rfl trivial (.inl rfl),rfl⟩
 have h6':¬ d.length+e.length > 64:=by simp at h;omega
 have hie:zFm d m p e=0:=by rw [zFm,if_pos h2,if_pos h3,if_neg h4,if_neg h5,if_neg h6']
 rw [hie,if_pos rfl]
 have hx:=hpl ((zA8 d m).getD p 0) (yCV (l:=zA8 d m) hp)
 obtain ⟨n,hn⟩:∃ n:Nat,(zA8 d m).getD p 0=n:=⟨((zA8 d m).getD p 0).toNat,by omega⟩
 have hdi:zBs d m p e=zAY d m n e:=by simp only [zBs,Int.toNat_natCast,hn]
 rw [hdi]
 rw [hn] at hx
 try simp (maxSteps:=2000000) only [go_sem,zDT _ _ hp,hn]
 repeat with_reducible refine zAb ?_
 have hs1:∀ x∈d.take n,x∈d:=fun x hx=>List.mem_of_mem_take hx
 have hs2:∀ x∈d.drop n,x∈d:=fun x hx=>List.mem_of_mem_drop hx
 refine zBa (by repeat' constructor) (Contract.av (zHw (d.take n) zCp [.fp [bI n],.fp [.sl 5 (zDd e)]] (fun k=>if k≥n then k+e.length else k) (by simp;omega) (fun x hx=>(zBX h8 h7 (hs1 x hx)).1) (fun x hx=>zIk x.up n e (zBX h8 h7 (hs1 x hx)).2 (by omega) (by omega))) (by first|rfl|(simp (maxSteps:=2000000) only [go_sem];done)|(simp (maxSteps:=2000000) only [go_sem];rfl))) ?_
 try simp (maxSteps:=2000000) only [go_sem]
 repeat with_reducible refine zAb ?_
 refine zBa (by repeat' constructor) (Contract.av (zHw e zDq [.fp [bI m],.fp [bI n]] (fun k=>if k < 0 then (m:Int) else k+n) (by omega) (fun x hx=>(zBX g8 g7 hx).1) (fun x hx=>zRQ x.up n m (zBX g8 g7 hx).2 (by omega))) (by first|rfl|(simp (maxSteps:=2000000) only [go_sem];done)|(simp (maxSteps:=2000000) only [go_sem];rfl))) ?_
 try simp (maxSteps:=2000000) only [go_sem]
 repeat with_reducible refine zAb ?_
 refine zBa (by repeat' constructor) (Contract.av (zHw (d.drop n) zCp [.fp [bI n],.fp [.sl 5 (zDd e)]] (fun k=>if k≥n then k+e.length else k) (by simp;omega) (fun x hx=>(zBX h8 h7 (hs2 x hx)).1) (fun x hx=>zIk x.up n e (zBX h8 h7 (hs2 x hx)).2 (by omega) (by omega))) (by first|rfl|(simp (maxSteps:=2000000) only [go_sem];done)|(simp (maxSteps:=2000000) only [go_sem];rfl))) ?_
 try simp (maxSteps:=2000000) only [go_sem]
 repeat with_reducible refine zAb ?_
 refine zBa (by repeat' constructor) (Contract.av (zEe [(d.take n).map (zBv fun k=>if k≥n then k+e.length else k),e.map (zBv fun k=>if k < 0 then (m:Int) else k+n),(d.drop n).map (zBv fun k=>if k≥n then k+e.length else k)] (by simp;omega) (by simp)) (by first|rfl|(simp (maxSteps:=2000000) only [go_sem];done)|(simp (maxSteps:=2000000) only [go_sem];rfl))) ?_
 try simp (maxSteps:=2000000) only [go_sem]
 repeat with_reducible refine zAb ?_
 exact zAR (by simp) ⟨zAH rfl rfl (.inl rfl),zA7 rfl trivial (.inl rfl),rfl⟩
end Go.Hx
end

section
set_option maxRecDepth 100000
set_option linter.unusedSimpArgs false
namespace Go.Hx
open Go.Proofs
variable [Glob] [GlobL]
attribute [local go_sem] zAh zAm zAk zAg ndV zAr atV OVal.cells zSA List.drop_succ_cons List.drop_zero List.take_succ_cons List.getD_nil zR4 zEG Nat.sub_zero List.map_nil List.map_cons
attribute [local go_sem ↓] yCn yCo
attribute [local go_sem] reduceCtorEq Nat.reduceAdd Nat.reduceEqDiff reduceIte Nat.reduceLeDiff Nat.reduceLT Nat.reduceSub
def zDa (rows:List (List PV)):List (List OV):=rows.map fun r=>r.map .p
theorem zSs (a b:List (List PV)):zDa (a++b)=zDa a++zDa b:=by simp [zDa]
theorem zFN (a:List (List PV)):(zDa a).length=a.length:=by simp [zDa]
attribute [local go_sem] zFN
theorem zHO (rows:List (List PV)) (i:Nat):(zDa rows).getD i []=(rows.getD i []).map .p:=by
 simp only [zDa,List.getD_eq_getElem?_getD,List.getElem?_map]
 cases rows[i]?<;>rfl
theorem zSt {b:Option Nat} {e k:Nat} {rows:List (List PV)}:(OV.os b e k (zDa rows)).frz=some (.sl k rows):=zVY (zGF rows)
theorem yBH (l:List Nd) (f:Nat) (caps:List PV) (g:Int→Int) (hl:l.length≤64) (hs:∀ x∈l,zVr x)
  (hg:∀ x∈l,Contract Tryz.prog f ([.val (iv x.up)]++caps.map fun c=>.val (.one c)) {res:=.val (iv (g x.up))}):
  Contract Tryz.prog zCb [.val (.one (.sl 5 (zDd l))),.val (.one (.clo f caps))] {res:=.ov (.one (.os none zAz 5 (zDa (zDd (l.map (zBv g))))))}:=by
 refine mkA zYU (base:=0) (fo rfl) (fun hfit=>?_)
 unfold F0 zSn
 simp (maxSteps:=2000000) only [zAM,List.set_cons_succ,List.set_cons_zero,List.map_cons,List.map_nil,zAL,zAa,ioOf,List.length_cons,List.length_nil,Nat.reduceAdd,Nat.reduceSub,List.replicate,List.cons_append,List.nil_append]
 try simp (maxSteps:=2000000) only [go_sem]
 repeat with_reducible refine zAb ?_
 refine zAx (fun i:Nat=>[(5,.ov (.one (.os none zAz 5 (zDa (zDd ((l.take i).map (zBv g))))))),(7,.un),(10,.pv (iv i)),(11,.un),(33,.un),(34,.un),(35,.un),(36,.un),(37,.un)]) (fun i:Nat=>l.length-i) (fun i:Nat=>i≤l.length) (0) ?_ (Nat.zero_le _) ?_
 focus (simp (maxSteps:=2000000) only [go_sem,zAn,zAw,zAJ,zAo];all_goals (repeat' (first|exact trivial|exact zAy (by omega)|exact zAu rfl|exact zAN rfl|exact zAA|exact le_refl _|refine And.intro ?_ ?_)))
 intro i hi
 try simp (maxSteps:=2000000) only [go_sem]
 repeat with_reducible refine zAb ?_
 refine zAd (by rfl) trivial (fun h=>?_) (fun h=>?_)
 ·have hlt:i < l.length:=by simpa using h
  have hmem:=zKr hlt
  obtain ⟨hs1,hs2⟩:=hs _ hmem
  try simp (maxSteps:=2000000) only [go_sem,zA4 _ _ hlt]
  repeat with_reducible refine zAb ?_
  refine zDS (by rfl) trivial (by repeat' constructor) (hg _ hmem) ?_
  try simp (maxSteps:=2000000) only [go_sem]
  repeat with_reducible refine zAb ?_
  refine zBa (by repeat' constructor) (zBO _ hs1) ?_
  try simp (maxSteps:=2000000) only [go_sem]
  repeat with_reducible refine zAb ?_
  refine zBa (by repeat' constructor) (zB3 _ hs2) ?_
  try simp (maxSteps:=2000000) only [go_sem]
  repeat with_reducible refine zAb ?_
  try simp (maxSteps:=2000000) only [go_sem,zFN]
  repeat with_reducible refine zAb ?_
  refine ⟨i+1,by omega,hlt,?_⟩
  simp (maxSteps:=2000000) only [go_sem,zAn,zAw,zAJ,zAo]
  all_goals (repeat' (first|exact trivial|exact zAy (by omega)|exact zAu rfl|exact zAN rfl|exact zAA|exact le_refl _|refine And.intro ?_ ?_))
  refine zAN ?_
  rw [zDv default hlt,zHN,zSs]
  rfl
 ·try simp (maxSteps:=2000000) only [go_sem]
  repeat with_reducible refine zAb ?_
  have:i=l.length:=by simp at h;omega
  subst this
  rw [List.take_length]
  exact yEP rfl
def zI7 (d:List Nd) (n:Nat) (x:Nd):List Nd:=d.set n {x with up:=zAS d n}
def zK2 (d:List Nd) (k:Int) (x:Nd):Int:=if zBq d k=0 then (if zA0 x then 0 else 1) else zBq d k
theorem zZn (d:List Nd):d.map (zBv fun up=>up)=d:=by
 have:(zBv fun up=>up)=id:=by funext x;rfl
 rw [this,List.map_id]
theorem yBI (d:List Nd) (k:Int) (x:Nd):Contract Tryz.prog zKQ [.val (zBE d),.val (iv k),.val (.agg (ndV x))] {res:=.tup [zBE (if zK2 d k x=0 then zI7 d k.toNat x else []),iv (zK2 d k x)]}:=by
 unfold zBE ndV
 refine mkA zY5 (base:=0) (fo rfl) (fun hfit=>?_)
 unfold F0 zSo
 simp (maxSteps:=2000000) only [zAM,List.set_cons_succ,List.set_cons_zero,List.map_cons,List.map_nil,zAL,zAa,ioOf,List.length_cons,List.length_nil,Nat.reduceAdd,Nat.reduceSub,List.replicate,List.cons_append,List.nil_append]
 try simp (maxSteps:=2000000) only [go_sem]
 repeat with_reducible refine zAb ?_
 refine zAq (by repeat' constructor) (zPM d k) ?_
 try simp (maxSteps:=2000000) only [go_sem]
 repeat with_reducible refine zAb ?_
 refine zAd (by rfl) trivial (fun h=>?_) (fun h=>?_)
 ·try simp (maxSteps:=2000000) only [go_sem]
  repeat with_reducible refine zAb ?_
  have h2:¬ zBq d k=0:=by simpa using h
  have h3:zK2 d k x=zBq d k:=by rw [zK2,if_neg h2]
  rw [h3,if_neg h2]
  exact zAR (by simp) ⟨zAH rfl rfl (.inr rfl),zA7 rfl trivial (.inl rfl),rfl⟩
 have h2:zBq d k=0:=by simpa using h
 obtain ⟨h3,h4,h5⟩:=zDX h2
 obtain ⟨h6,h7,h8⟩:=zAO h3
 obtain ⟨m,rfl⟩:∃ m:Nat,k=m:=⟨k.toNat,by omega⟩
 have hm:m < d.length:=by omega
 try simp (maxSteps:=2000000) only [go_sem]
 repeat with_reducible refine zAb ?_
 refine zAq (by repeat' constructor) (Contract.av (zKO x) (by first|rfl|(simp (maxSteps:=2000000) only [go_sem];done)|(simp (maxSteps:=2000000) only [go_sem];rfl))) ?_
 try simp (maxSteps:=2000000) only [go_sem]
 repeat with_reducible refine zAb ?_
 refine zAd (by rfl) trivial (fun h9=>?_) (fun h9=>?_)
 ·try simp (maxSteps:=2000000) only [go_sem]
  repeat with_reducible refine zAb ?_
  have h10:¬ zA0 x=true:=by simpa using h9
  have h3:zK2 d m x=1:=by rw [zK2,if_pos h2,if_neg h10]
  rw [h3,if_neg (by omega)]
  exact zAR (by simp) ⟨zAH rfl rfl (.inr rfl),zA7 rfl trivial (.inl rfl),rfl⟩
 have h10:zA0 x=true:=by simpa using h9
 have hr:zK2 d m x=0:=by rw [zK2,if_pos h2,if_pos h10]
 rw [hr,if_pos rfl]
 obtain ⟨hf1,hf2⟩:=zBu h10
 try simp (maxSteps:=2000000) only [go_sem]
 repeat with_reducible refine zAb ?_
 refine zNE (by repeat' constructor) (Contract.av (yBH d zER [] (fun up=>up) h7 (fun x hx=>(zBX h8 h7 hx).1) (fun x hx=>zZl x.up)) (by first|rfl|(simp (maxSteps:=2000000) only [go_sem];done)|(simp (maxSteps:=2000000) only [go_sem];rfl))) ?_
 try simp (maxSteps:=2000000) only [go_sem]
 repeat with_reducible refine zAb ?_
 rw [zZn]
 intro b
 try simp (maxSteps:=2000000) only [go_sem,zHO,zA4 _ _ hm]
 repeat with_reducible refine zAb ?_
 refine zBa (by repeat' constructor) (zBO _ (by omega)) ?_
 try simp (maxSteps:=2000000) only [go_sem]
 repeat with_reducible refine zAb ?_
 refine zBa (by repeat' constructor) (zB3 _ (by omega)) ?_
 try simp (maxSteps:=2000000) only [go_sem]
 repeat with_reducible refine zAb ?_
 try simp (maxSteps:=2000000) only [go_sem,zHO,zA4 _ _ hm]
 repeat with_reducible refine zAb ?_
 have e:(zDa (zDd d)).set m [OV.p (bI (d.getD m default).up),OV.p (bS x.tag),OV.p (bS x.id),OV.p (PV.sl 1 (zVD x.cls)),OV.p (PV.sl 2 (zVE x.att))]=zDa (zDd (zI7 d m x)):=by
  simp only [zDa,zDd,zI7,List.map_set]
  rfl
 rw [e,zSt]
 try simp (maxSteps:=2000000) only [go_sem]
 repeat with_reducible refine zAb ?_
 exact zAR (by simp) ⟨zAH rfl rfl (.inl rfl),zA7 rfl trivial (.inl rfl),rfl⟩
end Go.Hx
end

section
/-
 Right documents: what lies under an element are the elements right zAc it; its kids; its part. Plain Lean, no program in sight. No condition.
-/
namespace Go.Hx
variable [Glob] [GlobL]
section
variable {d:List Nd} (hd:zCm d d.length=true)
include hd
theorem yAh {k:Nat} (hk:k+1 < d.length):zAS d (k+1)∈C d k:=by
 have h:=zA5 hd hk
 simp only [zS7,yAU,Bool.and_eq_true] at h
 have h2:=h.2
 rw [if_neg (by omega)] at h2
 have h3:zAS d (k+1)∈zBr d (k+1) (((k+1:Nat):Int)-1):=by simpa using h2
 rw [show (((k+1:Nat):Int)-1)=k by omega] at h3
 unfold C
 rw [zFy d.length (k+1) k (fun j hj=>(zBB hd j (by omega)).2) (by omega) (by omega)]
 exact h3
omit hd in
theorem zPP {n:Nat}:∀ (f e:Nat),e+f=d.length→(∀ k,e≤k→k < zZj d n f e→(n:Int)≤zAS d k)∧(zZj d n f e < d.length→zAS d (zZj d n f e) < n)
 |0,e,h=>⟨fun k h1 h2=>by simp [zZj] at h2;omega,fun h2=>by simp [zZj] at h2;omega⟩
 |f+1,e,h=>by
  simp only [zZj]
  split
  ·rename_i h1
   have ih:=zPP (n:=n) f (e+1) (by omega)
   refine ⟨fun k h2 h3=>?_,ih.2⟩
   by_cases e1:k=e
   ·subst e1;exact h1
   ·exact ih.1 k (by omega) h3
  ·rename_i h1
   exact ⟨fun k h2 h3=>by omega,fun _=>by omega⟩
omit hd in
theorem zB8 {n:Nat} (hn:n < d.length) {k:Nat} (h1:n < k) (h2:k < zAc d n):(n:Int)≤zAS d k:=
 (zPP (d.length-(n+1)) (n+1) (by omega)).1 k h1 h2
omit hd in
theorem zDb {n:Nat} (hn:n < d.length) (h:zAc d n < d.length):zAS d (zAc d n) < n:=
 (zPP (d.length-(n+1)) (n+1) (by omega)).2 h
theorem zMX {n:Nat} (hn:n < d.length):∀ k,k < d.length→n < k→k < zAc d n→(n:Int)∈C d (zAS d k):=by
 refine yGn hd fun k hk ih h1 h2=>?_
 have h3:=zB8 hn h1 h2
 have hb:=zAv hn
 rcases zVb hd hk with h|⟨j,h,hj⟩
 ·omega
 ·rw [h] at h3 ⊢
  rw [zEZ hd (by omega)]
  by_cases e:n=j
  ·subst e;exact List.mem_cons_self
  ·exact List.mem_cons_of_mem _ (ih j h hj (by omega) (by omega))
theorem zXr {n:Nat} (hn:n < d.length):∀ k,k < d.length→zAc d n≤k→(n:Int)∉C d k:=by
 have hb:=zAv hn
 intro k
 induction k with
 |zero=>intro hk h1;omega
 |succ k ih=>
  intro hk h1 hx
  rw [zEZ hd hk] at hx
  rcases List.mem_cons.1 hx with e|hx
  ·omega
  ·by_cases e:zAc d n=k+1
   ·have:=zDb hn (by omega)
    rw [e] at this
    have:=yIG hd (by omega) hx
    omega
   ·exact ih (by omega) (by omega) (yJP hd k (by omega) (yAh hd hk) hx)
theorem zHP {n:Nat} (hn:n < d.length) {k:Nat} (hk:k < d.length) (h:zAc d n≤k):(n:Int)∉C d (zAS d k):=by
 intro hx
 exact zXr hd hn k hk h (by rw [zEZ hd hk];exact List.mem_cons_of_mem _ hx)
omit hd in
theorem zC3 {n:Int} {a:Nat}:∀ {b:Nat},a≤b→(∀ j,a≤j→j < b→zAS d j≠n)→zAX d n b=zAX d n a
 |0,h,_=>by rw [show a=0 by omega]
 |b+1,h,hs=>by
  by_cases e:a=b+1
  ·rw [e]
  ·rw [zCt,if_neg (hs b (by omega) (by omega)),zC3 (by omega) fun j h1 h2=>hs j h1 (by omega)]
omit hd in
theorem zCv {n i:Nat} (hn:n < d.length) (h1:n < i) (h2:i < zAc d n):zAc d i≤zAc d n:=by
 have hb:=zAv hn
 have hi:i < d.length:=by omega
 apply Classical.byContradiction
 intro h3
 have hb2:=zAv hi
 have h4:=zB8 hi (k:=zAc d n) (by omega) (by omega)
 have h5:=zDb hn (by omega)
 omega
theorem zF9 {n i:Nat} (hn:n < d.length) (h1:n < i) (h2:i < zAc d n) (h3:zAS d i=n) (h4:zAc d i < zAc d n):zAS d (zAc d i)=n:=by
 have hb:=zAv hn
 have hi:i < d.length:=by omega
 have hbi:=zAv hi
 have h5:=zB8 hn (k:=zAc d i) (by omega) h4
 have h6:=zDb hi (by omega)
 obtain ⟨p,hp⟩:∃ p,zAc d i=p+1:=⟨zAc d i-1,by omega⟩
 have h7:=yAh hd (k:=p) (by omega)
 rw [←hp] at h7
 have h8:(i:Int)∈C d p:=by
  rw [zEZ hd (by omega)]
  by_cases e:i=p
  ·subst e;exact List.mem_cons_self
  ·exact List.mem_cons_of_mem _ (zMX hd hi p (by omega) (by omega) (by omega))
 have h9:=yJQ hd p (by omega) h8 h7 h6
 rw [h3] at h9
 have:=yIG hd (by omega) h9
 omega
theorem zHx {n:Nat} (hn:n < d.length) (h:n+1 < zAc d n):zAS d (n+1)=n:=by
 have hb:=zAv hn
 have h1:=zB8 hn (k:=n+1) (by omega) h
 have h2:=zBB hd (n+1) (by omega)
 omega
theorem yEj {n:Nat} (hn:n < d.length):∀ (f i:Nat),n < i→i≤zAc d n→(i < zAc d n→zAS d i=n)→d.length≤i+f→zAX d n i++zDy d n f i=zBf d n:=by
 have hb:=zAv hn
 have hlast:zAX d n (zAc d n)=zBf d n:=by
  refine (zC3 hb.2 fun j h1 h2 e=>?_).symm
  have:=zHP hd hn h2 h1
  rw [e,zEZ hd hn] at this
  exact this List.mem_cons_self
 intro f
 induction f with
 |zero=>
  intro i h1 h2 h3 h4
  have:i=zAc d n:=by omega
  subst this
  simp [zDy,hlast]
 |succ f ih=>
  intro i h1 h2 h3 h4
  simp only [zDy]
  split
  ·rename_i h5
   have hi:i < d.length:=by omega
   have hbi:=zAv hi
   have h6:=ih (zAc d i) (by omega) (zCv hn h1 h5) (zF9 hd hn h1 h5 (h3 h5)) (by omega)
   have h7:zAX d n (zAc d i)=zAX d n (i+1):=zC3 hbi.1 fun j h7 h8=>by
    have:=zB8 hi (k:=j) (by omega) h8
    omega
   rw [←h6,h7,zCt,if_pos (h3 h5)]
   simp
  ·have:i=zAc d n:=by omega
   subst this
   simp [hlast]
theorem zCG {n:Nat} (hn:n < d.length):zB2 d n=zBf d n:=by
 have hb:=zAv hn
 have h:=yEj hd hn d.length (n+1) (by omega) (by omega) (zHx hd hn) (by omega)
 rw [zC3 (Nat.zero_le _) fun j _ h2=>by have:=zBB hd j (by omega);omega] at h
 rw [zB2,←h];simp [zAX]
def seg (d:List Nd) (off:Int) (a b:Nat):List Nd:=(List.range' a (b-a)).map fun j=>{d.getD j default with up:=zAS d j+off}
omit hd in
theorem yCW (off:Int) (a b:Nat):(seg d off a b).length=b-a:=by simp [seg]
omit hd in
theorem yGs (off:Int) {a b c:Nat} (h1:a≤b) (h2:b≤c):seg d off a b++seg d off b c=seg d off a c:=by
 unfold seg
 rw [←List.map_append]
 congr 1
 have:=List.range'_append (s:=a) (m:=b-a) (n:=c-b) (step:=1)
 rw [show a+1 * (b-a)=b by omega,show b-a+(c-b)=c-a by omega] at this
 exact this
omit hd in
theorem yEk (off:Int) {a b:Nat} (h:a < b):seg d off a b={d.getD a default with up:=zAS d a+off}::seg d off (a+1) b:=by
 unfold seg
 rw [show b-a=(b-(a+1))+1 by omega,List.range'_succ]
 rfl
omit hd in
theorem yCX (off:Int) (a:Nat):seg d off a a=[]:=by simp [seg]
theorem yEl {n:Nat} (hn:n < d.length) (f:Nat) (off:Int) (ih:∀ i,n < i→i < d.length→∀ (l:List Nd) (u:Int),(l.length:Int)=i+off→zMV (zBY d f i) l u=l++{d.getD i default with up:=u}::seg d off (i+1) (zAc d i)):
  ∀ (g i:Nat),n < i→i≤zAc d n→(i < zAc d n→zAS d i=n)→d.length≤i+g→∀ l:List Nd,(l.length:Int)=i+off→zB7 ((zDy d n g i).map fun k=>zBY d f k.toNat) l (n+off)=l++seg d off i (zAc d n):=by
 have hb:=zAv hn
 intro g
 induction g with
 |zero=>
  intro i h1 h2 h3 h4 l hl
  have:i=zAc d n:=by omega
  subst this
  simp [zDy,zB7,yCX]
 |succ g ihg=>
  intro i h1 h2 h3 h4 l hl
  simp only [zDy]
  split
  ·rename_i h5
   have hi:i < d.length:=by omega
   have hbi:=zAv hi
   have hm:=zCv hn h1 h5
   simp only [List.map_cons,zB7,Int.toNat_natCast]
   rw [ih i h1 hi l _ hl]
   have e:l++{d.getD i default with up:=(n:Int)+off}::seg d off (i+1) (zAc d i)=l++seg d off i (zAc d i):=by
    rw [yEk off hbi.1,h3 h5]
   rw [e,ihg (zAc d i) (by omega) hm (zF9 hd hn h1 h5 (h3 h5)) (by omega) _ (by rw [List.length_append,yCW];omega),List.append_assoc,yGs off (by omega) hm]
  ·have:i=zAc d n:=by omega
   subst this
   simp [zB7,yCX]
theorem zMY (off:Int):∀ (f n:Nat),n < d.length→d.length≤n+f→∀ (l:List Nd) (u:Int),(l.length:Int)=n+off→zMV (zBY d f n) l u=l++{d.getD n default with up:=u}::seg d off (n+1) (zAc d n)
 |0,n,hn,h,l,u,hl=>by omega
 |f+1,n,hn,h,l,u,hl=>by
  have hb:=zAv hn
  simp only [zBY,zMV]
  rw [←zCG hd hn,hl]
  rw [zB2,yEl hd hn f off (fun i h1 h2 l u hl=>zMY off f i h2 (by omega) l u hl) d.length (n+1) (by omega) (by omega) (zHx hd hn) (by omega) _ (by simp;omega)]
  simp
theorem zVu {n:Nat} (hn:n < d.length):szT (zBY d d.length n)=zAc d n-n:=by
 have hb:=zAv hn
 have h1:=zZ8 (zBY d d.length n) (List.replicate n default) 0
 rw [zMY hd 0 d.length n hn (by omega) (List.replicate n default) 0 (by simp)] at h1
 simp [yCW] at h1
 omega
omit hd in
theorem yAi {a b:Nat} (h:a≤b) (hb:b≤d.length):(d.take b).drop a=(List.range' a (b-a)).map fun j=>d.getD j default:=by
 apply List.ext_getElem
 ·simp;omega
 ·intro i h1 h2
  simp at h1 h2
  simp [show a+i < d.length by omega]
end
end Go.Hx
end

section
/-
 Right documents: what is left when an element is removed. Plain Lean, no program in sight. No condition.
-/
namespace Go.Hx
variable [Glob] [GlobL]
section
variable {d:List Nd} (hd:zCm d d.length=true)
include hd
theorem zXs {k:Nat} (h0:0 < k) (hk:k < d.length):0≤zAS d k:=by
 obtain ⟨j,rfl⟩:∃ j,k=j+1:=⟨k-1,by omega⟩
 exact (yIG hd (by omega) (yAh hd hk)).1
theorem zVv (h:0 < d.length):zAS d 0=-1:=by
 have:=zA5 hd h
 simp only [zS7,yAU,Bool.and_eq_true] at this
 simpa using this.2
theorem zI9 (h:0 < d.length):zAc d 0=d.length:=by
 have hb:=zAv h
 apply Classical.byContradiction
 intro hne
 have h1:=zDb h (by omega)
 have h2:=zXs hd (k:=zAc d 0) (by omega) (by omega)
 omega
def pos (d:List Nd) (n:Nat) (j:Int):Int:=if j≥zAc d n then j-zAc d n+n else j
def zP3 (d:List Nd) (n a b:Nat):List Nd:=((List.range' a (b-a)).filter fun j=>decide (j < n)||decide (zAc d n≤j)).map fun j=>{d.getD j default with up:=pos d n (zAS d j)}
omit hd in
theorem zHQ (n:Nat) {a b c:Nat} (h1:a≤b) (h2:b≤c):zP3 d n a b++zP3 d n b c=zP3 d n a c:=by
 unfold zP3
 rw [←List.map_append,←List.filter_append]
 congr 2
 have:=List.range'_append (s:=a) (m:=b-a) (n:=c-b) (step:=1)
 rw [show a+1 * (b-a)=b by omega,show b-a+(c-b)=c-a by omega] at this
 exact this
omit hd in
theorem yAj (n a:Nat):zP3 d n a a=[]:=by simp [zP3]
omit hd in
theorem zXt {n a b:Nat} (h:a < b) (hk:a < n∨zAc d n≤a):zP3 d n a b={d.getD a default with up:=pos d n (zAS d a)}::zP3 d n (a+1) b:=by
 unfold zP3
 rw [show b-a=(b-(a+1))+1 by omega,List.range'_succ,List.filter_cons_of_pos (by simpa using hk)]
 rfl
omit hd in
theorem zPQ (n:Nat):zP3 d n n (zAc d n)=[]:=by
 unfold zP3
 rw [List.map_eq_nil_iff,List.filter_eq_nil_iff]
 intro j hj
 rw [List.mem_range'_1] at hj
 simp;omega
omit hd in
theorem zVw {n a b:Nat} (h:b≤n∨zAc d n≤a):zP3 d n a b=(List.range' a (b-a)).map fun j=>{d.getD j default with up:=pos d n (zAS d j)}:=by
 unfold zP3
 congr 1
 rw [List.filter_eq_self]
 intro j hj
 rw [List.mem_range'_1] at hj
 simp;omega
omit hd in
theorem yEm {n a b:Nat} (hn:n < d.length) (hab:a≤b) (ha:a≤n∨zAc d n≤a) (hb:b≤n∨zAc d n≤b):((zP3 d n a b).length:Int)=pos d n b-pos d n a:=by
 have hbn:=zAv hn
 have h1:∀ {a b:Nat},a≤b→(b≤n∨zAc d n≤a)→(zP3 d n a b).length=b-a:=by
  intro a b _ h
  rw [zVw h];simp
 unfold pos
 by_cases c1:b≤n
 ·rw [h1 hab (.inl c1),if_neg (by omega),if_neg (by omega)];omega
 ·by_cases c2:zAc d n≤a
  ·rw [h1 hab (.inr c2),if_pos (by omega),if_pos (by omega)];omega
  ·have c3:a≤n:=by omega
   have c4:zAc d n≤b:=by omega
   rw [←zHQ n c3 (by omega:n≤b),←zHQ n (by omega:n≤zAc d n) c4,zPQ,List.length_append,List.nil_append,h1 c3 (.inl (Nat.le_refl _)),h1 c4 (.inr (Nat.le_refl _)),if_pos (by omega),if_neg (by omega)]
   omega
theorem yEn {n k:Nat} (hn:n < d.length) (hk:k < d.length) (hkept:k < n∨zAc d n≤k) (f:Nat) (hkf:d.length≤k+(f+1))
  (ih:∀ i,k < i→i < d.length→(i < n∨zAc d n≤i)→∀ (l:List Nd) (u:Int),(l.length:Int)=pos d n i→zMV (yDf (zBS d f i) n) l u=l++{d.getD i default with up:=u}::zP3 d n (i+1) (zAc d i)):
  ∀ (g i:Nat),k < i→i≤zAc d k→(i < zAc d k→zAS d i=k)→d.length≤i+g→∀ l:List Nd,(l.length:Int)=pos d n i→zB7 (zGv ((zDy d k g i).map fun j=>zBS d f j.toNat) n) l (pos d n k)=l++zP3 d n i (zAc d k):=by
 have hb:=zAv hk
 have hbn:=zAv hn
 intro g
 induction g with
 |zero=>
  intro i h1 h2 h3 h4 l hl
  have:i=zAc d k:=by omega
  subst this
  simp [zDy,zGv,zB7,yAj]
 |succ g ihg=>
  intro i h1 h2 h3 h4 l hl
  simp only [zDy]
  split
  ·rename_i h5
   have hi:i < d.length:=by omega
   have hbi:=zAv hi
   have hm:=zCv hk h1 h5
   have hup:=h3 h5
   have hnk:=zF9 hd hk h1 h5 hup
   simp only [List.map_cons,zGv,Int.toNat_natCast]
   have hf:((zBS d f i).nd.up=(n:Int))↔i=n:=by
    have:(zBS d f i).nd.up=(i:Int):=yD6 d f i (by omega)
    rw [this];omega
   by_cases e:i=n
   ·rw [if_pos (hf.2 e)]
    subst e
    rw [ihg (zAc d i) (by omega) hm hnk (by omega) l (by rw [hl];unfold pos;rw [if_neg (by omega),if_pos (by omega)];omega)]
    rw [←zHQ i (by omega:i≤zAc d i) hm,zPQ,List.nil_append]
   ·rw [if_neg (fun h=>e (hf.1 h))]
    have hik:i < n∨zAc d n≤i:=by
     apply Classical.byContradiction
     intro hc
     have:=zB8 hn (k:=i) (by omega) (by omega)
     omega
    have hbik:zAc d i≤n∨zAc d n≤zAc d i:=by
     apply Classical.byContradiction
     intro hc
     have h6:zAc d i < zAc d n:=by omega
     have h7:=zB8 hn (k:=zAc d i) (by omega) h6
     have h8:=zDb hi (by omega)
     omega
    simp only [zB7]
    rw [ih i h1 hi hik l _ hl]
    have e2:l++{d.getD i default with up:=pos d n k}::zP3 d n (i+1) (zAc d i)=l++zP3 d n i (zAc d i):=by
     rw [zXt hbi.1 hik,hup]
    have hlen:=yEm hn (Nat.le_of_lt hbi.1) (by omega:i≤n∨zAc d n≤i) hbik
    rw [e2,ihg (zAc d i) (by omega) hm hnk (by omega) _ (by rw [List.length_append];omega),List.append_assoc,zHQ n (by omega) hm]
  ·have:i=zAc d k:=by omega
   subst this
   simp [zGv,zB7,yAj]
theorem yAk {n:Nat} (hn:n < d.length):∀ (f k:Nat),k < d.length→d.length≤k+f→(k < n∨zAc d n≤k)→∀ (l:List Nd) (u:Int),(l.length:Int)=pos d n k→zMV (yDf (zBS d f k) n) l u=l++{d.getD k default with up:=u}::zP3 d n (k+1) (zAc d k)
 |0,k,hk,h,_,l,u,hl=>by omega
 |f+1,k,hk,h,hkept,l,u,hl=>by
  have hb:=zAv hk
  have hbn:=zAv hn
  simp only [zBS,yDf,zMV]
  rw [←zCG hd hk,hl]
  rw [zB2,yEn hd hn hk hkept f h (fun i h1 h2 h3 l u hl=>yAk hn f i h2 (by omega) h3 l u hl) d.length (k+1) (by omega) (by omega) (zHx hd hk) (by omega) _ (by
   simp only [List.length_append,List.length_cons,List.length_nil]
   unfold pos at hl ⊢
   split at hl<;>split<;>omega)]
  simp
theorem zXu {n:Nat} (h0:0 < n) (hn:n < d.length):zBA d n=yIF d n:=by
 have hbn:=zAv hn
 have hb0:=zI9 hd (by omega)
 rw [yIF,show (0:Nat)=(0:Nat) from rfl,yAk hd hn d.length 0 (by omega) (by omega) (.inl h0) [] (-1) (by unfold pos;rw [if_neg (by omega)];rfl),List.nil_append,hb0]
 have e:({d.getD 0 default with up:=-1}:Nd)::zP3 d n 1 d.length=zP3 d n 0 d.length:=by
  rw [zXt (by omega) (.inl h0),zVv hd (by omega)]
  unfold pos
  rw [if_neg (by omega)]
 rw [e,←zHQ n (Nat.zero_le n) (by omega:n≤d.length),←zHQ n (by omega:n≤zAc d n) hbn.2,zPQ,List.nil_append,zVw (.inl (Nat.le_refl _)),zVw (.inr (Nat.le_refl _))]
 have c1:=yAi (d:=d) (Nat.zero_le n) (Nat.le_of_lt hn)
 have c2:=yAi (d:=d) hbn.2 (Nat.le_refl _)
 rw [List.drop_zero] at c1
 rw [List.take_length] at c2
 rw [zBA,c1,c2]
 simp only [List.flatten_cons,List.flatten_nil,List.append_nil,List.map_map]
 rfl
omit hd in
theorem zVx:∀ (f n:Nat),szT (zBS d f n)=szT (zBY d f n)
 |0,n=>rfl
 |f+1,n=>by
  have h:∀ ks:List Int,zJc (ks.map fun k=>zBS d f k.toNat)=zJc (ks.map fun k=>zBY d f k.toNat):=by
   intro ks
   induction ks with
   |nil=>rfl
   |cons k ks ih=>simp only [List.map_cons,zJc];rw [zVx f,ih]
  simp only [zBS,zBY,szT]
  rw [h]
end
end Go.Hx
end

section
/-
 Right documents: what was inserted is the part there, and removed again leaves the document as it was; what was removed and inserted again leaves it as it was. Plain Lean, no program in sight. No condition.
-/
namespace Go.Hx
variable [Glob] [GlobL]
inductive Anc (u:Nat→Int):Nat→Nat→Prop
 |refl (k:Nat):Anc u k k
 |up {k j x:Nat}:u k=(j:Int)→Anc u j x→Anc u k x
section
variable {u v w:Nat→Int}
theorem Anc.trans {a b c:Nat} (h:Anc u a b) (k:Anc u b c):Anc u a c:=by
 induction h with
 |refl _=>exact k
 |up e _ ih=>exact .up e (ih k)
def Ups (u:Nat→Int) (n:Nat):Prop:=(0 < n→u 0=-1)∧∀ i,i+1 < n→∃ p:Nat,u (i+1)=p∧Anc u i p
theorem Ups.both {n:Nat} (h:Ups u n):∀ k,k < n→(-1≤u k∧u k < k)∧∀ p,Anc u k p→p≤k:=by
 intro k
 induction k using Nat.strongRecOn with
 |ind k ih=>
  intro hk
  have h1:-1≤u k∧u k < k:=by
   cases k with
   |zero=>have:=h.1 hk;omega
   |succ k=>
    obtain ⟨p,e,hp⟩:=h.2 k hk
    have:=(ih k (by omega) (by omega)).2 p hp
    omega
  refine ⟨h1,fun p hp=>?_⟩
  cases hp with
  |refl _=>exact Nat.le_refl _
  |up e hp=>
   rename_i j
   have:=(ih j (by omega) (by omega)).2 p hp
   omega
theorem Ups.lt {n k:Nat} (h:Ups u n) (hk:k < n):-1≤u k∧u k < k:=(h.both k hk).1
theorem Ups.le {n k p:Nat} (h:Ups u n) (hk:k < n) (hp:Anc u k p):p≤k:=(h.both k hk).2 p hp
theorem Ups.root {n:Nat} (h:Ups u n):∀ k,k < n→Anc u k 0:=by
 intro k
 induction k using Nat.strongRecOn with
 |ind k ih=>
  intro hk
  cases k with
  |zero=>exact .refl _
  |succ k=>
   obtain ⟨p,e,hp⟩:=h.2 k hk
   have:=h.le (by omega) hp
   exact .up e (ih p (by omega) (by omega))
theorem Ups.two {n:Nat} (h:Ups u n) {a b c:Nat} (h1:Anc u a b):a < n→Anc u a c→c≤b→Anc u b c:=by
 induction h1 with
 |refl _=>intro _ h2 _;exact h2
 |@up k j x e h3 ih=>
  intro ha h2 hc
  have hl:=h.lt ha
  have hx:=h.le (k:=j) (by omega) h3
  cases h2 with
  |refl _=>omega
  |up e2 h4=>
   rename_i j2
   have:j=j2:=by omega
   subst this
   exact ih (by omega) h4 hc
theorem zKs {d:List Nd}:∀ (f k:Nat),(∀ j:Nat,j≤k→zAS d j < j)→k < f→∀ x:Int,x∈zBr d f k↔∃ y:Nat,x=y∧Anc (zAS d) k y
 |0,k,_,h,_=>by omega
 |f+1,k,hd,h,x=>by
  simp only [zBr,Int.toNat_natCast]
  rw [if_neg (by omega),List.mem_cons]
  have hk:=hd k (Nat.le_refl _)
  by_cases hn:zAS d k < 0
  ·have e:zBr d f (zAS d k)=[]:=by cases f<;>simp [zBr,hn]
   rw [e]
   constructor
   ·rintro (rfl|h1)
    ·exact ⟨k,rfl,.refl _⟩
    ·cases h1
   ·rintro ⟨y,rfl,hy⟩
    cases hy with
    |refl _=>exact .inl rfl
    |up e2 _=>omega
  ·obtain ⟨j,hj⟩:∃ j:Nat,zAS d k=j:=⟨(zAS d k).toNat,by omega⟩
   rw [hj,zKs f j (fun i hi=>hd i (by omega)) (by omega) x]
   constructor
   ·rintro (rfl|⟨y,rfl,hy⟩)
    ·exact ⟨k,rfl,.refl _⟩
    ·exact ⟨y,rfl,.up hj hy⟩
   ·rintro ⟨y,rfl,hy⟩
    cases hy with
    |refl _=>exact .inl rfl
    |up e2 h2=>
     have e3:=hj.symm.trans e2
     rw [Int.natCast_inj] at e3
     subst e3
     exact .inr ⟨y,rfl,h2⟩
theorem zXv {d:List Nd}:zCm d d.length=true↔(∀ x∈d,zA0 x=true)∧Ups (zAS d) d.length:=by
 constructor
 ·intro h
  refine ⟨fun x hx=>?_,fun h0=>?_,fun i hi=>?_⟩
  ·obtain ⟨i,hi,rfl⟩:=List.mem_iff_getElem.1 hx
   have:=zA5 h hi
   simp only [zS7,Bool.and_eq_true] at this
   simpa [hi] using this.1
  ·exact zVv h h0
  ·have h1:=yAh h hi
   unfold C at h1
   rw [zKs _ _ (fun j hj=>(zBB h j (by omega)).2) (by omega)] at h1
   exact h1
 ·rintro ⟨h1,h2⟩
  refine List.all_eq_true.2 fun i hi=>?_
  have hi:=List.mem_range.1 hi
  simp only [zS7,Bool.and_eq_true,yAU]
  refine ⟨h1 _ (zKr hi),?_⟩
  split
  ·rename_i e
   subst e
   simp [h2.1 hi]
  ·obtain ⟨j,rfl⟩:∃ j,i=j+1:=⟨i-1,by omega⟩
   obtain ⟨p,hp,ha⟩:=h2.2 j hi
   have:=(zKs (d:=d) (j+1) j (fun i hi=>(h2.lt (by omega)).2) (by omega) (zAS d (j+1))).2 ⟨p,hp,ha⟩
   rw [show (((j+1:Nat):Int)-1)=j by omega]
   simpa using this
theorem zBo {d:List Nd}:zAi d=0↔(1≤d.length∧d.length≤64)∧(∀ x∈d,zA0 x=true)∧Ups (zAS d) d.length:=by
 rw [←zXv,zAi]
 split
 ·rename_i h
  split
  ·rename_i h2;exact ⟨fun _=>⟨h,h2⟩,fun _=>rfl⟩
  ·rename_i h2;exact ⟨fun h=>(by cases h),fun h3=>absurd h3.2 h2⟩
 ·rename_i h;exact ⟨fun h=>(by cases h),fun h3=>absurd h3.1 h⟩
theorem yGt {d:List Nd} (hd:zCm d d.length=true) {k:Nat} (hk:k < d.length) {x:Nat}:(x:Int)∈C d k↔Anc (zAS d) k x:=by
 unfold C
 rw [zKs _ _ (fun j hj=>(zBB hd j (by omega)).2) hk]
 constructor
 ·rintro ⟨y,e,h⟩
  rw [Int.natCast_inj] at e
  subst e;exact h
 ·intro h;exact ⟨x,rfl,h⟩
theorem zSu {d:List Nd} {k:Int}:zBq d k=0↔zAi d=0∧0≤k∧k < d.length:=by
 unfold zBq
 split
 ·split<;>omega
 ·rename_i h;simp [h]
theorem Ups.ins {N E n k:Nat} (hu:Ups u N) (hv:Ups v E) (hE:0 < E) (hn:n≤N) (hk:k < n) (ha:Anc u (n-1) k) (hs:n < N→u n≤k)
  (w1:∀ i,i < n→w i=u i) (w2:w n=k) (w3:∀ j,0 < j→j < E→w (n+j)=v j+n) (w4:∀ i,n≤i→i < N→w (i+E)=if u i≥n then u i+E else u i):Ups w (N+E):=by
 have a1:∀ {i p},Anc u i p→i < n→Anc w i p:=by
  intro i p h
  induction h with
  |refl _=>intro _;exact .refl _
  |@up i j x e _ ih=>
   intro hi
   have:=hu.lt (k:=i) (Nat.lt_of_lt_of_le hi hn)
   exact .up ((w1 _ hi).trans e) (ih (by omega))
 have a2:∀ {j q},Anc v j q→j < E→Anc w (n+j) (n+q):=by
  intro j q h
  induction h with
  |refl _=>intro _;exact .refl _
  |@up k' j' x e _ ih=>
   intro hj
   have h0:=hv.lt hj
   have:0 < k':=by
    rcases Nat.eq_zero_or_pos k' with e0|e0
    ·subst e0;have:=hv.1 hE;omega
    ·exact e0
   exact .up (j:=n+j') (by rw [w3 _ this hj];omega) (ih (by omega))
 have a3:∀ {j q},j < E→Anc u k q→Anc w (n+j) q:=fun hj hq=>((a2 (hv.root _ hj) hj).trans (.up w2 (.refl _))).trans (a1 hq hk)
 have a4:∀ {i p},Anc u i p→i < N→Anc w (if i≥n then i+E else i) (if p≥n then p+E else p):=by
  intro i p h
  induction h with
  |refl _=>intro _;exact .refl _
  |@up i j x e _ ih=>
   intro hi
   have hl:=hu.lt hi
   refine .up ?_ (ih (by omega))
   by_cases h1:i≥n
   ·rw [if_pos h1,w4 i h1 hi,e]
    by_cases h2:j≥n
    ·rw [if_pos (by omega),if_pos h2];omega
    ·rw [if_neg (by omega),if_neg h2]
   ·rw [if_neg h1,w1 i (by omega),e,if_neg (by omega)]
 refine ⟨fun _=>by rw [w1 0 (by omega)];exact hu.1 (by omega),fun i hi=>?_⟩
 rcases Nat.lt_trichotomy (i+1) n with h1|h1|h1
 ·obtain ⟨p,e,hp⟩:=hu.2 i (by omega)
  exact ⟨p,(w1 _ h1).trans e,a1 hp (by omega)⟩
 ·refine ⟨k,by rw [h1];exact w2,?_⟩
  have:n-1=i:=by omega
  rw [this] at ha
  exact a1 ha (by omega)
 ·rcases Nat.lt_trichotomy (i+1) (n+E) with h2|h2|h2
  ·obtain ⟨j,rfl⟩:∃ j,i=n+j:=⟨i-n,by omega⟩
   obtain ⟨p,e,hp⟩:=hv.2 j (by omega)
   refine ⟨n+p,?_,a2 hp (by omega)⟩
   rw [show n+j+1=n+(j+1) by omega,w3 _ (by omega) (by omega),e];omega
  ·have hnN:n < N:=by omega
   obtain ⟨m,rfl⟩:∃ m,n=m+1:=⟨n-1,by omega⟩
   obtain ⟨p,e,hp⟩:=hu.2 m hnN
   have hm:=hu.le (by omega) hp
   have hs:=hs hnN
   refine ⟨p,?_,?_⟩
   ·rw [h2,w4 _ (Nat.le_refl _) hnN,e,if_neg (by omega)]
   ·rw [show i=m+1+(E-1) by omega]
    exact a3 (by omega) (hu.two ha (by omega) hp (by omega))
  ·obtain ⟨j,rfl⟩:∃ j,i=j+E:=⟨i-E,by omega⟩
   obtain ⟨p,e,hp⟩:=hu.2 j (by omega)
   refine ⟨if p≥n then p+E else p,?_,?_⟩
   ·rw [show j+E+1=j+1+E by omega,w4 _ (by omega) (by omega),e]
    by_cases h3:p≥n
    ·rw [if_pos (by omega),if_pos h3];omega
    ·rw [if_neg (by omega),if_neg h3]
   ·have:=a4 hp (by omega)
    rw [if_pos (by omega)] at this
    exact this
theorem Ups.rem {N n b:Nat} (hu:Ups u N) (h0:0 < n) (hn:n < b) (hb:b≤N) (hin:∀ i,n < i→i < b→Anc u i n) (hout:b < N→u b < n) (hreg:∀ k j:Nat,b≤k→k < N→u k=j→j < n∨b≤j)
  (w1:∀ i,i < n→w i=u i) (w2:∀ i,n≤i→i+(b-n) < N→w i=if u (i+(b-n))≥b then u (i+(b-n))-b+n else u (i+(b-n))):Ups w (N-(b-n)):=by
 have a1:∀ {i p},Anc u i p→i < n→Anc w i p:=by
  intro i p h
  induction h with
  |refl _=>intro _;exact .refl _
  |@up i j x e _ ih=>
   intro hi
   have:=hu.lt (k:=i) (Nat.lt_trans hi (Nat.lt_of_lt_of_le hn hb))
   exact .up ((w1 _ hi).trans e) (ih (by omega))
 have a4:∀ {i p},Anc u i p→i < N→b≤i→(p < n∨b≤p)→Anc w (i-(b-n)) (if p≥b then p-(b-n) else p):=by
  intro i p h
  induction h with
  |refl _=>intro h1 h2 h3;rw [if_pos h2];exact .refl _
  |@up i j x e h4 ih=>
   intro hi h2 h3
   have hl:=hu.lt hi
   have hx:=hu.le (k:=j) (by omega) h4
   have hw:=w2 (i-(b-n)) (by omega) (by omega)
   rw [show i-(b-n)+(b-n)=i by omega,e] at hw
   rcases hreg i j h2 hi e with h5|h5
   ·rw [if_neg (by omega)] at hw
    rw [if_neg (by omega)]
    exact .up hw (a1 h4 h5)
   ·rw [if_pos (by omega)] at hw
    exact .up (j:=j-(b-n)) (by omega) (ih (by omega) h5 h3)
 refine ⟨fun _=>by rw [w1 0 h0];exact hu.1 (by omega),fun i hi=>?_⟩
 rcases Nat.lt_trichotomy (i+1) n with h1|h1|h1
 ·obtain ⟨p,e,hp⟩:=hu.2 i (by omega)
  exact ⟨p,(w1 _ h1).trans e,a1 hp (by omega)⟩
 ·obtain ⟨c,rfl⟩:∃ c,b=c+1:=⟨b-1,by omega⟩
  subst h1
  obtain ⟨q,e,hq⟩:=hu.2 c (by omega)
  have ho:=hout (by omega)
  have hci:Anc u c (i+1):=by
   rcases Nat.lt_or_ge (i+1) c with h2|h2
   ·exact hin c h2 (by omega)
   ·have:c=i+1:=by omega
    subst this;exact .refl _
  have h3:=hu.two hci (by omega) hq (by omega)
  have h4:Anc u i q:=by
   cases h3 with
   |refl _=>omega
   |up e3 h5=>
    obtain ⟨k,e4,hk⟩:=hu.2 i (by omega)
    have e5:=e4.symm.trans e3
    rw [Int.natCast_inj] at e5
    subst e5
    exact hk.trans h5
  refine ⟨q,?_,a1 h4 (by omega)⟩
  have hw:=w2 (i+1) (Nat.le_refl _) (by omega)
  rw [show i+1+(c+1-(i+1))=c+1 by omega,e,if_neg (by omega)] at hw
  exact hw
 ·obtain ⟨q,e,hq⟩:=hu.2 (i+(b-n)) (by omega)
  have h2:=hreg _ q (by omega) (by omega) e
  have h3:=a4 hq (by omega) (by omega) h2
  rw [show i+(b-n)-(b-n)=i by omega] at h3
  refine ⟨_,?_,h3⟩
  have hw:=w2 (i+1) (by omega) (by omega)
  rw [show i+1+(b-n)=i+(b-n)+1 by omega,e] at hw
  rw [hw]
  by_cases h4:q≥b
  ·rw [if_pos (by omega),if_pos h4];omega
  ·rw [if_neg (by omega),if_neg h4]
theorem Ups.part {N n b:Nat} (hu:Ups u N) (hn:n < b) (hb:b≤N) (hin:∀ i,n < i→i < b→(n:Int)≤u i)
  (w1:∀ j,n+j < b→w j=max (u (n+j)-n) (-1)):Ups w (b-n):=by
 have a5:∀ {i q},Anc u i q→n≤q→i < b→Anc w (i-n) (q-n):=by
  intro i q h
  induction h with
  |refl _=>intro _ _;exact .refl _
  |@up i j x e h4 ih=>
   intro h1 h2
   have hl:=hu.lt (k:=i) (by omega)
   have hx:=hu.le (k:=j) (by omega) h4
   refine .up (j:=j-n) ?_ (ih h1 (by omega))
   rw [w1 (i-n) (by omega),show n+(i-n)=i by omega,e]
   omega
 refine ⟨fun _=>?_,fun i hi=>?_⟩
 ·have:=hu.lt (k:=n) (by omega)
  rw [w1 0 (by omega),Nat.add_zero]
  omega
 ·obtain ⟨q,e,hq⟩:=hu.2 (n+i) (by omega)
  have h1:=hin (n+i+1) (by omega) (by omega)
  refine ⟨q-n,?_,?_⟩
  ·rw [w1 (i+1) (by omega),←Nat.add_assoc,e];omega
  ·have:=a5 hq (by omega) (by omega)
   rw [show n+i-n=i by omega] at this
   exact this
end
end Go.Hx
end

section
/-
 Right documents, on lists: insert, then part and remove; remove, then insert. Plain Lean, no program in sight. No condition.
-/
namespace Go.Hx
variable [Glob] [GlobL]
theorem zGa {a b:List Nd} {i:Nat}:zAS (a++b) i=if i < a.length then zAS a i else zAS b (i-a.length):=by
 unfold zAS
 split
 ·rename_i h
  rw [List.getD_eq_getElem?_getD,List.getElem?_append_left h,←List.getD_eq_getElem?_getD]
 ·rename_i h
  rw [List.getD_eq_getElem?_getD,List.getElem?_append_right (by omega),←List.getD_eq_getElem?_getD]
theorem zKt {g:Int→Int} {l:List Nd} {i:Nat} (h:i < l.length):zAS (l.map (zBv g)) i=g (zAS l i):=by
 simp [zAS,h,zBv]
theorem zPR {d:List Nd} {n i:Nat} (h:i < n):zAS (d.take n) i=zAS d i:=by
 simp [zAS,h]
theorem zXw {d:List Nd} {n i:Nat}:zAS (d.drop n) i=zAS d (n+i):=by
 simp [zAS,List.getElem?_drop]
theorem zPS {f g:Int→Int} {l:List Nd} (h:∀ x∈l,f (g x.up)=x.up):(l.map (zBv g)).map (zBv f)=l:=by
 rw [List.map_map]
 refine (List.map_congr_left fun x hx=>?_).trans (List.map_id l)
 simp only [Function.comp,zBv,h x hx,id]
theorem yES {d:List Nd} {x:Nd} (h:x∈d):∃ i,i < d.length∧x.up=zAS d i:=by
 obtain ⟨i,hi,rfl⟩:=List.mem_iff_getElem.1 h
 exact ⟨i,hi,by simp [zAS,hi]⟩
theorem zZp {d:List Nd} {n:Nat} {x:Nd} (h:x∈d.take n):∃ i,i < n∧i < d.length∧x.up=zAS d i:=by
 obtain ⟨i,hi,e⟩:=yES h
 rw [List.length_take] at hi
 rw [zPR (by omega)] at e
 exact ⟨i,by omega,by omega,e⟩
theorem zHy {g:Int→Int} {l:List Nd} (h:∀ x∈l,zA0 x=true):∀ x∈l.map (zBv g),zA0 x=true:=by
 intro x hx
 obtain ⟨y,hy,rfl⟩:=List.mem_map.1 hx
 exact h y hy
theorem zZq {d:List Nd} {n m:Nat} (h1:n < m) (h2:m≤d.length) (h3:∀ k,n < k→k < m→(n:Int)≤zAS d k) (h4:m < d.length→zAS d m < n):zAc d n=m:=by
 have hn:n < d.length:=by omega
 have hb:=zAv hn
 rcases Nat.lt_trichotomy (zAc d n) m with h|h|h
 ·have:=zDb hn (by omega)
  have:=h3 _ hb.1 h
  omega
 ·exact h
 ·have:=zB8 hn h1 h
  have:=h4 (by omega)
  omega
theorem zSv {d:List Nd} {n:Int} {a b:Nat} (h:a≤b):∃ r,zAX d n b=zAX d n a++r:=by
 induction b with
 |zero=>exact ⟨[],by rw [show a=0 by omega];simp⟩
 |succ b ih=>
  by_cases e:a=b+1
  ·exact ⟨[],by rw [e];simp⟩
  ·obtain ⟨r,hr⟩:=ih (by omega)
   rw [zCt,hr]
   split
   ·exact ⟨r++[(b:Int)],by simp⟩
   ·exact ⟨r,rfl⟩
theorem zPT {d:List Nd} {n:Int}:∀ (b at':Nat),at' < (zAX d n b).length→∃ m:Nat,(zAX d n b).getD at' 0=m∧zAS d m=n∧m < b∧(zAX d n m).length=at'
 |0,at',h=>by simp [zAX] at h
 |b+1,at',h=>by
  rw [zCt] at h ⊢
  split
  ·rename_i h1
   rw [if_pos h1] at h
   by_cases h2:at' < (zAX d n b).length
   ·obtain ⟨m,e1,e2,e3,e4⟩:=zPT b at' h2
    refine ⟨m,?_,e2,by omega,e4⟩
    rw [List.getD_eq_getElem?_getD,List.getElem?_append_left h2,←List.getD_eq_getElem?_getD,e1]
   ·rw [List.length_append,List.length_singleton] at h
    have h3:at'=(zAX d n b).length:=by omega
    subst h3
    exact ⟨b,by simp,h1,by omega,rfl⟩
  ·rename_i h1
   rw [if_neg h1] at h
   obtain ⟨m,e1,e2,e3,e4⟩:=zPT b at' h
   exact ⟨m,e1,e2,by omega,e4⟩
theorem zZr {d e:List Nd} {n:Int} {a:Nat} (h:∀ i,i < a→zAS d i=zAS e i):zAX d n a=zAX e n a:=by
 unfold zAX
 congr 1
 refine List.filter_congr fun i hi=>?_
 rw [h i (List.mem_range.1 hi)]
section
variable {d:List Nd} (hd:zCm d d.length=true)
include hd
theorem zIl {k:Nat} (hk:k < d.length):zAX d k (zAc d k)=zBf d k:=by
 have hb:=zAv hk
 refine (zC3 hb.2 fun j h1 h2 e=>?_).symm
 have:=zHP hd hk h2 h1
 rw [e,zEZ hd hk] at this
 exact this List.mem_cons_self
theorem yAl {k at':Nat} (hk:k < d.length) (h:at' < (zA8 d k).length):∃ n:Nat,(zA8 d k).getD at' 0=n∧k < n∧n≤d.length∧Anc (zAS d) (n-1) k∧(n < d.length→zAS d n≤k)∧(zAX d k n).length=at':=by
 have hb:=zAv hk
 have hu:=(zXv.1 hd).2
 have key:∀ n,k < n→n≤zAc d k→Anc (zAS d) (n-1) k:=by
  intro n h1 h2
  rw [←yGt hd (by omega)]
  rcases Nat.lt_or_ge k (n-1) with h3|h3
  ·rw [zEZ hd (by omega)]
   exact List.mem_cons_of_mem _ (zMX hd hk (n-1) (by omega) h3 (by omega))
  ·have:n-1=k:=by omega
   rw [this,zEZ hd hk]
   exact List.mem_cons_self
 unfold zA8 at h ⊢
 rw [zCG hd hk] at h ⊢
 by_cases h1:at' < (zBf d k).length
 ·obtain ⟨m,e1,e2,e3,e4⟩:=zPT d.length at' h1
  rw [List.getD_eq_getElem?_getD,List.getElem?_append_left h1,←List.getD_eq_getElem?_getD]
  have hm:=hu.lt e3
  have hmb:m < zAc d k:=by
   apply Classical.byContradiction
   intro hc
   have:=zHP hd hk e3 (by omega)
   rw [e2,zEZ hd hk] at this
   exact this List.mem_cons_self
  exact ⟨m,e1,by omega,by omega,key m (by omega) (by omega),fun _=>by omega,e4⟩
 ·rw [List.length_append,List.length_singleton] at h
  have h2:at'=(zBf d k).length:=by omega
  subst h2
  refine ⟨zAc d k,by simp,hb.1,hb.2,key _ hb.1 (Nat.le_refl _),fun h3=>?_,by rw [zIl hd hk]⟩
  have:=zDb hk h3
  omega
end
section
variable {d e:List Nd} {n k:Nat}
theorem zHz:zAY d k n e=(d.take n).map (zBv fun j=>if j≥n then j+e.length else j)++(e.map (zBv fun j=>if j < 0 then (k:Int) else j+n)++(d.drop n).map (zBv fun j=>if j≥n then j+e.length else j)):=by
 simp [zAY]
theorem zPU (hn:n≤d.length):(zAY d k n e).length=d.length+e.length:=by
 rw [zHz];simp;omega
theorem yCY (hu:Ups (zAS d) d.length) (hn:n≤d.length) {i:Nat} (h:i < n):zAS (zAY d k n e) i=zAS d i:=by
 rw [zHz,zGa,if_pos (by simp;omega),zKt (by simp;omega),zPR h]
 have:=hu.lt (k:=i) (by omega)
 rw [if_neg (by omega)]
theorem zVy (hn:n≤d.length) {j:Nat} (h:j < e.length):zAS (zAY d k n e) (n+j)=if zAS e j < 0 then (k:Int) else zAS e j+n:=by
 rw [zHz,zGa,if_neg (by simp;omega),zGa,if_pos (by simp;omega),zKt (by simp;omega)]
 simp only [List.length_map,List.length_take]
 rw [show n+j-min n d.length=j by omega]
theorem yCZ (hn:n≤d.length) {i:Nat} (h1:n≤i) (h2:i < d.length):zAS (zAY d k n e) (i+e.length)=if zAS d i≥n then zAS d i+e.length else zAS d i:=by
 rw [zHz,zGa,if_neg (by simp;omega),zGa,if_neg (by simp;omega)]
 simp only [List.length_map,List.length_take]
 rw [zKt (by simp;omega),zXw,show n+(i+e.length-min n d.length-e.length)=i by omega]
theorem yIp (hd:zAi d=0) (he:zAi e=0) (hl:d.length+e.length≤64) (hk:k < n) (hn:n≤d.length) (ha:Anc (zAS d) (n-1) k) (hs:n < d.length→zAS d n≤k):zAi (zAY d k n e)=0:=by
 obtain ⟨hd1,hd2,hd3⟩:=zBo.1 hd
 obtain ⟨he1,he2,he3⟩:=zBo.1 he
 refine zBo.2 ⟨by rw [zPU hn];omega,?_,?_⟩
 ·intro x hx
  rw [zHz] at hx
  rcases List.mem_append.1 hx with hx|hx
  ·exact zHy (fun y hy=>hd2 y (List.mem_of_mem_take hy)) x hx
  ·rcases List.mem_append.1 hx with hx|hx
   ·exact zHy he2 x hx
   ·exact zHy (fun y hy=>hd2 y (List.mem_of_mem_drop hy)) x hx
 ·rw [zPU hn]
  refine Ups.ins hd3 he3 (by omega) hn hk ha hs (fun i hi=>yCY hd3 hn hi) ?_ (fun j h1 h2=>?_) (fun i h1 h2=>yCZ hn h1 h2)
  ·have:=zVy (k:=k) hn (j:=0) (e:=e) (by omega)
   rw [Nat.add_zero] at this
   rw [this,he3.1 (by omega),if_pos (by omega)]
  ·rw [zVy hn h2,if_neg]
   obtain ⟨i,rfl⟩:∃ i,j=i+1:=⟨j-1,by omega⟩
   obtain ⟨p,hp,_⟩:=he3.2 i h2
   omega
theorem zSw (hd:zAi d=0) (he:zAi e=0) (hk:k < n) (hn:n≤d.length) (hs:n < d.length→zAS d n≤k):zAc (zAY d k n e) n=n+e.length:=by
 obtain ⟨hd1,hd2,hd3⟩:=zBo.1 hd
 obtain ⟨he1,he2,he3⟩:=zBo.1 he
 refine zZq (by omega) (by rw [zPU hn];omega) (fun i h1 h2=>?_) (fun h=>?_)
 ·obtain ⟨j,rfl⟩:∃ j,i=n+j:=⟨i-n,by omega⟩
  rw [zVy hn (by omega)]
  obtain ⟨i,rfl⟩:∃ i,j=i+1:=⟨j-1,by omega⟩
  obtain ⟨p,hp,_⟩:=he3.2 i (by omega)
  rw [if_neg (by omega)]
  omega
 ·rw [zPU hn] at h
  have hs:=hs (by omega)
  rw [yCZ hn (Nat.le_refl _) (by omega),if_neg (by omega)]
  omega
theorem yEo (hd:zAi d=0) (he:zAi e=0) (hk:k < n) (hn:n≤d.length) (hs:n < d.length→zAS d n≤k):zZm (zAY d k n e) n=e:=by
 obtain ⟨he1,he2,he3⟩:=zBo.1 he
 rw [zZm,zSw hd he hk hn hs,zHz,←List.append_assoc]
 rw [List.take_append_of_le_length (by simp;omega),List.take_of_length_le (by simp;omega),List.drop_append_of_le_length (by simp;omega),List.drop_of_length_le (by simp;omega),List.nil_append]
 refine zPS fun x hx=>?_
 obtain ⟨i,hi,e1⟩:=yES hx
 have:=he3.lt hi
 rw [e1]
 split<;>omega
theorem yGu (hd:zAi d=0) (he:zAi e=0) (hk:k < n) (hn:n≤d.length) (hs:n < d.length→zAS d n≤k):zBA (zAY d k n e) n=d:=by
 obtain ⟨hd1,hd2,hd3⟩:=zBo.1 hd
 rw [zBA,zSw hd he hk hn hs,zHz]
 rw [List.take_append_of_le_length (by simp;omega),List.take_of_length_le (by simp;omega),←List.append_assoc,List.drop_append_of_le_length (by simp;omega),List.drop_of_length_le (by simp;omega),List.nil_append]
 rw [zPS,zPS]
 ·simp
 ·intro x hx
  split<;>split<;>omega
 ·intro x hx
  obtain ⟨i,h1,h2,e1⟩:=zZp hx
  have:=hd3.lt h2
  rw [e1]
  split<;>split<;>omega
end
theorem yEp {d e:List Nd} {up at':Int} (h:zFm d up at' e=0):∃ n:Nat,zBq (zBs d up at' e) up=0∧zAi (zBs d up at' e)=0∧0≤at'∧at'.toNat < (zB2 (zBs d up at' e) up.toNat).length∧(zB2 (zBs d up at' e) up.toNat).getD at'.toNat 0=n∧zBq (zBs d up at' e) n=0∧n≠0∧zZm (zBs d up at' e) n=e∧zBA (zBs d up at' e) n=d:=by
 unfold zFm at h
 split at h
 case isFalse h1=>exact absurd h h1
 rename_i hd
 split at h
 case isFalse h1=>exact absurd h h1
 rename_i he
 split at h
 ·cases h
 rename_i h1
 split at h
 ·cases h
 rename_i h2
 split at h
 ·cases h
 rename_i h3
 have hd0:=(zAO hd).2.2
 obtain ⟨k,rfl⟩:∃ k:Nat,up=k:=⟨up.toNat,by omega⟩
 rw [Int.toNat_natCast] at h2
 obtain ⟨n,e1,hk,hn,ha,hs,hl⟩:=yAl hd0 (k:=k) (at':=at'.toNat) (by omega) (by omega)
 have ex:zBs d k at' e=zAY d k n e:=by rw [zBs,Int.toNat_natCast,e1,Int.toNat_natCast]
 rw [ex]
 have hx:=yIp hd he (by omega) hk hn ha hs
 have hx0:=(zAO hx).2.2
 have hxl:=zPU (d:=d) (e:=e) (k:=k) hn
 obtain ⟨he1,_,he3⟩:=zBo.1 he
 obtain ⟨_,_,hd3⟩:=zBo.1 hd
 have hup:zAS (zAY d k n e) n=k:=by
  have:=zVy (k:=k) hn (j:=0) (e:=e) (by omega)
  rw [Nat.add_zero] at this
  rw [this,he3.1 (by omega),if_pos (by omega)]
 obtain ⟨r,hr⟩:=zSv (d:=zAY d k n e) (n:=(k:Int)) (show n+1≤(zAY d k n e).length by omega)
 have hkid:zB2 (zAY d k n e) k=zAX d k n++(n:Int)::r:=by
  rw [zCG hx0 (by omega),zBf,hr,zCt,if_pos hup,zZr (e:=d) fun i hi=>yCY hd3 hn hi]
  simp
 rw [Int.toNat_natCast,hkid]
 refine ⟨n,zSu.2 ⟨hx,by omega,by omega⟩,hx,by omega,?_,?_,zSu.2 ⟨hx,by omega,by omega⟩,by omega,yEo hd he hk hn hs,yGu hd he hk hn hs⟩
 ·rw [List.length_append,List.length_cons];omega
 ·rw [←hl];simp
section
variable {d:List Nd} {n:Nat}
theorem zVz:zBA d n=(d.take n).map (zBv fun j=>if j≥zAc d n then j-zAc d n+n else j)++(d.drop (zAc d n)).map (zBv fun j=>if j≥zAc d n then j-zAc d n+n else j):=by
 simp [zBA]
theorem yC0 (hn:n < d.length):(zBA d n).length=d.length-(zAc d n-n):=by
 have hb:=zAv hn
 rw [zVz];simp;omega
theorem yGv (hu:Ups (zAS d) d.length) (hn:n < d.length) {i:Nat} (h:i < n):zAS (zBA d n) i=zAS d i:=by
 have hb:=zAv hn
 rw [zVz,zGa,if_pos (by simp;omega),zKt (by simp;omega),zPR h]
 have:=hu.lt (k:=i) (by omega)
 rw [if_neg (by omega)]
theorem yGw (hn:n < d.length) {i:Nat} (h1:n≤i) (h2:i+(zAc d n-n) < d.length):zAS (zBA d n) i=if zAS d (i+(zAc d n-n))≥zAc d n then zAS d (i+(zAc d n-n))-zAc d n+n else zAS d (i+(zAc d n-n)):=by
 have hb:=zAv hn
 rw [zVz,zGa,if_neg (by simp;omega)]
 simp only [List.length_map,List.length_take]
 rw [zKt (by simp;omega),zXw,show zAc d n+(i-min n d.length)=i+(zAc d n-n) by omega]
theorem yJR (hd:zCm d d.length=true) (hn:n < d.length) {k j:Nat} (h1:zAc d n≤k) (h2:k < d.length) (e:zAS d k=j):j < n∨zAc d n≤j:=by
 apply Classical.byContradiction
 intro hc
 have h3:=zHP hd hn h2 h1
 rw [e] at h3
 have hb:=zAv hn
 refine h3 ?_
 rw [zEZ hd (by omega)]
 rcases Nat.lt_or_ge n j with h4|h4
 ·exact List.mem_cons_of_mem _ (zMX hd hn j (by omega) h4 (by omega))
 ·have:n=j:=by omega
  subst this;exact List.mem_cons_self
theorem yIq (hd:zAi d=0) (h0:0 < n) (hn:n < d.length):zAi (zBA d n)=0:=by
 obtain ⟨hd1,hd2,hd3⟩:=zBo.1 hd
 have hd0:=(zAO hd).2.2
 have hb:=zAv hn
 refine zBo.2 ⟨by rw [yC0 hn];omega,?_,?_⟩
 ·intro x hx
  rw [zVz] at hx
  rcases List.mem_append.1 hx with hx|hx
  ·exact zHy (fun y hy=>hd2 y (List.mem_of_mem_take hy)) x hx
  ·exact zHy (fun y hy=>hd2 y (List.mem_of_mem_drop hy)) x hx
 ·rw [yC0 hn]
  refine Ups.rem hd3 h0 hb.1 hb.2 (fun i h1 h2=>?_) (fun h=>zDb hn h) (fun k j h1 h2 e=>yJR hd0 hn h1 h2 e) (fun i hi=>yGv hd3 hn hi) (fun i h1 h2=>yGw hn h1 h2)
  rw [←yGt hd0 (by omega),zEZ hd0 (by omega)]
  exact List.mem_cons_of_mem _ (zMX hd0 hn i (by omega) h1 h2)
end
end Go.Hx
end

section
set_option maxRecDepth 100000
set_option linter.unusedSimpArgs false
namespace Go.Hx
open Go.Proofs
variable [Glob] [GlobL]
attribute [local go_sem] zAh zAm zAk zAg ndV zAr zBE
end Go.Hx
end

section
set_option maxRecDepth 100000
set_option linter.unusedSimpArgs false
namespace Go.Hx
open Go.Proofs
variable [Glob] [GlobL]
attribute [local go_sem] zAh zAm zAk zAg ndV zAr zBE atV zFN OVal.cells zSA List.drop_succ_cons List.drop_zero List.take_succ_cons List.getD_nil zR4 zEG Nat.sub_zero List.map_nil List.map_cons ev zAa zCi zNb yBO zAU yAA
attribute [local go_sem ↓] yCn yCo
attribute [local go_sem] reduceCtorEq Nat.reduceAdd Nat.reduceEqDiff reduceIte Nat.reduceLeDiff Nat.reduceLT Nat.reduceSub
theorem zVA (d:List Nd) (hl:d.length≤64) (hs:∀ x∈d,zVr x):Contract Tryz.prog zCB [.val (zBE d)] {res:=.ov (.agg [.os none zAz 5 (zDa (zDd d))])}:=by
 refine mkA zRc (base:=0) (fo rfl) (fun hfit=>?_)
 unfold F0 zJ7
 simp (maxSteps:=2000000) only [zAM,List.set_cons_succ,List.set_cons_zero,List.map_cons,List.map_nil,zAL,zAa,ioOf,List.length_cons,List.length_nil,Nat.reduceAdd,Nat.reduceSub,List.replicate,List.cons_append,List.nil_append]
 try simp (maxSteps:=2000000) only [go_sem]
 repeat with_reducible refine zAb ?_
 refine zAx (fun i:Nat=>[(4,.pv (iv i)),(9,.un),(25,.ov (.one (.os none zAz 5 (zDa (zDd (d.take i))))))]) (fun i:Nat=>d.length-i) (fun i:Nat=>i≤d.length) (0) ?_ (Nat.zero_le _) ?_
 focus (simp (maxSteps:=2000000) only [go_sem,zAn,zAw,zAJ,zAo];all_goals (repeat' (first|exact trivial|exact zAy (by omega)|exact zAu rfl|exact zAN rfl|exact zAA|exact le_refl _|refine And.intro ?_ ?_)))
 ·exact .inr (.inr rfl)
 intro i hi
 try simp (maxSteps:=2000000) only [go_sem]
 repeat with_reducible refine zAb ?_
 refine zAd (by rfl) trivial (fun h=>?_) (fun h=>?_)
 ·have hlt:i < d.length:=by simpa using h
  have hmem:=zKr hlt
  obtain ⟨hs1,hs2⟩:=hs _ hmem
  try simp (maxSteps:=2000000) only [go_sem,zA4 _ _ hlt]
  repeat with_reducible refine zAb ?_
  refine zAq (by repeat' constructor) (zDu _ hs1 hs2) ?_
  try simp (maxSteps:=2000000) only [go_sem]
  repeat with_reducible refine zAb ?_
  try simp (maxSteps:=2000000) only [go_sem,zFN]
  repeat with_reducible refine zAb ?_
  refine ⟨i+1,by omega,hlt,?_⟩
  simp (maxSteps:=2000000) only [go_sem,zAn,zAw,zAJ,zAo]
  all_goals (repeat' (first|exact trivial|exact zAy (by omega)|exact zAu rfl|exact zAN rfl|exact zAA|exact le_refl _|refine And.intro ?_ ?_))
  refine zAN ?_
  rw [zC2 default hlt,zHN,zSs]
  rfl
 ·try simp (maxSteps:=2000000) only [go_sem]
  repeat with_reducible refine zAb ?_
  have:i=d.length:=by simp at h;omega
  subst this
  rw [List.take_length]
  exact zKI rfl rfl rfl
theorem yEs {l:List (List OV)} {m:Nat} {r:List OV} (h:m < l.length):(l.set m r).getD m []=r:=by simp [h]
theorem zVB (d:List Nd) (k:Int) (x:Nd):Contract Tryz.prog zEj [.val (zBE d),.val (iv k),.val (.agg (ndV x))] {res:=.tup [zBE (if zK2 d k x=0 then zI7 d k.toNat x else []),iv (zK2 d k x)]}:=by
 unfold ndV
 refine mkA zRn (base:=0) (fo rfl) (fun hfit=>?_)
 unfold F0 zJ8
 simp (maxSteps:=2000000) only [zAM,List.set_cons_succ,List.set_cons_zero,List.map_cons,List.map_nil,zAL,zAa,ioOf,List.length_cons,List.length_nil,Nat.reduceAdd,Nat.reduceSub,List.replicate,List.cons_append,List.nil_append]
 try simp (maxSteps:=2000000) only [go_sem]
 repeat with_reducible refine zAb ?_
 refine zAq (by repeat' constructor) (Contract.av (zO7 d k) (by first|rfl|(simp (maxSteps:=2000000) only [go_sem];done)|(simp (maxSteps:=2000000) only [go_sem];rfl))) ?_
 try simp (maxSteps:=2000000) only [go_sem]
 repeat with_reducible refine zAb ?_
 refine zAd (by rfl) trivial (fun h=>?_) (fun h=>?_)
 ·try simp (maxSteps:=2000000) only [go_sem]
  repeat with_reducible refine zAb ?_
  have h2:¬ zBq d k=0:=by simpa using h
  have h3:zK2 d k x=zBq d k:=by rw [zK2,if_neg h2]
  rw [h3,if_neg h2]
  exact zAR (by simp) ⟨zAH rfl rfl (.inr rfl),zA7 rfl trivial (.inl rfl),rfl⟩
 have h2:zBq d k=0:=by simpa using h
 obtain ⟨h3,h4,h5⟩:=zDX h2
 obtain ⟨h6,h7,h8⟩:=zAO h3
 obtain ⟨m,rfl⟩:∃ m:Nat,k=m:=⟨k.toNat,by omega⟩
 have hm:m < d.length:=by omega
 try simp (maxSteps:=2000000) only [go_sem]
 repeat with_reducible refine zAb ?_
 refine zAq (by repeat' constructor) (Contract.av (zIg x) (by first|rfl|(simp (maxSteps:=2000000) only [go_sem];done)|(simp (maxSteps:=2000000) only [go_sem];rfl))) ?_
 try simp (maxSteps:=2000000) only [go_sem]
 repeat with_reducible refine zAb ?_
 refine zAd (by rfl) trivial (fun h9=>?_) (fun h9=>?_)
 ·try simp (maxSteps:=2000000) only [go_sem]
  repeat with_reducible refine zAb ?_
  have h10:¬ zA0 x=true:=by simpa using h9
  have h3:zK2 d m x=1:=by rw [zK2,if_pos h2,if_neg h10]
  rw [h3,if_neg (by omega)]
  exact zAR (by simp) ⟨zAH rfl rfl (.inr rfl),zA7 rfl trivial (.inl rfl),rfl⟩
 have h10:zA0 x=true:=by simpa using h9
 have hr:zK2 d m x=0:=by rw [zK2,if_pos h2,if_pos h10]
 rw [hr,if_pos rfl]
 obtain ⟨hf1,hf2⟩:=zBu h10
 try simp (maxSteps:=2000000) only [go_sem]
 repeat with_reducible refine zAb ?_
 refine zNE (by repeat' constructor) (Contract.av (zVA d h7 (fun x hx=>(zBX h8 h7 hx).1)) (by first|rfl|(simp (maxSteps:=2000000) only [go_sem];done)|(simp (maxSteps:=2000000) only [go_sem];rfl))) ?_
 try simp (maxSteps:=2000000) only [go_sem]
 repeat with_reducible refine zAb ?_
 intro b
 try simp (maxSteps:=2000000) only [go_sem,zHO,zA4 _ _ hm]
 repeat with_reducible refine zAb ?_
 refine zAq (by repeat' constructor) (Contract.av (zDu x (by omega) (by omega)) (by first|rfl|(simp (maxSteps:=2000000) only [go_sem];done)|(simp (maxSteps:=2000000) only [go_sem];rfl))) ?_
 try simp (maxSteps:=2000000) only [go_sem]
 repeat with_reducible refine zAb ?_
 have hset:∀ r:List OV,((zDa (zDd d)).set m r).getD m []=r:=fun r=>yEs (by rw [zFN,zAh];exact hm)
 try simp (maxSteps:=2000000) only [go_sem,List.length_set,hset,List.set_set,zHO,zA4 _ _ hm]
 repeat with_reducible refine zAb ?_
 have e:(zDa (zDd d)).set m [OV.p (bI (d.getD m default).up),OV.p (bS x.tag),OV.p (bS x.id),OV.p (PV.sl 1 (zVD x.cls)),OV.p (PV.sl 2 (zVE x.att))]=zDa (zDd (zI7 d m x)):=by
  simp only [zDa,zDd,zI7,List.map_set]
  rfl
 rw [e,zSt]
 try simp (maxSteps:=2000000) only [go_sem]
 repeat with_reducible refine zAb ?_
 exact zAR (by simp) ⟨zAH rfl rfl (.inl rfl),zA7 rfl trivial (.inl rfl),rfl⟩
theorem yBL (d:List Nd) (k:Int) (h:zBq d k=0):szT (zBS d d.length 0)≤100000:=by
 obtain ⟨h3,h4,h5⟩:=zDX h
 obtain ⟨h6,h7,h8⟩:=zAO h3
 rw [zVx,zVu h8 (by omega)]
 have:=zAv (d:=d) (n:=0) (by omega)
 omega
theorem zXy (d:List Nd) (k:Int):zEz d k=(if zP2 d k=0 then zBA d k.toNat else [],zP2 d k):=by
 unfold zEz zP2
 by_cases h:zBq d k=0
 ·rw [if_pos h,if_pos h]
  by_cases h0:k=0
  ·rw [if_pos h0,if_pos h0,if_neg (by omega)]
  ·rw [if_neg h0,if_neg h0,if_pos rfl]
   obtain ⟨h3,h4,h5⟩:=zDX h
   obtain ⟨h6,h7,h8⟩:=zAO h3
   rw [zXu h8 (by omega) (by omega)]
 ·rw [if_neg h,if_neg h,if_neg h]
end Go.Hx
end

section
/-
 Right documents: what is laid when a tree is a kid of an element. Plain Lean, no program in sight. No condition.
-/
namespace Go.Hx
variable [Glob] [GlobL]
def zSy (b:Bool) (at':Int) (e:Tr):Nat→List Tr→List Tr
 |i,[]=>if b&&decide ((i:Int)=at') then [e] else []
 |i,t::r=>if b&&decide ((i:Int)=at') then e::t::zSy b at' e (i+1) r else t::zSy b at' e (i+1) r
mutual
def zHZ (up at':Int) (e:Tr):Tr→Tr
 |.mk x k=>.mk x (zSy (decide (x.up=up)) at' e 0 (zBP up at' e k))
def zBP (up at':Int) (e:Tr):List Tr→List Tr
 |[]=>[]
 |t::r=>zHZ up at' e t::zBP up at' e r
end
theorem zHR (up at':Int) (e:Tr):∀ l,zBP up at' e l=l.map (zHZ up at' e)
 |[]=>rfl
 |t::r=>by simp only [zBP,List.map_cons,zHR up at' e r]
theorem yAm (at':Int) (e:Tr):∀ (l:List Tr) (i:Nat),zSy false at' e i l=l
 |[],i=>by simp [zSy]
 |t::r,i=>by simp [zSy,yAm at' e r]
theorem zPY {at':Int} {e:Tr}:∀ (l:List Tr) (i:Nat),at' < i→zSy true at' e i l=l
 |[],i,h=>by simp [zSy];omega
 |t::r,i,h=>by
  have h1:¬ (i:Int)=at':=by omega
  have h2:=zPY (at':=at') (e:=e) r (i+1) (by omega)
  simp only [zSy,h1,decide_false,Bool.and_false,Bool.false_eq_true,if_false,h2]
mutual
def zJd:Tr→Tr
 |.mk x k=>.mk {x with up:=-2} (zVC k)
def zVC:List Tr→List Tr
 |[]=>[]
 |t::r=>zJd t::zVC r
end
mutual
theorem yAn:∀ (t:Tr) (l:List Nd) (u:Int),zMV (zJd t) l u=zMV t l u
 |.mk x k,l,u=>by
  simp only [zJd,zMV]
  rw [zXz k]
theorem zXz:∀ (k:List Tr) (l:List Nd) (u:Int),zB7 (zVC k) l u=zB7 k l u
 |[],l,u=>rfl
 |t::r,l,u=>by
  simp only [zVC,zB7]
  rw [yAn t,zXz r]
end
def yIH (d:List Nd) (up at':Int) (e:List Nd):List Nd:=zMV (zHZ up at' (zJd (zBY e e.length 0)) (zBS d d.length 0)) [] (-1)
theorem yAo {d:List Nd}:∀ (f n:Nat) (l:List Nd) (u:Int),zMV (zBS d f n) l u=zMV (zBY d f n) l u
 |0,n,l,u=>rfl
 |f+1,n,l,u=>by
  have h:∀ (ks:List Int) (l:List Nd) (u:Int),zB7 (ks.map fun k=>zBS d f k.toNat) l u=zB7 (ks.map fun k=>zBY d f k.toNat) l u:=by
   intro ks
   induction ks with
   |nil=>intro l u;rfl
   |cons k ks ih=>intro l u;simp only [List.map_cons,zB7];rw [yAo f,ih]
  simp only [zBS,zBY,zMV]
  rw [h]
section
variable {d:List Nd} (hd:zCm d d.length=true)
include hd
theorem yAp {k0:Nat} {at':Int} {et:Tr}:∀ (f k:Nat),k < d.length→d.length≤k+f→¬ (k≤k0∧k0 < zAc d k)→zHZ k0 at' et (zBS d f k)=zBS d f k
 |0,k,hk,h,_=>by omega
 |f+1,k,hk,h,hout=>by
  have hb:=zAv hk
  simp only [zBS,zHZ]
  have hne:decide ((k:Int)=(k0:Int))=false:=by simp;omega
  have hup:({d.getD k default with up:=(k:Int)}:Nd).up=(k:Int):=rfl
  rw [hne,yAm,zHR,List.map_map]
  congr 1
  refine List.map_congr_left fun j hj=>?_
  rw [←zCG hd hk] at hj
  have hkid:∃ i:Nat,j=i∧k < i∧i < zAc d k:=by
   rw [zCG hd hk,←zIl hd hk] at hj
   unfold zAX at hj
   obtain ⟨i,h1,rfl⟩:=List.mem_map.1 hj
   rw [List.mem_filter] at h1
   have h2:i < zAc d k:=by simpa using h1.1
   have h3:zAS d i=k:=by simpa using h1.2
   have:=(zBB hd i (by omega)).2
   exact ⟨i,rfl,by omega,h2⟩
  obtain ⟨i,rfl,h1,h2⟩:=hkid
  have hm:=zCv hk h1 h2
  simp only [Function.comp_apply,Int.toNat_natCast]
  exact yAp f i (by omega) (by omega) (by omega)
variable {e:List Nd} {n k0:Nat}
def ip (n E:Nat) (j:Int):Int:=if j≥n then j+E else j
def zJa (d:List Nd) (n E a b:Nat):List Nd:=(List.range' a (b-a)).map fun j=>{d.getD j default with up:=ip n E (zAS d j)}
omit hd in
theorem zMZ {E:Nat} {a b c:Nat} (h1:a≤b) (h2:b≤c):zJa d n E a b++zJa d n E b c=zJa d n E a c:=by
 unfold zJa
 rw [←List.map_append]
 congr 1
 have:=List.range'_append (s:=a) (m:=b-a) (n:=c-b) (step:=1)
 rw [show a+1 * (b-a)=b by omega,show b-a+(c-b)=c-a by omega] at this
 exact this
omit hd in
theorem zM0 {E a:Nat}:zJa d n E a a=[]:=by simp [zJa]
omit hd in
theorem zM1 {E a b:Nat}:(zJa d n E a b).length=b-a:=by simp [zJa]
omit hd in
theorem zKw {E a b:Nat} (h:a < b):zJa d n E a b={d.getD a default with up:=ip n E (zAS d a)}::zJa d n E (a+1) b:=by
 unfold zJa
 rw [show b-a=(b-(a+1))+1 by omega,List.range'_succ]
 rfl
theorem zZs {E:Nat} (hk0:k0 < n) (hn:n≤d.length) (hs:n < d.length→zAS d n≤k0) {f i:Nat} (hi:i < d.length) (hf:d.length≤i+f) (hout:¬ (i≤k0∧k0 < zAc d i)) {at':Int} {et:Tr} {l:List Nd} {p:Nat} (hup:zAS d i=p) (hl:(l.length:Int)=ip n E i):
  zMV (zHZ k0 at' et (zBS d f i)) l (ip n E p)=l++zJa d n E i (zAc d i)∧(n≤i→((l++zJa d n E i (zAc d i)).length:Int)=ip n E (zAc d i)):=by
 have hb:=zAv hi
 have hcase:n≤i∨zAc d i≤n:=by
  apply Classical.byContradiction
  intro hc
  have h1:=zB8 hi (k:=n) (by omega) (by omega)
  have h2:=hs (by omega)
  omega
 rw [yAp hd f i hi hf hout,yAo]
 have hoff:ip n E i=i+(if n≤i then (E:Int) else 0):=by unfold ip;split<;>split<;>omega
 rw [zMY hd (if n≤i then (E:Int) else 0) f i hi hf l _ (by rw [hl,hoff]),zKw hb.1,hup]
 constructor
 ·congr 2
  unfold seg zJa
  refine List.map_congr_left fun j hj=>?_
  rw [List.mem_range'_1] at hj
  have h1:=zB8 hi (k:=j) (by omega) (by omega)
  have h2:=(zBB hd j (by omega)).2
  have h3:zAS d j+(if n≤i then (E:Int) else 0)=ip n E (zAS d j):=by
   unfold ip
   by_cases hni:n≤i
   ·rw [if_pos hni,if_pos (by omega)]
   ·rw [if_neg hni,if_neg (by omega)];omega
  rw [h3]
 ·intro hni
  rw [←hup,←zKw hb.1,List.length_append,zM1]
  unfold ip at hl ⊢
  rw [if_pos (by omega)] at hl
  rw [if_pos (by omega)]
  omega
theorem yAq {E:Nat} (hk0:k0 < n) (hn:n≤d.length) (hs:n < d.length→zAS d n≤k0) {f k:Nat} (hk:k < d.length) {at':Int} {et:Tr} (hf:d.length≤k+(f+1)):
  ∀ (g i:Nat),k < i→i≤zAc d k→(i < zAc d k→zAS d i=k)→d.length≤i+g→n≤i→∀ l:List Nd,(l.length:Int)=ip n E i→
   zB7 (zBP k0 at' et ((zDy d k g i).map fun j=>zBS d f j.toNat)) l (ip n E k)=l++zJa d n E i (zAc d k):=by
 have hb:=zAv hk
 intro g
 induction g with
 |zero=>
  intro i h1 h2 h3 h4 _ l hl
  have:i=zAc d k:=by omega
  subst this
  simp [zDy,zBP,zB7,zM0]
 |succ g ihg=>
  intro i h1 h2 h3 h4 hno l hl
  simp only [zDy]
  split
  ·rename_i h5
   have hi:i < d.length:=by omega
   have hm:=zCv hk h1 h5
   have hbi:=zAv hi
   simp only [List.map_cons,zBP,zB7,Int.toNat_natCast]
   obtain ⟨e1,e2⟩:=zZs hd (E:=E) hk0 hn hs hi (f:=f) (by omega) (at':=at') (et:=et) (by omega) (h3 h5) hl
   rw [e1,ihg (zAc d i) (by omega) hm (zF9 hd hk h1 h5 (h3 h5)) (by omega) (by omega) _ (e2 hno),List.append_assoc,zMZ (by omega) hm]
  ·have:i=zAc d k:=by omega
   subst this
   simp [zBP,zB7,zM0]
def yBM (e:List Nd) (k0 n:Nat):List Nd:=e.map (zBv fun j=>if j < 0 then (k0:Int) else j+n)
theorem yC6 (he:zCm e e.length=true) (h0:0 < e.length) {l:List Nd} (hl:l.length=n):zMV (zJd (zBY e e.length 0)) l k0=l++yBM e k0 n:=by
 rw [yAn,zMY he n e.length 0 h0 (by omega) l _ (by omega),zI9 he h0]
 congr 1
 have e1:e=(e.take e.length).drop 0:=by simp
 have e2:=yAi (d:=e) (Nat.zero_le e.length) (Nat.le_refl _)
 rw [←e1] at e2
 unfold yBM
 conv=>rhs;rw [e2]
 rw [List.map_map,show e.length-0=(e.length-1)+1 by omega,List.range'_succ,List.map_cons]
 unfold seg
 congr 1
 ·have:=zVv he h0
  simp only [Function.comp_apply,zBv]
  unfold zAS at this
  rw [if_pos (by rw [this];omega)]
 ·refine List.map_congr_left fun j hj=>?_
  rw [List.mem_range'_1] at hj
  have:=zXs he (k:=j) (by omega) (by omega)
  simp only [Function.comp_apply,zBv]
  unfold zAS at this ⊢
  rw [if_neg (by omega)]
theorem yGy (he:zCm e e.length=true) (h0:0 < e.length) (hk0:k0 < n) (hn:n≤zAc d k0) (hkl:k0 < d.length) (hs:n < d.length→zAS d n≤k0) {f:Nat} (hf:d.length≤k0+(f+1)):
  ∀ (g i:Nat),k0 < i→i≤n→(i < zAc d k0→zAS d i=k0)→d.length≤i+g→∀ l:List Nd,l.length=i→∀ (c:Nat),(zAX d k0 i).length=c→
   zB7 (zSy true ((zAX d k0 n).length:Int) (zJd (zBY e e.length 0)) c (zBP k0 ((zAX d k0 n).length:Int) (zJd (zBY e e.length 0)) ((zDy d k0 g i).map fun j=>zBS d f j.toNat))) l k0=l++(zJa d n e.length i n++(yBM e k0 n++zJa d n e.length n (zAc d k0))):=by
 have hb:=zAv hkl
 have hipk:ip n e.length k0=k0:=by unfold ip;rw [if_neg (by omega)]
 intro g
 induction g with
 |zero=>
  intro i h1 h2 h3 h4 l hl c hc
  have e1:i=n:=by omega
  have e2:n=zAc d k0:=by omega
  subst e1
  rw [←hc,←e2]
  simp only [zDy,List.map_nil,zBP,zSy,decide_true,Bool.and_self,if_true,zB7,zM0,List.nil_append,List.append_nil]
  exact yC6 hd he h0 hl
 |succ g ihg=>
  intro i h1 h2 h3 h4 l hl c hc
  by_cases hin:i=n
  ·subst hin
   have key:zB7 (zBP k0 ((zAX d k0 i).length:Int) (zJd (zBY e e.length 0)) ((zDy d k0 (g+1) i).map fun j=>zBS d f j.toNat)) (l++yBM e k0 i) (ip i e.length k0)=(l++yBM e k0 i)++zJa d i e.length i (zAc d k0):=by
    refine yAq hd hk0 (by omega) hs hkl hf (g+1) i h1 (by omega) h3 h4 (by omega) _ ?_
    unfold ip
    rw [if_pos (by omega)]
    simp [yBM];omega
   rw [hipk] at key
   rw [zM0,List.nil_append,←List.append_assoc,←key]
   have hlay:=yC6 (k0:=k0) hd he h0 hl
   cases hks:zBP k0 ((zAX d k0 i).length:Int) (zJd (zBY e e.length 0)) ((zDy d k0 (g+1) i).map fun j=>zBS d f j.toNat) with
   |nil=>
    rw [←hc]
    simp only [zSy,decide_true,Bool.and_self,if_true,zB7]
    exact hlay
   |cons t r=>
    rw [←hc]
    simp only [zSy,decide_true,Bool.and_self,if_true,zB7]
    rw [hlay,zPY r _ (by omega)]
  ·have hlt:i < n:=by omega
   have h5:i < zAc d k0:=by omega
   have hi:i < d.length:=by omega
   have hm:=zCv hkl h1 h5
   have hbi:=zAv hi
   have hbn:zAc d i≤n:=by
    apply Classical.byContradiction
    intro hcc
    have h6:=zB8 hi (k:=n) (by omega) (by omega)
    have h7:=hs (by omega)
    omega
   have hcnt:(zAX d k0 (zAc d i)).length=c+1:=by
    have e1:zAX d k0 (zAc d i)=zAX d k0 (i+1):=zC3 hbi.1 fun j h6 h7=>by
     have:=zB8 hi (k:=j) (by omega) h7
     omega
    rw [e1,zCt,if_pos (h3 h5),List.length_append,hc]
    rfl
   have hcn:c+1≤(zAX d k0 n).length:=by
    obtain ⟨r,hr⟩:=zSv (d:=d) (n:=(k0:Int)) hbn
    rw [hr,List.length_append,hcnt];omega
   have hne:¬ (c:Int)=((zAX d k0 n).length:Int):=by omega
   rw [zDy,if_pos h5]
   simp only [List.map_cons,zBP,zSy,Bool.true_and,hne,decide_false,Bool.false_eq_true,if_false,zB7,Int.toNat_natCast]
   have hl':(l.length:Int)=ip n e.length i:=by unfold ip;rw [if_neg (by omega)];omega
   obtain ⟨e1,e2⟩:=zZs hd (E:=e.length) hk0 (by omega) hs hi (f:=f) (by omega) (at':=((zAX d k0 n).length:Int)) (et:=zJd (zBY e e.length 0)) (by omega) (h3 h5) hl'
   rw [hipk] at e1
   rw [e1,ihg (zAc d i) (by omega) hbn (zF9 hd hkl h1 h5 (h3 h5)) (by omega) _ (by rw [List.length_append,zM1];omega) (c+1) hcnt,List.append_assoc,←List.append_assoc (zJa d n e.length i (zAc d i)),zMZ (by omega) hbn]
theorem yET (he:zCm e e.length=true) (h0:0 < e.length) (hk0:k0 < n) (hkl:k0 < d.length) (hn:n≤zAc d k0) (hs:n < d.length→zAS d n≤k0):∀ (f k:Nat),k < d.length→d.length≤k+f→k≤k0→k0 < zAc d k→∀ (l:List Nd) (u:Int),l.length=k→
  zMV (zHZ k0 ((zAX d k0 n).length:Int) (zJd (zBY e e.length 0)) (zBS d f k)) l u=l++{d.getD k default with up:=u}::(zJa d n e.length (k+1) n++(yBM e k0 n++zJa d n e.length n (zAc d k)))
 |0,k,hk,h,_,_,l,u,hl=>by omega
 |f+1,k,hk,h,hkk,hkb,l,u,hl=>by
  have hb:=zAv hk
  have hb0:=zAv hkl
  by_cases hke:k=k0
  ·subst hke
   simp only [zBS,zHZ,decide_true,zMV]
   rw [←zCG hd hk,hl]
   have key:=yGy hd he h0 hk0 hn hkl hs (f:=f) (by omega) d.length (k+1) (by omega) (by omega) (zHx hd hk) (by omega) (l++[{d.getD k default with up:=u}]) (by simp [hl]) 0 (by
    rw [zC3 (Nat.zero_le _) fun j _ h2=>by have:=zBB hd j (by omega);omega]
    simp [zAX])
   unfold zB2
   rw [key]
   simp
  ·simp only [zBS,zHZ,zMV]
   have hne:decide ((k:Int)=(k0:Int))=false:=by simp;omega
   rw [hne,yAm,←zCG hd hk,hl]
   have hipk:ip n e.length k=k:=by unfold ip;rw [if_neg (by omega)]
   have loop:∀ (g i:Nat),k < i→i≤k0→zAS d i=k→d.length≤i+g→∀ l:List Nd,l.length=i→
     zB7 (zBP k0 ((zAX d k0 n).length:Int) (zJd (zBY e e.length 0)) ((zDy d k g i).map fun j=>zBS d f j.toNat)) l k=l++(zJa d n e.length i n++(yBM e k0 n++zJa d n e.length n (zAc d k))):=by
    intro g
    induction g with
    |zero=>intro i h1 h2 h3 h4 l hl;omega
    |succ g ihg=>
     intro i h1 h2 h3 h4 l hl
     have h5:i < zAc d k:=by omega
     have hi:i < d.length:=by omega
     have hm:=zCv hk h1 h5
     have hbi:=zAv hi
     rw [zDy,if_pos h5]
     simp only [List.map_cons,zBP,zB7,Int.toNat_natCast]
     have hl':(l.length:Int)=ip n e.length i:=by unfold ip;rw [if_neg (by omega)];omega
     by_cases hin:k0 < zAc d i
     ·have hnb:n≤zAc d i:=by
       have h6:zAc d k0≤zAc d i:=by
        rcases Nat.lt_or_ge i k0 with h7|h7
        ·exact zCv hi h7 hin
        ·have:i=k0:=by omega
         rw [this];exact Nat.le_refl _
       omega
      rw [yET he h0 hk0 hkl hn hs f i hi (by omega) h2 hin l k hl]
      have e1:l++{d.getD i default with up:=(k:Int)}::(zJa d n e.length (i+1) n++(yBM e k0 n++zJa d n e.length n (zAc d i)))=l++(zJa d n e.length i n++(yBM e k0 n++zJa d n e.length n (zAc d i))):=by
       rw [zKw (a:=i) (by omega),h3,hipk]
       simp
      rw [e1]
      have h9:=yAq hd (E:=e.length) hk0 (by omega) hs hk (f:=f) (at':=((zAX d k0 n).length:Int)) (et:=zJd (zBY e e.length 0)) (by omega) g (zAc d i) (by omega) hm (zF9 hd hk h1 h5 h3) (by omega) (by omega) (l++(zJa d n e.length i n++(yBM e k0 n++zJa d n e.length n (zAc d i)))) (by
       simp only [List.length_append,zM1,yBM,List.length_map,hl]
       unfold ip
       rw [if_pos (by omega)]
       omega)
      rw [hipk] at h9
      rw [h9]
      simp only [List.append_assoc]
      rw [zMZ hnb hm]
     ·obtain ⟨e1,e2⟩:=zZs hd (E:=e.length) hk0 (by omega) hs hi (f:=f) (by omega) (at':=((zAX d k0 n).length:Int)) (et:=zJd (zBY e e.length 0)) (by omega) h3 hl'
      rw [hipk] at e1
      rw [e1,ihg (zAc d i) (by omega) (by omega) (zF9 hd hk h1 h5 h3 (by omega)) (by omega) _ (by rw [List.length_append,zM1];omega),List.append_assoc,←List.append_assoc (zJa d n e.length i (zAc d i)),zMZ (by omega) (by omega)]
   have hfk:k+1 < zAc d k:=by omega
   have key:=loop d.length (k+1) (by omega) (by omega) (zHx hd hk hfk) (by omega) (l++[{d.getD k default with up:=u}]) (by simp [hl])
   unfold zB2
   rw [key]
   simp
end
theorem yEU {d:List Nd} {n E a b:Nat} (h:a≤b) (hb:b≤d.length):((d.take b).drop a).map (zBv fun j=>if j≥n then j+E else j)=zJa d n E a b:=by
 rw [yAi h hb,List.map_map]
 rfl
theorem zXA {d e:List Nd} {up at':Int} (h:zFm d up at' e=0):zBs d up at' e=yIH d up at' e:=by
 unfold zFm at h
 split at h
 case isFalse h1=>exact absurd h h1
 rename_i hd
 split at h
 case isFalse h1=>exact absurd h h1
 rename_i he
 split at h
 ·cases h
 rename_i h1
 split at h
 ·cases h
 rename_i h2
 split at h
 ·cases h
 obtain ⟨d1,d2,d3⟩:=zAO hd
 obtain ⟨e1,e2,e3⟩:=zAO he
 obtain ⟨k0,rfl⟩:∃ k:Nat,up=k:=⟨up.toNat,by omega⟩
 obtain ⟨at0,rfl⟩:∃ k:Nat,at'=k:=⟨at'.toNat,by omega⟩
 simp only [Int.toNat_natCast] at h2
 have hkl:k0 < d.length:=by omega
 obtain ⟨n,p1,p2,p3,p4,p5,p6⟩:=yAl d3 hkl (at':=at0) (by omega)
 have hnb:n≤zAc d k0:=by
  apply Classical.byContradiction
  intro hc
  exact zXr d3 hkl (n-1) (by omega) (by omega) ((yGt d3 (by omega)).2 p4)
 have hb0:=zI9 d3 (by omega)
 have hk0b:k0 < zAc d 0:=by omega
 unfold zBs yIH
 rw [Int.toNat_natCast,Int.toNat_natCast,p1,Int.toNat_natCast]
 have key:=yET d3 e3 (by omega) p2 hkl hnb p5 d.length 0 (by omega) (by omega) (by omega) hk0b [] (-1) rfl
 rw [p6] at key
 rw [key,hb0,zHz]
 have c1:=yEU (d:=d) (n:=n) (E:=e.length) (Nat.zero_le n) p3
 have c2:=yEU (d:=d) (n:=n) (E:=e.length) p3 (Nat.le_refl _)
 rw [List.drop_zero] at c1
 rw [List.take_length] at c2
 rw [c1,c2,zKw (by omega),zVv d3 (by omega)]
 unfold ip
 rw [if_neg (by omega)]
 simp [yBM]
end Go.Hx
end

section
set_option maxRecDepth 100000
set_option linter.unusedSimpArgs false
namespace Go.Hx
open Go.Proofs
variable [Glob] [GlobL]
attribute [local go_sem] zAh zAm zAk zAg ndV zAr zEY zJ1 zO9 zJ0 List.take_zero List.map_nil zBE atV OVal.cells zSA List.drop_succ_cons List.drop_zero List.take_succ_cons List.getD_nil zR4 zEG Nat.sub_zero List.map_cons ev zAa zCi zNb yBO zAU yAA yCK List.set_set List.length_set List.set_cons_zero List.set_cons_succ List.getD_cons_zero List.getD_cons_succ OV.left
attribute [local go_sem ↓] yCn yCo yJB yH6
attribute [local go_sem] reduceCtorEq Nat.reduceAdd Nat.reduceEqDiff reduceIte Nat.reduceLeDiff Nat.reduceLT Nat.reduceSub
mutual
def zPZ:Tr→List OV
 |.mk x k=>[.p (bI x.up),.p (bS x.tag),.p (bS x.id),.p (.sl 1 (zVD x.cls)),.p (.sl 2 (zVE x.att)),.os none zAl 6 (zKx k)]
def zKx:List Tr→List (List OV)
 |[]=>[]
 |t::r=>zPZ t::zKx r
end
theorem zHA:∀ l:List Tr,zKx l=l.map zPZ
 |[]=>rfl
 |t::r=>by simp [zKx,zHA r]
theorem zXB (l:List Tr):(zKx l).length=l.length:=by simp [zHA]
attribute [local go_sem] zXB
theorem yEt (t:Tr):(zPZ t).length=6:=by cases t;rfl
attribute [local go_sem] yEt
theorem yC7 (l r:List Tr):zKx (l++r)=zKx l++zKx r:=by simp [zHA]
mutual
theorem yAr:∀ t:Tr,zK5 (zPZ t)=some (trV t)
 |.mk x k=>by simp only [zPZ,zK5,OV.frz,zXC k,trV]
theorem zXC:∀ l:List Tr,zCX (zKx l)=some (zO8 l)
 |[]=>rfl
 |t::r=>by simp only [zKx,zCX,yAr t,zXC r,zO8]
end
theorem zXD:∀ l:List Tr,zVC l=l.map zJd
 |[]=>rfl
 |t::r=>by simp [zVC,zXD r]
theorem zXE:∀ (N:Nat) (t:Tr),szT t≤N→N≤1000000→zCh Tryz.prog zDN (.agg (zPZ t)) (.agg (zPZ (zJd t)))
 |0,.mk x ks,h1,_=>by simp [szT] at h1
 |N+1,.mk x ks,h1,h2=>by
  have ih:=zXE N
  have hks:=zU9 ks
  simp only [szT] at h1
  simp only [zJd,zPZ]
  refine zPt ?_
  unfold F0v zFj
  simp (maxSteps:=2000000) only [zAM,List.set_cons_succ,List.set_cons_zero,List.map_cons,List.map_nil,zAL,zAa,ioOf,List.length_cons,List.length_nil,Nat.reduceAdd,Nat.reduceSub,List.replicate,List.cons_append,List.nil_append]
  try simp (maxSteps:=2000000) only [go_sem]
  repeat with_reducible refine zAb ?_
  intro b
  have e0:zKx ks=mix (fun t=>zPZ (zJd t)) zPZ ks 0:=by rw [yJO,zHA]
  rw [e0]
  refine zAx (fun i:Nat=>[(3,.pv (iv i)),(29,.ov (.one (.os (some b) zAl 6 (mix (fun t=>zPZ (zJd t)) zPZ ks i)))),(10,.un)]) (fun i:Nat=>ks.length-i) (fun i:Nat=>i≤ks.length) (0) ?_ (Nat.zero_le _) ?_
  focus (simp (maxSteps:=2000000) only [go_sem,zAn,zAw,zAJ,zAo];all_goals (repeat' (first|exact trivial|exact zAy (by omega)|exact zAu rfl|exact zAN rfl|exact zAA|exact le_refl _|refine And.intro ?_ ?_)))
  intro i hi
  try simp (maxSteps:=2000000) only [go_sem]
  repeat with_reducible refine zAb ?_
  refine zAd (by rfl) trivial (fun h=>?_) (fun h=>?_)
  ·have hlt:i < ks.length:=by simpa using h
   have hsz:=zJ3 hlt
   have e1:(mix (fun t=>zPZ (zJd t)) zPZ ks i).getD i []=zPZ (ks.getD i default):=yGl hlt
   have e2:=yGm (f:=fun t=>zPZ (zJd t)) (g:=zPZ) hlt
   obtain ⟨M,hM⟩:∃ M,M=mix (fun t=>zPZ (zJd t)) zPZ ks i:=⟨_,rfl⟩
   have hMl:M.length=ks.length:=by rw [hM,yCK]
   rw [←hM] at e1 e2 ⊢
   have hc:=ih (ks.getD i default) (by omega) (by omega)
   have hset:=yEc (l:=M) (m:=i) (by omega)
   obtain ⟨t,ht⟩:∃ t,t=ks.getD i default:=⟨_,rfl⟩
   rw [←ht] at e1 e2 hc
   rcases t with ⟨y,yk⟩
   simp only [zPZ,zJd] at hc e1 e2
   try simp (maxSteps:=2000000) only [go_sem,e1,hset]
   repeat with_reducible refine zAb ?_
   refine yIk (by rfl) hc ?_
   try simp (maxSteps:=2000000) only [go_sem,e1,hset]
   repeat with_reducible refine zAb ?_
   refine ⟨i+1,by omega,hlt,?_⟩
   simp (maxSteps:=2000000) only [go_sem,zAn,zAw,zAJ,zAo]
   all_goals (repeat' (first|exact trivial|exact zAy (by omega)|exact zAu rfl|exact zAN rfl|exact zAA|exact le_refl _|refine And.intro ?_ ?_))
   refine zAN ?_
   rw [e2]
  ·have hil:i=ks.length:=by simp at h;omega
   subst hil
   have e3:ks.map (fun t=>zPZ (zJd t))=zKx (zVC ks):=by rw [zHA,zXD,List.map_map];rfl
   rw [yGk,e3]
   try simp (maxSteps:=2000000) only [go_sem]
   repeat with_reducible refine zAb ?_
   exact zKI rfl rfl rfl
theorem zXF (d:List Nd) (hd:zCm d d.length=true) (hl:d.length≤64):∀ (f n:Nat),n < d.length→d.length-n≤f→Contract Tryz.prog zBL [.val (zBE d),.val (iv n)] {res:=.ov (.agg (zPZ (zBY d f n)))}
 |0,n,h1,h2=>by omega
 |f+1,n,h1,h2=>by
  have ih:=zXF d hd hl f
  unfold zBE at ih ⊢
  simp only [zBY,zPZ]
  refine mkA zRx (base:=0) (fo rfl) (fun hfit=>?_)
  unfold F0 zJ9
  simp (maxSteps:=2000000) only [zAM,List.set_cons_succ,List.set_cons_zero,List.map_cons,List.map_nil,zAL,zAa,ioOf,List.length_cons,List.length_nil,Nat.reduceAdd,Nat.reduceSub,List.replicate,List.cons_append,List.nil_append]
  try simp (maxSteps:=2000000) only [go_sem]
  repeat with_reducible refine zAb ?_
  try simp (maxSteps:=2000000) only [go_sem,zA4 _ _ h1]
  repeat with_reducible refine zAb ?_
  have hfn:=zBu (zC9 hd h1)
  refine zAq (by repeat' constructor) (zDu _ (by omega) (by omega)) ?_
  try simp (maxSteps:=2000000) only [go_sem,zA4 _ _ h1]
  repeat with_reducible refine zAb ?_
  refine zBa (by repeat' constructor) (zEX _ _ hl) ?_
  try simp (maxSteps:=2000000) only [go_sem]
  repeat with_reducible refine zAb ?_
  refine zAx (fun i:Nat=>[(7,.pv (iv i)),(47,.ov (.one (.os none zAl 6 (zKx (((zBf d n).take i).map fun k=>zBY d f k.toNat))))),(21,.un)]) (fun i:Nat=>(zBf d n).length-i) (fun i:Nat=>i≤(zBf d n).length) (0) ?_ (Nat.zero_le _) ?_
  focus (simp (maxSteps:=2000000) only [go_sem,zAn,zAw,zAJ,zAo];all_goals (repeat' (first|exact trivial|exact zAy (by omega)|exact zAu rfl|exact zAN rfl|exact zAA|exact le_refl _|refine And.intro ?_ ?_)))
  ·exact .inr (.inr rfl)
  intro i hi
  have hkl:(zBf d n).length≤d.length:=zFM _
  have htl:(zKx (((zBf d n).take i).map fun k=>zBY d f k.toNat)).length=i:=by simp [zXB];omega
  try simp (maxSteps:=2000000) only [go_sem]
  repeat with_reducible refine zAb ?_
  refine zAd (by rfl) trivial (fun h=>?_) (fun h=>?_)
  ·have hlt:i < (zBf d n).length:=by simpa using h
   obtain ⟨m,hm1,hm2,hm3⟩:=zKN hd hlt
   try simp (maxSteps:=2000000) only [go_sem,zDT _ _ hlt,hm1]
   repeat with_reducible refine zAb ?_
   refine zNE (by repeat' constructor) (ih m hm2 (by omega)) ?_
   try simp (maxSteps:=2000000) only [go_sem,htl]
   repeat with_reducible refine zAb ?_
   refine ⟨i+1,by omega,hlt,?_⟩
   simp (maxSteps:=2000000) only [go_sem,zAn,zAw,zAJ,zAo]
   all_goals (repeat' (first|exact trivial|exact zAy (by omega)|exact zAu rfl|exact zAN rfl|exact zAA|exact le_refl _|refine And.intro ?_ ?_))
   refine zAN ?_
   rw [zDv 0 hlt,yC7,hm1]
   rfl
  ·try simp (maxSteps:=2000000) only [go_sem]
   repeat with_reducible refine zAb ?_
   have:i=(zBf d n).length:=by simp at h;omega
   rw [this,List.take_length]
   exact zKI rfl rfl rfl
end Go.Hx
end

section
set_option maxRecDepth 100000
set_option linter.unusedSimpArgs false
namespace Go.Hx
open Go.Proofs
variable [Glob] [GlobL]
attribute [local go_sem] zAh zAm zAk zAg ndV zAr zEY zJ1 zO9 zJ0 List.take_zero List.map_nil List.nil_append List.length_append
attribute [local go_sem] reduceCtorEq Nat.reduceAdd Nat.reduceEqDiff reduceIte Nat.reduceLeDiff Nat.reduceLT Nat.reduceSub
def zXG (b:Bool) (at':Int) (e:Tr):Nat→List Tr→List Tr
 |_,[]=>[]
 |i,t::r=>(if b&&decide ((i:Int)=at') then [e] else [])++t::zXG b at' e (i+1) r
theorem yEu {b:Bool} {at':Int} {e:Tr} {i:Nat}:zXG b at' e i []=[]:=rfl
attribute [local go_sem] yEu
theorem yAs (b:Bool) (at':Int) (e:Tr):∀ (l r:List Tr) (i:Nat),zXG b at' e i (l++r)=zXG b at' e i l++zXG b at' e (i+l.length) r
 |[],r,i=>by simp [zXG]
 |t::l,r,i=>by
  have:=yAs b at' e l r (i+1)
  simp only [List.cons_append,zXG,this,List.length_cons,List.append_assoc]
  rw [show i+1+l.length=i+(l.length+1) by omega]
theorem yC8 (b:Bool) (at':Int) (e:Tr):∀ (l:List Tr) (i:Nat),zSy b at' e i l=zXG b at' e i l++(if b&&decide (((i+l.length:Nat):Int)=at') then [e] else [])
 |[],i=>by simp [zSy,zXG]
 |t::l,i=>by
  have:=yC8 b at' e l (i+1)
  simp only [zSy,zXG,this,List.length_cons]
  rw [show i+1+l.length=i+(l.length+1) by omega]
  split<;>simp
theorem yAt (b:Bool) (at':Int) (e:Tr):∀ (l:List Tr) (i:Nat),(zXG b at' e i l).length≤2 * l.length
 |[],i=>by simp [zXG]
 |t::l,i=>by
  have:=yAt b at' e l (i+1)
  simp only [zXG,List.length_append,List.length_cons]
  split<;>simp<;>omega
theorem zK3 (up at':Int) (e:Tr) (l:List Tr):(zBP up at' e l).length=l.length:=by simp [zHR]
theorem yBN (up at':Int) (e:Tr) (l r:List Tr):zBP up at' e (l++r)=zBP up at' e l++zBP up at' e r:=by simp [zHR]
theorem yC9 (b:Bool) (at':Int) (e:Tr):∀ (l:List Tr) (i:Nat),zJc (zSy b at' e i l)≤zJc l+szT e
 |[],i=>by
  simp only [zSy]
  split<;>simp [zJc]
 |t::l,i=>by
  cases b with
  |false=>rw [yAm];omega
  |true=>
   have ih:=yC9 true at' e l (i+1)
   simp only [zSy]
   split
   ·rename_i h
    rw [zPY l (i+1) (by simp at h;omega)]
    simp only [zJc];omega
   ·simp only [zJc];omega
mutual
theorem yAu (up at':Int) (e:Tr):∀ t:Tr,szT (zHZ up at' e t)≤szT t * (1+szT e)
 |.mk x k=>by
  have h1:=yC9 (decide (x.up=up)) at' e (zBP up at' e k) 0
  have h2:=zXH up at' e k
  simp only [zHZ,szT,Nat.add_mul,Nat.one_mul]
  omega
theorem zXH (up at':Int) (e:Tr):∀ l:List Tr,zJc (zBP up at' e l)≤zJc l * (1+szT e)
 |[]=>by simp [zBP,zJc]
 |t::r=>by
  have h1:=yAu up at' e t
  have h2:=zXH up at' e r
  simp only [zBP,zJc,Nat.add_mul]
  omega
end
mutual
theorem yDa:∀ t:Tr,szT (zJd t)=szT t
 |.mk x k=>by simp only [zJd,szT,yAv k]
theorem yAv:∀ l:List Tr,zJc (zVC l)=zJc l
 |[]=>rfl
 |t::r=>by simp only [zVC,zJc,yDa t,yAv r]
end
theorem zSz:∀ (N:Nat) (t:Tr) (up at':Int) (e:Tr),szT t≤N→N≤1000000→Contract Tryz.prog zFY [.val (.agg (trV t)),.val (iv up),.val (iv at'),.val (.agg (trV e))] {res:=.val (.agg (trV (zHZ up at' e t)))}
 |0,.mk x ks,up,at',e,h1,_=>by simp [szT] at h1
 |N+1,.mk x ks,up,at',e,h1,h2=>by
  have ih:=zSz N
  simp only [szT] at h1 h2
  obtain ⟨ex,ek⟩:=e
  simp only [zHZ,trV]
  refine mkA zYa (base:=0) (fo rfl) (fun hfit=>?_)
  unfold F0 zR9
  simp (maxSteps:=2000000) only [zAM,List.set_cons_succ,List.set_cons_zero,List.map_cons,List.map_nil,zAL,zAa,ioOf,List.length_cons,List.length_nil,Nat.reduceAdd,Nat.reduceSub,List.replicate,List.cons_append,List.nil_append]
  try simp (maxSteps:=2000000) only [go_sem]
  repeat with_reducible refine zAb ?_
  have hks:=zU9 ks
  obtain ⟨e,he⟩:∃ e,e=Tr.mk ex ek:=⟨_,rfl⟩
  rw [←he]
  have hev:trV e=[bI ex.up,bS ex.tag,bS ex.id,.sl 1 (zVD ex.cls),.sl 2 (zVE ex.att),.sl 6 (zO8 ek)]:=by rw [he];rfl
  refine zAx (fun i:Nat=>[(9,.own zAl 6 (zO8 (zXG (decide (x.up=up)) at' e 0 (zBP up at' e (ks.take i))))),(10,.pv (iv i)),(15,.un),(27,.un)]) (fun i:Nat=>ks.length-i) (fun i:Nat=>i≤ks.length) (0) ?_ (Nat.zero_le _) ?_
  focus (simp (maxSteps:=2000000) only [go_sem,zAn,zAw,zAJ,zAo];all_goals (repeat' (first|exact trivial|exact zAy (by omega)|exact zAu rfl|exact zAN rfl|exact zAA|exact le_refl _|refine And.intro ?_ ?_)))
  intro i hi
  have hw:=yAt (decide (x.up=up)) at' e (zBP up at' e (ks.take i)) 0
  rw [zK3,List.length_take] at hw
  try simp (maxSteps:=2000000) only [go_sem]
  repeat with_reducible refine zAb ?_
  refine zAd (by rfl) trivial (fun h=>?_) (fun h=>?_)
  ·have hlt:i < ks.length:=by simpa using h
   have hsz:=zJ3 hlt
   have hc:=ih (ks.getD i default) up at' e (by omega) (by omega)
   rw [hev] at hc
   have hnext:zXG (decide (x.up=up)) at' e 0 (zBP up at' e (ks.take (i+1)))=zXG (decide (x.up=up)) at' e 0 (zBP up at' e (ks.take i))++((if decide (x.up=up)&&decide ((i:Int)=at') then [e] else [])++[zHZ up at' e (ks.getD i default)]):=by
    rw [zC2 default hlt,yBN,yAs,zK3,List.length_take,Nat.zero_add,Nat.min_eq_left hi]
    simp only [zBP,zXG]
   try simp (maxSteps:=2000000) only [go_sem]
   repeat with_reducible refine zAb ?_
   refine zAd (by rfl) trivial (fun h3=>?_) (fun h3=>?_)
   ·try simp (maxSteps:=2000000) only [go_sem,zJ2 _ _ hlt]
    repeat with_reducible refine zAb ?_
    refine zAq (by repeat' constructor) (Contract.av (hc) (by first|rfl|(simp (maxSteps:=2000000) only [go_sem];done)|(simp (maxSteps:=2000000) only [go_sem];rfl))) ?_
    try simp (maxSteps:=2000000) only [go_sem]
    repeat with_reducible refine zAb ?_
    refine ⟨i+1,by omega,hlt,?_⟩
    simp (maxSteps:=2000000) only [go_sem,zAn,zAw,zAJ,zAo]
    all_goals (repeat' (first|exact trivial|exact zAy (by omega)|exact zAu rfl|exact zAN rfl|exact zAA|exact le_refl _|refine And.intro ?_ ?_))
    refine zFx ?_
    rw [hnext]
    have h4:(decide (x.up=up)&&decide ((i:Int)=at'))=true:=by
     simp at h3 ⊢
     exact h3
    rw [if_pos h4]
    simp only [zHM,zO8,hev,List.append_assoc]
    try rfl
   ·try simp (maxSteps:=2000000) only [go_sem,zJ2 _ _ hlt]
    repeat with_reducible refine zAb ?_
    refine zAq (by repeat' constructor) (Contract.av (hc) (by first|rfl|(simp (maxSteps:=2000000) only [go_sem];done)|(simp (maxSteps:=2000000) only [go_sem];rfl))) ?_
    try simp (maxSteps:=2000000) only [go_sem]
    repeat with_reducible refine zAb ?_
    refine ⟨i+1,by omega,hlt,?_⟩
    simp (maxSteps:=2000000) only [go_sem,zAn,zAw,zAJ,zAo]
    all_goals (repeat' (first|exact trivial|exact zAy (by omega)|exact zAu rfl|exact zAN rfl|exact zAA|exact le_refl _|refine And.intro ?_ ?_))
    refine zFx ?_
    rw [hnext]
    have h4:¬ (decide (x.up=up)&&decide ((i:Int)=at'))=true:=by
     simp at h3 ⊢
     exact h3
    rw [if_neg h4]
    simp only [zHM,zO8,List.nil_append]
  ·have hil:i=ks.length:=by simp at h;omega
   subst hil
   rw [List.take_length] at hw ⊢
   have hfin:=yC8 (decide (x.up=up)) at' e (zBP up at' e ks) 0
   rw [zK3,Nat.zero_add] at hfin
   cases hq:(x.up==up) with
   |false=>
    try simp (maxSteps:=2000000) only [go_sem,hq]
    repeat with_reducible refine zAb ?_
    refine zNC (by rfl) trivial ?_
    try simp (maxSteps:=2000000) only [go_sem]
    repeat with_reducible refine zAb ?_
    refine zCO rfl rfl ?_
    have h4:¬ (decide (x.up=up)&&decide (((ks.length:Nat):Int)=at'))=true:=by
     simp at hq ⊢
     intro h6
     exact (hq h6).elim
    rw [hfin,if_neg h4,List.append_nil]
    rfl
   |true=>
    try simp (maxSteps:=2000000) only [go_sem,hq]
    repeat with_reducible refine zAb ?_
    refine zAd (by rfl) trivial (fun h5=>?_) (fun h5=>?_)
    ·try simp (maxSteps:=2000000) only [go_sem]
     repeat with_reducible refine zAb ?_
     refine zCO rfl rfl ?_
     have h4:(decide (x.up=up)&&decide (((ks.length:Nat):Int)=at'))=true:=by
      simp at h5 hq ⊢
      exact ⟨hq,h5.symm⟩
     rw [hfin,if_pos h4,zHM]
     simp only [zO8,hev]
     rfl
    ·try simp (maxSteps:=2000000) only [go_sem]
     repeat with_reducible refine zAb ?_
     refine zCO rfl rfl ?_
     have h4:¬ (decide (x.up=up)&&decide (((ks.length:Nat):Int)=at'))=true:=by
      simp at h5 hq ⊢
      intro h6 h7
      exact h5 h7.symm
     rw [hfin,if_neg h4,List.append_nil]
     rfl
theorem zMP (d:List Nd) (up at':Int) (e:List Nd):Contract Tryz.prog zD7 [.val (zBE d),.val (iv up),.val (iv at'),.val (zBE e)] {res:=.tup [zBE (if zFm d up at' e=0 then yIH d up at' e else []),iv (zFm d up at' e)]}:=by
 unfold zBE
 refine mkA zK1 (base:=0) (fo rfl) (fun hfit=>?_)
 unfold F0 zGe
 simp (maxSteps:=2000000) only [zAM,List.set_cons_succ,List.set_cons_zero,List.map_cons,List.map_nil,zAL,zAa,ioOf,List.length_cons,List.length_nil,Nat.reduceAdd,Nat.reduceSub,List.replicate,List.cons_append,List.nil_append]
 try simp (maxSteps:=2000000) only [go_sem]
 repeat with_reducible refine zAb ?_
 refine zAq (by repeat' constructor) (Contract.av (zCR d) (by first|rfl|(simp (maxSteps:=2000000) only [go_sem];done)|(simp (maxSteps:=2000000) only [go_sem];rfl))) ?_
 try simp (maxSteps:=2000000) only [go_sem]
 repeat with_reducible refine zAb ?_
 refine zAd (by rfl) trivial (fun h=>?_) (fun h=>?_)
 ·try simp (maxSteps:=2000000) only [go_sem]
  repeat with_reducible refine zAb ?_
  have h2:¬ zAi d=0:=by simpa using h
  have h3:zFm d up at' e=zAi d:=by rw [zFm,if_neg h2]
  rw [h3,if_neg h2]
  exact zAR (by simp) ⟨zAH rfl rfl (.inr rfl),zA7 rfl trivial (.inl rfl),rfl⟩
 have hd0:zAi d=0:=by simpa using h
 try simp (maxSteps:=2000000) only [go_sem]
 repeat with_reducible refine zAb ?_
 refine zAq (by repeat' constructor) (Contract.av (zCR e) (by first|rfl|(simp (maxSteps:=2000000) only [go_sem];done)|(simp (maxSteps:=2000000) only [go_sem];rfl))) ?_
 try simp (maxSteps:=2000000) only [go_sem]
 repeat with_reducible refine zAb ?_
 refine zAd (by rfl) trivial (fun h3=>?_) (fun h3=>?_)
 ·try simp (maxSteps:=2000000) only [go_sem]
  repeat with_reducible refine zAb ?_
  have h2:¬ zAi e=0:=by simpa using h3
  have h3:zFm d up at' e=zAi e:=by rw [zFm,if_pos hd0,if_neg h2]
  rw [h3,if_neg h2]
  exact zAR (by simp) ⟨zAH rfl rfl (.inr rfl),zA7 rfl trivial (.inl rfl),rfl⟩
 have he0:zAi e=0:=by simpa using h3
 obtain ⟨d1,d2,d3⟩:=zAO hd0
 obtain ⟨e1,e2,e3⟩:=zAO he0
 try simp (maxSteps:=2000000) only [go_sem]
 repeat with_reducible refine zAb ?_
 refine zAq (by repeat' constructor) (zDW up 0 (d.length-1)) ?_
 try simp (maxSteps:=2000000) only [go_sem]
 repeat with_reducible refine zAb ?_
 refine zAd (by rfl) trivial (fun h5=>?_) (fun h5=>?_)
 ·try simp (maxSteps:=2000000) only [go_sem]
  repeat with_reducible refine zAb ?_
  have h6:up < 0∨up≥d.length:=by simp at h5;omega
  have h7:zFm d up at' e=5:=by rw [zFm,if_pos hd0,if_pos he0,if_pos h6]
  rw [h7,if_neg (by omega)]
  exact zAR (by simp) ⟨zAH rfl rfl (.inr rfl),zA7 rfl trivial (.inl rfl),rfl⟩
 have h6:¬ (up < 0∨up≥d.length):=by simp at h5;omega
 obtain ⟨m,rfl⟩:∃ m:Nat,up=m:=⟨up.toNat,by omega⟩
 have hm:m < d.length:=by omega
 have hkl:(zBf d m).length≤d.length:=zFM _
 have hpl:(zA8 d m).length=(zBf d m).length+1:=by rw [zA8,zCG d3 hm];simp
 try simp (maxSteps:=2000000) only [go_sem]
 repeat with_reducible refine zAb ?_
 refine zBa (by repeat' constructor) (Contract.av (zEX d m d2) (by first|rfl|(simp (maxSteps:=2000000) only [go_sem];done)|(simp (maxSteps:=2000000) only [go_sem];rfl))) ?_
 try simp (maxSteps:=2000000) only [go_sem]
 repeat with_reducible refine zAb ?_
 refine zAq (by repeat' constructor) (zDW at' 0 (zBf d m).length) ?_
 try simp (maxSteps:=2000000) only [go_sem]
 repeat with_reducible refine zAb ?_
 refine zAd (by rfl) trivial (fun h7=>?_) (fun h7=>?_)
 ·try simp (maxSteps:=2000000) only [go_sem]
  repeat with_reducible refine zAb ?_
  have h8:at' < 0∨at'≥(zA8 d (m:Int).toNat).length:=by rw [Int.toNat_natCast,hpl];simp at h7;omega
  have h9:zFm d m at' e=3:=by rw [zFm,if_pos hd0,if_pos he0,if_neg h6,if_pos h8]
  rw [h9,if_neg (by omega)]
  exact zAR (by simp) ⟨zAH rfl rfl (.inr rfl),zA7 rfl trivial (.inl rfl),rfl⟩
 have h8:¬ (at' < 0∨at'≥(zA8 d (m:Int).toNat).length):=by rw [Int.toNat_natCast,hpl];simp at h7;omega
 try simp (maxSteps:=2000000) only [go_sem]
 repeat with_reducible refine zAb ?_
 refine zAd (by rfl) trivial (fun h9=>?_) (fun h9=>?_)
 ·try simp (maxSteps:=2000000) only [go_sem]
  repeat with_reducible refine zAb ?_
  have h10:d.length+e.length > 64:=by simp at h9;omega
  have h11:zFm d m at' e=2:=by rw [zFm,if_pos hd0,if_pos he0,if_neg h6,if_neg h8,if_pos h10]
  rw [h11,if_neg (by omega)]
  exact zAR (by simp) ⟨zAH rfl rfl (.inr rfl),zA7 rfl trivial (.inl rfl),rfl⟩
 have h10:¬ d.length+e.length > 64:=by simp at h9;omega
 have h11:zFm d m at' e=0:=by rw [zFm,if_pos hd0,if_pos he0,if_neg h6,if_neg h8,if_neg h10]
 rw [h11,if_pos rfl]
 have hse:szT (zBY e e.length 0)≤64:=by
  rw [zVu e3 (by omega)]
  have:=zAv (d:=e) (n:=0) (by omega)
  omega
 have hsd:szT (zBS d d.length 0)≤64:=by
  rw [zVx,zVu d3 (by omega)]
  have:=zAv (d:=d) (n:=0) (by omega)
  omega
 have hsw:=yAu m at' (zJd (zBY e e.length 0)) (zBS d d.length 0)
 rw [yDa] at hsw
 have hsw2:szT (zHZ m at' (zJd (zBY e e.length 0)) (zBS d d.length 0))≤64 * 65:=Nat.le_trans hsw (Nat.mul_le_mul hsd (by omega))
 try simp (maxSteps:=2000000) only [go_sem]
 repeat with_reducible refine zAb ?_
 refine zAq (by repeat' constructor) (Contract.av (zHo d d3 d2 d.length 0 (by omega) (by omega)) (by first|rfl|(simp (maxSteps:=2000000) only [go_sem];done)|(simp (maxSteps:=2000000) only [go_sem];rfl))) ?_
 try simp (maxSteps:=2000000) only [go_sem]
 repeat with_reducible refine zAb ?_
 refine zNE (by repeat' constructor) (Contract.av (zXF e e3 e2 e.length 0 (by omega) (by omega)) (by first|rfl|(simp (maxSteps:=2000000) only [go_sem];done)|(simp (maxSteps:=2000000) only [go_sem];rfl))) ?_
 try simp (maxSteps:=2000000) only [go_sem]
 repeat with_reducible refine zAb ?_
 refine yIl (by rfl) (zXE _ _ hse (by omega)) (yAr _) ?_
 try simp (maxSteps:=2000000) only [go_sem]
 repeat with_reducible refine zAb ?_
 refine zAq (by repeat' constructor) (Contract.av (zSz _ (zBS d d.length 0) m at' (zJd (zBY e e.length 0)) (Nat.le_refl _) (by omega)) (by first|rfl|(simp (maxSteps:=2000000) only [go_sem];done)|(simp (maxSteps:=2000000) only [go_sem];rfl))) ?_
 try simp (maxSteps:=2000000) only [go_sem]
 repeat with_reducible refine zAb ?_
 refine zBa (by repeat' constructor) (Contract.av (zPb _ (zHZ m at' (zJd (zBY e e.length 0)) (zBS d d.length 0)) [] (-1) (Nat.le_refl _) (by simp;omega)) (by first|rfl|(simp (maxSteps:=2000000) only [go_sem];done)|(simp (maxSteps:=2000000) only [go_sem];rfl))) ?_
 try simp (maxSteps:=2000000) only [go_sem]
 repeat with_reducible refine zAb ?_
 exact zAR (by simp) ⟨zAH rfl rfl (.inl rfl),zA7 rfl trivial (.inl rfl),rfl⟩
end Go.Hx
end
