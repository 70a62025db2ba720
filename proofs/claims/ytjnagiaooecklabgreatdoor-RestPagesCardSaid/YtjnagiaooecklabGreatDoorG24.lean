/-
  Walks of functions of the program over an abstract layer, and the laws that they use: each contract says what the function computes, for every input that its conditions let by. No other condition.
-/
import Derived.Test.YtjnagiaooecklabGreatDoorG11
import Derived.Test.YtjnagiaooecklabGreatDoorG20
import Derived.Test.YtjnagiaooecklabGreatDoorG23
import Derived.Test.YtjnagiaooecklabGreatDoorG15
import Derived.Test.YtjnagiaooecklabGreatDoorG12
set_option linter.all false
section
set_option maxRecDepth 100000
namespace Go.Hx
open Go.Proofs
variable [Glob] [GlobL]
attribute [local go_sem] zAh zAj zAg zAd ndV zAm
attribute [local go_sem] reduceCtorEq Nat.reduceAdd Nat.reduceEqDiff reduceIte Nat.reduceLeDiff Nat.reduceLT Nat.reduceSub
theorem zCc (l:List Bys) (hl:l.length≤64):Contract Tryz.prog zBe [.val (.one (.sl 1 (yCG l)))] {res:=.own zE6 1 (yCG l)}:=by
 refine mkA zJw (base:=0) (fo rfl) (fun hfit=>?_)
 unfold F0 zE7
 refine goU ?_
 intro b hb
 refine zAa (by rfl) trivial (fun h=>?_) (fun h=>?_)
 ·refine goW ?_
  have:yCG l=[]:=by
   apply Classical.byContradiction
   intro h2;rw [hb h2] at h;cases h
  rw [this]
  exact zDb rfl
 ·refine goW ?_
  exact zDb rfl
theorem zCE (l:List (Bys×Bys)) (hl:l.length≤64):Contract Tryz.prog zBt [.val (.one (.sl 2 (yCH l)))] {res:=.own zDX 2 (yCH l)}:=by
 refine mkA zLl (base:=0) (fo rfl) (fun hfit=>?_)
 unfold F0 zFW
 refine goU ?_
 intro b hb
 refine zAa (by rfl) trivial (fun h=>?_) (fun h=>?_)
 ·refine goW ?_
  have:yCH l=[]:=by
   apply Classical.byContradiction
   intro h2;rw [hb h2] at h;cases h
  rw [this]
  exact zDb rfl
 ·refine goW ?_
  exact zDb rfl
def zBS (g:Int→Int) (x:Nd):Nd:={x with up:=g x.up}
def yK4 (x:Nd):Prop:=x.cls.length≤64∧x.att.length≤64
theorem zTs {l:List Nd} {i:Nat} (h:i < l.length):l.getD i default∈l:=by
 simp [h]
theorem zKJ (l:List Nd) (f:Nat) (caps:List PV) (g:Int→Int) (hl:l.length≤64) (hs:∀ x∈l,yK4 x)
  (hg:∀ x∈l,Contract Tryz.prog f ([.val (iv x.up)]++caps.map fun c=>.val (.one c)) {res:=.val (iv (g x.up))}):
  Contract Tryz.prog zCU [.val (.one (.sl 5 (zDW l))),.val (.one (.clo f caps))] {res:=.own zAC 5 (zDW (l.map (zBS g)))}:=by
 refine mkA yNY (base:=0) (fo rfl) (fun hfit=>?_)
 unfold F0 yHq
 refine goU ?_
 refine zAc (fun i:Nat=>[(5,.own zAC 5 (zDW ((l.take i).map (zBS g)))),(7,.un),(10,.pv (iv i)),(11,.un),(33,.un),(34,.un),(35,.un),(36,.un),(37,.un)]) (fun i:Nat=>l.length-i) (fun i:Nat=>i≤l.length) (0) ?_ (Nat.zero_le _) ?_
 focus (exact leA)
 intro i hi
 refine goW ?_
 refine zAa (by rfl) trivial (fun h=>?_) (fun h=>?_)
 ·have hlt:i < l.length:=by simpa using h
  have hmem:=zTs hlt
  obtain ⟨hs1,hs2⟩:=hs _ hmem
  try simp (maxSteps:=2000000) only [go_sem,zBv _ _ hlt]
  repeat with_reducible refine zAt ?_
  refine zBX (by rfl) trivial (by repeat' constructor) (hg _ hmem) ?_
  refine goW ?_
  refine zA3 (by repeat' constructor) (zCc _ hs1) ?_
  refine goW ?_
  refine zA3 (by repeat' constructor) (zCE _ hs2) ?_
  refine goW ?_
  refine ⟨i+1,by omega,hlt,?_⟩
  simp (maxSteps:=2000000) only [go_sem,zAu,zAE,zA9,zAv]
  all_goals (repeat' (first|exact trivial|exact zAI (by omega)|exact zAB rfl|exact zAU rfl|exact zAW|exact le_refl _|refine And.intro ?_ ?_))
  refine zBk ?_
  rw [zEu default hlt,zNM]
  rfl
 ·refine goW ?_
  have:i=l.length:=by simp at h;omega
  subst this
  rw [List.take_length]
  exact zDb rfl
theorem yK5 (up:Int):Contract Tryz.prog zGt [.val (iv up)] {res:=.val (iv up)}:=by
 refine mkA yHw (base:=0) (fo rfl) (fun hfit=>?_)
 unfold F0 zVu
 refine goU ?_
 refine goW ?_
 refine zAb rfl trivial (.inl ?_)
 congr 3
theorem zLK (up n e:Int) (h1:-1000≤up∧up≤1000) (h2:-1000≤n∧n≤1000) (h3:-1000≤e∧e≤1000):Contract Tryz.prog zDh [.val (iv up),.val (.one (.fp [bI e])),.val (.one (.fp [bI n]))] {res:=.val (iv (if up≥e then up-e+n else up))}:=by
 refine mkA zVt (base:=0) (fo rfl) (fun hfit=>?_)
 unfold F0 zLE
 refine goU ?_
 refine zAa (by rfl) trivial (fun h=>?_) (fun h=>?_)
 ·refine goW ?_
  refine zAb rfl trivial (.inl ?_)
  congr 3
  rw [if_pos (by simpa using h)]
 ·refine goW ?_
  refine zAb rfl trivial (.inl ?_)
  congr 3
  rw [if_neg (by simpa using h)]
theorem zLL (up n:Int) (e:List Nd) (h1:-1000≤up∧up≤1000) (h2:-1000≤n∧n≤1000) (h3:e.length≤64):Contract Tryz.prog zDf [.val (iv up),.val (.one (.fp [bI n])),.val (.one (.fp [.sl 5 (zDW e)]))] {res:=.val (iv (if up≥n then up+e.length else up))}:=by
 refine mkA zVj (base:=0) (fo rfl) (fun hfit=>?_)
 unfold F0 zLC
 refine goU ?_
 refine zAa (by rfl) trivial (fun h=>?_) (fun h=>?_)
 ·refine goW ?_
  refine zAb rfl trivial (.inl ?_)
  congr 3
  rw [if_pos (by simpa using h)]
 ·refine goW ?_
  refine zAb rfl trivial (.inl ?_)
  congr 3
  rw [if_neg (by simpa using h)]
theorem yAh (k n up:Int) (h1:-1000≤k∧k≤1000) (h2:-1000≤n∧n≤1000):Contract Tryz.prog zEo [.val (iv k),.val (.one (.fp [bI up])),.val (.one (.fp [bI n]))] {res:=.val (iv (if k < 0 then up else k+n))}:=by
 refine mkA zVo (base:=0) (fo rfl) (fun hfit=>?_)
 unfold F0 zLD
 refine goU ?_
 refine zAa (by rfl) trivial (fun h=>?_) (fun h=>?_)
 ·refine goW ?_
  refine zAb rfl trivial (.inl ?_)
  congr 3
  rw [if_pos (by simpa using h)]
 ·refine goW ?_
  refine zAb rfl trivial (.inl ?_)
  congr 3
  rw [if_neg (by simpa using h)]
def sls (ls:List (List Nd)):List (List PV):=ls.map fun l=>[.sl 5 (zDW l)]
theorem yFr (ls:List (List Nd)):(sls ls).length=ls.length:=by simp [sls]
theorem yP3 (ls:List (List Nd)) (i:Nat) (h:i < ls.length):(sls ls).getD i []=[.sl 5 (zDW (ls.getD i []))]:=by simp [sls,h]
theorem zGY (ls:List (List Nd)) (i:Nat) (h:i < ls.length):(ls.take (i+1)).flatten=(ls.take i).flatten++ls.getD i []:=by
 rw [zI6 [] h];simp
theorem yMs (ls:List (List Nd)) (i:Nat) (h:i < ls.length):(ls.take i).flatten.length+(ls.getD i []).length≤ls.flatten.length:=by
 have e:ls.flatten=(ls.take (i+1)).flatten++(ls.drop (i+1)).flatten:=by rw [←List.flatten_append,List.take_append_drop]
 rw [e,zGY ls i h];simp
theorem zFr (ls:List (List Nd)) (hl:ls.flatten.length≤1000) (hn:ls.length≤10):Contract Tryz.prog zCa [.val (.one (.sl 1 (sls ls)))] {res:=.own zAC 5 (zDW ls.flatten)}:=by
 refine mkA zKk (base:=0) (fo rfl) (fun hfit=>?_)
 unfold F0 zFp
 refine goU ?_
 try simp (maxSteps:=2000000) only [go_sem,yFr]
 repeat with_reducible refine zAt ?_
 refine zAc (fun i:Nat=>[(3,.pv (iv ((ls.take i).flatten.length))),(5,.un),(11,.pv (iv i)),(12,.un),(20,.un)]) (fun i:Nat=>ls.length-i) (fun i:Nat=>i≤ls.length) (0) ?_ (Nat.zero_le _) ?_
 focus (exact leA)
 intro i hi
 refine goW ?_
 refine zAa (by rfl) trivial (fun h=>?_) (fun h=>?_)
 ·have hlt:i < ls.length:=by simpa using h
  have hfl:=yMs ls i hlt
  try simp (maxSteps:=2000000) only [go_sem,yFr,yP3 _ _ hlt]
  repeat with_reducible refine zAt ?_
  refine zAa (by rfl) trivial (fun h2=>?_) (fun h2=>?_)
  ·exfalso;simp at h2;omega
  ·refine goW ?_
   refine ⟨i+1,by omega,hlt,?_⟩
   simp (maxSteps:=2000000) only [go_sem,zAu,zAE,zA9,zAv]
   all_goals (repeat' (first|exact trivial|exact zAI (by omega)|exact zAB rfl|exact zAU rfl|exact zAW|exact le_refl _|refine And.intro ?_ ?_))
   rw [zGY ls i hlt]
   exact zAI (by simp)
 refine goW ?_
 have hi2:i=ls.length:=by simp at h;omega
 subst hi2
 rw [List.take_length]
 refine zA3 (by repeat' constructor) (zNX _ hl) ?_
 refine goW ?_
 try simp (maxSteps:=2000000) only [go_sem,yFr]
 repeat with_reducible refine zAt ?_
 refine zAc (fun i:Nat=>[(6,.own zAC 5 (zDW (ls.take i).flatten)),(8,.un),(27,.pv (iv i)),(28,.un)]) (fun i:Nat=>ls.length-i) (fun i:Nat=>i≤ls.length) (0) ?_ (Nat.zero_le _) ?_
 focus (exact leA)
 intro i hi
 refine goW ?_
 refine zAa (by rfl) trivial (fun h=>?_) (fun h=>?_)
 ·have hlt:i < ls.length:=by simpa using h
  have hfl:=yMs ls i hlt
  try simp (maxSteps:=2000000) only [go_sem,yFr,yP3 _ _ hlt]
  repeat with_reducible refine zAt ?_
  refine ⟨i+1,by omega,hlt,?_⟩
  simp (maxSteps:=2000000) only [go_sem,zAu,zAE,zA9,zAv]
  all_goals (repeat' (first|exact trivial|exact zAI (by omega)|exact zAB rfl|exact zAU rfl|exact zAW|exact le_refl _|refine And.intro ?_ ?_))
  rw [zGY ls i hlt,zNM]
  exact zBk rfl
 refine goW ?_
 have hi2:i=ls.length:=by simp at h;omega
 subst hi2
 rw [List.take_length]
 exact zDb rfl
end Go.Hx
end

section
set_option maxRecDepth 100000
namespace Go.Hx
open Go.Proofs
variable [Glob] [GlobL]
attribute [local go_sem] zAh zAj zAg zAd ndV zAm List.take_length
attribute [local go_sem] reduceCtorEq Nat.reduceAdd Nat.reduceEqDiff reduceIte Nat.reduceLeDiff Nat.reduceLT Nat.reduceSub
theorem yP4 (d:List Nd) (n:Nat):(zDW d).take n=zDW (d.take n):=by simp [zDW]
attribute [local go_sem] yP4
theorem yP5 (d:List Nd) (n:Nat):(zDW d).drop n=zDW (d.drop n):=by simp [zDW]
attribute [local go_sem] yP5
theorem yP6 {l:List Int} {i:Nat} (h:i < l.length):l.getD i 0∈l:=by simp [h]
theorem yUL {d:List Nd} {x:Nd} (h:x∈d):∃ i,i < d.length∧d.getD i default=x:=by
 obtain ⟨i,hi,e⟩:=List.getElem_of_mem h
 exact ⟨i,hi,by simp [hi,e]⟩
theorem zCN {d:List Nd} (hd:zDI d d.length=true) (hl:d.length≤64) {x:Nd} (h:x∈d):yK4 x∧-1000≤x.up∧x.up≤1000:=by
 obtain ⟨i,hi,rfl⟩:=yUL h
 have h1:=zBD (zCY hd hi)
 have h2:=zB3 hd i hi
 simp only [zAZ] at h2
 exact ⟨⟨by omega,by omega⟩,by omega,by omega⟩
def yK6 (d:List Nd) (n:Nat):List Nd:=((d.take (zAf d n)).drop n).map (zBS fun up=>max (up-n) (-1))
def zCO (d:List Nd) (n:Nat):List Nd:=[(d.take n).map (zBS fun k=>if k≥zAf d n then k-zAf d n+n else k),(d.drop (zAf d n)).map (zBS fun k=>if k≥zAf d n then k-zAf d n+n else k)].flatten
def yI2 (d:List Nd) (k:Int):Int:=if zD9 d k=0 then (if k=0 then 3 else 0) else zD9 d k
theorem yIl (d:List Nd) (k:Int):Contract Tryz.prog zIZ [.val (zB6 d),.val (iv k)] {res:=.tup [zB6 (if yI2 d k=0 then zCO d k.toNat else []),iv (yI2 d k)]}:=by
 unfold zB6
 refine mkA yEf (base:=0) (fo rfl) (fun hfit=>?_)
 unfold F0 zQx
 refine goU ?_
 refine zAe (by repeat' constructor) (zW1 d k) ?_
 refine goW ?_
 refine zAa (by rfl) trivial (fun h=>?_) (fun h=>?_)
 ·refine goW ?_
  have h2:¬ zD9 d k=0:=by simpa using h
  have h3:yI2 d k=zD9 d k:=by simp [yI2,h2]
  rw [h3,if_neg h2]
  exact zAL (by simp) ⟨zAN rfl rfl (.inr rfl),zA5 rfl trivial (.inl rfl),rfl⟩
 have h2:zD9 d k=0:=by simpa using h
 obtain ⟨h3,h4,h5⟩:=zNN h2
 obtain ⟨h6,h7,h8⟩:=zA0 h3
 obtain ⟨m,rfl⟩:∃ m:Nat,k=m:=⟨k.toNat,by omega⟩
 refine goW ?_
 refine zAa (by rfl) trivial (fun h9=>?_) (fun h9=>?_)
 ·refine goW ?_
  have h10:(m:Int)=0:=by simpa using h9
  have h3:yI2 d m=3:=by rw [yI2,if_pos h2,if_pos h10]
  rw [h3,if_neg (by omega)]
  exact zAL (by simp) ⟨zAN rfl rfl (.inr rfl),zA5 rfl trivial (.inl rfl),rfl⟩
 have h10:¬ (m:Int)=0:=by simpa using h9
 have hr:yI2 d m=0:=by simp only [yI2,h2,h10,if_true,if_false]
 rw [hr,if_pos rfl]
 have hm:m < d.length:=by omega
 have hb:=zAy hm
 refine goW ?_
 refine zAe (by repeat' constructor) (Contract.av (zGC d m hm) (by first|rfl|(simp (maxSteps:=2000000) only [go_sem];done)|(simp (maxSteps:=2000000) only [go_sem];rfl))) ?_
 refine goW ?_
 have hs1:∀ x∈d.take m,x∈d:=fun x hx=>List.mem_of_mem_take hx
 have hs2:∀ x∈d.drop (zAf d m),x∈d:=fun x hx=>List.mem_of_mem_drop hx
 refine zA3 (by repeat' constructor) (Contract.av (zKJ (d.take m) zDh [.fp [bI (zAf d m)],.fp [bI m]] (fun k=>if k≥zAf d m then k-zAf d m+m else k) (by simp;omega) (fun x hx=>(zCN h8 h7 (hs1 x hx)).1) (fun x hx=>zLK x.up m (zAf d m) (zCN h8 h7 (hs1 x hx)).2 (by omega) (by omega))) (by first|rfl|(simp (maxSteps:=2000000) only [go_sem];done)|(simp (maxSteps:=2000000) only [go_sem];rfl))) ?_
 refine goW ?_
 refine zA3 (by repeat' constructor) (Contract.av (zKJ (d.drop (zAf d m)) zDh [.fp [bI (zAf d m)],.fp [bI m]] (fun k=>if k≥zAf d m then k-zAf d m+m else k) (by simp;omega) (fun x hx=>(zCN h8 h7 (hs2 x hx)).1) (fun x hx=>zLK x.up m (zAf d m) (zCN h8 h7 (hs2 x hx)).2 (by omega) (by omega))) (by first|rfl|(simp (maxSteps:=2000000) only [go_sem];done)|(simp (maxSteps:=2000000) only [go_sem];rfl))) ?_
 refine goW ?_
 refine zA3 (by repeat' constructor) (Contract.av (zFr [(d.take m).map (zBS fun k=>if k≥zAf d m then k-zAf d m+m else k),(d.drop (zAf d m)).map (zBS fun k=>if k≥zAf d m then k-zAf d m+m else k)] (by simp;omega) (by simp)) (by first|rfl|(simp (maxSteps:=2000000) only [go_sem];done)|(simp (maxSteps:=2000000) only [go_sem];rfl))) ?_
 refine goW ?_
 exact zAL (by simp) ⟨zAN rfl rfl (.inl rfl),zA5 rfl trivial (.inl rfl),rfl⟩
theorem yIm {d:List Nd} {n:Nat} (hb:zAf d n≤d.length):∀ (f i:Nat),(zE9 d n f i).length≤f∧∀ x∈zE9 d n f i,(i:Int)≤x∧x < d.length
 |0,i=>by simp [zE9]
 |f+1,i=>by
  simp only [zE9]
  split
  ·rename_i h
   have h1:=zAy (d:=d) (n:=i) (by omega)
   have h2:=yIm hb f (zAf d i)
   refine ⟨by simp;omega,fun x hx=>?_⟩
   rcases List.mem_cons.1 hx with rfl|hx
   ·omega
   ·have:=h2.2 x hx;omega
  ·simp
theorem yFs {d:List Nd} {n:Nat} (hn:n < d.length):(zC3 d n).length≤d.length∧∀ x∈zC3 d n++[(zAf d n:Int)],(n:Int) < x∧x≤d.length:=by
 have hb:=zAy hn
 have h:=yIm hb.2 d.length (n+1)
 refine ⟨h.1,fun x hx=>?_⟩
 rcases List.mem_append.1 hx with hx|hx
 ·have:=h.2 x hx;omega
 ·simp at hx;omega
def zBl (d:List Nd) (up:Nat):List Int:=zC3 d up++[(zAf d up:Int)]
def zEz (d:List Nd) (up at':Int) (e:List Nd):Int:=
 if zAl d=0 then (if zAl e=0 then (if up < 0∨up≥d.length then 5 else if at' < 0∨at'≥(zBl d up.toNat).length then 3 else if d.length+e.length > 64 then 2 else 0) else zAl e) else zAl d
def zA7 (d:List Nd) (up:Int) (n:Nat) (e:List Nd):List Nd:=
 [(d.take n).map (zBS fun k=>if k≥n then k+e.length else k),e.map (zBS fun k=>if k < 0 then up else k+n),(d.drop n).map (zBS fun k=>if k≥n then k+e.length else k)].flatten
def zBO (d:List Nd) (up at':Int) (e:List Nd):List Nd:=zA7 d up ((zBl d up.toNat).getD at'.toNat 0).toNat e
theorem yIo (d:List Nd) (up at':Int) (e:List Nd):Contract Tryz.prog zIY [.val (zB6 d),.val (iv up),.val (iv at'),.val (zB6 e)] {res:=.tup [zB6 (if zEz d up at' e=0 then zBO d up at' e else []),iv (zEz d up at' e)]}:=by
 unfold zB6
 refine mkA yD5 (base:=0) (fo rfl) (fun hfit=>?_)
 unfold F0 zQw
 refine goU ?_
 refine zAe (by repeat' constructor) (zI8 d) ?_
 refine goW ?_
 refine zAa (by rfl) trivial (fun h=>?_) (fun h=>?_)
 ·refine goW ?_
  have h2:¬ zAl d=0:=by simpa using h
  have h3:zEz d up at' e=zAl d:=by rw [zEz,if_neg h2]
  rw [h3,if_neg h2]
  exact zAL (by simp) ⟨zAN rfl rfl (.inr rfl),zA5 rfl trivial (.inl rfl),rfl⟩
 have h2:zAl d=0:=by simpa using h
 obtain ⟨h6,h7,h8⟩:=zA0 h2
 refine goW ?_
 refine zAe (by repeat' constructor) (zI8 e) ?_
 refine goW ?_
 refine zAa (by rfl) trivial (fun h=>?_) (fun h=>?_)
 ·refine goW ?_
  have h3:¬ zAl e=0:=by simpa using h
  have h4:zEz d up at' e=zAl e:=by rw [zEz,if_pos h2,if_neg h3]
  rw [h4,if_neg h3]
  exact zAL (by simp) ⟨zAN rfl rfl (.inr rfl),zA5 rfl trivial (.inl rfl),rfl⟩
 have h3:zAl e=0:=by simpa using h
 obtain ⟨g6,g7,g8⟩:=zA0 h3
 refine goW ?_
 refine zAa (by rfl) trivial (fun h=>?_) (fun h=>?_)
 ·refine goW ?_
  have h4:up < 0∨up≥d.length:=by grind
  have h5:zEz d up at' e=5:=by rw [zEz,if_pos h2,if_pos h3,if_pos h4]
  rw [h5,if_neg (by omega)]
  exact zAL (by simp) ⟨zAN rfl rfl (.inr rfl),zA5 rfl trivial (.inl rfl),rfl⟩
 have h4:¬ (up < 0∨up≥d.length):=by grind
 obtain ⟨m,rfl⟩:∃ m:Nat,up=m:=⟨up.toNat,by omega⟩
 have hm:m < d.length:=by omega
 have hb:=zAy hm
 obtain ⟨hkl,hpl⟩:=yFs hm
 refine goW ?_
 refine zA3 (by repeat' constructor) (Contract.av (yOu d m hm h7) (by first|rfl|(simp (maxSteps:=2000000) only [go_sem];done)|(simp (maxSteps:=2000000) only [go_sem];rfl))) ?_
 refine goW ?_
 refine zAe (by repeat' constructor) (Contract.av (zGC d m hm) (by first|rfl|(simp (maxSteps:=2000000) only [go_sem];done)|(simp (maxSteps:=2000000) only [go_sem];rfl))) ?_
 refine goW ?_
 have hpl':(zC3 d m).length≤64:=by omega
 have happ:zAM (zC3 d m)++[[PV.v (Value.int IntKind.i64 ↑(zAf d m))]]=zAM (zBl d m):=by simp [zBl,zAM]
 rw [happ]
 have hlp:(zBl d m).length=(zC3 d m).length+1:=by simp [zBl]
 refine goW ?_
 refine zAa (by rfl) trivial (fun h=>?_) (fun h=>?_)
 ·refine goW ?_
  have h5:at' < 0∨at'≥(zBl d (m:Int).toNat).length:=by grind
  have h6:zEz d m at' e=3:=by rw [zEz,if_pos h2,if_pos h3,if_neg h4,if_pos h5]
  rw [h6,if_neg (by omega)]
  exact zAL (by simp) ⟨zAN rfl rfl (.inr rfl),zA5 rfl trivial (.inl rfl),rfl⟩
 have h5:¬ (at' < 0∨at'≥(zBl d (m:Int).toNat).length):=by grind
 obtain ⟨p,rfl⟩:∃ p:Nat,at'=p:=⟨at'.toNat,by omega⟩
 have hp:p < (zBl d m).length:=by simp at h5;omega
 refine goW ?_
 refine zAa (by rfl) trivial (fun h=>?_) (fun h=>?_)
 ·refine goW ?_
  have h6:d.length+e.length > 64:=by simp at h;omega
  have h7:zEz d m p e=2:=by rw [zEz,if_pos h2,if_pos h3,if_neg h4,if_neg h5,if_pos h6]
  rw [h7,if_neg (by omega)]
  exact zAL (by simp) ⟨zAN rfl rfl (.inr rfl),zA5 rfl trivial (.inl rfl),rfl⟩
 have h6':¬ d.length+e.length > 64:=by simp at h;omega
 have hie:zEz d m p e=0:=by rw [zEz,if_pos h2,if_pos h3,if_neg h4,if_neg h5,if_neg h6']
 rw [hie,if_pos rfl]
 have hx:=hpl ((zBl d m).getD p 0) (yP6 (l:=zBl d m) hp)
 obtain ⟨n,hn⟩:∃ n:Nat,(zBl d m).getD p 0=n:=⟨((zBl d m).getD p 0).toNat,by omega⟩
 have hdi:zBO d m p e=zA7 d m n e:=by simp only [zBO,Int.toNat_natCast,hn]
 rw [hdi]
 rw [hn] at hx
 try simp (maxSteps:=2000000) only [go_sem,zDc _ _ hp,hn]
 repeat with_reducible refine zAt ?_
 have hs1:∀ x∈d.take n,x∈d:=fun x hx=>List.mem_of_mem_take hx
 have hs2:∀ x∈d.drop n,x∈d:=fun x hx=>List.mem_of_mem_drop hx
 refine zA3 (by repeat' constructor) (Contract.av (zKJ (d.take n) zDf [.fp [bI n],.fp [.sl 5 (zDW e)]] (fun k=>if k≥n then k+e.length else k) (by simp;omega) (fun x hx=>(zCN h8 h7 (hs1 x hx)).1) (fun x hx=>zLL x.up n e (zCN h8 h7 (hs1 x hx)).2 (by omega) (by omega))) (by first|rfl|(simp (maxSteps:=2000000) only [go_sem];done)|(simp (maxSteps:=2000000) only [go_sem];rfl))) ?_
 refine goW ?_
 refine zA3 (by repeat' constructor) (Contract.av (zKJ e zEo [.fp [bI m],.fp [bI n]] (fun k=>if k < 0 then (m:Int) else k+n) (by omega) (fun x hx=>(zCN g8 g7 hx).1) (fun x hx=>yAh x.up n m (zCN g8 g7 hx).2 (by omega))) (by first|rfl|(simp (maxSteps:=2000000) only [go_sem];done)|(simp (maxSteps:=2000000) only [go_sem];rfl))) ?_
 refine goW ?_
 refine zA3 (by repeat' constructor) (Contract.av (zKJ (d.drop n) zDf [.fp [bI n],.fp [.sl 5 (zDW e)]] (fun k=>if k≥n then k+e.length else k) (by simp;omega) (fun x hx=>(zCN h8 h7 (hs2 x hx)).1) (fun x hx=>zLL x.up n e (zCN h8 h7 (hs2 x hx)).2 (by omega) (by omega))) (by first|rfl|(simp (maxSteps:=2000000) only [go_sem];done)|(simp (maxSteps:=2000000) only [go_sem];rfl))) ?_
 refine goW ?_
 refine zA3 (by repeat' constructor) (Contract.av (zFr [(d.take n).map (zBS fun k=>if k≥n then k+e.length else k),e.map (zBS fun k=>if k < 0 then (m:Int) else k+n),(d.drop n).map (zBS fun k=>if k≥n then k+e.length else k)] (by simp;omega) (by simp)) (by first|rfl|(simp (maxSteps:=2000000) only [go_sem];done)|(simp (maxSteps:=2000000) only [go_sem];rfl))) ?_
 refine goW ?_
 exact zAL (by simp) ⟨zAN rfl rfl (.inl rfl),zA5 rfl trivial (.inl rfl),rfl⟩
end Go.Hx
end

section
set_option maxRecDepth 100000
namespace Go.Hx
open Go.Proofs
variable [Glob] [GlobL]
attribute [local go_sem] zAh zAj zAg zAd ndV zAm atV OVal.cells yBd List.drop_succ_cons List.drop_zero List.take_succ_cons List.getD_nil yBt zFO Nat.sub_zero List.map_nil List.map_cons
attribute [local go_sem ↓] yNp yNq
attribute [local go_sem] reduceCtorEq Nat.reduceAdd Nat.reduceEqDiff reduceIte Nat.reduceLeDiff Nat.reduceLT Nat.reduceSub
def zGD (rows:List (List PV)):List (List OV):=rows.map fun r=>r.map .p
theorem yOx (a b:List (List PV)):zGD (a++b)=zGD a++zGD b:=by simp [zGD]
theorem zPp (a:List (List PV)):(zGD a).length=a.length:=by simp [zGD]
attribute [local go_sem] zPp
theorem yBT (rows:List (List PV)) (i:Nat):(zGD rows).getD i []=(rows.getD i []).map .p:=by
 simp only [zGD,List.getD_eq_getElem?_getD,List.getElem?_map]
 cases rows[i]?<;>rfl
theorem yOy {b:Option Nat} {e k:Nat} {rows:List (List PV)}:(OV.os b e k (zGD rows)).frz=some (.sl k rows):=yBs (zFS rows)
theorem yOz (l:List Nd) (f:Nat) (caps:List PV) (g:Int→Int) (hl:l.length≤64) (hs:∀ x∈l,yK4 x)
  (hg:∀ x∈l,Contract Tryz.prog f ([.val (iv x.up)]++caps.map fun c=>.val (.one c)) {res:=.val (iv (g x.up))}):
  Contract Tryz.prog zCU [.val (.one (.sl 5 (zDW l))),.val (.one (.clo f caps))] {res:=.ov (.one (.os none zAC 5 (zGD (zDW (l.map (zBS g))))))}:=by
 refine mkA yKF (base:=0) (fo rfl) (fun hfit=>?_)
 unfold F0 yBO
 refine goU ?_
 refine zAc (fun i:Nat=>[(5,.ov (.one (.os none zAC 5 (zGD (zDW ((l.take i).map (zBS g))))))),(7,.un),(10,.pv (iv i)),(11,.un),(33,.un),(34,.un),(35,.un),(36,.un),(37,.un)]) (fun i:Nat=>l.length-i) (fun i:Nat=>i≤l.length) (0) ?_ (Nat.zero_le _) ?_
 focus (exact leA)
 intro i hi
 refine goW ?_
 refine zAa (by rfl) trivial (fun h=>?_) (fun h=>?_)
 ·have hlt:i < l.length:=by simpa using h
  have hmem:=zTs hlt
  obtain ⟨hs1,hs2⟩:=hs _ hmem
  try simp (maxSteps:=2000000) only [go_sem,zBv _ _ hlt]
  repeat with_reducible refine zAt ?_
  refine zBX (by rfl) trivial (by repeat' constructor) (hg _ hmem) ?_
  refine goW ?_
  refine zA3 (by repeat' constructor) (zCc _ hs1) ?_
  refine goW ?_
  refine zA3 (by repeat' constructor) (zCE _ hs2) ?_
  refine goW ?_
  try simp (maxSteps:=2000000) only [go_sem,zPp]
  repeat with_reducible refine zAt ?_
  refine ⟨i+1,by omega,hlt,?_⟩
  simp (maxSteps:=2000000) only [go_sem,zAu,zAE,zA9,zAv]
  all_goals (repeat' (first|exact trivial|exact zAI (by omega)|exact zAB rfl|exact zAU rfl|exact zAW|exact le_refl _|refine And.intro ?_ ?_))
  refine zAU ?_
  rw [zEu default hlt,zNM,yOx]
  rfl
 ·refine goW ?_
  have:i=l.length:=by simp at h;omega
  subst this
  rw [List.take_length]
  exact yPx rfl
def zR7 (d:List Nd) (n:Nat) (x:Nd):List Nd:=d.set n {x with up:=zAZ d n}
def yI3 (d:List Nd) (k:Int) (x:Nd):Int:=if zD9 d k=0 then (if zBo x then 0 else 1) else zD9 d k
theorem yK7 (d:List Nd):d.map (zBS fun up=>up)=d:=by
 have:(zBS fun up=>up)=id:=by funext x;rfl
 rw [this,List.map_id]
theorem yOA (d:List Nd) (k:Int) (x:Nd):Contract Tryz.prog zPd [.val (zB6 d),.val (iv k),.val (.agg (ndV x))] {res:=.tup [zB6 (if yI3 d k x=0 then zR7 d k.toNat x else []),iv (yI3 d k x)]}:=by
 unfold zB6 ndV
 refine mkA yKQ (base:=0) (fo rfl) (fun hfit=>?_)
 unfold F0 yBP
 refine goU ?_
 refine zAe (by repeat' constructor) (zW1 d k) ?_
 refine goW ?_
 refine zAa (by rfl) trivial (fun h=>?_) (fun h=>?_)
 ·refine goW ?_
  have h2:¬ zD9 d k=0:=by simpa using h
  have h3:yI3 d k x=zD9 d k:=by rw [yI3,if_neg h2]
  rw [h3,if_neg h2]
  exact zAL (by simp) ⟨zAN rfl rfl (.inr rfl),zA5 rfl trivial (.inl rfl),rfl⟩
 have h2:zD9 d k=0:=by simpa using h
 obtain ⟨h3,h4,h5⟩:=zNN h2
 obtain ⟨h6,h7,h8⟩:=zA0 h3
 obtain ⟨m,rfl⟩:∃ m:Nat,k=m:=⟨k.toNat,by omega⟩
 have hm:m < d.length:=by omega
 refine goW ?_
 refine zAe (by repeat' constructor) (Contract.av (zPb x) (by first|rfl|(simp (maxSteps:=2000000) only [go_sem];done)|(simp (maxSteps:=2000000) only [go_sem];rfl))) ?_
 refine goW ?_
 refine zAa (by rfl) trivial (fun h9=>?_) (fun h9=>?_)
 ·refine goW ?_
  have h10:¬ zBo x=true:=by simpa using h9
  have h3:yI3 d m x=1:=by rw [yI3,if_pos h2,if_neg h10]
  rw [h3,if_neg (by omega)]
  exact zAL (by simp) ⟨zAN rfl rfl (.inr rfl),zA5 rfl trivial (.inl rfl),rfl⟩
 have h10:zBo x=true:=by simpa using h9
 have hr:yI3 d m x=0:=by rw [yI3,if_pos h2,if_pos h10]
 rw [hr,if_pos rfl]
 obtain ⟨hf1,hf2⟩:=zBD h10
 refine goW ?_
 refine zUm (by repeat' constructor) (Contract.av (yOz d zGt [] (fun up=>up) h7 (fun x hx=>(zCN h8 h7 hx).1) (fun x hx=>yK5 x.up)) (by first|rfl|(simp (maxSteps:=2000000) only [go_sem];done)|(simp (maxSteps:=2000000) only [go_sem];rfl))) ?_
 refine goW ?_
 rw [yK7]
 intro b
 try simp (maxSteps:=2000000) only [go_sem,yBT,zBv _ _ hm]
 repeat with_reducible refine zAt ?_
 refine zA3 (by repeat' constructor) (zCc _ (by omega)) ?_
 refine goW ?_
 refine zA3 (by repeat' constructor) (zCE _ (by omega)) ?_
 refine goW ?_
 try simp (maxSteps:=2000000) only [go_sem,yBT,zBv _ _ hm]
 repeat with_reducible refine zAt ?_
 have e:(zGD (zDW d)).set m [OV.p (bI (d.getD m default).up),OV.p (bS x.tag),OV.p (bS x.id),OV.p (PV.sl 1 (yCG x.cls)),OV.p (PV.sl 2 (yCH x.att))]=zGD (zDW (zR7 d m x)):=by
  simp only [zGD,zDW,zR7,List.map_set]
  rfl
 rw [e,yOy]
 refine goW ?_
 exact zAL (by simp) ⟨zAN rfl rfl (.inl rfl),zA5 rfl trivial (.inl rfl),rfl⟩
end Go.Hx
end

section
namespace Go.Hx
variable [Glob] [GlobL]
section
variable {d:List Nd} (hd:zDI d d.length=true)
include hd
theorem yMA {k:Nat} (hk:k+1 < d.length):zAZ d (k+1)∈C d k:=by
 have h:=zBi hd hk
 simp only [yCI,yNt,Bool.and_eq_true] at h
 have h2:=h.2
 rw [if_neg (by omega)] at h2
 have h3:zAZ d (k+1)∈zBN d (k+1) (((k+1:Nat):Int)-1):=by simpa using h2
 rw [show (((k+1:Nat):Int)-1)=k by omega] at h3
 unfold C
 rw [zHf d.length (k+1) k (fun j hj=>(zB3 hd j (by omega)).2) (by omega) (by omega)]
 exact h3
omit hd in
theorem zW9 {n:Nat}:∀ (f e:Nat),e+f=d.length→(∀ k,e≤k→k < yK2 d n f e→(n:Int)≤zAZ d k)∧(yK2 d n f e < d.length→zAZ d (yK2 d n f e) < n)
 |0,e,h=>⟨fun k h1 h2=>by simp [yK2] at h2;omega,fun h2=>by simp [yK2] at h2;omega⟩
 |f+1,e,h=>by
  simp only [yK2]
  split
  ·rename_i h1
   have ih:=zW9 (n:=n) f (e+1) (by omega)
   refine ⟨fun k h2 h3=>?_,ih.2⟩
   by_cases e1:k=e
   ·subst e1;exact h1
   ·exact ih.1 k (by omega) h3
  ·rename_i h1
   exact ⟨fun k h2 h3=>by omega,fun _=>by omega⟩
omit hd in
theorem zDL {n:Nat} (hn:n < d.length) {k:Nat} (h1:n < k) (h2:k < zAf d n):(n:Int)≤zAZ d k:=
 (zW9 (d.length-(n+1)) (n+1) (by omega)).1 k h1 h2
omit hd in
theorem zET {n:Nat} (hn:n < d.length) (h:zAf d n < d.length):zAZ d (zAf d n) < n:=
 (zW9 (d.length-(n+1)) (n+1) (by omega)).2 h
theorem zTu {n:Nat} (hn:n < d.length):∀ k,k < d.length→n < k→k < zAf d n→(n:Int)∈C d (zAZ d k):=by
 refine yUQ hd fun k hk ih h1 h2=>?_
 have h3:=zDL hn h1 h2
 have hb:=zAy hn
 rcases yFz hd hk with h|⟨j,h,hj⟩
 ·omega
 ·rw [h] at h3 ⊢
  rw [zGE hd (by omega)]
  by_cases e:n=j
  ·subst e;exact List.mem_cons_self
  ·exact List.mem_cons_of_mem _ (ih j h hj (by omega) (by omega))
theorem yIu {n:Nat} (hn:n < d.length):∀ k,k < d.length→zAf d n≤k→(n:Int)∉C d k:=by
 have hb:=zAy hn
 intro k
 induction k with
 |zero=>intro hk h1;omega
 |succ k ih=>
  intro hk h1 hx
  rw [zGE hd hk] at hx
  rcases List.mem_cons.1 hx with e|hx
  ·omega
  ·by_cases e:zAf d n=k+1
   ·have:=zET hn (by omega)
    rw [e] at this
    have:=yXH hd (by omega) hx
    omega
   ·exact ih (by omega) (by omega) (yYQ hd k (by omega) (yMA hd hk) hx)
theorem zLc {n:Nat} (hn:n < d.length) {k:Nat} (hk:k < d.length) (h:zAf d n≤k):(n:Int)∉C d (zAZ d k):=by
 intro hx
 exact yIu hd hn k hk h (by rw [zGE hd hk];exact List.mem_cons_of_mem _ hx)
omit hd in
theorem zD1 {n:Int} {a:Nat}:∀ {b:Nat},a≤b→(∀ j,a≤j→j < b→zAZ d j≠n)→zA6 d n b=zA6 d n a
 |0,h,_=>by rw [show a=0 by omega]
 |b+1,h,hs=>by
  by_cases e:a=b+1
  ·rw [e]
  ·rw [zDk,if_neg (hs b (by omega) (by omega)),zD1 (by omega) fun j h1 h2=>hs j h1 (by omega)]
omit hd in
theorem zD2 {n i:Nat} (hn:n < d.length) (h1:n < i) (h2:i < zAf d n):zAf d i≤zAf d n:=by
 have hb:=zAy hn
 have hi:i < d.length:=by omega
 apply Classical.byContradiction
 intro h3
 have hb2:=zAy hi
 have h4:=zDL hi (k:=zAf d n) (by omega) (by omega)
 have h5:=zET hn (by omega)
 omega
theorem zLd {n i:Nat} (hn:n < d.length) (h1:n < i) (h2:i < zAf d n) (h3:zAZ d i=n) (h4:zAf d i < zAf d n):zAZ d (zAf d i)=n:=by
 have hb:=zAy hn
 have hi:i < d.length:=by omega
 have hbi:=zAy hi
 have h5:=zDL hn (k:=zAf d i) (by omega) h4
 have h6:=zET hi (by omega)
 obtain ⟨p,hp⟩:∃ p,zAf d i=p+1:=⟨zAf d i-1,by omega⟩
 have h7:=yMA hd (k:=p) (by omega)
 rw [←hp] at h7
 have h8:(i:Int)∈C d p:=by
  rw [zGE hd (by omega)]
  by_cases e:i=p
  ·subst e;exact List.mem_cons_self
  ·exact List.mem_cons_of_mem _ (zTu hd hi p (by omega) (by omega) (by omega))
 have h9:=yYR hd p (by omega) h8 h7 h6
 rw [h3] at h9
 have:=yXH hd (by omega) h9
 omega
theorem zNZ {n:Nat} (hn:n < d.length) (h:n+1 < zAf d n):zAZ d (n+1)=n:=by
 have hb:=zAy hn
 have h1:=zDL hn (k:=n+1) (by omega) h
 have h2:=zB3 hd (n+1) (by omega)
 omega
theorem yRX {n:Nat} (hn:n < d.length):∀ (f i:Nat),n < i→i≤zAf d n→(i < zAf d n→zAZ d i=n)→d.length≤i+f→zA6 d n i++zE9 d n f i=zBr d n:=by
 have hb:=zAy hn
 have hlast:zA6 d n (zAf d n)=zBr d n:=by
  refine (zD1 hb.2 fun j h1 h2 e=>?_).symm
  have:=zLc hd hn h2 h1
  rw [e,zGE hd hn] at this
  exact this List.mem_cons_self
 intro f
 induction f with
 |zero=>
  intro i h1 h2 h3 h4
  have:i=zAf d n:=by omega
  subst this
  simp [zE9,hlast]
 |succ f ih=>
  intro i h1 h2 h3 h4
  simp only [zE9]
  split
  ·rename_i h5
   have hi:i < d.length:=by omega
   have hbi:=zAy hi
   have h6:=ih (zAf d i) (by omega) (zD2 hn h1 h5) (zLd hd hn h1 h5 (h3 h5)) (by omega)
   have h7:zA6 d n (zAf d i)=zA6 d n (i+1):=zD1 hbi.1 fun j h7 h8=>by
    have:=zDL hi (k:=j) (by omega) h8
    omega
   rw [←h6,h7,zDk,if_pos (h3 h5)]
   simp
  ·have:i=zAf d n:=by omega
   subst this
   simp [hlast]
theorem zEa {n:Nat} (hn:n < d.length):zC3 d n=zBr d n:=by
 have hb:=zAy hn
 have h:=yRX hd hn d.length (n+1) (by omega) (by omega) (zNZ hd hn) (by omega)
 rw [zD1 (Nat.zero_le _) fun j _ h2=>by have:=zB3 hd j (by omega);omega] at h
 rw [zC3,←h];simp [zA6]
def seg (d:List Nd) (off:Int) (a b:Nat):List Nd:=(List.range' a (b-a)).map fun j=>{d.getD j default with up:=zAZ d j+off}
omit hd in
theorem yQa (off:Int) (a b:Nat):(seg d off a b).length=b-a:=by simp [seg]
omit hd in
theorem yUS (off:Int) {a b c:Nat} (h1:a≤b) (h2:b≤c):seg d off a b++seg d off b c=seg d off a c:=by
 unfold seg
 rw [←List.map_append]
 congr 1
 have:=List.range'_append (s:=a) (m:=b-a) (n:=c-b) (step:=1)
 rw [show a+1 * (b-a)=b by omega,show b-a+(c-b)=c-a by omega] at this
 exact this
omit hd in
theorem yRY (off:Int) {a b:Nat} (h:a < b):seg d off a b={d.getD a default with up:=zAZ d a+off}::seg d off (a+1) b:=by
 unfold seg
 rw [show b-a=(b-(a+1))+1 by omega,List.range'_succ]
 rfl
omit hd in
theorem yQb (off:Int) (a:Nat):seg d off a a=[]:=by simp [seg]
theorem yRZ {n:Nat} (hn:n < d.length) (f:Nat) (off:Int) (ih:∀ i,n < i→i < d.length→∀ (l:List Nd) (u:Int),(l.length:Int)=i+off→yBI (zCw d f i) l u=l++{d.getD i default with up:=u}::seg d off (i+1) (zAf d i)):
  ∀ (g i:Nat),n < i→i≤zAf d n→(i < zAf d n→zAZ d i=n)→d.length≤i+g→∀ l:List Nd,(l.length:Int)=i+off→zDz ((zE9 d n g i).map fun k=>zCw d f k.toNat) l (n+off)=l++seg d off i (zAf d n):=by
 have hb:=zAy hn
 intro g
 induction g with
 |zero=>
  intro i h1 h2 h3 h4 l hl
  have:i=zAf d n:=by omega
  subst this
  simp [zE9,zDz,yQb]
 |succ g ihg=>
  intro i h1 h2 h3 h4 l hl
  simp only [zE9]
  split
  ·rename_i h5
   have hi:i < d.length:=by omega
   have hbi:=zAy hi
   have hm:=zD2 hn h1 h5
   simp only [List.map_cons,zDz,Int.toNat_natCast]
   rw [ih i h1 hi l _ hl]
   have e:l++{d.getD i default with up:=(n:Int)+off}::seg d off (i+1) (zAf d i)=l++seg d off i (zAf d i):=by
    rw [yRY off hbi.1,h3 h5]
   rw [e,ihg (zAf d i) (by omega) hm (zLd hd hn h1 h5 (h3 h5)) (by omega) _ (by rw [List.length_append,yQa];omega),List.append_assoc,yUS off (by omega) hm]
  ·have:i=zAf d n:=by omega
   subst this
   simp [zDz,yQb]
theorem zTv (off:Int):∀ (f n:Nat),n < d.length→d.length≤n+f→∀ (l:List Nd) (u:Int),(l.length:Int)=n+off→yBI (zCw d f n) l u=l++{d.getD n default with up:=u}::seg d off (n+1) (zAf d n)
 |0,n,hn,h,l,u,hl=>by omega
 |f+1,n,hn,h,l,u,hl=>by
  have hb:=zAy hn
  simp only [zCw,yBI]
  rw [←zEa hd hn,hl]
  rw [zC3,yRZ hd hn f off (fun i h1 h2 l u hl=>zTv off f i h2 (by omega) l u hl) d.length (n+1) (by omega) (by omega) (zNZ hd hn) (by omega) _ (by simp;omega)]
  simp
theorem yMB {n:Nat} (hn:n < d.length):szT (zCw d d.length n)=zAf d n-n:=by
 have hb:=zAy hn
 have h1:=yMn (zCw d d.length n) (List.replicate n default) 0
 rw [zTv hd 0 d.length n hn (by omega) (List.replicate n default) 0 (by simp)] at h1
 simp [yQa] at h1
 omega
omit hd in
theorem yS2 {a b:Nat} (h:a≤b) (hb:b≤d.length):(d.take b).drop a=(List.range' a (b-a)).map fun j=>d.getD j default:=by
 apply List.ext_getElem
 ·simp;omega
 ·intro i h1 h2
  simp at h1 h2
  simp [show a+i < d.length by omega]
end
end Go.Hx
end

section
namespace Go.Hx
variable [Glob] [GlobL]
section
variable {d:List Nd} (hd:zDI d d.length=true)
include hd
theorem yIv {k:Nat} (h0:0 < k) (hk:k < d.length):0≤zAZ d k:=by
 obtain ⟨j,rfl⟩:∃ j,k=j+1:=⟨k-1,by omega⟩
 exact (yXH hd (by omega) (yMA hd hk)).1
theorem yLi (h:0 < d.length):zAZ d 0=-1:=by
 have:=zBi hd h
 simp only [yCI,yNt,Bool.and_eq_true] at this
 simpa using this.2
theorem zXa (h:0 < d.length):zAf d 0=d.length:=by
 have hb:=zAy h
 apply Classical.byContradiction
 intro hne
 have h1:=zET h (by omega)
 have h2:=yIv hd (k:=zAf d 0) (by omega) (by omega)
 omega
def pos (d:List Nd) (n:Nat) (j:Int):Int:=if j≥zAf d n then j-zAf d n+n else j
omit hd in
theorem yMC:∀ (f n:Nat),szT (zEv d f n)=szT (zCw d f n)
 |0,n=>rfl
 |f+1,n=>by
  have h:∀ ks:List Int,zQF (ks.map fun k=>zEv d f k.toNat)=zQF (ks.map fun k=>zCw d f k.toNat):=by
   intro ks
   induction ks with
   |nil=>rfl
   |cons k ks ih=>simp only [List.map_cons,zQF];rw [yMC f,ih]
  simp only [zEv,zCw,szT]
  rw [h]
end
end Go.Hx
end

section
namespace Go.Hx
variable [Glob] [GlobL]
inductive Anc (u:Nat→Int):Nat→Nat→Prop
 |refl (k:Nat):Anc u k k
 |up {k j x:Nat}:u k=(j:Int)→Anc u j x→Anc u k x
section
variable {u v w:Nat→Int}
theorem Anc.trans {a b c:Nat} (h:Anc u a b) (k:Anc u b c):Anc u a c:=by
 induction h with
 |refl _=>exact k
 |up e _ ih=>exact .up e (ih k)
def Ups (u:Nat→Int) (n:Nat):Prop:=(0 < n→u 0=-1)∧∀ i,i+1 < n→∃ p:Nat,u (i+1)=p∧Anc u i p
theorem Ups.both {n:Nat} (h:Ups u n):∀ k,k < n→(-1≤u k∧u k < k)∧∀ p,Anc u k p→p≤k:=by
 intro k
 induction k using Nat.strongRecOn with
 |ind k ih=>
  intro hk
  have h1:-1≤u k∧u k < k:=by
   cases k with
   |zero=>have:=h.1 hk;omega
   |succ k=>
    obtain ⟨p,e,hp⟩:=h.2 k hk
    have:=(ih k (by omega) (by omega)).2 p hp
    omega
  refine ⟨h1,fun p hp=>?_⟩
  cases hp with
  |refl _=>exact Nat.le_refl _
  |up e hp=>
   rename_i j
   have:=(ih j (by omega) (by omega)).2 p hp
   omega
theorem Ups.lt {n k:Nat} (h:Ups u n) (hk:k < n):-1≤u k∧u k < k:=(h.both k hk).1
theorem Ups.le {n k p:Nat} (h:Ups u n) (hk:k < n) (hp:Anc u k p):p≤k:=(h.both k hk).2 p hp
theorem Ups.root {n:Nat} (h:Ups u n):∀ k,k < n→Anc u k 0:=by
 intro k
 induction k using Nat.strongRecOn with
 |ind k ih=>
  intro hk
  cases k with
  |zero=>exact .refl _
  |succ k=>
   obtain ⟨p,e,hp⟩:=h.2 k hk
   have:=h.le (by omega) hp
   exact .up e (ih p (by omega) (by omega))
theorem Ups.two {n:Nat} (h:Ups u n) {a b c:Nat} (h1:Anc u a b):a < n→Anc u a c→c≤b→Anc u b c:=by
 induction h1 with
 |refl _=>intro _ h2 _;exact h2
 |@up k j x e h3 ih=>
  intro ha h2 hc
  have hl:=h.lt ha
  have hx:=h.le (k:=j) (by omega) h3
  cases h2 with
  |refl _=>omega
  |up e2 h4=>
   rename_i j2
   have:j=j2:=by omega
   subst this
   exact ih (by omega) h4 hc
theorem zN0 {d:List Nd}:∀ (f k:Nat),(∀ j:Nat,j≤k→zAZ d j < j)→k < f→∀ x:Int,x∈zBN d f k↔∃ y:Nat,x=y∧Anc (zAZ d) k y
 |0,k,_,h,_=>by omega
 |f+1,k,hd,h,x=>by
  simp only [zBN,Int.toNat_natCast]
  rw [if_neg (by omega),List.mem_cons]
  have hk:=hd k (Nat.le_refl _)
  by_cases hn:zAZ d k < 0
  ·have e:zBN d f (zAZ d k)=[]:=by cases f<;>simp [zBN,hn]
   rw [e]
   constructor
   ·rintro (rfl|h1)
    ·exact ⟨k,rfl,.refl _⟩
    ·cases h1
   ·rintro ⟨y,rfl,hy⟩
    cases hy with
    |refl _=>exact .inl rfl
    |up e2 _=>omega
  ·obtain ⟨j,hj⟩:∃ j:Nat,zAZ d k=j:=⟨(zAZ d k).toNat,by omega⟩
   rw [hj,zN0 f j (fun i hi=>hd i (by omega)) (by omega) x]
   constructor
   ·rintro (rfl|⟨y,rfl,hy⟩)
    ·exact ⟨k,rfl,.refl _⟩
    ·exact ⟨y,rfl,.up hj hy⟩
   ·rintro ⟨y,rfl,hy⟩
    cases hy with
    |refl _=>exact .inl rfl
    |up e2 h2=>
     have e3:=hj.symm.trans e2
     rw [Int.natCast_inj] at e3
     subst e3
     exact .inr ⟨y,rfl,h2⟩
theorem yIw {d:List Nd}:zDI d d.length=true↔(∀ x∈d,zBo x=true)∧Ups (zAZ d) d.length:=by
 constructor
 ·intro h
  refine ⟨fun x hx=>?_,fun h0=>?_,fun i hi=>?_⟩
  ·obtain ⟨i,hi,rfl⟩:=List.mem_iff_getElem.1 hx
   have:=zBi h hi
   simp only [yCI,Bool.and_eq_true] at this
   simpa [hi] using this.1
  ·exact yLi h h0
  ·have h1:=yMA h hi
   unfold C at h1
   rw [zN0 _ _ (fun j hj=>(zB3 h j (by omega)).2) (by omega)] at h1
   exact h1
 ·rintro ⟨h1,h2⟩
  refine List.all_eq_true.2 fun i hi=>?_
  have hi:=List.mem_range.1 hi
  simp only [yCI,Bool.and_eq_true,yNt]
  refine ⟨h1 _ (zTs hi),?_⟩
  split
  ·rename_i e
   subst e
   simp [h2.1 hi]
  ·obtain ⟨j,rfl⟩:∃ j,i=j+1:=⟨i-1,by omega⟩
   obtain ⟨p,hp,ha⟩:=h2.2 j hi
   have:=(zN0 (d:=d) (j+1) j (fun i hi=>(h2.lt (by omega)).2) (by omega) (zAZ d (j+1))).2 ⟨p,hp,ha⟩
   rw [show (((j+1:Nat):Int)-1)=j by omega]
   simpa using this
theorem zBE {d:List Nd}:zAl d=0↔(1≤d.length∧d.length≤64)∧(∀ x∈d,zBo x=true)∧Ups (zAZ d) d.length:=by
 rw [←yIw,zAl]
 split
 ·rename_i h
  split
  ·rename_i h2;exact ⟨fun _=>⟨h,h2⟩,fun _=>rfl⟩
  ·rename_i h2;exact ⟨fun h=>(by cases h),fun h3=>absurd h3.2 h2⟩
 ·rename_i h;exact ⟨fun h=>(by cases h),fun h3=>absurd h3.1 h⟩
theorem yUT {d:List Nd} (hd:zDI d d.length=true) {k:Nat} (hk:k < d.length) {x:Nat}:(x:Int)∈C d k↔Anc (zAZ d) k x:=by
 unfold C
 rw [zN0 _ _ (fun j hj=>(zB3 hd j (by omega)).2) hk]
 constructor
 ·rintro ⟨y,e,h⟩
  rw [Int.natCast_inj] at e
  subst e;exact h
 ·intro h;exact ⟨x,rfl,h⟩
theorem yBU {d:List Nd} {k:Int}:zD9 d k=0↔zAl d=0∧0≤k∧k < d.length:=by
 unfold zD9
 split
 ·split<;>omega
 ·rename_i h;simp [h]
theorem Ups.ins {N E n k:Nat} (hu:Ups u N) (hv:Ups v E) (hE:0 < E) (hn:n≤N) (hk:k < n) (ha:Anc u (n-1) k) (hs:n < N→u n≤k)
  (w1:∀ i,i < n→w i=u i) (w2:w n=k) (w3:∀ j,0 < j→j < E→w (n+j)=v j+n) (w4:∀ i,n≤i→i < N→w (i+E)=if u i≥n then u i+E else u i):Ups w (N+E):=by
 have a1:∀ {i p},Anc u i p→i < n→Anc w i p:=by
  intro i p h
  induction h with
  |refl _=>intro _;exact .refl _
  |@up i j x e _ ih=>
   intro hi
   have:=hu.lt (k:=i) (Nat.lt_of_lt_of_le hi hn)
   exact .up ((w1 _ hi).trans e) (ih (by omega))
 have a2:∀ {j q},Anc v j q→j < E→Anc w (n+j) (n+q):=by
  intro j q h
  induction h with
  |refl _=>intro _;exact .refl _
  |@up k' j' x e _ ih=>
   intro hj
   have h0:=hv.lt hj
   have:0 < k':=by
    rcases Nat.eq_zero_or_pos k' with e0|e0
    ·subst e0;have:=hv.1 hE;omega
    ·exact e0
   exact .up (j:=n+j') (by rw [w3 _ this hj];omega) (ih (by omega))
 have a3:∀ {j q},j < E→Anc u k q→Anc w (n+j) q:=fun hj hq=>((a2 (hv.root _ hj) hj).trans (.up w2 (.refl _))).trans (a1 hq hk)
 have a4:∀ {i p},Anc u i p→i < N→Anc w (if i≥n then i+E else i) (if p≥n then p+E else p):=by
  intro i p h
  induction h with
  |refl _=>intro _;exact .refl _
  |@up i j x e _ ih=>
   intro hi
   have hl:=hu.lt hi
   refine .up ?_ (ih (by omega))
   by_cases h1:i≥n
   ·rw [if_pos h1,w4 i h1 hi,e]
    by_cases h2:j≥n
    ·rw [if_pos (by omega),if_pos h2];omega
    ·rw [if_neg (by omega),if_neg h2]
   ·rw [if_neg h1,w1 i (by omega),e,if_neg (by omega)]
 refine ⟨fun _=>by rw [w1 0 (by omega)];exact hu.1 (by omega),fun i hi=>?_⟩
 rcases Nat.lt_trichotomy (i+1) n with h1|h1|h1
 ·obtain ⟨p,e,hp⟩:=hu.2 i (by omega)
  exact ⟨p,(w1 _ h1).trans e,a1 hp (by omega)⟩
 ·refine ⟨k,by rw [h1];exact w2,?_⟩
  have:n-1=i:=by omega
  rw [this] at ha
  exact a1 ha (by omega)
 ·rcases Nat.lt_trichotomy (i+1) (n+E) with h2|h2|h2
  ·obtain ⟨j,rfl⟩:∃ j,i=n+j:=⟨i-n,by omega⟩
   obtain ⟨p,e,hp⟩:=hv.2 j (by omega)
   refine ⟨n+p,?_,a2 hp (by omega)⟩
   rw [show n+j+1=n+(j+1) by omega,w3 _ (by omega) (by omega),e];omega
  ·have hnN:n < N:=by omega
   obtain ⟨m,rfl⟩:∃ m,n=m+1:=⟨n-1,by omega⟩
   obtain ⟨p,e,hp⟩:=hu.2 m hnN
   have hm:=hu.le (by omega) hp
   have hs:=hs hnN
   refine ⟨p,?_,?_⟩
   ·rw [h2,w4 _ (Nat.le_refl _) hnN,e,if_neg (by omega)]
   ·rw [show i=m+1+(E-1) by omega]
    exact a3 (by omega) (hu.two ha (by omega) hp (by omega))
  ·obtain ⟨j,rfl⟩:∃ j,i=j+E:=⟨i-E,by omega⟩
   obtain ⟨p,e,hp⟩:=hu.2 j (by omega)
   refine ⟨if p≥n then p+E else p,?_,?_⟩
   ·rw [show j+E+1=j+1+E by omega,w4 _ (by omega) (by omega),e]
    by_cases h3:p≥n
    ·rw [if_pos (by omega),if_pos h3];omega
    ·rw [if_neg (by omega),if_neg h3]
   ·have:=a4 hp (by omega)
    rw [if_pos (by omega)] at this
    exact this
theorem Ups.rem {N n b:Nat} (hu:Ups u N) (h0:0 < n) (hn:n < b) (hb:b≤N) (hin:∀ i,n < i→i < b→Anc u i n) (hout:b < N→u b < n) (hreg:∀ k j:Nat,b≤k→k < N→u k=j→j < n∨b≤j)
  (w1:∀ i,i < n→w i=u i) (w2:∀ i,n≤i→i+(b-n) < N→w i=if u (i+(b-n))≥b then u (i+(b-n))-b+n else u (i+(b-n))):Ups w (N-(b-n)):=by
 have a1:∀ {i p},Anc u i p→i < n→Anc w i p:=by
  intro i p h
  induction h with
  |refl _=>intro _;exact .refl _
  |@up i j x e _ ih=>
   intro hi
   have:=hu.lt (k:=i) (Nat.lt_trans hi (Nat.lt_of_lt_of_le hn hb))
   exact .up ((w1 _ hi).trans e) (ih (by omega))
 have a4:∀ {i p},Anc u i p→i < N→b≤i→(p < n∨b≤p)→Anc w (i-(b-n)) (if p≥b then p-(b-n) else p):=by
  intro i p h
  induction h with
  |refl _=>intro h1 h2 h3;rw [if_pos h2];exact .refl _
  |@up i j x e h4 ih=>
   intro hi h2 h3
   have hl:=hu.lt hi
   have hx:=hu.le (k:=j) (by omega) h4
   have hw:=w2 (i-(b-n)) (by omega) (by omega)
   rw [show i-(b-n)+(b-n)=i by omega,e] at hw
   rcases hreg i j h2 hi e with h5|h5
   ·rw [if_neg (by omega)] at hw
    rw [if_neg (by omega)]
    exact .up hw (a1 h4 h5)
   ·rw [if_pos (by omega)] at hw
    exact .up (j:=j-(b-n)) (by omega) (ih (by omega) h5 h3)
 refine ⟨fun _=>by rw [w1 0 h0];exact hu.1 (by omega),fun i hi=>?_⟩
 rcases Nat.lt_trichotomy (i+1) n with h1|h1|h1
 ·obtain ⟨p,e,hp⟩:=hu.2 i (by omega)
  exact ⟨p,(w1 _ h1).trans e,a1 hp (by omega)⟩
 ·obtain ⟨c,rfl⟩:∃ c,b=c+1:=⟨b-1,by omega⟩
  subst h1
  obtain ⟨q,e,hq⟩:=hu.2 c (by omega)
  have ho:=hout (by omega)
  have hci:Anc u c (i+1):=by
   rcases Nat.lt_or_ge (i+1) c with h2|h2
   ·exact hin c h2 (by omega)
   ·have:c=i+1:=by omega
    subst this;exact .refl _
  have h3:=hu.two hci (by omega) hq (by omega)
  have h4:Anc u i q:=by
   cases h3 with
   |refl _=>omega
   |up e3 h5=>
    obtain ⟨k,e4,hk⟩:=hu.2 i (by omega)
    have e5:=e4.symm.trans e3
    rw [Int.natCast_inj] at e5
    subst e5
    exact hk.trans h5
  refine ⟨q,?_,a1 h4 (by omega)⟩
  have hw:=w2 (i+1) (Nat.le_refl _) (by omega)
  rw [show i+1+(c+1-(i+1))=c+1 by omega,e,if_neg (by omega)] at hw
  exact hw
 ·obtain ⟨q,e,hq⟩:=hu.2 (i+(b-n)) (by omega)
  have h2:=hreg _ q (by omega) (by omega) e
  have h3:=a4 hq (by omega) (by omega) h2
  rw [show i+(b-n)-(b-n)=i by omega] at h3
  refine ⟨_,?_,h3⟩
  have hw:=w2 (i+1) (by omega) (by omega)
  rw [show i+1+(b-n)=i+(b-n)+1 by omega,e] at hw
  rw [hw]
  by_cases h4:q≥b
  ·rw [if_pos (by omega),if_pos h4];omega
  ·rw [if_neg (by omega),if_neg h4]
end
end Go.Hx
end

section
namespace Go.Hx
variable [Glob] [GlobL]
theorem zJb {a b:List Nd} {i:Nat}:zAZ (a++b) i=if i < a.length then zAZ a i else zAZ b (i-a.length):=by
 unfold zAZ
 split
 ·rename_i h
  rw [List.getD_eq_getElem?_getD,List.getElem?_append_left h,←List.getD_eq_getElem?_getD]
 ·rename_i h
  rw [List.getD_eq_getElem?_getD,List.getElem?_append_right (by omega),←List.getD_eq_getElem?_getD]
theorem zN1 {g:Int→Int} {l:List Nd} {i:Nat} (h:i < l.length):zAZ (l.map (zBS g)) i=g (zAZ l i):=by
 simp [zAZ,h,zBS]
theorem zXb {d:List Nd} {n i:Nat} (h:i < n):zAZ (d.take n) i=zAZ d i:=by
 simp [zAZ,h]
theorem yIx {d:List Nd} {n i:Nat}:zAZ (d.drop n) i=zAZ d (n+i):=by
 simp [zAZ,List.getElem?_drop]
theorem zXc {f g:Int→Int} {l:List Nd} (h:∀ x∈l,f (g x.up)=x.up):(l.map (zBS g)).map (zBS f)=l:=by
 rw [List.map_map]
 refine (List.map_congr_left fun x hx=>?_).trans (List.map_id l)
 simp only [Function.comp,zBS,h x hx,id]
theorem yS3 {d:List Nd} {x:Nd} (h:x∈d):∃ i,i < d.length∧x.up=zAZ d i:=by
 obtain ⟨i,hi,rfl⟩:=List.mem_iff_getElem.1 h
 exact ⟨i,hi,by simp [zAZ,hi]⟩
theorem yLj {d:List Nd} {n:Nat} {x:Nd} (h:x∈d.take n):∃ i,i < n∧i < d.length∧x.up=zAZ d i:=by
 obtain ⟨i,hi,e⟩:=yS3 h
 rw [List.length_take] at hi
 rw [zXb (by omega)] at e
 exact ⟨i,by omega,by omega,e⟩
theorem zKL {g:Int→Int} {l:List Nd} (h:∀ x∈l,zBo x=true):∀ x∈l.map (zBS g),zBo x=true:=by
 intro x hx
 obtain ⟨y,hy,rfl⟩:=List.mem_map.1 hx
 exact h y hy
theorem yLk {d:List Nd} {n m:Nat} (h1:n < m) (h2:m≤d.length) (h3:∀ k,n < k→k < m→(n:Int)≤zAZ d k) (h4:m < d.length→zAZ d m < n):zAf d n=m:=by
 have hn:n < d.length:=by omega
 have hb:=zAy hn
 rcases Nat.lt_trichotomy (zAf d n) m with h|h|h
 ·have:=zET hn (by omega)
  have:=h3 _ hb.1 h
  omega
 ·exact h
 ·have:=zDL hn h1 h
  have:=h4 (by omega)
  omega
theorem yBV {d:List Nd} {n:Int} {a b:Nat} (h:a≤b):∃ r,zA6 d n b=zA6 d n a++r:=by
 induction b with
 |zero=>exact ⟨[],by rw [show a=0 by omega];simp⟩
 |succ b ih=>
  by_cases e:a=b+1
  ·exact ⟨[],by rw [e];simp⟩
  ·obtain ⟨r,hr⟩:=ih (by omega)
   rw [zDk,hr]
   split
   ·exact ⟨r++[(b:Int)],by simp⟩
   ·exact ⟨r,rfl⟩
theorem zXd {d:List Nd} {n:Int}:∀ (b at':Nat),at' < (zA6 d n b).length→∃ m:Nat,(zA6 d n b).getD at' 0=m∧zAZ d m=n∧m < b∧(zA6 d n m).length=at'
 |0,at',h=>by simp [zA6] at h
 |b+1,at',h=>by
  rw [zDk] at h ⊢
  split
  ·rename_i h1
   rw [if_pos h1] at h
   by_cases h2:at' < (zA6 d n b).length
   ·obtain ⟨m,e1,e2,e3,e4⟩:=zXd b at' h2
    refine ⟨m,?_,e2,by omega,e4⟩
    rw [List.getD_eq_getElem?_getD,List.getElem?_append_left h2,←List.getD_eq_getElem?_getD,e1]
   ·rw [List.length_append,List.length_singleton] at h
    have h3:at'=(zA6 d n b).length:=by omega
    subst h3
    exact ⟨b,by simp,h1,by omega,rfl⟩
  ·rename_i h1
   rw [if_neg h1] at h
   obtain ⟨m,e1,e2,e3,e4⟩:=zXd b at' h
   exact ⟨m,e1,e2,by omega,e4⟩
theorem yLl {d e:List Nd} {n:Int} {a:Nat} (h:∀ i,i < a→zAZ d i=zAZ e i):zA6 d n a=zA6 e n a:=by
 unfold zA6
 congr 1
 refine List.filter_congr fun i hi=>?_
 rw [h i (List.mem_range.1 hi)]
section
variable {d:List Nd} (hd:zDI d d.length=true)
include hd
theorem zLM {k:Nat} (hk:k < d.length):zA6 d k (zAf d k)=zBr d k:=by
 have hb:=zAy hk
 refine (zD1 hb.2 fun j h1 h2 e=>?_).symm
 have:=zLc hd hk h2 h1
 rw [e,zGE hd hk] at this
 exact this List.mem_cons_self
theorem yMD {k at':Nat} (hk:k < d.length) (h:at' < (zBl d k).length):∃ n:Nat,(zBl d k).getD at' 0=n∧k < n∧n≤d.length∧Anc (zAZ d) (n-1) k∧(n < d.length→zAZ d n≤k)∧(zA6 d k n).length=at':=by
 have hb:=zAy hk
 have hu:=(yIw.1 hd).2
 have key:∀ n,k < n→n≤zAf d k→Anc (zAZ d) (n-1) k:=by
  intro n h1 h2
  rw [←yUT hd (by omega)]
  rcases Nat.lt_or_ge k (n-1) with h3|h3
  ·rw [zGE hd (by omega)]
   exact List.mem_cons_of_mem _ (zTu hd hk (n-1) (by omega) h3 (by omega))
  ·have:n-1=k:=by omega
   rw [this,zGE hd hk]
   exact List.mem_cons_self
 unfold zBl at h ⊢
 rw [zEa hd hk] at h ⊢
 by_cases h1:at' < (zBr d k).length
 ·obtain ⟨m,e1,e2,e3,e4⟩:=zXd d.length at' h1
  rw [List.getD_eq_getElem?_getD,List.getElem?_append_left h1,←List.getD_eq_getElem?_getD]
  have hm:=hu.lt e3
  have hmb:m < zAf d k:=by
   apply Classical.byContradiction
   intro hc
   have:=zLc hd hk e3 (by omega)
   rw [e2,zGE hd hk] at this
   exact this List.mem_cons_self
  exact ⟨m,e1,by omega,by omega,key m (by omega) (by omega),fun _=>by omega,e4⟩
 ·rw [List.length_append,List.length_singleton] at h
  have h2:at'=(zBr d k).length:=by omega
  subst h2
  refine ⟨zAf d k,by simp,hb.1,hb.2,key _ hb.1 (Nat.le_refl _),fun h3=>?_,by rw [zLM hd hk]⟩
  have:=zET hk h3
  omega
end
section
variable {d e:List Nd} {n k:Nat}
theorem zKM:zA7 d k n e=(d.take n).map (zBS fun j=>if j≥n then j+e.length else j)++(e.map (zBS fun j=>if j < 0 then (k:Int) else j+n)++(d.drop n).map (zBS fun j=>if j≥n then j+e.length else j)):=by
 simp [zA7]
theorem zXe (hn:n≤d.length):(zA7 d k n e).length=d.length+e.length:=by
 rw [zKM];simp;omega
theorem yQc (hu:Ups (zAZ d) d.length) (hn:n≤d.length) {i:Nat} (h:i < n):zAZ (zA7 d k n e) i=zAZ d i:=by
 rw [zKM,zJb,if_pos (by simp;omega),zN1 (by simp;omega),zXb h]
 have:=hu.lt (k:=i) (by omega)
 rw [if_neg (by omega)]
theorem yFA (hn:n≤d.length) {j:Nat} (h:j < e.length):zAZ (zA7 d k n e) (n+j)=if zAZ e j < 0 then (k:Int) else zAZ e j+n:=by
 rw [zKM,zJb,if_neg (by simp;omega),zJb,if_pos (by simp;omega),zN1 (by simp;omega)]
 simp only [List.length_map,List.length_take]
 rw [show n+j-min n d.length=j by omega]
theorem yQd (hn:n≤d.length) {i:Nat} (h1:n≤i) (h2:i < d.length):zAZ (zA7 d k n e) (i+e.length)=if zAZ d i≥n then zAZ d i+e.length else zAZ d i:=by
 rw [zKM,zJb,if_neg (by simp;omega),zJb,if_neg (by simp;omega)]
 simp only [List.length_map,List.length_take]
 rw [zN1 (by simp;omega),yIx,show n+(i+e.length-min n d.length-e.length)=i by omega]
theorem yWV (hd:zAl d=0) (he:zAl e=0) (hl:d.length+e.length≤64) (hk:k < n) (hn:n≤d.length) (ha:Anc (zAZ d) (n-1) k) (hs:n < d.length→zAZ d n≤k):zAl (zA7 d k n e)=0:=by
 obtain ⟨hd1,hd2,hd3⟩:=zBE.1 hd
 obtain ⟨he1,he2,he3⟩:=zBE.1 he
 refine zBE.2 ⟨by rw [zXe hn];omega,?_,?_⟩
 ·intro x hx
  rw [zKM] at hx
  rcases List.mem_append.1 hx with hx|hx
  ·exact zKL (fun y hy=>hd2 y (List.mem_of_mem_take hy)) x hx
  ·rcases List.mem_append.1 hx with hx|hx
   ·exact zKL he2 x hx
   ·exact zKL (fun y hy=>hd2 y (List.mem_of_mem_drop hy)) x hx
 ·rw [zXe hn]
  refine Ups.ins hd3 he3 (by omega) hn hk ha hs (fun i hi=>yQc hd3 hn hi) ?_ (fun j h1 h2=>?_) (fun i h1 h2=>yQd hn h1 h2)
  ·have:=yFA (k:=k) hn (j:=0) (e:=e) (by omega)
   rw [Nat.add_zero] at this
   rw [this,he3.1 (by omega),if_pos (by omega)]
  ·rw [yFA hn h2,if_neg]
   obtain ⟨i,rfl⟩:∃ i,j=i+1:=⟨j-1,by omega⟩
   obtain ⟨p,hp,_⟩:=he3.2 i h2
   omega
theorem yBW (hd:zAl d=0) (he:zAl e=0) (hk:k < n) (hn:n≤d.length) (hs:n < d.length→zAZ d n≤k):zAf (zA7 d k n e) n=n+e.length:=by
 obtain ⟨hd1,hd2,hd3⟩:=zBE.1 hd
 obtain ⟨he1,he2,he3⟩:=zBE.1 he
 refine yLk (by omega) (by rw [zXe hn];omega) (fun i h1 h2=>?_) (fun h=>?_)
 ·obtain ⟨j,rfl⟩:∃ j,i=n+j:=⟨i-n,by omega⟩
  rw [yFA hn (by omega)]
  obtain ⟨i,rfl⟩:∃ i,j=i+1:=⟨j-1,by omega⟩
  obtain ⟨p,hp,_⟩:=he3.2 i (by omega)
  rw [if_neg (by omega)]
  omega
 ·rw [zXe hn] at h
  have hs:=hs (by omega)
  rw [yQd hn (Nat.le_refl _) (by omega),if_neg (by omega)]
  omega
theorem yR0 (hd:zAl d=0) (he:zAl e=0) (hk:k < n) (hn:n≤d.length) (hs:n < d.length→zAZ d n≤k):yK6 (zA7 d k n e) n=e:=by
 obtain ⟨he1,he2,he3⟩:=zBE.1 he
 rw [yK6,yBW hd he hk hn hs,zKM,←List.append_assoc]
 rw [List.take_append_of_le_length (by simp;omega),List.take_of_length_le (by simp;omega),List.drop_append_of_le_length (by simp;omega),List.drop_of_length_le (by simp;omega),List.nil_append]
 refine zXc fun x hx=>?_
 obtain ⟨i,hi,e1⟩:=yS3 hx
 have:=he3.lt hi
 rw [e1]
 split<;>omega
theorem yUU (hd:zAl d=0) (he:zAl e=0) (hk:k < n) (hn:n≤d.length) (hs:n < d.length→zAZ d n≤k):zCO (zA7 d k n e) n=d:=by
 obtain ⟨hd1,hd2,hd3⟩:=zBE.1 hd
 rw [zCO,yBW hd he hk hn hs,zKM]
 rw [List.take_append_of_le_length (by simp;omega),List.take_of_length_le (by simp;omega),←List.append_assoc,List.drop_append_of_le_length (by simp;omega),List.drop_of_length_le (by simp;omega),List.nil_append]
 rw [zXc,zXc]
 ·simp
 ·intro x hx
  split<;>split<;>omega
 ·intro x hx
  obtain ⟨i,h1,h2,e1⟩:=yLj hx
  have:=hd3.lt h2
  rw [e1]
  split<;>split<;>omega
end
theorem yR1 {d e:List Nd} {up at':Int} (h:zEz d up at' e=0):∃ n:Nat,zD9 (zBO d up at' e) up=0∧zAl (zBO d up at' e)=0∧0≤at'∧at'.toNat < (zC3 (zBO d up at' e) up.toNat).length∧(zC3 (zBO d up at' e) up.toNat).getD at'.toNat 0=n∧zD9 (zBO d up at' e) n=0∧n≠0∧yK6 (zBO d up at' e) n=e∧zCO (zBO d up at' e) n=d:=by
 unfold zEz at h
 split at h
 case isFalse h1=>exact absurd h h1
 rename_i hd
 split at h
 case isFalse h1=>exact absurd h h1
 rename_i he
 split at h
 ·cases h
 rename_i h1
 split at h
 ·cases h
 rename_i h2
 split at h
 ·cases h
 rename_i h3
 have hd0:=(zA0 hd).2.2
 obtain ⟨k,rfl⟩:∃ k:Nat,up=k:=⟨up.toNat,by omega⟩
 rw [Int.toNat_natCast] at h2
 obtain ⟨n,e1,hk,hn,ha,hs,hl⟩:=yMD hd0 (k:=k) (at':=at'.toNat) (by omega) (by omega)
 have ex:zBO d k at' e=zA7 d k n e:=by rw [zBO,Int.toNat_natCast,e1,Int.toNat_natCast]
 rw [ex]
 have hx:=yWV hd he (by omega) hk hn ha hs
 have hx0:=(zA0 hx).2.2
 have hxl:=zXe (d:=d) (e:=e) (k:=k) hn
 obtain ⟨he1,_,he3⟩:=zBE.1 he
 obtain ⟨_,_,hd3⟩:=zBE.1 hd
 have hup:zAZ (zA7 d k n e) n=k:=by
  have:=yFA (k:=k) hn (j:=0) (e:=e) (by omega)
  rw [Nat.add_zero] at this
  rw [this,he3.1 (by omega),if_pos (by omega)]
 obtain ⟨r,hr⟩:=yBV (d:=zA7 d k n e) (n:=(k:Int)) (show n+1≤(zA7 d k n e).length by omega)
 have hkid:zC3 (zA7 d k n e) k=zA6 d k n++(n:Int)::r:=by
  rw [zEa hx0 (by omega),zBr,hr,zDk,if_pos hup,yLl (e:=d) fun i hi=>yQc hd3 hn hi]
  simp
 rw [Int.toNat_natCast,hkid]
 refine ⟨n,yBU.2 ⟨hx,by omega,by omega⟩,hx,by omega,?_,?_,yBU.2 ⟨hx,by omega,by omega⟩,by omega,yR0 hd he hk hn hs,yUU hd he hk hn hs⟩
 ·rw [List.length_append,List.length_cons];omega
 ·rw [←hl];simp
section
variable {d:List Nd} {n:Nat}
theorem yFB:zCO d n=(d.take n).map (zBS fun j=>if j≥zAf d n then j-zAf d n+n else j)++(d.drop (zAf d n)).map (zBS fun j=>if j≥zAf d n then j-zAf d n+n else j):=by
 simp [zCO]
theorem yQe (hn:n < d.length):(zCO d n).length=d.length-(zAf d n-n):=by
 have hb:=zAy hn
 rw [yFB];simp;omega
theorem yUV (hu:Ups (zAZ d) d.length) (hn:n < d.length) {i:Nat} (h:i < n):zAZ (zCO d n) i=zAZ d i:=by
 have hb:=zAy hn
 rw [yFB,zJb,if_pos (by simp;omega),zN1 (by simp;omega),zXb h]
 have:=hu.lt (k:=i) (by omega)
 rw [if_neg (by omega)]
theorem yUW (hn:n < d.length) {i:Nat} (h1:n≤i) (h2:i+(zAf d n-n) < d.length):zAZ (zCO d n) i=if zAZ d (i+(zAf d n-n))≥zAf d n then zAZ d (i+(zAf d n-n))-zAf d n+n else zAZ d (i+(zAf d n-n)):=by
 have hb:=zAy hn
 rw [yFB,zJb,if_neg (by simp;omega)]
 simp only [List.length_map,List.length_take]
 rw [zN1 (by simp;omega),yIx,show zAf d n+(i-min n d.length)=i+(zAf d n-n) by omega]
theorem yYS (hd:zDI d d.length=true) (hn:n < d.length) {k j:Nat} (h1:zAf d n≤k) (h2:k < d.length) (e:zAZ d k=j):j < n∨zAf d n≤j:=by
 apply Classical.byContradiction
 intro hc
 have h3:=zLc hd hn h2 h1
 rw [e] at h3
 have hb:=zAy hn
 refine h3 ?_
 rw [zGE hd (by omega)]
 rcases Nat.lt_or_ge n j with h4|h4
 ·exact List.mem_cons_of_mem _ (zTu hd hn j (by omega) h4 (by omega))
 ·have:n=j:=by omega
  subst this;exact List.mem_cons_self
theorem yWW (hd:zAl d=0) (h0:0 < n) (hn:n < d.length):zAl (zCO d n)=0:=by
 obtain ⟨hd1,hd2,hd3⟩:=zBE.1 hd
 have hd0:=(zA0 hd).2.2
 have hb:=zAy hn
 refine zBE.2 ⟨by rw [yQe hn];omega,?_,?_⟩
 ·intro x hx
  rw [yFB] at hx
  rcases List.mem_append.1 hx with hx|hx
  ·exact zKL (fun y hy=>hd2 y (List.mem_of_mem_take hy)) x hx
  ·exact zKL (fun y hy=>hd2 y (List.mem_of_mem_drop hy)) x hx
 ·rw [yQe hn]
  refine Ups.rem hd3 h0 hb.1 hb.2 (fun i h1 h2=>?_) (fun h=>zET hn h) (fun k j h1 h2 e=>yYS hd0 hn h1 h2 e) (fun i hi=>yUV hd3 hn hi) (fun i h1 h2=>yUW hn h1 h2)
  rw [←yUT hd0 (by omega),zGE hd0 (by omega)]
  exact List.mem_cons_of_mem _ (zTu hd0 hn i (by omega) h1 h2)
end
end Go.Hx
end

section
set_option maxRecDepth 100000
namespace Go.Hx
open Go.Proofs
variable [Glob] [GlobL]
attribute [local go_sem] zAh zAj zAg zAd ndV zAm zB6 List.getElem?_cons_zero List.getElem?_cons_succ
theorem z2:(2:Int).toNat=2:=rfl
theorem z3:(3:Int).toNat=3:=rfl
end Go.Hx
end

section
set_option maxRecDepth 100000
namespace Go.Hx
open Go.Proofs
variable [Glob] [GlobL]
attribute [local go_sem] zAh zAj zAg zAd ndV zAm zB6
end Go.Hx
end

section
set_option maxRecDepth 100000
namespace Go.Hx
open Go.Proofs
variable [Glob] [GlobL]
attribute [local go_sem] zAh zAj zAg zAd ndV zAm zB6 atV zPp OVal.cells yBd List.drop_succ_cons List.drop_zero List.take_succ_cons List.getD_nil yBt zFO Nat.sub_zero List.map_nil List.map_cons ev zAi zC1 zQb yM8 zAV yJb
attribute [local go_sem ↓] yNp yNq
end Go.Hx
end

section
namespace Go.Hx
variable [Glob] [GlobL]
def yBX (b:Bool) (at':Int) (e:Tr):Nat→List Tr→List Tr
 |i,[]=>if b&&decide ((i:Int)=at') then [e] else []
 |i,t::r=>if b&&decide ((i:Int)=at') then e::t::yBX b at' e (i+1) r else t::yBX b at' e (i+1) r
mutual
def zLm (up at':Int) (e:Tr):Tr→Tr
 |.mk x k=>.mk x (yBX (decide (x.up=up)) at' e 0 (zCd up at' e k))
def zCd (up at':Int) (e:Tr):List Tr→List Tr
 |[]=>[]
 |t::r=>zLm up at' e t::zCd up at' e r
end
theorem zLe (up at':Int) (e:Tr):∀ l,zCd up at' e l=l.map (zLm up at' e)
 |[]=>rfl
 |t::r=>by simp only [zCd,List.map_cons,zLe up at' e r]
theorem yME (at':Int) (e:Tr):∀ (l:List Tr) (i:Nat),yBX false at' e i l=l
 |[],i=>by simp [yBX]
 |t::r,i=>by simp [yBX,yME at' e r]
theorem zXh {at':Int} {e:Tr}:∀ (l:List Tr) (i:Nat),at' < i→yBX true at' e i l=l
 |[],i,h=>by simp [yBX];omega
 |t::r,i,h=>by
  have h1:¬ (i:Int)=at':=by omega
  have h2:=zXh (at':=at') (e:=e) r (i+1) (by omega)
  simp only [yBX,h1,decide_false,Bool.and_false,Bool.false_eq_true,if_false,h2]
mutual
def zMF:Tr→Tr
 |.mk x k=>.mk {x with up:=-2} (yFE k)
def yFE:List Tr→List Tr
 |[]=>[]
 |t::r=>zMF t::yFE r
end
mutual
theorem yMF:∀ (t:Tr) (l:List Nd) (u:Int),yBI (zMF t) l u=yBI t l u
 |.mk x k,l,u=>by
  simp only [zMF,yBI]
  rw [yIz k]
theorem yIz:∀ (k:List Tr) (l:List Nd) (u:Int),zDz (yFE k) l u=zDz k l u
 |[],l,u=>rfl
 |t::r,l,u=>by
  simp only [yFE,zDz]
  rw [yMF t,yIz r]
end
def yXI (d:List Nd) (up at':Int) (e:List Nd):List Nd:=yBI (zLm up at' (zMF (zCw e e.length 0)) (zEv d d.length 0)) [] (-1)
theorem yMG {d:List Nd}:∀ (f n:Nat) (l:List Nd) (u:Int),yBI (zEv d f n) l u=yBI (zCw d f n) l u
 |0,n,l,u=>rfl
 |f+1,n,l,u=>by
  have h:∀ (ks:List Int) (l:List Nd) (u:Int),zDz (ks.map fun k=>zEv d f k.toNat) l u=zDz (ks.map fun k=>zCw d f k.toNat) l u:=by
   intro ks
   induction ks with
   |nil=>intro l u;rfl
   |cons k ks ih=>intro l u;simp only [List.map_cons,zDz];rw [yMG f,ih]
  simp only [zEv,zCw,yBI]
  rw [h]
section
variable {d:List Nd} (hd:zDI d d.length=true)
include hd
theorem yMH {k0:Nat} {at':Int} {et:Tr}:∀ (f k:Nat),k < d.length→d.length≤k+f→¬ (k≤k0∧k0 < zAf d k)→zLm k0 at' et (zEv d f k)=zEv d f k
 |0,k,hk,h,_=>by omega
 |f+1,k,hk,h,hout=>by
  have hb:=zAy hk
  simp only [zEv,zLm]
  have hne:decide ((k:Int)=(k0:Int))=false:=by simp;omega
  have hup:({d.getD k default with up:=(k:Int)}:Nd).up=(k:Int):=rfl
  rw [hne,yME,zLe,List.map_map]
  congr 1
  refine List.map_congr_left fun j hj=>?_
  rw [←zEa hd hk] at hj
  have hkid:∃ i:Nat,j=i∧k < i∧i < zAf d k:=by
   rw [zEa hd hk,←zLM hd hk] at hj
   unfold zA6 at hj
   obtain ⟨i,h1,rfl⟩:=List.mem_map.1 hj
   rw [List.mem_filter] at h1
   have h2:i < zAf d k:=by simpa using h1.1
   have h3:zAZ d i=k:=by simpa using h1.2
   have:=(zB3 hd i (by omega)).2
   exact ⟨i,rfl,by omega,h2⟩
  obtain ⟨i,rfl,h1,h2⟩:=hkid
  have hm:=zD2 hk h1 h2
  simp only [Function.comp_apply,Int.toNat_natCast]
  exact yMH f i (by omega) (by omega) (by omega)
variable {e:List Nd} {n k0:Nat}
def ip (n E:Nat) (j:Int):Int:=if j≥n then j+E else j
def zMD (d:List Nd) (n E a b:Nat):List Nd:=(List.range' a (b-a)).map fun j=>{d.getD j default with up:=ip n E (zAZ d j)}
omit hd in
theorem zTw {E:Nat} {a b c:Nat} (h1:a≤b) (h2:b≤c):zMD d n E a b++zMD d n E b c=zMD d n E a c:=by
 unfold zMD
 rw [←List.map_append]
 congr 1
 have:=List.range'_append (s:=a) (m:=b-a) (n:=c-b) (step:=1)
 rw [show a+1 * (b-a)=b by omega,show b-a+(c-b)=c-a by omega] at this
 exact this
omit hd in
theorem zTx {E a:Nat}:zMD d n E a a=[]:=by simp [zMD]
omit hd in
theorem zTy {E a b:Nat}:(zMD d n E a b).length=b-a:=by simp [zMD]
omit hd in
theorem zN3 {E a b:Nat} (h:a < b):zMD d n E a b={d.getD a default with up:=ip n E (zAZ d a)}::zMD d n E (a+1) b:=by
 unfold zMD
 rw [show b-a=(b-(a+1))+1 by omega,List.range'_succ]
 rfl
theorem yLn {E:Nat} (hk0:k0 < n) (hn:n≤d.length) (hs:n < d.length→zAZ d n≤k0) {f i:Nat} (hi:i < d.length) (hf:d.length≤i+f) (hout:¬ (i≤k0∧k0 < zAf d i)) {at':Int} {et:Tr} {l:List Nd} {p:Nat} (hup:zAZ d i=p) (hl:(l.length:Int)=ip n E i):
  yBI (zLm k0 at' et (zEv d f i)) l (ip n E p)=l++zMD d n E i (zAf d i)∧(n≤i→((l++zMD d n E i (zAf d i)).length:Int)=ip n E (zAf d i)):=by
 have hb:=zAy hi
 have hcase:n≤i∨zAf d i≤n:=by
  apply Classical.byContradiction
  intro hc
  have h1:=zDL hi (k:=n) (by omega) (by omega)
  have h2:=hs (by omega)
  omega
 rw [yMH hd f i hi hf hout,yMG]
 have hoff:ip n E i=i+(if n≤i then (E:Int) else 0):=by unfold ip;split<;>split<;>omega
 rw [zTv hd (if n≤i then (E:Int) else 0) f i hi hf l _ (by rw [hl,hoff]),zN3 hb.1,hup]
 constructor
 ·congr 2
  unfold seg zMD
  refine List.map_congr_left fun j hj=>?_
  rw [List.mem_range'_1] at hj
  have h1:=zDL hi (k:=j) (by omega) (by omega)
  have h2:=(zB3 hd j (by omega)).2
  have h3:zAZ d j+(if n≤i then (E:Int) else 0)=ip n E (zAZ d j):=by
   unfold ip
   by_cases hni:n≤i
   ·rw [if_pos hni,if_pos (by omega)]
   ·rw [if_neg hni,if_neg (by omega)];omega
  rw [h3]
 ·intro hni
  rw [←hup,←zN3 hb.1,List.length_append,zTy]
  unfold ip at hl ⊢
  rw [if_pos (by omega)] at hl
  rw [if_pos (by omega)]
  omega
theorem yMI {E:Nat} (hk0:k0 < n) (hn:n≤d.length) (hs:n < d.length→zAZ d n≤k0) {f k:Nat} (hk:k < d.length) {at':Int} {et:Tr} (hf:d.length≤k+(f+1)):
  ∀ (g i:Nat),k < i→i≤zAf d k→(i < zAf d k→zAZ d i=k)→d.length≤i+g→n≤i→∀ l:List Nd,(l.length:Int)=ip n E i→
   zDz (zCd k0 at' et ((zE9 d k g i).map fun j=>zEv d f j.toNat)) l (ip n E k)=l++zMD d n E i (zAf d k):=by
 have hb:=zAy hk
 intro g
 induction g with
 |zero=>
  intro i h1 h2 h3 h4 _ l hl
  have:i=zAf d k:=by omega
  subst this
  simp [zE9,zCd,zDz,zTx]
 |succ g ihg=>
  intro i h1 h2 h3 h4 hno l hl
  simp only [zE9]
  split
  ·rename_i h5
   have hi:i < d.length:=by omega
   have hm:=zD2 hk h1 h5
   have hbi:=zAy hi
   simp only [List.map_cons,zCd,zDz,Int.toNat_natCast]
   obtain ⟨e1,e2⟩:=yLn hd (E:=E) hk0 hn hs hi (f:=f) (by omega) (at':=at') (et:=et) (by omega) (h3 h5) hl
   rw [e1,ihg (zAf d i) (by omega) hm (zLd hd hk h1 h5 (h3 h5)) (by omega) (by omega) _ (e2 hno),List.append_assoc,zTw (by omega) hm]
  ·have:i=zAf d k:=by omega
   subst this
   simp [zCd,zDz,zTx]
def yOE (e:List Nd) (k0 n:Nat):List Nd:=e.map (zBS fun j=>if j < 0 then (k0:Int) else j+n)
theorem yQg (he:zDI e e.length=true) (h0:0 < e.length) {l:List Nd} (hl:l.length=n):yBI (zMF (zCw e e.length 0)) l k0=l++yOE e k0 n:=by
 rw [yMF,zTv he n e.length 0 h0 (by omega) l _ (by omega),zXa he h0]
 congr 1
 have e1:e=(e.take e.length).drop 0:=by simp
 have e2:=yS2 (d:=e) (Nat.zero_le e.length) (Nat.le_refl _)
 rw [←e1] at e2
 unfold yOE
 conv=>rhs;rw [e2]
 rw [List.map_map,show e.length-0=(e.length-1)+1 by omega,List.range'_succ,List.map_cons]
 unfold seg
 congr 1
 ·have:=yLi he h0
  simp only [Function.comp_apply,zBS]
  unfold zAZ at this
  rw [if_pos (by rw [this];omega)]
 ·refine List.map_congr_left fun j hj=>?_
  rw [List.mem_range'_1] at hj
  have:=yIv he (k:=j) (by omega) (by omega)
  simp only [Function.comp_apply,zBS]
  unfold zAZ at this ⊢
  rw [if_neg (by omega)]
theorem yU1 (he:zDI e e.length=true) (h0:0 < e.length) (hk0:k0 < n) (hn:n≤zAf d k0) (hkl:k0 < d.length) (hs:n < d.length→zAZ d n≤k0) {f:Nat} (hf:d.length≤k0+(f+1)):
  ∀ (g i:Nat),k0 < i→i≤n→(i < zAf d k0→zAZ d i=k0)→d.length≤i+g→∀ l:List Nd,l.length=i→∀ (c:Nat),(zA6 d k0 i).length=c→
   zDz (yBX true ((zA6 d k0 n).length:Int) (zMF (zCw e e.length 0)) c (zCd k0 ((zA6 d k0 n).length:Int) (zMF (zCw e e.length 0)) ((zE9 d k0 g i).map fun j=>zEv d f j.toNat))) l k0=l++(zMD d n e.length i n++(yOE e k0 n++zMD d n e.length n (zAf d k0))):=by
 have hb:=zAy hkl
 have hipk:ip n e.length k0=k0:=by unfold ip;rw [if_neg (by omega)]
 intro g
 induction g with
 |zero=>
  intro i h1 h2 h3 h4 l hl c hc
  have e1:i=n:=by omega
  have e2:n=zAf d k0:=by omega
  subst e1
  rw [←hc,←e2]
  simp only [zE9,List.map_nil,zCd,yBX,decide_true,Bool.and_self,if_true,zDz,zTx,List.nil_append,List.append_nil]
  exact yQg hd he h0 hl
 |succ g ihg=>
  intro i h1 h2 h3 h4 l hl c hc
  by_cases hin:i=n
  ·subst hin
   have key:zDz (zCd k0 ((zA6 d k0 i).length:Int) (zMF (zCw e e.length 0)) ((zE9 d k0 (g+1) i).map fun j=>zEv d f j.toNat)) (l++yOE e k0 i) (ip i e.length k0)=(l++yOE e k0 i)++zMD d i e.length i (zAf d k0):=by
    refine yMI hd hk0 (by omega) hs hkl hf (g+1) i h1 (by omega) h3 h4 (by omega) _ ?_
    unfold ip
    rw [if_pos (by omega)]
    simp [yOE];omega
   rw [hipk] at key
   rw [zTx,List.nil_append,←List.append_assoc,←key]
   have hlay:=yQg (k0:=k0) hd he h0 hl
   cases hks:zCd k0 ((zA6 d k0 i).length:Int) (zMF (zCw e e.length 0)) ((zE9 d k0 (g+1) i).map fun j=>zEv d f j.toNat) with
   |nil=>
    rw [←hc]
    simp only [yBX,decide_true,Bool.and_self,if_true,zDz]
    exact hlay
   |cons t r=>
    rw [←hc]
    simp only [yBX,decide_true,Bool.and_self,if_true,zDz]
    rw [hlay,zXh r _ (by omega)]
  ·have hlt:i < n:=by omega
   have h5:i < zAf d k0:=by omega
   have hi:i < d.length:=by omega
   have hm:=zD2 hkl h1 h5
   have hbi:=zAy hi
   have hbn:zAf d i≤n:=by
    apply Classical.byContradiction
    intro hcc
    have h6:=zDL hi (k:=n) (by omega) (by omega)
    have h7:=hs (by omega)
    omega
   have hcnt:(zA6 d k0 (zAf d i)).length=c+1:=by
    have e1:zA6 d k0 (zAf d i)=zA6 d k0 (i+1):=zD1 hbi.1 fun j h6 h7=>by
     have:=zDL hi (k:=j) (by omega) h7
     omega
    rw [e1,zDk,if_pos (h3 h5),List.length_append,hc]
    rfl
   have hcn:c+1≤(zA6 d k0 n).length:=by
    obtain ⟨r,hr⟩:=yBV (d:=d) (n:=(k0:Int)) hbn
    rw [hr,List.length_append,hcnt];omega
   have hne:¬ (c:Int)=((zA6 d k0 n).length:Int):=by omega
   rw [zE9,if_pos h5]
   simp only [List.map_cons,zCd,yBX,Bool.true_and,hne,decide_false,Bool.false_eq_true,if_false,zDz,Int.toNat_natCast]
   have hl':(l.length:Int)=ip n e.length i:=by unfold ip;rw [if_neg (by omega)];omega
   obtain ⟨e1,e2⟩:=yLn hd (E:=e.length) hk0 (by omega) hs hi (f:=f) (by omega) (at':=((zA6 d k0 n).length:Int)) (et:=zMF (zCw e e.length 0)) (by omega) (h3 h5) hl'
   rw [hipk] at e1
   rw [e1,ihg (zAf d i) (by omega) hbn (zLd hd hkl h1 h5 (h3 h5)) (by omega) _ (by rw [List.length_append,zTy];omega) (c+1) hcnt,List.append_assoc,←List.append_assoc (zMD d n e.length i (zAf d i)),zTw (by omega) hbn]
theorem yS4 (he:zDI e e.length=true) (h0:0 < e.length) (hk0:k0 < n) (hkl:k0 < d.length) (hn:n≤zAf d k0) (hs:n < d.length→zAZ d n≤k0):∀ (f k:Nat),k < d.length→d.length≤k+f→k≤k0→k0 < zAf d k→∀ (l:List Nd) (u:Int),l.length=k→
  yBI (zLm k0 ((zA6 d k0 n).length:Int) (zMF (zCw e e.length 0)) (zEv d f k)) l u=l++{d.getD k default with up:=u}::(zMD d n e.length (k+1) n++(yOE e k0 n++zMD d n e.length n (zAf d k)))
 |0,k,hk,h,_,_,l,u,hl=>by omega
 |f+1,k,hk,h,hkk,hkb,l,u,hl=>by
  have hb:=zAy hk
  have hb0:=zAy hkl
  by_cases hke:k=k0
  ·subst hke
   simp only [zEv,zLm,decide_true,yBI]
   rw [←zEa hd hk,hl]
   have key:=yU1 hd he h0 hk0 hn hkl hs (f:=f) (by omega) d.length (k+1) (by omega) (by omega) (zNZ hd hk) (by omega) (l++[{d.getD k default with up:=u}]) (by simp [hl]) 0 (by
    rw [zD1 (Nat.zero_le _) fun j _ h2=>by have:=zB3 hd j (by omega);omega]
    simp [zA6])
   unfold zC3
   rw [key]
   simp
  ·simp only [zEv,zLm,yBI]
   have hne:decide ((k:Int)=(k0:Int))=false:=by simp;omega
   rw [hne,yME,←zEa hd hk,hl]
   have hipk:ip n e.length k=k:=by unfold ip;rw [if_neg (by omega)]
   have loop:∀ (g i:Nat),k < i→i≤k0→zAZ d i=k→d.length≤i+g→∀ l:List Nd,l.length=i→
     zDz (zCd k0 ((zA6 d k0 n).length:Int) (zMF (zCw e e.length 0)) ((zE9 d k g i).map fun j=>zEv d f j.toNat)) l k=l++(zMD d n e.length i n++(yOE e k0 n++zMD d n e.length n (zAf d k))):=by
    intro g
    induction g with
    |zero=>intro i h1 h2 h3 h4 l hl;omega
    |succ g ihg=>
     intro i h1 h2 h3 h4 l hl
     have h5:i < zAf d k:=by omega
     have hi:i < d.length:=by omega
     have hm:=zD2 hk h1 h5
     have hbi:=zAy hi
     rw [zE9,if_pos h5]
     simp only [List.map_cons,zCd,zDz,Int.toNat_natCast]
     have hl':(l.length:Int)=ip n e.length i:=by unfold ip;rw [if_neg (by omega)];omega
     by_cases hin:k0 < zAf d i
     ·have hnb:n≤zAf d i:=by
       have h6:zAf d k0≤zAf d i:=by
        rcases Nat.lt_or_ge i k0 with h7|h7
        ·exact zD2 hi h7 hin
        ·have:i=k0:=by omega
         rw [this];exact Nat.le_refl _
       omega
      rw [yS4 he h0 hk0 hkl hn hs f i hi (by omega) h2 hin l k hl]
      have e1:l++{d.getD i default with up:=(k:Int)}::(zMD d n e.length (i+1) n++(yOE e k0 n++zMD d n e.length n (zAf d i)))=l++(zMD d n e.length i n++(yOE e k0 n++zMD d n e.length n (zAf d i))):=by
       rw [zN3 (a:=i) (by omega),h3,hipk]
       simp
      rw [e1]
      have h9:=yMI hd (E:=e.length) hk0 (by omega) hs hk (f:=f) (at':=((zA6 d k0 n).length:Int)) (et:=zMF (zCw e e.length 0)) (by omega) g (zAf d i) (by omega) hm (zLd hd hk h1 h5 h3) (by omega) (by omega) (l++(zMD d n e.length i n++(yOE e k0 n++zMD d n e.length n (zAf d i)))) (by
       simp only [List.length_append,zTy,yOE,List.length_map,hl]
       unfold ip
       rw [if_pos (by omega)]
       omega)
      rw [hipk] at h9
      rw [h9]
      simp only [List.append_assoc]
      rw [zTw hnb hm]
     ·obtain ⟨e1,e2⟩:=yLn hd (E:=e.length) hk0 (by omega) hs hi (f:=f) (by omega) (at':=((zA6 d k0 n).length:Int)) (et:=zMF (zCw e e.length 0)) (by omega) h3 hl'
      rw [hipk] at e1
      rw [e1,ihg (zAf d i) (by omega) (by omega) (zLd hd hk h1 h5 h3 (by omega)) (by omega) _ (by rw [List.length_append,zTy];omega),List.append_assoc,←List.append_assoc (zMD d n e.length i (zAf d i)),zTw (by omega) (by omega)]
   have hfk:k+1 < zAf d k:=by omega
   have key:=loop d.length (k+1) (by omega) (by omega) (zNZ hd hk hfk) (by omega) (l++[{d.getD k default with up:=u}]) (by simp [hl])
   unfold zC3
   rw [key]
   simp
end
theorem yS5 {d:List Nd} {n E a b:Nat} (h:a≤b) (hb:b≤d.length):((d.take b).drop a).map (zBS fun j=>if j≥n then j+E else j)=zMD d n E a b:=by
 rw [yS2 h hb,List.map_map]
 rfl
theorem yIA {d e:List Nd} {up at':Int} (h:zEz d up at' e=0):zBO d up at' e=yXI d up at' e:=by
 unfold zEz at h
 split at h
 case isFalse h1=>exact absurd h h1
 rename_i hd
 split at h
 case isFalse h1=>exact absurd h h1
 rename_i he
 split at h
 ·cases h
 rename_i h1
 split at h
 ·cases h
 rename_i h2
 split at h
 ·cases h
 obtain ⟨d1,d2,d3⟩:=zA0 hd
 obtain ⟨e1,e2,e3⟩:=zA0 he
 obtain ⟨k0,rfl⟩:∃ k:Nat,up=k:=⟨up.toNat,by omega⟩
 obtain ⟨at0,rfl⟩:∃ k:Nat,at'=k:=⟨at'.toNat,by omega⟩
 simp only [Int.toNat_natCast] at h2
 have hkl:k0 < d.length:=by omega
 obtain ⟨n,p1,p2,p3,p4,p5,p6⟩:=yMD d3 hkl (at':=at0) (by omega)
 have hnb:n≤zAf d k0:=by
  apply Classical.byContradiction
  intro hc
  exact yIu d3 hkl (n-1) (by omega) (by omega) ((yUT d3 (by omega)).2 p4)
 have hb0:=zXa d3 (by omega)
 have hk0b:k0 < zAf d 0:=by omega
 unfold zBO yXI
 rw [Int.toNat_natCast,Int.toNat_natCast,p1,Int.toNat_natCast]
 have key:=yS4 d3 e3 (by omega) p2 hkl hnb p5 d.length 0 (by omega) (by omega) (by omega) hk0b [] (-1) rfl
 rw [p6] at key
 rw [key,hb0,zKM]
 have c1:=yS5 (d:=d) (n:=n) (E:=e.length) (Nat.zero_le n) p3
 have c2:=yS5 (d:=d) (n:=n) (E:=e.length) p3 (Nat.le_refl _)
 rw [List.drop_zero] at c1
 rw [List.take_length] at c2
 rw [c1,c2,zN3 (by omega),yLi d3 (by omega)]
 unfold ip
 rw [if_neg (by omega)]
 simp [yOE]
end Go.Hx
end

section
set_option maxRecDepth 100000
namespace Go.Hx
open Go.Proofs
variable [Glob] [GlobL]
attribute [local go_sem] zAh zAj zAg zAd ndV zAm zGB zNK zWv zNJ List.take_zero List.map_nil zB6 atV OVal.cells yBd List.drop_succ_cons List.drop_zero List.take_succ_cons List.getD_nil yBt zFO Nat.sub_zero List.map_cons ev zAi zC1 zQb yM8 zAV yJb zW4 List.set_set List.length_set List.set_cons_zero List.set_cons_succ List.getD_cons_zero List.getD_cons_succ OV.left
attribute [local go_sem ↓] yNp yNq yWB yWA
attribute [local go_sem] reduceCtorEq Nat.reduceAdd Nat.reduceEqDiff reduceIte Nat.reduceLeDiff Nat.reduceLT Nat.reduceSub
mutual
def zXi:Tr→List OV
 |.mk x k=>[.p (bI x.up),.p (bS x.tag),.p (bS x.id),.p (.sl 1 (yCG x.cls)),.p (.sl 2 (yCH x.att)),.os none zAq 6 (zN4 k)]
def zN4:List Tr→List (List OV)
 |[]=>[]
 |t::r=>zXi t::zN4 r
end
theorem zKO:∀ l:List Tr,zN4 l=l.map zXi
 |[]=>rfl
 |t::r=>by simp [zN4,zKO r]
theorem yIB (l:List Tr):(zN4 l).length=l.length:=by simp [zKO]
attribute [local go_sem] yIB
theorem yR3 (t:Tr):(zXi t).length=6:=by cases t;rfl
attribute [local go_sem] yR3
theorem yQh (l r:List Tr):zN4 (l++r)=zN4 l++zN4 r:=by simp [zKO]
mutual
theorem yMJ:∀ t:Tr,zOv (zXi t)=some (trV t)
 |.mk x k=>by simp only [zXi,zOv,OV.frz,yIC k,trV]
theorem yIC:∀ l:List Tr,zCz (zN4 l)=some (zZO l)
 |[]=>rfl
 |t::r=>by simp only [zN4,zCz,yMJ t,yIC r,zZO]
end
theorem yID:∀ l:List Tr,yFE l=l.map zMF
 |[]=>rfl
 |t::r=>by simp [yFE,yID r]
theorem yIE:∀ (N:Nat) (t:Tr),szT t≤N→N≤1000000→zC8 Tryz.prog zE0 (.agg (zXi t)) (.agg (zXi (zMF t)))
 |0,.mk x ks,h1,_=>by simp [szT] at h1
 |N+1,.mk x ks,h1,h2=>by
  have ih:=yIE N
  have hks:=yKs ks
  simp only [szT] at h1
  simp only [zMF,zXi]
  refine zWJ ?_
  unfold F0v zGV
  refine goU ?_
  intro b
  have e0:zN4 ks=mix (fun t=>zXi (zMF t)) zXi ks 0:=by rw [yRV,zKO]
  rw [e0]
  refine zAc (fun i:Nat=>[(3,.pv (iv i)),(29,.ov (.one (.os (some b) zAq 6 (mix (fun t=>zXi (zMF t)) zXi ks i)))),(10,.un)]) (fun i:Nat=>ks.length-i) (fun i:Nat=>i≤ks.length) (0) ?_ (Nat.zero_le _) ?_
  focus (exact leA)
  intro i hi
  refine goW ?_
  refine zAa (by rfl) trivial (fun h=>?_) (fun h=>?_)
  ·have hlt:i < ks.length:=by simpa using h
   have hsz:=zTr hlt
   have e1:(mix (fun t=>zXi (zMF t)) zXi ks i).getD i []=zXi (ks.getD i default):=yFu hlt
   have e2:=yFv (f:=fun t=>zXi (zMF t)) (g:=zXi) hlt
   obtain ⟨M,hM⟩:∃ M,M=mix (fun t=>zXi (zMF t)) zXi ks i:=⟨_,rfl⟩
   have hMl:M.length=ks.length:=by rw [hM,zW4]
   rw [←hM] at e1 e2 ⊢
   have hc:=ih (ks.getD i default) (by omega) (by omega)
   have hset:=yFw (l:=M) (m:=i) (by omega)
   obtain ⟨t,ht⟩:∃ t,t=ks.getD i default:=⟨_,rfl⟩
   rw [←ht] at e1 e2 hc
   rcases t with ⟨y,yk⟩
   simp only [zXi,zMF] at hc e1 e2
   try simp (maxSteps:=2000000) only [go_sem,e1,hset]
   repeat with_reducible refine zAt ?_
   refine yWR (by rfl) hc ?_
   try simp (maxSteps:=2000000) only [go_sem,e1,hset]
   repeat with_reducible refine zAt ?_
   refine ⟨i+1,by omega,hlt,?_⟩
   simp (maxSteps:=2000000) only [go_sem,zAu,zAE,zA9,zAv]
   all_goals (repeat' (first|exact trivial|exact zAI (by omega)|exact zAB rfl|exact zAU rfl|exact zAW|exact le_refl _|refine And.intro ?_ ?_))
   refine zAU ?_
   rw [e2]
  ·have hil:i=ks.length:=by simp at h;omega
   subst hil
   have e3:ks.map (fun t=>zXi (zMF t))=zN4 (yFE ks):=by rw [zKO,yID,List.map_map];rfl
   rw [yLa,e3]
   refine goW ?_
   exact yBu rfl rfl rfl
theorem yIF (d:List Nd) (hd:zDI d d.length=true) (hl:d.length≤64):∀ (f n:Nat),n < d.length→d.length-n≤f→Contract Tryz.prog zB9 [.val (zB6 d),.val (iv n)] {res:=.ov (.agg (zXi (zCw d f n)))}
 |0,n,h1,h2=>by omega
 |f+1,n,h1,h2=>by
  have ih:=yIF d hd hl f
  unfold zB6 at ih ⊢
  simp only [zCw,zXi]
  refine mkA zZZ (base:=0) (fo rfl) (fun hfit=>?_)
  unfold F0 zNQ
  refine goU ?_
  try simp (maxSteps:=2000000) only [go_sem,zBv _ _ h1]
  repeat with_reducible refine zAt ?_
  have hfn:=zBD (zCY hd h1)
  refine zAe (by repeat' constructor) (zI4 _ (by omega) (by omega)) ?_
  try simp (maxSteps:=2000000) only [go_sem,zBv _ _ h1]
  repeat with_reducible refine zAt ?_
  refine zA3 (by repeat' constructor) (zGA _ _ hl) ?_
  refine goW ?_
  refine zAc (fun i:Nat=>[(7,.pv (iv i)),(47,.ov (.one (.os none zAq 6 (zN4 (((zBr d n).take i).map fun k=>zCw d f k.toNat))))),(21,.un)]) (fun i:Nat=>(zBr d n).length-i) (fun i:Nat=>i≤(zBr d n).length) (0) ?_ (Nat.zero_le _) ?_
  focus (simp (maxSteps:=2000000) only [go_sem,zAu,zAE,zA9,zAv];all_goals (repeat' (first|exact trivial|exact zAI (by omega)|exact zAB rfl|exact zAU rfl|exact zAW|exact le_refl _|refine And.intro ?_ ?_)))
  ·exact .inr (.inr rfl)
  intro i hi
  have hkl:(zBr d n).length≤d.length:=zHN _
  have htl:(zN4 (((zBr d n).take i).map fun k=>zCw d f k.toNat)).length=i:=by simp [yIB];omega
  refine goW ?_
  refine zAa (by rfl) trivial (fun h=>?_) (fun h=>?_)
  ·have hlt:i < (zBr d n).length:=by simpa using h
   obtain ⟨m,hm1,hm2,hm3⟩:=zPa hd hlt
   try simp (maxSteps:=2000000) only [go_sem,zDc _ _ hlt,hm1]
   repeat with_reducible refine zAt ?_
   refine zUm (by repeat' constructor) (ih m hm2 (by omega)) ?_
   try simp (maxSteps:=2000000) only [go_sem,htl]
   repeat with_reducible refine zAt ?_
   refine ⟨i+1,by omega,hlt,?_⟩
   simp (maxSteps:=2000000) only [go_sem,zAu,zAE,zA9,zAv]
   all_goals (repeat' (first|exact trivial|exact zAI (by omega)|exact zAB rfl|exact zAU rfl|exact zAW|exact le_refl _|refine And.intro ?_ ?_))
   refine zAU ?_
   rw [zEu 0 hlt,yQh,hm1]
   rfl
  ·refine goW ?_
   have:i=(zBr d n).length:=by simp at h;omega
   rw [this,List.take_length]
   exact yBu rfl rfl rfl
end Go.Hx
end

section
set_option maxRecDepth 100000
namespace Go.Hx
open Go.Proofs
variable [Glob] [GlobL]
attribute [local go_sem] zAh zAj zAg zAd ndV zAm zGB zNK zWv zNJ List.take_zero List.map_nil List.nil_append List.length_append
attribute [local go_sem] reduceCtorEq Nat.reduceAdd Nat.reduceEqDiff reduceIte Nat.reduceLeDiff Nat.reduceLT Nat.reduceSub
def yIG (b:Bool) (at':Int) (e:Tr):Nat→List Tr→List Tr
 |_,[]=>[]
 |i,t::r=>(if b&&decide ((i:Int)=at') then [e] else [])++t::yIG b at' e (i+1) r
theorem yR4 {b:Bool} {at':Int} {e:Tr} {i:Nat}:yIG b at' e i []=[]:=rfl
attribute [local go_sem] yR4
theorem yMK (b:Bool) (at':Int) (e:Tr):∀ (l r:List Tr) (i:Nat),yIG b at' e i (l++r)=yIG b at' e i l++yIG b at' e (i+l.length) r
 |[],r,i=>by simp [yIG]
 |t::l,r,i=>by
  have:=yMK b at' e l r (i+1)
  simp only [List.cons_append,yIG,this,List.length_cons,List.append_assoc]
  rw [show i+1+l.length=i+(l.length+1) by omega]
theorem yQi (b:Bool) (at':Int) (e:Tr):∀ (l:List Tr) (i:Nat),yBX b at' e i l=yIG b at' e i l++(if b&&decide (((i+l.length:Nat):Int)=at') then [e] else [])
 |[],i=>by simp [yBX,yIG]
 |t::l,i=>by
  have:=yQi b at' e l (i+1)
  simp only [yBX,yIG,this,List.length_cons]
  rw [show i+1+l.length=i+(l.length+1) by omega]
  split<;>simp
theorem yML (b:Bool) (at':Int) (e:Tr):∀ (l:List Tr) (i:Nat),(yIG b at' e i l).length≤2 * l.length
 |[],i=>by simp [yIG]
 |t::l,i=>by
  have:=yML b at' e l (i+1)
  simp only [yIG,List.length_append,List.length_cons]
  split<;>simp<;>omega
theorem zPr (up at':Int) (e:Tr) (l:List Tr):(zCd up at' e l).length=l.length:=by simp [zLe]
theorem yOF (up at':Int) (e:Tr) (l r:List Tr):zCd up at' e (l++r)=zCd up at' e l++zCd up at' e r:=by simp [zLe]
theorem yQj (b:Bool) (at':Int) (e:Tr):∀ (l:List Tr) (i:Nat),zQF (yBX b at' e i l)≤zQF l+szT e
 |[],i=>by
  simp only [yBX]
  split<;>simp [zQF]
 |t::l,i=>by
  cases b with
  |false=>rw [yME];omega
  |true=>
   have ih:=yQj true at' e l (i+1)
   simp only [yBX]
   split
   ·rename_i h
    rw [zXh l (i+1) (by simp at h;omega)]
    simp only [zQF];omega
   ·simp only [zQF];omega
mutual
theorem yMM (up at':Int) (e:Tr):∀ t:Tr,szT (zLm up at' e t)≤szT t * (1+szT e)
 |.mk x k=>by
  have h1:=yQj (decide (x.up=up)) at' e (zCd up at' e k) 0
  have h2:=yIH up at' e k
  simp only [zLm,szT,Nat.add_mul,Nat.one_mul]
  omega
theorem yIH (up at':Int) (e:Tr):∀ l:List Tr,zQF (zCd up at' e l)≤zQF l * (1+szT e)
 |[]=>by simp [zCd,zQF]
 |t::r=>by
  have h1:=yMM up at' e t
  have h2:=yIH up at' e r
  simp only [zCd,zQF,Nat.add_mul]
  omega
end
mutual
theorem yQk:∀ t:Tr,szT (zMF t)=szT t
 |.mk x k=>by simp only [zMF,szT,yMN k]
theorem yMN:∀ l:List Tr,zQF (yFE l)=zQF l
 |[]=>rfl
 |t::r=>by simp only [yFE,zQF,yQk t,yMN r]
end
theorem yBY:∀ (N:Nat) (t:Tr) (up at':Int) (e:Tr),szT t≤N→N≤1000000→Contract Tryz.prog zIW [.val (.agg (trV t)),.val (iv up),.val (iv at'),.val (.agg (trV e))] {res:=.val (.agg (trV (zLm up at' e t)))}
 |0,.mk x ks,up,at',e,h1,_=>by simp [szT] at h1
 |N+1,.mk x ks,up,at',e,h1,h2=>by
  have ih:=yBY N
  simp only [szT] at h1 h2
  obtain ⟨ex,ek⟩:=e
  simp only [zLm,trV]
  refine mkA yJD (base:=0) (fo rfl) (fun hfit=>?_)
  unfold F0 yBz
  refine goU ?_
  have hks:=yKs ks
  obtain ⟨e,he⟩:∃ e,e=Tr.mk ex ek:=⟨_,rfl⟩
  rw [←he]
  have hev:trV e=[bI ex.up,bS ex.tag,bS ex.id,.sl 1 (yCG ex.cls),.sl 2 (yCH ex.att),.sl 6 (zZO ek)]:=by rw [he];rfl
  refine zAc (fun i:Nat=>[(9,.own zAq 6 (zZO (yIG (decide (x.up=up)) at' e 0 (zCd up at' e (ks.take i))))),(10,.pv (iv i)),(15,.un),(27,.un)]) (fun i:Nat=>ks.length-i) (fun i:Nat=>i≤ks.length) (0) ?_ (Nat.zero_le _) ?_
  focus (exact leA)
  intro i hi
  have hw:=yML (decide (x.up=up)) at' e (zCd up at' e (ks.take i)) 0
  rw [zPr,List.length_take] at hw
  refine goW ?_
  refine zAa (by rfl) trivial (fun h=>?_) (fun h=>?_)
  ·have hlt:i < ks.length:=by simpa using h
   have hsz:=zTr hlt
   have hc:=ih (ks.getD i default) up at' e (by omega) (by omega)
   rw [hev] at hc
   have hnext:yIG (decide (x.up=up)) at' e 0 (zCd up at' e (ks.take (i+1)))=yIG (decide (x.up=up)) at' e 0 (zCd up at' e (ks.take i))++((if decide (x.up=up)&&decide ((i:Int)=at') then [e] else [])++[zLm up at' e (ks.getD i default)]):=by
    rw [zI6 default hlt,yOF,yMK,zPr,List.length_take,Nat.zero_add,Nat.min_eq_left hi]
    simp only [zCd,yIG]
   refine goW ?_
   refine zAa (by rfl) trivial (fun h3=>?_) (fun h3=>?_)
   ·try simp (maxSteps:=2000000) only [go_sem,yE9 _ _ hlt]
    repeat with_reducible refine zAt ?_
    refine zAe (by repeat' constructor) (Contract.av (hc) (by first|rfl|(simp (maxSteps:=2000000) only [go_sem];done)|(simp (maxSteps:=2000000) only [go_sem];rfl))) ?_
    refine goW ?_
    refine ⟨i+1,by omega,hlt,?_⟩
    simp (maxSteps:=2000000) only [go_sem,zAu,zAE,zA9,zAv]
    all_goals (repeat' (first|exact trivial|exact zAI (by omega)|exact zAB rfl|exact zAU rfl|exact zAW|exact le_refl _|refine And.intro ?_ ?_))
    refine zBk ?_
    rw [hnext]
    have h4:(decide (x.up=up)&&decide ((i:Int)=at'))=true:=by
     simp at h3 ⊢
     exact h3
    rw [if_pos h4]
    simp only [zNL,zZO,hev,List.append_assoc]
    try rfl
   ·try simp (maxSteps:=2000000) only [go_sem,yE9 _ _ hlt]
    repeat with_reducible refine zAt ?_
    refine zAe (by repeat' constructor) (Contract.av (hc) (by first|rfl|(simp (maxSteps:=2000000) only [go_sem];done)|(simp (maxSteps:=2000000) only [go_sem];rfl))) ?_
    refine goW ?_
    refine ⟨i+1,by omega,hlt,?_⟩
    simp (maxSteps:=2000000) only [go_sem,zAu,zAE,zA9,zAv]
    all_goals (repeat' (first|exact trivial|exact zAI (by omega)|exact zAB rfl|exact zAU rfl|exact zAW|exact le_refl _|refine And.intro ?_ ?_))
    refine zBk ?_
    rw [hnext]
    have h4:¬ (decide (x.up=up)&&decide ((i:Int)=at'))=true:=by
     simp at h3 ⊢
     exact h3
    rw [if_neg h4]
    simp only [zNL,zZO,List.nil_append]
  ·have hil:i=ks.length:=by simp at h;omega
   subst hil
   rw [List.take_length] at hw ⊢
   have hfin:=yQi (decide (x.up=up)) at' e (zCd up at' e ks) 0
   rw [zPr,Nat.zero_add] at hfin
   cases hq:(x.up==up) with
   |false=>
    try simp (maxSteps:=2000000) only [go_sem,hq]
    repeat with_reducible refine zAt ?_
    refine zJR (by rfl) trivial ?_
    refine goW ?_
    refine zCH rfl rfl ?_
    have h4:¬ (decide (x.up=up)&&decide (((ks.length:Nat):Int)=at'))=true:=by
     simp at hq ⊢
     intro h6
     exact (hq h6).elim
    rw [hfin,if_neg h4,List.append_nil]
    rfl
   |true=>
    try simp (maxSteps:=2000000) only [go_sem,hq]
    repeat with_reducible refine zAt ?_
    refine zAa (by rfl) trivial (fun h5=>?_) (fun h5=>?_)
    ·refine goW ?_
     refine zCH rfl rfl ?_
     have h4:(decide (x.up=up)&&decide (((ks.length:Nat):Int)=at'))=true:=by
      simp at h5 hq ⊢
      exact ⟨hq,h5.symm⟩
     rw [hfin,if_pos h4,zNL]
     simp only [zZO,hev]
     rfl
    ·refine goW ?_
     refine zCH rfl rfl ?_
     have h4:¬ (decide (x.up=up)&&decide (((ks.length:Nat):Int)=at'))=true:=by
      simp at h5 hq ⊢
      intro h6 h7
      exact h5 h7.symm
     rw [hfin,if_neg h4,List.append_nil]
     rfl
theorem zR9 (d:List Nd) (up at':Int) (e:List Nd):Contract Tryz.prog zFj [.val (zB6 d),.val (iv up),.val (iv at'),.val (zB6 e)] {res:=.tup [zB6 (if zEz d up at' e=0 then yXI d up at' e else []),iv (zEz d up at' e)]}:=by
 unfold zB6
 refine mkA zPo (base:=0) (fo rfl) (fun hfit=>?_)
 unfold F0 zJq
 refine goU ?_
 refine zAe (by repeat' constructor) (Contract.av (zGU d) (by first|rfl|(simp (maxSteps:=2000000) only [go_sem];done)|(simp (maxSteps:=2000000) only [go_sem];rfl))) ?_
 refine goW ?_
 refine zAa (by rfl) trivial (fun h=>?_) (fun h=>?_)
 ·refine goW ?_
  have h2:¬ zAl d=0:=by simpa using h
  have h3:zEz d up at' e=zAl d:=by rw [zEz,if_neg h2]
  rw [h3,if_neg h2]
  exact zAL (by simp) ⟨zAN rfl rfl (.inr rfl),zA5 rfl trivial (.inl rfl),rfl⟩
 have hd0:zAl d=0:=by simpa using h
 refine goW ?_
 refine zAe (by repeat' constructor) (Contract.av (zGU e) (by first|rfl|(simp (maxSteps:=2000000) only [go_sem];done)|(simp (maxSteps:=2000000) only [go_sem];rfl))) ?_
 refine goW ?_
 refine zAa (by rfl) trivial (fun h3=>?_) (fun h3=>?_)
 ·refine goW ?_
  have h2:¬ zAl e=0:=by simpa using h3
  have h3:zEz d up at' e=zAl e:=by rw [zEz,if_pos hd0,if_neg h2]
  rw [h3,if_neg h2]
  exact zAL (by simp) ⟨zAN rfl rfl (.inr rfl),zA5 rfl trivial (.inl rfl),rfl⟩
 have he0:zAl e=0:=by simpa using h3
 obtain ⟨d1,d2,d3⟩:=zA0 hd0
 obtain ⟨e1,e2,e3⟩:=zA0 he0
 refine goW ?_
 refine zAe (by repeat' constructor) (zBC up 0 (d.length-1)) ?_
 refine goW ?_
 refine zAa (by rfl) trivial (fun h5=>?_) (fun h5=>?_)
 ·refine goW ?_
  have h6:up < 0∨up≥d.length:=by simp at h5;omega
  have h7:zEz d up at' e=5:=by rw [zEz,if_pos hd0,if_pos he0,if_pos h6]
  rw [h7,if_neg (by omega)]
  exact zAL (by simp) ⟨zAN rfl rfl (.inr rfl),zA5 rfl trivial (.inl rfl),rfl⟩
 have h6:¬ (up < 0∨up≥d.length):=by simp at h5;omega
 obtain ⟨m,rfl⟩:∃ m:Nat,up=m:=⟨up.toNat,by omega⟩
 have hm:m < d.length:=by omega
 have hkl:(zBr d m).length≤d.length:=zHN _
 have hpl:(zBl d m).length=(zBr d m).length+1:=by rw [zBl,zEa d3 hm];simp
 refine goW ?_
 refine zA3 (by repeat' constructor) (Contract.av (zGA d m d2) (by first|rfl|(simp (maxSteps:=2000000) only [go_sem];done)|(simp (maxSteps:=2000000) only [go_sem];rfl))) ?_
 refine goW ?_
 refine zAe (by repeat' constructor) (zBC at' 0 (zBr d m).length) ?_
 refine goW ?_
 refine zAa (by rfl) trivial (fun h7=>?_) (fun h7=>?_)
 ·refine goW ?_
  have h8:at' < 0∨at'≥(zBl d (m:Int).toNat).length:=by rw [Int.toNat_natCast,hpl];simp at h7;omega
  have h9:zEz d m at' e=3:=by rw [zEz,if_pos hd0,if_pos he0,if_neg h6,if_pos h8]
  rw [h9,if_neg (by omega)]
  exact zAL (by simp) ⟨zAN rfl rfl (.inr rfl),zA5 rfl trivial (.inl rfl),rfl⟩
 have h8:¬ (at' < 0∨at'≥(zBl d (m:Int).toNat).length):=by rw [Int.toNat_natCast,hpl];simp at h7;omega
 refine goW ?_
 refine zAa (by rfl) trivial (fun h9=>?_) (fun h9=>?_)
 ·refine goW ?_
  have h10:d.length+e.length > 64:=by simp at h9;omega
  have h11:zEz d m at' e=2:=by rw [zEz,if_pos hd0,if_pos he0,if_neg h6,if_neg h8,if_pos h10]
  rw [h11,if_neg (by omega)]
  exact zAL (by simp) ⟨zAN rfl rfl (.inr rfl),zA5 rfl trivial (.inl rfl),rfl⟩
 have h10:¬ d.length+e.length > 64:=by simp at h9;omega
 have h11:zEz d m at' e=0:=by rw [zEz,if_pos hd0,if_pos he0,if_neg h6,if_neg h8,if_neg h10]
 rw [h11,if_pos rfl]
 have hse:szT (zCw e e.length 0)≤64:=by
  rw [yMB e3 (by omega)]
  have:=zAy (d:=e) (n:=0) (by omega)
  omega
 have hsd:szT (zEv d d.length 0)≤64:=by
  rw [yMC,yMB d3 (by omega)]
  have:=zAy (d:=d) (n:=0) (by omega)
  omega
 have hsw:=yMM m at' (zMF (zCw e e.length 0)) (zEv d d.length 0)
 rw [yQk] at hsw
 have hsw2:szT (zLm m at' (zMF (zCw e e.length 0)) (zEv d d.length 0))≤64 * 65:=Nat.le_trans hsw (Nat.mul_le_mul hsd (by omega))
 refine goW ?_
 refine zAe (by repeat' constructor) (Contract.av (zQG d d3 d2 d.length 0 (by omega) (by omega)) (by first|rfl|(simp (maxSteps:=2000000) only [go_sem];done)|(simp (maxSteps:=2000000) only [go_sem];rfl))) ?_
 refine goW ?_
 refine zUm (by repeat' constructor) (Contract.av (yIF e e3 e2 e.length 0 (by omega) (by omega)) (by first|rfl|(simp (maxSteps:=2000000) only [go_sem];done)|(simp (maxSteps:=2000000) only [go_sem];rfl))) ?_
 refine goW ?_
 refine yWS (by rfl) (yIE _ _ hse (by omega)) (yMJ _) ?_
 refine goW ?_
 refine zAe (by repeat' constructor) (Contract.av (yBY _ (zEv d d.length 0) m at' (zMF (zCw e e.length 0)) (Nat.le_refl _) (by omega)) (by first|rfl|(simp (maxSteps:=2000000) only [go_sem];done)|(simp (maxSteps:=2000000) only [go_sem];rfl))) ?_
 refine goW ?_
 refine zA3 (by repeat' constructor) (Contract.av (yHV _ (zLm m at' (zMF (zCw e e.length 0)) (zEv d d.length 0)) [] (-1) (Nat.le_refl _) (by simp;omega)) (by first|rfl|(simp (maxSteps:=2000000) only [go_sem];done)|(simp (maxSteps:=2000000) only [go_sem];rfl))) ?_
 refine goW ?_
 exact zAL (by simp) ⟨zAN rfl rfl (.inl rfl),zA5 rfl trivial (.inl rfl),rfl⟩
end Go.Hx
end
