/-
  Walks of functions of the program over an abstract layer, and the laws that they use: each contract says what the function computes, for every input that its conditions let by. No other condition.
-/
import Derived.Test.YtjnagiaooecklaaGreatDoorG10
import Derived.Test.YtjnagiaooecklaaGreatDoorG19
import Derived.Test.YtjnagiaooecklaaGreatDoorG29
import Derived.Test.YtjnagiaooecklaaGreatDoorG13
import Derived.Test.YtjnagiaooecklaaGreatDoorG11
set_option linter.all false
section
set_option maxRecDepth 100000
set_option linter.unusedSimpArgs false
namespace Go.Hx
open Go.Proofs
variable [Glob] [GlobL]
attribute [local go_sem] zAk zAi zAj zAe ndV zAg
attribute [local go_sem] reduceCtorEq Nat.reduceAdd Nat.reduceEqDiff reduceIte Nat.reduceLeDiff Nat.reduceLT Nat.reduceSub
theorem zBR (l:List Bys) (hl:l.length≤64):Contract Tryz.prog zAW [.val (.one (.sl 1 (zQr l)))] {res:=.own zGi 1 (zQr l)}:=by
 refine mkA zHw (base:=0) (fo rfl) (fun hfit=>?_)
 unfold F0 zD4
 refine goU ?_
 intro b hb
 refine zAa (by rfl) trivial (fun h=>?_) (fun h=>?_)
 ·refine goW ?_
  have:zQr l=[]:=by
   apply Classical.byContradiction
   intro h2;rw [hb h2] at h;cases h
  rw [this]
  exact zG2 rfl
 ·refine goW ?_
  exact zG2 rfl
theorem zCf (l:List (Bys×Bys)) (hl:l.length≤64):Contract Tryz.prog zA8 [.val (.one (.sl 2 (yBn l)))] {res:=.own zES 2 (yBn l)}:=by
 refine mkA zJM (base:=0) (fo rfl) (fun hfit=>?_)
 unfold F0 zET
 refine goU ?_
 intro b hb
 refine zAa (by rfl) trivial (fun h=>?_) (fun h=>?_)
 ·refine goW ?_
  have:yBn l=[]:=by
   apply Classical.byContradiction
   intro h2;rw [hb h2] at h;cases h
  rw [this]
  exact zG2 rfl
 ·refine goW ?_
  exact zG2 rfl
def zBW (g:Int→Int) (x:Nd):Nd:={x with up:=g x.up}
def yDl (x:Nd):Prop:=x.cls.length≤64∧x.att.length≤64
theorem zPH {l:List Nd} {i:Nat} (h:i < l.length):l.getD i default∈l:=by
 simp [h]
theorem zJs (l:List Nd) (f:Nat) (caps:List PV) (g:Int→Int) (hl:l.length≤64) (hs:∀ x∈l,yDl x)
  (hg:∀ x∈l,Contract Tryz.prog f ([.val (iv x.up)]++caps.map fun c=>.val (.one c)) {res:=.val (iv (g x.up))}):
  Contract Tryz.prog zCn [.val (.one (.sl 5 (zEf l))),.val (.one (.clo f caps))] {res:=.own zAN 5 (zEf (l.map (zBW g)))}:=by
 refine mkA yEY (base:=0) (fo rfl) (fun hfit=>?_)
 unfold F0 zY4
 refine goU ?_
 refine zAn (fun i:Nat=>[(5,.own zAN 5 (zEf ((l.take i).map (zBW g)))),(7,.un),(10,.pv (iv i)),(11,.un),(33,.un),(34,.un),(35,.un),(36,.un),(37,.un)]) (fun i:Nat=>l.length-i) (fun i:Nat=>i≤l.length) (0) ?_ (Nat.zero_le _) ?_
 focus (exact leA)
 intro i hi
 refine goW ?_
 refine zAa (by rfl) trivial (fun h=>?_) (fun h=>?_)
 ·have hlt:i < l.length:=by simpa using h
  have hmem:=zPH hlt
  obtain ⟨hs1,hs2⟩:=hs _ hmem
  try simp (maxSteps:=2000000) only [go_sem,zBo _ _ hlt]
  repeat with_reducible refine zAP ?_
  refine zCu (by rfl) trivial (by repeat' constructor) (hg _ hmem) ?_
  refine goW ?_
  refine zBI (by repeat' constructor) (zBR _ hs1) ?_
  refine goW ?_
  refine zBI (by repeat' constructor) (zCf _ hs2) ?_
  refine goW ?_
  refine ⟨i+1,by omega,hlt,?_⟩
  simp (maxSteps:=2000000) only [go_sem,zAS,zBu,zCR,zAT]
  all_goals (repeat' (first|exact trivial|exact zBa (by omega)|exact zAX rfl|exact zBb rfl|exact zBB|exact le_refl _|refine And.intro ?_ ?_))
  refine zQp ?_
  rw [zMK default hlt,zXO]
  rfl
 ·refine goW ?_
  have:i=l.length:=by simp at h;omega
  subst this
  rw [List.take_length]
  exact zG2 rfl
theorem yDm (up:Int):Contract Tryz.prog zFs [.val (iv up)] {res:=.val (iv up)}:=by
 refine mkA zZa (base:=0) (fo rfl) (fun hfit=>?_)
 unfold F0 zQ2
 refine goU ?_
 refine goW ?_
 refine zAb rfl trivial (.inl ?_)
 congr 3
theorem zKw (up n e:Int) (h1:-1000≤up∧up≤1000) (h2:-1000≤n∧n≤1000) (h3:-1000≤e∧e≤1000):Contract Tryz.prog zCy [.val (iv up),.val (.one (.fp [bI e])),.val (.one (.fp [bI n]))] {res:=.val (iv (if up≥e then up-e+n else up))}:=by
 refine mkA zQ1 (base:=0) (fo rfl) (fun hfit=>?_)
 unfold F0 zKq
 refine goU ?_
 refine zAa (by rfl) trivial (fun h=>?_) (fun h=>?_)
 ·refine goW ?_
  refine zAb rfl trivial (.inl ?_)
  congr 3
  rw [if_pos (by simpa using h)]
 ·refine goW ?_
  refine zAb rfl trivial (.inl ?_)
  congr 3
  rw [if_neg (by simpa using h)]
theorem zKx (up n:Int) (e:List Nd) (h1:-1000≤up∧up≤1000) (h2:-1000≤n∧n≤1000) (h3:e.length≤64):Contract Tryz.prog zCw [.val (iv up),.val (.one (.fp [bI n])),.val (.one (.fp [.sl 5 (zEf e)]))] {res:=.val (iv (if up≥n then up+e.length else up))}:=by
 refine mkA zQR (base:=0) (fo rfl) (fun hfit=>?_)
 unfold F0 zKo
 refine goU ?_
 refine zAa (by rfl) trivial (fun h=>?_) (fun h=>?_)
 ·refine goW ?_
  refine zAb rfl trivial (.inl ?_)
  congr 3
  rw [if_pos (by simpa using h)]
 ·refine goW ?_
  refine zAb rfl trivial (.inl ?_)
  congr 3
  rw [if_neg (by simpa using h)]
theorem zUj (k n up:Int) (h1:-1000≤k∧k≤1000) (h2:-1000≤n∧n≤1000):Contract Tryz.prog zDt [.val (iv k),.val (.one (.fp [bI up])),.val (.one (.fp [bI n]))] {res:=.val (iv (if k < 0 then up else k+n))}:=by
 refine mkA zQW (base:=0) (fo rfl) (fun hfit=>?_)
 unfold F0 zKp
 refine goU ?_
 refine zAa (by rfl) trivial (fun h=>?_) (fun h=>?_)
 ·refine goW ?_
  refine zAb rfl trivial (.inl ?_)
  congr 3
  rw [if_pos (by simpa using h)]
 ·refine goW ?_
  refine zAb rfl trivial (.inl ?_)
  congr 3
  rw [if_neg (by simpa using h)]
def sls (ls:List (List Nd)):List (List PV):=ls.map fun l=>[.sl 5 (zEf l)]
theorem zYa (ls:List (List Nd)):(sls ls).length=ls.length:=by simp [sls]
theorem yHv (ls:List (List Nd)) (i:Nat) (h:i < ls.length):(sls ls).getD i []=[.sl 5 (zEf (ls.getD i []))]:=by simp [sls,h]
theorem zF5 (ls:List (List Nd)) (i:Nat) (h:i < ls.length):(ls.take (i+1)).flatten=(ls.take i).flatten++ls.getD i []:=by
 rw [yCw [] h];simp
theorem yEi (ls:List (List Nd)) (i:Nat) (h:i < ls.length):(ls.take i).flatten.length+(ls.getD i []).length≤ls.flatten.length:=by
 have e:ls.flatten=(ls.take (i+1)).flatten++(ls.drop (i+1)).flatten:=by rw [←List.flatten_append,List.take_append_drop]
 rw [e,zF5 ls i h];simp
theorem zEr (ls:List (List Nd)) (hl:ls.flatten.length≤1000) (hn:ls.length≤10):Contract Tryz.prog zBN [.val (.one (.sl 1 (sls ls)))] {res:=.own zAN 5 (zEf ls.flatten)}:=by
 refine mkA zIz (base:=0) (fo rfl) (fun hfit=>?_)
 unfold F0 zEm
 refine goU ?_
 try simp (maxSteps:=2000000) only [go_sem,zYa]
 repeat with_reducible refine zAP ?_
 refine zAn (fun i:Nat=>[(3,.pv (iv ((ls.take i).flatten.length))),(5,.un),(11,.pv (iv i)),(12,.un),(20,.un)]) (fun i:Nat=>ls.length-i) (fun i:Nat=>i≤ls.length) (0) ?_ (Nat.zero_le _) ?_
 focus (exact leA)
 intro i hi
 refine goW ?_
 refine zAa (by rfl) trivial (fun h=>?_) (fun h=>?_)
 ·have hlt:i < ls.length:=by simpa using h
  have hfl:=yEi ls i hlt
  try simp (maxSteps:=2000000) only [go_sem,zYa,yHv _ _ hlt]
  repeat with_reducible refine zAP ?_
  refine zAa (by rfl) trivial (fun h2=>?_) (fun h2=>?_)
  ·exfalso;simp at h2;omega
  ·refine goW ?_
   refine ⟨i+1,by omega,hlt,?_⟩
   simp (maxSteps:=2000000) only [go_sem,zAS,zBu,zCR,zAT]
   all_goals (repeat' (first|exact trivial|exact zBa (by omega)|exact zAX rfl|exact zBb rfl|exact zBB|exact le_refl _|refine And.intro ?_ ?_))
   rw [zF5 ls i hlt]
   exact zBa (by simp)
 refine goW ?_
 have hi2:i=ls.length:=by simp at h;omega
 subst hi2
 rw [List.take_length]
 refine zBI (by repeat' constructor) (zM8 _ hl) ?_
 refine goW ?_
 try simp (maxSteps:=2000000) only [go_sem,zYa]
 repeat with_reducible refine zAP ?_
 refine zAn (fun i:Nat=>[(6,.own zAN 5 (zEf (ls.take i).flatten)),(8,.un),(27,.pv (iv i)),(28,.un)]) (fun i:Nat=>ls.length-i) (fun i:Nat=>i≤ls.length) (0) ?_ (Nat.zero_le _) ?_
 focus (exact leA)
 intro i hi
 refine goW ?_
 refine zAa (by rfl) trivial (fun h=>?_) (fun h=>?_)
 ·have hlt:i < ls.length:=by simpa using h
  have hfl:=yEi ls i hlt
  try simp (maxSteps:=2000000) only [go_sem,zYa,yHv _ _ hlt]
  repeat with_reducible refine zAP ?_
  refine ⟨i+1,by omega,hlt,?_⟩
  simp (maxSteps:=2000000) only [go_sem,zAS,zBu,zCR,zAT]
  all_goals (repeat' (first|exact trivial|exact zBa (by omega)|exact zAX rfl|exact zBb rfl|exact zBB|exact le_refl _|refine And.intro ?_ ?_))
  rw [zF5 ls i hlt,zXO]
  exact zQp rfl
 refine goW ?_
 have hi2:i=ls.length:=by simp at h;omega
 subst hi2
 rw [List.take_length]
 exact zG2 rfl
end Go.Hx
end

section
set_option maxRecDepth 100000
set_option linter.unusedSimpArgs false
namespace Go.Hx
open Go.Proofs
variable [Glob] [GlobL]
attribute [local go_sem] zAk zAi zAj zAe ndV zAg List.take_length
attribute [local go_sem] reduceCtorEq Nat.reduceAdd Nat.reduceEqDiff reduceIte Nat.reduceLeDiff Nat.reduceLT Nat.reduceSub
theorem yHw (d:List Nd) (n:Nat):(zEf d).take n=zEf (d.take n):=by simp [zEf]
attribute [local go_sem] yHw
theorem yHx (d:List Nd) (n:Nat):(zEf d).drop n=zEf (d.drop n):=by simp [zEf]
attribute [local go_sem] yHx
theorem yHy {l:List Int} {i:Nat} (h:i < l.length):l.getD i 0∈l:=by simp [h]
theorem yLD {d:List Nd} {x:Nd} (h:x∈d):∃ i,i < d.length∧d.getD i default=x:=by
 obtain ⟨i,hi,e⟩:=List.getElem_of_mem h
 exact ⟨i,hi,by simp [hi,e]⟩
theorem zCj {d:List Nd} (hd:zCF d d.length=true) (hl:d.length≤64) {x:Nd} (h:x∈d):yDl x∧-1000≤x.up∧x.up≤1000:=by
 obtain ⟨i,hi,rfl⟩:=yLD h
 have h1:=zD9 (zJD hd hi)
 have h2:=zA1 hd i hi
 simp only [zAB] at h2
 exact ⟨⟨by omega,by omega⟩,by omega,by omega⟩
def yDn (d:List Nd) (n:Nat):List Nd:=((d.take (zAq d n)).drop n).map (zBW fun up=>max (up-n) (-1))
def zCk (d:List Nd) (n:Nat):List Nd:=[(d.take n).map (zBW fun k=>if k≥zAq d n then k-zAq d n+n else k),(d.drop (zAq d n)).map (zBW fun k=>if k≥zAq d n then k-zAq d n+n else k)].flatten
def zYg (d:List Nd) (k:Int):Int:=if zCB d k=0 then (if k=0 then 3 else 0) else zCB d k
theorem yAS (d:List Nd) (k:Int):Contract Tryz.prog zG9 [.val (zCv d),.val (iv k)] {res:=.tup [zCv (if zYg d k=0 then zCk d k.toNat else []),iv (zYg d k)]}:=by
 unfold zCv
 refine mkA zWu (base:=0) (fo rfl) (fun hfit=>?_)
 unfold F0 zOp
 refine goU ?_
 refine zAo (by repeat' constructor) (zSs d k) ?_
 refine goW ?_
 refine zAa (by rfl) trivial (fun h=>?_) (fun h=>?_)
 ·refine goW ?_
  have h2:¬ zCB d k=0:=by simpa using h
  have h3:zYg d k=zCB d k:=by simp [zYg,h2]
  rw [h3,if_neg h2]
  exact zAA (by simp) ⟨zAZ rfl rfl (.inr rfl),zAv rfl trivial (.inl rfl),rfl⟩
 have h2:zCB d k=0:=by simpa using h
 obtain ⟨h3,h4,h5⟩:=zML h2
 obtain ⟨h6,h7,h8⟩:=zBr h3
 obtain ⟨m,rfl⟩:∃ m:Nat,k=m:=⟨k.toNat,by omega⟩
 refine goW ?_
 refine zAa (by rfl) trivial (fun h9=>?_) (fun h9=>?_)
 ·refine goW ?_
  have h10:(m:Int)=0:=by simpa using h9
  have h3:zYg d m=3:=by rw [zYg,if_pos h2,if_pos h10]
  rw [h3,if_neg (by omega)]
  exact zAA (by simp) ⟨zAZ rfl rfl (.inr rfl),zAv rfl trivial (.inl rfl),rfl⟩
 have h10:¬ (m:Int)=0:=by simpa using h9
 have hr:zYg d m=0:=by simp only [zYg,h2,h10,if_true,if_false]
 rw [hr,if_pos rfl]
 have hm:m < d.length:=by omega
 have hb:=zAL hm
 refine goW ?_
 refine zAo (by repeat' constructor) (Contract.av (zFG d m hm) (by first|rfl|(simp (maxSteps:=2000000) only [go_sem];done)|(simp (maxSteps:=2000000) only [go_sem];rfl))) ?_
 refine goW ?_
 have hs1:∀ x∈d.take m,x∈d:=fun x hx=>List.mem_of_mem_take hx
 have hs2:∀ x∈d.drop (zAq d m),x∈d:=fun x hx=>List.mem_of_mem_drop hx
 refine zBI (by repeat' constructor) (Contract.av (zJs (d.take m) zCy [.fp [bI (zAq d m)],.fp [bI m]] (fun k=>if k≥zAq d m then k-zAq d m+m else k) (by simp;omega) (fun x hx=>(zCj h8 h7 (hs1 x hx)).1) (fun x hx=>zKw x.up m (zAq d m) (zCj h8 h7 (hs1 x hx)).2 (by omega) (by omega))) (by first|rfl|(simp (maxSteps:=2000000) only [go_sem];done)|(simp (maxSteps:=2000000) only [go_sem];rfl))) ?_
 refine goW ?_
 refine zBI (by repeat' constructor) (Contract.av (zJs (d.drop (zAq d m)) zCy [.fp [bI (zAq d m)],.fp [bI m]] (fun k=>if k≥zAq d m then k-zAq d m+m else k) (by simp;omega) (fun x hx=>(zCj h8 h7 (hs2 x hx)).1) (fun x hx=>zKw x.up m (zAq d m) (zCj h8 h7 (hs2 x hx)).2 (by omega) (by omega))) (by first|rfl|(simp (maxSteps:=2000000) only [go_sem];done)|(simp (maxSteps:=2000000) only [go_sem];rfl))) ?_
 refine goW ?_
 refine zBI (by repeat' constructor) (Contract.av (zEr [(d.take m).map (zBW fun k=>if k≥zAq d m then k-zAq d m+m else k),(d.drop (zAq d m)).map (zBW fun k=>if k≥zAq d m then k-zAq d m+m else k)] (by simp;omega) (by simp)) (by first|rfl|(simp (maxSteps:=2000000) only [go_sem];done)|(simp (maxSteps:=2000000) only [go_sem];rfl))) ?_
 refine goW ?_
 exact zAA (by simp) ⟨zAZ rfl rfl (.inl rfl),zAv rfl trivial (.inl rfl),rfl⟩
theorem yAT {d:List Nd} {n:Nat} (hb:zAq d n≤d.length):∀ (f i:Nat),(zN6 d n f i).length≤f∧∀ x∈zN6 d n f i,(i:Int)≤x∧x < d.length
 |0,i=>by simp [zN6]
 |f+1,i=>by
  simp only [zN6]
  split
  ·rename_i h
   have h1:=zAL (d:=d) (n:=i) (by omega)
   have h2:=yAT hb f (zAq d i)
   refine ⟨by simp;omega,fun x hx=>?_⟩
   rcases List.mem_cons.1 hx with rfl|hx
   ·omega
   ·have:=h2.2 x hx;omega
  ·simp
theorem zYb {d:List Nd} {n:Nat} (hn:n < d.length):(zDc d n).length≤d.length∧∀ x∈zDc d n++[(zAq d n:Int)],(n:Int) < x∧x≤d.length:=by
 have hb:=zAL hn
 have h:=yAT hb.2 d.length (n+1)
 refine ⟨h.1,fun x hx=>?_⟩
 rcases List.mem_append.1 hx with hx|hx
 ·have:=h.2 x hx;omega
 ·simp at hx;omega
def zBv (d:List Nd) (up:Nat):List Int:=zDc d up++[(zAq d up:Int)]
def zPr (d:List Nd) (up at':Int) (e:List Nd):Int:=
 if zAd d=0 then (if zAd e=0 then (if up < 0∨up≥d.length then 5 else if at' < 0∨at'≥(zBv d up.toNat).length then 3 else if d.length+e.length > 64 then 2 else 0) else zAd e) else zAd d
def zAO (d:List Nd) (up:Int) (n:Nat) (e:List Nd):List Nd:=
 [(d.take n).map (zBW fun k=>if k≥n then k+e.length else k),e.map (zBW fun k=>if k < 0 then up else k+n),(d.drop n).map (zBW fun k=>if k≥n then k+e.length else k)].flatten
def zBS (d:List Nd) (up at':Int) (e:List Nd):List Nd:=zAO d up ((zBv d up.toNat).getD at'.toNat 0).toNat e
theorem yAU (d:List Nd) (up at':Int) (e:List Nd):Contract Tryz.prog zG8 [.val (zCv d),.val (iv up),.val (iv at'),.val (zCv e)] {res:=.tup [zCv (if zPr d up at' e=0 then zBS d up at' e else []),iv (zPr d up at' e)]}:=by
 unfold zCv
 refine mkA zWk (base:=0) (fo rfl) (fun hfit=>?_)
 unfold F0 zOo
 refine goU ?_
 refine zAo (by repeat' constructor) (zDV d) ?_
 refine goW ?_
 refine zAa (by rfl) trivial (fun h=>?_) (fun h=>?_)
 ·refine goW ?_
  have h2:¬ zAd d=0:=by simpa using h
  have h3:zPr d up at' e=zAd d:=by rw [zPr,if_neg h2]
  rw [h3,if_neg h2]
  exact zAA (by simp) ⟨zAZ rfl rfl (.inr rfl),zAv rfl trivial (.inl rfl),rfl⟩
 have h2:zAd d=0:=by simpa using h
 obtain ⟨h6,h7,h8⟩:=zBr h2
 refine goW ?_
 refine zAo (by repeat' constructor) (zDV e) ?_
 refine goW ?_
 refine zAa (by rfl) trivial (fun h=>?_) (fun h=>?_)
 ·refine goW ?_
  have h3:¬ zAd e=0:=by simpa using h
  have h4:zPr d up at' e=zAd e:=by rw [zPr,if_pos h2,if_neg h3]
  rw [h4,if_neg h3]
  exact zAA (by simp) ⟨zAZ rfl rfl (.inr rfl),zAv rfl trivial (.inl rfl),rfl⟩
 have h3:zAd e=0:=by simpa using h
 obtain ⟨g6,g7,g8⟩:=zBr h3
 refine goW ?_
 refine zAa (by rfl) trivial (fun h=>?_) (fun h=>?_)
 ·refine goW ?_
  have h4:up < 0∨up≥d.length:=by grind
  have h5:zPr d up at' e=5:=by rw [zPr,if_pos h2,if_pos h3,if_pos h4]
  rw [h5,if_neg (by omega)]
  exact zAA (by simp) ⟨zAZ rfl rfl (.inr rfl),zAv rfl trivial (.inl rfl),rfl⟩
 have h4:¬ (up < 0∨up≥d.length):=by grind
 obtain ⟨m,rfl⟩:∃ m:Nat,up=m:=⟨up.toNat,by omega⟩
 have hm:m < d.length:=by omega
 have hb:=zAL hm
 obtain ⟨hkl,hpl⟩:=zYb hm
 refine goW ?_
 refine zBI (by repeat' constructor) (Contract.av (yFF d m hm h7) (by first|rfl|(simp (maxSteps:=2000000) only [go_sem];done)|(simp (maxSteps:=2000000) only [go_sem];rfl))) ?_
 refine goW ?_
 refine zAo (by repeat' constructor) (Contract.av (zFG d m hm) (by first|rfl|(simp (maxSteps:=2000000) only [go_sem];done)|(simp (maxSteps:=2000000) only [go_sem];rfl))) ?_
 refine goW ?_
 have hpl':(zDc d m).length≤64:=by omega
 have happ:zAH (zDc d m)++[[PV.v (Value.int IntKind.i64 ↑(zAq d m))]]=zAH (zBv d m):=by simp [zBv,zAH]
 rw [happ]
 have hlp:(zBv d m).length=(zDc d m).length+1:=by simp [zBv]
 refine goW ?_
 refine zAa (by rfl) trivial (fun h=>?_) (fun h=>?_)
 ·refine goW ?_
  have h5:at' < 0∨at'≥(zBv d (m:Int).toNat).length:=by grind
  have h6:zPr d m at' e=3:=by rw [zPr,if_pos h2,if_pos h3,if_neg h4,if_pos h5]
  rw [h6,if_neg (by omega)]
  exact zAA (by simp) ⟨zAZ rfl rfl (.inr rfl),zAv rfl trivial (.inl rfl),rfl⟩
 have h5:¬ (at' < 0∨at'≥(zBv d (m:Int).toNat).length):=by grind
 obtain ⟨p,rfl⟩:∃ p:Nat,at'=p:=⟨at'.toNat,by omega⟩
 have hp:p < (zBv d m).length:=by simp at h5;omega
 refine goW ?_
 refine zAa (by rfl) trivial (fun h=>?_) (fun h=>?_)
 ·refine goW ?_
  have h6:d.length+e.length > 64:=by simp at h;omega
  have h7:zPr d m p e=2:=by rw [zPr,if_pos h2,if_pos h3,if_neg h4,if_neg h5,if_pos h6]
  rw [h7,if_neg (by omega)]
  exact zAA (by simp) ⟨zAZ rfl rfl (.inr rfl),zAv rfl trivial (.inl rfl),rfl⟩
 have h6':¬ d.length+e.length > 64:=by simp at h;omega
 have hie:zPr d m p e=0:=by rw [zPr,if_pos h2,if_pos h3,if_neg h4,if_neg h5,if_neg h6']
 rw [hie,if_pos rfl]
 have hx:=hpl ((zBv d m).getD p 0) (yHy (l:=zBv d m) hp)
 obtain ⟨n,hn⟩:∃ n:Nat,(zBv d m).getD p 0=n:=⟨((zBv d m).getD p 0).toNat,by omega⟩
 have hdi:zBS d m p e=zAO d m n e:=by simp only [zBS,Int.toNat_natCast,hn]
 rw [hdi]
 rw [hn] at hx
 try simp (maxSteps:=2000000) only [go_sem,zD3 _ _ hp,hn]
 repeat with_reducible refine zAP ?_
 have hs1:∀ x∈d.take n,x∈d:=fun x hx=>List.mem_of_mem_take hx
 have hs2:∀ x∈d.drop n,x∈d:=fun x hx=>List.mem_of_mem_drop hx
 refine zBI (by repeat' constructor) (Contract.av (zJs (d.take n) zCw [.fp [bI n],.fp [.sl 5 (zEf e)]] (fun k=>if k≥n then k+e.length else k) (by simp;omega) (fun x hx=>(zCj h8 h7 (hs1 x hx)).1) (fun x hx=>zKx x.up n e (zCj h8 h7 (hs1 x hx)).2 (by omega) (by omega))) (by first|rfl|(simp (maxSteps:=2000000) only [go_sem];done)|(simp (maxSteps:=2000000) only [go_sem];rfl))) ?_
 refine goW ?_
 refine zBI (by repeat' constructor) (Contract.av (zJs e zDt [.fp [bI m],.fp [bI n]] (fun k=>if k < 0 then (m:Int) else k+n) (by omega) (fun x hx=>(zCj g8 g7 hx).1) (fun x hx=>zUj x.up n m (zCj g8 g7 hx).2 (by omega))) (by first|rfl|(simp (maxSteps:=2000000) only [go_sem];done)|(simp (maxSteps:=2000000) only [go_sem];rfl))) ?_
 refine goW ?_
 refine zBI (by repeat' constructor) (Contract.av (zJs (d.drop n) zCw [.fp [bI n],.fp [.sl 5 (zEf e)]] (fun k=>if k≥n then k+e.length else k) (by simp;omega) (fun x hx=>(zCj h8 h7 (hs2 x hx)).1) (fun x hx=>zKx x.up n e (zCj h8 h7 (hs2 x hx)).2 (by omega) (by omega))) (by first|rfl|(simp (maxSteps:=2000000) only [go_sem];done)|(simp (maxSteps:=2000000) only [go_sem];rfl))) ?_
 refine goW ?_
 refine zBI (by repeat' constructor) (Contract.av (zEr [(d.take n).map (zBW fun k=>if k≥n then k+e.length else k),e.map (zBW fun k=>if k < 0 then (m:Int) else k+n),(d.drop n).map (zBW fun k=>if k≥n then k+e.length else k)] (by simp;omega) (by simp)) (by first|rfl|(simp (maxSteps:=2000000) only [go_sem];done)|(simp (maxSteps:=2000000) only [go_sem];rfl))) ?_
 refine goW ?_
 exact zAA (by simp) ⟨zAZ rfl rfl (.inl rfl),zAv rfl trivial (.inl rfl),rfl⟩
end Go.Hx
end

section
set_option maxRecDepth 100000
set_option linter.unusedSimpArgs false
namespace Go.Hx
open Go.Proofs
variable [Glob] [GlobL]
attribute [local go_sem] zAk zAi zAj zAe ndV zAg atV OVal.cells zVc List.drop_succ_cons List.drop_zero List.take_succ_cons List.getD_nil zUx zFk Nat.sub_zero List.map_nil List.map_cons
attribute [local go_sem ↓] yGs yGt
attribute [local go_sem] reduceCtorEq Nat.reduceAdd Nat.reduceEqDiff reduceIte Nat.reduceLeDiff Nat.reduceLT Nat.reduceSub
def zFH (rows:List (List PV)):List (List OV):=rows.map fun r=>r.map .p
theorem yFI (a b:List (List PV)):zFH (a++b)=zFH a++zFH b:=by simp [zFH]
theorem zN7 (a:List (List PV)):(zFH a).length=a.length:=by simp [zFH]
attribute [local go_sem] zN7
theorem zU7 (rows:List (List PV)) (i:Nat):(zFH rows).getD i []=(rows.getD i []).map .p:=by
 simp only [zFH,List.getD_eq_getElem?_getD,List.getElem?_map]
 cases rows[i]?<;>rfl
theorem yFJ {b:Option Nat} {e k:Nat} {rows:List (List PV)}:(OV.os b e k (zFH rows)).frz=some (.sl k rows):=zUw (zGf rows)
theorem yFK (l:List Nd) (f:Nat) (caps:List PV) (g:Int→Int) (hl:l.length≤64) (hs:∀ x∈l,yDl x)
  (hg:∀ x∈l,Contract Tryz.prog f ([.val (iv x.up)]++caps.map fun c=>.val (.one c)) {res:=.val (iv (g x.up))}):
  Contract Tryz.prog zCn [.val (.one (.sl 5 (zEf l))),.val (.one (.clo f caps))] {res:=.ov (.one (.os none zAN 5 (zFH (zEf (l.map (zBW g))))))}:=by
 refine mkA yCX (base:=0) (fo rfl) (fun hfit=>?_)
 unfold F0 zU2
 refine goU ?_
 refine zAn (fun i:Nat=>[(5,.ov (.one (.os none zAN 5 (zFH (zEf ((l.take i).map (zBW g))))))),(7,.un),(10,.pv (iv i)),(11,.un),(33,.un),(34,.un),(35,.un),(36,.un),(37,.un)]) (fun i:Nat=>l.length-i) (fun i:Nat=>i≤l.length) (0) ?_ (Nat.zero_le _) ?_
 focus (exact leA)
 intro i hi
 refine goW ?_
 refine zAa (by rfl) trivial (fun h=>?_) (fun h=>?_)
 ·have hlt:i < l.length:=by simpa using h
  have hmem:=zPH hlt
  obtain ⟨hs1,hs2⟩:=hs _ hmem
  try simp (maxSteps:=2000000) only [go_sem,zBo _ _ hlt]
  repeat with_reducible refine zAP ?_
  refine zCu (by rfl) trivial (by repeat' constructor) (hg _ hmem) ?_
  refine goW ?_
  refine zBI (by repeat' constructor) (zBR _ hs1) ?_
  refine goW ?_
  refine zBI (by repeat' constructor) (zCf _ hs2) ?_
  refine goW ?_
  try simp (maxSteps:=2000000) only [go_sem,zN7]
  repeat with_reducible refine zAP ?_
  refine ⟨i+1,by omega,hlt,?_⟩
  simp (maxSteps:=2000000) only [go_sem,zAS,zBu,zCR,zAT]
  all_goals (repeat' (first|exact trivial|exact zBa (by omega)|exact zAX rfl|exact zBb rfl|exact zBB|exact le_refl _|refine And.intro ?_ ?_))
  refine zBb ?_
  rw [zMK default hlt,zXO,yFI]
  rfl
 ·refine goW ?_
  have:i=l.length:=by simp at h;omega
  subst this
  rw [List.take_length]
  exact yJG rfl
def zPs (d:List Nd) (n:Nat) (x:Nd):List Nd:=d.set n {x with up:=zAB d n}
def zYh (d:List Nd) (k:Int) (x:Nd):Int:=if zCB d k=0 then (if zCb x then 0 else 1) else zCB d k
theorem yDo (d:List Nd):d.map (zBW fun up=>up)=d:=by
 have:(zBW fun up=>up)=id:=by funext x;rfl
 rw [this,List.map_id]
theorem yFL (d:List Nd) (k:Int) (x:Nd):Contract Tryz.prog zN5 [.val (zCv d),.val (iv k),.val (.agg (ndV x))] {res:=.tup [zCv (if zYh d k x=0 then zPs d k.toNat x else []),iv (zYh d k x)]}:=by
 unfold zCv ndV
 refine mkA yC8 (base:=0) (fo rfl) (fun hfit=>?_)
 unfold F0 zU3
 refine goU ?_
 refine zAo (by repeat' constructor) (zSs d k) ?_
 refine goW ?_
 refine zAa (by rfl) trivial (fun h=>?_) (fun h=>?_)
 ·refine goW ?_
  have h2:¬ zCB d k=0:=by simpa using h
  have h3:zYh d k x=zCB d k:=by rw [zYh,if_neg h2]
  rw [h3,if_neg h2]
  exact zAA (by simp) ⟨zAZ rfl rfl (.inr rfl),zAv rfl trivial (.inl rfl),rfl⟩
 have h2:zCB d k=0:=by simpa using h
 obtain ⟨h3,h4,h5⟩:=zML h2
 obtain ⟨h6,h7,h8⟩:=zBr h3
 obtain ⟨m,rfl⟩:∃ m:Nat,k=m:=⟨k.toNat,by omega⟩
 have hm:m < d.length:=by omega
 refine goW ?_
 refine zAo (by repeat' constructor) (Contract.av (zNZ x) (by first|rfl|(simp (maxSteps:=2000000) only [go_sem];done)|(simp (maxSteps:=2000000) only [go_sem];rfl))) ?_
 refine goW ?_
 refine zAa (by rfl) trivial (fun h9=>?_) (fun h9=>?_)
 ·refine goW ?_
  have h10:¬ zCb x=true:=by simpa using h9
  have h3:zYh d m x=1:=by rw [zYh,if_pos h2,if_neg h10]
  rw [h3,if_neg (by omega)]
  exact zAA (by simp) ⟨zAZ rfl rfl (.inr rfl),zAv rfl trivial (.inl rfl),rfl⟩
 have h10:zCb x=true:=by simpa using h9
 have hr:zYh d m x=0:=by rw [zYh,if_pos h2,if_pos h10]
 rw [hr,if_pos rfl]
 obtain ⟨hf1,hf2⟩:=zD9 h10
 refine goW ?_
 refine yGu (by repeat' constructor) (Contract.av (yFK d zFs [] (fun up=>up) h7 (fun x hx=>(zCj h8 h7 hx).1) (fun x hx=>yDm x.up)) (by first|rfl|(simp (maxSteps:=2000000) only [go_sem];done)|(simp (maxSteps:=2000000) only [go_sem];rfl))) ?_
 refine goW ?_
 rw [yDo]
 intro b
 try simp (maxSteps:=2000000) only [go_sem,zU7,zBo _ _ hm]
 repeat with_reducible refine zAP ?_
 refine zBI (by repeat' constructor) (zBR _ (by omega)) ?_
 refine goW ?_
 refine zBI (by repeat' constructor) (zCf _ (by omega)) ?_
 refine goW ?_
 try simp (maxSteps:=2000000) only [go_sem,zU7,zBo _ _ hm]
 repeat with_reducible refine zAP ?_
 have e:(zFH (zEf d)).set m [OV.p (bI (d.getD m default).up),OV.p (bS x.tag),OV.p (bS x.id),OV.p (PV.sl 1 (zQr x.cls)),OV.p (PV.sl 2 (yBn x.att))]=zFH (zEf (zPs d m x)):=by
  simp only [zFH,zEf,zPs,List.map_set]
  rfl
 rw [e,yFJ]
 refine goW ?_
 exact zAA (by simp) ⟨zAZ rfl rfl (.inl rfl),zAv rfl trivial (.inl rfl),rfl⟩
end Go.Hx
end

section
/-
 Right documents: what lies under an element are the elements right zAq it; its kids; its part. Plain Lean, no program in sight. No condition.
-/
namespace Go.Hx
variable [Glob] [GlobL]
section
variable {d:List Nd} (hd:zCF d d.length=true)
include hd
theorem yHA {k:Nat} (hk:k+1 < d.length):zAB d (k+1)∈C d k:=by
 have h:=zA0 hd hk
 simp only [zVH,yHN,Bool.and_eq_true] at h
 have h2:=h.2
 rw [if_neg (by omega)] at h2
 have h3:zAB d (k+1)∈zBk d (k+1) (((k+1:Nat):Int)-1):=by simpa using h2
 rw [show (((k+1:Nat):Int)-1)=k by omega] at h3
 unfold C
 rw [zGg d.length (k+1) k (fun j hj=>(zA1 hd j (by omega)).2) (by omega) (by omega)]
 exact h3
omit hd in
theorem zSu {n:Nat}:∀ (f e:Nat),e+f=d.length→(∀ k,e≤k→k < yDj d n f e→(n:Int)≤zAB d k)∧(yDj d n f e < d.length→zAB d (yDj d n f e) < n)
 |0,e,h=>⟨fun k h1 h2=>by simp [yDj] at h2;omega,fun h2=>by simp [yDj] at h2;omega⟩
 |f+1,e,h=>by
  simp only [yDj]
  split
  ·rename_i h1
   have ih:=zSu (n:=n) f (e+1) (by omega)
   refine ⟨fun k h2 h3=>?_,ih.2⟩
   by_cases e1:k=e
   ·subst e1;exact h1
   ·exact ih.1 k (by omega) h3
  ·rename_i h1
   exact ⟨fun k h2 h3=>by omega,fun _=>by omega⟩
omit hd in
theorem zGT {n:Nat} (hn:n < d.length) {k:Nat} (h1:n < k) (h2:k < zAq d n):(n:Int)≤zAB d k:=
 (zSu (d.length-(n+1)) (n+1) (by omega)).1 k h1 h2
omit hd in
theorem zED {n:Nat} (hn:n < d.length) (h:zAq d n < d.length):zAB d (zAq d n) < n:=
 (zSu (d.length-(n+1)) (n+1) (by omega)).2 h
theorem zPI {n:Nat} (hn:n < d.length):∀ k,k < d.length→n < k→k < zAq d n→(n:Int)∈C d (zAB d k):=by
 refine yLu hd fun k hk ih h1 h2=>?_
 have h3:=zGT hn h1 h2
 have hb:=zAL hn
 rcases zXS hd hk with h|⟨j,h,hj⟩
 ·omega
 ·rw [h] at h3 ⊢
  rw [zCY hd (by omega)]
  by_cases e:n=j
  ·subst e;exact List.mem_cons_self
  ·exact List.mem_cons_of_mem _ (ih j h hj (by omega) (by omega))
theorem yHB {n:Nat} (hn:n < d.length):∀ k,k < d.length→zAq d n≤k→(n:Int)∉C d k:=by
 have hb:=zAL hn
 intro k
 induction k with
 |zero=>intro hk h1;omega
 |succ k ih=>
  intro hk h1 hx
  rw [zCY hd hk] at hx
  rcases List.mem_cons.1 hx with e|hx
  ·omega
  ·by_cases e:zAq d n=k+1
   ·have:=zED hn (by omega)
    rw [e] at this
    have:=yJM hd (by omega) hx
    omega
   ·exact ih (by omega) (by omega) (yI4 hd k (by omega) (yHA hd hk) hx)
theorem zJG {n:Nat} (hn:n < d.length) {k:Nat} (hk:k < d.length) (h:zAq d n≤k):(n:Int)∉C d (zAB d k):=by
 intro hx
 exact yHB hd hn k hk h (by rw [zCY hd hk];exact List.mem_cons_of_mem _ hx)
omit hd in
theorem zFb {n:Int} {a:Nat}:∀ {b:Nat},a≤b→(∀ j,a≤j→j < b→zAB d j≠n)→zAt d n b=zAt d n a
 |0,h,_=>by rw [show a=0 by omega]
 |b+1,h,hs=>by
  by_cases e:a=b+1
  ·rw [e]
  ·rw [zAE,if_neg (hs b (by omega) (by omega)),zFb (by omega) fun j h1 h2=>hs j h1 (by omega)]
omit hd in
theorem yDq {n i:Nat} (hn:n < d.length) (h1:n < i) (h2:i < zAq d n):zAq d i≤zAq d n:=by
 have hb:=zAL hn
 have hi:i < d.length:=by omega
 apply Classical.byContradiction
 intro h3
 have hb2:=zAL hi
 have h4:=zGT hi (k:=zAq d n) (by omega) (by omega)
 have h5:=zED hn (by omega)
 omega
theorem yJh {n i:Nat} (hn:n < d.length) (h1:n < i) (h2:i < zAq d n) (h3:zAB d i=n) (h4:zAq d i < zAq d n):zAB d (zAq d i)=n:=by
 have hb:=zAL hn
 have hi:i < d.length:=by omega
 have hbi:=zAL hi
 have h5:=zGT hn (k:=zAq d i) (by omega) h4
 have h6:=zED hi (by omega)
 obtain ⟨p,hp⟩:∃ p,zAq d i=p+1:=⟨zAq d i-1,by omega⟩
 have h7:=yHA hd (k:=p) (by omega)
 rw [←hp] at h7
 have h8:(i:Int)∈C d p:=by
  rw [zCY hd (by omega)]
  by_cases e:i=p
  ·subst e;exact List.mem_cons_self
  ·exact List.mem_cons_of_mem _ (zPI hd hi p (by omega) (by omega) (by omega))
 have h9:=yNF hd p (by omega) h8 h7 h6
 rw [h3] at h9
 have:=yJM hd (by omega) h9
 omega
theorem yHC {n:Nat} (hn:n < d.length) (h:n+1 < zAq d n):zAB d (n+1)=n:=by
 have hb:=zAL hn
 have h1:=zGT hn (k:=n+1) (by omega) h
 have h2:=zA1 hd (n+1) (by omega)
 omega
theorem yJi {n:Nat} (hn:n < d.length):∀ (f i:Nat),n < i→i≤zAq d n→(i < zAq d n→zAB d i=n)→d.length≤i+f→zAt d n i++zN6 d n f i=zDO d n:=by
 have hb:=zAL hn
 have hlast:zAt d n (zAq d n)=zDO d n:=by
  refine (zFb hb.2 fun j h1 h2 e=>?_).symm
  have:=zJG hd hn h2 h1
  rw [e,zCY hd hn] at this
  exact this List.mem_cons_self
 intro f
 induction f with
 |zero=>
  intro i h1 h2 h3 h4
  have:i=zAq d n:=by omega
  subst this
  simp [zN6,hlast]
 |succ f ih=>
  intro i h1 h2 h3 h4
  simp only [zN6]
  split
  ·rename_i h5
   have hi:i < d.length:=by omega
   have hbi:=zAL hi
   have h6:=ih (zAq d i) (by omega) (yDq hn h1 h5) (yJh hd hn h1 h5 (h3 h5)) (by omega)
   have h7:zAt d n (zAq d i)=zAt d n (i+1):=zFb hbi.1 fun j h7 h8=>by
    have:=zGT hi (k:=j) (by omega) h8
    omega
   rw [←h6,h7,zAE,if_pos (h3 h5)]
   simp
  ·have:i=zAq d n:=by omega
   subst this
   simp [hlast]
theorem zU8 {n:Nat} (hn:n < d.length):zDc d n=zDO d n:=by
 have hb:=zAL hn
 have h:=yJi hd hn d.length (n+1) (by omega) (by omega) (yHC hd hn) (by omega)
 rw [zFb (Nat.zero_le _) fun j _ h2=>by have:=zA1 hd j (by omega);omega] at h
 rw [zDc,←h];simp [zAt]
end
end Go.Hx
end

section
/-
 Right documents: what is left when an element is removed. Plain Lean, no program in sight. No condition.
-/
namespace Go.Hx
variable [Glob] [GlobL]
section
variable {d:List Nd} (hd:zCF d d.length=true)
include hd
theorem yLF (h:0 < d.length):zAB d 0=-1:=by
 have:=zA0 hd h
 simp only [zVH,yHN,Bool.and_eq_true] at this
 simpa using this.2
def pos (d:List Nd) (n:Nat) (j:Int):Int:=if j≥zAq d n then j-zAq d n+n else j
end
end Go.Hx
end

section
/-
 Right documents: what was inserted is the part there, and removed again leaves the document as it was; what was removed and inserted again leaves it as it was. Plain Lean, no program in sight. No condition.
-/
namespace Go.Hx
variable [Glob] [GlobL]
inductive Anc (u:Nat→Int):Nat→Nat→Prop
 |refl (k:Nat):Anc u k k
 |up {k j x:Nat}:u k=(j:Int)→Anc u j x→Anc u k x
section
variable {u v w:Nat→Int}
theorem Anc.trans {a b c:Nat} (h:Anc u a b) (k:Anc u b c):Anc u a c:=by
 induction h with
 |refl _=>exact k
 |up e _ ih=>exact .up e (ih k)
def Ups (u:Nat→Int) (n:Nat):Prop:=(0 < n→u 0=-1)∧∀ i,i+1 < n→∃ p:Nat,u (i+1)=p∧Anc u i p
theorem Ups.both {n:Nat} (h:Ups u n):∀ k,k < n→(-1≤u k∧u k < k)∧∀ p,Anc u k p→p≤k:=by
 intro k
 induction k using Nat.strongRecOn with
 |ind k ih=>
  intro hk
  have h1:-1≤u k∧u k < k:=by
   cases k with
   |zero=>have:=h.1 hk;omega
   |succ k=>
    obtain ⟨p,e,hp⟩:=h.2 k hk
    have:=(ih k (by omega) (by omega)).2 p hp
    omega
  refine ⟨h1,fun p hp=>?_⟩
  cases hp with
  |refl _=>exact Nat.le_refl _
  |up e hp=>
   rename_i j
   have:=(ih j (by omega) (by omega)).2 p hp
   omega
theorem Ups.lt {n k:Nat} (h:Ups u n) (hk:k < n):-1≤u k∧u k < k:=(h.both k hk).1
theorem Ups.le {n k p:Nat} (h:Ups u n) (hk:k < n) (hp:Anc u k p):p≤k:=(h.both k hk).2 p hp
theorem Ups.root {n:Nat} (h:Ups u n):∀ k,k < n→Anc u k 0:=by
 intro k
 induction k using Nat.strongRecOn with
 |ind k ih=>
  intro hk
  cases k with
  |zero=>exact .refl _
  |succ k=>
   obtain ⟨p,e,hp⟩:=h.2 k hk
   have:=h.le (by omega) hp
   exact .up e (ih p (by omega) (by omega))
theorem Ups.two {n:Nat} (h:Ups u n) {a b c:Nat} (h1:Anc u a b):a < n→Anc u a c→c≤b→Anc u b c:=by
 induction h1 with
 |refl _=>intro _ h2 _;exact h2
 |@up k j x e h3 ih=>
  intro ha h2 hc
  have hl:=h.lt ha
  have hx:=h.le (k:=j) (by omega) h3
  cases h2 with
  |refl _=>omega
  |up e2 h4=>
   rename_i j2
   have:j=j2:=by omega
   subst this
   exact ih (by omega) h4 hc
theorem zNa {d:List Nd}:∀ (f k:Nat),(∀ j:Nat,j≤k→zAB d j < j)→k < f→∀ x:Int,x∈zBk d f k↔∃ y:Nat,x=y∧Anc (zAB d) k y
 |0,k,_,h,_=>by omega
 |f+1,k,hd,h,x=>by
  simp only [zBk,Int.toNat_natCast]
  rw [if_neg (by omega),List.mem_cons]
  have hk:=hd k (Nat.le_refl _)
  by_cases hn:zAB d k < 0
  ·have e:zBk d f (zAB d k)=[]:=by cases f<;>simp [zBk,hn]
   rw [e]
   constructor
   ·rintro (rfl|h1)
    ·exact ⟨k,rfl,.refl _⟩
    ·cases h1
   ·rintro ⟨y,rfl,hy⟩
    cases hy with
    |refl _=>exact .inl rfl
    |up e2 _=>omega
  ·obtain ⟨j,hj⟩:∃ j:Nat,zAB d k=j:=⟨(zAB d k).toNat,by omega⟩
   rw [hj,zNa f j (fun i hi=>hd i (by omega)) (by omega) x]
   constructor
   ·rintro (rfl|⟨y,rfl,hy⟩)
    ·exact ⟨k,rfl,.refl _⟩
    ·exact ⟨y,rfl,.up hj hy⟩
   ·rintro ⟨y,rfl,hy⟩
    cases hy with
    |refl _=>exact .inl rfl
    |up e2 h2=>
     have e3:=hj.symm.trans e2
     rw [Int.natCast_inj] at e3
     subst e3
     exact .inr ⟨y,rfl,h2⟩
theorem yAW {d:List Nd}:zCF d d.length=true↔(∀ x∈d,zCb x=true)∧Ups (zAB d) d.length:=by
 constructor
 ·intro h
  refine ⟨fun x hx=>?_,fun h0=>?_,fun i hi=>?_⟩
  ·obtain ⟨i,hi,rfl⟩:=List.mem_iff_getElem.1 hx
   have:=zA0 h hi
   simp only [zVH,Bool.and_eq_true] at this
   simpa [hi] using this.1
  ·exact yLF h h0
  ·have h1:=yHA h hi
   unfold C at h1
   rw [zNa _ _ (fun j hj=>(zA1 h j (by omega)).2) (by omega)] at h1
   exact h1
 ·rintro ⟨h1,h2⟩
  refine List.all_eq_true.2 fun i hi=>?_
  have hi:=List.mem_range.1 hi
  simp only [zVH,Bool.and_eq_true,yHN]
  refine ⟨h1 _ (zPH hi),?_⟩
  split
  ·rename_i e
   subst e
   simp [h2.1 hi]
  ·obtain ⟨j,rfl⟩:∃ j,i=j+1:=⟨i-1,by omega⟩
   obtain ⟨p,hp,ha⟩:=h2.2 j hi
   have:=(zNa (d:=d) (j+1) j (fun i hi=>(h2.lt (by omega)).2) (by omega) (zAB d (j+1))).2 ⟨p,hp,ha⟩
   rw [show (((j+1:Nat):Int)-1)=j by omega]
   simpa using this
theorem zBl {d:List Nd}:zAd d=0↔(1≤d.length∧d.length≤64)∧(∀ x∈d,zCb x=true)∧Ups (zAB d) d.length:=by
 rw [←yAW,zAd]
 split
 ·rename_i h
  split
  ·rename_i h2;exact ⟨fun _=>⟨h,h2⟩,fun _=>rfl⟩
  ·rename_i h2;exact ⟨fun h=>(by cases h),fun h3=>absurd h3.2 h2⟩
 ·rename_i h;exact ⟨fun h=>(by cases h),fun h3=>absurd h3.1 h⟩
theorem yNL {d:List Nd} (hd:zCF d d.length=true) {k:Nat} (hk:k < d.length) {x:Nat}:(x:Int)∈C d k↔Anc (zAB d) k x:=by
 unfold C
 rw [zNa _ _ (fun j hj=>(zA1 hd j (by omega)).2) hk]
 constructor
 ·rintro ⟨y,e,h⟩
  rw [Int.natCast_inj] at e
  subst e;exact h
 ·intro h;exact ⟨x,rfl,h⟩
theorem zU9 {d:List Nd} {k:Int}:zCB d k=0↔zAd d=0∧0≤k∧k < d.length:=by
 unfold zCB
 split
 ·split<;>omega
 ·rename_i h;simp [h]
theorem Ups.ins {N E n k:Nat} (hu:Ups u N) (hv:Ups v E) (hE:0 < E) (hn:n≤N) (hk:k < n) (ha:Anc u (n-1) k) (hs:n < N→u n≤k)
  (w1:∀ i,i < n→w i=u i) (w2:w n=k) (w3:∀ j,0 < j→j < E→w (n+j)=v j+n) (w4:∀ i,n≤i→i < N→w (i+E)=if u i≥n then u i+E else u i):Ups w (N+E):=by
 have a1:∀ {i p},Anc u i p→i < n→Anc w i p:=by
  intro i p h
  induction h with
  |refl _=>intro _;exact .refl _
  |@up i j x e _ ih=>
   intro hi
   have:=hu.lt (k:=i) (Nat.lt_of_lt_of_le hi hn)
   exact .up ((w1 _ hi).trans e) (ih (by omega))
 have a2:∀ {j q},Anc v j q→j < E→Anc w (n+j) (n+q):=by
  intro j q h
  induction h with
  |refl _=>intro _;exact .refl _
  |@up k' j' x e _ ih=>
   intro hj
   have h0:=hv.lt hj
   have:0 < k':=by
    rcases Nat.eq_zero_or_pos k' with e0|e0
    ·subst e0;have:=hv.1 hE;omega
    ·exact e0
   exact .up (j:=n+j') (by rw [w3 _ this hj];omega) (ih (by omega))
 have a3:∀ {j q},j < E→Anc u k q→Anc w (n+j) q:=fun hj hq=>((a2 (hv.root _ hj) hj).trans (.up w2 (.refl _))).trans (a1 hq hk)
 have a4:∀ {i p},Anc u i p→i < N→Anc w (if i≥n then i+E else i) (if p≥n then p+E else p):=by
  intro i p h
  induction h with
  |refl _=>intro _;exact .refl _
  |@up i j x e _ ih=>
   intro hi
   have hl:=hu.lt hi
   refine .up ?_ (ih (by omega))
   by_cases h1:i≥n
   ·rw [if_pos h1,w4 i h1 hi,e]
    by_cases h2:j≥n
    ·rw [if_pos (by omega),if_pos h2];omega
    ·rw [if_neg (by omega),if_neg h2]
   ·rw [if_neg h1,w1 i (by omega),e,if_neg (by omega)]
 refine ⟨fun _=>by rw [w1 0 (by omega)];exact hu.1 (by omega),fun i hi=>?_⟩
 rcases Nat.lt_trichotomy (i+1) n with h1|h1|h1
 ·obtain ⟨p,e,hp⟩:=hu.2 i (by omega)
  exact ⟨p,(w1 _ h1).trans e,a1 hp (by omega)⟩
 ·refine ⟨k,by rw [h1];exact w2,?_⟩
  have:n-1=i:=by omega
  rw [this] at ha
  exact a1 ha (by omega)
 ·rcases Nat.lt_trichotomy (i+1) (n+E) with h2|h2|h2
  ·obtain ⟨j,rfl⟩:∃ j,i=n+j:=⟨i-n,by omega⟩
   obtain ⟨p,e,hp⟩:=hv.2 j (by omega)
   refine ⟨n+p,?_,a2 hp (by omega)⟩
   rw [show n+j+1=n+(j+1) by omega,w3 _ (by omega) (by omega),e];omega
  ·have hnN:n < N:=by omega
   obtain ⟨m,rfl⟩:∃ m,n=m+1:=⟨n-1,by omega⟩
   obtain ⟨p,e,hp⟩:=hu.2 m hnN
   have hm:=hu.le (by omega) hp
   have hs:=hs hnN
   refine ⟨p,?_,?_⟩
   ·rw [h2,w4 _ (Nat.le_refl _) hnN,e,if_neg (by omega)]
   ·rw [show i=m+1+(E-1) by omega]
    exact a3 (by omega) (hu.two ha (by omega) hp (by omega))
  ·obtain ⟨j,rfl⟩:∃ j,i=j+E:=⟨i-E,by omega⟩
   obtain ⟨p,e,hp⟩:=hu.2 j (by omega)
   refine ⟨if p≥n then p+E else p,?_,?_⟩
   ·rw [show j+E+1=j+1+E by omega,w4 _ (by omega) (by omega),e]
    by_cases h3:p≥n
    ·rw [if_pos (by omega),if_pos h3];omega
    ·rw [if_neg (by omega),if_neg h3]
   ·have:=a4 hp (by omega)
    rw [if_pos (by omega)] at this
    exact this
theorem Ups.rem {N n b:Nat} (hu:Ups u N) (h0:0 < n) (hn:n < b) (hb:b≤N) (hin:∀ i,n < i→i < b→Anc u i n) (hout:b < N→u b < n) (hreg:∀ k j:Nat,b≤k→k < N→u k=j→j < n∨b≤j)
  (w1:∀ i,i < n→w i=u i) (w2:∀ i,n≤i→i+(b-n) < N→w i=if u (i+(b-n))≥b then u (i+(b-n))-b+n else u (i+(b-n))):Ups w (N-(b-n)):=by
 have a1:∀ {i p},Anc u i p→i < n→Anc w i p:=by
  intro i p h
  induction h with
  |refl _=>intro _;exact .refl _
  |@up i j x e _ ih=>
   intro hi
   have:=hu.lt (k:=i) (Nat.lt_trans hi (Nat.lt_of_lt_of_le hn hb))
   exact .up ((w1 _ hi).trans e) (ih (by omega))
 have a4:∀ {i p},Anc u i p→i < N→b≤i→(p < n∨b≤p)→Anc w (i-(b-n)) (if p≥b then p-(b-n) else p):=by
  intro i p h
  induction h with
  |refl _=>intro h1 h2 h3;rw [if_pos h2];exact .refl _
  |@up i j x e h4 ih=>
   intro hi h2 h3
   have hl:=hu.lt hi
   have hx:=hu.le (k:=j) (by omega) h4
   have hw:=w2 (i-(b-n)) (by omega) (by omega)
   rw [show i-(b-n)+(b-n)=i by omega,e] at hw
   rcases hreg i j h2 hi e with h5|h5
   ·rw [if_neg (by omega)] at hw
    rw [if_neg (by omega)]
    exact .up hw (a1 h4 h5)
   ·rw [if_pos (by omega)] at hw
    exact .up (j:=j-(b-n)) (by omega) (ih (by omega) h5 h3)
 refine ⟨fun _=>by rw [w1 0 h0];exact hu.1 (by omega),fun i hi=>?_⟩
 rcases Nat.lt_trichotomy (i+1) n with h1|h1|h1
 ·obtain ⟨p,e,hp⟩:=hu.2 i (by omega)
  exact ⟨p,(w1 _ h1).trans e,a1 hp (by omega)⟩
 ·obtain ⟨c,rfl⟩:∃ c,b=c+1:=⟨b-1,by omega⟩
  subst h1
  obtain ⟨q,e,hq⟩:=hu.2 c (by omega)
  have ho:=hout (by omega)
  have hci:Anc u c (i+1):=by
   rcases Nat.lt_or_ge (i+1) c with h2|h2
   ·exact hin c h2 (by omega)
   ·have:c=i+1:=by omega
    subst this;exact .refl _
  have h3:=hu.two hci (by omega) hq (by omega)
  have h4:Anc u i q:=by
   cases h3 with
   |refl _=>omega
   |up e3 h5=>
    obtain ⟨k,e4,hk⟩:=hu.2 i (by omega)
    have e5:=e4.symm.trans e3
    rw [Int.natCast_inj] at e5
    subst e5
    exact hk.trans h5
  refine ⟨q,?_,a1 h4 (by omega)⟩
  have hw:=w2 (i+1) (Nat.le_refl _) (by omega)
  rw [show i+1+(c+1-(i+1))=c+1 by omega,e,if_neg (by omega)] at hw
  exact hw
 ·obtain ⟨q,e,hq⟩:=hu.2 (i+(b-n)) (by omega)
  have h2:=hreg _ q (by omega) (by omega) e
  have h3:=a4 hq (by omega) (by omega) h2
  rw [show i+(b-n)-(b-n)=i by omega] at h3
  refine ⟨_,?_,h3⟩
  have hw:=w2 (i+1) (by omega) (by omega)
  rw [show i+1+(b-n)=i+(b-n)+1 by omega,e] at hw
  rw [hw]
  by_cases h4:q≥b
  ·rw [if_pos (by omega),if_pos h4];omega
  ·rw [if_neg (by omega),if_neg h4]
theorem Ups.part {N n b:Nat} (hu:Ups u N) (hn:n < b) (hb:b≤N) (hin:∀ i,n < i→i < b→(n:Int)≤u i)
  (w1:∀ j,n+j < b→w j=max (u (n+j)-n) (-1)):Ups w (b-n):=by
 have a5:∀ {i q},Anc u i q→n≤q→i < b→Anc w (i-n) (q-n):=by
  intro i q h
  induction h with
  |refl _=>intro _ _;exact .refl _
  |@up i j x e h4 ih=>
   intro h1 h2
   have hl:=hu.lt (k:=i) (by omega)
   have hx:=hu.le (k:=j) (by omega) h4
   refine .up (j:=j-n) ?_ (ih h1 (by omega))
   rw [w1 (i-n) (by omega),show n+(i-n)=i by omega,e]
   omega
 refine ⟨fun _=>?_,fun i hi=>?_⟩
 ·have:=hu.lt (k:=n) (by omega)
  rw [w1 0 (by omega),Nat.add_zero]
  omega
 ·obtain ⟨q,e,hq⟩:=hu.2 (n+i) (by omega)
  have h1:=hin (n+i+1) (by omega) (by omega)
  refine ⟨q-n,?_,?_⟩
  ·rw [w1 (i+1) (by omega),←Nat.add_assoc,e];omega
  ·have:=a5 hq (by omega) (by omega)
   rw [show n+i-n=i by omega] at this
   exact this
end
end Go.Hx
end

section
/-
 Right documents, on lists: insert, then part and remove; remove, then insert. Plain Lean, no program in sight. No condition.
-/
namespace Go.Hx
variable [Glob] [GlobL]
theorem zHj {a b:List Nd} {i:Nat}:zAB (a++b) i=if i < a.length then zAB a i else zAB b (i-a.length):=by
 unfold zAB
 split
 ·rename_i h
  rw [List.getD_eq_getElem?_getD,List.getElem?_append_left h,←List.getD_eq_getElem?_getD]
 ·rename_i h
  rw [List.getD_eq_getElem?_getD,List.getElem?_append_right (by omega),←List.getD_eq_getElem?_getD]
theorem zNb {g:Int→Int} {l:List Nd} {i:Nat} (h:i < l.length):zAB (l.map (zBW g)) i=g (zAB l i):=by
 simp [zAB,h,zBW]
theorem zSv {d:List Nd} {n i:Nat} (h:i < n):zAB (d.take n) i=zAB d i:=by
 simp [zAB,h]
theorem yAX {d:List Nd} {n i:Nat}:zAB (d.drop n) i=zAB d (n+i):=by
 simp [zAB,List.getElem?_drop]
theorem zSw {f g:Int→Int} {l:List Nd} (h:∀ x∈l,f (g x.up)=x.up):(l.map (zBW g)).map (zBW f)=l:=by
 rw [List.map_map]
 refine (List.map_congr_left fun x hx=>?_).trans (List.map_id l)
 simp only [Function.comp,zBW,h x hx,id]
theorem yJQ {d:List Nd} {x:Nd} (h:x∈d):∃ i,i < d.length∧x.up=zAB d i:=by
 obtain ⟨i,hi,rfl⟩:=List.mem_iff_getElem.1 h
 exact ⟨i,hi,by simp [zAB,hi]⟩
theorem yDr {d:List Nd} {n:Nat} {x:Nd} (h:x∈d.take n):∃ i,i < n∧i < d.length∧x.up=zAB d i:=by
 obtain ⟨i,hi,e⟩:=yJQ h
 rw [List.length_take] at hi
 rw [zSv (by omega)] at e
 exact ⟨i,by omega,by omega,e⟩
theorem zJt {g:Int→Int} {l:List Nd} (h:∀ x∈l,zCb x=true):∀ x∈l.map (zBW g),zCb x=true:=by
 intro x hx
 obtain ⟨y,hy,rfl⟩:=List.mem_map.1 hx
 exact h y hy
theorem yDs {d:List Nd} {n m:Nat} (h1:n < m) (h2:m≤d.length) (h3:∀ k,n < k→k < m→(n:Int)≤zAB d k) (h4:m < d.length→zAB d m < n):zAq d n=m:=by
 have hn:n < d.length:=by omega
 have hb:=zAL hn
 rcases Nat.lt_trichotomy (zAq d n) m with h|h|h
 ·have:=zED hn (by omega)
  have:=h3 _ hb.1 h
  omega
 ·exact h
 ·have:=zGT hn h1 h
  have:=h4 (by omega)
  omega
theorem yFN {d:List Nd} {n:Int} {a b:Nat} (h:a≤b):∃ r,zAt d n b=zAt d n a++r:=by
 induction b with
 |zero=>exact ⟨[],by rw [show a=0 by omega];simp⟩
 |succ b ih=>
  by_cases e:a=b+1
  ·exact ⟨[],by rw [e];simp⟩
  ·obtain ⟨r,hr⟩:=ih (by omega)
   rw [zAE,hr]
   split
   ·exact ⟨r++[(b:Int)],by simp⟩
   ·exact ⟨r,rfl⟩
theorem zSx {d:List Nd} {n:Int}:∀ (b at':Nat),at' < (zAt d n b).length→∃ m:Nat,(zAt d n b).getD at' 0=m∧zAB d m=n∧m < b∧(zAt d n m).length=at'
 |0,at',h=>by simp [zAt] at h
 |b+1,at',h=>by
  rw [zAE] at h ⊢
  split
  ·rename_i h1
   rw [if_pos h1] at h
   by_cases h2:at' < (zAt d n b).length
   ·obtain ⟨m,e1,e2,e3,e4⟩:=zSx b at' h2
    refine ⟨m,?_,e2,by omega,e4⟩
    rw [List.getD_eq_getElem?_getD,List.getElem?_append_left h2,←List.getD_eq_getElem?_getD,e1]
   ·rw [List.length_append,List.length_singleton] at h
    have h3:at'=(zAt d n b).length:=by omega
    subst h3
    exact ⟨b,by simp,h1,by omega,rfl⟩
  ·rename_i h1
   rw [if_neg h1] at h
   obtain ⟨m,e1,e2,e3,e4⟩:=zSx b at' h
   exact ⟨m,e1,e2,by omega,e4⟩
theorem yDt {d e:List Nd} {n:Int} {a:Nat} (h:∀ i,i < a→zAB d i=zAB e i):zAt d n a=zAt e n a:=by
 unfold zAt
 congr 1
 refine List.filter_congr fun i hi=>?_
 rw [h i (List.mem_range.1 hi)]
section
variable {d:List Nd} (hd:zCF d d.length=true)
include hd
theorem zUk {k:Nat} (hk:k < d.length):zAt d k (zAq d k)=zDO d k:=by
 have hb:=zAL hk
 refine (zFb hb.2 fun j h1 h2 e=>?_).symm
 have:=zJG hd hk h2 h1
 rw [e,zCY hd hk] at this
 exact this List.mem_cons_self
theorem yJj {k at':Nat} (hk:k < d.length) (h:at' < (zBv d k).length):∃ n:Nat,(zBv d k).getD at' 0=n∧k < n∧n≤d.length∧Anc (zAB d) (n-1) k∧(n < d.length→zAB d n≤k)∧(zAt d k n).length=at':=by
 have hb:=zAL hk
 have hu:=(yAW.1 hd).2
 have key:∀ n,k < n→n≤zAq d k→Anc (zAB d) (n-1) k:=by
  intro n h1 h2
  rw [←yNL hd (by omega)]
  rcases Nat.lt_or_ge k (n-1) with h3|h3
  ·rw [zCY hd (by omega)]
   exact List.mem_cons_of_mem _ (zPI hd hk (n-1) (by omega) h3 (by omega))
  ·have:n-1=k:=by omega
   rw [this,zCY hd hk]
   exact List.mem_cons_self
 unfold zBv at h ⊢
 rw [zU8 hd hk] at h ⊢
 by_cases h1:at' < (zDO d k).length
 ·obtain ⟨m,e1,e2,e3,e4⟩:=zSx d.length at' h1
  rw [List.getD_eq_getElem?_getD,List.getElem?_append_left h1,←List.getD_eq_getElem?_getD]
  have hm:=hu.lt e3
  have hmb:m < zAq d k:=by
   apply Classical.byContradiction
   intro hc
   have:=zJG hd hk e3 (by omega)
   rw [e2,zCY hd hk] at this
   exact this List.mem_cons_self
  exact ⟨m,e1,by omega,by omega,key m (by omega) (by omega),fun _=>by omega,e4⟩
 ·rw [List.length_append,List.length_singleton] at h
  have h2:at'=(zDO d k).length:=by omega
  subst h2
  refine ⟨zAq d k,by simp,hb.1,hb.2,key _ hb.1 (Nat.le_refl _),fun h3=>?_,by rw [zUk hd hk]⟩
  have:=zED hk h3
  omega
end
section
variable {d e:List Nd} {n k:Nat}
theorem zLA:zAO d k n e=(d.take n).map (zBW fun j=>if j≥n then j+e.length else j)++(e.map (zBW fun j=>if j < 0 then (k:Int) else j+n)++(d.drop n).map (zBW fun j=>if j≥n then j+e.length else j)):=by
 simp [zAO]
theorem zSy (hn:n≤d.length):(zAO d k n e).length=d.length+e.length:=by
 rw [zLA];simp;omega
theorem yHD (hu:Ups (zAB d) d.length) (hn:n≤d.length) {i:Nat} (h:i < n):zAB (zAO d k n e) i=zAB d i:=by
 rw [zLA,zHj,if_pos (by simp;omega),zNb (by simp;omega),zSv h]
 have:=hu.lt (k:=i) (by omega)
 rw [if_neg (by omega)]
theorem zYc (hn:n≤d.length) {j:Nat} (h:j < e.length):zAB (zAO d k n e) (n+j)=if zAB e j < 0 then (k:Int) else zAB e j+n:=by
 rw [zLA,zHj,if_neg (by simp;omega),zHj,if_pos (by simp;omega),zNb (by simp;omega)]
 simp only [List.length_map,List.length_take]
 rw [show n+j-min n d.length=j by omega]
theorem yHE (hn:n≤d.length) {i:Nat} (h1:n≤i) (h2:i < d.length):zAB (zAO d k n e) (i+e.length)=if zAB d i≥n then zAB d i+e.length else zAB d i:=by
 rw [zLA,zHj,if_neg (by simp;omega),zHj,if_neg (by simp;omega)]
 simp only [List.length_map,List.length_take]
 rw [zNb (by simp;omega),yAX,show n+(i+e.length-min n d.length-e.length)=i by omega]
theorem yNM (hd:zAd d=0) (he:zAd e=0) (hl:d.length+e.length≤64) (hk:k < n) (hn:n≤d.length) (ha:Anc (zAB d) (n-1) k) (hs:n < d.length→zAB d n≤k):zAd (zAO d k n e)=0:=by
 obtain ⟨hd1,hd2,hd3⟩:=zBl.1 hd
 obtain ⟨he1,he2,he3⟩:=zBl.1 he
 refine zBl.2 ⟨by rw [zSy hn];omega,?_,?_⟩
 ·intro x hx
  rw [zLA] at hx
  rcases List.mem_append.1 hx with hx|hx
  ·exact zJt (fun y hy=>hd2 y (List.mem_of_mem_take hy)) x hx
  ·rcases List.mem_append.1 hx with hx|hx
   ·exact zJt he2 x hx
   ·exact zJt (fun y hy=>hd2 y (List.mem_of_mem_drop hy)) x hx
 ·rw [zSy hn]
  refine Ups.ins hd3 he3 (by omega) hn hk ha hs (fun i hi=>yHD hd3 hn hi) ?_ (fun j h1 h2=>?_) (fun i h1 h2=>yHE hn h1 h2)
  ·have:=zYc (k:=k) hn (j:=0) (e:=e) (by omega)
   rw [Nat.add_zero] at this
   rw [this,he3.1 (by omega),if_pos (by omega)]
  ·rw [zYc hn h2,if_neg]
   obtain ⟨i,rfl⟩:∃ i,j=i+1:=⟨j-1,by omega⟩
   obtain ⟨p,hp,_⟩:=he3.2 i h2
   omega
theorem zVa (hd:zAd d=0) (he:zAd e=0) (hk:k < n) (hn:n≤d.length) (hs:n < d.length→zAB d n≤k):zAq (zAO d k n e) n=n+e.length:=by
 obtain ⟨hd1,hd2,hd3⟩:=zBl.1 hd
 obtain ⟨he1,he2,he3⟩:=zBl.1 he
 refine yDs (by omega) (by rw [zSy hn];omega) (fun i h1 h2=>?_) (fun h=>?_)
 ·obtain ⟨j,rfl⟩:∃ j,i=n+j:=⟨i-n,by omega⟩
  rw [zYc hn (by omega)]
  obtain ⟨i,rfl⟩:∃ i,j=i+1:=⟨j-1,by omega⟩
  obtain ⟨p,hp,_⟩:=he3.2 i (by omega)
  rw [if_neg (by omega)]
  omega
 ·rw [zSy hn] at h
  have hs:=hs (by omega)
  rw [yHE hn (Nat.le_refl _) (by omega),if_neg (by omega)]
  omega
theorem yJk (hd:zAd d=0) (he:zAd e=0) (hk:k < n) (hn:n≤d.length) (hs:n < d.length→zAB d n≤k):yDn (zAO d k n e) n=e:=by
 obtain ⟨he1,he2,he3⟩:=zBl.1 he
 rw [yDn,zVa hd he hk hn hs,zLA,←List.append_assoc]
 rw [List.take_append_of_le_length (by simp;omega),List.take_of_length_le (by simp;omega),List.drop_append_of_le_length (by simp;omega),List.drop_of_length_le (by simp;omega),List.nil_append]
 refine zSw fun x hx=>?_
 obtain ⟨i,hi,e1⟩:=yJQ hx
 have:=he3.lt hi
 rw [e1]
 split<;>omega
theorem yLG (hd:zAd d=0) (he:zAd e=0) (hk:k < n) (hn:n≤d.length) (hs:n < d.length→zAB d n≤k):zCk (zAO d k n e) n=d:=by
 obtain ⟨hd1,hd2,hd3⟩:=zBl.1 hd
 rw [zCk,zVa hd he hk hn hs,zLA]
 rw [List.take_append_of_le_length (by simp;omega),List.take_of_length_le (by simp;omega),←List.append_assoc,List.drop_append_of_le_length (by simp;omega),List.drop_of_length_le (by simp;omega),List.nil_append]
 rw [zSw,zSw]
 ·simp
 ·intro x hx
  split<;>split<;>omega
 ·intro x hx
  obtain ⟨i,h1,h2,e1⟩:=yDr hx
  have:=hd3.lt h2
  rw [e1]
  split<;>split<;>omega
end
theorem yJl {d e:List Nd} {up at':Int} (h:zPr d up at' e=0):∃ n:Nat,zCB (zBS d up at' e) up=0∧zAd (zBS d up at' e)=0∧0≤at'∧at'.toNat < (zDc (zBS d up at' e) up.toNat).length∧(zDc (zBS d up at' e) up.toNat).getD at'.toNat 0=n∧zCB (zBS d up at' e) n=0∧n≠0∧yDn (zBS d up at' e) n=e∧zCk (zBS d up at' e) n=d:=by
 unfold zPr at h
 split at h
 case isFalse h1=>exact absurd h h1
 rename_i hd
 split at h
 case isFalse h1=>exact absurd h h1
 rename_i he
 split at h
 ·cases h
 rename_i h1
 split at h
 ·cases h
 rename_i h2
 split at h
 ·cases h
 rename_i h3
 have hd0:=(zBr hd).2.2
 obtain ⟨k,rfl⟩:∃ k:Nat,up=k:=⟨up.toNat,by omega⟩
 rw [Int.toNat_natCast] at h2
 obtain ⟨n,e1,hk,hn,ha,hs,hl⟩:=yJj hd0 (k:=k) (at':=at'.toNat) (by omega) (by omega)
 have ex:zBS d k at' e=zAO d k n e:=by rw [zBS,Int.toNat_natCast,e1,Int.toNat_natCast]
 rw [ex]
 have hx:=yNM hd he (by omega) hk hn ha hs
 have hx0:=(zBr hx).2.2
 have hxl:=zSy (d:=d) (e:=e) (k:=k) hn
 obtain ⟨he1,_,he3⟩:=zBl.1 he
 obtain ⟨_,_,hd3⟩:=zBl.1 hd
 have hup:zAB (zAO d k n e) n=k:=by
  have:=zYc (k:=k) hn (j:=0) (e:=e) (by omega)
  rw [Nat.add_zero] at this
  rw [this,he3.1 (by omega),if_pos (by omega)]
 obtain ⟨r,hr⟩:=yFN (d:=zAO d k n e) (n:=(k:Int)) (show n+1≤(zAO d k n e).length by omega)
 have hkid:zDc (zAO d k n e) k=zAt d k n++(n:Int)::r:=by
  rw [zU8 hx0 (by omega),zDO,hr,zAE,if_pos hup,yDt (e:=d) fun i hi=>yHD hd3 hn hi]
  simp
 rw [Int.toNat_natCast,hkid]
 refine ⟨n,zU9.2 ⟨hx,by omega,by omega⟩,hx,by omega,?_,?_,zU9.2 ⟨hx,by omega,by omega⟩,by omega,yJk hd he hk hn hs,yLG hd he hk hn hs⟩
 ·rw [List.length_append,List.length_cons];omega
 ·rw [←hl];simp
section
variable {d:List Nd} {n:Nat}
theorem zYd:zCk d n=(d.take n).map (zBW fun j=>if j≥zAq d n then j-zAq d n+n else j)++(d.drop (zAq d n)).map (zBW fun j=>if j≥zAq d n then j-zAq d n+n else j):=by
 simp [zCk]
theorem yHF (hn:n < d.length):(zCk d n).length=d.length-(zAq d n-n):=by
 have hb:=zAL hn
 rw [zYd];simp;omega
theorem yLH (hu:Ups (zAB d) d.length) (hn:n < d.length) {i:Nat} (h:i < n):zAB (zCk d n) i=zAB d i:=by
 have hb:=zAL hn
 rw [zYd,zHj,if_pos (by simp;omega),zNb (by simp;omega),zSv h]
 have:=hu.lt (k:=i) (by omega)
 rw [if_neg (by omega)]
theorem yLI (hn:n < d.length) {i:Nat} (h1:n≤i) (h2:i+(zAq d n-n) < d.length):zAB (zCk d n) i=if zAB d (i+(zAq d n-n))≥zAq d n then zAB d (i+(zAq d n-n))-zAq d n+n else zAB d (i+(zAq d n-n)):=by
 have hb:=zAL hn
 rw [zYd,zHj,if_neg (by simp;omega)]
 simp only [List.length_map,List.length_take]
 rw [zNb (by simp;omega),yAX,show zAq d n+(i-min n d.length)=i+(zAq d n-n) by omega]
theorem yPc (hd:zCF d d.length=true) (hn:n < d.length) {k j:Nat} (h1:zAq d n≤k) (h2:k < d.length) (e:zAB d k=j):j < n∨zAq d n≤j:=by
 apply Classical.byContradiction
 intro hc
 have h3:=zJG hd hn h2 h1
 rw [e] at h3
 have hb:=zAL hn
 refine h3 ?_
 rw [zCY hd (by omega)]
 rcases Nat.lt_or_ge n j with h4|h4
 ·exact List.mem_cons_of_mem _ (zPI hd hn j (by omega) h4 (by omega))
 ·have:n=j:=by omega
  subst this;exact List.mem_cons_self
theorem yNN (hd:zAd d=0) (h0:0 < n) (hn:n < d.length):zAd (zCk d n)=0:=by
 obtain ⟨hd1,hd2,hd3⟩:=zBl.1 hd
 have hd0:=(zBr hd).2.2
 have hb:=zAL hn
 refine zBl.2 ⟨by rw [yHF hn];omega,?_,?_⟩
 ·intro x hx
  rw [zYd] at hx
  rcases List.mem_append.1 hx with hx|hx
  ·exact zJt (fun y hy=>hd2 y (List.mem_of_mem_take hy)) x hx
  ·exact zJt (fun y hy=>hd2 y (List.mem_of_mem_drop hy)) x hx
 ·rw [yHF hn]
  refine Ups.rem hd3 h0 hb.1 hb.2 (fun i h1 h2=>?_) (fun h=>zED hn h) (fun k j h1 h2 e=>yPc hd0 hn h1 h2 e) (fun i hi=>yLH hd3 hn hi) (fun i h1 h2=>yLI hn h1 h2)
  rw [←yNL hd0 (by omega),zCY hd0 (by omega)]
  exact List.mem_cons_of_mem _ (zPI hd0 hn i (by omega) h1 h2)
end
end Go.Hx
end

section
/-
 Right documents: what is laid when a tree is a kid of an element. Plain Lean, no program in sight. No condition.
-/
namespace Go.Hx
variable [Glob] [GlobL]
section
variable {d:List Nd} (hd:zCF d d.length=true)
include hd
variable {e:List Nd} {n k0:Nat}
end
end Go.Hx
end

section
set_option maxRecDepth 100000
set_option linter.unusedSimpArgs false
namespace Go.Hx
open Go.Proofs
variable [Glob] [GlobL]
attribute [local go_sem] zAk zAi zAj zAe ndV zAg zMJ zMI zRJ zMH List.take_zero List.map_nil zCv atV OVal.cells zVc List.drop_succ_cons List.drop_zero List.take_succ_cons List.getD_nil zUx zFk Nat.sub_zero List.map_cons ev zAl zHX zPW yKc zLH yHY List.set_set List.length_set List.set_cons_zero List.set_cons_succ List.getD_cons_zero List.getD_cons_succ OV.left
attribute [local go_sem ↓] yGs yGt yNj
end Go.Hx
end
