/-
  Walks of functions of the program over an abstract layer, and the laws that they use: each contract says what the function computes, for every input that its conditions let by. No other condition.
-/
import Derived.Test.YtjnagiaooecklabGreatDoorG28
import Derived.Test.YtjnagiaooecklabGreatDoorG14
import Derived.Test.YtjnagiaooecklabGreatDoorG30
import Derived.Test.YtjnagiaooecklabGreatDoorG27
set_option linter.all false
section
set_option maxRecDepth 100000
set_option linter.unusedSimpArgs false
set_option maxHeartbeats 4000000
namespace Go.Hx
open Go.Proofs
variable [Glob] [GlobL]
attribute [local go_sem] zAt zAp zAn zAj ndV zAq zAk zB8 zA7
attribute [local go_sem] reduceCtorEq Nat.reduceAdd Nat.reduceEqDiff reduceIte Nat.reduceLeDiff Nat.reduceLT Nat.reduceSub
def yAj (d:List Nd):PVal:=if zAy d=0 then zWc d (idxOf d) else zWc [] []
theorem yBe {d:List Nd} (h:zAy d=0):yAj d=.agg [.sl 5 (zNz d),.sl 3 (zCj (idxOf d))]:=by unfold yAj;rw [if_pos h];rfl
theorem yFw {d:List Nd} (h:zAy d≠0):yAj d=.agg [.sl 5 [],.sl 3 []]:=by unfold yAj;rw [if_neg h];rfl
theorem yAk (d:List Nd):Contract Tryz.prog zIE [.val (zHz d)] {res:=.tup [yAj d,iv (zAy d)]}:=by
 have hB:=zEh d
 obtain ⟨R,hR⟩:∃ R,R=yAj d:=⟨_,rfl⟩
 rw [←hR]
 obtain ⟨e,he⟩:∃ e,e=zAy d:=⟨_,rfl⟩
 rw [←he] at hB ⊢
 unfold zHz at hB ⊢
 refine mkA zYA (base:=0) (fo rfl) (fun hfit=>?_)
 unfold F0 zQ7
 simp (maxSteps:=2000000) only [zAJ,List.set_cons_succ,List.set_cons_zero,List.map_cons,List.map_nil,zAH,zAa,ioOf,List.length_cons,List.length_nil,Nat.reduceAdd,Nat.reduceSub,List.replicate,List.cons_append,List.nil_append]
 try simp (maxSteps:=2000000) only [go_sem]
 repeat with_reducible refine zAb ?_
 refine zCi (by repeat' constructor) (hB) ?_
 try simp (maxSteps:=2000000) only [go_sem]
 repeat with_reducible refine zAb ?_
 refine zAc (by rfl) trivial (fun h0=>?_) (fun h0=>?_)
 ·have h1:e≠0:=by simpa using h0
  rw [yFw (he▸h1)] at hR
  try simp (maxSteps:=2000000) only [go_sem]
  repeat with_reducible refine zAb ?_
  rw [hR]
  exact zBq (by simp) ⟨zOE rfl rfl (.inr rfl),zA0 rfl trivial (.inl rfl),rfl⟩
 have h1:e=0:=by simpa using h0
 rw [yBe (he.symm.trans h1)] at hR
 obtain ⟨d1,d2,d3⟩:=zES (he.symm.trans h1)
 subst h1
 have hBe:(if (0:Int)=0 then idxOf d else [])=idxOf d:=if_pos rfl
 rw [hBe]
 try simp (maxSteps:=2000000) only [go_sem]
 repeat with_reducible refine zAb ?_
 refine zAv (fun i:Nat=>[(23,.pv (iv i)),(47,.own zJK 5 (zNz (d.take i))),(49,.un),(50,.un),(51,.un),(52,.un),(53,.un),(8,.un),(24,.un)]) (fun i:Nat=>d.length-i) (fun i:Nat=>i≤d.length) (0) ?_ (Nat.zero_le _) ?_
 focus (simp (maxSteps:=2000000) only [go_sem,zAf,zAl,zAz,zAg];all_goals (repeat' (first|exact trivial|exact zAm (by omega)|exact zAi rfl|exact zAx rfl|exact zAs|exact le_refl _|refine And.intro ?_ ?_)))
 intro i hi
 try simp (maxSteps:=2000000) only [go_sem]
 repeat with_reducible refine zAb ?_
 refine zAc (by rfl) trivial (fun g1=>?_) (fun g1=>?_)
 ·have hil:i < d.length:=by simpa using g1
  obtain ⟨hs1,hs2⟩:=(yD1 d3 d2 (yFv hil)).1
  have hx:=zBC d i hil
  have hstep:zNz (d.take (i+1))=zNz (d.take i)++[ndV (d.getD i default)]:=by
   unfold zNz
   rw [List.take_succ_eq_append_getElem hil,List.map_append]
   congr 1
   simp [hil]
  have hl:(zNz (d.take i)).length≤64:=by rw [zAt,List.length_take];omega
  obtain ⟨x,hxe⟩:∃ x,x=d.getD i default:=⟨_,rfl⟩
  rw [←hxe] at hx hs1 hs2 hstep
  obtain ⟨L,hL⟩:∃ L,L=zNz (d.take i):=⟨_,rfl⟩
  rw [←hL] at hstep hl ⊢
  unfold ndV at hx
  try simp (maxSteps:=2000000) only [go_sem,hx]
  repeat with_reducible refine zAb ?_
  refine zT2 (by repeat' constructor) (zIF _ hs1) ?_
  try simp (maxSteps:=2000000) only [go_sem]
  repeat with_reducible refine zAb ?_
  refine zT2 (by repeat' constructor) (zKE _ hs2) ?_
  try simp (maxSteps:=2000000) only [go_sem]
  repeat with_reducible refine zAb ?_
  refine ⟨i+1,by omega,hil,?_⟩
  rw [hstep]
  simp (maxSteps:=2000000) only [go_sem,zAf,zAl,zAz,zAg]
  all_goals (repeat' (first|exact trivial|exact zAm (by omega)|exact zAi rfl|exact zAx rfl|exact zAs|exact le_refl _|refine And.intro ?_ ?_))
 ·have hil:i=d.length:=by simp at g1;omega
  rw [hil,List.take_length]
  try simp (maxSteps:=2000000) only [go_sem]
  repeat with_reducible refine zAb ?_
  rw [hR]
  exact zBq (by simp) ⟨zOE rfl rfl (.inl rfl),zA0 rfl trivial (.inl rfl),rfl⟩
end Go.Hx
end

section
set_option maxRecDepth 100000
set_option linter.unusedSimpArgs false
set_option maxHeartbeats 4000000
namespace Go.Hx
open Go.Proofs
variable [Glob] [GlobL]
attribute [local go_sem] zAt zAp zAn zAj ndV zAq zAk zB8 zA7
attribute [local go_sem] reduceCtorEq Nat.reduceAdd Nat.reduceEqDiff reduceIte Nat.reduceLeDiff Nat.reduceLT Nat.reduceSub
theorem yD2 {d:List Nd} (h:zAy d=0):∀ e∈idxOf d,e.nodes.length * 8≤140737488355328:=by
 obtain ⟨d1,d2,d3⟩:=zES h
 have hcl:∀ i,i < d.length→(d.getD i default).cls.length≤6:=fun i hi=>(zDW (zGx d3 hi)).1
 intro e he
 have h1:=((zE7 _ (zAW d d.length) rfl).2 e).1 he
 have h2:=zDL (zAW d d.length) e.key
 have h3:=zE9 d d.length fun i hi=>hcl i hi
 rw [h1.2];omega
theorem yFy:zAy smallD=0:=by kernel_rfl
theorem yHO:yAj smallD=.agg [.sl 5 (zNz smallD),.sl 3 (zCj (idxOf smallD))]:=yBe yFy
theorem yCr:Contract Tryz.prog zKD [] {res:=.val (zWc smallD (idxOf smallD))}:=by
 have hO:=yAk smallD
 rw [yFy,yHO] at hO
 unfold zWc
 refine mkA yAi (base:=0) (fo rfl) (fun hfit=>?_)
 unfold F0 zTt
 simp (maxSteps:=2000000) only [zAJ,List.set_cons_succ,List.set_cons_zero,List.map_cons,List.map_nil,zAH,zAa,ioOf,List.length_cons,List.length_nil,Nat.reduceAdd,Nat.reduceSub,List.replicate,List.cons_append,List.nil_append]
 try simp (maxSteps:=2000000) only [go_sem]
 repeat with_reducible refine zAb ?_
 refine zAw (by repeat' constructor) (zQ8) ?_
 try simp (maxSteps:=2000000) only [go_sem]
 repeat with_reducible refine zAb ?_
 refine zCi (by repeat' constructor) (hO) ?_
 try simp (maxSteps:=2000000) only [go_sem]
 repeat with_reducible refine zAb ?_
 exact zPn rfl rfl rfl
end Go.Hx
end

section
set_option maxRecDepth 100000
set_option linter.unusedSimpArgs false
set_option maxHeartbeats 4000000
namespace Go.Hx
open Go.Proofs
variable [Glob] [GlobL]
attribute [local go_sem] zAt zAp zAn zAj ndV zAq zAk zB8 zA7 zHz zBD
attribute [local go_sem] reduceCtorEq Nat.reduceAdd Nat.reduceEqDiff reduceIte Nat.reduceLeDiff Nat.reduceLT Nat.reduceSub
theorem yHP:yEb (idxOf smallD) 3 [97]=([1,4],0):=by kernel_rfl
theorem yJW:(idxOf smallD).length=6:=by kernel_rfl
theorem yHQ:yFs smallD (idxOf smallD) yFx=0:=by kernel_rfl
theorem yJX:yLn smallD yFx=[0,2]:=by kernel_rfl
theorem zD4 (hM:zOy):Contract Tryz.prog zDN [] {res:=.val (bv true)}:=by
  have hB:=zEh smallD
  rw [yFy] at hB
  have hb:(if (0:Int)=0 then idxOf smallD else [])=idxOf smallD:=if_pos rfl
  rw [hb] at hB
  have hL:=zIy (idxOf smallD) 3 [97] (yD2 yFy)
  rw [yHP] at hL
  have hF:=zYm hM smallD (idxOf smallD) yFx
  rw [yHQ,if_pos rfl,yJX] at hF
  have hI1:=zDO [1,4] [1,4]
  have hI2:=zDO [0,2] [0,2]
  have hl:=yJW
  obtain ⟨X,hX⟩:∃ X,X=idxOf smallD:=⟨_,rfl⟩
  have hP:=yCr
  rw [←hX] at hB hL hF hl hP
  have hl2:((X.length:Int)==6)=true:=by rw [hl];rfl
  unfold zWc at hF hP
  unfold zHz at hB
  refine mkA zNp (base:=0) (fo rfl) (fun hfit=>?_)
  unfold F0 zG3
  simp (maxSteps:=2000000) only [zAJ,List.set_cons_succ,List.set_cons_zero,List.map_cons,List.map_nil,zAH,zAa,ioOf,List.length_cons,List.length_nil,Nat.reduceAdd,Nat.reduceSub,List.replicate,List.cons_append,List.nil_append]
  try simp (maxSteps:=2000000) only [go_sem]
  repeat with_reducible refine zAb ?_
  refine zAw (by repeat' constructor) (zQ8) ?_
  try simp (maxSteps:=2000000) only [go_sem]
  repeat with_reducible refine zAb ?_
  refine zCi (by repeat' constructor) (hB) ?_
  try simp (maxSteps:=2000000) only [go_sem]
  repeat with_reducible refine zAb ?_
  refine zCi (by repeat' constructor) (hL) ?_
  try simp (maxSteps:=2000000) only [go_sem]
  repeat with_reducible refine zAb ?_
  refine zAw (by repeat' constructor) (hP) ?_
  try simp (maxSteps:=2000000) only [go_sem]
  repeat with_reducible refine zAb ?_
  refine zAw (by repeat' constructor) (zYB) ?_
  try simp (maxSteps:=2000000) only [go_sem]
  repeat with_reducible refine zAb ?_
  refine zCi (by repeat' constructor) (hF) ?_
  try simp (maxSteps:=2000000) only [go_sem,hl2]
  repeat with_reducible refine zAb ?_
  apply zAu (h2:=fun _=>hI1)
  · (simp (maxSteps:=2000000) only [go_sem];rfl)
  · intro h;repeat' (first|exact trivial|exact h|refine And.intro ?_ ?_)
  try simp (maxSteps:=2000000) only [go_sem]
  repeat with_reducible refine zAb ?_
  apply zAu (h2:=fun _=>hI2)
  · (simp (maxSteps:=2000000) only [go_sem];rfl)
  · intro h;repeat' (first|exact trivial|exact h|refine And.intro ?_ ?_)
  try simp (maxSteps:=2000000) only [go_sem]
  repeat with_reducible refine zAb ?_
  exact zAd rfl trivial (.inl rfl)
theorem yFz (e:Ent) (l:List Ent) (k:Key):atK (e::l) k=if e.key=k then e.nodes else atK l k:=by
  unfold atK
  by_cases h:e.key=k
  · rw [if_pos h,List.find?_cons_of_pos (by simpa using h)];rfl
  · rw [if_neg h,List.find?_cons_of_neg (by simpa using h)]
theorem zNq (hM:zOy) (d:List Nd) (l:List Ent) (k:Int) (nm:Bys) (hs:∀ e∈l,e.nodes.length * 8≤140737488355328):Contract Tryz.prog zFp [.val (zHz d),.val (.one (.sl 3 (zCj l))),.val (iv k),.val (sv nm)] {res:=.val (bv true)}:=by
  have hB:=zEh d
  have hC:=zSy d
  have hI:=fun h h2=>zWf d h h2
  have hS:=zNc (if zAy d=0 then idxOf d else []) (if zAy d=0 then idxOf d else [])
  rw [beq_self_eq_true] at hS
  have hL:=zIy l k nm hs
  have hN:=zDO (yEb l k nm).1 (yEb l k nm).1
  rw [decide_eq_true rfl] at hN
  have hlk:yEb l k nm=if k < 1∨3 < k then ([],4) else if 512 < l.length then ([],2) else (atK l (k,nm),0):=rfl
  obtain ⟨e,he⟩:∃ e,e=zAy d:=⟨_,rfl⟩
  rw [←he] at hB hC hS
  obtain ⟨X,hX⟩:∃ X,X=(if e=0 then idxOf d else []):=⟨_,rfl⟩
  rw [←hX] at hB hS
  obtain ⟨L,f,hLf⟩:∃ L f,yEb l k nm=(L,f):=⟨_,_,rfl⟩
  rw [hLf] at hL hN hlk
  have hee:(e==e)=true:=by simp
  unfold zHz at hB hC hI ⊢
  by_cases h0:e=0
  all_goals
    have g0:=h0
    first
      | (have g0:(e==0)=true:=by simp [h0]
         obtain ⟨d1,d2,d3⟩:=zES (he.symm.trans h0)
         have hI:=hI d2 fun i hi=>Nat.le_trans (zDW (zGx d3 hi)).1 (by decide)
         rw [if_pos h0] at hX
         rw [←hX] at hI)
      | (have g0:(e==0)=false:=by simp [h0]
         rw [if_neg h0] at hX
         subst hX)
    refine mkA zMr (base:=0) (fo rfl) (fun hfit=>?_)
    unfold F0 zGA
    simp (maxSteps:=2000000) only [zAJ,List.set_cons_succ,List.set_cons_zero,List.map_cons,List.map_nil,zAH,zAa,ioOf,List.length_cons,List.length_nil,Nat.reduceAdd,Nat.reduceSub,List.replicate,List.cons_append,List.nil_append]
    try simp (maxSteps:=2000000) only [go_sem]
    repeat with_reducible refine zAb ?_
    have hfl:=zDg (k:=3) hfit.2.1
    rw [zB8] at hfl
    refine zCi (by repeat' constructor) (hB) ?_
    try simp (maxSteps:=2000000) only [go_sem]
    repeat with_reducible refine zAb ?_
    refine zAw (by repeat' constructor) (hC) ?_
    try simp (maxSteps:=2000000) only [go_sem,g0]
    repeat with_reducible refine zAb ?_
    first
      | (refine zPl (by rfl) trivial ?_
         try simp (maxSteps:=2000000) only [go_sem]
         repeat with_reducible refine zAb ?_
         (refine zAw (by repeat' constructor) (hI) ?_;try simp (maxSteps:=2000000) only [go_sem];repeat with_reducible refine zAb ?_))
      | (refine zK5 (by rfl) trivial ?_
         (try simp (maxSteps:=2000000) only [go_sem];repeat with_reducible refine zAb ?_))
    refine zCi (by repeat' constructor) (hL) ?_
    try simp (maxSteps:=2000000) only [go_sem]
    repeat with_reducible refine zAb ?_
    refine zAc (by rfl) trivial (fun g1=>?_) (fun g1=>?_)
    · have h1:k < 1∨3 < k:=by
        by_cases h:k < 1
        · exact .inl h
        · right;simp [h] at g1;omega
      rw [if_pos h1] at hlk
      injection hlk with hl1 hl2
      subst hl1;subst hl2
      try simp (maxSteps:=2000000) only [go_sem]
      repeat with_reducible refine zAb ?_
      refine zAw (by repeat' constructor) (zD4 hM) ?_
      try simp (maxSteps:=2000000) only [go_sem,hee,beq_self_eq_true]
      repeat with_reducible refine zAb ?_
      apply zAu (h2:=fun _=>hS)
      · (simp (maxSteps:=2000000) only [go_sem];rfl)
      · intro h;repeat' (first|exact trivial|exact h|refine And.intro ?_ ?_)
      try simp (maxSteps:=2000000) only [go_sem,hee,beq_self_eq_true]
      repeat with_reducible refine zAb ?_
      apply zAu (h2:=fun _=>hN)
      · (simp (maxSteps:=2000000) only [go_sem];rfl)
      · intro h;repeat' (first|exact trivial|exact h|refine And.intro ?_ ?_)
      try simp (maxSteps:=2000000) only [go_sem]
      repeat with_reducible refine zAb ?_
      exact zAd rfl trivial (.inl rfl)
    have h1:¬ (k < 1∨3 < k):=by
      by_cases h:k < 1
      · simp [h] at g1
      · simp [h] at g1;omega
    rw [if_neg h1] at hlk
    try simp (maxSteps:=2000000) only [go_sem]
    repeat with_reducible refine zAb ?_
    refine zAc (by rfl) trivial (fun g2=>?_) (fun g2=>?_)
    · have h2:512 < l.length:=by simp at g2;omega
      rw [if_pos h2] at hlk
      injection hlk with hl1 hl2
      subst hl1;subst hl2
      try simp (maxSteps:=2000000) only [go_sem]
      repeat with_reducible refine zAb ?_
      refine zAw (by repeat' constructor) (zD4 hM) ?_
      try simp (maxSteps:=2000000) only [go_sem,hee,beq_self_eq_true]
      repeat with_reducible refine zAb ?_
      apply zAu (h2:=fun _=>hS)
      · (simp (maxSteps:=2000000) only [go_sem];rfl)
      · intro h;repeat' (first|exact trivial|exact h|refine And.intro ?_ ?_)
      try simp (maxSteps:=2000000) only [go_sem,hee,beq_self_eq_true]
      repeat with_reducible refine zAb ?_
      apply zAu (h2:=fun _=>hN)
      · (simp (maxSteps:=2000000) only [go_sem];rfl)
      · intro h;repeat' (first|exact trivial|exact h|refine And.intro ?_ ?_)
      try simp (maxSteps:=2000000) only [go_sem]
      repeat with_reducible refine zAb ?_
      exact zAd rfl trivial (.inl rfl)
    have h2:¬ 512 < l.length:=by simp at g2;omega
    rw [if_neg h2] at hlk
    injection hlk with hl1 hl2
    subst hl1;subst hl2
    try simp (maxSteps:=2000000) only [go_sem]
    repeat with_reducible refine zAb ?_
    refine zAv (fun j:Nat=>[(17,.pv (iv ((j:Int)-1))),(16,.pv (.one (.sl 1 (zAS (atK (l.drop j) (k,nm)))))),(40,.un),(58,.un)]) (fun j:Nat=>j) (fun j:Nat=>j≤l.length) (l.length) ?_ (Nat.le_refl _) ?_
    focus (simp (maxSteps:=2000000) only [go_sem,zAf,zAl,zAz,zAg];all_goals (repeat' (first|exact trivial|exact zAm (by omega)|exact zAi rfl|exact zAx rfl|exact zAs|exact le_refl _|refine And.intro ?_ ?_)))
    · exact .inr (.inr ⟨rfl,by rw [List.drop_length];rfl⟩)
    intro j hj
    try simp (maxSteps:=2000000) only [go_sem]
    repeat with_reducible refine zAb ?_
    refine zAc (by rfl) trivial (fun g3=>?_) (fun g3=>?_)
    · obtain ⟨i,rfl⟩:∃ i,j=i+1:=⟨j-1,by simp at g3;omega⟩
      have hil:i < l.length:=by omega
      have e1:=zGv l i hil
      have hdr:=zCQ (d:=default) hil
      have hto:(((i+1:Nat):Int)-1)=i:=by omega
      obtain ⟨x,hx⟩:∃ x,x=l.getD i default:=⟨_,rfl⟩
      rw [←hx] at e1 hdr
      have hat:=yFz x (l.drop (i+1)) (k,nm)
      rw [←hdr] at hat
      unfold entV at e1
      rw [hto]
      try simp (maxSteps:=2000000) only [go_sem,e1]
      repeat with_reducible refine zAb ?_
      refine zAc (by rfl) trivial (fun g4=>?_) (fun g4=>?_)
      · have hk:x.key=(k,nm):=by
          by_cases h:x.kind=k
          · simp [h] at g4;exact Prod.ext h g4
          · simp [h] at g4
        rw [if_pos hk] at hat
        try simp (maxSteps:=2000000) only [go_sem,e1]
        repeat with_reducible refine zAb ?_
        refine ⟨i,by omega,by omega,?_⟩
        rw [hat]
        simp (maxSteps:=2000000) only [go_sem,zAf,zAl,zAz,zAg]
        all_goals (repeat' (first|exact trivial|exact zAm (by omega)|exact zAi rfl|exact zAx rfl|exact zAs|exact le_refl _|refine And.intro ?_ ?_))
      · have hk:¬ x.key=(k,nm):=by
          intro h
          have h:(x.kind,x.name)=(k,nm):=h
          injection h with h3 h4
          simp [h3,h4] at g4
        rw [if_neg hk] at hat
        try simp (maxSteps:=2000000) only [go_sem]
        repeat with_reducible refine zAb ?_
        refine ⟨i,by omega,by omega,?_⟩
        rw [hat]
        simp (maxSteps:=2000000) only [go_sem,zAf,zAl,zAz,zAg]
        all_goals (repeat' (first|exact trivial|exact zAm (by omega)|exact zAi rfl|exact zAx rfl|exact zAs|exact le_refl _|refine And.intro ?_ ?_))
    · have hj0:j=0:=by simp at g3;omega
      rw [hj0,List.drop_zero]
      try simp (maxSteps:=2000000) only [go_sem]
      repeat with_reducible refine zAb ?_
      refine zAw (by repeat' constructor) (zD4 hM) ?_
      try simp (maxSteps:=2000000) only [go_sem,hee,beq_self_eq_true]
      repeat with_reducible refine zAb ?_
      apply zAu (h2:=fun _=>hS)
      · (simp (maxSteps:=2000000) only [go_sem];rfl)
      · intro h;repeat' (first|exact trivial|exact h|refine And.intro ?_ ?_)
      try simp (maxSteps:=2000000) only [go_sem,hee,beq_self_eq_true]
      repeat with_reducible refine zAb ?_
      apply zAu (h2:=fun _=>hN)
      · (simp (maxSteps:=2000000) only [go_sem];rfl)
      · intro h;repeat' (first|exact trivial|exact h|refine And.intro ?_ ?_)
      try simp (maxSteps:=2000000) only [go_sem]
      repeat with_reducible refine zAb ?_
      exact zAd rfl trivial (.inl rfl)
end Go.Hx
end
