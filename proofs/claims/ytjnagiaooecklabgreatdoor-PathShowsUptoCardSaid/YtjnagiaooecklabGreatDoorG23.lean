/-
  Walks of functions of the program over an abstract layer, and the laws that they use: each contract says what the function computes, for every input that its conditions let by. No other condition.
-/
import Derived.Test.YtjnagiaooecklabGreatDoorG15
import Derived.Test.YtjnagiaooecklabGreatDoorG21
import Derived.Test.YtjnagiaooecklabGreatDoorG13
import Derived.Test.YtjnagiaooecklabGreatDoorG18
import Derived.Test.YtjnagiaooecklabGreatDoorG12
import Derived.Test.YtjnagiaooecklabGreatDoorG9
import Derived.Test.YtjnagiaooecklabGreatDoorG11
set_option linter.all false
section
set_option maxRecDepth 100000
set_option linter.unusedSimpArgs false
namespace Go.Hx
open Go.Proofs Go.RowKit
attribute [local instance] zBi
attribute [local go_sem] zAC zAz zAB zAw ndV zAx zAv List.length_drop
attribute [local go_sem] reduceCtorEq Nat.reduceAdd Nat.reduceEqDiff reduceIte Nat.reduceLeDiff Nat.reduceLT Nat.reduceSub
def zTG (l:List Bys):Nat:=(l.map List.length).sum
def zF1 (l:List Bys):Bys:=(l.map fun x=>[44,32] ++ x).flatten
def zYY:List Bys→Bys
 |[]=>[]
 |x :: r=>x ++ zF1 r
theorem zPy {α:Type} (l:List α) (i:Nat) (d:α) (h:i<l.length):l.take (i+1)=l.take i ++ [l.getD i d]:=by
 rw [List.take_add_one,List.getElem?_eq_getElem h]
 simp [List.getD_eq_getElem?_getD,h]
theorem yBK (a b:List Bys):zTG (a ++ b)=zTG a+zTG b:=by simp [zTG]
theorem yEq (a b:List Bys):zF1 (a ++ b)=zF1 a ++ zF1 b:=by simp [zF1]
theorem yEr (l:List Bys) (i:Nat) (h:i<l.length):zTG (l.take (i+1))=zTG (l.take i)+(l.getD i []).length:=by
 rw [zPy l i [] h,yBK]; simp [zTG]
theorem yAL (l:List Bys) (i:Nat):zTG (l.take i)≤zTG l:=by
 conv=>rhs; rw [← List.take_append_drop i l]
 rw [yBK]; omega
theorem yCY (l:List Bys) (i:Nat) (h:i<l.length):zF1 (l.take (i+1))=zF1 (l.take i) ++ [44,32] ++ l.getD i []:=by
 rw [zPy l i [] h,yEq]; simp [zF1]
theorem zYZ (l:List Bys) (n:Nat):(zZP l).drop n=zZP (l.drop n):=by simp [zZP]
theorem yEs (l:List Bys):(zZP l).take l.length=zZP l:=List.take_of_length_le (by rw [zAz]; omega)
theorem zRp (l:List Bys):(zF1 l).length=2 * l.length+zTG l:=by
 induction l with
 |nil=>rfl
 |cons x r ih=>
  unfold zF1 zTG at *
  simp only [List.map_cons,List.flatten_cons,List.length_append,List.length_cons,List.length_nil,List.sum_cons,ih]
  omega
theorem yBL (l:List Bys) (i:Nat):(zF1 (l.take i)).length≤2 * l.length+zTG l:=by
 rw [zRp]
 have:=yAL l i
 have:(l.take i).length≤l.length:=by simp; omega
 omega
set_option maxHeartbeats 16000000 in
theorem zTH (l:List Bys) (h1:1≤l.length) (h2:l.length≤5) (h3:zTG l≤1073741824):Contract Tryz.prog zEv [.val (.one (.sl 1 (zZP l))),.val (sv [44,32])] { res:=.val (sv (zYY l)) }:=by
 have hm0:maxLen=9223372036854775807:=rfl
 refine mkA zRe (base:=0) (fo rfl) (fun hfit=>?_)
 unfold F0 zHu
 simp only [yIn,Nat.reduceAdd,Nat.reduceSub]
 try simp only [go_sem]
 repeat with_reducible refine zAc ?_
 refine zAa yF trivial (fun g1=>?_) (fun g1=>?_)
 ·rw [beq_iff_eq] at g1
  omega
 try simp only [go_sem]
 repeat with_reducible refine zAc ?_
 refine zAa yF trivial (fun g2=>?_) (fun g2=>?_)
 ·obtain ⟨x,rfl⟩:∃ x,l=[x]:=by
   have:l.length=1:=by rw [beq_iff_eq] at g2; omega
   exact List.length_eq_one_iff.1 this
  have e:zYY [x]=x:=by simp [zYY,zF1]
  rw [e]
  try simp only [go_sem,zZP,List.map_cons,List.map_nil,List.getD_cons_zero,List.length_cons,List.length_nil]
  repeat with_reducible refine zAc ?_
  exact zAq rfl trivial (.inl rfl)
 ·have hl:2≤l.length:=by rw [beq_eq_false_iff_ne] at g2; omega
  have e0:l.getD 0 [] :: l.drop 1=l:=by
   cases l with
   |nil=>simp at hl
   |cons x r=>rfl
  have hsum:zTG l=(l.getD 0 []).length+zTG (l.drop 1):=by
   conv=>lhs; rw [← e0]
   rfl
  have hjoin:zYY l=l.getD 0 [] ++ zF1 (l.drop 1):=by
   conv=>lhs; rw [← e0]
   rfl
  have hdl:(l.drop 1).length+1=l.length:=by simp; omega
  try simp only [go_sem]
  repeat with_reducible refine zAc ?_
  refine zAa yF trivial (fun g3=>?_) (fun g3=>?_)
  ·have hq:decide (((2:Nat):Int) ≥ (9223372036854775807:Int).tdiv (((l.length:Nat):Int) - 1))=false:=by
    rcases (by omega:l.length=2∨l.length=3∨l.length=4∨l.length=5) with h | h | h | h <;> rw [h] <;> decide
   have hnz:((l.length:Nat):Int) - 1≠0:=by omega
   have hqr:inR .i64 ((9223372036854775807:Int).tdiv (((l.length:Nat):Int) - 1)):=by
    rcases (by omega:l.length=2∨l.length=3∨l.length=4∨l.length=5) with h | h | h | h <;> rw [h] <;> exact zEk (by decide) (by decide)
   try simp only [go_sem,hq]
   repeat with_reducible refine zAc ?_
   refine zAa yF trivial (fun g4=>?_) (fun g4=>?_)
   ·cases g4
   ·try simp only [go_sem]
    repeat with_reducible refine zAc ?_
    refine zAr (fun i:Nat=>[(5,.pv (iv ((2 * (l.length - 1)+zTG (l.take i):Nat):Int))),(41,.pv (iv i)),(7,.un),(42,.un),(49,.un)]) (fun i:Nat=>l.length - i) (fun i:Nat=>i≤l.length) (0) ?_ (Nat.zero_le _) ?_
    focus (simp only [go_sem,zAf,zAl,zAs,zAb]; all_goals (repeat' (first | exact trivial | exact zAi yO | exact zAh rfl | exact zAm rfl | exact zAn | exact le_refl _ | refine And.intro ?_ ?_)))
    ·exact zAi (by simp [zTG]; omega)
    intro i hi
    have hsl:=yAL l i
    try simp only [go_sem]
    repeat with_reducible refine zAc ?_
    refine zAa yF trivial (fun g5=>?_) (fun g5=>?_)
    ·have hlt:i<l.length:=by simp at g5; omega
     have hst:=yEr l i hlt
     have hsl2:=yAL l (i+1)
     have hbig:decide ((((l.getD i []).length:Nat):Int) > 9223372036854775807 - ((2 * (l.length - 1)+zTG (l.take i):Nat):Int))=false:=by
      rw [decide_eq_false_iff_not]; omega
     try simp only [go_sem,zU7 _ _ hlt]
     repeat with_reducible refine zAc ?_
     refine zAa yF trivial (fun g6=>?_) (fun g6=>?_)
     ·exfalso
      simp only [decide_eq_true_eq] at g6
      omega
     ·try simp only [go_sem]
      repeat with_reducible refine zAc ?_
      refine ⟨i+1,by omega,by omega,?_⟩
      simp only [go_sem,zAf,zAl,zAs,zAb]
      all_goals (repeat' (first | exact trivial | exact zAi yO | exact zAh rfl | exact zAm rfl | exact zAn | exact le_refl _ | refine And.intro ?_ ?_))
      all_goals first | exact zAb | exact zAi yO | rfl
    ·have hei:i=l.length:=by simp at g5; omega
     subst hei
     try simp only [go_sem,List.take_length]
     repeat with_reducible refine zAc ?_
     intro b
     try simp only [go_sem,List.take_length]
     repeat with_reducible refine zAc ?_
     have ht1:Int.toNat 1=1:=rfl
     have hc0:(zZP l).getD (Int.toNat 0) []=[bS (l.getD 0 [])]:=zU7 l 0 yO
     refine zP6 yF (by decide) yR (yJE b _ yO) ?_
     try simp only [go_sem,hc0]
     repeat with_reducible refine zAc ?_
     refine zP6 yF (by decide) yR (zFW b _ _ (by simp only [List.length_nil]; omega)) ?_
     try simp only [go_sem,yEs,ht1,zYZ,hc0]
     repeat with_reducible refine zAc ?_
     try simp only [go_sem,yEs,ht1,zYZ]
     repeat with_reducible refine zAc ?_
     refine zAr (fun j:Nat=>[(8,.ov (.one (.bl zBa zFV b (l.getD 0 [] ++ zF1 ((l.drop 1).take j))))),(65,.pv (iv j)),(10,.un),(66,.un)]) (fun j:Nat=>(l.drop 1).length - j) (fun j:Nat=>j≤(l.drop 1).length) (0) ?_ (Nat.zero_le _) ?_
     focus (simp only [go_sem,zAf,zAl,zAs,zAb]; all_goals (repeat' (first | exact trivial | exact zAi yO | exact zAh rfl | exact zAm rfl | exact zAn | exact le_refl _ | refine And.intro ?_ ?_)))
     ·exact zAm (by simp [zF1])
     intro j hj
     have hjl:=yBL (l.drop 1) j
     try simp only [go_sem]
     repeat with_reducible refine zAc ?_
     refine zAa yF trivial (fun g7=>?_) (fun g7=>?_)
     ·have hlt:j<(l.drop 1).length:=by simp only [decide_eq_true_eq,zAz] at g7; omega
      have hjl2:=yBL (l.drop 1) (j+1)
      have hjt:=yCY (l.drop 1) j hlt
      have hjl3:=congrArg List.length hjt
      simp only [List.length_append,List.length_cons,List.length_nil] at hjl3
      try simp only [go_sem,zU7 _ _ hlt]
      repeat with_reducible refine zAc ?_
      refine zP6 yF (by decide) yR (zFW b _ _ (by simp only [List.length_append,List.length_cons,List.length_nil]; omega)) ?_
      try simp only [go_sem]
      repeat with_reducible refine zAc ?_
      refine zP6 yF (by decide) yR (zFW b _ _ (by simp only [List.length_append,List.length_cons,List.length_nil]; omega)) ?_
      try simp only [go_sem]
      repeat with_reducible refine zAc ?_
      refine ⟨j+1,by omega,by omega,?_⟩
      simp only [go_sem,zAf,zAl,zAs,zAb]
      all_goals (repeat' (first | exact trivial | exact zAi yO | exact zAh rfl | exact zAm rfl | exact zAn | exact le_refl _ | refine And.intro ?_ ?_))
      all_goals first | exact zAb | exact zAi yO | exact zAm (by rw [hjt]; simp only [List.append_assoc]) | rfl
     ·have hej:j=(l.drop 1).length:=by simp only [decide_eq_false_iff_not,zAz] at g7; omega
      subst hej
      have hne:l.getD 0 [] ++ zF1 (l.drop 1)≠[]:=by
       intro e
       have:=congrArg List.length e
       simp only [List.length_append,zRp,List.length_nil] at this
       omega
      rw [hjoin]
      have htd:(l.drop 1).take (l.length - 1)=l.drop 1:=List.take_of_length_le (by simp)
      have hjl:=zRp (l.drop 1)
      try simp only [go_sem,htd]
      repeat with_reducible refine zAc ?_
      refine zP6 yF (by decide) yR (yFD b _ hne (by rw [List.length_append]; omega)) ?_
      try simp only [go_sem]
      repeat with_reducible refine zAc ?_
      exact zAq rfl trivial (.inl rfl)
  ·cases g3
end Go.Hx
end

section
set_option maxRecDepth 100000
set_option linter.unusedSimpArgs false
namespace Go.Hx
open Go.Proofs Go.RowKit
attribute [local instance] zBi
attribute [local go_sem] zAC zAz zAB zAw ndV zAx zAv
attribute [local go_sem] reduceCtorEq Nat.reduceAdd Nat.reduceEqDiff reduceIte Nat.reduceLeDiff Nat.reduceLT Nat.reduceSub
def zDH (a:Bys):Bys:=if a=[] then [42] else a
set_option maxHeartbeats 4000000 in
theorem yBM (a:Bys):Contract Tryz.prog zDX [.val (.one (.sl 1 [[bS a],[bS [42]]]))] { res:=.val (sv (zDH a)) }:=by
 refine mkA zNI (base:=0) (fo rfl) (fun hfit=>?_)
 unfold F0 zGC
 simp only [yIn,Nat.reduceAdd,Nat.reduceSub]
 try simp only [go_sem]
 repeat with_reducible refine zAc ?_
 refine zAr (fun i:Nat=>[(8,.pv (iv i)),(2,.un),(5,.un),(9,.un),(14,.un)]) (fun i:Nat=>2 - i) (fun i:Nat=>i≤2∧(1≤i→a=[])∧i≠2) (0) ?_ ⟨Nat.zero_le _,fun h=>by omega,by omega⟩ ?_
 focus (simp only [go_sem,zAf,zAl,zAs,zAb]; all_goals exact yLe)
 rintro i ⟨hi,ha,h2⟩
 rcases (by omega:i=0∨i=1) with rfl | rfl
 ·try simp only [go_sem,List.getD_cons_zero,List.length_cons,List.length_nil]
  repeat with_reducible refine zAc ?_
  refine zAa yF trivial (fun g1=>?_) (fun g1=>?_)
  ·try simp only [go_sem,List.getD_cons_zero,List.length_cons,List.length_nil]
   repeat with_reducible refine zAc ?_
   refine zAa yF trivial (fun g2=>?_) (fun g2=>?_)
   ·have hne:a≠[]:=by simpa using g2
    have e:zDH a=a:=by unfold zDH; rw [if_neg hne]
    rw [e]
    try simp only [go_sem]
    repeat with_reducible refine zAc ?_
    exact zAq rfl trivial (.inl rfl)
   ·have hne:a=[]:=by simpa using g2
    try simp only [go_sem]
    repeat with_reducible refine zAc ?_
    refine ⟨1,by omega,⟨by omega,fun _=>hne,by omega⟩,?_⟩
    simp only [go_sem,zAf,zAl,zAs,zAb]
    all_goals exact yLe
  ·simp at g1
 ·have hne:=ha yO
  subst hne
  try simp only [go_sem,List.getD_cons_zero,List.getD_cons_succ,List.length_cons,List.length_nil]
  repeat with_reducible refine zAc ?_
  refine zAa yF trivial (fun g1=>?_) (fun g1=>?_)
  ·try simp only [go_sem,List.getD_cons_zero,List.getD_cons_succ,List.length_cons,List.length_nil]
   repeat with_reducible refine zAc ?_
   refine zAa yF trivial (fun g2=>?_) (fun g2=>?_)
   ·try simp only [go_sem]
    repeat with_reducible refine zAc ?_
    exact zAq rfl trivial (.inl rfl)
   ·simp at g2
  ·simp at g1
set_option maxHeartbeats 16000000 in
theorem yAM (d:Nat) (hd:1≤d) (hL:∀ l:List Pt,GL l (d+1)→Contract Tryz.prog zCw [.val (zBf l)] { res:=.val (sv (zG6 l)) }) (t:Ts) (ht:GT t d):Contract Tryz.prog zEU [.val (.agg (tsV t))] { res:=.val (sv (zSj t)) }:=by
 have hm0:maxLen=9223372036854775807:=rfl
 obtain ⟨k,n,v,a,b,l⟩:=t
 obtain ⟨h1,h2,h3,h4,h5,h6⟩:=ht.parts
 have hkk:=yH1 h1
 have hn:n.length≤12:=by
  split at h2
  ·exact zG7 h2
  ·rw [h2]; simp
 have hv:v.length≤16:=by
  split at h3
  ·exact zHQ h3
  ·rw [h3]; simp
 have ho:=yBH k
 have hsg:=yBI k
 have hnt:=zWI h5
 rw [zDt]
 have ets:tsV (.mk k n v a b l)=[bI k,bS n,bS v,bI a,bI b,.sl 2 (zFl l)]:=rfl
 rw [ets]
 refine mkA zYs (base:=0) (fo rfl) (fun hfit=>?_)
 unfold F0 zQ1
 simp only [yIn,Nat.reduceAdd,Nat.reduceSub]
 try simp only [go_sem]
 repeat with_reducible refine zAc ?_
 rcases hkk with hk | hk | hk | hk | hk | hk | hk | hk
 ·rw [if_pos hk]
  refine zAa yF trivial (fun q0=>?_) (fun q0=>?_)
  ·try simp only [go_sem]
   repeat with_reducible refine zAc ?_
   exact zAq rfl trivial (.inl rfl)
  ·exfalso; rw [beq_eq_false_iff_ne] at q0; omega
 ·rw [if_neg yO,if_pos hk]
  refine zAa yF trivial (fun q0=>?_) (fun q0=>?_)
  ·exfalso; simp only [beq_iff_eq] at q0; omega
  ·try simp only [go_sem]
   repeat with_reducible refine zAc ?_
   refine zAa yF trivial (fun q1=>?_) (fun q1=>?_)
   ·try simp only [go_sem]
    repeat with_reducible refine zAc ?_
    exact zAq rfl trivial (.inl rfl)
   ·exfalso; rw [beq_eq_false_iff_ne] at q1; omega
 ·rw [if_neg yO,if_neg yO,if_pos hk]
  refine zAa yF trivial (fun q0=>?_) (fun q0=>?_)
  ·exfalso; simp only [beq_iff_eq] at q0; omega
  ·try simp only [go_sem]
   repeat with_reducible refine zAc ?_
   refine zAa yF trivial (fun q1=>?_) (fun q1=>?_)
   ·exfalso; simp only [beq_iff_eq] at q1; omega
   ·try simp only [go_sem]
    repeat with_reducible refine zAc ?_
    refine zAa yF trivial (fun q2=>?_) (fun q2=>?_)
    ·try simp only [go_sem]
     repeat with_reducible refine zAc ?_
     exact zAq rfl trivial (.inl rfl)
    ·exfalso; rw [beq_eq_false_iff_ne] at q2; omega
 ·rw [if_neg yO,if_neg yO,if_neg yO,if_pos hk]
  refine zAa yF trivial (fun q0=>?_) (fun q0=>?_)
  ·exfalso; simp only [beq_iff_eq] at q0; omega
  ·try simp only [go_sem]
   repeat with_reducible refine zAc ?_
   refine zAa yF trivial (fun q1=>?_) (fun q1=>?_)
   ·exfalso; simp only [beq_iff_eq] at q1; omega
   ·try simp only [go_sem]
    repeat with_reducible refine zAc ?_
    refine zAa yF trivial (fun q2=>?_) (fun q2=>?_)
    ·exfalso; simp only [beq_iff_eq] at q2; omega
    ·try simp only [go_sem]
     repeat with_reducible refine zAc ?_
     refine zAa yF trivial (fun q3=>?_) (fun q3=>?_)
     ·exfalso; simp only [beq_iff_eq] at q3; omega
     ·try simp only [go_sem]
      repeat with_reducible refine zAc ?_
      refine zAa yF trivial (fun q4=>?_) (fun q4=>?_)
      ·exfalso; simp only [beq_iff_eq] at q4; omega
      ·try simp only [go_sem]
       repeat with_reducible refine zAc ?_
       refine zAa yF trivial (fun q5=>?_) (fun q5=>?_)
       ·exfalso; simp only [beq_iff_eq] at q5; omega
       ·try simp only [go_sem]
        repeat with_reducible refine zAc ?_
        refine zAa yF trivial (fun q6=>?_) (fun q6=>?_)
        ·exfalso; simp only [beq_iff_eq] at q6; omega
        ·try simp only [go_sem]
         repeat with_reducible refine zAc ?_
         refine zAa yF trivial (fun q7=>?_) (fun q7=>?_)
         ·exfalso; simp only [beq_iff_eq] at q7; omega
         ·try simp only [go_sem]
          repeat with_reducible refine zAc ?_
          refine zAa yF trivial (fun q8=>?_) (fun q8=>?_)
          ·exfalso; simp only [beq_iff_eq] at q8; omega
          ·try simp only [go_sem]
           repeat with_reducible refine zAc ?_
           refine zAa yF trivial (fun q9=>?_) (fun q9=>?_)
           ·exfalso; simp only [beq_iff_eq] at q9; omega
           ·try simp only [go_sem]
            repeat with_reducible refine zAc ?_
            try simp only [go_sem]
            repeat with_reducible refine zAc ?_
            refine zAd yR (yEp k hk) ?_
            try simp only [go_sem]
            repeat with_reducible refine zAc ?_
            refine zAq rfl trivial (.inl ?_)
            simp only [List.cons_append,List.append_assoc,List.nil_append]
 ·rw [if_neg yO,if_neg yO,if_neg yO,if_neg yO,if_pos hk]
  have hko:k=9∨k=10∨k=13∨k=14∨k=15:=by omega
  have hns:=zUl a b
  rw [if_pos h5,h5] at hns
  rcases hk with hk | hk
  ·refine zAa yF trivial (fun q0=>?_) (fun q0=>?_)
   ·exfalso; simp only [beq_iff_eq] at q0; omega
   ·try simp only [go_sem]
    repeat with_reducible refine zAc ?_
    refine zAa yF trivial (fun q1=>?_) (fun q1=>?_)
    ·exfalso; simp only [beq_iff_eq] at q1; omega
    ·try simp only [go_sem]
     repeat with_reducible refine zAc ?_
     refine zAa yF trivial (fun q2=>?_) (fun q2=>?_)
     ·exfalso; simp only [beq_iff_eq] at q2; omega
     ·try simp only [go_sem]
      repeat with_reducible refine zAc ?_
      refine zAa yF trivial (fun q3=>?_) (fun q3=>?_)
      ·try simp only [go_sem]
       repeat with_reducible refine zAc ?_
       refine zAa yF trivial (fun q3b=>?_) (fun q3b=>?_)
       ·try simp only [go_sem]
        repeat with_reducible refine zAc ?_
        refine zAE yR (hns) ?_
        try simp only [go_sem]
        repeat with_reducible refine zAc ?_
        refine zAd yR (zGK k hko) ?_
        try simp only [go_sem]
        repeat with_reducible refine zAc ?_
        exact zAq rfl trivial (.inl (by simp only [List.append_assoc]))
       ·exfalso; rw [beq_eq_false_iff_ne] at q3b; omega
      ·exfalso; rw [beq_eq_false_iff_ne] at q3; omega
  ·refine zAa yF trivial (fun q0=>?_) (fun q0=>?_)
   ·exfalso; simp only [beq_iff_eq] at q0; omega
   ·try simp only [go_sem]
    repeat with_reducible refine zAc ?_
    refine zAa yF trivial (fun q1=>?_) (fun q1=>?_)
    ·exfalso; simp only [beq_iff_eq] at q1; omega
    ·try simp only [go_sem]
     repeat with_reducible refine zAc ?_
     refine zAa yF trivial (fun q2=>?_) (fun q2=>?_)
     ·exfalso; simp only [beq_iff_eq] at q2; omega
     ·try simp only [go_sem]
      repeat with_reducible refine zAc ?_
      refine zAa yF trivial (fun q3=>?_) (fun q3=>?_)
      ·exfalso; simp only [beq_iff_eq] at q3; omega
      ·try simp only [go_sem]
       repeat with_reducible refine zAc ?_
       refine zAa yF trivial (fun q4=>?_) (fun q4=>?_)
       ·try simp only [go_sem]
        repeat with_reducible refine zAc ?_
        refine zAE yR (hns) ?_
        try simp only [go_sem]
        repeat with_reducible refine zAc ?_
        refine zAd yR (zGK k hko) ?_
        try simp only [go_sem]
        repeat with_reducible refine zAc ?_
        exact zAq rfl trivial (.inl (by simp only [List.append_assoc]))
       ·exfalso; rw [beq_eq_false_iff_ne] at q4; omega
 ·rw [if_neg yO,if_neg yO,if_neg yO,if_neg yO,if_neg yO,if_pos hk]
  refine zAa yF trivial (fun q0=>?_) (fun q0=>?_)
  ·exfalso; simp only [beq_iff_eq] at q0; omega
  ·try simp only [go_sem]
   repeat with_reducible refine zAc ?_
   refine zAa yF trivial (fun q1=>?_) (fun q1=>?_)
   ·exfalso; simp only [beq_iff_eq] at q1; omega
   ·try simp only [go_sem]
    repeat with_reducible refine zAc ?_
    refine zAa yF trivial (fun q2=>?_) (fun q2=>?_)
    ·exfalso; simp only [beq_iff_eq] at q2; omega
    ·try simp only [go_sem]
     repeat with_reducible refine zAc ?_
     refine zAa yF trivial (fun q3=>?_) (fun q3=>?_)
     ·exfalso; simp only [beq_iff_eq] at q3; omega
     ·try simp only [go_sem]
      repeat with_reducible refine zAc ?_
      refine zAa yF trivial (fun q4=>?_) (fun q4=>?_)
      ·exfalso; simp only [beq_iff_eq] at q4; omega
      ·try simp only [go_sem]
       repeat with_reducible refine zAc ?_
       refine zAa yF trivial (fun q5=>?_) (fun q5=>?_)
       ·try simp only [go_sem]
        repeat with_reducible refine zAc ?_
        exact zAq rfl trivial (.inl rfl)
       ·exfalso; rw [beq_eq_false_iff_ne] at q5; omega
 ·rw [if_neg yO,if_neg yO,if_neg yO,if_neg yO,if_neg yO,if_neg yO,if_pos hk]
  refine zAa yF trivial (fun q0=>?_) (fun q0=>?_)
  ·exfalso; simp only [beq_iff_eq] at q0; omega
  ·try simp only [go_sem]
   repeat with_reducible refine zAc ?_
   refine zAa yF trivial (fun q1=>?_) (fun q1=>?_)
   ·exfalso; simp only [beq_iff_eq] at q1; omega
   ·try simp only [go_sem]
    repeat with_reducible refine zAc ?_
    refine zAa yF trivial (fun q2=>?_) (fun q2=>?_)
    ·exfalso; simp only [beq_iff_eq] at q2; omega
    ·try simp only [go_sem]
     repeat with_reducible refine zAc ?_
     refine zAa yF trivial (fun q3=>?_) (fun q3=>?_)
     ·exfalso; simp only [beq_iff_eq] at q3; omega
     ·try simp only [go_sem]
      repeat with_reducible refine zAc ?_
      refine zAa yF trivial (fun q4=>?_) (fun q4=>?_)
      ·exfalso; simp only [beq_iff_eq] at q4; omega
      ·try simp only [go_sem]
       repeat with_reducible refine zAc ?_
       refine zAa yF trivial (fun q5=>?_) (fun q5=>?_)
       ·exfalso; simp only [beq_iff_eq] at q5; omega
       ·try simp only [go_sem]
        repeat with_reducible refine zAc ?_
        refine zAa yF trivial (fun q6=>?_) (fun q6=>?_)
        ·try simp only [go_sem]
         repeat with_reducible refine zAc ?_
         exact zAq rfl trivial (.inl rfl)
        ·exfalso; rw [beq_eq_false_iff_ne] at q6; omega
 ·have hko:k=9∨k=10∨k=13∨k=14∨k=15:=by omega
  rw [if_pos yO] at h6
  have hl:=hL l h6
  have hlen:=yIj (d:=d+1) yO h6
  have hll:(zAH l true).length=(zG6 l).length:=rfl
  rw [if_neg yO,if_neg yO,if_neg yO,if_neg yO,if_neg yO,if_neg yO,if_neg yO]
  refine zAa yF trivial (fun q0=>?_) (fun q0=>?_)
  ·exfalso; simp only [beq_iff_eq] at q0; omega
  ·try simp only [go_sem]
   repeat with_reducible refine zAc ?_
   refine zAa yF trivial (fun q1=>?_) (fun q1=>?_)
   ·exfalso; simp only [beq_iff_eq] at q1; omega
   ·try simp only [go_sem]
    repeat with_reducible refine zAc ?_
    refine zAa yF trivial (fun q2=>?_) (fun q2=>?_)
    ·exfalso; simp only [beq_iff_eq] at q2; omega
    ·try simp only [go_sem]
     repeat with_reducible refine zAc ?_
     refine zAa yF trivial (fun q3=>?_) (fun q3=>?_)
     ·exfalso; simp only [beq_iff_eq] at q3; omega
     ·try simp only [go_sem]
      repeat with_reducible refine zAc ?_
      refine zAa yF trivial (fun q4=>?_) (fun q4=>?_)
      ·exfalso; simp only [beq_iff_eq] at q4; omega
      ·try simp only [go_sem]
       repeat with_reducible refine zAc ?_
       refine zAa yF trivial (fun q5=>?_) (fun q5=>?_)
       ·exfalso; simp only [beq_iff_eq] at q5; omega
       ·try simp only [go_sem]
        repeat with_reducible refine zAc ?_
        refine zAa yF trivial (fun q6=>?_) (fun q6=>?_)
        ·exfalso; simp only [beq_iff_eq] at q6; omega
        ·try simp only [go_sem]
         repeat with_reducible refine zAc ?_
         rcases hk with hk | hk | hk
         ·refine zAa yF trivial (fun q7=>?_) (fun q7=>?_)
          ·try simp only [go_sem]
           repeat with_reducible refine zAc ?_
           refine zAa yF trivial (fun q7b=>?_) (fun q7b=>?_)
           ·try simp only [go_sem]
            repeat with_reducible refine zAc ?_
            refine zAd yR (zGK k hko) ?_
            try simp only [go_sem]
            repeat with_reducible refine zAc ?_
            refine zAd yR (hl) ?_
            try simp only [go_sem]
            repeat with_reducible refine zAc ?_
            exact zAq rfl trivial (.inl (by simp only [List.append_assoc]))
           ·exfalso; rw [beq_eq_false_iff_ne] at q7b; omega
          ·exfalso; rw [beq_eq_false_iff_ne] at q7; omega
         ·refine zAa yF trivial (fun q7=>?_) (fun q7=>?_)
          ·exfalso; simp only [beq_iff_eq] at q7; omega
          ·try simp only [go_sem]
           repeat with_reducible refine zAc ?_
           refine zAa yF trivial (fun q8=>?_) (fun q8=>?_)
           ·try simp only [go_sem]
            repeat with_reducible refine zAc ?_
            refine zAa yF trivial (fun q8b=>?_) (fun q8b=>?_)
            ·try simp only [go_sem]
             repeat with_reducible refine zAc ?_
             refine zAd yR (zGK k hko) ?_
             try simp only [go_sem]
             repeat with_reducible refine zAc ?_
             refine zAd yR (hl) ?_
             try simp only [go_sem]
             repeat with_reducible refine zAc ?_
             exact zAq rfl trivial (.inl (by simp only [List.append_assoc]))
            ·exfalso; rw [beq_eq_false_iff_ne] at q8b; omega
           ·exfalso; rw [beq_eq_false_iff_ne] at q8; omega
         ·refine zAa yF trivial (fun q7=>?_) (fun q7=>?_)
          ·exfalso; simp only [beq_iff_eq] at q7; omega
          ·try simp only [go_sem]
           repeat with_reducible refine zAc ?_
           refine zAa yF trivial (fun q8=>?_) (fun q8=>?_)
           ·exfalso; simp only [beq_iff_eq] at q8; omega
           ·try simp only [go_sem]
            repeat with_reducible refine zAc ?_
            refine zAa yF trivial (fun q9=>?_) (fun q9=>?_)
            ·try simp only [go_sem]
             repeat with_reducible refine zAc ?_
             refine zAd yR (zGK k hko) ?_
             try simp only [go_sem]
             repeat with_reducible refine zAc ?_
             refine zAd yR (hl) ?_
             try simp only [go_sem]
             repeat with_reducible refine zAc ?_
             exact zAq rfl trivial (.inl (by simp only [List.append_assoc]))
            ·exfalso; rw [beq_eq_false_iff_ne] at q9; omega
end Go.Hx
end

section
set_option maxRecDepth 100000
set_option linter.unusedSimpArgs false
namespace Go.Hx
open Go.Proofs Go.RowKit
attribute [local instance] zBi
attribute [local go_sem] zAC zAz zAB zAw ndV zAx zAv zBW zBb zA7 zBB zBh zBk
attribute [local go_sem] reduceCtorEq Nat.reduceAdd Nat.reduceEqDiff reduceIte Nat.reduceLeDiff Nat.reduceLT Nat.reduceSub
theorem zRq:∀ (st:List St) (lk:List Int) (j:Nat),j<st.length→zAX (st.take (j+1)) lk false=zAX (st.take j) lk false ++ (zGf (lk.getD j 0) ++ zMr (st.getD j default))
 |[],lk,j,h=>by simp at h
 |x :: r,lk,0,h=>by cases lk <;> simp [zAX]
 |x :: r,lk,j+1,h=>by
  have ih:=zRq r lk.tail j (by simpa using h)
  have:lk.tail.getD j 0=lk.getD (j+1) 0:=by cases lk <;> simp
  rw [this] at ih
  simp only [List.take_succ_cons,zAX,ih,List.getD_cons_succ,List.append_assoc]
theorem zLS (st:List St) (lk:List Int) (j:Nat) (h:j<st.length):zAX (st.take (j+1)) lk true=zAX (st.take j) lk true ++ ((if j=0 then [] else zGf (lk.getD (j - 1) 0)) ++ zMr (st.getD j default)):=by
 match st,j,h with
 |x :: r,0,h=>simp [zAX]
 |x :: r,j+1,h=>
  have ih:=zRq r lk j (by simpa using h)
  simp only [List.take_succ_cons,zAX,ih,List.getD_cons_succ,List.append_assoc]
  rfl
theorem zUu:∀ (st:List St) (lk:List Int) (j:Nat),(zAX (st.take j) lk false).length≤(zAX st lk false).length
 |[],lk,j=>by simp
 |x :: r,lk,0=>by simp [zAX]
 |x :: r,lk,j+1=>by
  have ih:=zUu r lk.tail j
  simp only [List.take_succ_cons,zAX,List.length_append]
  omega
theorem zFp (st:List St) (lk:List Int) (j:Nat):(zAX (st.take j) lk true).length≤(zAX st lk true).length:=by
 match st,j with
 |[],j=>simp
 |x :: r,0=>simp [zAX]
 |x :: r,j+1=>
  have ih:=zUu r lk j
  simp only [List.take_succ_cons,zAX,List.length_append]
  omega
theorem zY2 (a b:List Ts):zA8 (a ++ b)=zA8 a ++ zA8 b:=by
 induction a with
 |nil=>simp [zA8]
 |cons x r ih=>simp only [List.cons_append,zA8,ih,List.append_assoc]
theorem zCo (l:List Ts) (m:Nat) (h:m<l.length):zA8 (l.take (m+1))=zA8 (l.take m) ++ zSj (l.getD m default):=by
 rw [zPy l m default h,zY2]; simp [zA8]
theorem zA6 (l:List Ts) (m:Nat):(zA8 (l.take m)).length≤(zA8 l).length:=by
 conv=>rhs; rw [← List.take_append_drop m l]
 rw [zY2,List.length_append]; omega
theorem yCZ:∀ l:List Pt,zAH l true=zYY (l.map zKG)
 |[]=>by simp [zAH,zYY]
 |p :: r=>by
  have:∀ r:List Pt,zAH r false=zF1 (r.map zKG):=by
   intro r
   induction r with
   |nil=>simp [zAH,zF1]
   |cons q r ih=>
    simp only [zAH,ih,zF1,List.map_cons,List.flatten_cons]
    simp
  simp only [zAH,zYY,List.map_cons,this]
  simp
theorem zRr (p:Pt):zKG p=zAX p.steps p.links true:=by cases p; rw [zKG]; rfl
theorem yAN (x:St):zMr x=zDH x.tag ++ zA8 x.tests:=by cases x; rw [zMr]; rfl
theorem yH5 {n:Int} (h:1≤n∧n≤4):([bS [],bS [32],bS [32,62,32],bS [32,43,32],bS [32,126,32]]:List PV).getD n.toNat (.nl 0)=bS (zGf n):=by
 rcases (by omega:n=1∨n=2∨n=3∨n=4) with rfl | rfl | rfl | rfl <;> rfl
set_option maxHeartbeats 16000000 in
theorem yAO (d:Nat) (hd:1≤d) (hT:∀ t:Ts,GT t d→Contract Tryz.prog zEU [.val (.agg (tsV t))] { res:=.val (sv (zSj t)) }) (l:List Pt) (hl:GL l d):Contract Tryz.prog zCw [.val (zBf l)] { res:=.val (sv (zG6 l)) }:=by
 have hm0:maxLen=9223372036854775807:=rfl
 have hl5:=hl.2.2.1
 have hl1:=hl.2.1
 have hlen:=yIj hd hl
 have hLE:zG6 l=zYY (l.map zKG):=yCZ l
 unfold zBf
 refine mkA zYD (base:=0) (fo rfl) (fun hfit=>?_)
 unfold F0 zQ2
 simp only [yIn,Nat.reduceAdd,Nat.reduceSub]
 try simp only [go_sem]
 repeat with_reducible refine zAc ?_
 refine zAr (fun i:Nat=>[(3,.own zFh 1 (zZP ((l.take i).map zKG))),(13,.pv (iv i)),(5,.un),(6,.un),(7,.un),(8,.un),(10,.un),(14,.un),(18,.un),(19,.un),(20,.un),(21,.un),(26,.un),(44,.un),(45,.un),(46,.un),(47,.un),(63,.un),(64,.un),(65,.un),(66,.un),(67,.un),(68,.un),(69,.un),(70,.un),(71,.un),(72,.un)]) (fun i:Nat=>l.length - i) (fun i:Nat=>i≤l.length) (0) ?_ (Nat.zero_le _) ?_
 focus (simp only [go_sem,zAf,zAl,zAs,zAb]; all_goals (repeat' (first | exact trivial | exact zAi yO | exact zAh rfl | exact zAm rfl | exact zAn | exact le_refl _ | refine And.intro ?_ ?_)))
 intro i hi
 try simp only [go_sem]
 repeat with_reducible refine zAc ?_
 refine zAa yF trivial (fun g0=>?_) (fun g0=>?_)
 ·have hlt:i<l.length:=by simp at g0; omega
  obtain ⟨p,hp⟩:∃ p,p=l.getD i default:=⟨_,rfl⟩
  have hG:=GPs.get hl.2.2.2 i hlt
  have hpv:=zB5 l i hlt
  rw [← hp] at hG hpv
  obtain ⟨p1,p2,p3,p4,p5⟩:=hG.parts'
  have hpl:=yLc p d hd hG
  have htb:tB d≤1229192:=by
   unfold tB
   split
   ·omega
   ·split <;> omega
  rw [zRr] at hpl
  try simp only [go_sem,hpv]
  repeat with_reducible refine zAc ?_
  refine zAr (fun j:Nat=>[(6,.pv (sv (zAX (p.steps.take j) p.links true))),(20,.pv (iv j)),(7,.un),(8,.un),(10,.un),(21,.un),(26,.un),(44,.un),(45,.un),(46,.un),(47,.un),(65,.un),(66,.un),(67,.un),(68,.un),(69,.un),(70,.un),(71,.un),(72,.un)]) (fun j:Nat=>p.steps.length - j) (fun j:Nat=>j≤p.steps.length) (0) ?_ (Nat.zero_le _) ?_
  focus (simp only [go_sem,zAf,zAl,zAs,zAb]; all_goals (repeat' (first | exact trivial | exact zAi yO | exact zAh rfl | exact zAm rfl | exact zAn | exact le_refl _ | refine And.intro ?_ ?_)))
  intro j hj
  have hpre:=zFp p.steps p.links j
  try simp only [go_sem]
  repeat with_reducible refine zAc ?_
  refine zAa yF trivial (fun g1=>?_) (fun g1=>?_)
  ·have hjl:j<p.steps.length:=by simp at g1; omega
   have hst:=zLS p.steps p.links j hjl
   have hpre1:=zFp p.steps p.links (j+1)
   rw [hst] at hpre1
   obtain ⟨x,hx⟩:∃ x,x=p.steps.getD j default:=⟨_,rfl⟩
   have hGs:=GSs.get p5 j hjl
   have hsv:=zC1 p.steps j hjl
   rw [← hx] at hGs hsv hst hpre1
   rw [yAN] at hst hpre1
   obtain ⟨x1,x2⟩:=hGs.parts'
   simp only [List.length_append] at hpre1
   try simp only [go_sem,hsv]
   repeat with_reducible refine zAc ?_
   refine zAa yF trivial (fun g2=>?_) (fun g2=>?_)
   ·have hj1:1≤j:=by simp at g2; omega
    have hjn:((j:Int) - 1).toNat=j - 1:=by omega
    have hlj:j - 1<p.links.length:=by omega
    have hin:=p4 _ (List.getElem_mem hlj)
    have hge:p.links[j - 1]=p.links.getD (j - 1) 0:=by simp [List.getD_eq_getElem?_getD,hlj]
    rw [hge] at hin
    obtain ⟨n,hn⟩:∃ n,n=p.links.getD (j - 1) 0:=⟨_,rfl⟩
    have hir:=zEj p.links (j - 1) hlj
    rw [← hn] at hin hir hst hpre1
    have hix:=yH5 hin
    rw [if_neg yO] at hst hpre1
    try simp only [go_sem]
    repeat with_reducible refine zAc ?_
    refine zAd yR (zJA) ?_
    try simp only [go_sem,hjn,hir,hix,List.length_cons,List.length_nil]
    repeat with_reducible refine zAc ?_
    refine zAd yR (yBM x.tag) ?_
    try simp only [go_sem]
    repeat with_reducible refine zAc ?_
    refine zAr (fun m:Nat=>[(6,.pv (sv (zAX (p.steps.take j) p.links true ++ zGf n ++ zDH x.tag ++ zA8 (x.tests.take m)))),(46,.pv (iv m)),(10,.un),(47,.un),(67,.un),(68,.un),(69,.un),(70,.un),(71,.un),(72,.un)]) (fun m:Nat=>x.tests.length - m) (fun m:Nat=>m≤x.tests.length) (0) ?_ (Nat.zero_le _) ?_
    focus (simp only [go_sem,zAf,zAl,zAs,zAb]; all_goals (repeat' (first | exact trivial | exact zAi yO | exact zAh rfl | exact zAm rfl | exact zAn | exact le_refl _ | refine And.intro ?_ ?_)))
    ·exact zAm (by simp [zA8])
    intro m hm
    have hpt:=zA6 x.tests m
    try simp only [go_sem]
    repeat with_reducible refine zAc ?_
    refine zAa yF trivial (fun g3=>?_) (fun g3=>?_)
    ·have hml:m<x.tests.length:=by simp at g3; omega
     have htt:=zCo x.tests m hml
     have hpt1:=zA6 x.tests (m+1)
     have htv:=zBz x.tests m hml
     have hGt:=GTs.get x2 m hml
     obtain ⟨t,ht⟩:∃ t,t=x.tests.getD m default:=⟨_,rfl⟩
     rw [← ht] at htt htv hGt
     have hc:=hT t hGt
     rw [zBk] at hc htv
     have hll:=congrArg List.length htt
     rw [List.length_append] at hll
     try simp only [go_sem,htv]
     repeat with_reducible refine zAc ?_
     refine zAd yR (hc) ?_
     try simp only [go_sem,List.length_append]
     repeat with_reducible refine zAc ?_
     refine ⟨m+1,by omega,by omega,?_⟩
     simp only [go_sem,zAf,zAl,zAs,zAb]
     all_goals (repeat' (first | exact trivial | exact zAi yO | exact zAh rfl | exact zAm rfl | exact zAn | exact le_refl _ | refine And.intro ?_ ?_))
     all_goals first | exact zAb | exact zAi yO | exact zAm (by rw [htt]; simp only [List.append_assoc]) | rfl
    ·have hme:m=x.tests.length:=by simp at g3; omega
     subst hme
     try simp only [go_sem]
     repeat with_reducible refine zAc ?_
     refine ⟨j+1,by omega,by omega,?_⟩
     simp only [go_sem,zAf,zAl,zAs,zAb]
     all_goals (repeat' (first | exact trivial | exact zAi yO | exact zAh rfl | exact zAm rfl | exact zAn | exact le_refl _ | refine And.intro ?_ ?_))
     all_goals first | exact zAb | exact zAi yO | exact zAm (by rw [hst,List.take_length]; simp only [List.append_assoc,List.nil_append]) | rfl
   ·have hj0:j=0:=by simp at g2; omega
    rw [if_pos hj0] at hst hpre1
    try simp only [go_sem]
    repeat with_reducible refine zAc ?_
    refine zAd yR (yBM x.tag) ?_
    try simp only [go_sem]
    repeat with_reducible refine zAc ?_
    refine zAr (fun m:Nat=>[(6,.pv (sv (zAX (p.steps.take j) p.links true ++ zDH x.tag ++ zA8 (x.tests.take m)))),(46,.pv (iv m)),(10,.un),(47,.un),(67,.un),(68,.un),(69,.un),(70,.un),(71,.un),(72,.un)]) (fun m:Nat=>x.tests.length - m) (fun m:Nat=>m≤x.tests.length) (0) ?_ (Nat.zero_le _) ?_
    focus (simp only [go_sem,zAf,zAl,zAs,zAb]; all_goals (repeat' (first | exact trivial | exact zAi yO | exact zAh rfl | exact zAm rfl | exact zAn | exact le_refl _ | refine And.intro ?_ ?_)))
    ·exact zAm (by simp [zA8])
    intro m hm
    have hpt:=zA6 x.tests m
    try simp only [go_sem]
    repeat with_reducible refine zAc ?_
    refine zAa yF trivial (fun g3=>?_) (fun g3=>?_)
    ·have hml:m<x.tests.length:=by simp at g3; omega
     have htt:=zCo x.tests m hml
     have hpt1:=zA6 x.tests (m+1)
     have htv:=zBz x.tests m hml
     have hGt:=GTs.get x2 m hml
     obtain ⟨t,ht⟩:∃ t,t=x.tests.getD m default:=⟨_,rfl⟩
     rw [← ht] at htt htv hGt
     have hc:=hT t hGt
     rw [zBk] at hc htv
     have hll:=congrArg List.length htt
     rw [List.length_append] at hll
     try simp only [go_sem,htv]
     repeat with_reducible refine zAc ?_
     refine zAd yR (hc) ?_
     try simp only [go_sem,List.length_append]
     repeat with_reducible refine zAc ?_
     refine ⟨m+1,by omega,by omega,?_⟩
     simp only [go_sem,zAf,zAl,zAs,zAb]
     all_goals (repeat' (first | exact trivial | exact zAi yO | exact zAh rfl | exact zAm rfl | exact zAn | exact le_refl _ | refine And.intro ?_ ?_))
     all_goals first | exact zAb | exact zAi yO | exact zAm (by rw [htt]; simp only [List.append_assoc]) | rfl
    ·have hme:m=x.tests.length:=by simp at g3; omega
     subst hme
     try simp only [go_sem]
     repeat with_reducible refine zAc ?_
     refine ⟨j+1,by omega,by omega,?_⟩
     simp only [go_sem,zAf,zAl,zAs,zAb]
     all_goals (repeat' (first | exact trivial | exact zAi yO | exact zAh rfl | exact zAm rfl | exact zAn | exact le_refl _ | refine And.intro ?_ ?_))
     all_goals first | exact zAb | exact zAi yO | exact zAm (by rw [hst,List.take_length]; simp only [List.append_assoc,List.nil_append]) | rfl
  ·have hje:j=p.steps.length:=by simp at g1; omega
   subst hje
   try simp only [go_sem,List.take_length,List.length_map,List.length_take]
   repeat with_reducible refine zAc ?_
   refine ⟨i+1,by omega,by omega,?_⟩
   simp only [go_sem,zAf,zAl,zAs,zAb]
   all_goals (repeat' (first | exact trivial | exact zAi yO | exact zAh rfl | exact zAm rfl | exact zAn | exact le_refl _ | refine And.intro ?_ ?_))
   all_goals first | exact zAb | exact zAi yO | exact zB7 (by rw [zPy l i default hlt,← hp]; simp [zZP,zRr]) | rfl
 ·have hie:i=l.length:=by simp at g0; omega
  subst hie
  have hsum:∀ q:List Pt,zTG (q.map zKG)≤(zAH q false).length:=by
   intro q
   induction q with
   |nil=>simp [zTG]
   |cons a r ih=>
    simp only [zTG,List.map_cons,List.sum_cons,zAH,List.length_append] at ih ⊢
    omega
  have hs1:=hsum l
  have hs2:=yFV l false d hd hl.2.2.2
  have htb:tB d≤1229192:=by
   unfold tB
   split
   ·omega
   ·split <;> omega
  have hs3:l.length * (5 * (15+6 * tB d)+2)≤5 * (5 * (15+6 * tB d)+2):=Nat.mul_le_mul_right _ hl5
  rw [hLE]
  try simp only [go_sem,List.take_length]
  repeat with_reducible refine zAc ?_
  refine zAd yR (zTH (l.map zKG) (by rw [List.length_map]; omega) (by rw [List.length_map]; omega) yO) ?_
  try simp only [go_sem]
  repeat with_reducible refine zAc ?_
  exact zAq rfl trivial (.inl rfl)
theorem zY3:∀ n d:Nat,1≤d→d+n=4→(∀ l:List Pt,GL l d→Contract Tryz.prog zCw [.val (zBf l)] { res:=.val (sv (zG6 l)) })
 |0,d,hd,hn=>fun l hl=>absurd hl.1 yO
 |n+1,d,hd,hn=>fun l hl=>yAO d hd (fun t ht=>yAM d hd (zY3 n (d+1) yO yO) t ht) l hl
theorem zY4 (l:List Pt) (h:zA0 l=0):Contract Tryz.prog zCw [.val (zBf l)] { res:=.val (sv (zG6 l)) }:=
 zY3 3 1 (Nat.le_refl _) rfl l (yEc h)
def zLT (l:List Pt):RV:={ res:=.tup [sv (if zA0 l=0 then zG6 l else []),iv (zA0 l)] }
theorem zRs (l:List Pt):Contract Tryz.prog zES [.val (zBf l)] (zLT l):=by
 unfold zLT
 refine mkA zYJ (base:=0) (fo rfl) (fun hfit=>?_)
 unfold F0 zQ3
 simp only [yIn,Nat.reduceAdd,Nat.reduceSub]
 try simp only [go_sem]
 repeat with_reducible refine zAc ?_
 refine zAd yR (zBC l) ?_
 try simp only [go_sem]
 repeat with_reducible refine zAc ?_
 refine zAa yF trivial (fun h1=>?_) (fun h1=>?_)
 ·have hne:¬ zA0 l=0:=by simpa using h1
  rw [if_neg hne]
  try simp only [go_sem]
  repeat with_reducible refine zAc ?_
  exact zCr (by simp) ⟨zAO rfl trivial (.inl rfl),zAO rfl trivial (.inl rfl),rfl⟩
 ·have hne:zA0 l=0:=by simpa using h1
  rw [if_pos hne]
  try simp only [go_sem]
  repeat with_reducible refine zAc ?_
  refine zAd yR (zY4 l hne) ?_
  try simp only [go_sem]
  repeat with_reducible refine zAc ?_
  exact zCr (by simp) ⟨zAO rfl trivial (.inl rfl),zAO rfl trivial (.inl (by rw [hne])),rfl⟩
end Go.Hx
end

section
set_option maxRecDepth 100000
set_option linter.unusedSimpArgs false
set_option maxHeartbeats 4000000
namespace Go.Hx
open Go.Proofs
variable [Glob]
attribute [local go_sem] zAC zAz zAB zAw ndV zAx zAv zBf zBW zBb zA7 List.nil_append
attribute [local go_sem] reduceCtorEq Nat.reduceAdd Nat.reduceEqDiff reduceIte Nat.reduceLeDiff Nat.reduceLT Nat.reduceSub
def yF0 (P:Go.Program) (N:Nat):Prop:=∀ a b:Ts,SizeOf.sizeOf a≤N→Contract P zD1 [.val (.agg (tsV a)),.val (.agg (tsV b))] { res:=.val (bv (zY6 a b)) }
theorem yAQ {N:Nat} (ih:yF0 Tryz.prog N) (a b:St) (hs:SizeOf.sizeOf a≤N):Contract Tryz.prog zD0 [.val (.agg (stV a)),.val (.agg (stV b))] { res:=.val (bv (zWV a b)) }:=by
 rw [zBh,zBh]
 refine mkA zOh (base:=0) (fo rfl) (fun hfit=>?_)
 unfold F0 zGN
 simp only [yIn,Nat.reduceAdd,Nat.reduceSub]
 try simp only [go_sem]
 repeat with_reducible refine zAc ?_
 have fl:=zWU hfit.1.2.1
 refine zAa yF trivial (fun h1=>?_) (fun h1=>?_)
 ·try simp only [go_sem]
  repeat with_reducible refine zAc ?_
  refine zAq rfl trivial (.inl ?_)
  congr 3
  rw [yBQ]
  by_cases ht:a.tag=b.tag
  ·have hl:a.tests.length≠b.tests.length:=by
    rw [ht] at h1
    simp at h1
    omega
   rw [yC0 hl,Bool.and_false]
  ·rw [beq_false_of_ne ht,Bool.false_and]
 have ht:a.tag=b.tag:=by
  cases hc:(a.tag == b.tag) with
  |true=>simpa using hc
  |false=>rw [hc] at h1; cases h1
 have hl:a.tests.length=b.tests.length:=by
  rw [ht] at h1
  simp at h1
  omega
 have hR:zWV a b=zED a.tests b.tests:=by rw [yBQ,ht,beq_self_eq_true,Bool.true_and]
 rw [hR]
 try simp only [go_sem]
 repeat with_reducible refine zAc ?_
 refine zAr (fun i:Nat=>[(5,.pv (iv i)),(4,.un),(24,.un),(38,.un)]) (fun i:Nat=>a.tests.length - i) (fun i:Nat=>i≤a.tests.length∧zED (a.tests.drop i) (b.tests.drop i)=zED a.tests b.tests) (0) ?_ ⟨Nat.zero_le _,rfl⟩ ?_
 focus (simp only [go_sem,zAf,zAl,zAs,zAb]; all_goals exact yLe)
 rintro i ⟨hi,hinv⟩
 try simp only [go_sem]
 repeat with_reducible refine zAc ?_
 refine zAa yF trivial (fun h2=>?_) (fun h2=>?_)
 ·have hil:i<a.tests.length:=by simp at h2; omega
  have hib:i<b.tests.length:=by omega
  rw [zBc (d:=default) hil,zBc (d:=default) hib,zED] at hinv
  have e1:=zBz a.tests i hil
  have e2:=zBz b.tests i hib
  rw [zBk] at e1 e2
  have h7:=ih (a.tests.getD i default) (b.tests.getD i default) (by have:=yCJ hil; have:=zG4 a; omega)
  rw [zBk,zBk] at h7
  try simp only [go_sem,e1,e2]
  repeat with_reducible refine zAc ?_
  refine zAd yR (h7) ?_
  try simp only [go_sem]
  repeat with_reducible refine zAc ?_
  refine zAa yF trivial (fun h3=>?_) (fun h3=>?_)
  ·try simp only [go_sem]
   repeat with_reducible refine zAc ?_
   refine zAq rfl trivial (.inl ?_)
   congr 3
   rw [← hinv]
   have h4:zY6 (a.tests.getD i default) (b.tests.getD i default)=false:=by simpa using h3
   rw [h4]; rfl
  ·have h4:zY6 (a.tests.getD i default) (b.tests.getD i default)=true:=by simpa using h3
   rw [h4,Bool.true_and] at hinv
   try simp only [go_sem]
   repeat with_reducible refine zAc ?_
   refine ⟨i+1,by omega,⟨by omega,hinv⟩,?_⟩
   simp only [go_sem,zAf,zAl,zAs,zAb]
   all_goals exact yLe
 ·have hil:i=a.tests.length:=by simp at h2; omega
  try simp only [go_sem]
  repeat with_reducible refine zAc ?_
  refine zAq rfl trivial (.inl ?_)
  congr 3
  rw [← hinv,hil,List.drop_length,hl,List.drop_length]
  simp only [zED]
theorem yAR {N:Nat} (ih:yF0 Tryz.prog N) (a b:Pt) (hs:SizeOf.sizeOf a≤N):Contract Tryz.prog zDZ [.val (.agg (ptV a)),.val (.agg (ptV b))] { res:=.val (bv (zWW a b)) }:=by
 rw [zBB,zBB]
 refine mkA zOr (base:=0) (fo rfl) (fun hfit=>?_)
 unfold F0 zGO
 simp only [yIn,Nat.reduceAdd,Nat.reduceSub]
 try simp only [go_sem]
 repeat with_reducible refine zAc ?_
 have fl:=zJB hfit.1.1
 apply zAA (h2:=fun _=>zTI a.links b.links)
 ·(simp only [go_sem]; rfl)
 ·intro h; repeat' (first | exact trivial | exact h | refine And.intro ?_ ?_)
 try simp only [go_sem]
 repeat with_reducible refine zAc ?_
 refine zAa yF trivial (fun h1=>?_) (fun h1=>?_)
 ·try simp only [go_sem]
  repeat with_reducible refine zAc ?_
  refine zAq rfl trivial (.inl ?_)
  congr 3
  rw [yBR]
  by_cases ht:a.links=b.links
  ·have hl:a.steps.length≠b.steps.length:=by
    simp [ht] at h1
    omega
   rw [yC1 hl,Bool.and_false]
  ·rw [beq_false_of_ne ht,Bool.false_and]
 have hl:a.steps.length=b.steps.length:=by
  cases hc:((a.steps.length:Int) != (b.steps.length:Int)) with
  |false=>simp at hc; omega
  |true=>rw [hc] at h1; cases h1
 have ht:a.links=b.links:=by
  rw [hl] at h1
  simpa using h1
 have hR:zWW a b=zEE a.steps b.steps:=by rw [yBR,ht,beq_self_eq_true,Bool.true_and]
 rw [hR]
 try simp only [go_sem]
 repeat with_reducible refine zAc ?_
 refine zAr (fun i:Nat=>[(5,.pv (iv i)),(4,.un),(25,.un),(39,.un)]) (fun i:Nat=>a.steps.length - i) (fun i:Nat=>i≤a.steps.length∧zEE (a.steps.drop i) (b.steps.drop i)=zEE a.steps b.steps) (0) ?_ ⟨Nat.zero_le _,rfl⟩ ?_
 focus (simp only [go_sem,zAf,zAl,zAs,zAb]; all_goals exact yLe)
 rintro i ⟨hi,hinv⟩
 try simp only [go_sem]
 repeat with_reducible refine zAc ?_
 refine zAa yF trivial (fun h2=>?_) (fun h2=>?_)
 ·have hil:i<a.steps.length:=by simp at h2; omega
  have hib:i<b.steps.length:=by omega
  rw [zBc (d:=default) hil,zBc (d:=default) hib,zEE] at hinv
  have e1:=zC1 a.steps i hil
  have e2:=zC1 b.steps i hib
  rw [zBh] at e1 e2
  have h7:=yAQ ih (a.steps.getD i default) (b.steps.getD i default) (by have:=yCK hil; have:=zG5 a; omega)
  rw [zBh,zBh] at h7
  try simp only [go_sem,e1,e2]
  repeat with_reducible refine zAc ?_
  refine zAd yR (h7) ?_
  try simp only [go_sem]
  repeat with_reducible refine zAc ?_
  refine zAa yF trivial (fun h3=>?_) (fun h3=>?_)
  ·try simp only [go_sem]
   repeat with_reducible refine zAc ?_
   refine zAq rfl trivial (.inl ?_)
   congr 3
   rw [← hinv]
   have h4:zWV (a.steps.getD i default) (b.steps.getD i default)=false:=by simpa using h3
   rw [h4]; rfl
  ·have h4:zWV (a.steps.getD i default) (b.steps.getD i default)=true:=by simpa using h3
   rw [h4,Bool.true_and] at hinv
   try simp only [go_sem]
   repeat with_reducible refine zAc ?_
   refine ⟨i+1,by omega,⟨by omega,hinv⟩,?_⟩
   simp only [go_sem,zAf,zAl,zAs,zAb]
   all_goals exact yLe
 ·have hil:i=a.steps.length:=by simp at h2; omega
  try simp only [go_sem]
  repeat with_reducible refine zAc ?_
  refine zAq rfl trivial (.inl ?_)
  congr 3
  rw [← hinv,hil,List.drop_length,hl,List.drop_length]
  simp only [zEE]
theorem zRu {N:Nat} (ih:yF0 Tryz.prog N) (a b:List Pt) (hs:SizeOf.sizeOf a≤N):Contract Tryz.prog zBQ [.val (.one (.sl 2 (zFl a))),.val (.one (.sl 2 (zFl b)))] { res:=.val (bv (zDR a b)) }:=by
 refine mkA zOB (base:=0) (fo rfl) (fun hfit=>?_)
 unfold F0 zGP
 simp only [yIn,Nat.reduceAdd,Nat.reduceSub]
 try simp only [go_sem]
 repeat with_reducible refine zAc ?_
 have fl:=zWT hfit.1
 refine zAa yF trivial (fun h1=>?_) (fun h1=>?_)
 ·try simp only [go_sem]
  repeat with_reducible refine zAc ?_
  refine zAq rfl trivial (.inl ?_)
  congr 3
  have:a.length≠b.length:=by simp at h1; omega
  rw [yC2 this]
 have hl:a.length=b.length:=by simp at h1; omega
 try simp only [go_sem]
 repeat with_reducible refine zAc ?_
 refine zAr (fun i:Nat=>[(5,.pv (iv i)),(4,.un),(14,.un),(26,.un)]) (fun i:Nat=>a.length - i) (fun i:Nat=>i≤a.length∧zDR (a.drop i) (b.drop i)=zDR a b) (0) ?_ ⟨Nat.zero_le _,rfl⟩ ?_
 focus (simp only [go_sem,zAf,zAl,zAs,zAb]; all_goals exact yLe)
 rintro i ⟨hi,hinv⟩
 try simp only [go_sem]
 repeat with_reducible refine zAc ?_
 refine zAa yF trivial (fun h2=>?_) (fun h2=>?_)
 ·have hil:i<a.length:=by simp at h2; omega
  have hib:i<b.length:=by omega
  rw [zBc (d:=default) hil,zBc (d:=default) hib,zDR] at hinv
  have e1:=zB5 a i hil
  have e2:=zB5 b i hib
  rw [zBB] at e1 e2
  have h7:=yAR ih (a.getD i default) (b.getD i default) (by have:=yCL hil; omega)
  rw [zBB,zBB] at h7
  try simp only [go_sem,e1,e2]
  repeat with_reducible refine zAc ?_
  refine zAd yR (h7) ?_
  try simp only [go_sem]
  repeat with_reducible refine zAc ?_
  refine zAa yF trivial (fun h3=>?_) (fun h3=>?_)
  ·try simp only [go_sem]
   repeat with_reducible refine zAc ?_
   refine zAq rfl trivial (.inl ?_)
   congr 3
   rw [← hinv]
   have h4:zWW (a.getD i default) (b.getD i default)=false:=by simpa using h3
   rw [h4]; rfl
  ·have h4:zWW (a.getD i default) (b.getD i default)=true:=by simpa using h3
   rw [h4,Bool.true_and] at hinv
   try simp only [go_sem]
   repeat with_reducible refine zAc ?_
   refine ⟨i+1,by omega,⟨by omega,hinv⟩,?_⟩
   simp only [go_sem,zAf,zAl,zAs,zAb]
   all_goals exact yLe
 ·have hil:i=a.length:=by simp at h2; omega
  try simp only [go_sem]
  repeat with_reducible refine zAc ?_
  refine zAq rfl trivial (.inl ?_)
  congr 3
  rw [← hinv,hil,List.drop_length,hl,List.drop_length]
  simp only [zDR]
theorem yC3 (s:Ts):0<SizeOf.sizeOf s:=by cases s; simp only [Ts.mk.sizeOf_spec]; omega
theorem zUv:∀ N,yF0 Tryz.prog N
 |0=>fun a b h=>by have:=yC3 a; omega
 |N+1=>fun a b h=>by
  have ih:=zUv N
  have hc:=zRu ih a.list b.list (by have:=zLR a; omega)
  rw [zBk,zBk]
  refine mkA zN7 (base:=0) (fo rfl) (fun hfit=>?_)
  unfold F0 zGM
  simp only [yIn,Nat.reduceAdd,Nat.reduceSub]
  try simp only [go_sem]
  repeat with_reducible refine zAc ?_
  apply zAA (h2:=fun _=>hc)
  ·(simp only [go_sem]; rfl)
  ·intro h; repeat' (first | exact trivial | exact h | refine And.intro ?_ ?_)
  try simp only [go_sem]
  repeat with_reducible refine zAc ?_
  refine zAq rfl trivial (.inl ?_)
  congr 3
  rw [yFZ]
  simp [Bool.cond_false_right,Bool.and_assoc]
theorem zWX (a b:List Pt):Contract Tryz.prog zBQ [.val (.one (.sl 2 (zFl a))),.val (.one (.sl 2 (zFl b)))] { res:=.val (bv (zDR a b)) }:=zRu (zUv _) a b (Nat.le_refl _)
end Go.Hx
end

section
set_option maxRecDepth 100000
set_option linter.unusedSimpArgs false
namespace Go.Hx
open Go.Proofs Go.RowKit
attribute [local instance] zBi
attribute [local go_sem] zAC zAz zAB zAw ndV zAx zAv zBW zBb zA7 zBB zBh zBk
attribute [local go_sem] reduceCtorEq Nat.reduceAdd Nat.reduceEqDiff reduceIte Nat.reduceLeDiff Nat.reduceLT Nat.reduceSub
set_option maxHeartbeats 16000000 in
theorem zTJ (d:Nat) (hd:1≤d) (hL:∀ l:List Pt,GL l (d+1)→Contract Tryz.prog zA2 [.val (zBf l)] { res:=.val (sv (zG6 l)) }) (t:Ts) (ht:GT t d):Contract Tryz.prog zDv [.val (.agg (tsV t))] { res:=.val (sv (zSj t)) }:=by
 have hm0:maxLen=9223372036854775807:=rfl
 obtain ⟨k,n,v,a,b,l⟩:=t
 obtain ⟨h1,h2,h3,h4,h5,h6⟩:=ht.parts
 have hn:n.length≤12:=by
  split at h2
  ·exact zG7 h2
  ·rw [h2]; simp
 have hv:v.length≤16:=by
  split at h3
  ·exact zHQ h3
  ·rw [h3]; simp
 have hnt:=zWI h5
 rw [zDt]
 have ets:tsV (.mk k n v a b l)=[bI k,bS n,bS v,bI a,bI b,.sl 2 (zFl l)]:=rfl
 rw [ets]
 refine mkA zRL (base:=0) (fo rfl) (fun hfit=>?_)
 unfold F0 zHx
 simp only [yIn,Nat.reduceAdd,Nat.reduceSub]
 try simp only [go_sem]
 repeat with_reducible refine zAc ?_
 refine zAa yF trivial (fun q1=>?_) (fun q1=>?_)
 ·have hk:k=1:=by simpa using q1
  subst hk
  try simp only [go_sem]
  repeat with_reducible refine zAc ?_
  refine zAq rfl trivial (.inl ?_)
  simp [zE6,zBG]
 ·try simp only [go_sem]
  repeat with_reducible refine zAc ?_
  refine zAa yF trivial (fun q2=>?_) (fun q2=>?_)
  ·have hk:k=2:=by simpa using q2
   subst hk
   try simp only [go_sem]
   repeat with_reducible refine zAc ?_
   refine zAq rfl trivial (.inl ?_)
   simp [zE6,zBG]
  ·try simp only [go_sem]
   repeat with_reducible refine zAc ?_
   refine zAa yF trivial (fun q3=>?_) (fun q3=>?_)
   ·have hk:k=3:=by simpa using q3
    subst hk
    try simp only [go_sem]
    repeat with_reducible refine zAc ?_
    refine zAq rfl trivial (.inl ?_)
    simp [zE6,zBG]
   ·try simp only [go_sem]
    repeat with_reducible refine zAc ?_
    refine zAa yF trivial (fun q4=>?_) (fun q4=>?_)
    ·have hk:k=4:=by simpa using q4
     subst hk
     try simp only [go_sem]
     repeat with_reducible refine zAc ?_
     refine zAq rfl trivial (.inl ?_)
     simp [zE6,zBG]
    ·try simp only [go_sem]
     repeat with_reducible refine zAc ?_
     refine zAa yF trivial (fun q5=>?_) (fun q5=>?_)
     ·have hk:k=5:=by simpa using q5
      subst hk
      try simp only [go_sem]
      repeat with_reducible refine zAc ?_
      refine zAq rfl trivial (.inl ?_)
      simp [zE6,zBG]
     ·try simp only [go_sem]
      repeat with_reducible refine zAc ?_
      refine zAa yF trivial (fun q6=>?_) (fun q6=>?_)
      ·have hk:k=6:=by simpa using q6
       subst hk
       try simp only [go_sem]
       repeat with_reducible refine zAc ?_
       refine zAq rfl trivial (.inl ?_)
       simp [zE6,zBG]
      ·try simp only [go_sem]
       repeat with_reducible refine zAc ?_
       refine zAa yF trivial (fun q7=>?_) (fun q7=>?_)
       ·have hk:k=7:=by simpa using q7
        subst hk
        try simp only [go_sem]
        repeat with_reducible refine zAc ?_
        refine zAq rfl trivial (.inl ?_)
        simp [zE6,zBG]
       ·try simp only [go_sem]
        repeat with_reducible refine zAc ?_
        refine zAa yF trivial (fun q8=>?_) (fun q8=>?_)
        ·have hk:k=8:=by simpa using q8
         subst hk
         try simp only [go_sem]
         repeat with_reducible refine zAc ?_
         refine zAq rfl trivial (.inl ?_)
         simp [zE6,zBG]
        ·try simp only [go_sem]
         repeat with_reducible refine zAc ?_
         refine zAa yF trivial (fun q9=>?_) (fun q9=>?_)
         ·have hk:k=9:=by simpa using q9
          subst hk
          try simp only [go_sem]
          repeat with_reducible refine zAc ?_
          refine zAd yR (zJy a b h5) ?_
          try simp only [go_sem]
          repeat with_reducible refine zAc ?_
          refine zAq rfl trivial (.inl ?_)
          simp [zE6,zBG]
         ·try simp only [go_sem]
          repeat with_reducible refine zAc ?_
          refine zAa yF trivial (fun q10=>?_) (fun q10=>?_)
          ·have hk:k=10:=by simpa using q10
           subst hk
           try simp only [go_sem]
           repeat with_reducible refine zAc ?_
           refine zAd yR (zJy a b h5) ?_
           try simp only [go_sem]
           repeat with_reducible refine zAc ?_
           refine zAq rfl trivial (.inl ?_)
           simp [zE6,zBG]
          ·try simp only [go_sem]
           repeat with_reducible refine zAc ?_
           refine zAa yF trivial (fun q11=>?_) (fun q11=>?_)
           ·have hk:k=11:=by simpa using q11
            subst hk
            try simp only [go_sem]
            repeat with_reducible refine zAc ?_
            refine zAq rfl trivial (.inl ?_)
            simp [zE6,zBG]
           ·try simp only [go_sem]
            repeat with_reducible refine zAc ?_
            refine zAa yF trivial (fun q12=>?_) (fun q12=>?_)
            ·have hk:k=12:=by simpa using q12
             subst hk
             try simp only [go_sem]
             repeat with_reducible refine zAc ?_
             refine zAq rfl trivial (.inl ?_)
             simp [zE6,zBG]
            ·try simp only [go_sem]
             repeat with_reducible refine zAc ?_
             refine zAa yF trivial (fun q13=>?_) (fun q13=>?_)
             ·have hk:k=13:=by simpa using q13
              subst hk
              rw [if_pos (by decide)] at h6
              have hl:=hL l h6
              have hlen:=yIj (d:=d+1) yO h6
              have hll:(zAH l true).length=(zG6 l).length:=rfl
              try simp only [go_sem]
              repeat with_reducible refine zAc ?_
              refine zAd yR (hl) ?_
              try simp only [go_sem]
              repeat with_reducible refine zAc ?_
              refine zAq rfl trivial (.inl ?_)
              simp [zE6,zBG]
             ·try simp only [go_sem]
              repeat with_reducible refine zAc ?_
              refine zAa yF trivial (fun q14=>?_) (fun q14=>?_)
              ·have hk:k=14:=by simpa using q14
               subst hk
               rw [if_pos (by decide)] at h6
               have hl:=hL l h6
               have hlen:=yIj (d:=d+1) yO h6
               have hll:(zAH l true).length=(zG6 l).length:=rfl
               try simp only [go_sem]
               repeat with_reducible refine zAc ?_
               refine zAd yR (hl) ?_
               try simp only [go_sem]
               repeat with_reducible refine zAc ?_
               refine zAq rfl trivial (.inl ?_)
               simp [zE6,zBG]
              ·try simp only [go_sem]
               repeat with_reducible refine zAc ?_
               have hk:k=15:=by
                simp only [beq_eq_false_iff_ne] at q1 q2 q3 q4 q5 q6 q7 q8 q9 q10 q11 q12 q13 q14
                omega
               subst hk
               rw [if_pos (by decide)] at h6
               have hl:=hL l h6
               have hlen:=yIj (d:=d+1) yO h6
               have hll:(zAH l true).length=(zG6 l).length:=rfl
               try simp only [go_sem]
               repeat with_reducible refine zAc ?_
               refine zAd yR (hl) ?_
               try simp only [go_sem]
               repeat with_reducible refine zAc ?_
               refine zAq rfl trivial (.inl ?_)
               simp [zE6,zBG]
theorem zR8:∀ (l:List Pt) (i:Nat),i<l.length→zAH (l.take (i+1)) false=zAH (l.take i) false ++ ([44,32] ++ zKG (l.getD i default))
 |[],i,h=>by simp at h
 |x :: r,0,h=>by simp [zAH]
 |x :: r,i+1,h=>by
  have ih:=zR8 r i (by simpa using h)
  simp only [List.take_succ_cons,zAH,ih,List.getD_cons_succ,List.append_assoc]
theorem yC6 (l:List Pt) (i:Nat) (h:i<l.length):zAH (l.take (i+1)) true=zAH (l.take i) true ++ ((if i=0 then [] else [44,32]) ++ zKG (l.getD i default)):=by
 match l,i,h with
 |x :: r,0,h=>simp [zAH]
 |x :: r,i+1,h=>
  have ih:=zR8 r i (by simpa using h)
  simp only [List.take_succ_cons,zAH,ih,List.getD_cons_succ,List.append_assoc]
  rfl
theorem zUw:∀ (l:List Pt) (i:Nat),(zAH (l.take i) false).length≤(zAH l false).length
 |[],i=>by simp
 |x :: r,0=>by simp [zAH]
 |x :: r,i+1=>by
  have ih:=zUw r i
  simp only [List.take_succ_cons,zAH,List.length_append]
  omega
theorem zZl (l:List Pt) (i:Nat):(zAH (l.take i) true).length≤(zAH l true).length:=by
 match l,i with
 |[],i=>simp
 |x :: r,0=>simp [zAH]
 |x :: r,i+1=>
  have ih:=zUw r i
  simp only [List.take_succ_cons,zAH,List.length_append]
  omega
theorem yEF {n:Int} (h:1≤n∧n≤4):([[bS []],[bS [32]],[bS [32,62,32]],[bS [32,43,32]],[bS [32,126,32]]]:List (List PV)).getD n.toNat []=[bS (zGf n)]:=by
 rcases (by omega:n=1∨n=2∨n=3∨n=4) with rfl | rfl | rfl | rfl <;> rfl
set_option maxHeartbeats 32000000 in
theorem zR9 (d:Nat) (hd:1≤d) (hT:∀ t:Ts,GT t d→Contract Tryz.prog zDv [.val (.agg (tsV t))] { res:=.val (sv (zSj t)) }) (l:List Pt) (hl:GL l d):Contract Tryz.prog zA2 [.val (zBf l)] { res:=.val (sv (zG6 l)) }:=by
 have hm0:maxLen=9223372036854775807:=rfl
 have hl5:=hl.2.2.1
 have hl1:=hl.2.1
 have hlen:=yIj hd hl
 have hll0:(zAH l true).length=(zG6 l).length:=rfl
 unfold zBf
 refine mkA zRW (base:=0) (fo rfl) (fun hfit=>?_)
 unfold F0 zHy
 simp only [yIn,Nat.reduceAdd,Nat.reduceSub]
 try simp only [go_sem]
 repeat with_reducible refine zAc ?_
 refine zAr (fun i:Nat=>[(3,.pv (sv (zAH (l.take i) true))),(4,.pv (iv i)),(5,.un),(6,.un),(7,.un),(11,.un),(15,.un),(25,.un),(29,.un),(54,.un),(65,.un),(77,.un),(78,.un)]) (fun i:Nat=>l.length - i) (fun i:Nat=>i≤l.length) (0) ?_ (Nat.zero_le _) ?_
 focus (simp only [go_sem,zAf,zAl,zAs,zAb]; all_goals (repeat' (first | exact trivial | exact zAi yO | exact zAh rfl | exact zAm rfl | exact zAn | exact le_refl _ | refine And.intro ?_ ?_)))
 intro i hi
 have hpp:=zZl l i
 try simp only [go_sem]
 repeat with_reducible refine zAc ?_
 refine zAa yF trivial (fun g0=>?_) (fun g0=>?_)
 ·have hlt:i<l.length:=by simp at g0; omega
  have hpt1:=yC6 l i hlt
  have hpp1:=zZl l (i+1)
  rw [hpt1] at hpp1
  obtain ⟨p,hp⟩:∃ p,p=l.getD i default:=⟨_,rfl⟩
  have hG:=GPs.get hl.2.2.2 i hlt
  have hpv:=zB5 l i hlt
  rw [← hp] at hG hpv hpp1 hpt1
  obtain ⟨p1,p2,p3,p4,p5⟩:=hG.parts'
  rw [zRr] at hpp1
  simp only [List.length_append] at hpp1
  try simp only [go_sem]
  repeat with_reducible refine zAc ?_
  refine zAa yF trivial (fun g6=>?_) (fun g6=>?_)
  ·have hi0:¬ i=0:=by simp at g6; omega
   rw [if_neg hi0] at hpp1 hpt1
   simp only [List.length_cons,List.length_nil] at hpp1
   try simp only [go_sem,List.length_cons,List.length_nil]
   repeat with_reducible refine zAc ?_
   refine zAr (fun j:Nat=>[(3,.pv (sv (zAH (l.take i) true ++ [44,32] ++ zAX (p.steps.take j) p.links true))),(5,.pv (iv j)),(6,.un),(7,.un),(25,.un),(29,.un),(54,.un),(65,.un),(77,.un),(78,.un)]) (fun j:Nat=>p.steps.length - j) (fun j:Nat=>j≤p.steps.length) (0) ?_ (Nat.zero_le _) ?_
   focus (simp only [go_sem,zAf,zAl,zAs,zAb]; all_goals (repeat' (first | exact trivial | exact zAi yO | exact zAh rfl | exact zAm rfl | exact zAn | exact le_refl _ | refine And.intro ?_ ?_)))
   ·exact zAm (by simp [zAX])
   intro j hj
   have hpre:=zFp p.steps p.links j
   try simp only [go_sem,hpv]
   repeat with_reducible refine zAc ?_
   refine zAa yF trivial (fun g1=>?_) (fun g1=>?_)
   ·have hjl:j<p.steps.length:=by simp at g1; omega
    have hst:=zLS p.steps p.links j hjl
    have hpre1:=zFp p.steps p.links (j+1)
    rw [hst] at hpre1
    obtain ⟨x,hx⟩:∃ x,x=p.steps.getD j default:=⟨_,rfl⟩
    have hGs:=GSs.get p5 j hjl
    have hsv:=zC1 p.steps j hjl
    rw [← hx] at hGs hsv hst hpre1
    rw [yAN] at hst hpre1
    obtain ⟨x1,x2⟩:=hGs.parts'
    simp only [List.length_append] at hpre1
    try simp only [go_sem,hpv,hsv]
    repeat with_reducible refine zAc ?_
    refine zAa yF trivial (fun g2=>?_) (fun g2=>?_)
    ·have hj1:1≤j:=by simp at g2; omega
     have hjn:((j:Int) - 1).toNat=j - 1:=by omega
     have hlj:j - 1<p.links.length:=by omega
     have hin:=p4 _ (List.getElem_mem hlj)
     have hge:p.links[j - 1]=p.links.getD (j - 1) 0:=by simp [List.getD_eq_getElem?_getD,hlj]
     rw [hge] at hin
     obtain ⟨n,hn⟩:∃ n,n=p.links.getD (j - 1) 0:=⟨_,rfl⟩
     have hir:=zEj p.links (j - 1) hlj
     rw [← hn] at hin hir hst hpre1
     have hix:=yEF hin
     rw [if_neg yO] at hst hpre1
     try simp only [go_sem,hpv,hjn,hir,hix,hsv,List.length_cons,List.length_nil,List.length_append]
     repeat with_reducible refine zAc ?_
     refine zAa yF trivial (fun g4=>?_) (fun g4=>?_)
     ·have hx0:x.tag=[]:=by simpa using g4
      have ho:zDH x.tag=[42] ++ x.tag:=by rw [hx0]; rfl
      have hol:=congrArg List.length ho
      simp only [List.length_append,List.length_cons,List.length_nil] at hol
      try simp only [go_sem,List.length_append,List.length_cons,List.length_nil]
      repeat with_reducible refine zAc ?_
      refine zAr (fun m:Nat=>[(3,.pv (sv ((zAH (l.take i) true ++ [44,32] ++ zAX (p.steps.take j) p.links true ++ zGf n ++ [42] ++ x.tag) ++ zA8 (x.tests.take m)))),(7,.pv (iv m)),(65,.un)]) (fun m:Nat=>x.tests.length - m) (fun m:Nat=>m≤x.tests.length) (0) ?_ (Nat.zero_le _) ?_
      focus (simp only [go_sem,zAf,zAl,zAs,zAb]; all_goals (repeat' (first | exact trivial | exact zAi yO | exact zAh rfl | exact zAm rfl | exact zAn | exact le_refl _ | refine And.intro ?_ ?_)))
      ·exact zAm (by simp [zA8])
      intro m hm
      have hpt:=zA6 x.tests m
      try simp only [go_sem]
      repeat with_reducible refine zAc ?_
      refine zAa yF trivial (fun g5=>?_) (fun g5=>?_)
      ·have hml:m<x.tests.length:=by simp at g5; omega
       have htt:=zCo x.tests m hml
       have hpt1:=zA6 x.tests (m+1)
       have htv:=zBz x.tests m hml
       have hGt:=GTs.get x2 m hml
       obtain ⟨t,ht⟩:∃ t,t=x.tests.getD m default:=⟨_,rfl⟩
       rw [← ht] at htt htv hGt
       have hc:=hT t hGt
       rw [zBk] at hc htv
       have hll:=congrArg List.length htt
       rw [List.length_append] at hll
       try simp only [go_sem,htv]
       repeat with_reducible refine zAc ?_
       refine zAd yR (hc) ?_
       try simp only [go_sem,List.length_append]
       repeat with_reducible refine zAc ?_
       refine ⟨m+1,by omega,by omega,?_⟩
       simp only [go_sem,zAf,zAl,zAs,zAb]
       all_goals (repeat' (first | exact trivial | exact zAi yO | exact zAh rfl | exact zAm rfl | exact zAn | exact le_refl _ | refine And.intro ?_ ?_))
       all_goals first | exact zAb | exact zAi yO | exact zAm (by rw [htt]; simp only [List.append_assoc]) | rfl
      ·have hme:m=x.tests.length:=by simp at g5; omega
       subst hme
       try simp only [go_sem]
       repeat with_reducible refine zAc ?_
       refine ⟨j+1,by omega,by omega,?_⟩
       simp only [go_sem,zAf,zAl,zAs,zAb]
       all_goals (repeat' (first | exact trivial | exact zAi yO | exact zAh rfl | exact zAm rfl | exact zAn | exact le_refl _ | refine And.intro ?_ ?_))
       all_goals first | exact zAb | exact zAi yO | exact zAm (by rw [hst,ho,List.take_length]; simp only [List.append_assoc,List.nil_append]) | rfl
     ·have hx0:x.tag≠[]:=by simpa using g4
      have ho:zDH x.tag=x.tag:=by unfold zDH; rw [if_neg hx0]
      have hol:=congrArg List.length ho
      try simp only [go_sem,List.length_append,List.length_cons,List.length_nil]
      repeat with_reducible refine zAc ?_
      refine zAr (fun m:Nat=>[(3,.pv (sv ((zAH (l.take i) true ++ [44,32] ++ zAX (p.steps.take j) p.links true ++ zGf n ++ x.tag) ++ zA8 (x.tests.take m)))),(7,.pv (iv m)),(65,.un)]) (fun m:Nat=>x.tests.length - m) (fun m:Nat=>m≤x.tests.length) (0) ?_ (Nat.zero_le _) ?_
      focus (simp only [go_sem,zAf,zAl,zAs,zAb]; all_goals (repeat' (first | exact trivial | exact zAi yO | exact zAh rfl | exact zAm rfl | exact zAn | exact le_refl _ | refine And.intro ?_ ?_)))
      ·exact zAm (by simp [zA8])
      intro m hm
      have hpt:=zA6 x.tests m
      try simp only [go_sem]
      repeat with_reducible refine zAc ?_
      refine zAa yF trivial (fun g5=>?_) (fun g5=>?_)
      ·have hml:m<x.tests.length:=by simp at g5; omega
       have htt:=zCo x.tests m hml
       have hpt1:=zA6 x.tests (m+1)
       have htv:=zBz x.tests m hml
       have hGt:=GTs.get x2 m hml
       obtain ⟨t,ht⟩:∃ t,t=x.tests.getD m default:=⟨_,rfl⟩
       rw [← ht] at htt htv hGt
       have hc:=hT t hGt
       rw [zBk] at hc htv
       have hll:=congrArg List.length htt
       rw [List.length_append] at hll
       try simp only [go_sem,htv]
       repeat with_reducible refine zAc ?_
       refine zAd yR (hc) ?_
       try simp only [go_sem,List.length_append]
       repeat with_reducible refine zAc ?_
       refine ⟨m+1,by omega,by omega,?_⟩
       simp only [go_sem,zAf,zAl,zAs,zAb]
       all_goals (repeat' (first | exact trivial | exact zAi yO | exact zAh rfl | exact zAm rfl | exact zAn | exact le_refl _ | refine And.intro ?_ ?_))
       all_goals first | exact zAb | exact zAi yO | exact zAm (by rw [htt]; simp only [List.append_assoc]) | rfl
      ·have hme:m=x.tests.length:=by simp at g5; omega
       subst hme
       try simp only [go_sem]
       repeat with_reducible refine zAc ?_
       refine ⟨j+1,by omega,by omega,?_⟩
       simp only [go_sem,zAf,zAl,zAs,zAb]
       all_goals (repeat' (first | exact trivial | exact zAi yO | exact zAh rfl | exact zAm rfl | exact zAn | exact le_refl _ | refine And.intro ?_ ?_))
       all_goals first | exact zAb | exact zAi yO | exact zAm (by rw [hst,ho,List.take_length]; simp only [List.append_assoc,List.nil_append]) | rfl
    ·have hj0:j=0:=by simp at g2; omega
     rw [if_pos hj0] at hst hpre1
     try simp only [go_sem,hpv,hsv,List.length_append]
     repeat with_reducible refine zAc ?_
     refine zAa yF trivial (fun g4=>?_) (fun g4=>?_)
     ·have hx0:x.tag=[]:=by simpa using g4
      have ho:zDH x.tag=[42] ++ x.tag:=by rw [hx0]; rfl
      have hol:=congrArg List.length ho
      simp only [List.length_append,List.length_cons,List.length_nil] at hol
      try simp only [go_sem,List.length_append,List.length_cons,List.length_nil]
      repeat with_reducible refine zAc ?_
      refine zAr (fun m:Nat=>[(3,.pv (sv ((zAH (l.take i) true ++ [44,32] ++ zAX (p.steps.take j) p.links true ++ [42] ++ x.tag) ++ zA8 (x.tests.take m)))),(7,.pv (iv m)),(65,.un)]) (fun m:Nat=>x.tests.length - m) (fun m:Nat=>m≤x.tests.length) (0) ?_ (Nat.zero_le _) ?_
      focus (simp only [go_sem,zAf,zAl,zAs,zAb]; all_goals (repeat' (first | exact trivial | exact zAi yO | exact zAh rfl | exact zAm rfl | exact zAn | exact le_refl _ | refine And.intro ?_ ?_)))
      ·exact zAm (by simp [zA8])
      intro m hm
      have hpt:=zA6 x.tests m
      try simp only [go_sem]
      repeat with_reducible refine zAc ?_
      refine zAa yF trivial (fun g5=>?_) (fun g5=>?_)
      ·have hml:m<x.tests.length:=by simp at g5; omega
       have htt:=zCo x.tests m hml
       have hpt1:=zA6 x.tests (m+1)
       have htv:=zBz x.tests m hml
       have hGt:=GTs.get x2 m hml
       obtain ⟨t,ht⟩:∃ t,t=x.tests.getD m default:=⟨_,rfl⟩
       rw [← ht] at htt htv hGt
       have hc:=hT t hGt
       rw [zBk] at hc htv
       have hll:=congrArg List.length htt
       rw [List.length_append] at hll
       try simp only [go_sem,htv]
       repeat with_reducible refine zAc ?_
       refine zAd yR (hc) ?_
       try simp only [go_sem,List.length_append]
       repeat with_reducible refine zAc ?_
       refine ⟨m+1,by omega,by omega,?_⟩
       simp only [go_sem,zAf,zAl,zAs,zAb]
       all_goals (repeat' (first | exact trivial | exact zAi yO | exact zAh rfl | exact zAm rfl | exact zAn | exact le_refl _ | refine And.intro ?_ ?_))
       all_goals first | exact zAb | exact zAi yO | exact zAm (by rw [htt]; simp only [List.append_assoc]) | rfl
      ·have hme:m=x.tests.length:=by simp at g5; omega
       subst hme
       try simp only [go_sem]
       repeat with_reducible refine zAc ?_
       refine ⟨j+1,by omega,by omega,?_⟩
       simp only [go_sem,zAf,zAl,zAs,zAb]
       all_goals (repeat' (first | exact trivial | exact zAi yO | exact zAh rfl | exact zAm rfl | exact zAn | exact le_refl _ | refine And.intro ?_ ?_))
       all_goals first | exact zAb | exact zAi yO | exact zAm (by rw [hst,ho,List.take_length]; simp only [List.append_assoc,List.nil_append]) | rfl
     ·have hx0:x.tag≠[]:=by simpa using g4
      have ho:zDH x.tag=x.tag:=by unfold zDH; rw [if_neg hx0]
      have hol:=congrArg List.length ho
      try simp only [go_sem,List.length_append,List.length_cons,List.length_nil]
      repeat with_reducible refine zAc ?_
      refine zAr (fun m:Nat=>[(3,.pv (sv ((zAH (l.take i) true ++ [44,32] ++ zAX (p.steps.take j) p.links true ++ x.tag) ++ zA8 (x.tests.take m)))),(7,.pv (iv m)),(65,.un)]) (fun m:Nat=>x.tests.length - m) (fun m:Nat=>m≤x.tests.length) (0) ?_ (Nat.zero_le _) ?_
      focus (simp only [go_sem,zAf,zAl,zAs,zAb]; all_goals (repeat' (first | exact trivial | exact zAi yO | exact zAh rfl | exact zAm rfl | exact zAn | exact le_refl _ | refine And.intro ?_ ?_)))
      ·exact zAm (by simp [zA8])
      intro m hm
      have hpt:=zA6 x.tests m
      try simp only [go_sem]
      repeat with_reducible refine zAc ?_
      refine zAa yF trivial (fun g5=>?_) (fun g5=>?_)
      ·have hml:m<x.tests.length:=by simp at g5; omega
       have htt:=zCo x.tests m hml
       have hpt1:=zA6 x.tests (m+1)
       have htv:=zBz x.tests m hml
       have hGt:=GTs.get x2 m hml
       obtain ⟨t,ht⟩:∃ t,t=x.tests.getD m default:=⟨_,rfl⟩
       rw [← ht] at htt htv hGt
       have hc:=hT t hGt
       rw [zBk] at hc htv
       have hll:=congrArg List.length htt
       rw [List.length_append] at hll
       try simp only [go_sem,htv]
       repeat with_reducible refine zAc ?_
       refine zAd yR (hc) ?_
       try simp only [go_sem,List.length_append]
       repeat with_reducible refine zAc ?_
       refine ⟨m+1,by omega,by omega,?_⟩
       simp only [go_sem,zAf,zAl,zAs,zAb]
       all_goals (repeat' (first | exact trivial | exact zAi yO | exact zAh rfl | exact zAm rfl | exact zAn | exact le_refl _ | refine And.intro ?_ ?_))
       all_goals first | exact zAb | exact zAi yO | exact zAm (by rw [htt]; simp only [List.append_assoc]) | rfl
      ·have hme:m=x.tests.length:=by simp at g5; omega
       subst hme
       try simp only [go_sem]
       repeat with_reducible refine zAc ?_
       refine ⟨j+1,by omega,by omega,?_⟩
       simp only [go_sem,zAf,zAl,zAs,zAb]
       all_goals (repeat' (first | exact trivial | exact zAi yO | exact zAh rfl | exact zAm rfl | exact zAn | exact le_refl _ | refine And.intro ?_ ?_))
       all_goals first | exact zAb | exact zAi yO | exact zAm (by rw [hst,ho,List.take_length]; simp only [List.append_assoc,List.nil_append]) | rfl
   ·have hje:j=p.steps.length:=by simp at g1; omega
    subst hje
    try simp only [go_sem]
    repeat with_reducible refine zAc ?_
    refine ⟨i+1,by omega,by omega,?_⟩
    simp only [go_sem,zAf,zAl,zAs,zAb]
    all_goals (repeat' (first | exact trivial | exact zAi yO | exact zAh rfl | exact zAm rfl | exact zAn | exact le_refl _ | refine And.intro ?_ ?_))
    all_goals first | exact zAb | exact zAi yO | exact zAm (by rw [hpt1,List.take_length,zRr]; simp only [List.append_assoc,List.nil_append]) | rfl
  ·have hi0:i=0:=by simp at g6; omega
   rw [if_pos hi0] at hpp1 hpt1
   simp only [List.length_cons,List.length_nil] at hpp1
   try simp only [go_sem,List.length_cons,List.length_nil]
   repeat with_reducible refine zAc ?_
   refine zAr (fun j:Nat=>[(3,.pv (sv (zAH (l.take i) true ++ zAX (p.steps.take j) p.links true))),(5,.pv (iv j)),(6,.un),(7,.un),(25,.un),(29,.un),(54,.un),(65,.un),(77,.un),(78,.un)]) (fun j:Nat=>p.steps.length - j) (fun j:Nat=>j≤p.steps.length) (0) ?_ (Nat.zero_le _) ?_
   focus (simp only [go_sem,zAf,zAl,zAs,zAb]; all_goals (repeat' (first | exact trivial | exact zAi yO | exact zAh rfl | exact zAm rfl | exact zAn | exact le_refl _ | refine And.intro ?_ ?_)))
   ·exact zAm (by simp [zAX])
   intro j hj
   have hpre:=zFp p.steps p.links j
   try simp only [go_sem,hpv]
   repeat with_reducible refine zAc ?_
   refine zAa yF trivial (fun g1=>?_) (fun g1=>?_)
   ·have hjl:j<p.steps.length:=by simp at g1; omega
    have hst:=zLS p.steps p.links j hjl
    have hpre1:=zFp p.steps p.links (j+1)
    rw [hst] at hpre1
    obtain ⟨x,hx⟩:∃ x,x=p.steps.getD j default:=⟨_,rfl⟩
    have hGs:=GSs.get p5 j hjl
    have hsv:=zC1 p.steps j hjl
    rw [← hx] at hGs hsv hst hpre1
    rw [yAN] at hst hpre1
    obtain ⟨x1,x2⟩:=hGs.parts'
    simp only [List.length_append] at hpre1
    try simp only [go_sem,hpv,hsv]
    repeat with_reducible refine zAc ?_
    refine zAa yF trivial (fun g2=>?_) (fun g2=>?_)
    ·have hj1:1≤j:=by simp at g2; omega
     have hjn:((j:Int) - 1).toNat=j - 1:=by omega
     have hlj:j - 1<p.links.length:=by omega
     have hin:=p4 _ (List.getElem_mem hlj)
     have hge:p.links[j - 1]=p.links.getD (j - 1) 0:=by simp [List.getD_eq_getElem?_getD,hlj]
     rw [hge] at hin
     obtain ⟨n,hn⟩:∃ n,n=p.links.getD (j - 1) 0:=⟨_,rfl⟩
     have hir:=zEj p.links (j - 1) hlj
     rw [← hn] at hin hir hst hpre1
     have hix:=yEF hin
     rw [if_neg yO] at hst hpre1
     try simp only [go_sem,hpv,hjn,hir,hix,hsv,List.length_cons,List.length_nil,List.length_append]
     repeat with_reducible refine zAc ?_
     refine zAa yF trivial (fun g4=>?_) (fun g4=>?_)
     ·have hx0:x.tag=[]:=by simpa using g4
      have ho:zDH x.tag=[42] ++ x.tag:=by rw [hx0]; rfl
      have hol:=congrArg List.length ho
      simp only [List.length_append,List.length_cons,List.length_nil] at hol
      try simp only [go_sem,List.length_append,List.length_cons,List.length_nil]
      repeat with_reducible refine zAc ?_
      refine zAr (fun m:Nat=>[(3,.pv (sv ((zAH (l.take i) true ++ zAX (p.steps.take j) p.links true ++ zGf n ++ [42] ++ x.tag) ++ zA8 (x.tests.take m)))),(7,.pv (iv m)),(65,.un)]) (fun m:Nat=>x.tests.length - m) (fun m:Nat=>m≤x.tests.length) (0) ?_ (Nat.zero_le _) ?_
      focus (simp only [go_sem,zAf,zAl,zAs,zAb]; all_goals (repeat' (first | exact trivial | exact zAi yO | exact zAh rfl | exact zAm rfl | exact zAn | exact le_refl _ | refine And.intro ?_ ?_)))
      ·exact zAm (by simp [zA8])
      intro m hm
      have hpt:=zA6 x.tests m
      try simp only [go_sem]
      repeat with_reducible refine zAc ?_
      refine zAa yF trivial (fun g5=>?_) (fun g5=>?_)
      ·have hml:m<x.tests.length:=by simp at g5; omega
       have htt:=zCo x.tests m hml
       have hpt1:=zA6 x.tests (m+1)
       have htv:=zBz x.tests m hml
       have hGt:=GTs.get x2 m hml
       obtain ⟨t,ht⟩:∃ t,t=x.tests.getD m default:=⟨_,rfl⟩
       rw [← ht] at htt htv hGt
       have hc:=hT t hGt
       rw [zBk] at hc htv
       have hll:=congrArg List.length htt
       rw [List.length_append] at hll
       try simp only [go_sem,htv]
       repeat with_reducible refine zAc ?_
       refine zAd yR (hc) ?_
       try simp only [go_sem,List.length_append]
       repeat with_reducible refine zAc ?_
       refine ⟨m+1,by omega,by omega,?_⟩
       simp only [go_sem,zAf,zAl,zAs,zAb]
       all_goals (repeat' (first | exact trivial | exact zAi yO | exact zAh rfl | exact zAm rfl | exact zAn | exact le_refl _ | refine And.intro ?_ ?_))
       all_goals first | exact zAb | exact zAi yO | exact zAm (by rw [htt]; simp only [List.append_assoc]) | rfl
      ·have hme:m=x.tests.length:=by simp at g5; omega
       subst hme
       try simp only [go_sem]
       repeat with_reducible refine zAc ?_
       refine ⟨j+1,by omega,by omega,?_⟩
       simp only [go_sem,zAf,zAl,zAs,zAb]
       all_goals (repeat' (first | exact trivial | exact zAi yO | exact zAh rfl | exact zAm rfl | exact zAn | exact le_refl _ | refine And.intro ?_ ?_))
       all_goals first | exact zAb | exact zAi yO | exact zAm (by rw [hst,ho,List.take_length]; simp only [List.append_assoc,List.nil_append]) | rfl
     ·have hx0:x.tag≠[]:=by simpa using g4
      have ho:zDH x.tag=x.tag:=by unfold zDH; rw [if_neg hx0]
      have hol:=congrArg List.length ho
      try simp only [go_sem,List.length_append,List.length_cons,List.length_nil]
      repeat with_reducible refine zAc ?_
      refine zAr (fun m:Nat=>[(3,.pv (sv ((zAH (l.take i) true ++ zAX (p.steps.take j) p.links true ++ zGf n ++ x.tag) ++ zA8 (x.tests.take m)))),(7,.pv (iv m)),(65,.un)]) (fun m:Nat=>x.tests.length - m) (fun m:Nat=>m≤x.tests.length) (0) ?_ (Nat.zero_le _) ?_
      focus (simp only [go_sem,zAf,zAl,zAs,zAb]; all_goals (repeat' (first | exact trivial | exact zAi yO | exact zAh rfl | exact zAm rfl | exact zAn | exact le_refl _ | refine And.intro ?_ ?_)))
      ·exact zAm (by simp [zA8])
      intro m hm
      have hpt:=zA6 x.tests m
      try simp only [go_sem]
      repeat with_reducible refine zAc ?_
      refine zAa yF trivial (fun g5=>?_) (fun g5=>?_)
      ·have hml:m<x.tests.length:=by simp at g5; omega
       have htt:=zCo x.tests m hml
       have hpt1:=zA6 x.tests (m+1)
       have htv:=zBz x.tests m hml
       have hGt:=GTs.get x2 m hml
       obtain ⟨t,ht⟩:∃ t,t=x.tests.getD m default:=⟨_,rfl⟩
       rw [← ht] at htt htv hGt
       have hc:=hT t hGt
       rw [zBk] at hc htv
       have hll:=congrArg List.length htt
       rw [List.length_append] at hll
       try simp only [go_sem,htv]
       repeat with_reducible refine zAc ?_
       refine zAd yR (hc) ?_
       try simp only [go_sem,List.length_append]
       repeat with_reducible refine zAc ?_
       refine ⟨m+1,by omega,by omega,?_⟩
       simp only [go_sem,zAf,zAl,zAs,zAb]
       all_goals (repeat' (first | exact trivial | exact zAi yO | exact zAh rfl | exact zAm rfl | exact zAn | exact le_refl _ | refine And.intro ?_ ?_))
       all_goals first | exact zAb | exact zAi yO | exact zAm (by rw [htt]; simp only [List.append_assoc]) | rfl
      ·have hme:m=x.tests.length:=by simp at g5; omega
       subst hme
       try simp only [go_sem]
       repeat with_reducible refine zAc ?_
       refine ⟨j+1,by omega,by omega,?_⟩
       simp only [go_sem,zAf,zAl,zAs,zAb]
       all_goals (repeat' (first | exact trivial | exact zAi yO | exact zAh rfl | exact zAm rfl | exact zAn | exact le_refl _ | refine And.intro ?_ ?_))
       all_goals first | exact zAb | exact zAi yO | exact zAm (by rw [hst,ho,List.take_length]; simp only [List.append_assoc,List.nil_append]) | rfl
    ·have hj0:j=0:=by simp at g2; omega
     rw [if_pos hj0] at hst hpre1
     try simp only [go_sem,hpv,hsv,List.length_append]
     repeat with_reducible refine zAc ?_
     refine zAa yF trivial (fun g4=>?_) (fun g4=>?_)
     ·have hx0:x.tag=[]:=by simpa using g4
      have ho:zDH x.tag=[42] ++ x.tag:=by rw [hx0]; rfl
      have hol:=congrArg List.length ho
      simp only [List.length_append,List.length_cons,List.length_nil] at hol
      try simp only [go_sem,List.length_append,List.length_cons,List.length_nil]
      repeat with_reducible refine zAc ?_
      refine zAr (fun m:Nat=>[(3,.pv (sv ((zAH (l.take i) true ++ zAX (p.steps.take j) p.links true ++ [42] ++ x.tag) ++ zA8 (x.tests.take m)))),(7,.pv (iv m)),(65,.un)]) (fun m:Nat=>x.tests.length - m) (fun m:Nat=>m≤x.tests.length) (0) ?_ (Nat.zero_le _) ?_
      focus (simp only [go_sem,zAf,zAl,zAs,zAb]; all_goals (repeat' (first | exact trivial | exact zAi yO | exact zAh rfl | exact zAm rfl | exact zAn | exact le_refl _ | refine And.intro ?_ ?_)))
      ·exact zAm (by simp [zA8])
      intro m hm
      have hpt:=zA6 x.tests m
      try simp only [go_sem]
      repeat with_reducible refine zAc ?_
      refine zAa yF trivial (fun g5=>?_) (fun g5=>?_)
      ·have hml:m<x.tests.length:=by simp at g5; omega
       have htt:=zCo x.tests m hml
       have hpt1:=zA6 x.tests (m+1)
       have htv:=zBz x.tests m hml
       have hGt:=GTs.get x2 m hml
       obtain ⟨t,ht⟩:∃ t,t=x.tests.getD m default:=⟨_,rfl⟩
       rw [← ht] at htt htv hGt
       have hc:=hT t hGt
       rw [zBk] at hc htv
       have hll:=congrArg List.length htt
       rw [List.length_append] at hll
       try simp only [go_sem,htv]
       repeat with_reducible refine zAc ?_
       refine zAd yR (hc) ?_
       try simp only [go_sem,List.length_append]
       repeat with_reducible refine zAc ?_
       refine ⟨m+1,by omega,by omega,?_⟩
       simp only [go_sem,zAf,zAl,zAs,zAb]
       all_goals (repeat' (first | exact trivial | exact zAi yO | exact zAh rfl | exact zAm rfl | exact zAn | exact le_refl _ | refine And.intro ?_ ?_))
       all_goals first | exact zAb | exact zAi yO | exact zAm (by rw [htt]; simp only [List.append_assoc]) | rfl
      ·have hme:m=x.tests.length:=by simp at g5; omega
       subst hme
       try simp only [go_sem]
       repeat with_reducible refine zAc ?_
       refine ⟨j+1,by omega,by omega,?_⟩
       simp only [go_sem,zAf,zAl,zAs,zAb]
       all_goals (repeat' (first | exact trivial | exact zAi yO | exact zAh rfl | exact zAm rfl | exact zAn | exact le_refl _ | refine And.intro ?_ ?_))
       all_goals first | exact zAb | exact zAi yO | exact zAm (by rw [hst,ho,List.take_length]; simp only [List.append_assoc,List.nil_append]) | rfl
     ·have hx0:x.tag≠[]:=by simpa using g4
      have ho:zDH x.tag=x.tag:=by unfold zDH; rw [if_neg hx0]
      have hol:=congrArg List.length ho
      try simp only [go_sem,List.length_append,List.length_cons,List.length_nil]
      repeat with_reducible refine zAc ?_
      refine zAr (fun m:Nat=>[(3,.pv (sv ((zAH (l.take i) true ++ zAX (p.steps.take j) p.links true ++ x.tag) ++ zA8 (x.tests.take m)))),(7,.pv (iv m)),(65,.un)]) (fun m:Nat=>x.tests.length - m) (fun m:Nat=>m≤x.tests.length) (0) ?_ (Nat.zero_le _) ?_
      focus (simp only [go_sem,zAf,zAl,zAs,zAb]; all_goals (repeat' (first | exact trivial | exact zAi yO | exact zAh rfl | exact zAm rfl | exact zAn | exact le_refl _ | refine And.intro ?_ ?_)))
      ·exact zAm (by simp [zA8])
      intro m hm
      have hpt:=zA6 x.tests m
      try simp only [go_sem]
      repeat with_reducible refine zAc ?_
      refine zAa yF trivial (fun g5=>?_) (fun g5=>?_)
      ·have hml:m<x.tests.length:=by simp at g5; omega
       have htt:=zCo x.tests m hml
       have hpt1:=zA6 x.tests (m+1)
       have htv:=zBz x.tests m hml
       have hGt:=GTs.get x2 m hml
       obtain ⟨t,ht⟩:∃ t,t=x.tests.getD m default:=⟨_,rfl⟩
       rw [← ht] at htt htv hGt
       have hc:=hT t hGt
       rw [zBk] at hc htv
       have hll:=congrArg List.length htt
       rw [List.length_append] at hll
       try simp only [go_sem,htv]
       repeat with_reducible refine zAc ?_
       refine zAd yR (hc) ?_
       try simp only [go_sem,List.length_append]
       repeat with_reducible refine zAc ?_
       refine ⟨m+1,by omega,by omega,?_⟩
       simp only [go_sem,zAf,zAl,zAs,zAb]
       all_goals (repeat' (first | exact trivial | exact zAi yO | exact zAh rfl | exact zAm rfl | exact zAn | exact le_refl _ | refine And.intro ?_ ?_))
       all_goals first | exact zAb | exact zAi yO | exact zAm (by rw [htt]; simp only [List.append_assoc]) | rfl
      ·have hme:m=x.tests.length:=by simp at g5; omega
       subst hme
       try simp only [go_sem]
       repeat with_reducible refine zAc ?_
       refine ⟨j+1,by omega,by omega,?_⟩
       simp only [go_sem,zAf,zAl,zAs,zAb]
       all_goals (repeat' (first | exact trivial | exact zAi yO | exact zAh rfl | exact zAm rfl | exact zAn | exact le_refl _ | refine And.intro ?_ ?_))
       all_goals first | exact zAb | exact zAi yO | exact zAm (by rw [hst,ho,List.take_length]; simp only [List.append_assoc,List.nil_append]) | rfl
   ·have hje:j=p.steps.length:=by simp at g1; omega
    subst hje
    try simp only [go_sem]
    repeat with_reducible refine zAc ?_
    refine ⟨i+1,by omega,by omega,?_⟩
    simp only [go_sem,zAf,zAl,zAs,zAb]
    all_goals (repeat' (first | exact trivial | exact zAi yO | exact zAh rfl | exact zAm rfl | exact zAn | exact le_refl _ | refine And.intro ?_ ?_))
    all_goals first | exact zAb | exact zAi yO | exact zAm (by rw [hpt1,List.take_length,zRr]; simp only [List.append_assoc,List.nil_append]) | rfl
 ·have hie:i=l.length:=by simp at g0; omega
  subst hie
  try simp only [go_sem,List.take_length]
  repeat with_reducible refine zAc ?_
  exact zAq rfl trivial (.inl rfl)
theorem zZm:∀ n d:Nat,1≤d→d+n=4→(∀ l:List Pt,GL l d→Contract Tryz.prog zA2 [.val (zBf l)] { res:=.val (sv (zG6 l)) })
 |0,d,hd,hn=>fun l hl=>absurd hl.1 yO
 |n+1,d,hd,hn=>fun l hl=>zR9 d hd (fun t ht=>zTJ d hd (zZm n (d+1) yO yO) t ht) l hl
theorem zE5 (l:List Pt) (h:zA0 l=0):Contract Tryz.prog zA2 [.val (zBf l)] { res:=.val (sv (zG6 l)) }:=
 zZm 3 1 (Nat.le_refl _) rfl l (yEc h)
end Go.Hx
end

section
set_option maxRecDepth 100000
set_option linter.unusedSimpArgs false
namespace Go.Hx
open Go.Proofs Go.RowKit
attribute [local instance] zBi
attribute [local go_sem] zAC zAz zAB zAw ndV zAx zAv zBW zBb zA7 zBB zBh zBk
attribute [local go_sem] reduceCtorEq Nat.reduceAdd Nat.reduceEqDiff reduceIte Nat.reduceLeDiff Nat.reduceLT Nat.reduceSub
def zUx:Nat→Bys→Int
 |0,s=>kd s
 |1,s=>if zAj s [94,61,34] then 5 else if zAj s [36,61,34] then 6 else if zAj s [42,61,34] then 7 else if zAj s [126,61,34] then 8 else 3
 |2,s=>if zAj s [36,61,34] then 6 else if zAj s [42,61,34] then 7 else if zAj s [126,61,34] then 8 else 3
 |3,s=>if zAj s [42,61,34] then 7 else if zAj s [126,61,34] then 8 else 3
 |4,s=>if zAj s [126,61,34] then 8 else 3
 |_,_=>3
set_option maxHeartbeats 16000000 in
theorem zLX (s:Bys):Contract Tryz.prog zDu [.io [bS s]] { res:=.val (.agg (tsV (zXE s).1)),io:=[bS (zXE s).2] }:=by
 have hm0:maxLen=9223372036854775807:=rfl
 refine mkA zJX (base:=36) ⟨Nat.le_of_ble_eq_true rfl,Nat.le_of_ble_eq_true rfl,Nat.le_of_ble_eq_true rfl,⟨rfl,rfl⟩⟩ (fun hfit=>?_) (fun _ _=>rfl)
 unfold F0 zFs
 simp only [yIn,Nat.reduceAdd,Nat.reduceSub]
 try simp only [go_sem]
 repeat with_reducible refine zAc ?_
 refine zAd yR (zCL s) ?_
 try simp only [go_sem]
 repeat with_reducible refine zAc ?_
 obtain ⟨r,hr⟩:∃ r,r=nmR s:=⟨_,rfl⟩
 have hr2:s.dropWhile nameCh=r:=hr.symm
 have hn2:s.takeWhile nameCh=zDG s:=rfl
 rw [hr2,hn2]
 refine zAr (fun x:Nat × Bool=>[(36,.pv (.one (bS (bif x.2 then zAg (vlD (atS s)) [34] else r)))),(43,.pv (.one (bI (bif x.2 then kd r else 3)))),(45,.pv (.one (bS (bif x.2 then vlO (atS s) else [])))),(44,.pv (.one (bS (zDG s)))),(46,.pv (.one (bI 0))),(47,.pv (.one (bI 0))),(48,.pv (.one (.nl 2))),(5,.pv (iv x.1)),(11,.un),(24,.un)]) (fun x:Nat × Bool=>5 - x.1) (fun x:Nat × Bool=>x.1≤5∧(x.2=true→kd r≠3)∧(x.2=false→kd r=zUx x.1 r)) ((0,false)) ?_ ⟨Nat.zero_le _,fun h=>(by cases h),fun _=>rfl⟩ ?_
 focus (simp only [go_sem,zAf,zAl,zAs,zAb]; all_goals (repeat' (first | exact trivial | exact zAi yO | exact zAh rfl | exact zAm rfl | exact zAn | exact le_refl _ | refine And.intro ?_ ?_)))
 rintro ⟨i,b⟩ ⟨hi,hb,k1⟩
 simp only at hi hb k1
 cases b with
 |true=>
  have hne:=hb rfl
  have hnb:(kd r == 3)=false:=by rw [beq_eq_false_iff_ne]; exact hne
  try simp only [go_sem,cond_true]
  repeat with_reducible refine zAc ?_
  refine zAa yF trivial (fun g0=>?_) (fun g0=>?_)
  ·have hlt:i<5:=by simp at g0; omega
   try simp only [go_sem,cond_true,hnb]
   repeat with_reducible refine zAc ?_
   refine yCf (by first | rfl | (simp; done)) ?_
   try simp only [go_sem,cond_true,hnb]
   repeat with_reducible refine zAc ?_
   refine zAa yF trivial (fun g1=>?_) (fun g1=>?_)
   ·cases g1
   ·try simp only [go_sem,cond_true]
    repeat with_reducible refine zAc ?_
    refine ⟨(i+1,true),by simp only; omega,⟨by simp only; omega,fun _=>hne,fun h=>(by cases h)⟩,?_⟩
    simp only [go_sem,zAf,zAl,zAs,zAb]
    all_goals (repeat' (first | exact trivial | exact zAi yO | exact zAh rfl | exact zAm rfl | exact zAn | exact le_refl _ | refine And.intro ?_ ?_))
    all_goals first | exact zAb | exact zAi (by simp only; omega) | exact zAm rfl | rfl
  ·try simp only [go_sem,cond_true]
   repeat with_reducible refine zAc ?_
   refine zAd yR (zAk (zAg (vlD (atS s)) [34]) [93]) ?_
   try simp only [go_sem]
   repeat with_reducible refine zAc ?_
   have ea:zXE s=(.mk (kd (nmR s)) (zDG s) (vlO (atS s)) 0 0 [],zAg (zAg (vlD (atS s)) [34]) [93]):=by unfold zXE; rw [if_neg (by rw [← hr]; exact hne)]
   rw [ea,← hr]
   exact zEX rfl rfl yF rfl rfl
 |false=>
  have k1:=k1 rfl
  rcases (by omega:i=0∨i=1∨i=2∨i=3∨i=4∨i=5) with rfl | rfl | rfl | rfl | rfl | rfl
  ·have h33:((3:Int) == 3)=true:=rfl
   have k2:kd r=(if zAj r [61,34] then 4 else zUx 1 r):=by rw [k1]; rfl
   try simp only [go_sem,cond_false]
   repeat with_reducible refine zAc ?_
   refine zAa yF trivial (fun g0=>?_) (fun g0=>?_)
   ·try simp only [go_sem,cond_false,h33,List.getD_cons_zero,List.getD_cons_succ,List.length_cons,List.length_nil]
    repeat with_reducible refine zAc ?_
    refine zGu (by first | rfl | (simp; done)) yR (zAk r [61,34]) ?_
    try simp only [go_sem,cond_false,h33]
    repeat with_reducible refine zAc ?_
    cases hg:zAj r [61,34] with
    |true=>
     rw [hg,if_pos rfl] at k2
     have hat:atS s=zAg r [61,34]:=by unfold atS; rw [← hr,k2]; rfl
     refine zAa yF trivial (fun g1=>?_) (fun g1=>?_)
     ·try simp only [go_sem,cond_false]
      repeat with_reducible refine zAc ?_
      refine zAd yR (zBY (zAg r [61,34])) ?_
      try simp only [go_sem]
      repeat with_reducible refine zAc ?_
      refine zAd yR (zAk (vlD (zAg r [61,34])) [34]) ?_
      try simp only [go_sem]
      repeat with_reducible refine zAc ?_
      refine ⟨(1,true),by simp only; omega,⟨by simp only; omega,fun _=>(by rw [k2]; decide),fun h=>(by cases h)⟩,?_⟩
      simp only [go_sem,zAf,zAl,zAs,zAb]
      all_goals (repeat' (first | exact trivial | exact zAi yO | exact zAh rfl | exact zAm rfl | exact zAn | exact le_refl _ | refine And.intro ?_ ?_))
      all_goals first | exact zAb | exact zAm (by rw [hat]; rfl) | exact zAm (by rw [hat]) | exact zAm (by rw [k2]; rfl) | exact zAm (by rw [k2]) | exact zAm (by simp only [cond_true,k2,hat]; rfl) | rfl
     ·simp [hg] at g1
    |false=>
     have e0:zAg r [61,34]=r:=by unfold zAg; rw [hg]; rfl
     rw [hg] at k2
     refine zAa yF trivial (fun g1=>?_) (fun g1=>?_)
     ·simp [hg] at g1
     ·try simp only [go_sem,cond_false]
      repeat with_reducible refine zAc ?_
      rw [e0]
      refine ⟨(1,false),by simp only; omega,⟨by simp only; omega,fun h=>(by cases h),fun _=>(by rw [k2]; rfl)⟩,?_⟩
      simp only [go_sem,zAf,zAl,zAs,zAb]
      all_goals (repeat' (first | exact trivial | exact zAi yO | exact zAh rfl | exact zAm rfl | exact zAn | exact le_refl _ | refine And.intro ?_ ?_))
      all_goals first | exact zAb | exact zAm rfl | rfl
   ·simp at g0
  ·have h33:((3:Int) == 3)=true:=rfl
   have k2:kd r=(if zAj r [94,61,34] then 5 else zUx 2 r):=by rw [k1]; rfl
   try simp only [go_sem,cond_false]
   repeat with_reducible refine zAc ?_
   refine zAa yF trivial (fun g0=>?_) (fun g0=>?_)
   ·try simp only [go_sem,cond_false,h33,List.getD_cons_zero,List.getD_cons_succ,List.length_cons,List.length_nil]
    repeat with_reducible refine zAc ?_
    refine zGu (by first | rfl | (simp; done)) yR (zAk r [94,61,34]) ?_
    try simp only [go_sem,cond_false,h33]
    repeat with_reducible refine zAc ?_
    cases hg:zAj r [94,61,34] with
    |true=>
     rw [hg,if_pos rfl] at k2
     have hat:atS s=zAg r [94,61,34]:=by unfold atS; rw [← hr,k2]; rfl
     refine zAa yF trivial (fun g1=>?_) (fun g1=>?_)
     ·try simp only [go_sem,cond_false]
      repeat with_reducible refine zAc ?_
      refine zAd yR (zBY (zAg r [94,61,34])) ?_
      try simp only [go_sem]
      repeat with_reducible refine zAc ?_
      refine zAd yR (zAk (vlD (zAg r [94,61,34])) [34]) ?_
      try simp only [go_sem]
      repeat with_reducible refine zAc ?_
      refine ⟨(2,true),by simp only; omega,⟨by simp only; omega,fun _=>(by rw [k2]; decide),fun h=>(by cases h)⟩,?_⟩
      simp only [go_sem,zAf,zAl,zAs,zAb]
      all_goals (repeat' (first | exact trivial | exact zAi yO | exact zAh rfl | exact zAm rfl | exact zAn | exact le_refl _ | refine And.intro ?_ ?_))
      all_goals first | exact zAb | exact zAm (by rw [hat]; rfl) | exact zAm (by rw [hat]) | exact zAm (by rw [k2]; rfl) | exact zAm (by rw [k2]) | exact zAm (by simp only [cond_true,k2,hat]; rfl) | rfl
     ·simp [hg] at g1
    |false=>
     have e0:zAg r [94,61,34]=r:=by unfold zAg; rw [hg]; rfl
     rw [hg] at k2
     refine zAa yF trivial (fun g1=>?_) (fun g1=>?_)
     ·simp [hg] at g1
     ·try simp only [go_sem,cond_false]
      repeat with_reducible refine zAc ?_
      rw [e0]
      refine ⟨(2,false),by simp only; omega,⟨by simp only; omega,fun h=>(by cases h),fun _=>(by rw [k2]; rfl)⟩,?_⟩
      simp only [go_sem,zAf,zAl,zAs,zAb]
      all_goals (repeat' (first | exact trivial | exact zAi yO | exact zAh rfl | exact zAm rfl | exact zAn | exact le_refl _ | refine And.intro ?_ ?_))
      all_goals first | exact zAb | exact zAm rfl | rfl
   ·simp at g0
  ·have h33:((3:Int) == 3)=true:=rfl
   have k2:kd r=(if zAj r [36,61,34] then 6 else zUx 3 r):=by rw [k1]; rfl
   try simp only [go_sem,cond_false]
   repeat with_reducible refine zAc ?_
   refine zAa yF trivial (fun g0=>?_) (fun g0=>?_)
   ·try simp only [go_sem,cond_false,h33,List.getD_cons_zero,List.getD_cons_succ,List.length_cons,List.length_nil]
    repeat with_reducible refine zAc ?_
    refine zGu (by first | rfl | (simp; done)) yR (zAk r [36,61,34]) ?_
    try simp only [go_sem,cond_false,h33]
    repeat with_reducible refine zAc ?_
    cases hg:zAj r [36,61,34] with
    |true=>
     rw [hg,if_pos rfl] at k2
     have hat:atS s=zAg r [36,61,34]:=by unfold atS; rw [← hr,k2]; rfl
     refine zAa yF trivial (fun g1=>?_) (fun g1=>?_)
     ·try simp only [go_sem,cond_false]
      repeat with_reducible refine zAc ?_
      refine zAd yR (zBY (zAg r [36,61,34])) ?_
      try simp only [go_sem]
      repeat with_reducible refine zAc ?_
      refine zAd yR (zAk (vlD (zAg r [36,61,34])) [34]) ?_
      try simp only [go_sem]
      repeat with_reducible refine zAc ?_
      refine ⟨(3,true),by simp only; omega,⟨by simp only; omega,fun _=>(by rw [k2]; decide),fun h=>(by cases h)⟩,?_⟩
      simp only [go_sem,zAf,zAl,zAs,zAb]
      all_goals (repeat' (first | exact trivial | exact zAi yO | exact zAh rfl | exact zAm rfl | exact zAn | exact le_refl _ | refine And.intro ?_ ?_))
      all_goals first | exact zAb | exact zAm (by rw [hat]; rfl) | exact zAm (by rw [hat]) | exact zAm (by rw [k2]; rfl) | exact zAm (by rw [k2]) | exact zAm (by simp only [cond_true,k2,hat]; rfl) | rfl
     ·simp [hg] at g1
    |false=>
     have e0:zAg r [36,61,34]=r:=by unfold zAg; rw [hg]; rfl
     rw [hg] at k2
     refine zAa yF trivial (fun g1=>?_) (fun g1=>?_)
     ·simp [hg] at g1
     ·try simp only [go_sem,cond_false]
      repeat with_reducible refine zAc ?_
      rw [e0]
      refine ⟨(3,false),by simp only; omega,⟨by simp only; omega,fun h=>(by cases h),fun _=>(by rw [k2]; rfl)⟩,?_⟩
      simp only [go_sem,zAf,zAl,zAs,zAb]
      all_goals (repeat' (first | exact trivial | exact zAi yO | exact zAh rfl | exact zAm rfl | exact zAn | exact le_refl _ | refine And.intro ?_ ?_))
      all_goals first | exact zAb | exact zAm rfl | rfl
   ·simp at g0
  ·have h33:((3:Int) == 3)=true:=rfl
   have k2:kd r=(if zAj r [42,61,34] then 7 else zUx 4 r):=by rw [k1]; rfl
   try simp only [go_sem,cond_false]
   repeat with_reducible refine zAc ?_
   refine zAa yF trivial (fun g0=>?_) (fun g0=>?_)
   ·try simp only [go_sem,cond_false,h33,List.getD_cons_zero,List.getD_cons_succ,List.length_cons,List.length_nil]
    repeat with_reducible refine zAc ?_
    refine zGu (by first | rfl | (simp; done)) yR (zAk r [42,61,34]) ?_
    try simp only [go_sem,cond_false,h33]
    repeat with_reducible refine zAc ?_
    cases hg:zAj r [42,61,34] with
    |true=>
     rw [hg,if_pos rfl] at k2
     have hat:atS s=zAg r [42,61,34]:=by unfold atS; rw [← hr,k2]; rfl
     refine zAa yF trivial (fun g1=>?_) (fun g1=>?_)
     ·try simp only [go_sem,cond_false]
      repeat with_reducible refine zAc ?_
      refine zAd yR (zBY (zAg r [42,61,34])) ?_
      try simp only [go_sem]
      repeat with_reducible refine zAc ?_
      refine zAd yR (zAk (vlD (zAg r [42,61,34])) [34]) ?_
      try simp only [go_sem]
      repeat with_reducible refine zAc ?_
      refine ⟨(4,true),by simp only; omega,⟨by simp only; omega,fun _=>(by rw [k2]; decide),fun h=>(by cases h)⟩,?_⟩
      simp only [go_sem,zAf,zAl,zAs,zAb]
      all_goals (repeat' (first | exact trivial | exact zAi yO | exact zAh rfl | exact zAm rfl | exact zAn | exact le_refl _ | refine And.intro ?_ ?_))
      all_goals first | exact zAb | exact zAm (by rw [hat]; rfl) | exact zAm (by rw [hat]) | exact zAm (by rw [k2]; rfl) | exact zAm (by rw [k2]) | exact zAm (by simp only [cond_true,k2,hat]; rfl) | rfl
     ·simp [hg] at g1
    |false=>
     have e0:zAg r [42,61,34]=r:=by unfold zAg; rw [hg]; rfl
     rw [hg] at k2
     refine zAa yF trivial (fun g1=>?_) (fun g1=>?_)
     ·simp [hg] at g1
     ·try simp only [go_sem,cond_false]
      repeat with_reducible refine zAc ?_
      rw [e0]
      refine ⟨(4,false),by simp only; omega,⟨by simp only; omega,fun h=>(by cases h),fun _=>(by rw [k2]; rfl)⟩,?_⟩
      simp only [go_sem,zAf,zAl,zAs,zAb]
      all_goals (repeat' (first | exact trivial | exact zAi yO | exact zAh rfl | exact zAm rfl | exact zAn | exact le_refl _ | refine And.intro ?_ ?_))
      all_goals first | exact zAb | exact zAm rfl | rfl
   ·simp at g0
  ·have h33:((3:Int) == 3)=true:=rfl
   have k2:kd r=(if zAj r [126,61,34] then 8 else zUx 5 r):=by rw [k1]; rfl
   try simp only [go_sem,cond_false]
   repeat with_reducible refine zAc ?_
   refine zAa yF trivial (fun g0=>?_) (fun g0=>?_)
   ·try simp only [go_sem,cond_false,h33,List.getD_cons_zero,List.getD_cons_succ,List.length_cons,List.length_nil]
    repeat with_reducible refine zAc ?_
    refine zGu (by first | rfl | (simp; done)) yR (zAk r [126,61,34]) ?_
    try simp only [go_sem,cond_false,h33]
    repeat with_reducible refine zAc ?_
    cases hg:zAj r [126,61,34] with
    |true=>
     rw [hg,if_pos rfl] at k2
     have hat:atS s=zAg r [126,61,34]:=by unfold atS; rw [← hr,k2]; rfl
     refine zAa yF trivial (fun g1=>?_) (fun g1=>?_)
     ·try simp only [go_sem,cond_false]
      repeat with_reducible refine zAc ?_
      refine zAd yR (zBY (zAg r [126,61,34])) ?_
      try simp only [go_sem]
      repeat with_reducible refine zAc ?_
      refine zAd yR (zAk (vlD (zAg r [126,61,34])) [34]) ?_
      try simp only [go_sem]
      repeat with_reducible refine zAc ?_
      refine ⟨(5,true),by simp only; omega,⟨by simp only; omega,fun _=>(by rw [k2]; decide),fun h=>(by cases h)⟩,?_⟩
      simp only [go_sem,zAf,zAl,zAs,zAb]
      all_goals (repeat' (first | exact trivial | exact zAi yO | exact zAh rfl | exact zAm rfl | exact zAn | exact le_refl _ | refine And.intro ?_ ?_))
      all_goals first | exact zAb | exact zAm (by rw [hat]; rfl) | exact zAm (by rw [hat]) | exact zAm (by rw [k2]; rfl) | exact zAm (by rw [k2]) | exact zAm (by simp only [cond_true,k2,hat]; rfl) | rfl
     ·simp [hg] at g1
    |false=>
     have e0:zAg r [126,61,34]=r:=by unfold zAg; rw [hg]; rfl
     rw [hg] at k2
     refine zAa yF trivial (fun g1=>?_) (fun g1=>?_)
     ·simp [hg] at g1
     ·try simp only [go_sem,cond_false]
      repeat with_reducible refine zAc ?_
      rw [e0]
      refine ⟨(5,false),by simp only; omega,⟨by simp only; omega,fun h=>(by cases h),fun _=>(by rw [k2]; rfl)⟩,?_⟩
      simp only [go_sem,zAf,zAl,zAs,zAb]
      all_goals (repeat' (first | exact trivial | exact zAi yO | exact zAh rfl | exact zAm rfl | exact zAn | exact le_refl _ | refine And.intro ?_ ?_))
      all_goals first | exact zAb | exact zAm rfl | rfl
   ·simp at g0
  ·have k2:kd r=3:=by rw [k1]; rfl
   try simp only [go_sem,cond_false]
   repeat with_reducible refine zAc ?_
   refine zAa yF trivial (fun g0=>?_) (fun g0=>?_)
   ·simp at g0
   ·try simp only [go_sem,cond_false]
    repeat with_reducible refine zAc ?_
    refine zAd yR (zAk r [93]) ?_
    try simp only [go_sem]
    repeat with_reducible refine zAc ?_
    have ea:zXE s=(.mk 3 (zDG s) [] 0 0 [],zAg (nmR s) [93]):=by unfold zXE; rw [if_pos (by rw [← hr]; exact k2)]
    rw [ea,← hr]
    exact zEX rfl rfl yF rfl rfl
end Go.Hx
end
