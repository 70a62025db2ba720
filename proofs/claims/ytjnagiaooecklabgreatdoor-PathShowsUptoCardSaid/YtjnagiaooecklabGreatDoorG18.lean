/-
  Walks of functions of the program over an abstract layer, and the laws that they use: each contract says what the function computes, for every input that its conditions let by. No other condition.
-/
import Derived.Test.YtjnagiaooecklabGreatDoorG9
import Derived.Test.YtjnagiaooecklabGreatDoorG11
import Derived.Test.YtjnagiaooecklabGreatDoorG16
import Derived.Test.YtjnagiaooecklabGreatDoorG17
import Derived.Shelf.Strings.SlTrimAscii
import Derived.Test.YtjnagiaooecklabGreatDoorG12
set_option linter.all false
section
set_option maxRecDepth 100000
set_option linter.unusedSimpArgs false
namespace Go.Hx
open Go.Proofs Go.RowKit
variable [Glob]
attribute [local go_sem] zAC zAz zAB zAw ndV zAx
attribute [local go_sem] reduceCtorEq Nat.reduceAdd Nat.reduceEqDiff reduceIte Nat.reduceLeDiff Nat.reduceLT Nat.reduceSub
theorem zJt {R:Nat→Prop} {w w':World} (h:Below w.heap.size w w'):Pres R w w':=⟨h.os,h.tape,h.output,h.size,fun b hb _=>h.block b hb⟩
theorem zRf {m:Mem} {w w':World} (hm:MemOk m w) (h:Below w.heap.size w w'):MemOk m w':=fun b o u hu=>by
 have h1:=hm b o u hu
 have h2:b<w.heap.size:=World.block_lt_of_cell? w _ h1
 rw [← h1]
 exact World.cell?_of_block (h.block b h2)
theorem zWv {R:Nat→Prop} {w w':World} (h:Pres R w w') (hR:∀ b,¬ R b):Below w.heap.size w w':=⟨h.os,h.tape,h.output,h.size,fun b hb=>h.block b hb (hR b)⟩
theorem zWw {m:Mem} {w w':World} {avs:List AV} {us:List Value} {e:Ending} {x:PVal} {u:Value} (hm:MemOk m w) (h:Below w.heap.size w w') (he:e = .returned u) (hx:RpV m x u) (hio:ioB avs us=none):yEO m w avs us { res:=.val x } e w':=
 ⟨m,m.le_refl,zRf hm h,zJt h,fun _ _ _ h=>.inl h,(fun b hb=>by rw [hio] at hb; cases hb),u,he,hx⟩
theorem yCH {w w':World} (h:Below w.heap.size w w') (hG:Glob.ok w):Glob.ok w':=
 Glob.keep _ _ (fun b hb=>h.block b (Nat.lt_of_lt_of_le hb (Glob.size _ hG))) hG
theorem yDW (s cs:Bys):(Lib.trimS s cs).length≤s.length:=by
 unfold Lib.trimS Lib.trimLeftS Lib.trimRightS
 refine Nat.le_trans (List.dropWhile_sublist _).length_le ?_
 rw [List.length_reverse]
 refine Nat.le_trans (List.dropWhile_sublist _).length_le ?_
 rw [List.length_reverse]
 exact Nat.le_refl _
theorem zGD {s:Bys} (h:s.length≤maxLen):zEH (mkS s)=true:=by
 simp only [zEH]
 exact decide_eq_true (by simpa [ByteArray.size] using h)
theorem zG3 {s:Bys} (h:zEH (mkS s)=true):s.length≤maxLen:=by
 simp only [zEH,decide_eq_true_eq] at h
 simpa [ByteArray.size] using h
theorem zTE (s cs:Bys) (hc:cs.length<1000) (ha:cs.all (fun b=>decide (b.toNat<128))=true):Contract Tryz.prog zEu [.val (sv s),.val (sv cs)] { res:=.val (sv (Lib.trimS s cs)) }:=by
 refine ⟨by kernel_rfl,fun m w us hm hargs _ hG _=>?_⟩
 obtain ⟨u1,us1,rfl,h1,u2,us2,rfl,h2,rfl⟩:=hargs
 obtain ⟨rfl,f1⟩:=h1
 obtain ⟨rfl,f2⟩:=h2
 have hs:=zG3 f1
 have hT:=Any.strings_Trim_laid Tryz.l160 (by kernel_rfl) ⟨s.toArray⟩ ⟨cs.toArray⟩ w (by simpa [ByteArray.size,maxLen] using hs) (by simp [ByteArray.size]; omega) (ascii_of_all (by simpa using ha))
 change Calls Tryz.prog zEu _ _ _ at hT
 refine hT.mono fun e w' ⟨he,hb⟩=>zWw hm hb he ⟨by simp,?_⟩ rfl
 exact zGD (Nat.le_trans (yDW s cs) hs)
theorem zDF (s:Bys) (g:Nat) (p:Nat→Bool) (hp:∀ r,128≤r→p r=true) (eg:∀ args w,(callFunc g args).run Tryz.prog w = .ok (.enter g args) w)
  (hg:∀ r:Nat,Contract Tryz.prog g [.val (.one (.v (.int .i32 r)))] { res:=.val (bv (p r)) }) :
  Contract Tryz.prog zBy [.val (sv s),.val (.one (.clo g []))] { res:=.val (bv (!s.all (fun b=>decide (b.toNat<128) && !p b.toNat))) }:=by
 refine ⟨by kernel_rfl,fun m w us hm hargs _ hG _=>?_⟩
 obtain ⟨u1,us1,rfl,h1,u2,us2,rfl,h2,rfl⟩:=hargs
 obtain ⟨rfl,f1⟩:=h1
 obtain ⟨us,rfl,hus⟩:=h2
 obtain rfl:us=[]:=by simpa [RpL] using hus
 have hpg:PredGrows Tryz.prog g #[] p w:=fun W x _ hbW=>by
  refine ((hg x).2 (fun _ _=>none) W [.int .i32 x] (fun _ _ _ h=>by cases h) ⟨_,_,rfl,⟨rfl,rfl⟩,rfl⟩ (by intro g h; cases h) (yCH hbW hG) (by rintro b (h | h) <;> cases h)).mono fun e W' ⟨m',_,_,hpr,_,_,u,hu,hr⟩=>?_
  obtain rfl:u = .bool (p x):=hr.1
  exact ⟨hu,zWv hpr (by intro b h; rcases h with h | h <;> cases h)⟩
 have hT:=Any.strings_ContainsFunc_grows Tryz.l17 g #[] eg p ⟨s.toArray⟩ w hpg
 change Calls Tryz.prog zBy _ _ _ at hT
 rw [yHS hp] at hT
 exact hT.mono fun e w' ⟨he,hb⟩=>zWw hm hb he ⟨rfl,rfl⟩ rfl
def yCI (r:Nat):Bool:=((decide (r<97) || decide (122<r)) && (decide (r<48) || decide (57<r))) && decide (r≠45)
def zUi (r:Nat):Bool:=decide (r<32) || decide (126<r) || decide (r=34)
theorem zYL (r:Nat):Contract Tryz.prog zCG [.val (.one (.v (.int .i32 r)))] { res:=.val (bv (yCI r)) }:=by
 refine mkA zVy (base:=0) (fo rfl) (fun hfit=>?_)
 unfold F0 zMh
 simp only [yIn,Nat.reduceAdd,Nat.reduceSub]
 try simp only [go_sem]
 repeat with_reducible refine zAc ?_
 refine zAq rfl trivial (.inl ?_)
 congr 3
 unfold yCI
 grind
theorem zWx (r:Nat):Contract Tryz.prog zCm [.val (.one (.v (.int .i32 r)))] { res:=.val (bv (zUi r)) }:=by
 refine mkA zSP (base:=0) (fo rfl) (fun hfit=>?_)
 unfold F0 zJb
 simp only [yIn,Nat.reduceAdd,Nat.reduceSub]
 try simp only [go_sem]
 repeat with_reducible refine zAc ?_
 refine zAq rfl trivial (.inl ?_)
 congr 3
 unfold zUi
 grind
theorem yHT:∀ args w,(callFunc zCG args).run Tryz.prog w = .ok (.enter zCG args) w:=enters_of Tryz.func239 (by kernel_rfl) rfl
theorem yHU:∀ args w,(callFunc zCm args).run Tryz.prog w = .ok (.enter zCm args) w:=enters_of Tryz.func240 (by kernel_rfl) rfl
theorem zLP {α:Type} {l:List α} {p q:α→Bool} (h:∀ x,p x=q x):l.all p=l.all q:=by rw [show p=q from funext h]
theorem yJF (b:UInt8):(decide (b.toNat<128) && !zUi b.toNat)=zZQ b:=by
 unfold zUi zZQ
 grind
theorem yHV (b:UInt8):(decide (b.toNat<128) && !yCI b.toNat)=nameCh b:=by
 unfold yCI nameCh
 grind
theorem yGA (b:UInt8):([97,98,99,100,101,102,103,104,105,106,107,108,109,110,111,112,113,114,115,116,117,118,119,120,121,122,48,49,50,51,52,53,54,55,56,57,45]:Bys).contains b=nameCh b:=by
 have h:∀ n:Fin 256,([97,98,99,100,101,102,103,104,105,106,107,108,109,110,111,112,113,114,115,116,117,118,119,120,121,122,48,49,50,51,52,53,54,55,56,57,45]:Bys).contains (UInt8.ofFin n)=nameCh (UInt8.ofFin n):=by decide +kernel
 exact h b.toFin
theorem yAC (s:Bys):Contract Tryz.prog zGw [.val (sv s)] { res:=.val (bv (zCR s)) }:=by
 refine mkA zYb (base:=0) (fo rfl) (fun hfit=>?_)
 unfold F0 zQp
 simp only [yIn,Nat.reduceAdd,Nat.reduceSub]
 try simp only [go_sem]
 repeat with_reducible refine zAc ?_
 apply zAA (h2:=fun _=>zDF s zCm zUi (by intro r h; unfold zUi; grind) yHU zWx)
 ·(simp only [go_sem]; rfl)
 ·intro h; repeat' (first | exact trivial | exact h | refine And.intro ?_ ?_)
 try simp only [go_sem]
 repeat with_reducible refine zAc ?_
 refine zAq rfl trivial (.inl ?_)
 congr 3
 rw [zLP yJF,zCR]
 grind
theorem zUj (s:Bys):Contract Tryz.prog zFT [.val (sv s)] { res:=.val (bv (zB3 s)) }:=by
 refine mkA yAi (base:=0) (fo rfl) (fun hfit=>?_)
 unfold F0 zUh
 simp only [yIn,Nat.reduceAdd,Nat.reduceSub]
 try simp only [go_sem]
 repeat with_reducible refine zAc ?_
 apply zAA (h2:=fun _=>zTE s _ (by decide) (by decide))
 ·(simp only [go_sem]; rfl)
 ·intro h; repeat' (first | exact trivial | exact h | refine And.intro ?_ ?_)
 try simp only [go_sem]
 repeat with_reducible refine zAc ?_
 apply zAA (h2:=fun _=>zDF s zCG yCI (by intro r h; unfold yCI; grind) yHT zYL)
 ·(simp only [go_sem]; rfl)
 ·intro h; repeat' (first | exact trivial | exact h | refine And.intro ?_ ?_)
 try simp only [go_sem]
 repeat with_reducible refine zAc ?_
 refine zAq rfl trivial (.inl ?_)
 congr 3
 rw [zLP yHV,yFG,zLP yGA,zB3]
 grind
end Go.Hx
end

section
set_option maxRecDepth 100000
set_option linter.unusedSimpArgs false
namespace Go.Hx
open Go.Proofs
variable [Glob]
attribute [local go_sem] zAC zAz zAB zAw ndV zAx zAv fdV shV zBf zBW zBb zA7
attribute [local go_sem] reduceCtorEq Nat.reduceAdd Nat.reduceEqDiff reduceIte Nat.reduceLeDiff Nat.reduceLT Nat.reduceSub
theorem yEu (N:Nat) (ih:yLd Tryz.prog N) (s:St) (d K:Nat) (c:Fd) (hN:SizeOf.sizeOf s≤N+1) (hd:d≤3) (hc:c.le K) (hK:K+bdS d≤1000000000):Contract Tryz.prog zCH [.io (fdV c),.val (.agg (stV s)),.val (iv d)] { res:=.tup [],io:=fdV (c.add (ntS s d)) }:=by
 rw [zBh]
 unfold fdV
 refine mkA zLt (base:=121) ⟨Nat.le_of_ble_eq_true rfl,Nat.le_of_ble_eq_true rfl,Nat.le_of_ble_eq_true rfl,⟨rfl,rfl⟩⟩ (fun hfit=>?_)
 unfold F0 zGb
 simp only [yIn,Nat.reduceAdd,Nat.reduceSub]
 try simp only [go_sem]
 repeat with_reducible refine zAc ?_
 have hbs:bdS d=1+6 * bdT d:=rfl
 have hbt:bdT d=5+bd (d+1):=rfl
 refine zAa yF trivial (fun h=>?_) (fun h=>?_)
 ·have e:ntS s d=fM true:=by rw [yGD,if_pos (by simp at h; omega)]
  have hm:=hc.m
  try simp only [go_sem]
  repeat with_reducible refine zAc ?_
  refine zCq yR (zWK c true yO) ?_
  try simp only [go_sem]
  repeat with_reducible refine zAc ?_
  rw [e]
  exact zU6 rfl rfl
 ·have hl6:s.tests.length≤6:=by simp at h; omega
  have e:ntS s d=(fF (!(s.tag == []) && !zB3 s.tag)).add (yBx s.tests d):=by rw [yGD,if_neg yO]
  rw [e]
  try simp only [go_sem]
  repeat with_reducible refine zAc ?_
  have hf:=hc.f
  apply zAA (h2:=fun _=>zUj s.tag)
  ·(simp only [go_sem]; rfl)
  ·intro h; repeat' (first | exact trivial | exact h | refine And.intro ?_ ?_)
  try simp only [go_sem]
  repeat with_reducible refine zAc ?_
  refine zCq yR (zPz c (bif !(s.tag == []) then !zB3 s.tag else false) yO) ?_
  try simp only [go_sem,Bool.cond_false_right]
  repeat with_reducible refine zAc ?_
  obtain ⟨c1,hc1⟩:∃ c1,c1=c.add (fF (!(s.tag == []) && !zB3 s.tag)):=⟨_,rfl⟩
  have hc2:c1.le (K+1):=by rw [hc1]; exact hc.le_add (zYQ _)
  rw [← Fd.add_assoc,← hc1]
  have hK0:K+1+(s.tests.length - 0) * bdT d≤1000000000:=by
   have:(s.tests.length - 0) * bdT d≤6 * bdT d:=Nat.mul_le_mul_right _ yO
   omega
  refine zAr (fun x:Nat × Fd=>[(7,.un),(8,.un),(9,.un),(30,.pv (iv x.1)),(31,.un),(113,.un),(122,.pv (.one (bI x.2.f))),(123,.pv (.one (bI x.2.m))),(124,.pv (.one (bI x.2.r))),(125,.pv (.one (bI x.2.k)))]) (fun x:Nat × Fd=>s.tests.length - x.1) (fun x:Nat × Fd=>x.1≤s.tests.length∧(∃ K',x.2.le K'∧K'+(s.tests.length - x.1) * bdT d≤1000000000)∧x.2.add (yBx (s.tests.drop x.1) d)=c1.add (yBx s.tests d)) ((0,c1)) ?_ ⟨Nat.zero_le _,⟨K+1,hc2,hK0⟩,by simp⟩ ?_
  focus (simp only [go_sem,zAf,zAl,zAs,zAb]; all_goals exact yLe)
  rintro ⟨i,a⟩ ⟨hi,⟨K',ha,hK'⟩,hsum⟩
  simp only at hi ha hK' hsum
  try simp only [go_sem]
  repeat with_reducible refine zAc ?_
  refine zAa yF trivial (fun h2=>?_) (fun h2=>?_)
  ·have hil:i<s.tests.length:=by simp at h2; omega
   rw [zBc (d:=default) hil] at hsum
   obtain ⟨t,ht⟩:∃ t,t=s.tests.getD i default:=⟨_,rfl⟩
   rw [← ht] at hsum
   have hg:=zBz s.tests i hil
   rw [← ht,zBk] at hg
   have hsz:SizeOf.sizeOf t.list≤N:=by
    have h3:=zLR t
    have h4:=yCJ hil
    rw [← ht] at h4
    have h5:=zG4 s
    omega
   have hmul:(s.tests.length - i) * bdT d=bdT d+(s.tests.length - (i+1)) * bdT d:=by
    have:s.tests.length - i=(s.tests.length - (i+1))+1:=by omega
    rw [this,Nat.add_mul]; omega
   have hbp:=zWB (4 - (d+1))
   have hbe:bd (d+1)=bdF (4 - (d+1)):=rfl
   simp only [yBx,yJI,yEX] at hsum
   try simp only [go_sem,hg]
   repeat with_reducible refine zAc ?_
   refine zAE yR (zY0 t.kind) ?_
   try simp only [go_sem,hg]
   repeat with_reducible refine zAc ?_
   have a1:=ha.k
   refine zCq yR (yBN a (!kOk t.kind) yO) ?_
   try simp only [go_sem]
   repeat with_reducible refine zAc ?_
   obtain ⟨b1,hb1⟩:∃ b1,b1=a.add (fK (!kOk t.kind)):=⟨_,rfl⟩
   have l1:b1.le (K'+1):=by rw [hb1]; exact ha.le_add (yHZ _)
   rw [← hb1]
   have a2:=l1.f
   apply zAA (h2:=fun _=>zUj t.name)
   ·(simp only [go_sem]; rfl)
   ·intro h; repeat' (first | exact trivial | exact h | refine And.intro ?_ ?_)
   try simp only [go_sem]
   repeat with_reducible refine zAc ?_
   refine zCq yR (zPz b1 _ yO) ?_
   try simp only [go_sem,Bool.cond_false_right,Bool.cond_true_left]
   repeat with_reducible refine zAc ?_
   obtain ⟨b2,hb2⟩:∃ b2,b2=b1.add (fF (yFH t)):=⟨_,rfl⟩
   have l2:b2.le (K'+1+1):=by rw [hb2]; exact l1.le_add (zYQ _)
   unfold yFH at hb2
   rw [← hb2]
   have a3:=l2.f
   apply zAA (h2:=fun _=>yAC t.value)
   ·(simp only [go_sem]; rfl)
   ·intro h; repeat' (first | exact trivial | exact h | refine And.intro ?_ ?_)
   try simp only [go_sem]
   repeat with_reducible refine zAc ?_
   refine zCq yR (zPz b2 _ yO) ?_
   try simp only [go_sem,Bool.cond_false_right,Bool.cond_true_left]
   repeat with_reducible refine zAc ?_
   obtain ⟨b3,hb3⟩:∃ b3,b3=b2.add (fF (yFI t)):=⟨_,rfl⟩
   have l3:b3.le (K'+1+1+1):=by rw [hb3]; exact l2.le_add (zYQ _)
   unfold yFI at hb3
   rw [← hb3]
   have a4:=l3.f
   have e3:decide (0<(t.list.length:Int))=decide (0<t.list.length):=decide_eq_decide.2 yO
   refine zCq yR (zPz b3 _ yO) ?_
   try simp only [go_sem,Bool.cond_false_right,Bool.cond_true_left,e3]
   repeat with_reducible refine zAc ?_
   obtain ⟨b4,hb4⟩:∃ b4,b4=b3.add (fF (yES t)):=⟨_,rfl⟩
   have l4:b4.le (K'+1+1+1+1):=by rw [hb4]; exact l3.le_add (zYQ _)
   unfold yES at hb4
   rw [← hb4]
   have a5:=l4.r
   refine zAd yR (zRi t.na t.nb) ?_
   try simp only [go_sem]
   repeat with_reducible refine zAc ?_
   refine zCq yR (yFY b4 _ yO) ?_
   try simp only [go_sem]
   repeat with_reducible refine zAc ?_
   obtain ⟨b5,hb5⟩:∃ b5,b5=b4.add (fR (zIG t.na t.nb != 0)):=⟨_,rfl⟩
   have l5:b5.le (K'+1+1+1+1+1):=by rw [hb5]; exact l4.le_add (yJM _)
   rw [← hb5]
   have hT:b5=a.add (yEX t):=by
    rw [hb5,hb4,hb3,hb2,hb1]
    simp only [yEX,kOk,yFH,yFI,yES,Fd.add_assoc]
    congr 6
   refine zAa yF trivial (fun h3=>?_) (fun h3=>?_)
   ·rw [if_pos h3,← Fd.add_assoc,← Fd.add_assoc] at hsum
    have hst:=ih.1 t.list (d+1) (K'+5) b5 hsz yO l5 yO
    unfold fdV zBf at hst
    rw [show ((d+1:Nat):Int)=(d:Int)+1 by omega] at hst
    try simp only [go_sem]
    repeat with_reducible refine zAc ?_
    refine zCq yR (hst) ?_
    try simp only [go_sem]
    repeat with_reducible refine zAc ?_
    refine ⟨(i+1,b5.add (ntL t.list (d+1))),by simp only; omega,⟨by simp only; omega,⟨K'+5+bd (d+1),l5.le_add (b_L _ _),by simp only; omega⟩,?_⟩,?_⟩
    ·simp only
     rw [← hsum,hT]
     rfl
    ·simp only [go_sem,zAf,zAl,zAs,zAb]
     all_goals exact yLe
   ·rw [if_neg (by rw [h3]; simp)] at hsum
    try simp only [go_sem]
    repeat with_reducible refine zAc ?_
    refine ⟨(i+1,b5),by simp only; omega,⟨by simp only; omega,⟨K'+5,l5,by simp only; omega⟩,?_⟩,?_⟩
    ·simp only
     rw [← hsum,hT]
     simp only [yEX,Fd.add_assoc,Fd.zero_add]
    ·simp only [go_sem,zAf,zAl,zAs,zAb]
     all_goals exact yLe
  ·have hil:i=s.tests.length:=by simp at h2; omega
   subst hil
   rw [List.drop_length] at hsum
   try simp only [go_sem]
   repeat with_reducible refine zAc ?_
   rw [← hsum]
   exact zCn rfl rfl
theorem zGL (l:List Pt):0<SizeOf.sizeOf l:=by cases l <;> simp <;> omega
theorem yEv (s:St):0<SizeOf.sizeOf s:=by cases s; simp only [St.mk.sizeOf_spec]; omega
theorem zWL:∀ N,yLd Tryz.prog N
 |0=>⟨fun l d K c h=>by have:=zGL l; omega,fun s d K c h=>by have:=yEv s; omega⟩
 |N+1=>⟨fun l d K c h1 h2 h3 h4=>yEt N (zWL N) l d K c h1 h2 h3 h4,fun s d K c h1 h2 h3 h4=>yEu N (zWL N) s d K c h1 h2 h3 h4⟩
theorem zN4 (l:List Pt):Contract Tryz.prog zBD [.io (fdV fd0),.val (zBf l),.val (iv 1)] { res:=.tup [],io:=fdV (ntL l 1) }:=by
 have h:=(zWL (SizeOf.sizeOf l)).1 l 1 0 fd0 (Nat.le_refl _) yO (zYR 0) (by have:=yJL; omega)
 rw [Fd.zero_add] at h
 exact h
theorem zBC (l:List Pt):Contract Tryz.prog zBU [.val (zBf l)] { res:=.val (iv (zA0 l)) }:=by
 rw [← yJK]
 have hc:=zN4 l
 obtain ⟨c,hcc⟩:∃ c,c=ntL l 1:=⟨_,rfl⟩
 rw [← hcc] at hc ⊢
 unfold zBf
 refine mkA zVM (base:=0) (fo rfl) (fun hfit=>?_)
 unfold F0 zMj
 simp only [yIn,Nat.reduceAdd,Nat.reduceSub]
 try simp only [go_sem]
 repeat with_reducible refine zAc ?_
 unfold fdV zBf at hc
 refine zCq yR (hc) ?_
 try simp only [go_sem]
 repeat with_reducible refine zAc ?_
 refine zAd yR (zY1) ?_
 try simp only [go_sem]
 repeat with_reducible refine zAc ?_
 refine zAr (fun i:Nat=>[(5,.un),(12,.pv (iv i)),(13,.un),(21,.un)]) (fun i:Nat=>4 - i) (fun i:Nat=>i≤4∧(1≤i→c.m=0)∧(2≤i→c.k=0)∧(3≤i→c.f=0)∧(4≤i→c.r=0)) (0) ?_ ⟨by omega,by omega,by omega,by omega,by omega⟩ ?_
 focus (simp only [go_sem,zAf,zAl,zAs,zAb]; all_goals exact yLe)
 rintro i ⟨hi,h1,h2,h3,h4⟩
 try simp only [go_sem]
 repeat with_reducible refine zAc ?_
 refine zAa yF trivial (fun h=>?_) (fun h=>?_)
 ·have hlt:i<4:=by simp at h; omega
  have hcase:i=0∨i=1∨i=2∨i=3:=by omega
  rcases hcase with rfl | rfl | rfl | rfl
  ·try simp only [go_sem,Int.reduceToNat,Int.toNat_natCast,List.getD_cons_zero,List.getD_cons_succ,PV.norm,Int.cast_ofNat_Int]
   repeat with_reducible refine zAc ?_
   refine zAa yF trivial (fun h5=>?_) (fun h5=>?_)
   ·try simp only [go_sem]
    repeat with_reducible refine zAc ?_
    refine zAq rfl trivial (.inl ?_)
    congr 3
    have h6:0<c.m:=by simp at h5; omega
    unfold yHX
    simp [ h6]
   ·try simp only [go_sem]
    repeat with_reducible refine zAc ?_
    have h6:c.m=0:=by simp at h5; omega
    refine ⟨1,by omega,⟨by omega,fun _=>h6,by omega,by omega,by omega⟩,?_⟩
    simp only [go_sem,zAf,zAl,zAs,zAb]
    all_goals exact yLe
  ·try simp only [go_sem,Int.reduceToNat,Int.toNat_natCast,List.getD_cons_zero,List.getD_cons_succ,PV.norm,Int.cast_ofNat_Int]
   repeat with_reducible refine zAc ?_
   refine zAa yF trivial (fun h5=>?_) (fun h5=>?_)
   ·try simp only [go_sem]
    repeat with_reducible refine zAc ?_
    refine zAq rfl trivial (.inl ?_)
    congr 3
    have h6:0<c.k:=by simp at h5; omega
    unfold yHX
    simp [h1 yO,h6]
   ·try simp only [go_sem]
    repeat with_reducible refine zAc ?_
    have h6:c.k=0:=by simp at h5; omega
    refine ⟨2,by omega,⟨by omega,fun _=>h1 yO,fun _=>h6,by omega,by omega⟩,?_⟩
    simp only [go_sem,zAf,zAl,zAs,zAb]
    all_goals exact yLe
  ·try simp only [go_sem,Int.reduceToNat,Int.toNat_natCast,List.getD_cons_zero,List.getD_cons_succ,PV.norm,Int.cast_ofNat_Int]
   repeat with_reducible refine zAc ?_
   refine zAa yF trivial (fun h5=>?_) (fun h5=>?_)
   ·try simp only [go_sem]
    repeat with_reducible refine zAc ?_
    refine zAq rfl trivial (.inl ?_)
    congr 3
    have h6:0<c.f:=by simp at h5; omega
    unfold yHX
    simp [h1 yO,h2 yO,h6]
   ·try simp only [go_sem]
    repeat with_reducible refine zAc ?_
    have h6:c.f=0:=by simp at h5; omega
    refine ⟨3,by omega,⟨by omega,fun _=>h1 yO,fun _=>h2 yO,fun _=>h6,by omega⟩,?_⟩
    simp only [go_sem,zAf,zAl,zAs,zAb]
    all_goals exact yLe
  ·try simp only [go_sem,Int.reduceToNat,Int.toNat_natCast,List.getD_cons_zero,List.getD_cons_succ,PV.norm,Int.cast_ofNat_Int]
   repeat with_reducible refine zAc ?_
   refine zAa yF trivial (fun h5=>?_) (fun h5=>?_)
   ·try simp only [go_sem]
    repeat with_reducible refine zAc ?_
    refine zAq rfl trivial (.inl ?_)
    congr 3
    have h6:0<c.r:=by simp at h5; omega
    unfold yHX
    simp [h1 yO,h2 yO,h3 yO,h6]
   ·try simp only [go_sem]
    repeat with_reducible refine zAc ?_
    have h6:c.r=0:=by simp at h5; omega
    refine ⟨4,by omega,⟨by omega,fun _=>h1 yO,fun _=>h2 yO,fun _=>h3 yO,fun _=>h6⟩,?_⟩
    simp only [go_sem,zAf,zAl,zAs,zAb]
    all_goals exact yLe
 ·have hi4:i=4:=by simp at h; omega
  try simp only [go_sem]
  repeat with_reducible refine zAc ?_
  refine zAq rfl trivial (.inl ?_)
  congr 3
  unfold yHX
  simp [h1 yO,h2 yO,h3 yO,h4 yO]
end Go.Hx
end

section
set_option maxRecDepth 100000
set_option linter.unusedSimpArgs false
namespace Go.Hx
open Go.Proofs
variable [Glob]
attribute [local go_sem] zAC zAz zAB zAw ndV zAx zAv zBf zBW zBb zA7
attribute [local go_sem] reduceCtorEq Nat.reduceAdd Nat.reduceEqDiff reduceIte Nat.reduceLeDiff Nat.reduceLT Nat.reduceSub
theorem zRt (k:Int):Contract Tryz.prog zFk [.val (iv k)] { res:=.tup [bv (zYO k),bv (zMo k),bv (yGC k),bv (zEc k)] }:=by
 refine mkA yCE (base:=0) (fo rfl) (fun hfit=>?_)
 unfold F0 zYd
 simp only [yIn,Nat.reduceAdd,Nat.reduceSub]
 try simp only [go_sem]
 repeat with_reducible refine zAc ?_
 refine zAd yR (zCc k 1 8) ?_
 try simp only [go_sem]
 repeat with_reducible refine zAc ?_
 refine zAd yR (zCc k 4 8) ?_
 try simp only [go_sem]
 repeat with_reducible refine zAc ?_
 refine zAd yR (zCc k 13 15) ?_
 try simp only [go_sem]
 repeat with_reducible refine zAc ?_
 have e:yGC k=(bif k == 9 then true else k == 10):=by
  unfold yGC
  by_cases h1:k=9 <;> by_cases h2:k=10 <;> simp [h1,h2]
 rw [e]
 exact zCr (by simp) ⟨zAO rfl trivial (.inl rfl),zAO rfl trivial (.inl rfl),zAO rfl trivial (.inl rfl),zAO rfl trivial (.inl rfl),rfl⟩
theorem yBO (n:Nat):decide (1≤(n:Int)∧(n:Int)≤5)=decide (1≤n∧n≤5):=decide_eq_decide.2 yO
theorem yH6 (n:Nat):decide (6<(n:Int))=decide (6<n):=decide_eq_decide.2 yO
theorem yGG (a b:Int):(a != b)=decide (a≠b):=by by_cases h:a=b <;> simp [h]
theorem yLu:∀ (N:Nat) (l:List Pt) (d:Nat),SizeOf.sizeOf l≤N→d≤4→Contract Tryz.prog zDO [.val (zBf l),.val (iv d)] { res:=.val (bv (tmL l d)) }
 |0,l,d,hN,_=>by have:=zGL l; omega
 |N+1,l,d,hN,hd=>by
  have e3:decide (3<(d:Int))=decide (3<d):=decide_eq_decide.2 yO
  unfold zBf
  refine mkA zS3 (base:=0) (fo rfl) (fun hfit=>?_)
  unfold F0 zJq
  simp only [yIn,Nat.reduceAdd,Nat.reduceSub]
  try simp only [go_sem]
  repeat with_reducible refine zAc ?_
  apply zAA (h2:=fun _=>zCc l.length 1 5)
  ·(simp only [go_sem]; rfl)
  ·intro h; repeat' (first | exact trivial | exact h | refine And.intro ?_ ?_)
  try simp only [go_sem,yBO,e3,Bool.cond_true_left]
  repeat with_reducible refine zAc ?_
  refine zAa yF trivial (fun h=>?_) (fun h=>?_)
  ·try simp only [go_sem]
   repeat with_reducible refine zAc ?_
   refine zAq rfl trivial (.inl ?_)
   congr 3
   unfold tmL
   rw [h]; rfl
  ·have hL:tmL l d=yD0 l d:=by unfold tmL; rw [h]; rfl
   have hd3:d≤3∧l.length≤5:=by
    simp at h; omega
   try simp only [go_sem]
   repeat with_reducible refine zAc ?_
   refine zAr (fun i:Nat=>[(5,.pv (iv i)),(4,.un),(6,.un),(7,.un),(8,.un),(9,.un),(13,.un),(25,.un),(46,.un),(51,.un),(61,.un),(70,.un),(97,.un)]) (fun i:Nat=>l.length - i) (fun i:Nat=>i≤l.length∧yD0 (l.drop i) d=tmL l d) (0) ?_ ⟨Nat.zero_le _,by rw [hL]; rfl⟩ ?_
   focus (simp only [go_sem,zAf,zAl,zAs,zAb]; all_goals exact yLe)
   rintro i ⟨hi,hinv⟩
   try simp only [go_sem]
   repeat with_reducible refine zAc ?_
   refine zAa yF trivial (fun h2=>?_) (fun h2=>?_)
   ·have hil:i<l.length:=by simp at h2; omega
    rw [zBc (d:=default) hil] at hinv
    obtain ⟨p,hp⟩:∃ p,p=l.getD i default:=⟨_,rfl⟩
    rw [← hp] at hinv
    have hg:(zFl l).getD i []=[.sl 2 (zMn p.steps),.sl 1 (zEK p.links)]:=by rw [zB5 l i hil,← hp,zBB]
    have hsz:SizeOf.sizeOf p.steps≤N:=by
     have h3:=zG5 p
     have h4:=yCL hil
     rw [← hp] at h4
     omega
    simp only [yD0] at hinv
    have hps:tmP p d=(!(decide (1≤p.steps.length∧p.steps.length≤5)) || decide ((p.links.length:Int)≠p.steps.length - 1) || yD1 p.steps d):=by cases p; rfl
    have hin:(!decide (1≤p.steps.length∧p.steps.length≤5))=false→inR .i64 ((p.steps.length:Int) - 1):=by
     intro h5
     have:1≤p.steps.length∧p.steps.length≤5:=by simpa using h5
     exact zEk yO yO
    try simp only [go_sem,hg]
    repeat with_reducible refine zAc ?_
    refine zAd yR (zCc p.steps.length 1 5) ?_
    try simp only [go_sem,yBO,Bool.cond_true_left,yGG]
    repeat with_reducible refine zAc ?_
    refine zAa yF trivial (fun h3=>?_) (fun h3=>?_)
    ·try simp only [go_sem]
     repeat with_reducible refine zAc ?_
     refine zAq rfl trivial (.inl ?_)
     congr 3
     rw [← hinv,hps,h3]; rfl
    ·have hp5:p.steps.length≤5:=by simp at h3; omega
     rw [h3,Bool.false_or] at hps
     try simp only [go_sem]
     repeat with_reducible refine zAc ?_
     refine zAr (fun k:Nat=>[(7,.pv (iv k)),(4,.un),(8,.un),(9,.un),(13,.un),(51,.un),(61,.un),(70,.un),(97,.un)]) (fun k:Nat=>p.steps.length - k) (fun k:Nat=>k≤p.steps.length∧yD1 (p.steps.drop k) d=yD1 p.steps d) (0) ?_ ⟨Nat.zero_le _,rfl⟩ ?_
     focus (simp only [go_sem,zAf,zAl,zAs,zAb]; all_goals exact yLe)
     rintro k ⟨hk,hinv2⟩
     try simp only [go_sem]
     repeat with_reducible refine zAc ?_
     refine zAa yF trivial (fun h4=>?_) (fun h4=>?_)
     ·have hkl:k<p.steps.length:=by simp at h4; omega
      rw [zBc (d:=default) hkl] at hinv2
      obtain ⟨q,hq⟩:∃ q,q=p.steps.getD k default:=⟨_,rfl⟩
      rw [← hq] at hinv2
      have hg3:(zMn p.steps).getD k []=[bS q.tag,.sl 6 (zUk q.tests)]:=by rw [zC1 _ k hkl,← hq,zBh]
      simp only [yD1] at hinv2
      have hqs:tmS q d=(decide (6<q.tests.length) || yD2 q.tests d):=by cases q; rfl
      try simp only [go_sem,hg3,yH6]
      repeat with_reducible refine zAc ?_
      refine zAa yF trivial (fun h5=>?_) (fun h5=>?_)
      ·try simp only [go_sem]
       repeat with_reducible refine zAc ?_
       refine zAq rfl trivial (.inl ?_)
       congr 3
       rw [← hinv,hps,← hinv2,hqs,h5]; rfl
      ·have hq6:q.tests.length≤6:=by simpa using h5
       rw [h5,Bool.false_or] at hqs
       try simp only [go_sem]
       repeat with_reducible refine zAc ?_
       refine zAr (fun j:Nat=>[(8,.pv (iv j)),(4,.un),(9,.un),(13,.un),(70,.un),(97,.un)]) (fun j:Nat=>q.tests.length - j) (fun j:Nat=>j≤q.tests.length∧yD2 (q.tests.drop j) d=yD2 q.tests d) (0) ?_ ⟨Nat.zero_le _,rfl⟩ ?_
       focus (simp only [go_sem,zAf,zAl,zAs,zAb]; all_goals exact yLe)
       rintro j ⟨hj,hinv3⟩
       try simp only [go_sem,hg3]
       repeat with_reducible refine zAc ?_
       refine zAa yF trivial (fun h6=>?_) (fun h6=>?_)
       ·have hjl:j<q.tests.length:=by simp at h6; omega
        rw [zBc (d:=default) hjl] at hinv3
        obtain ⟨t,ht⟩:∃ t,t=q.tests.getD j default:=⟨_,rfl⟩
        rw [← ht] at hinv3
        have hg4:=zBz q.tests j hjl
        rw [← ht,zBk] at hg4
        have hszt:SizeOf.sizeOf t.list≤N:=by
         have h7:=zLR t
         have h8:=yCJ hjl
         rw [← ht] at h8
         have h9:=yCK hkl
         rw [← hq] at h9
         have h10:=zG4 q
         omega
        simp only [yD2] at hinv3
        have hts:tmT t d=(zEc t.kind && tmL t.list (d+1)):=by cases t; rfl
        have hrec:=yLu N t.list (d+1) hszt yO
        unfold zBf at hrec
        rw [show ((d+1:Nat):Int)=(d:Int)+1 by omega] at hrec
        try simp only [go_sem,hg3,hg4]
        repeat with_reducible refine zAc ?_
        refine zAE yR (zRt t.kind) ?_
        try simp only [go_sem]
        repeat with_reducible refine zAc ?_
        apply zAA (h2:=fun _=>hrec)
        ·(simp only [go_sem]; rfl)
        ·intro h; repeat' (first | exact trivial | exact h | refine And.intro ?_ ?_)
        try simp only [go_sem,Bool.cond_false_right]
        repeat with_reducible refine zAc ?_
        refine zAa yF trivial (fun h7=>?_) (fun h7=>?_)
        ·try simp only [go_sem]
         repeat with_reducible refine zAc ?_
         refine zAq rfl trivial (.inl ?_)
         congr 3
         rw [← hinv,hps,← hinv2,hqs,← hinv3,hts,h7]; rfl
        ·rw [h7] at hts
         rw [hts,Bool.false_or] at hinv3
         try simp only [go_sem]
         repeat with_reducible refine zAc ?_
         refine ⟨j+1,by omega,⟨by omega,hinv3⟩,?_⟩
         simp only [go_sem,zAf,zAl,zAs,zAb]
         all_goals exact yLe
       ·have hjl:j=q.tests.length:=by simp at h6; omega
        subst hjl
        rw [List.drop_length] at hinv3
        rw [hqs,← hinv3] at hinv2
        try simp only [go_sem]
        repeat with_reducible refine zAc ?_
        refine ⟨k+1,by omega,⟨by omega,hinv2⟩,?_⟩
        simp only [go_sem,zAf,zAl,zAs,zAb]
        all_goals exact yLe
     ·have hkl:k=p.steps.length:=by simp at h4; omega
      subst hkl
      rw [List.drop_length] at hinv2
      rw [hps,← hinv2] at hinv
      try simp only [go_sem]
      repeat with_reducible refine zAc ?_
      refine ⟨i+1,by omega,⟨by omega,hinv⟩,?_⟩
      simp only [go_sem,zAf,zAl,zAs,zAb]
      all_goals exact yLe
   ·have hil:i=l.length:=by simp at h2; omega
    subst hil
    rw [List.drop_length] at hinv
    try simp only [go_sem]
    repeat with_reducible refine zAc ?_
    refine zAq rfl trivial (.inl ?_)
    congr 3
    rw [← hinv]; rfl
end Go.Hx
end

section
set_option maxRecDepth 100000
set_option linter.unusedSimpArgs false
namespace Go.Hx
open Go.Proofs
variable [Glob]
attribute [local go_sem] zAC zAz zAB zAw ndV zAx zAv zBf zBW zBb zA7
attribute [local go_sem] reduceCtorEq Nat.reduceAdd Nat.reduceEqDiff reduceIte Nat.reduceLeDiff Nat.reduceLT Nat.reduceSub
theorem zPA {k:Nat} {rows:List (List PV)} (h:PV.fits (.sl k rows)):rows.length≤9223372036854775807:=by
 simp only [PV.fits] at h; exact h.1
theorem zY5:∀ {rows:List (List PV)} {i:Nat},zSp rows→i<rows.length→zG9 (rows.getD i [])
 |[],i,_,h=>by simp at h
 |r :: rs,0,h,_=>by simp only [zSp] at h; exact h.1
 |r :: rs,i+1,h,hi=>by simp only [zSp] at h; simpa using zY5 (rows:=rs) (i:=i) h.2 (by simpa using hi)
theorem yBP {k:Nat} {rows:List (List PV)} {i:Nat} (h:PV.fits (.sl k rows)) (hi:i<rows.length):zG9 (rows.getD i []):=by
 simp only [PV.fits] at h; exact zY5 h.2 hi
theorem yAP {x:PV} {r:List AV} (h:AVs.fits (.val (.one x) :: r)):PV.fits x:=by
 simp only [AVs.fits] at h; exact h.1
theorem zWR {l:List Pt} {i:Nat} (h:PV.fits (.sl 2 (zFl l))) (hi:i<l.length):PV.fits (.sl 2 (zMn (l.getD i default).steps))∧PV.fits (.sl 1 (zEK (l.getD i default).links)):=by
 have h1:=yBP h (i:=i) (by rw [zBW]; exact hi)
 rw [zB5 l i hi,zBB] at h1
 simp only [zG9] at h1
 exact ⟨h1.1,h1.2.1⟩
theorem zWS {l:List St} {i:Nat} (h:PV.fits (.sl 2 (zMn l))) (hi:i<l.length):PV.fits (.sl 6 (zUk (l.getD i default).tests)):=by
 have h1:=yBP h (i:=i) (by rw [zBb]; exact hi)
 rw [zC1 l i hi,zBh] at h1
 simp only [zG9] at h1
 exact h1.2.1
theorem zWT {l:List Pt} (h:PV.fits (.sl 2 (zFl l))):l.length≤9223372036854775807:=by have:=zPA h; rwa [zBW] at this
theorem zJB {l:List St} (h:PV.fits (.sl 2 (zMn l))):l.length≤9223372036854775807:=by have:=zPA h; rwa [zBb] at this
theorem zWU {l:List Ts} (h:PV.fits (.sl 6 (zUk l))):l.length≤9223372036854775807:=by have:=zPA h; rwa [zA7] at this
theorem yH7 {l:List Int} (h:PV.fits (.sl 1 (zEK l))):l.length≤9223372036854775807:=by have:=zPA h; rwa [zAw] at this
theorem yLv:∀ (N:Nat) (l:List Pt),SizeOf.sizeOf l≤N→Contract Tryz.prog zDN [.val (zBf l)] { res:=.val (bv (yCM l)) }
 |0,l,hN=>by have:=zGL l; omega
 |N+1,l,hN=>by
  unfold zBf
  refine mkA zTe (base:=0) (fo rfl) (fun hfit=>?_)
  unfold F0 zJr
  simp only [yIn,Nat.reduceAdd,Nat.reduceSub]
  try simp only [go_sem]
  repeat with_reducible refine zAc ?_
  have ft:=yAP hfit
  have fl:=zWT ft
  refine zAr (fun i:Nat=>[(3,.pv (iv i)),(2,.un),(4,.un),(5,.un),(6,.un),(7,.un),(11,.un),(15,.un),(25,.un),(37,.un),(45,.un),(59,.un),(93,.un)]) (fun i:Nat=>l.length - i) (fun i:Nat=>i≤l.length∧yCM (l.drop i)=yCM l) (0) ?_ ⟨Nat.zero_le _,rfl⟩ ?_
  focus (simp only [go_sem,zAf,zAl,zAs,zAb]; all_goals exact yLe)
  rintro i ⟨hi,hinv⟩
  try simp only [go_sem]
  repeat with_reducible refine zAc ?_
  refine zAa yF trivial (fun h2=>?_) (fun h2=>?_)
  ·have hil:i<l.length:=by simp at h2; omega
   have fp:=zWR ft hil
   rw [zBc (d:=default) hil] at hinv
   obtain ⟨p,hp⟩:∃ p,p=l.getD i default:=⟨_,rfl⟩
   rw [← hp] at hinv fp
   have fps:=zJB fp.1
   have fpl:=yH7 fp.2
   have hg:(zFl l).getD i []=[.sl 2 (zMn p.steps),.sl 1 (zEK p.links)]:=by rw [zB5 l i hil,← hp,zBB]
   have hsz:SizeOf.sizeOf p.steps≤N:=by
    have h3:=zG5 p
    have h4:=yCL hil
    rw [← hp] at h4
    omega
   simp only [yCM] at hinv
   have hps:bkP p=(p.links.any zN2 || yD3 p.steps):=by cases p; rfl
   try simp only [go_sem]
   repeat with_reducible refine zAc ?_
   refine zAr (fun k:Nat=>[(4,.pv (iv k)),(2,.un),(25,.un),(37,.un)]) (fun k:Nat=>p.links.length - k) (fun k:Nat=>k≤p.links.length∧(p.links.drop k).any zN2=p.links.any zN2) (0) ?_ ⟨Nat.zero_le _,rfl⟩ ?_
   focus (simp only [go_sem,zAf,zAl,zAs,zAb]; all_goals exact yLe)
   rintro k ⟨hk,hinv2⟩
   try simp only [go_sem,hg]
   repeat with_reducible refine zAc ?_
   refine zAa yF trivial (fun h3=>?_) (fun h3=>?_)
   ·have hkl:k<p.links.length:=by simp at h3; omega
    rw [zBc (d:=0) hkl] at hinv2
    have hg2:=zEj p.links k hkl
    obtain ⟨v,hv⟩:∃ v,v=p.links.getD k 0:=⟨_,rfl⟩
    rw [← hv] at hg2 hinv2
    rw [List.any_cons] at hinv2
    try simp only [go_sem,hg,hg2]
    repeat with_reducible refine zAc ?_
    refine zAd yR (zCc v 1 4) ?_
    try simp only [go_sem]
    repeat with_reducible refine zAc ?_
    refine zAa yF trivial (fun h4=>?_) (fun h4=>?_)
    ·try simp only [go_sem]
     repeat with_reducible refine zAc ?_
     refine zAq rfl trivial (.inl ?_)
     congr 3
     have h5:zN2 v=true:=h4
     rw [← hinv,hps,← hinv2,h5]; rfl
    ·have h5:zN2 v=false:=h4
     rw [h5,Bool.false_or] at hinv2
     try simp only [go_sem]
     repeat with_reducible refine zAc ?_
     refine ⟨k+1,by omega,⟨by omega,hinv2⟩,?_⟩
     simp only [go_sem,zAf,zAl,zAs,zAb]
     all_goals exact yLe
   ·have hkl:k=p.links.length:=by simp at h3; omega
    subst hkl
    rw [List.drop_length] at hinv2
    rw [← hinv2] at hps
    have hps:bkP p=yD3 p.steps:=hps
    try simp only [go_sem]
    repeat with_reducible refine zAc ?_
    refine zAr (fun k:Nat=>[(5,.pv (iv k)),(2,.un),(6,.un),(7,.un),(11,.un),(45,.un),(59,.un),(93,.un)]) (fun k:Nat=>p.steps.length - k) (fun k:Nat=>k≤p.steps.length∧yD3 (p.steps.drop k)=yD3 p.steps) (0) ?_ ⟨Nat.zero_le _,rfl⟩ ?_
    focus (simp only [go_sem,zAf,zAl,zAs,zAb]; all_goals exact yLe)
    rintro k ⟨hk,hinv2⟩
    try simp only [go_sem,hg]
    repeat with_reducible refine zAc ?_
    refine zAa yF trivial (fun h4=>?_) (fun h4=>?_)
    ·have hkl:k<p.steps.length:=by simp at h4; omega
     have fq:=zWS fp.1 hkl
     rw [zBc (d:=default) hkl] at hinv2
     obtain ⟨q,hq⟩:∃ q,q=p.steps.getD k default:=⟨_,rfl⟩
     rw [← hq] at hinv2 fq
     have fqt:=zWU fq
     have hg3:(zMn p.steps).getD k []=[bS q.tag,.sl 6 (zUk q.tests)]:=by rw [zC1 _ k hkl,← hq,zBh]
     simp only [yD3] at hinv2
     have hqs:bkS q=yER q.tests:=by cases q; rfl
     try simp only [go_sem,hg,hg3]
     repeat with_reducible refine zAc ?_
     refine zAr (fun j:Nat=>[(6,.pv (iv j)),(2,.un),(7,.un),(11,.un),(59,.un),(93,.un)]) (fun j:Nat=>q.tests.length - j) (fun j:Nat=>j≤q.tests.length∧yER (q.tests.drop j)=yER q.tests) (0) ?_ ⟨Nat.zero_le _,rfl⟩ ?_
     focus (simp only [go_sem,zAf,zAl,zAs,zAb]; all_goals exact yLe)
     rintro j ⟨hj,hinv3⟩
     try simp only [go_sem,hg,hg3]
     repeat with_reducible refine zAc ?_
     refine zAa yF trivial (fun h6=>?_) (fun h6=>?_)
     ·have hjl:j<q.tests.length:=by simp at h6; omega
      rw [zBc (d:=default) hjl] at hinv3
      obtain ⟨t,ht⟩:∃ t,t=q.tests.getD j default:=⟨_,rfl⟩
      rw [← ht] at hinv3
      have hg4:=zBz q.tests j hjl
      rw [← ht,zBk] at hg4
      have hszt:SizeOf.sizeOf t.list≤N:=by
       have h7:=zLR t
       have h8:=yCJ hjl
       rw [← ht] at h8
       have h9:=yCK hkl
       rw [← hq] at h9
       have h10:=zG4 q
       omega
      simp only [yER] at hinv3
      have hts:bkT t=(!(decide (1≤t.kind∧t.kind≤15)) || (zEc t.kind && yCM t.list)):=by cases t; rfl
      have hrec:=yLv N t.list hszt
      unfold zBf at hrec
      try simp only [go_sem,hg,hg3,hg4]
      repeat with_reducible refine zAc ?_
      refine zAE yR (zRt t.kind) ?_
      try simp only [go_sem]
      repeat with_reducible refine zAc ?_
      refine zAd yR (zCc t.kind 1 15) ?_
      try simp only [go_sem]
      repeat with_reducible refine zAc ?_
      apply zAA (h2:=fun _=>hrec)
      ·(simp only [go_sem]; rfl)
      ·intro h; repeat' (first | exact trivial | exact h | refine And.intro ?_ ?_)
      try simp only [go_sem,Bool.cond_false_right,Bool.cond_true_left]
      repeat with_reducible refine zAc ?_
      refine zAa yF trivial (fun h7=>?_) (fun h7=>?_)
      ·try simp only [go_sem]
       repeat with_reducible refine zAc ?_
       refine zAq rfl trivial (.inl ?_)
       congr 3
       rw [← hinv,hps,← hinv2,hqs,← hinv3,hts,h7]; rfl
      ·rw [h7] at hts
       rw [hts,Bool.false_or] at hinv3
       try simp only [go_sem]
       repeat with_reducible refine zAc ?_
       refine ⟨j+1,by omega,⟨by omega,hinv3⟩,?_⟩
       simp only [go_sem,zAf,zAl,zAs,zAb]
       all_goals exact yLe
     ·have hjl:j=q.tests.length:=by simp at h6; omega
      subst hjl
      rw [List.drop_length] at hinv3
      rw [hqs,← hinv3] at hinv2
      try simp only [go_sem]
      repeat with_reducible refine zAc ?_
      refine ⟨k+1,by omega,⟨by omega,hinv2⟩,?_⟩
      simp only [go_sem,zAf,zAl,zAs,zAb]
      all_goals exact yLe
    ·have hkl:k=p.steps.length:=by simp at h4; omega
     subst hkl
     rw [List.drop_length] at hinv2
     rw [hps,← hinv2] at hinv
     try simp only [go_sem]
     repeat with_reducible refine zAc ?_
     refine ⟨i+1,by omega,⟨by omega,hinv⟩,?_⟩
     simp only [go_sem,zAf,zAl,zAs,zAb]
     all_goals exact yLe
  ·have hil:i=l.length:=by simp at h2; omega
   subst hil
   rw [List.drop_length] at hinv
   try simp only [go_sem]
   repeat with_reducible refine zAc ?_
   refine zAq rfl trivial (.inl ?_)
   congr 3
   rw [← hinv]; rfl
end Go.Hx
end

section
set_option maxRecDepth 100000
set_option linter.unusedSimpArgs false
set_option maxHeartbeats 2000000
namespace Go.Hx
open Go.Proofs
variable [Glob]
attribute [local go_sem] zAC zAz zAB zAw ndV zAx zAv zBf zBW zBb zA7
attribute [local go_sem] reduceCtorEq Nat.reduceAdd Nat.reduceEqDiff reduceIte Nat.reduceLeDiff Nat.reduceLT Nat.reduceSub
theorem yLw:∀ (N:Nat) (l:List Pt),SizeOf.sizeOf l≤N→Contract Tryz.prog zDM [.val (zBf l)] { res:=.val (bv (yCN l)) }
 |0,l,hN=>by have:=zGL l; omega
 |N+1,l,hN=>by
  unfold zBf
  refine mkA zTp (base:=0) (fo rfl) (fun hfit=>?_)
  unfold F0 zJs
  simp only [yIn,Nat.reduceAdd,Nat.reduceSub]
  try simp only [go_sem]
  repeat with_reducible refine zAc ?_
  have ft:=yAP hfit
  have fl:=zWT ft
  refine zAr (fun i:Nat=>[(3,.pv (iv i)),(2,.un),(4,.un),(5,.un),(6,.un),(7,.un),(8,.un),(9,.un),(10,.un),(11,.un),(15,.un),(25,.un),(44,.un),(49,.un),(126,.un)]) (fun i:Nat=>l.length - i) (fun i:Nat=>i≤l.length∧yCN (l.drop i)=yCN l) (0) ?_ ⟨Nat.zero_le _,rfl⟩ ?_
  focus (simp only [go_sem,zAf,zAl,zAs,zAb]; all_goals exact yLe)
  rintro i ⟨hi,hinv⟩
  try simp only [go_sem]
  repeat with_reducible refine zAc ?_
  refine zAa yF trivial (fun h2=>?_) (fun h2=>?_)
  ·have hil:i<l.length:=by simp at h2; omega
   have fp:=zWR ft hil
   rw [zBc (d:=default) hil] at hinv
   obtain ⟨p,hp⟩:∃ p,p=l.getD i default:=⟨_,rfl⟩
   rw [← hp] at hinv fp
   have fps:=zJB fp.1
   have hg:(zFl l).getD i []=[.sl 2 (zMn p.steps),.sl 1 (zEK p.links)]:=by rw [zB5 l i hil,← hp,zBB]
   have hsz:SizeOf.sizeOf p.steps≤N:=by
    have h3:=zG5 p
    have h4:=yCL hil
    rw [← hp] at h4
    omega
   simp only [yCN] at hinv
   have hps:bfP p=yET p.steps:=by cases p; rfl
   try simp only [go_sem]
   repeat with_reducible refine zAc ?_
   refine zAr (fun k:Nat=>[(4,.pv (iv k)),(2,.un),(5,.un),(6,.un),(7,.un),(8,.un),(9,.un),(10,.un),(11,.un),(25,.un),(44,.un),(49,.un),(126,.un)]) (fun k:Nat=>p.steps.length - k) (fun k:Nat=>k≤p.steps.length∧yET (p.steps.drop k)=yET p.steps) (0) ?_ ⟨Nat.zero_le _,rfl⟩ ?_
   focus (simp only [go_sem,zAf,zAl,zAs,zAb]; all_goals exact yLe)
   rintro k ⟨hk,hinv2⟩
   try simp only [go_sem,hg]
   repeat with_reducible refine zAc ?_
   refine zAa yF trivial (fun h4=>?_) (fun h4=>?_)
   ·have hkl:k<p.steps.length:=by simp at h4; omega
    have fq:=zWS fp.1 hkl
    rw [zBc (d:=default) hkl] at hinv2
    obtain ⟨q,hq⟩:∃ q,q=p.steps.getD k default:=⟨_,rfl⟩
    rw [← hq] at hinv2 fq
    have fqt:=zWU fq
    have hg3:(zMn p.steps).getD k []=[bS q.tag,.sl 6 (zUk q.tests)]:=by rw [zC1 _ k hkl,← hq,zBh]
    simp only [yET] at hinv2
    have hqs:bfS q=((!(q.tag == []) && !zB3 q.tag) || yEU q.tests):=by cases q; rfl
    try simp only [go_sem,hg,hg3]
    repeat with_reducible refine zAc ?_
    apply zAA (h2:=fun _=>zMt q.tag)
    ·(simp only [go_sem]; rfl)
    ·intro h; repeat' (first | exact trivial | exact h | refine And.intro ?_ ?_)
    try simp only [go_sem,Bool.cond_false_right]
    repeat with_reducible refine zAc ?_
    refine zAa yF trivial (fun h5=>?_) (fun h5=>?_)
    ·try simp only [go_sem]
     repeat with_reducible refine zAc ?_
     refine zAq rfl trivial (.inl ?_)
     congr 3
     rw [← hinv,hps,← hinv2,hqs,h5]; rfl
    rw [h5,Bool.false_or] at hqs
    try simp only [go_sem]
    repeat with_reducible refine zAc ?_
    refine zAr (fun j:Nat=>[(6,.pv (iv j)),(2,.un),(7,.un),(8,.un),(9,.un),(10,.un),(11,.un),(49,.un),(126,.un)]) (fun j:Nat=>q.tests.length - j) (fun j:Nat=>j≤q.tests.length∧yEU (q.tests.drop j)=yEU q.tests) (0) ?_ ⟨Nat.zero_le _,rfl⟩ ?_
    focus (simp only [go_sem,zAf,zAl,zAs,zAb]; all_goals exact yLe)
    rintro j ⟨hj,hinv3⟩
    try simp only [go_sem,hg,hg3]
    repeat with_reducible refine zAc ?_
    refine zAa yF trivial (fun h6=>?_) (fun h6=>?_)
    ·have hjl:j<q.tests.length:=by simp at h6; omega
     rw [zBc (d:=default) hjl] at hinv3
     obtain ⟨t,ht⟩:∃ t,t=q.tests.getD j default:=⟨_,rfl⟩
     rw [← ht] at hinv3
     have hg4:=zBz q.tests j hjl
     rw [← ht,zBk] at hg4
     have hszt:SizeOf.sizeOf t.list≤N:=by
      have h7:=zLR t
      have h8:=yCJ hjl
      rw [← ht] at h8
      have h9:=yCK hkl
      rw [← hq] at h9
      have h10:=zG4 q
      omega
     simp only [yEU] at hinv3
     have hts:bfT t=((zYO t.kind && !zB3 t.name) || ((!zYO t.kind && !(t.name == [])) || ((zMo t.kind && !zCR t.value) || ((!zMo t.kind && !(t.value == [])) || ((!yGC t.kind && !(t.na == 0 && t.nb == 0)) || ((!zEc t.kind && decide (0<t.list.length)) || (zEc t.kind && yCN t.list))))))):=by
      cases t
      simp only [bfT,yFH,yFI,yES,Ts.kind,Ts.name,Ts.value,Ts.na,Ts.nb,Ts.list,Bool.or_assoc]
     have e0:decide (0<(t.list.length:Int))=decide (0<t.list.length):=decide_eq_decide.2 yO
     have hrec:=yLw N t.list hszt
     unfold zBf at hrec
     try simp only [go_sem,hg,hg3,hg4]
     repeat with_reducible refine zAc ?_
     refine zAE yR (zRt t.kind) ?_
     try simp only [go_sem]
     repeat with_reducible refine zAc ?_
     apply zAA (h2:=fun _=>zMt t.name)
     ·(simp only [go_sem]; rfl)
     ·intro h; repeat' (first | exact trivial | exact h | refine And.intro ?_ ?_)
     try simp only [go_sem]
     repeat with_reducible refine zAc ?_
     apply zAA (h2:=fun _=>zWQ t.value)
     ·(simp only [go_sem]; rfl)
     ·intro h; repeat' (first | exact trivial | exact h | refine And.intro ?_ ?_)
     try simp only [go_sem]
     repeat with_reducible refine zAc ?_
     apply zAA (h2:=fun _=>hrec)
     ·(simp only [go_sem]; rfl)
     ·intro h; repeat' (first | exact trivial | exact h | refine And.intro ?_ ?_)
     try simp only [go_sem,Bool.cond_false_right,Bool.cond_true_left,e0,Bool.or_assoc]
     repeat with_reducible refine zAc ?_
     refine zAa yF trivial (fun h7=>?_) (fun h7=>?_)
     ·try simp only [go_sem]
      repeat with_reducible refine zAc ?_
      refine zAq rfl trivial (.inl ?_)
      congr 3
      rw [← hinv,hps,← hinv2,hqs,← hinv3,hts,h7]; simp
     ·rw [h7] at hts
      rw [hts,Bool.false_or] at hinv3
      try simp only [go_sem]
      repeat with_reducible refine zAc ?_
      refine ⟨j+1,by omega,⟨by omega,hinv3⟩,?_⟩
      simp only [go_sem,zAf,zAl,zAs,zAb]
      all_goals exact yLe
    ·have hjl:j=q.tests.length:=by simp at h6; omega
     subst hjl
     rw [List.drop_length] at hinv3
     rw [hqs,← hinv3] at hinv2
     try simp only [go_sem]
     repeat with_reducible refine zAc ?_
     refine ⟨k+1,by omega,⟨by omega,hinv2⟩,?_⟩
     simp only [go_sem,zAf,zAl,zAs,zAb]
     all_goals exact yLe
   ·have hkl:k=p.steps.length:=by simp at h4; omega
    subst hkl
    rw [List.drop_length] at hinv2
    rw [hps,← hinv2] at hinv
    try simp only [go_sem]
    repeat with_reducible refine zAc ?_
    refine ⟨i+1,by omega,⟨by omega,hinv⟩,?_⟩
    simp only [go_sem,zAf,zAl,zAs,zAb]
    all_goals exact yLe
  ·have hil:i=l.length:=by simp at h2; omega
   subst hil
   rw [List.drop_length] at hinv
   try simp only [go_sem]
   repeat with_reducible refine zAc ?_
   refine zAq rfl trivial (.inl ?_)
   congr 3
   rw [← hinv]; rfl
theorem yLx:∀ (N:Nat) (l:List Pt),SizeOf.sizeOf l≤N→Contract Tryz.prog zEa [.val (zBf l)] { res:=.val (bv (yBu l)) }
 |0,l,hN=>by have:=zGL l; omega
 |N+1,l,hN=>by
  unfold zBf
  refine mkA zVX (base:=0) (fo rfl) (fun hfit=>?_)
  unfold F0 zMk
  simp only [yIn,Nat.reduceAdd,Nat.reduceSub]
  try simp only [go_sem]
  repeat with_reducible refine zAc ?_
  have ft:=yAP hfit
  have fl:=zWT ft
  refine zAr (fun i:Nat=>[(3,.pv (iv i)),(2,.un),(4,.un),(5,.un),(6,.un),(10,.un),(20,.un),(34,.un),(57,.un)]) (fun i:Nat=>l.length - i) (fun i:Nat=>i≤l.length∧yBu (l.drop i)=yBu l) (0) ?_ ⟨Nat.zero_le _,rfl⟩ ?_
  focus (simp only [go_sem,zAf,zAl,zAs,zAb]; all_goals exact yLe)
  rintro i ⟨hi,hinv⟩
  try simp only [go_sem]
  repeat with_reducible refine zAc ?_
  refine zAa yF trivial (fun h2=>?_) (fun h2=>?_)
  ·have hil:i<l.length:=by simp at h2; omega
   have fp:=zWR ft hil
   rw [zBc (d:=default) hil] at hinv
   obtain ⟨p,hp⟩:∃ p,p=l.getD i default:=⟨_,rfl⟩
   rw [← hp] at hinv fp
   have fps:=zJB fp.1
   have hg:(zFl l).getD i []=[.sl 2 (zMn p.steps),.sl 1 (zEK p.links)]:=by rw [zB5 l i hil,← hp,zBB]
   have hsz:SizeOf.sizeOf p.steps≤N:=by
    have h3:=zG5 p
    have h4:=yCL hil
    rw [← hp] at h4
    omega
   simp only [yBu] at hinv
   have hps:bnP p=yEV p.steps:=by cases p; rfl
   try simp only [go_sem]
   repeat with_reducible refine zAc ?_
   refine zAr (fun k:Nat=>[(4,.pv (iv k)),(2,.un),(5,.un),(6,.un),(20,.un),(34,.un),(57,.un)]) (fun k:Nat=>p.steps.length - k) (fun k:Nat=>k≤p.steps.length∧yEV (p.steps.drop k)=yEV p.steps) (0) ?_ ⟨Nat.zero_le _,rfl⟩ ?_
   focus (simp only [go_sem,zAf,zAl,zAs,zAb]; all_goals exact yLe)
   rintro k ⟨hk,hinv2⟩
   try simp only [go_sem,hg]
   repeat with_reducible refine zAc ?_
   refine zAa yF trivial (fun h4=>?_) (fun h4=>?_)
   ·have hkl:k<p.steps.length:=by simp at h4; omega
    have fq:=zWS fp.1 hkl
    rw [zBc (d:=default) hkl] at hinv2
    obtain ⟨q,hq⟩:∃ q,q=p.steps.getD k default:=⟨_,rfl⟩
    rw [← hq] at hinv2 fq
    have fqt:=zWU fq
    have hg3:(zMn p.steps).getD k []=[bS q.tag,.sl 6 (zUk q.tests)]:=by rw [zC1 _ k hkl,← hq,zBh]
    simp only [yEV] at hinv2
    have hqs:bnS q=yEW q.tests:=by cases q; rfl
    try simp only [go_sem,hg,hg3]
    repeat with_reducible refine zAc ?_
    refine zAr (fun j:Nat=>[(5,.pv (iv j)),(2,.un),(6,.un),(34,.un),(57,.un)]) (fun j:Nat=>q.tests.length - j) (fun j:Nat=>j≤q.tests.length∧yEW (q.tests.drop j)=yEW q.tests) (0) ?_ ⟨Nat.zero_le _,rfl⟩ ?_
    focus (simp only [go_sem,zAf,zAl,zAs,zAb]; all_goals exact yLe)
    rintro j ⟨hj,hinv3⟩
    try simp only [go_sem,hg,hg3]
    repeat with_reducible refine zAc ?_
    refine zAa yF trivial (fun h6=>?_) (fun h6=>?_)
    ·have hjl:j<q.tests.length:=by simp at h6; omega
     rw [zBc (d:=default) hjl] at hinv3
     obtain ⟨t,ht⟩:∃ t,t=q.tests.getD j default:=⟨_,rfl⟩
     rw [← ht] at hinv3
     have hg4:=zBz q.tests j hjl
     rw [← ht,zBk] at hg4
     have hszt:SizeOf.sizeOf t.list≤N:=by
      have h7:=zLR t
      have h8:=yCJ hjl
      rw [← ht] at h8
      have h9:=yCK hkl
      rw [← hq] at h9
      have h10:=zG4 q
      omega
     simp only [yEW] at hinv3
     have hts:bnT t=(decide (zIG t.na t.nb≠0) || yBu t.list):=by
      cases t with
      |mk kk nn vv aa bb ll=>by_cases h9:zIG aa bb=0 <;> simp [bnT,Ts.na,Ts.nb,Ts.list,h9]
     have hrec:=yLx N t.list hszt
     unfold zBf at hrec
     try simp only [go_sem,hg,hg3,hg4]
     repeat with_reducible refine zAc ?_
     refine zAd yR (zTF t.na t.nb) ?_
     try simp only [go_sem,yGG]
     repeat with_reducible refine zAc ?_
     apply zAA (h2:=fun _=>hrec)
     ·(simp only [go_sem]; rfl)
     ·intro h; repeat' (first | exact trivial | exact h | refine And.intro ?_ ?_)
     try simp only [go_sem,Bool.cond_false_right,Bool.cond_true_left]
     repeat with_reducible refine zAc ?_
     refine zAa yF trivial (fun h7=>?_) (fun h7=>?_)
     ·try simp only [go_sem]
      repeat with_reducible refine zAc ?_
      refine zAq rfl trivial (.inl ?_)
      congr 3
      rw [← hinv,hps,← hinv2,hqs,← hinv3,hts,h7]; simp
     ·rw [h7] at hts
      rw [hts,Bool.false_or] at hinv3
      try simp only [go_sem]
      repeat with_reducible refine zAc ?_
      refine ⟨j+1,by omega,⟨by omega,hinv3⟩,?_⟩
      simp only [go_sem,zAf,zAl,zAs,zAb]
      all_goals exact yLe
    ·have hjl:j=q.tests.length:=by simp at h6; omega
     subst hjl
     rw [List.drop_length] at hinv3
     rw [hqs,← hinv3] at hinv2
     try simp only [go_sem]
     repeat with_reducible refine zAc ?_
     refine ⟨k+1,by omega,⟨by omega,hinv2⟩,?_⟩
     simp only [go_sem,zAf,zAl,zAs,zAb]
     all_goals exact yLe
   ·have hkl:k=p.steps.length:=by simp at h4; omega
    subst hkl
    rw [List.drop_length] at hinv2
    rw [hps,← hinv2] at hinv
    try simp only [go_sem]
    repeat with_reducible refine zAc ?_
    refine ⟨i+1,by omega,⟨by omega,hinv⟩,?_⟩
    simp only [go_sem,zAf,zAl,zAs,zAb]
    all_goals exact yLe
  ·have hil:i=l.length:=by simp at h2; omega
   subst hil
   rw [List.drop_length] at hinv
   try simp only [go_sem]
   repeat with_reducible refine zAc ?_
   refine zAq rfl trivial (.inl ?_)
   congr 3
   rw [← hinv]; rfl
theorem zCz (l:List Pt):Contract Tryz.prog zC0 [.val (zBf l)] { res:=.val (iv (zA0 l)) }:=by
 have t1:=yLu (SizeOf.sizeOf l) l 1 (Nat.le_refl _) yO
 have t2:=yLv (SizeOf.sizeOf l) l (Nat.le_refl _)
 have t3:=yLw (SizeOf.sizeOf l) l (Nat.le_refl _)
 have t4:=yLx (SizeOf.sizeOf l) l (Nat.le_refl _)
 unfold zBf at *
 refine mkA zMK (base:=0) (fo rfl) (fun hfit=>?_)
 unfold F0 zGx
 simp only [yIn,Nat.reduceAdd,Nat.reduceSub]
 try simp only [go_sem]
 repeat with_reducible refine zAc ?_
 refine zAd yR (t1) ?_
 try simp only [go_sem]
 repeat with_reducible refine zAc ?_
 refine zAa yF trivial (fun h1=>?_) (fun h1=>?_)
 ·try simp only [go_sem]
  repeat with_reducible refine zAc ?_
  refine zAq rfl trivial (.inl ?_)
  congr 3
  unfold zA0
  rw [if_pos h1]
 try simp only [go_sem]
 repeat with_reducible refine zAc ?_
 refine zAd yR (t2) ?_
 try simp only [go_sem]
 repeat with_reducible refine zAc ?_
 refine zAa yF trivial (fun h2=>?_) (fun h2=>?_)
 ·try simp only [go_sem]
  repeat with_reducible refine zAc ?_
  refine zAq rfl trivial (.inl ?_)
  congr 3
  unfold zA0
  rw [if_neg (by rw [h1]; simp),if_pos h2]
 try simp only [go_sem]
 repeat with_reducible refine zAc ?_
 refine zAd yR (t3) ?_
 try simp only [go_sem]
 repeat with_reducible refine zAc ?_
 refine zAa yF trivial (fun h3=>?_) (fun h3=>?_)
 ·try simp only [go_sem]
  repeat with_reducible refine zAc ?_
  refine zAq rfl trivial (.inl ?_)
  congr 3
  unfold zA0
  rw [if_neg (by rw [h1]; simp),if_neg (by rw [h2]; simp),if_pos h3]
 try simp only [go_sem]
 repeat with_reducible refine zAc ?_
 refine zAd yR (t4) ?_
 try simp only [go_sem]
 repeat with_reducible refine zAc ?_
 refine zAa yF trivial (fun h4=>?_) (fun h4=>?_)
 ·try simp only [go_sem]
  repeat with_reducible refine zAc ?_
  refine zAq rfl trivial (.inl ?_)
  congr 3
  unfold zA0
  rw [if_neg (by rw [h1]; simp),if_neg (by rw [h2]; simp),if_neg (by rw [h3]; simp),if_pos h4]
 ·try simp only [go_sem]
  repeat with_reducible refine zAc ?_
  refine zAq rfl trivial (.inl ?_)
  congr 3
  unfold zA0
  rw [if_neg (by rw [h1]; simp),if_neg (by rw [h2]; simp),if_neg (by rw [h3]; simp),if_neg (by rw [h4]; simp)]
end Go.Hx
end

section
set_option maxRecDepth 100000
set_option linter.unusedSimpArgs false
namespace Go.Hx
open Go.Proofs
variable [Glob]
attribute [local go_sem] zAC zAz zAB zAw ndV zAx
attribute [local go_sem] reduceCtorEq Nat.reduceAdd Nat.reduceEqDiff reduceIte Nat.reduceLeDiff Nat.reduceLT Nat.reduceSub
theorem yF4 {p:UInt8→Bool} {s:Bys} {i:Nat} (hi:i≤s.length) (ha:(s.take i).all p=true) (hs:i=s.length∨p (s.getD i 0)=false):s.takeWhile p=s.take i∧s.dropWhile p=s.drop i:=by
 induction s generalizing i with
 |nil=>simp
 |cons c s ih=>
  cases i with
  |zero=>
   have hc:p c=false:=by
    rcases hs with h | h
    ·simp at h
    ·simpa using h
   simp [List.takeWhile_cons,List.dropWhile_cons,hc]
  |succ i=>
   simp only [List.take_succ_cons,List.all_cons,Bool.and_eq_true] at ha
   obtain ⟨h1,h2⟩:=ih (i:=i) (by simpa using hi) ha.2 (by
    rcases hs with h | h
    ·exact .inl (by simpa using h)
    ·exact .inr (by simpa using h))
   simp [List.takeWhile_cons,List.dropWhile_cons,ha.1,h1,h2]
set_option maxHeartbeats 1000000 in
theorem zCL (s:Bys):Contract Tryz.prog zBq [.io [bS s]] { res:=.val (sv (s.takeWhile nameCh)),io:=[bS (s.dropWhile nameCh)] }:=by
 have hm0:maxLen=9223372036854775807:=rfl
 refine mkA zJM (base:=75) ⟨Nat.le_of_ble_eq_true rfl,Nat.le_of_ble_eq_true rfl,Nat.le_of_ble_eq_true rfl,⟨rfl,rfl⟩⟩ (fun hfit=>?_)
 unfold F0 zFr
 simp only [yIn,Nat.reduceAdd,Nat.reduceSub]
 try simp only [go_sem]
 repeat with_reducible refine zAc ?_
 have hm:=zG3 hfit.1.1
 refine zAr (fun i:Nat=>[(3,.pv (iv i)),(75,.pv (.one (bS s))),(56,.un)]) (fun i:Nat=>s.length - i) (fun i:Nat=>i≤s.length∧(s.take i).all nameCh=true) (0) ?_ ⟨Nat.zero_le _,rfl⟩ ?_
 focus (simp only [go_sem,zAf,zAl,zAs,zAb]; all_goals exact yLe)
 intro i ⟨hi,hall⟩
 cases hd:decide ((i:Int)<(s.length:Int)) with
 |false=>
  have hie:i=s.length:=by simp at hd; omega
  obtain ⟨e1,e2⟩:=yF4 hi hall (.inl hie)
  try simp only [go_sem,hd]
  repeat with_reducible refine zAc ?_
  refine zAa yF trivial (fun h=>?_) (fun h=>?_)
  ·simp at h
  ·try simp only [go_sem,List.take_length]
   repeat with_reducible refine zAc ?_
   rw [e1,e2]
   exact zBT rfl trivial (.inl (by simp)) rfl rfl
 |true=>
  have hlt:i<s.length:=by simpa using hd
  cases hA:decide ((97:Int)≤((s.getD i 0).toNat:Int)) <;> cases hB:decide (((s.getD i 0).toNat:Int)≤122) <;> cases hC:decide ((48:Int)≤((s.getD i 0).toNat:Int)) <;> cases hD:decide (((s.getD i 0).toNat:Int)≤57) <;> cases hE:(((s.getD i 0).toNat:Int) == 45) <;> try (exfalso; simp only [decide_eq_true_eq,decide_eq_false_iff_not,beq_iff_eq,beq_eq_false_iff_ne] at hA hB hC hD hE; omega)
  all_goals
   try simp only [go_sem,hd,hA,hB,hC,hD,hE,Bool.not_true,Bool.not_false]
   repeat with_reducible refine zAc ?_
  all_goals
   refine zAa yF trivial (fun h=>?_) (fun h=>?_)
  all_goals try (exfalso; simp only [Bool.true_eq_false,Bool.false_eq_true,reduceCtorEq] at h; done)
  all_goals simp only [decide_eq_true_eq,decide_eq_false_iff_not,beq_iff_eq,beq_eq_false_iff_ne] at hA hB hC hD hE
  all_goals first
   |have hb:nameCh (s.getD i 0)=true:=by
     simp only [nameCh,Bool.or_eq_true,decide_eq_true_eq]; omega
    try simp only [go_sem]
    repeat with_reducible refine zAc ?_
    refine ⟨i+1,by omega,⟨hlt,by rw [zD8 hlt (d:=0),hall,hb]; rfl⟩,?_⟩
    simp only [go_sem,zAf,zAl,zAs,zAb]
    exact zAi yO
   |have hb:nameCh (s.getD i 0)=false:=by
     simp only [nameCh,Bool.or_eq_false_iff,decide_eq_false_iff_not]; omega
    obtain ⟨e1,e2⟩:=yF4 hi hall (.inr hb)
    try simp only [go_sem,List.take_length]
    repeat with_reducible refine zAc ?_
    rw [e1,e2]
    exact zBT rfl trivial (.inl (by simp)) rfl rfl
theorem zBY (s:Bys):Contract Tryz.prog zDa [.io [bS s]] { res:=.val (sv (s.takeWhile fun c=>decide (c≠34))),io:=[bS (s.dropWhile fun c=>decide (c≠34))] }:=by
 have hm0:maxLen=9223372036854775807:=rfl
 refine mkA zH1 (base:=39) ⟨Nat.le_of_ble_eq_true rfl,Nat.le_of_ble_eq_true rfl,Nat.le_of_ble_eq_true rfl,⟨rfl,rfl⟩⟩ (fun hfit=>?_)
 unfold F0 zEZ
 simp only [yIn,Nat.reduceAdd,Nat.reduceSub]
 try simp only [go_sem]
 repeat with_reducible refine zAc ?_
 have hm:=zG3 hfit.1.1
 refine zAr (fun i:Nat=>[(3,.pv (iv i)),(39,.pv (.one (bS s))),(20,.un)]) (fun i:Nat=>s.length - i) (fun i:Nat=>i≤s.length∧(s.take i).all (fun c=>decide (c≠34))=true) (0) ?_ ⟨Nat.zero_le _,rfl⟩ ?_
 focus (simp only [go_sem,zAf,zAl,zAs,zAb]; all_goals exact yLe)
 intro i ⟨hi,hall⟩
 cases hd:decide ((i:Int)<(s.length:Int)) with
 |false=>
  have hie:i=s.length:=by simp at hd; omega
  obtain ⟨e1,e2⟩:=yF4 hi hall (.inl hie)
  try simp only [go_sem,hd]
  repeat with_reducible refine zAc ?_
  refine zAa yF trivial (fun h=>?_) (fun h=>?_)
  ·simp at h
  ·try simp only [go_sem,List.take_length]
   repeat with_reducible refine zAc ?_
   rw [e1,e2]
   exact zBT rfl trivial (.inl (by simp)) rfl rfl
 |true=>
  have hlt:i<s.length:=by simpa using hd
  try simp only [go_sem,hd]
  repeat with_reducible refine zAc ?_
  refine zAa yF trivial (fun h=>?_) (fun h=>?_)
  ·have hb:decide (s.getD i 0≠34)=true:=by
    simp only [bne_iff_ne,ne_eq] at h
    refine decide_eq_true fun e=>h ?_
    rw [e]; rfl
   try simp only [go_sem]
   repeat with_reducible refine zAc ?_
   refine ⟨i+1,by omega,⟨hlt,by rw [zD8 hlt (d:=0),hall,hb]; rfl⟩,?_⟩
   simp only [go_sem,zAf,zAl,zAs,zAb]
   exact zAi yO
  ·have hb:decide (s.getD i 0≠34)=false:=by
    simp only [bne_eq_false_iff_eq] at h
    refine decide_eq_false fun hc=>hc ?_
    apply UInt8.toNat_inj.1
    show (s.getD i 0).toNat=34
    omega
   obtain ⟨e1,e2⟩:=yF4 hi hall (.inr hb)
   try simp only [go_sem,List.take_length]
   repeat with_reducible refine zAc ?_
   rw [e1,e2]
   exact zBT rfl trivial (.inl (by simp)) rfl rfl
end Go.Hx
end
