/-
  Walks of functions of the program over an abstract layer, and the laws that they use: each contract says what the function computes, for every input that its conditions let by. No other condition.
-/
import Derived.Test.YtjnagiaooecklabGreatDoorG11
import Derived.Test.YtjnagiaooecklabGreatDoorG14
import Derived.Test.YtjnagiaooecklabGreatDoorG18
import Derived.Test.YtjnagiaooecklabGreatDoorG19
import Derived.Shelf.Strings.SlTrimAscii
import Derived.Test.YtjnagiaooecklabGreatDoorG15
import Derived.Test.YtjnagiaooecklabGreatDoorG12
set_option linter.all false
section
set_option maxRecDepth 100000
namespace Go.Hx
open Go.Proofs Go.RowKit
variable [Glob] [GlobL]
attribute [local go_sem] zAh zAj zAg zAd ndV zAm
attribute [local go_sem] reduceCtorEq Nat.reduceAdd Nat.reduceEqDiff reduceIte Nat.reduceLeDiff Nat.reduceLT Nat.reduceSub
theorem yE6 {R:Nat→Prop} {w w':World} (h:Below w.heap.size w w'):Pres R w w':=Pres.of_below _ h
theorem yKr {m:Mem} {w w':World} (hm:MemOk m w) (h:Below w.heap.size w w'):MemOk m w':=fun b o u hu=>by
 have h1:=hm b o u hu
 exact h1.block (h.block b h1.lt)
theorem yE7 {R:Nat→Prop} {w w':World} (h:Pres R w w') (hR:∀ b,¬ R b):Below w.heap.size w w':=⟨h.os,h.tape,h.output,h.size,fun b hb=>h.block b hb (hR b)⟩
theorem yMm {m:Mem} {w w':World} {avs:List AV} {us:List Value} {e:Ending} {x:PVal} {u:Value} (hm:MemOk m w) (h:Below w.heap.size w w') (he:e=.returned u) (hx:RpV m x u) (hio:ioB avs us=none):yVE m w avs us {res:=.val x} e w':=
 ⟨m,m.le_refl,yKr hm h,yE6 h,fun _ _ _ h=>.inl h,(fun b hb=>by rw [hio] at hb;cases hb),u,he,hx⟩
theorem yOm {w w':World} (h:Below w.heap.size w w') (hG:Glob.ok w):Glob.ok w':=
 Glob.keep _ _ (fun b hb=>h.block b (Nat.lt_of_lt_of_le hb (Glob.size _ hG))) hG
theorem yPR (s cs:Bys):(Lib.trimS s cs).length≤s.length:=by
 unfold Lib.trimS Lib.trimLeftS Lib.trimRightS
 refine Nat.le_trans (List.dropWhile_sublist _).length_le ?_
 rw [List.length_reverse]
 refine Nat.le_trans (List.dropWhile_sublist _).length_le ?_
 rw [List.length_reverse]
 exact Nat.le_refl _
theorem yPS {s:Bys} (h:s.length≤maxLen):zFI (mkS s)=true:=by
 simp only [zFI]
 exact decide_eq_true (by simpa [ByteArray.size] using h)
theorem yRJ {s:Bys} (h:zFI (mkS s)=true):s.length≤maxLen:=by
 simp only [zFI,decide_eq_true_eq] at h
 simpa [ByteArray.size] using h
theorem zZM (s cs:Bys) (hc:cs.length < 1000) (ha:cs.all (fun b=>decide (b.toNat < 128))=true):Contract Tryz.prog zF0 [.val (sv s),.val (sv cs)] {res:=.val (sv (Lib.trimS s cs))}:=by
 refine ⟨by kernel_rfl,fun m w us hm hargs _ hG _=>?_⟩
 obtain ⟨u1,us1,rfl,h1,u2,us2,rfl,h2,rfl⟩:=hargs
 obtain ⟨rfl,f1⟩:=h1
 obtain ⟨rfl,f2⟩:=h2
 have hs:=yRJ f1
 have hT:=Any.strings_Trim_laid Tryz.l160 (by kernel_rfl) ⟨s.toArray⟩ ⟨cs.toArray⟩ w (by simpa [ByteArray.size,maxLen] using hs) (by simp [ByteArray.size];omega) (ascii_of_all (by simpa using ha))
 change Calls Tryz.prog zF0 _ _ _ at hT
 refine hT.mono fun e w' ⟨he,hb⟩=>yMm hm hb he ⟨by simp,?_⟩ rfl
 exact yPS (Nat.le_trans (yPR s cs) hs)
theorem zEL (s:Bys) (g:Nat) (p:Nat→Bool) (hp:∀ r,128≤r→p r=true) (eg:∀ args w,(callFunc g args).run Tryz.prog w=.ok (.enter g args) w)
  (hg:∀ r:Nat,Contract Tryz.prog g [.val (.one (.v (.int .i32 r)))] {res:=.val (bv (p r))}):
  Contract Tryz.prog zBQ [.val (sv s),.val (.one (.clo g []))] {res:=.val (bv (!s.all (fun b=>decide (b.toNat < 128)&&!p b.toNat)))}:=by
 refine ⟨by kernel_rfl,fun m w us hm hargs _ hG _=>?_⟩
 obtain ⟨u1,us1,rfl,h1,u2,us2,rfl,h2,rfl⟩:=hargs
 obtain ⟨rfl,f1⟩:=h1
 obtain ⟨us,rfl,hus⟩:=h2
 obtain rfl:us=[]:=by simpa [RpL] using hus
 have hpg:PredGrows Tryz.prog g #[] p w:=fun W x _ hbW=>by
  refine ((hg x).2 (fun _ _=>none) W [.int .i32 x] (fun _ _ _ h=>by cases h) ⟨_,_,rfl,⟨rfl,rfl⟩,rfl⟩ (by intro g h;cases h) (yOm hbW hG) (by rintro b (h|h)<;>cases h)).mono fun e W' ⟨m',_,_,hpr,_,_,u,hu,hr⟩=>?_
  obtain rfl:u=.bool (p x):=hr.1
  exact ⟨hu,yE7 hpr (by intro b h;rcases h with h|h<;>cases h)⟩
 have hT:=Any.strings_ContainsFunc_grows Tryz.l17 g #[] eg p ⟨s.toArray⟩ w hpg
 change Calls Tryz.prog zBQ _ _ _ at hT
 rw [yUE hp] at hT
 exact hT.mono fun e w' ⟨he,hb⟩=>yMm hm hb he ⟨rfl,rfl⟩ rfl
def yOn (r:Nat):Bool:=((decide (r < 97)||decide (122 < r))&&(decide (r < 48)||decide (57 < r)))&&decide (r≠45)
def yBH (r:Nat):Bool:=decide (r < 32)||decide (126 < r)||decide (r=34)
theorem yHT (r:Nat):Contract Tryz.prog zDv [.val (.one (.v (.int .i32 r)))] {res:=.val (bv (yOn r))}:=by
 refine mkA yEi (base:=0) (fo rfl) (fun hfit=>?_)
 unfold F0 zQy
 refine goU ?_
 refine zAb rfl trivial (.inl ?_)
 congr 3
 unfold yOn
 grind
theorem yE8 (r:Nat):Contract Tryz.prog zCV [.val (.one (.v (.int .i32 r)))] {res:=.val (bv (yBH r))}:=by
 refine mkA zYS (base:=0) (fo rfl) (fun hfit=>?_)
 unfold F0 zM1
 refine goU ?_
 refine zAb rfl trivial (.inl ?_)
 congr 3
 unfold yBH
 grind
theorem yUF:∀ args w,(callFunc zDv args).run Tryz.prog w=.ok (.enter zDv args) w:=enters_of Tryz.func239 (by kernel_rfl) rfl
theorem yUG:∀ args w,(callFunc zCV args).run Tryz.prog w=.ok (.enter zCV args) w:=enters_of Tryz.func240 (by kernel_rfl) rfl
theorem zO8 {α:Type} {l:List α} {p q:α→Bool} (h:∀ x,p x=q x):l.all p=l.all q:=by rw [show p=q from funext h]
theorem yWN (b:UInt8):(decide (b.toNat < 128)&&!yBH b.toNat)=yNs b:=by
 unfold yBH yNs
 grind
theorem yUH (b:UInt8):(decide (b.toNat < 128)&&!yOn b.toNat)=zQj b:=by
 unfold yOn zQj
 grind
theorem yWO (b:UInt8):([97,98,99,100,101,102,103,104,105,106,107,108,109,110,111,112,113,114,115,116,117,118,119,120,121,122,48,49,50,51,52,53,54,55,56,57,45]:Bys).contains b=zQj b:=by
 have h:∀ n:Fin 256,([97,98,99,100,101,102,103,104,105,106,107,108,109,110,111,112,113,114,115,116,117,118,119,120,121,122,48,49,50,51,52,53,54,55,56,57,45]:Bys).contains (UInt8.ofFin n)=zQj (UInt8.ofFin n):=by decide +kernel
 exact h b.toFin
theorem zWs (s:Bys):Contract Tryz.prog zGu [.val (sv s)] {res:=.val (bv (zFd s))}:=by
 refine mkA yHC (base:=0) (fo rfl) (fun hfit=>?_)
 unfold F0 zVw
 refine goU ?_
 apply zAo (h2:=fun _=>zEL s zCV yBH (by intro r h;unfold yBH;grind) yUG yE8)
 ·(simp (maxSteps:=2000000) only [go_sem];rfl)
 ·intro h;repeat' (first|exact trivial|exact h|refine And.intro ?_ ?_)
 refine goW ?_
 refine zAb rfl trivial (.inl ?_)
 congr 3
 rw [zO8 yWN,zFd]
 grind
theorem zFH (s:Bys):Contract Tryz.prog zDg [.val (sv s)] {res:=.val (bv (zCg s))}:=by
 refine mkA yJR (base:=0) (fo rfl) (fun hfit=>?_)
 unfold F0 yBC
 refine goU ?_
 apply zAo (h2:=fun _=>zZM s _ (by decide) (by decide))
 ·(simp (maxSteps:=2000000) only [go_sem];rfl)
 ·intro h;repeat' (first|exact trivial|exact h|refine And.intro ?_ ?_)
 refine goW ?_
 apply zAo (h2:=fun _=>zEL s zDv yOn (by intro r h;unfold yOn;grind) yUF yHT)
 ·(simp (maxSteps:=2000000) only [go_sem];rfl)
 ·intro h;repeat' (first|exact trivial|exact h|refine And.intro ?_ ?_)
 refine goW ?_
 refine zAb rfl trivial (.inl ?_)
 congr 3
 rw [zO8 yUH,yRI,zO8 yWO,zCg]
 grind
end Go.Hx
end

section
set_option maxRecDepth 100000
namespace Go.Hx
open Go.Proofs
variable [Glob] [GlobL]
attribute [local go_sem] zAh zAj zAg zAd ndV zAm
attribute [local go_sem] reduceCtorEq Nat.reduceAdd Nat.reduceEqDiff reduceIte Nat.reduceLeDiff Nat.reduceLT Nat.reduceSub
theorem zKD (s:Bys):Contract Tryz.prog zFy [.val (sv s)] {res:=.val (sv s)}:=by
 refine mkA yDE (base:=0) (fo rfl) (fun hfit=>?_)
 unfold F0 zQs
 refine goU ?_
 refine goW ?_
 refine zAb rfl trivial (.inl ?_)
 congr 3
theorem zKE (a b:Bys):Contract Tryz.prog zFz [.val (.agg [bS a,bS b])] {res:=.val (sv a)}:=by
 refine mkA yDH (base:=0) (fo rfl) (fun hfit=>?_)
 unfold F0 zQt
 refine goU ?_
 refine goW ?_
 refine zAb rfl trivial (.inl ?_)
 congr 3
theorem yHW (a b:Bys):Contract Tryz.prog zEn [.val (.agg [bS a,bS b])] {res:=.val (bv (!zFd b))}:=by
 refine mkA yDK (base:=0) (fo rfl) (fun hfit=>?_)
 unfold F0 zQu
 refine goU ?_
 refine zAe (by repeat' constructor) (zWs _) ?_
 refine goW ?_
 refine goW ?_
 refine zAb rfl trivial (.inl ?_)
 congr 3
theorem yRK {l:List Bys} {i:Nat}:okC l (i+1)=(okC l i&&cOk l i):=zDH
theorem yBJ:∀ {x y:Bys},Op.bytesLess x y=true→Op.bytesLess y x=false
 |[],_,h=>by rename_i y;cases y<;>rfl
 |a::x,[],h=>by simp [Op.bytesLess] at h
 |a::x,b::y,h=>by
  simp only [Op.bytesLess,Bool.or_eq_true,Bool.and_eq_true,decide_eq_true_eq,beq_iff_eq] at h
  simp only [Op.bytesLess,Bool.or_eq_false_iff,Bool.and_eq_false_iff,decide_eq_false_iff_not,beq_eq_false_iff_ne]
  rcases h with h|⟨rfl,h⟩
  ·exact ⟨UInt8.lt_asymm h,.inl (fun e=>by subst e;exact UInt8.lt_irrefl _ h)⟩
  ·exact ⟨UInt8.lt_irrefl _,.inr (yBJ h)⟩
theorem yBK:∀ {x y:Bys},Op.bytesLess x y=false→x≠y→Op.bytesLess y x=true
 |[],[],_,h=>(h rfl).elim
 |[],b::y,h,_=>by simp [Op.bytesLess] at h
 |a::x,[],_,_=>rfl
 |a::x,b::y,h,hn=>by
  simp only [Op.bytesLess,Bool.or_eq_false_iff,Bool.and_eq_false_iff,decide_eq_false_iff_not,beq_eq_false_iff_ne] at h
  simp only [Op.bytesLess,Bool.or_eq_true,Bool.and_eq_true,decide_eq_true_eq,beq_iff_eq]
  obtain ⟨h1,h2⟩:=h
  by_cases e:a=b
  ·subst e
   refine .inr ⟨rfl,yBK (h2.resolve_left (fun h=>h rfl)) (fun e=>hn (by rw [e]))⟩
  ·refine .inl ?_
   have h3:b≤a:=UInt8.not_lt.1 h1
   exact UInt8.lt_of_le_of_ne h3 (Ne.symm e)
theorem yBL {x y:Bys}:(Op.bytesLess x y||x==y)=!Op.bytesLess y x:=by
 cases h:Op.bytesLess y x with
 |true=>
  have h1:=yBJ h
  have:¬ x=y:=fun e=>by subst e;rw [h1] at h;cases h
  simp [h1,this]
 |false=>
  by_cases e:x=y
  ·subst e;simp
  ·simp [yBK h (Ne.symm e)]
theorem zNO (l:List Bys):Contract Tryz.prog zDY [.val (.one (.sl 1 (yCG l))),.val (.one (.clo zFy []))] {res:=.val (bv (okC l l.length))}:=by
 refine mkA zMc (base:=0) (fo rfl) (fun hfit=>?_)
 unfold F0 zGw
 refine goU ?_
 have hm:=zC2 (k:=1) hfit.1
 rw [zAj] at hm
 refine zAc (fun i:Nat=>[(5,.pv (sv (if i=0 then [] else l.getD (i-1) []))),(7,.un),(10,.pv (iv i)),(11,.un),(25,.un)]) (fun i:Nat=>l.length-i) (fun i:Nat=>i≤l.length∧okC l i=true) (0) ?_ ⟨Nat.zero_le _,rfl⟩ ?_
 focus (exact leA)
 intro i ⟨hi,hok⟩
 refine goW ?_
 refine zAa (by rfl) trivial (fun h=>?_) (fun h=>?_)
 ·have hlt:i < l.length:=by simpa using h
  try simp (maxSteps:=2000000) only [go_sem,zGq _ _ hlt]
  repeat with_reducible refine zAt ?_
  refine zBX (by rfl) trivial (by repeat' constructor) (zKD _) ?_
  refine goW ?_
  refine zAe (by repeat' constructor) (zFH _) ?_
  refine goW ?_
  refine zUl (by simp (maxSteps:=2000000) only [go_sem];rfl) (by rfl) (by first|exact fun _=>trivial|exact fun h=>h) (by intro h;repeat' (first|exact trivial|exact h|refine And.intro ?_ ?_)) (fun _=>zKD _) ?_
  refine goW ?_
  rw [yBL]
  refine zAa (by rfl) trivial (fun h2=>?_) (fun h2=>?_)
  ·refine goW ?_
   refine zAb rfl trivial (.inl ?_)
   congr 3
   cases hn:okC l l.length with
   |false=>rfl
   |true=>
    exfalso
    have h4:=zBi hn hlt
    simp only [cOk,Bool.and_eq_true,Bool.or_eq_true,decide_eq_true_eq] at h4
    rw [h4.1] at h2
    by_cases h0:i=0
    ·subst h0
     cases hx:l.getD 0 [] with
     |nil=>rw [hx] at h4;simp [zCg] at h4
     |cons a r=>rw [hx] at h2;simp [Op.bytesLess] at h2
    ·rw [if_neg h0,h4.2.resolve_left h0] at h2
     simp at h2
  ·refine goW ?_
   refine zBX (by rfl) trivial (by repeat' constructor) (zKD _) ?_
   refine goW ?_
   refine ⟨i+1,by omega,⟨hlt,?_⟩,?_⟩
   ·rw [yRK,hok]
    simp only [Bool.true_and,cOk]
    cases hn:zCg (l.getD i []) with
    |false=>rw [hn] at h2;simp at h2
    |true=>
     rw [hn] at h2
     by_cases h0:i=0
     ·simp [h0]
     ·rw [if_neg h0] at h2
      simp at h2
      simp [h0,h2]
   ·exact leA
 ·refine goW ?_
  refine zAb rfl trivial (.inl ?_)
  congr 3
  have:i=l.length:=by simp at h;omega
  rw [←this];exact hok
def rOk (l:List (Bys×Bys)) (k:Nat):Bool:=zCg (l.getD k default).1&&(decide (k=0)||Op.bytesLess (l.getD (k-1) default).1 (l.getD k default).1)
def yHX (l:List (Bys×Bys)) (i:Nat):Bool:=(List.range i).all (rOk l)
abbrev yUI (l:List (Bys×Bys)):Bool:=yHX l l.length
theorem yKt {l:List (Bys×Bys)} {i:Nat}:yHX l (i+1)=(yHX l i&&rOk l i):=zDH
theorem zRR (l:List (Bys×Bys)):Contract Tryz.prog zDi [.val (.one (.sl 2 (yCH l))),.val (.one (.clo zFz []))] {res:=.val (bv (yUI l))}:=by
 refine mkA zJ9 (base:=0) (fo rfl) (fun hfit=>?_)
 unfold F0 zFo
 refine goU ?_
 have hm:=zC2 (k:=2) hfit.1
 rw [zAg] at hm
 refine zAc (fun i:Nat=>[(5,.pv (sv (if i=0 then [] else (l.getD (i-1) default).1))),(7,.un),(30,.un),(31,.un),(10,.pv (iv i)),(11,.un),(25,.un)]) (fun i:Nat=>l.length-i) (fun i:Nat=>i≤l.length∧yHX l i=true) (0) ?_ ⟨Nat.zero_le _,rfl⟩ ?_
 focus (exact leA)
 intro i ⟨hi,hok⟩
 refine goW ?_
 refine zAa (by rfl) trivial (fun h=>?_) (fun h=>?_)
 ·have hlt:i < l.length:=by simpa using h
  try simp (maxSteps:=2000000) only [go_sem,zGr _ _ hlt]
  repeat with_reducible refine zAt ?_
  refine zBX (by rfl) trivial (by repeat' constructor) (zKE _ _) ?_
  refine goW ?_
  refine zAe (by repeat' constructor) (zFH _) ?_
  refine goW ?_
  refine zUl (by simp (maxSteps:=2000000) only [go_sem];rfl) (by rfl) (by first|exact fun _=>trivial|exact fun h=>h) (by intro h;repeat' (first|exact trivial|exact h|refine And.intro ?_ ?_)) (fun _=>zKE _ _) ?_
  refine goW ?_
  rw [yBL]
  refine zAa (by rfl) trivial (fun h2=>?_) (fun h2=>?_)
  ·refine goW ?_
   refine zAb rfl trivial (.inl ?_)
   congr 3
   cases hn:yUI l with
   |false=>rfl
   |true=>
    exfalso
    have h4:=zBi hn hlt
    simp only [rOk,Bool.and_eq_true,Bool.or_eq_true,decide_eq_true_eq] at h4
    rw [h4.1] at h2
    by_cases h0:i=0
    ·subst h0
     cases hx:(l.getD 0 default).1 with
     |nil=>rw [hx] at h4;simp [zCg] at h4
     |cons a r=>rw [hx] at h2;simp [Op.bytesLess] at h2
    ·rw [if_neg h0,h4.2.resolve_left h0] at h2
     simp at h2
  ·refine goW ?_
   refine zBX (by rfl) trivial (by repeat' constructor) (zKE _ _) ?_
   refine goW ?_
   refine ⟨i+1,by omega,⟨hlt,?_⟩,?_⟩
   ·rw [yKt,hok]
    simp only [Bool.true_and,rOk]
    cases hn:zCg ((l.getD i default).1) with
    |false=>rw [hn] at h2;simp at h2
    |true=>
     rw [hn] at h2
     by_cases h0:i=0
     ·simp [h0]
     ·rw [if_neg h0] at h2
      simp at h2
      simp [h0,h2]
   ·exact leA
 ·refine goW ?_
  refine zAb rfl trivial (.inl ?_)
  congr 3
  have:i=l.length:=by simp at h;omega
  subst this;exact hok
def zZP (l:List (Bys×Bys)) (i:Nat):Bool:=!zFd (l.getD i default).2
def yHY (l:List (Bys×Bys)):Int:=match (List.range l.length).find? (zZP l) with|some i=>i|none=>-1
theorem zI7 (l:List (Bys×Bys)):Contract Tryz.prog zCn [.val (.one (.sl 2 (yCH l))),.val (.one (.clo zEn []))] {res:=.val (iv (yHY l))}:=by
 refine mkA zHo (base:=0) (fo rfl) (fun hfit=>?_)
 unfold F0 zEp
 refine goU ?_
 have hm:=zC2 (k:=2) hfit.1
 rw [zAg] at hm
 refine zAc (fun i:Nat=>[(5,.un),(8,.pv (iv i)),(9,.un),(16,.un)]) (fun i:Nat=>l.length-i) (fun i:Nat=>i≤l.length∧∀ k,k < i→zZP l k=false) (0) ?_ ⟨Nat.zero_le _,fun k hk=>by omega⟩ ?_
 focus (exact leA)
 intro i ⟨hi,hok⟩
 refine goW ?_
 refine zAa (by rfl) trivial (fun h=>?_) (fun h=>?_)
 ·have hlt:i < l.length:=by simpa using h
  try simp (maxSteps:=2000000) only [go_sem,zGr _ _ hlt]
  repeat with_reducible refine zAt ?_
  refine zBX (by rfl) trivial (by repeat' constructor) (yHW _ _) ?_
  refine goW ?_
  refine zAa (by rfl) trivial (fun h2=>?_) (fun h2=>?_)
  ·refine goW ?_
   refine zAb rfl trivial (.inl ?_)
   congr 3
   have h3:(List.range l.length).find? (zZP l)=some i:=List.find?_range_eq_some.2 ⟨h2,List.mem_range.2 hlt,fun j hj=>by rw [hok j hj];rfl⟩
   rw [yHY,h3]
  ·refine goW ?_
   refine ⟨i+1,by omega,⟨hlt,fun k hk=>?_⟩,?_⟩
   ·by_cases e:k=i
    ·rw [e];exact h2
    ·exact hok k (by omega)
   ·exact leA
 ·refine goW ?_
  refine zAb rfl trivial (.inl ?_)
  congr 3
  have:i=l.length:=by simp at h;omega
  have h3:(List.range l.length).find? (zZP l)=none:=List.find?_eq_none.2 fun x hx=>by rw [hok x (by rw [this];exact List.mem_range.1 hx)];simp
  rw [yHY,h3]
def yHZ (l:List (Bys×Bys)):Bool:=(List.range l.length).any (zZP l)
theorem yOo (l:List (Bys×Bys)):decide (0≤yHY l)=yHZ l:=by
 unfold yHY yHZ
 cases h:(List.range l.length).find? (zZP l) with
 |none=>
  have:=List.find?_eq_none.1 h
  have h2:(List.range l.length).any (zZP l)=false:=by
   rw [List.any_eq_false];exact this
  rw [h2];rfl
 |some i=>
  have:=List.find?_range_eq_some.1 h
  have h2:(List.range l.length).any (zZP l)=true:=List.any_eq_true.2 ⟨i,this.2.1,this.1⟩
  rw [h2]
  simp
theorem zGf (l:List (Bys×Bys)):Contract Tryz.prog zB0 [.val (.one (.sl 2 (yCH l))),.val (.one (.clo zEn []))] {res:=.val (bv (yHZ l))}:=by
 refine mkA zFZ (base:=0) (fo rfl) (fun hfit=>?_)
 unfold F0 zDC
 refine goU ?_
 refine zAe (by repeat' constructor) (zI7 _) ?_
 refine goW ?_
 refine goW ?_
 refine zAb rfl trivial (.inl ?_)
 congr 3
 rw [←yOo]
theorem yOp (l:List (Bys×Bys)):okA l l.length=(yUI l&&!yHZ l):=by
 rw [Bool.eq_iff_iff]
 simp only [okA,yHX,yHZ,Bool.and_eq_true,Bool.not_eq_true',List.all_eq_true,List.any_eq_false,List.mem_range]
 constructor
 ·intro h
  refine ⟨fun k hk=>?_,fun k hk=>?_⟩
  ·have:=h k hk
   simp only [aOk,rOk,Bool.and_eq_true] at this ⊢
   exact ⟨this.1.1,this.2⟩
  ·have:=h k hk
   simp only [aOk,zZP,Bool.and_eq_true] at this ⊢
   rw [this.1.2];simp
 ·intro ⟨h1,h2⟩ k hk
  have h3:=h1 k hk
  have h4:=h2 k hk
  simp only [aOk,rOk,zZP,Bool.and_eq_true,Bool.not_eq_true,Bool.not_eq_false'] at h3 h4 ⊢
  exact ⟨⟨h3.1,h4⟩,h3.2⟩
theorem zPb (x:Nd):Contract Tryz.prog zIX [.val (.agg (ndV x))] {res:=.val (bv (zBo x))}:=by
 unfold ndV
 refine mkA yJG (base:=0) (fo rfl) (fun hfit=>?_)
 unfold F0 yBA
 refine goU ?_
 refine zAe (by repeat' constructor) (zFH _) ?_
 refine goW ?_
 apply zAo (h2:=fun _=>zFH _)
 ·(simp (maxSteps:=2000000) only [go_sem];rfl)
 ·intro h;repeat' (first|exact trivial|exact h|refine And.intro ?_ ?_)
 refine goW ?_
 apply zAo (h2:=fun _=>zNO _)
 ·(simp (maxSteps:=2000000) only [go_sem];rfl)
 ·intro h;repeat' (first|exact trivial|exact h|refine And.intro ?_ ?_)
 refine goW ?_
 apply zAo (h2:=fun _=>zRR _)
 ·(simp (maxSteps:=2000000) only [go_sem];rfl)
 ·intro h;repeat' (first|exact trivial|exact h|refine And.intro ?_ ?_)
 refine goW ?_
 apply zAo (h2:=fun _=>zGf _)
 ·(simp (maxSteps:=2000000) only [go_sem];rfl)
 ·intro h;repeat' (first|exact trivial|exact h|refine And.intro ?_ ?_)
 refine goW ?_
 refine zAb rfl trivial (.inl ?_)
 congr 3
 simp only [zBo,yOp]
 grind
end Go.Hx
end

section
set_option maxRecDepth 100000
namespace Go.Hx
open Go.Proofs
variable [Glob] [GlobL]
attribute [local go_sem] zAh zAj zAg zAd ndV zAm
attribute [local go_sem] reduceCtorEq Nat.reduceAdd Nat.reduceEqDiff reduceIte Nat.reduceLeDiff Nat.reduceLT Nat.reduceSub
def zPc (u:Int) (c:List Int):List Int:=c.dropWhile fun x=>decide (x≠u)
theorem zWx {u:Int}:∀ c:List Int,(zPc u c=[])↔u∉c
 |[]=>by simp [zPc]
 |x::c=>by
  simp only [zPc,List.dropWhile_cons]
  by_cases h:x=u
  ·simp [h]
  ·have:=zWx (u:=u) c
   simp only [zPc] at this
   simp only [ne_eq,decide_not] at this
   simp [h,this,Ne.symm h]
theorem zWy {d:List Nd} {u:Int}:∀ (f:Nat) (k:Int),(∀ j:Nat,(j:Int)≤k→zAZ d j < j)→k < f→u∈zBN d f k→∀ g:Nat,u < g→zPc u (zBN d f k)=zBN d g u
 |0,k,_,_,hu=>by simp [zBN] at hu
 |f+1,k,h,hf,hu=>by
  intro g hg
  have hb:=zFT (f+1) k h _ hu
  simp only [zBN] at hu ⊢
  split at hu
  ·cases hu
  ·rename_i hk
   rw [if_neg hk]
   simp only [zPc,List.dropWhile_cons]
   by_cases e:k=u
   ·subst e
    simp only [ne_eq,not_true_eq_false,decide_false,Bool.false_eq_true,if_false]
    have:k::zBN d f (zAZ d k.toNat)=zBN d (f+1) k:=by simp [zBN,hk]
    rw [this]
    exact zHf _ _ _ h hf hg
   ·simp only [ne_eq,e,not_false_eq_true,decide_true,if_true]
    have h1:=h k.toNat (by omega)
    exact zWy f (zAZ d k.toNat) (fun j hj=>h j (by omega)) (by omega) ((List.mem_cons.1 hu).resolve_left (Ne.symm e)) g hg
theorem yBM (c:List Int) (x:Int):(zAM ((x::c).reverse)).getD c.length []=[bI x]:=by
 simp [zAM]
theorem yBN (c:List Int) (x:Int):(zAM ((x::c).reverse)).take c.length=zAM c.reverse:=by
 simp [zAM]
theorem yPT:zAM []=[]:=rfl
theorem yH0 {d:List Nd} {i:Nat}:yNt d i=((decide (i≠0)||decide (zAZ d i=-1))&&(decide (i=0)||!decide (zPc (zAZ d i) (zBN d i ((i:Int)-1))=[]))):=by
 unfold yNt
 by_cases h:i=0
 ·simp [h]
 ·have:=zWx (u:=zAZ d i) (zBN d i ((i:Int)-1))
  simp only [h,if_false,ne_eq,not_false_eq_true,decide_true,Bool.true_or,Bool.true_and,decide_false,Bool.false_or,this]
  simp
theorem yH1 {d:List Nd}:∀ (f:Nat) (k:Int),(zBN d f k).length≤f
 |0,_=>by simp [zBN]
 |f+1,k=>by
  simp only [zBN]
  split
  ·simp
  ·have:=yH1 (d:=d) f (zAZ d k.toNat)
   simp;omega
theorem yPU (n:Nat):((((n+1:Nat):Int))-1).toNat=n:=by omega
theorem yPV {d:List Nd} {i:Nat} (hl:1≤d.length∧d.length≤64) (hi:i < d.length) (h:yCI d i=false):zAl d=1:=by
 have:zDI d d.length=false:=by
  cases hd:zDI d d.length with
  |false=>rfl
  |true=>rw [zBi hd hi] at h;cases h
 simp [zAl,hl,this]
theorem zI8 (d:List Nd):Contract Tryz.prog zD5 [.val (zB6 d)] {res:=.val (iv (zAl d))}:=by
 unfold zB6
 refine mkA yHh (base:=0) (fo rfl) (fun hfit=>?_)
 unfold F0 zVd
 refine goU ?_
 refine zAa (by rfl) trivial (fun h=>?_) (fun h=>?_)
 ·refine goW ?_
  refine zAb rfl trivial (.inl ?_)
  congr 3
  have hl:¬ (1≤d.length∧d.length≤64):=by
   simp at h;omega
  simp [zAl,hl]
 have hl:1≤d.length∧d.length≤64:=by
  simp at h;omega
 refine goW ?_
 refine zAc (fun i:Nat=>[(3,.stk zAz 1 (zAM (zBN d i ((i:Int)-1)).reverse)),(4,.un),(5,.un),(19,.pv (iv i)),(20,.un),(37,.un),(63,.un),(69,.un),(70,.un),(71,.un),(72,.un),(73,.un)]) (fun i:Nat=>d.length-i) (fun i:Nat=>i≤d.length∧zDI d i=true) (0) ?_ ⟨Nat.zero_le _,rfl⟩ ?_
 focus (exact leA)
 intro i ⟨hi,hok⟩
 refine goW ?_
 refine zAa (by rfl) trivial (fun h2=>?_) (fun h2=>?_)
 ·have hlt:i < d.length:=by simpa using h2
  try simp (maxSteps:=2000000) only [go_sem,zBv _ _ hlt]
  repeat with_reducible refine zAt ?_
  have hcl:=yH1 (d:=d) i ((i:Int)-1)
  have hx:zAZ d i=(d.getD i default).up:=rfl
  refine zAc (fun c:List Int=>[(3,.stk zAz 1 (zAM c.reverse)),(37,.un)]) (fun c:List Int=>c.length) (fun c:List Int=>c.length≤i∧zPc (zAZ d i) c=zPc (zAZ d i) (zBN d i ((i:Int)-1))) ((zBN d i ((i:Int)-1))) ?_ ⟨hcl,rfl⟩ ?_
  focus (exact leA)
  intro c ⟨hcl,hc⟩
  cases c with
  |nil=>
   have hpop:zPc (zAZ d i) (zBN d i ((i:Int)-1))=[]:=by rw [←hc];rfl
   have hup:=yH0 (d:=d) (i:=i)
   rw [hpop] at hup
   try simp (maxSteps:=2000000) only [go_sem,List.reverse_nil,yPT,List.getD_nil,List.headD_nil]
   repeat with_reducible refine zAt ?_
   refine zAa (by rfl) trivial (fun h3=>?_) (fun h3=>?_)
   ·simp at h3
   refine goW ?_
   refine yGR (by repeat' constructor) (zPb (d.getD i default)) ?_
   refine goW ?_
   refine zAa (by rfl) trivial (fun h4=>?_) (fun h4=>?_)
   ·refine goW ?_
    refine zAb rfl trivial (.inl ?_)
    congr 3
    refine yPV hl hlt ?_
    rw [yCI,hup]
    grind
   ·refine goW ?_
    have h5:i=0:=by grind
    have h6:yCI d i=true:=by
     rw [yCI,hup]
     grind
    refine ⟨i+1,by omega,⟨by omega,by rw [zO9,hok,h6];rfl⟩,?_⟩
    simp (maxSteps:=2000000) only [go_sem,zAu,zAE,zA9,zAv]
    all_goals (repeat' (first|exact trivial|exact zAI (by omega)|exact zAB rfl|exact zAU rfl|exact zAW|exact le_refl _|refine And.intro ?_ ?_))
    refine zAU ?_
    subst h5
    have:zAZ d 0=-1:=by grind
    simp [zBN,this,zAM]
  |cons x c=>
   have hlen:c.length+1≤64:=by simp at hcl;omega
   try simp (maxSteps:=2000000) only [go_sem,List.length_reverse,yPU,yBM,yBN]
   repeat with_reducible refine zAt ?_
   refine zAa (by rfl) trivial (fun h3=>?_) (fun h3=>?_)
   ·try simp (maxSteps:=2000000) only [go_sem,List.length_reverse,yPU,yBM,yBN]
    repeat with_reducible refine zAt ?_
    refine ⟨c,by omega,⟨by simp at hcl;omega,?_⟩,?_⟩
    ·rw [←hc]
     simp only [zPc,List.dropWhile_cons]
     grind
    ·exact leA
   have hxu:x=zAZ d i:=by grind
   have hpop:zPc (zAZ d i) (zBN d i ((i:Int)-1))=x::c:=by rw [←hc];simp [zPc,hxu]
   have hup:=yH0 (d:=d) (i:=i)
   rw [hpop] at hup
   try simp (maxSteps:=2000000) only [go_sem,List.length_reverse]
   repeat with_reducible refine zAt ?_
   refine yGR (by repeat' constructor) (zPb (d.getD i default)) ?_
   refine goW ?_
   refine zAa (by rfl) trivial (fun h4=>?_) (fun h4=>?_)
   ·refine goW ?_
    refine zAb rfl trivial (.inl ?_)
    congr 3
    refine yPV hl hlt ?_
    rw [yCI,hup]
    grind
   ·refine goW ?_
    have hmem:zAZ d i∈zBN d i ((i:Int)-1):=by
     have:=zWx (u:=zAZ d i) (zBN d i ((i:Int)-1))
     rw [hpop] at this
     simpa using this
    have h5:i≠0:=by intro h0;subst h0;simp [zBN] at hmem
    have h6:yCI d i=true:=by
     rw [yCI,hup]
     grind
    refine ⟨i+1,by omega,⟨by omega,by rw [zO9,hok,h6];rfl⟩,?_⟩
    simp (maxSteps:=2000000) only [go_sem,zAu,zAE,zA9,zAv]
    all_goals (repeat' (first|exact trivial|exact zAI (by omega)|exact zAB rfl|exact zAU rfl|exact zAW|exact le_refl _|refine And.intro ?_ ?_))
    refine zAU ?_
    have hups:∀ j:Nat,(j:Int)≤(i:Int)-1→zAZ d j < j:=fun j hj=>(zB3 hok j (by omega)).2
    have hb:=zFT i ((i:Int)-1) hups _ hmem
    have hch:=zWy i ((i:Int)-1) hups (by omega) hmem i (by omega)
    rw [hpop] at hch
    have:zBN d (i+1) (((i+1:Nat):Int)-1)=(i:Int)::x::c:=by
     rw [show (((i+1:Nat):Int)-1)=(i:Int) by omega]
     simp only [zBN]
     rw [if_neg (by omega),hch]
     simp
    rw [this]
    simp [zAM]
 ·refine goW ?_
  refine zAb rfl trivial (.inl ?_)
  congr 3
  have hi2:i=d.length:=by simp at h2;omega
  subst hi2
  simp [zAl,hl,hok]
end Go.Hx
end

section
set_option maxRecDepth 100000
namespace Go.Hx
open Go.Proofs
variable [Glob] [GlobL]
attribute [local go_sem] zAh zAj zAg zAd ndV zAm
attribute [local go_sem] reduceCtorEq Nat.reduceAdd Nat.reduceEqDiff reduceIte Nat.reduceLeDiff Nat.reduceLT Nat.reduceSub
def yK2 (d:List Nd) (n:Nat):Nat→Nat→Nat
 |0,e=>e
 |f+1,e=>if (n:Int)≤zAZ d e then yK2 d n f (e+1) else e
def zAf (d:List Nd) (n:Nat):Nat:=yK2 d n (d.length-(n+1)) (n+1)
theorem yP0 {d:List Nd} {n:Nat}:∀ (f e:Nat),e≤yK2 d n f e∧yK2 d n f e≤e+f
 |0,e=>by simp [yK2]
 |f+1,e=>by
  simp only [yK2]
  split
  ·have:=yP0 (d:=d) (n:=n) f (e+1);omega
  ·omega
theorem zAy {d:List Nd} {n:Nat} (h:n < d.length):n < zAf d n∧zAf d n≤d.length:=by
 have:=yP0 (d:=d) (n:=n) (d.length-(n+1)) (n+1)
 simp only [zAf];omega
theorem yRS (d:List Nd) (i:Nat) (h:d.length≤i):(zDW d).getD i []=[]:=by simp [zDW,h]
theorem zGC (d:List Nd) (n:Nat) (hn:n < d.length):Contract Tryz.prog zDu [.val (zB6 d),.val (iv n)] {res:=.val (iv (zAf d n))}:=by
 unfold zB6
 refine mkA yDU (base:=0) (fo rfl) (fun hfit=>?_)
 unfold F0 zQv
 refine goU ?_
 have hm:=zC2 (k:=5) hfit.1.1
 rw [zAh] at hm
 refine goW ?_
 refine zAc (fun e:Nat=>[(5,.pv (iv e)),(22,.un)]) (fun e:Nat=>d.length-e) (fun e:Nat=>n < e∧e≤d.length∧yK2 d n (d.length-e) e=zAf d n) ((n+1)) ?_ ⟨by omega,by omega,rfl⟩ ?_
 focus (exact leA)
 intro e ⟨he,he2,hb⟩
 by_cases hlt:e < d.length
 ·have hlt':(e:Int) < d.length:=by omega
  try simp (maxSteps:=2000000) only [go_sem,zBv _ _ hlt]
  repeat with_reducible refine zAt ?_
  refine zAa (by rfl) trivial (fun h=>?_) (fun h=>?_)
  ·refine goW ?_
   refine ⟨e+1,by omega,⟨by omega,by omega,?_⟩,?_⟩
   ·rw [←hb,show d.length-e=(d.length-(e+1))+1 by omega]
    simp only [yK2]
    rw [if_pos]
    simp [zAZ] at h ⊢
    grind
   ·exact leA
  ·refine goW ?_
   refine zAb rfl trivial (.inl ?_)
   congr 3
   rw [←hb,show d.length-e=(d.length-(e+1))+1 by omega]
   simp only [yK2]
   rw [if_neg]
   simp [zAZ] at h ⊢
   grind
 ·have hge:d.length≤e:=by omega
  have hd:decide ((e:Int) < (d.length:Int))=false:=by simp;omega
  try simp (maxSteps:=2000000) only [go_sem,hd,yRS _ _ hge,List.take_nil,List.headD_nil]
  repeat with_reducible refine zAt ?_
  refine zAa (by rfl) trivial (fun h=>?_) (fun h=>?_)
  ·simp at h;try omega
  ·refine goW ?_
   refine zAb rfl trivial (.inl ?_)
   congr 3
   rw [←hb,show d.length-e=0 by omega]
   rfl
theorem zW1 (d:List Nd) (k:Int):Contract Tryz.prog zGv [.val (zB6 d),.val (iv k)] {res:=.val (iv (zD9 d k))}:=by
 unfold zB6
 refine mkA yHp (base:=0) (fo rfl) (fun hfit=>?_)
 unfold F0 zVe
 refine goU ?_
 refine zAe (by repeat' constructor) (zI8 d) ?_
 refine goW ?_
 refine zAa (by rfl) trivial (fun h=>?_) (fun h=>?_)
 ·refine goW ?_
  refine zAb rfl trivial (.inl ?_)
  congr 3
  simp at h
  simp [zD9,h]
 refine goW ?_
 have hc:zAl d=0:=by simpa using h
 refine zAa (by rfl) trivial (fun h2=>?_) (fun h2=>?_)
 ·refine goW ?_
  refine zAb rfl trivial (.inl ?_)
  congr 3
  rw [zD9,if_pos hc,if_neg (by grind)]
 ·refine goW ?_
  refine zAb rfl trivial (.inl ?_)
  congr 3
  rw [zD9,if_pos hc,if_pos (by grind)]
def zE9 (d:List Nd) (n:Nat):Nat→Nat→List Int
 |0,_=>[]
 |f+1,i=>if i < zAf d n then (i:Int)::zE9 d n f (zAf d i) else []
def zC3 (d:List Nd) (n:Nat):List Int:=zE9 d n d.length (n+1)
theorem yOu (d:List Nd) (n:Nat) (hn:n < d.length) (hd:d.length≤64):Contract Tryz.prog zLZ [.val (zB6 d),.val (iv n)] {res:=.own zAz 1 (zAM (zC3 d n))}:=by
 unfold zB6
 refine mkA yJO (base:=0) (fo rfl) (fun hfit=>?_)
 unfold F0 yBB
 refine goU ?_
 have hbn:=zAy hn
 refine zAc (fun s:List Int×Nat×Nat=>[(5,.own zAz 1 (zAM s.1)),(6,.pv (iv s.2.1)),(13,.un)]) (fun s:List Int×Nat×Nat=>s.2.2) (fun s:List Int×Nat×Nat=>s.1.length≤s.2.1∧s.2.1≤d.length∧d.length≤s.2.1+s.2.2∧s.1++zE9 d n s.2.2 s.2.1=zC3 d n) (([],n+1,d.length)) ?_ ⟨by simp,by simp;omega,by simp,by simp [zC3]⟩ ?_
 focus (exact leA)
 intro ⟨out,i,f⟩ ⟨h1,h2,h3,h4⟩
 simp only at h1 h2 h3 h4 ⊢
 refine goW ?_
 refine zAe (by repeat' constructor) (zGC d n hn) ?_
 refine goW ?_
 refine zAa (by rfl) trivial (fun h=>?_) (fun h=>?_)
 ·have hi:i < zAf d n:=by simpa using h
  have hil:i < d.length:=by omega
  have hbi:=zAy hil
  refine goW ?_
  refine zAe (by repeat' constructor) (zGC d i hil) ?_
  refine goW ?_
  cases f with
  |zero=>omega
  |succ f=>
   refine ⟨(out++[(i:Int)],zAf d i,f),by simp,⟨by simp;omega,by simp;omega,by simp;omega,?_⟩,?_⟩
   ·rw [←h4]
    simp only [zE9]
    rw [if_pos hi]
    simp
   ·simp (maxSteps:=2000000) only [go_sem,zAu,zAE,zA9,zAv]
    all_goals (repeat' (first|exact trivial|exact zAI (by omega)|exact zAB rfl|exact zAU rfl|exact zAW|exact le_refl _|refine And.intro ?_ ?_))
    exact zBk (by simp [zAM])
 ·refine goW ?_
  have hi:¬ i < zAf d n:=by simpa using h
  have:out=zC3 d n:=by
   rw [←h4]
   cases f with
   |zero=>simp [zE9]
   |succ f=>simp [zE9,hi]
  rw [←this]
  exact zDb rfl
end Go.Hx
end

section
set_option maxRecDepth 100000
namespace Go.Hx
open Go.Proofs
variable [Glob] [GlobL]
attribute [local go_sem] zAh zAj zAg zAd ndV zAm zAn fdV shV zBZ zAD zAO zAQ
attribute [local go_sem] reduceCtorEq Nat.reduceAdd Nat.reduceEqDiff reduceIte Nat.reduceLeDiff Nat.reduceLT Nat.reduceSub
theorem yP7 (N:Nat) (ih:yYM Tryz.prog N) (s:St) (d K:Nat) (c:Fd) (hN:SizeOf.sizeOf s≤N+1) (hd:d≤3) (hc:c.le K) (hK:K+bdS d≤1000000000):Contract Tryz.prog zDw [.io (fdV c),.val (.agg (stV s)),.val (iv d)] {res:=.tup [],io:=fdV (c.add (ntS s d))}:=by
 rw [zBg]
 unfold fdV
 refine mkA zO7 (base:=121) ⟨Nat.le_of_ble_eq_true rfl,Nat.le_of_ble_eq_true rfl,Nat.le_of_ble_eq_true rfl,⟨rfl,rfl⟩⟩ (fun hfit=>?_)
 unfold F0 zJo
 refine goU ?_
 have hbs:bdS d=1+6 * bdT d:=rfl
 have hbt:bdT d=5+bd (d+1):=rfl
 refine zAa (by rfl) trivial (fun h=>?_) (fun h=>?_)
 ·have e:ntS s d=fM true:=by rw [ySX,if_pos (by simp at h;omega)]
  have hm:=hc.m
  refine goW ?_
  refine zEQ (by repeat' constructor) (yE4 c true (by omega)) ?_
  refine goW ?_
  rw [e]
  exact yCF rfl rfl
 ·have hl6:s.tests.length≤6:=by simp at h;omega
  have e:ntS s d=(fF (!(s.tag==[])&&!zCg s.tag)).add (yMh s.tests d):=by rw [ySX,if_neg (by omega)]
  rw [e]
  refine goW ?_
  have hf:=hc.f
  apply zAo (h2:=fun _=>zFH s.tag)
  ·(simp (maxSteps:=2000000) only [go_sem];rfl)
  ·intro h;repeat' (first|exact trivial|exact h|refine And.intro ?_ ?_)
  refine goW ?_
  refine zEQ (by repeat' constructor) (zTp c (bif !(s.tag==[]) then !zCg s.tag else false) (by omega)) ?_
  try simp (maxSteps:=2000000) only [go_sem,Bool.cond_false_right]
  repeat with_reducible refine zAt ?_
  obtain ⟨c1,hc1⟩:∃ c1,c1=c.add (fF (!(s.tag==[])&&!zCg s.tag)):=⟨_,rfl⟩
  have hc2:c1.le (K+1):=by rw [hc1];exact hc.le_add (yGY _)
  rw [←Fd.add_assoc,←hc1]
  have hK0:K+1+(s.tests.length-0) * bdT d≤1000000000:=by
   have:(s.tests.length-0) * bdT d≤6 * bdT d:=Nat.mul_le_mul_right _ (by omega)
   omega
  refine zAc (fun x:Nat×Fd=>[(7,.un),(8,.un),(9,.un),(30,.pv (iv x.1)),(31,.un),(113,.un),(122,.pv (.one (bI x.2.f))),(123,.pv (.one (bI x.2.m))),(124,.pv (.one (bI x.2.r))),(125,.pv (.one (bI x.2.k)))]) (fun x:Nat×Fd=>s.tests.length-x.1) (fun x:Nat×Fd=>x.1≤s.tests.length∧(∃ K',x.2.le K'∧K'+(s.tests.length-x.1) * bdT d≤1000000000)∧x.2.add (yMh (s.tests.drop x.1) d)=c1.add (yMh s.tests d)) ((0,c1)) ?_ ⟨Nat.zero_le _,⟨K+1,hc2,hK0⟩,by simp⟩ ?_
  focus (exact leA)
  rintro ⟨i,a⟩ ⟨hi,⟨K',ha,hK'⟩,hsum⟩
  simp only at hi ha hK' hsum
  refine goW ?_
  refine zAa (by rfl) trivial (fun h2=>?_) (fun h2=>?_)
  ·have hil:i < s.tests.length:=by simp at h2;omega
   rw [zAH (d:=default) hil] at hsum
   obtain ⟨t,ht⟩:∃ t,t=s.tests.getD i default:=⟨_,rfl⟩
   rw [←ht] at hsum
   have hg:=zB4 s.tests i hil
   rw [←ht,zA1] at hg
   have hsz:SizeOf.sizeOf t.list≤N:=by
    have h3:=zER t
    have h4:=zUs hil
    rw [←ht] at h4
    have h5:=zDr s
    omega
   have hmul:(s.tests.length-i) * bdT d=bdT d+(s.tests.length-(i+1)) * bdT d:=by
    have:s.tests.length-i=(s.tests.length-(i+1))+1:=by omega
    rw [this,Nat.add_mul];omega
   have hbp:=yCL (4-(d+1))
   have hbe:bd (d+1)=bdF (4-(d+1)):=rfl
   simp only [yMh,yWF,yQP] at hsum
   try simp (maxSteps:=2000000) only [go_sem,hg]
   repeat with_reducible refine zAt ?_
   refine zA8 (by repeat' constructor) (yPO t.kind) ?_
   try simp (maxSteps:=2000000) only [go_sem,hg]
   repeat with_reducible refine zAt ?_
   have a1:=ha.k
   refine zEQ (by repeat' constructor) (yMj a (!kOk t.kind) (by omega)) ?_
   refine goW ?_
   obtain ⟨b1,hb1⟩:∃ b1,b1=a.add (fK (!kOk t.kind)):=⟨_,rfl⟩
   have l1:b1.le (K'+1):=by rw [hb1];exact ha.le_add (yUv _)
   rw [←hb1]
   have a2:=l1.f
   apply zAo (h2:=fun _=>zFH t.name)
   ·(simp (maxSteps:=2000000) only [go_sem];rfl)
   ·intro h;repeat' (first|exact trivial|exact h|refine And.intro ?_ ?_)
   refine goW ?_
   refine zEQ (by repeat' constructor) (zTp b1 _ (by omega)) ?_
   try simp (maxSteps:=2000000) only [go_sem,Bool.cond_false_right,Bool.cond_true_left]
   repeat with_reducible refine zAt ?_
   obtain ⟨b2,hb2⟩:∃ b2,b2=b1.add (fF (yST t)):=⟨_,rfl⟩
   have l2:b2.le (K'+1+1):=by rw [hb2];exact l1.le_add (yGY _)
   unfold yST at hb2
   rw [←hb2]
   have a3:=l2.f
   apply zAo (h2:=fun _=>zWs t.value)
   ·(simp (maxSteps:=2000000) only [go_sem];rfl)
   ·intro h;repeat' (first|exact trivial|exact h|refine And.intro ?_ ?_)
   refine goW ?_
   refine zEQ (by repeat' constructor) (zTp b2 _ (by omega)) ?_
   try simp (maxSteps:=2000000) only [go_sem,Bool.cond_false_right,Bool.cond_true_left]
   repeat with_reducible refine zAt ?_
   obtain ⟨b3,hb3⟩:∃ b3,b3=b2.add (fF (ySU t)):=⟨_,rfl⟩
   have l3:b3.le (K'+1+1+1):=by rw [hb3];exact l2.le_add (yGY _)
   unfold ySU at hb3
   rw [←hb3]
   have a4:=l3.f
   have e3:decide (0 < (t.list.length:Int))=decide (0 < t.list.length):=decide_eq_decide.2 (by omega)
   refine zEQ (by repeat' constructor) (zTp b3 _ (by omega)) ?_
   try simp (maxSteps:=2000000) only [go_sem,Bool.cond_false_right,Bool.cond_true_left,e3]
   repeat with_reducible refine zAt ?_
   obtain ⟨b4,hb4⟩:∃ b4,b4=b3.add (fF (yQM t)):=⟨_,rfl⟩
   have l4:b4.le (K'+1+1+1+1):=by rw [hb4];exact l3.le_add (yGY _)
   unfold yQM at hb4
   rw [←hb4]
   have a5:=l4.r
   refine zAe (by repeat' constructor) (yK9 t.na t.nb) ?_
   refine goW ?_
   refine zEQ (by repeat' constructor) (yRC b4 _ (by omega)) ?_
   refine goW ?_
   obtain ⟨b5,hb5⟩:∃ b5,b5=b4.add (fR (yMd t.na t.nb != 0)):=⟨_,rfl⟩
   have l5:b5.le (K'+1+1+1+1+1):=by rw [hb5];exact l4.le_add (yWJ _)
   rw [←hb5]
   have hT:b5=a.add (yQP t):=by
    rw [hb5,hb4,hb3,hb2,hb1]
    simp only [yQP,kOk,yST,ySU,yQM,Fd.add_assoc]
    congr 6
   refine zAa (by rfl) trivial (fun h3=>?_) (fun h3=>?_)
   ·rw [if_pos h3,←Fd.add_assoc,←Fd.add_assoc] at hsum
    have hst:=ih.1 t.list (d+1) (K'+5) b5 hsz (by omega) l5 (by omega)
    unfold fdV zBZ at hst
    rw [show ((d+1:Nat):Int)=(d:Int)+1 by omega] at hst
    refine goW ?_
    refine zEQ (by repeat' constructor) (hst) ?_
    refine goW ?_
    refine ⟨(i+1,b5.add (ntL t.list (d+1))),by simp only;omega,⟨by simp only;omega,⟨K'+5+bd (d+1),l5.le_add (b_L _ _),by simp only;omega⟩,?_⟩,?_⟩
    ·simp only
     rw [←hsum,hT]
     rfl
    ·exact leA
   ·rw [if_neg (by rw [h3];simp)] at hsum
    refine goW ?_
    refine ⟨(i+1,b5),by simp only;omega,⟨by simp only;omega,⟨K'+5,l5,by simp only;omega⟩,?_⟩,?_⟩
    ·simp only
     rw [←hsum,hT]
     simp only [yQP,Fd.add_assoc,Fd.zero_add]
    ·exact leA
  ·have hil:i=s.tests.length:=by simp at h2;omega
   subst hil
   rw [List.drop_length] at hsum
   refine goW ?_
   rw [←hsum]
   exact zCX rfl rfl
theorem zFa (l:List Pt):0 < SizeOf.sizeOf l:=by cases l<;>simp<;>omega
theorem yP8 (s:St):0 < SizeOf.sizeOf s:=by cases s;simp only [St.mk.sizeOf_spec];omega
theorem yFx:∀ N,yYM Tryz.prog N
 |0=>⟨fun l d K c h=>by have:=zFa l;omega,fun s d K c h=>by have:=yP8 s;omega⟩
 |N+1=>⟨fun l d K c h1 h2 h3 h4=>yPP N (yFx N) l d K c h1 h2 h3 h4,fun s d K c h1 h2 h3 h4=>yP7 N (yFx N) s d K c h1 h2 h3 h4⟩
theorem zR8 (l:List Pt):Contract Tryz.prog zBU [.io (fdV fd0),.val (zBZ l),.val (iv 1)] {res:=.tup [],io:=fdV (ntL l 1)}:=by
 have h:=(yFx (SizeOf.sizeOf l)).1 l 1 0 fd0 (Nat.le_refl _) (by omega) (yGZ 0) (by have:=yWI;omega)
 rw [Fd.zero_add] at h
 exact h
theorem yIq (l:List Pt):Contract Tryz.prog zI0 [.val (zBZ l)] {res:=.val (iv (zCK l))}:=by
 rw [←yWH]
 have hc:=zR8 l
 obtain ⟨c,hcc⟩:∃ c,c=ntL l 1:=⟨_,rfl⟩
 rw [←hcc] at hc ⊢
 unfold zBZ
 refine mkA yEw (base:=0) (fo rfl) (fun hfit=>?_)
 unfold F0 zQA
 refine goU ?_
 unfold fdV zBZ at hc
 refine zEQ (by repeat' constructor) (hc) ?_
 refine goW ?_
 refine zAe (by repeat' constructor) (yHR) ?_
 refine goW ?_
 refine zAc (fun i:Nat=>[(5,.un),(12,.pv (iv i)),(13,.un),(21,.un)]) (fun i:Nat=>4-i) (fun i:Nat=>i≤4∧(1≤i→c.m=0)∧(2≤i→c.k=0)∧(3≤i→c.f=0)∧(4≤i→c.r=0)) (0) ?_ ⟨by omega,by omega,by omega,by omega,by omega⟩ ?_
 focus (exact leA)
 rintro i ⟨hi,h1,h2,h3,h4⟩
 refine goW ?_
 refine zAa (by rfl) trivial (fun h=>?_) (fun h=>?_)
 ·have hlt:i < 4:=by simp at h;omega
  have hcase:i=0∨i=1∨i=2∨i=3:=by omega
  rcases hcase with rfl|rfl|rfl|rfl
  ·try simp (maxSteps:=2000000) only [go_sem,Int.reduceToNat,Int.toNat_natCast,List.getD_cons_zero,List.getD_cons_succ,PV.norm,Int.cast_ofNat_Int]
   repeat with_reducible refine zAt ?_
   refine zAa (by rfl) trivial (fun h5=>?_) (fun h5=>?_)
   ·refine goW ?_
    refine zAb rfl trivial (.inl ?_)
    congr 3
    have h6:0 < c.m:=by simp at h5;omega
    unfold yUt
    simp [ h6]
   ·refine goW ?_
    have h6:c.m=0:=by simp at h5;omega
    refine ⟨1,by omega,⟨by omega,fun _=>h6,by omega,by omega,by omega⟩,?_⟩
    exact leA
  ·try simp (maxSteps:=2000000) only [go_sem,Int.reduceToNat,Int.toNat_natCast,List.getD_cons_zero,List.getD_cons_succ,PV.norm,Int.cast_ofNat_Int]
   repeat with_reducible refine zAt ?_
   refine zAa (by rfl) trivial (fun h5=>?_) (fun h5=>?_)
   ·refine goW ?_
    refine zAb rfl trivial (.inl ?_)
    congr 3
    have h6:0 < c.k:=by simp at h5;omega
    unfold yUt
    simp [h1 (by omega),  h6]
   ·refine goW ?_
    have h6:c.k=0:=by simp at h5;omega
    refine ⟨2,by omega,⟨by omega,fun _=>h1 (by omega),fun _=>h6,by omega,by omega⟩,?_⟩
    exact leA
  ·try simp (maxSteps:=2000000) only [go_sem,Int.reduceToNat,Int.toNat_natCast,List.getD_cons_zero,List.getD_cons_succ,PV.norm,Int.cast_ofNat_Int]
   repeat with_reducible refine zAt ?_
   refine zAa (by rfl) trivial (fun h5=>?_) (fun h5=>?_)
   ·refine goW ?_
    refine zAb rfl trivial (.inl ?_)
    congr 3
    have h6:0 < c.f:=by simp at h5;omega
    unfold yUt
    simp [h1 (by omega),h2 (by omega),  h6]
   ·refine goW ?_
    have h6:c.f=0:=by simp at h5;omega
    refine ⟨3,by omega,⟨by omega,fun _=>h1 (by omega),fun _=>h2 (by omega),fun _=>h6,by omega⟩,?_⟩
    exact leA
  ·try simp (maxSteps:=2000000) only [go_sem,Int.reduceToNat,Int.toNat_natCast,List.getD_cons_zero,List.getD_cons_succ,PV.norm,Int.cast_ofNat_Int]
   repeat with_reducible refine zAt ?_
   refine zAa (by rfl) trivial (fun h5=>?_) (fun h5=>?_)
   ·refine goW ?_
    refine zAb rfl trivial (.inl ?_)
    congr 3
    have h6:0 < c.r:=by simp at h5;omega
    unfold yUt
    simp [h1 (by omega),h2 (by omega),h3 (by omega),  h6]
   ·refine goW ?_
    have h6:c.r=0:=by simp at h5;omega
    refine ⟨4,by omega,⟨by omega,fun _=>h1 (by omega),fun _=>h2 (by omega),fun _=>h3 (by omega),fun _=>h6⟩,?_⟩
    exact leA
 ·have hi4:i=4:=by simp at h;omega
  refine goW ?_
  refine zAb rfl trivial (.inl ?_)
  congr 3
  unfold yUt
  simp [h1 (by omega),h2 (by omega),h3 (by omega),h4 (by omega)]
end Go.Hx
end

section
set_option maxRecDepth 100000
namespace Go.Hx
open Go.Proofs
variable [Glob] [GlobL]
attribute [local go_sem] zAh zAj zAg zAd ndV zAm zAn zBZ zAD zAO zAQ
attribute [local go_sem] reduceCtorEq Nat.reduceAdd Nat.reduceEqDiff reduceIte Nat.reduceLeDiff Nat.reduceLT Nat.reduceSub
theorem zW5 (k:Int):Contract Tryz.prog zHq [.val (iv k)] {res:=.tup [bv (yJp k),bv (zUv k),bv (yUs k),bv (zIV k)]}:=by
 refine mkA yOh (base:=0) (fo rfl) (fun hfit=>?_)
 unfold F0 yHO
 refine goU ?_
 refine zAe (by repeat' constructor) (zBC k 1 8) ?_
 refine goW ?_
 refine zAe (by repeat' constructor) (zBC k 4 8) ?_
 refine goW ?_
 refine zAe (by repeat' constructor) (zBC k 13 15) ?_
 refine goW ?_
 have e:yUs k=(bif k==9 then true else k==10):=by
  unfold yUs
  by_cases h1:k=9<;>by_cases h2:k=10<;>simp [h1,h2]
 rw [e]
 exact zAL (by simp) ⟨zA5 rfl trivial (.inl rfl),zA5 rfl trivial (.inl rfl),zA5 rfl trivial (.inl rfl),zA5 rfl trivial (.inl rfl),rfl⟩
theorem yMx (n:Nat):decide (1≤(n:Int)∧(n:Int)≤5)=decide (1≤n∧n≤5):=decide_eq_decide.2 (by omega)
theorem yUP (n:Nat):decide (6 < (n:Int))=decide (6 < n):=decide_eq_decide.2 (by omega)
theorem yS0 (a b:Int):(a != b)=decide (a≠b):=by by_cases h:a=b<;>simp [h]
theorem yZI:∀ (N:Nat) (l:List Pt) (d:Nat),SizeOf.sizeOf l≤N→d≤4→Contract Tryz.prog zEZ [.val (zBZ l),.val (iv d)] {res:=.val (bv (tmL l d))}
 |0,l,d,hN,_=>by have:=zFa l;omega
 |N+1,l,d,hN,hd=>by
  have e3:decide (3 < (d:Int))=decide (3 < d):=decide_eq_decide.2 (by omega)
  unfold zBZ
  refine mkA zY6 (base:=0) (fo rfl) (fun hfit=>?_)
  unfold F0 zNg
  refine goU ?_
  apply zAo (h2:=fun _=>zBC l.length 1 5)
  ·(simp (maxSteps:=2000000) only [go_sem];rfl)
  ·intro h;repeat' (first|exact trivial|exact h|refine And.intro ?_ ?_)
  try simp (maxSteps:=2000000) only [go_sem,yMx,e3,Bool.cond_true_left]
  repeat with_reducible refine zAt ?_
  refine zAa (by rfl) trivial (fun h=>?_) (fun h=>?_)
  ·refine goW ?_
   refine zAb rfl trivial (.inl ?_)
   congr 3
   unfold tmL
   rw [h];rfl
  ·have hL:tmL l d=yPA l d:=by unfold tmL;rw [h];rfl
   have hd3:d≤3∧l.length≤5:=by
    simp at h;omega
   refine goW ?_
   refine zAc (fun i:Nat=>[(5,.pv (iv i)),(4,.un),(6,.un),(7,.un),(8,.un),(9,.un),(13,.un),(25,.un),(46,.un),(51,.un),(61,.un),(70,.un),(97,.un)]) (fun i:Nat=>l.length-i) (fun i:Nat=>i≤l.length∧yPA (l.drop i) d=tmL l d) (0) ?_ ⟨Nat.zero_le _,by rw [hL];rfl⟩ ?_
   focus (exact leA)
   rintro i ⟨hi,hinv⟩
   refine goW ?_
   refine zAa (by rfl) trivial (fun h2=>?_) (fun h2=>?_)
   ·have hil:i < l.length:=by simp at h2;omega
    rw [zAH (d:=default) hil] at hinv
    obtain ⟨p,hp⟩:∃ p,p=l.getD i default:=⟨_,rfl⟩
    rw [←hp] at hinv
    have hg:(zBx l).getD i []=[.sl 2 (zFG p.steps),.sl 1 (zAM p.links)]:=by rw [zBH l i hil,←hp,zA2]
    have hsz:SizeOf.sizeOf p.steps≤N:=by
     have h3:=zDs p
     have h4:=zUu hil
     rw [←hp] at h4
     omega
    simp only [yPA] at hinv
    have hps:tmP p d=(!(decide (1≤p.steps.length∧p.steps.length≤5))||decide ((p.links.length:Int)≠p.steps.length-1)||yPB p.steps d):=by cases p;rfl
    have hin:(!decide (1≤p.steps.length∧p.steps.length≤5))=false→inR .i64 ((p.steps.length:Int)-1):=by
     intro h5
     have:1≤p.steps.length∧p.steps.length≤5:=by simpa using h5
     exact zHe (by omega) (by omega)
    try simp (maxSteps:=2000000) only [go_sem,hg]
    repeat with_reducible refine zAt ?_
    refine zAe (by repeat' constructor) (zBC p.steps.length 1 5) ?_
    try simp (maxSteps:=2000000) only [go_sem,yMx,Bool.cond_true_left,yS0]
    repeat with_reducible refine zAt ?_
    refine zAa (by rfl) trivial (fun h3=>?_) (fun h3=>?_)
    ·refine goW ?_
     refine zAb rfl trivial (.inl ?_)
     congr 3
     rw [←hinv,hps,h3];rfl
    ·have hp5:p.steps.length≤5:=by simp at h3;omega
     rw [h3,Bool.false_or] at hps
     refine goW ?_
     refine zAc (fun k:Nat=>[(7,.pv (iv k)),(4,.un),(8,.un),(9,.un),(13,.un),(51,.un),(61,.un),(70,.un),(97,.un)]) (fun k:Nat=>p.steps.length-k) (fun k:Nat=>k≤p.steps.length∧yPB (p.steps.drop k) d=yPB p.steps d) (0) ?_ ⟨Nat.zero_le _,rfl⟩ ?_
     focus (exact leA)
     rintro k ⟨hk,hinv2⟩
     refine goW ?_
     refine zAa (by rfl) trivial (fun h4=>?_) (fun h4=>?_)
     ·have hkl:k < p.steps.length:=by simp at h4;omega
      rw [zAH (d:=default) hkl] at hinv2
      obtain ⟨q,hq⟩:∃ q,q=p.steps.getD k default:=⟨_,rfl⟩
      rw [←hq] at hinv2
      have hg3:(zFG p.steps).getD k []=[bS q.tag,.sl 6 (zCJ q.tests)]:=by rw [zCB _ k hkl,←hq,zBg]
      simp only [yPB] at hinv2
      have hqs:tmS q d=(decide (6 < q.tests.length)||yPC q.tests d):=by cases q;rfl
      try simp (maxSteps:=2000000) only [go_sem,hg3,yUP]
      repeat with_reducible refine zAt ?_
      refine zAa (by rfl) trivial (fun h5=>?_) (fun h5=>?_)
      ·refine goW ?_
       refine zAb rfl trivial (.inl ?_)
       congr 3
       rw [←hinv,hps,←hinv2,hqs,h5];rfl
      ·have hq6:q.tests.length≤6:=by simpa using h5
       rw [h5,Bool.false_or] at hqs
       refine goW ?_
       refine zAc (fun j:Nat=>[(8,.pv (iv j)),(4,.un),(9,.un),(13,.un),(70,.un),(97,.un)]) (fun j:Nat=>q.tests.length-j) (fun j:Nat=>j≤q.tests.length∧yPC (q.tests.drop j) d=yPC q.tests d) (0) ?_ ⟨Nat.zero_le _,rfl⟩ ?_
       focus (exact leA)
       rintro j ⟨hj,hinv3⟩
       try simp (maxSteps:=2000000) only [go_sem,hg3]
       repeat with_reducible refine zAt ?_
       refine zAa (by rfl) trivial (fun h6=>?_) (fun h6=>?_)
       ·have hjl:j < q.tests.length:=by simp at h6;omega
        rw [zAH (d:=default) hjl] at hinv3
        obtain ⟨t,ht⟩:∃ t,t=q.tests.getD j default:=⟨_,rfl⟩
        rw [←ht] at hinv3
        have hg4:=zB4 q.tests j hjl
        rw [←ht,zA1] at hg4
        have hszt:SizeOf.sizeOf t.list≤N:=by
         have h7:=zER t
         have h8:=zUs hjl
         rw [←ht] at h8
         have h9:=zUt hkl
         rw [←hq] at h9
         have h10:=zDr q
         omega
        simp only [yPC] at hinv3
        have hts:tmT t d=(zIV t.kind&&tmL t.list (d+1)):=by cases t;rfl
        have hrec:=yZI N t.list (d+1) hszt (by omega)
        unfold zBZ at hrec
        rw [show ((d+1:Nat):Int)=(d:Int)+1 by omega] at hrec
        try simp (maxSteps:=2000000) only [go_sem,hg3,hg4]
        repeat with_reducible refine zAt ?_
        refine zA8 (by repeat' constructor) (zW5 t.kind) ?_
        refine goW ?_
        apply zAo (h2:=fun _=>hrec)
        ·(simp (maxSteps:=2000000) only [go_sem];rfl)
        ·intro h;repeat' (first|exact trivial|exact h|refine And.intro ?_ ?_)
        try simp (maxSteps:=2000000) only [go_sem,Bool.cond_false_right]
        repeat with_reducible refine zAt ?_
        refine zAa (by rfl) trivial (fun h7=>?_) (fun h7=>?_)
        ·refine goW ?_
         refine zAb rfl trivial (.inl ?_)
         congr 3
         rw [←hinv,hps,←hinv2,hqs,←hinv3,hts,h7];rfl
        ·rw [h7] at hts
         rw [hts,Bool.false_or] at hinv3
         refine goW ?_
         refine ⟨j+1,by omega,⟨by omega,hinv3⟩,?_⟩
         exact leA
       ·have hjl:j=q.tests.length:=by simp at h6;omega
        subst hjl
        rw [List.drop_length] at hinv3
        rw [hqs,←hinv3] at hinv2
        refine goW ?_
        refine ⟨k+1,by omega,⟨by omega,hinv2⟩,?_⟩
        exact leA
     ·have hkl:k=p.steps.length:=by simp at h4;omega
      subst hkl
      rw [List.drop_length] at hinv2
      rw [hps,←hinv2] at hinv
      refine goW ?_
      refine ⟨i+1,by omega,⟨by omega,hinv⟩,?_⟩
      exact leA
   ·have hil:i=l.length:=by simp at h2;omega
    subst hil
    rw [List.drop_length] at hinv
    refine goW ?_
    refine zAb rfl trivial (.inl ?_)
    congr 3
    rw [←hinv];rfl
end Go.Hx
end

section
set_option maxRecDepth 100000
namespace Go.Hx
open Go.Proofs
variable [Glob] [GlobL]
attribute [local go_sem] zAh zAj zAg zAd ndV zAm zAn zBZ zAD zAO zAQ
attribute [local go_sem] reduceCtorEq Nat.reduceAdd Nat.reduceEqDiff reduceIte Nat.reduceLeDiff Nat.reduceLT Nat.reduceSub
theorem zTt {k:Nat} {rows:List (List PV)} (h:PV.fits (.sl k rows)):rows.length≤9223372036854775807:=by
 simp only [PV.fits] at h;exact h.1
theorem yIr:∀ {rows:List (List PV)} {i:Nat},zQR rows→i < rows.length→zHd (rows.getD i [])
 |[],i,_,h=>by simp at h
 |r::rs,0,h,_=>by simp only [zQR] at h;exact h.1
 |r::rs,i+1,h,hi=>by simp only [zQR] at h;simpa using yIr (rows:=rs) (i:=i) h.2 (by simpa using hi)
theorem yFy {k:Nat} {rows:List (List PV)} {i:Nat} (h:PV.fits (.sl k rows)) (hi:i < rows.length):zHd (rows.getD i []):=by
 simp only [PV.fits] at h;exact yIr h.2 hi
theorem yLb {x:PV} {r:List AV} (h:AVs.fits (.val (.one x)::r)):PV.fits x:=by
 simp only [AVs.fits] at h;exact h.1
theorem zJa {l:List Pt} {i:Nat} (h:PV.fits (.sl 2 (zBx l))) (hi:i < l.length):PV.fits (.sl 2 (zFG (l.getD i default).steps))∧PV.fits (.sl 1 (zAM (l.getD i default).links)):=by
 have h1:=yFy h (i:=i) (by rw [zAD];exact hi)
 rw [zBH l i hi,zA2] at h1
 simp only [zHd] at h1
 exact ⟨h1.1,h1.2.1⟩
theorem zNY {l:List St} {i:Nat} (h:PV.fits (.sl 2 (zFG l))) (hi:i < l.length):PV.fits (.sl 6 (zCJ (l.getD i default).tests)):=by
 have h1:=yFy h (i:=i) (by rw [zAO];exact hi)
 rw [zCB l i hi,zBg] at h1
 simp only [zHd] at h1
 exact h1.2.1
theorem zPq {l:List Pt} (h:PV.fits (.sl 2 (zBx l))):l.length≤9223372036854775807:=by have:=zTt h;rwa [zAD] at this
theorem zKK {l:List St} (h:PV.fits (.sl 2 (zFG l))):l.length≤9223372036854775807:=by have:=zTt h;rwa [zAO] at this
theorem zW6 {l:List Ts} (h:PV.fits (.sl 6 (zCJ l))):l.length≤9223372036854775807:=by have:=zTt h;rwa [zAQ] at this
theorem yP9 {l:List Int} (h:PV.fits (.sl 1 (zAM l))):l.length≤9223372036854775807:=by have:=zTt h;rwa [zAd] at this
theorem yZJ:∀ (N:Nat) (l:List Pt),SizeOf.sizeOf l≤N→Contract Tryz.prog zEY [.val (zBZ l)] {res:=.val (bv (yPD l))}
 |0,l,hN=>by have:=zFa l;omega
 |N+1,l,hN=>by
  unfold zBZ
  refine mkA zZh (base:=0) (fo rfl) (fun hfit=>?_)
  unfold F0 zNh
  refine goU ?_
  have ft:=yLb hfit
  have fl:=zPq ft
  refine zAc (fun i:Nat=>[(3,.pv (iv i)),(2,.un),(4,.un),(5,.un),(6,.un),(7,.un),(11,.un),(15,.un),(25,.un),(37,.un),(45,.un),(59,.un),(93,.un)]) (fun i:Nat=>l.length-i) (fun i:Nat=>i≤l.length∧yPD (l.drop i)=yPD l) (0) ?_ ⟨Nat.zero_le _,rfl⟩ ?_
  focus (exact leA)
  rintro i ⟨hi,hinv⟩
  refine goW ?_
  refine zAa (by rfl) trivial (fun h2=>?_) (fun h2=>?_)
  ·have hil:i < l.length:=by simp at h2;omega
   have fp:=zJa ft hil
   rw [zAH (d:=default) hil] at hinv
   obtain ⟨p,hp⟩:∃ p,p=l.getD i default:=⟨_,rfl⟩
   rw [←hp] at hinv fp
   have fps:=zKK fp.1
   have fpl:=yP9 fp.2
   have hg:(zBx l).getD i []=[.sl 2 (zFG p.steps),.sl 1 (zAM p.links)]:=by rw [zBH l i hil,←hp,zA2]
   have hsz:SizeOf.sizeOf p.steps≤N:=by
    have h3:=zDs p
    have h4:=zUu hil
    rw [←hp] at h4
    omega
   simp only [yPD] at hinv
   have hps:bkP p=(p.links.any zUw||yRs p.steps):=by cases p;rfl
   refine goW ?_
   refine zAc (fun k:Nat=>[(4,.pv (iv k)),(2,.un),(25,.un),(37,.un)]) (fun k:Nat=>p.links.length-k) (fun k:Nat=>k≤p.links.length∧(p.links.drop k).any zUw=p.links.any zUw) (0) ?_ ⟨Nat.zero_le _,rfl⟩ ?_
   focus (exact leA)
   rintro k ⟨hk,hinv2⟩
   try simp (maxSteps:=2000000) only [go_sem,hg]
   repeat with_reducible refine zAt ?_
   refine zAa (by rfl) trivial (fun h3=>?_) (fun h3=>?_)
   ·have hkl:k < p.links.length:=by simp at h3;omega
    rw [zAH (d:=0) hkl] at hinv2
    have hg2:=zDc p.links k hkl
    obtain ⟨v,hv⟩:∃ v,v=p.links.getD k 0:=⟨_,rfl⟩
    rw [←hv] at hg2 hinv2
    rw [List.any_cons] at hinv2
    try simp (maxSteps:=2000000) only [go_sem,hg,hg2]
    repeat with_reducible refine zAt ?_
    refine zAe (by repeat' constructor) (zBC v 1 4) ?_
    refine goW ?_
    refine zAa (by rfl) trivial (fun h4=>?_) (fun h4=>?_)
    ·refine goW ?_
     refine zAb rfl trivial (.inl ?_)
     congr 3
     have h5:zUw v=true:=h4
     rw [←hinv,hps,←hinv2,h5];rfl
    ·have h5:zUw v=false:=h4
     rw [h5,Bool.false_or] at hinv2
     refine goW ?_
     refine ⟨k+1,by omega,⟨by omega,hinv2⟩,?_⟩
     exact leA
   ·have hkl:k=p.links.length:=by simp at h3;omega
    subst hkl
    rw [List.drop_length] at hinv2
    rw [←hinv2] at hps
    have hps:bkP p=yRs p.steps:=hps
    refine goW ?_
    refine zAc (fun k:Nat=>[(5,.pv (iv k)),(2,.un),(6,.un),(7,.un),(11,.un),(45,.un),(59,.un),(93,.un)]) (fun k:Nat=>p.steps.length-k) (fun k:Nat=>k≤p.steps.length∧yRs (p.steps.drop k)=yRs p.steps) (0) ?_ ⟨Nat.zero_le _,rfl⟩ ?_
    focus (exact leA)
    rintro k ⟨hk,hinv2⟩
    try simp (maxSteps:=2000000) only [go_sem,hg]
    repeat with_reducible refine zAt ?_
    refine zAa (by rfl) trivial (fun h4=>?_) (fun h4=>?_)
    ·have hkl:k < p.steps.length:=by simp at h4;omega
     have fq:=zNY fp.1 hkl
     rw [zAH (d:=default) hkl] at hinv2
     obtain ⟨q,hq⟩:∃ q,q=p.steps.getD k default:=⟨_,rfl⟩
     rw [←hq] at hinv2 fq
     have fqt:=zW6 fq
     have hg3:(zFG p.steps).getD k []=[bS q.tag,.sl 6 (zCJ q.tests)]:=by rw [zCB _ k hkl,←hq,zBg]
     simp only [yRs] at hinv2
     have hqs:bkS q=ySS q.tests:=by cases q;rfl
     try simp (maxSteps:=2000000) only [go_sem,hg,hg3]
     repeat with_reducible refine zAt ?_
     refine zAc (fun j:Nat=>[(6,.pv (iv j)),(2,.un),(7,.un),(11,.un),(59,.un),(93,.un)]) (fun j:Nat=>q.tests.length-j) (fun j:Nat=>j≤q.tests.length∧ySS (q.tests.drop j)=ySS q.tests) (0) ?_ ⟨Nat.zero_le _,rfl⟩ ?_
     focus (exact leA)
     rintro j ⟨hj,hinv3⟩
     try simp (maxSteps:=2000000) only [go_sem,hg,hg3]
     repeat with_reducible refine zAt ?_
     refine zAa (by rfl) trivial (fun h6=>?_) (fun h6=>?_)
     ·have hjl:j < q.tests.length:=by simp at h6;omega
      rw [zAH (d:=default) hjl] at hinv3
      obtain ⟨t,ht⟩:∃ t,t=q.tests.getD j default:=⟨_,rfl⟩
      rw [←ht] at hinv3
      have hg4:=zB4 q.tests j hjl
      rw [←ht,zA1] at hg4
      have hszt:SizeOf.sizeOf t.list≤N:=by
       have h7:=zER t
       have h8:=zUs hjl
       rw [←ht] at h8
       have h9:=zUt hkl
       rw [←hq] at h9
       have h10:=zDr q
       omega
      simp only [ySS] at hinv3
      have hts:bkT t=(!(decide (1≤t.kind∧t.kind≤15))||(zIV t.kind&&yPD t.list)):=by cases t;rfl
      have hrec:=yZJ N t.list hszt
      unfold zBZ at hrec
      try simp (maxSteps:=2000000) only [go_sem,hg,hg3,hg4]
      repeat with_reducible refine zAt ?_
      refine zA8 (by repeat' constructor) (zW5 t.kind) ?_
      refine goW ?_
      refine zAe (by repeat' constructor) (zBC t.kind 1 15) ?_
      refine goW ?_
      apply zAo (h2:=fun _=>hrec)
      ·(simp (maxSteps:=2000000) only [go_sem];rfl)
      ·intro h;repeat' (first|exact trivial|exact h|refine And.intro ?_ ?_)
      try simp (maxSteps:=2000000) only [go_sem,Bool.cond_false_right,Bool.cond_true_left]
      repeat with_reducible refine zAt ?_
      refine zAa (by rfl) trivial (fun h7=>?_) (fun h7=>?_)
      ·refine goW ?_
       refine zAb rfl trivial (.inl ?_)
       congr 3
       rw [←hinv,hps,←hinv2,hqs,←hinv3,hts,h7];rfl
      ·rw [h7] at hts
       rw [hts,Bool.false_or] at hinv3
       refine goW ?_
       refine ⟨j+1,by omega,⟨by omega,hinv3⟩,?_⟩
       exact leA
     ·have hjl:j=q.tests.length:=by simp at h6;omega
      subst hjl
      rw [List.drop_length] at hinv3
      rw [hqs,←hinv3] at hinv2
      refine goW ?_
      refine ⟨k+1,by omega,⟨by omega,hinv2⟩,?_⟩
      exact leA
    ·have hkl:k=p.steps.length:=by simp at h4;omega
     subst hkl
     rw [List.drop_length] at hinv2
     rw [hps,←hinv2] at hinv
     refine goW ?_
     refine ⟨i+1,by omega,⟨by omega,hinv⟩,?_⟩
     exact leA
  ·have hil:i=l.length:=by simp at h2;omega
   subst hil
   rw [List.drop_length] at hinv
   refine goW ?_
   refine zAb rfl trivial (.inl ?_)
   congr 3
   rw [←hinv];rfl
end Go.Hx
end

section
set_option maxRecDepth 100000
set_option maxHeartbeats 2000000
namespace Go.Hx
open Go.Proofs
variable [Glob] [GlobL]
attribute [local go_sem] zAh zAj zAg zAd ndV zAm zAn zBZ zAD zAO zAQ
attribute [local go_sem] reduceCtorEq Nat.reduceAdd Nat.reduceEqDiff reduceIte Nat.reduceLeDiff Nat.reduceLT Nat.reduceSub
theorem yZK:∀ (N:Nat) (l:List Pt),SizeOf.sizeOf l≤N→Contract Tryz.prog zEX [.val (zBZ l)] {res:=.val (bv (yMe l))}
 |0,l,hN=>by have:=zFa l;omega
 |N+1,l,hN=>by
  unfold zBZ
  refine mkA zZs (base:=0) (fo rfl) (fun hfit=>?_)
  unfold F0 zNi
  refine goU ?_
  have ft:=yLb hfit
  have fl:=zPq ft
  refine zAc (fun i:Nat=>[(3,.pv (iv i)),(2,.un),(4,.un),(5,.un),(6,.un),(7,.un),(8,.un),(9,.un),(10,.un),(11,.un),(15,.un),(25,.un),(44,.un),(49,.un),(126,.un)]) (fun i:Nat=>l.length-i) (fun i:Nat=>i≤l.length∧yMe (l.drop i)=yMe l) (0) ?_ ⟨Nat.zero_le _,rfl⟩ ?_
  focus (exact leA)
  rintro i ⟨hi,hinv⟩
  refine goW ?_
  refine zAa (by rfl) trivial (fun h2=>?_) (fun h2=>?_)
  ·have hil:i < l.length:=by simp at h2;omega
   have fp:=zJa ft hil
   rw [zAH (d:=default) hil] at hinv
   obtain ⟨p,hp⟩:∃ p,p=l.getD i default:=⟨_,rfl⟩
   rw [←hp] at hinv fp
   have fps:=zKK fp.1
   have hg:(zBx l).getD i []=[.sl 2 (zFG p.steps),.sl 1 (zAM p.links)]:=by rw [zBH l i hil,←hp,zA2]
   have hsz:SizeOf.sizeOf p.steps≤N:=by
    have h3:=zDs p
    have h4:=zUu hil
    rw [←hp] at h4
    omega
   simp only [yMe] at hinv
   have hps:bfP p=yQN p.steps:=by cases p;rfl
   refine goW ?_
   refine zAc (fun k:Nat=>[(4,.pv (iv k)),(2,.un),(5,.un),(6,.un),(7,.un),(8,.un),(9,.un),(10,.un),(11,.un),(25,.un),(44,.un),(49,.un),(126,.un)]) (fun k:Nat=>p.steps.length-k) (fun k:Nat=>k≤p.steps.length∧yQN (p.steps.drop k)=yQN p.steps) (0) ?_ ⟨Nat.zero_le _,rfl⟩ ?_
   focus (exact leA)
   rintro k ⟨hk,hinv2⟩
   try simp (maxSteps:=2000000) only [go_sem,hg]
   repeat with_reducible refine zAt ?_
   refine zAa (by rfl) trivial (fun h4=>?_) (fun h4=>?_)
   ·have hkl:k < p.steps.length:=by simp at h4;omega
    have fq:=zNY fp.1 hkl
    rw [zAH (d:=default) hkl] at hinv2
    obtain ⟨q,hq⟩:∃ q,q=p.steps.getD k default:=⟨_,rfl⟩
    rw [←hq] at hinv2 fq
    have fqt:=zW6 fq
    have hg3:(zFG p.steps).getD k []=[bS q.tag,.sl 6 (zCJ q.tests)]:=by rw [zCB _ k hkl,←hq,zBg]
    simp only [yQN] at hinv2
    have hqs:bfS q=((!(q.tag==[])&&!zCg q.tag)||yQO q.tests):=by cases q;rfl
    try simp (maxSteps:=2000000) only [go_sem,hg,hg3]
    repeat with_reducible refine zAt ?_
    apply zAo (h2:=fun _=>zD7 q.tag)
    ·(simp (maxSteps:=2000000) only [go_sem];rfl)
    ·intro h;repeat' (first|exact trivial|exact h|refine And.intro ?_ ?_)
    try simp (maxSteps:=2000000) only [go_sem,Bool.cond_false_right]
    repeat with_reducible refine zAt ?_
    refine zAa (by rfl) trivial (fun h5=>?_) (fun h5=>?_)
    ·refine goW ?_
     refine zAb rfl trivial (.inl ?_)
     congr 3
     rw [←hinv,hps,←hinv2,hqs,h5];rfl
    rw [h5,Bool.false_or] at hqs
    refine goW ?_
    refine zAc (fun j:Nat=>[(6,.pv (iv j)),(2,.un),(7,.un),(8,.un),(9,.un),(10,.un),(11,.un),(49,.un),(126,.un)]) (fun j:Nat=>q.tests.length-j) (fun j:Nat=>j≤q.tests.length∧yQO (q.tests.drop j)=yQO q.tests) (0) ?_ ⟨Nat.zero_le _,rfl⟩ ?_
    focus (exact leA)
    rintro j ⟨hj,hinv3⟩
    try simp (maxSteps:=2000000) only [go_sem,hg,hg3]
    repeat with_reducible refine zAt ?_
    refine zAa (by rfl) trivial (fun h6=>?_) (fun h6=>?_)
    ·have hjl:j < q.tests.length:=by simp at h6;omega
     rw [zAH (d:=default) hjl] at hinv3
     obtain ⟨t,ht⟩:∃ t,t=q.tests.getD j default:=⟨_,rfl⟩
     rw [←ht] at hinv3
     have hg4:=zB4 q.tests j hjl
     rw [←ht,zA1] at hg4
     have hszt:SizeOf.sizeOf t.list≤N:=by
      have h7:=zER t
      have h8:=zUs hjl
      rw [←ht] at h8
      have h9:=zUt hkl
      rw [←hq] at h9
      have h10:=zDr q
      omega
     simp only [yQO] at hinv3
     have hts:bfT t=((yJp t.kind&&!zCg t.name)||((!yJp t.kind&&!(t.name==[]))||((zUv t.kind&&!zFd t.value)||((!zUv t.kind&&!(t.value==[]))||((!yUs t.kind&&!(t.na==0&&t.nb==0))||((!zIV t.kind&&decide (0 < t.list.length))||(zIV t.kind&&yMe t.list))))))):=by
      cases t
      simp only [bfT,yST,ySU,yQM,Ts.kind,Ts.name,Ts.value,Ts.na,Ts.nb,Ts.list,Bool.or_assoc]
     have e0:decide (0 < (t.list.length:Int))=decide (0 < t.list.length):=decide_eq_decide.2 (by omega)
     have hrec:=yZK N t.list hszt
     unfold zBZ at hrec
     try simp (maxSteps:=2000000) only [go_sem,hg,hg3,hg4]
     repeat with_reducible refine zAt ?_
     refine zA8 (by repeat' constructor) (zW5 t.kind) ?_
     refine goW ?_
     apply zAo (h2:=fun _=>zD7 t.name)
     ·(simp (maxSteps:=2000000) only [go_sem];rfl)
     ·intro h;repeat' (first|exact trivial|exact h|refine And.intro ?_ ?_)
     refine goW ?_
     apply zAo (h2:=fun _=>zNG t.value)
     ·(simp (maxSteps:=2000000) only [go_sem];rfl)
     ·intro h;repeat' (first|exact trivial|exact h|refine And.intro ?_ ?_)
     refine goW ?_
     apply zAo (h2:=fun _=>hrec)
     ·(simp (maxSteps:=2000000) only [go_sem];rfl)
     ·intro h;repeat' (first|exact trivial|exact h|refine And.intro ?_ ?_)
     try simp (maxSteps:=2000000) only [go_sem,Bool.cond_false_right,Bool.cond_true_left,e0,Bool.or_assoc]
     repeat with_reducible refine zAt ?_
     refine zAa (by rfl) trivial (fun h7=>?_) (fun h7=>?_)
     ·refine goW ?_
      refine zAb rfl trivial (.inl ?_)
      congr 3
      rw [←hinv,hps,←hinv2,hqs,←hinv3,hts,h7];simp
     ·rw [h7] at hts
      rw [hts,Bool.false_or] at hinv3
      refine goW ?_
      refine ⟨j+1,by omega,⟨by omega,hinv3⟩,?_⟩
      exact leA
    ·have hjl:j=q.tests.length:=by simp at h6;omega
     subst hjl
     rw [List.drop_length] at hinv3
     rw [hqs,←hinv3] at hinv2
     refine goW ?_
     refine ⟨k+1,by omega,⟨by omega,hinv2⟩,?_⟩
     exact leA
   ·have hkl:k=p.steps.length:=by simp at h4;omega
    subst hkl
    rw [List.drop_length] at hinv2
    rw [hps,←hinv2] at hinv
    refine goW ?_
    refine ⟨i+1,by omega,⟨by omega,hinv⟩,?_⟩
    exact leA
  ·have hil:i=l.length:=by simp at h2;omega
   subst hil
   rw [List.drop_length] at hinv
   refine goW ?_
   refine zAb rfl trivial (.inl ?_)
   congr 3
   rw [←hinv];rfl
theorem yZL:∀ (N:Nat) (l:List Pt),SizeOf.sizeOf l≤N→Contract Tryz.prog zFA [.val (zBZ l)] {res:=.val (bv (yOY l))}
 |0,l,hN=>by have:=zFa l;omega
 |N+1,l,hN=>by
  unfold zBZ
  refine mkA yEH (base:=0) (fo rfl) (fun hfit=>?_)
  unfold F0 zQB
  refine goU ?_
  have ft:=yLb hfit
  have fl:=zPq ft
  refine zAc (fun i:Nat=>[(3,.pv (iv i)),(2,.un),(4,.un),(5,.un),(6,.un),(10,.un),(20,.un),(34,.un),(57,.un)]) (fun i:Nat=>l.length-i) (fun i:Nat=>i≤l.length∧yOY (l.drop i)=yOY l) (0) ?_ ⟨Nat.zero_le _,rfl⟩ ?_
  focus (exact leA)
  rintro i ⟨hi,hinv⟩
  refine goW ?_
  refine zAa (by rfl) trivial (fun h2=>?_) (fun h2=>?_)
  ·have hil:i < l.length:=by simp at h2;omega
   have fp:=zJa ft hil
   rw [zAH (d:=default) hil] at hinv
   obtain ⟨p,hp⟩:∃ p,p=l.getD i default:=⟨_,rfl⟩
   rw [←hp] at hinv fp
   have fps:=zKK fp.1
   have hg:(zBx l).getD i []=[.sl 2 (zFG p.steps),.sl 1 (zAM p.links)]:=by rw [zBH l i hil,←hp,zA2]
   have hsz:SizeOf.sizeOf p.steps≤N:=by
    have h3:=zDs p
    have h4:=zUu hil
    rw [←hp] at h4
    omega
   simp only [yOY] at hinv
   have hps:bnP p=ySV p.steps:=by cases p;rfl
   refine goW ?_
   refine zAc (fun k:Nat=>[(4,.pv (iv k)),(2,.un),(5,.un),(6,.un),(20,.un),(34,.un),(57,.un)]) (fun k:Nat=>p.steps.length-k) (fun k:Nat=>k≤p.steps.length∧ySV (p.steps.drop k)=ySV p.steps) (0) ?_ ⟨Nat.zero_le _,rfl⟩ ?_
   focus (exact leA)
   rintro k ⟨hk,hinv2⟩
   try simp (maxSteps:=2000000) only [go_sem,hg]
   repeat with_reducible refine zAt ?_
   refine zAa (by rfl) trivial (fun h4=>?_) (fun h4=>?_)
   ·have hkl:k < p.steps.length:=by simp at h4;omega
    have fq:=zNY fp.1 hkl
    rw [zAH (d:=default) hkl] at hinv2
    obtain ⟨q,hq⟩:∃ q,q=p.steps.getD k default:=⟨_,rfl⟩
    rw [←hq] at hinv2 fq
    have fqt:=zW6 fq
    have hg3:(zFG p.steps).getD k []=[bS q.tag,.sl 6 (zCJ q.tests)]:=by rw [zCB _ k hkl,←hq,zBg]
    simp only [ySV] at hinv2
    have hqs:bnS q=ySW q.tests:=by cases q;rfl
    try simp (maxSteps:=2000000) only [go_sem,hg,hg3]
    repeat with_reducible refine zAt ?_
    refine zAc (fun j:Nat=>[(5,.pv (iv j)),(2,.un),(6,.un),(34,.un),(57,.un)]) (fun j:Nat=>q.tests.length-j) (fun j:Nat=>j≤q.tests.length∧ySW (q.tests.drop j)=ySW q.tests) (0) ?_ ⟨Nat.zero_le _,rfl⟩ ?_
    focus (exact leA)
    rintro j ⟨hj,hinv3⟩
    try simp (maxSteps:=2000000) only [go_sem,hg,hg3]
    repeat with_reducible refine zAt ?_
    refine zAa (by rfl) trivial (fun h6=>?_) (fun h6=>?_)
    ·have hjl:j < q.tests.length:=by simp at h6;omega
     rw [zAH (d:=default) hjl] at hinv3
     obtain ⟨t,ht⟩:∃ t,t=q.tests.getD j default:=⟨_,rfl⟩
     rw [←ht] at hinv3
     have hg4:=zB4 q.tests j hjl
     rw [←ht,zA1] at hg4
     have hszt:SizeOf.sizeOf t.list≤N:=by
      have h7:=zER t
      have h8:=zUs hjl
      rw [←ht] at h8
      have h9:=zUt hkl
      rw [←hq] at h9
      have h10:=zDr q
      omega
     simp only [ySW] at hinv3
     have hts:bnT t=(decide (yMd t.na t.nb≠0)||yOY t.list):=by
      cases t with
      |mk kk nn vv aa bb ll=>by_cases h9:yMd aa bb=0<;>simp [bnT,Ts.na,Ts.nb,Ts.list,h9]
     have hrec:=yZL N t.list hszt
     unfold zBZ at hrec
     try simp (maxSteps:=2000000) only [go_sem,hg,hg3,hg4]
     repeat with_reducible refine zAt ?_
     refine zAe (by repeat' constructor) (yAi t.na t.nb) ?_
     try simp (maxSteps:=2000000) only [go_sem,yS0]
     repeat with_reducible refine zAt ?_
     apply zAo (h2:=fun _=>hrec)
     ·(simp (maxSteps:=2000000) only [go_sem];rfl)
     ·intro h;repeat' (first|exact trivial|exact h|refine And.intro ?_ ?_)
     try simp (maxSteps:=2000000) only [go_sem,Bool.cond_false_right,Bool.cond_true_left]
     repeat with_reducible refine zAt ?_
     refine zAa (by rfl) trivial (fun h7=>?_) (fun h7=>?_)
     ·refine goW ?_
      refine zAb rfl trivial (.inl ?_)
      congr 3
      rw [←hinv,hps,←hinv2,hqs,←hinv3,hts,h7];simp
     ·rw [h7] at hts
      rw [hts,Bool.false_or] at hinv3
      refine goW ?_
      refine ⟨j+1,by omega,⟨by omega,hinv3⟩,?_⟩
      exact leA
    ·have hjl:j=q.tests.length:=by simp at h6;omega
     subst hjl
     rw [List.drop_length] at hinv3
     rw [hqs,←hinv3] at hinv2
     refine goW ?_
     refine ⟨k+1,by omega,⟨by omega,hinv2⟩,?_⟩
     exact leA
   ·have hkl:k=p.steps.length:=by simp at h4;omega
    subst hkl
    rw [List.drop_length] at hinv2
    rw [hps,←hinv2] at hinv
    refine goW ?_
    refine ⟨i+1,by omega,⟨by omega,hinv⟩,?_⟩
    exact leA
  ·have hil:i=l.length:=by simp at h2;omega
   subst hil
   rw [List.drop_length] at hinv
   refine goW ?_
   refine zAb rfl trivial (.inl ?_)
   congr 3
   rw [←hinv];rfl
theorem zW7 (l:List Pt):Contract Tryz.prog zFg [.val (zBZ l)] {res:=.val (iv (zCK l))}:=by
 have t1:=yZI (SizeOf.sizeOf l) l 1 (Nat.le_refl _) (by omega)
 have t2:=yZJ (SizeOf.sizeOf l) l (Nat.le_refl _)
 have t3:=yZK (SizeOf.sizeOf l) l (Nat.le_refl _)
 have t4:=yZL (SizeOf.sizeOf l) l (Nat.le_refl _)
 unfold zBZ at *
 refine mkA zRx (base:=0) (fo rfl) (fun hfit=>?_)
 unfold F0 zKm
 refine goU ?_
 refine zAe (by repeat' constructor) (t1) ?_
 refine goW ?_
 refine zAa (by rfl) trivial (fun h1=>?_) (fun h1=>?_)
 ·refine goW ?_
  refine zAb rfl trivial (.inl ?_)
  congr 3
  unfold zCK
  rw [if_pos h1]
 refine goW ?_
 refine zAe (by repeat' constructor) (t2) ?_
 refine goW ?_
 refine zAa (by rfl) trivial (fun h2=>?_) (fun h2=>?_)
 ·refine goW ?_
  refine zAb rfl trivial (.inl ?_)
  congr 3
  unfold zCK
  rw [if_neg (by rw [h1];simp),if_pos h2]
 refine goW ?_
 refine zAe (by repeat' constructor) (t3) ?_
 refine goW ?_
 refine zAa (by rfl) trivial (fun h3=>?_) (fun h3=>?_)
 ·refine goW ?_
  refine zAb rfl trivial (.inl ?_)
  congr 3
  unfold zCK
  rw [if_neg (by rw [h1];simp),if_neg (by rw [h2];simp),if_pos h3]
 refine goW ?_
 refine zAe (by repeat' constructor) (t4) ?_
 refine goW ?_
 refine zAa (by rfl) trivial (fun h4=>?_) (fun h4=>?_)
 ·refine goW ?_
  refine zAb rfl trivial (.inl ?_)
  congr 3
  unfold zCK
  rw [if_neg (by rw [h1];simp),if_neg (by rw [h2];simp),if_neg (by rw [h3];simp),if_pos h4]
 ·refine goW ?_
  refine zAb rfl trivial (.inl ?_)
  congr 3
  unfold zCK
  rw [if_neg (by rw [h1];simp),if_neg (by rw [h2];simp),if_neg (by rw [h3];simp),if_neg (by rw [h4];simp)]
end Go.Hx
end

section
set_option maxRecDepth 100000
namespace Go.Hx
open Go.Proofs
variable [Glob] [GlobL]
attribute [local go_sem] zAh zAj zAg zAd ndV zAm zAn zB6 List.take_nil zAD
end Go.Hx
end

section
set_option maxRecDepth 100000
namespace Go.Hx
open Go.Proofs
variable [Glob] [GlobL]
attribute [local go_sem] zAh zAj zAg zAd ndV zAm zAn zB6 atV OVal.cells yBd List.drop_succ_cons List.drop_zero List.take_succ_cons List.take_zero List.getD_nil yBt zFO Nat.sub_zero List.map_nil List.map_cons zFm zLR zG7 zAi
attribute [local go_sem ↓] yNp yNq
end Go.Hx
end

section
set_option maxRecDepth 100000
set_option maxHeartbeats 2000000
namespace Go.Hx
open Go.Proofs
variable [Glob] [GlobL]
attribute [local go_sem] zAh zAj zAg zAd ndV zAm zAn zBZ zAD zAO zAQ
attribute [local go_sem] reduceCtorEq Nat.reduceAdd Nat.reduceEqDiff reduceIte Nat.reduceLeDiff Nat.reduceLT Nat.reduceSub
def yS1 {α:Type} (p:α→Bool) (l:List α):Int:=if l.any p then (l.findIdx p:Int) else -1
theorem yMy {α:Type} (p:α→Bool) (l:List α):decide (0≤yS1 p l)=l.any p:=by
 unfold yS1
 cases h:l.any p<;>simp
theorem yIs {α:Type} {d:α} {p:α→Bool} {l:List α} (h:∀ k,k < l.length→p (l.getD k d)=false):yS1 p l=-1:=by
 unfold yS1
 have:l.any p=false:=by
  rw [List.any_eq_false]
  intro x hx
  obtain ⟨k,hk,rfl⟩:=List.getElem_of_mem hx
  have:=h k hk
  simp [hk] at this
  simp [this]
 rw [this];rfl
theorem yIt {α:Type} {d:α} {p:α→Bool} {l:List α} {i:Nat} (hi:i < l.length) (h1:p (l.getD i d)=true) (h:∀ k,k < i→p (l.getD k d)=false):yS1 p l=i:=by
 unfold yS1
 have h2:p l[i]=true:=by simpa [hi] using h1
 have:l.any p=true:=List.any_eq_true.2 ⟨l[i],List.getElem_mem hi,h2⟩
 rw [if_pos this,(List.findIdx_eq hi).2 ⟨h2,fun j hj=>by have:=h j hj;simpa [show j < l.length by omega] using this⟩]
theorem yMz (a b:List Pt):zBx (a++b)=zBx a++zBx b:=by simp [zDq]
theorem yRW (a b:List St):zFG (a++b)=zFG a++zFG b:=by simp [zEl]
theorem zE1 (a b:List Ts):zCJ (a++b)=zCJ a++zCJ b:=by simp [zEV]
theorem yLc (f:Nat) (caps:List PV) (l:List Pt) (p:Pt→Bool) (h:∀ i,i < l.length→Contract Tryz.prog f ([.val (.agg [.sl 2 (zFG (l.getD i default).steps),.sl 1 (zAM (l.getD i default).links)])]++caps.map fun c=>.val (.one c)) {res:=.val (bv (p (l.getD i default)))}):
  Contract Tryz.prog zCo [.val (.one (.sl 2 (zBx l))),.val (.one (.clo f caps))] {res:=.val (iv (yS1 p l))}:=by
 refine mkA zHA (base:=0) (fo rfl) (fun hfit=>?_)
 unfold F0 zEq
 refine goU ?_
 have ha:=zC2 (k:=2) hfit.1
 rw [zAD] at ha
 refine zAc (fun i:Nat=>[(8,.pv (iv i)),(4,.un),(5,.un),(9,.un),(16,.un)]) (fun i:Nat=>l.length-i) (fun i:Nat=>i≤l.length∧∀ k,k < i→p (l.getD k default)=false) (0) ?_ ⟨Nat.zero_le _,fun k hk=>by omega⟩ ?_
 focus (exact leA)
 rintro i ⟨hi,hinv⟩
 refine goW ?_
 refine zAa (by rfl) trivial (fun h2=>?_) (fun h2=>?_)
 ·have hil:i < l.length:=by simp at h2;omega
  have e1:=zBH l i hil
  rw [zA2] at e1
  have hc:=h i hil
  try simp (maxSteps:=2000000) only [go_sem,e1]
  repeat with_reducible refine zAt ?_
  refine zBX (by rfl) trivial (by repeat' constructor) (hc) ?_
  refine goW ?_
  refine zAa (by rfl) trivial (fun h3=>?_) (fun h3=>?_)
  ·refine goW ?_
   refine zAb rfl trivial (.inl ?_)
   congr 3
   exact yIt hil h3 hinv
  ·refine goW ?_
   refine ⟨i+1,by omega,⟨by omega,fun k hk=>?_⟩,?_⟩
   ·by_cases e:k=i
    ·rw [e];exact h3
    ·exact hinv k (by omega)
   ·exact leA
 ·have hil:i=l.length:=by simp at h2;omega
  refine goW ?_
  refine zAb rfl trivial (.inl ?_)
  congr 3
  exact yIs fun k hk=>hinv k (by omega)
theorem yLd (f:Nat) (caps:List PV) (l:List Pt) (p:Pt→Bool) (h:∀ i,i < l.length→Contract Tryz.prog f ([.val (.agg [.sl 2 (zFG (l.getD i default).steps),.sl 1 (zAM (l.getD i default).links)])]++caps.map fun c=>.val (.one c)) {res:=.val (bv (p (l.getD i default)))}):
  Contract Tryz.prog zB1 [.val (.one (.sl 2 (zBx l))),.val (.one (.clo f caps))] {res:=.val (bv (l.any p))}:=by
 refine mkA zF4 (base:=0) (fo rfl) (fun hfit=>?_)
 unfold F0 zDD
 refine goU ?_
 refine zAe (by repeat' constructor) (yLc f caps l p h) ?_
 refine goW ?_
 refine zAb rfl trivial (.inl ?_)
 congr 3
 rw [←yMy]
theorem yLf (f:Nat) (caps:List PV) (l:List Ts) (p:Ts→Bool) (h:∀ i,i < l.length→Contract Tryz.prog f ([.val (.agg [bI (l.getD i default).kind,bS (l.getD i default).name,bS (l.getD i default).value,bI (l.getD i default).na,bI (l.getD i default).nb,.sl 2 (zBx (l.getD i default).list)])]++caps.map fun c=>.val (.one c)) {res:=.val (bv (p (l.getD i default)))}):
  Contract Tryz.prog zCp [.val (.one (.sl 6 (zCJ l))),.val (.one (.clo f caps))] {res:=.val (iv (yS1 p l))}:=by
 refine mkA zHK (base:=0) (fo rfl) (fun hfit=>?_)
 unfold F0 zEr
 refine goU ?_
 have ha:=zC2 (k:=6) hfit.1
 rw [zAQ] at ha
 refine zAc (fun i:Nat=>[(8,.pv (iv i)),(4,.un),(5,.un),(9,.un),(16,.un)]) (fun i:Nat=>l.length-i) (fun i:Nat=>i≤l.length∧∀ k,k < i→p (l.getD k default)=false) (0) ?_ ⟨Nat.zero_le _,fun k hk=>by omega⟩ ?_
 focus (exact leA)
 rintro i ⟨hi,hinv⟩
 refine goW ?_
 refine zAa (by rfl) trivial (fun h2=>?_) (fun h2=>?_)
 ·have hil:i < l.length:=by simp at h2;omega
  have e1:=zB4 l i hil
  rw [zA1] at e1
  have hc:=h i hil
  try simp (maxSteps:=2000000) only [go_sem,e1]
  repeat with_reducible refine zAt ?_
  refine zBX (by rfl) trivial (by repeat' constructor) (hc) ?_
  refine goW ?_
  refine zAa (by rfl) trivial (fun h3=>?_) (fun h3=>?_)
  ·refine goW ?_
   refine zAb rfl trivial (.inl ?_)
   congr 3
   exact yIt hil h3 hinv
  ·refine goW ?_
   refine ⟨i+1,by omega,⟨by omega,fun k hk=>?_⟩,?_⟩
   ·by_cases e:k=i
    ·rw [e];exact h3
    ·exact hinv k (by omega)
   ·exact leA
 ·have hil:i=l.length:=by simp at h2;omega
  refine goW ?_
  refine zAb rfl trivial (.inl ?_)
  congr 3
  exact yIs fun k hk=>hinv k (by omega)
theorem yLg (f:Nat) (caps:List PV) (l:List Ts) (p:Ts→Bool) (h:∀ i,i < l.length→Contract Tryz.prog f ([.val (.agg [bI (l.getD i default).kind,bS (l.getD i default).name,bS (l.getD i default).value,bI (l.getD i default).na,bI (l.getD i default).nb,.sl 2 (zBx (l.getD i default).list)])]++caps.map fun c=>.val (.one c)) {res:=.val (bv (p (l.getD i default)))}):
  Contract Tryz.prog zB2 [.val (.one (.sl 6 (zCJ l))),.val (.one (.clo f caps))] {res:=.val (bv (l.any p))}:=by
 refine mkA zF7 (base:=0) (fo rfl) (fun hfit=>?_)
 unfold F0 zDE
 refine goU ?_
 refine zAe (by repeat' constructor) (yLf f caps l p h) ?_
 refine goW ?_
 refine zAb rfl trivial (.inl ?_)
 congr 3
 rw [←yMy]
end Go.Hx
end

section
set_option maxRecDepth 100000
namespace Go.Hx
open Go.Proofs
variable [Glob]
attribute [local go_sem] zAh zAj zAg zAd ndV zAm zB6 zBZ
def smallD:List Nd:=[
 {up:=-1,tag:=[108,105,115,116],id:=[116,111,112],cls:=[],att:=[]},
 {up:=0,tag:=[105,116,101,109],id:=[],cls:=[[97]],att:=[]},
 {up:=0,tag:=[105,116,101,109],id:=[],cls:=[[98]],att:=[]},
 {up:=2,tag:=[108,105,110,107],id:=[],cls:=[],att:=[([116,111],[111,110,101,32,116,119,111])]},
 {up:=0,tag:=[105,116,101,109],id:=[],cls:=[[97]],att:=[]}]
theorem yLh:Contract Tryz.prog zJX [] {res:=.val (zB6 smallD)}:=by
 refine mkA yHz (base:=0) (fo rfl) (fun hfit=>?_)
 unfold F0 zVv
 refine goU ?_
 exact zCH rfl rfl rfl
end Go.Hx
end

section
set_option maxRecDepth 100000
set_option maxHeartbeats 2000000
namespace Go.Hx
open Go.Proofs
variable [Glob] [GlobL]
attribute [local go_sem] zAh zAj zAg zAd ndV zAm zAn zBZ zAD zAO zAQ
attribute [local go_sem] reduceCtorEq Nat.reduceAdd Nat.reduceEqDiff reduceIte Nat.reduceLeDiff Nat.reduceLT Nat.reduceSub
theorem yB2 (f:Nat) (a b:List Pt) (h:∀ i,i < a.length→i < b.length→Contract Tryz.prog f [.val (.agg [.sl 2 (zFG (a.getD i default).steps),.sl 1 (zAM (a.getD i default).links)]),.val (.agg [.sl 2 (zFG (b.getD i default).steps),.sl 1 (zAM (b.getD i default).links)])] {res:=.val (bv (zCx (a.getD i default) (b.getD i default)))}):
  Contract Tryz.prog zBI [.val (.one (.sl 2 (zBx a))),.val (.one (.sl 2 (zBx b))),.val (.one (.clo f []))] {res:=.val (bv (zCy a b))}:=by
 refine mkA zH0 (base:=0) (fo rfl) (fun hfit=>?_)
 unfold F0 zEB
 refine goU ?_
 have ha:=zC2 (k:=2) hfit.1
 rw [zAD] at ha
 refine zAa (by rfl) trivial (fun h1=>?_) (fun h1=>?_)
 ·refine goW ?_
  refine zAb rfl trivial (.inl ?_)
  congr 3
  have:a.length≠b.length:=by simp at h1;omega
  rw [yB1 this]
 have hl:a.length=b.length:=by simp at h1;omega
 refine goW ?_
 refine zAc (fun i:Nat=>[(17,.pv (iv i)),(6,.un),(7,.un),(8,.un),(9,.un),(18,.un),(30,.un),(32,.un),(33,.un),(34,.un),(35,.un)]) (fun i:Nat=>a.length-i) (fun i:Nat=>i≤a.length∧zCy (a.drop i) (b.drop i)=zCy a b) (0) ?_ ⟨Nat.zero_le _,rfl⟩ ?_
 focus (exact leA)
 rintro i ⟨hi,hinv⟩
 refine goW ?_
 refine zAa (by rfl) trivial (fun h2=>?_) (fun h2=>?_)
 ·have hil:i < a.length:=by simp at h2;omega
  have hib:i < b.length:=by omega
  rw [zAH (d:=default) hil,zAH (d:=default) hib,zCy] at hinv
  have e1:=zBH a i hil
  have e2:=zBH b i hib
  rw [zA2] at e1 e2
  have hc:=h i hil hib
  try simp (maxSteps:=2000000) only [go_sem,e1,e2]
  repeat with_reducible refine zAt ?_
  refine zBX (by rfl) trivial (by repeat' constructor) (hc) ?_
  refine goW ?_
  refine zAa (by rfl) trivial (fun h3=>?_) (fun h3=>?_)
  ·refine goW ?_
   refine zAb rfl trivial (.inl ?_)
   congr 3
   rw [←hinv]
   have h4:zCx (a.getD i default) (b.getD i default)=false:=by simpa using h3
   rw [h4];rfl
  ·have h4:zCx (a.getD i default) (b.getD i default)=true:=by simpa using h3
   rw [h4,Bool.true_and] at hinv
   refine goW ?_
   refine ⟨i+1,by omega,⟨by omega,hinv⟩,?_⟩
   exact leA
 ·have hil:i=a.length:=by simp at h2;omega
  refine goW ?_
  refine zAb rfl trivial (.inl ?_)
  congr 3
  rw [←hinv,hil,List.drop_length,hl,List.drop_length]
  simp only [zCy]
theorem yOM (f:Nat) (a b:List St) (h:∀ i,i < a.length→i < b.length→Contract Tryz.prog f [.val (.agg [bS (a.getD i default).tag,.sl 6 (zCJ (a.getD i default).tests)]),.val (.agg [bS (b.getD i default).tag,.sl 6 (zCJ (b.getD i default).tests)])] {res:=.val (bv (zPt (a.getD i default) (b.getD i default)))}):
  Contract Tryz.prog zCu [.val (.one (.sl 2 (zFG a))),.val (.one (.sl 2 (zFG b))),.val (.one (.clo f []))] {res:=.val (bv (zEc a b))}:=by
 refine mkA zIb (base:=0) (fo rfl) (fun hfit=>?_)
 unfold F0 zEC
 refine goU ?_
 have ha:=zC2 (k:=2) hfit.1
 rw [zAO] at ha
 refine zAa (by rfl) trivial (fun h1=>?_) (fun h1=>?_)
 ·refine goW ?_
  refine zAb rfl trivial (.inl ?_)
  congr 3
  have:a.length≠b.length:=by simp at h1;omega
  rw [yB0 this]
 have hl:a.length=b.length:=by simp at h1;omega
 refine goW ?_
 refine zAc (fun i:Nat=>[(17,.pv (iv i)),(6,.un),(7,.un),(8,.un),(9,.un),(18,.un),(30,.un),(32,.un),(33,.un),(34,.un),(35,.un)]) (fun i:Nat=>a.length-i) (fun i:Nat=>i≤a.length∧zEc (a.drop i) (b.drop i)=zEc a b) (0) ?_ ⟨Nat.zero_le _,rfl⟩ ?_
 focus (exact leA)
 rintro i ⟨hi,hinv⟩
 refine goW ?_
 refine zAa (by rfl) trivial (fun h2=>?_) (fun h2=>?_)
 ·have hil:i < a.length:=by simp at h2;omega
  have hib:i < b.length:=by omega
  rw [zAH (d:=default) hil,zAH (d:=default) hib,zEc] at hinv
  have e1:=zCB a i hil
  have e2:=zCB b i hib
  rw [zBg] at e1 e2
  have hc:=h i hil hib
  try simp (maxSteps:=2000000) only [go_sem,e1,e2]
  repeat with_reducible refine zAt ?_
  refine zBX (by rfl) trivial (by repeat' constructor) (hc) ?_
  refine goW ?_
  refine zAa (by rfl) trivial (fun h3=>?_) (fun h3=>?_)
  ·refine goW ?_
   refine zAb rfl trivial (.inl ?_)
   congr 3
   rw [←hinv]
   have h4:zPt (a.getD i default) (b.getD i default)=false:=by simpa using h3
   rw [h4];rfl
  ·have h4:zPt (a.getD i default) (b.getD i default)=true:=by simpa using h3
   rw [h4,Bool.true_and] at hinv
   refine goW ?_
   refine ⟨i+1,by omega,⟨by omega,hinv⟩,?_⟩
   exact leA
 ·have hil:i=a.length:=by simp at h2;omega
  refine goW ?_
  refine zAb rfl trivial (.inl ?_)
  congr 3
  rw [←hinv,hil,List.drop_length,hl,List.drop_length]
  simp only [zEc]
theorem yON (f:Nat) (a b:List Ts) (h:∀ i,i < a.length→i < b.length→Contract Tryz.prog f [.val (.agg [bI (a.getD i default).kind,bS (a.getD i default).name,bS (a.getD i default).value,bI (a.getD i default).na,bI (a.getD i default).nb,.sl 2 (zBx (a.getD i default).list)]),.val (.agg [bI (b.getD i default).kind,bS (b.getD i default).name,bS (b.getD i default).value,bI (b.getD i default).na,bI (b.getD i default).nb,.sl 2 (zBx (b.getD i default).list)])] {res:=.val (bv (zCP (a.getD i default) (b.getD i default)))}):
  Contract Tryz.prog zCv [.val (.one (.sl 6 (zCJ a))),.val (.one (.sl 6 (zCJ b))),.val (.one (.clo f []))] {res:=.val (bv (zEb a b))}:=by
 refine mkA zIm (base:=0) (fo rfl) (fun hfit=>?_)
 unfold F0 zED
 refine goU ?_
 have ha:=zC2 (k:=6) hfit.1
 rw [zAQ] at ha
 refine zAa (by rfl) trivial (fun h1=>?_) (fun h1=>?_)
 ·refine goW ?_
  refine zAb rfl trivial (.inl ?_)
  congr 3
  have:a.length≠b.length:=by simp at h1;omega
  rw [yBZ this]
 have hl:a.length=b.length:=by simp at h1;omega
 refine goW ?_
 refine zAc (fun i:Nat=>[(17,.pv (iv i)),(6,.un),(7,.un),(8,.un),(9,.un),(18,.un),(30,.un),(32,.un),(33,.un),(34,.un),(35,.un),(36,.un),(37,.un),(38,.un),(39,.un),(40,.un),(41,.un),(42,.un),(43,.un)]) (fun i:Nat=>a.length-i) (fun i:Nat=>i≤a.length∧zEb (a.drop i) (b.drop i)=zEb a b) (0) ?_ ⟨Nat.zero_le _,rfl⟩ ?_
 focus (exact leA)
 rintro i ⟨hi,hinv⟩
 refine goW ?_
 refine zAa (by rfl) trivial (fun h2=>?_) (fun h2=>?_)
 ·have hil:i < a.length:=by simp at h2;omega
  have hib:i < b.length:=by omega
  rw [zAH (d:=default) hil,zAH (d:=default) hib,zEb] at hinv
  have e1:=zB4 a i hil
  have e2:=zB4 b i hib
  rw [zA1] at e1 e2
  have hc:=h i hil hib
  try simp (maxSteps:=2000000) only [go_sem,e1,e2]
  repeat with_reducible refine zAt ?_
  refine zBX (by rfl) trivial (by repeat' constructor) (hc) ?_
  refine goW ?_
  refine zAa (by rfl) trivial (fun h3=>?_) (fun h3=>?_)
  ·refine goW ?_
   refine zAb rfl trivial (.inl ?_)
   congr 3
   rw [←hinv]
   have h4:zCP (a.getD i default) (b.getD i default)=false:=by simpa using h3
   rw [h4];rfl
  ·have h4:zCP (a.getD i default) (b.getD i default)=true:=by simpa using h3
   rw [h4,Bool.true_and] at hinv
   refine goW ?_
   refine ⟨i+1,by omega,⟨by omega,hinv⟩,?_⟩
   exact leA
 ·have hil:i=a.length:=by simp at h2;omega
  refine goW ?_
  refine zAb rfl trivial (.inl ?_)
  congr 3
  rw [←hinv,hil,List.drop_length,hl,List.drop_length]
  simp only [zEb]
def yU7 (P:Go.Program) (N:Nat):Prop:=∀ a b:Ts,SizeOf.sizeOf a≤N→Contract P zBs [.val (.agg (tsV a)),.val (.agg (tsV b))] {res:=.val (bv (zCP a b))}
theorem yOO {N:Nat} (ih:yU7 Tryz.prog N) (s u:St) (hs:SizeOf.sizeOf s≤N):Contract Tryz.prog zCk [.val (.agg (stV s)),.val (.agg (stV u))] {res:=.val (bv (zPt s u))}:=by
 rw [zBg,zBg]
 have hc:=yON zBs s.tests u.tests (fun i hi hj=>by
  have h1:=zUs hi
  have h2:=zDr s
  have:=ih (s.tests.getD i default) (u.tests.getD i default) (by omega)
  rwa [zA1,zA1] at this)
 refine mkA zLp (base:=0) (fo rfl) (fun hfit=>?_)
 unfold F0 zF9
 refine goU ?_
 apply zAo (h2:=fun _=>hc)
 ·(simp (maxSteps:=2000000) only [go_sem];rfl)
 ·intro h;repeat' (first|exact trivial|exact h|refine And.intro ?_ ?_)
 refine goW ?_
 refine zAb rfl trivial (.inl ?_)
 congr 3
 rw [yF0]
 simp [Bool.cond_false_right]
theorem yB3 {N:Nat} (ih:yU7 Tryz.prog N) (s u:Pt) (hs:SizeOf.sizeOf s≤N):Contract Tryz.prog zAT [.val (.agg (ptV s)),.val (.agg (ptV u))] {res:=.val (bv (zCx s u))}:=by
 rw [zA2,zA2]
 have hc:=yOM zCk s.steps u.steps (fun i hi hj=>by
  have h1:=zUt hi
  have h2:=zDs s
  have:=yOO ih (s.steps.getD i default) (u.steps.getD i default) (by omega)
  rwa [zBg,zBg] at this)
 refine mkA zOa (base:=0) (fo rfl) (fun hfit=>?_)
 unfold F0 zHP
 refine goU ?_
 refine zAe (by repeat' constructor) (zWc s.links u.links) ?_
 refine goW ?_
 apply zAo (h2:=fun _=>hc)
 ·(simp (maxSteps:=2000000) only [go_sem];rfl)
 ·intro h;repeat' (first|exact trivial|exact h|refine And.intro ?_ ?_)
 refine goW ?_
 refine zAb rfl trivial (.inl ?_)
 congr 3
 rw [yF1]
 simp [Bool.cond_false_right]
theorem yIN (s:Ts):0 < SizeOf.sizeOf s:=by cases s;simp only [Ts.mk.sizeOf_spec];omega
theorem zXq:∀ N,yU7 Tryz.prog N
 |0=>fun a b h=>by have:=yIN a;omega
 |N+1=>fun a b h=>by
  have ih:=zXq N
  rw [zA1,zA1]
  have hc:=yB2 zAT a.list b.list (fun i hi hj=>by
   have h1:=zUu hi
   have h2:=zER a
   have:=yB3 ih (a.list.getD i default) (b.list.getD i default) (by omega)
   rwa [zA2,zA2] at this)
  refine mkA zN7 (base:=0) (fo rfl) (fun hfit=>?_)
  unfold F0 zHO
  refine goU ?_
  apply zAo (h2:=fun _=>hc)
  ·(simp (maxSteps:=2000000) only [go_sem];rfl)
  ·intro h;repeat' (first|exact trivial|exact h|refine And.intro ?_ ?_)
  refine goW ?_
  refine zAb rfl trivial (.inl ?_)
  congr 3
  rw [yMO]
  simp [Bool.cond_false_right,Bool.and_assoc]
theorem yLv (a b:Ts):Contract Tryz.prog zBs [.val (.agg (tsV a)),.val (.agg (tsV b))] {res:=.val (bv (zCP a b))}:=zXq _ a b (Nat.le_refl _)
theorem zXr (a b:Pt):Contract Tryz.prog zAT [.val (.agg (ptV a)),.val (.agg (ptV b))] {res:=.val (bv (zCx a b))}:=yB3 (zXq _) a b (Nat.le_refl _)
end Go.Hx
end

section
set_option maxRecDepth 100000
set_option maxHeartbeats 2000000
namespace Go.Hx
open Go.Proofs
variable [Glob] [GlobL]
attribute [local go_sem] zAh zAj zAg zAd ndV zAm zAn zBZ zAD zAO zAQ List.getD_nil List.take_nil List.headD_nil List.headD_cons List.getD_cons_zero List.length_cons List.drop_zero List.take_succ_cons List.take_zero List.map_nil List.map_cons
theorem yR8:(((0:Nat):Int) != 1)=true:=rfl
attribute [local go_sem] yR8
theorem yR9:(((1:Nat):Int) != 1)=false:=rfl
attribute [local go_sem] yR9
theorem ySa (n:Nat):(((n+1+1:Nat):Int) != 1)=true:=by simp;omega
attribute [local go_sem] ySa
theorem zJh:Int.toNat 0=0:=rfl
attribute [local go_sem] zJh
theorem yLw (g:Nat) (x y:Pt) (b:Bool) (h:Contract Tryz.prog g [.val (.agg (ptV x)),.val (.agg (ptV y))] {res:=.val (bv b)}):
  Contract Tryz.prog zBa [.val (.agg (ptV y)),.val (.one (.fp [.clo g []])),.val (.one (.fp (ptV x)))] {res:=.val (bv b)}:=by
 rw [zA2,zA2] at h ⊢
 refine mkA zGi (base:=0) (fo rfl) (fun hfit=>?_)
 unfold F0 zDN
 refine goU ?_
 refine zBX (by rfl) trivial (by repeat' constructor) (h) ?_
 refine goW ?_
 exact zAb rfl trivial (.inl rfl)
theorem yLx (g:Nat) (x y:Ts) (b:Bool) (h:Contract Tryz.prog g [.val (.agg (tsV x)),.val (.agg (tsV y))] {res:=.val (bv b)}):
  Contract Tryz.prog zBb [.val (.agg (tsV y)),.val (.one (.fp [.clo g []])),.val (.one (.fp (tsV x)))] {res:=.val (bv b)}:=by
 rw [zA1,zA1] at h ⊢
 refine mkA zGl (base:=0) (fo rfl) (fun hfit=>?_)
 unfold F0 zDO
 refine goU ?_
 refine zBX (by rfl) trivial (by repeat' constructor) (h) ?_
 refine goW ?_
 exact zAb rfl trivial (.inl rfl)
end Go.Hx
end

section
set_option maxRecDepth 100000
set_option maxHeartbeats 40000000
namespace Go.Hx
open Go.Proofs
variable [Glob] [GlobL]
attribute [local go_sem] zAh zAj zAg zAd ndV zAm zAn zBZ zAD zAO zAQ List.getD_nil List.take_nil List.headD_nil List.headD_cons List.getD_cons_zero List.length_cons List.length_nil zJh List.drop_zero List.take_succ_cons List.take_zero List.map_nil List.map_cons List.length_drop List.length_take List.take_length
theorem yQs:(((0:Nat):Int)==1)=false:=rfl
attribute [local go_sem] yQs
theorem yQt:(((1:Nat):Int)==1)=true:=rfl
attribute [local go_sem] yQt
theorem yQu (n:Nat):(((n+1+1:Nat):Int)==1)=false:=by
 rw [beq_eq_false_iff_ne];omega
attribute [local go_sem] yQu
theorem yIO (c:Bool):(bif c then false else false)=false:=by cases c<;>rfl
attribute [local go_sem] yIO
theorem zOg (i:Nat):Int.toNat ((i:Int)+1)=i+1:=by omega
attribute [local go_sem] zOg
theorem Ts.list_mk (k:Int) (n v:Bys) (a b:Int) (l:List Pt):(Ts.mk k n v a b l).list=l:=rfl
theorem yF3 (l:List Ts):(zYi l).length=l.length:=by simp [zOe]
theorem yB4 (o:St) (t:Ts) (r:List Ts):zIH o (t::r)=zIH (zFk o t r.length) r:=rfl
theorem zOh {s:St} (h:shS s=true):s.tests.length≤6∧∀ i,i < s.tests.length→shL (s.tests.getD i default).list=true:=by
 rw [yQn] at h
 simp only [Bool.and_eq_true,decide_eq_true_eq] at h
 refine ⟨h.1,fun i hi=>?_⟩
 rw [←yMQ]
 exact (zTA _).1 h.2 _ (zLa hi)
theorem zOi {p:Pt} (h:shP p=true):p.steps.length≤6∧p.links.length≤6∧∀ i,i < p.steps.length→shS (p.steps.getD i default)=true:=by
 rw [yWY] at h
 simp only [Bool.and_eq_true,decide_eq_true_eq] at h
 exact ⟨h.1.1,h.1.2,fun i hi=>(yMR _).1 h.2 _ (zLa hi)⟩
theorem zOj {l:List Pt} (h:shL l=true):l.length≤6∧∀ i,i < l.length→shP (l.getD i default)=true:=by
 unfold shL at h
 simp only [Bool.and_eq_true,decide_eq_true_eq] at h
 exact ⟨h.1,fun i hi=>(zTz _).1 h.2 _ (zLa hi)⟩
theorem yIP {l:List Pt} {x:St} (h:shL l=true) (hs:zCi l=some x):x.tests.length≤6:=by
 obtain ⟨lk,rfl⟩:=zXo hs
 have h1:=(zOj h).2 0 (by simp)
 have h2:=(zOi h1).2.2 0 (by simp [Pt.steps])
 exact (zOh h2).1
theorem yIQ {o:St} {t:Ts} {r:Nat} (hs:zCi t.list=none):zFk o t r=.mk o.tag (o.tests++[t]):=by
 unfold zFk;simp only [hs]
theorem yMU {o:St} {t u:Ts} {x:St} {r:Nat} (hs:zCi t.list=some x) (hn:zGF t x=some u):zFk o t r=.mk o.tag (o.tests++[.mk 14 [] [] 0 0 u.list]):=by
 unfold zFk;simp only [hs,hn]
theorem zOl {o:St} {t:Ts} {x:St} {r:Nat} (hs:zCi t.list=some x) (hn:zGF t x=none) (hc:t.kind=14∧(x.tag=[]∨o.tag=[]∨x.tag=o.tag)∧o.tests.length+x.tests.length+r≤6):zFk o t r=.mk (if o.tag=[] then x.tag else o.tag) (o.tests++x.tests):=by
 unfold zFk;simp only [hs,hn];rw [if_pos hc]
theorem yIR {o:St} {t:Ts} {x:St} {r:Nat} (hs:zCi t.list=some x) (hn:zGF t x=none) (hc:¬ (t.kind=14∧(x.tag=[]∨o.tag=[]∨x.tag=o.tag)∧o.tests.length+x.tests.length+r≤6)):zFk o t r=.mk o.tag (o.tests++[t]):=by
 unfold zFk;simp only [hs,hn];rw [if_neg hc]
theorem yQv {t u:Ts} {x:St} (h1:t.kind=13) (h2:x.tag=[]) (h3:x.tests=[u]) (h4:u.kind=13):zGF t x=some u:=by
 unfold zGF;rw [if_pos ⟨h1,h2⟩,h3];simp only;rw [if_pos h4]
def nnB (k:Int) (x:St):Bool:=(k==13)&&(x.tag==[])&&(match x.tests with|[u]=>u.kind==13|_=>false)
theorem yF4 {t:Ts} {x:St} (h:nnB t.kind x=false):zGF t x=none:=by
 unfold nnB at h
 unfold zGF
 split
 ·rename_i hk
  rw [hk.1,hk.2] at h
  split
  ·rename_i u hu
   rw [hu] at h
   rw [if_neg]
   intro hc
   simp [hc] at h
  ·rfl
 ·rfl
theorem yMV {t:Ts} {x:St} (h:nnB t.kind x=true):∃ u,zGF t x=some u∧x.tests=[u]:=by
 unfold nnB at h
 simp only [Bool.and_eq_true,beq_iff_eq] at h
 obtain ⟨⟨h1,h2⟩,h3⟩:=h
 split at h3
 ·rename_i u hu
  exact ⟨u,yQv h1 h2 hu (by simpa using h3),hu⟩
 ·cases h3
def yTa (s o:St) (i:Nat) (k:Int) (xt:Bys) (lx:Nat):Bool:=(k==14)&&((xt==[])||(o.tag==[])||(xt==o.tag))&&decide (o.tests.length+lx+(s.tests.length-(i+1))≤6)
end Go.Hx
end

section
set_option maxRecDepth 100000
set_option maxHeartbeats 2000000
namespace Go.Hx
open Go.Proofs
variable [Glob] [GlobL]
attribute [local go_sem] zAh zAj zAg zAd ndV zAm zAn zBZ zAD zAO zAQ zJi zTE zTF List.getD_nil List.take_nil List.headD_nil List.headD_cons List.getD_cons_zero List.length_cons yR8 yR9 ySa zJh List.drop_zero List.take_succ_cons List.take_zero List.map_nil List.map_cons
attribute [local go_sem] reduceCtorEq Nat.reduceAdd Nat.reduceEqDiff reduceIte Nat.reduceLeDiff Nat.reduceLT Nat.reduceSub
theorem yAH (g:Nat) (l:List Pt) (hl:l.length≤1000000) (h:∀ x y,Contract Tryz.prog g [.val (.agg (ptV x)),.val (.agg (ptV y))] {res:=.val (bv (zCx x y))}):
  Contract Tryz.prog zCs [.val (.one (.sl 2 (zOw l))),.val (.one (.clo g []))] {res:=.own zAx 2 (zOw (zCe zCx l))}:=by
 refine mkA zIw (base:=0) (fo rfl) (fun hfit=>?_)
 unfold F0 zEE
 refine goU ?_
 refine zAc (fun i:Nat=>[(10,.pv (iv i)),(5,.own zAx 2 (zOw (zCe zCx (l.take i)))),(7,.un),(11,.un),(17,.un)]) (fun i:Nat=>l.length-i) (fun i:Nat=>i≤l.length) (0) ?_ (Nat.zero_le _) ?_
 focus (exact leA)
 rintro i hi
 refine goW ?_
 refine zAa (by rfl) trivial (fun h2=>?_) (fun h2=>?_)
 ·have hil:i < l.length:=by simp at h2;omega
  obtain ⟨x,hx⟩:∃ x,x=l.getD i default:=⟨_,rfl⟩
  have e1:=ySc l i hil
  rw [←hx,yB5] at e1
  have hfl:=zEU zCx (l.take i)
  rw [List.length_take] at hfl
  have htk:=zJf zCx l i hil
  have hx2:l[i]=x:=by rw [hx];simp [hil]
  rw [hx2] at htk
  try simp (maxSteps:=2000000) only [go_sem,e1]
  repeat with_reducible refine zAt ?_
  have hc:=yLd zBa [.fp [.clo g []],.fp (ptV x)] (zCe zCx (l.take i)) (fun y=>zCx x y) (fun j hj=>by
   have:=yLw g x ((zCe zCx (l.take i)).getD j default) _ (h _ _)
   rw [zA2 ((zCe zCx (l.take i)).getD j default)] at this
   exact this)
  have hc:=hc.arg (al:=[.val (.one (.sl 2 (zOw (zCe zCx (l.take i))))),.val (.one (.clo zBa [.fp [.clo g []],.fp (ptG x)]))]) ⟨Dn.sl (yB6 _),Dn.clo ⟨Dn.refl _,Dn.fp (yW9 x),trivial⟩,trivial⟩
  rw [yB5 x] at hc
  refine zAe (by repeat' constructor) (hc) ?_
  refine goW ?_
  refine zAa (by rfl) trivial (fun h3=>?_) (fun h3=>?_)
  ·refine goW ?_
   refine ⟨i+1,by omega,by omega,?_⟩
   simp (maxSteps:=2000000) only [go_sem,zAu,zAE,zA9,zAv]
   all_goals (repeat' (first|exact trivial|exact zAI (by omega)|exact zAB rfl|exact zAU rfl|exact zAW|exact le_refl _|refine And.intro ?_ ?_))
   refine zBk ?_
   rw [htk,zCh,if_neg (by simpa using h3),yMW]
   simp only [zOw,yB5]
  ·refine goW ?_
   refine ⟨i+1,by omega,by omega,?_⟩
   simp (maxSteps:=2000000) only [go_sem,zAu,zAE,zA9,zAv]
   all_goals (repeat' (first|exact trivial|exact zAI (by omega)|exact zAB rfl|exact zAU rfl|exact zAW|exact le_refl _|refine And.intro ?_ ?_))
   refine zBk ?_
   rw [htk,zCh,if_pos (by simpa using h3)]
 ·have hil:i=l.length:=by simp at h2;omega
  refine goW ?_
  rw [hil,List.take_length]
  exact zDb rfl
theorem yAI (g:Nat) (l:List Ts) (hl:l.length≤1000000) (h:∀ x y,Contract Tryz.prog g [.val (.agg (tsV x)),.val (.agg (tsV y))] {res:=.val (bv (zCP x y))}):
  Contract Tryz.prog zCt [.val (.one (.sl 6 (zJI l))),.val (.one (.clo g []))] {res:=.own zAs 6 (zJI (zCe zCP l))}:=by
 refine mkA zIG (base:=0) (fo rfl) (fun hfit=>?_)
 unfold F0 zEF
 refine goU ?_
 refine zAc (fun i:Nat=>[(10,.pv (iv i)),(5,.own zAs 6 (zJI (zCe zCP (l.take i)))),(7,.un),(11,.un),(17,.un)]) (fun i:Nat=>l.length-i) (fun i:Nat=>i≤l.length) (0) ?_ (Nat.zero_le _) ?_
 focus (exact leA)
 rintro i hi
 refine goW ?_
 refine zAa (by rfl) trivial (fun h2=>?_) (fun h2=>?_)
 ·have hil:i < l.length:=by simp at h2;omega
  obtain ⟨x,hx⟩:∃ x,x=l.getD i default:=⟨_,rfl⟩
  have e1:=ySb l i hil
  rw [←hx,zKV] at e1
  have hfl:=zEU zCP (l.take i)
  rw [List.length_take] at hfl
  have htk:=zJf zCP l i hil
  have hx2:l[i]=x:=by rw [hx];simp [hil]
  rw [hx2] at htk
  try simp (maxSteps:=2000000) only [go_sem,e1]
  repeat with_reducible refine zAt ?_
  have hc:=yLg zBb [.fp [.clo g []],.fp (tsV x)] (zCe zCP (l.take i)) (fun y=>zCP x y) (fun j hj=>by
   have:=yLx g x ((zCe zCP (l.take i)).getD j default) _ (h _ _)
   rw [zA1 ((zCe zCP (l.take i)).getD j default)] at this
   exact this)
  have hc:=hc.arg (al:=[.val (.one (.sl 6 (zJI (zCe zCP (l.take i))))),.val (.one (.clo zBb [.fp [.clo g []],.fp (tsG x)]))]) ⟨Dn.sl (yQx _),Dn.clo ⟨Dn.refl _,Dn.fp (yW8 x),trivial⟩,trivial⟩
  rw [zKV x] at hc
  refine zAe (by repeat' constructor) (hc) ?_
  refine goW ?_
  refine zAa (by rfl) trivial (fun h3=>?_) (fun h3=>?_)
  ·refine goW ?_
   refine ⟨i+1,by omega,by omega,?_⟩
   simp (maxSteps:=2000000) only [go_sem,zAu,zAE,zA9,zAv]
   all_goals (repeat' (first|exact trivial|exact zAI (by omega)|exact zAB rfl|exact zAU rfl|exact zAW|exact le_refl _|refine And.intro ?_ ?_))
   refine zBk ?_
   rw [htk,zCh,if_neg (by simpa using h3),zE2]
   simp only [zJI,zKV]
  ·refine goW ?_
   refine ⟨i+1,by omega,by omega,?_⟩
   simp (maxSteps:=2000000) only [go_sem,zAu,zAE,zA9,zAv]
   all_goals (repeat' (first|exact trivial|exact zAI (by omega)|exact zAB rfl|exact zAU rfl|exact zAW|exact le_refl _|refine And.intro ?_ ?_))
   refine zBk ?_
   rw [htk,zCh,if_pos (by simpa using h3)]
 ·have hil:i=l.length:=by simp at h2;omega
  refine goW ?_
  rw [hil,List.take_length]
  exact zDb rfl
def yIS (l:List Pt):PVal:=match zCi l with
 |some x=>.one (.fp (stG x))
 |none=>.one (.v (.pointer none))
theorem ySe (t:Ts):Contract Tryz.prog zG0 [.val (.agg (tsG t))] {res:=.val (yIS t.list)}:=by
 rw [zKV]
 rcases hl:t.list with _|⟨p,_|⟨q,r⟩⟩
 ·simp only [zOw]
  refine mkA zDP (base:=0) (fo rfl) (fun hfit=>?_)
  unfold F0 zDA
  refine goU ?_
  refine zE5 (by rfl) trivial ?_
  refine goW ?_
  exact zAb rfl trivial (.inl rfl)
 ·simp only [zOw,yB5]
  rcases hs:p.steps with _|⟨x,_|⟨y,r⟩⟩
  ·simp only [yI6]
   refine mkA zDP (base:=0) (fo rfl) (fun hfit=>?_)
   unfold F0 zDA
   refine goU ?_
   refine zE5 (by rfl) trivial ?_
   refine goW ?_
   refine zAb rfl trivial (.inl ?_)
   simp only [yIS,zCi,hs]
  ·simp only [yI6]
   refine mkA zDP (base:=0) (fo rfl) (fun hfit=>?_)
   unfold F0 zDA
   refine goU ?_
   refine zJR (by rfl) trivial ?_
   refine goW ?_
   refine zAb rfl trivial (.inl ?_)
   simp only [yIS,zCi,hs]
  ·simp only [yI6]
   refine mkA zDP (base:=0) (fo rfl) (fun hfit=>?_)
   unfold F0 zDA
   refine goU ?_
   refine zE5 (by rfl) trivial ?_
   refine goW ?_
   refine zAb rfl trivial (.inl ?_)
   simp only [yIS,zCi,hs]
 ·simp only [zOw,yB5 p]
  refine mkA zDP (base:=0) (fo rfl) (fun hfit=>?_)
  unfold F0 zDA
  refine goU ?_
  refine zE5 (by rfl) trivial ?_
  refine goW ?_
  exact zAb rfl trivial (.inl rfl)
end Go.Hx
end

section
set_option maxRecDepth 100000
set_option maxHeartbeats 40000000
namespace Go.Hx
open Go.Proofs
variable [Glob] [GlobL]
attribute [local go_sem] zAh zAj zAg zAd ndV zAm zAn zBZ zAD zAO zAQ zJi zTE zTF List.getD_nil List.take_nil List.headD_nil List.headD_cons List.getD_cons_zero List.length_cons List.length_nil yQs yQt yQu zJh zOg yIO List.drop_zero List.take_succ_cons List.take_zero List.map_nil List.map_cons List.length_drop List.length_take List.take_length
attribute [local go_sem] reduceCtorEq Nat.reduceAdd Nat.reduceEqDiff reduceIte Nat.reduceLeDiff Nat.reduceLT Nat.reduceSub
def yXa (P:Go.Program) (N:Nat):Prop:=∀ l:List Pt,SizeOf.sizeOf l≤N→shL l=true→Contract P zEA [.val (.one (.sl 2 (zBx l)))] {res:=.own zAx 2 (zOw (onL l))}
theorem yXb {Q:Exit→List Ct→Prop} {R:HCode} (s o x:St) (i:Nat) (k na nb:Int) (nm vl:Bys) (c2:List (List PV)) (c14 c24:Ct)
  (h:∀ b,b=nnB k x→hwp Tryz.prog R Q [.pv (.agg [bS s.tag,.sl 6 (zCJ s.tests)]),.pv (.one (.fp [bS s.tag,.sl 6 (zCJ s.tests)])),.ptr 0 0,.ptr 1 0,.pv (iv i),.ptr 2 0,.pv (.one (.fp [bS x.tag,fr (.sl 6 (zJI x.tests))])),.un,.un,.un,.un,.pv (.one (.sl 6 (zCJ s.tests))),.pv (iv s.tests.length),.pv (iv i),c14,.un,.un,.un,.un,.un,.un,.un,.un,.un,c24,.un,.un,.pv (bv b),.un,.un,.un,.un,.un,.un,.un,.un,.un,.un,.un,.un,.un,.un,.un,.un,.un,.un,.un,.un,.un,.un,.un,.un,.un,.un,.un,.un,.un,.un,.un,.un,.un,.un,.un,.un,.un,.un,.un,.un,.un,.un,.un,.un,.un,.un,.un,.un,.un,.un,.un,.un,.un,.un,.un,.un,.un,.un,.un,.un,.un,.un,.un,.un,.un,.un,.un,.un,.un,.un,.un,.un,.un,.un,.un,.un,.un,.un,.un,.un,.un,.un,.un,.un,.un,.un,.un,.un,.un,.un,.un,.un,.un,.un,.un,.un,.un,.un,.un,.un,.un,.un,.un,.un,.un,.un,.un,.un,.pv (.one (.v (mkS []))),.pv (.one (.nl 6)),.pv (.one (bS o.tag)),.own zAs 6 (zJI o.tests),.pv (.one (bI k)),.pv (.one (bS nm)),.pv (.one (bS vl)),.pv (.one (bI na)),.pv (.one (bI nb)),.pv (.one (fr (.sl 2 c2)))]):
  hwp Tryz.prog (.seq zOb R) Q [.pv (.agg [bS s.tag,.sl 6 (zCJ s.tests)]),.pv (.one (.fp [bS s.tag,.sl 6 (zCJ s.tests)])),.ptr 0 0,.ptr 1 0,.pv (iv i),.ptr 2 0,.pv (.one (.fp [bS x.tag,fr (.sl 6 (zJI x.tests))])),.un,.un,.un,.un,.pv (.one (.sl 6 (zCJ s.tests))),.pv (iv s.tests.length),.pv (iv i),c14,.un,.un,.un,.un,.un,.un,.un,.un,.un,c24,.un,.un,.un,.un,.un,.un,.un,.un,.un,.un,.un,.un,.un,.un,.un,.un,.un,.un,.un,.un,.un,.un,.un,.un,.un,.un,.un,.un,.un,.un,.un,.un,.un,.un,.un,.un,.un,.un,.un,.un,.un,.un,.un,.un,.un,.un,.un,.un,.un,.un,.un,.un,.un,.un,.un,.un,.un,.un,.un,.un,.un,.un,.un,.un,.un,.un,.un,.un,.un,.un,.un,.un,.un,.un,.un,.un,.un,.un,.un,.un,.un,.un,.un,.un,.un,.un,.un,.un,.un,.un,.un,.un,.un,.un,.un,.un,.un,.un,.un,.un,.un,.un,.un,.un,.un,.un,.un,.un,.un,.un,.un,.pv (.one (.v (mkS []))),.pv (.one (.nl 6)),.pv (.one (bS o.tag)),.own zAs 6 (zJI o.tests),.pv (.one (bI k)),.pv (.one (bS nm)),.pv (.one (bS vl)),.pv (.one (bI na)),.pv (.one (bI nb)),.pv (.one (fr (.sl 2 c2)))]:=by
 unfold nnB at h
 obtain ⟨xt,xl⟩:=x
 simp only [St.tag_mk,St.tests_mk] at h ⊢
 rcases xl with _|⟨u,_|⟨v,w⟩⟩
 ·simp only [zJI] at h ⊢
  by_cases hk:k=13
  ·have e1:(k==13)=true:=by simp [hk]
   by_cases ha:xt=[]
   ·have e2:(xt==[])=true:=by simp [ha]
    try simp (maxSteps:=2000000) only [go_sem,e1,e2,Bool.not_true,Bool.not_false]
    repeat with_reducible refine zAt ?_
    exact h _ (by simp)
   ·have e2:(xt==[])=false:=by simp [ha]
    try simp (maxSteps:=2000000) only [go_sem,e1,e2,Bool.not_true,Bool.not_false]
    repeat with_reducible refine zAt ?_
    exact h _ (by simp)
  ·have e1:(k==13)=false:=by simp [hk]
   try simp (maxSteps:=2000000) only [go_sem,e1,Bool.not_true,Bool.not_false]
   repeat with_reducible refine zAt ?_
   exact h _ (by simp)
 ·simp only [zJI,zKV u] at h ⊢
  by_cases hk:k=13
  ·have e1:(k==13)=true:=by simp [hk]
   by_cases ha:xt=[]
   ·have e2:(xt==[])=true:=by simp [ha]
    try simp (maxSteps:=2000000) only [go_sem,e1,e2,Bool.not_true,Bool.not_false]
    repeat with_reducible refine zAt ?_
    exact h _ (by rw [e1,e2];rfl)
   ·have e2:(xt==[])=false:=by simp [ha]
    try simp (maxSteps:=2000000) only [go_sem,e1,e2,Bool.not_true,Bool.not_false]
    repeat with_reducible refine zAt ?_
    exact h _ (by rw [e1,e2];rfl)
  ·have e1:(k==13)=false:=by simp [hk]
   try simp (maxSteps:=2000000) only [go_sem,e1,Bool.not_true,Bool.not_false]
   repeat with_reducible refine zAt ?_
   exact h _ (by rw [e1];rfl)
 ·simp only [zJI,zKV u] at h ⊢
  by_cases hk:k=13
  ·have e1:(k==13)=true:=by simp [hk]
   by_cases ha:xt=[]
   ·have e2:(xt==[])=true:=by simp [ha]
    try simp (maxSteps:=2000000) only [go_sem,e1,e2,Bool.not_true,Bool.not_false]
    repeat with_reducible refine zAt ?_
    exact h _ (by simp)
   ·have e2:(xt==[])=false:=by simp [ha]
    try simp (maxSteps:=2000000) only [go_sem,e1,e2,Bool.not_true,Bool.not_false]
    repeat with_reducible refine zAt ?_
    exact h _ (by simp)
  ·have e1:(k==13)=false:=by simp [hk]
   try simp (maxSteps:=2000000) only [go_sem,e1,Bool.not_true,Bool.not_false]
   repeat with_reducible refine zAt ?_
   exact h _ (by simp)
theorem yU8 {Q:Exit→List Ct→Prop} {R:HCode} (s o:St) (i:Nat) (hi:i < s.tests.length) (hs6:s.tests.length≤6) (hol:o.tests.length≤6) (k na nb:Int) (xt nm vl:Bys) (rx c2:List (List PV)) (hx:rx.length≤6) (c14 c24 c27:Ct)
  (h:∀ b,b=yTa s o i k xt rx.length→hwp Tryz.prog R Q [.pv (.agg [bS s.tag,.sl 6 (zCJ s.tests)]),.pv (.one (.fp [bS s.tag,.sl 6 (zCJ s.tests)])),.ptr 0 0,.ptr 1 0,.pv (iv i),.ptr 2 0,.pv (.one (.fp [bS xt,fr (.sl 6 rx)])),.un,.un,.un,.un,.pv (.one (.sl 6 (zCJ s.tests))),.pv (iv s.tests.length),.pv (iv i),c14,.un,.un,.un,.un,.un,.un,.un,.un,.un,c24,.un,.un,c27,.un,.un,.un,.un,.un,.un,.un,.un,.un,.un,.un,.un,.un,.un,.un,.un,.un,.un,.un,.un,.un,.un,.un,.un,.un,.un,.un,.un,.un,.un,.un,.un,.un,.un,.un,.un,.pv (bv b),.un,.un,.un,.un,.un,.un,.un,.un,.un,.un,.un,.un,.un,.un,.un,.un,.un,.un,.un,.un,.un,.un,.un,.un,.un,.un,.un,.un,.un,.un,.un,.un,.un,.un,.un,.un,.un,.un,.un,.un,.un,.un,.un,.un,.un,.un,.un,.un,.un,.un,.un,.un,.un,.un,.un,.un,.un,.un,.un,.un,.un,.un,.un,.un,.un,.un,.un,.un,.un,.un,.un,.pv (.one (.v (mkS []))),.pv (.one (.nl 6)),.pv (.one (bS o.tag)),.own zAs 6 (zJI o.tests),.pv (.one (bI k)),.pv (.one (bS nm)),.pv (.one (bS vl)),.pv (.one (bI na)),.pv (.one (bI nb)),.pv (.one (fr (.sl 2 c2)))]):
  hwp Tryz.prog (.seq zLO R) Q [.pv (.agg [bS s.tag,.sl 6 (zCJ s.tests)]),.pv (.one (.fp [bS s.tag,.sl 6 (zCJ s.tests)])),.ptr 0 0,.ptr 1 0,.pv (iv i),.ptr 2 0,.pv (.one (.fp [bS xt,fr (.sl 6 rx)])),.un,.un,.un,.un,.pv (.one (.sl 6 (zCJ s.tests))),.pv (iv s.tests.length),.pv (iv i),c14,.un,.un,.un,.un,.un,.un,.un,.un,.un,c24,.un,.un,c27,.un,.un,.un,.un,.un,.un,.un,.un,.un,.un,.un,.un,.un,.un,.un,.un,.un,.un,.un,.un,.un,.un,.un,.un,.un,.un,.un,.un,.un,.un,.un,.un,.un,.un,.un,.un,.un,.un,.un,.un,.un,.un,.un,.un,.un,.un,.un,.un,.un,.un,.un,.un,.un,.un,.un,.un,.un,.un,.un,.un,.un,.un,.un,.un,.un,.un,.un,.un,.un,.un,.un,.un,.un,.un,.un,.un,.un,.un,.un,.un,.un,.un,.un,.un,.un,.un,.un,.un,.un,.un,.un,.un,.un,.un,.un,.un,.un,.un,.un,.un,.un,.un,.un,.un,.un,.un,.un,.un,.pv (.one (.v (mkS []))),.pv (.one (.nl 6)),.pv (.one (bS o.tag)),.own zAs 6 (zJI o.tests),.pv (.one (bI k)),.pv (.one (bS nm)),.pv (.one (bS vl)),.pv (.one (bI na)),.pv (.one (bI nb)),.pv (.one (fr (.sl 2 c2)))]:=by
 have hfin:∀ a b c:Nat,decide ((a:Int)+(b:Int)+((min c c-(i+1):Nat):Int)≤6)=decide (a+b+(c-(i+1))≤6):=fun a b c=>decide_eq_decide.2 (by omega)
 by_cases hk:k=14
 ·have e1:(k==14)=true:=by simp [hk]
  by_cases ha:xt=[]
  ·have e2:(xt==[])=true:=by simp [ha]
   try simp (maxSteps:=2000000) only [go_sem,e1,e2,Bool.not_true,Bool.not_false,Nat.min_self]
   repeat with_reducible refine zAt ?_
   refine h _ ?_
   unfold yTa
   rw [e1,e2]
   simp
   omega
  ·have e2:(xt==[])=false:=by simp [ha]
   by_cases hb:o.tag=[]
   ·have e3:(o.tag==[])=true:=by simp [hb]
    try simp (maxSteps:=2000000) only [go_sem,e1,e2,e3,Bool.not_true,Bool.not_false,Nat.min_self]
    repeat with_reducible refine zAt ?_
    refine h _ ?_
    unfold yTa
    rw [e1,e2,e3]
    simp
    omega
   ·have e3:(o.tag==[])=false:=by simp [hb]
    by_cases hc:xt=o.tag
    ·have e4:(xt==o.tag)=true:=by simp [hc]
     try simp (maxSteps:=2000000) only [go_sem,e1,e2,e3,e4,Bool.not_true,Bool.not_false,Nat.min_self]
     repeat with_reducible refine zAt ?_
     refine h _ ?_
     unfold yTa
     rw [e1,e2,e3,e4]
     simp
     omega
    ·have e4:(xt==o.tag)=false:=by simp [hc]
     try simp (maxSteps:=2000000) only [go_sem,e1,e2,e3,e4,Bool.not_true,Bool.not_false,Nat.min_self]
     repeat with_reducible refine zAt ?_
     refine h _ ?_
     unfold yTa
     rw [e1,e2,e3,e4]
     rfl
 ·have e1:(k==14)=false:=by simp [hk]
  try simp (maxSteps:=2000000) only [go_sem,e1,Bool.not_true,Bool.not_false,Nat.min_self]
  repeat with_reducible refine zAt ?_
  refine h _ ?_
  unfold yTa
  rw [e1]
  rfl
end Go.Hx
end

section
set_option maxRecDepth 100000
set_option maxHeartbeats 40000000
namespace Go.Hx
open Go.Proofs
variable [Glob] [GlobL]
attribute [local go_sem] zAh zAj zAg zAd ndV zAm zAn zBZ zAD zAO zAQ zJi zTE zTF List.getD_nil List.take_nil List.headD_nil List.headD_cons List.getD_cons_zero List.length_cons List.length_nil yQs yQt yQu zJh zOg yIO List.drop_zero List.take_succ_cons List.take_zero List.map_nil List.map_cons List.length_drop List.length_take List.take_length
attribute [local go_sem] reduceCtorEq Nat.reduceAdd Nat.reduceEqDiff reduceIte Nat.reduceLeDiff Nat.reduceLT Nat.reduceSub
theorem yQy {N:Nat} (ih:yXa Tryz.prog N) (s:St) (hs:SizeOf.sizeOf s≤N) (hsh:shS s=true):Contract Tryz.prog zJc [.val (.agg (stV s))] {res:=.val (.agg (stG (onS s)))}:=by
 obtain ⟨hlen,hshl⟩:=zOh hsh
 rw [zBg]
 refine mkA yFO (base:=0) (fo rfl) (fun hfit=>?_)
 unfold F0 zQL
 refine goU ?_
 refine zAc (fun x:Nat×St=>[(13,.pv (iv x.1)),(138,.pv (.one (bS x.2.tag))),(139,.own zAs 6 (zJI x.2.tests)),(4,.un),(5,.un),(6,.un),(14,.un),(24,.un),(27,.un),(64,.un),(110,.un),(140,.un),(141,.un),(142,.un),(143,.un),(144,.un),(145,.un)]) (fun x:Nat×St=>s.tests.length-x.1) (fun x:Nat×St=>x.1≤s.tests.length∧zIH x.2 (zYi (s.tests.drop x.1))=zIH (.mk s.tag []) (zYi s.tests)∧x.2.tests.length+(s.tests.length-x.1)≤6) ((0,.mk s.tag [])) ?_ ⟨Nat.zero_le _,rfl,by simpa [St.tests_mk] using hlen⟩ ?_
 focus (exact leA)
 rintro ⟨i,o⟩ ⟨hi,hinv,hol⟩
 simp only at hi hinv hol
 refine goW ?_
 refine zAa (by rfl) trivial (fun h2=>?_) (fun h2=>?_)
 ·have hil:i < s.tests.length:=by simp at h2;omega
  obtain ⟨t,ht⟩:∃ t,t=s.tests.getD i default:=⟨_,rfl⟩
  have e1:=zB4 s.tests i hil
  rw [←ht,zA1] at e1
  have hst:=hshl i hil
  rw [←ht] at hst
  have hsz:SizeOf.sizeOf t.list≤N:=by
   have h3:=zUs hil
   have h4:=zDr s
   have h5:=zER t
   rw [←ht] at h3
   omega
  have hon:=ih t.list hsz hst
  have hshL:=yIM _ hst
  obtain ⟨L,hL⟩:∃ L,L=onL t.list:=⟨_,rfl⟩
  rw [←hL] at hon hshL
  rw [zAH (d:=default) hil,←ht,zYi,yB4,yF3,List.length_drop,yQm,←hL] at hinv
  have hrest:s.tests.length-(i+1)+1=s.tests.length-i:=by omega
  have hin:=ySe (.mk t.kind t.name t.value t.na t.nb L)
  simp only [tsG,Ts.list_mk,yIS] at hin
  try simp (maxSteps:=2000000) only [go_sem,e1]
  repeat with_reducible refine zAt ?_
  refine zAe (by repeat' constructor) (hon.fresh) ?_
  refine goW ?_
  rcases hsg:zCi L with _|x
  ·have hf:zFk o (.mk t.kind t.name t.value t.na t.nb L) (s.tests.length-(i+1))=.mk o.tag (o.tests++[.mk t.kind t.name t.value t.na t.nb L]):=yIQ hsg
   rw [hsg] at hin
   simp only at hin
   refine zAe (by repeat' constructor) (hin) ?_
   refine goW ?_
   refine zE5 (by rfl) trivial ?_
   refine goW ?_
   refine ⟨(i+1,.mk o.tag (o.tests++[.mk t.kind t.name t.value t.na t.nb L])),by simp only;omega,⟨by simp only;omega,by simp only;rw [←hf];exact hinv,by simp only [St.tests_mk,List.length_append,List.length_cons,List.length_nil];omega⟩,?_⟩
   simp (maxSteps:=2000000) only [go_sem,zAu,zAE,zA9,zAv]
   all_goals (repeat' (first|exact trivial|exact zAI (by omega)|exact zAB rfl|exact zAU rfl|exact zAW|exact le_refl _|refine And.intro ?_ ?_))
   all_goals (first|exact zAU (by simp only [St.tag_mk])|(refine zBk ?_;simp only [St.tests_mk,zE2,zJI,tsG]))
  ·rw [hsg] at hin
   simp only [yQw] at hin
   have hxl:=yIP hshL hsg
   refine zAe (by repeat' constructor) (hin) ?_
   refine goW ?_
   refine zJR (by rfl) trivial ?_
   refine yXb s o x i _ _ _ _ _ _ _ _ (fun b8 hb8=>?_)
   try simp (maxSteps:=2000000) only [go_sem]
   refine zAa (by rfl) trivial (fun h8=>?_) (fun h8=>?_)
   ·rw [hb8] at h8
    obtain ⟨u,hnn,hts⟩:=yMV (t:=.mk t.kind t.name t.value t.na t.nb L) h8
    have hf:zFk o (.mk t.kind t.name t.value t.na t.nb L) (s.tests.length-(i+1))=.mk o.tag (o.tests++[.mk 14 [] [] 0 0 u.list]):=yMU (t:=.mk t.kind t.name t.value t.na t.nb L) hsg hnn
    rw [hts]
    simp only [zJI,zKV u]
    refine goW ?_
    refine ⟨(i+1,.mk o.tag (o.tests++[.mk 14 [] [] 0 0 u.list])),by simp only;omega,⟨by simp only;omega,by simp only;rw [←hf];exact hinv,by simp only [St.tests_mk,List.length_append,List.length_cons,List.length_nil];omega⟩,?_⟩
    simp (maxSteps:=2000000) only [go_sem,zAu,zAE,zA9,zAv]
    all_goals (repeat' (first|exact trivial|exact zAI (by omega)|exact zAB rfl|exact zAU rfl|exact zAW|exact le_refl _|refine And.intro ?_ ?_))
    all_goals (first|exact zAU (by simp only [St.tag_mk])|(refine zBk ?_;simp only [St.tests_mk,zE2,zJI,tsG] ; done)|(refine zBk ?_;simp only [St.tests_mk,zE2,zJI,zKV]))
   ·rw [hb8] at h8
    have hnn:zGF (.mk t.kind t.name t.value t.na t.nb L) x=none:=yF4 (t:=.mk t.kind t.name t.value t.na t.nb L) h8
    refine yU8 s o i hil hlen (by omega) _ _ _ _ _ _ _ _ (by rw [zJi];exact hxl) _ _ _ (fun b10 hb10=>?_)
    try simp (maxSteps:=2000000) only [go_sem]
    refine zAa (by rfl) trivial (fun h10=>?_) (fun h10=>?_)
    ·have hc:t.kind=14∧(x.tag=[]∨o.tag=[]∨x.tag=o.tag)∧o.tests.length+x.tests.length+(s.tests.length-(i+1))≤6:=by
      rw [hb10] at h10
      simp only [yTa,zJi] at h10
      simp at h10 ⊢
      grind
     by_cases hot:o.tag=[]
     ·have hf:zFk o (.mk t.kind t.name t.value t.na t.nb L) (s.tests.length-(i+1))=.mk x.tag (o.tests++x.tests):=by
       rw [zOl (t:=.mk t.kind t.name t.value t.na t.nb L) hsg hnn hc,if_pos hot]
      refine goW ?_
      refine zE5 (by simp only [hot];rfl) trivial ?_
      refine goW ?_
      refine ⟨(i+1,.mk x.tag (o.tests++x.tests)),by simp only;omega,⟨by simp only;omega,by simp only;rw [←hf];exact hinv,by simp only [St.tests_mk,List.length_append,List.length_cons,List.length_nil];omega⟩,?_⟩
      simp (maxSteps:=2000000) only [go_sem,zAu,zAE,zA9,zAv]
      all_goals (repeat' (first|exact trivial|exact zAI (by omega)|exact zAB rfl|exact zAU rfl|exact zAW|exact le_refl _|refine And.intro ?_ ?_))
      all_goals (first|exact zAU (by simp only [St.tag_mk])|(refine zBk ?_;simp only [St.tests_mk,zE2,zJI,tsG] ; done)|(refine zBk ?_;simp only [St.tests_mk,zE2,zJI,zKV]))
     ·have hf:zFk o (.mk t.kind t.name t.value t.na t.nb L) (s.tests.length-(i+1))=.mk o.tag (o.tests++x.tests):=by
       rw [zOl (t:=.mk t.kind t.name t.value t.na t.nb L) hsg hnn hc,if_neg hot]
      refine goW ?_
      refine zAa (by rfl) trivial (fun h11=>?_) (fun h11=>?_)
      ·exact (hot (by simpa using h11)).elim
      refine goW ?_
      refine ⟨(i+1,.mk o.tag (o.tests++x.tests)),by simp only;omega,⟨by simp only;omega,by simp only;rw [←hf];exact hinv,by simp only [St.tests_mk,List.length_append,List.length_cons,List.length_nil];omega⟩,?_⟩
      simp (maxSteps:=2000000) only [go_sem,zAu,zAE,zA9,zAv]
      all_goals (repeat' (first|exact trivial|exact zAI (by omega)|exact zAB rfl|exact zAU rfl|exact zAW|exact le_refl _|refine And.intro ?_ ?_))
      all_goals (first|exact zAU (by simp only [St.tag_mk])|(refine zBk ?_;simp only [St.tests_mk,zE2,zJI,tsG] ; done)|(refine zBk ?_;simp only [St.tests_mk,zE2,zJI,zKV]))
    ·have hc:¬ (t.kind=14∧(x.tag=[]∨o.tag=[]∨x.tag=o.tag)∧o.tests.length+x.tests.length+(s.tests.length-(i+1))≤6):=by
      rw [hb10] at h10
      simp only [yTa,zJi] at h10
      simp at h10 ⊢
      grind
     have hf:zFk o (.mk t.kind t.name t.value t.na t.nb L) (s.tests.length-(i+1))=.mk o.tag (o.tests++[.mk t.kind t.name t.value t.na t.nb L]):=yIR (t:=.mk t.kind t.name t.value t.na t.nb L) hsg hnn hc
     refine goW ?_
     refine ⟨(i+1,.mk o.tag (o.tests++[.mk t.kind t.name t.value t.na t.nb L])),by simp only;omega,⟨by simp only;omega,by simp only;rw [←hf];exact hinv,by simp only [St.tests_mk,List.length_append,List.length_cons,List.length_nil];omega⟩,?_⟩
     simp (maxSteps:=2000000) only [go_sem,zAu,zAE,zA9,zAv]
     all_goals (repeat' (first|exact trivial|exact zAI (by omega)|exact zAB rfl|exact zAU rfl|exact zAW|exact le_refl _|refine And.intro ?_ ?_))
     all_goals (first|exact zAU (by simp only [St.tag_mk])|(refine zBk ?_;simp only [St.tests_mk,zE2,zJI,tsG] ; done)|(refine zBk ?_;simp only [St.tests_mk,zE2,zJI,zKV]))
 ·have hil:i=s.tests.length:=by simp at h2;omega
  rw [hil,List.drop_length] at hinv
  have hR:o=zIH (.mk s.tag []) (zYi s.tests):=hinv
  refine goW ?_
  refine zAe (by repeat' constructor) ((yAI zBs o.tests (by omega) yLv).fresh) ?_
  refine goW ?_
  refine zCH rfl rfl ?_
  rw [yS7,zXm]
  simp only [St.tag_mk,St.tests_mk]
  rw [←hR]
  rfl
end Go.Hx
end
