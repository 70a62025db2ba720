/-
  Walks of functions of the program over an abstract layer, and the laws that they use: each contract says what the function computes, for every input that its conditions let by. No other condition.
-/
import Derived.Test.YtjnagiaooecklabGreatDoorG10
import Derived.Test.YtjnagiaooecklabGreatDoorG12
import Derived.Test.YtjnagiaooecklabGreatDoorG18
import Derived.Test.YtjnagiaooecklabGreatDoorG19
import Derived.Shelf.Strings.SlTrimAscii
import Derived.Test.YtjnagiaooecklabGreatDoorG14
import Derived.Test.YtjnagiaooecklabGreatDoorG13
import Derived.Test.YtjnagiaooecklabGreatDoorG11
set_option linter.all false
section
set_option maxRecDepth 100000
set_option linter.unusedSimpArgs false
namespace Go.Hx
open Go.Proofs Go.RowKit
variable [Glob] [GlobL]
attribute [local go_sem] zAk zAl zAj zAf ndV zAm
attribute [local go_sem] reduceCtorEq Nat.reduceAdd Nat.reduceEqDiff reduceIte Nat.reduceLeDiff Nat.reduceLT Nat.reduceSub
theorem yAT {R:Nat→Prop} {w w':World} (h:Below w.heap.size w w'):Pres R w w':=Pres.of_below _ h
theorem yFL {m:Mem} {w w':World} (hm:MemOk m w) (h:Below w.heap.size w w'):MemOk m w':=fun b o u hu=>by
 have h1:=hm b o u hu
 have h2:b < w.heap.size:=World.block_lt_of_cell? w _ h1
 rw [←h1]
 exact World.cell?_of_block (h.block b h2)
theorem yAU {R:Nat→Prop} {w w':World} (h:Pres R w w') (hR:∀ b,¬ R b):Below w.heap.size w w':=⟨h.os,h.tape,h.output,h.size,fun b hb=>h.block b hb (hR b)⟩
theorem yG0 {m:Mem} {w w':World} {avs:List AV} {us:List Value} {e:Ending} {x:PVal} {u:Value} (hm:MemOk m w) (h:Below w.heap.size w w') (he:e=.returned u) (hx:RpV m x u) (hio:ioB avs us=none):yLV m w avs us {res:=.val x} e w':=
 ⟨m,m.le_refl,yFL hm h,yAT h,fun _ _ _ h=>.inl h,(fun b hb=>by rw [hio] at hb;cases hb),u,he,hx⟩
theorem yIg {w w':World} (h:Below w.heap.size w w') (hG:Glob.ok w):Glob.ok w':=
 Glob.keep _ _ (fun b hb=>h.block b (Nat.lt_of_lt_of_le hb (Glob.size _ hG))) hG
theorem yJI (s cs:Bys):(Lib.trimS s cs).length≤s.length:=by
 unfold Lib.trimS Lib.trimLeftS Lib.trimRightS
 refine Nat.le_trans (List.dropWhile_sublist _).length_le ?_
 rw [List.length_reverse]
 refine Nat.le_trans (List.dropWhile_sublist _).length_le ?_
 rw [List.length_reverse]
 exact Nat.le_refl _
theorem yJJ {s:Bys} (h:s.length≤maxLen):zEN (mkS s)=true:=by
 simp only [zEN]
 exact decide_eq_true (by simpa [ByteArray.size] using h)
theorem yLA {s:Bys} (h:zEN (mkS s)=true):s.length≤maxLen:=by
 simp only [zEN,decide_eq_true_eq] at h
 simpa [ByteArray.size] using h
theorem zWW (s cs:Bys) (hc:cs.length < 1000) (ha:cs.all (fun b=>decide (b.toNat < 128))=true):Contract Tryz.prog zFa [.val (sv s),.val (sv cs)] {res:=.val (sv (Lib.trimS s cs))}:=by
 refine ⟨by kernel_rfl,fun m w us hm hargs _ hG _=>?_⟩
 obtain ⟨u1,us1,rfl,h1,u2,us2,rfl,h2,rfl⟩:=hargs
 obtain ⟨rfl,f1⟩:=h1
 obtain ⟨rfl,f2⟩:=h2
 have hs:=yLA f1
 have hT:=Any.strings_Trim_laid Tryz.l160 (by kernel_rfl) ⟨s.toArray⟩ ⟨cs.toArray⟩ w (by simpa [ByteArray.size,maxLen] using hs) (by simp [ByteArray.size];omega) (ascii_of_all (by simpa using ha))
 change Calls Tryz.prog zFa _ _ _ at hT
 refine hT.mono fun e w' ⟨he,hb⟩=>yG0 hm hb he ⟨by simp,?_⟩ rfl
 exact yJJ (Nat.le_trans (yJI s cs) hs)
theorem zDN (s:Bys) (g:Nat) (p:Nat→Bool) (hp:∀ r,128≤r→p r=true) (eg:∀ args w,(callFunc g args).run Tryz.prog w=.ok (.enter g args) w)
  (hg:∀ r:Nat,Contract Tryz.prog g [.val (.one (.v (.int .i32 r)))] {res:=.val (bv (p r))}):
  Contract Tryz.prog zBy [.val (sv s),.val (.one (.clo g []))] {res:=.val (bv (!s.all (fun b=>decide (b.toNat < 128)&&!p b.toNat)))}:=by
 refine ⟨by kernel_rfl,fun m w us hm hargs _ hG _=>?_⟩
 obtain ⟨u1,us1,rfl,h1,u2,us2,rfl,h2,rfl⟩:=hargs
 obtain ⟨rfl,f1⟩:=h1
 obtain ⟨us,rfl,hus⟩:=h2
 obtain rfl:us=[]:=by simpa [RpL] using hus
 have hpg:PredGrows Tryz.prog g #[] p w:=fun W x _ hbW=>by
  refine ((hg x).2 (fun _ _=>none) W [.int .i32 x] (fun _ _ _ h=>by cases h) ⟨_,_,rfl,⟨rfl,rfl⟩,rfl⟩ (by intro g h;cases h) (yIg hbW hG) (by rintro b (h|h)<;>cases h)).mono fun e W' ⟨m',_,_,hpr,_,_,u,hu,hr⟩=>?_
  obtain rfl:u=.bool (p x):=hr.1
  exact ⟨hu,yAU hpr (by intro b h;rcases h with h|h<;>cases h)⟩
 have hT:=Any.strings_ContainsFunc_grows Tryz.l17 g #[] eg p ⟨s.toArray⟩ w hpg
 change Calls Tryz.prog zBy _ _ _ at hT
 rw [yNH hp] at hT
 exact hT.mono fun e w' ⟨he,hb⟩=>yG0 hm hb he ⟨rfl,rfl⟩ rfl
def yIh (r:Nat):Bool:=((decide (r < 97)||decide (122 < r))&&(decide (r < 48)||decide (57 < r)))&&decide (r≠45)
def zXE (r:Nat):Bool:=decide (r < 32)||decide (126 < r)||decide (r=34)
theorem yDh (r:Nat):Contract Tryz.prog zCz [.val (.one (.v (.int .i32 r)))] {res:=.val (bv (yIh r))}:=by
 refine mkA zY5 (base:=0) (fo rfl) (fun hfit=>?_)
 unfold F0 zPa
 refine goU ?_
 refine zAb rfl trivial (.inl ?_)
 congr 3
 unfold yIh
 grind
theorem yAV (r:Nat):Contract Tryz.prog zCh [.val (.one (.v (.int .i32 r)))] {res:=.val (bv (zXE r))}:=by
 refine mkA zUF (base:=0) (fo rfl) (fun hfit=>?_)
 unfold F0 zL8
 refine goU ?_
 refine zAb rfl trivial (.inl ?_)
 congr 3
 unfold zXE
 grind
theorem yNI:∀ args w,(callFunc zCz args).run Tryz.prog w=.ok (.enter zCz args) w:=enters_of Tryz.func239 (by kernel_rfl) rfl
theorem yNJ:∀ args w,(callFunc zCh args).run Tryz.prog w=.ok (.enter zCh args) w:=enters_of Tryz.func240 (by kernel_rfl) rfl
theorem zOu {α:Type} {l:List α} {p q:α→Bool} (h:∀ x,p x=q x):l.all p=l.all q:=by rw [show p=q from funext h]
theorem yPS (b:UInt8):(decide (b.toNat < 128)&&!zXE b.toNat)=yHD b:=by
 unfold zXE yHD
 grind
theorem yNK (b:UInt8):(decide (b.toNat < 128)&&!yIh b.toNat)=zO1 b:=by
 unfold yIh zO1
 grind
theorem yPT (b:UInt8):([97,98,99,100,101,102,103,104,105,106,107,108,109,110,111,112,113,114,115,116,117,118,119,120,121,122,48,49,50,51,52,53,54,55,56,57,45]:Bys).contains b=zO1 b:=by
 have h:∀ n:Fin 256,([97,98,99,100,101,102,103,104,105,106,107,108,109,110,111,112,113,114,115,116,117,118,119,120,121,122,48,49,50,51,52,53,54,55,56,57,45]:Bys).contains (UInt8.ofFin n)=zO1 (UInt8.ofFin n):=by decide +kernel
 exact h b.toFin
theorem zTF (s:Bys):Contract Tryz.prog zFK [.val (sv s)] {res:=.val (bv (zCq s))}:=by
 refine mkA yCj (base:=0) (fo rfl) (fun hfit=>?_)
 unfold F0 zSd
 refine goU ?_
 apply zAg (h2:=fun _=>zDN s zCh zXE (by intro r h;unfold zXE;grind) yNJ yAV)
 ·(simp (maxSteps:=2000000) only [go_sem];rfl)
 ·intro h;repeat' (first|exact trivial|exact h|refine And.intro ?_ ?_)
 refine goW ?_
 refine zAb rfl trivial (.inl ?_)
 congr 3
 rw [zOu yPS,zCq]
 grind
theorem zEP (s:Bys):Contract Tryz.prog zCs [.val (sv s)] {res:=.val (bv (zBC s))}:=by
 refine mkA yEG (base:=0) (fo rfl) (fun hfit=>?_)
 unfold F0 zXw
 refine goU ?_
 apply zAg (h2:=fun _=>zWW s _ (by decide) (by decide))
 ·(simp (maxSteps:=2000000) only [go_sem];rfl)
 ·intro h;repeat' (first|exact trivial|exact h|refine And.intro ?_ ?_)
 refine goW ?_
 apply zAg (h2:=fun _=>zDN s zCz yIh (by intro r h;unfold yIh;grind) yNI yDh)
 ·(simp (maxSteps:=2000000) only [go_sem];rfl)
 ·intro h;repeat' (first|exact trivial|exact h|refine And.intro ?_ ?_)
 refine goW ?_
 refine zAb rfl trivial (.inl ?_)
 congr 3
 rw [zOu yNK,yLz,zOu yPT,zBC]
 grind
end Go.Hx
end

section
set_option maxRecDepth 100000
set_option linter.unusedSimpArgs false
namespace Go.Hx
open Go.Proofs
variable [Glob] [GlobL]
attribute [local go_sem] zAk zAl zAj zAf ndV zAm
attribute [local go_sem] reduceCtorEq Nat.reduceAdd Nat.reduceEqDiff reduceIte Nat.reduceLeDiff Nat.reduceLT Nat.reduceSub
theorem zJe (s:Bys):Contract Tryz.prog zEC [.val (sv s)] {res:=.val (sv s)}:=by
 refine mkA zYS (base:=0) (fo rfl) (fun hfit=>?_)
 unfold F0 zO7
 refine goU ?_
 refine goW ?_
 refine zAb rfl trivial (.inl ?_)
 congr 3
theorem zJf (a b:Bys):Contract Tryz.prog zED [.val (.agg [bS a,bS b])] {res:=.val (sv a)}:=by
 refine mkA zYV (base:=0) (fo rfl) (fun hfit=>?_)
 unfold F0 zO8
 refine goU ?_
 refine goW ?_
 refine zAb rfl trivial (.inl ?_)
 congr 3
theorem yDi (a b:Bys):Contract Tryz.prog zDr [.val (.agg [bS a,bS b])] {res:=.val (bv (!zCq b))}:=by
 refine mkA zYY (base:=0) (fo rfl) (fun hfit=>?_)
 unfold F0 zO9
 refine goU ?_
 refine zAc (by repeat' constructor) (zTF _) ?_
 refine goW ?_
 refine goW ?_
 refine zAb rfl trivial (.inl ?_)
 congr 3
theorem yLB {l:List Bys} {i:Nat}:okC l (i+1)=(okC l i&&cOk l i):=zCP
theorem zXF:∀ {x y:Bys},Op.bytesLess x y=true→Op.bytesLess y x=false
 |[],_,h=>by rename_i y;cases y<;>rfl
 |a::x,[],h=>by simp [Op.bytesLess] at h
 |a::x,b::y,h=>by
  simp only [Op.bytesLess,Bool.or_eq_true,Bool.and_eq_true,decide_eq_true_eq,beq_iff_eq] at h
  simp only [Op.bytesLess,Bool.or_eq_false_iff,Bool.and_eq_false_iff,decide_eq_false_iff_not,beq_eq_false_iff_ne]
  rcases h with h|⟨rfl,h⟩
  ·exact ⟨UInt8.lt_asymm h,.inl (fun e=>by subst e;exact UInt8.lt_irrefl _ h)⟩
  ·exact ⟨UInt8.lt_irrefl _,.inr (zXF h)⟩
theorem zXG:∀ {x y:Bys},Op.bytesLess x y=false→x≠y→Op.bytesLess y x=true
 |[],[],_,h=>(h rfl).elim
 |[],b::y,h,_=>by simp [Op.bytesLess] at h
 |a::x,[],_,_=>rfl
 |a::x,b::y,h,hn=>by
  simp only [Op.bytesLess,Bool.or_eq_false_iff,Bool.and_eq_false_iff,decide_eq_false_iff_not,beq_eq_false_iff_ne] at h
  simp only [Op.bytesLess,Bool.or_eq_true,Bool.and_eq_true,decide_eq_true_eq,beq_iff_eq]
  obtain ⟨h1,h2⟩:=h
  by_cases e:a=b
  ·subst e
   refine .inr ⟨rfl,zXG (h2.resolve_left (fun h=>h rfl)) (fun e=>hn (by rw [e]))⟩
  ·refine .inl ?_
   have h3:b≤a:=UInt8.not_lt.1 h1
   exact UInt8.lt_of_le_of_ne h3 (Ne.symm e)
theorem zXH {x y:Bys}:(Op.bytesLess x y||x==y)=!Op.bytesLess y x:=by
 cases h:Op.bytesLess y x with
 |true=>
  have h1:=zXF h
  have:¬ x=y:=fun e=>by subst e;rw [h1] at h;cases h
  simp [h1,this]
 |false=>
  by_cases e:x=y
  ·subst e;simp
  ·simp [zXG h (Ne.symm e)]
theorem zNn (l:List Bys):Contract Tryz.prog zC0 [.val (.one (.sl 1 (zUg l))),.val (.one (.clo zEC []))] {res:=.val (bv (okC l l.length))}:=by
 refine mkA zKI (base:=0) (fo rfl) (fun hfit=>?_)
 unfold F0 zFM
 refine goU ?_
 have hm:=zDn (k:=1) hfit.1
 rw [zAl] at hm
 refine zAd (fun i:Nat=>[(5,.pv (sv (if i=0 then [] else l.getD (i-1) []))),(7,.un),(10,.pv (iv i)),(11,.un),(25,.un)]) (fun i:Nat=>l.length-i) (fun i:Nat=>i≤l.length∧okC l i=true) (0) ?_ ⟨Nat.zero_le _,rfl⟩ ?_
 focus (exact leA)
 intro i ⟨hi,hok⟩
 refine goW ?_
 refine zAa (by rfl) trivial (fun h=>?_) (fun h=>?_)
 ·have hlt:i < l.length:=by simpa using h
  try simp (maxSteps:=2000000) only [go_sem,zFE _ _ hlt]
  repeat with_reducible refine zAt ?_
  refine zDm (by rfl) trivial (by repeat' constructor) (zJe _) ?_
  refine goW ?_
  refine zAc (by repeat' constructor) (zEP _) ?_
  refine goW ?_
  refine zRs (by simp (maxSteps:=2000000) only [go_sem];rfl) (by rfl) (by first|exact fun _=>trivial|exact fun h=>h) (by intro h;repeat' (first|exact trivial|exact h|refine And.intro ?_ ?_)) (fun _=>zJe _) ?_
  refine goW ?_
  rw [zXH]
  refine zAa (by rfl) trivial (fun h2=>?_) (fun h2=>?_)
  ·refine goW ?_
   refine zAb rfl trivial (.inl ?_)
   congr 3
   cases hn:okC l l.length with
   |false=>rfl
   |true=>
    exfalso
    have h4:=zAF hn hlt
    simp only [cOk,Bool.and_eq_true,Bool.or_eq_true,decide_eq_true_eq] at h4
    rw [h4.1] at h2
    by_cases h0:i=0
    ·subst h0
     cases hx:l.getD 0 [] with
     |nil=>rw [hx] at h4;simp [zBC] at h4
     |cons a r=>rw [hx] at h2;simp [Op.bytesLess] at h2
    ·rw [if_neg h0,h4.2.resolve_left h0] at h2
     simp at h2
  ·refine goW ?_
   refine zDm (by rfl) trivial (by repeat' constructor) (zJe _) ?_
   refine goW ?_
   refine ⟨i+1,by omega,⟨hlt,?_⟩,?_⟩
   ·rw [yLB,hok]
    simp only [Bool.true_and,cOk]
    cases hn:zBC (l.getD i []) with
    |false=>rw [hn] at h2;simp at h2
    |true=>
     rw [hn] at h2
     by_cases h0:i=0
     ·simp [h0]
     ·rw [if_neg h0] at h2
      simp at h2
      simp [h0,h2]
   ·exact leA
 ·refine goW ?_
  refine zAb rfl trivial (.inl ?_)
  congr 3
  have:i=l.length:=by simp at h;omega
  rw [←this];exact hok
def rOk (l:List (Bys×Bys)) (k:Nat):Bool:=zBC (l.getD k default).1&&(decide (k=0)||Op.bytesLess (l.getD (k-1) default).1 (l.getD k default).1)
def yDj (l:List (Bys×Bys)) (i:Nat):Bool:=(List.range i).all (rOk l)
abbrev yNL (l:List (Bys×Bys)):Bool:=yDj l l.length
theorem yFN {l:List (Bys×Bys)} {i:Nat}:yDj l (i+1)=(yDj l i&&rOk l i):=zCP
theorem zQx (l:List (Bys×Bys)):Contract Tryz.prog zCt [.val (.one (.sl 2 (yGI l))),.val (.one (.clo zED []))] {res:=.val (bv (yNL l))}:=by
 refine mkA zIq (base:=0) (fo rfl) (fun hfit=>?_)
 unfold F0 zEr
 refine goU ?_
 have hm:=zDn (k:=2) hfit.1
 rw [zAj] at hm
 refine zAd (fun i:Nat=>[(5,.pv (sv (if i=0 then [] else (l.getD (i-1) default).1))),(7,.un),(30,.un),(31,.un),(10,.pv (iv i)),(11,.un),(25,.un)]) (fun i:Nat=>l.length-i) (fun i:Nat=>i≤l.length∧yDj l i=true) (0) ?_ ⟨Nat.zero_le _,rfl⟩ ?_
 focus (exact leA)
 intro i ⟨hi,hok⟩
 refine goW ?_
 refine zAa (by rfl) trivial (fun h=>?_) (fun h=>?_)
 ·have hlt:i < l.length:=by simpa using h
  try simp (maxSteps:=2000000) only [go_sem,zEz _ _ hlt]
  repeat with_reducible refine zAt ?_
  refine zDm (by rfl) trivial (by repeat' constructor) (zJf _ _) ?_
  refine goW ?_
  refine zAc (by repeat' constructor) (zEP _) ?_
  refine goW ?_
  refine zRs (by simp (maxSteps:=2000000) only [go_sem];rfl) (by rfl) (by first|exact fun _=>trivial|exact fun h=>h) (by intro h;repeat' (first|exact trivial|exact h|refine And.intro ?_ ?_)) (fun _=>zJf _ _) ?_
  refine goW ?_
  rw [zXH]
  refine zAa (by rfl) trivial (fun h2=>?_) (fun h2=>?_)
  ·refine goW ?_
   refine zAb rfl trivial (.inl ?_)
   congr 3
   cases hn:yNL l with
   |false=>rfl
   |true=>
    exfalso
    have h4:=zAF hn hlt
    simp only [rOk,Bool.and_eq_true,Bool.or_eq_true,decide_eq_true_eq] at h4
    rw [h4.1] at h2
    by_cases h0:i=0
    ·subst h0
     cases hx:(l.getD 0 default).1 with
     |nil=>rw [hx] at h4;simp [zBC] at h4
     |cons a r=>rw [hx] at h2;simp [Op.bytesLess] at h2
    ·rw [if_neg h0,h4.2.resolve_left h0] at h2
     simp at h2
  ·refine goW ?_
   refine zDm (by rfl) trivial (by repeat' constructor) (zJf _ _) ?_
   refine goW ?_
   refine ⟨i+1,by omega,⟨hlt,?_⟩,?_⟩
   ·rw [yFN,hok]
    simp only [Bool.true_and,rOk]
    cases hn:zBC ((l.getD i default).1) with
    |false=>rw [hn] at h2;simp at h2
    |true=>
     rw [hn] at h2
     by_cases h0:i=0
     ·simp [h0]
     ·rw [if_neg h0] at h2
      simp at h2
      simp [h0,h2]
   ·exact leA
 ·refine goW ?_
  refine zAb rfl trivial (.inl ?_)
  congr 3
  have:i=l.length:=by simp at h;omega
  subst this;exact hok
def zWY (l:List (Bys×Bys)) (i:Nat):Bool:=!zCq (l.getD i default).2
def yDk (l:List (Bys×Bys)):Int:=match (List.range l.length).find? (zWY l) with|some i=>i|none=>-1
theorem zHr (l:List (Bys×Bys)):Contract Tryz.prog zAZ [.val (.one (.sl 2 (yGI l))),.val (.one (.clo zDr []))] {res:=.val (iv (yDk l))}:=by
 refine mkA zDa (base:=0) (fo rfl) (fun hfit=>?_)
 unfold F0 zB8
 refine goU ?_
 have hm:=zDn (k:=2) hfit.1
 rw [zAj] at hm
 refine zAd (fun i:Nat=>[(5,.un),(8,.pv (iv i)),(9,.un),(16,.un)]) (fun i:Nat=>l.length-i) (fun i:Nat=>i≤l.length∧∀ k,k < i→zWY l k=false) (0) ?_ ⟨Nat.zero_le _,fun k hk=>by omega⟩ ?_
 focus (exact leA)
 intro i ⟨hi,hok⟩
 refine goW ?_
 refine zAa (by rfl) trivial (fun h=>?_) (fun h=>?_)
 ·have hlt:i < l.length:=by simpa using h
  try simp (maxSteps:=2000000) only [go_sem,zEz _ _ hlt]
  repeat with_reducible refine zAt ?_
  refine zDm (by rfl) trivial (by repeat' constructor) (yDi _ _) ?_
  refine goW ?_
  refine zAa (by rfl) trivial (fun h2=>?_) (fun h2=>?_)
  ·refine goW ?_
   refine zAb rfl trivial (.inl ?_)
   congr 3
   have h3:(List.range l.length).find? (zWY l)=some i:=List.find?_range_eq_some.2 ⟨h2,List.mem_range.2 hlt,fun j hj=>by rw [hok j hj];rfl⟩
   rw [yDk,h3]
  ·refine goW ?_
   refine ⟨i+1,by omega,⟨hlt,fun k hk=>?_⟩,?_⟩
   ·by_cases e:k=i
    ·rw [e];exact h2
    ·exact hok k (by omega)
   ·exact leA
 ·refine goW ?_
  refine zAb rfl trivial (.inl ?_)
  congr 3
  have:i=l.length:=by simp at h;omega
  have h3:(List.range l.length).find? (zWY l)=none:=List.find?_eq_none.2 fun x hx=>by rw [hok x (by rw [this];exact List.mem_range.1 hx)];simp
  rw [yDk,h3]
def yDl (l:List (Bys×Bys)):Bool:=(List.range l.length).any (zWY l)
theorem yIi (l:List (Bys×Bys)):decide (0≤yDk l)=yDl l:=by
 unfold yDk yDl
 cases h:(List.range l.length).find? (zWY l) with
 |none=>
  have:=List.find?_eq_none.1 h
  have h2:(List.range l.length).any (zWY l)=false:=by
   rw [List.any_eq_false];exact this
  rw [h2];rfl
 |some i=>
  have:=List.find?_range_eq_some.1 h
  have h2:(List.range l.length).any (zWY l)=true:=List.any_eq_true.2 ⟨i,this.2.1,this.1⟩
  rw [h2]
  simp
theorem zFs (l:List (Bys×Bys)):Contract Tryz.prog zBE [.val (.one (.sl 2 (yGI l))),.val (.one (.clo zDr []))] {res:=.val (bv (yDl l))}:=by
 refine mkA zE9 (base:=0) (fo rfl) (fun hfit=>?_)
 unfold F0 zCD
 refine goU ?_
 refine zAc (by repeat' constructor) (zHr _) ?_
 refine goW ?_
 refine goW ?_
 refine zAb rfl trivial (.inl ?_)
 congr 3
 rw [←yIi]
theorem yIj (l:List (Bys×Bys)):okA l l.length=(yNL l&&!yDl l):=by
 rw [Bool.eq_iff_iff]
 simp only [okA,yDj,yDl,Bool.and_eq_true,Bool.not_eq_true',List.all_eq_true,List.any_eq_false,List.mem_range]
 constructor
 ·intro h
  refine ⟨fun k hk=>?_,fun k hk=>?_⟩
  ·have:=h k hk
   simp only [aOk,rOk,Bool.and_eq_true] at this ⊢
   exact ⟨this.1.1,this.2⟩
  ·have:=h k hk
   simp only [aOk,zWY,Bool.and_eq_true] at this ⊢
   rw [this.1.2];simp
 ·intro ⟨h1,h2⟩ k hk
  have h3:=h1 k hk
  have h4:=h2 k hk
  simp only [aOk,rOk,zWY,Bool.and_eq_true,Bool.not_eq_true,Bool.not_eq_false'] at h3 h4 ⊢
  exact ⟨⟨h3.1,h4⟩,h3.2⟩
theorem zXI (x:Nd):Contract Tryz.prog zKw [.val (.agg (ndV x))] {res:=.val (bv (zBo x))}:=by
 unfold ndV
 refine mkA yED (base:=0) (fo rfl) (fun hfit=>?_)
 unfold F0 zXv
 refine goU ?_
 refine zAc (by repeat' constructor) (zEP _) ?_
 refine goW ?_
 apply zAg (h2:=fun _=>zEP _)
 ·(simp (maxSteps:=2000000) only [go_sem];rfl)
 ·intro h;repeat' (first|exact trivial|exact h|refine And.intro ?_ ?_)
 refine goW ?_
 apply zAg (h2:=fun _=>zNn _)
 ·(simp (maxSteps:=2000000) only [go_sem];rfl)
 ·intro h;repeat' (first|exact trivial|exact h|refine And.intro ?_ ?_)
 refine goW ?_
 apply zAg (h2:=fun _=>zQx _)
 ·(simp (maxSteps:=2000000) only [go_sem];rfl)
 ·intro h;repeat' (first|exact trivial|exact h|refine And.intro ?_ ?_)
 refine goW ?_
 apply zAg (h2:=fun _=>zFs _)
 ·(simp (maxSteps:=2000000) only [go_sem];rfl)
 ·intro h;repeat' (first|exact trivial|exact h|refine And.intro ?_ ?_)
 refine goW ?_
 refine zAb rfl trivial (.inl ?_)
 congr 3
 simp only [zBo,yIj]
 grind
end Go.Hx
end

section
set_option maxRecDepth 100000
set_option linter.unusedSimpArgs false
namespace Go.Hx
open Go.Proofs
variable [Glob] [GlobL]
attribute [local go_sem] zAk zAl zAj zAf ndV zAm
attribute [local go_sem] reduceCtorEq Nat.reduceAdd Nat.reduceEqDiff reduceIte Nat.reduceLeDiff Nat.reduceLT Nat.reduceSub
def zOw (u:Int) (c:List Int):List Int:=c.dropWhile fun x=>decide (x≠u)
theorem zTG {u:Int}:∀ c:List Int,(zOw u c=[])↔u∉c
 |[]=>by simp [zOw]
 |x::c=>by
  simp only [zOw,List.dropWhile_cons]
  by_cases h:x=u
  ·simp [h]
  ·have:=zTG (u:=u) c
   simp only [zOw] at this
   simp only [ne_eq,decide_not] at this
   simp [h,this,Ne.symm h]
theorem zTH {d:List Nd} {u:Int}:∀ (f:Nat) (k:Int),(∀ j:Nat,(j:Int)≤k→zAX d j < j)→k < f→u∈zA5 d f k→∀ g:Nat,u < g→zOw u (zA5 d f k)=zA5 d g u
 |0,k,_,_,hu=>by simp [zA5] at hu
 |f+1,k,h,hf,hu=>by
  intro g hg
  have hb:=zDS (f+1) k h _ hu
  simp only [zA5] at hu ⊢
  split at hu
  ·cases hu
  ·rename_i hk
   rw [if_neg hk]
   simp only [zOw,List.dropWhile_cons]
   by_cases e:k=u
   ·subst e
    simp only [ne_eq,not_true_eq_false,decide_false,Bool.false_eq_true,if_false]
    have:k::zA5 d f (zAX d k.toNat)=zA5 d (f+1) k:=by simp [zA5,hk]
    rw [this]
    exact zEO _ _ _ h hf hg
   ·simp only [ne_eq,e,not_false_eq_true,decide_true,if_true]
    have h1:=h k.toNat (by omega)
    exact zTH f (zAX d k.toNat) (fun j hj=>h j (by omega)) (by omega) ((List.mem_cons.1 hu).resolve_left (Ne.symm e)) g hg
theorem zXJ (c:List Int) (x:Int):(zAy ((x::c).reverse)).getD c.length []=[bI x]:=by
 simp [zAy]
theorem zXK (c:List Int) (x:Int):(zAy ((x::c).reverse)).take c.length=zAy c.reverse:=by
 simp [zAy]
theorem yJL:zAy []=[]:=rfl
theorem yDm {d:List Nd} {i:Nat}:yJi d i=((decide (i≠0)||decide (zAX d i=-1))&&(decide (i=0)||!decide (zOw (zAX d i) (zA5 d i ((i:Int)-1))=[]))):=by
 unfold yJi
 by_cases h:i=0
 ·simp [h]
 ·have:=zTG (u:=zAX d i) (zA5 d i ((i:Int)-1))
  simp only [h,if_false,ne_eq,not_false_eq_true,decide_true,Bool.true_or,Bool.true_and,decide_false,Bool.false_or,this]
  simp
theorem yDn {d:List Nd}:∀ (f:Nat) (k:Int),(zA5 d f k).length≤f
 |0,_=>by simp [zA5]
 |f+1,k=>by
  simp only [zA5]
  split
  ·simp
  ·have:=yDn (d:=d) f (zAX d k.toNat)
   simp;omega
theorem yJM (n:Nat):((((n+1:Nat):Int))-1).toNat=n:=by omega
theorem yJN {d:List Nd} {i:Nat} (hl:1≤d.length∧d.length≤64) (hi:i < d.length) (h:yBj d i=false):zAq d=1:=by
 have:zCd d d.length=false:=by
  cases hd:zCd d d.length with
  |false=>rfl
  |true=>rw [zAF hd hi] at h;cases h
 simp [zAq,hl,this]
theorem zTI (d:List Nd):Contract Tryz.prog zFJ [.val (zC9 d)] {res:=.val (iv (zAq d))}:=by
 unfold zC9
 refine mkA yCd (base:=0) (fo rfl) (fun hfit=>?_)
 unfold F0 zSb
 refine goU ?_
 refine zAa (by rfl) trivial (fun h=>?_) (fun h=>?_)
 ·refine goW ?_
  refine zAb rfl trivial (.inl ?_)
  congr 3
  have hl:¬ (1≤d.length∧d.length≤64):=by
   simp at h;omega
  simp [zAq,hl]
 have hl:1≤d.length∧d.length≤64:=by
  simp at h;omega
 refine goW ?_
 refine zAd (fun i:Nat=>[(3,.stk zAr 1 (zAy (zA5 d i ((i:Int)-1)).reverse)),(4,.un),(5,.un),(19,.pv (iv i)),(20,.un),(37,.un),(63,.un),(69,.un),(70,.un),(71,.un),(72,.un),(73,.un)]) (fun i:Nat=>d.length-i) (fun i:Nat=>i≤d.length∧zCd d i=true) (0) ?_ ⟨Nat.zero_le _,rfl⟩ ?_
 focus (exact leA)
 intro i ⟨hi,hok⟩
 refine goW ?_
 refine zAa (by rfl) trivial (fun h2=>?_) (fun h2=>?_)
 ·have hlt:i < d.length:=by simpa using h2
  try simp (maxSteps:=2000000) only [go_sem,zAW _ _ hlt]
  repeat with_reducible refine zAt ?_
  have hcl:=yDn (d:=d) i ((i:Int)-1)
  have hx:zAX d i=(d.getD i default).up:=rfl
  refine zAd (fun c:List Int=>[(3,.stk zAr 1 (zAy c.reverse)),(37,.un)]) (fun c:List Int=>c.length) (fun c:List Int=>c.length≤i∧zOw (zAX d i) c=zOw (zAX d i) (zA5 d i ((i:Int)-1))) ((zA5 d i ((i:Int)-1))) ?_ ⟨hcl,rfl⟩ ?_
  focus (exact leA)
  intro c ⟨hcl,hc⟩
  cases c with
  |nil=>
   have hpop:zOw (zAX d i) (zA5 d i ((i:Int)-1))=[]:=by rw [←hc];rfl
   have hup:=yDm (d:=d) (i:=i)
   rw [hpop] at hup
   try simp (maxSteps:=2000000) only [go_sem,List.reverse_nil,yJL,List.getD_nil,List.headD_nil]
   repeat with_reducible refine zAt ?_
   refine zAa (by rfl) trivial (fun h3=>?_) (fun h3=>?_)
   ·simp at h3
   refine goW ?_
   refine yBD (by repeat' constructor) (zXI (d.getD i default)) ?_
   refine goW ?_
   refine zAa (by rfl) trivial (fun h4=>?_) (fun h4=>?_)
   ·refine goW ?_
    refine zAb rfl trivial (.inl ?_)
    congr 3
    refine yJN hl hlt ?_
    rw [yBj,hup]
    grind
   ·refine goW ?_
    have h5:i=0:=by grind
    have h6:yBj d i=true:=by
     rw [yBj,hup]
     grind
    refine ⟨i+1,by omega,⟨by omega,by rw [zOv,hok,h6];rfl⟩,?_⟩
    simp (maxSteps:=2000000) only [go_sem,zAC,zA1,zB5,zAD]
    all_goals (repeat' (first|exact trivial|exact zA2 (by omega)|exact zA4 rfl|exact zBm rfl|exact zBK|exact le_refl _|refine And.intro ?_ ?_))
    refine zBm ?_
    subst h5
    have:zAX d 0=-1:=by grind
    simp [zA5,this,zAy]
  |cons x c=>
   have hlen:c.length+1≤64:=by simp at hcl;omega
   try simp (maxSteps:=2000000) only [go_sem,List.length_reverse,yJM,zXJ,zXK]
   repeat with_reducible refine zAt ?_
   refine zAa (by rfl) trivial (fun h3=>?_) (fun h3=>?_)
   ·try simp (maxSteps:=2000000) only [go_sem,List.length_reverse,yJM,zXJ,zXK]
    repeat with_reducible refine zAt ?_
    refine ⟨c,by omega,⟨by simp at hcl;omega,?_⟩,?_⟩
    ·rw [←hc]
     simp only [zOw,List.dropWhile_cons]
     grind
    ·exact leA
   have hxu:x=zAX d i:=by grind
   have hpop:zOw (zAX d i) (zA5 d i ((i:Int)-1))=x::c:=by rw [←hc];simp [zOw,hxu]
   have hup:=yDm (d:=d) (i:=i)
   rw [hpop] at hup
   try simp (maxSteps:=2000000) only [go_sem,List.length_reverse]
   repeat with_reducible refine zAt ?_
   refine yBD (by repeat' constructor) (zXI (d.getD i default)) ?_
   refine goW ?_
   refine zAa (by rfl) trivial (fun h4=>?_) (fun h4=>?_)
   ·refine goW ?_
    refine zAb rfl trivial (.inl ?_)
    congr 3
    refine yJN hl hlt ?_
    rw [yBj,hup]
    grind
   ·refine goW ?_
    have hmem:zAX d i∈zA5 d i ((i:Int)-1):=by
     have:=zTG (u:=zAX d i) (zA5 d i ((i:Int)-1))
     rw [hpop] at this
     simpa using this
    have h5:i≠0:=by intro h0;subst h0;simp [zA5] at hmem
    have h6:yBj d i=true:=by
     rw [yBj,hup]
     grind
    refine ⟨i+1,by omega,⟨by omega,by rw [zOv,hok,h6];rfl⟩,?_⟩
    simp (maxSteps:=2000000) only [go_sem,zAC,zA1,zB5,zAD]
    all_goals (repeat' (first|exact trivial|exact zA2 (by omega)|exact zA4 rfl|exact zBm rfl|exact zBK|exact le_refl _|refine And.intro ?_ ?_))
    refine zBm ?_
    have hups:∀ j:Nat,(j:Int)≤(i:Int)-1→zAX d j < j:=fun j hj=>(zBb hok j (by omega)).2
    have hb:=zDS i ((i:Int)-1) hups _ hmem
    have hch:=zTH i ((i:Int)-1) hups (by omega) hmem i (by omega)
    rw [hpop] at hch
    have:zA5 d (i+1) (((i+1:Nat):Int)-1)=(i:Int)::x::c:=by
     rw [show (((i+1:Nat):Int)-1)=(i:Int) by omega]
     simp only [zA5]
     rw [if_neg (by omega),hch]
     simp
    rw [this]
    simp [zAy]
 ·refine goW ?_
  refine zAb rfl trivial (.inl ?_)
  congr 3
  have hi2:i=d.length:=by simp at h2;omega
  subst hi2
  simp [zAq,hl,hok]
end Go.Hx
end

section
set_option maxRecDepth 100000
set_option linter.unusedSimpArgs false
namespace Go.Hx
open Go.Proofs
variable [Glob] [GlobL]
attribute [local go_sem] zAk zAl zAj zAf ndV zAm zAh fdV shV zAQ zAY zBh zBp
attribute [local go_sem] reduceCtorEq Nat.reduceAdd Nat.reduceEqDiff reduceIte Nat.reduceLeDiff Nat.reduceLT Nat.reduceSub
theorem yJY (N:Nat) (ih:yRe Tryz.prog N) (s:St) (d K:Nat) (c:Fd) (hN:SizeOf.sizeOf s≤N+1) (hd:d≤3) (hc:c.le K) (hK:K+bdS d≤1000000000):Contract Tryz.prog zCA [.io (fdV c),.val (.agg (stV s)),.val (iv d)] {res:=.tup [],io:=fdV (c.add (ntS s d))}:=by
 rw [zGv]
 unfold fdV
 refine mkA zOn (base:=121) ⟨Nat.le_of_ble_eq_true rfl,Nat.le_of_ble_eq_true rfl,Nat.le_of_ble_eq_true rfl,⟨rfl,rfl⟩⟩ (fun hfit=>?_)
 unfold F0 zHy
 refine goU ?_
 have hbs:bdS d=1+6 * bdT d:=rfl
 have hbt:bdT d=5+bd (d+1):=rfl
 refine zAa (by rfl) trivial (fun h=>?_) (fun h=>?_)
 ·have e:ntS s d=fM true:=by rw [yMf,if_pos (by simp at h;omega)]
  have hm:=hc.m
  refine goW ?_
  refine zDR (by repeat' constructor) (yAP c true (by omega)) ?_
  refine goW ?_
  rw [e]
  exact zYp rfl rfl
 ·have hl6:s.tests.length≤6:=by simp at h;omega
  have e:ntS s d=(fF (!(s.tag==[])&&!zBC s.tag)).add (yGS s.tests d):=by rw [yMf,if_neg (by omega)]
  rw [e]
  refine goW ?_
  have hf:=hc.f
  apply zAg (h2:=fun _=>zEP s.tag)
  ·(simp (maxSteps:=2000000) only [go_sem];rfl)
  ·intro h;repeat' (first|exact trivial|exact h|refine And.intro ?_ ?_)
  refine goW ?_
  refine zDR (by repeat' constructor) (zQL c (bif !(s.tag==[]) then !zBC s.tag else false) (by omega)) ?_
  try simp (maxSteps:=2000000) only [go_sem,Bool.cond_false_right]
  repeat with_reducible refine zAt ?_
  obtain ⟨c1,hc1⟩:∃ c1,c1=c.add (fF (!(s.tag==[])&&!zBC s.tag)):=⟨_,rfl⟩
  have hc2:c1.le (K+1):=by rw [hc1];exact hc.le_add (yBO _)
  rw [←Fd.add_assoc,←hc1]
  have hK0:K+1+(s.tests.length-0) * bdT d≤1000000000:=by
   have:(s.tests.length-0) * bdT d≤6 * bdT d:=Nat.mul_le_mul_right _ (by omega)
   omega
  refine zAd (fun x:Nat×Fd=>[(7,.un),(8,.un),(9,.un),(30,.pv (iv x.1)),(31,.un),(113,.un),(122,.pv (.one (bI x.2.f))),(123,.pv (.one (bI x.2.m))),(124,.pv (.one (bI x.2.r))),(125,.pv (.one (bI x.2.k)))]) (fun x:Nat×Fd=>s.tests.length-x.1) (fun x:Nat×Fd=>x.1≤s.tests.length∧(∃ K',x.2.le K'∧K'+(s.tests.length-x.1) * bdT d≤1000000000)∧x.2.add (yGS (s.tests.drop x.1) d)=c1.add (yGS s.tests d)) ((0,c1)) ?_ ⟨Nat.zero_le _,⟨K+1,hc2,hK0⟩,by simp⟩ ?_
  focus (exact leA)
  rintro ⟨i,a⟩ ⟨hi,⟨K',ha,hK'⟩,hsum⟩
  simp only at hi ha hK' hsum
  refine goW ?_
  refine zAa (by rfl) trivial (fun h2=>?_) (fun h2=>?_)
  ·have hil:i < s.tests.length:=by simp at h2;omega
   rw [zA0 (d:=default) hil] at hsum
   obtain ⟨t,ht⟩:∃ t,t=s.tests.getD i default:=⟨_,rfl⟩
   rw [←ht] at hsum
   have hg:=zDp s.tests i hil
   rw [←ht,zEp] at hg
   have hsz:SizeOf.sizeOf t.list≤N:=by
    have h3:=zRz t
    have h4:=yJl hil
    rw [←ht] at h4
    have h5:=zL3 s
    omega
   have hmul:(s.tests.length-i) * bdT d=bdT d+(s.tests.length-(i+1)) * bdT d:=by
    have:s.tests.length-i=(s.tests.length-(i+1))+1:=by omega
    rw [this,Nat.add_mul];omega
   have hbp:=zYs (4-(d+1))
   have hbe:bd (d+1)=bdF (4-(d+1)):=rfl
   simp only [yGS,yPJ,yKB] at hsum
   try simp (maxSteps:=2000000) only [go_sem,hg]
   repeat with_reducible refine zAt ?_
   refine zBx (by repeat' constructor) (yJD t.kind) ?_
   try simp (maxSteps:=2000000) only [go_sem,hg]
   repeat with_reducible refine zAt ?_
   have a1:=ha.k
   refine zDR (by repeat' constructor) (yGW a (!kOk t.kind) (by omega)) ?_
   refine goW ?_
   obtain ⟨b1,hb1⟩:∃ b1,b1=a.add (fK (!kOk t.kind)):=⟨_,rfl⟩
   have l1:b1.le (K'+1):=by rw [hb1];exact ha.le_add (yNx _)
   rw [←hb1]
   have a2:=l1.f
   apply zAg (h2:=fun _=>zEP t.name)
   ·(simp (maxSteps:=2000000) only [go_sem];rfl)
   ·intro h;repeat' (first|exact trivial|exact h|refine And.intro ?_ ?_)
   refine goW ?_
   refine zDR (by repeat' constructor) (zQL b1 _ (by omega)) ?_
   try simp (maxSteps:=2000000) only [go_sem,Bool.cond_false_right,Bool.cond_true_left]
   repeat with_reducible refine zAt ?_
   obtain ⟨b2,hb2⟩:∃ b2,b2=b1.add (fF (yLc t)):=⟨_,rfl⟩
   have l2:b2.le (K'+1+1):=by rw [hb2];exact l1.le_add (yBO _)
   unfold yLc at hb2
   rw [←hb2]
   have a3:=l2.f
   apply zAg (h2:=fun _=>zTF t.value)
   ·(simp (maxSteps:=2000000) only [go_sem];rfl)
   ·intro h;repeat' (first|exact trivial|exact h|refine And.intro ?_ ?_)
   refine goW ?_
   refine zDR (by repeat' constructor) (zQL b2 _ (by omega)) ?_
   try simp (maxSteps:=2000000) only [go_sem,Bool.cond_false_right,Bool.cond_true_left]
   repeat with_reducible refine zAt ?_
   obtain ⟨b3,hb3⟩:∃ b3,b3=b2.add (fF (yLd t)):=⟨_,rfl⟩
   have l3:b3.le (K'+1+1+1):=by rw [hb3];exact l2.le_add (yBO _)
   unfold yLd at hb3
   rw [←hb3]
   have a4:=l3.f
   have e3:decide (0 < (t.list.length:Int))=decide (0 < t.list.length):=decide_eq_decide.2 (by omega)
   refine zDR (by repeat' constructor) (zQL b3 _ (by omega)) ?_
   try simp (maxSteps:=2000000) only [go_sem,Bool.cond_false_right,Bool.cond_true_left,e3]
   repeat with_reducible refine zAt ?_
   obtain ⟨b4,hb4⟩:∃ b4,b4=b3.add (fF (yKw t)):=⟨_,rfl⟩
   have l4:b4.le (K'+1+1+1+1):=by rw [hb4];exact l3.le_add (yBO _)
   unfold yKw at hb4
   rw [←hb4]
   have a5:=l4.r
   refine zAc (by repeat' constructor) (zTL t.na t.nb) ?_
   refine goW ?_
   refine zDR (by repeat' constructor) (yLt b4 _ (by omega)) ?_
   refine goW ?_
   obtain ⟨b5,hb5⟩:∃ b5,b5=b4.add (fR (zPy t.na t.nb != 0)):=⟨_,rfl⟩
   have l5:b5.le (K'+1+1+1+1+1):=by rw [hb5];exact l4.le_add (yPN _)
   rw [←hb5]
   have hT:b5=a.add (yKB t):=by
    rw [hb5,hb4,hb3,hb2,hb1]
    simp only [yKB,kOk,yLc,yLd,yKw,Fd.add_assoc]
    congr 6
   refine zAa (by rfl) trivial (fun h3=>?_) (fun h3=>?_)
   ·rw [if_pos h3,←Fd.add_assoc,←Fd.add_assoc] at hsum
    have hst:=ih.1 t.list (d+1) (K'+5) b5 hsz (by omega) l5 (by omega)
    unfold fdV zAQ at hst
    rw [show ((d+1:Nat):Int)=(d:Int)+1 by omega] at hst
    refine goW ?_
    refine zDR (by repeat' constructor) (hst) ?_
    refine goW ?_
    refine ⟨(i+1,b5.add (ntL t.list (d+1))),by simp only;omega,⟨by simp only;omega,⟨K'+5+bd (d+1),l5.le_add (b_L _ _),by simp only;omega⟩,?_⟩,?_⟩
    ·simp only
     rw [←hsum,hT]
     rfl
    ·exact leA
   ·rw [if_neg (by rw [h3];simp)] at hsum
    refine goW ?_
    refine ⟨(i+1,b5),by simp only;omega,⟨by simp only;omega,⟨K'+5,l5,by simp only;omega⟩,?_⟩,?_⟩
    ·simp only
     rw [←hsum,hT]
     simp only [yKB,Fd.add_assoc,Fd.zero_add]
    ·exact leA
  ·have hil:i=s.tests.length:=by simp at h2;omega
   subst hil
   rw [List.drop_length] at hsum
   refine goW ?_
   rw [←hsum]
   exact zCj rfl rfl
theorem zJh (l:List Pt):0 < SizeOf.sizeOf l:=by cases l<;>simp<;>omega
theorem yJZ (s:St):0 < SizeOf.sizeOf s:=by cases s;simp only [St.mk.sizeOf_spec];omega
theorem yA1:∀ N,yRe Tryz.prog N
 |0=>⟨fun l d K c h=>by have:=zJh l;omega,fun s d K c h=>by have:=yJZ s;omega⟩
 |N+1=>⟨fun l d K c h1 h2 h3 h4=>yJE N (yA1 N) l d K c h1 h2 h3 h4,fun s d K c h1 h2 h3 h4=>yJY N (yA1 N) s d K c h1 h2 h3 h4⟩
theorem zQy (l:List Pt):Contract Tryz.prog zBB [.io (fdV fd0),.val (zAQ l),.val (iv 1)] {res:=.tup [],io:=fdV (ntL l 1)}:=by
 have h:=(yA1 (SizeOf.sizeOf l)).1 l 1 0 fd0 (Nat.le_refl _) (by omega) (yBP 0) (by have:=yPM;omega)
 rw [Fd.zero_add] at h
 exact h
theorem zPq (l:List Pt):Contract Tryz.prog zEE [.val (zAQ l)] {res:=.val (iv (zBD l))}:=by
 rw [←yPL]
 have hc:=zQy l
 obtain ⟨c,hcc⟩:∃ c,c=ntL l 1:=⟨_,rfl⟩
 rw [←hcc] at hc ⊢
 unfold zAQ
 refine mkA zZj (base:=0) (fo rfl) (fun hfit=>?_)
 unfold F0 zPc
 refine goU ?_
 unfold fdV zAQ at hc
 refine zDR (by repeat' constructor) (hc) ?_
 refine goW ?_
 refine zAc (by repeat' constructor) (yDf) ?_
 refine goW ?_
 refine zAd (fun i:Nat=>[(5,.un),(12,.pv (iv i)),(13,.un),(21,.un)]) (fun i:Nat=>4-i) (fun i:Nat=>i≤4∧(1≤i→c.m=0)∧(2≤i→c.k=0)∧(3≤i→c.f=0)∧(4≤i→c.r=0)) (0) ?_ ⟨by omega,by omega,by omega,by omega,by omega⟩ ?_
 focus (exact leA)
 rintro i ⟨hi,h1,h2,h3,h4⟩
 refine goW ?_
 refine zAa (by rfl) trivial (fun h=>?_) (fun h=>?_)
 ·have hlt:i < 4:=by simp at h;omega
  have hcase:i=0∨i=1∨i=2∨i=3:=by omega
  rcases hcase with rfl|rfl|rfl|rfl
  ·try simp (maxSteps:=2000000) only [go_sem,Int.reduceToNat,Int.toNat_natCast,List.getD_cons_zero,List.getD_cons_succ,PV.norm,Int.cast_ofNat_Int]
   repeat with_reducible refine zAt ?_
   refine zAa (by rfl) trivial (fun h5=>?_) (fun h5=>?_)
   ·refine goW ?_
    refine zAb rfl trivial (.inl ?_)
    congr 3
    have h6:0 < c.m:=by simp at h5;omega
    unfold yNv
    simp [ h6]
   ·refine goW ?_
    have h6:c.m=0:=by simp at h5;omega
    refine ⟨1,by omega,⟨by omega,fun _=>h6,by omega,by omega,by omega⟩,?_⟩
    exact leA
  ·try simp (maxSteps:=2000000) only [go_sem,Int.reduceToNat,Int.toNat_natCast,List.getD_cons_zero,List.getD_cons_succ,PV.norm,Int.cast_ofNat_Int]
   repeat with_reducible refine zAt ?_
   refine zAa (by rfl) trivial (fun h5=>?_) (fun h5=>?_)
   ·refine goW ?_
    refine zAb rfl trivial (.inl ?_)
    congr 3
    have h6:0 < c.k:=by simp at h5;omega
    unfold yNv
    simp [h1 (by omega),  h6]
   ·refine goW ?_
    have h6:c.k=0:=by simp at h5;omega
    refine ⟨2,by omega,⟨by omega,fun _=>h1 (by omega),fun _=>h6,by omega,by omega⟩,?_⟩
    exact leA
  ·try simp (maxSteps:=2000000) only [go_sem,Int.reduceToNat,Int.toNat_natCast,List.getD_cons_zero,List.getD_cons_succ,PV.norm,Int.cast_ofNat_Int]
   repeat with_reducible refine zAt ?_
   refine zAa (by rfl) trivial (fun h5=>?_) (fun h5=>?_)
   ·refine goW ?_
    refine zAb rfl trivial (.inl ?_)
    congr 3
    have h6:0 < c.f:=by simp at h5;omega
    unfold yNv
    simp [h1 (by omega),h2 (by omega),  h6]
   ·refine goW ?_
    have h6:c.f=0:=by simp at h5;omega
    refine ⟨3,by omega,⟨by omega,fun _=>h1 (by omega),fun _=>h2 (by omega),fun _=>h6,by omega⟩,?_⟩
    exact leA
  ·try simp (maxSteps:=2000000) only [go_sem,Int.reduceToNat,Int.toNat_natCast,List.getD_cons_zero,List.getD_cons_succ,PV.norm,Int.cast_ofNat_Int]
   repeat with_reducible refine zAt ?_
   refine zAa (by rfl) trivial (fun h5=>?_) (fun h5=>?_)
   ·refine goW ?_
    refine zAb rfl trivial (.inl ?_)
    congr 3
    have h6:0 < c.r:=by simp at h5;omega
    unfold yNv
    simp [h1 (by omega),h2 (by omega),h3 (by omega),  h6]
   ·refine goW ?_
    have h6:c.r=0:=by simp at h5;omega
    refine ⟨4,by omega,⟨by omega,fun _=>h1 (by omega),fun _=>h2 (by omega),fun _=>h3 (by omega),fun _=>h6⟩,?_⟩
    exact leA
 ·have hi4:i=4:=by simp at h;omega
  refine goW ?_
  refine zAb rfl trivial (.inl ?_)
  congr 3
  unfold yNv
  simp [h1 (by omega),h2 (by omega),h3 (by omega),h4 (by omega)]
end Go.Hx
end

section
set_option maxRecDepth 100000
set_option linter.unusedSimpArgs false
namespace Go.Hx
open Go.Proofs
variable [Glob] [GlobL]
attribute [local go_sem] zAk zAl zAj zAf ndV zAm zAh zAQ zAY zBh zBp
attribute [local go_sem] reduceCtorEq Nat.reduceAdd Nat.reduceEqDiff reduceIte Nat.reduceLeDiff Nat.reduceLT Nat.reduceSub
theorem zTQ (k:Int):Contract Tryz.prog zGG [.val (iv k)] {res:=.tup [bv (yBM k),bv (zO4 k),bv (yMe k),bv (zHD k)]}:=by
 refine mkA yH4 (base:=0) (fo rfl) (fun hfit=>?_)
 unfold F0 yCE
 refine goU ?_
 refine zAc (by repeat' constructor) (zBz k 1 8) ?_
 refine goW ?_
 refine zAc (by repeat' constructor) (zBz k 4 8) ?_
 refine goW ?_
 refine zAc (by repeat' constructor) (zBz k 13 15) ?_
 refine goW ?_
 have e:yMe k=(bif k==9 then true else k==10):=by
  unfold yMe
  by_cases h1:k=9<;>by_cases h2:k=10<;>simp [h1,h2]
 rw [e]
 exact zBd (by simp) ⟨zAH rfl trivial (.inl rfl),zAH rfl trivial (.inl rfl),zAH rfl trivial (.inl rfl),zAH rfl trivial (.inl rfl),rfl⟩
theorem yG3 (n:Nat):decide (1≤(n:Int)∧(n:Int)≤5)=decide (1≤n∧n≤5):=decide_eq_decide.2 (by omega)
theorem yNO (n:Nat):decide (6 < (n:Int))=decide (6 < n):=decide_eq_decide.2 (by omega)
theorem yMh (a b:Int):(a != b)=decide (a≠b):=by by_cases h:a=b<;>simp [h]
theorem yRw:∀ (N:Nat) (l:List Pt) (d:Nat),SizeOf.sizeOf l≤N→d≤4→Contract Tryz.prog zD2 [.val (zAQ l),.val (iv d)] {res:=.val (bv (tmL l d))}
 |0,l,d,hN,_=>by have:=zJh l;omega
 |N+1,l,d,hN,hd=>by
  have e3:decide (3 < (d:Int))=decide (3 < d):=decide_eq_decide.2 (by omega)
  unfold zAQ
  refine mkA zUT (base:=0) (fo rfl) (fun hfit=>?_)
  unfold F0 zMn
  refine goU ?_
  apply zAg (h2:=fun _=>zBz l.length 1 5)
  ·(simp (maxSteps:=2000000) only [go_sem];rfl)
  ·intro h;repeat' (first|exact trivial|exact h|refine And.intro ?_ ?_)
  try simp (maxSteps:=2000000) only [go_sem,yG3,e3,Bool.cond_true_left]
  repeat with_reducible refine zAt ?_
  refine zAa (by rfl) trivial (fun h=>?_) (fun h=>?_)
  ·refine goW ?_
   refine zAb rfl trivial (.inl ?_)
   congr 3
   unfold tmL
   rw [h];rfl
  ·have hL:tmL l d=yEu l d:=by unfold tmL;rw [h];rfl
   have hd3:d≤3∧l.length≤5:=by
    simp at h;omega
   refine goW ?_
   refine zAd (fun i:Nat=>[(5,.pv (iv i)),(4,.un),(6,.un),(7,.un),(8,.un),(9,.un),(13,.un),(25,.un),(46,.un),(51,.un),(61,.un),(70,.un),(97,.un)]) (fun i:Nat=>l.length-i) (fun i:Nat=>i≤l.length∧yEu (l.drop i) d=tmL l d) (0) ?_ ⟨Nat.zero_le _,by rw [hL];rfl⟩ ?_
   focus (exact leA)
   rintro i ⟨hi,hinv⟩
   refine goW ?_
   refine zAa (by rfl) trivial (fun h2=>?_) (fun h2=>?_)
   ·have hil:i < l.length:=by simp at h2;omega
    rw [zA0 (d:=default) hil] at hinv
    obtain ⟨p,hp⟩:∃ p,p=l.getD i default:=⟨_,rfl⟩
    rw [←hp] at hinv
    have hg:(zL2 l).getD i []=[.sl 2 (zNJ p.steps),.sl 1 (zAy p.links)]:=by rw [zEA l i hil,←hp,zDM]
    have hsz:SizeOf.sizeOf p.steps≤N:=by
     have h3:=zL4 p
     have h4:=yJn hil
     rw [←hp] at h4
     omega
    simp only [yEu] at hinv
    have hps:tmP p d=(!(decide (1≤p.steps.length∧p.steps.length≤5))||decide ((p.links.length:Int)≠p.steps.length-1)||yGM p.steps d):=by cases p;rfl
    have hin:(!decide (1≤p.steps.length∧p.steps.length≤5))=false→inR .i64 ((p.steps.length:Int)-1):=by
     intro h5
     have:1≤p.steps.length∧p.steps.length≤5:=by simpa using h5
     exact zGu (by omega) (by omega)
    try simp (maxSteps:=2000000) only [go_sem,hg]
    repeat with_reducible refine zAt ?_
    refine zAc (by repeat' constructor) (zBz p.steps.length 1 5) ?_
    try simp (maxSteps:=2000000) only [go_sem,yG3,Bool.cond_true_left,yMh]
    repeat with_reducible refine zAt ?_
    refine zAa (by rfl) trivial (fun h3=>?_) (fun h3=>?_)
    ·refine goW ?_
     refine zAb rfl trivial (.inl ?_)
     congr 3
     rw [←hinv,hps,h3];rfl
    ·have hp5:p.steps.length≤5:=by simp at h3;omega
     rw [h3,Bool.false_or] at hps
     refine goW ?_
     refine zAd (fun k:Nat=>[(7,.pv (iv k)),(4,.un),(8,.un),(9,.un),(13,.un),(51,.un),(61,.un),(70,.un),(97,.un)]) (fun k:Nat=>p.steps.length-k) (fun k:Nat=>k≤p.steps.length∧yGM (p.steps.drop k) d=yGM p.steps d) (0) ?_ ⟨Nat.zero_le _,rfl⟩ ?_
     focus (exact leA)
     rintro k ⟨hk,hinv2⟩
     refine goW ?_
     refine zAa (by rfl) trivial (fun h4=>?_) (fun h4=>?_)
     ·have hkl:k < p.steps.length:=by simp at h4;omega
      rw [zA0 (d:=default) hkl] at hinv2
      obtain ⟨q,hq⟩:∃ q,q=p.steps.getD k default:=⟨_,rfl⟩
      rw [←hq] at hinv2
      have hg3:(zNJ p.steps).getD k []=[bS q.tag,.sl 6 (yBL q.tests)]:=by rw [zDY _ k hkl,←hq,zGv]
      simp only [yGM] at hinv2
      have hqs:tmS q d=(decide (6 < q.tests.length)||yGN q.tests d):=by cases q;rfl
      try simp (maxSteps:=2000000) only [go_sem,hg3,yNO]
      repeat with_reducible refine zAt ?_
      refine zAa (by rfl) trivial (fun h5=>?_) (fun h5=>?_)
      ·refine goW ?_
       refine zAb rfl trivial (.inl ?_)
       congr 3
       rw [←hinv,hps,←hinv2,hqs,h5];rfl
      ·have hq6:q.tests.length≤6:=by simpa using h5
       rw [h5,Bool.false_or] at hqs
       refine goW ?_
       refine zAd (fun j:Nat=>[(8,.pv (iv j)),(4,.un),(9,.un),(13,.un),(70,.un),(97,.un)]) (fun j:Nat=>q.tests.length-j) (fun j:Nat=>j≤q.tests.length∧yGN (q.tests.drop j) d=yGN q.tests d) (0) ?_ ⟨Nat.zero_le _,rfl⟩ ?_
       focus (exact leA)
       rintro j ⟨hj,hinv3⟩
       try simp (maxSteps:=2000000) only [go_sem,hg3]
       repeat with_reducible refine zAt ?_
       refine zAa (by rfl) trivial (fun h6=>?_) (fun h6=>?_)
       ·have hjl:j < q.tests.length:=by simp at h6;omega
        rw [zA0 (d:=default) hjl] at hinv3
        obtain ⟨t,ht⟩:∃ t,t=q.tests.getD j default:=⟨_,rfl⟩
        rw [←ht] at hinv3
        have hg4:=zDp q.tests j hjl
        rw [←ht,zEp] at hg4
        have hszt:SizeOf.sizeOf t.list≤N:=by
         have h7:=zRz t
         have h8:=yJl hjl
         rw [←ht] at h8
         have h9:=yJm hkl
         rw [←hq] at h9
         have h10:=zL3 q
         omega
        simp only [yGN] at hinv3
        have hts:tmT t d=(zHD t.kind&&tmL t.list (d+1)):=by cases t;rfl
        have hrec:=yRw N t.list (d+1) hszt (by omega)
        unfold zAQ at hrec
        rw [show ((d+1:Nat):Int)=(d:Int)+1 by omega] at hrec
        try simp (maxSteps:=2000000) only [go_sem,hg3,hg4]
        repeat with_reducible refine zAt ?_
        refine zBx (by repeat' constructor) (zTQ t.kind) ?_
        refine goW ?_
        apply zAg (h2:=fun _=>hrec)
        ·(simp (maxSteps:=2000000) only [go_sem];rfl)
        ·intro h;repeat' (first|exact trivial|exact h|refine And.intro ?_ ?_)
        try simp (maxSteps:=2000000) only [go_sem,Bool.cond_false_right]
        repeat with_reducible refine zAt ?_
        refine zAa (by rfl) trivial (fun h7=>?_) (fun h7=>?_)
        ·refine goW ?_
         refine zAb rfl trivial (.inl ?_)
         congr 3
         rw [←hinv,hps,←hinv2,hqs,←hinv3,hts,h7];rfl
        ·rw [h7] at hts
         rw [hts,Bool.false_or] at hinv3
         refine goW ?_
         refine ⟨j+1,by omega,⟨by omega,hinv3⟩,?_⟩
         exact leA
       ·have hjl:j=q.tests.length:=by simp at h6;omega
        subst hjl
        rw [List.drop_length] at hinv3
        rw [hqs,←hinv3] at hinv2
        refine goW ?_
        refine ⟨k+1,by omega,⟨by omega,hinv2⟩,?_⟩
        exact leA
     ·have hkl:k=p.steps.length:=by simp at h4;omega
      subst hkl
      rw [List.drop_length] at hinv2
      rw [hps,←hinv2] at hinv
      refine goW ?_
      refine ⟨i+1,by omega,⟨by omega,hinv⟩,?_⟩
      exact leA
   ·have hil:i=l.length:=by simp at h2;omega
    subst hil
    rw [List.drop_length] at hinv
    refine goW ?_
    refine zAb rfl trivial (.inl ?_)
    congr 3
    rw [←hinv];rfl
end Go.Hx
end

section
set_option maxRecDepth 100000
set_option linter.unusedSimpArgs false
namespace Go.Hx
open Go.Proofs
variable [Glob] [GlobL]
attribute [local go_sem] zAk zAl zAj zAf ndV zAm zAh zAQ zAY zBh zBp
attribute [local go_sem] reduceCtorEq Nat.reduceAdd Nat.reduceEqDiff reduceIte Nat.reduceLeDiff Nat.reduceLT Nat.reduceSub
theorem zQM {k:Nat} {rows:List (List PV)} (h:PV.fits (.sl k rows)):rows.length≤9223372036854775807:=by
 simp only [PV.fits] at h;exact h.1
theorem yDv:∀ {rows:List (List PV)} {i:Nat},zUq rows→i < rows.length→zJx (rows.getD i [])
 |[],i,_,h=>by simp at h
 |r::rs,0,h,_=>by simp only [zUq] at h;exact h.1
 |r::rs,i+1,h,hi=>by simp only [zUq] at h;simpa using yDv (rows:=rs) (i:=i) h.2 (by simpa using hi)
theorem yG4 {k:Nat} {rows:List (List PV)} {i:Nat} (h:PV.fits (.sl k rows)) (hi:i < rows.length):zJx (rows.getD i []):=by
 simp only [PV.fits] at h;exact yDv h.2 hi
theorem yFQ {x:PV} {r:List AV} (h:AVs.fits (.val (.one x)::r)):PV.fits x:=by
 simp only [AVs.fits] at h;exact h.1
theorem yA2 {l:List Pt} {i:Nat} (h:PV.fits (.sl 2 (zL2 l))) (hi:i < l.length):PV.fits (.sl 2 (zNJ (l.getD i default).steps))∧PV.fits (.sl 1 (zAy (l.getD i default).links)):=by
 have h1:=yG4 h (i:=i) (by rw [zAY];exact hi)
 rw [zEA l i hi,zDM] at h1
 simp only [zJx] at h1
 exact ⟨h1.1,h1.2.1⟩
theorem yA3 {l:List St} {i:Nat} (h:PV.fits (.sl 2 (zNJ l))) (hi:i < l.length):PV.fits (.sl 6 (yBL (l.getD i default).tests)):=by
 have h1:=yG4 h (i:=i) (by rw [zBh];exact hi)
 rw [zDY l i hi,zGv] at h1
 simp only [zJx] at h1
 exact h1.2.1
theorem yFR {l:List Pt} (h:PV.fits (.sl 2 (zL2 l))):l.length≤9223372036854775807:=by have:=zQM h;rwa [zAY] at this
theorem zTR {l:List St} (h:PV.fits (.sl 2 (zNJ l))):l.length≤9223372036854775807:=by have:=zQM h;rwa [zBh] at this
theorem yFS {l:List Ts} (h:PV.fits (.sl 6 (yBL l))):l.length≤9223372036854775807:=by have:=zQM h;rwa [zBp] at this
theorem yNP {l:List Int} (h:PV.fits (.sl 1 (zAy l))):l.length≤9223372036854775807:=by have:=zQM h;rwa [zAf] at this
theorem yRx:∀ (N:Nat) (l:List Pt),SizeOf.sizeOf l≤N→Contract Tryz.prog zD1 [.val (zAQ l)] {res:=.val (bv (yGO l))}
 |0,l,hN=>by have:=zJh l;omega
 |N+1,l,hN=>by
  unfold zAQ
  refine mkA zU4 (base:=0) (fo rfl) (fun hfit=>?_)
  unfold F0 zMo
  refine goU ?_
  have ft:=yFQ hfit
  have fl:=yFR ft
  refine zAd (fun i:Nat=>[(3,.pv (iv i)),(2,.un),(4,.un),(5,.un),(6,.un),(7,.un),(11,.un),(15,.un),(25,.un),(37,.un),(45,.un),(59,.un),(93,.un)]) (fun i:Nat=>l.length-i) (fun i:Nat=>i≤l.length∧yGO (l.drop i)=yGO l) (0) ?_ ⟨Nat.zero_le _,rfl⟩ ?_
  focus (exact leA)
  rintro i ⟨hi,hinv⟩
  refine goW ?_
  refine zAa (by rfl) trivial (fun h2=>?_) (fun h2=>?_)
  ·have hil:i < l.length:=by simp at h2;omega
   have fp:=yA2 ft hil
   rw [zA0 (d:=default) hil] at hinv
   obtain ⟨p,hp⟩:∃ p,p=l.getD i default:=⟨_,rfl⟩
   rw [←hp] at hinv fp
   have fps:=zTR fp.1
   have fpl:=yNP fp.2
   have hg:(zL2 l).getD i []=[.sl 2 (zNJ p.steps),.sl 1 (zAy p.links)]:=by rw [zEA l i hil,←hp,zDM]
   have hsz:SizeOf.sizeOf p.steps≤N:=by
    have h3:=zL4 p
    have h4:=yJn hil
    rw [←hp] at h4
    omega
   simp only [yGO] at hinv
   have hps:bkP p=(p.links.any zPz||yJo p.steps):=by cases p;rfl
   refine goW ?_
   refine zAd (fun k:Nat=>[(4,.pv (iv k)),(2,.un),(25,.un),(37,.un)]) (fun k:Nat=>p.links.length-k) (fun k:Nat=>k≤p.links.length∧(p.links.drop k).any zPz=p.links.any zPz) (0) ?_ ⟨Nat.zero_le _,rfl⟩ ?_
   focus (exact leA)
   rintro k ⟨hk,hinv2⟩
   try simp (maxSteps:=2000000) only [go_sem,hg]
   repeat with_reducible refine zAt ?_
   refine zAa (by rfl) trivial (fun h3=>?_) (fun h3=>?_)
   ·have hkl:k < p.links.length:=by simp at h3;omega
    rw [zA0 (d:=0) hkl] at hinv2
    have hg2:=zCO p.links k hkl
    obtain ⟨v,hv⟩:∃ v,v=p.links.getD k 0:=⟨_,rfl⟩
    rw [←hv] at hg2 hinv2
    rw [List.any_cons] at hinv2
    try simp (maxSteps:=2000000) only [go_sem,hg,hg2]
    repeat with_reducible refine zAt ?_
    refine zAc (by repeat' constructor) (zBz v 1 4) ?_
    refine goW ?_
    refine zAa (by rfl) trivial (fun h4=>?_) (fun h4=>?_)
    ·refine goW ?_
     refine zAb rfl trivial (.inl ?_)
     congr 3
     have h5:zPz v=true:=h4
     rw [←hinv,hps,←hinv2,h5];rfl
    ·have h5:zPz v=false:=h4
     rw [h5,Bool.false_or] at hinv2
     refine goW ?_
     refine ⟨k+1,by omega,⟨by omega,hinv2⟩,?_⟩
     exact leA
   ·have hkl:k=p.links.length:=by simp at h3;omega
    subst hkl
    rw [List.drop_length] at hinv2
    rw [←hinv2] at hps
    have hps:bkP p=yJo p.steps:=hps
    refine goW ?_
    refine zAd (fun k:Nat=>[(5,.pv (iv k)),(2,.un),(6,.un),(7,.un),(11,.un),(45,.un),(59,.un),(93,.un)]) (fun k:Nat=>p.steps.length-k) (fun k:Nat=>k≤p.steps.length∧yJo (p.steps.drop k)=yJo p.steps) (0) ?_ ⟨Nat.zero_le _,rfl⟩ ?_
    focus (exact leA)
    rintro k ⟨hk,hinv2⟩
    try simp (maxSteps:=2000000) only [go_sem,hg]
    repeat with_reducible refine zAt ?_
    refine zAa (by rfl) trivial (fun h4=>?_) (fun h4=>?_)
    ·have hkl:k < p.steps.length:=by simp at h4;omega
     have fq:=yA3 fp.1 hkl
     rw [zA0 (d:=default) hkl] at hinv2
     obtain ⟨q,hq⟩:∃ q,q=p.steps.getD k default:=⟨_,rfl⟩
     rw [←hq] at hinv2 fq
     have fqt:=yFS fq
     have hg3:(zNJ p.steps).getD k []=[bS q.tag,.sl 6 (yBL q.tests)]:=by rw [zDY _ k hkl,←hq,zGv]
     simp only [yJo] at hinv2
     have hqs:bkS q=yKv q.tests:=by cases q;rfl
     try simp (maxSteps:=2000000) only [go_sem,hg,hg3]
     repeat with_reducible refine zAt ?_
     refine zAd (fun j:Nat=>[(6,.pv (iv j)),(2,.un),(7,.un),(11,.un),(59,.un),(93,.un)]) (fun j:Nat=>q.tests.length-j) (fun j:Nat=>j≤q.tests.length∧yKv (q.tests.drop j)=yKv q.tests) (0) ?_ ⟨Nat.zero_le _,rfl⟩ ?_
     focus (exact leA)
     rintro j ⟨hj,hinv3⟩
     try simp (maxSteps:=2000000) only [go_sem,hg,hg3]
     repeat with_reducible refine zAt ?_
     refine zAa (by rfl) trivial (fun h6=>?_) (fun h6=>?_)
     ·have hjl:j < q.tests.length:=by simp at h6;omega
      rw [zA0 (d:=default) hjl] at hinv3
      obtain ⟨t,ht⟩:∃ t,t=q.tests.getD j default:=⟨_,rfl⟩
      rw [←ht] at hinv3
      have hg4:=zDp q.tests j hjl
      rw [←ht,zEp] at hg4
      have hszt:SizeOf.sizeOf t.list≤N:=by
       have h7:=zRz t
       have h8:=yJl hjl
       rw [←ht] at h8
       have h9:=yJm hkl
       rw [←hq] at h9
       have h10:=zL3 q
       omega
      simp only [yKv] at hinv3
      have hts:bkT t=(!(decide (1≤t.kind∧t.kind≤15))||(zHD t.kind&&yGO t.list)):=by cases t;rfl
      have hrec:=yRx N t.list hszt
      unfold zAQ at hrec
      try simp (maxSteps:=2000000) only [go_sem,hg,hg3,hg4]
      repeat with_reducible refine zAt ?_
      refine zBx (by repeat' constructor) (zTQ t.kind) ?_
      refine goW ?_
      refine zAc (by repeat' constructor) (zBz t.kind 1 15) ?_
      refine goW ?_
      apply zAg (h2:=fun _=>hrec)
      ·(simp (maxSteps:=2000000) only [go_sem];rfl)
      ·intro h;repeat' (first|exact trivial|exact h|refine And.intro ?_ ?_)
      try simp (maxSteps:=2000000) only [go_sem,Bool.cond_false_right,Bool.cond_true_left]
      repeat with_reducible refine zAt ?_
      refine zAa (by rfl) trivial (fun h7=>?_) (fun h7=>?_)
      ·refine goW ?_
       refine zAb rfl trivial (.inl ?_)
       congr 3
       rw [←hinv,hps,←hinv2,hqs,←hinv3,hts,h7];rfl
      ·rw [h7] at hts
       rw [hts,Bool.false_or] at hinv3
       refine goW ?_
       refine ⟨j+1,by omega,⟨by omega,hinv3⟩,?_⟩
       exact leA
     ·have hjl:j=q.tests.length:=by simp at h6;omega
      subst hjl
      rw [List.drop_length] at hinv3
      rw [hqs,←hinv3] at hinv2
      refine goW ?_
      refine ⟨k+1,by omega,⟨by omega,hinv2⟩,?_⟩
      exact leA
    ·have hkl:k=p.steps.length:=by simp at h4;omega
     subst hkl
     rw [List.drop_length] at hinv2
     rw [hps,←hinv2] at hinv
     refine goW ?_
     refine ⟨i+1,by omega,⟨by omega,hinv⟩,?_⟩
     exact leA
  ·have hil:i=l.length:=by simp at h2;omega
   subst hil
   rw [List.drop_length] at hinv
   refine goW ?_
   refine zAb rfl trivial (.inl ?_)
   congr 3
   rw [←hinv];rfl
end Go.Hx
end

section
set_option maxRecDepth 100000
set_option linter.unusedSimpArgs false
set_option maxHeartbeats 2000000
namespace Go.Hx
open Go.Proofs
variable [Glob] [GlobL]
attribute [local go_sem] zAk zAl zAj zAf ndV zAm zAh zAQ zAY zBh zBp
attribute [local go_sem] reduceCtorEq Nat.reduceAdd Nat.reduceEqDiff reduceIte Nat.reduceLeDiff Nat.reduceLT Nat.reduceSub
theorem yRy:∀ (N:Nat) (l:List Pt),SizeOf.sizeOf l≤N→Contract Tryz.prog zD0 [.val (zAQ l)] {res:=.val (bv (yGP l))}
 |0,l,hN=>by have:=zJh l;omega
 |N+1,l,hN=>by
  unfold zAQ
  refine mkA zVf (base:=0) (fo rfl) (fun hfit=>?_)
  unfold F0 zMp
  refine goU ?_
  have ft:=yFQ hfit
  have fl:=yFR ft
  refine zAd (fun i:Nat=>[(3,.pv (iv i)),(2,.un),(4,.un),(5,.un),(6,.un),(7,.un),(8,.un),(9,.un),(10,.un),(11,.un),(15,.un),(25,.un),(44,.un),(49,.un),(126,.un)]) (fun i:Nat=>l.length-i) (fun i:Nat=>i≤l.length∧yGP (l.drop i)=yGP l) (0) ?_ ⟨Nat.zero_le _,rfl⟩ ?_
  focus (exact leA)
  rintro i ⟨hi,hinv⟩
  refine goW ?_
  refine zAa (by rfl) trivial (fun h2=>?_) (fun h2=>?_)
  ·have hil:i < l.length:=by simp at h2;omega
   have fp:=yA2 ft hil
   rw [zA0 (d:=default) hil] at hinv
   obtain ⟨p,hp⟩:∃ p,p=l.getD i default:=⟨_,rfl⟩
   rw [←hp] at hinv fp
   have fps:=zTR fp.1
   have hg:(zL2 l).getD i []=[.sl 2 (zNJ p.steps),.sl 1 (zAy p.links)]:=by rw [zEA l i hil,←hp,zDM]
   have hsz:SizeOf.sizeOf p.steps≤N:=by
    have h3:=zL4 p
    have h4:=yJn hil
    rw [←hp] at h4
    omega
   simp only [yGP] at hinv
   have hps:bfP p=yKx p.steps:=by cases p;rfl
   refine goW ?_
   refine zAd (fun k:Nat=>[(4,.pv (iv k)),(2,.un),(5,.un),(6,.un),(7,.un),(8,.un),(9,.un),(10,.un),(11,.un),(25,.un),(44,.un),(49,.un),(126,.un)]) (fun k:Nat=>p.steps.length-k) (fun k:Nat=>k≤p.steps.length∧yKx (p.steps.drop k)=yKx p.steps) (0) ?_ ⟨Nat.zero_le _,rfl⟩ ?_
   focus (exact leA)
   rintro k ⟨hk,hinv2⟩
   try simp (maxSteps:=2000000) only [go_sem,hg]
   repeat with_reducible refine zAt ?_
   refine zAa (by rfl) trivial (fun h4=>?_) (fun h4=>?_)
   ·have hkl:k < p.steps.length:=by simp at h4;omega
    have fq:=yA3 fp.1 hkl
    rw [zA0 (d:=default) hkl] at hinv2
    obtain ⟨q,hq⟩:∃ q,q=p.steps.getD k default:=⟨_,rfl⟩
    rw [←hq] at hinv2 fq
    have fqt:=yFS fq
    have hg3:(zNJ p.steps).getD k []=[bS q.tag,.sl 6 (yBL q.tests)]:=by rw [zDY _ k hkl,←hq,zGv]
    simp only [yKx] at hinv2
    have hqs:bfS q=((!(q.tag==[])&&!zBC q.tag)||yKy q.tests):=by cases q;rfl
    try simp (maxSteps:=2000000) only [go_sem,hg,hg3]
    repeat with_reducible refine zAt ?_
    apply zAg (h2:=fun _=>zDd q.tag)
    ·(simp (maxSteps:=2000000) only [go_sem];rfl)
    ·intro h;repeat' (first|exact trivial|exact h|refine And.intro ?_ ?_)
    try simp (maxSteps:=2000000) only [go_sem,Bool.cond_false_right]
    repeat with_reducible refine zAt ?_
    refine zAa (by rfl) trivial (fun h5=>?_) (fun h5=>?_)
    ·refine goW ?_
     refine zAb rfl trivial (.inl ?_)
     congr 3
     rw [←hinv,hps,←hinv2,hqs,h5];rfl
    rw [h5,Bool.false_or] at hqs
    refine goW ?_
    refine zAd (fun j:Nat=>[(6,.pv (iv j)),(2,.un),(7,.un),(8,.un),(9,.un),(10,.un),(11,.un),(49,.un),(126,.un)]) (fun j:Nat=>q.tests.length-j) (fun j:Nat=>j≤q.tests.length∧yKy (q.tests.drop j)=yKy q.tests) (0) ?_ ⟨Nat.zero_le _,rfl⟩ ?_
    focus (exact leA)
    rintro j ⟨hj,hinv3⟩
    try simp (maxSteps:=2000000) only [go_sem,hg,hg3]
    repeat with_reducible refine zAt ?_
    refine zAa (by rfl) trivial (fun h6=>?_) (fun h6=>?_)
    ·have hjl:j < q.tests.length:=by simp at h6;omega
     rw [zA0 (d:=default) hjl] at hinv3
     obtain ⟨t,ht⟩:∃ t,t=q.tests.getD j default:=⟨_,rfl⟩
     rw [←ht] at hinv3
     have hg4:=zDp q.tests j hjl
     rw [←ht,zEp] at hg4
     have hszt:SizeOf.sizeOf t.list≤N:=by
      have h7:=zRz t
      have h8:=yJl hjl
      rw [←ht] at h8
      have h9:=yJm hkl
      rw [←hq] at h9
      have h10:=zL3 q
      omega
     simp only [yKy] at hinv3
     have hts:bfT t=((yBM t.kind&&!zBC t.name)||((!yBM t.kind&&!(t.name==[]))||((zO4 t.kind&&!zCq t.value)||((!zO4 t.kind&&!(t.value==[]))||((!yMe t.kind&&!(t.na==0&&t.nb==0))||((!zHD t.kind&&decide (0 < t.list.length))||(zHD t.kind&&yGP t.list))))))):=by
      cases t
      simp only [bfT,yLc,yLd,yKw,Ts.kind,Ts.name,Ts.value,Ts.na,Ts.nb,Ts.list,Bool.or_assoc]
     have e0:decide (0 < (t.list.length:Int))=decide (0 < t.list.length):=decide_eq_decide.2 (by omega)
     have hrec:=yRy N t.list hszt
     unfold zAQ at hrec
     try simp (maxSteps:=2000000) only [go_sem,hg,hg3,hg4]
     repeat with_reducible refine zAt ?_
     refine zBx (by repeat' constructor) (zTQ t.kind) ?_
     refine goW ?_
     apply zAg (h2:=fun _=>zDd t.name)
     ·(simp (maxSteps:=2000000) only [go_sem];rfl)
     ·intro h;repeat' (first|exact trivial|exact h|refine And.intro ?_ ?_)
     refine goW ?_
     apply zAg (h2:=fun _=>zNl t.value)
     ·(simp (maxSteps:=2000000) only [go_sem];rfl)
     ·intro h;repeat' (first|exact trivial|exact h|refine And.intro ?_ ?_)
     refine goW ?_
     apply zAg (h2:=fun _=>hrec)
     ·(simp (maxSteps:=2000000) only [go_sem];rfl)
     ·intro h;repeat' (first|exact trivial|exact h|refine And.intro ?_ ?_)
     try simp (maxSteps:=2000000) only [go_sem,Bool.cond_false_right,Bool.cond_true_left,e0,Bool.or_assoc]
     repeat with_reducible refine zAt ?_
     refine zAa (by rfl) trivial (fun h7=>?_) (fun h7=>?_)
     ·refine goW ?_
      refine zAb rfl trivial (.inl ?_)
      congr 3
      rw [←hinv,hps,←hinv2,hqs,←hinv3,hts,h7];simp
     ·rw [h7] at hts
      rw [hts,Bool.false_or] at hinv3
      refine goW ?_
      refine ⟨j+1,by omega,⟨by omega,hinv3⟩,?_⟩
      exact leA
    ·have hjl:j=q.tests.length:=by simp at h6;omega
     subst hjl
     rw [List.drop_length] at hinv3
     rw [hqs,←hinv3] at hinv2
     refine goW ?_
     refine ⟨k+1,by omega,⟨by omega,hinv2⟩,?_⟩
     exact leA
   ·have hkl:k=p.steps.length:=by simp at h4;omega
    subst hkl
    rw [List.drop_length] at hinv2
    rw [hps,←hinv2] at hinv
    refine goW ?_
    refine ⟨i+1,by omega,⟨by omega,hinv⟩,?_⟩
    exact leA
  ·have hil:i=l.length:=by simp at h2;omega
   subst hil
   rw [List.drop_length] at hinv
   refine goW ?_
   refine zAb rfl trivial (.inl ?_)
   congr 3
   rw [←hinv];rfl
theorem yRz:∀ (N:Nat) (l:List Pt),SizeOf.sizeOf l≤N→Contract Tryz.prog zEF [.val (zAQ l)] {res:=.val (bv (yEv l))}
 |0,l,hN=>by have:=zJh l;omega
 |N+1,l,hN=>by
  unfold zAQ
  refine mkA zZu (base:=0) (fo rfl) (fun hfit=>?_)
  unfold F0 zPd
  refine goU ?_
  have ft:=yFQ hfit
  have fl:=yFR ft
  refine zAd (fun i:Nat=>[(3,.pv (iv i)),(2,.un),(4,.un),(5,.un),(6,.un),(10,.un),(20,.un),(34,.un),(57,.un)]) (fun i:Nat=>l.length-i) (fun i:Nat=>i≤l.length∧yEv (l.drop i)=yEv l) (0) ?_ ⟨Nat.zero_le _,rfl⟩ ?_
  focus (exact leA)
  rintro i ⟨hi,hinv⟩
  refine goW ?_
  refine zAa (by rfl) trivial (fun h2=>?_) (fun h2=>?_)
  ·have hil:i < l.length:=by simp at h2;omega
   have fp:=yA2 ft hil
   rw [zA0 (d:=default) hil] at hinv
   obtain ⟨p,hp⟩:∃ p,p=l.getD i default:=⟨_,rfl⟩
   rw [←hp] at hinv fp
   have fps:=zTR fp.1
   have hg:(zL2 l).getD i []=[.sl 2 (zNJ p.steps),.sl 1 (zAy p.links)]:=by rw [zEA l i hil,←hp,zDM]
   have hsz:SizeOf.sizeOf p.steps≤N:=by
    have h3:=zL4 p
    have h4:=yJn hil
    rw [←hp] at h4
    omega
   simp only [yEv] at hinv
   have hps:bnP p=yKz p.steps:=by cases p;rfl
   refine goW ?_
   refine zAd (fun k:Nat=>[(4,.pv (iv k)),(2,.un),(5,.un),(6,.un),(20,.un),(34,.un),(57,.un)]) (fun k:Nat=>p.steps.length-k) (fun k:Nat=>k≤p.steps.length∧yKz (p.steps.drop k)=yKz p.steps) (0) ?_ ⟨Nat.zero_le _,rfl⟩ ?_
   focus (exact leA)
   rintro k ⟨hk,hinv2⟩
   try simp (maxSteps:=2000000) only [go_sem,hg]
   repeat with_reducible refine zAt ?_
   refine zAa (by rfl) trivial (fun h4=>?_) (fun h4=>?_)
   ·have hkl:k < p.steps.length:=by simp at h4;omega
    have fq:=yA3 fp.1 hkl
    rw [zA0 (d:=default) hkl] at hinv2
    obtain ⟨q,hq⟩:∃ q,q=p.steps.getD k default:=⟨_,rfl⟩
    rw [←hq] at hinv2 fq
    have fqt:=yFS fq
    have hg3:(zNJ p.steps).getD k []=[bS q.tag,.sl 6 (yBL q.tests)]:=by rw [zDY _ k hkl,←hq,zGv]
    simp only [yKz] at hinv2
    have hqs:bnS q=yKA q.tests:=by cases q;rfl
    try simp (maxSteps:=2000000) only [go_sem,hg,hg3]
    repeat with_reducible refine zAt ?_
    refine zAd (fun j:Nat=>[(5,.pv (iv j)),(2,.un),(6,.un),(34,.un),(57,.un)]) (fun j:Nat=>q.tests.length-j) (fun j:Nat=>j≤q.tests.length∧yKA (q.tests.drop j)=yKA q.tests) (0) ?_ ⟨Nat.zero_le _,rfl⟩ ?_
    focus (exact leA)
    rintro j ⟨hj,hinv3⟩
    try simp (maxSteps:=2000000) only [go_sem,hg,hg3]
    repeat with_reducible refine zAt ?_
    refine zAa (by rfl) trivial (fun h6=>?_) (fun h6=>?_)
    ·have hjl:j < q.tests.length:=by simp at h6;omega
     rw [zA0 (d:=default) hjl] at hinv3
     obtain ⟨t,ht⟩:∃ t,t=q.tests.getD j default:=⟨_,rfl⟩
     rw [←ht] at hinv3
     have hg4:=zDp q.tests j hjl
     rw [←ht,zEp] at hg4
     have hszt:SizeOf.sizeOf t.list≤N:=by
      have h7:=zRz t
      have h8:=yJl hjl
      rw [←ht] at h8
      have h9:=yJm hkl
      rw [←hq] at h9
      have h10:=zL3 q
      omega
     simp only [yKA] at hinv3
     have hts:bnT t=(decide (zPy t.na t.nb≠0)||yEv t.list):=by
      cases t with
      |mk kk nn vv aa bb ll=>by_cases h9:zPy aa bb=0<;>simp [bnT,Ts.na,Ts.nb,Ts.list,h9]
     have hrec:=yRz N t.list hszt
     unfold zAQ at hrec
     try simp (maxSteps:=2000000) only [go_sem,hg,hg3,hg4]
     repeat with_reducible refine zAt ?_
     refine zAc (by repeat' constructor) (zKk t.na t.nb) ?_
     try simp (maxSteps:=2000000) only [go_sem,yMh]
     repeat with_reducible refine zAt ?_
     apply zAg (h2:=fun _=>hrec)
     ·(simp (maxSteps:=2000000) only [go_sem];rfl)
     ·intro h;repeat' (first|exact trivial|exact h|refine And.intro ?_ ?_)
     try simp (maxSteps:=2000000) only [go_sem,Bool.cond_false_right,Bool.cond_true_left]
     repeat with_reducible refine zAt ?_
     refine zAa (by rfl) trivial (fun h7=>?_) (fun h7=>?_)
     ·refine goW ?_
      refine zAb rfl trivial (.inl ?_)
      congr 3
      rw [←hinv,hps,←hinv2,hqs,←hinv3,hts,h7];simp
     ·rw [h7] at hts
      rw [hts,Bool.false_or] at hinv3
      refine goW ?_
      refine ⟨j+1,by omega,⟨by omega,hinv3⟩,?_⟩
      exact leA
    ·have hjl:j=q.tests.length:=by simp at h6;omega
     subst hjl
     rw [List.drop_length] at hinv3
     rw [hqs,←hinv3] at hinv2
     refine goW ?_
     refine ⟨k+1,by omega,⟨by omega,hinv2⟩,?_⟩
     exact leA
   ·have hkl:k=p.steps.length:=by simp at h4;omega
    subst hkl
    rw [List.drop_length] at hinv2
    rw [hps,←hinv2] at hinv
    refine goW ?_
    refine ⟨i+1,by omega,⟨by omega,hinv⟩,?_⟩
    exact leA
  ·have hil:i=l.length:=by simp at h2;omega
   subst hil
   rw [List.drop_length] at hinv
   refine goW ?_
   refine zAb rfl trivial (.inl ?_)
   congr 3
   rw [←hinv];rfl
theorem zTS (l:List Pt):Contract Tryz.prog zEi [.val (zAQ l)] {res:=.val (iv (zBD l))}:=by
 have t1:=yRw (SizeOf.sizeOf l) l 1 (Nat.le_refl _) (by omega)
 have t2:=yRx (SizeOf.sizeOf l) l (Nat.le_refl _)
 have t3:=yRy (SizeOf.sizeOf l) l (Nat.le_refl _)
 have t4:=yRz (SizeOf.sizeOf l) l (Nat.le_refl _)
 unfold zAQ at *
 refine mkA zPV (base:=0) (fo rfl) (fun hfit=>?_)
 unfold F0 zIr
 refine goU ?_
 refine zAc (by repeat' constructor) (t1) ?_
 refine goW ?_
 refine zAa (by rfl) trivial (fun h1=>?_) (fun h1=>?_)
 ·refine goW ?_
  refine zAb rfl trivial (.inl ?_)
  congr 3
  unfold zBD
  rw [if_pos h1]
 refine goW ?_
 refine zAc (by repeat' constructor) (t2) ?_
 refine goW ?_
 refine zAa (by rfl) trivial (fun h2=>?_) (fun h2=>?_)
 ·refine goW ?_
  refine zAb rfl trivial (.inl ?_)
  congr 3
  unfold zBD
  rw [if_neg (by rw [h1];simp),if_pos h2]
 refine goW ?_
 refine zAc (by repeat' constructor) (t3) ?_
 refine goW ?_
 refine zAa (by rfl) trivial (fun h3=>?_) (fun h3=>?_)
 ·refine goW ?_
  refine zAb rfl trivial (.inl ?_)
  congr 3
  unfold zBD
  rw [if_neg (by rw [h1];simp),if_neg (by rw [h2];simp),if_pos h3]
 refine goW ?_
 refine zAc (by repeat' constructor) (t4) ?_
 refine goW ?_
 refine zAa (by rfl) trivial (fun h4=>?_) (fun h4=>?_)
 ·refine goW ?_
  refine zAb rfl trivial (.inl ?_)
  congr 3
  unfold zBD
  rw [if_neg (by rw [h1];simp),if_neg (by rw [h2];simp),if_neg (by rw [h3];simp),if_pos h4]
 ·refine goW ?_
  refine zAb rfl trivial (.inl ?_)
  congr 3
  unfold zBD
  rw [if_neg (by rw [h1];simp),if_neg (by rw [h2];simp),if_neg (by rw [h3];simp),if_neg (by rw [h4];simp)]
end Go.Hx
end

section
set_option maxRecDepth 100000
set_option linter.unusedSimpArgs false
namespace Go.Hx
open Go.Proofs
variable [Glob] [GlobL]
attribute [local go_sem] zAk zAl zAj zAf ndV zAm zAh zC9 List.take_nil zAY
attribute [local go_sem] reduceCtorEq Nat.reduceAdd Nat.reduceEqDiff reduceIte Nat.reduceLeDiff Nat.reduceLT Nat.reduceSub
def yA4 (d:List Nd) (l:List Pt) (k:Nat):List Int:=((List.range k).filter (lM d l)).map Int.ofNat
def yOc (d:List Nd) (l:List Pt):List Int:=yA4 d l d.length
def zNr (d:List Nd) (l:List Pt) (n:Int):Int:=if zAq d≠0 then zAq d else if zBD l≠0 then zBD l else yJK d n
theorem yPW {d:List Nd} (hd:zAq d=0):1≤d.length∧d.length≤64∧zCd d d.length=true:=by
 unfold zAq at hd
 split at hd
 ·rename_i h
  split at hd
  ·rename_i h';exact ⟨h.1,h.2,h'⟩
  ·omega
 ·omega
theorem zXM {d:List Nd} {l:List Pt} {k:Nat}:yA4 d l (k+1)=if lM d l k then yA4 d l k++[(k:Int)] else yA4 d l k:=by
 unfold yA4
 rw [List.range_succ,List.filter_append,List.map_append]
 by_cases h:lM d l k=true<;>simp [List.filter,h]
theorem yDw {d:List Nd} {l:List Pt} (k:Nat):(yA4 d l k).length≤k:=by
 unfold yA4
 rw [List.length_map]
 exact Nat.le_trans (List.length_filter_le _ _) (by simp)
theorem yFT (d:List Nd) (hd:zAq d=0) (l:List Pt) (h:zBD l=0):Contract Tryz.prog zIs [.val (zC9 d),.val (zAQ l)] {res:=.own zAr 1 (zAy (yOc d l))}:=by
 obtain ⟨d1,d2,d3⟩:=yPW hd
 have hM:=zTP d hd l h
 unfold zAQ at hM ⊢
 unfold zC9 at hM ⊢
 refine mkA yCS (base:=0) (fo rfl) (fun hfit=>?_)
 unfold F0 zS3
 refine goU ?_
 refine zAd (fun i:Nat=>[(6,.pv (iv i)),(5,.own zAr 1 (zAy (yA4 d l i))),(11,.un),(17,.un)]) (fun i:Nat=>d.length-i) (fun i:Nat=>i≤d.length) (0) ?_ (Nat.zero_le _) ?_
 focus (exact leA)
 intro i hi
 have hal:=yDw (d:=d) (l:=l) i
 refine goW ?_
 refine zAa (by rfl) trivial (fun g1=>?_) (fun g1=>?_)
 ·have hil:i < d.length:=by simpa using g1
  have hs:=zXM (d:=d) (l:=l) (k:=i)
  refine goW ?_
  refine zAc (by repeat' constructor) (hM i hil) ?_
  refine goW ?_
  refine zAa (by rfl) trivial (fun g2=>?_) (fun g2=>?_)
  ·refine goW ?_
   refine ⟨i+1,by omega,by omega,?_⟩
   simp (maxSteps:=2000000) only [go_sem,zAC,zA1,zB5,zAD]
   all_goals (repeat' (first|exact trivial|exact zA2 (by omega)|exact zA4 rfl|exact zBm rfl|exact zBK|exact le_refl _|refine And.intro ?_ ?_))
   refine zXq ?_
   rw [hs,g2,if_pos rfl]
   simp [zAy]
  ·refine goW ?_
   refine ⟨i+1,by omega,by omega,?_⟩
   simp (maxSteps:=2000000) only [go_sem,zAC,zA1,zB5,zAD]
   all_goals (repeat' (first|exact trivial|exact zA2 (by omega)|exact zA4 rfl|exact zBm rfl|exact zBK|exact le_refl _|refine And.intro ?_ ?_))
   refine zXq ?_
   rw [hs,g2]
   simp
 ·refine goW ?_
  have hil:i=d.length:=by simp at g1;omega
  exact zF0 (by rw [hil];rfl)
end Go.Hx
end

section
set_option maxRecDepth 100000
set_option linter.unusedSimpArgs false
namespace Go.Hx
open Go.Proofs
variable [Glob] [GlobL]
attribute [local go_sem] zAk zAl zAj zAf ndV zAm zAh zC9 atV OVal.cells yBn List.drop_succ_cons List.drop_zero List.take_succ_cons List.take_zero List.getD_nil yGH zHv Nat.sub_zero List.map_nil List.map_cons yJ1 yJ2 zBk zKo zOU zAn
attribute [local go_sem ↓] yNm yNn yPD yPC yPE
attribute [local go_sem] reduceCtorEq Nat.reduceAdd Nat.reduceEqDiff reduceIte Nat.reduceLeDiff Nat.reduceLT Nat.reduceSub
def ahd (d:List Nd) (n:Nat):Int:=((zAB d (zAX d n) n).getLast?).getD (-1)
def plc (d:List Nd) (n:Nat):Int:=(zAB d (zAX d n) n).length+1
def ofN (d:List Nd) (n:Nat):Int:=if 0≤zAX d n then (zEw d (zAX d n)).length else 1
def yDx (d:List Nd):List (List PV):=(List.range d.length).map fun n=>[bI (plc d n),bI (ofN d n),bI (ahd d n),bI (zCM d n),bI (zEw d n).length]
def zBt (d:List Nd):PV:=.fp [.sl 5 (zNI d),.sl 5 (yDx d)]
def stF (d:List Nd) (i j:Nat):List OV:=zKm (if j < i then plc d j else 0) 0 (if j < i then ahd d j else 0) (zAU d j i) (zAB d j i).length
theorem zNs (d:List Nd) (u:Int):zAB d u 0=[]:=rfl
theorem yDy (d:List Nd) (u:Int):zAU d u 0=0:=rfl
theorem yRh (d:List Nd) (L:Nat):List.replicate L [OV.p (bI 0),.p (bI 0),.p (bI 0),.p (bI 0),.p (bI 0)]=zEM L (stF d 0):=by
 rw [yJ3]
 refine zAV fun j _=>?_
 simp [stF,zNs,yDy]
theorem zG7 {d:List Nd} {u p:Int}:∀ {i:Nat},(zAB d u i).getLast?=some p→∃ m:Nat,m < i∧p=m∧zAX d m=u∧zAB d u i=zAB d u m++[(m:Int)]
 |0,h=>by rw [zNs] at h;cases h
 |i+1,h=>by
  rw [zAM] at h
  by_cases e:zAX d i=u
  ·rw [if_pos e] at h
   have hp:p=i:=by simpa using h.symm
   exact ⟨i,by omega,hp,e,by rw [zAM,if_pos e]⟩
  ·rw [if_neg e] at h
   obtain ⟨m,h1,h2,h3,h4⟩:=zG7 h
   exact ⟨m,by omega,h2,h3,by rw [zAM,if_neg e,h4]⟩
def inF (d:List Nd) (i:Nat) (u k:Int) (j:Nat):List OV:=zKm (if j < i+1 then plc d j else 0) 0 (if j < i+1 then ahd d j else 0) (zAU d j i+if (C d u).contains (j:Int)&&decide (k < j) then 1 else 0) (zAB d j (i+1)).length
theorem yA5 {d:List Nd} {i:Nat} {u k:Int} (hu:u=zAX d i) (hk:k < 0) (j:Nat):inF d i u k j=stF d (i+1) j:=by
 unfold inF stF
 have h1:decide (k < (j:Int))=true:=by simp;omega
 rw [zJd,h1,Bool.and_true,←hu]
 rfl
theorem zNt {d:List Nd} (hd:zCd d d.length=true) {i:Nat} {u:Int} (hu:u < d.length) (j:Nat):inF d i u u j=zKm (if j < i+1 then plc d j else 0) 0 (if j < i+1 then ahd d j else 0) (zAU d j i) (zAB d j (i+1)).length:=by
 unfold inF
 have:((C d u).contains (j:Int)&&decide (u < j))=false:=by
  cases hc:(C d u).contains (j:Int) with
  |false=>rfl
  |true=>
   have:=(yOd hd hu (by simpa using hc)).2
   simp;omega
 rw [this]
 simp
theorem zQN {d:List Nd} (hd:zCd d d.length=true) {i q:Nat} {u:Int} (hu:u < d.length) (hq:(q:Int)∈C d u) (j:Nat):inF d i u (zAX d q) j=if j=q then zKm (if q < i+1 then plc d q else 0) 0 (if q < i+1 then ahd d q else 0) (zAU d q i+(if (C d u).contains (q:Int)&&decide ((q:Int) < q) then 1 else 0)+1) (zAB d q (i+1)).length else inF d i u q j:=by
 have hql:=(yOd hd hu hq)
 have hub:=zBb hd q (by omega)
 by_cases h:j=q
 ·subst h
  rw [if_pos rfl]
  unfold inF
  have h1:(C d u).contains (j:Int)=true:=by simpa using hq
  have h2:decide (zAX d j < (j:Int))=true:=by simp;omega
  have h3:decide ((j:Int) < (j:Int))=false:=by simp
  rw [h1,h2,h3]
  simp
 ·rw [if_neg h]
  unfold inF
  have:((C d u).contains (j:Int)&&decide (zAX d q < (j:Int)))=((C d u).contains (j:Int)&&decide ((q:Int) < j)):=by
   cases hc:(C d u).contains (j:Int) with
   |false=>rfl
   |true=>
    have hj:(j:Int)∈C d u:=by simpa using hc
    obtain ⟨u',rfl⟩:∃ u':Nat,u=u':=⟨u.toNat,by omega⟩
    rw [Bool.true_and,Bool.true_and]
    rw [decide_eq_decide]
    constructor
    ·intro h1
     by_cases h2:(q:Int) < j
     ·exact h2
     ·exfalso
      have h3:=yRg hd u' (by omega) hq hj (by omega)
      have h4:=(yOd hd (k:=zAX d q) (by omega) h3).2
      omega
    ·intro h1;omega
  rw [this]
def fiF (d:List Nd) (i j:Nat):List OV:=zKm (plc d j) (if j < i then ofN d j else 0) (ahd d j) (zCM d j) (zEw d j).length
theorem yJ4 (d:List Nd):zEM d.length (stF d d.length)=zEM d.length (fiF d 0):=by
 refine zAV fun j hj=>?_
 simp [stF,fiF,hj,zCM,zEw]
theorem yLI (d:List Nd) (b e:Nat):(OV.os (some b) e 5 (zEM d.length (fiF d d.length))).frz=some (.sl 5 (yDx d)):=by
 have h:zEM d.length (fiF d d.length)=(yDx d).map fun r=>r.map OV.p:=by
  rw [zEM,yDx,List.map_map]
  refine List.map_congr_left fun j hj=>?_
  have:=List.mem_range.1 hj
  simp [fiF,this]
 rw [h]
 exact yBE (zIa _)
set_option maxHeartbeats 32000000 in
theorem yIt (d:List Nd) (hd:zAq d=0):Contract Tryz.prog zK5 [.val (zC9 d)] {res:=.val (.one (zBt d))}:=by
 obtain ⟨d1,d2,d3⟩:=yPW hd
 unfold zC9
 refine mkA yFl (base:=0) (fo rfl) (fun hfit=>?_)
 unfold F0 zXy
 refine goU ?_
 intro bw
 refine yPX (fun bm=>?_)
 refine goW ?_
 refine zAd (fun x:Nat×List (Int×Int)=>[(24,.pv (iv x.1)),(20,.ov (.one (yIG bm x.2))),(163,.ov (.one (.os (some bw) zB9 5 (zEM d.length (stF d x.1))))),(5,.un),(6,.un),(7,.un),(8,.un),(9,.un),(10,.un),(25,.un),(43,.un),(72,.un),(91,.un),(107,.un),(164,.un),(165,.un),(166,.un),(167,.un),(168,.un)]) (fun x:Nat×List (Int×Int)=>d.length-x.1) (fun x:Nat×List (Int×Int)=>x.1≤d.length∧∀ u,zUi x.2 u=(zAB d u x.1).getLast?) ((0,[])) ?_ ⟨Nat.zero_le _,fun u=>rfl⟩ ?_
 focus (simp (maxSteps:=2000000) only [go_sem,zAC,zA1,zB5,zAD];all_goals (repeat' (first|exact trivial|exact zA2 (by omega)|exact zA4 rfl|exact zBm rfl|exact zBK|exact le_refl _|refine And.intro ?_ ?_)))
 ·refine zBm ?_
  rw [←yRh]
 rintro ⟨i,ml⟩ ⟨hi,hml⟩
 simp only at hi hml
 refine goW ?_
 refine zAa (by rfl) trivial (fun g1=>?_) (fun g1=>?_)
 ·have hil:i < d.length:=by simpa using g1
  have hv:=zAW d i hil
  rw [ndV] at hv
  obtain ⟨u,hu⟩:∃ u,u=zAX d i:=⟨_,rfl⟩
  have hup:(d.getD i default).up=u:=hu.symm
  rw [hup] at hv
  have hub:=zBb d3 i hil
  rw [←hu] at hub
  have hget:=fun g=>zCU hil g
  obtain ⟨U,hU⟩:∃ U,U=zAU d i i:=⟨_,rfl⟩
  obtain ⟨K,hK⟩:∃ K,K=(zAB d i i).length:=⟨_,rfl⟩
  have hst:stF d i i=zKm 0 0 0 U K:=by simp [stF,hU,hK]
  try simp (maxSteps:=2000000) only [go_sem,hv,hget,hst,zKm]
  repeat with_reducible refine zAt ?_
  refine yNS rfl rfl rfl ?_
  have hgi:=hml u
  cases hlast:(zAB d u i).getLast? with
  |none=>
   rw [hlast] at hgi
   have hahd:ahd d i=-1:=by rw [ahd,←hu,hlast];rfl
   have hplc:plc d i=1:=by
    rw [List.getLast?_eq_none_iff] at hlast
    rw [plc,←hu,hlast];rfl
   try simp (maxSteps:=2000000) only [go_sem,hgi,Option.isSome_none,Option.getD_none]
   repeat with_reducible refine zAt ?_
   refine zAa (by rfl) trivial (fun g2=>?_) (fun g2=>?_)
   ·simp at g2
   try simp (maxSteps:=2000000) only [go_sem,hv,hget,hst,zKm]
   repeat with_reducible refine zAt ?_
   refine yNR rfl rfl rfl rfl (by decide) ?_
   try simp (maxSteps:=2000000) only [go_sem,hv,hget,hst,zKm]
   repeat with_reducible refine zAt ?_
   refine zAa (by rfl) trivial (fun g3=>?_) (fun g3=>?_)
   ·simp at g3
   try simp (maxSteps:=2000000) only [go_sem,hv,hget,hst,zKm]
   repeat with_reducible refine zAt ?_
   refine zAa (by rfl) trivial (fun g4=>?_) (fun g4=>?_)
   ·have hu0:0≤u:=by simpa using g4
    obtain ⟨q,rfl⟩:∃ q:Nat,u=q:=⟨u.toNat,by omega⟩
    have hqi:¬ q=i:=by omega
    have hql:q < d.length:=by omega
    have hgq:=fun g=>zCU hql g
    have hstq:stF d i q=zKm (if q < i then plc d q else 0) 0 (if q < i then ahd d q else 0) (zAU d q i) (zAB d q i).length:=rfl
    have hkl:=zDU (d:=d) (n:=q) i
    try simp (maxSteps:=2000000) only [go_sem,hgq,hqi,hstq,zKm]
    repeat with_reducible refine zAt ?_
    refine zAd (fun k:Int=>[(10,.pv (iv k)),(163,.ov (.one (.os (some bw) zB9 5 (zEM d.length (inF d i (q:Int) k))))),(107,.un)]) (fun k:Int=>(k+1).toNat) (fun k:Int=>-1≤k∧k < i∧(0≤k→k∈C d (q:Int))) ((q:Int)) ?_ ⟨by omega,by omega,fun _=>by rw [zKn d3 hql];exact List.mem_cons_self⟩ ?_
    focus (simp (maxSteps:=2000000) only [go_sem,zAC,zA1,zB5,zAD];all_goals (repeat' (first|exact trivial|exact zA2 (by omega)|exact zA4 rfl|exact zBm rfl|exact zBK|exact le_refl _|refine And.intro ?_ ?_)))
    ·refine zBm ?_
     congr 3
     refine zAV fun j hj=>?_
     rw [zNt d3 (by omega)]
     by_cases hjq:j=q
     ·subst hjq
      have hkj:zAB d j (i+1)=zAB d j i++[(i:Int)]:=by rw [zAM,if_pos hu.symm]
      rw [hkj,List.length_append]
      have e1:j < i:=by omega
      have e2:j < i+1:=by omega
      simp [zKm,e1,e2]
     ·rw [if_neg hjq]
      have hkj:zAB d j (i+1)=zAB d j i:=by rw [zAM,if_neg (by rw [←hu];omega)]
      rw [hkj]
      by_cases hji:j=i
      ·subst hji
       rw [if_pos rfl,if_pos (by omega),if_pos (by omega),hplc,hahd,hU,hK]
      ·simp only [if_neg hji,stF]
       have e:(j < i+1)↔(j < i):=by omega
       simp only [e]
    rintro k ⟨hk0,hki,hkc⟩
    refine goW ?_
    refine zAa (by rfl) trivial (fun g5=>?_) (fun g5=>?_)
    ·have hk1:0≤k:=by simpa using g5
     obtain ⟨q2,rfl⟩:∃ q2:Nat,k=q2:=⟨k.toNat,by omega⟩
     have hql2:q2 < d.length:=by omega
     have hqu:=zBb d3 q2 hql2
     have hqv:=zAW d q2 hql2
     rw [ndV] at hqv
     have hgq:=fun g=>zCU hql2 g
     have hkq:=hkc hk1
     have hinq:inF d i (q:Int) q2 q2=zKm (if q2 < i+1 then plc d q2 else 0) 0 (if q2 < i+1 then ahd d q2 else 0) (zAU d q2 i+(if (C d (q:Int)).contains (q2:Int)&&decide ((q2:Int) < q2) then 1 else 0)) (zAB d q2 (i+1)).length:=rfl
     obtain ⟨V,hV⟩:∃ V,V=zAU d q2 i+(if (C d (q:Int)).contains (q2:Int)&&decide ((q2:Int) < q2) then 1 else 0):=⟨_,rfl⟩
     have hVb:0≤V∧V≤i+1:=by
      have:=zEQ (d:=d) (n:=q2) i
      rw [hV];split<;>omega
     rw [←hV] at hinq
     have hinf:=zQN d3 (i:=i) (by omega:(q:Int) < d.length) hkq
     rw [←hV] at hinf
     try simp (maxSteps:=2000000) only [go_sem,hgq,hinq,zKm,hqv]
     repeat with_reducible refine zAt ?_
     refine ⟨zAX d q2,by omega,⟨by omega,by omega,fun h0=>?_⟩,?_⟩
     ·refine yNT d3 q hql hkq ?_
      rw [zKn d3 hql2]
      obtain ⟨v,hv2⟩:∃ v:Nat,zAX d q2=v:=⟨(zAX d q2).toNat,by omega⟩
      rw [hv2,zKn d3 (by omega:v < d.length)]
      exact List.mem_cons_of_mem _ (List.mem_cons_self)
     ·simp (maxSteps:=2000000) only [go_sem,zAC,zA1,zB5,zAD]
      all_goals (repeat' (first|exact trivial|exact zA2 (by omega)|exact zA4 rfl|exact zBm rfl|exact zBK|exact le_refl _|refine And.intro ?_ ?_))
      all_goals first|exact zA2 rfl|skip
      refine zBm ?_
      congr 3
      refine zAV fun j hj=>?_
      rw [hinf j]
    ·have hk1:k < 0:=by simp at g5;omega
     refine goW ?_
     refine ⟨(i+1,yIs ml (q:Int) i),by simp only;omega,⟨by simp only;omega,fun w=>?_⟩,?_⟩
     ·simp only
      rw [zJv,hml w,zAM,←hu]
      by_cases hw:w=(q:Int)
      ·rw [if_pos hw,if_pos hw.symm];simp
      ·rw [if_neg hw,if_neg (Ne.symm hw)]
     ·simp (maxSteps:=2000000) only [go_sem,zAC,zA1,zB5,zAD]
      all_goals (repeat' (first|exact trivial|exact zA2 (by omega)|exact zA4 rfl|exact zBm rfl|exact zBK|exact le_refl _|refine And.intro ?_ ?_))
      refine zBm ?_
      congr 3
      exact zAV fun j _=>yA5 hu hk1 j
   ·have hu0:u < 0:=by simp at g4;omega
    have hC:C d u=[]:=yLH d3 hu0
    refine goW ?_
    refine zAd (fun k:Int=>[(10,.pv (iv k)),(163,.ov (.one (.os (some bw) zB9 5 (zEM d.length (inF d i u k))))),(107,.un)]) (fun k:Int=>(k+1).toNat) (fun k:Int=>-1≤k∧k < i∧(0≤k→k∈C d u)) (u) ?_ ⟨by omega,by omega,fun h=>by omega⟩ ?_
    focus (simp (maxSteps:=2000000) only [go_sem,zAC,zA1,zB5,zAD];all_goals (repeat' (first|exact trivial|exact zA2 (by omega)|exact zA4 rfl|exact zBm rfl|exact zBK|exact le_refl _|refine And.intro ?_ ?_)))
    ·refine zBm ?_
     congr 3
     refine zAV fun j hj=>?_
     rw [zNt d3 (by omega)]
     have hkj:zAB d j (i+1)=zAB d j i:=by rw [zAM,if_neg (by rw [←hu];omega)]
     rw [hkj]
     by_cases hji:j=i
     ·subst hji
      rw [if_pos rfl,if_pos (by omega),if_pos (by omega),hplc,hahd,hU,hK]
     ·simp only [if_neg hji,stF]
      have e:(j < i+1)↔(j < i):=by omega
      simp only [e]
    rintro k ⟨hk0,hki,hkc⟩
    refine goW ?_
    refine zAa (by rfl) trivial (fun g5=>?_) (fun g5=>?_)
    ·have hk1:0≤k:=by simpa using g5
     obtain ⟨q2,rfl⟩:∃ q2:Nat,k=q2:=⟨k.toNat,by omega⟩
     have hql2:q2 < d.length:=by omega
     have hqu:=zBb d3 q2 hql2
     have hqv:=zAW d q2 hql2
     rw [ndV] at hqv
     have hgq:=fun g=>zCU hql2 g
     have hkq:=hkc hk1
     have hinq:inF d i u q2 q2=zKm (if q2 < i+1 then plc d q2 else 0) 0 (if q2 < i+1 then ahd d q2 else 0) (zAU d q2 i+(if (C d u).contains (q2:Int)&&decide ((q2:Int) < q2) then 1 else 0)) (zAB d q2 (i+1)).length:=rfl
     obtain ⟨V,hV⟩:∃ V,V=zAU d q2 i+(if (C d u).contains (q2:Int)&&decide ((q2:Int) < q2) then 1 else 0):=⟨_,rfl⟩
     have hVb:0≤V∧V≤i+1:=by
      have:=zEQ (d:=d) (n:=q2) i
      rw [hV];split<;>omega
     rw [←hV] at hinq
     have hinf:=zQN d3 (i:=i) (by omega:u < d.length) hkq
     rw [←hV] at hinf
     try simp (maxSteps:=2000000) only [go_sem,hgq,hinq,zKm,hqv]
     repeat with_reducible refine zAt ?_
     refine ⟨zAX d q2,by omega,⟨by omega,by omega,fun h0=>?_⟩,?_⟩
     ·rw [hC] at hkq;cases hkq
     ·simp (maxSteps:=2000000) only [go_sem,zAC,zA1,zB5,zAD]
      all_goals (repeat' (first|exact trivial|exact zA2 (by omega)|exact zA4 rfl|exact zBm rfl|exact zBK|exact le_refl _|refine And.intro ?_ ?_))
      all_goals first|exact zA2 rfl|skip
      refine zBm ?_
      congr 3
      refine zAV fun j hj=>?_
      rw [hinf j]
    ·have hk1:k < 0:=by simp at g5;omega
     refine goW ?_
     refine ⟨(i+1,yIs ml u i),by simp only;omega,⟨by simp only;omega,fun w=>?_⟩,?_⟩
     ·simp only
      rw [zJv,hml w,zAM,←hu]
      by_cases hw:w=u
      ·rw [if_pos hw,if_pos hw.symm];simp
      ·rw [if_neg hw,if_neg (Ne.symm hw)]
     ·simp (maxSteps:=2000000) only [go_sem,zAC,zA1,zB5,zAD]
      all_goals (repeat' (first|exact trivial|exact zA2 (by omega)|exact zA4 rfl|exact zBm rfl|exact zBK|exact le_refl _|refine And.intro ?_ ?_))
      refine zBm ?_
      congr 3
      exact zAV fun j _=>yA5 hu hk1 j
  |some p=>
   rw [hlast] at hgi
   obtain ⟨m,hmi,rfl,hmu,hkm⟩:=zG7 hlast
   have hahd:ahd d i=m:=by rw [ahd,←hu,hlast];rfl
   have hplc:plc d i=plc d m+1:=by
    rw [plc,←hu,hkm,plc,hmu,List.length_append]
    simp
   have hml2:m < d.length:=by omega
   have hmi':¬ m=i:=by omega
   have hgm:=fun g=>zCU hml2 g
   have hstm:stF d i m=zKm (plc d m) 0 (ahd d m) (zAU d m i) (zAB d m i).length:=by simp [stF,hmi]
   have hplb:1≤plc d m∧plc d m≤65:=by
    have:=zDU (d:=d) (n:=zAX d m) m
    rw [plc];omega
   try simp (maxSteps:=2000000) only [go_sem,hgi,Option.isSome_some,Option.getD_some]
   repeat with_reducible refine zAt ?_
   refine zAa (by rfl) trivial (fun g2=>?_) (fun g2=>?_)
   ·try simp (maxSteps:=2000000) only [go_sem,hv,hget,hst,zKm]
    repeat with_reducible refine zAt ?_
    refine yNR rfl rfl rfl rfl (by decide) ?_
    try simp (maxSteps:=2000000) only [go_sem,hv,hget,hst,zKm]
    repeat with_reducible refine zAt ?_
    refine zAa (by rfl) trivial (fun g3=>?_) (fun g3=>?_)
    ·try simp (maxSteps:=2000000) only [go_sem,hv,hget,hst,zKm,hgm,hmi',hstm,Int.toNat_natCast]
     repeat with_reducible refine zAt ?_
     refine zAa (by rfl) trivial (fun g4=>?_) (fun g4=>?_)
     ·have hu0:0≤u:=by simpa using g4
      obtain ⟨q,rfl⟩:∃ q:Nat,u=q:=⟨u.toNat,by omega⟩
      have hqi:¬ q=i:=by omega
      have hql:q < d.length:=by omega
      have hgq:=fun g=>zCU hql g
      have hstq:stF d i q=zKm (if q < i then plc d q else 0) 0 (if q < i then ahd d q else 0) (zAU d q i) (zAB d q i).length:=rfl
      have hkl:=zDU (d:=d) (n:=q) i
      try simp (maxSteps:=2000000) only [go_sem,hgq,hqi,hstq,zKm]
      repeat with_reducible refine zAt ?_
      refine zAd (fun k:Int=>[(10,.pv (iv k)),(163,.ov (.one (.os (some bw) zB9 5 (zEM d.length (inF d i (q:Int) k))))),(107,.un)]) (fun k:Int=>(k+1).toNat) (fun k:Int=>-1≤k∧k < i∧(0≤k→k∈C d (q:Int))) ((q:Int)) ?_ ⟨by omega,by omega,fun _=>by rw [zKn d3 hql];exact List.mem_cons_self⟩ ?_
      focus (simp (maxSteps:=2000000) only [go_sem,zAC,zA1,zB5,zAD];all_goals (repeat' (first|exact trivial|exact zA2 (by omega)|exact zA4 rfl|exact zBm rfl|exact zBK|exact le_refl _|refine And.intro ?_ ?_)))
      ·refine zBm ?_
       congr 3
       refine zAV fun j hj=>?_
       rw [zNt d3 (by omega)]
       by_cases hjq:j=q
       ·subst hjq
        have hkj:zAB d j (i+1)=zAB d j i++[(i:Int)]:=by rw [zAM,if_pos hu.symm]
        rw [hkj,List.length_append]
        have e1:j < i:=by omega
        have e2:j < i+1:=by omega
        simp [zKm,e1,e2]
       ·rw [if_neg hjq]
        have hkj:zAB d j (i+1)=zAB d j i:=by rw [zAM,if_neg (by rw [←hu];omega)]
        rw [hkj]
        by_cases hji:j=i
        ·subst hji
         rw [if_pos rfl,if_pos (by omega),if_pos (by omega),hplc,hahd,hU,hK]
        ·simp only [if_neg hji,stF]
         have e:(j < i+1)↔(j < i):=by omega
         simp only [e]
      rintro k ⟨hk0,hki,hkc⟩
      refine goW ?_
      refine zAa (by rfl) trivial (fun g5=>?_) (fun g5=>?_)
      ·have hk1:0≤k:=by simpa using g5
       obtain ⟨q2,rfl⟩:∃ q2:Nat,k=q2:=⟨k.toNat,by omega⟩
       have hql2:q2 < d.length:=by omega
       have hqu:=zBb d3 q2 hql2
       have hqv:=zAW d q2 hql2
       rw [ndV] at hqv
       have hgq:=fun g=>zCU hql2 g
       have hkq:=hkc hk1
       have hinq:inF d i (q:Int) q2 q2=zKm (if q2 < i+1 then plc d q2 else 0) 0 (if q2 < i+1 then ahd d q2 else 0) (zAU d q2 i+(if (C d (q:Int)).contains (q2:Int)&&decide ((q2:Int) < q2) then 1 else 0)) (zAB d q2 (i+1)).length:=rfl
       obtain ⟨V,hV⟩:∃ V,V=zAU d q2 i+(if (C d (q:Int)).contains (q2:Int)&&decide ((q2:Int) < q2) then 1 else 0):=⟨_,rfl⟩
       have hVb:0≤V∧V≤i+1:=by
        have:=zEQ (d:=d) (n:=q2) i
        rw [hV];split<;>omega
       rw [←hV] at hinq
       have hinf:=zQN d3 (i:=i) (by omega:(q:Int) < d.length) hkq
       rw [←hV] at hinf
       try simp (maxSteps:=2000000) only [go_sem,hgq,hinq,zKm,hqv]
       repeat with_reducible refine zAt ?_
       refine ⟨zAX d q2,by omega,⟨by omega,by omega,fun h0=>?_⟩,?_⟩
       ·refine yNT d3 q hql hkq ?_
        rw [zKn d3 hql2]
        obtain ⟨v,hv2⟩:∃ v:Nat,zAX d q2=v:=⟨(zAX d q2).toNat,by omega⟩
        rw [hv2,zKn d3 (by omega:v < d.length)]
        exact List.mem_cons_of_mem _ (List.mem_cons_self)
       ·simp (maxSteps:=2000000) only [go_sem,zAC,zA1,zB5,zAD]
        all_goals (repeat' (first|exact trivial|exact zA2 (by omega)|exact zA4 rfl|exact zBm rfl|exact zBK|exact le_refl _|refine And.intro ?_ ?_))
        all_goals first|exact zA2 rfl|skip
        refine zBm ?_
        congr 3
        refine zAV fun j hj=>?_
        rw [hinf j]
      ·have hk1:k < 0:=by simp at g5;omega
       refine goW ?_
       refine ⟨(i+1,yIs ml (q:Int) i),by simp only;omega,⟨by simp only;omega,fun w=>?_⟩,?_⟩
       ·simp only
        rw [zJv,hml w,zAM,←hu]
        by_cases hw:w=(q:Int)
        ·rw [if_pos hw,if_pos hw.symm];simp
        ·rw [if_neg hw,if_neg (Ne.symm hw)]
       ·simp (maxSteps:=2000000) only [go_sem,zAC,zA1,zB5,zAD]
        all_goals (repeat' (first|exact trivial|exact zA2 (by omega)|exact zA4 rfl|exact zBm rfl|exact zBK|exact le_refl _|refine And.intro ?_ ?_))
        refine zBm ?_
        congr 3
        exact zAV fun j _=>yA5 hu hk1 j
     ·have hu0:u < 0:=by simp at g4;omega
      have hC:C d u=[]:=yLH d3 hu0
      refine goW ?_
      refine zAd (fun k:Int=>[(10,.pv (iv k)),(163,.ov (.one (.os (some bw) zB9 5 (zEM d.length (inF d i u k))))),(107,.un)]) (fun k:Int=>(k+1).toNat) (fun k:Int=>-1≤k∧k < i∧(0≤k→k∈C d u)) (u) ?_ ⟨by omega,by omega,fun h=>by omega⟩ ?_
      focus (simp (maxSteps:=2000000) only [go_sem,zAC,zA1,zB5,zAD];all_goals (repeat' (first|exact trivial|exact zA2 (by omega)|exact zA4 rfl|exact zBm rfl|exact zBK|exact le_refl _|refine And.intro ?_ ?_)))
      ·refine zBm ?_
       congr 3
       refine zAV fun j hj=>?_
       rw [zNt d3 (by omega)]
       have hkj:zAB d j (i+1)=zAB d j i:=by rw [zAM,if_neg (by rw [←hu];omega)]
       rw [hkj]
       by_cases hji:j=i
       ·subst hji
        rw [if_pos rfl,if_pos (by omega),if_pos (by omega),hplc,hahd,hU,hK]
       ·simp only [if_neg hji,stF]
        have e:(j < i+1)↔(j < i):=by omega
        simp only [e]
      rintro k ⟨hk0,hki,hkc⟩
      refine goW ?_
      refine zAa (by rfl) trivial (fun g5=>?_) (fun g5=>?_)
      ·have hk1:0≤k:=by simpa using g5
       obtain ⟨q2,rfl⟩:∃ q2:Nat,k=q2:=⟨k.toNat,by omega⟩
       have hql2:q2 < d.length:=by omega
       have hqu:=zBb d3 q2 hql2
       have hqv:=zAW d q2 hql2
       rw [ndV] at hqv
       have hgq:=fun g=>zCU hql2 g
       have hkq:=hkc hk1
       have hinq:inF d i u q2 q2=zKm (if q2 < i+1 then plc d q2 else 0) 0 (if q2 < i+1 then ahd d q2 else 0) (zAU d q2 i+(if (C d u).contains (q2:Int)&&decide ((q2:Int) < q2) then 1 else 0)) (zAB d q2 (i+1)).length:=rfl
       obtain ⟨V,hV⟩:∃ V,V=zAU d q2 i+(if (C d u).contains (q2:Int)&&decide ((q2:Int) < q2) then 1 else 0):=⟨_,rfl⟩
       have hVb:0≤V∧V≤i+1:=by
        have:=zEQ (d:=d) (n:=q2) i
        rw [hV];split<;>omega
       rw [←hV] at hinq
       have hinf:=zQN d3 (i:=i) (by omega:u < d.length) hkq
       rw [←hV] at hinf
       try simp (maxSteps:=2000000) only [go_sem,hgq,hinq,zKm,hqv]
       repeat with_reducible refine zAt ?_
       refine ⟨zAX d q2,by omega,⟨by omega,by omega,fun h0=>?_⟩,?_⟩
       ·rw [hC] at hkq;cases hkq
       ·simp (maxSteps:=2000000) only [go_sem,zAC,zA1,zB5,zAD]
        all_goals (repeat' (first|exact trivial|exact zA2 (by omega)|exact zA4 rfl|exact zBm rfl|exact zBK|exact le_refl _|refine And.intro ?_ ?_))
        all_goals first|exact zA2 rfl|skip
        refine zBm ?_
        congr 3
        refine zAV fun j hj=>?_
        rw [hinf j]
      ·have hk1:k < 0:=by simp at g5;omega
       refine goW ?_
       refine ⟨(i+1,yIs ml u i),by simp only;omega,⟨by simp only;omega,fun w=>?_⟩,?_⟩
       ·simp only
        rw [zJv,hml w,zAM,←hu]
        by_cases hw:w=u
        ·rw [if_pos hw,if_pos hw.symm];simp
        ·rw [if_neg hw,if_neg (Ne.symm hw)]
       ·simp (maxSteps:=2000000) only [go_sem,zAC,zA1,zB5,zAD]
        all_goals (repeat' (first|exact trivial|exact zA2 (by omega)|exact zA4 rfl|exact zBm rfl|exact zBK|exact le_refl _|refine And.intro ?_ ?_))
        refine zBm ?_
        congr 3
        exact zAV fun j _=>yA5 hu hk1 j
    ·exact absurd g3 (by simp)
   ·simp at g2
 have hi2:i=d.length:=by simp at g1;omega
 subst hi2
 rw [yJ4]
 refine goW ?_
 refine zAd (fun i:Nat=>[(129,.pv (iv i)),(163,.ov (.one (.os (some bw) zB9 5 (zEM d.length (fiF d i))))),(11,.un),(12,.un),(130,.un),(143,.un),(169,.un),(170,.un),(171,.un),(172,.un),(173,.un)]) (fun i:Nat=>d.length-i) (fun i:Nat=>i≤d.length) (0) ?_ (Nat.zero_le _) ?_
 focus (exact leA)
 intro i hi
 refine goW ?_
 refine zAa (by rfl) trivial (fun g6=>?_) (fun g6=>?_)
 ·have hil:i < d.length:=by simpa using g6
  have hv:=zAW d i hil
  rw [ndV] at hv
  obtain ⟨u,hu⟩:∃ u,u=zAX d i:=⟨_,rfl⟩
  have hup:(d.getD i default).up=u:=hu.symm
  rw [hup] at hv
  have hub:=zBb d3 i hil
  rw [←hu] at hub
  have hget:=fun g=>zCU hil g
  have hst:fiF d i i=zKm (plc d i) 0 (ahd d i) (zCM d i) (zEw d i).length:=by simp [fiF]
  try simp (maxSteps:=2000000) only [go_sem,hv,hget,hst,zKm]
  repeat with_reducible refine zAt ?_
  refine zAa (by rfl) trivial (fun g7=>?_) (fun g7=>?_)
  ·have hu0:0≤u:=by simpa using g7
   obtain ⟨q,rfl⟩:∃ q:Nat,u=q:=⟨u.toNat,by omega⟩
   have hqi:¬ q=i:=by omega
   have hql:q < d.length:=by omega
   have hgq:=fun g=>zCU hql g
   have hstq:fiF d i q=zKm (plc d q) (if q < i then ofN d q else 0) (ahd d q) (zCM d q) (zEw d q).length:=rfl
   try simp (maxSteps:=2000000) only [go_sem,hgq,hqi,hstq,hget,hst,zKm]
   repeat with_reducible refine zAt ?_
   refine ⟨i+1,by omega,by omega,?_⟩
   simp (maxSteps:=2000000) only [go_sem,zAC,zA1,zB5,zAD]
   all_goals (repeat' (first|exact trivial|exact zA2 (by omega)|exact zA4 rfl|exact zBm rfl|exact zBK|exact le_refl _|refine And.intro ?_ ?_))
   refine zBm ?_
   congr 3
   refine zAV fun j hj=>?_
   by_cases hji:j=i
   ·subst hji
    simp [fiF,ofN,←hu]
   ·have e:(j < i+1)↔(j < i):=by omega
    simp [fiF,hji,e]
  ·have hu0:¬ 0≤u:=by simpa using g7
   refine goW ?_
   refine ⟨i+1,by omega,by omega,?_⟩
   simp (maxSteps:=2000000) only [go_sem,zAC,zA1,zB5,zAD]
   all_goals (repeat' (first|exact trivial|exact zA2 (by omega)|exact zA4 rfl|exact zBm rfl|exact zBK|exact le_refl _|refine And.intro ?_ ?_))
   refine zBm ?_
   congr 3
   refine zAV fun j hj=>?_
   by_cases hji:j=i
   ·subst hji
    have hu1:¬ 0≤zAX d j:=by rw [←hu];exact hu0
    simp [fiF,ofN,hu1]
   ·have e:(j < i+1)↔(j < i):=by omega
    simp [fiF,hji,e]
 ·have hi2:i=d.length:=by simp at g6;omega
  subst hi2
  have hfz:=fun b e=>yLI d b e
  try simp (maxSteps:=2000000) only [go_sem,hfz]
  repeat with_reducible refine zAt ?_
  exact zAb rfl trivial (.inl rfl)
end Go.Hx
end

section
set_option maxRecDepth 100000
set_option linter.unusedSimpArgs false
set_option maxHeartbeats 2000000
namespace Go.Hx
open Go.Proofs
variable [Glob] [GlobL]
attribute [local go_sem] zAk zAl zAj zAf ndV zAm zAh zAQ zAY zBh zBp
attribute [local go_sem] reduceCtorEq Nat.reduceAdd Nat.reduceEqDiff reduceIte Nat.reduceLeDiff Nat.reduceLT Nat.reduceSub
def yDz {α:Type} (p:α→Bool) (l:List α):Int:=if l.any p then (l.findIdx p:Int) else -1
theorem yA6 {α:Type} (p:α→Bool) (l:List α):decide (0≤yDz p l)=l.any p:=by
 unfold yDz
 cases h:l.any p<;>simp
theorem zNu {α:Type} {d:α} {p:α→Bool} {l:List α} (h:∀ k,k < l.length→p (l.getD k d)=false):yDz p l=-1:=by
 unfold yDz
 have:l.any p=false:=by
  rw [List.any_eq_false]
  intro x hx
  obtain ⟨k,hk,rfl⟩:=List.getElem_of_mem hx
  have:=h k hk
  simp [hk] at this
  simp [this]
 rw [this];rfl
theorem zNv {α:Type} {d:α} {p:α→Bool} {l:List α} {i:Nat} (hi:i < l.length) (h1:p (l.getD i d)=true) (h:∀ k,k < i→p (l.getD k d)=false):yDz p l=i:=by
 unfold yDz
 have h2:p l[i]=true:=by simpa [hi] using h1
 have:l.any p=true:=List.any_eq_true.2 ⟨l[i],List.getElem_mem hi,h2⟩
 rw [if_pos this,(List.findIdx_eq hi).2 ⟨h2,fun j hj=>by have:=h j hj;simpa [show j < l.length by omega] using this⟩]
theorem yFV (f:Nat) (caps:List PV) (l:List Pt) (p:Pt→Bool) (h:∀ i,i < l.length→Contract Tryz.prog f ([.val (.agg [.sl 2 (zNJ (l.getD i default).steps),.sl 1 (zAy (l.getD i default).links)])]++caps.map fun c=>.val (.one c)) {res:=.val (bv (p (l.getD i default)))}):
  Contract Tryz.prog zB2 [.val (.one (.sl 2 (zL2 l))),.val (.one (.clo f caps))] {res:=.val (iv (yDz p l))}:=by
 refine mkA zGR (base:=0) (fo rfl) (fun hfit=>?_)
 unfold F0 zDB
 refine goU ?_
 have ha:=zDn (k:=2) hfit.1
 rw [zAY] at ha
 refine zAd (fun i:Nat=>[(8,.pv (iv i)),(4,.un),(5,.un),(9,.un),(16,.un)]) (fun i:Nat=>l.length-i) (fun i:Nat=>i≤l.length∧∀ k,k < i→p (l.getD k default)=false) (0) ?_ ⟨Nat.zero_le _,fun k hk=>by omega⟩ ?_
 focus (exact leA)
 rintro i ⟨hi,hinv⟩
 refine goW ?_
 refine zAa (by rfl) trivial (fun h2=>?_) (fun h2=>?_)
 ·have hil:i < l.length:=by simp at h2;omega
  have e1:=zEA l i hil
  rw [zDM] at e1
  have hc:=h i hil
  try simp (maxSteps:=2000000) only [go_sem,e1]
  repeat with_reducible refine zAt ?_
  refine zDm (by rfl) trivial (by repeat' constructor) (hc) ?_
  refine goW ?_
  refine zAa (by rfl) trivial (fun h3=>?_) (fun h3=>?_)
  ·refine goW ?_
   refine zAb rfl trivial (.inl ?_)
   congr 3
   exact zNv hil h3 hinv
  ·refine goW ?_
   refine ⟨i+1,by omega,⟨by omega,fun k hk=>?_⟩,?_⟩
   ·by_cases e:k=i
    ·rw [e];exact h3
    ·exact hinv k (by omega)
   ·exact leA
 ·have hil:i=l.length:=by simp at h2;omega
  refine goW ?_
  refine zAb rfl trivial (.inl ?_)
  congr 3
  exact zNu fun k hk=>hinv k (by omega)
theorem yFW (f:Nat) (caps:List PV) (l:List Pt) (p:Pt→Bool) (h:∀ i,i < l.length→Contract Tryz.prog f ([.val (.agg [.sl 2 (zNJ (l.getD i default).steps),.sl 1 (zAy (l.getD i default).links)])]++caps.map fun c=>.val (.one c)) {res:=.val (bv (p (l.getD i default)))}):
  Contract Tryz.prog zBF [.val (.one (.sl 2 (zL2 l))),.val (.one (.clo f caps))] {res:=.val (bv (l.any p))}:=by
 refine mkA zFg (base:=0) (fo rfl) (fun hfit=>?_)
 unfold F0 zCE
 refine goU ?_
 refine zAc (by repeat' constructor) (yFV f caps l p h) ?_
 refine goW ?_
 refine zAb rfl trivial (.inl ?_)
 congr 3
 rw [←yA6]
theorem yFX (f:Nat) (caps:List PV) (l:List Ts) (p:Ts→Bool) (h:∀ i,i < l.length→Contract Tryz.prog f ([.val (.agg [bI (l.getD i default).kind,bS (l.getD i default).name,bS (l.getD i default).value,bI (l.getD i default).na,bI (l.getD i default).nb,.sl 2 (zL2 (l.getD i default).list)])]++caps.map fun c=>.val (.one c)) {res:=.val (bv (p (l.getD i default)))}):
  Contract Tryz.prog zB3 [.val (.one (.sl 6 (yBL l))),.val (.one (.clo f caps))] {res:=.val (iv (yDz p l))}:=by
 refine mkA zG1 (base:=0) (fo rfl) (fun hfit=>?_)
 unfold F0 zDC
 refine goU ?_
 have ha:=zDn (k:=6) hfit.1
 rw [zBp] at ha
 refine zAd (fun i:Nat=>[(8,.pv (iv i)),(4,.un),(5,.un),(9,.un),(16,.un)]) (fun i:Nat=>l.length-i) (fun i:Nat=>i≤l.length∧∀ k,k < i→p (l.getD k default)=false) (0) ?_ ⟨Nat.zero_le _,fun k hk=>by omega⟩ ?_
 focus (exact leA)
 rintro i ⟨hi,hinv⟩
 refine goW ?_
 refine zAa (by rfl) trivial (fun h2=>?_) (fun h2=>?_)
 ·have hil:i < l.length:=by simp at h2;omega
  have e1:=zDp l i hil
  rw [zEp] at e1
  have hc:=h i hil
  try simp (maxSteps:=2000000) only [go_sem,e1]
  repeat with_reducible refine zAt ?_
  refine zDm (by rfl) trivial (by repeat' constructor) (hc) ?_
  refine goW ?_
  refine zAa (by rfl) trivial (fun h3=>?_) (fun h3=>?_)
  ·refine goW ?_
   refine zAb rfl trivial (.inl ?_)
   congr 3
   exact zNv hil h3 hinv
  ·refine goW ?_
   refine ⟨i+1,by omega,⟨by omega,fun k hk=>?_⟩,?_⟩
   ·by_cases e:k=i
    ·rw [e];exact h3
    ·exact hinv k (by omega)
   ·exact leA
 ·have hil:i=l.length:=by simp at h2;omega
  refine goW ?_
  refine zAb rfl trivial (.inl ?_)
  congr 3
  exact zNu fun k hk=>hinv k (by omega)
theorem yFY (f:Nat) (caps:List PV) (l:List Ts) (p:Ts→Bool) (h:∀ i,i < l.length→Contract Tryz.prog f ([.val (.agg [bI (l.getD i default).kind,bS (l.getD i default).name,bS (l.getD i default).value,bI (l.getD i default).na,bI (l.getD i default).nb,.sl 2 (zL2 (l.getD i default).list)])]++caps.map fun c=>.val (.one c)) {res:=.val (bv (p (l.getD i default)))}):
  Contract Tryz.prog zBG [.val (.one (.sl 6 (yBL l))),.val (.one (.clo f caps))] {res:=.val (bv (l.any p))}:=by
 refine mkA zFj (base:=0) (fo rfl) (fun hfit=>?_)
 unfold F0 zCF
 refine goU ?_
 refine zAc (by repeat' constructor) (yFX f caps l p h) ?_
 refine goW ?_
 refine zAb rfl trivial (.inl ?_)
 congr 3
 rw [←yA6]
theorem yFZ (f:Nat) (caps:List PV) (l:List (Bys×Bys)) (p:Bys×Bys→Bool) (h:∀ i,i < l.length→Contract Tryz.prog f ([.val (.agg [bS (l.getD i default).1,bS (l.getD i default).2])]++caps.map fun c=>.val (.one c)) {res:=.val (bv (p (l.getD i default)))}):
  Contract Tryz.prog zAZ [.val (.one (.sl 2 (yGI l))),.val (.one (.clo f caps))] {res:=.val (iv (yDz p l))}:=by
 refine mkA zDa (base:=0) (fo rfl) (fun hfit=>?_)
 unfold F0 zB8
 refine goU ?_
 have ha:=zDn (k:=2) hfit.1
 rw [zAj] at ha
 refine zAd (fun i:Nat=>[(8,.pv (iv i)),(4,.un),(5,.un),(9,.un),(16,.un)]) (fun i:Nat=>l.length-i) (fun i:Nat=>i≤l.length∧∀ k,k < i→p (l.getD k default)=false) (0) ?_ ⟨Nat.zero_le _,fun k hk=>by omega⟩ ?_
 focus (exact leA)
 rintro i ⟨hi,hinv⟩
 refine goW ?_
 refine zAa (by rfl) trivial (fun h2=>?_) (fun h2=>?_)
 ·have hil:i < l.length:=by simp at h2;omega
  have e1:=zEz l i hil
  have hc:=h i hil
  try simp (maxSteps:=2000000) only [go_sem,e1]
  repeat with_reducible refine zAt ?_
  refine zDm (by rfl) trivial (by repeat' constructor) (hc) ?_
  refine goW ?_
  refine zAa (by rfl) trivial (fun h3=>?_) (fun h3=>?_)
  ·refine goW ?_
   refine zAb rfl trivial (.inl ?_)
   congr 3
   exact zNv hil h3 hinv
  ·refine goW ?_
   refine ⟨i+1,by omega,⟨by omega,fun k hk=>?_⟩,?_⟩
   ·by_cases e:k=i
    ·rw [e];exact h3
    ·exact hinv k (by omega)
   ·exact leA
 ·have hil:i=l.length:=by simp at h2;omega
  refine goW ?_
  refine zAb rfl trivial (.inl ?_)
  congr 3
  exact zNu fun k hk=>hinv k (by omega)
theorem zW0 (l:List Bys) (s:Bys):Contract Tryz.prog zCm [.val (.one (.sl 1 (zUg l))),.val (sv s)] {res:=.val (iv (yDz (fun c=>decide (c=s)) l))}:=by
 refine mkA zHS (base:=0) (fo rfl) (fun hfit=>?_)
 unfold F0 zEa
 refine goU ?_
 have ha:=zDn (k:=1) hfit.1
 rw [zAl] at ha
 refine zAd (fun i:Nat=>[(8,.pv (iv i)),(4,.un),(5,.un),(9,.un),(16,.un)]) (fun i:Nat=>l.length-i) (fun i:Nat=>i≤l.length∧∀ k,k < i→(fun c=>decide (c=s)) (l.getD k [])=false) (0) ?_ ⟨Nat.zero_le _,fun k hk=>by omega⟩ ?_
 focus (exact leA)
 rintro i ⟨hi,hinv⟩
 refine goW ?_
 refine zAa (by rfl) trivial (fun h2=>?_) (fun h2=>?_)
 ·have hil:i < l.length:=by simp at h2;omega
  have e1:=zFE l i hil
  try simp (maxSteps:=2000000) only [go_sem,e1]
  repeat with_reducible refine zAt ?_
  refine zAa (by rfl) trivial (fun h3=>?_) (fun h3=>?_)
  ·refine goW ?_
   refine zAb rfl trivial (.inl ?_)
   congr 3
   have h4:l.getD i []=s:=(by simpa using h3:s=l.getD i []).symm
   exact zNv (p:=fun c=>decide (c=s)) (d:=[]) hil (decide_eq_true h4) hinv
  ·refine goW ?_
   have h4:¬ l.getD i []=s:=fun e=>(by simpa using h3:¬ s=l.getD i []) e.symm
   refine ⟨i+1,by omega,⟨by omega,fun k hk=>?_⟩,?_⟩
   ·by_cases e:k=i
    ·rw [e];first|exact h4|exact decide_eq_false h4
    ·first|exact hinv k (by omega)|exact of_decide_eq_false (hinv k (by omega))
   ·exact leA
 ·have hil:i=l.length:=by simp at h2;omega
  refine goW ?_
  refine zAb rfl trivial (.inl ?_)
  congr 3
  exact zNu (d:=[]) (p:=fun c=>decide (c=s)) fun k hk=>hinv k (by omega)
theorem zG8 (l:List Bys) (s:Bys):Contract Tryz.prog zBi [.val (.one (.sl 1 (zUg l))),.val (sv s)] {res:=.val (bv (l.any fun c=>decide (c=s)))}:=by
 refine mkA zF7 (base:=0) (fo rfl) (fun hfit=>?_)
 unfold F0 zDb
 refine goU ?_
 refine zAc (by repeat' constructor) (zW0 l s) ?_
 refine goW ?_
 refine zAb rfl trivial (.inl ?_)
 congr 3
 rw [←yA6]
end Go.Hx
end

section
set_option maxRecDepth 100000
set_option linter.unusedSimpArgs false
set_option maxHeartbeats 2000000
namespace Go.Hx
open Go.Proofs
variable [Glob] [GlobL]
attribute [local go_sem] zAk zAl zAj zAf ndV zAm zAh zAQ zAY zBh zBp zBt
attribute [local go_sem] reduceCtorEq Nat.reduceAdd Nat.reduceEqDiff reduceIte Nat.reduceLeDiff Nat.reduceLT Nat.reduceSub
theorem yF0 {l:List (Bys×Bys)} {nm:Bys} (h:yDz (fun a=>decide (a.1=nm)) l < 0):zCQ l nm=none:=by
 unfold yDz at h
 have h2:l.any (fun a=>decide (a.1=nm))=false:=by
  cases e:l.any (fun a=>decide (a.1=nm)) with
  |false=>rfl
  |true=>rw [e] at h;simp at h;omega
 unfold zCQ
 have:l.find? (fun a=>decide (a.1=nm))=none:=by
  rw [List.find?_eq_none]
  intro x hx hp
  rw [List.any_eq_false] at h2
  exact h2 x hx hp
 rw [this];rfl
theorem yF1 {l:List (Bys×Bys)} {nm:Bys} (h:¬ yDz (fun a=>decide (a.1=nm)) l < 0):∃ i:Nat,i < l.length∧yDz (fun a=>decide (a.1=nm)) l=i∧zCQ l nm=some (l.getD i default).2:=by
 unfold yDz at h ⊢
 have h2:l.any (fun a=>decide (a.1=nm))=true:=by
  cases e:l.any (fun a=>decide (a.1=nm)) with
  |true=>rfl
  |false=>rw [e] at h;simp at h
 rw [if_pos h2]
 have h3:l.findIdx (fun a=>decide (a.1=nm)) < l.length:=List.findIdx_lt_length.2 (by simpa using h2)
 refine ⟨_,h3,rfl,?_⟩
 unfold zCQ
 rw [List.find?_eq_getElem?_findIdx,List.getElem?_eq_getElem h3]
 simp [h3]
theorem yDA (d:List Nd):(yDx d).length=d.length:=by simp [yDx]
theorem yDB (d:List Nd) (n:Nat) (h:n < d.length):(yDx d).getD n []=[bI (plc d n),bI (ofN d n),bI (ahd d n),bI (zCM d n),bI (zEw d n).length]:=by simp [yDx,h]
theorem zJ1 (a:Bys×Bys) (nm:Bys):Contract Tryz.prog zBQ [.val (.agg [bS a.1,bS a.2]),.val (.one (.fp [bS nm]))] {res:=.val (bv (decide (a.1=nm)))}:=by
 refine mkA zIy (base:=0) (fo rfl) (fun hfit=>?_)
 unfold F0 zEs
 refine goU ?_
 refine zAb rfl trivial (.inl ?_)
 congr 3
 rw [Bool.eq_iff_iff];simp
theorem zNw (d:List Nd) (n:Nat) (hn:n < d.length) (nm:Bys):Contract Tryz.prog zC2 [.val (.one (zBt d)),.val (iv n),.val (sv nm)] {res:=.tup [sv ((zCQ (d.getD n default).att nm).getD []),bv (zCQ (d.getD n default).att nm).isSome]}:=by
 have hc:=yFZ zBQ [.fp [bS nm]] (d.getD n default).att (fun a=>decide (a.1=nm)) (fun i hi=>zJ1 _ nm)
 have e1:=zAW d n hn
 obtain ⟨x,hx⟩:∃ x,x=d.getD n default:=⟨_,rfl⟩
 rw [←hx] at e1 hc ⊢
 refine mkA zLc (base:=0) (fo rfl) (fun hfit=>?_)
 unfold F0 zFP
 refine goU ?_
 try simp (maxSteps:=2000000) only [go_sem,e1]
 repeat with_reducible refine zAt ?_
 refine zAc (by repeat' constructor) (hc) ?_
 refine goW ?_
 refine zAa (by rfl) trivial (fun h=>?_) (fun h=>?_)
 ·have h':yDz (fun a=>decide (a.1=nm)) x.att < 0:=by simpa using h
  rw [yF0 h']
  refine goW ?_
  exact zBd (by simp) ⟨zAH rfl trivial (.inl rfl),zAH rfl trivial (.inl rfl),rfl⟩
 ·have h':¬ yDz (fun a=>decide (a.1=nm)) x.att < 0:=by simpa using h
  obtain ⟨i,hi,h2,h3⟩:=yF1 h'
  have e2:=zEz x.att i hi
  rw [h3]
  rw [h2]
  try simp (maxSteps:=2000000) only [go_sem,e1,e2]
  repeat with_reducible refine zAt ?_
  exact zBd (by simp) ⟨zAH rfl trivial (.inl rfl),zAH rfl trivial (.inl rfl),rfl⟩
end Go.Hx
end

section
set_option maxRecDepth 100000
set_option linter.unusedSimpArgs false
set_option linter.unusedSectionVars false
namespace Go.Hx
open Go.Proofs
variable [Glob] [GlobL]
section
variable {d:List Nd} (hd:zCd d d.length=true)
include hd
theorem yJ6 {k:Nat} (hk:k+1 < d.length):zAX d (k+1)∈C d k:=by
 have h:=zAF hd hk
 simp only [yBj,yJi,Bool.and_eq_true] at h
 have h2:=h.2
 rw [if_neg (by omega)] at h2
 have h3:zAX d (k+1)∈zA5 d (k+1) (((k+1:Nat):Int)-1):=by simpa using h2
 rw [show (((k+1:Nat):Int)-1)=k by omega] at h3
 unfold C
 rw [zEO d.length (k+1) k (fun j hj=>(zBb hd j (by omega)).2) (by omega) (by omega)]
 exact h3
theorem yNV {k:Nat} (h0:0 < k) (hk:k < d.length):0≤zAX d k:=by
 obtain ⟨j,rfl⟩:∃ j,k=j+1:=⟨k-1,by omega⟩
 exact (yOd hd (by omega) (yJ6 hd hk)).1
theorem yLK (h:0 < d.length):zAX d 0=-1:=by
 have:=zAF hd h
 simp only [yBj,yJi,Bool.and_eq_true] at this
 simpa using this.2
theorem yIw {n k:Nat} (hk:k+1 < d.length) (hn:n < k) (h:(n:Int)∈C d (zAX d (k+1))):(n:Int)∈C d (zAX d k):=by
 have h1:=yNT hd k (by omega) (yJ6 hd hk) h
 rw [zKn hd (by omega)] at h1
 rcases List.mem_cons.1 h1 with e|e
 ·omega
 ·exact e
theorem yDI {n k:Nat} (hk:k < d.length) (h:k≤n):(n:Int)∉C d (zAX d k):=by
 intro hx
 have:=zBb hd k hk
 have:=yOd hd (by omega) hx
 omega
theorem zTU {n m:Nat} (hm:m < d.length) (h:(n:Int)∈C d (zAX d m)):∀ t k,m=k+t→n < k→(n:Int)∈C d (zAX d k)
 |0,k,e,_=>by rw [Nat.add_zero] at e;rw [←e];exact h
 |t+1,k,e,hk=>yIw hd (by omega) hk (zTU hm h t (k+1) (by omega) (by omega))
theorem zEc (n k:Nat):zAU d n (k+1)=zAU d n k+(if (n:Int)∈C d (zAX d k) then 1 else 0):=by
 rw [zJd]
 by_cases h:(n:Int)∈C d (zAX d k)
 ·rw [if_pos h,if_pos (by simpa [C] using h)]
 ·rw [if_neg h,if_neg (by simpa [C] using h)]
theorem zLJ {n:Nat}:∀ k,k≤n+1→k≤d.length→zAU d n k=0
 |0,_,_=>yDy d n
 |k+1,h,hk=>by rw [zEc hd,zLJ k (by omega) (by omega),if_neg (yDI hd (by omega) (by omega))];rfl
theorem zXQ {n m:Nat} (hm:m < d.length) (h:∀ k,n < k→k≤m→(n:Int)∈C d (zAX d k)):∀ t,n+1+t≤m+1→zAU d n (n+1+t)=t
 |0,_=>zLJ hd _ (by omega) (by omega)
 |t+1,ht=>by
  rw [show n+1+(t+1)=(n+1+t)+1 by omega,zEc hd,zXQ hm h t (by omega),if_pos (h _ (by omega) (by omega))]
  omega
theorem zTV {n m:Nat} (hm:m < d.length) (hn:n < m) (h:(n:Int)∉C d (zAX d m)):∀ t,m+t≤d.length→zAU d n (m+t)=zAU d n m
 |0,_=>rfl
 |t+1,ht=>by
  rw [show m+(t+1)=(m+t)+1 by omega,zEc hd,zTV hm hn h t (by omega),if_neg fun hx=>h (zTU hd (by omega) hx t m (by omega) hn)]
  omega
theorem zXR (n:Nat):∀ t k,zAU d n k≤zAU d n (k+t)
 |0,k=>Int.le_refl _
 |t+1,k=>by rw [show k+(t+1)=(k+t)+1 by omega,zEc hd];have:=zXR n t k;split<;>omega
theorem zJi {n:Nat}:∀ t,n+1+t≤d.length→zAU d n (n+1+t)≤t
 |0,h=>by rw [zLJ hd _ (by omega) h];exact Int.le_refl _
 |t+1,h=>by rw [show n+1+(t+1)=(n+1+t)+1 by omega,zEc hd];have:=zJi (n:=n) t (by omega);split<;>omega
theorem yDJ {n m:Nat} (hm:m < d.length):zEq d n m=true↔n < m∧(m:Int)≤n+zCM d n:=by
 have ha:zEq d n m=true↔(n:Int)∈C d (zAX d m):=by unfold zEq C;simp
 rw [ha]
 constructor
 ·intro h
  have hnm:n < m:=Classical.byContradiction fun hx=>yDI hd hm (by omega) h
  refine ⟨hnm,?_⟩
  have h1:=zXQ hd hm (fun k hk hkm=>zTU hd hm h (m-k) k (by omega) hk) (m-n) (by omega)
  have h2:=zXR hd n (d.length-(n+1+(m-n))) (n+1+(m-n))
  rw [show n+1+(m-n)+(d.length-(n+1+(m-n)))=d.length by omega,h1] at h2
  unfold zCM
  omega
 ·rintro ⟨hnm,h⟩
  apply Classical.byContradiction
  intro hx
  have h1:=zTV hd hm hnm hx (d.length-m) (by omega)
  rw [show m+(d.length-m)=d.length by omega] at h1
  have h2:=zJi hd (n:=n) (m-n-1) (by omega)
  rw [show n+1+(m-n-1)=m by omega] at h2
  unfold zCM at h
  omega
theorem yIx (n:Nat):0≤zCM d n∧zCM d n≤d.length:=zEQ _
end
theorem yJ7 {d:List Nd} {n:Nat} (h:0 < n):zCr d n=zEw d (zAX d n):=by
 unfold zCr;rw [if_neg (by omega)];rfl
theorem zXS {d:List Nd} {n:Nat}:∀ t,∃ r,zAB d (zAX d n) (n+1+t)=zAB d (zAX d n) n++(n:Int)::r∧∀ x∈r,(n:Int) < x
 |0=>⟨[],by rw [Nat.add_zero,zAM,if_pos rfl],by simp⟩
 |t+1=>by
  obtain ⟨r,h1,h2⟩:=zXS t
  rw [show n+1+(t+1)=(n+1+t)+1 by omega,zAM]
  split
  ·refine ⟨r++[((n+1+t:Nat):Int)],by rw [h1];simp,fun x hx=>?_⟩
   rcases List.mem_append.1 hx with hx|hx
   ·exact h2 x hx
   ·have:x=((n+1+t:Nat):Int):=by simpa using hx
    omega
  ·exact ⟨r,h1,h2⟩
theorem zJw {d:List Nd} {u x:Int}:∀ {k:Nat},x∈zAB d u k→∃ m:Nat,x=m∧m < k∧zAX d m=u
 |0,h=>by rw [zNs] at h;cases h
 |k+1,h=>by
  rw [zAM] at h
  split at h
  ·rename_i he
   rcases List.mem_append.1 h with h|h
   ·obtain ⟨m,h1,h2,h3⟩:=zJw h;exact ⟨m,h1,by omega,h3⟩
   ·exact ⟨k,by simpa using h,by omega,he⟩
  ·obtain ⟨m,h1,h2,h3⟩:=zJw h;exact ⟨m,h1,by omega,h3⟩
theorem zLK {l r:List Int} {x:Int} (h:x∉l):zAT (l++x::r) x=l.length:=by
 unfold zAT
 have h1:l.findIdx? (fun y=>decide (y=x))=none:=by
  rw [List.findIdx?_eq_none_iff]
  intro y hy
  simp only [decide_eq_false_iff_not]
  rintro rfl
  exact h hy
 rw [List.findIdx?_append,h1,List.findIdx?_cons]
 simp
theorem zTW {d:List Nd} {u:Int} {n:Nat}:(n:Int)∉zAB d u n:=by
 intro h
 obtain ⟨m,h1,h2,_⟩:=zJw h
 omega
section
variable {d:List Nd} (hd:zCd d d.length=true)
include hd
theorem yDK {n:Nat} (hn:n < d.length) (h0:0 < n):∃ r,zCr d n=zAB d (zAX d n) n++(n:Int)::r∧∀ x∈r,(n:Int) < x:=by
 obtain ⟨r,h1,h2⟩:=zXS (d:=d) (n:=n) (d.length-(n+1))
 rw [show n+1+(d.length-(n+1))=d.length by omega] at h1
 exact ⟨r,by rw [yJ7 h0];exact h1,h2⟩
theorem yJ8 {n:Nat} (hn:n < d.length):plc d n=zAT (zCr d n) n+1:=by
 unfold plc
 by_cases h0:n=0
 ·subst h0
  have:zCr d 0=[0]:=rfl
  rw [this,zNs];rfl
 ·obtain ⟨r,h1,_⟩:=yDK hd hn (by omega)
  rw [h1,zLK zTW]
theorem yNW {n:Nat} (hn:n < d.length):ofN d n=(zCr d n).length:=by
 unfold ofN
 by_cases h0:n=0
 ·subst h0
  rw [yLK hd (by omega)];rfl
 ·rw [if_pos (yNV hd (by omega) hn),yJ7 (by omega)]
theorem yJ9 {n:Nat}:yHF d n=[]↔(zEw d n).length=0:=by
 unfold yHF zEw zAB
 rw [List.length_map,List.length_eq_zero_iff]
end
end Go.Hx
end

section
set_option maxRecDepth 100000
set_option linter.unusedSimpArgs false
namespace Go.Hx
open Go.Proofs
variable [Glob] [GlobL]
attribute [local go_sem] zAk zAl zAj zAf ndV zAm
end Go.Hx
end
