/-
  Walks of functions of the program over an abstract layer, and the laws that they use: each contract says what the function computes, for every input that its conditions let by. No other condition.
-/
import Derived.Test.YtjnagiaooecklaaGreatDoorG10
import Derived.Test.YtjnagiaooecklaaGreatDoorG12
import Derived.Test.YtjnagiaooecklaaGreatDoorG17
import Derived.Test.YtjnagiaooecklaaGreatDoorG18
import Derived.Shelf.Strings.SlTrimAscii
import Derived.Test.YtjnagiaooecklaaGreatDoorG13
import Derived.Test.YtjnagiaooecklaaGreatDoorG11
set_option linter.all false
section
set_option maxRecDepth 100000
set_option linter.unusedSimpArgs false
namespace Go.Hx
open Go.Proofs Go.RowKit
variable [Glob] [GlobL]
attribute [local go_sem] zAk zAi zAj zAe ndV zAg
attribute [local go_sem] reduceCtorEq Nat.reduceAdd Nat.reduceEqDiff reduceIte Nat.reduceLeDiff Nat.reduceLT Nat.reduceSub
theorem zXL {R:Nat→Prop} {w w':World} (h:Below w.heap.size w w'):Pres R w w':=Pres.of_below _ h
theorem yCv {m:Mem} {w w':World} (hm:MemOk m w) (h:Below w.heap.size w w'):MemOk m w':=fun b o u hu=>by
 have h1:=hm b o u hu
 have h2:b < w.heap.size:=World.block_lt_of_cell? w _ h1
 rw [←h1]
 exact World.cell?_of_block (h.block b h2)
theorem zXM {R:Nat→Prop} {w w':World} (h:Pres R w w') (hR:∀ b,¬ R b):Below w.heap.size w w':=⟨h.os,h.tape,h.output,h.size,fun b hb=>h.block b hb (hR b)⟩
theorem yD8 {m:Mem} {w w':World} {avs:List AV} {us:List Value} {e:Ending} {x:PVal} {u:Value} (hm:MemOk m w) (h:Below w.heap.size w w') (he:e=.returned u) (hx:RpV m x u) (hio:ioB avs us=none):yJn m w avs us {res:=.val x} e w':=
 ⟨m,m.le_refl,yCv hm h,zXL h,fun _ _ _ h=>.inl h,(fun b hb=>by rw [hio] at hb;cases hb),u,he,hx⟩
theorem yFn {w w':World} (h:Below w.heap.size w w') (hG:Glob.ok w):Glob.ok w':=
 Glob.keep _ _ (fun b hb=>h.block b (Nat.lt_of_lt_of_le hb (Glob.size _ hG))) hG
theorem yGV (s cs:Bys):(Lib.trimS s cs).length≤s.length:=by
 unfold Lib.trimS Lib.trimLeftS Lib.trimRightS
 refine Nat.le_trans (List.dropWhile_sublist _).length_le ?_
 rw [List.length_reverse]
 refine Nat.le_trans (List.dropWhile_sublist _).length_le ?_
 rw [List.length_reverse]
 exact Nat.le_refl _
theorem yGW {s:Bys} (h:s.length≤maxLen):zEA (mkS s)=true:=by
 simp only [zEA]
 exact decide_eq_true (by simpa [ByteArray.size] using h)
theorem yIX {s:Bys} (h:zEA (mkS s)=true):s.length≤maxLen:=by
 simp only [zEA,decide_eq_true_eq] at h
 simpa [ByteArray.size] using h
theorem zTW (s cs:Bys) (hc:cs.length < 1000) (ha:cs.all (fun b=>decide (b.toNat < 128))=true):Contract Tryz.prog zEX [.val (sv s),.val (sv cs)] {res:=.val (sv (Lib.trimS s cs))}:=by
 refine ⟨by kernel_rfl,fun m w us hm hargs _ hG _=>?_⟩
 obtain ⟨u1,us1,rfl,h1,u2,us2,rfl,h2,rfl⟩:=hargs
 obtain ⟨rfl,f1⟩:=h1
 obtain ⟨rfl,f2⟩:=h2
 have hs:=yIX f1
 have hT:=Any.strings_Trim_laid Tryz.l160 (by kernel_rfl) ⟨s.toArray⟩ ⟨cs.toArray⟩ w (by simpa [ByteArray.size,maxLen] using hs) (by simp [ByteArray.size];omega) (ascii_of_all (by simpa using ha))
 change Calls Tryz.prog zEX _ _ _ at hT
 refine hT.mono fun e w' ⟨he,hb⟩=>yD8 hm hb he ⟨by simp,?_⟩ rfl
 exact yGW (Nat.le_trans (yGV s cs) hs)
theorem zDN (s:Bys) (g:Nat) (p:Nat→Bool) (hp:∀ r,128≤r→p r=true) (eg:∀ args w,(callFunc g args).run Tryz.prog w=.ok (.enter g args) w)
  (hg:∀ r:Nat,Contract Tryz.prog g [.val (.one (.v (.int .i32 r)))] {res:=.val (bv (p r))}):
  Contract Tryz.prog zBA [.val (sv s),.val (.one (.clo g []))] {res:=.val (bv (!s.all (fun b=>decide (b.toNat < 128)&&!p b.toNat)))}:=by
 refine ⟨by kernel_rfl,fun m w us hm hargs _ hG _=>?_⟩
 obtain ⟨u1,us1,rfl,h1,u2,us2,rfl,h2,rfl⟩:=hargs
 obtain ⟨rfl,f1⟩:=h1
 obtain ⟨us,rfl,hus⟩:=h2
 obtain rfl:us=[]:=by simpa [RpL] using hus
 have hpg:PredGrows Tryz.prog g #[] p w:=fun W x _ hbW=>by
  refine ((hg x).2 (fun _ _=>none) W [.int .i32 x] (fun _ _ _ h=>by cases h) ⟨_,_,rfl,⟨rfl,rfl⟩,rfl⟩ (by intro g h;cases h) (yFn hbW hG) (by rintro b (h|h)<;>cases h)).mono fun e W' ⟨m',_,_,hpr,_,_,u,hu,hr⟩=>?_
  obtain rfl:u=.bool (p x):=hr.1
  exact ⟨hu,zXM hpr (by intro b h;rcases h with h|h<;>cases h)⟩
 have hT:=Any.strings_ContainsFunc_grows Tryz.l17 g #[] eg p ⟨s.toArray⟩ w hpg
 change Calls Tryz.prog zBA _ _ _ at hT
 rw [yLh hp] at hT
 exact hT.mono fun e w' ⟨he,hb⟩=>yD8 hm hb he ⟨rfl,rfl⟩ rfl
def yFo (r:Nat):Bool:=((decide (r < 97)||decide (122 < r))&&(decide (r < 48)||decide (57 < r)))&&decide (r≠45)
def zUM (r:Nat):Bool:=decide (r < 32)||decide (126 < r)||decide (r=34)
theorem zZ9 (r:Nat):Contract Tryz.prog zCH [.val (.one (.v (.int .i32 r)))] {res:=.val (bv (yFo r))}:=by
 refine mkA zWx (base:=0) (fo rfl) (fun hfit=>?_)
 unfold F0 zOq
 refine goU ?_
 refine zAb rfl trivial (.inl ?_)
 congr 3
 unfold yFo
 grind
theorem zXN (r:Nat):Contract Tryz.prog zCo [.val (.one (.v (.int .i32 r)))] {res:=.val (bv (zUM r))}:=by
 refine mkA zSX (base:=0) (fo rfl) (fun hfit=>?_)
 unfold F0 zLT
 refine goU ?_
 refine zAb rfl trivial (.inl ?_)
 congr 3
 unfold zUM
 grind
theorem yLi:∀ args w,(callFunc zCH args).run Tryz.prog w=.ok (.enter zCH args) w:=enters_of Tryz.func147 (by kernel_rfl) rfl
theorem yLj:∀ args w,(callFunc zCo args).run Tryz.prog w=.ok (.enter zCo args) w:=enters_of Tryz.func149 (by kernel_rfl) rfl
theorem zNY {α:Type} {l:List α} {p q:α→Bool} (h:∀ x,p x=q x):l.all p=l.all q:=by rw [show p=q from funext h]
theorem yNy (b:UInt8):(decide (b.toNat < 128)&&!zUM b.toNat)=yKX b:=by
 unfold zUM yKX
 grind
theorem yLk (b:UInt8):(decide (b.toNat < 128)&&!yFo b.toNat)=zYz b:=by
 unfold yFo zYz
 grind
theorem yNz (b:UInt8):([97,98,99,100,101,102,103,104,105,106,107,108,109,110,111,112,113,114,115,116,117,118,119,120,121,122,48,49,50,51,52,53,54,55,56,57,45]:Bys).contains b=zYz b:=by
 have h:∀ n:Fin 256,([97,98,99,100,101,102,103,104,105,106,107,108,109,110,111,112,113,114,115,116,117,118,119,120,121,122,48,49,50,51,52,53,54,55,56,57,45]:Bys).contains (UInt8.ofFin n)=zYz (UInt8.ofFin n):=by decide +kernel
 exact h b.toFin
theorem zRI (s:Bys):Contract Tryz.prog zFt [.val (sv s)] {res:=.val (bv (zH6 s))}:=by
 refine mkA zZg (base:=0) (fo rfl) (fun hfit=>?_)
 unfold F0 zQ4
 refine goU ?_
 apply zAr (h2:=fun _=>zDN s zCo zUM (by intro r h;unfold zUM;grind) yLj zXN)
 ·(simp (maxSteps:=2000000) only [go_sem];rfl)
 ·intro h;repeat' (first|exact trivial|exact h|refine And.intro ?_ ?_)
 refine goW ?_
 refine zAb rfl trivial (.inl ?_)
 congr 3
 rw [zNY yNy,zH6]
 grind
theorem zEB (s:Bys):Contract Tryz.prog zCx [.val (sv s)] {res:=.val (bv (zCW s))}:=by
 refine mkA yBG (base:=0) (fo rfl) (fun hfit=>?_)
 unfold F0 zUF
 refine goU ?_
 apply zAr (h2:=fun _=>zTW s _ (by decide) (by decide))
 ·(simp (maxSteps:=2000000) only [go_sem];rfl)
 ·intro h;repeat' (first|exact trivial|exact h|refine And.intro ?_ ?_)
 refine goW ?_
 apply zAr (h2:=fun _=>zDN s zCH yFo (by intro r h;unfold yFo;grind) yLi zZ9)
 ·(simp (maxSteps:=2000000) only [go_sem];rfl)
 ·intro h;repeat' (first|exact trivial|exact h|refine And.intro ?_ ?_)
 refine goW ?_
 refine zAb rfl trivial (.inl ?_)
 congr 3
 rw [zNY yLk,yIW,zNY yNz,zCW]
 grind
end Go.Hx
end

section
set_option maxRecDepth 100000
set_option linter.unusedSimpArgs false
namespace Go.Hx
open Go.Proofs
variable [Glob] [GlobL]
attribute [local go_sem] zAk zAi zAj zAe ndV zAg
attribute [local go_sem] reduceCtorEq Nat.reduceAdd Nat.reduceEqDiff reduceIte Nat.reduceLeDiff Nat.reduceLT Nat.reduceSub
theorem zJk (s:Bys):Contract Tryz.prog zEu [.val (sv s)] {res:=.val (sv s)}:=by
 refine mkA zVT (base:=0) (fo rfl) (fun hfit=>?_)
 unfold F0 zOk
 refine goU ?_
 refine goW ?_
 refine zAb rfl trivial (.inl ?_)
 congr 3
theorem zJl (a b:Bys):Contract Tryz.prog zEv [.val (.agg [bS a,bS b])] {res:=.val (sv a)}:=by
 refine mkA zVW (base:=0) (fo rfl) (fun hfit=>?_)
 unfold F0 zOl
 refine goU ?_
 refine goW ?_
 refine zAb rfl trivial (.inl ?_)
 congr 3
theorem yAa (a b:Bys):Contract Tryz.prog zDs [.val (.agg [bS a,bS b])] {res:=.val (bv (!zH6 b))}:=by
 refine mkA zVZ (base:=0) (fo rfl) (fun hfit=>?_)
 unfold F0 zOm
 refine goU ?_
 refine zAo (by repeat' constructor) (zRI _) ?_
 refine goW ?_
 refine goW ?_
 refine zAb rfl trivial (.inl ?_)
 congr 3
theorem yIY {l:List Bys} {i:Nat}:okC l (i+1)=(okC l i&&cOk l i):=zFL
theorem zUO:∀ {x y:Bys},Op.bytesLess x y=true→Op.bytesLess y x=false
 |[],_,h=>by rename_i y;cases y<;>rfl
 |a::x,[],h=>by simp [Op.bytesLess] at h
 |a::x,b::y,h=>by
  simp only [Op.bytesLess,Bool.or_eq_true,Bool.and_eq_true,decide_eq_true_eq,beq_iff_eq] at h
  simp only [Op.bytesLess,Bool.or_eq_false_iff,Bool.and_eq_false_iff,decide_eq_false_iff_not,beq_eq_false_iff_ne]
  rcases h with h|⟨rfl,h⟩
  ·exact ⟨UInt8.lt_asymm h,.inl (fun e=>by subst e;exact UInt8.lt_irrefl _ h)⟩
  ·exact ⟨UInt8.lt_irrefl _,.inr (zUO h)⟩
theorem zUP:∀ {x y:Bys},Op.bytesLess x y=false→x≠y→Op.bytesLess y x=true
 |[],[],_,h=>(h rfl).elim
 |[],b::y,h,_=>by simp [Op.bytesLess] at h
 |a::x,[],_,_=>rfl
 |a::x,b::y,h,hn=>by
  simp only [Op.bytesLess,Bool.or_eq_false_iff,Bool.and_eq_false_iff,decide_eq_false_iff_not,beq_eq_false_iff_ne] at h
  simp only [Op.bytesLess,Bool.or_eq_true,Bool.and_eq_true,decide_eq_true_eq,beq_iff_eq]
  obtain ⟨h1,h2⟩:=h
  by_cases e:a=b
  ·subst e
   refine .inr ⟨rfl,zUP (h2.resolve_left (fun h=>h rfl)) (fun e=>hn (by rw [e]))⟩
  ·refine .inl ?_
   have h3:b≤a:=UInt8.not_lt.1 h1
   exact UInt8.lt_of_le_of_ne h3 (Ne.symm e)
theorem zUQ {x y:Bys}:(Op.bytesLess x y||x==y)=!Op.bytesLess y x:=by
 cases h:Op.bytesLess y x with
 |true=>
  have h1:=zUO h
  have:¬ x=y:=fun e=>by subst e;rw [h1] at h;cases h
  simp [h1,this]
 |false=>
  by_cases e:x=y
  ·subst e;simp
  ·simp [zUP h (Ne.symm e)]
theorem zMM (l:List Bys):Contract Tryz.prog zC6 [.val (.one (.sl 1 (zQr l))),.val (.one (.clo zEu []))] {res:=.val (bv (okC l l.length))}:=by
 refine mkA zKS (base:=0) (fo rfl) (fun hfit=>?_)
 unfold F0 zFv
 refine goU ?_
 have hm:=zDp (k:=1) hfit.1
 rw [zAi] at hm
 refine zAn (fun i:Nat=>[(5,.pv (sv (if i=0 then [] else l.getD (i-1) []))),(7,.un),(10,.pv (iv i)),(11,.un),(25,.un)]) (fun i:Nat=>l.length-i) (fun i:Nat=>i≤l.length∧okC l i=true) (0) ?_ ⟨Nat.zero_le _,rfl⟩ ?_
 focus (exact leA)
 intro i ⟨hi,hok⟩
 refine goW ?_
 refine zAa (by rfl) trivial (fun h=>?_) (fun h=>?_)
 ·have hlt:i < l.length:=by simpa using h
  try simp (maxSteps:=2000000) only [go_sem,zPx _ _ hlt]
  repeat with_reducible refine zAP ?_
  refine zCu (by rfl) trivial (by repeat' constructor) (zJk _) ?_
  refine goW ?_
  refine zAo (by repeat' constructor) (zEB _) ?_
  refine goW ?_
  refine zQo (by simp (maxSteps:=2000000) only [go_sem];rfl) (by rfl) (by first|exact fun _=>trivial|exact fun h=>h) (by intro h;repeat' (first|exact trivial|exact h|refine And.intro ?_ ?_)) (fun _=>zJk _) ?_
  refine goW ?_
  rw [zUQ]
  refine zAa (by rfl) trivial (fun h2=>?_) (fun h2=>?_)
  ·refine goW ?_
   refine zAb rfl trivial (.inl ?_)
   congr 3
   cases hn:okC l l.length with
   |false=>rfl
   |true=>
    exfalso
    have h4:=zA0 hn hlt
    simp only [cOk,Bool.and_eq_true,Bool.or_eq_true,decide_eq_true_eq] at h4
    rw [h4.1] at h2
    by_cases h0:i=0
    ·subst h0
     cases hx:l.getD 0 [] with
     |nil=>rw [hx] at h4;simp [zCW] at h4
     |cons a r=>rw [hx] at h2;simp [Op.bytesLess] at h2
    ·rw [if_neg h0,h4.2.resolve_left h0] at h2
     simp at h2
  ·refine goW ?_
   refine zCu (by rfl) trivial (by repeat' constructor) (zJk _) ?_
   refine goW ?_
   refine ⟨i+1,by omega,⟨hlt,?_⟩,?_⟩
   ·rw [yIY,hok]
    simp only [Bool.true_and,cOk]
    cases hn:zCW (l.getD i []) with
    |false=>rw [hn] at h2;simp at h2
    |true=>
     rw [hn] at h2
     by_cases h0:i=0
     ·simp [h0]
     ·rw [if_neg h0] at h2
      simp at h2
      simp [h0,h2]
   ·exact leA
 ·refine goW ?_
  refine zAb rfl trivial (.inl ?_)
  congr 3
  have:i=l.length:=by simp at h;omega
  rw [←this];exact hok
def rOk (l:List (Bys×Bys)) (k:Nat):Bool:=zCW (l.getD k default).1&&(decide (k=0)||Op.bytesLess (l.getD (k-1) default).1 (l.getD k default).1)
def yAb (l:List (Bys×Bys)) (i:Nat):Bool:=(List.range i).all (rOk l)
abbrev yLl (l:List (Bys×Bys)):Bool:=yAb l l.length
theorem yCx {l:List (Bys×Bys)} {i:Nat}:yAb l (i+1)=(yAb l i&&rOk l i):=zFL
theorem zO4 (l:List (Bys×Bys)):Contract Tryz.prog zCz [.val (.one (.sl 2 (yBn l))),.val (.one (.clo zEv []))] {res:=.val (bv (yLl l))}:=by
 refine mkA zIo (base:=0) (fo rfl) (fun hfit=>?_)
 unfold F0 zEl
 refine goU ?_
 have hm:=zDp (k:=2) hfit.1
 rw [zAj] at hm
 refine zAn (fun i:Nat=>[(5,.pv (sv (if i=0 then [] else (l.getD (i-1) default).1))),(7,.un),(30,.un),(31,.un),(10,.pv (iv i)),(11,.un),(25,.un)]) (fun i:Nat=>l.length-i) (fun i:Nat=>i≤l.length∧yAb l i=true) (0) ?_ ⟨Nat.zero_le _,rfl⟩ ?_
 focus (exact leA)
 intro i ⟨hi,hok⟩
 refine goW ?_
 refine zAa (by rfl) trivial (fun h=>?_) (fun h=>?_)
 ·have hlt:i < l.length:=by simpa using h
  try simp (maxSteps:=2000000) only [go_sem,zPy _ _ hlt]
  repeat with_reducible refine zAP ?_
  refine zCu (by rfl) trivial (by repeat' constructor) (zJl _ _) ?_
  refine goW ?_
  refine zAo (by repeat' constructor) (zEB _) ?_
  refine goW ?_
  refine zQo (by simp (maxSteps:=2000000) only [go_sem];rfl) (by rfl) (by first|exact fun _=>trivial|exact fun h=>h) (by intro h;repeat' (first|exact trivial|exact h|refine And.intro ?_ ?_)) (fun _=>zJl _ _) ?_
  refine goW ?_
  rw [zUQ]
  refine zAa (by rfl) trivial (fun h2=>?_) (fun h2=>?_)
  ·refine goW ?_
   refine zAb rfl trivial (.inl ?_)
   congr 3
   cases hn:yLl l with
   |false=>rfl
   |true=>
    exfalso
    have h4:=zA0 hn hlt
    simp only [rOk,Bool.and_eq_true,Bool.or_eq_true,decide_eq_true_eq] at h4
    rw [h4.1] at h2
    by_cases h0:i=0
    ·subst h0
     cases hx:(l.getD 0 default).1 with
     |nil=>rw [hx] at h4;simp [zCW] at h4
     |cons a r=>rw [hx] at h2;simp [Op.bytesLess] at h2
    ·rw [if_neg h0,h4.2.resolve_left h0] at h2
     simp at h2
  ·refine goW ?_
   refine zCu (by rfl) trivial (by repeat' constructor) (zJl _ _) ?_
   refine goW ?_
   refine ⟨i+1,by omega,⟨hlt,?_⟩,?_⟩
   ·rw [yCx,hok]
    simp only [Bool.true_and,rOk]
    cases hn:zCW ((l.getD i default).1) with
    |false=>rw [hn] at h2;simp at h2
    |true=>
     rw [hn] at h2
     by_cases h0:i=0
     ·simp [h0]
     ·rw [if_neg h0] at h2
      simp at h2
      simp [h0,h2]
   ·exact leA
 ·refine goW ?_
  refine zAb rfl trivial (.inl ?_)
  congr 3
  have:i=l.length:=by simp at h;omega
  subst this;exact hok
def zTX (l:List (Bys×Bys)) (i:Nat):Bool:=!zH6 (l.getD i default).2
def yAc (l:List (Bys×Bys)):Int:=match (List.range l.length).find? (zTX l) with|some i=>i|none=>-1
theorem zHg (l:List (Bys×Bys)):Contract Tryz.prog zA3 [.val (.one (.sl 2 (yBn l))),.val (.one (.clo zDs []))] {res:=.val (iv (yAc l))}:=by
 refine mkA zDe (base:=0) (fo rfl) (fun hfit=>?_)
 unfold F0 zCc
 refine goU ?_
 have hm:=zDp (k:=2) hfit.1
 rw [zAj] at hm
 refine zAn (fun i:Nat=>[(5,.un),(8,.pv (iv i)),(9,.un),(16,.un)]) (fun i:Nat=>l.length-i) (fun i:Nat=>i≤l.length∧∀ k,k < i→zTX l k=false) (0) ?_ ⟨Nat.zero_le _,fun k hk=>by omega⟩ ?_
 focus (exact leA)
 intro i ⟨hi,hok⟩
 refine goW ?_
 refine zAa (by rfl) trivial (fun h=>?_) (fun h=>?_)
 ·have hlt:i < l.length:=by simpa using h
  try simp (maxSteps:=2000000) only [go_sem,zPy _ _ hlt]
  repeat with_reducible refine zAP ?_
  refine zCu (by rfl) trivial (by repeat' constructor) (yAa _ _) ?_
  refine goW ?_
  refine zAa (by rfl) trivial (fun h2=>?_) (fun h2=>?_)
  ·refine goW ?_
   refine zAb rfl trivial (.inl ?_)
   congr 3
   have h3:(List.range l.length).find? (zTX l)=some i:=List.find?_range_eq_some.2 ⟨h2,List.mem_range.2 hlt,fun j hj=>by rw [hok j hj];rfl⟩
   rw [yAc,h3]
  ·refine goW ?_
   refine ⟨i+1,by omega,⟨hlt,fun k hk=>?_⟩,?_⟩
   ·by_cases e:k=i
    ·rw [e];exact h2
    ·exact hok k (by omega)
   ·exact leA
 ·refine goW ?_
  refine zAb rfl trivial (.inl ?_)
  congr 3
  have:i=l.length:=by simp at h;omega
  have h3:(List.range l.length).find? (zTX l)=none:=List.find?_eq_none.2 fun x hx=>by rw [hok x (by rw [this];exact List.mem_range.1 hx)];simp
  rw [yAc,h3]
def yAd (l:List (Bys×Bys)):Bool:=(List.range l.length).any (zTX l)
theorem yFp (l:List (Bys×Bys)):decide (0≤yAc l)=yAd l:=by
 unfold yAc yAd
 cases h:(List.range l.length).find? (zTX l) with
 |none=>
  have:=List.find?_eq_none.1 h
  have h2:(List.range l.length).any (zTX l)=false:=by
   rw [List.any_eq_false];exact this
  rw [h2];rfl
 |some i=>
  have:=List.find?_range_eq_some.1 h
  have h2:(List.range l.length).any (zTX l)=true:=List.any_eq_true.2 ⟨i,this.2.1,this.1⟩
  rw [h2]
  simp
theorem zFe (l:List (Bys×Bys)):Contract Tryz.prog zBF [.val (.one (.sl 2 (yBn l))),.val (.one (.clo zDs []))] {res:=.val (bv (yAd l))}:=by
 refine mkA zEW (base:=0) (fo rfl) (fun hfit=>?_)
 unfold F0 zCM
 refine goU ?_
 refine zAo (by repeat' constructor) (zHg _) ?_
 refine goW ?_
 refine goW ?_
 refine zAb rfl trivial (.inl ?_)
 congr 3
 rw [←yFp]
theorem yFq (l:List (Bys×Bys)):okA l l.length=(yLl l&&!yAd l):=by
 rw [Bool.eq_iff_iff]
 simp only [okA,yAb,yAd,Bool.and_eq_true,Bool.not_eq_true',List.all_eq_true,List.any_eq_false,List.mem_range]
 constructor
 ·intro h
  refine ⟨fun k hk=>?_,fun k hk=>?_⟩
  ·have:=h k hk
   simp only [aOk,rOk,Bool.and_eq_true] at this ⊢
   exact ⟨this.1.1,this.2⟩
  ·have:=h k hk
   simp only [aOk,zTX,Bool.and_eq_true] at this ⊢
   rw [this.1.2];simp
 ·intro ⟨h1,h2⟩ k hk
  have h3:=h1 k hk
  have h4:=h2 k hk
  simp only [aOk,rOk,zTX,Bool.and_eq_true,Bool.not_eq_true,Bool.not_eq_false'] at h3 h4 ⊢
  exact ⟨⟨h3.1,h4⟩,h3.2⟩
theorem zNZ (x:Nd):Contract Tryz.prog zG7 [.val (.agg (ndV x))] {res:=.val (bv (zCb x))}:=by
 unfold ndV
 refine mkA yBv (base:=0) (fo rfl) (fun hfit=>?_)
 unfold F0 zUD
 refine goU ?_
 refine zAo (by repeat' constructor) (zEB _) ?_
 refine goW ?_
 apply zAr (h2:=fun _=>zEB _)
 ·(simp (maxSteps:=2000000) only [go_sem];rfl)
 ·intro h;repeat' (first|exact trivial|exact h|refine And.intro ?_ ?_)
 refine goW ?_
 apply zAr (h2:=fun _=>zMM _)
 ·(simp (maxSteps:=2000000) only [go_sem];rfl)
 ·intro h;repeat' (first|exact trivial|exact h|refine And.intro ?_ ?_)
 refine goW ?_
 apply zAr (h2:=fun _=>zO4 _)
 ·(simp (maxSteps:=2000000) only [go_sem];rfl)
 ·intro h;repeat' (first|exact trivial|exact h|refine And.intro ?_ ?_)
 refine goW ?_
 apply zAr (h2:=fun _=>zFe _)
 ·(simp (maxSteps:=2000000) only [go_sem];rfl)
 ·intro h;repeat' (first|exact trivial|exact h|refine And.intro ?_ ?_)
 refine goW ?_
 refine zAb rfl trivial (.inl ?_)
 congr 3
 simp only [zCb,yFq]
 grind
end Go.Hx
end

section
set_option maxRecDepth 100000
set_option linter.unusedSimpArgs false
namespace Go.Hx
open Go.Proofs
variable [Glob] [GlobL]
attribute [local go_sem] zAk zAi zAj zAe ndV zAg
attribute [local go_sem] reduceCtorEq Nat.reduceAdd Nat.reduceEqDiff reduceIte Nat.reduceLeDiff Nat.reduceLT Nat.reduceSub
def zN0 (u:Int) (c:List Int):List Int:=c.dropWhile fun x=>decide (x≠u)
theorem zRK {u:Int}:∀ c:List Int,(zN0 u c=[])↔u∉c
 |[]=>by simp [zN0]
 |x::c=>by
  simp only [zN0,List.dropWhile_cons]
  by_cases h:x=u
  ·simp [h]
  ·have:=zRK (u:=u) c
   simp only [zN0] at this
   simp only [ne_eq,decide_not] at this
   simp [h,this,Ne.symm h]
theorem zRL {d:List Nd} {u:Int}:∀ (f:Nat) (k:Int),(∀ j:Nat,(j:Int)≤k→zAB d j < j)→k < f→u∈zBk d f k→∀ g:Nat,u < g→zN0 u (zBk d f k)=zBk d g u
 |0,k,_,_,hu=>by simp [zBk] at hu
 |f+1,k,h,hf,hu=>by
  intro g hg
  have hb:=zDT (f+1) k h _ hu
  simp only [zBk] at hu ⊢
  split at hu
  ·cases hu
  ·rename_i hk
   rw [if_neg hk]
   simp only [zN0,List.dropWhile_cons]
   by_cases e:k=u
   ·subst e
    simp only [ne_eq,not_true_eq_false,decide_false,Bool.false_eq_true,if_false]
    have:k::zBk d f (zAB d k.toNat)=zBk d (f+1) k:=by simp [zBk,hk]
    rw [this]
    exact zGg _ _ _ h hf hg
   ·simp only [ne_eq,e,not_false_eq_true,decide_true,if_true]
    have h1:=h k.toNat (by omega)
    exact zRL f (zAB d k.toNat) (fun j hj=>h j (by omega)) (by omega) ((List.mem_cons.1 hu).resolve_left (Ne.symm e)) g hg
theorem zUR (c:List Int) (x:Int):(zAH ((x::c).reverse)).getD c.length []=[bI x]:=by
 simp [zAH]
theorem zUS (c:List Int) (x:Int):(zAH ((x::c).reverse)).take c.length=zAH c.reverse:=by
 simp [zAH]
theorem yGX:zAH []=[]:=rfl
theorem yAe {d:List Nd} {i:Nat}:yHN d i=((decide (i≠0)||decide (zAB d i=-1))&&(decide (i=0)||!decide (zN0 (zAB d i) (zBk d i ((i:Int)-1))=[]))):=by
 unfold yHN
 by_cases h:i=0
 ·simp [h]
 ·have:=zRK (u:=zAB d i) (zBk d i ((i:Int)-1))
  simp only [h,if_false,ne_eq,not_false_eq_true,decide_true,Bool.true_or,Bool.true_and,decide_false,Bool.false_or,this]
  simp
theorem yAf {d:List Nd}:∀ (f:Nat) (k:Int),(zBk d f k).length≤f
 |0,_=>by simp [zBk]
 |f+1,k=>by
  simp only [zBk]
  split
  ·simp
  ·have:=yAf (d:=d) f (zAB d k.toNat)
   simp;omega
theorem yGY (n:Nat):((((n+1:Nat):Int))-1).toNat=n:=by omega
theorem yGZ {d:List Nd} {i:Nat} (hl:1≤d.length∧d.length≤64) (hi:i < d.length) (h:zVH d i=false):zAd d=1:=by
 have:zCF d d.length=false:=by
  cases hd:zCF d d.length with
  |false=>rfl
  |true=>rw [zA0 hd hi] at h;cases h
 simp [zAd,hl,this]
theorem zDV (d:List Nd):Contract Tryz.prog zB9 [.val (zCv d)] {res:=.val (iv (zAd d))}:=by
 unfold zCv
 refine mkA zYV (base:=0) (fo rfl) (fun hfit=>?_)
 unfold F0 zQL
 refine goU ?_
 refine zAa (by rfl) trivial (fun h=>?_) (fun h=>?_)
 ·refine goW ?_
  refine zAb rfl trivial (.inl ?_)
  congr 3
  have hl:¬ (1≤d.length∧d.length≤64):=by
   simp at h;omega
  simp [zAd,hl]
 have hl:1≤d.length∧d.length≤64:=by
  simp at h;omega
 refine goW ?_
 refine zAn (fun i:Nat=>[(3,.stk zAs 1 (zAH (zBk d i ((i:Int)-1)).reverse)),(4,.un),(5,.un),(19,.pv (iv i)),(20,.un),(37,.un),(63,.un),(69,.un),(70,.un),(71,.un),(72,.un),(73,.un)]) (fun i:Nat=>d.length-i) (fun i:Nat=>i≤d.length∧zCF d i=true) (0) ?_ ⟨Nat.zero_le _,rfl⟩ ?_
 focus (exact leA)
 intro i ⟨hi,hok⟩
 refine goW ?_
 refine zAa (by rfl) trivial (fun h2=>?_) (fun h2=>?_)
 ·have hlt:i < d.length:=by simpa using h2
  try simp (maxSteps:=2000000) only [go_sem,zBo _ _ hlt]
  repeat with_reducible refine zAP ?_
  have hcl:=yAf (d:=d) i ((i:Int)-1)
  have hx:zAB d i=(d.getD i default).up:=rfl
  refine zAn (fun c:List Int=>[(3,.stk zAs 1 (zAH c.reverse)),(37,.un)]) (fun c:List Int=>c.length) (fun c:List Int=>c.length≤i∧zN0 (zAB d i) c=zN0 (zAB d i) (zBk d i ((i:Int)-1))) ((zBk d i ((i:Int)-1))) ?_ ⟨hcl,rfl⟩ ?_
  focus (exact leA)
  intro c ⟨hcl,hc⟩
  cases c with
  |nil=>
   have hpop:zN0 (zAB d i) (zBk d i ((i:Int)-1))=[]:=by rw [←hc];rfl
   have hup:=yAe (d:=d) (i:=i)
   rw [hpop] at hup
   try simp (maxSteps:=2000000) only [go_sem,List.reverse_nil,yGX,List.getD_nil,List.headD_nil]
   repeat with_reducible refine zAP ?_
   refine zAa (by rfl) trivial (fun h3=>?_) (fun h3=>?_)
   ·simp at h3
   refine goW ?_
   refine zYx (by repeat' constructor) (zNZ (d.getD i default)) ?_
   refine goW ?_
   refine zAa (by rfl) trivial (fun h4=>?_) (fun h4=>?_)
   ·refine goW ?_
    refine zAb rfl trivial (.inl ?_)
    congr 3
    refine yGZ hl hlt ?_
    rw [zVH,hup]
    grind
   ·refine goW ?_
    have h5:i=0:=by grind
    have h6:zVH d i=true:=by
     rw [zVH,hup]
     grind
    refine ⟨i+1,by omega,⟨by omega,by rw [zUN,hok,h6];rfl⟩,?_⟩
    simp (maxSteps:=2000000) only [go_sem,zAS,zBu,zCR,zAT]
    all_goals (repeat' (first|exact trivial|exact zBa (by omega)|exact zAX rfl|exact zBb rfl|exact zBB|exact le_refl _|refine And.intro ?_ ?_))
    refine zBb ?_
    subst h5
    have:zAB d 0=-1:=by grind
    simp [zBk,this,zAH]
  |cons x c=>
   have hlen:c.length+1≤64:=by simp at hcl;omega
   try simp (maxSteps:=2000000) only [go_sem,List.length_reverse,yGY,zUR,zUS]
   repeat with_reducible refine zAP ?_
   refine zAa (by rfl) trivial (fun h3=>?_) (fun h3=>?_)
   ·try simp (maxSteps:=2000000) only [go_sem,List.length_reverse,yGY,zUR,zUS]
    repeat with_reducible refine zAP ?_
    refine ⟨c,by omega,⟨by simp at hcl;omega,?_⟩,?_⟩
    ·rw [←hc]
     simp only [zN0,List.dropWhile_cons]
     grind
    ·exact leA
   have hxu:x=zAB d i:=by grind
   have hpop:zN0 (zAB d i) (zBk d i ((i:Int)-1))=x::c:=by rw [←hc];simp [zN0,hxu]
   have hup:=yAe (d:=d) (i:=i)
   rw [hpop] at hup
   try simp (maxSteps:=2000000) only [go_sem,List.length_reverse]
   repeat with_reducible refine zAP ?_
   refine zYx (by repeat' constructor) (zNZ (d.getD i default)) ?_
   refine goW ?_
   refine zAa (by rfl) trivial (fun h4=>?_) (fun h4=>?_)
   ·refine goW ?_
    refine zAb rfl trivial (.inl ?_)
    congr 3
    refine yGZ hl hlt ?_
    rw [zVH,hup]
    grind
   ·refine goW ?_
    have hmem:zAB d i∈zBk d i ((i:Int)-1):=by
     have:=zRK (u:=zAB d i) (zBk d i ((i:Int)-1))
     rw [hpop] at this
     simpa using this
    have h5:i≠0:=by intro h0;subst h0;simp [zBk] at hmem
    have h6:zVH d i=true:=by
     rw [zVH,hup]
     grind
    refine ⟨i+1,by omega,⟨by omega,by rw [zUN,hok,h6];rfl⟩,?_⟩
    simp (maxSteps:=2000000) only [go_sem,zAS,zBu,zCR,zAT]
    all_goals (repeat' (first|exact trivial|exact zBa (by omega)|exact zAX rfl|exact zBb rfl|exact zBB|exact le_refl _|refine And.intro ?_ ?_))
    refine zBb ?_
    have hups:∀ j:Nat,(j:Int)≤(i:Int)-1→zAB d j < j:=fun j hj=>(zA1 hok j (by omega)).2
    have hb:=zDT i ((i:Int)-1) hups _ hmem
    have hch:=zRL i ((i:Int)-1) hups (by omega) hmem i (by omega)
    rw [hpop] at hch
    have:zBk d (i+1) (((i+1:Nat):Int)-1)=(i:Int)::x::c:=by
     rw [show (((i+1:Nat):Int)-1)=(i:Int) by omega]
     simp only [zBk]
     rw [if_neg (by omega),hch]
     simp
    rw [this]
    simp [zAH]
 ·refine goW ?_
  refine zAb rfl trivial (.inl ?_)
  congr 3
  have hi2:i=d.length:=by simp at h2;omega
  subst hi2
  simp [zAd,hl,hok]
end Go.Hx
end

section
set_option maxRecDepth 100000
set_option linter.unusedSimpArgs false
namespace Go.Hx
open Go.Proofs
variable [Glob] [GlobL]
attribute [local go_sem] zAk zAi zAj zAe ndV zAg zAf fdV shV zBC zA2 zBy zBx
attribute [local go_sem] reduceCtorEq Nat.reduceAdd Nat.reduceEqDiff reduceIte Nat.reduceLeDiff Nat.reduceLT Nat.reduceSub
theorem yG1 (N:Nat) (ih:yO1 Tryz.prog N) (s:St) (d K:Nat) (c:Fd) (hN:SizeOf.sizeOf s≤N+1) (hd:d≤3) (hc:c.le K) (hK:K+bdS d≤1000000000):Contract Tryz.prog zCI [.io (fdV c),.val (.agg (stV s)),.val (iv d)] {res:=.tup [],io:=fdV (c.add (ntS s d))}:=by
 rw [zUA]
 unfold fdV
 refine mkA zNR (base:=121) ⟨Nat.le_of_ble_eq_true rfl,Nat.le_of_ble_eq_true rfl,Nat.le_of_ble_eq_true rfl,⟨rfl,rfl⟩⟩ (fun hfit=>?_)
 unfold F0 zHo
 refine goU ?_
 have hbs:bdS d=1+6 * bdT d:=rfl
 have hbt:bdT d=5+bd (d+1):=rfl
 refine zAa (by rfl) trivial (fun h=>?_) (fun h=>?_)
 ·have e:ntS s d=fM true:=by rw [yJJ,if_pos (by simp at h;omega)]
  have hm:=hc.m
  refine goW ?_
  refine zDS (by repeat' constructor) (zXH c true (by omega)) ?_
  refine goW ?_
  rw [e]
  exact zVG rfl rfl
 ·have hl6:s.tests.length≤6:=by simp at h;omega
  have e:ntS s d=(fF (!(s.tag==[])&&!zCW s.tag)).add (yDZ s.tests d):=by rw [yJJ,if_neg (by omega)]
  rw [e]
  refine goW ?_
  have hf:=hc.f
  apply zAr (h2:=fun _=>zEB s.tag)
  ·(simp (maxSteps:=2000000) only [go_sem];rfl)
  ·intro h;repeat' (first|exact trivial|exact h|refine And.intro ?_ ?_)
  refine goW ?_
  refine zDS (by repeat' constructor) (zPD c (bif !(s.tag==[]) then !zCW s.tag else false) (by omega)) ?_
  try simp (maxSteps:=2000000) only [go_sem,Bool.cond_false_right]
  repeat with_reducible refine zAP ?_
  obtain ⟨c1,hc1⟩:∃ c1,c1=c.add (fF (!(s.tag==[])&&!zCW s.tag)):=⟨_,rfl⟩
  have hc2:c1.le (K+1):=by rw [hc1];exact hc.le_add (zYH _)
  rw [←Fd.add_assoc,←hc1]
  have hK0:K+1+(s.tests.length-0) * bdT d≤1000000000:=by
   have:(s.tests.length-0) * bdT d≤6 * bdT d:=Nat.mul_le_mul_right _ (by omega)
   omega
  refine zAn (fun x:Nat×Fd=>[(7,.un),(8,.un),(9,.un),(30,.pv (iv x.1)),(31,.un),(113,.un),(122,.pv (.one (bI x.2.f))),(123,.pv (.one (bI x.2.m))),(124,.pv (.one (bI x.2.r))),(125,.pv (.one (bI x.2.k)))]) (fun x:Nat×Fd=>s.tests.length-x.1) (fun x:Nat×Fd=>x.1≤s.tests.length∧(∃ K',x.2.le K'∧K'+(s.tests.length-x.1) * bdT d≤1000000000)∧x.2.add (yDZ (s.tests.drop x.1) d)=c1.add (yDZ s.tests d)) ((0,c1)) ?_ ⟨Nat.zero_le _,⟨K+1,hc2,hK0⟩,by simp⟩ ?_
  focus (exact leA)
  rintro ⟨i,a⟩ ⟨hi,⟨K',ha,hK'⟩,hsum⟩
  simp only at hi ha hK' hsum
  refine goW ?_
  refine zAa (by rfl) trivial (fun h2=>?_) (fun h2=>?_)
  ·have hil:i < s.tests.length:=by simp at h2;omega
   rw [zDG (d:=default) hil] at hsum
   obtain ⟨t,ht⟩:∃ t,t=s.tests.getD i default:=⟨_,rfl⟩
   rw [←ht] at hsum
   have hg:=zVK s.tests i hil
   rw [←ht,zOj] at hg
   have hsz:SizeOf.sizeOf t.list≤N:=by
    have h3:=yK2 t
    have h4:=yOS hil
    rw [←ht] at h4
    have h5:=yIw s
    omega
   have hmul:(s.tests.length-i) * bdT d=bdT d+(s.tests.length-(i+1)) * bdT d:=by
    have:s.tests.length-i=(s.tests.length-(i+1))+1:=by omega
    rw [this,Nat.add_mul];omega
   have hbp:=zVP (4-(d+1))
   have hbe:bd (d+1)=bdF (4-(d+1)):=rfl
   simp only [yDZ,yNn,yHR] at hsum
   try simp (maxSteps:=2000000) only [go_sem,hg]
   repeat with_reducible refine zAP ?_
   refine zAR (by repeat' constructor) (yGQ t.kind) ?_
   try simp (maxSteps:=2000000) only [go_sem,hg]
   repeat with_reducible refine zAP ?_
   have a1:=ha.k
   refine zDS (by repeat' constructor) (yD4 a (!kOk t.kind) (by omega)) ?_
   refine goW ?_
   obtain ⟨b1,hb1⟩:∃ b1,b1=a.add (fK (!kOk t.kind)):=⟨_,rfl⟩
   have l1:b1.le (K'+1):=by rw [hb1];exact ha.le_add (yK5 _)
   rw [←hb1]
   have a2:=l1.f
   apply zAr (h2:=fun _=>zEB t.name)
   ·(simp (maxSteps:=2000000) only [go_sem];rfl)
   ·intro h;repeat' (first|exact trivial|exact h|refine And.intro ?_ ?_)
   refine goW ?_
   refine zDS (by repeat' constructor) (zPD b1 _ (by omega)) ?_
   try simp (maxSteps:=2000000) only [go_sem,Bool.cond_false_right,Bool.cond_true_left]
   repeat with_reducible refine zAP ?_
   obtain ⟨b2,hb2⟩:∃ b2,b2=b1.add (fF (yJH t)):=⟨_,rfl⟩
   have l2:b2.le (K'+1+1):=by rw [hb2];exact l1.le_add (zYH _)
   unfold yJH at hb2
   rw [←hb2]
   have a3:=l2.f
   apply zAr (h2:=fun _=>zRI t.value)
   ·(simp (maxSteps:=2000000) only [go_sem];rfl)
   ·intro h;repeat' (first|exact trivial|exact h|refine And.intro ?_ ?_)
   refine goW ?_
   refine zDS (by repeat' constructor) (zPD b2 _ (by omega)) ?_
   try simp (maxSteps:=2000000) only [go_sem,Bool.cond_false_right,Bool.cond_true_left]
   repeat with_reducible refine zAP ?_
   obtain ⟨b3,hb3⟩:∃ b3,b3=b2.add (fF (yJI t)):=⟨_,rfl⟩
   have l3:b3.le (K'+1+1+1):=by rw [hb3];exact l2.le_add (zYH _)
   unfold yJI at hb3
   rw [←hb3]
   have a4:=l3.f
   have e3:decide (0 < (t.list.length:Int))=decide (0 < t.list.length):=decide_eq_decide.2 (by omega)
   refine zDS (by repeat' constructor) (zPD b3 _ (by omega)) ?_
   try simp (maxSteps:=2000000) only [go_sem,Bool.cond_false_right,Bool.cond_true_left,e3]
   repeat with_reducible refine zAP ?_
   obtain ⟨b4,hb4⟩:∃ b4,b4=b3.add (fF (yIz t)):=⟨_,rfl⟩
   have l4:b4.le (K'+1+1+1+1):=by rw [hb4];exact l3.le_add (zYH _)
   unfold yIz at hb4
   rw [←hb4]
   have a5:=l4.r
   refine zAo (by repeat' constructor) (zRO t.na t.nb) ?_
   refine goW ?_
   refine zDS (by repeat' constructor) (yIQ b4 _ (by omega)) ?_
   refine goW ?_
   obtain ⟨b5,hb5⟩:∃ b5,b5=b4.add (fR (zVO t.na t.nb != 0)):=⟨_,rfl⟩
   have l5:b5.le (K'+1+1+1+1+1):=by rw [hb5];exact l4.le_add (yNr _)
   rw [←hb5]
   have hT:b5=a.add (yHR t):=by
    rw [hb5,hb4,hb3,hb2,hb1]
    simp only [yHR,kOk,yJH,yJI,yIz,Fd.add_assoc]
    congr 6
   refine zAa (by rfl) trivial (fun h3=>?_) (fun h3=>?_)
   ·rw [if_pos h3,←Fd.add_assoc,←Fd.add_assoc] at hsum
    have hst:=ih.1 t.list (d+1) (K'+5) b5 hsz (by omega) l5 (by omega)
    unfold fdV zBC at hst
    rw [show ((d+1:Nat):Int)=(d:Int)+1 by omega] at hst
    refine goW ?_
    refine zDS (by repeat' constructor) (hst) ?_
    refine goW ?_
    refine ⟨(i+1,b5.add (ntL t.list (d+1))),by simp only;omega,⟨by simp only;omega,⟨K'+5+bd (d+1),l5.le_add (b_L _ _),by simp only;omega⟩,?_⟩,?_⟩
    ·simp only
     rw [←hsum,hT]
     rfl
    ·exact leA
   ·rw [if_neg (by rw [h3];simp)] at hsum
    refine goW ?_
    refine ⟨(i+1,b5),by simp only;omega,⟨by simp only;omega,⟨K'+5,l5,by simp only;omega⟩,?_⟩,?_⟩
    ·simp only
     rw [←hsum,hT]
     simp only [yHR,Fd.add_assoc,Fd.zero_add]
    ·exact leA
  ·have hil:i=s.tests.length:=by simp at h2;omega
   subst hil
   rw [List.drop_length] at hsum
   refine goW ?_
   rw [←hsum]
   exact zCp rfl rfl
theorem yG2 (l:List Pt):0 < SizeOf.sizeOf l:=by cases l<;>simp<;>omega
theorem yG3 (s:St):0 < SizeOf.sizeOf s:=by cases s;simp only [St.mk.sizeOf_spec];omega
theorem zXQ:∀ N,yO1 Tryz.prog N
 |0=>⟨fun l d K c h=>by have:=yG2 l;omega,fun s d K c h=>by have:=yG3 s;omega⟩
 |N+1=>⟨fun l d K c h1 h2 h3 h4=>yGR N (zXQ N) l d K c h1 h2 h3 h4,fun s d K c h1 h2 h3 h4=>yG1 N (zXQ N) s d K c h1 h2 h3 h4⟩
theorem zO5 (l:List Pt):Contract Tryz.prog zBD [.io (fdV fd0),.val (zBC l),.val (iv 1)] {res:=.tup [],io:=fdV (ntL l 1)}:=by
 have h:=(zXQ (SizeOf.sizeOf l)).1 l 1 0 fd0 (Nat.le_refl _) (by omega) (zYI 0) (by have:=yNq;omega)
 rw [Fd.zero_add] at h
 exact h
theorem zOy (l:List Pt):Contract Tryz.prog zEw [.val (zBC l)] {res:=.val (iv (zB8 l))}:=by
 rw [←yNp]
 have hc:=zO5 l
 obtain ⟨c,hcc⟩:∃ c,c=ntL l 1:=⟨_,rfl⟩
 rw [←hcc] at hc ⊢
 unfold zBC
 refine mkA zWL (base:=0) (fo rfl) (fun hfit=>?_)
 unfold F0 zOs
 refine goU ?_
 unfold fdV zBC at hc
 refine zDS (by repeat' constructor) (hc) ?_
 refine goW ?_
 refine zAo (by repeat' constructor) (zZ6) ?_
 refine goW ?_
 refine zAn (fun i:Nat=>[(5,.un),(12,.pv (iv i)),(13,.un),(21,.un)]) (fun i:Nat=>4-i) (fun i:Nat=>i≤4∧(1≤i→c.m=0)∧(2≤i→c.k=0)∧(3≤i→c.f=0)∧(4≤i→c.r=0)) (0) ?_ ⟨by omega,by omega,by omega,by omega,by omega⟩ ?_
 focus (exact leA)
 rintro i ⟨hi,h1,h2,h3,h4⟩
 refine goW ?_
 refine zAa (by rfl) trivial (fun h=>?_) (fun h=>?_)
 ·have hlt:i < 4:=by simp at h;omega
  have hcase:i=0∨i=1∨i=2∨i=3:=by omega
  rcases hcase with rfl|rfl|rfl|rfl
  ·try simp (maxSteps:=2000000) only [go_sem,Int.reduceToNat,Int.toNat_natCast,List.getD_cons_zero,List.getD_cons_succ,PV.norm,Int.cast_ofNat_Int]
   repeat with_reducible refine zAP ?_
   refine zAa (by rfl) trivial (fun h5=>?_) (fun h5=>?_)
   ·refine goW ?_
    refine zAb rfl trivial (.inl ?_)
    congr 3
    have h6:0 < c.m:=by simp at h5;omega
    unfold yK3
    simp [ h6]
   ·refine goW ?_
    have h6:c.m=0:=by simp at h5;omega
    refine ⟨1,by omega,⟨by omega,fun _=>h6,by omega,by omega,by omega⟩,?_⟩
    exact leA
  ·try simp (maxSteps:=2000000) only [go_sem,Int.reduceToNat,Int.toNat_natCast,List.getD_cons_zero,List.getD_cons_succ,PV.norm,Int.cast_ofNat_Int]
   repeat with_reducible refine zAP ?_
   refine zAa (by rfl) trivial (fun h5=>?_) (fun h5=>?_)
   ·refine goW ?_
    refine zAb rfl trivial (.inl ?_)
    congr 3
    have h6:0 < c.k:=by simp at h5;omega
    unfold yK3
    simp [h1 (by omega),  h6]
   ·refine goW ?_
    have h6:c.k=0:=by simp at h5;omega
    refine ⟨2,by omega,⟨by omega,fun _=>h1 (by omega),fun _=>h6,by omega,by omega⟩,?_⟩
    exact leA
  ·try simp (maxSteps:=2000000) only [go_sem,Int.reduceToNat,Int.toNat_natCast,List.getD_cons_zero,List.getD_cons_succ,PV.norm,Int.cast_ofNat_Int]
   repeat with_reducible refine zAP ?_
   refine zAa (by rfl) trivial (fun h5=>?_) (fun h5=>?_)
   ·refine goW ?_
    refine zAb rfl trivial (.inl ?_)
    congr 3
    have h6:0 < c.f:=by simp at h5;omega
    unfold yK3
    simp [h1 (by omega),h2 (by omega),  h6]
   ·refine goW ?_
    have h6:c.f=0:=by simp at h5;omega
    refine ⟨3,by omega,⟨by omega,fun _=>h1 (by omega),fun _=>h2 (by omega),fun _=>h6,by omega⟩,?_⟩
    exact leA
  ·try simp (maxSteps:=2000000) only [go_sem,Int.reduceToNat,Int.toNat_natCast,List.getD_cons_zero,List.getD_cons_succ,PV.norm,Int.cast_ofNat_Int]
   repeat with_reducible refine zAP ?_
   refine zAa (by rfl) trivial (fun h5=>?_) (fun h5=>?_)
   ·refine goW ?_
    refine zAb rfl trivial (.inl ?_)
    congr 3
    have h6:0 < c.r:=by simp at h5;omega
    unfold yK3
    simp [h1 (by omega),h2 (by omega),h3 (by omega),  h6]
   ·refine goW ?_
    have h6:c.r=0:=by simp at h5;omega
    refine ⟨4,by omega,⟨by omega,fun _=>h1 (by omega),fun _=>h2 (by omega),fun _=>h3 (by omega),fun _=>h6⟩,?_⟩
    exact leA
 ·have hi4:i=4:=by simp at h;omega
  refine goW ?_
  refine zAb rfl trivial (.inl ?_)
  congr 3
  unfold yK3
  simp [h1 (by omega),h2 (by omega),h3 (by omega),h4 (by omega)]
end Go.Hx
end

section
set_option maxRecDepth 100000
set_option linter.unusedSimpArgs false
namespace Go.Hx
open Go.Proofs
variable [Glob] [GlobL]
attribute [local go_sem] zAk zAi zAj zAe ndV zAg zAf zBC zA2 zBy zBx
end Go.Hx
end

section
set_option maxRecDepth 100000
set_option linter.unusedSimpArgs false
namespace Go.Hx
open Go.Proofs
variable [Glob] [GlobL]
attribute [local go_sem] zAk zAi zAj zAe ndV zAg zAf zBC zA2 zBy zBx
end Go.Hx
end

section
set_option maxRecDepth 100000
set_option linter.unusedSimpArgs false
set_option maxHeartbeats 2000000
namespace Go.Hx
open Go.Proofs
variable [Glob] [GlobL]
attribute [local go_sem] zAk zAi zAj zAe ndV zAg zAf zBC zA2 zBy zBx
end Go.Hx
end

section
set_option maxRecDepth 100000
set_option linter.unusedSimpArgs false
namespace Go.Hx
open Go.Proofs
variable [Glob] [GlobL]
attribute [local go_sem] zAk zAi zAj zAe ndV zAg zAf zCv List.take_nil zA2
def zXR (d:List Nd) (l:List Pt) (k:Nat):List Int:=((List.range k).filter (lM d l)).map Int.ofNat
def yLT (d:List Nd) (l:List Pt):List Int:=zXR d l d.length
def zMO (d:List Nd) (l:List Pt) (n:Int):Int:=if zAd d≠0 then zAd d else if zB8 l≠0 then zB8 l else zCB d n
theorem yND {d:List Nd} (hd:zAd d=0):1≤d.length∧d.length≤64∧zCF d d.length=true:=by
 unfold zAd at hd
 split at hd
 ·rename_i h
  split at hd
  ·rename_i h';exact ⟨h.1,h.2,h'⟩
  ·omega
 ·omega
theorem zUT {d:List Nd} {l:List Pt} {k:Nat}:zXR d l (k+1)=if lM d l k then zXR d l k++[(k:Int)] else zXR d l k:=by
 unfold zXR
 rw [List.range_succ,List.filter_append,List.map_append]
 by_cases h:lM d l k=true<;>simp [List.filter,h]
theorem yAi {d:List Nd} {l:List Pt} (k:Nat):(zXR d l k).length≤k:=by
 unfold zXR
 rw [List.length_map]
 exact Nat.le_trans (List.length_filter_le _ _) (by simp)
end Go.Hx
end

section
set_option maxRecDepth 100000
set_option linter.unusedSimpArgs false
namespace Go.Hx
open Go.Proofs
variable [Glob] [GlobL]
attribute [local go_sem] zAk zAi zAj zAe ndV zAg zAf zCv atV OVal.cells zVc List.drop_succ_cons List.drop_zero List.take_succ_cons List.take_zero List.getD_nil zUx zFk Nat.sub_zero List.map_nil List.map_cons yG5 yG6 zBi zKy zOa zAl
attribute [local go_sem ↓] yGs yGt yNh yNg yNi
attribute [local go_sem] reduceCtorEq Nat.reduceAdd Nat.reduceEqDiff reduceIte Nat.reduceLeDiff Nat.reduceLT Nat.reduceSub
def ahd (d:List Nd) (n:Nat):Int:=((zAt d (zAB d n) n).getLast?).getD (-1)
def plc (d:List Nd) (n:Nat):Int:=(zAt d (zAB d n) n).length+1
def ofN (d:List Nd) (n:Nat):Int:=if 0≤zAB d n then (zDO d (zAB d n)).length else 1
def yAj (d:List Nd):List (List PV):=(List.range d.length).map fun n=>[bI (plc d n),bI (ofN d n),bI (ahd d n),bI (zCU d n),bI (zDO d n).length]
def zBs (d:List Nd):PV:=.fp [.sl 5 (zEf d),.sl 5 (yAj d)]
def stF (d:List Nd) (i j:Nat):List OV:=zKu (if j < i then plc d j else 0) 0 (if j < i then ahd d j else 0) (zAU d j i) (zAt d j i).length
theorem zMP (d:List Nd) (u:Int):zAt d u 0=[]:=rfl
theorem yAk (d:List Nd) (u:Int):zAU d u 0=0:=rfl
theorem yO3 (d:List Nd) (L:Nat):List.replicate L [OV.p (bI 0),.p (bI 0),.p (bI 0),.p (bI 0),.p (bI 0)]=zEy L (stF d 0):=by
 rw [yG7]
 refine zAV fun j _=>?_
 simp [stF,zMP,yAk]
theorem zGR {d:List Nd} {u p:Int}:∀ {i:Nat},(zAt d u i).getLast?=some p→∃ m:Nat,m < i∧p=m∧zAB d m=u∧zAt d u i=zAt d u m++[(m:Int)]
 |0,h=>by rw [zMP] at h;cases h
 |i+1,h=>by
  rw [zAE] at h
  by_cases e:zAB d i=u
  ·rw [if_pos e] at h
   have hp:p=i:=by simpa using h.symm
   exact ⟨i,by omega,hp,e,by rw [zAE,if_pos e]⟩
  ·rw [if_neg e] at h
   obtain ⟨m,h1,h2,h3,h4⟩:=zGR h
   exact ⟨m,by omega,h2,h3,by rw [zAE,if_neg e,h4]⟩
def inF (d:List Nd) (i:Nat) (u k:Int) (j:Nat):List OV:=zKu (if j < i+1 then plc d j else 0) 0 (if j < i+1 then ahd d j else 0) (zAU d j i+if (C d u).contains (j:Int)&&decide (k < j) then 1 else 0) (zAt d j (i+1)).length
theorem zXT {d:List Nd} {i:Nat} {u k:Int} (hu:u=zAB d i) (hk:k < 0) (j:Nat):inF d i u k j=stF d (i+1) j:=by
 unfold inF stF
 have h1:decide (k < (j:Int))=true:=by simp;omega
 rw [zJj,h1,Bool.and_true,←hu]
 rfl
theorem zMQ {d:List Nd} (hd:zCF d d.length=true) {i:Nat} {u:Int} (hu:u < d.length) (j:Nat):inF d i u u j=zKu (if j < i+1 then plc d j else 0) 0 (if j < i+1 then ahd d j else 0) (zAU d j i) (zAt d j (i+1)).length:=by
 unfold inF
 have:((C d u).contains (j:Int)&&decide (u < j))=false:=by
  cases hc:(C d u).contains (j:Int) with
  |false=>rfl
  |true=>
   have:=(yJM hd hu (by simpa using hc)).2
   simp;omega
 rw [this]
 simp
theorem zPF {d:List Nd} (hd:zCF d d.length=true) {i q:Nat} {u:Int} (hu:u < d.length) (hq:(q:Int)∈C d u) (j:Nat):inF d i u (zAB d q) j=if j=q then zKu (if q < i+1 then plc d q else 0) 0 (if q < i+1 then ahd d q else 0) (zAU d q i+(if (C d u).contains (q:Int)&&decide ((q:Int) < q) then 1 else 0)+1) (zAt d q (i+1)).length else inF d i u q j:=by
 have hql:=(yJM hd hu hq)
 have hub:=zA1 hd q (by omega)
 by_cases h:j=q
 ·subst h
  rw [if_pos rfl]
  unfold inF
  have h1:(C d u).contains (j:Int)=true:=by simpa using hq
  have h2:decide (zAB d j < (j:Int))=true:=by simp;omega
  have h3:decide ((j:Int) < (j:Int))=false:=by simp
  rw [h1,h2,h3]
  simp
 ·rw [if_neg h]
  unfold inF
  have:((C d u).contains (j:Int)&&decide (zAB d q < (j:Int)))=((C d u).contains (j:Int)&&decide ((q:Int) < j)):=by
   cases hc:(C d u).contains (j:Int) with
   |false=>rfl
   |true=>
    have hj:(j:Int)∈C d u:=by simpa using hc
    obtain ⟨u',rfl⟩:∃ u':Nat,u=u':=⟨u.toNat,by omega⟩
    rw [Bool.true_and,Bool.true_and]
    rw [decide_eq_decide]
    constructor
    ·intro h1
     by_cases h2:(q:Int) < j
     ·exact h2
     ·exfalso
      have h3:=yNF hd u' (by omega) hq hj (by omega)
      have h4:=(yJM hd (k:=zAB d q) (by omega) h3).2
      omega
    ·intro h1;omega
  rw [this]
def fiF (d:List Nd) (i j:Nat):List OV:=zKu (plc d j) (if j < i then ofN d j else 0) (ahd d j) (zCU d j) (zDO d j).length
theorem yG8 (d:List Nd):zEy d.length (stF d d.length)=zEy d.length (fiF d 0):=by
 refine zAV fun j hj=>?_
 simp [stF,fiF,hj,zCU,zDO]
theorem yI5 (d:List Nd) (b e:Nat):(OV.os (some b) e 5 (zEy d.length (fiF d d.length))).frz=some (.sl 5 (yAj d)):=by
 have h:zEy d.length (fiF d d.length)=(yAj d).map fun r=>r.map OV.p:=by
  rw [zEy,yAj,List.map_map]
  refine List.map_congr_left fun j hj=>?_
  have:=List.mem_range.1 hj
  simp [fiF,this]
 rw [h]
 exact zUw (zGf _)
set_option maxHeartbeats 32000000 in
theorem yFt (d:List Nd) (hd:zAd d=0):Contract Tryz.prog zKU [.val (zCv d)] {res:=.val (.one (zBs d))}:=by
 obtain ⟨d1,d2,d3⟩:=yND hd
 unfold zCv
 refine mkA yB5 (base:=0) (fo rfl) (fun hfit=>?_)
 unfold F0 zUG
 refine goU ?_
 intro bw
 refine yNE (fun bm=>?_)
 refine goW ?_
 refine zAn (fun x:Nat×List (Int×Int)=>[(24,.pv (iv x.1)),(20,.ov (.one (yFQ bm x.2))),(163,.ov (.one (.os (some bw) zCd 5 (zEy d.length (stF d x.1))))),(5,.un),(6,.un),(7,.un),(8,.un),(9,.un),(10,.un),(25,.un),(43,.un),(72,.un),(91,.un),(107,.un),(164,.un),(165,.un),(166,.un),(167,.un),(168,.un)]) (fun x:Nat×List (Int×Int)=>d.length-x.1) (fun x:Nat×List (Int×Int)=>x.1≤d.length∧∀ u,zSG x.2 u=(zAt d u x.1).getLast?) ((0,[])) ?_ ⟨Nat.zero_le _,fun u=>rfl⟩ ?_
 focus (simp (maxSteps:=2000000) only [go_sem,zAS,zBu,zCR,zAT];all_goals (repeat' (first|exact trivial|exact zBa (by omega)|exact zAX rfl|exact zBb rfl|exact zBB|exact le_refl _|refine And.intro ?_ ?_)))
 ·refine zBb ?_
  rw [←yO3]
 rintro ⟨i,ml⟩ ⟨hi,hml⟩
 simp only at hi hml
 refine goW ?_
 refine zAa (by rfl) trivial (fun g1=>?_) (fun g1=>?_)
 ·have hil:i < d.length:=by simpa using g1
  have hv:=zBo d i hil
  rw [ndV] at hv
  obtain ⟨u,hu⟩:∃ u,u=zAB d i:=⟨_,rfl⟩
  have hup:(d.getD i default).up=u:=hu.symm
  rw [hup] at hv
  have hub:=zA1 d3 i hil
  rw [←hu] at hub
  have hget:=fun g=>zCX hil g
  obtain ⟨U,hU⟩:∃ U,U=zAU d i i:=⟨_,rfl⟩
  obtain ⟨K,hK⟩:∃ K,K=(zAt d i i).length:=⟨_,rfl⟩
  have hst:stF d i i=zKu 0 0 0 U K:=by simp [stF,hU,hK]
  try simp (maxSteps:=2000000) only [go_sem,hv,hget,hst,zKu]
  repeat with_reducible refine zAP ?_
  refine yLt rfl rfl rfl ?_
  have hgi:=hml u
  cases hlast:(zAt d u i).getLast? with
  |none=>
   rw [hlast] at hgi
   have hahd:ahd d i=-1:=by rw [ahd,←hu,hlast];rfl
   have hplc:plc d i=1:=by
    rw [List.getLast?_eq_none_iff] at hlast
    rw [plc,←hu,hlast];rfl
   try simp (maxSteps:=2000000) only [go_sem,hgi,Option.isSome_none,Option.getD_none]
   repeat with_reducible refine zAP ?_
   refine zAa (by rfl) trivial (fun g2=>?_) (fun g2=>?_)
   ·simp at g2
   try simp (maxSteps:=2000000) only [go_sem,hv,hget,hst,zKu]
   repeat with_reducible refine zAP ?_
   refine yLs rfl rfl rfl rfl (by decide) ?_
   try simp (maxSteps:=2000000) only [go_sem,hv,hget,hst,zKu]
   repeat with_reducible refine zAP ?_
   refine zAa (by rfl) trivial (fun g3=>?_) (fun g3=>?_)
   ·simp at g3
   try simp (maxSteps:=2000000) only [go_sem,hv,hget,hst,zKu]
   repeat with_reducible refine zAP ?_
   refine zAa (by rfl) trivial (fun g4=>?_) (fun g4=>?_)
   ·have hu0:0≤u:=by simpa using g4
    obtain ⟨q,rfl⟩:∃ q:Nat,u=q:=⟨u.toNat,by omega⟩
    have hqi:¬ q=i:=by omega
    have hql:q < d.length:=by omega
    have hgq:=fun g=>zCX hql g
    have hstq:stF d i q=zKu (if q < i then plc d q else 0) 0 (if q < i then ahd d q else 0) (zAU d q i) (zAt d q i).length:=rfl
    have hkl:=zGQ (d:=d) (n:=q) i
    try simp (maxSteps:=2000000) only [go_sem,hgq,hqi,hstq,zKu]
    repeat with_reducible refine zAP ?_
    refine zAn (fun k:Int=>[(10,.pv (iv k)),(163,.ov (.one (.os (some bw) zCd 5 (zEy d.length (inF d i (q:Int) k))))),(107,.un)]) (fun k:Int=>(k+1).toNat) (fun k:Int=>-1≤k∧k < i∧(0≤k→k∈C d (q:Int))) ((q:Int)) ?_ ⟨by omega,by omega,fun _=>by rw [zCY d3 hql];exact List.mem_cons_self⟩ ?_
    focus (simp (maxSteps:=2000000) only [go_sem,zAS,zBu,zCR,zAT];all_goals (repeat' (first|exact trivial|exact zBa (by omega)|exact zAX rfl|exact zBb rfl|exact zBB|exact le_refl _|refine And.intro ?_ ?_)))
    ·refine zBb ?_
     congr 3
     refine zAV fun j hj=>?_
     rw [zMQ d3 (by omega)]
     by_cases hjq:j=q
     ·subst hjq
      have hkj:zAt d j (i+1)=zAt d j i++[(i:Int)]:=by rw [zAE,if_pos hu.symm]
      rw [hkj,List.length_append]
      have e1:j < i:=by omega
      have e2:j < i+1:=by omega
      simp [zKu,e1,e2]
     ·rw [if_neg hjq]
      have hkj:zAt d j (i+1)=zAt d j i:=by rw [zAE,if_neg (by rw [←hu];omega)]
      rw [hkj]
      by_cases hji:j=i
      ·subst hji
       rw [if_pos rfl,if_pos (by omega),if_pos (by omega),hplc,hahd,hU,hK]
      ·simp only [if_neg hji,stF]
       have e:(j < i+1)↔(j < i):=by omega
       simp only [e]
    rintro k ⟨hk0,hki,hkc⟩
    refine goW ?_
    refine zAa (by rfl) trivial (fun g5=>?_) (fun g5=>?_)
    ·have hk1:0≤k:=by simpa using g5
     obtain ⟨q2,rfl⟩:∃ q2:Nat,k=q2:=⟨k.toNat,by omega⟩
     have hql2:q2 < d.length:=by omega
     have hqu:=zA1 d3 q2 hql2
     have hqv:=zBo d q2 hql2
     rw [ndV] at hqv
     have hgq:=fun g=>zCX hql2 g
     have hkq:=hkc hk1
     have hinq:inF d i (q:Int) q2 q2=zKu (if q2 < i+1 then plc d q2 else 0) 0 (if q2 < i+1 then ahd d q2 else 0) (zAU d q2 i+(if (C d (q:Int)).contains (q2:Int)&&decide ((q2:Int) < q2) then 1 else 0)) (zAt d q2 (i+1)).length:=rfl
     obtain ⟨V,hV⟩:∃ V,V=zAU d q2 i+(if (C d (q:Int)).contains (q2:Int)&&decide ((q2:Int) < q2) then 1 else 0):=⟨_,rfl⟩
     have hVb:0≤V∧V≤i+1:=by
      have:=zEC (d:=d) (n:=q2) i
      rw [hV];split<;>omega
     rw [←hV] at hinq
     have hinf:=zPF d3 (i:=i) (by omega:(q:Int) < d.length) hkq
     rw [←hV] at hinf
     try simp (maxSteps:=2000000) only [go_sem,hgq,hinq,zKu,hqv]
     repeat with_reducible refine zAP ?_
     refine ⟨zAB d q2,by omega,⟨by omega,by omega,fun h0=>?_⟩,?_⟩
     ·refine yI4 d3 q hql hkq ?_
      rw [zCY d3 hql2]
      obtain ⟨v,hv2⟩:∃ v:Nat,zAB d q2=v:=⟨(zAB d q2).toNat,by omega⟩
      rw [hv2,zCY d3 (by omega:v < d.length)]
      exact List.mem_cons_of_mem _ (List.mem_cons_self)
     ·simp (maxSteps:=2000000) only [go_sem,zAS,zBu,zCR,zAT]
      all_goals (repeat' (first|exact trivial|exact zBa (by omega)|exact zAX rfl|exact zBb rfl|exact zBB|exact le_refl _|refine And.intro ?_ ?_))
      all_goals first|exact zBa rfl|skip
      refine zBb ?_
      congr 3
      refine zAV fun j hj=>?_
      rw [hinf j]
    ·have hk1:k < 0:=by simp at g5;omega
     refine goW ?_
     refine ⟨(i+1,yFs ml (q:Int) i),by simp only;omega,⟨by simp only;omega,fun w=>?_⟩,?_⟩
     ·simp only
      rw [zJE,hml w,zAE,←hu]
      by_cases hw:w=(q:Int)
      ·rw [if_pos hw,if_pos hw.symm];simp
      ·rw [if_neg hw,if_neg (Ne.symm hw)]
     ·simp (maxSteps:=2000000) only [go_sem,zAS,zBu,zCR,zAT]
      all_goals (repeat' (first|exact trivial|exact zBa (by omega)|exact zAX rfl|exact zBb rfl|exact zBB|exact le_refl _|refine And.intro ?_ ?_))
      refine zBb ?_
      congr 3
      exact zAV fun j _=>zXT hu hk1 j
   ·have hu0:u < 0:=by simp at g4;omega
    have hC:C d u=[]:=yI3 d3 hu0
    refine goW ?_
    refine zAn (fun k:Int=>[(10,.pv (iv k)),(163,.ov (.one (.os (some bw) zCd 5 (zEy d.length (inF d i u k))))),(107,.un)]) (fun k:Int=>(k+1).toNat) (fun k:Int=>-1≤k∧k < i∧(0≤k→k∈C d u)) (u) ?_ ⟨by omega,by omega,fun h=>by omega⟩ ?_
    focus (simp (maxSteps:=2000000) only [go_sem,zAS,zBu,zCR,zAT];all_goals (repeat' (first|exact trivial|exact zBa (by omega)|exact zAX rfl|exact zBb rfl|exact zBB|exact le_refl _|refine And.intro ?_ ?_)))
    ·refine zBb ?_
     congr 3
     refine zAV fun j hj=>?_
     rw [zMQ d3 (by omega)]
     have hkj:zAt d j (i+1)=zAt d j i:=by rw [zAE,if_neg (by rw [←hu];omega)]
     rw [hkj]
     by_cases hji:j=i
     ·subst hji
      rw [if_pos rfl,if_pos (by omega),if_pos (by omega),hplc,hahd,hU,hK]
     ·simp only [if_neg hji,stF]
      have e:(j < i+1)↔(j < i):=by omega
      simp only [e]
    rintro k ⟨hk0,hki,hkc⟩
    refine goW ?_
    refine zAa (by rfl) trivial (fun g5=>?_) (fun g5=>?_)
    ·have hk1:0≤k:=by simpa using g5
     obtain ⟨q2,rfl⟩:∃ q2:Nat,k=q2:=⟨k.toNat,by omega⟩
     have hql2:q2 < d.length:=by omega
     have hqu:=zA1 d3 q2 hql2
     have hqv:=zBo d q2 hql2
     rw [ndV] at hqv
     have hgq:=fun g=>zCX hql2 g
     have hkq:=hkc hk1
     have hinq:inF d i u q2 q2=zKu (if q2 < i+1 then plc d q2 else 0) 0 (if q2 < i+1 then ahd d q2 else 0) (zAU d q2 i+(if (C d u).contains (q2:Int)&&decide ((q2:Int) < q2) then 1 else 0)) (zAt d q2 (i+1)).length:=rfl
     obtain ⟨V,hV⟩:∃ V,V=zAU d q2 i+(if (C d u).contains (q2:Int)&&decide ((q2:Int) < q2) then 1 else 0):=⟨_,rfl⟩
     have hVb:0≤V∧V≤i+1:=by
      have:=zEC (d:=d) (n:=q2) i
      rw [hV];split<;>omega
     rw [←hV] at hinq
     have hinf:=zPF d3 (i:=i) (by omega:u < d.length) hkq
     rw [←hV] at hinf
     try simp (maxSteps:=2000000) only [go_sem,hgq,hinq,zKu,hqv]
     repeat with_reducible refine zAP ?_
     refine ⟨zAB d q2,by omega,⟨by omega,by omega,fun h0=>?_⟩,?_⟩
     ·rw [hC] at hkq;cases hkq
     ·simp (maxSteps:=2000000) only [go_sem,zAS,zBu,zCR,zAT]
      all_goals (repeat' (first|exact trivial|exact zBa (by omega)|exact zAX rfl|exact zBb rfl|exact zBB|exact le_refl _|refine And.intro ?_ ?_))
      all_goals first|exact zBa rfl|skip
      refine zBb ?_
      congr 3
      refine zAV fun j hj=>?_
      rw [hinf j]
    ·have hk1:k < 0:=by simp at g5;omega
     refine goW ?_
     refine ⟨(i+1,yFs ml u i),by simp only;omega,⟨by simp only;omega,fun w=>?_⟩,?_⟩
     ·simp only
      rw [zJE,hml w,zAE,←hu]
      by_cases hw:w=u
      ·rw [if_pos hw,if_pos hw.symm];simp
      ·rw [if_neg hw,if_neg (Ne.symm hw)]
     ·simp (maxSteps:=2000000) only [go_sem,zAS,zBu,zCR,zAT]
      all_goals (repeat' (first|exact trivial|exact zBa (by omega)|exact zAX rfl|exact zBb rfl|exact zBB|exact le_refl _|refine And.intro ?_ ?_))
      refine zBb ?_
      congr 3
      exact zAV fun j _=>zXT hu hk1 j
  |some p=>
   rw [hlast] at hgi
   obtain ⟨m,hmi,rfl,hmu,hkm⟩:=zGR hlast
   have hahd:ahd d i=m:=by rw [ahd,←hu,hlast];rfl
   have hplc:plc d i=plc d m+1:=by
    rw [plc,←hu,hkm,plc,hmu,List.length_append]
    simp
   have hml2:m < d.length:=by omega
   have hmi':¬ m=i:=by omega
   have hgm:=fun g=>zCX hml2 g
   have hstm:stF d i m=zKu (plc d m) 0 (ahd d m) (zAU d m i) (zAt d m i).length:=by simp [stF,hmi]
   have hplb:1≤plc d m∧plc d m≤65:=by
    have:=zGQ (d:=d) (n:=zAB d m) m
    rw [plc];omega
   try simp (maxSteps:=2000000) only [go_sem,hgi,Option.isSome_some,Option.getD_some]
   repeat with_reducible refine zAP ?_
   refine zAa (by rfl) trivial (fun g2=>?_) (fun g2=>?_)
   ·try simp (maxSteps:=2000000) only [go_sem,hv,hget,hst,zKu]
    repeat with_reducible refine zAP ?_
    refine yLs rfl rfl rfl rfl (by decide) ?_
    try simp (maxSteps:=2000000) only [go_sem,hv,hget,hst,zKu]
    repeat with_reducible refine zAP ?_
    refine zAa (by rfl) trivial (fun g3=>?_) (fun g3=>?_)
    ·try simp (maxSteps:=2000000) only [go_sem,hv,hget,hst,zKu,hgm,hmi',hstm,Int.toNat_natCast]
     repeat with_reducible refine zAP ?_
     refine zAa (by rfl) trivial (fun g4=>?_) (fun g4=>?_)
     ·have hu0:0≤u:=by simpa using g4
      obtain ⟨q,rfl⟩:∃ q:Nat,u=q:=⟨u.toNat,by omega⟩
      have hqi:¬ q=i:=by omega
      have hql:q < d.length:=by omega
      have hgq:=fun g=>zCX hql g
      have hstq:stF d i q=zKu (if q < i then plc d q else 0) 0 (if q < i then ahd d q else 0) (zAU d q i) (zAt d q i).length:=rfl
      have hkl:=zGQ (d:=d) (n:=q) i
      try simp (maxSteps:=2000000) only [go_sem,hgq,hqi,hstq,zKu]
      repeat with_reducible refine zAP ?_
      refine zAn (fun k:Int=>[(10,.pv (iv k)),(163,.ov (.one (.os (some bw) zCd 5 (zEy d.length (inF d i (q:Int) k))))),(107,.un)]) (fun k:Int=>(k+1).toNat) (fun k:Int=>-1≤k∧k < i∧(0≤k→k∈C d (q:Int))) ((q:Int)) ?_ ⟨by omega,by omega,fun _=>by rw [zCY d3 hql];exact List.mem_cons_self⟩ ?_
      focus (simp (maxSteps:=2000000) only [go_sem,zAS,zBu,zCR,zAT];all_goals (repeat' (first|exact trivial|exact zBa (by omega)|exact zAX rfl|exact zBb rfl|exact zBB|exact le_refl _|refine And.intro ?_ ?_)))
      ·refine zBb ?_
       congr 3
       refine zAV fun j hj=>?_
       rw [zMQ d3 (by omega)]
       by_cases hjq:j=q
       ·subst hjq
        have hkj:zAt d j (i+1)=zAt d j i++[(i:Int)]:=by rw [zAE,if_pos hu.symm]
        rw [hkj,List.length_append]
        have e1:j < i:=by omega
        have e2:j < i+1:=by omega
        simp [zKu,e1,e2]
       ·rw [if_neg hjq]
        have hkj:zAt d j (i+1)=zAt d j i:=by rw [zAE,if_neg (by rw [←hu];omega)]
        rw [hkj]
        by_cases hji:j=i
        ·subst hji
         rw [if_pos rfl,if_pos (by omega),if_pos (by omega),hplc,hahd,hU,hK]
        ·simp only [if_neg hji,stF]
         have e:(j < i+1)↔(j < i):=by omega
         simp only [e]
      rintro k ⟨hk0,hki,hkc⟩
      refine goW ?_
      refine zAa (by rfl) trivial (fun g5=>?_) (fun g5=>?_)
      ·have hk1:0≤k:=by simpa using g5
       obtain ⟨q2,rfl⟩:∃ q2:Nat,k=q2:=⟨k.toNat,by omega⟩
       have hql2:q2 < d.length:=by omega
       have hqu:=zA1 d3 q2 hql2
       have hqv:=zBo d q2 hql2
       rw [ndV] at hqv
       have hgq:=fun g=>zCX hql2 g
       have hkq:=hkc hk1
       have hinq:inF d i (q:Int) q2 q2=zKu (if q2 < i+1 then plc d q2 else 0) 0 (if q2 < i+1 then ahd d q2 else 0) (zAU d q2 i+(if (C d (q:Int)).contains (q2:Int)&&decide ((q2:Int) < q2) then 1 else 0)) (zAt d q2 (i+1)).length:=rfl
       obtain ⟨V,hV⟩:∃ V,V=zAU d q2 i+(if (C d (q:Int)).contains (q2:Int)&&decide ((q2:Int) < q2) then 1 else 0):=⟨_,rfl⟩
       have hVb:0≤V∧V≤i+1:=by
        have:=zEC (d:=d) (n:=q2) i
        rw [hV];split<;>omega
       rw [←hV] at hinq
       have hinf:=zPF d3 (i:=i) (by omega:(q:Int) < d.length) hkq
       rw [←hV] at hinf
       try simp (maxSteps:=2000000) only [go_sem,hgq,hinq,zKu,hqv]
       repeat with_reducible refine zAP ?_
       refine ⟨zAB d q2,by omega,⟨by omega,by omega,fun h0=>?_⟩,?_⟩
       ·refine yI4 d3 q hql hkq ?_
        rw [zCY d3 hql2]
        obtain ⟨v,hv2⟩:∃ v:Nat,zAB d q2=v:=⟨(zAB d q2).toNat,by omega⟩
        rw [hv2,zCY d3 (by omega:v < d.length)]
        exact List.mem_cons_of_mem _ (List.mem_cons_self)
       ·simp (maxSteps:=2000000) only [go_sem,zAS,zBu,zCR,zAT]
        all_goals (repeat' (first|exact trivial|exact zBa (by omega)|exact zAX rfl|exact zBb rfl|exact zBB|exact le_refl _|refine And.intro ?_ ?_))
        all_goals first|exact zBa rfl|skip
        refine zBb ?_
        congr 3
        refine zAV fun j hj=>?_
        rw [hinf j]
      ·have hk1:k < 0:=by simp at g5;omega
       refine goW ?_
       refine ⟨(i+1,yFs ml (q:Int) i),by simp only;omega,⟨by simp only;omega,fun w=>?_⟩,?_⟩
       ·simp only
        rw [zJE,hml w,zAE,←hu]
        by_cases hw:w=(q:Int)
        ·rw [if_pos hw,if_pos hw.symm];simp
        ·rw [if_neg hw,if_neg (Ne.symm hw)]
       ·simp (maxSteps:=2000000) only [go_sem,zAS,zBu,zCR,zAT]
        all_goals (repeat' (first|exact trivial|exact zBa (by omega)|exact zAX rfl|exact zBb rfl|exact zBB|exact le_refl _|refine And.intro ?_ ?_))
        refine zBb ?_
        congr 3
        exact zAV fun j _=>zXT hu hk1 j
     ·have hu0:u < 0:=by simp at g4;omega
      have hC:C d u=[]:=yI3 d3 hu0
      refine goW ?_
      refine zAn (fun k:Int=>[(10,.pv (iv k)),(163,.ov (.one (.os (some bw) zCd 5 (zEy d.length (inF d i u k))))),(107,.un)]) (fun k:Int=>(k+1).toNat) (fun k:Int=>-1≤k∧k < i∧(0≤k→k∈C d u)) (u) ?_ ⟨by omega,by omega,fun h=>by omega⟩ ?_
      focus (simp (maxSteps:=2000000) only [go_sem,zAS,zBu,zCR,zAT];all_goals (repeat' (first|exact trivial|exact zBa (by omega)|exact zAX rfl|exact zBb rfl|exact zBB|exact le_refl _|refine And.intro ?_ ?_)))
      ·refine zBb ?_
       congr 3
       refine zAV fun j hj=>?_
       rw [zMQ d3 (by omega)]
       have hkj:zAt d j (i+1)=zAt d j i:=by rw [zAE,if_neg (by rw [←hu];omega)]
       rw [hkj]
       by_cases hji:j=i
       ·subst hji
        rw [if_pos rfl,if_pos (by omega),if_pos (by omega),hplc,hahd,hU,hK]
       ·simp only [if_neg hji,stF]
        have e:(j < i+1)↔(j < i):=by omega
        simp only [e]
      rintro k ⟨hk0,hki,hkc⟩
      refine goW ?_
      refine zAa (by rfl) trivial (fun g5=>?_) (fun g5=>?_)
      ·have hk1:0≤k:=by simpa using g5
       obtain ⟨q2,rfl⟩:∃ q2:Nat,k=q2:=⟨k.toNat,by omega⟩
       have hql2:q2 < d.length:=by omega
       have hqu:=zA1 d3 q2 hql2
       have hqv:=zBo d q2 hql2
       rw [ndV] at hqv
       have hgq:=fun g=>zCX hql2 g
       have hkq:=hkc hk1
       have hinq:inF d i u q2 q2=zKu (if q2 < i+1 then plc d q2 else 0) 0 (if q2 < i+1 then ahd d q2 else 0) (zAU d q2 i+(if (C d u).contains (q2:Int)&&decide ((q2:Int) < q2) then 1 else 0)) (zAt d q2 (i+1)).length:=rfl
       obtain ⟨V,hV⟩:∃ V,V=zAU d q2 i+(if (C d u).contains (q2:Int)&&decide ((q2:Int) < q2) then 1 else 0):=⟨_,rfl⟩
       have hVb:0≤V∧V≤i+1:=by
        have:=zEC (d:=d) (n:=q2) i
        rw [hV];split<;>omega
       rw [←hV] at hinq
       have hinf:=zPF d3 (i:=i) (by omega:u < d.length) hkq
       rw [←hV] at hinf
       try simp (maxSteps:=2000000) only [go_sem,hgq,hinq,zKu,hqv]
       repeat with_reducible refine zAP ?_
       refine ⟨zAB d q2,by omega,⟨by omega,by omega,fun h0=>?_⟩,?_⟩
       ·rw [hC] at hkq;cases hkq
       ·simp (maxSteps:=2000000) only [go_sem,zAS,zBu,zCR,zAT]
        all_goals (repeat' (first|exact trivial|exact zBa (by omega)|exact zAX rfl|exact zBb rfl|exact zBB|exact le_refl _|refine And.intro ?_ ?_))
        all_goals first|exact zBa rfl|skip
        refine zBb ?_
        congr 3
        refine zAV fun j hj=>?_
        rw [hinf j]
      ·have hk1:k < 0:=by simp at g5;omega
       refine goW ?_
       refine ⟨(i+1,yFs ml u i),by simp only;omega,⟨by simp only;omega,fun w=>?_⟩,?_⟩
       ·simp only
        rw [zJE,hml w,zAE,←hu]
        by_cases hw:w=u
        ·rw [if_pos hw,if_pos hw.symm];simp
        ·rw [if_neg hw,if_neg (Ne.symm hw)]
       ·simp (maxSteps:=2000000) only [go_sem,zAS,zBu,zCR,zAT]
        all_goals (repeat' (first|exact trivial|exact zBa (by omega)|exact zAX rfl|exact zBb rfl|exact zBB|exact le_refl _|refine And.intro ?_ ?_))
        refine zBb ?_
        congr 3
        exact zAV fun j _=>zXT hu hk1 j
    ·exact absurd g3 (by simp)
   ·simp at g2
 have hi2:i=d.length:=by simp at g1;omega
 subst hi2
 rw [yG8]
 refine goW ?_
 refine zAn (fun i:Nat=>[(129,.pv (iv i)),(163,.ov (.one (.os (some bw) zCd 5 (zEy d.length (fiF d i))))),(11,.un),(12,.un),(130,.un),(143,.un),(169,.un),(170,.un),(171,.un),(172,.un),(173,.un)]) (fun i:Nat=>d.length-i) (fun i:Nat=>i≤d.length) (0) ?_ (Nat.zero_le _) ?_
 focus (exact leA)
 intro i hi
 refine goW ?_
 refine zAa (by rfl) trivial (fun g6=>?_) (fun g6=>?_)
 ·have hil:i < d.length:=by simpa using g6
  have hv:=zBo d i hil
  rw [ndV] at hv
  obtain ⟨u,hu⟩:∃ u,u=zAB d i:=⟨_,rfl⟩
  have hup:(d.getD i default).up=u:=hu.symm
  rw [hup] at hv
  have hub:=zA1 d3 i hil
  rw [←hu] at hub
  have hget:=fun g=>zCX hil g
  have hst:fiF d i i=zKu (plc d i) 0 (ahd d i) (zCU d i) (zDO d i).length:=by simp [fiF]
  try simp (maxSteps:=2000000) only [go_sem,hv,hget,hst,zKu]
  repeat with_reducible refine zAP ?_
  refine zAa (by rfl) trivial (fun g7=>?_) (fun g7=>?_)
  ·have hu0:0≤u:=by simpa using g7
   obtain ⟨q,rfl⟩:∃ q:Nat,u=q:=⟨u.toNat,by omega⟩
   have hqi:¬ q=i:=by omega
   have hql:q < d.length:=by omega
   have hgq:=fun g=>zCX hql g
   have hstq:fiF d i q=zKu (plc d q) (if q < i then ofN d q else 0) (ahd d q) (zCU d q) (zDO d q).length:=rfl
   try simp (maxSteps:=2000000) only [go_sem,hgq,hqi,hstq,hget,hst,zKu]
   repeat with_reducible refine zAP ?_
   refine ⟨i+1,by omega,by omega,?_⟩
   simp (maxSteps:=2000000) only [go_sem,zAS,zBu,zCR,zAT]
   all_goals (repeat' (first|exact trivial|exact zBa (by omega)|exact zAX rfl|exact zBb rfl|exact zBB|exact le_refl _|refine And.intro ?_ ?_))
   refine zBb ?_
   congr 3
   refine zAV fun j hj=>?_
   by_cases hji:j=i
   ·subst hji
    simp [fiF,ofN,←hu]
   ·have e:(j < i+1)↔(j < i):=by omega
    simp [fiF,hji,e]
  ·have hu0:¬ 0≤u:=by simpa using g7
   refine goW ?_
   refine ⟨i+1,by omega,by omega,?_⟩
   simp (maxSteps:=2000000) only [go_sem,zAS,zBu,zCR,zAT]
   all_goals (repeat' (first|exact trivial|exact zBa (by omega)|exact zAX rfl|exact zBb rfl|exact zBB|exact le_refl _|refine And.intro ?_ ?_))
   refine zBb ?_
   congr 3
   refine zAV fun j hj=>?_
   by_cases hji:j=i
   ·subst hji
    have hu1:¬ 0≤zAB d j:=by rw [←hu];exact hu0
    simp [fiF,ofN,hu1]
   ·have e:(j < i+1)↔(j < i):=by omega
    simp [fiF,hji,e]
 ·have hi2:i=d.length:=by simp at g6;omega
  subst hi2
  have hfz:=fun b e=>yI5 d b e
  try simp (maxSteps:=2000000) only [go_sem,hfz]
  repeat with_reducible refine zAP ?_
  exact zAb rfl trivial (.inl rfl)
end Go.Hx
end

section
set_option maxRecDepth 100000
set_option linter.unusedSimpArgs false
set_option maxHeartbeats 2000000
namespace Go.Hx
open Go.Proofs
variable [Glob] [GlobL]
attribute [local go_sem] zAk zAi zAj zAe ndV zAg zAf zBC zA2 zBy zBx
attribute [local go_sem] reduceCtorEq Nat.reduceAdd Nat.reduceEqDiff reduceIte Nat.reduceLeDiff Nat.reduceLT Nat.reduceSub
def yAl {α:Type} (p:α→Bool) (l:List α):Int:=if l.any p then (l.findIdx p:Int) else -1
theorem zXU {α:Type} (p:α→Bool) (l:List α):decide (0≤yAl p l)=l.any p:=by
 unfold yAl
 cases h:l.any p<;>simp
theorem zMR {α:Type} {d:α} {p:α→Bool} {l:List α} (h:∀ k,k < l.length→p (l.getD k d)=false):yAl p l=-1:=by
 unfold yAl
 have:l.any p=false:=by
  rw [List.any_eq_false]
  intro x hx
  obtain ⟨k,hk,rfl⟩:=List.getElem_of_mem hx
  have:=h k hk
  simp [hk] at this
  simp [this]
 rw [this];rfl
theorem zMS {α:Type} {d:α} {p:α→Bool} {l:List α} {i:Nat} (hi:i < l.length) (h1:p (l.getD i d)=true) (h:∀ k,k < i→p (l.getD k d)=false):yAl p l=i:=by
 unfold yAl
 have h2:p l[i]=true:=by simpa [hi] using h1
 have:l.any p=true:=List.any_eq_true.2 ⟨l[i],List.getElem_mem hi,h2⟩
 rw [if_pos this,(List.findIdx_eq hi).2 ⟨h2,fun j hj=>by have:=h j hj;simpa [show j < l.length by omega] using this⟩]
theorem yCz (f:Nat) (caps:List PV) (l:List Pt) (p:Pt→Bool) (h:∀ i,i < l.length→Contract Tryz.prog f ([.val (.agg [.sl 2 (yFO (l.getD i default).steps),.sl 1 (zAH (l.getD i default).links)])]++caps.map fun c=>.val (.one c)) {res:=.val (bv (p (l.getD i default)))}):
  Contract Tryz.prog zB3 [.val (.one (.sl 2 (zQx l))),.val (.one (.clo f caps))] {res:=.val (iv (yAl p l))}:=by
 refine mkA zGB (base:=0) (fo rfl) (fun hfit=>?_)
 unfold F0 zDA
 refine goU ?_
 have ha:=zDp (k:=2) hfit.1
 rw [zA2] at ha
 refine zAn (fun i:Nat=>[(8,.pv (iv i)),(4,.un),(5,.un),(9,.un),(16,.un)]) (fun i:Nat=>l.length-i) (fun i:Nat=>i≤l.length∧∀ k,k < i→p (l.getD k default)=false) (0) ?_ ⟨Nat.zero_le _,fun k hk=>by omega⟩ ?_
 focus (exact leA)
 rintro i ⟨hi,hinv⟩
 refine goW ?_
 refine zAa (by rfl) trivial (fun h2=>?_) (fun h2=>?_)
 ·have hil:i < l.length:=by simp at h2;omega
  have e1:=zVM l i hil
  rw [zH8] at e1
  have hc:=h i hil
  try simp (maxSteps:=2000000) only [go_sem,e1]
  repeat with_reducible refine zAP ?_
  refine zCu (by rfl) trivial (by repeat' constructor) (hc) ?_
  refine goW ?_
  refine zAa (by rfl) trivial (fun h3=>?_) (fun h3=>?_)
  ·refine goW ?_
   refine zAb rfl trivial (.inl ?_)
   congr 3
   exact zMS hil h3 hinv
  ·refine goW ?_
   refine ⟨i+1,by omega,⟨by omega,fun k hk=>?_⟩,?_⟩
   ·by_cases e:k=i
    ·rw [e];exact h3
    ·exact hinv k (by omega)
   ·exact leA
 ·have hil:i=l.length:=by simp at h2;omega
  refine goW ?_
  refine zAb rfl trivial (.inl ?_)
  congr 3
  exact zMR fun k hk=>hinv k (by omega)
theorem yCA (f:Nat) (caps:List PV) (l:List Pt) (p:Pt→Bool) (h:∀ i,i < l.length→Contract Tryz.prog f ([.val (.agg [.sl 2 (yFO (l.getD i default).steps),.sl 1 (zAH (l.getD i default).links)])]++caps.map fun c=>.val (.one c)) {res:=.val (bv (p (l.getD i default)))}):
  Contract Tryz.prog zBG [.val (.one (.sl 2 (zQx l))),.val (.one (.clo f caps))] {res:=.val (bv (l.any p))}:=by
 refine mkA zE2 (base:=0) (fo rfl) (fun hfit=>?_)
 unfold F0 zCN
 refine goU ?_
 refine zAo (by repeat' constructor) (yCz f caps l p h) ?_
 refine goW ?_
 refine zAb rfl trivial (.inl ?_)
 congr 3
 rw [←zXU]
theorem yCB (f:Nat) (caps:List PV) (l:List Ts) (p:Ts→Bool) (h:∀ i,i < l.length→Contract Tryz.prog f ([.val (.agg [bI (l.getD i default).kind,bS (l.getD i default).name,bS (l.getD i default).value,bI (l.getD i default).na,bI (l.getD i default).nb,.sl 2 (zQx (l.getD i default).list)])]++caps.map fun c=>.val (.one c)) {res:=.val (bv (p (l.getD i default)))}):
  Contract Tryz.prog zB4 [.val (.one (.sl 6 (yGx l))),.val (.one (.clo f caps))] {res:=.val (iv (yAl p l))}:=by
 refine mkA zGL (base:=0) (fo rfl) (fun hfit=>?_)
 unfold F0 zDB
 refine goU ?_
 have ha:=zDp (k:=6) hfit.1
 rw [zBx] at ha
 refine zAn (fun i:Nat=>[(8,.pv (iv i)),(4,.un),(5,.un),(9,.un),(16,.un)]) (fun i:Nat=>l.length-i) (fun i:Nat=>i≤l.length∧∀ k,k < i→p (l.getD k default)=false) (0) ?_ ⟨Nat.zero_le _,fun k hk=>by omega⟩ ?_
 focus (exact leA)
 rintro i ⟨hi,hinv⟩
 refine goW ?_
 refine zAa (by rfl) trivial (fun h2=>?_) (fun h2=>?_)
 ·have hil:i < l.length:=by simp at h2;omega
  have e1:=zVK l i hil
  rw [zOj] at e1
  have hc:=h i hil
  try simp (maxSteps:=2000000) only [go_sem,e1]
  repeat with_reducible refine zAP ?_
  refine zCu (by rfl) trivial (by repeat' constructor) (hc) ?_
  refine goW ?_
  refine zAa (by rfl) trivial (fun h3=>?_) (fun h3=>?_)
  ·refine goW ?_
   refine zAb rfl trivial (.inl ?_)
   congr 3
   exact zMS hil h3 hinv
  ·refine goW ?_
   refine ⟨i+1,by omega,⟨by omega,fun k hk=>?_⟩,?_⟩
   ·by_cases e:k=i
    ·rw [e];exact h3
    ·exact hinv k (by omega)
   ·exact leA
 ·have hil:i=l.length:=by simp at h2;omega
  refine goW ?_
  refine zAb rfl trivial (.inl ?_)
  congr 3
  exact zMR fun k hk=>hinv k (by omega)
theorem yCC (f:Nat) (caps:List PV) (l:List Ts) (p:Ts→Bool) (h:∀ i,i < l.length→Contract Tryz.prog f ([.val (.agg [bI (l.getD i default).kind,bS (l.getD i default).name,bS (l.getD i default).value,bI (l.getD i default).na,bI (l.getD i default).nb,.sl 2 (zQx (l.getD i default).list)])]++caps.map fun c=>.val (.one c)) {res:=.val (bv (p (l.getD i default)))}):
  Contract Tryz.prog zBH [.val (.one (.sl 6 (yGx l))),.val (.one (.clo f caps))] {res:=.val (bv (l.any p))}:=by
 refine mkA zE5 (base:=0) (fo rfl) (fun hfit=>?_)
 unfold F0 zCO
 refine goU ?_
 refine zAo (by repeat' constructor) (yCB f caps l p h) ?_
 refine goW ?_
 refine zAb rfl trivial (.inl ?_)
 congr 3
 rw [←zXU]
theorem yCD (f:Nat) (caps:List PV) (l:List (Bys×Bys)) (p:Bys×Bys→Bool) (h:∀ i,i < l.length→Contract Tryz.prog f ([.val (.agg [bS (l.getD i default).1,bS (l.getD i default).2])]++caps.map fun c=>.val (.one c)) {res:=.val (bv (p (l.getD i default)))}):
  Contract Tryz.prog zA3 [.val (.one (.sl 2 (yBn l))),.val (.one (.clo f caps))] {res:=.val (iv (yAl p l))}:=by
 refine mkA zDe (base:=0) (fo rfl) (fun hfit=>?_)
 unfold F0 zCc
 refine goU ?_
 have ha:=zDp (k:=2) hfit.1
 rw [zAj] at ha
 refine zAn (fun i:Nat=>[(8,.pv (iv i)),(4,.un),(5,.un),(9,.un),(16,.un)]) (fun i:Nat=>l.length-i) (fun i:Nat=>i≤l.length∧∀ k,k < i→p (l.getD k default)=false) (0) ?_ ⟨Nat.zero_le _,fun k hk=>by omega⟩ ?_
 focus (exact leA)
 rintro i ⟨hi,hinv⟩
 refine goW ?_
 refine zAa (by rfl) trivial (fun h2=>?_) (fun h2=>?_)
 ·have hil:i < l.length:=by simp at h2;omega
  have e1:=zPy l i hil
  have hc:=h i hil
  try simp (maxSteps:=2000000) only [go_sem,e1]
  repeat with_reducible refine zAP ?_
  refine zCu (by rfl) trivial (by repeat' constructor) (hc) ?_
  refine goW ?_
  refine zAa (by rfl) trivial (fun h3=>?_) (fun h3=>?_)
  ·refine goW ?_
   refine zAb rfl trivial (.inl ?_)
   congr 3
   exact zMS hil h3 hinv
  ·refine goW ?_
   refine ⟨i+1,by omega,⟨by omega,fun k hk=>?_⟩,?_⟩
   ·by_cases e:k=i
    ·rw [e];exact h3
    ·exact hinv k (by omega)
   ·exact leA
 ·have hil:i=l.length:=by simp at h2;omega
  refine goW ?_
  refine zAb rfl trivial (.inl ?_)
  congr 3
  exact zMR fun k hk=>hinv k (by omega)
theorem zTY (l:List Bys) (s:Bys):Contract Tryz.prog zCr [.val (.one (.sl 1 (zQr l))),.val (sv s)] {res:=.val (iv (yAl (fun c=>decide (c=s)) l))}:=by
 refine mkA zHM (base:=0) (fo rfl) (fun hfit=>?_)
 unfold F0 zD8
 refine goU ?_
 have ha:=zDp (k:=1) hfit.1
 rw [zAi] at ha
 refine zAn (fun i:Nat=>[(8,.pv (iv i)),(4,.un),(5,.un),(9,.un),(16,.un)]) (fun i:Nat=>l.length-i) (fun i:Nat=>i≤l.length∧∀ k,k < i→(fun c=>decide (c=s)) (l.getD k [])=false) (0) ?_ ⟨Nat.zero_le _,fun k hk=>by omega⟩ ?_
 focus (exact leA)
 rintro i ⟨hi,hinv⟩
 refine goW ?_
 refine zAa (by rfl) trivial (fun h2=>?_) (fun h2=>?_)
 ·have hil:i < l.length:=by simp at h2;omega
  have e1:=zPx l i hil
  try simp (maxSteps:=2000000) only [go_sem,e1]
  repeat with_reducible refine zAP ?_
  refine zAa (by rfl) trivial (fun h3=>?_) (fun h3=>?_)
  ·refine goW ?_
   refine zAb rfl trivial (.inl ?_)
   congr 3
   have h4:l.getD i []=s:=(by simpa using h3:s=l.getD i []).symm
   exact zMS (p:=fun c=>decide (c=s)) (d:=[]) hil (decide_eq_true h4) hinv
  ·refine goW ?_
   have h4:¬ l.getD i []=s:=fun e=>(by simpa using h3:¬ s=l.getD i []) e.symm
   refine ⟨i+1,by omega,⟨by omega,fun k hk=>?_⟩,?_⟩
   ·by_cases e:k=i
    ·rw [e];first|exact h4|exact decide_eq_false h4
    ·first|exact hinv k (by omega)|exact of_decide_eq_false (hinv k (by omega))
   ·exact leA
 ·have hil:i=l.length:=by simp at h2;omega
  refine goW ?_
  refine zAb rfl trivial (.inl ?_)
  congr 3
  exact zMR (d:=[]) (p:=fun c=>decide (c=s)) fun k hk=>hinv k (by omega)
theorem zGS (l:List Bys) (s:Bys):Contract Tryz.prog zBg [.val (.one (.sl 1 (zQr l))),.val (sv s)] {res:=.val (bv (l.any fun c=>decide (c=s)))}:=by
 refine mkA zFQ (base:=0) (fo rfl) (fun hfit=>?_)
 unfold F0 zDf
 refine goU ?_
 refine zAo (by repeat' constructor) (zTY l s) ?_
 refine goW ?_
 refine zAb rfl trivial (.inl ?_)
 congr 3
 rw [←zXU]
end Go.Hx
end

section
set_option maxRecDepth 100000
set_option linter.unusedSimpArgs false
set_option maxHeartbeats 2000000
namespace Go.Hx
open Go.Proofs
variable [Glob] [GlobL]
attribute [local go_sem] zAk zAi zAj zAe ndV zAg zAf zBC zA2 zBy zBx zBs
attribute [local go_sem] reduceCtorEq Nat.reduceAdd Nat.reduceEqDiff reduceIte Nat.reduceLeDiff Nat.reduceLT Nat.reduceSub
theorem yCE {l:List (Bys×Bys)} {nm:Bys} (h:yAl (fun a=>decide (a.1=nm)) l < 0):zIa l nm=none:=by
 unfold yAl at h
 have h2:l.any (fun a=>decide (a.1=nm))=false:=by
  cases e:l.any (fun a=>decide (a.1=nm)) with
  |false=>rfl
  |true=>rw [e] at h;simp at h;omega
 unfold zIa
 have:l.find? (fun a=>decide (a.1=nm))=none:=by
  rw [List.find?_eq_none]
  intro x hx hp
  rw [List.any_eq_false] at h2
  exact h2 x hx hp
 rw [this];rfl
theorem yCF {l:List (Bys×Bys)} {nm:Bys} (h:¬ yAl (fun a=>decide (a.1=nm)) l < 0):∃ i:Nat,i < l.length∧yAl (fun a=>decide (a.1=nm)) l=i∧zIa l nm=some (l.getD i default).2:=by
 unfold yAl at h ⊢
 have h2:l.any (fun a=>decide (a.1=nm))=true:=by
  cases e:l.any (fun a=>decide (a.1=nm)) with
  |true=>rfl
  |false=>rw [e] at h;simp at h
 rw [if_pos h2]
 have h3:l.findIdx (fun a=>decide (a.1=nm)) < l.length:=List.findIdx_lt_length.2 (by simpa using h2)
 refine ⟨_,h3,rfl,?_⟩
 unfold zIa
 rw [List.find?_eq_getElem?_findIdx,List.getElem?_eq_getElem h3]
 simp [h3]
theorem yAm (d:List Nd):(yAj d).length=d.length:=by simp [yAj]
theorem yAn (d:List Nd) (n:Nat) (h:n < d.length):(yAj d).getD n []=[bI (plc d n),bI (ofN d n),bI (ahd d n),bI (zCU d n),bI (zDO d n).length]:=by simp [yAj,h]
theorem zKa (a:Bys×Bys) (nm:Bys):Contract Tryz.prog zBQ [.val (.agg [bS a.1,bS a.2]),.val (.one (.fp [bS nm]))] {res:=.val (bv (decide (a.1=nm)))}:=by
 refine mkA zIF (base:=0) (fo rfl) (fun hfit=>?_)
 unfold F0 zEn
 refine goU ?_
 refine zAb rfl trivial (.inl ?_)
 congr 3
 rw [Bool.eq_iff_iff];simp
theorem zMT (d:List Nd) (n:Nat) (hn:n < d.length) (nm:Bys):Contract Tryz.prog zC8 [.val (.one (zBs d)),.val (iv n),.val (sv nm)] {res:=.tup [sv ((zIa (d.getD n default).att nm).getD []),bv (zIa (d.getD n default).att nm).isSome]}:=by
 have hc:=yCD zBQ [.fp [bS nm]] (d.getD n default).att (fun a=>decide (a.1=nm)) (fun i hi=>zKa _ nm)
 have e1:=zBo d n hn
 obtain ⟨x,hx⟩:∃ x,x=d.getD n default:=⟨_,rfl⟩
 rw [←hx] at e1 hc ⊢
 refine mkA zK1 (base:=0) (fo rfl) (fun hfit=>?_)
 unfold F0 zFy
 refine goU ?_
 try simp (maxSteps:=2000000) only [go_sem,e1]
 repeat with_reducible refine zAP ?_
 refine zAo (by repeat' constructor) (hc) ?_
 refine goW ?_
 refine zAa (by rfl) trivial (fun h=>?_) (fun h=>?_)
 ·have h':yAl (fun a=>decide (a.1=nm)) x.att < 0:=by simpa using h
  rw [yCE h']
  refine goW ?_
  exact zAA (by simp) ⟨zAv rfl trivial (.inl rfl),zAv rfl trivial (.inl rfl),rfl⟩
 ·have h':¬ yAl (fun a=>decide (a.1=nm)) x.att < 0:=by simpa using h
  obtain ⟨i,hi,h2,h3⟩:=yCF h'
  have e2:=zPy x.att i hi
  rw [h3]
  rw [h2]
  try simp (maxSteps:=2000000) only [go_sem,e1,e2]
  repeat with_reducible refine zAP ?_
  exact zAA (by simp) ⟨zAv rfl trivial (.inl rfl),zAv rfl trivial (.inl rfl),rfl⟩
end Go.Hx
end

section
set_option maxRecDepth 100000
set_option linter.unusedSimpArgs false
set_option linter.unusedSectionVars false
namespace Go.Hx
open Go.Proofs
variable [Glob] [GlobL]
section
variable {d:List Nd} (hd:zCF d d.length=true)
include hd
theorem yHa {k:Nat} (hk:k+1 < d.length):zAB d (k+1)∈C d k:=by
 have h:=zA0 hd hk
 simp only [zVH,yHN,Bool.and_eq_true] at h
 have h2:=h.2
 rw [if_neg (by omega)] at h2
 have h3:zAB d (k+1)∈zBk d (k+1) (((k+1:Nat):Int)-1):=by simpa using h2
 rw [show (((k+1:Nat):Int)-1)=k by omega] at h3
 unfold C
 rw [zGg d.length (k+1) k (fun j hj=>(zA1 hd j (by omega)).2) (by omega) (by omega)]
 exact h3
theorem yLw {k:Nat} (h0:0 < k) (hk:k < d.length):0≤zAB d k:=by
 obtain ⟨j,rfl⟩:∃ j,k=j+1:=⟨k-1,by omega⟩
 exact (yJM hd (by omega) (yHa hd hk)).1
theorem yI7 (h:0 < d.length):zAB d 0=-1:=by
 have:=zA0 hd h
 simp only [zVH,yHN,Bool.and_eq_true] at this
 simpa using this.2
theorem yFw {n k:Nat} (hk:k+1 < d.length) (hn:n < k) (h:(n:Int)∈C d (zAB d (k+1))):(n:Int)∈C d (zAB d k):=by
 have h1:=yI4 hd k (by omega) (yHa hd hk) h
 rw [zCY hd (by omega)] at h1
 rcases List.mem_cons.1 h1 with e|e
 ·omega
 ·exact e
theorem yAu {n k:Nat} (hk:k < d.length) (h:k≤n):(n:Int)∉C d (zAB d k):=by
 intro hx
 have:=zA1 hd k hk
 have:=yJM hd (by omega) hx
 omega
theorem zRR {n m:Nat} (hm:m < d.length) (h:(n:Int)∈C d (zAB d m)):∀ t k,m=k+t→n < k→(n:Int)∈C d (zAB d k)
 |0,k,e,_=>by rw [Nat.add_zero] at e;rw [←e];exact h
 |t+1,k,e,hk=>yFw hd (by omega) hk (zRR hm h t (k+1) (by omega) (by omega))
theorem zEa (n k:Nat):zAU d n (k+1)=zAU d n k+(if (n:Int)∈C d (zAB d k) then 1 else 0):=by
 rw [zJj]
 by_cases h:(n:Int)∈C d (zAB d k)
 ·rw [if_pos h,if_pos (by simpa [C] using h)]
 ·rw [if_neg h,if_neg (by simpa [C] using h)]
theorem zLw {n:Nat}:∀ k,k≤n+1→k≤d.length→zAU d n k=0
 |0,_,_=>yAk d n
 |k+1,h,hk=>by rw [zEa hd,zLw k (by omega) (by omega),if_neg (yAu hd (by omega) (by omega))];rfl
theorem zUX {n m:Nat} (hm:m < d.length) (h:∀ k,n < k→k≤m→(n:Int)∈C d (zAB d k)):∀ t,n+1+t≤m+1→zAU d n (n+1+t)=t
 |0,_=>zLw hd _ (by omega) (by omega)
 |t+1,ht=>by
  rw [show n+1+(t+1)=(n+1+t)+1 by omega,zEa hd,zUX hm h t (by omega),if_pos (h _ (by omega) (by omega))]
  omega
theorem zRS {n m:Nat} (hm:m < d.length) (hn:n < m) (h:(n:Int)∉C d (zAB d m)):∀ t,m+t≤d.length→zAU d n (m+t)=zAU d n m
 |0,_=>rfl
 |t+1,ht=>by
  rw [show m+(t+1)=(m+t)+1 by omega,zEa hd,zRS hm hn h t (by omega),if_neg fun hx=>h (zRR hd (by omega) hx t m (by omega) hn)]
  omega
theorem zUY (n:Nat):∀ t k,zAU d n k≤zAU d n (k+t)
 |0,k=>Int.le_refl _
 |t+1,k=>by rw [show k+(t+1)=(k+t)+1 by omega,zEa hd];have:=zUY n t k;split<;>omega
theorem zJm {n:Nat}:∀ t,n+1+t≤d.length→zAU d n (n+1+t)≤t
 |0,h=>by rw [zLw hd _ (by omega) h];exact Int.le_refl _
 |t+1,h=>by rw [show n+1+(t+1)=(n+1+t)+1 by omega,zEa hd];have:=zJm (n:=n) t (by omega);split<;>omega
theorem yAv {n m:Nat} (hm:m < d.length):zLQ d n m=true↔n < m∧(m:Int)≤n+zCU d n:=by
 have ha:zLQ d n m=true↔(n:Int)∈C d (zAB d m):=by unfold zLQ C;simp
 rw [ha]
 constructor
 ·intro h
  have hnm:n < m:=Classical.byContradiction fun hx=>yAu hd hm (by omega) h
  refine ⟨hnm,?_⟩
  have h1:=zUX hd hm (fun k hk hkm=>zRR hd hm h (m-k) k (by omega) hk) (m-n) (by omega)
  have h2:=zUY hd n (d.length-(n+1+(m-n))) (n+1+(m-n))
  rw [show n+1+(m-n)+(d.length-(n+1+(m-n)))=d.length by omega,h1] at h2
  unfold zCU
  omega
 ·rintro ⟨hnm,h⟩
  apply Classical.byContradiction
  intro hx
  have h1:=zRS hd hm hnm hx (d.length-m) (by omega)
  rw [show m+(d.length-m)=d.length by omega] at h1
  have h2:=zJm hd (n:=n) (m-n-1) (by omega)
  rw [show n+1+(m-n-1)=m by omega] at h2
  unfold zCU at h
  omega
theorem yFx (n:Nat):0≤zCU d n∧zCU d n≤d.length:=zEC _
end
theorem yHb {d:List Nd} {n:Nat} (h:0 < n):zER d n=zDO d (zAB d n):=by
 unfold zER;rw [if_neg (by omega)];rfl
theorem zUZ {d:List Nd} {n:Nat}:∀ t,∃ r,zAt d (zAB d n) (n+1+t)=zAt d (zAB d n) n++(n:Int)::r∧∀ x∈r,(n:Int) < x
 |0=>⟨[],by rw [Nat.add_zero,zAE,if_pos rfl],by simp⟩
 |t+1=>by
  obtain ⟨r,h1,h2⟩:=zUZ t
  rw [show n+1+(t+1)=(n+1+t)+1 by omega,zAE]
  split
  ·refine ⟨r++[((n+1+t:Nat):Int)],by rw [h1];simp,fun x hx=>?_⟩
   rcases List.mem_append.1 hx with hx|hx
   ·exact h2 x hx
   ·have:x=((n+1+t:Nat):Int):=by simpa using hx
    omega
  ·exact ⟨r,h1,h2⟩
theorem zJF {d:List Nd} {u x:Int}:∀ {k:Nat},x∈zAt d u k→∃ m:Nat,x=m∧m < k∧zAB d m=u
 |0,h=>by rw [zMP] at h;cases h
 |k+1,h=>by
  rw [zAE] at h
  split at h
  ·rename_i he
   rcases List.mem_append.1 h with h|h
   ·obtain ⟨m,h1,h2,h3⟩:=zJF h;exact ⟨m,h1,by omega,h3⟩
   ·exact ⟨k,by simpa using h,by omega,he⟩
  ·obtain ⟨m,h1,h2,h3⟩:=zJF h;exact ⟨m,h1,by omega,h3⟩
theorem zLx {l r:List Int} {x:Int} (h:x∉l):zBz (l++x::r) x=l.length:=by
 unfold zBz
 have h1:l.findIdx? (fun y=>decide (y=x))=none:=by
  rw [List.findIdx?_eq_none_iff]
  intro y hy
  simp only [decide_eq_false_iff_not]
  rintro rfl
  exact h hy
 rw [List.findIdx?_append,h1,List.findIdx?_cons]
 simp
theorem zRT {d:List Nd} {u:Int} {n:Nat}:(n:Int)∉zAt d u n:=by
 intro h
 obtain ⟨m,h1,h2,_⟩:=zJF h
 omega
section
variable {d:List Nd} (hd:zCF d d.length=true)
include hd
theorem yAw {n:Nat} (hn:n < d.length) (h0:0 < n):∃ r,zER d n=zAt d (zAB d n) n++(n:Int)::r∧∀ x∈r,(n:Int) < x:=by
 obtain ⟨r,h1,h2⟩:=zUZ (d:=d) (n:=n) (d.length-(n+1))
 rw [show n+1+(d.length-(n+1))=d.length by omega] at h1
 exact ⟨r,by rw [yHb h0];exact h1,h2⟩
theorem yHc {n:Nat} (hn:n < d.length):plc d n=zBz (zER d n) n+1:=by
 unfold plc
 by_cases h0:n=0
 ·subst h0
  have:zER d 0=[0]:=rfl
  rw [this,zMP];rfl
 ·obtain ⟨r,h1,_⟩:=yAw hd hn (by omega)
  rw [h1,zLx zRT]
theorem yLx {n:Nat} (hn:n < d.length):ofN d n=(zER d n).length:=by
 unfold ofN
 by_cases h0:n=0
 ·subst h0
  rw [yI7 hd (by omega)];rfl
 ·rw [if_pos (yLw hd (by omega) hn),yHb (by omega)]
theorem yHd {n:Nat}:yK7 d n=[]↔(zDO d n).length=0:=by
 unfold yK7 zDO zAt
 rw [List.length_map,List.length_eq_zero_iff]
end
end Go.Hx
end

section
set_option maxRecDepth 100000
set_option linter.unusedSimpArgs false
namespace Go.Hx
open Go.Proofs
variable [Glob] [GlobL]
attribute [local go_sem] zAk zAi zAj zAe ndV zAg
attribute [local go_sem] reduceCtorEq Nat.reduceAdd Nat.reduceEqDiff reduceIte Nat.reduceLeDiff Nat.reduceLT Nat.reduceSub
def yDj (d:List Nd) (n:Nat):Nat→Nat→Nat
 |0,e=>e
 |f+1,e=>if (n:Int)≤zAB d e then yDj d n f (e+1) else e
def zAq (d:List Nd) (n:Nat):Nat:=yDj d n (d.length-(n+1)) (n+1)
theorem yHs {d:List Nd} {n:Nat}:∀ (f e:Nat),e≤yDj d n f e∧yDj d n f e≤e+f
 |0,e=>by simp [yDj]
 |f+1,e=>by
  simp only [yDj]
  split
  ·have:=yHs (d:=d) (n:=n) f (e+1);omega
  ·omega
theorem zAL {d:List Nd} {n:Nat} (h:n < d.length):n < zAq d n∧zAq d n≤d.length:=by
 have:=yHs (d:=d) (n:=n) (d.length-(n+1)) (n+1)
 simp only [zAq];omega
theorem yJg (d:List Nd) (i:Nat) (h:d.length≤i):(zEf d).getD i []=[]:=by simp [zEf,h]
theorem zFG (d:List Nd) (n:Nat) (hn:n < d.length):Contract Tryz.prog zCG [.val (zCv d),.val (iv n)] {res:=.val (iv (zAq d n))}:=by
 unfold zCv
 refine mkA zV9 (base:=0) (fo rfl) (fun hfit=>?_)
 unfold F0 zOn
 refine goU ?_
 have hm:=zDp (k:=5) hfit.1.1
 rw [zAk] at hm
 refine goW ?_
 refine zAn (fun e:Nat=>[(5,.pv (iv e)),(22,.un)]) (fun e:Nat=>d.length-e) (fun e:Nat=>n < e∧e≤d.length∧yDj d n (d.length-e) e=zAq d n) ((n+1)) ?_ ⟨by omega,by omega,rfl⟩ ?_
 focus (exact leA)
 intro e ⟨he,he2,hb⟩
 by_cases hlt:e < d.length
 ·have hlt':(e:Int) < d.length:=by omega
  try simp (maxSteps:=2000000) only [go_sem,zBo _ _ hlt]
  repeat with_reducible refine zAP ?_
  refine zAa (by rfl) trivial (fun h=>?_) (fun h=>?_)
  ·refine goW ?_
   refine ⟨e+1,by omega,⟨by omega,by omega,?_⟩,?_⟩
   ·rw [←hb,show d.length-e=(d.length-(e+1))+1 by omega]
    simp only [yDj]
    rw [if_pos]
    simp [zAB] at h ⊢
    grind
   ·exact leA
  ·refine goW ?_
   refine zAb rfl trivial (.inl ?_)
   congr 3
   rw [←hb,show d.length-e=(d.length-(e+1))+1 by omega]
   simp only [yDj]
   rw [if_neg]
   simp [zAB] at h ⊢
   grind
 ·have hge:d.length≤e:=by omega
  have hd:decide ((e:Int) < (d.length:Int))=false:=by simp;omega
  try simp (maxSteps:=2000000) only [go_sem,hd,yJg _ _ hge,List.take_nil,List.headD_nil]
  repeat with_reducible refine zAP ?_
  refine zAa (by rfl) trivial (fun h=>?_) (fun h=>?_)
  ·simp at h;try omega
  ·refine goW ?_
   refine zAb rfl trivial (.inl ?_)
   congr 3
   rw [←hb,show d.length-e=0 by omega]
   rfl
theorem zSs (d:List Nd) (k:Int):Contract Tryz.prog zFu [.val (zCv d),.val (iv k)] {res:=.val (iv (zCB d k))}:=by
 unfold zCv
 refine mkA zY3 (base:=0) (fo rfl) (fun hfit=>?_)
 unfold F0 zQM
 refine goU ?_
 refine zAo (by repeat' constructor) (zDV d) ?_
 refine goW ?_
 refine zAa (by rfl) trivial (fun h=>?_) (fun h=>?_)
 ·refine goW ?_
  refine zAb rfl trivial (.inl ?_)
  congr 3
  simp at h
  simp [zCB,h]
 refine goW ?_
 have hc:zAd d=0:=by simpa using h
 refine zAa (by rfl) trivial (fun h2=>?_) (fun h2=>?_)
 ·refine goW ?_
  refine zAb rfl trivial (.inl ?_)
  congr 3
  rw [zCB,if_pos hc,if_neg (by grind)]
 ·refine goW ?_
  refine zAb rfl trivial (.inl ?_)
  congr 3
  rw [zCB,if_pos hc,if_pos (by grind)]
def zN6 (d:List Nd) (n:Nat):Nat→Nat→List Int
 |0,_=>[]
 |f+1,i=>if i < zAq d n then (i:Int)::zN6 d n f (zAq d i) else []
def zDc (d:List Nd) (n:Nat):List Int:=zN6 d n d.length (n+1)
theorem yFF (d:List Nd) (n:Nat) (hn:n < d.length) (hd:d.length≤64):Contract Tryz.prog zKF [.val (zCv d),.val (iv n)] {res:=.own zAs 1 (zAH (zDc d n))}:=by
 unfold zCv
 refine mkA yBD (base:=0) (fo rfl) (fun hfit=>?_)
 unfold F0 zUE
 refine goU ?_
 have hbn:=zAL hn
 refine zAn (fun s:List Int×Nat×Nat=>[(5,.own zAs 1 (zAH s.1)),(6,.pv (iv s.2.1)),(13,.un)]) (fun s:List Int×Nat×Nat=>s.2.2) (fun s:List Int×Nat×Nat=>s.1.length≤s.2.1∧s.2.1≤d.length∧d.length≤s.2.1+s.2.2∧s.1++zN6 d n s.2.2 s.2.1=zDc d n) (([],n+1,d.length)) ?_ ⟨by simp,by simp;omega,by simp,by simp [zDc]⟩ ?_
 focus (exact leA)
 intro ⟨out,i,f⟩ ⟨h1,h2,h3,h4⟩
 simp only at h1 h2 h3 h4 ⊢
 refine goW ?_
 refine zAo (by repeat' constructor) (zFG d n hn) ?_
 refine goW ?_
 refine zAa (by rfl) trivial (fun h=>?_) (fun h=>?_)
 ·have hi:i < zAq d n:=by simpa using h
  have hil:i < d.length:=by omega
  have hbi:=zAL hil
  refine goW ?_
  refine zAo (by repeat' constructor) (zFG d i hil) ?_
  refine goW ?_
  cases f with
  |zero=>omega
  |succ f=>
   refine ⟨(out++[(i:Int)],zAq d i,f),by simp,⟨by simp;omega,by simp;omega,by simp;omega,?_⟩,?_⟩
   ·rw [←h4]
    simp only [zN6]
    rw [if_pos hi]
    simp
   ·simp (maxSteps:=2000000) only [go_sem,zAS,zBu,zCR,zAT]
    all_goals (repeat' (first|exact trivial|exact zBa (by omega)|exact zAX rfl|exact zBb rfl|exact zBB|exact le_refl _|refine And.intro ?_ ?_))
    exact zQp (by simp [zAH])
 ·refine goW ?_
  have hi:¬ i < zAq d n:=by simpa using h
  have:out=zDc d n:=by
   rw [←h4]
   cases f with
   |zero=>simp [zN6]
   |succ f=>simp [zN6,hi]
  rw [←this]
  exact zG2 rfl
end Go.Hx
end
