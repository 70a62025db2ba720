/-
  Walks of functions of the program over an abstract layer, and the laws that they use: each contract says what the function computes, for every input that its conditions let by. No other condition.
-/
import Derived.Test.YtjnagiaooecklabGreatDoorG10
import Derived.Test.YtjnagiaooecklabGreatDoorG12
import Derived.Test.YtjnagiaooecklabGreatDoorG17
import Derived.Test.YtjnagiaooecklabGreatDoorG18
import Derived.Shelf.Strings.SlTrimAscii
import Derived.Test.YtjnagiaooecklabGreatDoorG13
import Derived.Test.YtjnagiaooecklabGreatDoorG11
set_option linter.all false
section
set_option maxRecDepth 100000
set_option linter.unusedSimpArgs false
namespace Go.Hx
open Go.Proofs Go.RowKit
variable [Glob] [GlobL]
attribute [local go_sem] zAh zAm zAk zAg ndV zAr
attribute [local go_sem] reduceCtorEq Nat.reduceAdd Nat.reduceEqDiff reduceIte Nat.reduceLeDiff Nat.reduceLT Nat.reduceSub
theorem zU6 {R:Nat→Prop} {w w':World} (h:Below w.heap.size w w'):Pres R w w':=Pres.of_below _ h
theorem zYH {m:Mem} {w w':World} (hm:MemOk m w) (h:Below w.heap.size w w'):MemOk m w':=fun b o u hu=>by
 have h1:=hm b o u hu
 have h2:b < w.heap.size:=World.block_lt_of_cell? w _ h1
 rw [←h1]
 exact World.cell?_of_block (h.block b h2)
theorem zU7 {R:Nat→Prop} {w w':World} (h:Pres R w w') (hR:∀ b,¬ R b):Below w.heap.size w w':=⟨h.os,h.tape,h.output,h.size,fun b hb=>h.block b hb (hR b)⟩
theorem zZ7 {m:Mem} {w w':World} {avs:List AV} {us:List Value} {e:Ending} {x:PVal} {u:Value} (hm:MemOk m w) (h:Below w.heap.size w w') (he:e=.returned u) (hx:RpV m x u) (hio:ioB avs us=none):yGY m w avs us {res:=.val x} e w':=
 ⟨m,m.le_refl,zYH hm h,zU6 h,fun _ _ _ h=>.inl h,(fun b hb=>by rw [hio] at hb;cases hb),u,he,hx⟩
theorem yBw {w w':World} (h:Below w.heap.size w w') (hG:Glob.ok w):Glob.ok w':=
 Glob.keep _ _ (fun b hb=>h.block b (Nat.lt_of_lt_of_le hb (Glob.size _ hG))) hG
theorem yCE (s cs:Bys):(Lib.trimS s cs).length≤s.length:=by
 unfold Lib.trimS Lib.trimLeftS Lib.trimRightS
 refine Nat.le_trans (List.dropWhile_sublist _).length_le ?_
 rw [List.length_reverse]
 refine Nat.le_trans (List.dropWhile_sublist _).length_le ?_
 rw [List.length_reverse]
 exact Nat.le_refl _
theorem yCF {s:Bys} (h:s.length≤maxLen):zEA (mkS s)=true:=by
 simp only [zEA]
 exact decide_eq_true (by simpa [ByteArray.size] using h)
theorem yD5 {s:Bys} (h:zEA (mkS s)=true):s.length≤maxLen:=by
 simp only [zEA,decide_eq_true_eq] at h
 simpa [ByteArray.size] using h
theorem zQ2 (s cs:Bys) (hc:cs.length < 1000) (ha:cs.all (fun b=>decide (b.toNat < 128))=true):Contract Tryz.prog zEy [.val (sv s),.val (sv cs)] {res:=.val (sv (Lib.trimS s cs))}:=by
 refine ⟨by kernel_rfl,fun m w us hm hargs _ hG _=>?_⟩
 obtain ⟨u1,us1,rfl,h1,u2,us2,rfl,h2,rfl⟩:=hargs
 obtain ⟨rfl,f1⟩:=h1
 obtain ⟨rfl,f2⟩:=h2
 have hs:=yD5 f1
 have hT:=Any.strings_Trim_laid Tryz.l160 (by kernel_rfl) ⟨s.toArray⟩ ⟨cs.toArray⟩ w (by simpa [ByteArray.size,maxLen] using hs) (by simp [ByteArray.size];omega) (ascii_of_all (by simpa using ha))
 change Calls Tryz.prog zEy _ _ _ at hT
 refine hT.mono fun e w' ⟨he,hb⟩=>zZ7 hm hb he ⟨by simp,?_⟩ rfl
 exact yCF (Nat.le_trans (yCE s cs) hs)
theorem zDC (s:Bys) (g:Nat) (p:Nat→Bool) (hp:∀ r,128≤r→p r=true) (eg:∀ args w,(callFunc g args).run Tryz.prog w=.ok (.enter g args) w)
  (hg:∀ r:Nat,Contract Tryz.prog g [.val (.one (.v (.int .i32 r)))] {res:=.val (bv (p r))}):
  Contract Tryz.prog zBt [.val (sv s),.val (.one (.clo g []))] {res:=.val (bv (!s.all (fun b=>decide (b.toNat < 128)&&!p b.toNat)))}:=by
 refine ⟨by kernel_rfl,fun m w us hm hargs _ hG _=>?_⟩
 obtain ⟨u1,us1,rfl,h1,u2,us2,rfl,h2,rfl⟩:=hargs
 obtain ⟨rfl,f1⟩:=h1
 obtain ⟨us,rfl,hus⟩:=h2
 obtain rfl:us=[]:=by simpa [RpL] using hus
 have hpg:PredGrows Tryz.prog g #[] p w:=fun W x _ hbW=>by
  refine ((hg x).2 (fun _ _=>none) W [.int .i32 x] (fun _ _ _ h=>by cases h) ⟨_,_,rfl,⟨rfl,rfl⟩,rfl⟩ (by intro g h;cases h) (yBw hbW hG) (by rintro b (h|h)<;>cases h)).mono fun e W' ⟨m',_,_,hpr,_,_,u,hu,hr⟩=>?_
  obtain rfl:u=.bool (p x):=hr.1
  exact ⟨hu,zU7 hpr (by intro b h;rcases h with h|h<;>cases h)⟩
 have hT:=Any.strings_ContainsFunc_grows Tryz.l17 g #[] eg p ⟨s.toArray⟩ w hpg
 change Calls Tryz.prog zBt _ _ _ at hT
 rw [yGe hp] at hT
 exact hT.mono fun e w' ⟨he,hb⟩=>zZ7 hm hb he ⟨rfl,rfl⟩ rfl
def yBx (r:Nat):Bool:=((decide (r < 97)||decide (122 < r))&&(decide (r < 48)||decide (57 < r)))&&decide (r≠45)
def zSh (r:Nat):Bool:=decide (r < 32)||decide (126 < r)||decide (r=34)
theorem zWU (r:Nat):Contract Tryz.prog zCD [.val (.one (.v (.int .i32 r)))] {res:=.val (bv (yBx r))}:=by
 refine mkA zUI (base:=0) (fo rfl) (fun hfit=>?_)
 unfold F0 zLv
 simp (maxSteps:=2000000) only [zAM,List.set_cons_succ,List.set_cons_zero,List.map_cons,List.map_nil,zAL,zAa,ioOf,List.length_cons,List.length_nil,Nat.reduceAdd,Nat.reduceSub,List.replicate,List.cons_append,List.nil_append]
 try simp (maxSteps:=2000000) only [go_sem]
 repeat with_reducible refine zAb ?_
 refine zAj rfl trivial (.inl ?_)
 congr 3
 unfold yBx
 grind
theorem zU8 (r:Nat):Contract Tryz.prog zCc [.val (.one (.v (.int .i32 r)))] {res:=.val (bv (zSh r))}:=by
 refine mkA zQM (base:=0) (fo rfl) (fun hfit=>?_)
 unfold F0 zJA
 simp (maxSteps:=2000000) only [zAM,List.set_cons_succ,List.set_cons_zero,List.map_cons,List.map_nil,zAL,zAa,ioOf,List.length_cons,List.length_nil,Nat.reduceAdd,Nat.reduceSub,List.replicate,List.cons_append,List.nil_append]
 try simp (maxSteps:=2000000) only [go_sem]
 repeat with_reducible refine zAb ?_
 refine zAj rfl trivial (.inl ?_)
 congr 3
 unfold zSh
 grind
theorem yGf:∀ args w,(callFunc zCD args).run Tryz.prog w=.ok (.enter zCD args) w:=enters_of Tryz.func239 (by kernel_rfl) rfl
theorem yGg:∀ args w,(callFunc zCc args).run Tryz.prog w=.ok (.enter zCc args) w:=enters_of Tryz.func240 (by kernel_rfl) rfl
theorem zKL {α:Type} {l:List α} {p q:α→Bool} (h:∀ x,p x=q x):l.all p=l.all q:=by rw [show p=q from funext h]
theorem yIf (b:UInt8):(decide (b.toNat < 128)&&!zSh b.toNat)=yAT b:=by
 unfold zSh yAT
 grind
theorem yGh (b:UInt8):(decide (b.toNat < 128)&&!yBx b.toNat)=zLf b:=by
 unfold yBx zLf
 grind
theorem yIg (b:UInt8):([97,98,99,100,101,102,103,104,105,106,107,108,109,110,111,112,113,114,115,116,117,118,119,120,121,122,48,49,50,51,52,53,54,55,56,57,45]:Bys).contains b=zLf b:=by
 have h:∀ n:Fin 256,([97,98,99,100,101,102,103,104,105,106,107,108,109,110,111,112,113,114,115,116,117,118,119,120,121,122,48,49,50,51,52,53,54,55,56,57,45]:Bys).contains (UInt8.ofFin n)=zLf (UInt8.ofFin n):=by decide +kernel
 exact h b.toFin
theorem zYI (s:Bys):Contract Tryz.prog zGL [.val (sv s)] {res:=.val (bv (zD2 s))}:=by
 refine mkA zWQ (base:=0) (fo rfl) (fun hfit=>?_)
 unfold F0 zOK
 simp (maxSteps:=2000000) only [zAM,List.set_cons_succ,List.set_cons_zero,List.map_cons,List.map_nil,zAL,zAa,ioOf,List.length_cons,List.length_nil,Nat.reduceAdd,Nat.reduceSub,List.replicate,List.cons_append,List.nil_append]
 try simp (maxSteps:=2000000) only [go_sem]
 repeat with_reducible refine zAb ?_
 apply zAB (h2:=fun _=>zDC s zCc zSh (by intro r h;unfold zSh;grind) yGg zU8)
 ·(simp (maxSteps:=2000000) only [go_sem];rfl)
 ·intro h;repeat' (first|exact trivial|exact h|refine And.intro ?_ ?_)
 try simp (maxSteps:=2000000) only [go_sem]
 repeat with_reducible refine zAb ?_
 refine zAj rfl trivial (.inl ?_)
 congr 3
 rw [zKL yIf,zD2]
 grind
theorem zHL (s:Bys):Contract Tryz.prog zDH [.val (sv s)] {res:=.val (bv (zCl s))}:=by
 refine mkA zYp (base:=0) (fo rfl) (fun hfit=>?_)
 unfold F0 zSc
 simp (maxSteps:=2000000) only [zAM,List.set_cons_succ,List.set_cons_zero,List.map_cons,List.map_nil,zAL,zAa,ioOf,List.length_cons,List.length_nil,Nat.reduceAdd,Nat.reduceSub,List.replicate,List.cons_append,List.nil_append]
 try simp (maxSteps:=2000000) only [go_sem]
 repeat with_reducible refine zAb ?_
 apply zAB (h2:=fun _=>zQ2 s _ (by decide) (by decide))
 ·(simp (maxSteps:=2000000) only [go_sem];rfl)
 ·intro h;repeat' (first|exact trivial|exact h|refine And.intro ?_ ?_)
 try simp (maxSteps:=2000000) only [go_sem]
 repeat with_reducible refine zAb ?_
 apply zAB (h2:=fun _=>zDC s zCD yBx (by intro r h;unfold yBx;grind) yGf zWU)
 ·(simp (maxSteps:=2000000) only [go_sem];rfl)
 ·intro h;repeat' (first|exact trivial|exact h|refine And.intro ?_ ?_)
 try simp (maxSteps:=2000000) only [go_sem]
 repeat with_reducible refine zAb ?_
 refine zAj rfl trivial (.inl ?_)
 congr 3
 rw [zKL yGh,yD4,zKL yIg,zCl]
 grind
end Go.Hx
end

section
set_option maxRecDepth 100000
set_option linter.unusedSimpArgs false
namespace Go.Hx
open Go.Proofs
variable [Glob] [GlobL]
attribute [local go_sem] zAh zAm zAk zAg ndV zAr
attribute [local go_sem] reduceCtorEq Nat.reduceAdd Nat.reduceEqDiff reduceIte Nat.reduceLeDiff Nat.reduceLT Nat.reduceSub
theorem zHp (s:Bys):Contract Tryz.prog zEh [.val (sv s)] {res:=.val (sv s)}:=by
 refine mkA zT4 (base:=0) (fo rfl) (fun hfit=>?_)
 unfold F0 zLp
 simp (maxSteps:=2000000) only [zAM,List.set_cons_succ,List.set_cons_zero,List.map_cons,List.map_nil,zAL,zAa,ioOf,List.length_cons,List.length_nil,Nat.reduceAdd,Nat.reduceSub,List.replicate,List.cons_append,List.nil_append]
 try simp (maxSteps:=2000000) only [go_sem]
 repeat with_reducible refine zAb ?_
 try simp (maxSteps:=2000000) only [go_sem]
 repeat with_reducible refine zAb ?_
 refine zAj rfl trivial (.inl ?_)
 congr 3
theorem zHq (a b:Bys):Contract Tryz.prog zEi [.val (.agg [bS a,bS b])] {res:=.val (sv a)}:=by
 refine mkA zT7 (base:=0) (fo rfl) (fun hfit=>?_)
 unfold F0 zLq
 simp (maxSteps:=2000000) only [zAM,List.set_cons_succ,List.set_cons_zero,List.map_cons,List.map_nil,zAL,zAa,ioOf,List.length_cons,List.length_nil,Nat.reduceAdd,Nat.reduceSub,List.replicate,List.cons_append,List.nil_append]
 try simp (maxSteps:=2000000) only [go_sem]
 repeat with_reducible refine zAb ?_
 try simp (maxSteps:=2000000) only [go_sem]
 repeat with_reducible refine zAb ?_
 refine zAj rfl trivial (.inl ?_)
 congr 3
theorem zWY (a b:Bys):Contract Tryz.prog zDp [.val (.agg [bS a,bS b])] {res:=.val (bv (!zD2 b))}:=by
 refine mkA zUa (base:=0) (fo rfl) (fun hfit=>?_)
 unfold F0 zLr
 simp (maxSteps:=2000000) only [zAM,List.set_cons_succ,List.set_cons_zero,List.map_cons,List.map_nil,zAL,zAa,ioOf,List.length_cons,List.length_nil,Nat.reduceAdd,Nat.reduceSub,List.replicate,List.cons_append,List.nil_append]
 try simp (maxSteps:=2000000) only [go_sem]
 repeat with_reducible refine zAb ?_
 refine zAq (by repeat' constructor) (zYI _) ?_
 try simp (maxSteps:=2000000) only [go_sem]
 repeat with_reducible refine zAb ?_
 try simp (maxSteps:=2000000) only [go_sem]
 repeat with_reducible refine zAb ?_
 refine zAj rfl trivial (.inl ?_)
 congr 3
theorem yD7 {l:List Bys} {i:Nat}:okC l (i+1)=(okC l i&&cOk l i):=zCP
theorem zSi:∀ {x y:Bys},Op.bytesLess x y=true→Op.bytesLess y x=false
 |[],_,h=>by rename_i y;cases y<;>rfl
 |a::x,[],h=>by simp [Op.bytesLess] at h
 |a::x,b::y,h=>by
  simp only [Op.bytesLess,Bool.or_eq_true,Bool.and_eq_true,decide_eq_true_eq,beq_iff_eq] at h
  simp only [Op.bytesLess,Bool.or_eq_false_iff,Bool.and_eq_false_iff,decide_eq_false_iff_not,beq_eq_false_iff_ne]
  rcases h with h|⟨rfl,h⟩
  ·exact ⟨UInt8.lt_asymm h,.inl (fun e=>by subst e;exact UInt8.lt_irrefl _ h)⟩
  ·exact ⟨UInt8.lt_irrefl _,.inr (zSi h)⟩
theorem zSj:∀ {x y:Bys},Op.bytesLess x y=false→x≠y→Op.bytesLess y x=true
 |[],[],_,h=>(h rfl).elim
 |[],b::y,h,_=>by simp [Op.bytesLess] at h
 |a::x,[],_,_=>rfl
 |a::x,b::y,h,hn=>by
  simp only [Op.bytesLess,Bool.or_eq_false_iff,Bool.and_eq_false_iff,decide_eq_false_iff_not,beq_eq_false_iff_ne] at h
  simp only [Op.bytesLess,Bool.or_eq_true,Bool.and_eq_true,decide_eq_true_eq,beq_iff_eq]
  obtain ⟨h1,h2⟩:=h
  by_cases e:a=b
  ·subst e
   refine .inr ⟨rfl,zSj (h2.resolve_left (fun h=>h rfl)) (fun e=>hn (by rw [e]))⟩
  ·refine .inl ?_
   have h3:b≤a:=UInt8.not_lt.1 h1
   exact UInt8.lt_of_le_of_ne h3 (Ne.symm e)
theorem zSk {x y:Bys}:(Op.bytesLess x y||x==y)=!Op.bytesLess y x:=by
 cases h:Op.bytesLess y x with
 |true=>
  have h1:=zSi h
  have:¬ x=y:=fun e=>by subst e;rw [h1] at h;cases h
  simp [h1,this]
 |false=>
  by_cases e:x=y
  ·subst e;simp
  ·simp [zSj h (Ne.symm e)]
theorem zJ5 (l:List Bys):Contract Tryz.prog zC0 [.val (.one (.sl 1 (zVD l))),.val (.one (.clo zEh []))] {res:=.val (bv (okC l l.length))}:=by
 refine mkA zII (base:=0) (fo rfl) (fun hfit=>?_)
 unfold F0 zET
 simp (maxSteps:=2000000) only [zAM,List.set_cons_succ,List.set_cons_zero,List.map_cons,List.map_nil,zAL,zAa,ioOf,List.length_cons,List.length_nil,Nat.reduceAdd,Nat.reduceSub,List.replicate,List.cons_append,List.nil_append]
 try simp (maxSteps:=2000000) only [go_sem]
 repeat with_reducible refine zAb ?_
 have hm:=zDl (k:=1) hfit.1
 rw [zAm] at hm
 refine zAx (fun i:Nat=>[(5,.pv (sv (if i=0 then [] else l.getD (i-1) []))),(7,.un),(10,.pv (iv i)),(11,.un),(25,.un)]) (fun i:Nat=>l.length-i) (fun i:Nat=>i≤l.length∧okC l i=true) (0) ?_ ⟨Nat.zero_le _,rfl⟩ ?_
 focus (simp (maxSteps:=2000000) only [go_sem,zAn,zAw,zAJ,zAo];all_goals (repeat' (first|exact trivial|exact zAy (by omega)|exact zAu rfl|exact zAN rfl|exact zAA|exact le_refl _|refine And.intro ?_ ?_)))
 intro i ⟨hi,hok⟩
 try simp (maxSteps:=2000000) only [go_sem]
 repeat with_reducible refine zAb ?_
 refine zAd (by rfl) trivial (fun h=>?_) (fun h=>?_)
 ·have hlt:i < l.length:=by simpa using h
  try simp (maxSteps:=2000000) only [go_sem,zEN _ _ hlt]
  repeat with_reducible refine zAb ?_
  refine zDS (by rfl) trivial (by repeat' constructor) (zHp _) ?_
  try simp (maxSteps:=2000000) only [go_sem]
  repeat with_reducible refine zAb ?_
  refine zAq (by repeat' constructor) (zHL _) ?_
  try simp (maxSteps:=2000000) only [go_sem]
  repeat with_reducible refine zAb ?_
  refine zND (by simp (maxSteps:=2000000) only [go_sem];rfl) (by rfl) (by first|exact fun _=>trivial|exact fun h=>h) (by intro h;repeat' (first|exact trivial|exact h|refine And.intro ?_ ?_)) (fun _=>zHp _) ?_
  try simp (maxSteps:=2000000) only [go_sem]
  repeat with_reducible refine zAb ?_
  rw [zSk]
  refine zAd (by rfl) trivial (fun h2=>?_) (fun h2=>?_)
  ·try simp (maxSteps:=2000000) only [go_sem]
   repeat with_reducible refine zAb ?_
   refine zAj rfl trivial (.inl ?_)
   congr 3
   cases hn:okC l l.length with
   |false=>rfl
   |true=>
    exfalso
    have h4:=zA5 hn hlt
    simp only [cOk,Bool.and_eq_true,Bool.or_eq_true,decide_eq_true_eq] at h4
    rw [h4.1] at h2
    by_cases h0:i=0
    ·subst h0
     cases hx:l.getD 0 [] with
     |nil=>rw [hx] at h4;simp [zCl] at h4
     |cons a r=>rw [hx] at h2;simp [Op.bytesLess] at h2
    ·rw [if_neg h0,h4.2.resolve_left h0] at h2
     simp at h2
  ·try simp (maxSteps:=2000000) only [go_sem]
   repeat with_reducible refine zAb ?_
   refine zDS (by rfl) trivial (by repeat' constructor) (zHp _) ?_
   try simp (maxSteps:=2000000) only [go_sem]
   repeat with_reducible refine zAb ?_
   refine ⟨i+1,by omega,⟨hlt,?_⟩,?_⟩
   ·rw [yD7,hok]
    simp only [Bool.true_and,cOk]
    cases hn:zCl (l.getD i []) with
    |false=>rw [hn] at h2;simp at h2
    |true=>
     rw [hn] at h2
     by_cases h0:i=0
     ·simp [h0]
     ·rw [if_neg h0] at h2
      simp at h2
      simp [h0,h2]
   ·simp (maxSteps:=2000000) only [go_sem,zAn,zAw,zAJ,zAo]
    all_goals (repeat' (first|exact trivial|exact zAy (by omega)|exact zAu rfl|exact zAN rfl|exact zAA|exact le_refl _|refine And.intro ?_ ?_))
 ·try simp (maxSteps:=2000000) only [go_sem]
  repeat with_reducible refine zAb ?_
  refine zAj rfl trivial (.inl ?_)
  congr 3
  have:i=l.length:=by simp at h;omega
  rw [←this];exact hok
def rOk (l:List (Bys×Bys)) (k:Nat):Bool:=zCl (l.getD k default).1&&(decide (k=0)||Op.bytesLess (l.getD (k-1) default).1 (l.getD k default).1)
def zWZ (l:List (Bys×Bys)) (i:Nat):Bool:=(List.range i).all (rOk l)
abbrev yGi (l:List (Bys×Bys)):Bool:=zWZ l l.length
theorem zYJ {l:List (Bys×Bys)} {i:Nat}:zWZ l (i+1)=(zWZ l i&&rOk l i):=zCP
theorem zMz (l:List (Bys×Bys)):Contract Tryz.prog zCr [.val (.one (.sl 2 (zVE l))),.val (.one (.clo zEi []))] {res:=.val (bv (yGi l))}:=by
 refine mkA zGY (base:=0) (fo rfl) (fun hfit=>?_)
 unfold F0 zEb
 simp (maxSteps:=2000000) only [zAM,List.set_cons_succ,List.set_cons_zero,List.map_cons,List.map_nil,zAL,zAa,ioOf,List.length_cons,List.length_nil,Nat.reduceAdd,Nat.reduceSub,List.replicate,List.cons_append,List.nil_append]
 try simp (maxSteps:=2000000) only [go_sem]
 repeat with_reducible refine zAb ?_
 have hm:=zDl (k:=2) hfit.1
 rw [zAk] at hm
 refine zAx (fun i:Nat=>[(5,.pv (sv (if i=0 then [] else (l.getD (i-1) default).1))),(7,.un),(30,.un),(31,.un),(10,.pv (iv i)),(11,.un),(25,.un)]) (fun i:Nat=>l.length-i) (fun i:Nat=>i≤l.length∧zWZ l i=true) (0) ?_ ⟨Nat.zero_le _,rfl⟩ ?_
 focus (simp (maxSteps:=2000000) only [go_sem,zAn,zAw,zAJ,zAo];all_goals (repeat' (first|exact trivial|exact zAy (by omega)|exact zAu rfl|exact zAN rfl|exact zAA|exact le_refl _|refine And.intro ?_ ?_)))
 intro i ⟨hi,hok⟩
 try simp (maxSteps:=2000000) only [go_sem]
 repeat with_reducible refine zAb ?_
 refine zAd (by rfl) trivial (fun h=>?_) (fun h=>?_)
 ·have hlt:i < l.length:=by simpa using h
  try simp (maxSteps:=2000000) only [go_sem,zEO _ _ hlt]
  repeat with_reducible refine zAb ?_
  refine zDS (by rfl) trivial (by repeat' constructor) (zHq _ _) ?_
  try simp (maxSteps:=2000000) only [go_sem]
  repeat with_reducible refine zAb ?_
  refine zAq (by repeat' constructor) (zHL _) ?_
  try simp (maxSteps:=2000000) only [go_sem]
  repeat with_reducible refine zAb ?_
  refine zND (by simp (maxSteps:=2000000) only [go_sem];rfl) (by rfl) (by first|exact fun _=>trivial|exact fun h=>h) (by intro h;repeat' (first|exact trivial|exact h|refine And.intro ?_ ?_)) (fun _=>zHq _ _) ?_
  try simp (maxSteps:=2000000) only [go_sem]
  repeat with_reducible refine zAb ?_
  rw [zSk]
  refine zAd (by rfl) trivial (fun h2=>?_) (fun h2=>?_)
  ·try simp (maxSteps:=2000000) only [go_sem]
   repeat with_reducible refine zAb ?_
   refine zAj rfl trivial (.inl ?_)
   congr 3
   cases hn:yGi l with
   |false=>rfl
   |true=>
    exfalso
    have h4:=zA5 hn hlt
    simp only [rOk,Bool.and_eq_true,Bool.or_eq_true,decide_eq_true_eq] at h4
    rw [h4.1] at h2
    by_cases h0:i=0
    ·subst h0
     cases hx:(l.getD 0 default).1 with
     |nil=>rw [hx] at h4;simp [zCl] at h4
     |cons a r=>rw [hx] at h2;simp [Op.bytesLess] at h2
    ·rw [if_neg h0,h4.2.resolve_left h0] at h2
     simp at h2
  ·try simp (maxSteps:=2000000) only [go_sem]
   repeat with_reducible refine zAb ?_
   refine zDS (by rfl) trivial (by repeat' constructor) (zHq _ _) ?_
   try simp (maxSteps:=2000000) only [go_sem]
   repeat with_reducible refine zAb ?_
   refine ⟨i+1,by omega,⟨hlt,?_⟩,?_⟩
   ·rw [zYJ,hok]
    simp only [Bool.true_and,rOk]
    cases hn:zCl ((l.getD i default).1) with
    |false=>rw [hn] at h2;simp at h2
    |true=>
     rw [hn] at h2
     by_cases h0:i=0
     ·simp [h0]
     ·rw [if_neg h0] at h2
      simp at h2
      simp [h0,h2]
   ·simp (maxSteps:=2000000) only [go_sem,zAn,zAw,zAJ,zAo]
    all_goals (repeat' (first|exact trivial|exact zAy (by omega)|exact zAu rfl|exact zAN rfl|exact zAA|exact le_refl _|refine And.intro ?_ ?_))
 ·try simp (maxSteps:=2000000) only [go_sem]
  repeat with_reducible refine zAb ?_
  refine zAj rfl trivial (.inl ?_)
  congr 3
  have:i=l.length:=by simp at h;omega
  subst this;exact hok
def zQ4 (l:List (Bys×Bys)) (i:Nat):Bool:=!zD2 (l.getD i default).2
def zW0 (l:List (Bys×Bys)):Int:=match (List.range l.length).find? (zQ4 l) with|some i=>i|none=>-1
theorem zF5 (l:List (Bys×Bys)):Contract Tryz.prog zBW [.val (.one (.sl 2 (zVE l))),.val (.one (.clo zDp []))] {res:=.val (iv (zW0 l))}:=by
 refine mkA zFI (base:=0) (fo rfl) (fun hfit=>?_)
 unfold F0 zDr
 simp (maxSteps:=2000000) only [zAM,List.set_cons_succ,List.set_cons_zero,List.map_cons,List.map_nil,zAL,zAa,ioOf,List.length_cons,List.length_nil,Nat.reduceAdd,Nat.reduceSub,List.replicate,List.cons_append,List.nil_append]
 try simp (maxSteps:=2000000) only [go_sem]
 repeat with_reducible refine zAb ?_
 have hm:=zDl (k:=2) hfit.1
 rw [zAk] at hm
 refine zAx (fun i:Nat=>[(5,.un),(8,.pv (iv i)),(9,.un),(16,.un)]) (fun i:Nat=>l.length-i) (fun i:Nat=>i≤l.length∧∀ k,k < i→zQ4 l k=false) (0) ?_ ⟨Nat.zero_le _,fun k hk=>by omega⟩ ?_
 focus (simp (maxSteps:=2000000) only [go_sem,zAn,zAw,zAJ,zAo];all_goals (repeat' (first|exact trivial|exact zAy (by omega)|exact zAu rfl|exact zAN rfl|exact zAA|exact le_refl _|refine And.intro ?_ ?_)))
 intro i ⟨hi,hok⟩
 try simp (maxSteps:=2000000) only [go_sem]
 repeat with_reducible refine zAb ?_
 refine zAd (by rfl) trivial (fun h=>?_) (fun h=>?_)
 ·have hlt:i < l.length:=by simpa using h
  try simp (maxSteps:=2000000) only [go_sem,zEO _ _ hlt]
  repeat with_reducible refine zAb ?_
  refine zDS (by rfl) trivial (by repeat' constructor) (zWY _ _) ?_
  try simp (maxSteps:=2000000) only [go_sem]
  repeat with_reducible refine zAb ?_
  refine zAd (by rfl) trivial (fun h2=>?_) (fun h2=>?_)
  ·try simp (maxSteps:=2000000) only [go_sem]
   repeat with_reducible refine zAb ?_
   refine zAj rfl trivial (.inl ?_)
   congr 3
   have h3:(List.range l.length).find? (zQ4 l)=some i:=List.find?_range_eq_some.2 ⟨h2,List.mem_range.2 hlt,fun j hj=>by rw [hok j hj];rfl⟩
   rw [zW0,h3]
  ·try simp (maxSteps:=2000000) only [go_sem]
   repeat with_reducible refine zAb ?_
   refine ⟨i+1,by omega,⟨hlt,fun k hk=>?_⟩,?_⟩
   ·by_cases e:k=i
    ·rw [e];exact h2
    ·exact hok k (by omega)
   ·simp (maxSteps:=2000000) only [go_sem,zAn,zAw,zAJ,zAo]
    all_goals (repeat' (first|exact trivial|exact zAy (by omega)|exact zAu rfl|exact zAN rfl|exact zAA|exact le_refl _|refine And.intro ?_ ?_))
 ·try simp (maxSteps:=2000000) only [go_sem]
  repeat with_reducible refine zAb ?_
  refine zAj rfl trivial (.inl ?_)
  congr 3
  have:i=l.length:=by simp at h;omega
  have h3:(List.range l.length).find? (zQ4 l)=none:=List.find?_eq_none.2 fun x hx=>by rw [hok x (by rw [this];exact List.mem_range.1 hx)];simp
  rw [zW0,h3]
def zW1 (l:List (Bys×Bys)):Bool:=(List.range l.length).any (zQ4 l)
theorem yBy (l:List (Bys×Bys)):decide (0≤zW0 l)=zW1 l:=by
 unfold zW0 zW1
 cases h:(List.range l.length).find? (zQ4 l) with
 |none=>
  have:=List.find?_eq_none.1 h
  have h2:(List.range l.length).any (zQ4 l)=false:=by
   rw [List.any_eq_false];exact this
  rw [h2];rfl
 |some i=>
  have:=List.find?_range_eq_some.1 h
  have h2:(List.range l.length).any (zQ4 l)=true:=List.any_eq_true.2 ⟨i,this.2.1,this.1⟩
  rw [h2]
  simp
theorem zED (l:List (Bys×Bys)):Contract Tryz.prog zBz [.val (.one (.sl 2 (zVE l))),.val (.one (.clo zDp []))] {res:=.val (bv (zW1 l))}:=by
 refine mkA zEx (base:=0) (fo rfl) (fun hfit=>?_)
 unfold F0 zCH
 simp (maxSteps:=2000000) only [zAM,List.set_cons_succ,List.set_cons_zero,List.map_cons,List.map_nil,zAL,zAa,ioOf,List.length_cons,List.length_nil,Nat.reduceAdd,Nat.reduceSub,List.replicate,List.cons_append,List.nil_append]
 try simp (maxSteps:=2000000) only [go_sem]
 repeat with_reducible refine zAb ?_
 refine zAq (by repeat' constructor) (zF5 _) ?_
 try simp (maxSteps:=2000000) only [go_sem]
 repeat with_reducible refine zAb ?_
 try simp (maxSteps:=2000000) only [go_sem]
 repeat with_reducible refine zAb ?_
 refine zAj rfl trivial (.inl ?_)
 congr 3
 rw [←yBy]
theorem yBz (l:List (Bys×Bys)):okA l l.length=(yGi l&&!zW1 l):=by
 rw [Bool.eq_iff_iff]
 simp only [okA,zWZ,zW1,Bool.and_eq_true,Bool.not_eq_true',List.all_eq_true,List.any_eq_false,List.mem_range]
 constructor
 ·intro h
  refine ⟨fun k hk=>?_,fun k hk=>?_⟩
  ·have:=h k hk
   simp only [aOk,rOk,Bool.and_eq_true] at this ⊢
   exact ⟨this.1.1,this.2⟩
  ·have:=h k hk
   simp only [aOk,zQ4,Bool.and_eq_true] at this ⊢
   rw [this.1.2];simp
 ·intro ⟨h1,h2⟩ k hk
  have h3:=h1 k hk
  have h4:=h2 k hk
  simp only [aOk,rOk,zQ4,Bool.and_eq_true,Bool.not_eq_true,Bool.not_eq_false'] at h3 h4 ⊢
  exact ⟨⟨h3.1,h4⟩,h3.2⟩
theorem zKO (x:Nd):Contract Tryz.prog zFZ [.val (.agg (ndV x))] {res:=.val (bv (zA0 x))}:=by
 unfold ndV
 refine mkA zYe (base:=0) (fo rfl) (fun hfit=>?_)
 unfold F0 zSa
 simp (maxSteps:=2000000) only [zAM,List.set_cons_succ,List.set_cons_zero,List.map_cons,List.map_nil,zAL,zAa,ioOf,List.length_cons,List.length_nil,Nat.reduceAdd,Nat.reduceSub,List.replicate,List.cons_append,List.nil_append]
 try simp (maxSteps:=2000000) only [go_sem]
 repeat with_reducible refine zAb ?_
 refine zAq (by repeat' constructor) (zHL _) ?_
 try simp (maxSteps:=2000000) only [go_sem]
 repeat with_reducible refine zAb ?_
 apply zAB (h2:=fun _=>zHL _)
 ·(simp (maxSteps:=2000000) only [go_sem];rfl)
 ·intro h;repeat' (first|exact trivial|exact h|refine And.intro ?_ ?_)
 try simp (maxSteps:=2000000) only [go_sem]
 repeat with_reducible refine zAb ?_
 apply zAB (h2:=fun _=>zJ5 _)
 ·(simp (maxSteps:=2000000) only [go_sem];rfl)
 ·intro h;repeat' (first|exact trivial|exact h|refine And.intro ?_ ?_)
 try simp (maxSteps:=2000000) only [go_sem]
 repeat with_reducible refine zAb ?_
 apply zAB (h2:=fun _=>zMz _)
 ·(simp (maxSteps:=2000000) only [go_sem];rfl)
 ·intro h;repeat' (first|exact trivial|exact h|refine And.intro ?_ ?_)
 try simp (maxSteps:=2000000) only [go_sem]
 repeat with_reducible refine zAb ?_
 apply zAB (h2:=fun _=>zED _)
 ·(simp (maxSteps:=2000000) only [go_sem];rfl)
 ·intro h;repeat' (first|exact trivial|exact h|refine And.intro ?_ ?_)
 try simp (maxSteps:=2000000) only [go_sem]
 repeat with_reducible refine zAb ?_
 refine zAj rfl trivial (.inl ?_)
 congr 3
 simp only [zA0,yBz]
 grind
end Go.Hx
end

section
set_option maxRecDepth 100000
set_option linter.unusedSimpArgs false
namespace Go.Hx
open Go.Proofs
variable [Glob] [GlobL]
attribute [local go_sem] zAh zAm zAk zAg ndV zAr
attribute [local go_sem] reduceCtorEq Nat.reduceAdd Nat.reduceEqDiff reduceIte Nat.reduceLeDiff Nat.reduceLT Nat.reduceSub
def zKP (u:Int) (c:List Int):List Int:=c.dropWhile fun x=>decide (x≠u)
theorem zPe {u:Int}:∀ c:List Int,(zKP u c=[])↔u∉c
 |[]=>by simp [zKP]
 |x::c=>by
  simp only [zKP,List.dropWhile_cons]
  by_cases h:x=u
  ·simp [h]
  ·have:=zPe (u:=u) c
   simp only [zKP] at this
   simp only [ne_eq,decide_not] at this
   simp [h,this,Ne.symm h]
theorem zPf {d:List Nd} {u:Int}:∀ (f:Nat) (k:Int),(∀ j:Nat,(j:Int)≤k→zAS d j < j)→k < f→u∈zBr d f k→∀ g:Nat,u < g→zKP u (zBr d f k)=zBr d g u
 |0,k,_,_,hu=>by simp [zBr] at hu
 |f+1,k,h,hf,hu=>by
  intro g hg
  have hb:=zEq (f+1) k h _ hu
  simp only [zBr] at hu ⊢
  split at hu
  ·cases hu
  ·rename_i hk
   rw [if_neg hk]
   simp only [zKP,List.dropWhile_cons]
   by_cases e:k=u
   ·subst e
    simp only [ne_eq,not_true_eq_false,decide_false,Bool.false_eq_true,if_false]
    have:k::zBr d f (zAS d k.toNat)=zBr d (f+1) k:=by simp [zBr,hk]
    rw [this]
    exact zFy _ _ _ h hf hg
   ·simp only [ne_eq,e,not_false_eq_true,decide_true,if_true]
    have h1:=h k.toNat (by omega)
    exact zPf f (zAS d k.toNat) (fun j hj=>h j (by omega)) (by omega) ((List.mem_cons.1 hu).resolve_left (Ne.symm e)) g hg
theorem zSl (c:List Int) (x:Int):(zBi ((x::c).reverse)).getD c.length []=[bI x]:=by
 simp [zBi]
theorem zSm (c:List Int) (x:Int):(zBi ((x::c).reverse)).take c.length=zBi c.reverse:=by
 simp [zBi]
theorem yCH:zBi []=[]:=rfl
theorem zW2 {d:List Nd} {i:Nat}:yAU d i=((decide (i≠0)||decide (zAS d i=-1))&&(decide (i=0)||!decide (zKP (zAS d i) (zBr d i ((i:Int)-1))=[]))):=by
 unfold yAU
 by_cases h:i=0
 ·simp [h]
 ·have:=zPe (u:=zAS d i) (zBr d i ((i:Int)-1))
  simp only [h,if_false,ne_eq,not_false_eq_true,decide_true,Bool.true_or,Bool.true_and,decide_false,Bool.false_or,this]
  simp
theorem zW3 {d:List Nd}:∀ (f:Nat) (k:Int),(zBr d f k).length≤f
 |0,_=>by simp [zBr]
 |f+1,k=>by
  simp only [zBr]
  split
  ·simp
  ·have:=zW3 (d:=d) f (zAS d k.toNat)
   simp;omega
theorem yCI (n:Nat):((((n+1:Nat):Int))-1).toNat=n:=by omega
theorem yCJ {d:List Nd} {i:Nat} (hl:1≤d.length∧d.length≤64) (hi:i < d.length) (h:zS7 d i=false):zAi d=1:=by
 have:zCm d d.length=false:=by
  cases hd:zCm d d.length with
  |false=>rfl
  |true=>rw [zA5 hd hi] at h;cases h
 simp [zAi,hl,this]
theorem zF6 (d:List Nd):Contract Tryz.prog zC6 [.val (zBE d)] {res:=.val (iv (zAi d))}:=by
 unfold zBE
 refine mkA zWv (base:=0) (fo rfl) (fun hfit=>?_)
 unfold F0 zOr
 simp (maxSteps:=2000000) only [zAM,List.set_cons_succ,List.set_cons_zero,List.map_cons,List.map_nil,zAL,zAa,ioOf,List.length_cons,List.length_nil,Nat.reduceAdd,Nat.reduceSub,List.replicate,List.cons_append,List.nil_append]
 try simp (maxSteps:=2000000) only [go_sem]
 repeat with_reducible refine zAb ?_
 refine zAd (by rfl) trivial (fun h=>?_) (fun h=>?_)
 ·try simp (maxSteps:=2000000) only [go_sem]
  repeat with_reducible refine zAb ?_
  refine zAj rfl trivial (.inl ?_)
  congr 3
  have hl:¬ (1≤d.length∧d.length≤64):=by
   simp at h;omega
  simp [zAi,hl]
 have hl:1≤d.length∧d.length≤64:=by
  simp at h;omega
 try simp (maxSteps:=2000000) only [go_sem]
 repeat with_reducible refine zAb ?_
 refine zAx (fun i:Nat=>[(3,.stk zAD 1 (zBi (zBr d i ((i:Int)-1)).reverse)),(4,.un),(5,.un),(19,.pv (iv i)),(20,.un),(37,.un),(63,.un),(69,.un),(70,.un),(71,.un),(72,.un),(73,.un)]) (fun i:Nat=>d.length-i) (fun i:Nat=>i≤d.length∧zCm d i=true) (0) ?_ ⟨Nat.zero_le _,rfl⟩ ?_
 focus (simp (maxSteps:=2000000) only [go_sem,zAn,zAw,zAJ,zAo];all_goals (repeat' (first|exact trivial|exact zAy (by omega)|exact zAu rfl|exact zAN rfl|exact zAA|exact le_refl _|refine And.intro ?_ ?_)))
 intro i ⟨hi,hok⟩
 try simp (maxSteps:=2000000) only [go_sem]
 repeat with_reducible refine zAb ?_
 refine zAd (by rfl) trivial (fun h2=>?_) (fun h2=>?_)
 ·have hlt:i < d.length:=by simpa using h2
  try simp (maxSteps:=2000000) only [go_sem,zA4 _ _ hlt]
  repeat with_reducible refine zAb ?_
  have hcl:=zW3 (d:=d) i ((i:Int)-1)
  have hx:zAS d i=(d.getD i default).up:=rfl
  refine zAx (fun c:List Int=>[(3,.stk zAD 1 (zBi c.reverse)),(37,.un)]) (fun c:List Int=>c.length) (fun c:List Int=>c.length≤i∧zKP (zAS d i) c=zKP (zAS d i) (zBr d i ((i:Int)-1))) ((zBr d i ((i:Int)-1))) ?_ ⟨hcl,rfl⟩ ?_
  focus (simp (maxSteps:=2000000) only [go_sem,zAn,zAw,zAJ,zAo];all_goals (repeat' (first|exact trivial|exact zAy (by omega)|exact zAu rfl|exact zAN rfl|exact zAA|exact le_refl _|refine And.intro ?_ ?_)))
  intro c ⟨hcl,hc⟩
  cases c with
  |nil=>
   have hpop:zKP (zAS d i) (zBr d i ((i:Int)-1))=[]:=by rw [←hc];rfl
   have hup:=zW2 (d:=d) (i:=i)
   rw [hpop] at hup
   try simp (maxSteps:=2000000) only [go_sem,List.reverse_nil,yCH,List.getD_nil,List.headD_nil]
   repeat with_reducible refine zAb ?_
   refine zAd (by rfl) trivial (fun h3=>?_) (fun h3=>?_)
   ·simp at h3
   try simp (maxSteps:=2000000) only [go_sem]
   repeat with_reducible refine zAb ?_
   refine zVX (by repeat' constructor) (zKO (d.getD i default)) ?_
   try simp (maxSteps:=2000000) only [go_sem]
   repeat with_reducible refine zAb ?_
   refine zAd (by rfl) trivial (fun h4=>?_) (fun h4=>?_)
   ·try simp (maxSteps:=2000000) only [go_sem]
    repeat with_reducible refine zAb ?_
    refine zAj rfl trivial (.inl ?_)
    congr 3
    refine yCJ hl hlt ?_
    rw [zS7,hup]
    grind
   ·try simp (maxSteps:=2000000) only [go_sem]
    repeat with_reducible refine zAb ?_
    have h5:i=0:=by grind
    have h6:zS7 d i=true:=by
     rw [zS7,hup]
     grind
    refine ⟨i+1,by omega,⟨by omega,by rw [zKM,hok,h6];rfl⟩,?_⟩
    simp (maxSteps:=2000000) only [go_sem,zAn,zAw,zAJ,zAo]
    all_goals (repeat' (first|exact trivial|exact zAy (by omega)|exact zAu rfl|exact zAN rfl|exact zAA|exact le_refl _|refine And.intro ?_ ?_))
    refine zAN ?_
    subst h5
    have:zAS d 0=-1:=by grind
    simp [zBr,this,zBi]
  |cons x c=>
   have hlen:c.length+1≤64:=by simp at hcl;omega
   try simp (maxSteps:=2000000) only [go_sem,List.length_reverse,yCI,zSl,zSm]
   repeat with_reducible refine zAb ?_
   refine zAd (by rfl) trivial (fun h3=>?_) (fun h3=>?_)
   ·try simp (maxSteps:=2000000) only [go_sem,List.length_reverse,yCI,zSl,zSm]
    repeat with_reducible refine zAb ?_
    refine ⟨c,by omega,⟨by simp at hcl;omega,?_⟩,?_⟩
    ·rw [←hc]
     simp only [zKP,List.dropWhile_cons]
     grind
    ·simp (maxSteps:=2000000) only [go_sem,zAn,zAw,zAJ,zAo]
     all_goals (repeat' (first|exact trivial|exact zAy (by omega)|exact zAu rfl|exact zAN rfl|exact zAA|exact le_refl _|refine And.intro ?_ ?_))
   have hxu:x=zAS d i:=by grind
   have hpop:zKP (zAS d i) (zBr d i ((i:Int)-1))=x::c:=by rw [←hc];simp [zKP,hxu]
   have hup:=zW2 (d:=d) (i:=i)
   rw [hpop] at hup
   try simp (maxSteps:=2000000) only [go_sem,List.length_reverse]
   repeat with_reducible refine zAb ?_
   refine zVX (by repeat' constructor) (zKO (d.getD i default)) ?_
   try simp (maxSteps:=2000000) only [go_sem]
   repeat with_reducible refine zAb ?_
   refine zAd (by rfl) trivial (fun h4=>?_) (fun h4=>?_)
   ·try simp (maxSteps:=2000000) only [go_sem]
    repeat with_reducible refine zAb ?_
    refine zAj rfl trivial (.inl ?_)
    congr 3
    refine yCJ hl hlt ?_
    rw [zS7,hup]
    grind
   ·try simp (maxSteps:=2000000) only [go_sem]
    repeat with_reducible refine zAb ?_
    have hmem:zAS d i∈zBr d i ((i:Int)-1):=by
     have:=zPe (u:=zAS d i) (zBr d i ((i:Int)-1))
     rw [hpop] at this
     simpa using this
    have h5:i≠0:=by intro h0;subst h0;simp [zBr] at hmem
    have h6:zS7 d i=true:=by
     rw [zS7,hup]
     grind
    refine ⟨i+1,by omega,⟨by omega,by rw [zKM,hok,h6];rfl⟩,?_⟩
    simp (maxSteps:=2000000) only [go_sem,zAn,zAw,zAJ,zAo]
    all_goals (repeat' (first|exact trivial|exact zAy (by omega)|exact zAu rfl|exact zAN rfl|exact zAA|exact le_refl _|refine And.intro ?_ ?_))
    refine zAN ?_
    have hups:∀ j:Nat,(j:Int)≤(i:Int)-1→zAS d j < j:=fun j hj=>(zBB hok j (by omega)).2
    have hb:=zEq i ((i:Int)-1) hups _ hmem
    have hch:=zPf i ((i:Int)-1) hups (by omega) hmem i (by omega)
    rw [hpop] at hch
    have:zBr d (i+1) (((i+1:Nat):Int)-1)=(i:Int)::x::c:=by
     rw [show (((i+1:Nat):Int)-1)=(i:Int) by omega]
     simp only [zBr]
     rw [if_neg (by omega),hch]
     simp
    rw [this]
    simp [zBi]
 ·try simp (maxSteps:=2000000) only [go_sem]
  repeat with_reducible refine zAb ?_
  refine zAj rfl trivial (.inl ?_)
  congr 3
  have hi2:i=d.length:=by simp at h2;omega
  subst hi2
  simp [zAi,hl,hok]
end Go.Hx
end

section
set_option maxRecDepth 100000
set_option linter.unusedSimpArgs false
namespace Go.Hx
open Go.Proofs
variable [Glob] [GlobL]
attribute [local go_sem] zAh zAm zAk zAg ndV zAr zAp fdV zGH zBb zBD zBC
end Go.Hx
end

section
set_option maxRecDepth 100000
set_option linter.unusedSimpArgs false
namespace Go.Hx
open Go.Proofs
variable [Glob] [GlobL]
attribute [local go_sem] zAh zAm zAk zAg ndV zAr zAp zGH zBb zBD zBC
end Go.Hx
end

section
set_option maxRecDepth 100000
set_option linter.unusedSimpArgs false
namespace Go.Hx
open Go.Proofs
variable [Glob] [GlobL]
attribute [local go_sem] zAh zAm zAk zAg ndV zAr zAp zGH zBb zBD zBC
end Go.Hx
end

section
set_option maxRecDepth 100000
set_option linter.unusedSimpArgs false
set_option maxHeartbeats 2000000
namespace Go.Hx
open Go.Proofs
variable [Glob] [GlobL]
attribute [local go_sem] zAh zAm zAk zAg ndV zAr zAp zGH zBb zBD zBC
end Go.Hx
end

section
set_option maxRecDepth 100000
set_option linter.unusedSimpArgs false
namespace Go.Hx
open Go.Proofs
variable [Glob] [GlobL]
attribute [local go_sem] zAh zAm zAk zAg ndV zAr zAp zBE List.take_nil zBb
end Go.Hx
end

section
set_option maxRecDepth 100000
set_option linter.unusedSimpArgs false
namespace Go.Hx
open Go.Proofs
variable [Glob] [GlobL]
attribute [local go_sem] zAh zAm zAk zAg ndV zAr zAp zBE atV OVal.cells zSA List.drop_succ_cons List.drop_zero List.take_succ_cons List.take_zero List.getD_nil zR4 zEG Nat.sub_zero List.map_nil List.map_cons zBm zIm zEo zAa
attribute [local go_sem ↓] yCn yCo yH4 yH3 yH5
end Go.Hx
end

section
set_option maxRecDepth 100000
set_option linter.unusedSimpArgs false
set_option maxHeartbeats 2000000
namespace Go.Hx
open Go.Proofs
variable [Glob] [GlobL]
attribute [local go_sem] zAh zAm zAk zAg ndV zAr zAp zGH zBb zBD zBC
end Go.Hx
end

section
set_option maxRecDepth 100000
set_option linter.unusedSimpArgs false
set_option maxHeartbeats 2000000
namespace Go.Hx
open Go.Proofs
variable [Glob] [GlobL]
attribute [local go_sem] zAh zAm zAk zAg ndV zAr zAp zGH zBb zBD zBC
end Go.Hx
end

section
set_option maxRecDepth 100000
set_option linter.unusedSimpArgs false
set_option linter.unusedSectionVars false
namespace Go.Hx
open Go.Proofs
variable [Glob] [GlobL]
section
variable {d:List Nd} (hd:zCm d d.length=true)
include hd
end
section
variable {d:List Nd} (hd:zCm d d.length=true)
include hd
end
end Go.Hx
end

section
set_option maxRecDepth 100000
set_option linter.unusedSimpArgs false
namespace Go.Hx
open Go.Proofs
variable [Glob] [GlobL]
attribute [local go_sem] zAh zAm zAk zAg ndV zAr
attribute [local go_sem] reduceCtorEq Nat.reduceAdd Nat.reduceEqDiff reduceIte Nat.reduceLeDiff Nat.reduceLT Nat.reduceSub
def zZj (d:List Nd) (n:Nat):Nat→Nat→Nat
 |0,e=>e
 |f+1,e=>if (n:Int)≤zAS d e then zZj d n f (e+1) else e
def zAc (d:List Nd) (n:Nat):Nat:=zZj d n (d.length-(n+1)) (n+1)
theorem yCP {d:List Nd} {n:Nat}:∀ (f e:Nat),e≤zZj d n f e∧zZj d n f e≤e+f
 |0,e=>by simp [zZj]
 |f+1,e=>by
  simp only [zZj]
  split
  ·have:=yCP (d:=d) (n:=n) f (e+1);omega
  ·omega
theorem zAv {d:List Nd} {n:Nat} (h:n < d.length):n < zAc d n∧zAc d n≤d.length:=by
 have:=yCP (d:=d) (n:=n) (d.length-(n+1)) (n+1)
 simp only [zAc];omega
theorem yEi (d:List Nd) (i:Nat) (h:d.length≤i):(zDd d).getD i []=[]:=by simp [zDd,h]
theorem zE2 (d:List Nd) (n:Nat) (hn:n < d.length):Contract Tryz.prog zCC [.val (zBE d),.val (iv n)] {res:=.val (iv (zAc d n))}:=by
 unfold zBE
 refine mkA zUk (base:=0) (fo rfl) (fun hfit=>?_)
 unfold F0 zLs
 simp (maxSteps:=2000000) only [zAM,List.set_cons_succ,List.set_cons_zero,List.map_cons,List.map_nil,zAL,zAa,ioOf,List.length_cons,List.length_nil,Nat.reduceAdd,Nat.reduceSub,List.replicate,List.cons_append,List.nil_append]
 try simp (maxSteps:=2000000) only [go_sem]
 repeat with_reducible refine zAb ?_
 have hm:=zDl (k:=5) hfit.1.1
 rw [zAh] at hm
 try simp (maxSteps:=2000000) only [go_sem]
 repeat with_reducible refine zAb ?_
 refine zAx (fun e:Nat=>[(5,.pv (iv e)),(22,.un)]) (fun e:Nat=>d.length-e) (fun e:Nat=>n < e∧e≤d.length∧zZj d n (d.length-e) e=zAc d n) ((n+1)) ?_ ⟨by omega,by omega,rfl⟩ ?_
 focus (simp (maxSteps:=2000000) only [go_sem,zAn,zAw,zAJ,zAo];all_goals (repeat' (first|exact trivial|exact zAy (by omega)|exact zAu rfl|exact zAN rfl|exact zAA|exact le_refl _|refine And.intro ?_ ?_)))
 intro e ⟨he,he2,hb⟩
 by_cases hlt:e < d.length
 ·have hlt':(e:Int) < d.length:=by omega
  try simp (maxSteps:=2000000) only [go_sem,zA4 _ _ hlt]
  repeat with_reducible refine zAb ?_
  refine zAd (by rfl) trivial (fun h=>?_) (fun h=>?_)
  ·try simp (maxSteps:=2000000) only [go_sem]
   repeat with_reducible refine zAb ?_
   refine ⟨e+1,by omega,⟨by omega,by omega,?_⟩,?_⟩
   ·rw [←hb,show d.length-e=(d.length-(e+1))+1 by omega]
    simp only [zZj]
    rw [if_pos]
    simp [zAS] at h ⊢
    grind
   ·simp (maxSteps:=2000000) only [go_sem,zAn,zAw,zAJ,zAo]
    all_goals (repeat' (first|exact trivial|exact zAy (by omega)|exact zAu rfl|exact zAN rfl|exact zAA|exact le_refl _|refine And.intro ?_ ?_))
  ·try simp (maxSteps:=2000000) only [go_sem]
   repeat with_reducible refine zAb ?_
   refine zAj rfl trivial (.inl ?_)
   congr 3
   rw [←hb,show d.length-e=(d.length-(e+1))+1 by omega]
   simp only [zZj]
   rw [if_neg]
   simp [zAS] at h ⊢
   grind
 ·have hge:d.length≤e:=by omega
  have hd:decide ((e:Int) < (d.length:Int))=false:=by simp;omega
  try simp (maxSteps:=2000000) only [go_sem,hd,yEi _ _ hge,List.take_nil,List.headD_nil]
  repeat with_reducible refine zAb ?_
  refine zAd (by rfl) trivial (fun h=>?_) (fun h=>?_)
  ·simp at h;try omega
  ·try simp (maxSteps:=2000000) only [go_sem]
   repeat with_reducible refine zAb ?_
   refine zAj rfl trivial (.inl ?_)
   congr 3
   rw [←hb,show d.length-e=0 by omega]
   rfl
theorem zPM (d:List Nd) (k:Int):Contract Tryz.prog zES [.val (zBE d),.val (iv k)] {res:=.val (iv (zBq d k))}:=by
 unfold zBE
 refine mkA zWD (base:=0) (fo rfl) (fun hfit=>?_)
 unfold F0 zOs
 simp (maxSteps:=2000000) only [zAM,List.set_cons_succ,List.set_cons_zero,List.map_cons,List.map_nil,zAL,zAa,ioOf,List.length_cons,List.length_nil,Nat.reduceAdd,Nat.reduceSub,List.replicate,List.cons_append,List.nil_append]
 try simp (maxSteps:=2000000) only [go_sem]
 repeat with_reducible refine zAb ?_
 refine zAq (by repeat' constructor) (zF6 d) ?_
 try simp (maxSteps:=2000000) only [go_sem]
 repeat with_reducible refine zAb ?_
 refine zAd (by rfl) trivial (fun h=>?_) (fun h=>?_)
 ·try simp (maxSteps:=2000000) only [go_sem]
  repeat with_reducible refine zAb ?_
  refine zAj rfl trivial (.inl ?_)
  congr 3
  simp at h
  simp [zBq,h]
 try simp (maxSteps:=2000000) only [go_sem]
 repeat with_reducible refine zAb ?_
 have hc:zAi d=0:=by simpa using h
 refine zAd (by rfl) trivial (fun h2=>?_) (fun h2=>?_)
 ·try simp (maxSteps:=2000000) only [go_sem]
  repeat with_reducible refine zAb ?_
  refine zAj rfl trivial (.inl ?_)
  congr 3
  rw [zBq,if_pos hc,if_neg (by grind)]
 ·try simp (maxSteps:=2000000) only [go_sem]
  repeat with_reducible refine zAb ?_
  refine zAj rfl trivial (.inl ?_)
  congr 3
  rw [zBq,if_pos hc,if_pos (by grind)]
def zDy (d:List Nd) (n:Nat):Nat→Nat→List Int
 |0,_=>[]
 |f+1,i=>if i < zAc d n then (i:Int)::zDy d n f (zAc d i) else []
def zB2 (d:List Nd) (n:Nat):List Int:=zDy d n d.length (n+1)
theorem yBE (d:List Nd) (n:Nat) (hn:n < d.length) (hd:d.length≤64):Contract Tryz.prog zIw [.val (zBE d),.val (iv n)] {res:=.own zAD 1 (zBi (zB2 d n))}:=by
 unfold zBE
 refine mkA zYm (base:=0) (fo rfl) (fun hfit=>?_)
 unfold F0 zSb
 simp (maxSteps:=2000000) only [zAM,List.set_cons_succ,List.set_cons_zero,List.map_cons,List.map_nil,zAL,zAa,ioOf,List.length_cons,List.length_nil,Nat.reduceAdd,Nat.reduceSub,List.replicate,List.cons_append,List.nil_append]
 try simp (maxSteps:=2000000) only [go_sem]
 repeat with_reducible refine zAb ?_
 have hbn:=zAv hn
 refine zAx (fun s:List Int×Nat×Nat=>[(5,.own zAD 1 (zBi s.1)),(6,.pv (iv s.2.1)),(13,.un)]) (fun s:List Int×Nat×Nat=>s.2.2) (fun s:List Int×Nat×Nat=>s.1.length≤s.2.1∧s.2.1≤d.length∧d.length≤s.2.1+s.2.2∧s.1++zDy d n s.2.2 s.2.1=zB2 d n) (([],n+1,d.length)) ?_ ⟨by simp,by simp;omega,by simp,by simp [zB2]⟩ ?_
 focus (simp (maxSteps:=2000000) only [go_sem,zAn,zAw,zAJ,zAo];all_goals (repeat' (first|exact trivial|exact zAy (by omega)|exact zAu rfl|exact zAN rfl|exact zAA|exact le_refl _|refine And.intro ?_ ?_)))
 intro ⟨out,i,f⟩ ⟨h1,h2,h3,h4⟩
 simp only at h1 h2 h3 h4 ⊢
 try simp (maxSteps:=2000000) only [go_sem]
 repeat with_reducible refine zAb ?_
 refine zAq (by repeat' constructor) (zE2 d n hn) ?_
 try simp (maxSteps:=2000000) only [go_sem]
 repeat with_reducible refine zAb ?_
 refine zAd (by rfl) trivial (fun h=>?_) (fun h=>?_)
 ·have hi:i < zAc d n:=by simpa using h
  have hil:i < d.length:=by omega
  have hbi:=zAv hil
  try simp (maxSteps:=2000000) only [go_sem]
  repeat with_reducible refine zAb ?_
  refine zAq (by repeat' constructor) (zE2 d i hil) ?_
  try simp (maxSteps:=2000000) only [go_sem]
  repeat with_reducible refine zAb ?_
  cases f with
  |zero=>omega
  |succ f=>
   refine ⟨(out++[(i:Int)],zAc d i,f),by simp,⟨by simp;omega,by simp;omega,by simp;omega,?_⟩,?_⟩
   ·rw [←h4]
    simp only [zDy]
    rw [if_pos hi]
    simp
   ·simp (maxSteps:=2000000) only [go_sem,zAn,zAw,zAJ,zAo]
    all_goals (repeat' (first|exact trivial|exact zAy (by omega)|exact zAu rfl|exact zAN rfl|exact zAA|exact le_refl _|refine And.intro ?_ ?_))
    exact zFx (by simp [zBi])
 ·try simp (maxSteps:=2000000) only [go_sem]
  repeat with_reducible refine zAb ?_
  have hi:¬ i < zAc d n:=by simpa using h
  have:out=zB2 d n:=by
   rw [←h4]
   cases f with
   |zero=>simp [zDy]
   |succ f=>simp [zDy,hi]
  rw [←this]
  exact zFU rfl
end Go.Hx
end
