/-
  Walks of functions of the program over an abstract layer, and the laws that they use: each contract says what the function computes, for every input that its conditions let by. No other condition.
-/
import Derived.Test.YtjnagiaooecklabGreatDoorG10
import Derived.Test.YtjnagiaooecklabGreatDoorG12
import Derived.Test.YtjnagiaooecklabGreatDoorG17
import Derived.Test.YtjnagiaooecklabGreatDoorG18
import Derived.Shelf.Strings.SlTrimAscii
import Derived.Test.YtjnagiaooecklabGreatDoorG14
import Derived.Test.YtjnagiaooecklabGreatDoorG13
import Derived.Test.YtjnagiaooecklabGreatDoorG11
set_option linter.all false
section
set_option maxRecDepth 100000
set_option linter.unusedSimpArgs false
namespace Go.Hx
open Go.Proofs Go.RowKit
variable [Glob] [GlobL]
attribute [local go_sem] zAt zAp zAn zAj ndV zAq
attribute [local go_sem] reduceCtorEq Nat.reduceAdd Nat.reduceEqDiff reduceIte Nat.reduceLeDiff Nat.reduceLT Nat.reduceSub
theorem zVW {R:Nat→Prop} {w w':World} (h:Below w.heap.size w w'):Pres R w w':=Pres.of_below _ h
theorem zZX {m:Mem} {w w':World} (hm:MemOk m w) (h:Below w.heap.size w w'):MemOk m w':=fun b o u hu=>by
 have h1:=hm b o u hu
 have h2:b < w.heap.size:=World.block_lt_of_cell? w _ h1
 rw [←h1]
 exact World.cell?_of_block (h.block b h2)
theorem zVX {R:Nat→Prop} {w w':World} (h:Pres R w w') (hR:∀ b,¬ R b):Below w.heap.size w w':=⟨h.os,h.tape,h.output,h.size,fun b hb=>h.block b hb (hR b)⟩
theorem yA3 {m:Mem} {w w':World} {avs:List AV} {us:List Value} {e:Ending} {x:PVal} {u:Value} (hm:MemOk m w) (h:Below w.heap.size w w') (he:e=.returned u) (hx:RpV m x u) (hio:ioB avs us=none):yFB m w avs us {res:=.val x} e w':=
 ⟨m,m.le_refl,zZX hm h,zVW h,fun _ _ _ h=>.inl h,(fun b hb=>by rw [hio] at hb;cases hb),u,he,hx⟩
theorem yB7 {w w':World} (h:Below w.heap.size w w') (hG:Glob.ok w):Glob.ok w':=
 Glob.keep _ _ (fun b hb=>h.block b (Nat.lt_of_lt_of_le hb (Glob.size _ hG))) hG
theorem yDq (s cs:Bys):(Lib.trimS s cs).length≤s.length:=by
 unfold Lib.trimS Lib.trimLeftS Lib.trimRightS
 refine Nat.le_trans (List.dropWhile_sublist _).length_le ?_
 rw [List.length_reverse]
 refine Nat.le_trans (List.dropWhile_sublist _).length_le ?_
 rw [List.length_reverse]
 exact Nat.le_refl _
theorem yDr {s:Bys} (h:s.length≤maxLen):zEj (mkS s)=true:=by
 simp only [zEj]
 exact decide_eq_true (by simpa [ByteArray.size] using h)
theorem yFf {s:Bys} (h:zEj (mkS s)=true):s.length≤maxLen:=by
 simp only [zEj,decide_eq_true_eq] at h
 simpa [ByteArray.size] using h
theorem zSx (s cs:Bys) (hc:cs.length < 1000) (ha:cs.all (fun b=>decide (b.toNat < 128))=true):Contract Tryz.prog zEF [.val (sv s),.val (sv cs)] {res:=.val (sv (Lib.trimS s cs))}:=by
 refine ⟨by kernel_rfl,fun m w us hm hargs _ hG _=>?_⟩
 obtain ⟨u1,us1,rfl,h1,u2,us2,rfl,h2,rfl⟩:=hargs
 obtain ⟨rfl,f1⟩:=h1
 obtain ⟨rfl,f2⟩:=h2
 have hs:=yFf f1
 have hT:=Any.strings_Trim_laid Tryz.l160 (by kernel_rfl) ⟨s.toArray⟩ ⟨cs.toArray⟩ w (by simpa [ByteArray.size,maxLen] using hs) (by simp [ByteArray.size];omega) (ascii_of_all (by simpa using ha))
 change Calls Tryz.prog zEF _ _ _ at hT
 refine hT.mono fun e w' ⟨he,hb⟩=>yA3 hm hb he ⟨by simp,?_⟩ rfl
 exact yDr (Nat.le_trans (yDq s cs) hs)
theorem zDD (s:Bys) (g:Nat) (p:Nat→Bool) (hp:∀ r,128≤r→p r=true) (eg:∀ args w,(callFunc g args).run Tryz.prog w=.ok (.enter g args) w)
  (hg:∀ r:Nat,Contract Tryz.prog g [.val (.one (.v (.int .i32 r)))] {res:=.val (bv (p r))}):
  Contract Tryz.prog zBv [.val (sv s),.val (.one (.clo g []))] {res:=.val (bv (!s.all (fun b=>decide (b.toNat < 128)&&!p b.toNat)))}:=by
 refine ⟨by kernel_rfl,fun m w us hm hargs _ hG _=>?_⟩
 obtain ⟨u1,us1,rfl,h1,u2,us2,rfl,h2,rfl⟩:=hargs
 obtain ⟨rfl,f1⟩:=h1
 obtain ⟨us,rfl,hus⟩:=h2
 obtain rfl:us=[]:=by simpa [RpL] using hus
 have hpg:PredGrows Tryz.prog g #[] p w:=fun W x _ hbW=>by
  refine ((hg x).2 (fun _ _=>none) W [.int .i32 x] (fun _ _ _ h=>by cases h) ⟨_,_,rfl,⟨rfl,rfl⟩,rfl⟩ (by intro g h;cases h) (yB7 hbW hG) (by rintro b (h|h)<;>cases h)).mono fun e W' ⟨m',_,_,hpr,_,_,u,hu,hr⟩=>?_
  obtain rfl:u=.bool (p x):=hr.1
  exact ⟨hu,zVX hpr (by intro b h;rcases h with h|h<;>cases h)⟩
 have hT:=Any.strings_ContainsFunc_grows Tryz.l17 g #[] eg p ⟨s.toArray⟩ w hpg
 change Calls Tryz.prog zBv _ _ _ at hT
 rw [yHq hp] at hT
 exact hT.mono fun e w' ⟨he,hb⟩=>yA3 hm hb he ⟨rfl,rfl⟩ rfl
def yB8 (r:Nat):Bool:=((decide (r < 97)||decide (122 < r))&&(decide (r < 48)||decide (57 < r)))&&decide (r≠45)
def zTe (r:Nat):Bool:=decide (r < 32)||decide (126 < r)||decide (r=34)
theorem zXQ (r:Nat):Contract Tryz.prog zCu [.val (.one (.v (.int .i32 r)))] {res:=.val (bv (yB8 r))}:=by
 refine mkA zUJ (base:=0) (fo rfl) (fun hfit=>?_)
 unfold F0 zNJ
 simp (maxSteps:=2000000) only [zAJ,List.set_cons_succ,List.set_cons_zero,List.map_cons,List.map_nil,zAH,zAa,ioOf,List.length_cons,List.length_nil,Nat.reduceAdd,Nat.reduceSub,List.replicate,List.cons_append,List.nil_append]
 try simp (maxSteps:=2000000) only [go_sem]
 repeat with_reducible refine zAb ?_
 refine zAd rfl trivial (.inl ?_)
 congr 3
 unfold yB8
 grind
theorem zVY (r:Nat):Contract Tryz.prog zCb [.val (.one (.v (.int .i32 r)))] {res:=.val (bv (zTe r))}:=by
 refine mkA zRx (base:=0) (fo rfl) (fun hfit=>?_)
 unfold F0 zLb
 simp (maxSteps:=2000000) only [zAJ,List.set_cons_succ,List.set_cons_zero,List.map_cons,List.map_nil,zAH,zAa,ioOf,List.length_cons,List.length_nil,Nat.reduceAdd,Nat.reduceSub,List.replicate,List.cons_append,List.nil_append]
 try simp (maxSteps:=2000000) only [go_sem]
 repeat with_reducible refine zAb ?_
 refine zAd rfl trivial (.inl ?_)
 congr 3
 unfold zTe
 grind
theorem yHr:∀ args w,(callFunc zCu args).run Tryz.prog w=.ok (.enter zCu args) w:=enters_of Tryz.func239 (by kernel_rfl) rfl
theorem yHs:∀ args w,(callFunc zCb args).run Tryz.prog w=.ok (.enter zCb args) w:=enters_of Tryz.func240 (by kernel_rfl) rfl
theorem zNd {α:Type} {l:List α} {p q:α→Bool} (h:∀ x,p x=q x):l.all p=l.all q:=by rw [show p=q from funext h]
theorem yJL (b:UInt8):(decide (b.toNat < 128)&&!zTe b.toNat)=yBD b:=by
 unfold zTe yBD
 grind
theorem yHt (b:UInt8):(decide (b.toNat < 128)&&!yB8 b.toNat)=zNA b:=by
 unfold yB8 zNA
 grind
theorem yJM (b:UInt8):([97,98,99,100,101,102,103,104,105,106,107,108,109,110,111,112,113,114,115,116,117,118,119,120,121,122,48,49,50,51,52,53,54,55,56,57,45]:Bys).contains b=zNA b:=by
 have h:∀ n:Fin 256,([97,98,99,100,101,102,103,104,105,106,107,108,109,110,111,112,113,114,115,116,117,118,119,120,121,122,48,49,50,51,52,53,54,55,56,57,45]:Bys).contains (UInt8.ofFin n)=zNA (UInt8.ofFin n):=by decide +kernel
 exact h b.toFin
theorem zQI (s:Bys):Contract Tryz.prog zFb [.val (sv s)] {res:=.val (bv (zDJ s))}:=by
 refine mkA zW9 (base:=0) (fo rfl) (fun hfit=>?_)
 unfold F0 zP5
 simp (maxSteps:=2000000) only [zAJ,List.set_cons_succ,List.set_cons_zero,List.map_cons,List.map_nil,zAH,zAa,ioOf,List.length_cons,List.length_nil,Nat.reduceAdd,Nat.reduceSub,List.replicate,List.cons_append,List.nil_append]
 try simp (maxSteps:=2000000) only [go_sem]
 repeat with_reducible refine zAb ?_
 apply zAu (h2:=fun _=>zDD s zCb zTe (by intro r h;unfold zTe;grind) yHs zVY)
 ·(simp (maxSteps:=2000000) only [go_sem];rfl)
 ·intro h;repeat' (first|exact trivial|exact h|refine And.intro ?_ ?_)
 try simp (maxSteps:=2000000) only [go_sem]
 repeat with_reducible refine zAb ?_
 refine zAd rfl trivial (.inl ?_)
 congr 3
 rw [zNd yJL,zDJ]
 grind
theorem zEk (s:Bys):Contract Tryz.prog zCo [.val (sv s)] {res:=.val (bv (zBJ s))}:=by
 refine mkA zY8 (base:=0) (fo rfl) (fun hfit=>?_)
 unfold F0 zS7
 simp (maxSteps:=2000000) only [zAJ,List.set_cons_succ,List.set_cons_zero,List.map_cons,List.map_nil,zAH,zAa,ioOf,List.length_cons,List.length_nil,Nat.reduceAdd,Nat.reduceSub,List.replicate,List.cons_append,List.nil_append]
 try simp (maxSteps:=2000000) only [go_sem]
 repeat with_reducible refine zAb ?_
 apply zAu (h2:=fun _=>zSx s _ (by decide) (by decide))
 ·(simp (maxSteps:=2000000) only [go_sem];rfl)
 ·intro h;repeat' (first|exact trivial|exact h|refine And.intro ?_ ?_)
 try simp (maxSteps:=2000000) only [go_sem]
 repeat with_reducible refine zAb ?_
 apply zAu (h2:=fun _=>zDD s zCu yB8 (by intro r h;unfold yB8;grind) yHr zXQ)
 ·(simp (maxSteps:=2000000) only [go_sem];rfl)
 ·intro h;repeat' (first|exact trivial|exact h|refine And.intro ?_ ?_)
 try simp (maxSteps:=2000000) only [go_sem]
 repeat with_reducible refine zAb ?_
 refine zAd rfl trivial (.inl ?_)
 congr 3
 rw [zNd yHt,yFe,zNd yJM,zBJ]
 grind
end Go.Hx
end

section
set_option maxRecDepth 100000
set_option linter.unusedSimpArgs false
namespace Go.Hx
open Go.Proofs
variable [Glob] [GlobL]
attribute [local go_sem] zAt zAp zAn zAj ndV zAq
attribute [local go_sem] reduceCtorEq Nat.reduceAdd Nat.reduceEqDiff reduceIte Nat.reduceLeDiff Nat.reduceLT Nat.reduceSub
theorem zIB (s:Bys):Contract Tryz.prog zEe [.val (sv s)] {res:=.val (sv s)}:=by
 refine mkA zUw (base:=0) (fo rfl) (fun hfit=>?_)
 unfold F0 zNG
 simp (maxSteps:=2000000) only [zAJ,List.set_cons_succ,List.set_cons_zero,List.map_cons,List.map_nil,zAH,zAa,ioOf,List.length_cons,List.length_nil,Nat.reduceAdd,Nat.reduceSub,List.replicate,List.cons_append,List.nil_append]
 try simp (maxSteps:=2000000) only [go_sem]
 repeat with_reducible refine zAb ?_
 try simp (maxSteps:=2000000) only [go_sem]
 repeat with_reducible refine zAb ?_
 refine zAd rfl trivial (.inl ?_)
 congr 3
theorem zIC (a b:Bys):Contract Tryz.prog zEf [.val (.agg [bS a,bS b])] {res:=.val (sv a)}:=by
 refine mkA zUz (base:=0) (fo rfl) (fun hfit=>?_)
 unfold F0 zNH
 simp (maxSteps:=2000000) only [zAJ,List.set_cons_succ,List.set_cons_zero,List.map_cons,List.map_nil,zAH,zAa,ioOf,List.length_cons,List.length_nil,Nat.reduceAdd,Nat.reduceSub,List.replicate,List.cons_append,List.nil_append]
 try simp (maxSteps:=2000000) only [go_sem]
 repeat with_reducible refine zAb ?_
 try simp (maxSteps:=2000000) only [go_sem]
 repeat with_reducible refine zAb ?_
 refine zAd rfl trivial (.inl ?_)
 congr 3
theorem zXR (a b:Bys):Contract Tryz.prog zDi [.val (.agg [bS a,bS b])] {res:=.val (bv (!zDJ b))}:=by
 refine mkA zUC (base:=0) (fo rfl) (fun hfit=>?_)
 unfold F0 zNI
 simp (maxSteps:=2000000) only [zAJ,List.set_cons_succ,List.set_cons_zero,List.map_cons,List.map_nil,zAH,zAa,ioOf,List.length_cons,List.length_nil,Nat.reduceAdd,Nat.reduceSub,List.replicate,List.cons_append,List.nil_append]
 try simp (maxSteps:=2000000) only [go_sem]
 repeat with_reducible refine zAb ?_
 refine zAw (by repeat' constructor) (zQI _) ?_
 try simp (maxSteps:=2000000) only [go_sem]
 repeat with_reducible refine zAb ?_
 try simp (maxSteps:=2000000) only [go_sem]
 repeat with_reducible refine zAb ?_
 refine zAd rfl trivial (.inl ?_)
 congr 3
theorem yFg {l:List Bys} {i:Nat}:okC l (i+1)=(okC l i&&cOk l i):=zCJ
theorem zTf:∀ {x y:Bys},Op.bytesLess x y=true→Op.bytesLess y x=false
 |[],_,h=>by rename_i y;cases y<;>rfl
 |a::x,[],h=>by simp [Op.bytesLess] at h
 |a::x,b::y,h=>by
  simp only [Op.bytesLess,Bool.or_eq_true,Bool.and_eq_true,decide_eq_true_eq,beq_iff_eq] at h
  simp only [Op.bytesLess,Bool.or_eq_false_iff,Bool.and_eq_false_iff,decide_eq_false_iff_not,beq_eq_false_iff_ne]
  rcases h with h|⟨rfl,h⟩
  ·exact ⟨UInt8.lt_asymm h,.inl (fun e=>by subst e;exact UInt8.lt_irrefl _ h)⟩
  ·exact ⟨UInt8.lt_irrefl _,.inr (zTf h)⟩
theorem zTg:∀ {x y:Bys},Op.bytesLess x y=false→x≠y→Op.bytesLess y x=true
 |[],[],_,h=>(h rfl).elim
 |[],b::y,h,_=>by simp [Op.bytesLess] at h
 |a::x,[],_,_=>rfl
 |a::x,b::y,h,hn=>by
  simp only [Op.bytesLess,Bool.or_eq_false_iff,Bool.and_eq_false_iff,decide_eq_false_iff_not,beq_eq_false_iff_ne] at h
  simp only [Op.bytesLess,Bool.or_eq_true,Bool.and_eq_true,decide_eq_true_eq,beq_iff_eq]
  obtain ⟨h1,h2⟩:=h
  by_cases e:a=b
  ·subst e
   refine .inr ⟨rfl,zTg (h2.resolve_left (fun h=>h rfl)) (fun e=>hn (by rw [e]))⟩
  ·refine .inl ?_
   have h3:b≤a:=UInt8.not_lt.1 h1
   exact UInt8.lt_of_le_of_ne h3 (Ne.symm e)
theorem zTh {x y:Bys}:(Op.bytesLess x y||x==y)=!Op.bytesLess y x:=by
 cases h:Op.bytesLess y x with
 |true=>
  have h1:=zTf h
  have:¬ x=y:=fun e=>by subst e;rw [h1] at h;cases h
  simp [h1,this]
 |false=>
  by_cases e:x=y
  ·subst e;simp
  ·simp [zTg h (Ne.symm e)]
theorem zLZ (l:List Bys):Contract Tryz.prog zCT [.val (.one (.sl 1 (zRd l))),.val (.one (.clo zEe []))] {res:=.val (bv (okC l l.length))}:=by
 refine mkA zJX (base:=0) (fo rfl) (fun hfit=>?_)
 unfold F0 zFd
 simp (maxSteps:=2000000) only [zAJ,List.set_cons_succ,List.set_cons_zero,List.map_cons,List.map_nil,zAH,zAa,ioOf,List.length_cons,List.length_nil,Nat.reduceAdd,Nat.reduceSub,List.replicate,List.cons_append,List.nil_append]
 try simp (maxSteps:=2000000) only [go_sem]
 repeat with_reducible refine zAb ?_
 have hm:=zDg (k:=1) hfit.1
 rw [zAp] at hm
 refine zAv (fun i:Nat=>[(5,.pv (sv (if i=0 then [] else l.getD (i-1) []))),(7,.un),(10,.pv (iv i)),(11,.un),(25,.un)]) (fun i:Nat=>l.length-i) (fun i:Nat=>i≤l.length∧okC l i=true) (0) ?_ ⟨Nat.zero_le _,rfl⟩ ?_
 focus (simp (maxSteps:=2000000) only [go_sem,zAf,zAl,zAz,zAg];all_goals (repeat' (first|exact trivial|exact zAm (by omega)|exact zAi rfl|exact zAx rfl|exact zAs|exact le_refl _|refine And.intro ?_ ?_)))
 intro i ⟨hi,hok⟩
 try simp (maxSteps:=2000000) only [go_sem]
 repeat with_reducible refine zAb ?_
 refine zAc (by rfl) trivial (fun h=>?_) (fun h=>?_)
 ·have hlt:i < l.length:=by simpa using h
  try simp (maxSteps:=2000000) only [go_sem,zGJ _ _ hlt]
  repeat with_reducible refine zAb ?_
  refine zDf (by rfl) trivial (by repeat' constructor) (zIB _) ?_
  try simp (maxSteps:=2000000) only [go_sem]
  repeat with_reducible refine zAb ?_
  refine zAw (by repeat' constructor) (zEk _) ?_
  try simp (maxSteps:=2000000) only [go_sem]
  repeat with_reducible refine zAb ?_
  refine zPm (by simp (maxSteps:=2000000) only [go_sem];rfl) (by rfl) (by first|exact fun _=>trivial|exact fun h=>h) (by intro h;repeat' (first|exact trivial|exact h|refine And.intro ?_ ?_)) (fun _=>zIB _) ?_
  try simp (maxSteps:=2000000) only [go_sem]
  repeat with_reducible refine zAb ?_
  rw [zTh]
  refine zAc (by rfl) trivial (fun h2=>?_) (fun h2=>?_)
  ·try simp (maxSteps:=2000000) only [go_sem]
   repeat with_reducible refine zAb ?_
   refine zAd rfl trivial (.inl ?_)
   congr 3
   cases hn:okC l l.length with
   |false=>rfl
   |true=>
    exfalso
    have h4:=zAV hn hlt
    simp only [cOk,Bool.and_eq_true,Bool.or_eq_true,decide_eq_true_eq] at h4
    rw [h4.1] at h2
    by_cases h0:i=0
    ·subst h0
     cases hx:l.getD 0 [] with
     |nil=>rw [hx] at h4;simp [zBJ] at h4
     |cons a r=>rw [hx] at h2;simp [Op.bytesLess] at h2
    ·rw [if_neg h0,h4.2.resolve_left h0] at h2
     simp at h2
  ·try simp (maxSteps:=2000000) only [go_sem]
   repeat with_reducible refine zAb ?_
   refine zDf (by rfl) trivial (by repeat' constructor) (zIB _) ?_
   try simp (maxSteps:=2000000) only [go_sem]
   repeat with_reducible refine zAb ?_
   refine ⟨i+1,by omega,⟨hlt,?_⟩,?_⟩
   ·rw [yFg,hok]
    simp only [Bool.true_and,cOk]
    cases hn:zBJ (l.getD i []) with
    |false=>rw [hn] at h2;simp at h2
    |true=>
     rw [hn] at h2
     by_cases h0:i=0
     ·simp [h0]
     ·rw [if_neg h0] at h2
      simp at h2
      simp [h0,h2]
   ·simp (maxSteps:=2000000) only [go_sem,zAf,zAl,zAz,zAg]
    all_goals (repeat' (first|exact trivial|exact zAm (by omega)|exact zAi rfl|exact zAx rfl|exact zAs|exact le_refl _|refine And.intro ?_ ?_))
 ·try simp (maxSteps:=2000000) only [go_sem]
  repeat with_reducible refine zAb ?_
  refine zAd rfl trivial (.inl ?_)
  congr 3
  have:i=l.length:=by simp at h;omega
  rw [←this];exact hok
def rOk (l:List (Bys×Bys)) (k:Nat):Bool:=zBJ (l.getD k default).1&&(decide (k=0)||Op.bytesLess (l.getD (k-1) default).1 (l.getD k default).1)
def zXS (l:List (Bys×Bys)) (i:Nat):Bool:=(List.range i).all (rOk l)
abbrev yHu (l:List (Bys×Bys)):Bool:=zXS l l.length
theorem zZZ {l:List (Bys×Bys)} {i:Nat}:zXS l (i+1)=(zXS l i&&rOk l i):=zCJ
theorem zOw (l:List (Bys×Bys)):Contract Tryz.prog zCp [.val (.one (.sl 2 (yAO l))),.val (.one (.clo zEf []))] {res:=.val (bv (yHu l))}:=by
 refine mkA zHQ (base:=0) (fo rfl) (fun hfit=>?_)
 unfold F0 zD6
 simp (maxSteps:=2000000) only [zAJ,List.set_cons_succ,List.set_cons_zero,List.map_cons,List.map_nil,zAH,zAa,ioOf,List.length_cons,List.length_nil,Nat.reduceAdd,Nat.reduceSub,List.replicate,List.cons_append,List.nil_append]
 try simp (maxSteps:=2000000) only [go_sem]
 repeat with_reducible refine zAb ?_
 have hm:=zDg (k:=2) hfit.1
 rw [zAn] at hm
 refine zAv (fun i:Nat=>[(5,.pv (sv (if i=0 then [] else (l.getD (i-1) default).1))),(7,.un),(30,.un),(31,.un),(10,.pv (iv i)),(11,.un),(25,.un)]) (fun i:Nat=>l.length-i) (fun i:Nat=>i≤l.length∧zXS l i=true) (0) ?_ ⟨Nat.zero_le _,rfl⟩ ?_
 focus (simp (maxSteps:=2000000) only [go_sem,zAf,zAl,zAz,zAg];all_goals (repeat' (first|exact trivial|exact zAm (by omega)|exact zAi rfl|exact zAx rfl|exact zAs|exact le_refl _|refine And.intro ?_ ?_)))
 intro i ⟨hi,hok⟩
 try simp (maxSteps:=2000000) only [go_sem]
 repeat with_reducible refine zAb ?_
 refine zAc (by rfl) trivial (fun h=>?_) (fun h=>?_)
 ·have hlt:i < l.length:=by simpa using h
  try simp (maxSteps:=2000000) only [go_sem,zE6 _ _ hlt]
  repeat with_reducible refine zAb ?_
  refine zDf (by rfl) trivial (by repeat' constructor) (zIC _ _) ?_
  try simp (maxSteps:=2000000) only [go_sem]
  repeat with_reducible refine zAb ?_
  refine zAw (by repeat' constructor) (zEk _) ?_
  try simp (maxSteps:=2000000) only [go_sem]
  repeat with_reducible refine zAb ?_
  refine zPm (by simp (maxSteps:=2000000) only [go_sem];rfl) (by rfl) (by first|exact fun _=>trivial|exact fun h=>h) (by intro h;repeat' (first|exact trivial|exact h|refine And.intro ?_ ?_)) (fun _=>zIC _ _) ?_
  try simp (maxSteps:=2000000) only [go_sem]
  repeat with_reducible refine zAb ?_
  rw [zTh]
  refine zAc (by rfl) trivial (fun h2=>?_) (fun h2=>?_)
  ·try simp (maxSteps:=2000000) only [go_sem]
   repeat with_reducible refine zAb ?_
   refine zAd rfl trivial (.inl ?_)
   congr 3
   cases hn:yHu l with
   |false=>rfl
   |true=>
    exfalso
    have h4:=zAV hn hlt
    simp only [rOk,Bool.and_eq_true,Bool.or_eq_true,decide_eq_true_eq] at h4
    rw [h4.1] at h2
    by_cases h0:i=0
    ·subst h0
     cases hx:(l.getD 0 default).1 with
     |nil=>rw [hx] at h4;simp [zBJ] at h4
     |cons a r=>rw [hx] at h2;simp [Op.bytesLess] at h2
    ·rw [if_neg h0,h4.2.resolve_left h0] at h2
     simp at h2
  ·try simp (maxSteps:=2000000) only [go_sem]
   repeat with_reducible refine zAb ?_
   refine zDf (by rfl) trivial (by repeat' constructor) (zIC _ _) ?_
   try simp (maxSteps:=2000000) only [go_sem]
   repeat with_reducible refine zAb ?_
   refine ⟨i+1,by omega,⟨hlt,?_⟩,?_⟩
   ·rw [zZZ,hok]
    simp only [Bool.true_and,rOk]
    cases hn:zBJ ((l.getD i default).1) with
    |false=>rw [hn] at h2;simp at h2
    |true=>
     rw [hn] at h2
     by_cases h0:i=0
     ·simp [h0]
     ·rw [if_neg h0] at h2
      simp at h2
      simp [h0,h2]
   ·simp (maxSteps:=2000000) only [go_sem,zAf,zAl,zAz,zAg]
    all_goals (repeat' (first|exact trivial|exact zAm (by omega)|exact zAi rfl|exact zAx rfl|exact zAs|exact le_refl _|refine And.intro ?_ ?_))
 ·try simp (maxSteps:=2000000) only [go_sem]
  repeat with_reducible refine zAb ?_
  refine zAd rfl trivial (.inl ?_)
  congr 3
  have:i=l.length:=by simp at h;omega
  subst this;exact hok
def zSz (l:List (Bys×Bys)) (i:Nat):Bool:=!zDJ (l.getD i default).2
def zXT (l:List (Bys×Bys)):Int:=match (List.range l.length).find? (zSz l) with|some i=>i|none=>-1
theorem zGT (l:List (Bys×Bys)):Contract Tryz.prog zA2 [.val (.one (.sl 2 (yAO l))),.val (.one (.clo zDi []))] {res:=.val (iv (zXT l))}:=by
 refine mkA zC1 (base:=0) (fo rfl) (fun hfit=>?_)
 unfold F0 zB3
 simp (maxSteps:=2000000) only [zAJ,List.set_cons_succ,List.set_cons_zero,List.map_cons,List.map_nil,zAH,zAa,ioOf,List.length_cons,List.length_nil,Nat.reduceAdd,Nat.reduceSub,List.replicate,List.cons_append,List.nil_append]
 try simp (maxSteps:=2000000) only [go_sem]
 repeat with_reducible refine zAb ?_
 have hm:=zDg (k:=2) hfit.1
 rw [zAn] at hm
 refine zAv (fun i:Nat=>[(5,.un),(8,.pv (iv i)),(9,.un),(16,.un)]) (fun i:Nat=>l.length-i) (fun i:Nat=>i≤l.length∧∀ k,k < i→zSz l k=false) (0) ?_ ⟨Nat.zero_le _,fun k hk=>by omega⟩ ?_
 focus (simp (maxSteps:=2000000) only [go_sem,zAf,zAl,zAz,zAg];all_goals (repeat' (first|exact trivial|exact zAm (by omega)|exact zAi rfl|exact zAx rfl|exact zAs|exact le_refl _|refine And.intro ?_ ?_)))
 intro i ⟨hi,hok⟩
 try simp (maxSteps:=2000000) only [go_sem]
 repeat with_reducible refine zAb ?_
 refine zAc (by rfl) trivial (fun h=>?_) (fun h=>?_)
 ·have hlt:i < l.length:=by simpa using h
  try simp (maxSteps:=2000000) only [go_sem,zE6 _ _ hlt]
  repeat with_reducible refine zAb ?_
  refine zDf (by rfl) trivial (by repeat' constructor) (zXR _ _) ?_
  try simp (maxSteps:=2000000) only [go_sem]
  repeat with_reducible refine zAb ?_
  refine zAc (by rfl) trivial (fun h2=>?_) (fun h2=>?_)
  ·try simp (maxSteps:=2000000) only [go_sem]
   repeat with_reducible refine zAb ?_
   refine zAd rfl trivial (.inl ?_)
   congr 3
   have h3:(List.range l.length).find? (zSz l)=some i:=List.find?_range_eq_some.2 ⟨h2,List.mem_range.2 hlt,fun j hj=>by rw [hok j hj];rfl⟩
   rw [zXT,h3]
  ·try simp (maxSteps:=2000000) only [go_sem]
   repeat with_reducible refine zAb ?_
   refine ⟨i+1,by omega,⟨hlt,fun k hk=>?_⟩,?_⟩
   ·by_cases e:k=i
    ·rw [e];exact h2
    ·exact hok k (by omega)
   ·simp (maxSteps:=2000000) only [go_sem,zAf,zAl,zAz,zAg]
    all_goals (repeat' (first|exact trivial|exact zAm (by omega)|exact zAi rfl|exact zAx rfl|exact zAs|exact le_refl _|refine And.intro ?_ ?_))
 ·try simp (maxSteps:=2000000) only [go_sem]
  repeat with_reducible refine zAb ?_
  refine zAd rfl trivial (.inl ?_)
  congr 3
  have:i=l.length:=by simp at h;omega
  have h3:(List.range l.length).find? (zSz l)=none:=List.find?_eq_none.2 fun x hx=>by rw [hok x (by rw [this];exact List.mem_range.1 hx)];simp
  rw [zXT,h3]
def zXU (l:List (Bys×Bys)):Bool:=(List.range l.length).any (zSz l)
theorem yB9 (l:List (Bys×Bys)):decide (0≤zXT l)=zXU l:=by
 unfold zXT zXU
 cases h:(List.range l.length).find? (zSz l) with
 |none=>
  have:=List.find?_eq_none.1 h
  have h2:(List.range l.length).any (zSz l)=false:=by
   rw [List.any_eq_false];exact this
  rw [h2];rfl
 |some i=>
  have:=List.find?_range_eq_some.1 h
  have h2:(List.range l.length).any (zSz l)=true:=List.any_eq_true.2 ⟨i,this.2.1,this.1⟩
  rw [h2]
  simp
theorem zEW (l:List (Bys×Bys)):Contract Tryz.prog zBz [.val (.one (.sl 2 (yAO l))),.val (.one (.clo zDi []))] {res:=.val (bv (zXU l))}:=by
 refine mkA zEE (base:=0) (fo rfl) (fun hfit=>?_)
 unfold F0 zCy
 simp (maxSteps:=2000000) only [zAJ,List.set_cons_succ,List.set_cons_zero,List.map_cons,List.map_nil,zAH,zAa,ioOf,List.length_cons,List.length_nil,Nat.reduceAdd,Nat.reduceSub,List.replicate,List.cons_append,List.nil_append]
 try simp (maxSteps:=2000000) only [go_sem]
 repeat with_reducible refine zAb ?_
 refine zAw (by repeat' constructor) (zGT _) ?_
 try simp (maxSteps:=2000000) only [go_sem]
 repeat with_reducible refine zAb ?_
 try simp (maxSteps:=2000000) only [go_sem]
 repeat with_reducible refine zAb ?_
 refine zAd rfl trivial (.inl ?_)
 congr 3
 rw [←yB9]
theorem yCa (l:List (Bys×Bys)):okA l l.length=(yHu l&&!zXU l):=by
 rw [Bool.eq_iff_iff]
 simp only [okA,zXS,zXU,Bool.and_eq_true,Bool.not_eq_true',List.all_eq_true,List.any_eq_false,List.mem_range]
 constructor
 ·intro h
  refine ⟨fun k hk=>?_,fun k hk=>?_⟩
  ·have:=h k hk
   simp only [aOk,rOk,Bool.and_eq_true] at this ⊢
   exact ⟨this.1.1,this.2⟩
  ·have:=h k hk
   simp only [aOk,zSz,Bool.and_eq_true] at this ⊢
   rw [this.1.2];simp
 ·intro ⟨h1,h2⟩ k hk
  have h3:=h1 k hk
  have h4:=h2 k hk
  simp only [aOk,rOk,zSz,Bool.and_eq_true,Bool.not_eq_true,Bool.not_eq_false'] at h3 h4 ⊢
  exact ⟨⟨h3.1,h4⟩,h3.2⟩
theorem zTi (x:Nd):Contract Tryz.prog zJL [.val (.agg (ndV x))] {res:=.val (bv (zBK x))}:=by
 unfold ndV
 refine mkA zY5 (base:=0) (fo rfl) (fun hfit=>?_)
 unfold F0 zS6
 simp (maxSteps:=2000000) only [zAJ,List.set_cons_succ,List.set_cons_zero,List.map_cons,List.map_nil,zAH,zAa,ioOf,List.length_cons,List.length_nil,Nat.reduceAdd,Nat.reduceSub,List.replicate,List.cons_append,List.nil_append]
 try simp (maxSteps:=2000000) only [go_sem]
 repeat with_reducible refine zAb ?_
 refine zAw (by repeat' constructor) (zEk _) ?_
 try simp (maxSteps:=2000000) only [go_sem]
 repeat with_reducible refine zAb ?_
 apply zAu (h2:=fun _=>zEk _)
 ·(simp (maxSteps:=2000000) only [go_sem];rfl)
 ·intro h;repeat' (first|exact trivial|exact h|refine And.intro ?_ ?_)
 try simp (maxSteps:=2000000) only [go_sem]
 repeat with_reducible refine zAb ?_
 apply zAu (h2:=fun _=>zLZ _)
 ·(simp (maxSteps:=2000000) only [go_sem];rfl)
 ·intro h;repeat' (first|exact trivial|exact h|refine And.intro ?_ ?_)
 try simp (maxSteps:=2000000) only [go_sem]
 repeat with_reducible refine zAb ?_
 apply zAu (h2:=fun _=>zOw _)
 ·(simp (maxSteps:=2000000) only [go_sem];rfl)
 ·intro h;repeat' (first|exact trivial|exact h|refine And.intro ?_ ?_)
 try simp (maxSteps:=2000000) only [go_sem]
 repeat with_reducible refine zAb ?_
 apply zAu (h2:=fun _=>zEW _)
 ·(simp (maxSteps:=2000000) only [go_sem];rfl)
 ·intro h;repeat' (first|exact trivial|exact h|refine And.intro ?_ ?_)
 try simp (maxSteps:=2000000) only [go_sem]
 repeat with_reducible refine zAb ?_
 refine zAd rfl trivial (.inl ?_)
 congr 3
 simp only [zBK,yCa]
 grind
end Go.Hx
end

section
set_option maxRecDepth 100000
set_option linter.unusedSimpArgs false
namespace Go.Hx
open Go.Proofs
variable [Glob] [GlobL]
attribute [local go_sem] zAt zAp zAn zAj ndV zAq
attribute [local go_sem] reduceCtorEq Nat.reduceAdd Nat.reduceEqDiff reduceIte Nat.reduceLeDiff Nat.reduceLT Nat.reduceSub
def zNf (u:Int) (c:List Int):List Int:=c.dropWhile fun x=>decide (x≠u)
theorem zQJ {u:Int}:∀ c:List Int,(zNf u c=[])↔u∉c
 |[]=>by simp [zNf]
 |x::c=>by
  simp only [zNf,List.dropWhile_cons]
  by_cases h:x=u
  ·simp [h]
  ·have:=zQJ (u:=u) c
   simp only [zNf] at this
   simp only [ne_eq,decide_not] at this
   simp [h,this,Ne.symm h]
theorem zQK {d:List Nd} {u:Int}:∀ (f:Nat) (k:Int),(∀ j:Nat,(j:Int)≤k→zBc d j < j)→k < f→u∈zBr d f k→∀ g:Nat,u < g→zNf u (zBr d f k)=zBr d g u
 |0,k,_,_,hu=>by simp [zBr] at hu
 |f+1,k,h,hf,hu=>by
  intro g hg
  have hb:=zDK (f+1) k h _ hu
  simp only [zBr] at hu ⊢
  split at hu
  ·cases hu
  ·rename_i hk
   rw [if_neg hk]
   simp only [zNf,List.dropWhile_cons]
   by_cases e:k=u
   ·subst e
    simp only [ne_eq,not_true_eq_false,decide_false,Bool.false_eq_true,if_false]
    have:k::zBr d f (zBc d k.toNat)=zBr d (f+1) k:=by simp [zBr,hk]
    rw [this]
    exact zFW _ _ _ h hf hg
   ·simp only [ne_eq,e,not_false_eq_true,decide_true,if_true]
    have h1:=h k.toNat (by omega)
    exact zQK f (zBc d k.toNat) (fun j hj=>h j (by omega)) (by omega) ((List.mem_cons.1 hu).resolve_left (Ne.symm e)) g hg
theorem zTj (c:List Int) (x:Int):(zAS ((x::c).reverse)).getD c.length []=[bI x]:=by
 simp [zAS]
theorem zTk (c:List Int) (x:Int):(zAS ((x::c).reverse)).take c.length=zAS c.reverse:=by
 simp [zAS]
theorem yDt:zAS []=[]:=rfl
theorem zXV {d:List Nd} {i:Nat}:yC2 d i=((decide (i≠0)||decide (zBc d i=-1))&&(decide (i=0)||!decide (zNf (zBc d i) (zBr d i ((i:Int)-1))=[]))):=by
 unfold yC2
 by_cases h:i=0
 ·simp [h]
 ·have:=zQJ (u:=zBc d i) (zBr d i ((i:Int)-1))
  simp only [h,if_false,ne_eq,not_false_eq_true,decide_true,Bool.true_or,Bool.true_and,decide_false,Bool.false_or,this]
  simp
theorem zXW {d:List Nd}:∀ (f:Nat) (k:Int),(zBr d f k).length≤f
 |0,_=>by simp [zBr]
 |f+1,k=>by
  simp only [zBr]
  split
  ·simp
  ·have:=zXW (d:=d) f (zBc d k.toNat)
   simp;omega
theorem yDu (n:Nat):((((n+1:Nat):Int))-1).toNat=n:=by omega
theorem yDv {d:List Nd} {i:Nat} (hl:1≤d.length∧d.length≤64) (hi:i < d.length) (h:zWG d i=false):zAy d=1:=by
 have:zCS d d.length=false:=by
  cases hd:zCS d d.length with
  |false=>rfl
  |true=>rw [zAV hd hi] at h;cases h
 simp [zAy,hl,this]
theorem zQL (d:List Nd):Contract Tryz.prog zFa [.val (zHz d)] {res:=.val (iv (zAy d))}:=by
 unfold zHz
 refine mkA zW3 (base:=0) (fo rfl) (fun hfit=>?_)
 unfold F0 zP3
 simp (maxSteps:=2000000) only [zAJ,List.set_cons_succ,List.set_cons_zero,List.map_cons,List.map_nil,zAH,zAa,ioOf,List.length_cons,List.length_nil,Nat.reduceAdd,Nat.reduceSub,List.replicate,List.cons_append,List.nil_append]
 try simp (maxSteps:=2000000) only [go_sem]
 repeat with_reducible refine zAb ?_
 refine zAc (by rfl) trivial (fun h=>?_) (fun h=>?_)
 ·try simp (maxSteps:=2000000) only [go_sem]
  repeat with_reducible refine zAb ?_
  refine zAd rfl trivial (.inl ?_)
  congr 3
  have hl:¬ (1≤d.length∧d.length≤64):=by
   simp at h;omega
  simp [zAy,hl]
 have hl:1≤d.length∧d.length≤64:=by
  simp at h;omega
 try simp (maxSteps:=2000000) only [go_sem]
 repeat with_reducible refine zAb ?_
 refine zAv (fun i:Nat=>[(3,.stk zAC 1 (zAS (zBr d i ((i:Int)-1)).reverse)),(4,.un),(5,.un),(19,.pv (iv i)),(20,.un),(37,.un),(63,.un),(69,.un),(70,.un),(71,.un),(72,.un),(73,.un)]) (fun i:Nat=>d.length-i) (fun i:Nat=>i≤d.length∧zCS d i=true) (0) ?_ ⟨Nat.zero_le _,rfl⟩ ?_
 focus (simp (maxSteps:=2000000) only [go_sem,zAf,zAl,zAz,zAg];all_goals (repeat' (first|exact trivial|exact zAm (by omega)|exact zAi rfl|exact zAx rfl|exact zAs|exact le_refl _|refine And.intro ?_ ?_)))
 intro i ⟨hi,hok⟩
 try simp (maxSteps:=2000000) only [go_sem]
 repeat with_reducible refine zAb ?_
 refine zAc (by rfl) trivial (fun h2=>?_) (fun h2=>?_)
 ·have hlt:i < d.length:=by simpa using h2
  try simp (maxSteps:=2000000) only [go_sem,zBC _ _ hlt]
  repeat with_reducible refine zAb ?_
  have hcl:=zXW (d:=d) i ((i:Int)-1)
  have hx:zBc d i=(d.getD i default).up:=rfl
  refine zAv (fun c:List Int=>[(3,.stk zAC 1 (zAS c.reverse)),(37,.un)]) (fun c:List Int=>c.length) (fun c:List Int=>c.length≤i∧zNf (zBc d i) c=zNf (zBc d i) (zBr d i ((i:Int)-1))) ((zBr d i ((i:Int)-1))) ?_ ⟨hcl,rfl⟩ ?_
  focus (simp (maxSteps:=2000000) only [go_sem,zAf,zAl,zAz,zAg];all_goals (repeat' (first|exact trivial|exact zAm (by omega)|exact zAi rfl|exact zAx rfl|exact zAs|exact le_refl _|refine And.intro ?_ ?_)))
  intro c ⟨hcl,hc⟩
  cases c with
  |nil=>
   have hpop:zNf (zBc d i) (zBr d i ((i:Int)-1))=[]:=by rw [←hc];rfl
   have hup:=zXV (d:=d) (i:=i)
   rw [hpop] at hup
   try simp (maxSteps:=2000000) only [go_sem,List.reverse_nil,yDt,List.getD_nil,List.headD_nil]
   repeat with_reducible refine zAb ?_
   refine zAc (by rfl) trivial (fun h3=>?_) (fun h3=>?_)
   ·simp at h3
   try simp (maxSteps:=2000000) only [go_sem]
   repeat with_reducible refine zAb ?_
   refine zWC (by repeat' constructor) (zTi (d.getD i default)) ?_
   try simp (maxSteps:=2000000) only [go_sem]
   repeat with_reducible refine zAb ?_
   refine zAc (by rfl) trivial (fun h4=>?_) (fun h4=>?_)
   ·try simp (maxSteps:=2000000) only [go_sem]
    repeat with_reducible refine zAb ?_
    refine zAd rfl trivial (.inl ?_)
    congr 3
    refine yDv hl hlt ?_
    rw [zWG,hup]
    grind
   ·try simp (maxSteps:=2000000) only [go_sem]
    repeat with_reducible refine zAb ?_
    have h5:i=0:=by grind
    have h6:zWG d i=true:=by
     rw [zWG,hup]
     grind
    refine ⟨i+1,by omega,⟨by omega,by rw [zNe,hok,h6];rfl⟩,?_⟩
    simp (maxSteps:=2000000) only [go_sem,zAf,zAl,zAz,zAg]
    all_goals (repeat' (first|exact trivial|exact zAm (by omega)|exact zAi rfl|exact zAx rfl|exact zAs|exact le_refl _|refine And.intro ?_ ?_))
    refine zAx ?_
    subst h5
    have:zBc d 0=-1:=by grind
    simp [zBr,this,zAS]
  |cons x c=>
   have hlen:c.length+1≤64:=by simp at hcl;omega
   try simp (maxSteps:=2000000) only [go_sem,List.length_reverse,yDu,zTj,zTk]
   repeat with_reducible refine zAb ?_
   refine zAc (by rfl) trivial (fun h3=>?_) (fun h3=>?_)
   ·try simp (maxSteps:=2000000) only [go_sem,List.length_reverse,yDu,zTj,zTk]
    repeat with_reducible refine zAb ?_
    refine ⟨c,by omega,⟨by simp at hcl;omega,?_⟩,?_⟩
    ·rw [←hc]
     simp only [zNf,List.dropWhile_cons]
     grind
    ·simp (maxSteps:=2000000) only [go_sem,zAf,zAl,zAz,zAg]
     all_goals (repeat' (first|exact trivial|exact zAm (by omega)|exact zAi rfl|exact zAx rfl|exact zAs|exact le_refl _|refine And.intro ?_ ?_))
   have hxu:x=zBc d i:=by grind
   have hpop:zNf (zBc d i) (zBr d i ((i:Int)-1))=x::c:=by rw [←hc];simp [zNf,hxu]
   have hup:=zXV (d:=d) (i:=i)
   rw [hpop] at hup
   try simp (maxSteps:=2000000) only [go_sem,List.length_reverse]
   repeat with_reducible refine zAb ?_
   refine zWC (by repeat' constructor) (zTi (d.getD i default)) ?_
   try simp (maxSteps:=2000000) only [go_sem]
   repeat with_reducible refine zAb ?_
   refine zAc (by rfl) trivial (fun h4=>?_) (fun h4=>?_)
   ·try simp (maxSteps:=2000000) only [go_sem]
    repeat with_reducible refine zAb ?_
    refine zAd rfl trivial (.inl ?_)
    congr 3
    refine yDv hl hlt ?_
    rw [zWG,hup]
    grind
   ·try simp (maxSteps:=2000000) only [go_sem]
    repeat with_reducible refine zAb ?_
    have hmem:zBc d i∈zBr d i ((i:Int)-1):=by
     have:=zQJ (u:=zBc d i) (zBr d i ((i:Int)-1))
     rw [hpop] at this
     simpa using this
    have h5:i≠0:=by intro h0;subst h0;simp [zBr] at hmem
    have h6:zWG d i=true:=by
     rw [zWG,hup]
     grind
    refine ⟨i+1,by omega,⟨by omega,by rw [zNe,hok,h6];rfl⟩,?_⟩
    simp (maxSteps:=2000000) only [go_sem,zAf,zAl,zAz,zAg]
    all_goals (repeat' (first|exact trivial|exact zAm (by omega)|exact zAi rfl|exact zAx rfl|exact zAs|exact le_refl _|refine And.intro ?_ ?_))
    refine zAx ?_
    have hups:∀ j:Nat,(j:Int)≤(i:Int)-1→zBc d j < j:=fun j hj=>(zBh hok j (by omega)).2
    have hb:=zDK i ((i:Int)-1) hups _ hmem
    have hch:=zQK i ((i:Int)-1) hups (by omega) hmem i (by omega)
    rw [hpop] at hch
    have:zBr d (i+1) (((i+1:Nat):Int)-1)=(i:Int)::x::c:=by
     rw [show (((i+1:Nat):Int)-1)=(i:Int) by omega]
     simp only [zBr]
     rw [if_neg (by omega),hch]
     simp
    rw [this]
    simp [zAS]
 ·try simp (maxSteps:=2000000) only [go_sem]
  repeat with_reducible refine zAb ?_
  refine zAd rfl trivial (.inl ?_)
  congr 3
  have hi2:i=d.length:=by simp at h2;omega
  subst hi2
  simp [zAy,hl,hok]
end Go.Hx
end

section
set_option maxRecDepth 100000
set_option linter.unusedSimpArgs false
namespace Go.Hx
open Go.Proofs
variable [Glob] [GlobL]
attribute [local go_sem] zAt zAp zAn zAj ndV zAq zAk fdV shV zBD zA7 zBt zBs
attribute [local go_sem] reduceCtorEq Nat.reduceAdd Nat.reduceEqDiff reduceIte Nat.reduceLeDiff Nat.reduceLT Nat.reduceSub
theorem yDx (N:Nat) (ih:yLl Tryz.prog N) (s:St) (d K:Nat) (c:Fd) (hN:SizeOf.sizeOf s≤N+1) (hd:d≤3) (hc:c.le K) (hK:K+bdS d≤1000000000):Contract Tryz.prog zCv [.io (fdV c),.val (.agg (stV s)),.val (iv d)] {res:=.tup [],io:=fdV (c.add (ntS s d))}:=by
 rw [zS3]
 unfold fdV
 refine mkA zM6 (base:=121) ⟨Nat.le_of_ble_eq_true rfl,Nat.le_of_ble_eq_true rfl,Nat.le_of_ble_eq_true rfl,⟨rfl,rfl⟩⟩ (fun hfit=>?_)
 unfold F0 zGZ
 simp (maxSteps:=2000000) only [zAJ,List.set_cons_succ,List.set_cons_zero,List.map_cons,List.map_nil,zAH,zAa,ioOf,List.length_cons,List.length_nil,Nat.reduceAdd,Nat.reduceSub,List.replicate,List.cons_append,List.nil_append]
 try simp (maxSteps:=2000000) only [go_sem]
 repeat with_reducible refine zAb ?_
 have hbs:bdS d=1+6 * bdT d:=rfl
 have hbt:bdT d=5+bd (d+1):=rfl
 refine zAc (by rfl) trivial (fun h=>?_) (fun h=>?_)
 ·have e:ntS s d=fM true:=by rw [yFY,if_pos (by simp at h;omega)]
  have hm:=hc.m
  try simp (maxSteps:=2000000) only [go_sem]
  repeat with_reducible refine zAb ?_
  refine zDI (by repeat' constructor) (zVS c true (by omega)) ?_
  try simp (maxSteps:=2000000) only [go_sem]
  repeat with_reducible refine zAb ?_
  rw [e]
  exact zT3 rfl rfl
 ·have hl6:s.tests.length≤6:=by simp at h;omega
  have e:ntS s d=(fF (!(s.tag==[])&&!zBJ s.tag)).add (yAU s.tests d):=by rw [yFY,if_neg (by omega)]
  rw [e]
  try simp (maxSteps:=2000000) only [go_sem]
  repeat with_reducible refine zAb ?_
  have hf:=hc.f
  apply zAu (h2:=fun _=>zEk s.tag)
  ·(simp (maxSteps:=2000000) only [go_sem];rfl)
  ·intro h;repeat' (first|exact trivial|exact h|refine And.intro ?_ ?_)
  try simp (maxSteps:=2000000) only [go_sem]
  repeat with_reducible refine zAb ?_
  refine zDI (by repeat' constructor) (zOG c (bif !(s.tag==[]) then !zBJ s.tag else false) (by omega)) ?_
  try simp (maxSteps:=2000000) only [go_sem,Bool.cond_false_right]
  repeat with_reducible refine zAb ?_
  obtain ⟨c1,hc1⟩:∃ c1,c1=c.add (fF (!(s.tag==[])&&!zBJ s.tag)):=⟨_,rfl⟩
  have hc2:c1.le (K+1):=by rw [hc1];exact hc.le_add (zWN _)
  rw [←Fd.add_assoc,←hc1]
  have hK0:K+1+(s.tests.length-0) * bdT d≤1000000000:=by
   have:(s.tests.length-0) * bdT d≤6 * bdT d:=Nat.mul_le_mul_right _ (by omega)
   omega
  refine zAv (fun x:Nat×Fd=>[(7,.un),(8,.un),(9,.un),(30,.pv (iv x.1)),(31,.un),(113,.un),(122,.pv (.one (bI x.2.f))),(123,.pv (.one (bI x.2.m))),(124,.pv (.one (bI x.2.r))),(125,.pv (.one (bI x.2.k)))]) (fun x:Nat×Fd=>s.tests.length-x.1) (fun x:Nat×Fd=>x.1≤s.tests.length∧(∃ K',x.2.le K'∧K'+(s.tests.length-x.1) * bdT d≤1000000000)∧x.2.add (yAU (s.tests.drop x.1) d)=c1.add (yAU s.tests d)) ((0,c1)) ?_ ⟨Nat.zero_le _,⟨K+1,hc2,hK0⟩,by simp⟩ ?_
  focus (simp (maxSteps:=2000000) only [go_sem,zAf,zAl,zAz,zAg];all_goals (repeat' (first|exact trivial|exact zAm (by omega)|exact zAi rfl|exact zAx rfl|exact zAs|exact le_refl _|refine And.intro ?_ ?_)))
  rintro ⟨i,a⟩ ⟨hi,⟨K',ha,hK'⟩,hsum⟩
  simp only at hi ha hK' hsum
  try simp (maxSteps:=2000000) only [go_sem]
  repeat with_reducible refine zAb ?_
  refine zAc (by rfl) trivial (fun h2=>?_) (fun h2=>?_)
  ·have hil:i < s.tests.length:=by simp at h2;omega
   rw [zCQ (d:=default) hil] at hsum
   obtain ⟨t,ht⟩:∃ t,t=s.tests.getD i default:=⟨_,rfl⟩
   rw [←ht] at hsum
   have hg:=zT9 s.tests i hil
   rw [←ht,zND] at hg
   have hsz:SizeOf.sizeOf t.list≤N:=by
    have h3:=yHd t
    have h4:=yLb hil
    rw [←ht] at h4
    have h5:=yEP s
    omega
   have hmul:(s.tests.length-i) * bdT d=bdT d+(s.tests.length-(i+1)) * bdT d:=by
    have:s.tests.length-i=(s.tests.length-(i+1))+1:=by omega
    rw [this,Nat.add_mul];omega
   have hbp:=zUe (4-(d+1))
   have hbe:bd (d+1)=bdF (4-(d+1)):=rfl
   simp only [yAU,yJB,yEa] at hsum
   try simp (maxSteps:=2000000) only [go_sem,hg]
   repeat with_reducible refine zAb ?_
   refine zCi (by repeat' constructor) (yDl t.kind) ?_
   try simp (maxSteps:=2000000) only [go_sem,hg]
   repeat with_reducible refine zAb ?_
   have a1:=ha.k
   refine zDI (by repeat' constructor) (yAZ a (!kOk t.kind) (by omega)) ?_
   try simp (maxSteps:=2000000) only [go_sem]
   repeat with_reducible refine zAb ?_
   obtain ⟨b1,hb1⟩:∃ b1,b1=a.add (fK (!kOk t.kind)):=⟨_,rfl⟩
   have l1:b1.le (K'+1):=by rw [hb1];exact ha.le_add (yHg _)
   rw [←hb1]
   have a2:=l1.f
   apply zAu (h2:=fun _=>zEk t.name)
   ·(simp (maxSteps:=2000000) only [go_sem];rfl)
   ·intro h;repeat' (first|exact trivial|exact h|refine And.intro ?_ ?_)
   try simp (maxSteps:=2000000) only [go_sem]
   repeat with_reducible refine zAb ?_
   refine zDI (by repeat' constructor) (zOG b1 _ (by omega)) ?_
   try simp (maxSteps:=2000000) only [go_sem,Bool.cond_false_right,Bool.cond_true_left]
   repeat with_reducible refine zAb ?_
   obtain ⟨b2,hb2⟩:∃ b2,b2=b1.add (fF (yFW t)):=⟨_,rfl⟩
   have l2:b2.le (K'+1+1):=by rw [hb2];exact l1.le_add (zWN _)
   unfold yFW at hb2
   rw [←hb2]
   have a3:=l2.f
   apply zAu (h2:=fun _=>zQI t.value)
   ·(simp (maxSteps:=2000000) only [go_sem];rfl)
   ·intro h;repeat' (first|exact trivial|exact h|refine And.intro ?_ ?_)
   try simp (maxSteps:=2000000) only [go_sem]
   repeat with_reducible refine zAb ?_
   refine zDI (by repeat' constructor) (zOG b2 _ (by omega)) ?_
   try simp (maxSteps:=2000000) only [go_sem,Bool.cond_false_right,Bool.cond_true_left]
   repeat with_reducible refine zAb ?_
   obtain ⟨b3,hb3⟩:∃ b3,b3=b2.add (fF (yFX t)):=⟨_,rfl⟩
   have l3:b3.le (K'+1+1+1):=by rw [hb3];exact l2.le_add (zWN _)
   unfold yFX at hb3
   rw [←hb3]
   have a4:=l3.f
   have e3:decide (0 < (t.list.length:Int))=decide (0 < t.list.length):=decide_eq_decide.2 (by omega)
   refine zDI (by repeat' constructor) (zOG b3 _ (by omega)) ?_
   try simp (maxSteps:=2000000) only [go_sem,Bool.cond_false_right,Bool.cond_true_left,e3]
   repeat with_reducible refine zAb ?_
   obtain ⟨b4,hb4⟩:∃ b4,b4=b3.add (fF (yES t)):=⟨_,rfl⟩
   have l4:b4.le (K'+1+1+1+1):=by rw [hb4];exact l3.le_add (zWN _)
   unfold yES at hb4
   rw [←hb4]
   have a5:=l4.r
   refine zAw (by repeat' constructor) (zQO t.na t.nb) ?_
   try simp (maxSteps:=2000000) only [go_sem]
   repeat with_reducible refine zAb ?_
   refine zDI (by repeat' constructor) (yE8 b4 _ (by omega)) ?_
   try simp (maxSteps:=2000000) only [go_sem]
   repeat with_reducible refine zAb ?_
   obtain ⟨b5,hb5⟩:∃ b5,b5=b4.add (fR (zUd t.na t.nb != 0)):=⟨_,rfl⟩
   have l5:b5.le (K'+1+1+1+1+1):=by rw [hb5];exact l4.le_add (yJF _)
   rw [←hb5]
   have hT:b5=a.add (yEa t):=by
    rw [hb5,hb4,hb3,hb2,hb1]
    simp only [yEa,kOk,yFW,yFX,yES,Fd.add_assoc]
    congr 6
   refine zAc (by rfl) trivial (fun h3=>?_) (fun h3=>?_)
   ·rw [if_pos h3,←Fd.add_assoc,←Fd.add_assoc] at hsum
    have hst:=ih.1 t.list (d+1) (K'+5) b5 hsz (by omega) l5 (by omega)
    unfold fdV zBD at hst
    rw [show ((d+1:Nat):Int)=(d:Int)+1 by omega] at hst
    try simp (maxSteps:=2000000) only [go_sem]
    repeat with_reducible refine zAb ?_
    refine zDI (by repeat' constructor) (hst) ?_
    try simp (maxSteps:=2000000) only [go_sem]
    repeat with_reducible refine zAb ?_
    refine ⟨(i+1,b5.add (ntL t.list (d+1))),by simp only;omega,⟨by simp only;omega,⟨K'+5+bd (d+1),l5.le_add (b_L _ _),by simp only;omega⟩,?_⟩,?_⟩
    ·simp only
     rw [←hsum,hT]
     rfl
    ·simp (maxSteps:=2000000) only [go_sem,zAf,zAl,zAz,zAg]
     all_goals (repeat' (first|exact trivial|exact zAm (by omega)|exact zAi rfl|exact zAx rfl|exact zAs|exact le_refl _|refine And.intro ?_ ?_))
   ·rw [if_neg (by rw [h3];simp)] at hsum
    try simp (maxSteps:=2000000) only [go_sem]
    repeat with_reducible refine zAb ?_
    refine ⟨(i+1,b5),by simp only;omega,⟨by simp only;omega,⟨K'+5,l5,by simp only;omega⟩,?_⟩,?_⟩
    ·simp only
     rw [←hsum,hT]
     simp only [yEa,Fd.add_assoc,Fd.zero_add]
    ·simp (maxSteps:=2000000) only [go_sem,zAf,zAl,zAz,zAg]
     all_goals (repeat' (first|exact trivial|exact zAm (by omega)|exact zAi rfl|exact zAx rfl|exact zAs|exact le_refl _|refine And.intro ?_ ?_))
  ·have hil:i=s.tests.length:=by simp at h2;omega
   subst hil
   rw [List.drop_length] at hsum
   try simp (maxSteps:=2000000) only [go_sem]
   repeat with_reducible refine zAb ?_
   rw [←hsum]
   exact zCd rfl rfl
theorem yDy (l:List Pt):0 < SizeOf.sizeOf l:=by cases l<;>simp<;>omega
theorem yDz (s:St):0 < SizeOf.sizeOf s:=by cases s;simp only [St.mk.sizeOf_spec];omega
theorem zV3:∀ N,yLl Tryz.prog N
 |0=>⟨fun l d K c h=>by have:=yDy l;omega,fun s d K c h=>by have:=yDz s;omega⟩
 |N+1=>⟨fun l d K c h1 h2 h3 h4=>yDm N (zV3 N) l d K c h1 h2 h3 h4,fun s d K c h1 h2 h3 h4=>yDx N (zV3 N) s d K c h1 h2 h3 h4⟩
theorem zOx (l:List Pt):Contract Tryz.prog zBw [.io (fdV fd0),.val (zBD l),.val (iv 1)] {res:=.tup [],io:=fdV (ntL l 1)}:=by
 have h:=(zV3 (SizeOf.sizeOf l)).1 l 1 0 fd0 (Nat.le_refl _) (by omega) (zWO 0) (by have:=yJE;omega)
 rw [Fd.zero_add] at h
 exact h
theorem zNS (l:List Pt):Contract Tryz.prog zEg [.val (zBD l)] {res:=.val (iv (zCK l))}:=by
 rw [←yJD]
 have hc:=zOx l
 obtain ⟨c,hcc⟩:∃ c,c=ntL l 1:=⟨_,rfl⟩
 rw [←hcc] at hc ⊢
 unfold zBD
 refine mkA zUX (base:=0) (fo rfl) (fun hfit=>?_)
 unfold F0 zNL
 simp (maxSteps:=2000000) only [zAJ,List.set_cons_succ,List.set_cons_zero,List.map_cons,List.map_nil,zAH,zAa,ioOf,List.length_cons,List.length_nil,Nat.reduceAdd,Nat.reduceSub,List.replicate,List.cons_append,List.nil_append]
 try simp (maxSteps:=2000000) only [go_sem]
 repeat with_reducible refine zAb ?_
 unfold fdV zBD at hc
 refine zDI (by repeat' constructor) (hc) ?_
 try simp (maxSteps:=2000000) only [go_sem]
 repeat with_reducible refine zAb ?_
 refine zAw (by repeat' constructor) (zXO) ?_
 try simp (maxSteps:=2000000) only [go_sem]
 repeat with_reducible refine zAb ?_
 refine zAv (fun i:Nat=>[(5,.un),(12,.pv (iv i)),(13,.un),(21,.un)]) (fun i:Nat=>4-i) (fun i:Nat=>i≤4∧(1≤i→c.m=0)∧(2≤i→c.k=0)∧(3≤i→c.f=0)∧(4≤i→c.r=0)) (0) ?_ ⟨by omega,by omega,by omega,by omega,by omega⟩ ?_
 focus (simp (maxSteps:=2000000) only [go_sem,zAf,zAl,zAz,zAg];all_goals (repeat' (first|exact trivial|exact zAm (by omega)|exact zAi rfl|exact zAx rfl|exact zAs|exact le_refl _|refine And.intro ?_ ?_)))
 rintro i ⟨hi,h1,h2,h3,h4⟩
 try simp (maxSteps:=2000000) only [go_sem]
 repeat with_reducible refine zAb ?_
 refine zAc (by rfl) trivial (fun h=>?_) (fun h=>?_)
 ·have hlt:i < 4:=by simp at h;omega
  have hcase:i=0∨i=1∨i=2∨i=3:=by omega
  rcases hcase with rfl|rfl|rfl|rfl
  ·try simp (maxSteps:=2000000) only [go_sem,Int.reduceToNat,Int.toNat_natCast,List.getD_cons_zero,List.getD_cons_succ,PV.norm,Int.cast_ofNat_Int]
   repeat with_reducible refine zAb ?_
   refine zAc (by rfl) trivial (fun h5=>?_) (fun h5=>?_)
   ·try simp (maxSteps:=2000000) only [go_sem]
    repeat with_reducible refine zAb ?_
    refine zAd rfl trivial (.inl ?_)
    congr 3
    have h6:0 < c.m:=by simp at h5;omega
    unfold yHe
    simp [ h6]
   ·try simp (maxSteps:=2000000) only [go_sem]
    repeat with_reducible refine zAb ?_
    have h6:c.m=0:=by simp at h5;omega
    refine ⟨1,by omega,⟨by omega,fun _=>h6,by omega,by omega,by omega⟩,?_⟩
    simp (maxSteps:=2000000) only [go_sem,zAf,zAl,zAz,zAg]
    all_goals (repeat' (first|exact trivial|exact zAm (by omega)|exact zAi rfl|exact zAx rfl|exact zAs|exact le_refl _|refine And.intro ?_ ?_))
  ·try simp (maxSteps:=2000000) only [go_sem,Int.reduceToNat,Int.toNat_natCast,List.getD_cons_zero,List.getD_cons_succ,PV.norm,Int.cast_ofNat_Int]
   repeat with_reducible refine zAb ?_
   refine zAc (by rfl) trivial (fun h5=>?_) (fun h5=>?_)
   ·try simp (maxSteps:=2000000) only [go_sem]
    repeat with_reducible refine zAb ?_
    refine zAd rfl trivial (.inl ?_)
    congr 3
    have h6:0 < c.k:=by simp at h5;omega
    unfold yHe
    simp [h1 (by omega),  h6]
   ·try simp (maxSteps:=2000000) only [go_sem]
    repeat with_reducible refine zAb ?_
    have h6:c.k=0:=by simp at h5;omega
    refine ⟨2,by omega,⟨by omega,fun _=>h1 (by omega),fun _=>h6,by omega,by omega⟩,?_⟩
    simp (maxSteps:=2000000) only [go_sem,zAf,zAl,zAz,zAg]
    all_goals (repeat' (first|exact trivial|exact zAm (by omega)|exact zAi rfl|exact zAx rfl|exact zAs|exact le_refl _|refine And.intro ?_ ?_))
  ·try simp (maxSteps:=2000000) only [go_sem,Int.reduceToNat,Int.toNat_natCast,List.getD_cons_zero,List.getD_cons_succ,PV.norm,Int.cast_ofNat_Int]
   repeat with_reducible refine zAb ?_
   refine zAc (by rfl) trivial (fun h5=>?_) (fun h5=>?_)
   ·try simp (maxSteps:=2000000) only [go_sem]
    repeat with_reducible refine zAb ?_
    refine zAd rfl trivial (.inl ?_)
    congr 3
    have h6:0 < c.f:=by simp at h5;omega
    unfold yHe
    simp [h1 (by omega),h2 (by omega),  h6]
   ·try simp (maxSteps:=2000000) only [go_sem]
    repeat with_reducible refine zAb ?_
    have h6:c.f=0:=by simp at h5;omega
    refine ⟨3,by omega,⟨by omega,fun _=>h1 (by omega),fun _=>h2 (by omega),fun _=>h6,by omega⟩,?_⟩
    simp (maxSteps:=2000000) only [go_sem,zAf,zAl,zAz,zAg]
    all_goals (repeat' (first|exact trivial|exact zAm (by omega)|exact zAi rfl|exact zAx rfl|exact zAs|exact le_refl _|refine And.intro ?_ ?_))
  ·try simp (maxSteps:=2000000) only [go_sem,Int.reduceToNat,Int.toNat_natCast,List.getD_cons_zero,List.getD_cons_succ,PV.norm,Int.cast_ofNat_Int]
   repeat with_reducible refine zAb ?_
   refine zAc (by rfl) trivial (fun h5=>?_) (fun h5=>?_)
   ·try simp (maxSteps:=2000000) only [go_sem]
    repeat with_reducible refine zAb ?_
    refine zAd rfl trivial (.inl ?_)
    congr 3
    have h6:0 < c.r:=by simp at h5;omega
    unfold yHe
    simp [h1 (by omega),h2 (by omega),h3 (by omega),  h6]
   ·try simp (maxSteps:=2000000) only [go_sem]
    repeat with_reducible refine zAb ?_
    have h6:c.r=0:=by simp at h5;omega
    refine ⟨4,by omega,⟨by omega,fun _=>h1 (by omega),fun _=>h2 (by omega),fun _=>h3 (by omega),fun _=>h6⟩,?_⟩
    simp (maxSteps:=2000000) only [go_sem,zAf,zAl,zAz,zAg]
    all_goals (repeat' (first|exact trivial|exact zAm (by omega)|exact zAi rfl|exact zAx rfl|exact zAs|exact le_refl _|refine And.intro ?_ ?_))
 ·have hi4:i=4:=by simp at h;omega
  try simp (maxSteps:=2000000) only [go_sem]
  repeat with_reducible refine zAb ?_
  refine zAd rfl trivial (.inl ?_)
  congr 3
  unfold yHe
  simp [h1 (by omega),h2 (by omega),h3 (by omega),h4 (by omega)]
end Go.Hx
end

section
set_option maxRecDepth 100000
set_option linter.unusedSimpArgs false
namespace Go.Hx
open Go.Proofs
variable [Glob] [GlobL]
attribute [local go_sem] zAt zAp zAn zAj ndV zAq zAk zBD zA7 zBt zBs
end Go.Hx
end

section
set_option maxRecDepth 100000
set_option linter.unusedSimpArgs false
namespace Go.Hx
open Go.Proofs
variable [Glob] [GlobL]
attribute [local go_sem] zAt zAp zAn zAj ndV zAq zAk zBD zA7 zBt zBs
end Go.Hx
end

section
set_option maxRecDepth 100000
set_option linter.unusedSimpArgs false
set_option maxHeartbeats 2000000
namespace Go.Hx
open Go.Proofs
variable [Glob] [GlobL]
attribute [local go_sem] zAt zAp zAn zAj ndV zAq zAk zBD zA7 zBt zBs
end Go.Hx
end

section
set_option maxRecDepth 100000
set_option linter.unusedSimpArgs false
namespace Go.Hx
open Go.Proofs
variable [Glob] [GlobL]
attribute [local go_sem] zAt zAp zAn zAj ndV zAq zAk zHz List.take_nil zA7
def zXZ (d:List Nd) (l:List Pt) (k:Nat):List Int:=((List.range k).filter (lM d l)).map Int.ofNat
def yLn (d:List Nd) (l:List Pt):List Int:=zXZ d l d.length
def zL0 (d:List Nd) (l:List Pt) (n:Int):Int:=if zAy d≠0 then zAy d else if zCK l≠0 then zCK l else yDs d n
theorem yJ3 {d:List Nd} (hd:zAy d=0):1≤d.length∧d.length≤64∧zCS d d.length=true:=by
 unfold zAy at hd
 split at hd
 ·rename_i h
  split at hd
  ·rename_i h';exact ⟨h.1,h.2,h'⟩
  ·omega
 ·omega
theorem yCc {d:List Nd} {l:List Pt} {k:Nat}:zXZ d l (k+1)=if lM d l k then zXZ d l k++[(k:Int)] else zXZ d l k:=by
 unfold zXZ
 rw [List.range_succ,List.filter_append,List.map_append]
 by_cases h:lM d l k=true<;>simp [List.filter,h]
theorem yDA {d:List Nd} {l:List Pt} (k:Nat):(zXZ d l k).length≤k:=by
 unfold zXZ
 rw [List.length_map]
 exact Nat.le_trans (List.length_filter_le _ _) (by simp)
end Go.Hx
end

section
set_option maxRecDepth 100000
set_option linter.unusedSimpArgs false
namespace Go.Hx
open Go.Proofs
variable [Glob] [GlobL]
attribute [local go_sem] zAt zAp zAn zAj ndV zAq zAk zHz atV OVal.cells zWm List.drop_succ_cons List.drop_zero List.take_succ_cons List.take_zero List.getD_nil yAN zGW Nat.sub_zero List.map_nil List.map_cons yDC yDD zBk zJB zEq zAa
attribute [local go_sem ↓] yG4 yG5 yJv yJu yJw
attribute [local go_sem] reduceCtorEq Nat.reduceAdd Nat.reduceEqDiff reduceIte Nat.reduceLeDiff Nat.reduceLT Nat.reduceSub
def ahd (d:List Nd) (n:Nat):Int:=((zAN d (zBc d n) n).getLast?).getD (-1)
def plc (d:List Nd) (n:Nat):Int:=(zAN d (zBc d n) n).length+1
def ofN (d:List Nd) (n:Nat):Int:=if 0≤zBc d n then (zIA d (zBc d n)).length else 1
def zX0 (d:List Nd):List (List PV):=(List.range d.length).map fun n=>[bI (plc d n),bI (ofN d n),bI (ahd d n),bI (zCG d n),bI (zIA d n).length]
def zBo (d:List Nd):PV:=.fp [.sl 5 (zNz d),.sl 5 (zX0 d)]
def stF (d:List Nd) (i j:Nat):List OV:=zJz (if j < i then plc d j else 0) 0 (if j < i then ahd d j else 0) (zAX d j i) (zAN d j i).length
theorem zL1 (d:List Nd) (u:Int):zAN d u 0=[]:=rfl
theorem zX1 (d:List Nd) (u:Int):zAX d u 0=0:=rfl
theorem yLp (d:List Nd) (L:Nat):List.replicate L [OV.p (bI 0),.p (bI 0),.p (bI 0),.p (bI 0),.p (bI 0)]=zEi L (stF d 0):=by
 rw [yDE]
 refine zAZ fun j _=>?_
 simp [stF,zL1,zX1]
theorem zGy {d:List Nd} {u p:Int}:∀ {i:Nat},(zAN d u i).getLast?=some p→∃ m:Nat,m < i∧p=m∧zBc d m=u∧zAN d u i=zAN d u m++[(m:Int)]
 |0,h=>by rw [zL1] at h;cases h
 |i+1,h=>by
  rw [zAY] at h
  by_cases e:zBc d i=u
  ·rw [if_pos e] at h
   have hp:p=i:=by simpa using h.symm
   exact ⟨i,by omega,hp,e,by rw [zAY,if_pos e]⟩
  ·rw [if_neg e] at h
   obtain ⟨m,h1,h2,h3,h4⟩:=zGy h
   exact ⟨m,by omega,h2,h3,by rw [zAY,if_neg e,h4]⟩
def inF (d:List Nd) (i:Nat) (u k:Int) (j:Nat):List OV:=zJz (if j < i+1 then plc d j else 0) 0 (if j < i+1 then ahd d j else 0) (zAX d j i+if (C d u).contains (j:Int)&&decide (k < j) then 1 else 0) (zAN d j (i+1)).length
theorem zV4 {d:List Nd} {i:Nat} {u k:Int} (hu:u=zBc d i) (hk:k < 0) (j:Nat):inF d i u k j=stF d (i+1) j:=by
 unfold inF stF
 have h1:decide (k < (j:Int))=true:=by simp;omega
 rw [zIz,h1,Bool.and_true,←hu]
 rfl
theorem zL2 {d:List Nd} (hd:zCS d d.length=true) {i:Nat} {u:Int} (hu:u < d.length) (j:Nat):inF d i u u j=zJz (if j < i+1 then plc d j else 0) 0 (if j < i+1 then ahd d j else 0) (zAX d j i) (zAN d j (i+1)).length:=by
 unfold inF
 have:((C d u).contains (j:Int)&&decide (u < j))=false:=by
  cases hc:(C d u).contains (j:Int) with
  |false=>rfl
  |true=>
   have:=(yH1 hd hu (by simpa using hc)).2
   simp;omega
 rw [this]
 simp
theorem zOI {d:List Nd} (hd:zCS d d.length=true) {i q:Nat} {u:Int} (hu:u < d.length) (hq:(q:Int)∈C d u) (j:Nat):inF d i u (zBc d q) j=if j=q then zJz (if q < i+1 then plc d q else 0) 0 (if q < i+1 then ahd d q else 0) (zAX d q i+(if (C d u).contains (q:Int)&&decide ((q:Int) < q) then 1 else 0)+1) (zAN d q (i+1)).length else inF d i u q j:=by
 have hql:=(yH1 hd hu hq)
 have hub:=zBh hd q (by omega)
 by_cases h:j=q
 ·subst h
  rw [if_pos rfl]
  unfold inF
  have h1:(C d u).contains (j:Int)=true:=by simpa using hq
  have h2:decide (zBc d j < (j:Int))=true:=by simp;omega
  have h3:decide ((j:Int) < (j:Int))=false:=by simp
  rw [h1,h2,h3]
  simp
 ·rw [if_neg h]
  unfold inF
  have:((C d u).contains (j:Int)&&decide (zBc d q < (j:Int)))=((C d u).contains (j:Int)&&decide ((q:Int) < j)):=by
   cases hc:(C d u).contains (j:Int) with
   |false=>rfl
   |true=>
    have hj:(j:Int)∈C d u:=by simpa using hc
    obtain ⟨u',rfl⟩:∃ u':Nat,u=u':=⟨u.toNat,by omega⟩
    rw [Bool.true_and,Bool.true_and]
    rw [decide_eq_decide]
    constructor
    ·intro h1
     by_cases h2:(q:Int) < j
     ·exact h2
     ·exfalso
      have h3:=yLo hd u' (by omega) hq hj (by omega)
      have h4:=(yH1 hd (k:=zBc d q) (by omega) h3).2
      omega
    ·intro h1;omega
  rw [this]
def fiF (d:List Nd) (i j:Nat):List OV:=zJz (plc d j) (if j < i then ofN d j else 0) (ahd d j) (zCG d j) (zIA d j).length
theorem yDF (d:List Nd):zEi d.length (stF d d.length)=zEi d.length (fiF d 0):=by
 refine zAZ fun j hj=>?_
 simp [stF,fiF,hj,zCG,zIA]
theorem yFm (d:List Nd) (b e:Nat):(OV.os (some b) e 5 (zEi d.length (fiF d d.length))).frz=some (.sl 5 (zX0 d)):=by
 have h:zEi d.length (fiF d d.length)=(zX0 d).map fun r=>r.map OV.p:=by
  rw [zEi,zX0,List.map_map]
  refine List.map_congr_left fun j hj=>?_
  have:=List.mem_range.1 hj
  simp [fiF,this]
 rw [h]
 exact zWD (zHy _)
set_option maxHeartbeats 32000000 in
theorem yCe (d:List Nd) (hd:zAy d=0):Contract Tryz.prog zJZ [.val (zHz d)] {res:=.val (.one (zBo d))}:=by
 obtain ⟨d1,d2,d3⟩:=yJ3 hd
 unfold zHz
 refine mkA zZx (base:=0) (fo rfl) (fun hfit=>?_)
 unfold F0 zS8
 simp (maxSteps:=2000000) only [zAJ,List.set_cons_succ,List.set_cons_zero,List.map_cons,List.map_nil,zAH,zAa,ioOf,List.length_cons,List.length_nil,Nat.reduceAdd,Nat.reduceSub,List.replicate,List.cons_append,List.nil_append]
 try simp (maxSteps:=2000000) only [go_sem]
 repeat with_reducible refine zAb ?_
 intro bw
 refine yJQ (fun bm=>?_)
 try simp (maxSteps:=2000000) only [go_sem]
 repeat with_reducible refine zAb ?_
 refine zAv (fun x:Nat×List (Int×Int)=>[(24,.pv (iv x.1)),(20,.ov (.one (yCt bm x.2))),(163,.ov (.one (.os (some bw) zB4 5 (zEi d.length (stF d x.1))))),(5,.un),(6,.un),(7,.un),(8,.un),(9,.un),(10,.un),(25,.un),(43,.un),(72,.un),(91,.un),(107,.un),(164,.un),(165,.un),(166,.un),(167,.un),(168,.un)]) (fun x:Nat×List (Int×Int)=>d.length-x.1) (fun x:Nat×List (Int×Int)=>x.1≤d.length∧∀ u,zRf x.2 u=(zAN d u x.1).getLast?) ((0,[])) ?_ ⟨Nat.zero_le _,fun u=>rfl⟩ ?_
 focus (simp (maxSteps:=2000000) only [go_sem,zAf,zAl,zAz,zAg];all_goals (repeat' (first|exact trivial|exact zAm (by omega)|exact zAi rfl|exact zAx rfl|exact zAs|exact le_refl _|refine And.intro ?_ ?_)))
 ·refine zAx ?_
  rw [←yLp]
 rintro ⟨i,ml⟩ ⟨hi,hml⟩
 simp only at hi hml
 try simp (maxSteps:=2000000) only [go_sem]
 repeat with_reducible refine zAb ?_
 refine zAc (by rfl) trivial (fun g1=>?_) (fun g1=>?_)
 ·have hil:i < d.length:=by simpa using g1
  have hv:=zBC d i hil
  rw [ndV] at hv
  obtain ⟨u,hu⟩:∃ u,u=zBc d i:=⟨_,rfl⟩
  have hup:(d.getD i default).up=u:=hu.symm
  rw [hup] at hv
  have hub:=zBh d3 i hil
  rw [←hu] at hub
  have hget:=fun g=>zCL hil g
  obtain ⟨U,hU⟩:∃ U,U=zAX d i i:=⟨_,rfl⟩
  obtain ⟨K,hK⟩:∃ K,K=(zAN d i i).length:=⟨_,rfl⟩
  have hst:stF d i i=zJz 0 0 0 U K:=by simp [stF,hU,hK]
  try simp (maxSteps:=2000000) only [go_sem,hv,hget,hst,zJz]
  repeat with_reducible refine zAb ?_
  refine yHC rfl rfl rfl ?_
  have hgi:=hml u
  cases hlast:(zAN d u i).getLast? with
  |none=>
   rw [hlast] at hgi
   have hahd:ahd d i=-1:=by rw [ahd,←hu,hlast];rfl
   have hplc:plc d i=1:=by
    rw [List.getLast?_eq_none_iff] at hlast
    rw [plc,←hu,hlast];rfl
   try simp (maxSteps:=2000000) only [go_sem,hgi,Option.isSome_none,Option.getD_none]
   repeat with_reducible refine zAb ?_
   refine zAc (by rfl) trivial (fun g2=>?_) (fun g2=>?_)
   ·simp at g2
   try simp (maxSteps:=2000000) only [go_sem,hv,hget,hst,zJz]
   repeat with_reducible refine zAb ?_
   refine yHB rfl rfl rfl rfl (by decide) ?_
   try simp (maxSteps:=2000000) only [go_sem,hv,hget,hst,zJz]
   repeat with_reducible refine zAb ?_
   refine zAc (by rfl) trivial (fun g3=>?_) (fun g3=>?_)
   ·simp at g3
   try simp (maxSteps:=2000000) only [go_sem,hv,hget,hst,zJz]
   repeat with_reducible refine zAb ?_
   refine zAc (by rfl) trivial (fun g4=>?_) (fun g4=>?_)
   ·have hu0:0≤u:=by simpa using g4
    obtain ⟨q,rfl⟩:∃ q:Nat,u=q:=⟨u.toNat,by omega⟩
    have hqi:¬ q=i:=by omega
    have hql:q < d.length:=by omega
    have hgq:=fun g=>zCL hql g
    have hstq:stF d i q=zJz (if q < i then plc d q else 0) 0 (if q < i then ahd d q else 0) (zAX d q i) (zAN d q i).length:=rfl
    have hkl:=zGw (d:=d) (n:=q) i
    try simp (maxSteps:=2000000) only [go_sem,hgq,hqi,hstq,zJz]
    repeat with_reducible refine zAb ?_
    refine zAv (fun k:Int=>[(10,.pv (iv k)),(163,.ov (.one (.os (some bw) zB4 5 (zEi d.length (inF d i (q:Int) k))))),(107,.un)]) (fun k:Int=>(k+1).toNat) (fun k:Int=>-1≤k∧k < i∧(0≤k→k∈C d (q:Int))) ((q:Int)) ?_ ⟨by omega,by omega,fun _=>by rw [zJA d3 hql];exact List.mem_cons_self⟩ ?_
    focus (simp (maxSteps:=2000000) only [go_sem,zAf,zAl,zAz,zAg];all_goals (repeat' (first|exact trivial|exact zAm (by omega)|exact zAi rfl|exact zAx rfl|exact zAs|exact le_refl _|refine And.intro ?_ ?_)))
    ·refine zAx ?_
     congr 3
     refine zAZ fun j hj=>?_
     rw [zL2 d3 (by omega)]
     by_cases hjq:j=q
     ·subst hjq
      have hkj:zAN d j (i+1)=zAN d j i++[(i:Int)]:=by rw [zAY,if_pos hu.symm]
      rw [hkj,List.length_append]
      have e1:j < i:=by omega
      have e2:j < i+1:=by omega
      simp [zJz,e1,e2]
     ·rw [if_neg hjq]
      have hkj:zAN d j (i+1)=zAN d j i:=by rw [zAY,if_neg (by rw [←hu];omega)]
      rw [hkj]
      by_cases hji:j=i
      ·subst hji
       rw [if_pos rfl,if_pos (by omega),if_pos (by omega),hplc,hahd,hU,hK]
      ·simp only [if_neg hji,stF]
       have e:(j < i+1)↔(j < i):=by omega
       simp only [e]
    rintro k ⟨hk0,hki,hkc⟩
    try simp (maxSteps:=2000000) only [go_sem]
    repeat with_reducible refine zAb ?_
    refine zAc (by rfl) trivial (fun g5=>?_) (fun g5=>?_)
    ·have hk1:0≤k:=by simpa using g5
     obtain ⟨q2,rfl⟩:∃ q2:Nat,k=q2:=⟨k.toNat,by omega⟩
     have hql2:q2 < d.length:=by omega
     have hqu:=zBh d3 q2 hql2
     have hqv:=zBC d q2 hql2
     rw [ndV] at hqv
     have hgq:=fun g=>zCL hql2 g
     have hkq:=hkc hk1
     have hinq:inF d i (q:Int) q2 q2=zJz (if q2 < i+1 then plc d q2 else 0) 0 (if q2 < i+1 then ahd d q2 else 0) (zAX d q2 i+(if (C d (q:Int)).contains (q2:Int)&&decide ((q2:Int) < q2) then 1 else 0)) (zAN d q2 (i+1)).length:=rfl
     obtain ⟨V,hV⟩:∃ V,V=zAX d q2 i+(if (C d (q:Int)).contains (q2:Int)&&decide ((q2:Int) < q2) then 1 else 0):=⟨_,rfl⟩
     have hVb:0≤V∧V≤i+1:=by
      have:=zEl (d:=d) (n:=q2) i
      rw [hV];split<;>omega
     rw [←hV] at hinq
     have hinf:=zOI d3 (i:=i) (by omega:(q:Int) < d.length) hkq
     rw [←hV] at hinf
     try simp (maxSteps:=2000000) only [go_sem,hgq,hinq,zJz,hqv]
     repeat with_reducible refine zAb ?_
     refine ⟨zBc d q2,by omega,⟨by omega,by omega,fun h0=>?_⟩,?_⟩
     ·refine yHD d3 q hql hkq ?_
      rw [zJA d3 hql2]
      obtain ⟨v,hv2⟩:∃ v:Nat,zBc d q2=v:=⟨(zBc d q2).toNat,by omega⟩
      rw [hv2,zJA d3 (by omega:v < d.length)]
      exact List.mem_cons_of_mem _ (List.mem_cons_self)
     ·simp (maxSteps:=2000000) only [go_sem,zAf,zAl,zAz,zAg]
      all_goals (repeat' (first|exact trivial|exact zAm (by omega)|exact zAi rfl|exact zAx rfl|exact zAs|exact le_refl _|refine And.intro ?_ ?_))
      all_goals first|exact zAm rfl|skip
      refine zAx ?_
      congr 3
      refine zAZ fun j hj=>?_
      rw [hinf j]
    ·have hk1:k < 0:=by simp at g5;omega
     try simp (maxSteps:=2000000) only [go_sem]
     repeat with_reducible refine zAb ?_
     refine ⟨(i+1,yCd ml (q:Int) i),by simp only;omega,⟨by simp only;omega,fun w=>?_⟩,?_⟩
     ·simp only
      rw [zIO,hml w,zAY,←hu]
      by_cases hw:w=(q:Int)
      ·rw [if_pos hw,if_pos hw.symm];simp
      ·rw [if_neg hw,if_neg (Ne.symm hw)]
     ·simp (maxSteps:=2000000) only [go_sem,zAf,zAl,zAz,zAg]
      all_goals (repeat' (first|exact trivial|exact zAm (by omega)|exact zAi rfl|exact zAx rfl|exact zAs|exact le_refl _|refine And.intro ?_ ?_))
      refine zAx ?_
      congr 3
      exact zAZ fun j _=>zV4 hu hk1 j
   ·have hu0:u < 0:=by simp at g4;omega
    have hC:C d u=[]:=yFl d3 hu0
    try simp (maxSteps:=2000000) only [go_sem]
    repeat with_reducible refine zAb ?_
    refine zAv (fun k:Int=>[(10,.pv (iv k)),(163,.ov (.one (.os (some bw) zB4 5 (zEi d.length (inF d i u k))))),(107,.un)]) (fun k:Int=>(k+1).toNat) (fun k:Int=>-1≤k∧k < i∧(0≤k→k∈C d u)) (u) ?_ ⟨by omega,by omega,fun h=>by omega⟩ ?_
    focus (simp (maxSteps:=2000000) only [go_sem,zAf,zAl,zAz,zAg];all_goals (repeat' (first|exact trivial|exact zAm (by omega)|exact zAi rfl|exact zAx rfl|exact zAs|exact le_refl _|refine And.intro ?_ ?_)))
    ·refine zAx ?_
     congr 3
     refine zAZ fun j hj=>?_
     rw [zL2 d3 (by omega)]
     have hkj:zAN d j (i+1)=zAN d j i:=by rw [zAY,if_neg (by rw [←hu];omega)]
     rw [hkj]
     by_cases hji:j=i
     ·subst hji
      rw [if_pos rfl,if_pos (by omega),if_pos (by omega),hplc,hahd,hU,hK]
     ·simp only [if_neg hji,stF]
      have e:(j < i+1)↔(j < i):=by omega
      simp only [e]
    rintro k ⟨hk0,hki,hkc⟩
    try simp (maxSteps:=2000000) only [go_sem]
    repeat with_reducible refine zAb ?_
    refine zAc (by rfl) trivial (fun g5=>?_) (fun g5=>?_)
    ·have hk1:0≤k:=by simpa using g5
     obtain ⟨q2,rfl⟩:∃ q2:Nat,k=q2:=⟨k.toNat,by omega⟩
     have hql2:q2 < d.length:=by omega
     have hqu:=zBh d3 q2 hql2
     have hqv:=zBC d q2 hql2
     rw [ndV] at hqv
     have hgq:=fun g=>zCL hql2 g
     have hkq:=hkc hk1
     have hinq:inF d i u q2 q2=zJz (if q2 < i+1 then plc d q2 else 0) 0 (if q2 < i+1 then ahd d q2 else 0) (zAX d q2 i+(if (C d u).contains (q2:Int)&&decide ((q2:Int) < q2) then 1 else 0)) (zAN d q2 (i+1)).length:=rfl
     obtain ⟨V,hV⟩:∃ V,V=zAX d q2 i+(if (C d u).contains (q2:Int)&&decide ((q2:Int) < q2) then 1 else 0):=⟨_,rfl⟩
     have hVb:0≤V∧V≤i+1:=by
      have:=zEl (d:=d) (n:=q2) i
      rw [hV];split<;>omega
     rw [←hV] at hinq
     have hinf:=zOI d3 (i:=i) (by omega:u < d.length) hkq
     rw [←hV] at hinf
     try simp (maxSteps:=2000000) only [go_sem,hgq,hinq,zJz,hqv]
     repeat with_reducible refine zAb ?_
     refine ⟨zBc d q2,by omega,⟨by omega,by omega,fun h0=>?_⟩,?_⟩
     ·rw [hC] at hkq;cases hkq
     ·simp (maxSteps:=2000000) only [go_sem,zAf,zAl,zAz,zAg]
      all_goals (repeat' (first|exact trivial|exact zAm (by omega)|exact zAi rfl|exact zAx rfl|exact zAs|exact le_refl _|refine And.intro ?_ ?_))
      all_goals first|exact zAm rfl|skip
      refine zAx ?_
      congr 3
      refine zAZ fun j hj=>?_
      rw [hinf j]
    ·have hk1:k < 0:=by simp at g5;omega
     try simp (maxSteps:=2000000) only [go_sem]
     repeat with_reducible refine zAb ?_
     refine ⟨(i+1,yCd ml u i),by simp only;omega,⟨by simp only;omega,fun w=>?_⟩,?_⟩
     ·simp only
      rw [zIO,hml w,zAY,←hu]
      by_cases hw:w=u
      ·rw [if_pos hw,if_pos hw.symm];simp
      ·rw [if_neg hw,if_neg (Ne.symm hw)]
     ·simp (maxSteps:=2000000) only [go_sem,zAf,zAl,zAz,zAg]
      all_goals (repeat' (first|exact trivial|exact zAm (by omega)|exact zAi rfl|exact zAx rfl|exact zAs|exact le_refl _|refine And.intro ?_ ?_))
      refine zAx ?_
      congr 3
      exact zAZ fun j _=>zV4 hu hk1 j
  |some p=>
   rw [hlast] at hgi
   obtain ⟨m,hmi,rfl,hmu,hkm⟩:=zGy hlast
   have hahd:ahd d i=m:=by rw [ahd,←hu,hlast];rfl
   have hplc:plc d i=plc d m+1:=by
    rw [plc,←hu,hkm,plc,hmu,List.length_append]
    simp
   have hml2:m < d.length:=by omega
   have hmi':¬ m=i:=by omega
   have hgm:=fun g=>zCL hml2 g
   have hstm:stF d i m=zJz (plc d m) 0 (ahd d m) (zAX d m i) (zAN d m i).length:=by simp [stF,hmi]
   have hplb:1≤plc d m∧plc d m≤65:=by
    have:=zGw (d:=d) (n:=zBc d m) m
    rw [plc];omega
   try simp (maxSteps:=2000000) only [go_sem,hgi,Option.isSome_some,Option.getD_some]
   repeat with_reducible refine zAb ?_
   refine zAc (by rfl) trivial (fun g2=>?_) (fun g2=>?_)
   ·try simp (maxSteps:=2000000) only [go_sem,hv,hget,hst,zJz]
    repeat with_reducible refine zAb ?_
    refine yHB rfl rfl rfl rfl (by decide) ?_
    try simp (maxSteps:=2000000) only [go_sem,hv,hget,hst,zJz]
    repeat with_reducible refine zAb ?_
    refine zAc (by rfl) trivial (fun g3=>?_) (fun g3=>?_)
    ·try simp (maxSteps:=2000000) only [go_sem,hv,hget,hst,zJz,hgm,hmi',hstm,Int.toNat_natCast]
     repeat with_reducible refine zAb ?_
     refine zAc (by rfl) trivial (fun g4=>?_) (fun g4=>?_)
     ·have hu0:0≤u:=by simpa using g4
      obtain ⟨q,rfl⟩:∃ q:Nat,u=q:=⟨u.toNat,by omega⟩
      have hqi:¬ q=i:=by omega
      have hql:q < d.length:=by omega
      have hgq:=fun g=>zCL hql g
      have hstq:stF d i q=zJz (if q < i then plc d q else 0) 0 (if q < i then ahd d q else 0) (zAX d q i) (zAN d q i).length:=rfl
      have hkl:=zGw (d:=d) (n:=q) i
      try simp (maxSteps:=2000000) only [go_sem,hgq,hqi,hstq,zJz]
      repeat with_reducible refine zAb ?_
      refine zAv (fun k:Int=>[(10,.pv (iv k)),(163,.ov (.one (.os (some bw) zB4 5 (zEi d.length (inF d i (q:Int) k))))),(107,.un)]) (fun k:Int=>(k+1).toNat) (fun k:Int=>-1≤k∧k < i∧(0≤k→k∈C d (q:Int))) ((q:Int)) ?_ ⟨by omega,by omega,fun _=>by rw [zJA d3 hql];exact List.mem_cons_self⟩ ?_
      focus (simp (maxSteps:=2000000) only [go_sem,zAf,zAl,zAz,zAg];all_goals (repeat' (first|exact trivial|exact zAm (by omega)|exact zAi rfl|exact zAx rfl|exact zAs|exact le_refl _|refine And.intro ?_ ?_)))
      ·refine zAx ?_
       congr 3
       refine zAZ fun j hj=>?_
       rw [zL2 d3 (by omega)]
       by_cases hjq:j=q
       ·subst hjq
        have hkj:zAN d j (i+1)=zAN d j i++[(i:Int)]:=by rw [zAY,if_pos hu.symm]
        rw [hkj,List.length_append]
        have e1:j < i:=by omega
        have e2:j < i+1:=by omega
        simp [zJz,e1,e2]
       ·rw [if_neg hjq]
        have hkj:zAN d j (i+1)=zAN d j i:=by rw [zAY,if_neg (by rw [←hu];omega)]
        rw [hkj]
        by_cases hji:j=i
        ·subst hji
         rw [if_pos rfl,if_pos (by omega),if_pos (by omega),hplc,hahd,hU,hK]
        ·simp only [if_neg hji,stF]
         have e:(j < i+1)↔(j < i):=by omega
         simp only [e]
      rintro k ⟨hk0,hki,hkc⟩
      try simp (maxSteps:=2000000) only [go_sem]
      repeat with_reducible refine zAb ?_
      refine zAc (by rfl) trivial (fun g5=>?_) (fun g5=>?_)
      ·have hk1:0≤k:=by simpa using g5
       obtain ⟨q2,rfl⟩:∃ q2:Nat,k=q2:=⟨k.toNat,by omega⟩
       have hql2:q2 < d.length:=by omega
       have hqu:=zBh d3 q2 hql2
       have hqv:=zBC d q2 hql2
       rw [ndV] at hqv
       have hgq:=fun g=>zCL hql2 g
       have hkq:=hkc hk1
       have hinq:inF d i (q:Int) q2 q2=zJz (if q2 < i+1 then plc d q2 else 0) 0 (if q2 < i+1 then ahd d q2 else 0) (zAX d q2 i+(if (C d (q:Int)).contains (q2:Int)&&decide ((q2:Int) < q2) then 1 else 0)) (zAN d q2 (i+1)).length:=rfl
       obtain ⟨V,hV⟩:∃ V,V=zAX d q2 i+(if (C d (q:Int)).contains (q2:Int)&&decide ((q2:Int) < q2) then 1 else 0):=⟨_,rfl⟩
       have hVb:0≤V∧V≤i+1:=by
        have:=zEl (d:=d) (n:=q2) i
        rw [hV];split<;>omega
       rw [←hV] at hinq
       have hinf:=zOI d3 (i:=i) (by omega:(q:Int) < d.length) hkq
       rw [←hV] at hinf
       try simp (maxSteps:=2000000) only [go_sem,hgq,hinq,zJz,hqv]
       repeat with_reducible refine zAb ?_
       refine ⟨zBc d q2,by omega,⟨by omega,by omega,fun h0=>?_⟩,?_⟩
       ·refine yHD d3 q hql hkq ?_
        rw [zJA d3 hql2]
        obtain ⟨v,hv2⟩:∃ v:Nat,zBc d q2=v:=⟨(zBc d q2).toNat,by omega⟩
        rw [hv2,zJA d3 (by omega:v < d.length)]
        exact List.mem_cons_of_mem _ (List.mem_cons_self)
       ·simp (maxSteps:=2000000) only [go_sem,zAf,zAl,zAz,zAg]
        all_goals (repeat' (first|exact trivial|exact zAm (by omega)|exact zAi rfl|exact zAx rfl|exact zAs|exact le_refl _|refine And.intro ?_ ?_))
        all_goals first|exact zAm rfl|skip
        refine zAx ?_
        congr 3
        refine zAZ fun j hj=>?_
        rw [hinf j]
      ·have hk1:k < 0:=by simp at g5;omega
       try simp (maxSteps:=2000000) only [go_sem]
       repeat with_reducible refine zAb ?_
       refine ⟨(i+1,yCd ml (q:Int) i),by simp only;omega,⟨by simp only;omega,fun w=>?_⟩,?_⟩
       ·simp only
        rw [zIO,hml w,zAY,←hu]
        by_cases hw:w=(q:Int)
        ·rw [if_pos hw,if_pos hw.symm];simp
        ·rw [if_neg hw,if_neg (Ne.symm hw)]
       ·simp (maxSteps:=2000000) only [go_sem,zAf,zAl,zAz,zAg]
        all_goals (repeat' (first|exact trivial|exact zAm (by omega)|exact zAi rfl|exact zAx rfl|exact zAs|exact le_refl _|refine And.intro ?_ ?_))
        refine zAx ?_
        congr 3
        exact zAZ fun j _=>zV4 hu hk1 j
     ·have hu0:u < 0:=by simp at g4;omega
      have hC:C d u=[]:=yFl d3 hu0
      try simp (maxSteps:=2000000) only [go_sem]
      repeat with_reducible refine zAb ?_
      refine zAv (fun k:Int=>[(10,.pv (iv k)),(163,.ov (.one (.os (some bw) zB4 5 (zEi d.length (inF d i u k))))),(107,.un)]) (fun k:Int=>(k+1).toNat) (fun k:Int=>-1≤k∧k < i∧(0≤k→k∈C d u)) (u) ?_ ⟨by omega,by omega,fun h=>by omega⟩ ?_
      focus (simp (maxSteps:=2000000) only [go_sem,zAf,zAl,zAz,zAg];all_goals (repeat' (first|exact trivial|exact zAm (by omega)|exact zAi rfl|exact zAx rfl|exact zAs|exact le_refl _|refine And.intro ?_ ?_)))
      ·refine zAx ?_
       congr 3
       refine zAZ fun j hj=>?_
       rw [zL2 d3 (by omega)]
       have hkj:zAN d j (i+1)=zAN d j i:=by rw [zAY,if_neg (by rw [←hu];omega)]
       rw [hkj]
       by_cases hji:j=i
       ·subst hji
        rw [if_pos rfl,if_pos (by omega),if_pos (by omega),hplc,hahd,hU,hK]
       ·simp only [if_neg hji,stF]
        have e:(j < i+1)↔(j < i):=by omega
        simp only [e]
      rintro k ⟨hk0,hki,hkc⟩
      try simp (maxSteps:=2000000) only [go_sem]
      repeat with_reducible refine zAb ?_
      refine zAc (by rfl) trivial (fun g5=>?_) (fun g5=>?_)
      ·have hk1:0≤k:=by simpa using g5
       obtain ⟨q2,rfl⟩:∃ q2:Nat,k=q2:=⟨k.toNat,by omega⟩
       have hql2:q2 < d.length:=by omega
       have hqu:=zBh d3 q2 hql2
       have hqv:=zBC d q2 hql2
       rw [ndV] at hqv
       have hgq:=fun g=>zCL hql2 g
       have hkq:=hkc hk1
       have hinq:inF d i u q2 q2=zJz (if q2 < i+1 then plc d q2 else 0) 0 (if q2 < i+1 then ahd d q2 else 0) (zAX d q2 i+(if (C d u).contains (q2:Int)&&decide ((q2:Int) < q2) then 1 else 0)) (zAN d q2 (i+1)).length:=rfl
       obtain ⟨V,hV⟩:∃ V,V=zAX d q2 i+(if (C d u).contains (q2:Int)&&decide ((q2:Int) < q2) then 1 else 0):=⟨_,rfl⟩
       have hVb:0≤V∧V≤i+1:=by
        have:=zEl (d:=d) (n:=q2) i
        rw [hV];split<;>omega
       rw [←hV] at hinq
       have hinf:=zOI d3 (i:=i) (by omega:u < d.length) hkq
       rw [←hV] at hinf
       try simp (maxSteps:=2000000) only [go_sem,hgq,hinq,zJz,hqv]
       repeat with_reducible refine zAb ?_
       refine ⟨zBc d q2,by omega,⟨by omega,by omega,fun h0=>?_⟩,?_⟩
       ·rw [hC] at hkq;cases hkq
       ·simp (maxSteps:=2000000) only [go_sem,zAf,zAl,zAz,zAg]
        all_goals (repeat' (first|exact trivial|exact zAm (by omega)|exact zAi rfl|exact zAx rfl|exact zAs|exact le_refl _|refine And.intro ?_ ?_))
        all_goals first|exact zAm rfl|skip
        refine zAx ?_
        congr 3
        refine zAZ fun j hj=>?_
        rw [hinf j]
      ·have hk1:k < 0:=by simp at g5;omega
       try simp (maxSteps:=2000000) only [go_sem]
       repeat with_reducible refine zAb ?_
       refine ⟨(i+1,yCd ml u i),by simp only;omega,⟨by simp only;omega,fun w=>?_⟩,?_⟩
       ·simp only
        rw [zIO,hml w,zAY,←hu]
        by_cases hw:w=u
        ·rw [if_pos hw,if_pos hw.symm];simp
        ·rw [if_neg hw,if_neg (Ne.symm hw)]
       ·simp (maxSteps:=2000000) only [go_sem,zAf,zAl,zAz,zAg]
        all_goals (repeat' (first|exact trivial|exact zAm (by omega)|exact zAi rfl|exact zAx rfl|exact zAs|exact le_refl _|refine And.intro ?_ ?_))
        refine zAx ?_
        congr 3
        exact zAZ fun j _=>zV4 hu hk1 j
    ·exact absurd g3 (by simp)
   ·simp at g2
 have hi2:i=d.length:=by simp at g1;omega
 subst hi2
 rw [yDF]
 try simp (maxSteps:=2000000) only [go_sem]
 repeat with_reducible refine zAb ?_
 refine zAv (fun i:Nat=>[(129,.pv (iv i)),(163,.ov (.one (.os (some bw) zB4 5 (zEi d.length (fiF d i))))),(11,.un),(12,.un),(130,.un),(143,.un),(169,.un),(170,.un),(171,.un),(172,.un),(173,.un)]) (fun i:Nat=>d.length-i) (fun i:Nat=>i≤d.length) (0) ?_ (Nat.zero_le _) ?_
 focus (simp (maxSteps:=2000000) only [go_sem,zAf,zAl,zAz,zAg];all_goals (repeat' (first|exact trivial|exact zAm (by omega)|exact zAi rfl|exact zAx rfl|exact zAs|exact le_refl _|refine And.intro ?_ ?_)))
 intro i hi
 try simp (maxSteps:=2000000) only [go_sem]
 repeat with_reducible refine zAb ?_
 refine zAc (by rfl) trivial (fun g6=>?_) (fun g6=>?_)
 ·have hil:i < d.length:=by simpa using g6
  have hv:=zBC d i hil
  rw [ndV] at hv
  obtain ⟨u,hu⟩:∃ u,u=zBc d i:=⟨_,rfl⟩
  have hup:(d.getD i default).up=u:=hu.symm
  rw [hup] at hv
  have hub:=zBh d3 i hil
  rw [←hu] at hub
  have hget:=fun g=>zCL hil g
  have hst:fiF d i i=zJz (plc d i) 0 (ahd d i) (zCG d i) (zIA d i).length:=by simp [fiF]
  try simp (maxSteps:=2000000) only [go_sem,hv,hget,hst,zJz]
  repeat with_reducible refine zAb ?_
  refine zAc (by rfl) trivial (fun g7=>?_) (fun g7=>?_)
  ·have hu0:0≤u:=by simpa using g7
   obtain ⟨q,rfl⟩:∃ q:Nat,u=q:=⟨u.toNat,by omega⟩
   have hqi:¬ q=i:=by omega
   have hql:q < d.length:=by omega
   have hgq:=fun g=>zCL hql g
   have hstq:fiF d i q=zJz (plc d q) (if q < i then ofN d q else 0) (ahd d q) (zCG d q) (zIA d q).length:=rfl
   try simp (maxSteps:=2000000) only [go_sem,hgq,hqi,hstq,hget,hst,zJz]
   repeat with_reducible refine zAb ?_
   refine ⟨i+1,by omega,by omega,?_⟩
   simp (maxSteps:=2000000) only [go_sem,zAf,zAl,zAz,zAg]
   all_goals (repeat' (first|exact trivial|exact zAm (by omega)|exact zAi rfl|exact zAx rfl|exact zAs|exact le_refl _|refine And.intro ?_ ?_))
   refine zAx ?_
   congr 3
   refine zAZ fun j hj=>?_
   by_cases hji:j=i
   ·subst hji
    simp [fiF,ofN,←hu]
   ·have e:(j < i+1)↔(j < i):=by omega
    simp [fiF,hji,e]
  ·have hu0:¬ 0≤u:=by simpa using g7
   try simp (maxSteps:=2000000) only [go_sem]
   repeat with_reducible refine zAb ?_
   refine ⟨i+1,by omega,by omega,?_⟩
   simp (maxSteps:=2000000) only [go_sem,zAf,zAl,zAz,zAg]
   all_goals (repeat' (first|exact trivial|exact zAm (by omega)|exact zAi rfl|exact zAx rfl|exact zAs|exact le_refl _|refine And.intro ?_ ?_))
   refine zAx ?_
   congr 3
   refine zAZ fun j hj=>?_
   by_cases hji:j=i
   ·subst hji
    have hu1:¬ 0≤zBc d j:=by rw [←hu];exact hu0
    simp [fiF,ofN,hu1]
   ·have e:(j < i+1)↔(j < i):=by omega
    simp [fiF,hji,e]
 ·have hi2:i=d.length:=by simp at g6;omega
  subst hi2
  have hfz:=fun b e=>yFm d b e
  try simp (maxSteps:=2000000) only [go_sem,hfz]
  repeat with_reducible refine zAb ?_
  exact zAd rfl trivial (.inl rfl)
end Go.Hx
end

section
set_option maxRecDepth 100000
set_option linter.unusedSimpArgs false
set_option maxHeartbeats 2000000
namespace Go.Hx
open Go.Proofs
variable [Glob] [GlobL]
attribute [local go_sem] zAt zAp zAn zAj ndV zAq zAk zBD zA7 zBt zBs
attribute [local go_sem] reduceCtorEq Nat.reduceAdd Nat.reduceEqDiff reduceIte Nat.reduceLeDiff Nat.reduceLT Nat.reduceSub
def zX2 {α:Type} (p:α→Bool) (l:List α):Int:=if l.any p then (l.findIdx p:Int) else -1
theorem zV5 {α:Type} (p:α→Bool) (l:List α):decide (0≤zX2 p l)=l.any p:=by
 unfold zX2
 cases h:l.any p<;>simp
theorem zL3 {α:Type} {d:α} {p:α→Bool} {l:List α} (h:∀ k,k < l.length→p (l.getD k d)=false):zX2 p l=-1:=by
 unfold zX2
 have:l.any p=false:=by
  rw [List.any_eq_false]
  intro x hx
  obtain ⟨k,hk,rfl⟩:=List.getElem_of_mem hx
  have:=h k hk
  simp [hk] at this
  simp [this]
 rw [this];rfl
theorem zL4 {α:Type} {d:α} {p:α→Bool} {l:List α} {i:Nat} (hi:i < l.length) (h1:p (l.getD i d)=true) (h:∀ k,k < i→p (l.getD k d)=false):zX2 p l=i:=by
 unfold zX2
 have h2:p l[i]=true:=by simpa [hi] using h1
 have:l.any p=true:=List.any_eq_true.2 ⟨l[i],List.getElem_mem hi,h2⟩
 rw [if_pos this,(List.findIdx_eq hi).2 ⟨h2,fun j hj=>by have:=h j hj;simpa [show j < l.length by omega] using this⟩]
theorem zZ1 (f:Nat) (caps:List PV) (l:List Pt) (p:Pt→Bool) (h:∀ i,i < l.length→Contract Tryz.prog f ([.val (.agg [.sl 2 (yC5 (l.getD i default).steps),.sl 1 (zAS (l.getD i default).links)])]++caps.map fun c=>.val (.one c)) {res:=.val (bv (p (l.getD i default)))}):
  Contract Tryz.prog zBY [.val (.one (.sl 2 (yBF l))),.val (.one (.clo f caps))] {res:=.val (iv (zX2 p l))}:=by
 refine mkA zGg (base:=0) (fo rfl) (fun hfit=>?_)
 unfold F0 zDp
 simp (maxSteps:=2000000) only [zAJ,List.set_cons_succ,List.set_cons_zero,List.map_cons,List.map_nil,zAH,zAa,ioOf,List.length_cons,List.length_nil,Nat.reduceAdd,Nat.reduceSub,List.replicate,List.cons_append,List.nil_append]
 try simp (maxSteps:=2000000) only [go_sem]
 repeat with_reducible refine zAb ?_
 have ha:=zDg (k:=2) hfit.1
 rw [zA7] at ha
 refine zAv (fun i:Nat=>[(8,.pv (iv i)),(4,.un),(5,.un),(9,.un),(16,.un)]) (fun i:Nat=>l.length-i) (fun i:Nat=>i≤l.length∧∀ k,k < i→p (l.getD k default)=false) (0) ?_ ⟨Nat.zero_le _,fun k hk=>by omega⟩ ?_
 focus (simp (maxSteps:=2000000) only [go_sem,zAf,zAl,zAz,zAg];all_goals (repeat' (first|exact trivial|exact zAm (by omega)|exact zAi rfl|exact zAx rfl|exact zAs|exact le_refl _|refine And.intro ?_ ?_)))
 rintro i ⟨hi,hinv⟩
 try simp (maxSteps:=2000000) only [go_sem]
 repeat with_reducible refine zAb ?_
 refine zAc (by rfl) trivial (fun h2=>?_) (fun h2=>?_)
 ·have hil:i < l.length:=by simp at h2;omega
  have e1:=zUb l i hil
  rw [zHB] at e1
  have hc:=h i hil
  try simp (maxSteps:=2000000) only [go_sem,e1]
  repeat with_reducible refine zAb ?_
  refine zDf (by rfl) trivial (by repeat' constructor) (hc) ?_
  try simp (maxSteps:=2000000) only [go_sem]
  repeat with_reducible refine zAb ?_
  refine zAc (by rfl) trivial (fun h3=>?_) (fun h3=>?_)
  ·try simp (maxSteps:=2000000) only [go_sem]
   repeat with_reducible refine zAb ?_
   refine zAd rfl trivial (.inl ?_)
   congr 3
   exact zL4 hil h3 hinv
  ·try simp (maxSteps:=2000000) only [go_sem]
   repeat with_reducible refine zAb ?_
   refine ⟨i+1,by omega,⟨by omega,fun k hk=>?_⟩,?_⟩
   ·by_cases e:k=i
    ·rw [e];exact h3
    ·exact hinv k (by omega)
   ·simp (maxSteps:=2000000) only [go_sem,zAf,zAl,zAz,zAg]
    all_goals (repeat' (first|exact trivial|exact zAm (by omega)|exact zAi rfl|exact zAx rfl|exact zAs|exact le_refl _|refine And.intro ?_ ?_))
 ·have hil:i=l.length:=by simp at h2;omega
  try simp (maxSteps:=2000000) only [go_sem]
  repeat with_reducible refine zAb ?_
  refine zAd rfl trivial (.inl ?_)
  congr 3
  exact zL3 fun k hk=>hinv k (by omega)
theorem zZ2 (f:Nat) (caps:List PV) (l:List Pt) (p:Pt→Bool) (h:∀ i,i < l.length→Contract Tryz.prog f ([.val (.agg [.sl 2 (yC5 (l.getD i default).steps),.sl 1 (zAS (l.getD i default).links)])]++caps.map fun c=>.val (.one c)) {res:=.val (bv (p (l.getD i default)))}):
  Contract Tryz.prog zBA [.val (.one (.sl 2 (yBF l))),.val (.one (.clo f caps))] {res:=.val (bv (l.any p))}:=by
 refine mkA zEK (base:=0) (fo rfl) (fun hfit=>?_)
 unfold F0 zCz
 simp (maxSteps:=2000000) only [zAJ,List.set_cons_succ,List.set_cons_zero,List.map_cons,List.map_nil,zAH,zAa,ioOf,List.length_cons,List.length_nil,Nat.reduceAdd,Nat.reduceSub,List.replicate,List.cons_append,List.nil_append]
 try simp (maxSteps:=2000000) only [go_sem]
 repeat with_reducible refine zAb ?_
 refine zAw (by repeat' constructor) (zZ1 f caps l p h) ?_
 try simp (maxSteps:=2000000) only [go_sem]
 repeat with_reducible refine zAb ?_
 refine zAd rfl trivial (.inl ?_)
 congr 3
 rw [←zV5]
theorem zZ3 (f:Nat) (caps:List PV) (l:List Ts) (p:Ts→Bool) (h:∀ i,i < l.length→Contract Tryz.prog f ([.val (.agg [bI (l.getD i default).kind,bS (l.getD i default).name,bS (l.getD i default).value,bI (l.getD i default).na,bI (l.getD i default).nb,.sl 2 (yBF (l.getD i default).list)])]++caps.map fun c=>.val (.one c)) {res:=.val (bv (p (l.getD i default)))}):
  Contract Tryz.prog zBZ [.val (.one (.sl 6 (yD6 l))),.val (.one (.clo f caps))] {res:=.val (iv (zX2 p l))}:=by
 refine mkA zGq (base:=0) (fo rfl) (fun hfit=>?_)
 unfold F0 zDq
 simp (maxSteps:=2000000) only [zAJ,List.set_cons_succ,List.set_cons_zero,List.map_cons,List.map_nil,zAH,zAa,ioOf,List.length_cons,List.length_nil,Nat.reduceAdd,Nat.reduceSub,List.replicate,List.cons_append,List.nil_append]
 try simp (maxSteps:=2000000) only [go_sem]
 repeat with_reducible refine zAb ?_
 have ha:=zDg (k:=6) hfit.1
 rw [zBs] at ha
 refine zAv (fun i:Nat=>[(8,.pv (iv i)),(4,.un),(5,.un),(9,.un),(16,.un)]) (fun i:Nat=>l.length-i) (fun i:Nat=>i≤l.length∧∀ k,k < i→p (l.getD k default)=false) (0) ?_ ⟨Nat.zero_le _,fun k hk=>by omega⟩ ?_
 focus (simp (maxSteps:=2000000) only [go_sem,zAf,zAl,zAz,zAg];all_goals (repeat' (first|exact trivial|exact zAm (by omega)|exact zAi rfl|exact zAx rfl|exact zAs|exact le_refl _|refine And.intro ?_ ?_)))
 rintro i ⟨hi,hinv⟩
 try simp (maxSteps:=2000000) only [go_sem]
 repeat with_reducible refine zAb ?_
 refine zAc (by rfl) trivial (fun h2=>?_) (fun h2=>?_)
 ·have hil:i < l.length:=by simp at h2;omega
  have e1:=zT9 l i hil
  rw [zND] at e1
  have hc:=h i hil
  try simp (maxSteps:=2000000) only [go_sem,e1]
  repeat with_reducible refine zAb ?_
  refine zDf (by rfl) trivial (by repeat' constructor) (hc) ?_
  try simp (maxSteps:=2000000) only [go_sem]
  repeat with_reducible refine zAb ?_
  refine zAc (by rfl) trivial (fun h3=>?_) (fun h3=>?_)
  ·try simp (maxSteps:=2000000) only [go_sem]
   repeat with_reducible refine zAb ?_
   refine zAd rfl trivial (.inl ?_)
   congr 3
   exact zL4 hil h3 hinv
  ·try simp (maxSteps:=2000000) only [go_sem]
   repeat with_reducible refine zAb ?_
   refine ⟨i+1,by omega,⟨by omega,fun k hk=>?_⟩,?_⟩
   ·by_cases e:k=i
    ·rw [e];exact h3
    ·exact hinv k (by omega)
   ·simp (maxSteps:=2000000) only [go_sem,zAf,zAl,zAz,zAg]
    all_goals (repeat' (first|exact trivial|exact zAm (by omega)|exact zAi rfl|exact zAx rfl|exact zAs|exact le_refl _|refine And.intro ?_ ?_))
 ·have hil:i=l.length:=by simp at h2;omega
  try simp (maxSteps:=2000000) only [go_sem]
  repeat with_reducible refine zAb ?_
  refine zAd rfl trivial (.inl ?_)
  congr 3
  exact zL3 fun k hk=>hinv k (by omega)
theorem zZ4 (f:Nat) (caps:List PV) (l:List Ts) (p:Ts→Bool) (h:∀ i,i < l.length→Contract Tryz.prog f ([.val (.agg [bI (l.getD i default).kind,bS (l.getD i default).name,bS (l.getD i default).value,bI (l.getD i default).na,bI (l.getD i default).nb,.sl 2 (yBF (l.getD i default).list)])]++caps.map fun c=>.val (.one c)) {res:=.val (bv (p (l.getD i default)))}):
  Contract Tryz.prog zBB [.val (.one (.sl 6 (yD6 l))),.val (.one (.clo f caps))] {res:=.val (bv (l.any p))}:=by
 refine mkA zEN (base:=0) (fo rfl) (fun hfit=>?_)
 unfold F0 zCA
 simp (maxSteps:=2000000) only [zAJ,List.set_cons_succ,List.set_cons_zero,List.map_cons,List.map_nil,zAH,zAa,ioOf,List.length_cons,List.length_nil,Nat.reduceAdd,Nat.reduceSub,List.replicate,List.cons_append,List.nil_append]
 try simp (maxSteps:=2000000) only [go_sem]
 repeat with_reducible refine zAb ?_
 refine zAw (by repeat' constructor) (zZ3 f caps l p h) ?_
 try simp (maxSteps:=2000000) only [go_sem]
 repeat with_reducible refine zAb ?_
 refine zAd rfl trivial (.inl ?_)
 congr 3
 rw [←zV5]
theorem zZ5 (f:Nat) (caps:List PV) (l:List (Bys×Bys)) (p:Bys×Bys→Bool) (h:∀ i,i < l.length→Contract Tryz.prog f ([.val (.agg [bS (l.getD i default).1,bS (l.getD i default).2])]++caps.map fun c=>.val (.one c)) {res:=.val (bv (p (l.getD i default)))}):
  Contract Tryz.prog zA2 [.val (.one (.sl 2 (yAO l))),.val (.one (.clo f caps))] {res:=.val (iv (zX2 p l))}:=by
 refine mkA zC1 (base:=0) (fo rfl) (fun hfit=>?_)
 unfold F0 zB3
 simp (maxSteps:=2000000) only [zAJ,List.set_cons_succ,List.set_cons_zero,List.map_cons,List.map_nil,zAH,zAa,ioOf,List.length_cons,List.length_nil,Nat.reduceAdd,Nat.reduceSub,List.replicate,List.cons_append,List.nil_append]
 try simp (maxSteps:=2000000) only [go_sem]
 repeat with_reducible refine zAb ?_
 have ha:=zDg (k:=2) hfit.1
 rw [zAn] at ha
 refine zAv (fun i:Nat=>[(8,.pv (iv i)),(4,.un),(5,.un),(9,.un),(16,.un)]) (fun i:Nat=>l.length-i) (fun i:Nat=>i≤l.length∧∀ k,k < i→p (l.getD k default)=false) (0) ?_ ⟨Nat.zero_le _,fun k hk=>by omega⟩ ?_
 focus (simp (maxSteps:=2000000) only [go_sem,zAf,zAl,zAz,zAg];all_goals (repeat' (first|exact trivial|exact zAm (by omega)|exact zAi rfl|exact zAx rfl|exact zAs|exact le_refl _|refine And.intro ?_ ?_)))
 rintro i ⟨hi,hinv⟩
 try simp (maxSteps:=2000000) only [go_sem]
 repeat with_reducible refine zAb ?_
 refine zAc (by rfl) trivial (fun h2=>?_) (fun h2=>?_)
 ·have hil:i < l.length:=by simp at h2;omega
  have e1:=zE6 l i hil
  have hc:=h i hil
  try simp (maxSteps:=2000000) only [go_sem,e1]
  repeat with_reducible refine zAb ?_
  refine zDf (by rfl) trivial (by repeat' constructor) (hc) ?_
  try simp (maxSteps:=2000000) only [go_sem]
  repeat with_reducible refine zAb ?_
  refine zAc (by rfl) trivial (fun h3=>?_) (fun h3=>?_)
  ·try simp (maxSteps:=2000000) only [go_sem]
   repeat with_reducible refine zAb ?_
   refine zAd rfl trivial (.inl ?_)
   congr 3
   exact zL4 hil h3 hinv
  ·try simp (maxSteps:=2000000) only [go_sem]
   repeat with_reducible refine zAb ?_
   refine ⟨i+1,by omega,⟨by omega,fun k hk=>?_⟩,?_⟩
   ·by_cases e:k=i
    ·rw [e];exact h3
    ·exact hinv k (by omega)
   ·simp (maxSteps:=2000000) only [go_sem,zAf,zAl,zAz,zAg]
    all_goals (repeat' (first|exact trivial|exact zAm (by omega)|exact zAi rfl|exact zAx rfl|exact zAs|exact le_refl _|refine And.intro ?_ ?_))
 ·have hil:i=l.length:=by simp at h2;omega
  try simp (maxSteps:=2000000) only [go_sem]
  repeat with_reducible refine zAb ?_
  refine zAd rfl trivial (.inl ?_)
  congr 3
  exact zL3 fun k hk=>hinv k (by omega)
theorem zSA (l:List Bys) (s:Bys):Contract Tryz.prog zCf [.val (.one (.sl 1 (zRd l))),.val (sv s)] {res:=.val (iv (zX2 (fun c=>decide (c=s)) l))}:=by
 refine mkA zHi (base:=0) (fo rfl) (fun hfit=>?_)
 unfold F0 zDV
 simp (maxSteps:=2000000) only [zAJ,List.set_cons_succ,List.set_cons_zero,List.map_cons,List.map_nil,zAH,zAa,ioOf,List.length_cons,List.length_nil,Nat.reduceAdd,Nat.reduceSub,List.replicate,List.cons_append,List.nil_append]
 try simp (maxSteps:=2000000) only [go_sem]
 repeat with_reducible refine zAb ?_
 have ha:=zDg (k:=1) hfit.1
 rw [zAp] at ha
 refine zAv (fun i:Nat=>[(8,.pv (iv i)),(4,.un),(5,.un),(9,.un),(16,.un)]) (fun i:Nat=>l.length-i) (fun i:Nat=>i≤l.length∧∀ k,k < i→(fun c=>decide (c=s)) (l.getD k [])=false) (0) ?_ ⟨Nat.zero_le _,fun k hk=>by omega⟩ ?_
 focus (simp (maxSteps:=2000000) only [go_sem,zAf,zAl,zAz,zAg];all_goals (repeat' (first|exact trivial|exact zAm (by omega)|exact zAi rfl|exact zAx rfl|exact zAs|exact le_refl _|refine And.intro ?_ ?_)))
 rintro i ⟨hi,hinv⟩
 try simp (maxSteps:=2000000) only [go_sem]
 repeat with_reducible refine zAb ?_
 refine zAc (by rfl) trivial (fun h2=>?_) (fun h2=>?_)
 ·have hil:i < l.length:=by simp at h2;omega
  have e1:=zGJ l i hil
  try simp (maxSteps:=2000000) only [go_sem,e1]
  repeat with_reducible refine zAb ?_
  refine zAc (by rfl) trivial (fun h3=>?_) (fun h3=>?_)
  ·try simp (maxSteps:=2000000) only [go_sem]
   repeat with_reducible refine zAb ?_
   refine zAd rfl trivial (.inl ?_)
   congr 3
   have h4:l.getD i []=s:=(by simpa using h3:s=l.getD i []).symm
   exact zL4 (p:=fun c=>decide (c=s)) (d:=[]) hil (decide_eq_true h4) hinv
  ·try simp (maxSteps:=2000000) only [go_sem]
   repeat with_reducible refine zAb ?_
   have h4:¬ l.getD i []=s:=fun e=>(by simpa using h3:¬ s=l.getD i []) e.symm
   refine ⟨i+1,by omega,⟨by omega,fun k hk=>?_⟩,?_⟩
   ·by_cases e:k=i
    ·rw [e];first|exact h4|exact decide_eq_false h4
    ·first|exact hinv k (by omega)|exact of_decide_eq_false (hinv k (by omega))
   ·simp (maxSteps:=2000000) only [go_sem,zAf,zAl,zAz,zAg]
    all_goals (repeat' (first|exact trivial|exact zAm (by omega)|exact zAi rfl|exact zAx rfl|exact zAs|exact le_refl _|refine And.intro ?_ ?_))
 ·have hil:i=l.length:=by simp at h2;omega
  try simp (maxSteps:=2000000) only [go_sem]
  repeat with_reducible refine zAb ?_
  refine zAd rfl trivial (.inl ?_)
  congr 3
  exact zL3 (d:=[]) (p:=fun c=>decide (c=s)) fun k hk=>hinv k (by omega)
theorem zGz (l:List Bys) (s:Bys):Contract Tryz.prog zBi [.val (.one (.sl 1 (zRd l))),.val (sv s)] {res:=.val (bv (l.any fun c=>decide (c=s)))}:=by
 refine mkA zFy (base:=0) (fo rfl) (fun hfit=>?_)
 unfold F0 zC2
 simp (maxSteps:=2000000) only [zAJ,List.set_cons_succ,List.set_cons_zero,List.map_cons,List.map_nil,zAH,zAa,ioOf,List.length_cons,List.length_nil,Nat.reduceAdd,Nat.reduceSub,List.replicate,List.cons_append,List.nil_append]
 try simp (maxSteps:=2000000) only [go_sem]
 repeat with_reducible refine zAb ?_
 refine zAw (by repeat' constructor) (zSA l s) ?_
 try simp (maxSteps:=2000000) only [go_sem]
 repeat with_reducible refine zAb ?_
 refine zAd rfl trivial (.inl ?_)
 congr 3
 rw [←zV5]
end Go.Hx
end

section
set_option maxRecDepth 100000
set_option linter.unusedSimpArgs false
set_option maxHeartbeats 2000000
namespace Go.Hx
open Go.Proofs
variable [Glob] [GlobL]
attribute [local go_sem] zAt zAp zAn zAj ndV zAq zAk zBD zA7 zBt zBs zBo
attribute [local go_sem] reduceCtorEq Nat.reduceAdd Nat.reduceEqDiff reduceIte Nat.reduceLeDiff Nat.reduceLT Nat.reduceSub
theorem zZ6 {l:List (Bys×Bys)} {nm:Bys} (h:zX2 (fun a=>decide (a.1=nm)) l < 0):zHD l nm=none:=by
 unfold zX2 at h
 have h2:l.any (fun a=>decide (a.1=nm))=false:=by
  cases e:l.any (fun a=>decide (a.1=nm)) with
  |false=>rfl
  |true=>rw [e] at h;simp at h;omega
 unfold zHD
 have:l.find? (fun a=>decide (a.1=nm))=none:=by
  rw [List.find?_eq_none]
  intro x hx hp
  rw [List.any_eq_false] at h2
  exact h2 x hx hp
 rw [this];rfl
theorem zZ7 {l:List (Bys×Bys)} {nm:Bys} (h:¬ zX2 (fun a=>decide (a.1=nm)) l < 0):∃ i:Nat,i < l.length∧zX2 (fun a=>decide (a.1=nm)) l=i∧zHD l nm=some (l.getD i default).2:=by
 unfold zX2 at h ⊢
 have h2:l.any (fun a=>decide (a.1=nm))=true:=by
  cases e:l.any (fun a=>decide (a.1=nm)) with
  |true=>rfl
  |false=>rw [e] at h;simp at h
 rw [if_pos h2]
 have h3:l.findIdx (fun a=>decide (a.1=nm)) < l.length:=List.findIdx_lt_length.2 (by simpa using h2)
 refine ⟨_,h3,rfl,?_⟩
 unfold zHD
 rw [List.find?_eq_getElem?_findIdx,List.getElem?_eq_getElem h3]
 simp [h3]
theorem zX3 (d:List Nd):(zX0 d).length=d.length:=by simp [zX0]
theorem zX4 (d:List Nd) (n:Nat) (h:n < d.length):(zX0 d).getD n []=[bI (plc d n),bI (ofN d n),bI (ahd d n),bI (zCG d n),bI (zIA d n).length]:=by simp [zX0,h]
theorem zJj (a:Bys×Bys) (nm:Bys):Contract Tryz.prog zBO [.val (.agg [bS a.1,bS a.2]),.val (.one (.fp [bS nm]))] {res:=.val (bv (decide (a.1=nm)))}:=by
 refine mkA zHV (base:=0) (fo rfl) (fun hfit=>?_)
 unfold F0 zD7
 simp (maxSteps:=2000000) only [zAJ,List.set_cons_succ,List.set_cons_zero,List.map_cons,List.map_nil,zAH,zAa,ioOf,List.length_cons,List.length_nil,Nat.reduceAdd,Nat.reduceSub,List.replicate,List.cons_append,List.nil_append]
 try simp (maxSteps:=2000000) only [go_sem]
 repeat with_reducible refine zAb ?_
 refine zAd rfl trivial (.inl ?_)
 congr 3
 rw [Bool.eq_iff_iff];simp
theorem zL5 (d:List Nd) (n:Nat) (hn:n < d.length) (nm:Bys):Contract Tryz.prog zCV [.val (.one (zBo d)),.val (iv n),.val (sv nm)] {res:=.tup [sv ((zHD (d.getD n default).att nm).getD []),bv (zHD (d.getD n default).att nm).isSome]}:=by
 have hc:=zZ5 zBO [.fp [bS nm]] (d.getD n default).att (fun a=>decide (a.1=nm)) (fun i hi=>zJj _ nm)
 have e1:=zBC d n hn
 obtain ⟨x,hx⟩:∃ x,x=d.getD n default:=⟨_,rfl⟩
 rw [←hx] at e1 hc ⊢
 refine mkA zJ6 (base:=0) (fo rfl) (fun hfit=>?_)
 unfold F0 zFg
 simp (maxSteps:=2000000) only [zAJ,List.set_cons_succ,List.set_cons_zero,List.map_cons,List.map_nil,zAH,zAa,ioOf,List.length_cons,List.length_nil,Nat.reduceAdd,Nat.reduceSub,List.replicate,List.cons_append,List.nil_append]
 try simp (maxSteps:=2000000) only [go_sem]
 repeat with_reducible refine zAb ?_
 try simp (maxSteps:=2000000) only [go_sem,e1]
 repeat with_reducible refine zAb ?_
 refine zAw (by repeat' constructor) (hc) ?_
 try simp (maxSteps:=2000000) only [go_sem]
 repeat with_reducible refine zAb ?_
 refine zAc (by rfl) trivial (fun h=>?_) (fun h=>?_)
 ·have h':zX2 (fun a=>decide (a.1=nm)) x.att < 0:=by simpa using h
  rw [zZ6 h']
  try simp (maxSteps:=2000000) only [go_sem]
  repeat with_reducible refine zAb ?_
  exact zBq (by simp) ⟨zA0 rfl trivial (.inl rfl),zA0 rfl trivial (.inl rfl),rfl⟩
 ·have h':¬ zX2 (fun a=>decide (a.1=nm)) x.att < 0:=by simpa using h
  obtain ⟨i,hi,h2,h3⟩:=zZ7 h'
  have e2:=zE6 x.att i hi
  rw [h3]
  rw [h2]
  try simp (maxSteps:=2000000) only [go_sem,e1,e2]
  repeat with_reducible refine zAb ?_
  exact zBq (by simp) ⟨zA0 rfl trivial (.inl rfl),zA0 rfl trivial (.inl rfl),rfl⟩
end Go.Hx
end

section
set_option maxRecDepth 100000
set_option linter.unusedSimpArgs false
set_option linter.unusedSectionVars false
namespace Go.Hx
open Go.Proofs
variable [Glob] [GlobL]
section
variable {d:List Nd} (hd:zCS d d.length=true)
include hd
theorem yDH {k:Nat} (hk:k+1 < d.length):zBc d (k+1)∈C d k:=by
 have h:=zAV hd hk
 simp only [zWG,yC2,Bool.and_eq_true] at h
 have h2:=h.2
 rw [if_neg (by omega)] at h2
 have h3:zBc d (k+1)∈zBr d (k+1) (((k+1:Nat):Int)-1):=by simpa using h2
 rw [show (((k+1:Nat):Int)-1)=k by omega] at h3
 unfold C
 rw [zFW d.length (k+1) k (fun j hj=>(zBh hd j (by omega)).2) (by omega) (by omega)]
 exact h3
theorem yHF {k:Nat} (h0:0 < k) (hk:k < d.length):0≤zBc d k:=by
 obtain ⟨j,rfl⟩:∃ j,k=j+1:=⟨k-1,by omega⟩
 exact (yH1 hd (by omega) (yDH hd hk)).1
theorem yFo (h:0 < d.length):zBc d 0=-1:=by
 have:=zAV hd h
 simp only [zWG,yC2,Bool.and_eq_true] at this
 simpa using this.2
theorem yCh {n k:Nat} (hk:k+1 < d.length) (hn:n < k) (h:(n:Int)∈C d (zBc d (k+1))):(n:Int)∈C d (zBc d k):=by
 have h1:=yHD hd k (by omega) (yDH hd hk) h
 rw [zJA hd (by omega)] at h1
 rcases List.mem_cons.1 h1 with e|e
 ·omega
 ·exact e
theorem zYb {n k:Nat} (hk:k < d.length) (h:k≤n):(n:Int)∉C d (zBc d k):=by
 intro hx
 have:=zBh hd k hk
 have:=yH1 hd (by omega) hx
 omega
theorem zQR {n m:Nat} (hm:m < d.length) (h:(n:Int)∈C d (zBc d m)):∀ t k,m=k+t→n < k→(n:Int)∈C d (zBc d k)
 |0,k,e,_=>by rw [Nat.add_zero] at e;rw [←e];exact h
 |t+1,k,e,hk=>yCh hd (by omega) hk (zQR hm h t (k+1) (by omega) (by omega))
theorem zDX (n k:Nat):zAX d n (k+1)=zAX d n k+(if (n:Int)∈C d (zBc d k) then 1 else 0):=by
 rw [zIz]
 by_cases h:(n:Int)∈C d (zBc d k)
 ·rw [if_pos h,if_pos (by simpa [C] using h)]
 ·rw [if_neg h,if_neg (by simpa [C] using h)]
theorem zKB {n:Nat}:∀ k,k≤n+1→k≤d.length→zAX d n k=0
 |0,_,_=>zX1 d n
 |k+1,h,hk=>by rw [zDX hd,zKB k (by omega) (by omega),if_neg (zYb hd (by omega) (by omega))];rfl
theorem zTo {n m:Nat} (hm:m < d.length) (h:∀ k,n < k→k≤m→(n:Int)∈C d (zBc d k)):∀ t,n+1+t≤m+1→zAX d n (n+1+t)=t
 |0,_=>zKB hd _ (by omega) (by omega)
 |t+1,ht=>by
  rw [show n+1+(t+1)=(n+1+t)+1 by omega,zDX hd,zTo hm h t (by omega),if_pos (h _ (by omega) (by omega))]
  omega
theorem zQS {n m:Nat} (hm:m < d.length) (hn:n < m) (h:(n:Int)∉C d (zBc d m)):∀ t,m+t≤d.length→zAX d n (m+t)=zAX d n m
 |0,_=>rfl
 |t+1,ht=>by
  rw [show m+(t+1)=(m+t)+1 by omega,zDX hd,zQS hm hn h t (by omega),if_neg fun hx=>h (zQR hd (by omega) hx t m (by omega) hn)]
  omega
theorem zTp (n:Nat):∀ t k,zAX d n k≤zAX d n (k+t)
 |0,k=>Int.le_refl _
 |t+1,k=>by rw [show k+(t+1)=(k+t)+1 by omega,zDX hd];have:=zTp n t k;split<;>omega
theorem zID {n:Nat}:∀ t,n+1+t≤d.length→zAX d n (n+1+t)≤t
 |0,h=>by rw [zKB hd _ (by omega) h];exact Int.le_refl _
 |t+1,h=>by rw [show n+1+(t+1)=(n+1+t)+1 by omega,zDX hd];have:=zID (n:=n) t (by omega);split<;>omega
theorem zYc {n m:Nat} (hm:m < d.length):zK8 d n m=true↔n < m∧(m:Int)≤n+zCG d n:=by
 have ha:zK8 d n m=true↔(n:Int)∈C d (zBc d m):=by unfold zK8 C;simp
 rw [ha]
 constructor
 ·intro h
  have hnm:n < m:=Classical.byContradiction fun hx=>zYb hd hm (by omega) h
  refine ⟨hnm,?_⟩
  have h1:=zTo hd hm (fun k hk hkm=>zQR hd hm h (m-k) k (by omega) hk) (m-n) (by omega)
  have h2:=zTp hd n (d.length-(n+1+(m-n))) (n+1+(m-n))
  rw [show n+1+(m-n)+(d.length-(n+1+(m-n)))=d.length by omega,h1] at h2
  unfold zCG
  omega
 ·rintro ⟨hnm,h⟩
  apply Classical.byContradiction
  intro hx
  have h1:=zQS hd hm hnm hx (d.length-m) (by omega)
  rw [show m+(d.length-m)=d.length by omega] at h1
  have h2:=zID hd (n:=n) (m-n-1) (by omega)
  rw [show n+1+(m-n-1)=m by omega] at h2
  unfold zCG at h
  omega
theorem yCi (n:Nat):0≤zCG d n∧zCG d n≤d.length:=zEl _
end
theorem yDI {d:List Nd} {n:Nat} (h:0 < n):zEx d n=zIA d (zBc d n):=by
 unfold zEx;rw [if_neg (by omega)];rfl
theorem zTq {d:List Nd} {n:Nat}:∀ t,∃ r,zAN d (zBc d n) (n+1+t)=zAN d (zBc d n) n++(n:Int)::r∧∀ x∈r,(n:Int) < x
 |0=>⟨[],by rw [Nat.add_zero,zAY,if_pos rfl],by simp⟩
 |t+1=>by
  obtain ⟨r,h1,h2⟩:=zTq t
  rw [show n+1+(t+1)=(n+1+t)+1 by omega,zAY]
  split
  ·refine ⟨r++[((n+1+t:Nat):Int)],by rw [h1];simp,fun x hx=>?_⟩
   rcases List.mem_append.1 hx with hx|hx
   ·exact h2 x hx
   ·have:x=((n+1+t:Nat):Int):=by simpa using hx
    omega
  ·exact ⟨r,h1,h2⟩
theorem zIP {d:List Nd} {u x:Int}:∀ {k:Nat},x∈zAN d u k→∃ m:Nat,x=m∧m < k∧zBc d m=u
 |0,h=>by rw [zL1] at h;cases h
 |k+1,h=>by
  rw [zAY] at h
  split at h
  ·rename_i he
   rcases List.mem_append.1 h with h|h
   ·obtain ⟨m,h1,h2,h3⟩:=zIP h;exact ⟨m,h1,by omega,h3⟩
   ·exact ⟨k,by simpa using h,by omega,he⟩
  ·obtain ⟨m,h1,h2,h3⟩:=zIP h;exact ⟨m,h1,by omega,h3⟩
theorem zKC {l r:List Int} {x:Int} (h:x∉l):zBu (l++x::r) x=l.length:=by
 unfold zBu
 have h1:l.findIdx? (fun y=>decide (y=x))=none:=by
  rw [List.findIdx?_eq_none_iff]
  intro y hy
  simp only [decide_eq_false_iff_not]
  rintro rfl
  exact h hy
 rw [List.findIdx?_append,h1,List.findIdx?_cons]
 simp
theorem zQT {d:List Nd} {u:Int} {n:Nat}:(n:Int)∉zAN d u n:=by
 intro h
 obtain ⟨m,h1,h2,_⟩:=zIP h
 omega
section
variable {d:List Nd} (hd:zCS d d.length=true)
include hd
theorem zYd {n:Nat} (hn:n < d.length) (h0:0 < n):∃ r,zEx d n=zAN d (zBc d n) n++(n:Int)::r∧∀ x∈r,(n:Int) < x:=by
 obtain ⟨r,h1,h2⟩:=zTq (d:=d) (n:=n) (d.length-(n+1))
 rw [show n+1+(d.length-(n+1))=d.length by omega] at h1
 exact ⟨r,by rw [yDI h0];exact h1,h2⟩
theorem yDJ {n:Nat} (hn:n < d.length):plc d n=zBu (zEx d n) n+1:=by
 unfold plc
 by_cases h0:n=0
 ·subst h0
  have:zEx d 0=[0]:=rfl
  rw [this,zL1];rfl
 ·obtain ⟨r,h1,_⟩:=zYd hd hn (by omega)
  rw [h1,zKC zQT]
theorem yHG {n:Nat} (hn:n < d.length):ofN d n=(zEx d n).length:=by
 unfold ofN
 by_cases h0:n=0
 ·subst h0
  rw [yFo hd (by omega)];rfl
 ·rw [if_pos (yHF hd (by omega) hn),yDI (by omega)]
theorem yDK {n:Nat}:yHi d n=[]↔(zIA d n).length=0:=by
 unfold yHi zIA zAN
 rw [List.length_map,List.length_eq_zero_iff]
end
end Go.Hx
end

section
set_option maxRecDepth 100000
set_option linter.unusedSimpArgs false
namespace Go.Hx
open Go.Proofs
variable [Glob] [GlobL]
attribute [local go_sem] zAt zAp zAn zAj ndV zAq
end Go.Hx
end
