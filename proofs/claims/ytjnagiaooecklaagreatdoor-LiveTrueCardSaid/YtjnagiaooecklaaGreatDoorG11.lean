/-
  Walks of functions of the program over an abstract layer, and the laws that they use: each contract says what the function computes, for every input that its conditions let by. No other condition.
-/
import Derived.Test.YtjnagiaooecklaaGreatDoorG10
set_option linter.all false
section
/-
 Lists of paths as plain Lean data, what is right of them, and which error is told. No condition.
-/
namespace Go.Hx
mutual
inductive Ts where
 |mk (kind:Int) (name value:Bys) (na nb:Int) (list:List Pt)
inductive St where
 |mk (tag:Bys) (tests:List Ts)
inductive Pt where
 |mk (steps:List St) (links:List Int)
end
instance:Inhabited Ts:=⟨.mk 0 [] [] 0 0 []⟩
instance:Inhabited St:=⟨.mk [] []⟩
instance:Inhabited Pt:=⟨.mk [] []⟩
def Ts.kind:Ts→Int|.mk k _ _ _ _ _=>k
def Ts.name:Ts→Bys|.mk _ n _ _ _ _=>n
def Ts.value:Ts→Bys|.mk _ _ v _ _ _=>v
def Ts.na:Ts→Int|.mk _ _ _ a _ _=>a
def Ts.nb:Ts→Int|.mk _ _ _ _ b _=>b
def Ts.list:Ts→List Pt|.mk _ _ _ _ _ l=>l
def St.tag:St→Bys|.mk t _=>t
def St.tests:St→List Ts|.mk _ l=>l
def Pt.steps:Pt→List St|.mk s _=>s
def Pt.links:Pt→List Int|.mk _ l=>l
mutual
def tsV:Ts→List PV
 |.mk k n v a b l=>[bI k,bS n,bS v,bI a,bI b,.sl 2 (zQx l)]
def yGx:List Ts→List (List PV)
 |[]=>[]
 |t::r=>tsV t::yGx r
def stV:St→List PV
 |.mk t l=>[bS t,.sl 6 (yGx l)]
def yFO:List St→List (List PV)
 |[]=>[]
 |s::r=>stV s::yFO r
def ptV:Pt→List PV
 |.mk s l=>[.sl 2 (yFO s),.sl 1 (zAH l)]
def zQx:List Pt→List (List PV)
 |[]=>[]
 |p::r=>ptV p::zQx r
end
def zBC (l:List Pt):PVal:=.one (.sl 2 (zQx l))
theorem zPz:∀ l:List Ts,yGx l=l.map tsV
 |[]=>rfl
 |t::r=>by simp only [yGx,List.map_cons,zPz r]
theorem zPA:∀ l:List St,yFO l=l.map stV
 |[]=>rfl
 |t::r=>by simp only [yFO,List.map_cons,zPA r]
theorem zPB:∀ l:List Pt,zQx l=l.map ptV
 |[]=>rfl
 |t::r=>by simp only [zQx,List.map_cons,zPB r]
theorem zBx (l:List Ts):(yGx l).length=l.length:=by simp [zPz]
theorem zBy (l:List St):(yFO l).length=l.length:=by simp [zPA]
theorem zA2 (l:List Pt):(zQx l).length=l.length:=by simp [zPB]
theorem zOj (t:Ts):tsV t=[bI t.kind,bS t.name,bS t.value,bI t.na,bI t.nb,.sl 2 (zQx t.list)]:=by cases t;rfl
theorem zUA (t:St):stV t=[bS t.tag,.sl 6 (yGx t.tests)]:=by cases t;rfl
theorem zH8 (t:Pt):ptV t=[.sl 2 (yFO t.steps),.sl 1 (zAH t.links)]:=by cases t;rfl
theorem zVK (d:List Ts) (i:Nat) (h:i < d.length):(yGx d).getD i []=tsV (d.getD i default):=by simp [zPz,h]
theorem zVL (d:List St) (i:Nat) (h:i < d.length):(yFO d).getD i []=stV (d.getD i default):=by simp [zPA,h]
theorem zVM (d:List Pt) (i:Nat) (h:i < d.length):(zQx d).getD i []=ptV (d.getD i default):=by simp [zPB,h]
theorem zFr {α:Type} [Inhabited α] {l:List α} {i:Nat} (h:i < l.length):l.getD i default∈l:=by
 rw [List.getD_eq_getElem?_getD,List.getElem?_eq_getElem h]
 exact List.getElem_mem h
theorem yK2 (t:Ts):SizeOf.sizeOf t.list < SizeOf.sizeOf t:=by cases t;simp only [Ts.list,Ts.mk.sizeOf_spec];omega
theorem yIw (t:St):SizeOf.sizeOf t.tests < SizeOf.sizeOf t:=by cases t;simp only [St.tests,St.mk.sizeOf_spec];omega
theorem yIx (t:Pt):SizeOf.sizeOf t.steps < SizeOf.sizeOf t:=by cases t;simp only [Pt.steps,Pt.mk.sizeOf_spec];omega
theorem yOS {l:List Ts} {i:Nat} (h:i < l.length):SizeOf.sizeOf (l.getD i default) < SizeOf.sizeOf l:=List.sizeOf_lt_of_mem (zFr h)
theorem yOT {l:List St} {i:Nat} (h:i < l.length):SizeOf.sizeOf (l.getD i default) < SizeOf.sizeOf l:=List.sizeOf_lt_of_mem (zFr h)
theorem yOU {l:List Pt} {i:Nat} (h:i < l.length):SizeOf.sizeOf (l.getD i default) < SizeOf.sizeOf l:=List.sizeOf_lt_of_mem (zFr h)
def yGy (k:Int):Bool:=decide (1≤k∧k≤8)
def zYF (k:Int):Bool:=decide (4≤k∧k≤8)
def yNT (k:Int):Bool:=decide (k=9)||decide (k=10)
def zNr (k:Int):Bool:=decide (13≤k∧k≤15)
def zVN (a:Int):Bool:=decide (-1048576≤a∧a≤1048576)
def zVO (a b:Int):Int:=if zVN a&&zVN b then 0 else 3
mutual
def yFP:List Pt→Nat→Bool
 |[],_=>false
 |p::r,d=>tmP p d||yFP r d
def tmP:Pt→Nat→Bool
 |.mk s l,d=>!(decide (1≤s.length∧s.length≤5))||decide ((l.length:Int)≠s.length-1)||yHO s d
def yHO:List St→Nat→Bool
 |[],_=>false
 |s::r,d=>tmS s d||yHO r d
def tmS:St→Nat→Bool
 |.mk _ l,d=>decide (6 < l.length)||yHP l d
def yHP:List Ts→Nat→Bool
 |[],_=>false
 |t::r,d=>tmT t d||yHP r d
def tmT:Ts→Nat→Bool
 |.mk k _ _ _ _ l,d=>zNr k&&(decide (3 < d+1)||!(decide (1≤l.length∧l.length≤5))||yFP l (d+1))
end
def tmL (l:List Pt) (d:Nat):Bool:=decide (3 < d)||!(decide (1≤l.length∧l.length≤5))||yFP l d
def yBo (n:Int):Bool:=!(decide (1≤n∧n≤4))
mutual
def yIy:List Pt→Bool
 |[]=>false
 |p::r=>bkP p||yIy r
def bkP:Pt→Bool
 |.mk s l=>l.any yBo||yLL s
def yLL:List St→Bool
 |[]=>false
 |s::r=>bkS s||yLL r
def bkS:St→Bool
 |.mk _ l=>yLM l
def yLM:List Ts→Bool
 |[]=>false
 |t::r=>bkT t||yLM r
def bkT:Ts→Bool
 |.mk k _ _ _ _ l=>!(decide (1≤k∧k≤15))||(zNr k&&yIy l)
end
def yJH (t:Ts):Bool:=(yGy t.kind&&!zCW t.name)||(!yGy t.kind&&!(t.name==[]))
def yJI (t:Ts):Bool:=(zYF t.kind&&!zH6 t.value)||(!zYF t.kind&&!(t.value==[]))
def yIz (t:Ts):Bool:=(!yNT t.kind&&!(t.na==0&&t.nb==0))||(!zNr t.kind&&decide (0 < t.list.length))
mutual
def yIA:List Pt→Bool
 |[]=>false
 |p::r=>bfP p||yIA r
def bfP:Pt→Bool
 |.mk s _=>yLN s
def yLN:List St→Bool
 |[]=>false
 |s::r=>bfS s||yLN r
def bfS:St→Bool
 |.mk t l=>(!(t==[])&&!zCW t)||yLO l
def yLO:List Ts→Bool
 |[]=>false
 |t::r=>bfT t||yLO r
def bfT:Ts→Bool
 |.mk k n v a b l=>yJH (.mk k n v a b l)||yJI (.mk k n v a b l)||yIz (.mk k n v a b l)||(zNr k&&yIA l)
end
mutual
def yHQ:List Pt→Bool
 |[]=>false
 |p::r=>bnP p||yHQ r
def bnP:Pt→Bool
 |.mk s _=>yLP s
def yLP:List St→Bool
 |[]=>false
 |s::r=>bnS s||yLP r
def bnS:St→Bool
 |.mk _ l=>yLQ l
def yLQ:List Ts→Bool
 |[]=>false
 |t::r=>bnT t||yLQ r
def bnT:Ts→Bool
 |.mk _ _ _ a b l=>!(decide (zVO a b=0))||yHQ l
end
def zB8 (l:List Pt):Int:=if tmL l 1 then 2 else if yIy l then 4 else if yIA l then 1 else if yHQ l then 3 else 0
structure Fd where
 f:Nat
 m:Nat
 r:Nat
 k:Nat
 deriving DecidableEq,Inhabited
def Fd.add (a b:Fd):Fd:=⟨a.f+b.f,a.m+b.m,a.r+b.r,a.k+b.k⟩
def fd0:Fd:=⟨0,0,0,0⟩
def fdV (c:Fd):List PV:=[bI 0,bI c.f,bI c.m,bI c.r,bI c.k]
def nB (b:Bool):Nat:=if b then 1 else 0
def fF (b:Bool):Fd:=⟨nB b,0,0,0⟩
def fM (b:Bool):Fd:=⟨0,nB b,0,0⟩
def fR (b:Bool):Fd:=⟨0,0,nB b,0⟩
def fK (b:Bool):Fd:=⟨0,0,0,nB b⟩
theorem Fd.add_assoc (a b c:Fd):(a.add b).add c=a.add (b.add c):=by simp [Fd.add,Nat.add_assoc]
theorem Fd.add_zero (a:Fd):a.add fd0=a:=rfl
theorem Fd.zero_add (a:Fd):fd0.add a=a:=by simp [Fd.add,fd0]
def zH9 (l:List Pt) (d:Nat):Bool:=decide (3 < d)||decide (l.length < 1)||decide (5 < l.length)
def yBp (p:Pt):Bool:=decide (p.steps.length < 1)||decide (5 < p.steps.length)||decide ((p.links.length:Int)≠p.steps.length-1)
def yDX (l:List Int):Fd:=⟨0,0,0,l.countP yBo⟩
def yHR (t:Ts):Fd:=(((((fK (!decide (1≤t.kind∧t.kind≤15))).add (fF (yJH t))).add (fF (yJI t))).add (fF (yIz t))).add (fR (!decide (zVO t.na t.nb=0))))
mutual
def yA0:List Pt→Nat→Fd
 |[],_=>fd0
 |p::r,d=>if yBp p then fM true else ((yDX p.links).add (ntP p d)).add (yA0 r d)
def ntP:Pt→Nat→Fd
 |.mk s _,d=>yDY s d
def yDY:List St→Nat→Fd
 |[],_=>fd0
 |s::r,d=>(ntS s d).add (yDY r d)
def ntS:St→Nat→Fd
 |.mk t l,d=>if 6 < l.length then fM true else (fF (!(t==[])&&!zCW t)).add (yDZ l d)
def yDZ:List Ts→Nat→Fd
 |[],_=>fd0
 |t::r,d=>(ntT t d).add (yDZ r d)
def ntT:Ts→Nat→Fd
 |.mk k n v a b l,d=>(yHR (.mk k n v a b l)).add (if zNr k then (if zH9 l (d+1) then fM true else yA0 l (d+1)) else fd0)
end
def ntL (l:List Pt) (d:Nat):Fd:=if zH9 l d then fM true else yA0 l d
theorem yNn (t:Ts) (d:Nat):ntT t d=(yHR t).add (if zNr t.kind then ntL t.list (d+1) else fd0):=by cases t;rfl
theorem yJJ (s:St) (d:Nat):ntS s d=if 6 < s.tests.length then fM true else (fF (!(s.tag==[])&&!zCW s.tag)).add (yDZ s.tests d):=by cases s;rfl
theorem yNo (p:Pt) (d:Nat):ntP p d=yDY p.steps d:=by cases p;rfl
theorem yGz (b:Bool):0 < nB b↔b=true:=by cases b<;>simp [nB]
theorem zYG (l:List Pt) (d:Nat):zH9 l d=(decide (3 < d)||!(decide (1≤l.length∧l.length≤5))):=by
 unfold zH9
 by_cases h1:3 < d<;>by_cases h2:l.length < 1<;>by_cases h3:5 < l.length<;>simp [h1,h2,h3]<;>omega
mutual
theorem yOV:∀ (l:List Pt) (d:Nat),0 < (yA0 l d).m↔yFP l d=true
 |[],d=>by simp [yA0,yFP,fd0]
 |p::r,d=>by
  have h1:=m_P p d
  have h2:=yOV r d
  simp only [yA0,yFP]
  have hp:yBp p=true→tmP p d=true:=by
   intro hb
   cases p with
   |mk s l=>
    have hb:(decide (s.length < 1)||decide (5 < s.length)||decide ((l.length:Int)≠s.length-1))=true:=hb
    simp only [Bool.or_eq_true,decide_eq_true_eq] at hb
    simp only [tmP,Bool.or_eq_true,decide_eq_true_eq,Bool.not_eq_true',decide_eq_false_iff_not]
    omega
  split
  ·rename_i hb
   simp [fM,nB,hp hb]
  ·rename_i hb
   have h3:=h1 (by simpa using hb)
   simp only [Fd.add,yDX,Bool.or_eq_true,←h3,←h2]
   omega
theorem m_P:∀ (p:Pt) (d:Nat),yBp p=false→(0 < (ntP p d).m↔tmP p d=true)
 |.mk s l,d,hb=>by
  have h:=yPp s d
  have hb:(decide (s.length < 1)||decide (5 < s.length)||decide ((l.length:Int)≠s.length-1))=false:=hb
  simp only [Bool.or_eq_false_iff,decide_eq_false_iff_not] at hb
  have e1:decide (1≤s.length∧s.length≤5)=true:=by simp;omega
  have e2:decide ((l.length:Int)≠s.length-1)=false:=by simp;omega
  simp only [ntP,tmP,e1,e2,h,Bool.not_true,Bool.false_or]
theorem yPp:∀ (l:List St) (d:Nat),0 < (yDY l d).m↔yHO l d=true
 |[],d=>by simp [yDY,yHO,fd0]
 |p::r,d=>by
  have h1:=m_S p d
  have h2:=yPp r d
  simp only [yDY,yHO,Fd.add,Bool.or_eq_true,←h1,←h2]
  omega
theorem m_S:∀ (p:St) (d:Nat),0 < (ntS p d).m↔tmS p d=true
 |.mk t l,d=>by
  have h:=yPq l d
  simp only [ntS,tmS]
  split
  ·rename_i hb;simp [fM,nB,hb]
  ·rename_i hb
   simp only [Fd.add,fF,Bool.or_eq_true,decide_eq_true_eq,←h]
   omega
theorem yPq:∀ (l:List Ts) (d:Nat),0 < (yDZ l d).m↔yHP l d=true
 |[],d=>by simp [yDZ,yHP,fd0]
 |p::r,d=>by
  have h1:=m_T p d
  have h2:=yPq r d
  simp only [yDZ,yHP,Fd.add,Bool.or_eq_true,←h1,←h2]
  omega
theorem m_T:∀ (p:Ts) (d:Nat),0 < (ntT p d).m↔tmT p d=true
 |.mk k n v a b l,d=>by
  have h:=yOV l (d+1)
  simp only [ntT,tmT,Fd.add,yHR,fF,fK,fR,Nat.zero_add]
  by_cases hk:zNr k=true
  ·simp only [hk,if_true,Bool.true_and]
   rw [zYG]
   by_cases hb:(decide (3 < d+1)||!(decide (1≤l.length∧l.length≤5)))=true
   ·rw [if_pos hb,hb];simp [fM,nB]
   ·rw [if_neg hb]
    have hb2:(decide (3 < d+1)||!(decide (1≤l.length∧l.length≤5)))=false:=eq_false_of_ne_true hb
    rw [hb2,Bool.false_or,h]
  ·have hk2:zNr k=false:=by simpa using hk
   simp [hk2,fd0]
end
theorem m_L (l:List Pt) (d:Nat):0 < (ntL l d).m↔tmL l d=true:=by
 unfold ntL tmL
 rw [zYG]
 by_cases hb:(decide (3 < d)||!(decide (1≤l.length∧l.length≤5)))=true
 ·rw [if_pos hb,hb];simp [fM,nB]
 ·rw [if_neg hb]
  have hb2:(decide (3 < d)||!(decide (1≤l.length∧l.length≤5)))=false:=eq_false_of_ne_true hb
  rw [hb2,Bool.false_or,yOV]
def Oth (c:Fd) (k f r:Bool):Prop:=c.m=0→((0 < c.k↔k=true)∧(0 < c.f↔f=true)∧(c.f=0→(0 < c.r↔r=true)))
theorem Oth.add {a b:Fd} {k f r k' f' r':Bool} (h:Oth a k f r) (g:Oth b k' f' r'):Oth (a.add b) (k||k') (f||f') (r||r'):=by
 intro hm
 simp only [Fd.add] at hm ⊢
 obtain ⟨h1,h2,h3⟩:=h (by omega)
 obtain ⟨g1,g2,g3⟩:=g (by omega)
 refine ⟨?_,?_,fun hf=>?_⟩
 ·rw [Bool.or_eq_true,←h1,←g1];omega
 ·rw [Bool.or_eq_true,←h2,←g2];omega
 ·have h4:=h3 (by omega)
  have g4:=g3 (by omega)
  rw [Bool.or_eq_true,←h4,←g4];omega
theorem Oth.zero:Oth fd0 false false false:=fun _=>⟨by simp [fd0],by simp [fd0],fun _=>by simp [fd0]⟩
theorem Oth.many {k f r:Bool}:Oth (fM true) k f r:=fun h=>by simp [fM,nB] at h
theorem Oth.k (b:Bool):Oth (fK b) b false false:=fun _=>⟨by simp [fK,yGz],by simp [fK],fun _=>by simp [fK]⟩
theorem Oth.f (b:Bool):Oth (fF b) false b false:=fun _=>⟨by simp [fF],by simp [fF,yGz],fun _=>by simp [fF]⟩
theorem Oth.r (b:Bool):Oth (fR b) false false b:=fun _=>⟨by simp [fR],by simp [fR],fun _=>by simp [fR,yGz]⟩
theorem Oth.cast {c:Fd} {k f r k' f' r':Bool} (h:Oth c k f r) (h1:k=k') (h2:f=f') (h3:r=r'):Oth c k' f' r':=by subst h1 h2 h3;exact h
theorem Oth.lk (l:List Int):Oth (yDX l) (l.any yBo) false false:=by
 intro _
 refine ⟨?_,by simp [yDX],fun _=>by simp [yDX]⟩
 simp [yDX,List.any_eq_true,List.countP_pos_iff]
mutual
theorem yOW:∀ (l:List Pt) (d:Nat),Oth (yA0 l d) (yIy l) (yIA l) (yHQ l)
 |[],d=>Oth.zero
 |p::r,d=>by
  simp only [yA0,yIy,yIA,yHQ]
  split
  ·exact Oth.many
  ·refine ((o_P p d).add (yOW r d))
theorem o_P:∀ (p:Pt) (d:Nat),Oth ((yDX p.links).add (ntP p d)) (bkP p) (bfP p) (bnP p)
 |.mk s l,d=>by
  simp only [ntP,Pt.links,bkP,bfP,bnP]
  exact ((Oth.lk l).add (yPr s d)).cast rfl (by simp) (by simp)
theorem yPr:∀ (l:List St) (d:Nat),Oth (yDY l d) (yLL l) (yLN l) (yLP l)
 |[],d=>Oth.zero
 |p::r,d=>by
  simp only [yDY,yLL,yLN,yLP]
  exact (o_S p d).add (yPr r d)
theorem o_S:∀ (p:St) (d:Nat),Oth (ntS p d) (bkS p) (bfS p) (bnS p)
 |.mk t l,d=>by
  simp only [ntS,bkS,bfS,bnS]
  split
  ·exact Oth.many
  ·exact ((Oth.f _).add (yPs l d)).cast (by simp) rfl (by simp)
theorem yPs:∀ (l:List Ts) (d:Nat),Oth (yDZ l d) (yLM l) (yLO l) (yLQ l)
 |[],d=>Oth.zero
 |p::r,d=>by
  simp only [yDZ,yLM,yLO,yLQ]
  exact (o_T p d).add (yPs r d)
theorem o_T:∀ (p:Ts) (d:Nat),Oth (ntT p d) (bkT p) (bfT p) (bnT p)
 |.mk k n v a b l,d=>by
  have h:=yOW l (d+1)
  have h1:Oth (yHR (.mk k n v a b l)) (!decide (1≤k∧k≤15)) (yJH (.mk k n v a b l)||yJI (.mk k n v a b l)||yIz (.mk k n v a b l)) (!decide (zVO a b=0)):=
   (((((Oth.k (!decide (1≤k∧k≤15))).add (Oth.f _)).add (Oth.f _)).add (Oth.f _)).add (Oth.r (!decide (zVO a b=0)))).cast (by simp only [Bool.or_false]) (by simp only [Bool.false_or,Bool.or_false]) (by simp only [Bool.false_or])
  simp only [ntT,bkT,bfT,bnT]
  by_cases hk:zNr k=true
  ·simp only [hk,if_true,Bool.true_and]
   split
   ·intro hm
    simp [Fd.add,fM,nB] at hm
   ·exact h1.add h
  ·have hk2:zNr k=false:=eq_false_of_ne_true hk
   simp only [hk2,Bool.false_and,Bool.or_false]
   intro hm
   obtain ⟨a1,a2,a3⟩:=h1 (by simpa [Fd.add,fd0] using hm)
   refine ⟨by simpa [Fd.add,fd0] using a1,by simpa [Fd.add,fd0] using a2,fun hf=>?_⟩
   have hf0:(yHR (.mk k n v a b l)).f=0:=by simpa [Fd.add,fd0] using hf
   have a4:=a3 hf0
   have hl:l=[]:=by
    have h5:¬ (yJH (.mk k n v a b l)||yJI (.mk k n v a b l)||yIz (.mk k n v a b l))=true:=by
     rw [←a2];omega
    simp only [yIz,Ts.kind,Ts.list,hk2,Bool.not_false,Bool.true_and,Bool.or_eq_true,decide_eq_true_eq,not_or] at h5
    have:=h5.2.2
    cases l with
    |nil=>rfl
    |cons x y=>simp at this
   subst hl
   simpa [Fd.add,fd0,yHQ] using a4
end
def yK3 (c:Fd):Int:=if 0 < c.m then 2 else if 0 < c.k then 4 else if 0 < c.f then 1 else if 0 < c.r then 3 else 0
theorem yNp (l:List Pt):yK3 (ntL l 1)=zB8 l:=by
 unfold yK3 zB8
 have hm:=m_L l 1
 by_cases h:tmL l 1=true
 ·rw [if_pos (hm.2 h),if_pos h]
 ·have hm0:¬ 0 < (ntL l 1).m:=fun hc=>h (hm.1 hc)
  rw [if_neg hm0,if_neg h]
  have hb:zH9 l 1=false:=by
   cases hb:zH9 l 1 with
   |false=>rfl
   |true=>unfold ntL at hm0;rw [if_pos hb] at hm0;simp [fM,nB] at hm0
  have e:ntL l 1=yA0 l 1:=by unfold ntL;rw [if_neg (by rw [hb];simp)]
  rw [e] at hm0 ⊢
  obtain ⟨h1,h2,h3⟩:=yOW l 1 (by omega)
  by_cases hk:yIy l=true
  ·rw [if_pos (h1.2 hk),if_pos hk]
  ·rw [if_neg (fun hc=>hk (h1.1 hc)),if_neg hk]
   by_cases hf:yIA l=true
   ·rw [if_pos (h2.2 hf),if_pos hf]
   ·have hf0:¬ 0 < (yA0 l 1).f:=fun hc=>hf (h2.1 hc)
    rw [if_neg hf0,if_neg hf]
    have h4:=h3 (by omega)
    by_cases hr:yHQ l=true
    ·rw [if_pos (h4.2 hr),if_pos hr]
    ·rw [if_neg (fun hc=>hr (h4.1 hc)),if_neg hr]
def bdF:Nat→Nat
 |0=>1
 |f+1=>4+5 * (4+5 * (1+6 * (5+bdF f)))
def bd (d:Nat):Nat:=bdF (4-d)
def bdT (d:Nat):Nat:=5+bd (d+1)
def bdS (d:Nat):Nat:=1+6 * bdT d
def bdP (d:Nat):Nat:=4+5 * bdS d
theorem zVP:∀ f,1≤bdF f
 |0=>Nat.le_refl _
 |f+1=>by simp only [bdF];omega
theorem yK4 {d:Nat} (h:d≤3):bd d=4+5 * bdP d:=by
 unfold bdP bdS bdT bd
 obtain ⟨f,hf⟩:∃ f,4-d=f+1:=⟨4-d-1,by omega⟩
 have e:4-(d+1)=f:=by omega
 rw [hf,e]
 rfl
theorem yNq:bd 1≤100000000:=by decide
structure Fd.le (c:Fd) (n:Nat):Prop where
 f:c.f≤n
 m:c.m≤n
 r:c.r≤n
 k:c.k≤n
theorem Fd.le.le_add {a b:Fd} {n m:Nat} (h:a.le n) (g:b.le m):(a.add b).le (n+m):=by
 obtain ⟨h1,h2,h3,h4⟩:=h
 obtain ⟨g1,g2,g3,g4⟩:=g
 exact ⟨Nat.add_le_add h1 g1,Nat.add_le_add h2 g2,Nat.add_le_add h3 g3,Nat.add_le_add h4 g4⟩
theorem Fd.le.le_mono {a:Fd} {n m:Nat} (h:a.le n) (g:n≤m):a.le m:=⟨Nat.le_trans h.f g,Nat.le_trans h.m g,Nat.le_trans h.r g,Nat.le_trans h.k g⟩
theorem yIB (b:Bool):nB b≤1:=by cases b<;>simp [nB]
theorem yIC (b:Bool):(fM b).le 1:=⟨Nat.zero_le _,yIB b,Nat.zero_le _,Nat.zero_le _⟩
theorem zYH (b:Bool):(fF b).le 1:=⟨yIB b,Nat.zero_le _,Nat.zero_le _,Nat.zero_le _⟩
theorem yK5 (b:Bool):(fK b).le 1:=⟨Nat.zero_le _,Nat.zero_le _,Nat.zero_le _,yIB b⟩
theorem yNr (b:Bool):(fR b).le 1:=⟨Nat.zero_le _,Nat.zero_le _,yIB b,Nat.zero_le _⟩
theorem zYI (n:Nat):fd0.le n:=⟨Nat.zero_le _,Nat.zero_le _,Nat.zero_le _,Nat.zero_le _⟩
theorem yOX (t:Ts):(yHR t).le 5:=((((yK5 _).le_add (zYH _)).le_add (zYH _)).le_add (zYH _)).le_add (yNr _)
theorem yOY (l:List Int):(yDX l).le l.length:=⟨Nat.zero_le _,Nat.zero_le _,Nat.zero_le _,List.countP_le_length⟩
mutual
theorem yOZ:∀ (l:List Pt) (d:Nat),(yA0 l d).le (1+l.length * bdP d)
 |[],d=>zYI _
 |p::r,d=>by
  have h2:=yOZ r d
  simp only [yA0,List.length_cons]
  split
  ·exact (yIC _).le_mono (Nat.le_add_right _ _)
  ·rename_i hb
   have h1:=b_P p d (eq_false_of_ne_true hb)
   exact (h1.le_add h2).le_mono (by rw [Nat.add_mul];omega)
theorem b_P:∀ (p:Pt) (d:Nat),yBp p=false→((yDX p.links).add (ntP p d)).le (bdP d)
 |.mk s l,d,hb=>by
  have hb:(decide (s.length < 1)||decide (5 < s.length)||decide ((l.length:Int)≠s.length-1))=false:=hb
  simp only [Bool.or_eq_false_iff,decide_eq_false_iff_not] at hb
  have h:=yPt s d
  simp only [ntP,Pt.links]
  refine ((yOY l).le_add h).le_mono ?_
  have h5:s.length * bdS d≤5 * bdS d:=Nat.mul_le_mul_right _ (by omega)
  unfold bdP
  omega
theorem yPt:∀ (l:List St) (d:Nat),(yDY l d).le (l.length * bdS d)
 |[],d=>zYI _
 |p::r,d=>by
  simp only [yDY,List.length_cons]
  exact ((b_S p d).le_add (yPt r d)).le_mono (by rw [Nat.add_mul];omega)
theorem b_S:∀ (p:St) (d:Nat),(ntS p d).le (bdS d)
 |.mk t l,d=>by
  simp only [ntS]
  split
  ·exact (yIC _).le_mono (by unfold bdS;omega)
  ·refine ((zYH _).le_add (yPu l d)).le_mono ?_
   have h5:l.length * bdT d≤6 * bdT d:=Nat.mul_le_mul_right _ (by omega)
   unfold bdS
   omega
theorem yPu:∀ (l:List Ts) (d:Nat),(yDZ l d).le (l.length * bdT d)
 |[],d=>zYI _
 |p::r,d=>by
  simp only [yDZ,List.length_cons]
  exact ((b_T p d).le_add (yPu r d)).le_mono (by rw [Nat.add_mul];omega)
theorem b_T:∀ (p:Ts) (d:Nat),(ntT p d).le (bdT d)
 |.mk k n v a b l,d=>by
  have h:=yOZ l (d+1)
  simp only [ntT]
  refine (yOX _).le_add ?_
  split
  ·split
   ·exact (yIC _).le_mono (zVP _)
   ·rename_i hb
    simp only [zH9,Bool.or_eq_true,decide_eq_true_eq,not_or] at hb
    have h5:l.length * bdP (d+1)≤5 * bdP (d+1):=Nat.mul_le_mul_right _ (by omega)
    refine h.le_mono ?_
    rw [yK4 (d:=d+1) (by omega)]
    omega
  ·exact zYI _
end
theorem b_L (l:List Pt) (d:Nat):(ntL l d).le (bd d):=by
 unfold ntL
 split
 ·exact (yIC _).le_mono (zVP _)
 ·rename_i hb
  simp only [zH9,Bool.or_eq_true,decide_eq_true_eq,not_or] at hb
  have h5:l.length * bdP d≤5 * bdP d:=Nat.mul_le_mul_right _ (by omega)
  refine (yOZ l d).le_mono ?_
  rw [yK4 (by omega)]
  omega
end Go.Hx
end

section
/-
 Right lists of paths, and their parts. Plain Lean. No condition.
-/
set_option maxRecDepth 100000
set_option linter.unusedSimpArgs false
namespace Go.Hx
def GTs (l:List Ts) (d:Nat):Prop:=yHP l d=false∧yLM l=false∧yLO l=false∧yLQ l=false
def GT (t:Ts) (d:Nat):Prop:=tmT t d=false∧bkT t=false∧bfT t=false∧bnT t=false
def GS (x:St) (d:Nat):Prop:=tmS x d=false∧bkS x=false∧bfS x=false∧bnS x=false
def GSs (l:List St) (d:Nat):Prop:=yHO l d=false∧yLL l=false∧yLN l=false∧yLP l=false
def GP (x:Pt) (d:Nat):Prop:=tmP x d=false∧bkP x=false∧bfP x=false∧bnP x=false
def GPs (l:List Pt) (d:Nat):Prop:=yFP l d=false∧yIy l=false∧yIA l=false∧yHQ l=false
def GL (l:List Pt) (d:Nat):Prop:=d≤3∧1≤l.length∧l.length≤5∧GPs l d
theorem GTs.cons {t:Ts} {l:List Ts} {d:Nat} (h:GTs (t::l) d):GT t d∧GTs l d:=by
 simp only [GTs,yHP,yLM,yLO,yLQ,Bool.or_eq_false_iff] at h
 exact ⟨⟨h.1.1,h.2.1.1,h.2.2.1.1,h.2.2.2.1⟩,⟨h.1.2,h.2.1.2,h.2.2.1.2,h.2.2.2.2⟩⟩
theorem GSs.cons {t:St} {l:List St} {d:Nat} (h:GSs (t::l) d):GS t d∧GSs l d:=by
 simp only [GSs,yHO,yLL,yLN,yLP,Bool.or_eq_false_iff] at h
 exact ⟨⟨h.1.1,h.2.1.1,h.2.2.1.1,h.2.2.2.1⟩,⟨h.1.2,h.2.1.2,h.2.2.1.2,h.2.2.2.2⟩⟩
theorem GPs.cons {t:Pt} {l:List Pt} {d:Nat} (h:GPs (t::l) d):GP t d∧GPs l d:=by
 simp only [GPs,yFP,yIy,yIA,yHQ,Bool.or_eq_false_iff] at h
 exact ⟨⟨h.1.1,h.2.1.1,h.2.2.1.1,h.2.2.2.1⟩,⟨h.1.2,h.2.1.2,h.2.2.1.2,h.2.2.2.2⟩⟩
theorem GS.parts {tag:Bys} {l:List Ts} {d:Nat} (h:GS (.mk tag l) d):l.length≤6∧(tag=[]∨zCW tag=true)∧GTs l d:=by
 simp only [GS,tmS,bkS,bfS,bnS,Bool.or_eq_false_iff,decide_eq_false_iff_not] at h
 refine ⟨by omega,?_,h.1.2,h.2.1,h.2.2.1.2,h.2.2.2⟩
 have:=h.2.2.1.1
 cases ht:tag with
 |nil=>exact .inl rfl
 |cons c tag=>
  right
  rw [ht] at this
  simpa using this
theorem GP.parts {st:List St} {lk:List Int} {d:Nat} (h:GP (.mk st lk) d):1≤st.length∧st.length≤5∧lk.length+1=st.length∧(∀ n∈lk,1≤n∧n≤4)∧GSs st d:=by
 simp only [GP,tmP,bkP,bfP,bnP,Bool.or_eq_false_iff,Bool.not_eq_false',decide_eq_true_eq,decide_eq_false_iff_not,List.any_eq_false,yBo,Bool.not_eq_true'] at h
 obtain ⟨⟨⟨h1,h2⟩,h3⟩,⟨h4,h5⟩,h6,h7⟩:=h
 refine ⟨h1.1,h1.2,by omega,fun n hn=>?_,h3,h5,h6,h7⟩
 have:=h4 n hn
 simp only [decide_eq_false_iff_not,Classical.not_not] at this
 exact this
theorem GT.parts {k:Int} {n v:Bys} {a b:Int} {l:List Pt} {d:Nat} (h:GT (.mk k n v a b l) d):
  (1≤k∧k≤15)∧(if k≤8 then zCW n=true else n=[])∧(if 4≤k∧k≤8 then zH6 v=true else v=[])∧(if k=9∨k=10 then True else a=0∧b=0)∧zVO a b=0∧(if 13≤k then GL l (d+1) else l=[]):=by
 simp only [GT,tmT,bkT,bfT,bnT,Bool.or_eq_false_iff,Bool.and_eq_false_iff,Bool.not_eq_false',decide_eq_true_eq,decide_eq_false_iff_not,yJH,yJI,yIz,Ts.kind,Ts.name,Ts.value,Ts.na,Ts.nb,Ts.list,yGy,zYF,yNT,zNr,Bool.and_eq_true,beq_iff_eq,Bool.not_eq_true'] at h
 obtain ⟨h1,⟨h2,h3⟩,⟨⟨⟨⟨h4,h5⟩,h6,h7⟩,h8,h9⟩,h10⟩,h11,h12⟩:=h
 simp only [Bool.or_eq_true] at h8
 refine ⟨h2,?_,?_,?_,h11,?_⟩
 ·split
  ·rcases h4 with h|h
   ·exfalso;(first|omega|(have:=of_decide_eq_false h;omega)|(have:=of_decide_eq_true h;omega)|(rcases h with h|h<;>have:=of_decide_eq_true h<;>omega))
   ·exact h
  ·rcases h5 with h|h
   ·exfalso;(first|omega|(have:=of_decide_eq_false h;omega)|(have:=of_decide_eq_true h;omega)|(rcases h with h|h<;>have:=of_decide_eq_true h<;>omega))
   ·exact h
 ·split
  ·rcases h6 with h|h
   ·exfalso;(first|omega|(have:=of_decide_eq_false h;omega)|(have:=of_decide_eq_true h;omega)|(rcases h with h|h<;>have:=of_decide_eq_true h<;>omega))
   ·exact h
  ·rcases h7 with h|h
   ·exfalso;(first|omega|(have:=of_decide_eq_false h;omega)|(have:=of_decide_eq_true h;omega)|(rcases h with h|h<;>have:=of_decide_eq_true h<;>omega))
   ·exact h
 ·split
  ·trivial
  ·rcases h8 with h|h
   ·exfalso;(first|omega|(have:=of_decide_eq_false h;omega)|(have:=of_decide_eq_true h;omega)|(rcases h with h|h<;>have:=of_decide_eq_true h<;>omega))
   ·exact h
 ·split
  ·rename_i hk
   rcases h1 with h|h
   ·exfalso;(first|omega|(have:=of_decide_eq_false h;omega)|(have:=of_decide_eq_true h;omega)|(rcases h with h|h<;>have:=of_decide_eq_true h<;>omega))
   rcases h3 with h'|h'
   ·exfalso;(first|omega|(have:=of_decide_eq_false h;omega)|(have:=of_decide_eq_true h;omega)|(rcases h with h|h<;>have:=of_decide_eq_true h<;>omega))
   rcases h10 with h''|h''
   ·exfalso;(first|omega|(have:=of_decide_eq_false h;omega)|(have:=of_decide_eq_true h;omega)|(rcases h with h|h<;>have:=of_decide_eq_true h<;>omega))
   exact ⟨by omega,h.1.2.1,h.1.2.2,h.2,h',h'',h12⟩
  ·rcases h9 with h|h
   ·exfalso;(first|omega|(have:=of_decide_eq_false h;omega)|(have:=of_decide_eq_true h;omega)|(rcases h with h|h<;>have:=of_decide_eq_true h<;>omega))
   ·exact List.eq_nil_of_length_eq_zero (by have:=of_decide_eq_false h;omega)
theorem yK6 {l:List Pt} (h:zB8 l=0):GL l 1:=by
 unfold zB8 at h
 split at h
 ·omega
 ·rename_i h1
  split at h
  ·omega
  ·rename_i h2
   split at h
   ·omega
   ·rename_i h3
    split at h
    ·omega
    ·rename_i h4
     simp only [tmL,Bool.not_eq_true,Bool.or_eq_false_iff,Bool.not_eq_false',decide_eq_true_eq,decide_eq_false_iff_not] at h1 h2 h3 h4
     exact ⟨by omega,h1.1.2.1,h1.1.2.2,h1.2,h2,h3,h4⟩
theorem GPs.get:∀ {l:List Pt} {d:Nat},GPs l d→∀ i,i < l.length→GP (l.getD i default) d
 |_::_,_,h,0,_=>h.cons.1
 |_::_,_,h,i+1,hi=>by
  have:=GPs.get h.cons.2 i (by simpa using hi)
  simpa using this
theorem GSs.get:∀ {l:List St} {d:Nat},GSs l d→∀ i,i < l.length→GS (l.getD i default) d
 |_::_,_,h,0,_=>h.cons.1
 |_::_,_,h,i+1,hi=>by
  have:=GSs.get h.cons.2 i (by simpa using hi)
  simpa using this
theorem GTs.get:∀ {l:List Ts} {d:Nat},GTs l d→∀ i,i < l.length→GT (l.getD i default) d
 |_::_,_,h,0,_=>h.cons.1
 |_::_,_,h,i+1,hi=>by
  have:=GTs.get h.cons.2 i (by simpa using hi)
  simpa using this
theorem GP.parts' {p:Pt} {d:Nat} (h:GP p d):1≤p.steps.length∧p.steps.length≤5∧p.links.length+1=p.steps.length∧(∀ n∈p.links,1≤n∧n≤4)∧GSs p.steps d:=by
 obtain ⟨st,lk⟩:=p
 exact h.parts
theorem GS.parts' {x:St} {d:Nat} (h:GS x d):x.tests.length≤6∧GTs x.tests d:=by
 obtain ⟨tag,l⟩:=x
 exact ⟨h.parts.1,h.parts.2.2⟩
theorem GT.parts' {t:Ts} {d:Nat} (h:GT t d):(1≤t.kind∧t.kind≤15)∧(13≤t.kind→GL t.list (d+1)):=by
 obtain ⟨k,n,v,a,b,l⟩:=t
 obtain ⟨h1,_,_,_,_,h6⟩:=h.parts
 exact ⟨h1,fun hk=>by change 13≤k at hk;rw [if_pos hk] at h6;exact h6⟩
end Go.Hx
end

section
/-
 Which elements match: as the document's answer says it. Plain Lean. No condition.
-/
namespace Go.Hx
variable [Glob]
def zIa (l:List (Bys×Bys)) (nm:Bys):Option Bys:=(l.find? fun a=>decide (a.1=nm)).map (·.2)
def zBY (s t:Bys) (i:Int):Bool:=decide (0≤i∧i+t.length≤s.length)&&decide ((s.drop i.toNat).take t.length=t)
def yD0 (s t:Bys) (i:Nat):Bool:=zBY s t i&&(decide (i=0)||decide (s.getD (i-1) 0=32))&&(decide (i+t.length=s.length)||decide (s.getD (i+t.length) 0=32))
def yID (s t:Bys):Bool:=!decide (t=[])&&t.all (fun c=>decide (c≠32))&&(List.range (s.length+1)).any (yD0 s t)
def zG6 (k:Int) (s t:Bys):Bool:=
 if k=3 then true else if k=4 then decide (s=t) else if k=8 then yID s t else if t=[] then false
 else if k=5 then zBY s t 0 else if k=6 then zBY s t ((s.length:Int)-t.length) else (List.range s.length).any fun i=>zBY s t i
def zER (d:List Nd) (n:Nat):List Int:=if n=0 then [0] else kidsUp d n d.length
where kidsUp (d:List Nd) (n k:Nat):List Int:=((List.range k).filter fun i=>decide (zAB d i=zAB d n)).map Int.ofNat
def zBz (l:List Int) (n:Int):Int:=match l.findIdx? (fun x=>decide (x=n)) with
 |some i=>i
 |none=>-1
def zLQ (d:List Nd) (m n:Nat):Bool:=(zBk d d.length (zAB d n)).contains (m:Int)
def yGA (d:List Nd) (link:Int) (m n:Nat):Bool:=
 if link=1 then zLQ d m n else if link=2 then decide (zAB d n=m)
 else if link=3 then decide (0≤zBz (zER d n) m)&&decide (zBz (zER d n) m+1=zBz (zER d n) n)
 else decide (0≤zBz (zER d n) m)&&decide (zBz (zER d n) m < zBz (zER d n) n)
def yK7 (d:List Nd) (n:Nat):List Nat:=(List.range d.length).filter fun i=>decide (zAB d i=n)
def zDU (d:List Nd) (ps:List (Nat→Bool)) (lk:List Int):Nat→Nat→Bool
 |0,n=>ps.getD 0 (fun _=>false) n
 |k+1,n=>ps.getD (k+1) (fun _=>false) n&&(List.range n).any fun m=>yGA d (lk.getD k 0) m n&&zDU d ps lk k m
def yD1 (a b i:Int):Bool:=if zVO a b=0∧1≤i∧i≤1073741824 then (if a=0∨i=b then decide (i=b) else if 0 < a then decide (b < i)&&decide ((i-b).tmod a=0) else decide (i < b)&&decide ((b-i).tmod (-a)=0)) else false
def zOH (d:List Nd) (k:Int) (nm v:Bys) (a b:Int) (lp:Nat→Bool) (n:Nat):Bool:=
 let x:=d.getD n default
 if k=1 then x.cls.any (fun c=>decide (c=nm)) else if k=2 then decide (x.id=nm)
 else if k≤8 then (match zIa x.att nm with|some s=>zG6 k s v|none=>false)
 else if k=9 then yD1 a b (zBz (zER d n) n+1) else if k=10 then yD1 a b ((zER d n).length-zBz (zER d n) n)
 else if k=11 then decide (yK7 d n=[]) else if k=12 then decide (n=0) else if k=13 then !lp n else if k=14 then lp n
 else (List.range d.length).any fun m=>zLQ d n m&&lp m
mutual
def tM (d:List Nd):Ts→Nat→Bool
 |.mk k nm v a b l=>zOH d k nm v a b (lM d l)
def lM (d:List Nd):List Pt→Nat→Bool
 |[]=>fun _=>false
 |p::r=>fun n=>pM d p n||lM d r n
def pM (d:List Nd):Pt→Nat→Bool
 |.mk s lk=>zDU d (ssM d s) lk (s.length-1)
def ssM (d:List Nd):List St→List (Nat→Bool)
 |[]=>[]
 |s::r=>sM d s::ssM d r
def sM (d:List Nd):St→Nat→Bool
 |.mk t l=>fun n=>(decide (t=[])||decide (t=(d.getD n default).tag))&&tsM d l n
def tsM (d:List Nd):List Ts→Nat→Bool
 |[]=>fun _=>true
 |t::r=>fun n=>tM d t n&&tsM d r n
end
theorem yGB (d:List Nd) (n:Nat):∀ l:List Pt,lM d l n=l.any fun p=>pM d p n
 |[]=>by rw [lM];rfl
 |p::r=>by rw [lM,List.any_cons,←yGB d n r]
theorem yGC (d:List Nd) (n:Nat):∀ l:List Ts,tsM d l n=l.all fun t=>tM d t n
 |[]=>by rw [tsM];rfl
 |t::r=>by rw [tsM,List.all_cons,←yGC d n r]
theorem yGD (d:List Nd):∀ l:List St,ssM d l=l.map (sM d)
 |[]=>by rw [ssM];rfl
 |s::r=>by rw [ssM,yGD d r];rfl
theorem yIE (d:List Nd) (s:St) (n:Nat):sM d s n=((decide (s.tag=[])||decide (s.tag=(d.getD n default).tag))&&s.tests.all fun t=>tM d t n):=by
 obtain ⟨t,l⟩:=s
 rw [sM];show (_&&tsM d l n)=_;rw [yGC];rfl
theorem yNs (d:List Nd) (p:Pt):pM d p=zDU d (p.steps.map (sM d)) p.links (p.steps.length-1):=by
 obtain ⟨s,lk⟩:=p
 rw [pM,yGD];rfl
theorem yK8 (d:List Nd) (t:Ts):tM d t=zOH d t.kind t.name t.value t.na t.nb (lM d t.list):=by
 obtain ⟨k,nm,v,a,b,l⟩:=t
 rw [tM];rfl
end Go.Hx
end

section
/-
 What is looked up by a path's last step: every element that matches is among it. Plain Lean. No condition.
-/
set_option maxRecDepth 100000
set_option linter.unusedSimpArgs false
namespace Go.Hx
variable [Glob]
def yNt (l:List Ent) (k:Int) (nm:Bys):List Int×Int:=if k < 1∨3 < k then ([],4) else if 512 < l.length then ([],2) else (atK l (k,nm),0)
def zVQ (d:List Nd) (k:Key):List Int:=zAx (zAY d d.length) k
theorem yK9 (d:List Nd) (k:Key):atK (idxOf d) k=zVQ d k:=by
 have h2:=(zG5 _ (zAY d d.length) rfl).2
 unfold atK idxOf zVQ
 cases hf:(zBM (zAY d d.length)).find? (fun e=>decide (e.key=k)) with
 |none=>
  rw [List.find?_eq_none] at hf
  have:zAx (zAY d d.length) k=[]:=by
   unfold zAx
   rw [List.filter_eq_nil_iff.2 (fun q hq=>?_)]
   ·rfl
   ·intro hk
    have hk:q.1=k:=by simpa using hk
    have hm:(⟨k.1,k.2,zAx (zAY d d.length) k⟩:Ent)∈zBM (zAY d d.length):=(h2 _).2 ⟨List.mem_map.2 ⟨q,hq,hk⟩,rfl⟩
    exact hf _ hm (by simp [Ent.key])
  rw [this];rfl
 |some x=>
  have hx:=List.mem_of_find?_eq_some hf
  have hk:x.key=k:=by have:=List.find?_some hf;simpa using this
  have:=((h2 x).1 hx).2
  rw [hk] at this
  exact this
theorem zYJ (d:List Nd):∀ (n:Nat) (k:Key) (v:Int),(k,v)∈zAY d n↔∃ i:Nat,i < n∧v=i∧k∈zEO (d.getD i default)
 |0,k,v=>by simp [zAY]
 |n+1,k,v=>by
  rw [zAY,List.mem_append,zYJ d n k v,List.mem_map]
  constructor
  ·rintro (⟨i,h1,h2,h3⟩|⟨k',h1,h2⟩)
   ·exact ⟨i,by omega,h2,h3⟩
   ·injection h2 with h2 h3
    exact ⟨n,by omega,h3.symm,by rw [←h2];exact h1⟩
  ·rintro ⟨i,h1,h2,h3⟩
   by_cases h:i < n
   ·exact .inl ⟨i,h,h2,h3⟩
   ·have:i=n:=by omega
    subst this
    exact .inr ⟨k,h3,by rw [h2]⟩
theorem zPC (d:List Nd) (k:Key) (v:Int):v∈zVQ d k↔∃ i:Nat,i < d.length∧v=i∧k∈zEO (d.getD i default):=by
 unfold zVQ zAx
 rw [List.mem_map,←zYJ]
 constructor
 ·rintro ⟨q,h1,h2⟩
  rw [List.mem_filter] at h1
  have:=h1.2
  simp only [decide_eq_true_eq] at this
  rw [←this,←h2];exact h1.1
 ·intro h
  exact ⟨(k,v),List.mem_filter.2 ⟨h,by simp⟩,rfl⟩
theorem yIF (d:List Nd) (hcls:∀ i,i < d.length→(d.getD i default).cls.length≤64) (k:Key):(zVQ d k).length≤d.length * 66:=
 Nat.le_trans (zEP _ _) (zEQ d d.length fun i hi=>hcls i hi)
theorem zIb (d:List Nd):∀ (n:Nat),(∀ i,i < n→(d.getD i default).cls.length≤6)→(zAY d n).length≤n * 8
 |0,_=>by simp [zAY]
 |n+1,h=>by
  have h1:=zIb d n fun i hi=>h i (by omega)
  have h2:=zNq (d.getD n default)
  have h3:=h n (by omega)
  rw [zAY,List.length_append,List.length_map]
  omega
theorem yGE (ps:List (Key×Int)):(zBM ps).length≤ps.length:=by
 have hi:∀ (es:List Ent) (k:Key) (n:Int),(zOG es k n).length≤es.length+1:=by
  intro es k n
  induction es with
  |nil=>simp [zOG]
  |cons e r ih=>
   rw [zOG]
   split
   ·simpa using ih
   ·split<;>simp
 have:∀ (ps:List (Key×Int)) (l:List Ent),(ps.foldl (fun l p=>zOG l p.1 p.2) l).length≤l.length+ps.length:=by
  intro ps
  induction ps with
  |nil=>intro l;simp
  |cons p r ih=>
   intro l
   have h1:=hi l p.1 p.2
   have:=ih (zOG l p.1 p.2)
   rw [List.foldl_cons,List.length_cons]
   omega
 have:=this ps []
 simpa [zBM] using this
theorem yIG (d:List Nd) (h64:d.length≤64) (hcls:∀ i,i < d.length→(d.getD i default).cls.length≤6) {k:Int} (h1:1≤k) (h3:k≤3) (nm:Bys):yNt (idxOf d) k nm=(zVQ d (k,nm),0):=by
 have h2:=zIb d d.length fun i hi=>hcls i hi
 have h4:=yGE (zAY d d.length)
 have h5:(idxOf d).length≤512:=by unfold idxOf;omega
 unfold yNt
 rw [if_neg (by omega),if_neg (by omega),yK9]
def zSF (s:Bool×List Int) (l:List Int):Bool×List Int:=if s.1=false∨l.length < s.2.length then (true,l) else s
def zEg (d:List Nd) (s:Bool×List Int) (t:Ts):Bool×List Int:=if t.kind=2 then zSF s (zVQ d (2,t.name)) else if t.kind=1 then zSF s (zVQ d (3,t.name)) else s
def zFM (d:List Nd) (s:St):Bool×List Int:=if s.tag=[] then (false,[]) else zSF (false,[]) (zVQ d (1,s.tag))
def zFN (p:Pt):St:=p.steps.getD (p.steps.length-1) default
def yNU (d:List Nd):List Int:=(List.range d.length).map Int.ofNat
def zQy (d:List Nd) (p:Pt):List Int:=
 let r:=(zFN p).tests.foldl (zEg d) (zFM d (zFN p))
 if r.1 then r.2 else yNU d
def yNu (d:List Nd) (q:Nat→Prop) (s:Bool×List Int):Prop:=(s.1=true→∀ n:Nat,n < d.length→q n→(n:Int)∈s.2)∧(∀ v∈s.2,∃ n:Nat,n < d.length∧v=n)∧s.2.length≤4224
theorem yBq {d:List Nd} {q:Nat→Prop} {s:Bool×List Int} {l:List Int} (h:yNu d q s) (h1:∀ n:Nat,n < d.length→q n→(n:Int)∈l) (h2:∀ v∈l,∃ n:Nat,n < d.length∧v=n) (h3:l.length≤4224):yNu d q (zSF s l):=by
 unfold zSF
 split
 ·exact ⟨fun _=>h1,h2,h3⟩
 ·exact h
theorem zQz {d:List Nd} (h64:d.length≤64) (hcls:∀ i,i < d.length→(d.getD i default).cls.length≤64) (k:Key):(∀ v∈zVQ d k,∃ n:Nat,n < d.length∧v=n)∧(zVQ d k).length≤4224:=by
 refine ⟨fun v hv=>?_,?_⟩
 ·obtain ⟨i,h1,h2,_⟩:=(zPC d k v).1 hv
  exact ⟨i,h1,h2⟩
 ·have:=yIF d hcls k
  omega
theorem yD2 {d:List Nd} (h64:d.length≤64) (hcls:∀ i,i < d.length→(d.getD i default).cls.length≤64) (q:Nat→Prop):∀ (l:List Ts),(∀ t∈l,(t.kind=2→∀ n:Nat,n < d.length→q n→(2,t.name)∈zEO (d.getD n default))∧(t.kind=1→∀ n:Nat,n < d.length→q n→(3,t.name)∈zEO (d.getD n default)))→∀ s,yNu d q s→yNu d q (l.foldl (zEg d) s)
 |[],_,s,h=>h
 |t::r,ht,s,h=>by
  rw [List.foldl_cons]
  refine yD2 h64 hcls q r (fun t' h'=>ht t' (List.mem_cons_of_mem _ h')) _ ?_
  obtain ⟨g1,g2⟩:=ht t List.mem_cons_self
  unfold zEg
  split
  ·rename_i hk
   obtain ⟨h1,h2⟩:=zQz h64 hcls (2,t.name)
   exact yBq h (fun n hn hq=>(zPC d _ _).2 ⟨n,hn,rfl,g1 hk n hn hq⟩) h1 h2
  ·split
   ·rename_i hk
    obtain ⟨h1,h2⟩:=zQz h64 hcls (3,t.name)
    exact yBq h (fun n hn hq=>(zPC d _ _).2 ⟨n,hn,rfl,g2 hk n hn hq⟩) h1 h2
   ·exact h
theorem yBr {d:List Nd} {p:Pt} {n:Nat} (h0:1≤p.steps.length) (h:pM d p n=true):sM d (zFN p) n=true:=by
 rw [yNs] at h
 have hl:(p.steps.map (sM d)).getD (p.steps.length-1) (fun _=>false)=sM d (zFN p):=by
  have hlt:p.steps.length-1 < p.steps.length:=by omega
  simp [zFN,hlt]
 cases hk:p.steps.length-1 with
 |zero=>rw [hk,zDU,←hk,hl] at h;exact h
 |succ k=>rw [hk,zDU,←hk,hl,Bool.and_eq_true] at h;exact h.1
theorem yIH {d:List Nd} (h64:d.length≤64) (hcls:∀ i,i < d.length→(d.getD i default).cls.length≤64) {p:Pt} (hp:GP p 1):
  (∀ n:Nat,n < d.length→pM d p n=true→(n:Int)∈zQy d p)∧(∀ v∈zQy d p,∃ n:Nat,n < d.length∧v=n)∧(zQy d p).length≤4224:=by
 obtain ⟨k1,k2,k3,k4,k5⟩:=hp.parts'
 have hg:GS (zFN p) 1:=GSs.get k5 _ (by omega)
 obtain ⟨tg,ts⟩:∃ tg ts,zFN p=St.mk tg ts:=by cases zFN p;exact ⟨_,_,rfl⟩
 obtain ⟨ts,htg⟩:=ts
 have hg':=hg
 rw [htg] at hg'
 obtain ⟨q1,q2,q3⟩:=hg'.parts
 have hs:yNu d (fun n=>sM d (zFN p) n=true) ((zFN p).tests.foldl (zEg d) (zFM d (zFN p))):=by
  refine yD2 h64 hcls _ _ (fun t ht=>?_) _ ?_
  ·have hgt:GT t 1:=by
    obtain ⟨i,hi,rfl⟩:=List.mem_iff_getElem.1 ht
    have:=GTs.get hg.parts'.2 i hi
    simpa [hi] using this
   obtain ⟨k,nm,v,a,b,l⟩:=t
   obtain ⟨r1,r2,_⟩:=hgt.parts
   refine ⟨fun hk n hn hq=>?_,fun hk n hn hq=>?_⟩
   ·have hk:k=2:=hk
    subst hk
    rw [yIE,Bool.and_eq_true,List.all_eq_true] at hq
    have:=hq.2 _ ht
    rw [yK8] at this
    simp only [zOH,Ts.kind,Ts.name] at this
    simp only [show ¬ ((2:Int)=1) by decide,if_false,if_true] at this
    have this:(d.getD n default).id=nm:=of_decide_eq_true this
    simp only [show (2:Int)≤8 by decide,if_true] at r2
    have hne:(d.getD n default).id≠[]:=by
     rw [this];intro e;rw [e] at r2;simp [zCW] at r2
    unfold zEO
    rw [if_neg hne,this]
    simp [Ts.name]
   ·have hk:k=1:=hk
    subst hk
    rw [yIE,Bool.and_eq_true,List.all_eq_true] at hq
    have:=hq.2 _ ht
    rw [yK8] at this
    simp only [zOH,Ts.kind,Ts.name,if_true,List.any_eq_true,decide_eq_true_eq] at this
    obtain ⟨c,hc,hcn⟩:=this
    have hc:nm∈(d.getD n default).cls:=by rw [←of_decide_eq_true hcn];exact hc
    unfold zEO
    refine List.mem_cons_of_mem _ (List.mem_append_right _ (List.mem_map.2 ⟨nm,hc,rfl⟩))
  ·unfold zFM
   split
   ·exact ⟨(fun h=>nomatch h),(fun v hv=>nomatch hv),Nat.zero_le _⟩
   ·rename_i hne
    obtain ⟨h1,h2⟩:=zQz h64 hcls (1,(zFN p).tag)
    refine yBq ⟨(fun h=>nomatch h),(fun v hv=>nomatch hv),Nat.zero_le _⟩ (fun n hn hq=>(zPC d _ _).2 ⟨n,hn,rfl,?_⟩) h1 h2
    have hq:sM d (zFN p) n=true:=hq
    rw [yIE,Bool.and_eq_true,Bool.or_eq_true] at hq
    have:(zFN p).tag=(d.getD n default).tag:=by
     rcases hq.1 with h|h
     ·exact absurd (by simpa using h) hne
     ·simpa using h
    unfold zEO
    rw [this];simp
 unfold zQy
 simp only
 split
 ·rename_i hr
  exact ⟨fun n hn hp=>hs.1 hr n hn (yBr k1 hp),hs.2.1,hs.2.2⟩
 ·refine ⟨fun n hn _=>List.mem_map.2 ⟨n,List.mem_range.2 hn,rfl⟩,fun v hv=>?_,by simp [yNU];omega⟩
  obtain ⟨n,hn,rfl⟩:=List.mem_map.1 hv
  exact ⟨n,List.mem_range.1 hn,rfl⟩
end Go.Hx
end

section
/-
 Shorter words for printed code; a function's contract out of its code by one computation; the first frame's words. Generic over the program. No condition.
-/
namespace Go.Hx
open Go.RowKit
variable [Glob]
abbrev oV (d:Nat) (v:VOp):HO:=⟨none,.val d v⟩
abbrev oG (g:Nat) (b:Bool) (d:Nat) (v:VOp):HO:=⟨some (g,b),.val d v⟩
abbrev oC (d:Nat) (f:FuncId) (l:List (Opd×AM)):HO:=⟨none,.call (some d) f l⟩
abbrev oD (i:Nat) (l:Bool) (h:HO):DO:=⟨i,l,h⟩
abbrev oN (l:List HO):HCode:=.reg l false []
abbrev oR (l:List HO) (f:List Nat):HCode:=.reg l false [.forget f]
abbrev oQ (l:List DO) (f:List Nat):HCode:=.drg l [.forget f]
def foB (E:Env) (base:Nat) (av:List AV):Bool:=Nat.ble av.length E.N&&Nat.ble (zVC av) 1&&Nat.ble (nIo av) 1&&match ioOf av with|some cs=>E.nfix==1&&E.Γ[0]?==some (base,cs.length)|none=>E.nfix==0
theorem fo {E:Env} {base:Nat} {av:List AV} (h:foB E base av=true):zYu E base av:=by
 unfold foB at h
 simp only [Bool.and_eq_true] at h
 refine ⟨Nat.le_of_ble_eq_true h.1.1.1,Nat.le_of_ble_eq_true h.1.1.2,Nat.le_of_ble_eq_true h.1.2,?_⟩
 have h2:=h.2
 split at h2
 ·rename_i cs e
  try rw [e]
  simpa using h2
 ·rename_i e
  try rw [e]
  simpa using h2
def zBE (P:Program) (f:FuncId) (h:HCode) (E:Env) (R:List RSrc):Bool:=match P.funcs[f]? with
 |some fn=>match fn.body with
  |some c=>zCs P f&&(E.ok&&E.unaOk)&&(E.N==fn.ntmps)&&zCV P E c h&&zEN P E R fn.results.toList
  |none=>false
 |none=>false
theorem mkA {P:Program} {f:FuncId} {h:HCode} {E:Env} {R:List RSrc} (hc:zBE P f h E R=true) {base:Nat} {av:List AV} {r:RV} (hfo:zYu E base av) (hW:AVs.fits av→hwp P h (yED E base av R r) (F0 E base av)) (hov:∀ x,r.res=.ov x→zVC av=0:=by intro x h;cases h<;>rfl):Contract P f av r:=by
 unfold zBE at hc
 split at hc
 ·rename_i fn hf
  split at hc
  ·rename_i c hb
   simp only [Bool.and_eq_true,beq_iff_eq] at hc
   exact zSM (fn:=fn) (c:=c) hf hb hc.1.1.1.1 (by simp [hc.1.1.1.2]) hc.1.1.2 hc.1.2 hc.2 hfo hW hov
  ·cases hc
 ·cases hc
theorem yLe {p:Prop} (h:p:=by repeat' (first|exact trivial|exact zBa (by omega)|exact zAX rfl|exact zBb rfl|exact zBB|exact le_refl _|refine And.intro ?_ ?_)):p:=h
theorem yIn:(∀ F,zSL [] F=F)∧(∀ i r F,zSL (i::r) F=zSL r (F.set i .una))∧(∀ (a:Ct) l n b,(a::l).set (n+1) b=a::l.set n b)∧(∀ (a:Ct) l b,(a::l).set 0 b=b::l)∧
  (∀ (f:AV→Ct),[].map f=[])∧(∀ (f:AV→Ct) a l,(a::l).map f=f a::l.map f)∧(∀ (f:PV→Ct),[].map f=[])∧(∀ (f:PV→Ct) a l,(a::l).map f=f a::l.map f)∧
  (∀ x,zNo (.val x)=.pv x)∧(∀ e k r,zNo (.own e k r)=.own e k r)∧(∀ x,zNo (.io x)=.ptr 0 0)∧(∀ F i,zAl F i []=F)∧(∀ F i c l,zAl F i (c::l)=zAl (F.set i c) (i+1) l)∧
  (ioOf []=none)∧(∀ x l,ioOf (.val x::l)=ioOf l)∧(∀ e k r l,ioOf (.own e k r::l)=ioOf l)∧(∀ x l,ioOf (.io x::l)=some x)∧
  (([]:List AV).length=0)∧(∀ (a:AV) l,(a::l).length=l.length+1)∧(∀ a:Ct,List.replicate 0 a=[])∧(∀ (a:Ct) n,List.replicate (n+1) a=a::List.replicate n a)∧
  (∀ (a:Ct) l r,a::l++r=a::(l++r))∧(∀ l:List Ct,[]++l=l):=by
 refine ⟨fun _=>rfl,fun _ _ _=>rfl,fun _ _ _ _=>rfl,fun _ _ _=>rfl,fun _=>rfl,fun _ _ _=>rfl,fun _=>rfl,fun _ _ _=>rfl,fun _=>rfl,fun _ _ _=>rfl,fun _=>rfl,fun _ _=>rfl,fun _ _ _ _=>rfl,rfl,fun _ _=>rfl,fun _ _ _ _=>rfl,fun _ _=>rfl,rfl,fun _ _=>rfl,fun _=>rfl,fun _ _=>rfl,fun _ _ _=>rfl,fun _=>rfl⟩
end Go.Hx
end

section
/-
 THE ABSTRACT LAYER: a closure's contract out of its code. Generic over the program. No condition.
-/
namespace Go.Hx
open Go.RowKit
variable [Glob]
def zJH:List CA→Nat→List Ct
 |[],_=>[]
 |.v x::r,j=>.pv (.one x)::zJH r j
 |.io _::r,j=>.ptr j 0::zJH r (j+1)
def zYf:List CA→List (List PV)
 |[]=>[]
 |.v _::r=>zYf r
 |.io c::r=>c::zYf r
def F0c (E:Env) (bxs:List (Nat×Nat×Nat)) (as:List AV) (cas:List CA):List Ct:=zSL E.una (
 zFj (as.map zNo++zJH cas 0++List.replicate (E.L-as.length-cas.length) .un) bxs (zYf cas))
def yBs (E:Env) (bxs:List (Nat×Nat×Nat)) (as:List AV) (cas:List CA):Prop:=
 as.length+cas.length≤E.N∧(∀ x∈as,∃ p,x=.val p)∧E.nfix=bxs.length∧bxs.map (·.1)=List.range bxs.length∧(zYf cas).map List.length=bxs.map (·.2.2)
def zUB (F:List Ct):List (Nat×Nat×Nat)→Option (List (List PV))
 |[]=>some []
 |(_,base,n)::r=>match zAM F base n,zUB F r with
  |some c,some l=>some (c::l)
  |_,_=>none
def yNv (bxs:List (Nat×Nat×Nat)) (io':List (List PV)):Exit→List Ct→Prop
 |.normal,F|.ret,F=>zUB F bxs=some io'
 |_,_=>False
section
variable {P:Program} {E:Env} {m:Mem} {w:World}
theorem zGh:∀ (cas:List CA) (j:Nat),(zJH cas j).length=cas.length
 |[],_=>rfl
 |.v x::r,j=>by simp [zJH,zGh r]
 |.io c::r,j=>by simp [zJH,zGh r]
theorem CArgs.len:∀ {cas:List CA} {cus:List Value} {bs:List Nat},CArgs m w cas cus bs→cus.length=cas.length∧bs.length=(zYf cas).length
 |[],cus,bs,h=>by obtain ⟨rfl,rfl⟩:=h;exact ⟨rfl,rfl⟩
 |.v x::r,cus,bs,h=>by
  obtain ⟨u,us',rfl,_,h3⟩:=h
  obtain ⟨h4,h5⟩:=h3.len
  exact ⟨by simp [h4],h5⟩
 |.io c::r,cus,bs,h=>by
  obtain ⟨b,us',bs',rfl,rfl,_,h3⟩:=h
  obtain ⟨h4,h5⟩:=h3.len
  exact ⟨by simp [h4],by simp [zYf,h5]⟩
theorem CArgs.slot {ow:Ow} {β:Bx}:∀ {cas:List CA} {cus:List Value} {bs:List Nat} {j0:Nat},CArgs m w cas cus bs→(∀ j b,bs[j]?=some b→β (j0+j)=some b)→∀ (i n:Nat) (c:Ct),(zJH cas j0)[i]?=some c→∃ u,cus[i]?=some u∧CtRep m w β ow n c u
 |[],cus,bs,j0,h,hβ,i,n,c,hc=>by simp [zJH] at hc
 |.v x::r,cus,bs,j0,h,hβ,i,n,c,hc=>by
  obtain ⟨u,us',rfl,h2,h3⟩:=h
  cases i with
  |zero=>
   simp only [zJH,List.getElem?_cons_zero,Option.some.injEq] at hc
   subst hc
   exact ⟨u,rfl,h2⟩
  |succ i=>
   obtain ⟨v,g1,g2⟩:=h3.slot (ow:=ow) hβ i n c (by simpa [zJH] using hc)
   exact ⟨v,by simpa using g1,g2⟩
 |.io l::r,cus,bs,j0,h,hβ,i,n,c,hc=>by
  obtain ⟨b,us',bs',rfl,rfl,h2,h3⟩:=h
  cases i with
  |zero=>
   simp only [zJH,List.getElem?_cons_zero,Option.some.injEq] at hc
   subst hc
   exact ⟨_,rfl,b,by have:=hβ 0 b rfl;simpa using this,rfl⟩
  |succ i=>
   obtain ⟨v,g1,g2⟩:=h3.slot (ow:=ow) (j0:=j0+1) (fun j b' hj=>by have:=hβ (j+1) b' (by simpa using hj);rw [←this];congr 1;omega) i n c (by simpa [zJH] using hc)
   exact ⟨v,by simpa using g1,g2⟩
theorem CArgs.box:∀ {cas:List CA} {cus:List Value} {bs:List Nat},CArgs m w cas cus bs→∀ (j:Nat) (l:List PV),(zYf cas)[j]?=some l→∃ b:Nat,bs[j]?=some b∧yNY m w b l
 |[],cus,bs,h,j,l,hl=>by simp [zYf] at hl
 |.v x::r,cus,bs,h,j,l,hl=>by
  obtain ⟨u,us',rfl,h2,h3⟩:=h
  exact h3.box j l hl
 |.io c::r,cus,bs,h,j,l,hl=>by
  obtain ⟨b,us',bs',rfl,rfl,h2,h3⟩:=h
  cases j with
  |zero=>
   simp only [zYf,List.getElem?_cons_zero,Option.some.injEq] at hl
   subst hl
   exact ⟨b,rfl,h2⟩
  |succ j=>
   obtain ⟨b',g1,g2⟩:=h3.box j l (by simpa [zYf] using hl)
   exact ⟨b',by simpa using g1,g2⟩
theorem zUC {F:List Ct}:∀ {bxs:List (Nat×Nat×Nat)} {io:List (List PV)},zUB F bxs=some io→io.length=bxs.length∧∀ (k:Nat) (bx:Nat×Nat×Nat) (l:List PV),bxs[k]?=some bx→io[k]?=some l→zAM F bx.2.1 bx.2.2=some l
 |[],io,h=>by
  simp only [zUB,Option.some.injEq] at h
  subst h
  exact ⟨rfl,fun k bx l hk=>by simp at hk⟩
 |(j,base,n)::r,io,h=>by
  simp only [zUB] at h
  split at h
  ·rename_i c l e1 e2
   injection h with h
   subst h
   obtain ⟨h1,h2⟩:=zUC e2
   refine ⟨by simp [h1],fun k bx l' hk hl=>?_⟩
   cases k with
   |zero=>
    simp only [List.getElem?_cons_zero,Option.some.injEq] at hk hl
    subst hk;subst hl
    exact e1
   |succ k=>exact h2 k bx l' (by simpa using hk) (by simpa using hl)
  ·cases h
theorem yEK (hun:E.unaOk=true) (wf:E.Wf) {bxs:List (Nat×Nat×Nat)} (hbx:yA6 E bxs=true) {as:List AV} {cas:List CA} {us cus:List Value} {bs:List Nat} (hf:yBs E bxs as cas) (hm:MemOk m w) (ha:ArgsRep m w as us) (hc:CArgs m w cas cus bs) (hnd:bs.Nodup) (hG0:Glob.ok w) (hGR:∀ b∈bs,Glob.n≤b):
  Inv E {w0:=w,m0:=m,R0:=fun b=>b∈bs,b0:=fun j=>bs[j]?,g0:=hG0,gR:=hGR} (F0c E bxs as cas) {tmps:=(us++cus).toArray++Array.replicate (E.N-(us++cus).toArray.size) undef,defers:=[]} w:=by
 obtain ⟨hlen,hval,hnf,hrg,hls⟩:=hf
 simp only [yA6,Bool.and_eq_true,List.all_eq_true,decide_eq_true_eq] at hbx
 have hb:∀ bx∈bxs,E.Γ[bx.1]?=some (bx.2.1,bx.2.2):=fun bx hbx'=>zDW (hbx.1 bx hbx')
 have hul:=ha.length
 obtain ⟨hcl,hbl⟩:=hc.len
 have hNL:=wf.le
 have hbl2:bs.length=bxs.length:=by
  have:=congrArg List.length hls
  simp only [List.length_map] at this
  omega
 have hfst:∀ (k:Nat) (bx:Nat×Nat×Nat),bxs[k]?=some bx→bx.1=k:=by
  intro k bx hk
  have h1:(bxs.map (·.1))[k]?=some bx.1:=by rw [List.getElem?_map,hk];rfl
  rw [hrg,List.getElem?_range (List.getElem?_eq_some_iff.1 hk).1] at h1
  injection h1 with h1;exact h1.symm
 have hlo:∀ bx∈bxs,E.N≤bx.2.1:=fun bx hbx'=>wf.lo bx.1 _ (hb bx hbx')
 let G:=as.map zNo++zJH cas 0++List.replicate (E.L-as.length-cas.length) Ct.un
 have hFl:G.length=E.L:=by simp only [G,List.length_append,List.length_map,zGh,List.length_replicate];omega
 obtain ⟨s1,s2,s3⟩:=zP9 wf (io:=zYf cas) hFl hb hbx.2 hls
 refine ⟨m,fun j=>bs[j]?,fun b=>if b∈bs then some (.box (bs.idxOf b)) else none,?_⟩
 refine zQn wf _ _ (fun i hi=>?_) ?_
 ·have hu:=List.all_eq_true.1 hun i hi
  simp only [Bool.and_eq_true,decide_eq_true_eq] at hu
  refine ⟨hu.1,fun j bn b hj hb'=>?_⟩
  have hjl:j < E.nfix:=by rw [hnf,←hbl2];exact (List.getElem?_eq_some_iff.1 hb').1
  have:=List.all_eq_true.1 hu.2 j (by simpa using hjl)
  rw [hj] at this
  simpa using this
 refine ⟨s1.trans hFl,by simp;omega,rfl,?_,?_,hm,m.le_refl,Pres.refl _ _,?_,?_,fun b o u h=>.inl h,fun j _=>rfl⟩
 ·intro i hi
  rw [s2 i fun bx hbx'=>by have:=hlo bx hbx';omega]
  have ht:∀ (u:Value),(us++cus)[i]?=some u→((us++cus).toArray++Array.replicate (E.N-(us++cus).toArray.size) undef).getD i undef=u:=by
   intro u hu
   have hil:=(List.getElem?_eq_some_iff.1 hu).1
   rw [Array.getD_eq_getD_getElem?,Array.getElem?_append_left (by simpa using hil)]
   simp only [List.getElem?_toArray,hu,Option.getD_some]
  by_cases hia:i < as.length
  ·have e1:G.getD i .un=zNo as[i]:=by
    simp only [G]
    rw [List.append_assoc,List.getD_eq_getElem?_getD,List.getElem?_append_left (by simpa using hia),List.getElem?_map,List.getElem?_eq_getElem hia];rfl
   rw [e1]
   obtain ⟨u,h1,h2⟩:=ha.get i as[i] (List.getElem?_eq_getElem hia)
   rw [ht u (by rw [List.getElem?_append_left (by omega)];exact h1)]
   obtain ⟨p,hp⟩:=hval as[i] (List.getElem_mem hia)
   rw [hp] at h2 ⊢
   exact h2
  ·by_cases hic:i < as.length+cas.length
   ·have hk:i-as.length < (zJH cas 0).length:=by rw [zGh];omega
    have e1:G.getD i .un=(zJH cas 0)[i-as.length]:=by
     simp only [G]
     rw [List.append_assoc,List.getD_eq_getElem?_getD,List.getElem?_append_right (by simpa using Nat.le_of_not_lt hia),List.length_map,List.getElem?_append_left hk,List.getElem?_eq_getElem hk];rfl
    rw [e1]
    obtain ⟨u,h1,h2⟩:=hc.slot (ow:=fun b=>if b∈bs then some (.box (bs.idxOf b)) else none) (β:=fun j=>bs[j]?) (j0:=0) (fun j b hj=>by simpa using hj) (i-as.length) i _ (List.getElem?_eq_getElem hk)
    rw [ht u (by rw [List.getElem?_append_right (by omega),hul];exact h1)]
    exact h2
   ·have e1:G.getD i .un=.un:=by
     simp only [G]
     rw [List.getD_eq_getElem?_getD,List.getElem?_append_right (by simp [zGh];omega),List.getElem?_replicate]
     split<;>rfl
    rw [e1]
    trivial
 ·intro j bn hj
  by_cases hjb:j < bxs.length
  ·have hk:=List.getElem?_eq_getElem hjb
   have hj1:=hfst j _ hk
   have hj2:=hb bxs[j] (List.getElem_mem hjb)
   rw [hj1,hj] at hj2
   injection hj2 with hj2
   subst hj2
   have hjc:j < (zYf cas).length:=by rw [←hbl,hbl2];exact hjb
   have hl:=List.getElem?_eq_getElem hjc
   obtain ⟨b,g1,g2,vs,T,g3,g4⟩:=hc.box j _ hl
   simp only [g1]
   have hbm:b∈bs:=List.mem_of_getElem? g1
   have hix:bs.idxOf b=j:=by
    have hjl:=(List.getElem?_eq_some_iff.1 g1).1
    have e:bs[j]=b:=by rw [List.getElem?_eq_getElem hjl] at g1;injection g1
    rw [←e]
    exact hnd.idxOf_getElem j hjl
   have hll:((zYf cas)[j]).length=bxs[j].2.2:=by
    have e1:((zYf cas).map List.length)[j]?=some ((zYf cas)[j]).length:=by rw [List.getElem?_map,hl];rfl
    have e2:(bxs.map (·.2.2))[j]?=some bxs[j].2.2:=by rw [List.getElem?_map,hk];rfl
    rw [hls,e2] at e1
    injection e1 with e1;exact e1.symm
   have hvl:=g4.length
   refine ⟨by simp only [if_pos hbm,hix],g2,vs,T,g3,by simpa [hll] using hvl,fun o ho=>?_⟩
   simp only at ho ⊢
   rw [s3 j _ _ hk hl o ho]
   have ho2:o < ((zYf cas)[j]).length:=by omega
   have ho3:o < vs.toList.length:=by omega
   rw [List.getD_eq_getElem?_getD,List.getElem?_map,List.getElem?_eq_getElem ho2]
   have e3:vs.getD o undef=vs.toList[o]:=by
    rw [Array.getD_eq_getD_getElem?,←Array.getElem?_toList,List.getElem?_eq_getElem ho3];rfl
   rw [e3]
   exact g4.get _ _ _ (List.getElem?_eq_getElem ho2) (List.getElem?_eq_getElem ho3)
  ·have e0:bs[j]?=none:=List.getElem?_eq_none (by omega)
   simp only [e0]
   intro o ho
   have hjN:=wf.lo j bn hj
   rw [s2 _ fun bx hbx'=>?_]
   ·left
    simp only [G]
    rw [List.getD_eq_getElem?_getD,List.getElem?_append_right (by simp [zGh];omega),List.getElem?_replicate]
    split<;>rfl
   ·obtain ⟨k,hk⟩:=List.getElem?_of_mem hbx'
    have hkl:=(List.getElem?_eq_some_iff.1 hk).1
    have hne:j≠bx.1:=by rw [hfst k bx hk];omega
    have:=wf.ap j bx.1 _ _ hj (hb bx hbx') hne
    simp only at this
    omega
 ·intro b t hb'
  split at hb'
  ·rename_i h;exact .inr h
  ·cases hb'
 ·intro b t hb'
  split at hb'
  ·rename_i h
   obtain ⟨k,hk⟩:=List.getElem?_of_mem h
   have hkl:k < (zYf cas).length:=by rw [←hbl];exact (List.getElem?_eq_some_iff.1 hk).1
   obtain ⟨b',g1,_,vs,T,g3,_⟩:=hc.box k _ (List.getElem?_eq_getElem hkl)
   rw [hk] at g1
   injection g1 with g1
   subst g1
   exact (Array.getElem?_eq_some_iff.1 g3).1
  ·cases hb'
theorem zQA {f:FuncId} {fn:Func} {c:Code} (hf:P.funcs[f]?=some fn) (hb:fn.body=some c) (hcall:zCs P f=true) (hE':(E.ok&&E.unaOk)=true) (hN:E.N=fn.ntmps)
  {h:HCode} (hk:zCV P E c h=true) (hrs:fn.results.toList.isEmpty=true) {bxs:List (Nat×Nat×Nat)} (hbx:yA6 E bxs=true) {as:List AV} {cas:List CA} {io':List (List PV)} (hfo:yBs E bxs as cas) (hl:io'.map List.length=zPT cas) (hW:hwp P h (yNv bxs io') (F0c E bxs as cas)):zEH P f as cas io':=by
 have hE:=Bool.and_eq_true_iff.1 hE'
 have wf:=Env.wf_of_ok hE.1
 refine ⟨hcall,hl,fun m w us cus bs hm ha hca hnd hG0 hGR=>?_⟩
 have h0:=yEK hE.2 wf hbx hfo hm ha hca hnd hG0 hGR
 have hc:=zJC wf c h _ _ _ _ hk hW h0
 refine calls_of_wp hf hb ?_
 rw [←hN]
 refine wp_mono hc ?_
 obtain ⟨hlen,hval,hnf,hrg,hls⟩:=hfo
 obtain ⟨hcl,hbl⟩:=hca.len
 have hbl2:bs.length=bxs.length:=by
  have:=congrArg List.length hls
  simp only [List.length_map] at this
  omega
 simp only [yA6,Bool.and_eq_true,List.all_eq_true,decide_eq_true_eq] at hbx
 have hb:∀ bx∈bxs,E.Γ[bx.1]?=some (bx.2.1,bx.2.2):=fun bx hbx'=>zDW (hbx.1 bx hbx')
 have hfst:∀ (k:Nat) (bx:Nat×Nat×Nat),bxs[k]?=some bx→bx.1=k:=by
  intro k bx hk
  have h1:(bxs.map (·.1))[k]?=some bx.1:=by rw [List.getElem?_map,hk];rfl
  rw [hrg,List.getElem?_range (List.getElem?_eq_some_iff.1 hk).1] at h1
  injection h1 with h1;exact h1.symm
 have fin:∀ {F:List Ct} {a':Act} {w':World},zUB F bxs=some io'→
   Inv E {w0:=w,m0:=m,R0:=fun b=>b∈bs,b0:=fun j=>bs[j]?,g0:=hG0,gR:=hGR} F a' w'→
   a'.defers=[]∧∃ v,(results fn a'.tmps).run P w'=.ok v w'∧yMh m w bs io' (.returned v) w':=by
  rintro F a' w' hr ⟨m',β,ow,hG⟩
  refine ⟨hG.dfr,.tuple #[],?_,m',hG.mle,hG.mem,hG.pres,fun b o u hu=>?_,rfl,?_⟩
  ·have e:fn.results=#[]:=by
    have:fn.results.toList=[]:=by simpa using hrs
    exact Array.toList_eq_nil_iff.1 this
   unfold results
   rw [e]
   simp
  ·rcases hG.new b o u hu with g|g|g
   ·exact .inl g
   ·exact .inr g
   ·obtain ⟨k,hk⟩:=List.getElem?_of_mem g
    have hkl:k < bxs.length:=by rw [←hbl2];exact (List.getElem?_eq_some_iff.1 hk).1
    have hk2:=List.getElem?_eq_getElem hkl
    have hj:=hb bxs[k] (List.getElem_mem hkl)
    rw [hfst k _ hk2] at hj
    have hB:=hG.boxes k _ hj
    have hβ:β k=some b:=by rw [hG.fix k (by omega)];exact hk
    rw [hβ] at hB
    have:=hB.2.1 o
    rw [hu] at this
    cases this
  ·obtain ⟨g1,g2⟩:=zUC hr
   refine ⟨by omega,fun k l hkl=>?_⟩
   have hkb:k < bxs.length:=by rw [←g1];exact (List.getElem?_eq_some_iff.1 hkl).1
   have hkbs:k < bs.length:=by omega
   have hk2:=List.getElem?_eq_getElem hkb
   have hcv:=g2 k _ l hk2 hkl
   have hj:=hb bxs[k] (List.getElem_mem hkb)
   rw [hfst k _ hk2] at hj
   have hB:=hG.boxes k _ hj
   have hβ:β k=some bs[k]:=by rw [hG.fix k (by omega)];exact List.getElem?_eq_getElem hkbs
   rw [hβ] at hB
   obtain ⟨vs,T,k1,k2,k3⟩:=zH1 hB hcv
   exact ⟨bs[k],List.getElem?_eq_getElem hkbs,hB.2.1,vs,T,k1,k3⟩
 rintro e a' w' ⟨F,hq,hI⟩
 cases e with
 |normal=>exact fin hq hI
 |ret=>exact fin hq hI
 |panic ch=>exact hq.elim
 |exit id=>exact hq.elim
 |goto l=>exact hq.elim
 |outgrown=>exact hq.elim
end
end Go.Hx
end

section
/-
 Plainer lists of paths, as plain Lean data: the same lists, the first ones of equals, a list made plainer, how much it weighs. No condition.
-/
namespace Go.Hx
section
variable {α:Type} (eq:α→α→Bool)
end
end Go.Hx
end

section
/-
 A list made plainer: it weighs no more, it stays right, what is as plain as may be stays, and it matches what it matched. Plain Lean. No condition.
-/
set_option maxRecDepth 100000
set_option linter.unusedSimpArgs false
namespace Go.Hx
mutual
theorem zRM:∀ (l:List Pt) (d:Nat),yFP l (d+1)=false→yFP l d=false
 |[],_,_=>rfl
 |p::r,d,h=>by
  simp only [yFP,Bool.or_eq_false_iff] at h ⊢
  exact ⟨yI1 p d h.1,zRM r d h.2⟩
theorem yI1:∀ (p:Pt) (d:Nat),tmP p (d+1)=false→tmP p d=false
 |.mk s l,d,h=>by
  simp only [tmP,Bool.or_eq_false_iff] at h ⊢
  exact ⟨h.1,yAh s d h.2⟩
theorem yAh:∀ (l:List St) (d:Nat),yHO l (d+1)=false→yHO l d=false
 |[],_,_=>rfl
 |p::r,d,h=>by
  simp only [yHO,Bool.or_eq_false_iff] at h ⊢
  exact ⟨yI2 p d h.1,yAh r d h.2⟩
theorem yI2:∀ (p:St) (d:Nat),tmS p (d+1)=false→tmS p d=false
 |.mk t l,d,h=>by
  simp only [tmS,Bool.or_eq_false_iff] at h ⊢
  exact ⟨h.1,zRN l d h.2⟩
theorem zRN:∀ (l:List Ts) (d:Nat),yHP l (d+1)=false→yHP l d=false
 |[],_,_=>rfl
 |p::r,d,h=>by
  simp only [yHP,Bool.or_eq_false_iff] at h ⊢
  exact ⟨yEa p d h.1,zRN r d h.2⟩
theorem yEa:∀ (p:Ts) (d:Nat),tmT p (d+1)=false→tmT p d=false
 |.mk k n v a b l,d,h=>by
  simp only [tmT,Bool.and_eq_false_iff,Bool.or_eq_false_iff] at h ⊢
  rcases h with h|⟨⟨h1,h2⟩,h3⟩
  ·exact .inl h
  ·exact .inr ⟨⟨by simp only [decide_eq_false_iff_not] at h1 ⊢;omega,h2⟩,zRM l (d+1) h3⟩
end
theorem GT.mono {t:Ts} {d:Nat} (h:GT t (d+1)):GT t d:=⟨yEa t d h.1,h.2⟩
theorem GTs.mono {t:List Ts} {d:Nat} (h:GTs t (d+1)):GTs t d:=⟨zRN t d h.1,h.2⟩
theorem GPs.mono {t:List Pt} {d:Nat} (h:GPs t (d+1)):GPs t d:=⟨zRM t d h.1,h.2⟩
theorem GL.mono {t:List Pt} {d:Nat} (h:GL t (d+1)):GL t d:=⟨by have:=h.1;omega,h.2.1,h.2.2.1,h.2.2.2.mono⟩
theorem yG0 {l:List Pt} (h:GL l 1):zB8 l=0:=by
 obtain ⟨_,h1,h2,g1,g2,g3,g4⟩:=h
 unfold zB8 tmL
 rw [g1,g2,g3,g4]
 simp [h1,h2]
section
variable [Glob]
end
end Go.Hx
end

section
/-
 Lists of which the first ones are done and the others are not; small laws on owned trees. No condition.
-/
namespace Go.Hx
open Go.RowKit
section
variable {α β:Type}
variable {f g:α→β} {l:List α} {k:Nat}
end
section
variable [Glob]
variable {P:Program} {F:List Ct} {K:List Ct→Prop} {X:Value→List Ct→Prop}
end
end Go.Hx
end

section
/-
 Maps from ints to ints; rows told by a function; the neighbours of elements. Plain Lean over the layer. No condition.
-/
set_option maxRecDepth 100000
namespace Go.Hx
section
variable [Glob]
abbrev yFQ (b:Nat) (l:List (Int×Int)):OV:=.mp b (l.map fun x=>.int .i64 x.1) (l.map fun x=>.p (bI x.2))
def zSG:List (Int×Int)→Int→Option Int
 |[],_=>none
 |x::l,w=>if w=x.1 then some x.2 else zSG l w
def yFs:List (Int×Int)→Int→Int→List (Int×Int)
 |[],u,n=>[(u,n)]
 |x::l,u,n=>if u=x.1 then (x.1,n)::l else x::yFs l u n
theorem zJE:∀ (l:List (Int×Int)) (u n w:Int),zSG (yFs l u n) w=if w=u then some n else zSG l w
 |[],u,n,w=>by simp [zSG,yFs]
 |x::l,u,n,w=>by
  simp only [yFs]
  by_cases h:u=x.1
  ·rw [if_pos h]
   simp only [zSG]
   by_cases h2:w=x.1
   ·rw [if_pos h2,if_pos (by rw [h2,h])]
   ·rw [if_neg h2,if_neg (by rw [h];exact h2),if_neg h2]
  ·rw [if_neg h]
   simp only [zSG]
   rw [zJE l u n w]
   by_cases h2:w=x.1
   ·rw [if_pos h2,if_neg (by rw [h2];exact fun e=>h e.symm),if_pos h2]
   ·rw [if_neg h2,if_neg h2]
theorem yLr (a b:Int):zEI (.int .i64 a) (.int .i64 b)=decide (a=b):=by
 simp [zEI,zOD]
theorem yEb (x:Int×Int) (l:List (Int×Int)) (w:Int):zGU ((x::l).map fun x=>Value.int .i64 x.1) (.int .i64 w)=if w=x.1 then some 0 else (zGU (l.map fun x=>Value.int .i64 x.1) (.int .i64 w)).map (·+1):=by
 unfold zGU
 simp only [List.map_cons,List.findIdx?_cons,yLr]
 by_cases h:w=x.1<;>simp [h]
theorem yCy:∀ (l:List (Int×Int)) (w:Int),(zGU (l.map fun x=>Value.int .i64 x.1) (.int .i64 w)=none∧zSG l w=none)∨(∃ i,zGU (l.map fun x=>Value.int .i64 x.1) (.int .i64 w)=some i∧i < l.length∧zSG l w=some (l.getD i default).2)
 |[],w=>.inl ⟨rfl,rfl⟩
 |x::l,w=>by
  rw [yEb]
  simp only [zSG]
  by_cases h:w=x.1
  ·right
   exact ⟨0,by simp [h],by simp,by simp [h]⟩
  ·rw [if_neg h,if_neg h]
   rcases yCy l w with ⟨h1,h2⟩|⟨i,h1,h2,h3⟩
   ·left;exact ⟨by rw [h1];rfl,h2⟩
   ·right;exact ⟨i+1,by rw [h1];rfl,by simp;omega,by simpa using h3⟩
theorem yG4 (b:Nat):∀ (l:List (Int×Int)) (u n:Int),zLI b (l.map fun x=>Value.int .i64 x.1) (l.map fun x=>.p (bI x.2)) (.int .i64 u) (.p (bI n))=yFQ b (yFs l u n)
 |[],u,n=>rfl
 |x::l,u,n=>by
  have ih:=yG4 b l u n
  unfold zLI at ih ⊢
  rw [yEb]
  simp only [yFs]
  by_cases h:u=x.1
  ·rw [if_pos h,if_pos h]
   simp [yFQ]
  ·rw [if_neg h,if_neg h]
   rcases yCy l u with ⟨h1,_⟩|⟨i,h1,h2,h3⟩
   ·rw [h1] at ih ⊢
    simp only [Option.map_none]
    simp only [yFQ,OV.mp.injEq] at ih ⊢
    simp only [List.map_cons,List.cons_append]
    exact ⟨trivial,by rw [ih.2.1],by rw [ih.2.2]⟩
   ·rw [h1] at ih ⊢
    simp only [Option.map_some]
    simp only [yFQ,OV.mp.injEq] at ih ⊢
    simp only [List.map_cons,List.set_cons_succ]
    exact ⟨trivial,by rw [ih.2.1],by rw [ih.2.2]⟩
theorem yJL (l:List (Int×Int)):∀ q∈(l.map fun x=>Value.int .i64 x.1),zOb q=1:=by
 intro q hq
 obtain ⟨x,_,rfl⟩:=List.mem_map.1 hq
 rfl
variable {P:Program} {F:List Ct} {K:List Ct→Prop} {X:Value→List Ct→Prop}
theorem yNE {d:Nat} (h:∀ b,K (F.set d (.ov (.one (yFQ b []))))):hoW P ⟨none,.mmk d⟩ F K X:=h
theorem yLs {x q y r b:Nat} {l:List (Int×Int)} {u n:Int} (hx:F.getD x .un=.mph b) (hr:F.getD r .un=.ov (.one (yFQ b l))) (hq:F.getD q .un=.pv (iv u)) (hy:F.getD y .un=.pv (iv n)) (hyr:y≠r) (hK:K (F.set r (.ov (.one (yFQ b (yFs l u n)))))):hoW P ⟨none,.mps (.t x) r 1 (.t q) (.t y)⟩ F K X:=by
 rw [yOG]
 have hm:zLJ F (.t x)=some b:=by unfold zLJ;simp only [zAf,hx]
 have hqv:(zAf F (.t q)).pv?=some (iv u):=by simp only [zAf,hq];rfl
 have hqn:(zAf F (.t q)).need:=by simp only [zAf,hq];trivial
 have hsv:zSE F (.t y)=(trivial=trivial,some (.p (bI n)))∨(zSE F (.t y)).1∧(zSE F (.t y)).2=some (.p (bI n)):=by
  right
  unfold zSE
  simp only [zAf,hy,Ct.pv?,Ct.need]
  exact ⟨trivial,rfl⟩
 have hs2:(zSE F (.t y)).1∧(zSE F (.t y)).2=some (.p (bI n)):=by
  unfold zSE
  simp only [zAf,hy,Ct.pv?,Ct.need]
  exact ⟨trivial,rfl⟩
 have hcl:clr F F (.t y)=F:=by simp only [clr,hy]
 unfold zKB
 rw [hm,hr,hqv]
 refine ⟨rfl,hqn,rfl,yJL l,(fun s h=>by cases h;exact hyr),hs2.1,?_⟩
 rw [hs2.2,hcl]
 change K (F.set r (Ct.ov (OVal.one (zLI b (l.map fun x=>Value.int .i64 x.1) (l.map fun x=>OV.p (bI x.2)) (.int .i64 u) (.p (bI n))))))
 rw [yG4]
 exact hK
theorem yLt {d x q r b:Nat} {l:List (Int×Int)} {w:Int} {ok:Bool} (hx:F.getD x .un=.mph b) (hr:F.getD r .un=.ov (.one (yFQ b l))) (hq:F.getD q .un=.pv (iv w)) (hK:K (F.set d (if ok then .tup [iv ((zSG l w).getD 0),bv (zSG l w).isSome] else .pv (iv ((zSG l w).getD 0))))):hoW P ⟨none,.mpl d (.t x) r 1 (.t q) (.v (.int .i64 0)) ok⟩ F K X:=by
 rw [yOH]
 have hm:zLJ F (.t x)=some b:=by unfold zLJ;simp only [zAf,hx]
 have hqv:(zAf F (.t q)).pv?=some (iv w):=by simp only [zAf,hq];rfl
 have hqn:(zAf F (.t q)).need:=by simp only [zAf,hq];trivial
 unfold zKB
 rw [hm,hr,hqv]
 refine ⟨rfl,hqn,rfl,yJL l,?_⟩
 rcases yCy l w with ⟨h1,h2⟩|⟨i,h1,h2,h3⟩
 ·rw [h1]
  simp only [yA5]
  rw [h2] at hK
  exact hK
 ·rw [h1]
  have:(l.map fun x=>OV.p (bI x.2)).getD i .hole=.p (bI (l.getD i default).2):=by simp [h2]
  simp only [yA5,this]
  rw [h3] at hK
  exact hK
end
def zEy (L:Nat) (g:Nat→List OV):List (List OV):=(List.range L).map g
theorem yG5 (L:Nat) (g:Nat→List OV):(zEy L g).length=L:=by simp [zEy]
theorem zCX {L i:Nat} (h:i < L) (g:Nat→List OV):(zEy L g).getD i []=g i:=by simp [zEy,h]
theorem yG6 (L i:Nat) (g:Nat→List OV) (r:List OV):(zEy L g).set i r=zEy L (fun j=>if j=i then r else g j):=by
 refine List.ext_getElem (by simp [zEy]) fun k h1 h2=>?_
 simp only [zEy,List.getElem_set,List.getElem_map,List.getElem_range]
 by_cases h:i=k
 ·rw [if_pos h,if_pos h.symm]
 ·rw [if_neg h,if_neg (Ne.symm h)]
theorem yG7 (L:Nat) (r:List OV):List.replicate L r=zEy L (fun _=>r):=by
 simp [zEy,List.map_const']
theorem zAV {L:Nat} {g h:Nat→List OV} (e:∀ j,j < L→g j=h j):zEy L g=zEy L h:=
 List.map_congr_left fun j hj=>e j (List.mem_range.1 hj)
abbrev zKu (p o a u k:Int):List OV:=[.p (bI p),.p (bI o),.p (bI a),.p (bI u),.p (bI k)]
end Go.Hx
end

section
/-
 Right documents: what is above an element. Plain Lean. No condition.
-/
namespace Go.Hx
variable [Glob]
def C (d:List Nd) (k:Int):List Int:=zBk d d.length k
section
variable {d:List Nd} (hd:zCF d d.length=true)
include hd
theorem yI3 {k:Int} (h:k < 0):C d k=[]:=by
 unfold C
 cases d.length<;>simp [zBk,h]
theorem zCY {k:Nat} (hk:k < d.length):C d k=(k:Int)::C d (zAB d k):=by
 unfold C
 have hu:=zA1 hd k hk
 obtain ⟨f,hf⟩:∃ f,d.length=f+1:=⟨d.length-1,by omega⟩
 rw [hf]
 have e:=zGg (d:=d) f (f+1) (zAB d k) (fun j hj=>(zA1 hd j (by omega)).2) (by omega) (by omega)
 rw [←e]
 simp only [zBk,Int.toNat_natCast]
 rw [if_neg (by omega)]
theorem yJM {k:Int} (hk:k < d.length) {x:Int} (hx:x∈C d k):0≤x∧x≤k:=
 zDT d.length k (fun j hj=>(zA1 hd j (by omega)).2) x hx
theorem yLu {p:Nat→Prop} (h:∀ k,k < d.length→(∀ j:Nat,zAB d k=(j:Int)→j < k→p j)→p k):∀ k,k < d.length→p k:=by
 intro k
 induction k using Nat.strongRecOn with
 |ind k ih=>intro hk;exact h k hk fun j _ hj=>ih j hj (by omega)
theorem zXS {k:Nat} (hk:k < d.length):zAB d k < 0∨∃ j:Nat,zAB d k=j∧j < k:=by
 have:=zA1 hd k hk
 by_cases h:zAB d k < 0
 ·exact .inl h
 ·exact .inr ⟨(zAB d k).toNat,by omega,by omega⟩
theorem yI4:∀ k,k < d.length→∀ {u x:Int},u∈C d k→x∈C d u→x∈C d k:=by
 refine yLu hd fun k hk ih u x hu hx=>?_
 rw [zCY hd hk] at hu ⊢
 rcases List.mem_cons.1 hu with rfl|hu
 ·rw [zCY hd hk] at hx;exact hx
 ·refine List.mem_cons_of_mem _ ?_
  rcases zXS hd hk with h|⟨j,h,hj⟩
  ·rw [yI3 hd h] at hu;cases hu
  ·rw [h] at hu ⊢
   exact ih j h hj hu hx
theorem yNF:∀ k,k < d.length→∀ {i:Nat} {x:Int},(i:Int)∈C d k→x∈C d k→x < i→x∈C d (zAB d i):=by
 refine yLu hd fun k hk ih i x hi hx hlt=>?_
 have hb:=yJM hd (by omega) hi
 rw [zCY hd hk] at hi hx
 rcases List.mem_cons.1 hi with e|hi
 ·have e:i=k:=by omega
  subst e
  exact (List.mem_cons.1 hx).resolve_left (by omega)
 ·have hx:=(List.mem_cons.1 hx).resolve_left (by omega)
  rcases zXS hd hk with h|⟨j,h,hj⟩
  ·rw [yI3 hd h] at hi;cases hi
  ·rw [h] at hi hx
   exact ih j h hj hi hx hlt
end
end Go.Hx
end

section
/-
 An entry laid into the index, at its place. No condition.
-/
set_option maxRecDepth 100000
set_option linter.unusedSimpArgs false
namespace Go.Hx
open Go.RowKit
theorem yEf:∀ (es:List Ent) (i:Nat) (k:Key) (n:Int),i≤es.length→(∀ j,j < i→zAC (es.getD j default).key k=true)→(i=es.length∨zAC k (es.getD i default).key=true)→zOG es k n=es.take i++⟨k.1,k.2,[n]⟩::es.drop i
 |[],i,k,n,hi,_,_=>by
  have:i=0:=by simpa using hi
  subst this;rfl
 |e::r,0,k,n,_,_,h=>by
  have h1:zAC k e.key=true:=by rcases h with h|h;simp at h;exact h
  rw [zOG,if_neg (by rw [zG4 h1];decide),if_pos h1];rfl
 |e::r,i+1,k,n,hi,hj,h=>by
  have h0:zAC e.key k=true:=hj 0 (by omega)
  rw [zOG,if_pos h0,yEf r i k n (by simpa using hi) (fun j hjj=>by have:=hj (j+1) (by omega);simpa using this) (by
   rcases h with h|h
   ·exact .inl (by simpa using h)
   ·exact .inr (by simpa using h))]
  rfl
theorem yEg:∀ (es:List Ent) (i:Nat) (k:Key) (n:Int),i < es.length→(∀ j,j < i→zAC (es.getD j default).key k=true)→(es.getD i default).key=k→zOG es k n=es.set i ⟨(es.getD i default).kind,(es.getD i default).name,(es.getD i default).nodes++[n]⟩
 |[],i,k,n,hi,_,_=>by simp at hi
 |e::r,0,k,n,_,_,h=>by
  have h1:e.key=k:=h
  rw [zOG,if_neg (by rw [h1,zBe];decide),if_neg (by rw [h1,zBe];decide)];rfl
 |e::r,i+1,k,n,hi,hj,h=>by
  have h0:zAC e.key k=true:=hj 0 (by omega)
  rw [zOG,if_pos h0,yEg r i k n (by simpa using hi) (fun j hjj=>by have:=hj (j+1) (by omega);simpa using this) (by simpa using h)]
  rfl
theorem yJb (es:List Ent) (k:Key) (n:Int):(zOG es k n).length≤es.length+1:=by
 induction es with
 |nil=>simp [zOG]
 |cons e r ih=>
  rw [zOG]
  split
  ·simpa using ih
  ·split<;>simp
theorem yFC (ps:List (Key×Int)):(zBM ps).length≤ps.length:=by
 have:∀ (ps:List (Key×Int)) (l:List Ent),(ps.foldl (fun l p=>zOG l p.1 p.2) l).length≤l.length+ps.length:=by
  intro ps
  induction ps with
  |nil=>intro l;simp
  |cons p r ih=>
   intro l
   have h1:=yJb l p.1 p.2
   have:=ih (zOG l p.1 p.2)
   rw [List.foldl_cons,List.length_cons]
   omega
 have:=this ps []
 simpa [zBM] using this
theorem yCN (ps:List (Key×Int)) {e:Ent} (h:e∈zBM ps):e.nodes.length≤ps.length:=by
 have:=((zG5 ps.length ps rfl).2 e).1 h
 rw [this.2]
 unfold zAx
 rw [List.length_map]
 exact List.length_filter_le _ _
def yAC (t:Nat) (e:Ent):List OV:=[.p (bI e.kind),.p (bS e.name),zKm t e.nodes]
def ovT (t:Nat) (es:List Ent):List (List OV):=es.map (yAC t)
theorem zDH (t:Nat) (es:List Ent):(ovT t es).length=es.length:=by simp [ovT]
theorem zRZ (t:Nat) (es:List Ent) (i:Nat) (h:i < es.length):(ovT t es).getD i []=yAC t (es.getD i default):=by simp [ovT,h]
variable [Glob]
theorem yHo (t:Nat) (e:Ent):zUm (yAC t e)=some [bI e.kind,bS e.name,.sl 1 (zAH e.nodes)]:=by
 have:(zKm t e.nodes).frz=some (.sl 1 (zAH e.nodes)):=by
  have e1:(e.nodes.map fun n=>[OV.p (bI n)])=(zAH e.nodes).map fun r=>r.map OV.p:=by simp [zAH]
  unfold zKm
  rw [e1]
  exact zUw (zGf _)
 simp only [yAC,zUm,OV.frz,this]
theorem zR0 (t:Nat):∀ (es:List Ent),zDP (ovT t es)=some (es.map fun e=>[bI e.kind,bS e.name,.sl 1 (zAH e.nodes)])
 |[]=>rfl
 |e::es=>by
  have ih:=zR0 t es
  unfold ovT at ih ⊢
  simp only [List.map_cons,zDP,yHo,ih]
theorem yAD (t:Nat) (es:List Ent) (i:Nat) (hi:i≤es.length) (z r:List OV):(zDd i (ovT t es++[z])).set i r=ovT t (es.take i)++r::ovT t (es.drop i):=by
 have hl:(List.take i (ovT t es++[z])).length=i:=by rw [List.length_take,List.length_append,zDH];simp;omega
 have h1:List.take i (ovT t es++[z])=ovT t (es.take i):=by
  rw [List.take_append_of_le_length (by rw [zDH];exact hi)]
  simp [ovT]
 have h2:(List.drop i (ovT t es++[z])).dropLast=ovT t (es.drop i):=by
  rw [List.drop_append_of_le_length (by rw [zDH];exact hi),List.dropLast_concat]
  simp [ovT]
 unfold zDd
 rw [List.append_assoc,List.set_append_right _ _ (by rw [hl];exact Nat.le_refl _),hl,Nat.sub_self,h1,h2]
 rfl
theorem yAE (t:Nat) (es:List Ent) (i:Nat) (hi:i≤es.length) (z:List OV):(zDd i (ovT t es++[z])).length=es.length+1:=by
 unfold zDd
 simp only [List.length_append,List.length_take,List.length_cons,List.length_nil,List.length_dropLast,List.length_drop,zDH]
 omega
end Go.Hx
end

section
/-
 THE ABSTRACT LAYER: a contract out of the code of a function that is handed an owned tree and gives one yBe. Generic over the program. No condition.
-/
namespace Go.Hx
open Go.RowKit
variable [Glob]
variable {P:Program} {E:Env}
end Go.Hx
end
