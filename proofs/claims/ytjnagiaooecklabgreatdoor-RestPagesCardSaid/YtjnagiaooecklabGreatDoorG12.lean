/-
  Walks of functions of the program over an abstract layer, and the laws that they use: each contract says what the function computes, for every input that its conditions let by. No other condition.
-/
import Derived.Test.YtjnagiaooecklabGreatDoorG11
import Derived.Test.YtjnagiaooecklabGreatDoorG10
set_option linter.all false
section
namespace Go.Hx
mutual
inductive Ts where
 |mk (kind:Int) (name value:Bys) (na nb:Int) (list:List Pt)
inductive St where
 |mk (tag:Bys) (tests:List Ts)
inductive Pt where
 |mk (steps:List St) (links:List Int)
end
instance:Inhabited Ts:=⟨.mk 0 [] [] 0 0 []⟩
instance:Inhabited St:=⟨.mk [] []⟩
instance:Inhabited Pt:=⟨.mk [] []⟩
def Ts.kind:Ts→Int|.mk k _ _ _ _ _=>k
def Ts.name:Ts→Bys|.mk _ n _ _ _ _=>n
def Ts.value:Ts→Bys|.mk _ _ v _ _ _=>v
def Ts.na:Ts→Int|.mk _ _ _ a _ _=>a
def Ts.nb:Ts→Int|.mk _ _ _ _ b _=>b
def Ts.list:Ts→List Pt|.mk _ _ _ _ _ l=>l
def St.tag:St→Bys|.mk t _=>t
def St.tests:St→List Ts|.mk _ l=>l
def Pt.steps:Pt→List St|.mk s _=>s
def Pt.links:Pt→List Int|.mk _ l=>l
mutual
def tsV:Ts→List PV
 |.mk k n v a b l=>[bI k,bS n,bS v,bI a,bI b,.sl 2 (zBx l)]
def zCJ:List Ts→List (List PV)
 |[]=>[]
 |t::r=>tsV t::zCJ r
def stV:St→List PV
 |.mk t l=>[bS t,.sl 6 (zCJ l)]
def zFG:List St→List (List PV)
 |[]=>[]
 |s::r=>stV s::zFG r
def ptV:Pt→List PV
 |.mk s l=>[.sl 2 (zFG s),.sl 1 (zAM l)]
def zBx:List Pt→List (List PV)
 |[]=>[]
 |p::r=>ptV p::zBx r
end
def zBZ (l:List Pt):PVal:=.one (.sl 2 (zBx l))
theorem zEV:∀ l:List Ts,zCJ l=l.map tsV
 |[]=>rfl
 |t::r=>by simp only [zCJ,List.map_cons,zEV r]
theorem zEl:∀ l:List St,zFG l=l.map stV
 |[]=>rfl
 |t::r=>by simp only [zFG,List.map_cons,zEl r]
theorem zDq:∀ l:List Pt,zBx l=l.map ptV
 |[]=>rfl
 |t::r=>by simp only [zBx,List.map_cons,zDq r]
theorem zAQ (l:List Ts):(zCJ l).length=l.length:=by simp [zEV]
theorem zAO (l:List St):(zFG l).length=l.length:=by simp [zEl]
theorem zAD (l:List Pt):(zBx l).length=l.length:=by simp [zDq]
theorem zA1 (t:Ts):tsV t=[bI t.kind,bS t.name,bS t.value,bI t.na,bI t.nb,.sl 2 (zBx t.list)]:=by cases t;rfl
theorem zBg (t:St):stV t=[bS t.tag,.sl 6 (zCJ t.tests)]:=by cases t;rfl
theorem zA2 (t:Pt):ptV t=[.sl 2 (zFG t.steps),.sl 1 (zAM t.links)]:=by cases t;rfl
theorem zB4 (d:List Ts) (i:Nat) (h:i < d.length):(zCJ d).getD i []=tsV (d.getD i default):=by simp [zEV,h]
theorem zCB (d:List St) (i:Nat) (h:i < d.length):(zFG d).getD i []=stV (d.getD i default):=by simp [zEl,h]
theorem zBH (d:List Pt) (i:Nat) (h:i < d.length):(zBx d).getD i []=ptV (d.getD i default):=by simp [zDq,h]
theorem zLa {α:Type} [Inhabited α] {l:List α} {i:Nat} (h:i < l.length):l.getD i default∈l:=by
 rw [List.getD_eq_getElem?_getD,List.getElem?_eq_getElem h]
 exact List.getElem_mem h
theorem zER (t:Ts):SizeOf.sizeOf t.list < SizeOf.sizeOf t:=by cases t;simp only [Ts.list,Ts.mk.sizeOf_spec];omega
theorem zDr (t:St):SizeOf.sizeOf t.tests < SizeOf.sizeOf t:=by cases t;simp only [St.tests,St.mk.sizeOf_spec];omega
theorem zDs (t:Pt):SizeOf.sizeOf t.steps < SizeOf.sizeOf t:=by cases t;simp only [Pt.steps,Pt.mk.sizeOf_spec];omega
theorem zUs {l:List Ts} {i:Nat} (h:i < l.length):SizeOf.sizeOf (l.getD i default) < SizeOf.sizeOf l:=List.sizeOf_lt_of_mem (zLa h)
theorem zUt {l:List St} {i:Nat} (h:i < l.length):SizeOf.sizeOf (l.getD i default) < SizeOf.sizeOf l:=List.sizeOf_lt_of_mem (zLa h)
theorem zUu {l:List Pt} {i:Nat} (h:i < l.length):SizeOf.sizeOf (l.getD i default) < SizeOf.sizeOf l:=List.sizeOf_lt_of_mem (zLa h)
def yJp (k:Int):Bool:=decide (1≤k∧k≤8)
def zUv (k:Int):Bool:=decide (4≤k∧k≤8)
def yUs (k:Int):Bool:=decide (k=9)||decide (k=10)
def zIV (k:Int):Bool:=decide (13≤k∧k≤15)
def zYs (a:Int):Bool:=decide (-1048576≤a∧a≤1048576)
def yMd (a b:Int):Int:=if zYs a&&zYs b then 0 else 3
mutual
def yPA:List Pt→Nat→Bool
 |[],_=>false
 |p::r,d=>tmP p d||yPA r d
def tmP:Pt→Nat→Bool
 |.mk s l,d=>!(decide (1≤s.length∧s.length≤5))||decide ((l.length:Int)≠s.length-1)||yPB s d
def yPB:List St→Nat→Bool
 |[],_=>false
 |s::r,d=>tmS s d||yPB r d
def tmS:St→Nat→Bool
 |.mk _ l,d=>decide (6 < l.length)||yPC l d
def yPC:List Ts→Nat→Bool
 |[],_=>false
 |t::r,d=>tmT t d||yPC r d
def tmT:Ts→Nat→Bool
 |.mk k _ _ _ _ l,d=>zIV k&&(decide (3 < d+1)||!(decide (1≤l.length∧l.length≤5))||yPA l (d+1))
end
def tmL (l:List Pt) (d:Nat):Bool:=decide (3 < d)||!(decide (1≤l.length∧l.length≤5))||yPA l d
def zUw (n:Int):Bool:=!(decide (1≤n∧n≤4))
mutual
def yPD:List Pt→Bool
 |[]=>false
 |p::r=>bkP p||yPD r
def bkP:Pt→Bool
 |.mk s l=>l.any zUw||yRs s
def yRs:List St→Bool
 |[]=>false
 |s::r=>bkS s||yRs r
def bkS:St→Bool
 |.mk _ l=>ySS l
def ySS:List Ts→Bool
 |[]=>false
 |t::r=>bkT t||ySS r
def bkT:Ts→Bool
 |.mk k _ _ _ _ l=>!(decide (1≤k∧k≤15))||(zIV k&&yPD l)
end
def yST (t:Ts):Bool:=(yJp t.kind&&!zCg t.name)||(!yJp t.kind&&!(t.name==[]))
def ySU (t:Ts):Bool:=(zUv t.kind&&!zFd t.value)||(!zUv t.kind&&!(t.value==[]))
def yQM (t:Ts):Bool:=(!yUs t.kind&&!(t.na==0&&t.nb==0))||(!zIV t.kind&&decide (0 < t.list.length))
mutual
def yMe:List Pt→Bool
 |[]=>false
 |p::r=>bfP p||yMe r
def bfP:Pt→Bool
 |.mk s _=>yQN s
def yQN:List St→Bool
 |[]=>false
 |s::r=>bfS s||yQN r
def bfS:St→Bool
 |.mk t l=>(!(t==[])&&!zCg t)||yQO l
def yQO:List Ts→Bool
 |[]=>false
 |t::r=>bfT t||yQO r
def bfT:Ts→Bool
 |.mk k n v a b l=>yST (.mk k n v a b l)||ySU (.mk k n v a b l)||yQM (.mk k n v a b l)||(zIV k&&yMe l)
end
mutual
def yOY:List Pt→Bool
 |[]=>false
 |p::r=>bnP p||yOY r
def bnP:Pt→Bool
 |.mk s _=>ySV s
def ySV:List St→Bool
 |[]=>false
 |s::r=>bnS s||ySV r
def bnS:St→Bool
 |.mk _ l=>ySW l
def ySW:List Ts→Bool
 |[]=>false
 |t::r=>bnT t||ySW r
def bnT:Ts→Bool
 |.mk _ _ _ a b l=>!(decide (yMd a b=0))||yOY l
end
def zCK (l:List Pt):Int:=if tmL l 1 then 2 else if yPD l then 4 else if yMe l then 1 else if yOY l then 3 else 0
structure Fd where
 f:Nat
 m:Nat
 r:Nat
 k:Nat
 deriving DecidableEq,Inhabited
def Fd.add (a b:Fd):Fd:=⟨a.f+b.f,a.m+b.m,a.r+b.r,a.k+b.k⟩
def fd0:Fd:=⟨0,0,0,0⟩
def fdV (c:Fd):List PV:=[bI 0,bI c.f,bI c.m,bI c.r,bI c.k]
def nB (b:Bool):Nat:=if b then 1 else 0
def fF (b:Bool):Fd:=⟨nB b,0,0,0⟩
def fM (b:Bool):Fd:=⟨0,nB b,0,0⟩
def fR (b:Bool):Fd:=⟨0,0,nB b,0⟩
def fK (b:Bool):Fd:=⟨0,0,0,nB b⟩
theorem Fd.add_assoc (a b c:Fd):(a.add b).add c=a.add (b.add c):=by simp [Fd.add,Nat.add_assoc]
theorem Fd.zero_add (a:Fd):fd0.add a=a:=by simp [Fd.add,fd0]
def zJT (l:List Pt) (d:Nat):Bool:=decide (3 < d)||decide (l.length < 1)||decide (5 < l.length)
def yJq (p:Pt):Bool:=decide (p.steps.length < 1)||decide (5 < p.steps.length)||decide ((p.links.length:Int)≠p.steps.length-1)
def yMf (l:List Int):Fd:=⟨0,0,0,l.countP zUw⟩
def yQP (t:Ts):Fd:=(((((fK (!decide (1≤t.kind∧t.kind≤15))).add (fF (yST t))).add (fF (ySU t))).add (fF (yQM t))).add (fR (!decide (yMd t.na t.nb=0))))
mutual
def yI1:List Pt→Nat→Fd
 |[],_=>fd0
 |p::r,d=>if yJq p then fM true else ((yMf p.links).add (ntP p d)).add (yI1 r d)
def ntP:Pt→Nat→Fd
 |.mk s _,d=>yMg s d
def yMg:List St→Nat→Fd
 |[],_=>fd0
 |s::r,d=>(ntS s d).add (yMg r d)
def ntS:St→Nat→Fd
 |.mk t l,d=>if 6 < l.length then fM true else (fF (!(t==[])&&!zCg t)).add (yMh l d)
def yMh:List Ts→Nat→Fd
 |[],_=>fd0
 |t::r,d=>(ntT t d).add (yMh r d)
def ntT:Ts→Nat→Fd
 |.mk k n v a b l,d=>(yQP (.mk k n v a b l)).add (if zIV k then (if zJT l (d+1) then fM true else yI1 l (d+1)) else fd0)
end
def ntL (l:List Pt) (d:Nat):Fd:=if zJT l d then fM true else yI1 l d
theorem yWF (t:Ts) (d:Nat):ntT t d=(yQP t).add (if zIV t.kind then ntL t.list (d+1) else fd0):=by cases t;rfl
theorem ySX (s:St) (d:Nat):ntS s d=if 6 < s.tests.length then fM true else (fF (!(s.tag==[])&&!zCg s.tag)).add (yMh s.tests d):=by cases s;rfl
theorem yWG (p:Pt) (d:Nat):ntP p d=yMg p.steps d:=by cases p;rfl
theorem yPE (b:Bool):0 < nB b↔b=true:=by cases b<;>simp [nB]
theorem yGX (l:List Pt) (d:Nat):zJT l d=(decide (3 < d)||!(decide (1≤l.length∧l.length≤5))):=by
 unfold zJT
 by_cases h1:3 < d<;>by_cases h2:l.length < 1<;>by_cases h3:5 < l.length<;>simp [h1,h2,h3]<;>omega
mutual
theorem yYG:∀ (l:List Pt) (d:Nat),0 < (yI1 l d).m↔yPA l d=true
 |[],d=>by simp [yI1,yPA,fd0]
 |p::r,d=>by
  have h1:=m_P p d
  have h2:=yYG r d
  simp only [yI1,yPA]
  have hp:yJq p=true→tmP p d=true:=by
   intro hb
   cases p with
   |mk s l=>
    have hb:(decide (s.length < 1)||decide (5 < s.length)||decide ((l.length:Int)≠s.length-1))=true:=hb
    simp only [Bool.or_eq_true,decide_eq_true_eq] at hb
    simp only [tmP,Bool.or_eq_true,decide_eq_true_eq,Bool.not_eq_true',decide_eq_false_iff_not]
    omega
  split
  ·rename_i hb
   simp [fM,nB,hp hb]
  ·rename_i hb
   have h3:=h1 (by simpa using hb)
   simp only [Fd.add,yMf,Bool.or_eq_true,←h3,←h2]
   omega
theorem m_P:∀ (p:Pt) (d:Nat),yJq p=false→(0 < (ntP p d).m↔tmP p d=true)
 |.mk s l,d,hb=>by
  have h:=yZC s d
  have hb:(decide (s.length < 1)||decide (5 < s.length)||decide ((l.length:Int)≠s.length-1))=false:=hb
  simp only [Bool.or_eq_false_iff,decide_eq_false_iff_not] at hb
  have e1:decide (1≤s.length∧s.length≤5)=true:=by simp;omega
  have e2:decide ((l.length:Int)≠s.length-1)=false:=by simp;omega
  simp only [ntP,tmP,e1,e2,h,Bool.not_true,Bool.false_or]
theorem yZC:∀ (l:List St) (d:Nat),0 < (yMg l d).m↔yPB l d=true
 |[],d=>by simp [yMg,yPB,fd0]
 |p::r,d=>by
  have h1:=m_S p d
  have h2:=yZC r d
  simp only [yMg,yPB,Fd.add,Bool.or_eq_true,←h1,←h2]
  omega
theorem m_S:∀ (p:St) (d:Nat),0 < (ntS p d).m↔tmS p d=true
 |.mk t l,d=>by
  have h:=yZD l d
  simp only [ntS,tmS]
  split
  ·rename_i hb;simp [fM,nB,hb]
  ·rename_i hb
   simp only [Fd.add,fF,Bool.or_eq_true,decide_eq_true_eq,←h]
   omega
theorem yZD:∀ (l:List Ts) (d:Nat),0 < (yMh l d).m↔yPC l d=true
 |[],d=>by simp [yMh,yPC,fd0]
 |p::r,d=>by
  have h1:=m_T p d
  have h2:=yZD r d
  simp only [yMh,yPC,Fd.add,Bool.or_eq_true,←h1,←h2]
  omega
theorem m_T:∀ (p:Ts) (d:Nat),0 < (ntT p d).m↔tmT p d=true
 |.mk k n v a b l,d=>by
  have h:=yYG l (d+1)
  simp only [ntT,tmT,Fd.add,yQP,fF,fK,fR,Nat.zero_add]
  by_cases hk:zIV k=true
  ·simp only [hk,if_true,Bool.true_and]
   rw [yGX]
   by_cases hb:(decide (3 < d+1)||!(decide (1≤l.length∧l.length≤5)))=true
   ·rw [if_pos hb,hb];simp [fM,nB]
   ·rw [if_neg hb]
    have hb2:(decide (3 < d+1)||!(decide (1≤l.length∧l.length≤5)))=false:=eq_false_of_ne_true hb
    rw [hb2,Bool.false_or,h]
  ·have hk2:zIV k=false:=by simpa using hk
   simp [hk2,fd0]
end
theorem m_L (l:List Pt) (d:Nat):0 < (ntL l d).m↔tmL l d=true:=by
 unfold ntL tmL
 rw [yGX]
 by_cases hb:(decide (3 < d)||!(decide (1≤l.length∧l.length≤5)))=true
 ·rw [if_pos hb,hb];simp [fM,nB]
 ·rw [if_neg hb]
  have hb2:(decide (3 < d)||!(decide (1≤l.length∧l.length≤5)))=false:=eq_false_of_ne_true hb
  rw [hb2,Bool.false_or,yYG]
def Oth (c:Fd) (k f r:Bool):Prop:=c.m=0→((0 < c.k↔k=true)∧(0 < c.f↔f=true)∧(c.f=0→(0 < c.r↔r=true)))
theorem Oth.add {a b:Fd} {k f r k' f' r':Bool} (h:Oth a k f r) (g:Oth b k' f' r'):Oth (a.add b) (k||k') (f||f') (r||r'):=by
 intro hm
 simp only [Fd.add] at hm ⊢
 obtain ⟨h1,h2,h3⟩:=h (by omega)
 obtain ⟨g1,g2,g3⟩:=g (by omega)
 refine ⟨?_,?_,fun hf=>?_⟩
 ·rw [Bool.or_eq_true,←h1,←g1];omega
 ·rw [Bool.or_eq_true,←h2,←g2];omega
 ·have h4:=h3 (by omega)
  have g4:=g3 (by omega)
  rw [Bool.or_eq_true,←h4,←g4];omega
theorem Oth.zero:Oth fd0 false false false:=fun _=>⟨by simp [fd0],by simp [fd0],fun _=>by simp [fd0]⟩
theorem Oth.many {k f r:Bool}:Oth (fM true) k f r:=fun h=>by simp [fM,nB] at h
theorem Oth.k (b:Bool):Oth (fK b) b false false:=fun _=>⟨by simp [fK,yPE],by simp [fK],fun _=>by simp [fK]⟩
theorem Oth.f (b:Bool):Oth (fF b) false b false:=fun _=>⟨by simp [fF],by simp [fF,yPE],fun _=>by simp [fF]⟩
theorem Oth.r (b:Bool):Oth (fR b) false false b:=fun _=>⟨by simp [fR],by simp [fR],fun _=>by simp [fR,yPE]⟩
theorem Oth.cast {c:Fd} {k f r k' f' r':Bool} (h:Oth c k f r) (h1:k=k') (h2:f=f') (h3:r=r'):Oth c k' f' r':=by subst h1 h2 h3;exact h
theorem Oth.lk (l:List Int):Oth (yMf l) (l.any zUw) false false:=by
 intro _
 refine ⟨?_,by simp [yMf],fun _=>by simp [yMf]⟩
 simp [yMf,List.any_eq_true,List.countP_pos_iff]
mutual
theorem yYH:∀ (l:List Pt) (d:Nat),Oth (yI1 l d) (yPD l) (yMe l) (yOY l)
 |[],d=>Oth.zero
 |p::r,d=>by
  simp only [yI1,yPD,yMe,yOY]
  split
  ·exact Oth.many
  ·refine ((o_P p d).add (yYH r d))
theorem o_P:∀ (p:Pt) (d:Nat),Oth ((yMf p.links).add (ntP p d)) (bkP p) (bfP p) (bnP p)
 |.mk s l,d=>by
  simp only [ntP,Pt.links,bkP,bfP,bnP]
  exact ((Oth.lk l).add (yZE s d)).cast rfl (by simp) (by simp)
theorem yZE:∀ (l:List St) (d:Nat),Oth (yMg l d) (yRs l) (yQN l) (ySV l)
 |[],d=>Oth.zero
 |p::r,d=>by
  simp only [yMg,yRs,yQN,ySV]
  exact (o_S p d).add (yZE r d)
theorem o_S:∀ (p:St) (d:Nat),Oth (ntS p d) (bkS p) (bfS p) (bnS p)
 |.mk t l,d=>by
  simp only [ntS,bkS,bfS,bnS]
  split
  ·exact Oth.many
  ·exact ((Oth.f _).add (yZF l d)).cast (by simp) rfl (by simp)
theorem yZF:∀ (l:List Ts) (d:Nat),Oth (yMh l d) (ySS l) (yQO l) (ySW l)
 |[],d=>Oth.zero
 |p::r,d=>by
  simp only [yMh,ySS,yQO,ySW]
  exact (o_T p d).add (yZF r d)
theorem o_T:∀ (p:Ts) (d:Nat),Oth (ntT p d) (bkT p) (bfT p) (bnT p)
 |.mk k n v a b l,d=>by
  have h:=yYH l (d+1)
  have h1:Oth (yQP (.mk k n v a b l)) (!decide (1≤k∧k≤15)) (yST (.mk k n v a b l)||ySU (.mk k n v a b l)||yQM (.mk k n v a b l)) (!decide (yMd a b=0)):=
   (((((Oth.k (!decide (1≤k∧k≤15))).add (Oth.f _)).add (Oth.f _)).add (Oth.f _)).add (Oth.r (!decide (yMd a b=0)))).cast (by simp only [Bool.or_false]) (by simp only [Bool.false_or,Bool.or_false]) (by simp only [Bool.false_or])
  simp only [ntT,bkT,bfT,bnT]
  by_cases hk:zIV k=true
  ·simp only [hk,if_true,Bool.true_and]
   split
   ·intro hm
    simp [Fd.add,fM,nB] at hm
   ·exact h1.add h
  ·have hk2:zIV k=false:=eq_false_of_ne_true hk
   simp only [hk2,Bool.false_and,Bool.or_false]
   intro hm
   obtain ⟨a1,a2,a3⟩:=h1 (by simpa [Fd.add,fd0] using hm)
   refine ⟨by simpa [Fd.add,fd0] using a1,by simpa [Fd.add,fd0] using a2,fun hf=>?_⟩
   have hf0:(yQP (.mk k n v a b l)).f=0:=by simpa [Fd.add,fd0] using hf
   have a4:=a3 hf0
   have hl:l=[]:=by
    have h5:¬ (yST (.mk k n v a b l)||ySU (.mk k n v a b l)||yQM (.mk k n v a b l))=true:=by
     rw [←a2];omega
    simp only [yQM,Ts.kind,Ts.list,hk2,Bool.not_false,Bool.true_and,Bool.or_eq_true,decide_eq_true_eq,not_or] at h5
    have:=h5.2.2
    cases l with
    |nil=>rfl
    |cons x y=>simp at this
   subst hl
   simpa [Fd.add,fd0,yOY] using a4
end
def yUt (c:Fd):Int:=if 0 < c.m then 2 else if 0 < c.k then 4 else if 0 < c.f then 1 else if 0 < c.r then 3 else 0
theorem yWH (l:List Pt):yUt (ntL l 1)=zCK l:=by
 unfold yUt zCK
 have hm:=m_L l 1
 by_cases h:tmL l 1=true
 ·rw [if_pos (hm.2 h),if_pos h]
 ·have hm0:¬ 0 < (ntL l 1).m:=fun hc=>h (hm.1 hc)
  rw [if_neg hm0,if_neg h]
  have hb:zJT l 1=false:=by
   cases hb:zJT l 1 with
   |false=>rfl
   |true=>unfold ntL at hm0;rw [if_pos hb] at hm0;simp [fM,nB] at hm0
  have e:ntL l 1=yI1 l 1:=by unfold ntL;rw [if_neg (by rw [hb];simp)]
  rw [e] at hm0 ⊢
  obtain ⟨h1,h2,h3⟩:=yYH l 1 (by omega)
  by_cases hk:yPD l=true
  ·rw [if_pos (h1.2 hk),if_pos hk]
  ·rw [if_neg (fun hc=>hk (h1.1 hc)),if_neg hk]
   by_cases hf:yMe l=true
   ·rw [if_pos (h2.2 hf),if_pos hf]
   ·have hf0:¬ 0 < (yI1 l 1).f:=fun hc=>hf (h2.1 hc)
    rw [if_neg hf0,if_neg hf]
    have h4:=h3 (by omega)
    by_cases hr:yOY l=true
    ·rw [if_pos (h4.2 hr),if_pos hr]
    ·rw [if_neg (fun hc=>hr (h4.1 hc)),if_neg hr]
def bdF:Nat→Nat
 |0=>1
 |f+1=>4+5 * (4+5 * (1+6 * (5+bdF f)))
def bd (d:Nat):Nat:=bdF (4-d)
def bdT (d:Nat):Nat:=5+bd (d+1)
def bdS (d:Nat):Nat:=1+6 * bdT d
def bdP (d:Nat):Nat:=4+5 * bdS d
theorem yCL:∀ f,1≤bdF f
 |0=>Nat.le_refl _
 |f+1=>by simp only [bdF];omega
theorem yUu {d:Nat} (h:d≤3):bd d=4+5 * bdP d:=by
 unfold bdP bdS bdT bd
 obtain ⟨f,hf⟩:∃ f,4-d=f+1:=⟨4-d-1,by omega⟩
 have e:4-(d+1)=f:=by omega
 rw [hf,e]
 rfl
theorem yWI:bd 1≤100000000:=by decide
structure Fd.le (c:Fd) (n:Nat):Prop where
 f:c.f≤n
 m:c.m≤n
 r:c.r≤n
 k:c.k≤n
theorem Fd.le.le_add {a b:Fd} {n m:Nat} (h:a.le n) (g:b.le m):(a.add b).le (n+m):=by
 obtain ⟨h1,h2,h3,h4⟩:=h
 obtain ⟨g1,g2,g3,g4⟩:=g
 exact ⟨Nat.add_le_add h1 g1,Nat.add_le_add h2 g2,Nat.add_le_add h3 g3,Nat.add_le_add h4 g4⟩
theorem Fd.le.le_mono {a:Fd} {n m:Nat} (h:a.le n) (g:n≤m):a.le m:=⟨Nat.le_trans h.f g,Nat.le_trans h.m g,Nat.le_trans h.r g,Nat.le_trans h.k g⟩
theorem yRt (b:Bool):nB b≤1:=by cases b<;>simp [nB]
theorem yRu (b:Bool):(fM b).le 1:=⟨Nat.zero_le _,yRt b,Nat.zero_le _,Nat.zero_le _⟩
theorem yGY (b:Bool):(fF b).le 1:=⟨yRt b,Nat.zero_le _,Nat.zero_le _,Nat.zero_le _⟩
theorem yUv (b:Bool):(fK b).le 1:=⟨Nat.zero_le _,Nat.zero_le _,Nat.zero_le _,yRt b⟩
theorem yWJ (b:Bool):(fR b).le 1:=⟨Nat.zero_le _,Nat.zero_le _,yRt b,Nat.zero_le _⟩
theorem yGZ (n:Nat):fd0.le n:=⟨Nat.zero_le _,Nat.zero_le _,Nat.zero_le _,Nat.zero_le _⟩
theorem yYI (t:Ts):(yQP t).le 5:=((((yUv _).le_add (yGY _)).le_add (yGY _)).le_add (yGY _)).le_add (yWJ _)
theorem yYJ (l:List Int):(yMf l).le l.length:=⟨Nat.zero_le _,Nat.zero_le _,Nat.zero_le _,List.countP_le_length⟩
mutual
theorem yYK:∀ (l:List Pt) (d:Nat),(yI1 l d).le (1+l.length * bdP d)
 |[],d=>yGZ _
 |p::r,d=>by
  have h2:=yYK r d
  simp only [yI1,List.length_cons]
  split
  ·exact (yRu _).le_mono (Nat.le_add_right _ _)
  ·rename_i hb
   have h1:=b_P p d (eq_false_of_ne_true hb)
   exact (h1.le_add h2).le_mono (by rw [Nat.add_mul];omega)
theorem b_P:∀ (p:Pt) (d:Nat),yJq p=false→((yMf p.links).add (ntP p d)).le (bdP d)
 |.mk s l,d,hb=>by
  have hb:(decide (s.length < 1)||decide (5 < s.length)||decide ((l.length:Int)≠s.length-1))=false:=hb
  simp only [Bool.or_eq_false_iff,decide_eq_false_iff_not] at hb
  have h:=yZG s d
  simp only [ntP,Pt.links]
  refine ((yYJ l).le_add h).le_mono ?_
  have h5:s.length * bdS d≤5 * bdS d:=Nat.mul_le_mul_right _ (by omega)
  unfold bdP
  omega
theorem yZG:∀ (l:List St) (d:Nat),(yMg l d).le (l.length * bdS d)
 |[],d=>yGZ _
 |p::r,d=>by
  simp only [yMg,List.length_cons]
  exact ((b_S p d).le_add (yZG r d)).le_mono (by rw [Nat.add_mul];omega)
theorem b_S:∀ (p:St) (d:Nat),(ntS p d).le (bdS d)
 |.mk t l,d=>by
  simp only [ntS]
  split
  ·exact (yRu _).le_mono (by unfold bdS;omega)
  ·refine ((yGY _).le_add (yZH l d)).le_mono ?_
   have h5:l.length * bdT d≤6 * bdT d:=Nat.mul_le_mul_right _ (by omega)
   unfold bdS
   omega
theorem yZH:∀ (l:List Ts) (d:Nat),(yMh l d).le (l.length * bdT d)
 |[],d=>yGZ _
 |p::r,d=>by
  simp only [yMh,List.length_cons]
  exact ((b_T p d).le_add (yZH r d)).le_mono (by rw [Nat.add_mul];omega)
theorem b_T:∀ (p:Ts) (d:Nat),(ntT p d).le (bdT d)
 |.mk k n v a b l,d=>by
  have h:=yYK l (d+1)
  simp only [ntT]
  refine (yYI _).le_add ?_
  split
  ·split
   ·exact (yRu _).le_mono (yCL _)
   ·rename_i hb
    simp only [zJT,Bool.or_eq_true,decide_eq_true_eq,not_or] at hb
    have h5:l.length * bdP (d+1)≤5 * bdP (d+1):=Nat.mul_le_mul_right _ (by omega)
    refine h.le_mono ?_
    rw [yUu (d:=d+1) (by omega)]
    omega
  ·exact yGZ _
end
theorem b_L (l:List Pt) (d:Nat):(ntL l d).le (bd d):=by
 unfold ntL
 split
 ·exact (yRu _).le_mono (yCL _)
 ·rename_i hb
  simp only [zJT,Bool.or_eq_true,decide_eq_true_eq,not_or] at hb
  have h5:l.length * bdP d≤5 * bdP d:=Nat.mul_le_mul_right _ (by omega)
  refine (yYK l d).le_mono ?_
  rw [yUu (by omega)]
  omega
end Go.Hx
end

section
set_option maxRecDepth 100000
namespace Go.Hx
end Go.Hx
end

section
namespace Go.Hx
variable [Glob]
end Go.Hx
end

section
set_option maxRecDepth 100000
namespace Go.Hx
variable [Glob]
end Go.Hx
end

section
namespace Go.Hx
open Go.RowKit
variable [Glob]
abbrev oV (d:Nat) (v:VOp):HO:=⟨none,.val d v⟩
abbrev oG (g:Nat) (b:Bool) (d:Nat) (v:VOp):HO:=⟨some (g,b),.val d v⟩
abbrev oC (d:Nat) (f:FuncId) (l:List (Opd×AM)):HO:=⟨none,.call (some d) f l⟩
abbrev oD (i:Nat) (l:Bool) (h:HO):DO:=⟨i,l,h⟩
abbrev oN (l:List HO):HCode:=.reg l false []
abbrev oR (l:List HO) (f:List Nat):HCode:=.reg l false [.forget f]
abbrev oQ (l:List DO) (f:List Nat):HCode:=.drg l [.forget f]
def foB (E:Env) (base:Nat) (av:List AV):Bool:=Nat.ble av.length E.N&&Nat.ble (zUj av) 1&&Nat.ble (nIo av) 1&&match ioOf av with|some cs=>E.nfix==1&&E.Γ[0]?==some (base,cs.length)|none=>E.nfix==0
theorem fo {E:Env} {base:Nat} {av:List AV} (h:foB E base av=true):yGO E base av:=by
 unfold foB at h
 simp only [Bool.and_eq_true] at h
 refine ⟨Nat.le_of_ble_eq_true h.1.1.1,Nat.le_of_ble_eq_true h.1.1.2,Nat.le_of_ble_eq_true h.1.2,?_⟩
 have h2:=h.2
 split at h2
 ·rename_i cs e
  try rw [e]
  simpa using h2
 ·rename_i e
  try rw [e]
  simpa using h2
def zBp (P:Program) (f:FuncId) (h:HCode) (E:Env) (R:List RSrc):Bool:=match P.funcs[f]? with
 |some fn=>match fn.body with
  |some c=>zDm P f&&(E.ok&&E.unaOk)&&(E.N==fn.ntmps)&&zMR P E c h&&zDp P E R fn.results.toList
  |none=>false
 |none=>false
theorem mkA {P:Program} {f:FuncId} {h:HCode} {E:Env} {R:List RSrc} (hc:zBp P f h E R=true) {base:Nat} {av:List AV} {r:RV} (hfo:yGO E base av) (hW:AVs.fits av→hwp P h (yGw E base av R r) (F0 E base av)) (hov:∀ x,r.res=.ov x→zUj av=0:=by intro x h;cases h<;>rfl):Contract P f av r:=by
 unfold zBp at hc
 split at hc
 ·rename_i fn hf
  split at hc
  ·rename_i c hb
   simp only [Bool.and_eq_true,beq_iff_eq] at hc
   exact zYr (fn:=fn) (c:=c) hf hb hc.1.1.1.1 (by simp [hc.1.1.1.2]) hc.1.1.2 hc.1.2 hc.2 hfo hW hov
  ·cases hc
 ·cases hc
theorem yLe {p:Prop} (h:p:=by repeat' (first|exact trivial|exact zAI (by omega)|exact zAB rfl|exact zAU rfl|exact zAW|exact le_refl _|refine And.intro ?_ ?_)):p:=h
theorem yIn:(∀ F,yGN [] F=F)∧(∀ i r F,yGN (i::r) F=yGN r (F.set i .una))∧(∀ (a:Ct) l n b,(a::l).set (n+1) b=a::l.set n b)∧(∀ (a:Ct) l b,(a::l).set 0 b=b::l)∧
  (∀ (f:AV→Ct),[].map f=[])∧(∀ (f:AV→Ct) a l,(a::l).map f=f a::l.map f)∧(∀ (f:PV→Ct),[].map f=[])∧(∀ (f:PV→Ct) a l,(a::l).map f=f a::l.map f)∧
  (∀ x,yCC (.val x)=.pv x)∧(∀ e k r,yCC (.own e k r)=.own e k r)∧(∀ x,yCC (.io x)=.ptr 0 0)∧(∀ F i,zAi F i []=F)∧(∀ F i c l,zAi F i (c::l)=zAi (F.set i c) (i+1) l)∧
  (ioOf []=none)∧(∀ x l,ioOf (.val x::l)=ioOf l)∧(∀ e k r l,ioOf (.own e k r::l)=ioOf l)∧(∀ x l,ioOf (.io x::l)=some x)∧
  (([]:List AV).length=0)∧(∀ (a:AV) l,(a::l).length=l.length+1)∧(∀ a:Ct,List.replicate 0 a=[])∧(∀ (a:Ct) n,List.replicate (n+1) a=a::List.replicate n a)∧
  (∀ (a:Ct) l r,a::l++r=a::(l++r))∧(∀ l:List Ct,[]++l=l):=by
 refine ⟨fun _=>rfl,fun _ _ _=>rfl,fun _ _ _ _=>rfl,fun _ _ _=>rfl,fun _=>rfl,fun _ _ _=>rfl,fun _=>rfl,fun _ _ _=>rfl,fun _=>rfl,fun _ _ _=>rfl,fun _=>rfl,fun _ _=>rfl,fun _ _ _ _=>rfl,rfl,fun _ _=>rfl,fun _ _ _ _=>rfl,fun _ _=>rfl,rfl,fun _ _=>rfl,fun _=>rfl,fun _ _=>rfl,fun _ _ _=>rfl,fun _=>rfl⟩
abbrev oA:=fun a b=>oV a (.mv (.t b))
abbrev oB:=fun a b c=>oV a (.ldR (.t b) c false)
abbrev oE:=fun a b=>oV a (.mv (.c (iv b)))
abbrev oF:=fun a b c=>oV a (.ints .add (.t b) (.c (iv c)))
abbrev oH:=fun a b c=>oD a false (oV b (.mv (.t c)))
abbrev oI:=fun a b=>oV a (.len false (.t b))
abbrev oJ:=fun a b c d=>oV a (.fldR (.t b) c d)
abbrev oK:=fun a b c d=>oV a (.idxA b (.t c) (.t d))
abbrev oL:=fun a b c d e f=>(⟨none,.sto (.t a) b c d e (.t f)⟩:HO)
abbrev oM:=fun a b c=>oV a (.ints .lss (.t b) (.t c))
abbrev oO:=fun a=>oV a (.mv (.c (bv false)))
abbrev oP:=fun a b c=>oV a (.pick (.t b) (.t c) (.c (bv false)))
abbrev oS:=fun a b c=>oV a (.pick (.t b) (.c (bv true)) (.t c))
abbrev oT:=fun a b c=>oV a (.ldR (.t b) c true)
abbrev oU:=fun a b c d=>oG a true b (.ldR (.t c) d false)
abbrev oW:=fun a b c d=>oD a false (oV b (.fldP (.t c) d))
abbrev oX:=fun a b c d=>oD a false (oV b (.ldR (.t c) d false))
abbrev oY:=fun a b c d e=>oG a true b (.fldR (.t c) d e)
abbrev oZ:=fun a b c=>oV a (.fldP (.t b) c)
abbrev o3:=fun a b c d e=>oD a false (oV b (.idxA c (.t d) (.t e)))
abbrev o4:=fun a b=>oV a (.boxF (.t b))
abbrev o5:=fun a b c d e f g=>(⟨none,.alloc a b c [.v (.int .i64 d),.v (mkS []),.v (mkS []),.v (.int .i64 e),.v (.int .i64 f),.nl g]⟩:HO)
abbrev o6:=fun a b c=>oG a false b (.mv (.t c))
abbrev o7:=fun a b c d=>oG a false b (.ldR (.t c) d false)
abbrev o8:=fun a b c d e=>oD a false (oV b (.fldR (.t c) d e))
abbrev o9:=fun a=>oV a (.mv (.c (bv true)))
abbrev oa:=fun a b c d=>oD a false (oV b (.ldR (.t c) d true))
abbrev oc:=fun a b c=>oG a true b (.mv (.t c))
abbrev od:=fun a b c d=>oD a false (oG b false c (.mv (.t d)))
abbrev oe:=fun a b c d e=>oG a false b (.fldR (.t c) d e)
abbrev og:=fun a b c d=>oG a false b (.pick (.t c) (.t d) (.c (bv false)))
abbrev oh:=fun a b c d e f=>oV a (.ldB (.t b) c d e f false)
abbrev oi:=fun a b c d e=>oD a false (oG b true c (.ldR (.t d) e false))
abbrev ol:=fun a b c=>oV a (.ints .eql (.t b) (.c (iv c)))
abbrev om:=fun a b c=>oV a (.ints .neq (.t b) (.c (iv c)))
abbrev oo:=fun a b c=>oC a b [(.t c,.v)]
abbrev oq:=fun a b c d e f=>oV a (.ldB (.t b) c d e f true)
abbrev ot:=fun a b c d e f=>oD a false (oG b true c (.fldR (.t d) e f))
abbrev ou:=fun a b=>(⟨none,.mvo a b⟩:HO)
abbrev ox:=fun a b c d e=>(⟨none,.alloc a b c [.nl d,.nl e]⟩:HO)
abbrev oy:=fun a b c d e=>(⟨none,.app a b c (.t d) (.t e)⟩:HO)
abbrev oz:=fun a b c=>oG a false b (.len false (.t c))
abbrev qA:=fun a b c d e f g=>(⟨none,.alloc a b c [.v (.int .i64 d),.v (mkS []),.v (mkS []),.nl e,.nl f,.nl g]⟩:HO)
abbrev qB:=fun a b c d e f g=>oD a false (oV b (.ldB (.t c) d e f g false))
abbrev qC:=fun a b c d=>oC a b [(.t c,.v),(.t d,.v)]
abbrev qD:=fun a b c=>oV a (.ext b c)
abbrev qE:=fun a b c d e f g=>oD a false ⟨none,.sto (.t b) c d e f (.t g)⟩
abbrev qF:=fun a b c d=>oD a false (oV b (.pick (.t c) (.t d) (.c (bv false))))
abbrev qG:=fun a b c d=>oD a false (oG b true c (.mv (.t d)))
abbrev qH:=fun a b c d=>(⟨none,.alloc a b c [.v (mkS []),.nl d]⟩:HO)
abbrev qI:=fun a b c d e f=>oD a false (oG b false c (.idxA d (.t e) (.t f)))
abbrev qJ:=fun a b=>oV a (.not (.t b))
abbrev qK:=fun a b c=>oV a (.bslF b [.t c])
abbrev qL:=fun a b c=>oV a (.ints .neq (.t b) (.t c))
abbrev qM:=fun a b c d=>oD a false (oV b (.pick (.t c) (.c (bv true)) (.t d)))
abbrev qN:=fun a b c d=>(⟨some (a,true),.call (some b) c [(.t d,.v)]⟩:HO)
abbrev qO:=fun a b c d e=>oD a true (oC b c [(.t d,.v),(.t e,.v)])
abbrev qP:=fun a b c d e f=>(⟨none,.alloc a b c [.v (.int .i64 d),.v (mkS []),.v (mkS []),.nl e,.nl f]⟩:HO)
abbrev qQ:=fun a b c d e=>(⟨some (a,true),.call (some b) c [(.t d,.v),(.t e,.v)]⟩:HO)
abbrev qR:=fun a b c d e=>oC a b [(.t c,.v),(.c (iv d),.v),(.c (iv e),.v)]
abbrev qS:=fun a b c=>oV a (.ints .lss (.t b) (.c (iv c)))
abbrev qT:=fun a b c=>oV a (.ints .gtr (.t b) (.c (iv c)))
abbrev qU:=fun a b c d=>oG a false b (.ints .gtr (.t c) (.c (iv d)))
abbrev qV:=fun a b c=>(⟨none,.nlo a b c⟩:HO)
abbrev qW:=fun a b c=>(⟨none,.callv (some a) (.t b) [(.t c,.v)]⟩:HO)
abbrev qX:=fun a b=>oV a (.bld [.nl b] [])
abbrev qY:=fun a b c d=>oD a false (oC b c [(.t d,.v)])
abbrev qZ:=fun a b c d e f g h i j k l m n o p=>oV a (.bld [.v (.int .i64 b),.v (mkS []),.v (mkS []),.nl c,.nl d] [(e,f,.c (iv g)),(h,i,.c (sv [j,k,l,m])),(n,o,.t p)])
abbrev q8:=fun a b c d e=>oD a false (oG b false c (.ldR (.t d) e false))
abbrev q9:=fun a b c d=>(⟨none,.callv (some a) (.t b) [(.t c,.v),(.t d,.v)]⟩:HO)
abbrev qa:=fun a b c d e f g h=>oC a b [(.t c,.i d e f),(.t g,.v),(.c (iv h),.v)]
abbrev qb:=fun a b c d=>oD a true (oC b c [(.t d,.v)])
abbrev qc:=fun a b c d=>oG a true b (.ints .eql (.t c) (.c (iv d)))
abbrev qd:=fun a b=>(⟨none,.vmv a b⟩:HO)
abbrev qe:=fun a b c d=>oD a false (oV b (.bslF c [.t d]))
abbrev qf:=fun a b c=>oV a (.bld [.v (.bool false),.v (.bool false),.v (.bool false),.v (.bool false)] [(b,c,.c (bv true))])
abbrev qg:=fun a b c d e f=>oD a false ⟨none,.app b c d (.t e) (.t f)⟩
abbrev qh:=fun a b c=>oG a true b (.len false (.t c))
abbrev qi:=fun a b c=>oG a false b (.not (.t c))
abbrev qj:=fun a b c=>oG a true b (.not (.t c))
abbrev qk:=fun a b c d e f=>oD a false (oG b false c (.fldR (.t d) e f))
abbrev ql:=fun a b c d e f g h i=>oD a false (oV b (.bld [.v (.int .i64 c),.v (mkS [])] [(d,e,.c (iv f)),(g,h,.t i)]))
abbrev qm:=fun a b c d e=>oD a false (oG b true c (.ints .eql (.t d) (.c (iv e))))
abbrev qn:=fun a b c d=>(⟨none,.alloc a b c [.nl d]⟩:HO)
abbrev qo:=fun a b c d=>oD a false (oG b true c (.len false (.t d)))
abbrev qp:=fun a b c=>oV a (.ints .add (.t b) (.t c))
abbrev qq:=fun a b c d e=>(⟨some (a,true),.call (some b) c [(.t d,.v),(.f e,.v)]⟩:HO)
abbrev qr:=fun a b c d e f=>oD a false (oG b true c (.idxA d (.t e) (.t f)))
abbrev qt:=fun a b c d=>oG a true b (.ldR (.t c) d true)
abbrev qu:=fun a b c=>oG a true b (.strs .eql (.t c) (.c (sv [])))
abbrev qv:=fun a b c d e f=>oD a true ⟨some (b,false),.call (some c) d [(.t e,.v),(.t f,.v)]⟩
abbrev qw:=fun a b c=>oD a false (oV b (.not (.t c)))
abbrev qx:=fun a b c d e=>(⟨none,.vap a b c d (.t e)⟩:HO)
abbrev qy:=fun a b c=>oV a (.ints .eql (.t b) (.t c))
abbrev qz:=fun a b c d e=>oD a false (oV b (.slr c (.t d) (some (.t e)) none))
abbrev vB:=fun a b c d=>oG a true b (.pick (.t c) (.c (bv true)) (.t d))
abbrev vC:=fun a b c d=>oG a true b (.ints .eql (.t c) (.t d))
abbrev vD:=fun a b c d e=>oD a false (oC b c [(.t d,.v),(.t e,.v)])
abbrev vE:=fun a b c=>oG a true b (.strs .neq (.t c) (.c (sv [])))
abbrev vF:=fun a b c d e f=>oD a false ⟨none,.stw (.t b) c d e f⟩
abbrev vG:=fun a b c d=>oG a false b (.ints .gtr (.t c) (.c (.one (.v (.int .i32 d)))))
abbrev vH:=fun a b=>oV a (.mv (.c (.one (.nl b))))
abbrev vI:=fun a b c d=>oG a true b (.ints .leq (.t c) (.c (.one (.v (.int .u8 d)))))
abbrev vJ:=fun a b=>oV a (.strs .neq (.t b) (.c (sv [])))
abbrev vK:=fun a b c d e f g h i j k l=>(⟨none,.vow a (.bld [.v (.int .i64 b),.v (mkS []),.nl c] [(d,e,.c (iv f)),(g,h,.t i)]) j k l⟩:HO)
abbrev vM:=fun a b c d e f g h=>oD a false ⟨none,.ldo b (.t c) d e f g h⟩
abbrev vN:=fun a b c d e f=>oC a b [(.t c,.v),(.t d,.v),(.t e,.v),(.t f,.v)]
abbrev vO:=fun a b=>oV a (.len true (.t b))
abbrev vP:=fun a=>oV a (.bld [.v (.bool false),.v (.bool false),.v (.bool false),.v (.bool false)] [])
abbrev vQ:=fun a b c d e f=>(⟨some (a,true),.call (some b) c [(.t d,.v),(.t e,.v),(.f f,.v)]⟩:HO)
abbrev vR:=fun a b c d=>oV a (.idxA b (.t c) (.c (iv d)))
abbrev vS:=fun a b c d e=>oV a (.bld [.v (mkS []),.nl b] [(c,d,.t e)])
abbrev vT:=fun a b c d e f g h=>oD a false (oG b false c (.ldB (.t d) e f g h false))
abbrev vU:=fun a b c=>oV a (.ints .sub (.t b) (.c (iv c)))
abbrev vV:=fun a b c=>oV a (.ints .geq (.t b) (.c (iv c)))
abbrev vW:=fun a b c d=>oG a false b (.ints .neq (.t c) (.t d))
abbrev vX:=fun a b c d e=>oD a false (oG b false c (.fldP (.t d) e))
abbrev vY:=fun a b c=>oD a false (oV b (.mv (.c (iv c))))
abbrev vZ:=fun a b c=>(⟨none,.alloc a b c [.v (.bool false),.v (.bool false),.v (.bool false),.v (.bool false)]⟩:HO)
abbrev v6:=fun a b c=>oV a (.bld [.nl b,.nl c] [])
abbrev v7:=fun a b c d=>oG a true b (.strs .eql (.t c) (.t d))
abbrev v8:=fun a b c d e=>(⟨none,.stw (.t a) b c d e⟩:HO)
abbrev va:=fun a b c=>(⟨none,.bsl a b c []⟩:HO)
abbrev vb:=fun a b c d=>oV a (.mkf b [.t c,.t d])
abbrev vc:=fun a b c d=>(⟨some (a,false),.call (some b) c [(.t d,.v)]⟩:HO)
abbrev vd:=fun a b c d e f g=>oC a b [(.t c,.i d e f),(.c (bv true),.v),(.c (iv g),.v)]
abbrev ve:=fun a b c d e f=>oD a false ⟨none,.vlh b (.t c) d e f []⟩
abbrev vf:=fun a=>oV a (.mv (.c (sv [])))
abbrev vg:=fun a b c d=>oG a false b (.ints .eql (.t c) (.c (iv d)))
abbrev vh:=fun a b c d=>oD a false (oV b (.ints .neq (.t c) (.t d)))
abbrev vi:=fun a b c d=>oG a false b (.ints .neq (.t c) (.c (iv d)))
abbrev vj:=fun a b c d=>oG a true b (.ints .leq (.t c) (.c (iv d)))
abbrev vk:=fun a b c d e f=>oV a (.bld [.nl b,.nl c] [(d,e,.t f)])
abbrev vm:=fun a b c d e=>oD a false (oG b false c (.ldR (.t d) e true))
abbrev vn:=fun a b c d e f g h=>oD a false ⟨some (b,false),.vlp c (.t d) e f g [] h true⟩
abbrev vo:=fun a b c d=>oG a false b (.ints .geq (.t c) (.t d))
abbrev vp:=fun a b c=>(⟨none,.vnl a b c⟩:HO)
abbrev vq:=fun a b c d e=>oC a b [(.t c,.v),(.c (iv d),.v),(.t e,.v)]
abbrev vr:=fun a b c d e f g=>(⟨none,.ldo a (.t b) c d e f g⟩:HO)
abbrev vt:=fun a b c d e f=>oD a false (oV b (.bld [.nl c] [(d,e,.t f)]))
abbrev vu:=fun a b c=>oD a false (oV b (.nilck (.t c)))
abbrev vw:=fun a b c d e f=>(⟨some (a,false),.call (some b) c [(.t d,.v),(.c (iv e),.v),(.c (iv f),.v)]⟩:HO)
abbrev vx:=fun a b c d=>oG a false b (.ints .gtr (.t c) (.c (.one (.v (.int .u8 d)))))
abbrev vy:=fun a b c d=>oG a false b (.ints .eql (.t c) (.c (.one (.v (.int .u8 d)))))
abbrev vz:=fun a b c d e=>(⟨none,.box a b c d (.t e)⟩:HO)
abbrev jA:=fun a b c d e f g h=>oV a (.bld [.v (.int .i64 b),.v (mkS []),.v (mkS []),.nl c,.nl d,.nl e] [(f,g,.t h)])
abbrev jB:=fun a b c=>oV a (.ints .lss (.t b) (.c (.one (.v (.int .i32 c)))))
abbrev jC:=fun a=>oV a (.mv (.c (.one (.v (.pointer none)))))
abbrev jD:=fun a b c=>oV a (.ints .geq (.t b) (.t c))
abbrev jE:=fun a b c d e f=>(⟨none,.vld a (.t b) c d e f true⟩:HO)
abbrev jF:=fun a b=>(⟨none,.isn a false (.t b)⟩:HO)
abbrev jG:=fun a b c d e=>oD a false (oG b false c (.pick (.t d) (.t e) (.c (bv false))))
abbrev jH:=fun a b c d=>oG a true b (.bld [.v (.int .i64 c),.v (.int .i64 d)] [])
abbrev jI:=fun a b c d e=>oD a false (oG b true c (.pick (.t d) (.c (bv true)) (.t e)))
abbrev jJ:=fun a b c=>oV a (.bslF b [.c (sv [c])])
abbrev jK:=fun a b c d e=>oG a true b (.idxA c (.t d) (.t e))
abbrev jL:=fun a b c d=>oD a false ⟨none,.callv (some b) (.t c) [(.t d,.v)]⟩
abbrev jM:=fun a b c d e f=>oD a true ⟨some (b,true),.call (some c) d [(.t e,.v),(.t f,.v)]⟩
abbrev jN:=fun a b c=>oG a true b (.nilck (.t c))
abbrev jO (t m:Nat):HCode:=.cond (.t t) .skip (.exit m)
abbrev jU (a b:HCode):HCode:=.seq a b
abbrev jX (a b c d e:HCode):HCode:=.seq a (.seq b (.seq c (.seq d e)))
abbrev jP (t:Nat) (a:HCode):HCode:=.cond (.t t) (.seq a .ret) .skip
abbrev jT (m:Nat) (b:HCode):HCode:=.block m (.loop b)
abbrev jW (a b c d:HCode):HCode:=.seq a (.seq b (.seq c d))
abbrev jV (a b c:HCode):HCode:=.seq a (.seq b c)
abbrev jQ (t:Nat) (a b:HCode):HCode:=.cond (.t t) a b
abbrev jS (m:Nat) (c:HCode) (t k:Nat) (b s:HCode):HCode:=.block m (.loop (.seq c (.seq (.cond (.t t) .skip (.exit m)) (.seq (.block k b) s))))
abbrev jR (m:Nat) (c:HCode) (t k:Nat) (b s:HCode):HCode:=.block m (.loop (.seq (.seq c (.cond (.t t) .skip (.exit m))) (.seq (.block k b) s)))
abbrev jZ (a:Nat) (b:List (Nat×Nat)) (c d:Nat):Env:={N:=a,Γ:=b,L:=c,nfix:=d}
end Go.Hx
end

section
namespace Go.Hx
open Go.RowKit
variable [Glob]
section
variable {P:Program} {E:Env} {m:Mem} {w:World}
end
end Go.Hx
end

section
namespace Go.Hx
open Go.RowKit
variable [Glob]
abbrev fr (x:PV):PV:=.w (frP Glob.n) x
def Dn (x y:PV):Prop:=∀ (m:Mem) (u:Value),Rp m x u→Rp m y u
def DnL:List PV→List PV→Prop
 |[],[]=>True
 |x::xs,y::ys=>Dn x y∧DnL xs ys
 |_,_=>False
def DnR:List (List PV)→List (List PV)→Prop
 |[],[]=>True
 |x::xs,y::ys=>DnL x y∧DnR xs ys
 |_,_=>False
def DnV:PVal→PVal→Prop
 |.one x,.one y=>Dn x y
 |.agg xs,.agg ys=>DnL xs ys
 |_,_=>False
def DnVL:List PVal→List PVal→Prop
 |[],[]=>True
 |x::xs,y::ys=>DnV x y∧DnVL xs ys
 |_,_=>False
def DnA:List AV→List AV→Prop
 |[],[]=>True
 |.val x::xs,.val y::ys=>DnV x y∧DnA xs ys
 |_,_=>False
theorem Dn.refl (x:PV):Dn x x:=fun _ _ h=>h
theorem Dn.trans {x y z:PV} (h:Dn x y) (g:Dn y z):Dn x z:=fun m u k=>g m u (h m u k)
theorem Dn.w (φ:Value→Prop) (x:PV):Dn (.w φ x) x:=fun _ _ h=>by simp only [Rp] at h;exact h.2
theorem DnL.refl:∀ (l:List PV),DnL l l
 |[]=>trivial
 |x::l=>⟨Dn.refl x,DnL.refl l⟩
theorem DnV.refl (x:PVal):DnV x x:=by
 cases x with
 |one x=>exact Dn.refl x
 |agg l=>exact DnL.refl l
theorem DnL.len:∀ {xs ys:List PV},DnL xs ys→xs.length=ys.length
 |[],[],_=>rfl
 |x::xs,y::ys,h=>by simp [DnL.len h.2]
 |[],y::ys,h=>h.elim
 |x::xs,[],h=>h.elim
theorem DnR.len:∀ {xs ys:List (List PV)},DnR xs ys→xs.length=ys.length
 |[],[],_=>rfl
 |x::xs,y::ys,h=>by simp [DnR.len h.2]
 |[],y::ys,h=>h.elim
 |x::xs,[],h=>h.elim
theorem DnL.at_ {m:Mem} {b:Nat}:∀ {xs ys:List PV} {o:Nat},DnL xs ys→RpAt m b o xs→RpAt m b o ys
 |[],[],_,_,h=>h
 |x::xs,y::ys,o,g,h=>by
  simp only [RpAt] at h ⊢
  obtain ⟨⟨u,h1,h2⟩,h3⟩:=h
  exact ⟨⟨u,h1,g.1 m u h2⟩,DnL.at_ g.2 h3⟩
 |[],y::ys,_,g,_=>g.elim
 |x::xs,[],_,g,_=>g.elim
theorem DnR.rows {m:Mem} {b k:Nat}:∀ {xs ys:List (List PV)} {o:Nat},DnR xs ys→RpRows m b k o xs→RpRows m b k o ys
 |[],[],_,_,h=>h
 |x::xs,y::ys,o,g,h=>by
  simp only [RpRows] at h ⊢
  obtain ⟨⟨h1,h2⟩,h3⟩:=h
  exact ⟨⟨g.1.len▸h1,g.1.at_ h2⟩,DnR.rows g.2 h3⟩
 |[],y::ys,_,g,_=>g.elim
 |x::xs,[],_,g,_=>g.elim
theorem DnL.rpl {m:Mem}:∀ {xs ys:List PV} {us:List Value},DnL xs ys→RpL m xs us→RpL m ys us
 |[],[],_,_,h=>h
 |x::xs,y::ys,us,g,h=>by
  simp only [RpL] at h ⊢
  obtain ⟨u,us',h1,h2,h3⟩:=h
  exact ⟨u,us',h1,g.1 m u h2,DnL.rpl g.2 h3⟩
 |[],y::ys,_,g,_=>g.elim
 |x::xs,[],_,g,_=>g.elim
theorem Dn.sl {k:Nat} {xs ys:List (List PV)} (h:DnR xs ys):Dn (.sl k xs) (.sl k ys):=fun m u g=>by
 simp only [Rp] at g ⊢
 obtain ⟨A,c,h1,h2,h3,h4⟩:=g
 have hl:=h.len
 refine ⟨A,c,by rw [←hl];exact h1,by rw [←hl];exact h2,h3,?_⟩
 rcases h4 with h4|⟨b,o,h5,h6⟩
 ·subst h4
  exact .inl (List.eq_nil_of_length_eq_zero hl.symm)
 ·exact .inr ⟨b,o,h5,h.rows h6⟩
theorem Dn.fsl {φ:Value→Prop} {k:Nat} {xs ys:List (List PV)} (h:DnR xs ys):Dn (.w φ (.sl k xs)) (.sl k ys):=(Dn.w φ _).trans (Dn.sl h)
theorem Dn.fp {xs ys:List PV} (h:DnL xs ys):Dn (.fp xs) (.fp ys):=fun m u g=>by
 simp only [Rp] at g ⊢
 obtain ⟨b,o,h1,h2⟩:=g
 exact ⟨b,o,h1,h.at_ h2⟩
theorem Dn.clo {f:Nat} {xs ys:List PV} (h:DnL xs ys):Dn (.clo f xs) (.clo f ys):=fun m u g=>by
 simp only [Rp] at g ⊢
 obtain ⟨us,h1,h2⟩:=g
 exact ⟨us,h1,h.rpl h2⟩
theorem DnR.map {α:Type} {f g:α→List PV}:∀ (l:List α),(∀ x∈l,DnL (f x) (g x))→DnR (l.map f) (l.map g)
 |[],_=>trivial
 |x::l,h=>⟨h x List.mem_cons_self,DnR.map l fun y hy=>h y (List.mem_cons_of_mem _ hy)⟩
theorem DnV.rp {m:Mem} {x y:PVal} {u:Value} (h:DnV x y) (g:RpV m x u):RpV m y u:=by
 cases x with
 |one x=>cases y with
  |one y=>exact h m u g
  |agg ys=>exact h.elim
 |agg xs=>cases y with
  |one y=>exact h.elim
  |agg ys=>obtain ⟨us,h1,h2⟩:=g;exact ⟨us,h1,h.rpl h2⟩
theorem DnVL.rp {m:Mem}:∀ {xs ys:List PVal} {us:List Value},DnVL xs ys→RpVL m xs us→RpVL m ys us
 |[],[],_,_,h=>h
 |x::xs,y::ys,us,g,h=>by
  obtain ⟨u,us',h1,h2,h3⟩:=h
  exact ⟨u,us',h1,g.1.rp h2,DnVL.rp g.2 h3⟩
 |[],y::ys,_,g,_=>g.elim
 |x::xs,[],_,g,_=>g.elim
theorem DnA.rep {m:Mem} {w:World}:∀ {as bs:List AV} {us:List Value},DnA as bs→ArgsRep m w as us→ArgsRep m w bs us
 |[],[],_,_,h=>h
 |.val x::as,.val y::bs,us,g,h=>by
  simp only [ArgsRep] at h ⊢
  obtain ⟨u,us',h1,h2,h3⟩:=h
  exact ⟨u,us',h1,g.1.rp h2,DnA.rep g.2 h3⟩
 |[],y::ys,_,g,_=>by cases y<;>exact g.elim
 |x::xs,[],_,g,_=>by cases x<;>exact g.elim
 |.own _ _ _::_,_::_,_,g,_=>g.elim
 |.io _::_,_::_,_,g,_=>g.elim
 |.val _::_,.own _ _ _::_,_,g,_=>g.elim
 |.val _::_,.io _::_,_,g,_=>g.elim
theorem DnA.ob:∀ {as bs:List AV},DnA as bs→(∀ us,zIJ as us=none∧ioB as us=none)∧(∀ us,zIJ bs us=none∧ioB bs us=none)
 |[],[],_=>⟨fun us=>⟨by cases us<;>rfl,by cases us<;>rfl⟩,fun us=>⟨by cases us<;>rfl,by cases us<;>rfl⟩⟩
 |.val x::as,.val y::bs,g=>by
  obtain ⟨h1,h2⟩:=DnA.ob g.2
  refine ⟨fun us=>?_,fun us=>?_⟩
  ·cases us with
   |nil=>exact ⟨rfl,rfl⟩
   |cons u us=>exact h1 us
  ·cases us with
   |nil=>exact ⟨rfl,rfl⟩
   |cons u us=>exact h2 us
 |[],y::ys,g=>by cases y<;>exact g.elim
 |x::xs,[],g=>by cases x<;>exact g.elim
 |.own _ _ _::_,_::_,g=>g.elim
 |.io _::_,_::_,g=>g.elim
 |.val _::_,.own _ _ _::_,g=>g.elim
 |.val _::_,.io _::_,g=>g.elim
variable {P:Program} {f:FuncId}
theorem Contract.arg {al bl:List AV} {r:RV} (h:Contract P f bl r) (hd:DnA al bl):Contract P f al r:=by
 obtain ⟨h1,h2⟩:=h
 obtain ⟨a1,b1⟩:=hd.ob
 refine ⟨h1,fun m w us hm ha _ hg _=>?_⟩
 have:=h2 m w us hm (hd.rep ha) (fun g hg=>by rw [(b1 us).1] at hg;cases hg) hg (fun b hb=>by
  rcases hb with hb|hb
  ·rw [(b1 us).1] at hb;cases hb
  ·rw [(b1 us).2] at hb;cases hb)
 refine this.mono fun e w' hp=>?_
 obtain ⟨m',p1,p2,p3,p4,p5,p6⟩:=hp
 have eo:zIJ al us=zIJ bl us:=by rw [(a1 us).1,(b1 us).1]
 have ei:ioB al us=ioB bl us:=by rw [(a1 us).2,(b1 us).2]
 refine ⟨m',p1,p2,?_,?_,?_,?_⟩
 ·exact p3.mono fun b _ hb=>by unfold zTT at hb ⊢;rw [eo,ei];exact hb
 ·rw [eo];exact p4
 ·intro b hb;rw [(a1 us).2] at hb;cases hb
 ·rw [eo];exact p6
theorem Contract.post {as:List AV} {r r':RV} (h:Contract P f as r) (hr:∀ (m':Mem) (w w':World) (us:List Value) (e:Ending),Glob.n≤w.heap.size→yBh m' w w' (zIJ as us) r.res e→yBh m' w w' (zIJ as us) r'.res e) (hio:Res.ioOf r=Res.ioOf r'):Contract P f as r':=by
 obtain ⟨h1,h2⟩:=h
 refine ⟨h1,fun m w us hm ha hd hg hb=>?_⟩
 refine (h2 m w us hm ha hd hg hb).mono fun e w' hp=>?_
 obtain ⟨m',p1,p2,p3,p4,p5,p6⟩:=hp
 exact ⟨m',p1,p2,p3,p4,fun b hb=>hio▸p5 b hb,hr m' w w' us e (Glob.size _ hg) p6⟩
theorem Contract.dn {as:List AV} {x y:PVal} {io:List PV} (h:Contract P f as {res:=.val x,io:=io}) (hd:DnV x y):Contract P f as {res:=.val y,io:=io}:=
 h.post (fun m' w w' us e _ hr=>by
  obtain ⟨u,h1,h2⟩:=hr
  exact ⟨u,h1,hd.rp h2⟩) rfl
theorem Contract.dnt {as:List AV} {xs ys:List PVal} {io:List PV} (h:Contract P f as {res:=.tup xs,io:=io}) (hd:DnVL xs ys):Contract P f as {res:=.tup ys,io:=io}:=
 h.post (fun m' w w' us e _ hr=>by
  obtain ⟨u,h1,h2⟩:=hr
  exact ⟨u,h1,hd.rp h2⟩) rfl
theorem yKo:∀ {as:List AV},zUj as=0→∀ us,zIJ as us=none
 |[],_,us=>by cases us<;>rfl
 |x::as,h,us=>by
  cases us with
  |nil=>cases x<;>rfl
  |cons u us=>
   cases x with
   |val x=>exact yKo (as:=as) h us
   |io c=>exact yKo (as:=as) h us
   |own e k rows=>simp [zUj] at h
theorem Contract.fresh {as:List AV} {e k:Nat} {rows:List (List PV)} {io:List PV} (h:Contract P f as {res:=.own e k rows,io:=io}) (ho:zUj as=0:=by rfl):Contract P f as {res:=.val (.one (fr (.sl k rows))),io:=io}:=
 h.post (fun m' w w' us e hw hr=>by
  obtain ⟨u,h1,h2,h3⟩:=hr
  refine ⟨u,h1,?_⟩
  have h4:=OwnAt.rp h2
  show Rp m' (.w (frP Glob.n) (.sl k rows)) u
  simp only [Rp] at h4 ⊢
  refine ⟨?_,h4⟩
  obtain ⟨xs,h5⟩:=h2.1
  refine zK7 h5 fun g hg=>?_
  rcases h3 g hg with h6|h6
  ·omega
  ·rw [yKo ho us] at h6;cases h6) rfl
end Go.Hx
end

section
set_option maxRecDepth 100000
namespace Go.Hx
open Go.RowKit
theorem yMo:∀ (es:List Ent) (i:Nat) (k:Key) (n:Int),i≤es.length→(∀ j,j < i→zAJ (es.getD j default).key k=true)→(i=es.length∨zAJ k (es.getD i default).key=true)→yBw es k n=es.take i++⟨k.1,k.2,[n]⟩::es.drop i
 |[],i,k,n,hi,_,_=>by
  have:i=0:=by simpa using hi
  subst this;rfl
 |e::r,0,k,n,_,_,h=>by
  have h1:zAJ k e.key=true:=by rcases h with h|h;simp at h;exact h
  rw [yBw,if_neg (by rw [zIT h1];decide),if_pos h1];rfl
 |e::r,i+1,k,n,hi,hj,h=>by
  have h0:zAJ e.key k=true:=hj 0 (by omega)
  rw [yBw,if_pos h0,yMo r i k n (by simpa using hi) (fun j hjj=>by have:=hj (j+1) (by omega);simpa using this) (by
   rcases h with h|h
   ·exact .inl (by simpa using h)
   ·exact .inr (by simpa using h))]
  rfl
theorem yMp:∀ (es:List Ent) (i:Nat) (k:Key) (n:Int),i < es.length→(∀ j,j < i→zAJ (es.getD j default).key k=true)→(es.getD i default).key=k→yBw es k n=es.set i ⟨(es.getD i default).kind,(es.getD i default).name,(es.getD i default).nodes++[n]⟩
 |[],i,k,n,hi,_,_=>by simp at hi
 |e::r,0,k,n,_,_,h=>by
  have h1:e.key=k:=h
  rw [yBw,if_neg (by rw [h1,zBy];decide),if_neg (by rw [h1,zBy];decide)];rfl
 |e::r,i+1,k,n,hi,hj,h=>by
  have h0:zAJ e.key k=true:=hj 0 (by omega)
  rw [yBw,if_pos h0,yMp r i k n (by simpa using hi) (fun j hjj=>by have:=hj (j+1) (by omega);simpa using this) (by simpa using h)]
  rfl
theorem yRN (es:List Ent) (k:Key) (n:Int):(yBw es k n).length≤es.length+1:=by
 induction es with
 |nil=>simp [yBw]
 |cons e r ih=>
  rw [yBw]
  split
  ·simpa using ih
  ·split<;>simp
theorem yOq (ps:List (Key×Int)):(zCI ps).length≤ps.length:=by
 have:∀ (ps:List (Key×Int)) (l:List Ent),(ps.foldl (fun l p=>yBw l p.1 p.2) l).length≤l.length+ps.length:=by
  intro ps
  induction ps with
  |nil=>intro l;simp
  |cons p r ih=>
   intro l
   have h1:=yRN l p.1 p.2
   have:=ih (yBw l p.1 p.2)
   rw [List.foldl_cons,List.length_cons]
   omega
 have:=this ps []
 simpa [zCI] using this
theorem yKv (ps:List (Key×Int)) {e:Ent} (h:e∈zCI ps):e.nodes.length≤ps.length:=by
 have:=((zMU ps.length ps rfl).2 e).1 h
 rw [this.2]
 unfold zAK
 rw [List.length_map]
 exact List.length_filter_le _ _
def yH5 (t:Nat) (e:Ent):List OV:=[.p (bI e.kind),.p (bS e.name),zK9 t e.nodes]
def ovT (t:Nat) (es:List Ent):List (List OV):=es.map (yH5 t)
theorem zEx (t:Nat) (es:List Ent):(ovT t es).length=es.length:=by simp [ovT]
theorem zWz (t:Nat) (es:List Ent) (i:Nat) (h:i < es.length):(ovT t es).getD i []=yH5 t (es.getD i default):=by simp [ovT,h]
variable [Glob]
theorem yPW (t:Nat) (e:Ent):zOv (yH5 t e)=some [bI e.kind,bS e.name,.sl 1 (zAM e.nodes)]:=by
 have:(zK9 t e.nodes).frz=some (.sl 1 (zAM e.nodes)):=by
  have e1:(e.nodes.map fun n=>[OV.p (bI n)])=(zAM e.nodes).map fun r=>r.map OV.p:=by simp [zAM]
  unfold zK9
  rw [e1]
  exact yBs (zFS _)
 simp only [yH5,zOv,OV.frz,this]
theorem zWA (t:Nat):∀ (es:List Ent),zCz (ovT t es)=some (es.map fun e=>[bI e.kind,bS e.name,.sl 1 (zAM e.nodes)])
 |[]=>rfl
 |e::es=>by
  have ih:=zWA t es
  unfold ovT at ih ⊢
  simp only [List.map_cons,zCz,yPW,ih]
theorem yH6 (t:Nat) (es:List Ent) (i:Nat) (hi:i≤es.length) (z r:List OV):(zD3 i (ovT t es++[z])).set i r=ovT t (es.take i)++r::ovT t (es.drop i):=by
 have hl:(List.take i (ovT t es++[z])).length=i:=by rw [List.length_take,List.length_append,zEx];simp;omega
 have h1:List.take i (ovT t es++[z])=ovT t (es.take i):=by
  rw [List.take_append_of_le_length (by rw [zEx];exact hi)]
  simp [ovT]
 have h2:(List.drop i (ovT t es++[z])).dropLast=ovT t (es.drop i):=by
  rw [List.drop_append_of_le_length (by rw [zEx];exact hi),List.dropLast_concat]
  simp [ovT]
 unfold zD3
 rw [List.append_assoc,List.set_append_right _ _ (by rw [hl];exact Nat.le_refl _),hl,Nat.sub_self,h1,h2]
 rfl
theorem yH7 (t:Nat) (es:List Ent) (i:Nat) (hi:i≤es.length) (z:List OV):(zD3 i (ovT t es++[z])).length=es.length+1:=by
 unfold zD3
 simp only [List.length_append,List.length_take,List.length_cons,List.length_nil,List.length_dropLast,List.length_drop,zEx]
 omega
end Go.Hx
end

section
namespace Go.Hx
open Go.RowKit
variable [Glob]
variable {P:Program} {E:Env}
def F0v (E:Env) (x:OVal):List Ct:=.ov x::List.replicate (E.L-1) .un
theorem yMq {fn:Func} {r:RSrc} (hrs:zDp P E [r] fn.results.toList=true) {tmps:Array Value} {w':World} {u:Value} (h:∀ s,zMS P E r s=true→(rdR tmps s).run P w'=.ok u w'):(results fn tmps).run P w'=.ok u w':=by
 have e:results fn tmps=(do let vs ←fn.results.mapM (rdR tmps);pure (if h:vs.size=1 then vs[0] else .tuple vs)):=by unfold results;congr
 cases hl:fn.results.toList with
 |nil=>rw [hl] at hrs;simp [zDp] at hrs
 |cons s ss=>
  rw [hl] at hrs
  cases ss with
  |cons s2 ss2=>simp [zDp] at hrs
  |nil=>
   simp only [zDp,Bool.and_eq_true] at hrs
   have h1:=h s hrs.1
   rw [e,Array.mapM_eq_mapM_toList,hl]
   simp [h1]
theorem zWB {f:FuncId} {fn:Func} {c:Code} (hf:P.funcs[f]?=some fn) (hb:fn.body=some c) (hcall:zDm P f=true) (hE':(E.ok&&E.unaOk)=true) (hN:E.N=fn.ntmps)
  {h:HCode} (hk:zMR P E c h=true) {rs:List RSrc} (hrs:zDp P E rs fn.results.toList=true) (hnf:E.nfix=0) (hN1:1≤E.N) {x x':OVal} (hW:hwp P h (yGw E 0 [] rs {res:=.ov x'}) (F0v E x)):zC8 P f x x':=by
 have hE:=Bool.and_eq_true_iff.1 hE'
 have wf:=Env.wf_of_ok hE.1
 refine ⟨hcall,fun m w u fp hm hx hnd hfp hG0=>?_⟩
 have hNL:=wf.le
 have hget:∀ i,(F0v E x).getD i .un=if i=0 then .ov x else .un:=by
  intro i
  cases i with
  |zero=>rfl
  |succ i=>
   simp only [F0v,List.getD_cons_succ]
   rw [List.getD_eq_getElem?_getD,List.getElem?_replicate]
   split<;>rfl
 have h0:Inv E {w0:=w,m0:=m,R0:=fun b=>b∈fp,b0:=fun _=>none,g0:=hG0,gR:=fun b hb=>(hfp b hb).1} (F0v E x) {tmps:=#[u]++Array.replicate (E.N-(#[u]:Array Value).size) undef,defers:=[]} w:=by
  refine ⟨m,fun _=>none,fun b=>if b∈fp then some (.key 0) else none,⟨by simp [F0v];omega,by simp;omega,rfl,fun i hi=>?_,fun j bn hj=>?_,hm,m.le_refl,Pres.refl _ _,fun b t hb'=>?_,fun b t hb'=>?_,fun b o v hv=>.inl hv,fun j _=>rfl⟩⟩
  ·rw [hget]
   split
   ·rename_i e
    subst e
    have e2:(#[u]++Array.replicate (E.N-(#[u]:Array Value).size) undef).getD 0 undef=u:=by
     rw [Array.getD_eq_getD_getElem?,Array.getElem?_append_left (by simp)]
     simp
    simp only
    rw [e2]
    exact ⟨fp,hx,hnd,fun g hg=>⟨by simp [hg],(hfp g hg).2⟩⟩
   ·trivial
  ·have hlo:=wf.lo j bn hj
   show ∀ o,o < bn.2→unC ((F0v E x).getD (bn.1+o) .un)
   intro o ho
   rw [hget,if_neg (by omega)]
   exact .inl rfl
  ·split at hb'
   ·rename_i hin;exact .inr hin
   ·cases hb'
  ·split at hb'
   ·rename_i hin;exact hx.lt b hin
   ·cases hb'
 have hc:=zHc wf c h _ _ _ _ hk hW h0
 refine calls_of_wp hf hb ?_
 rw [←hN]
 refine wp_mono hc ?_
 have fin:∀ {F:List Ct} {a':Act} {w':World},zJQ F rs (.ov x')→
   Inv E {w0:=w,m0:=m,R0:=fun b=>b∈fp,b0:=fun _=>none,g0:=hG0,gR:=fun b hb=>(hfp b hb).1} F a' w'→
   a'.defers=[]∧∃ v,(results fn a'.tmps).run P w'=.ok v w'∧yTx m w fp x' (.returned v) w':=by
  rintro F a' w' hr ⟨m',β,ow,hG⟩
  refine ⟨hG.dfr,?_⟩
  have hfresh:∀ (g:Nat) (t:Tag),ow g=some t→w.heap.size≤g∨g∈fp:=fun g t hg=>hG.own g t hg
  have hmk:∀ v fp',OvV m' w' x' v fp'→fp'.Nodup→(∀ g∈fp',(∃ t,ow g=some t)∧∀ o,m' g o=none)→yTx m w fp x' (.returned v) w':=by
   intro v fp' k1 k2 k3
   exact ⟨m',hG.mle,hG.mem,hG.pres,hG.new,v,fp',rfl,k1,k2,fun g hg=>⟨(k3 g hg).1.elim fun t ht=>hfresh g t ht,(k3 g hg).2⟩⟩
  simp only [zJQ] at hr
  split at hr
  ·rename_i t
   have hlt:t < E.N:=by
    cases hl:fn.results.toList with
    |nil=>rw [hl] at hrs;simp [zDp] at hrs
    |cons s ss=>
     rw [hl] at hrs
     simp only [zDp,Bool.and_eq_true] at hrs
     cases s with
     |tmp t'=>have:=hrs.1;simp only [zMS,Bool.and_eq_true,decide_eq_true_eq] at this;exact this.2
     |cell x y=>have:=hrs.1;simp [zMS] at this
   have hs:=hG.slots t hlt
   rw [hr] at hs
   obtain ⟨fp',k1,k2,k3⟩:=hs
   refine ⟨a'.tmps.getD t undef,yMq hrs (fun s hs1=>?_),hmk _ fp' k1 k2 fun g hg=>⟨⟨_,(k3 g hg).1⟩,(k3 g hg).2⟩⟩
   cases s with
   |cell x y=>simp [zMS] at hs1
   |tmp t'=>
    simp only [zMS,Bool.and_eq_true,beq_iff_eq,decide_eq_true_eq] at hs1
    obtain ⟨rfl,_⟩:=hs1
    rfl
  ·rename_i t j bs off n agg
   obtain ⟨e1,cs,e2,rfl⟩:=hr
   have hsrc:∃ s,fn.results.toList=[s]∧zMS P E (.cellB t j bs off n agg) s=true:=by
    cases hl:fn.results.toList with
    |nil=>rw [hl] at hrs;simp [zDp] at hrs
    |cons s ss=>
     rw [hl] at hrs
     cases ss with
     |nil=>simp only [zDp,Bool.and_eq_true] at hrs;exact ⟨s,rfl,hrs.1⟩
     |cons s2 ss=>simp [zDp] at hrs
   obtain ⟨s,_,hs1⟩:=hsrc
   cases s with
   |tmp t'=>simp [zMS] at hs1
   |cell b ty=>
    have hs1':=hs1
    simp only [zMS,Bool.and_eq_true,beq_iff_eq,decide_eq_true_eq,Bool.or_eq_true] at hs1'
    obtain ⟨⟨⟨⟨⟨rfl,ht⟩,hb⟩,ha⟩,hn⟩,h1⟩:=hs1'
    obtain ⟨nn,hj,hle⟩:=zDG hb
    obtain ⟨bb,hbb,hv⟩:=zC5 hG (x:=.t t) (y:=.tmp t) (by simp [zAk,ht]) e1
    have hv':a'.tmps.getD t undef=_:=hv
    have hB:=hG.boxes _ _ hj
    rw [hbb] at hB
    obtain ⟨us',fp',k1,k2,k3,k4,k5⟩:=yCu hB n off hle cs e2
    have hrun:=zBf (P:=P) (w:=w') ha hn h1 (us:=us') (b:=bb) (o:=off) k1 k5
    refine ⟨if agg then .agg us'.toArray else us'.headD undef,yMq hrs (fun s hs2=>?_),hmk _ fp' (zTl k2 (by rw [k1];exact h1)) k3 fun g hg=>?_⟩
    ·cases s with
     |tmp t'=>simp [zMS] at hs2
     |cell b' ty'=>
      have hs2':=hs2
      simp only [zMS,Bool.and_eq_true,beq_iff_eq,decide_eq_true_eq,Bool.or_eq_true] at hs2'
      obtain ⟨⟨⟨⟨⟨rfl,_⟩,_⟩,ha'⟩,hn'⟩,_⟩:=hs2'
      have hrun':=zBf (P:=P) (w:=w') ha' hn' h1 (us:=us') (b:=bb) (o:=off) k1 k5
      simp only [rdR,hv',asAddr,Sem.run_bind,Sem.run_pure,Result.andThen_ok,hrun']
    ·obtain ⟨⟨i,_,_,i3,_⟩,i5⟩:=k4 g hg
     exact ⟨⟨_,i3⟩,i5⟩
  ·exact hr.elim
 rintro e a' w' ⟨F,hq,hI⟩
 cases e with
 |normal=>exact fin hq.1 hI
 |ret=>exact fin hq.1 hI
 |panic ch=>
  obtain ⟨v,hv,_⟩:=hq
  cases hv
 |exit id=>exact hq.elim
 |goto l=>exact hq.elim
 |outgrown=>exact hq.elim
end Go.Hx
end

section
namespace Go.Hx
variable [Glob]
def ndF (x:Nd):List PV:=[bI x.up,bS x.tag,bS x.id,fr (.sl 1 (yCG x.cls)),fr (.sl 2 (yCH x.att))]
def yI4 (l:List Nd):List (List PV):=l.map ndF
theorem yMt (l:List Nd):(yI4 l).length=l.length:=by simp [yI4]
theorem yYP (x:Nd):DnL (ndF x) (ndV x):=⟨Dn.refl _,Dn.refl _,Dn.refl _,Dn.w _ _,Dn.w _ _,trivial⟩
theorem ySZ (l:List Nd):DnR (yI4 l) (zDW l):=DnR.map l fun x _=>yYP x
end Go.Hx
end

section
namespace Go.Hx
open Go.RowKit
section
variable {α β:Type}
def mix (f g:α→β) (l:List α) (k:Nat):List β:=(l.take k).map f++(l.drop k).map g
variable {f g:α→β} {l:List α} {k:Nat}
theorem zW4:(mix f g l k).length=l.length:=by simp [mix];omega
theorem yRV:mix f g l 0=l.map g:=by simp [mix]
theorem yLa:mix f g l l.length=l.map f:=by simp [mix]
theorem yFu [Inhabited α] {d:β} (h:k < l.length):(mix f g l k).getD k d=g (l.getD k default):=by
 unfold mix
 rw [List.getD_eq_getElem?_getD,List.getElem?_append_right (by simp;omega)]
 simp [Nat.min_eq_left (Nat.le_of_lt h),h]
theorem yFv [Inhabited α] (h:k < l.length):(mix f g l k).set k (f (l.getD k default))=mix f g l (k+1):=by
 have e1:l.drop k=l.getD k default::l.drop (k+1):=by simp [h]
 have e2:l.take (k+1)=l.take k++[l.getD k default]:=by rw [List.take_succ_eq_append_getElem h];simp [h]
 unfold mix
 rw [e1,e2,List.map_append,List.map_cons,List.set_append_right _ _ (by simp;omega)]
 simp [Nat.min_eq_left (Nat.le_of_lt h)]
end
section
variable [Glob]
theorem yUM {F:List Ct} {x:Opd} {c:Nat} {r:List (Opd×Nat)}:zDn F ((x,c)::r)=(match (zAn F x).pv? with
  |some (.one (.v (.int _ n)))=>((zAn F x).need∧0≤n∧(zDn F r).1,(n.toNat,c)::(zDn F r).2)
  |_=>(False,[])):=rfl
theorem yUN {b:Option Nat} {e k i c:Nat} {rows:List (List OV)} {pt:List (Nat×Nat)}:(OV.os b e k rows).get ((i,c)::pt)=(match (rows.getD i [])[c]? with
  |some y=>y.get pt
  |none=>none):=rfl
theorem yUO {b:Option Nat} {e k i c:Nat} {rows:List (List OV)} {pt:List (Nat×Nat)} {y:OV}:(OV.os b e k rows).upd ((i,c)::pt) y=.os b e k (rows.set i ((rows.getD i []).set c (((rows.getD i []).getD c .hole).upd pt y))):=rfl
theorem yFw {l:List (List OV)} {m:Nat} (h:m < l.length) (r:List OV):(l.set m r).getD m []=r:=by simp [h]
theorem yMw {l:List (List OV)} {m:Nat} {r:List OV} (h:m < l.length) (e:l.getD m []=r):l=l.set m r:=by
 subst e
 refine List.ext_getElem (by simp) fun i h1 h2=>?_
 rw [List.getElem_set]
 split
 ·rename_i h3;subst h3;simp [h]
 ·rfl
variable {P:Program} {F:List Ct} {K:List Ct→Prop} {X:Value→List Ct→Prop}
theorem yWR {d f x:Nat} {v v':OVal} (e:F.getD x .un=.ov v) (h:zC8 P f v v') (hk:K ((F.set x .un).set d (.ov v'))):hoW P ⟨none,.callo d f x⟩ F K X:=by
 rw [yUi,e]
 exact ⟨v',h,hk⟩
theorem yWS {d f x:Nat} {v:OVal} {cs:List OV} {xs:List PV} (e:F.getD x .un=.ov v) (h:zC8 P f v (.agg cs)) (hf:zOv cs=some xs) (hk:K ((F.set x .un).set d (.pv (.agg xs)))):hoW P ⟨none,.callp d f x⟩ F K X:=by
 rw [yUj,e]
 exact ⟨cs,xs,h,hf,hk⟩
theorem yIp {g:Nat×Bool} {f:FuncId} {args:List (Opd×AM)} {d:Nat} (hg:zEh F g=some false) (hk:K (F.set d (.gd false (bv false)))):hoW P ⟨some g,.call (some d) f args⟩ F K X:=
 zAo hg (fun h=>nomatch h) (fun h=>nomatch h) hk
end
end Go.Hx
end

section
set_option maxRecDepth 100000
namespace Go.Hx
section
variable [Glob]
variable {P:Program} {F:List Ct} {K:List Ct→Prop} {X:Value→List Ct→Prop}
end
end Go.Hx
end

section
namespace Go.Hx
variable [Glob]
def C (d:List Nd) (k:Int):List Int:=zBN d d.length k
section
variable {d:List Nd} (hd:zDI d d.length=true)
include hd
theorem yWT {k:Int} (h:k < 0):C d k=[]:=by
 unfold C
 cases d.length<;>simp [zBN,h]
theorem zGE {k:Nat} (hk:k < d.length):C d k=(k:Int)::C d (zAZ d k):=by
 unfold C
 have hu:=zB3 hd k hk
 obtain ⟨f,hf⟩:∃ f,d.length=f+1:=⟨d.length-1,by omega⟩
 rw [hf]
 have e:=zHf (d:=d) f (f+1) (zAZ d k) (fun j hj=>(zB3 hd j (by omega)).2) (by omega) (by omega)
 rw [←e]
 simp only [zBN,Int.toNat_natCast]
 rw [if_neg (by omega)]
theorem yXH {k:Int} (hk:k < d.length) {x:Int} (hx:x∈C d k):0≤x∧x≤k:=
 zFT d.length k (fun j hj=>(zB3 hd j (by omega)).2) x hx
theorem yUQ {p:Nat→Prop} (h:∀ k,k < d.length→(∀ j:Nat,zAZ d k=(j:Int)→j < k→p j)→p k):∀ k,k < d.length→p k:=by
 intro k
 induction k using Nat.strongRecOn with
 |ind k ih=>intro hk;exact h k hk fun j _ hj=>ih j hj (by omega)
theorem yFz {k:Nat} (hk:k < d.length):zAZ d k < 0∨∃ j:Nat,zAZ d k=j∧j < k:=by
 have:=zB3 hd k hk
 by_cases h:zAZ d k < 0
 ·exact .inl h
 ·exact .inr ⟨(zAZ d k).toNat,by omega,by omega⟩
theorem yYQ:∀ k,k < d.length→∀ {u x:Int},u∈C d k→x∈C d u→x∈C d k:=by
 refine yUQ hd fun k hk ih u x hu hx=>?_
 rw [zGE hd hk] at hu ⊢
 rcases List.mem_cons.1 hu with rfl|hu
 ·rw [zGE hd hk] at hx;exact hx
 ·refine List.mem_cons_of_mem _ ?_
  rcases yFz hd hk with h|⟨j,h,hj⟩
  ·rw [yWT hd h] at hu;cases hu
  ·rw [h] at hu ⊢
   exact ih j h hj hu hx
theorem yYR:∀ k,k < d.length→∀ {i:Nat} {x:Int},(i:Int)∈C d k→x∈C d k→x < i→x∈C d (zAZ d i):=by
 refine yUQ hd fun k hk ih i x hi hx hlt=>?_
 have hb:=yXH hd (by omega) hi
 rw [zGE hd hk] at hi hx
 rcases List.mem_cons.1 hi with e|hi
 ·have e:i=k:=by omega
  subst e
  exact (List.mem_cons.1 hx).resolve_left (by omega)
 ·have hx:=(List.mem_cons.1 hx).resolve_left (by omega)
  rcases yFz hd hk with h|⟨j,h,hj⟩
  ·rw [yWT hd h] at hi;cases hi
  ·rw [h] at hi hx
   exact ih j h hj hi hx hlt
end
end Go.Hx
end

section
namespace Go.Hx
theorem St.tests_mk (t:Bys) (l:List Ts):(St.mk t l).tests=l:=rfl
theorem St.tag_mk (t:Bys) (l:List Ts):(St.mk t l).tag=t:=rfl
mutual
def zCP:Ts→Ts→Bool
 |.mk k n v a b l,t=>k==t.kind&&(n==t.name)&&(v==t.value)&&(a==t.na&&b==t.nb)&&zCy l t.list
def zEb:List Ts→List Ts→Bool
 |[],[]=>true
 |t::r,t'::r'=>zCP t t'&&zEb r r'
 |_,_=>false
def zPt:St→St→Bool
 |.mk t l,s=>(t==s.tag)&&zEb l s.tests
def zEc:List St→List St→Bool
 |[],[]=>true
 |t::r,t'::r'=>zPt t t'&&zEc r r'
 |_,_=>false
def zCx:Pt→Pt→Bool
 |.mk s l,p=>(l==p.links)&&zEc s p.steps
def zCy:List Pt→List Pt→Bool
 |[],[]=>true
 |t::r,t'::r'=>zCx t t'&&zCy r r'
 |_,_=>false
end
mutual
theorem zOd:∀ (t u:Ts),zCP t u=true↔t=u
 |.mk k n v a b l,.mk k' n' v' a' b' l'=>by
  have h:=zEd l l'
  simp only [zCP,Ts.kind,Ts.name,Ts.value,Ts.na,Ts.nb,Ts.list,Bool.and_eq_true,beq_iff_eq,h,Ts.mk.injEq]
  grind
theorem zPu:∀ (t u:List Ts),zEb t u=true↔t=u
 |[],[]=>by simp [zEb]
 |t::r,t'::r'=>by
  have h:=zOd t t'
  have h2:=zPu r r'
  simp only [zEb,Bool.and_eq_true,h,h2,List.cons.injEq]
 |[],t::r=>by simp [zEb]
 |t::r,[]=>by simp [zEb]
theorem yQl:∀ (t u:St),zPt t u=true↔t=u
 |.mk t l,.mk t' l'=>by
  have h:=zPu l l'
  simp only [zPt,St.tag,St.tests,Bool.and_eq_true,beq_iff_eq,h,St.mk.injEq]
theorem zPv:∀ (t u:List St),zEc t u=true↔t=u
 |[],[]=>by simp [zEc]
 |t::r,t'::r'=>by
  have h:=yQl t t'
  have h2:=zPv r r'
  simp only [zEc,Bool.and_eq_true,h,h2,List.cons.injEq]
 |[],t::r=>by simp [zEc]
 |t::r,[]=>by simp [zEc]
theorem zXl:∀ (t u:Pt),zCx t u=true↔t=u
 |.mk s l,.mk s' l'=>by
  have h:=zPv s s'
  simp only [zCx,Pt.steps,Pt.links,Bool.and_eq_true,beq_iff_eq,h,Pt.mk.injEq]
  grind
theorem zEd:∀ (t u:List Pt),zCy t u=true↔t=u
 |[],[]=>by simp [zCy]
 |t::r,t'::r'=>by
  have h:=zXl t t'
  have h2:=zEd r r'
  simp only [zCy,Bool.and_eq_true,h,h2,List.cons.injEq]
 |[],t::r=>by simp [zCy]
 |t::r,[]=>by simp [zCy]
end
theorem yMO (t u:Ts):zCP t u=(t.kind==u.kind&&(t.name==u.name)&&(t.value==u.value)&&(t.na==u.na&&t.nb==u.nb)&&zCy t.list u.list):=by cases t;simp only [zCP,Ts.kind,Ts.name,Ts.value,Ts.na,Ts.nb,Ts.list]
theorem yF0 (t u:St):zPt t u=((t.tag==u.tag)&&zEb t.tests u.tests):=by cases t;simp only [zPt,St.tag,St.tests]
theorem yF1 (t u:Pt):zCx t u=((t.links==u.links)&&zEc t.steps u.steps):=by cases t;simp only [zCx,Pt.steps,Pt.links]
theorem yOI (t u:Ts):zCP t u=zCP u t:=by
 rw [Bool.eq_iff_iff,zOd,zOd];exact eq_comm
theorem yOJ (t u:Pt):zCx t u=zCx u t:=by
 rw [Bool.eq_iff_iff,zXl,zXl];exact eq_comm
theorem yBZ {t u:List Ts} (h:t.length≠u.length):zEb t u=false:=by
 cases hs:zEb t u with
 |false=>rfl
 |true=>rw [zPu] at hs;exact (h (by rw [hs])).elim
theorem yB0 {t u:List St} (h:t.length≠u.length):zEc t u=false:=by
 cases hs:zEc t u with
 |false=>rfl
 |true=>rw [zPv] at hs;exact (h (by rw [hs])).elim
theorem yB1 {t u:List Pt} (h:t.length≠u.length):zCy t u=false:=by
 cases hs:zCy t u with
 |false=>rfl
 |true=>rw [zEd] at hs;exact (h (by rw [hs])).elim
section
variable {α:Type} (eq:α→α→Bool)
def zCh (out:List α) (x:α):List α:=if out.any (fun y=>eq x y) then out else out++[x]
def zCe (l:List α):List α:=l.foldl (zCh eq) []
theorem zJf (l:List α) (i:Nat) (h:i < l.length):zCe eq (l.take (i+1))=zCh eq (zCe eq (l.take i)) l[i]:=by
 unfold zCe
 rw [List.take_succ_eq_append_getElem h,List.foldl_append];rfl
theorem yOK (out:List α) (x:α):(zCh eq out x).length≤out.length+1:=by unfold zCh;split<;>simp
theorem yIJ:∀ (l out:List α),(l.foldl (zCh eq) out).length≤out.length+l.length
 |[],out=>by simp
 |x::r,out=>by
  have h:=yIJ r (zCh eq out x)
  have h2:=yOK eq out x
  simp only [List.foldl_cons,List.length_cons]
  omega
theorem zEU (l:List α):(zCe eq l).length≤l.length:=by
 have h:=yIJ eq l []
 simpa [zCe] using h
theorem yIK:∀ (l out:List α) (x:α),x∈l.foldl (zCh eq) out→x∈out∨x∈l
 |[],out,x,h=>.inl h
 |y::r,out,x,h=>by
  rcases yIK r _ x h with h|h
  ·unfold zCh at h
   split at h
   ·exact .inl h
   ·rcases List.mem_append.1 h with h|h
    ·exact .inl h
    ·simp at h;subst h;exact .inr List.mem_cons_self
  ·exact .inr (List.mem_cons_of_mem _ h)
theorem zPw {l:List α} {x:α} (h:x∈zCe eq l):x∈l:=by
 rcases yIK eq l [] x h with h|h
 ·cases h
 ·exact h
theorem yIL (he:∀ x y,eq x y=true↔x=y) (x:α):∀ (l out:List α),(l.foldl (zCh eq) out).any (fun y=>eq x y)=(out++l).any (fun y=>eq x y)
 |[],out=>by simp
 |y::r,out=>by
  rw [List.foldl_cons,yIL he x r]
  simp only [List.any_append,List.any_cons]
  unfold zCh
  split
  ·rename_i h
   by_cases hxy:eq x y=true
   ·have:=(he x y).1 hxy
    subst this
    simp [h]
   ·simp [hxy]
  ·simp only [List.any_append,List.any_cons,List.any_nil,Bool.or_false,Bool.or_assoc]
theorem yOL (he:∀ x y,eq x y=true↔x=y) (x:α) (l:List α):(zCe eq l).any (fun y=>eq x y)=l.any (fun y=>eq x y):=by
 have h:=yIL eq he x l []
 simpa [zCe] using h
end
def zCi:List Pt→Option St
 |[p]=>match p.steps with
  |[x]=>some x
  |_=>none
 |_=>none
def zGF (t:Ts) (x:St):Option Ts:=if t.kind=13∧x.tag=[] then match x.tests with
  |[u]=>if u.kind=13 then some u else none
  |_=>none
 else none
def zFk (o:St) (t:Ts) (r:Nat):St:=match zCi t.list with
 |none=>.mk o.tag (o.tests++[t])
 |some x=>match zGF t x with
  |some u=>.mk o.tag (o.tests++[.mk 14 [] [] 0 0 u.list])
  |none=>if t.kind=14∧(x.tag=[]∨o.tag=[]∨x.tag=o.tag)∧o.tests.length+x.tests.length+r≤6 then
    .mk (if o.tag=[] then x.tag else o.tag) (o.tests++x.tests)
   else .mk o.tag (o.tests++[t])
def zIH:St→List Ts→St
 |o,[]=>o
 |o,t::r=>zIH (zFk o t r.length) r
def zXm (s:St):St:=.mk (zIH (.mk s.tag []) s.tests).tag (zCe zCP (zIH (.mk s.tag []) s.tests).tests)
mutual
def zQN:List Pt→List Pt
 |[]=>[]
 |p::r=>onP p::zQN r
def onP:Pt→Pt
 |.mk s l=>.mk (yGx s) l
def yGx:List St→List St
 |[]=>[]
 |s::r=>onS s::yGx r
def onS:St→St
 |.mk t l=>zXm (.mk t (zYi l))
def zYi:List Ts→List Ts
 |[]=>[]
 |t::r=>onT t::zYi r
def onT:Ts→Ts
 |.mk k n v a b l=>.mk k n v a b (zCe zCx (zQN l))
end
def onL (l:List Pt):List Pt:=zCe zCx (zQN l)
theorem zGG:∀ l,zQN l=l.map onP
 |[]=>rfl
 |p::r=>by simp only [zQN,List.map_cons,zGG r]
theorem zLf:∀ l,yGx l=l.map onS
 |[]=>rfl
 |p::r=>by simp only [yGx,List.map_cons,zLf r]
theorem zOe:∀ l,zYi l=l.map onT
 |[]=>rfl
 |p::r=>by simp only [zYi,List.map_cons,zOe r]
theorem yS6 (p:Pt):onP p=.mk (yGx p.steps) p.links:=by cases p;rfl
theorem yS7 (s:St):onS s=zXm (.mk s.tag (zYi s.tests)):=by cases s;rfl
theorem yQm (t:Ts):onT t=.mk t.kind t.name t.value t.na t.nb (onL t.list):=by cases t;rfl
mutual
def yLq:List Pt→Bool
 |[]=>true
 |p::r=>shP p&&yLq r
def shP:Pt→Bool
 |.mk s l=>decide (s.length≤6)&&decide (l.length≤6)&&yMP s
def yMP:List St→Bool
 |[]=>true
 |s::r=>shS s&&yMP r
def shS:St→Bool
 |.mk _ l=>decide (l.length≤6)&&zXn l
def zXn:List Ts→Bool
 |[]=>true
 |t::r=>shT t&&zXn r
def shT:Ts→Bool
 |.mk _ _ _ _ _ l=>decide (l.length≤6)&&yLq l
end
def shL (l:List Pt):Bool:=decide (l.length≤6)&&yLq l
theorem yWY (p:Pt):shP p=(decide (p.steps.length≤6)&&decide (p.links.length≤6)&&yMP p.steps):=by cases p;rfl
theorem yQn (p:St):shS p=(decide (p.tests.length≤6)&&zXn p.tests):=by cases p;rfl
theorem yMQ (p:Ts):shT p=shL p.list:=by cases p;rfl
theorem zTz:∀ l,yLq l=true↔∀ p∈l,shP p=true
 |[]=>by simp [yLq]
 |p::r=>by simp [yLq,zTz r]
theorem yMR:∀ l,yMP l=true↔∀ p∈l,shS p=true
 |[]=>by simp [yMP]
 |p::r=>by simp [yMP,yMR r]
theorem zTA:∀ l,zXn l=true↔∀ p∈l,shT p=true
 |[]=>by simp [zXn]
 |p::r=>by simp [zXn,zTA r]
mutual
theorem yU2:∀ (l:List Pt) (d:Nat),yPA l d=false→yMe l=false→yLq l=true
 |[],d,_,_=>rfl
 |p::r,d,h,g=>by
  simp only [yPA,yMe,Bool.or_eq_false_iff] at h g
  simp only [yLq,yZU p d h.1 g.1,yU2 r d h.2 g.2,Bool.and_self]
theorem yZU:∀ (p:Pt) (d:Nat),tmP p d=false→bfP p=false→shP p=true
 |.mk s l,d,h,g=>by
  simp only [tmP,bfP,Bool.or_eq_false_iff,Bool.not_eq_false',decide_eq_true_eq,decide_eq_false_iff_not] at h g
  simp only [shP,yWZ s d h.2 g,Bool.and_true,Bool.and_eq_true,decide_eq_true_eq]
  omega
theorem yWZ:∀ (l:List St) (d:Nat),yPB l d=false→yQN l=false→yMP l=true
 |[],d,_,_=>rfl
 |p::r,d,h,g=>by
  simp only [yPB,yQN,Bool.or_eq_false_iff] at h g
  simp only [yMP,yZV p d h.1 g.1,yWZ r d h.2 g.2,Bool.and_self]
theorem yZV:∀ (p:St) (d:Nat),tmS p d=false→bfS p=false→shS p=true
 |.mk t l,d,h,g=>by
  simp only [tmS,bfS,Bool.or_eq_false_iff,decide_eq_false_iff_not] at h g
  simp only [shS,yW0 l d h.2 g.2,Bool.and_true,decide_eq_true_eq]
  omega
theorem yW0:∀ (l:List Ts) (d:Nat),yPC l d=false→yQO l=false→zXn l=true
 |[],d,_,_=>rfl
 |p::r,d,h,g=>by
  simp only [yPC,yQO,Bool.or_eq_false_iff] at h g
  simp only [zXn,yZW p d h.1 g.1,yW0 r d h.2 g.2,Bool.and_self]
theorem yZW:∀ (p:Ts) (d:Nat),tmT p d=false→bfT p=false→shT p=true
 |.mk k n v a b l,d,h,g=>by
  simp only [tmT,bfT,Bool.or_eq_false_iff] at h g
  simp only [shT,Bool.and_eq_true,decide_eq_true_eq]
  by_cases hk:zIV k=true
  ·rw [hk] at h g
   simp only [Bool.true_and,Bool.or_eq_false_iff,decide_eq_false_iff_not,Bool.not_eq_false',decide_eq_true_eq] at h g
   exact ⟨by omega,yU2 l (d+1) h.2 g.2⟩
  ·have hk2:zIV k=false:=by simpa using hk
   have hl:l.length=0:=by
    have:=g.1.2
    simp only [yQM,Ts.kind,Ts.list,hk2,Bool.not_false,Bool.true_and,Bool.or_eq_false_iff,decide_eq_false_iff_not] at this
    have h9:=this.2
    rcases Nat.eq_zero_or_pos l.length with h10|h10
    ·exact h10
    ·exact absurd h10 (of_decide_eq_false h9)
   have:l=[]:=List.eq_nil_of_length_eq_zero hl
   subst this
   simp [yLq]
end
theorem yU3 (l:List Pt) (h:zCK l=0):shL l=true:=by
 unfold zCK at h
 split at h;· cases h
 rename_i h1
 split at h;· cases h
 split at h;· cases h
 rename_i h3
 have h1':tmL l 1=false:=eq_false_of_ne_true h1
 have h3':yMe l=false:=eq_false_of_ne_true h3
 simp only [tmL,Bool.or_eq_false_iff,Bool.not_eq_false',decide_eq_true_eq] at h1'
 simp only [shL,Bool.and_eq_true,decide_eq_true_eq]
 exact ⟨by omega,yU2 l 1 h1'.2 h3'⟩
theorem zXo {l:List Pt} {x:St} (h:zCi l=some x):∃ lk,l=[.mk [x] lk]:=by
 unfold zCi at h
 split at h
 ·rename_i p
  cases p with
  |mk s lk=>
   simp only [Pt.steps] at h
   split at h
   ·injection h with h;subst h;exact ⟨lk,rfl⟩
   ·cases h
 ·cases h
theorem yLr {t u:Ts} {x:St} (h:zGF t x=some u):t.kind=13∧x=.mk [] [u]∧u.kind=13:=by
 unfold zGF at h
 split at h
 ·rename_i hk
  cases x with
  |mk tg l=>
   simp only [St.tests] at h
   split at h
   ·split at h
    ·injection h with h;subst h
     rename_i hu
     have:tg=[]:=hk.2
     subst this
     exact ⟨hk.1,rfl,hu⟩
    ·cases h
   ·cases h
 ·cases h
theorem zXp (o:St) (t:Ts) (r:Nat):zFk o t r=.mk o.tag (o.tests++[t])∨
  (∃ u lk,t.kind=13∧t.list=[.mk [.mk [] [u]] lk]∧u.kind=13∧zFk o t r=.mk o.tag (o.tests++[.mk 14 [] [] 0 0 u.list]))∨
  (∃ x lk,t.list=[.mk [x] lk]∧o.tests.length+x.tests.length+r≤6∧zFk o t r=.mk (if o.tag=[] then x.tag else o.tag) (o.tests++x.tests)):=by
 unfold zFk
 split
 ·exact .inl rfl
 ·rename_i x hx
  obtain ⟨lk,hl⟩:=zXo hx
  split
  ·rename_i u hu
   obtain ⟨h1,rfl,h3⟩:=yLr hu
   exact .inr (.inl ⟨u,lk,h1,hl,h3,rfl⟩)
  ·split
   ·rename_i hc
    exact .inr (.inr ⟨x,lk,hl,hc.2.2,rfl⟩)
   ·exact .inl rfl
theorem zTB:∀ (l:List Ts) (o:St),o.tests.length+l.length≤6→zXn o.tests=true→zXn l=true→(zIH o l).tests.length≤6∧zXn (zIH o l).tests=true
 |[],o,h,g,_=>⟨by simpa [zIH] using h,g⟩
 |t::r,o,h,g,g2=>by
  simp only [zIH]
  simp only [List.length_cons] at h
  simp only [zXn,Bool.and_eq_true] at g2
  have app:∀ (a b:List Ts),zXn a=true→zXn b=true→zXn (a++b)=true:=by
   intro a b ha hb
   rw [zTA] at ha hb ⊢
   intro p hp
   rcases List.mem_append.1 hp with hp|hp
   ·exact ha p hp
   ·exact hb p hp
  have one:∀ u,shT u=true→zXn [u]=true:=by intro u hu;simp [zXn,hu]
  rcases zXp o t r.length with e|⟨u,lk,h1,h2,h3,e⟩|⟨x,lk,h1,h2,e⟩
  ·rw [e]
   exact zTB r _ (by simp only [St.tests_mk,List.length_append,List.length_singleton];omega) (app _ _ g (one _ g2.1)) g2.2
  ·rw [e]
   have hu:shT u=true:=by
    have:=g2.1
    rw [yMQ,h2] at this
    simp only [shL,yLq,shP,yMP,shS,zXn,Bool.and_true,Bool.and_eq_true] at this
    exact this.2.2.2
   refine zTB r _ (by simp only [St.tests_mk,List.length_append,List.length_singleton];omega) (app _ _ g (one _ ?_)) g2.2
   rw [yMQ] at hu ⊢
   exact hu
  ·rw [e]
   have hx:zXn x.tests=true:=by
    have:=g2.1
    rw [yMQ,h1] at this
    simp only [shL,yLq,shP,yMP,yQn,Bool.and_true,Bool.and_eq_true] at this
    exact this.2.2.2
   exact zTB r _ (by simp only [St.tests_mk,List.length_append];omega) (app _ _ g hx) g2.2
theorem yR5 (s:St) (h:shS s=true):shS (zXm s)=true:=by
 rw [yQn] at h ⊢
 simp only [Bool.and_eq_true,decide_eq_true_eq] at h
 have h1:=zTB s.tests (.mk s.tag []) (by simpa [St.tests_mk] using h.1) rfl h.2
 simp only [zXm,St.tests_mk,Bool.and_eq_true]
 refine ⟨decide_eq_true (Nat.le_trans (zEU _ _) h1.1),?_⟩
 rw [zTA] at h1 ⊢
 exact fun p hp=>h1.2 p (zPw _ hp)
mutual
theorem yLs:∀ l,yLq l=true→yLq (zQN l)=true
 |[],_=>rfl
 |p::r,h=>by
  simp only [yLq,Bool.and_eq_true] at h
  simp only [zQN,yLq,yW1 p h.1,yLs r h.2,Bool.and_self]
theorem yW1:∀ p,shP p=true→shP (onP p)=true
 |.mk s l,h=>by
  simp only [shP,Bool.and_eq_true] at h
  simp only [onP,shP,yLt s h.2,h.1.2,zLf,List.length_map,h.1.1,Bool.and_self]
  simpa [zLf] using yLt s h.2
theorem yLt:∀ l,yMP l=true→yMP (yGx l)=true
 |[],_=>rfl
 |p::r,h=>by
  simp only [yMP,Bool.and_eq_true] at h
  simp only [yGx,yMP,yW2 p h.1,yLt r h.2,Bool.and_self]
theorem yW2:∀ p,shS p=true→shS (onS p)=true
 |.mk t l,h=>by
  simp only [onS]
  refine yR5 _ ?_
  simp only [shS,Bool.and_eq_true] at h ⊢
  exact ⟨by simpa [zOe] using h.1,yQo l h.2⟩
theorem yQo:∀ l,zXn l=true→zXn (zYi l)=true
 |[],_=>rfl
 |p::r,h=>by
  simp only [zXn,Bool.and_eq_true] at h
  simp only [zYi,zXn,yW3 p h.1,yQo r h.2,Bool.and_self]
theorem yW3:∀ p,shT p=true→shT (onT p)=true
 |.mk k n v a b l,h=>by
  simp only [shT,Bool.and_eq_true,decide_eq_true_eq] at h
  simp only [onT,shT,Bool.and_eq_true,decide_eq_true_eq]
  refine ⟨Nat.le_trans (zEU _ _) (by simpa [zGG] using h.1),?_⟩
  have h2:=yLs l h.2
  rw [zTz] at h2 ⊢
  exact fun p hp=>h2 p (zPw _ hp)
end
theorem yIM (l:List Pt) (h:shL l=true):shL (onL l)=true:=by
 simp only [shL,Bool.and_eq_true,decide_eq_true_eq] at h ⊢
 refine ⟨Nat.le_trans (zEU _ _) (by simpa [zGG] using h.1),?_⟩
 have h2:=yLs l h.2
 rw [zTz] at h2 ⊢
 exact fun p hp=>h2 p (zPw _ hp)
mutual
def zJg:List Pt→Nat
 |[]=>0
 |p::r=>msP p+zJg r
def msP:Pt→Nat
 |.mk s _=>1+yR6 s
def yR6:List St→Nat
 |[]=>0
 |s::r=>msS s+yR6 r
def msS:St→Nat
 |.mk _ l=>1+zMG l
def zMG:List Ts→Nat
 |[]=>0
 |t::r=>msT t+zMG r
def msT:Ts→Nat
 |.mk _ _ _ _ _ l=>1+zJg l
end
theorem yMS:∀ a b,zJg (a++b)=zJg a+zJg b
 |[],b=>by simp [zJg]
 |p::r,b=>by simp only [List.cons_append,zJg,yMS r b,Nat.add_assoc]
theorem zOf:∀ a b,zMG (a++b)=zMG a+zMG b
 |[],b=>by simp [zMG]
 |p::r,b=>by simp only [List.cons_append,zMG,zOf r b,Nat.add_assoc]
theorem yU4 (p:Pt):0 < msP p:=by cases p;simp only [msP];omega
theorem yU5 (p:Ts):0 < msT p:=by cases p;simp only [msT];omega
theorem yU6:∀ (l out:List Pt),zJg (l.foldl (zCh zCx) out)≤zJg (out++l)∧(zJg (l.foldl (zCh zCx) out)=zJg (out++l)→l.foldl (zCh zCx) out=out++l)
 |[],out=>by simp
 |x::r,out=>by
  rw [List.foldl_cons]
  obtain ⟨h1,h2⟩:=yU6 r (zCh zCx out x)
  unfold zCh at h1 h2 ⊢
  split
  ·rename_i hb
   rw [if_pos hb] at h1 h2
   have:=yU4 x
   rw [yMS] at h1 ⊢
   simp only [zJg]
   constructor
   ·omega
   ·intro h;omega
  ·rename_i hb
   rw [if_neg hb] at h1 h2
   rw [List.append_assoc] at h1 h2
   exact ⟨h1,h2⟩
theorem yW4:∀ (l out:List Ts),zMG (l.foldl (zCh zCP) out)≤zMG (out++l)∧(zMG (l.foldl (zCh zCP) out)=zMG (out++l)→l.foldl (zCh zCP) out=out++l)
 |[],out=>by simp
 |x::r,out=>by
  rw [List.foldl_cons]
  obtain ⟨h1,h2⟩:=yW4 r (zCh zCP out x)
  unfold zCh at h1 h2 ⊢
  split
  ·rename_i hb
   rw [if_pos hb] at h1 h2
   have:=yU5 x
   rw [zOf] at h1 ⊢
   simp only [zMG]
   constructor
   ·omega
   ·intro h;omega
  ·rename_i hb
   rw [if_neg hb] at h1 h2
   rw [List.append_assoc] at h1 h2
   exact ⟨h1,h2⟩
theorem yMT:∀ (l:List Ts) (o:St),zMG (zIH o l).tests≤zMG o.tests+zMG l∧(zMG (zIH o l).tests=zMG o.tests+zMG l→zIH o l=.mk o.tag (o.tests++l))
 |[],o=>by cases o;simp [zIH,zMG,St.tag,St.tests]
 |t::r,o=>by
  simp only [zIH]
  obtain ⟨h1,h2⟩:=yMT r (zFk o t r.length)
  rcases zXp o t r.length with e|⟨u,lk,h3,h4,h5,e⟩|⟨x,lk,h3,h4,e⟩
  ·rw [e] at h1 h2 ⊢
   simp only [St.tests_mk,St.tag_mk,zOf,zMG,List.append_assoc,List.singleton_append,Nat.add_zero,Nat.add_assoc] at h1 h2 ⊢
   exact ⟨h1,h2⟩
  ·rw [e] at h1 h2 ⊢
   have ht:msT t=4+zJg u.list+0:=by
    cases t with
    |mk k n v a b l=>
     have:l=[.mk [.mk [] [u]] lk]:=h4
     subst this
     cases u with
     |mk k' n' v' a' b' l'=>simp only [msT,zJg,msP,yR6,msS,zMG,Ts.list];omega
   simp only [St.tests_mk,St.tag_mk,zOf,zMG,msT] at h1 h2 ⊢
   constructor
   ·omega
   ·intro h;omega
  ·rw [e] at h1 h2 ⊢
   have ht:msT t=3+zMG x.tests:=by
    cases t with
    |mk k n v a b l=>
     have:l=[.mk [x] lk]:=h3
     subst this
     cases x with
     |mk tg l'=>simp only [msT,zJg,msP,yR6,msS,St.tests];omega
   simp only [St.tests_mk,St.tag_mk,zOf,zMG] at h1 h2 ⊢
   constructor
   ·omega
   ·intro h;omega
theorem yR7 (s:St):msS (zXm s)≤msS s∧(msS (zXm s)=msS s→zXm s=s):=by
 obtain ⟨h1,h2⟩:=yMT s.tests (.mk s.tag [])
 obtain ⟨g1,g2⟩:=yW4 (zIH (.mk s.tag []) s.tests).tests []
 simp only [List.nil_append,St.tests_mk,St.tag_mk,zMG,Nat.zero_add] at h1 h2 g1 g2
 cases s with
 |mk tg l=>
  simp only [zXm,zCe,msS,St.tests_mk,St.tag_mk] at h1 h2 g1 g2 ⊢
  refine ⟨by omega,fun h=>?_⟩
  rw [g2 (by omega),h2 (by omega)]
  rfl
mutual
theorem yLu:∀ l,zJg (zQN l)≤zJg l∧(zJg (zQN l)=zJg l→zQN l=l)
 |[]=>by simp [zQN]
 |p::r=>by
  have h1:=yW5 p
  have h2:=yLu r
  simp only [zQN,zJg]
  refine ⟨by omega,fun h=>?_⟩
  rw [h1.2 (by omega),h2.2 (by omega)]
theorem yW5:∀ p,msP (onP p)≤msP p∧(msP (onP p)=msP p→onP p=p)
 |.mk s l=>by
  have h1:=yQp s
  simp only [onP,msP]
  refine ⟨by omega,fun h=>?_⟩
  rw [h1.2 (by omega)]
theorem yQp:∀ l,yR6 (yGx l)≤yR6 l∧(yR6 (yGx l)=yR6 l→yGx l=l)
 |[]=>by simp [yGx]
 |p::r=>by
  have h1:=yW6 p
  have h2:=yQp r
  simp only [yGx,yR6]
  refine ⟨by omega,fun h=>?_⟩
  rw [h1.2 (by omega),h2.2 (by omega)]
theorem yW6:∀ p,msS (onS p)≤msS p∧(msS (onS p)=msS p→onS p=p)
 |.mk t l=>by
  have h1:=yQq l
  have h2:=yR7 (.mk t (zYi l))
  simp only [onS,msS] at h2 ⊢
  refine ⟨by omega,fun h=>?_⟩
  rw [h2.2 (by omega),h1.2 (by omega)]
theorem yQq:∀ l,zMG (zYi l)≤zMG l∧(zMG (zYi l)=zMG l→zYi l=l)
 |[]=>by simp [zYi]
 |p::r=>by
  have h1:=yW7 p
  have h2:=yQq r
  simp only [zYi,zMG]
  refine ⟨by omega,fun h=>?_⟩
  rw [h1.2 (by omega),h2.2 (by omega)]
theorem yW7:∀ p,msT (onT p)≤msT p∧(msT (onT p)=msT p→onT p=p)
 |.mk k n v a b l=>by
  have h1:=yLu l
  have h2:=yU6 (zQN l) []
  simp only [onT,msT,zCe,List.nil_append] at h2 ⊢
  refine ⟨by omega,fun h=>?_⟩
  rw [h2.2 (by omega),h1.2 (by omega)]
end
theorem yS8 (l:List Pt):zJg (onL l)≤zJg l∧(zJg (onL l)=zJg l→onL l=l):=by
 have h1:=yLu l
 have h2:=yU6 (zQN l) []
 simp only [onL,zCe,List.nil_append] at h2 ⊢
 refine ⟨by omega,fun h=>?_⟩
 rw [h2.2 (by omega),h1.2 (by omega)]
def plF:Nat→List Pt→List Pt
 |0,l=>onL l
 |n+1,l=>if zCy l (onL l) then onL l else plF n (onL l)
def plL (l:List Pt):List Pt:=plF (zJg l) l
theorem yF2:∀ (n:Nat) (l:List Pt),zJg l≤n→plF n l=plL l
 |0,l,h=>by
  have:zJg l=0:=by omega
  unfold plL;rw [this]
 |n+1,l,h=>by
  unfold plL
  obtain ⟨h1,h2⟩:=yS8 l
  by_cases hs:zCy l (onL l)=true
  ·have e:onL l=l:=((zEd _ _).1 hs).symm
   cases hm:zJg l with
   |zero=>simp only [plF,hs,if_true]
   |succ k=>simp only [plF,hs,if_true]
  ·have hne:zJg (onL l)≠zJg l:=fun hc=>hs ((zEd _ _).2 (h2 hc).symm)
   cases hm:zJg l with
   |zero=>omega
   |succ k=>
    simp only [plF,hs,Bool.false_eq_true,if_false]
    rw [yF2 n (onL l) (by omega),yF2 k (onL l) (by omega)]
theorem yQr {l:List Pt} (h:zCy l (onL l)=true):plL l=onL l:=by
 unfold plL
 cases zJg l with
 |zero=>rfl
 |succ k=>simp only [plF,h,if_true]
theorem yS9 {l:List Pt} (h:zCy l (onL l)=false):plL l=plL (onL l)∧zJg (onL l) < zJg l:=by
 obtain ⟨h1,h2⟩:=yS8 l
 have hne:zJg (onL l)≠zJg l:=fun hc=>by rw [(zEd _ _).2 (h2 hc).symm] at h;cases h
 refine ⟨?_,by omega⟩
 unfold plL
 cases hm:zJg l with
 |zero=>omega
 |succ k=>
  simp only [plF,h,Bool.false_eq_true,if_false]
  exact yF2 k _ (by omega)
end Go.Hx
end

section
namespace Go.Hx
variable [Glob]
mutual
def tsG:Ts→List PV
 |.mk k n v a b l=>[bI k,bS n,bS v,bI a,bI b,fr (.sl 2 (zOw l))]
def zJI:List Ts→List (List PV)
 |[]=>[]
 |t::r=>tsG t::zJI r
def stG:St→List PV
 |.mk t l=>[bS t,fr (.sl 6 (zJI l))]
def yI6:List St→List (List PV)
 |[]=>[]
 |s::r=>stG s::yI6 r
def ptG:Pt→List PV
 |.mk s l=>[fr (.sl 2 (yI6 s)),fr (.sl 1 (zAM l))]
def zOw:List Pt→List (List PV)
 |[]=>[]
 |p::r=>ptG p::zOw r
end
theorem zTC:∀ l:List Ts,zJI l=l.map tsG
 |[]=>rfl
 |t::r=>by simp only [zJI,List.map_cons,zTC r]
theorem yF5:∀ l:List St,yI6 l=l.map stG
 |[]=>rfl
 |t::r=>by simp only [yI6,List.map_cons,yF5 r]
theorem zTD:∀ l:List Pt,zOw l=l.map ptG
 |[]=>rfl
 |t::r=>by simp only [zOw,List.map_cons,zTD r]
theorem zJi (l:List Ts):(zJI l).length=l.length:=by simp [zTC]
theorem zTE (l:List St):(yI6 l).length=l.length:=by simp [yF5]
theorem zTF (l:List Pt):(zOw l).length=l.length:=by simp [zTD]
theorem zKV (t:Ts):tsG t=[bI t.kind,bS t.name,bS t.value,bI t.na,bI t.nb,fr (.sl 2 (zOw t.list))]:=by cases t;rfl
theorem yQw (t:St):stG t=[bS t.tag,fr (.sl 6 (zJI t.tests))]:=by cases t;rfl
theorem yB5 (t:Pt):ptG t=[fr (.sl 2 (yI6 t.steps)),fr (.sl 1 (zAM t.links))]:=by cases t;rfl
theorem ySb (d:List Ts) (i:Nat) (h:i < d.length):(zJI d).getD i []=tsG (d.getD i default):=by simp [zTC,h]
theorem ySc (d:List Pt) (i:Nat) (h:i < d.length):(zOw d).getD i []=ptG (d.getD i default):=by simp [zTD,h]
theorem yMW (a b:List Pt):zOw (a++b)=zOw a++zOw b:=by simp [zTD]
theorem ySd (a b:List St):yI6 (a++b)=yI6 a++yI6 b:=by simp [yF5]
theorem zE2 (a b:List Ts):zJI (a++b)=zJI a++zJI b:=by simp [zTC]
mutual
theorem yW8:∀ t:Ts,DnL (tsG t) (tsV t)
 |.mk k n v a b l=>⟨Dn.refl _,Dn.refl _,Dn.refl _,Dn.refl _,Dn.refl _,Dn.fsl (yB6 l),trivial⟩
theorem yQx:∀ l:List Ts,DnR (zJI l) (zCJ l)
 |[]=>trivial
 |t::r=>⟨yW8 t,yQx r⟩
theorem yY9:∀ t:St,DnL (stG t) (stV t)
 |.mk t l=>⟨Dn.refl _,Dn.fsl (yQx l),trivial⟩
theorem yTb:∀ l:List St,DnR (yI6 l) (zFG l)
 |[]=>trivial
 |t::r=>⟨yY9 t,yTb r⟩
theorem yW9:∀ t:Pt,DnL (ptG t) (ptV t)
 |.mk s l=>⟨Dn.fsl (yTb s),Dn.w _ _,trivial⟩
theorem yB6:∀ l:List Pt,DnR (zOw l) (zBx l)
 |[]=>trivial
 |t::r=>⟨yW9 t,yB6 r⟩
end
end Go.Hx
end

section
namespace Go.Hx
open Go.RowKit
def Mem.abv (n:Nat) (m:Mem):Mem:=fun b o=>if n≤b then m b o else none
theorem yXi (n:Nat) (m:Mem):(m.abv n).le m:=fun b o u h=>by
 unfold Mem.abv at h
 split at h
 ·exact h
 ·cases h
theorem yXj {n:Nat} {m:Mem} {b o:Nat} (h:n≤b):m.abv n b o=m b o:=if_pos h
def FD (n:Nat) (x y:PV):Prop:=∀ (m:Mem) (u:Value),Rp m x u→Rp (m.abv n) y u
def FDL (n:Nat):List PV→List PV→Prop
 |[],[]=>True
 |x::xs,y::ys=>FD n x y∧FDL n xs ys
 |_,_=>False
def FDR (n:Nat):List (List PV)→List (List PV)→Prop
 |[],[]=>True
 |x::xs,y::ys=>FDL n x y∧FDR n xs ys
 |_,_=>False
variable {n:Nat}
theorem FD.v (z:Value):FD n (.v z) (.v z):=fun m u h=>by simp only [Rp] at h ⊢;exact h
theorem FDL.len:∀ {xs ys:List PV},FDL n xs ys→xs.length=ys.length
 |[],[],_=>rfl
 |x::xs,y::ys,h=>by simp [FDL.len h.2]
 |[],y::ys,h=>h.elim
 |x::xs,[],h=>h.elim
theorem FDR.len:∀ {xs ys:List (List PV)},FDR n xs ys→xs.length=ys.length
 |[],[],_=>rfl
 |x::xs,y::ys,h=>by simp [FDR.len h.2]
 |[],y::ys,h=>h.elim
 |x::xs,[],h=>h.elim
theorem FDL.at_ {m:Mem} {b:Nat} (hb:n≤b):∀ {xs ys:List PV} {o:Nat},FDL n xs ys→RpAt m b o xs→RpAt (m.abv n) b o ys
 |[],[],_,_,_=>by simp only [RpAt]
 |x::xs,y::ys,o,g,h=>by
  simp only [RpAt] at h ⊢
  obtain ⟨⟨u,h1,h2⟩,h3⟩:=h
  exact ⟨⟨u,by rw [yXj hb];exact h1,g.1 m u h2⟩,FDL.at_ hb g.2 h3⟩
 |[],y::ys,_,g,_=>g.elim
 |x::xs,[],_,g,_=>g.elim
theorem FDR.rows {m:Mem} {b k:Nat} (hb:n≤b):∀ {xs ys:List (List PV)} {o:Nat},FDR n xs ys→RpRows m b k o xs→RpRows (m.abv n) b k o ys
 |[],[],_,_,_=>by simp only [RpRows]
 |x::xs,y::ys,o,g,h=>by
  simp only [RpRows] at h ⊢
  obtain ⟨⟨h1,h2⟩,h3⟩:=h
  exact ⟨⟨g.1.len▸h1,FDL.at_ hb g.1 h2⟩,FDR.rows hb g.2 h3⟩
 |[],y::ys,_,g,_=>g.elim
 |x::xs,[],_,g,_=>g.elim
theorem FD.sl {k:Nat} {xs ys:List (List PV)} (h:FDR n xs ys):FD n (.w (frP n) (.sl k xs)) (.sl k ys):=fun m u g=>by
 simp only [Rp] at g ⊢
 obtain ⟨gf,A,c,h1,h2,h3,h4⟩:=g
 have hl:=h.len
 refine ⟨A,c,by rw [←hl];exact h1,by rw [←hl];exact h2,h3,?_⟩
 rcases h4 with h4|⟨b,o,h5,h6⟩
 ·subst h4
  exact .inl (List.eq_nil_of_length_eq_zero hl.symm)
 ·refine .inr ⟨b,o,h5,FDR.rows ?_ h h6⟩
  rw [h5] at h1
  exact gf _ _ _ h1
theorem FD.sl0 {k:Nat}:FD n (.sl k []) (.sl k []):=fun m u g=>by
 simp only [Rp] at g ⊢
 obtain ⟨A,c,h1,h2,h3,h4⟩:=g
 exact ⟨A,c,h1,h2,h3,.inl trivial⟩
theorem FDR.map {α:Type} {f g:α→List PV}:∀ (l:List α),(∀ x∈l,FDL n (f x) (g x))→FDR n (l.map f) (l.map g)
 |[],_=>trivial
 |x::l,h=>⟨h x List.mem_cons_self,FDR.map l fun y hy=>h y (List.mem_cons_of_mem _ hy)⟩
@[reducible] def gAt (G:Glob) (n0:Nat):Glob where
 ok w:=G.ok w∧n0≤w.heap.size
 n:=max G.n n0
 size w h:=Nat.max_le.2 ⟨G.size w h.1,h.2⟩
 keep w w' hb h:=by
  refine ⟨G.keep w w' (fun b hbn=>hb b (Nat.lt_of_lt_of_le hbn (Nat.le_max_left _ _))) h.1,?_⟩
  rcases Nat.eq_zero_or_pos n0 with h0|h0
  ·omega
  ·have h1:n0-1 < w.heap.size:=by have:=h.2;omega
   have h2:=hb (n0-1) (Nat.lt_of_lt_of_le (by omega) (Nat.le_max_right _ _))
   rw [Array.getElem?_eq_getElem h1] at h2
   have:=(Array.getElem?_eq_some_iff.1 h2).1
   omega
 strict:=G.strict
theorem yXk (G:Glob) [h:@GlobL G] (n0:Nat):@GlobL (gAt G n0):=@GlobL.mk (gAt G n0) h.lax
@[reducible] def stA (G:Glob) (m0:Mem) (w:World) (h:G.ok w) (d:List Deferred):@Start (gAt G w.heap.size):=
 @Start.mk (gAt G w.heap.size) w m0 (fun _=>False) (fun _=>none) ⟨h,Nat.le_refl _⟩ (fun _ hb=>hb.elim) d
def exP (a:Act) (i:Nat):Value→Prop:=fun u=>u=a.tmps.getD i undef
def exC (a:Act) (i:Nat):Ct→Ct
 |.pv (.one (.v z))=>.pv (.one (.v z))
 |.pv (.one x)=>.pv (.one (.w (exP a i) x))
 |_=>.un
def exA (a:Act) (i:Nat):Ct→Ct
 |.pv (.one (.v z))=>.pv (.one (.v z))
 |.pv (.one _)=>.pv (.one (.w (exP a i) .any))
 |_=>.un
abbrev fr0 (L:Nat) (l:List (Nat×Ct)):List Ct:=sets (List.replicate L .un) l
def yZX:Ct→Bool
 |.pv (.one _)=>true
 |_=>false
theorem yXJ {F:List Ct} {i j:Nat} {c:Ct}:(F.set j c).getD i .un=if j=i∧i < F.length then c else F.getD i .un:=by
 simp only [List.getD_eq_getElem?_getD,List.getElem?_set]
 by_cases h:j=i
 ·subst h
  by_cases h2:j < F.length
  ·simp [h2]
  ·simp [h2]
 ·simp [h]
theorem zX9:∀ (l:List (Nat×Ct)) (F:List Ct),(sets F l).length=F.length
 |[],_=>rfl
 |(i,c)::l,F=>by simp only [sets];rw [zX9 l];simp
theorem yGi {i:Nat}:∀ (l:List (Nat×Ct)) (F:List Ct),i < F.length→(∃ q∈l,q.1=i∧(sets F l).getD i .un=q.2)∨((∀ q∈l,q.1≠i)∧(sets F l).getD i .un=F.getD i .un)
 |[],F,_=>.inr ⟨fun q hq=>(by cases hq),rfl⟩
 |(j,c)::l,F,hi=>by
  simp only [sets]
  rcases yGi l (F.set j c) (by simpa using hi) with ⟨q,h1,h2,h3⟩|⟨h1,h2⟩
  ·exact .inl ⟨q,List.mem_cons_of_mem _ h1,h2,h3⟩
  ·by_cases hj:j=i
   ·subst hj
    refine .inl ⟨(j,c),List.mem_cons_self,rfl,?_⟩
    rw [h2,yXJ,if_pos ⟨rfl,hi⟩]
   ·refine .inr ⟨fun q hq=>?_,?_⟩
    ·rcases List.mem_cons.1 hq with rfl|hq
     ·exact hj
     ·exact h1 q hq
    ·rw [h2,yXJ,if_neg (fun e=>hj e.1)]
theorem yMY:∀ (l l':List (Nat×Ct)) (F:List Ct),sets F (l++l')=sets (sets F l) l'
 |[],_,_=>rfl
 |(_,_)::l,l',_=>yMY l l' _
theorem yQB {L i:Nat}:(List.replicate L Ct.un).getD i .un=.un:=by
 rw [List.getD_eq_getElem?_getD,List.getElem?_replicate]
 split<;>rfl
theorem yGj {L i:Nat} (l:List (Nat×Ct)) (hi:i < L):(∃ q∈l,q.1=i∧(fr0 L l).getD i .un=q.2)∨((∀ q∈l,q.1≠i)∧(fr0 L l).getD i .un=.un):=by
 rcases yGi l (List.replicate L .un) (i:=i) (by simpa using hi) with h|⟨h1,h2⟩
 ·exact .inl h
 ·exact .inr ⟨h1,by rw [h2,yQB]⟩
theorem yGk {L:Nat} (l:List (Nat×Ct)):(fr0 L l).length=L:=by rw [zX9];simp
section
variable {P:Program} {E:Env}
theorem yVa [Glob] {m:Mem} {w:World} {β:Bx} {ow:Ow} {β':Bx} {ow':Ow} {a:Act} {i:Nat} {c:Ct} (h:CtRep m w β ow i c (a.tmps.getD i undef)):CtRep m w β' ow' i (exC a i c) (a.tmps.getD i undef):=by
 cases c with
 |pv x=>cases x with
  |one x=>
   have h':Rp m x (a.tmps.getD i undef):=h
   have hw:Rp m (.w (exP a i) x) (a.tmps.getD i undef):=by simp only [Rp];exact ⟨rfl,h'⟩
   cases x with
   |v z=>exact h'
   |_=>exact hw
  |agg xs=>trivial
 |_=>trivial
theorem yCa [G:Glob] {S:Start} {m:Mem} {β:Bx} {ow:Ow} {a:Act} {w:World} {l:List (Nat×Ct)} (hL:E.N≤E.L) (hn:E.nfix=0) (h:InvG E S m β ow (fr0 E.L l) a w) (hl:∀ q∈l,q.1 < E.N)
  (hbx:∀ (j:Nat) (bn:Nat×Nat),E.Γ[j]?=some bn→E.N≤bn.1∧bn.1+bn.2≤E.L):
  @Inv (gAt G w.heap.size) E (stA G m w h.glob S.d0) (fr0 E.L (l.map fun q=>(q.1,exC a q.1 q.2))) a w:=by
 refine ⟨m,fun _=>none,fun _=>none,?_⟩
 have hget:∀ i,i < E.L→(fr0 E.L (l.map fun q=>(q.1,exC a q.1 q.2))).getD i .un=exC a i ((fr0 E.L l).getD i .un)∨(fr0 E.L (l.map fun q=>(q.1,exC a q.1 q.2))).getD i .un=.un:=by
  intro i hi
  have key:∀ (l:List (Nat×Ct)) (F F':List Ct),F.length=F'.length→(F'.getD i .un=exC a i (F.getD i .un)∨F'.getD i .un=.un)→(sets F' (l.map fun q=>(q.1,exC a q.1 q.2))).getD i .un=exC a i ((sets F l).getD i .un)∨(sets F' (l.map fun q=>(q.1,exC a q.1 q.2))).getD i .un=.un:=by
   intro l
   induction l with
   |nil=>intro F F' _ h;exact h
   |cons q l ih=>
    intro F F' hlen h
    obtain ⟨j,c⟩:=q
    simp only [List.map_cons,sets]
    refine ih (F.set j c) (F'.set j (exC a j c)) (by simp [hlen]) ?_
    rw [yXJ,yXJ]
    by_cases hj:j=i∧i < F.length
    ·obtain ⟨rfl,h1⟩:=hj
     rw [if_pos ⟨rfl,hlen▸h1⟩,if_pos ⟨rfl,h1⟩]
     exact .inl rfl
    ·rw [if_neg (fun e=>hj ⟨e.1,hlen▸e.2⟩),if_neg hj]
     exact h
  exact key l _ _ rfl (.inr yQB)
 refine @InvG.mk (gAt G w.heap.size) _ _ _ _ _ _ _ _ ?_ ?_ ?_ ?_ ?_ ?_ ?_ ?_ ?_ ?_ ?_ ?_
 ·exact yGk _
 ·exact h.lenA
 ·exact h.dfr
 ·exact fun i hi=>by
    rcases hget i (by omega) with e|e<;>rw [e]
    ·exact yVa (h.slots i hi)
    ·trivial
 ·exact fun j bn hj=>by
    intro o ho
    obtain ⟨h1,h2⟩:=hbx j bn hj
    rcases yGj (i:=bn.1+o) (L:=E.L) (l.map fun q=>(q.1,exC a q.1 q.2)) (by omega) with ⟨q,q1,q2,_⟩|⟨_,q3⟩
    ·obtain ⟨p,hp,rfl⟩:=List.mem_map.1 q1
     have:=hl p hp
     simp only at q2
     omega
    ·rw [q3];exact .inl rfl
 ·exact fun b o u hu=>⟨(h.mem b o u hu).1,fun hb=>by
    have h1:=(h.mem b o u hu).lt
    have h2:w.heap.size≤b:=Nat.le_trans (Nat.le_max_right _ _) hb
    omega⟩
 ·exact m.le_refl
 ·exact @Pres.refl (gAt G w.heap.size) _ w
 ·exact fun b t hb=>by cases hb
 ·exact fun b t hb=>by cases hb
 ·exact fun b o u hu=>.inl hu
 ·exact fun j hj=>absurd hj (by omega)
inductive LeJ (n:Nat):Ct→Ct→Prop
 |un (c):LeJ n c .un
 |free (c) (h:memFree c=true):LeJ n c c
 |any (φ x):LeJ n (.pv (.one (.w φ x))) (.pv (.one (.w φ .any)))
 |jk (x y) (h:FD n x y):LeJ n (.pv (.one x)) (.pv (.one y))
theorem LeJ.ct [Glob] {m:Mem} {w w':World} {β:Bx} {ow:Ow} {i:Nat} {c c':Ct} {u:Value} (h:LeJ n c c') (g:CtRep m w β ow i c u):CtRep (m.abv n) w' β ow i c' u:=by
 cases h with
 |un=>trivial
 |free _ h=>
  have:=zQi (m':=m.abv n) (w':=w') g
  unfold zBj at this
  rwa [if_pos h] at this
 |any φ x=>
  have g':Rp m (.w φ x) u:=g
  simp only [Rp] at g'
  show Rp (m.abv n) (.w φ .any) u
  simp only [Rp]
  exact ⟨g'.1,g'.2.flat_⟩
 |jk x y h=>exact h m u g
theorem LeJ.cell [Glob] {m:Mem} {w w':World} {ow:Ow} {i:Nat} {c c':Ct} {u:Value} (h:LeJ n c c') (g:CellRep m w ow i c u):CellRep (m.abv n) w' ow i c' u:=by
 cases h with
 |un=>trivial
 |free _ h=>
  have:=zLw (m':=m.abv n) (w':=w') g
  unfold zBj at this
  rwa [if_pos h] at this
 |any φ x=>
  have g':Rp m (.w φ x) u:=g
  simp only [Rp] at g'
  show Rp (m.abv n) (.w φ .any) u
  simp only [Rp]
  exact ⟨g'.1,g'.2.flat_⟩
 |jk x y h=>exact h m u g
theorem yIX [G:Glob] {m0:Mem} {w0:World} {hG:G.ok w0} {d:List Deferred} {F:List Ct} {a:Act} {w:World} {lj:List (Nat×Ct)} (hL:E.N≤E.L) (hn:E.nfix=0)
  (hbx:∀ (j:Nat) (bn:Nat×Nat),E.Γ[j]?=some bn→E.N≤bn.1∧bn.1+bn.2≤E.L)
  (h:@Inv (gAt G w0.heap.size) E (stA G m0 w0 hG d) F a w) (hlj:∀ q∈lj,LeJ (gAt G w0.heap.size).n (F.getD q.1 .un) q.2):
  @Inv (gAt G w0.heap.size) E (stA G (fun _ _=>none) w0 hG d) (fr0 E.L lj) a w:=by
 obtain ⟨m,β,ow,h⟩:=h
 have hle:∀ i,i < E.L→LeJ (gAt G w0.heap.size).n (F.getD i .un) ((fr0 E.L lj).getD i .un):=by
  intro i hi
  rcases yGj lj hi with ⟨q,q1,rfl,q3⟩|⟨_,q3⟩
  ·rw [q3];exact hlj q q1
  ·rw [q3];exact .un _
 refine ⟨m.abv (gAt G w0.heap.size).n,β,ow,@InvG.mk (gAt G w0.heap.size) _ _ _ _ _ _ _ _ ?_ ?_ ?_ ?_ ?_ ?_ ?_ ?_ ?_ ?_ ?_ ?_⟩
 ·exact yGk _
 ·exact (@InvG.lenA (gAt G w0.heap.size) E (stA G m0 w0 hG d) m β ow F a w h)
 ·exact (@InvG.dfr (gAt G w0.heap.size) E (stA G m0 w0 hG d) m β ow F a w h)
 ·exact fun i hi=>(hle i (by omega)).ct ((@InvG.slots (gAt G w0.heap.size) E (stA G m0 w0 hG d) m β ow F a w h) i hi)
 ·exact fun j bn hj=>by
    obtain ⟨h1,h2⟩:=hbx j bn hj
    have hB:=(@InvG.boxes (gAt G w0.heap.size) E (stA G m0 w0 hG d) m β ow F a w h) j bn hj
    cases hb:β j with
    |none=>
     rw [hb] at hB
     intro o ho
     have h3:=hle (bn.1+o) (by omega)
     have h4:=hB o ho
     generalize F.getD (bn.1+o) .un=c at h3 h4
     generalize (fr0 E.L lj).getD (bn.1+o) .un=c' at h3
     cases h3 with
     |un=>exact .inl rfl
     |free _ h=>exact h4
     |any φ x=>rcases h4 with e|e<;>cases e
     |jk x y h=>rcases h4 with e|e<;>cases e
    |some b=>
     rw [hb] at hB
     obtain ⟨g1,g2,cs,T,g3,g4,g5⟩:=hB
     refine ⟨g1,fun o=>?_,cs,T,g3,g4,fun o ho=>(hle (bn.1+o) (by omega)).cell (g5 o ho)⟩
     unfold Mem.abv
     split
     ·exact g2 o
     ·rfl
 ·exact fun b o u hu=>(@InvG.mem (gAt G w0.heap.size) E (stA G m0 w0 hG d) m β ow F a w h) b o u (yXi _ _ b o u hu)
 ·exact fun b o u hu=>by cases hu
 ·exact (@InvG.pres (gAt G w0.heap.size) E (stA G m0 w0 hG d) m β ow F a w h)
 ·exact (@InvG.own (gAt G w0.heap.size) E (stA G m0 w0 hG d) m β ow F a w h)
 ·exact (@InvG.lt (gAt G w0.heap.size) E (stA G m0 w0 hG d) m β ow F a w h)
 ·exact fun b o u hu=>by
    unfold Mem.abv at hu
    split at hu
    ·rename_i hb;exact .inr (.inl (Nat.le_trans (Nat.le_max_right _ _) hb))
    ·cases hu
 ·exact fun j hj=>absurd hj (by omega)
theorem yMZ [G:Glob] {S:Start} {m:Mem} {β:Bx} {ow:Ow} {a1 a3:Act} {w1 w3:World} {l l2:List (Nat×Ct)} {F3:List Ct} {m0:Mem} (hL:E.N≤E.L) (hn:E.nfix=0)
  (hbx:∀ (j:Nat) (bn:Nat×Nat),E.Γ[j]?=some bn→E.N≤bn.1∧bn.1+bn.2≤E.L)
  (h:InvG E S m β ow (fr0 E.L l) a1 w1) (h3:@Inv (gAt G w1.heap.size) E (stA G m0 w1 h.glob S.d0) F3 a3 w3)
  (hl:∀ q∈l,q.1 < E.N∧yZX q.2=true∧F3.getD q.1 .un=exA a1 q.1 q.2) (hl2:∀ q∈l2,q.1 < E.N∧(∃ z,q.2=.pv (.one (.v z)))∧F3.getD q.1 .un=q.2):
  Inv E S (fr0 E.L (l++l2)) a3 w3:=by
 obtain ⟨m3,β3,ow3,h3⟩:=h3
 have hp:@Pres (gAt G w1.heap.size) (fun _=>False) w1 w3:=@InvG.pres (gAt G w1.heap.size) _ _ _ _ _ _ _ _ h3
 have hpres:∀ b,b < w1.heap.size→w3.heap[b]?=w1.heap[b]?:=fun b hb=>@Pres.block (gAt G w1.heap.size) _ _ _ hp b hb id
 have e0:fr0 E.L (l++l2)=sets (fr0 E.L l) l2:=yMY l l2 _
 refine ⟨m,fun _=>none,fun _=>none,{
  lenF:=yGk _
  lenA:=(@InvG.lenA (gAt G w1.heap.size) _ _ _ _ _ _ _ _ h3)
  dfr:=(@InvG.dfr (gAt G w1.heap.size) _ _ _ _ _ _ _ _ h3)
  slots:=fun i hi=>by
   rw [e0]
   rcases yGi (i:=i) l2 (fr0 E.L l) (by rw [yGk];omega) with ⟨q,q1,rfl,q3⟩|⟨_,q3⟩
   ·rw [q3]
    obtain ⟨_,⟨z,hz⟩,k2⟩:=hl2 q q1
    have:=(@InvG.slots (gAt G w1.heap.size) _ _ _ _ _ _ _ _ h3) q.1 hi
    rw [k2,hz] at this
    rw [hz]
    exact this
   ·rw [q3]
    rcases yGj (i:=i) (L:=E.L) l (by omega) with ⟨q,q1,rfl,q4⟩|⟨_,q4⟩
    ·rw [q4]
     obtain ⟨_,k1,k2⟩:=hl q q1
     have h5:=h.slots q.1 hi
     rw [q4] at h5
     have h6:=(@InvG.slots (gAt G w1.heap.size) _ _ _ _ _ _ _ _ h3) q.1 hi
     rw [k2] at h6
     generalize q.2=c at k1 h5 h6
     cases c with
     |pv x=>cases x with
      |one x=>
       have h5':Rp m x (a1.tmps.getD q.1 undef):=h5
       cases x with
       |v z=>exact h6
       |_=>
        have h7:a3.tmps.getD q.1 undef=a1.tmps.getD q.1 undef:=h6.1
        rw [h7]
        exact h5'
      |agg xs=>cases k1
     |_=>cases k1
    ·rw [q4];trivial
  boxes:=fun j bn hj=>by
   intro o ho
   obtain ⟨h1,h2⟩:=hbx j bn hj
   rcases yGj (i:=bn.1+o) (L:=E.L) (l++l2) (by omega) with ⟨q,q1,q2,_⟩|⟨_,q3⟩
   ·rcases List.mem_append.1 q1 with q1|q1
    ·have:=(hl q q1).1;omega
    ·have:=(hl2 q q1).1;omega
   ·rw [q3];exact .inl rfl
  mem:=fun b o u hu=>(h.mem b o u hu).block (hpres b (h.mem b o u hu).lt)
  mle:=h.mle
  pres:=h.pres.trans ⟨@Pres.os (gAt G w1.heap.size) _ _ _ hp,@Pres.tape (gAt G w1.heap.size) _ _ _ hp,@Pres.output (gAt G w1.heap.size) _ _ _ hp,@Pres.size (gAt G w1.heap.size) _ _ _ hp,fun b hb _=>hpres b hb,@Pres.drawn (gAt G w1.heap.size) _ _ _ hp⟩
  own:=fun b t hb=>by cases hb
  lt:=fun b t hb=>by cases hb
  new:=h.new
  fix:=fun j hj=>absurd hj (by omega)}⟩
end
end Go.Hx
end
