/-
  Walks of functions of the program over an abstract layer, and the laws that they use: each contract says what the function computes, for every input that its conditions let by. No other condition.
-/
import Derived.Test.YtjnagiaooecklabGreatDoorG10
set_option linter.all false
section
/-
 Lists of paths as plain Lean data, what is right of them, and which error is told. No condition.
-/
namespace Go.Hx
mutual
inductive Ts where
 |mk (kind:Int) (name value:Bys) (na nb:Int) (list:List Pt)
inductive St where
 |mk (tag:Bys) (tests:List Ts)
inductive Pt where
 |mk (steps:List St) (links:List Int)
end
instance:Inhabited Ts:=⟨.mk 0 [] [] 0 0 []⟩
instance:Inhabited St:=⟨.mk [] []⟩
instance:Inhabited Pt:=⟨.mk [] []⟩
def Ts.kind:Ts→Int|.mk k _ _ _ _ _=>k
def Ts.name:Ts→Bys|.mk _ n _ _ _ _=>n
def Ts.value:Ts→Bys|.mk _ _ v _ _ _=>v
def Ts.na:Ts→Int|.mk _ _ _ a _ _=>a
def Ts.nb:Ts→Int|.mk _ _ _ _ b _=>b
def Ts.list:Ts→List Pt|.mk _ _ _ _ _ l=>l
def St.tag:St→Bys|.mk t _=>t
def St.tests:St→List Ts|.mk _ l=>l
def Pt.steps:Pt→List St|.mk s _=>s
def Pt.links:Pt→List Int|.mk _ l=>l
mutual
def tsV:Ts→List PV
 |.mk k n v a b l=>[bI k,bS n,bS v,bI a,bI b,.sl 2 (yBF l)]
def yD6:List Ts→List (List PV)
 |[]=>[]
 |t::r=>tsV t::yD6 r
def stV:St→List PV
 |.mk t l=>[bS t,.sl 6 (yD6 l)]
def yC5:List St→List (List PV)
 |[]=>[]
 |s::r=>stV s::yC5 r
def ptV:Pt→List PV
 |.mk s l=>[.sl 2 (yC5 s),.sl 1 (zAS l)]
def yBF:List Pt→List (List PV)
 |[]=>[]
 |p::r=>ptV p::yBF r
end
def zBD (l:List Pt):PVal:=.one (.sl 2 (yBF l))
theorem zT6:∀ l:List Ts,yD6 l=l.map tsV
 |[]=>rfl
 |t::r=>by simp only [yD6,List.map_cons,zT6 r]
theorem zT7:∀ l:List St,yC5 l=l.map stV
 |[]=>rfl
 |t::r=>by simp only [yC5,List.map_cons,zT7 r]
theorem zT8:∀ l:List Pt,yBF l=l.map ptV
 |[]=>rfl
 |t::r=>by simp only [yBF,List.map_cons,zT8 r]
theorem zBs (l:List Ts):(yD6 l).length=l.length:=by simp [zT6]
theorem zBt (l:List St):(yC5 l).length=l.length:=by simp [zT7]
theorem zA7 (l:List Pt):(yBF l).length=l.length:=by simp [zT8]
theorem zND (t:Ts):tsV t=[bI t.kind,bS t.name,bS t.value,bI t.na,bI t.nb,.sl 2 (yBF t.list)]:=by cases t;rfl
theorem zS3 (t:St):stV t=[bS t.tag,.sl 6 (yD6 t.tests)]:=by cases t;rfl
theorem zHB (t:Pt):ptV t=[.sl 2 (yC5 t.steps),.sl 1 (zAS t.links)]:=by cases t;rfl
theorem zT9 (d:List Ts) (i:Nat) (h:i < d.length):(yD6 d).getD i []=tsV (d.getD i default):=by simp [zT6,h]
theorem zUa (d:List St) (i:Nat) (h:i < d.length):(yC5 d).getD i []=stV (d.getD i default):=by simp [zT7,h]
theorem zUb (d:List Pt) (i:Nat) (h:i < d.length):(yBF d).getD i []=ptV (d.getD i default):=by simp [zT8,h]
theorem zE8 {α:Type} [Inhabited α] {l:List α} {i:Nat} (h:i < l.length):l.getD i default∈l:=by
 rw [List.getD_eq_getElem?_getD,List.getElem?_eq_getElem h]
 exact List.getElem_mem h
theorem yHd (t:Ts):SizeOf.sizeOf t.list < SizeOf.sizeOf t:=by cases t;simp only [Ts.list,Ts.mk.sizeOf_spec];omega
theorem yEP (t:St):SizeOf.sizeOf t.tests < SizeOf.sizeOf t:=by cases t;simp only [St.tests,St.mk.sizeOf_spec];omega
theorem yEQ (t:Pt):SizeOf.sizeOf t.steps < SizeOf.sizeOf t:=by cases t;simp only [Pt.steps,Pt.mk.sizeOf_spec];omega
theorem yLb {l:List Ts} {i:Nat} (h:i < l.length):SizeOf.sizeOf (l.getD i default) < SizeOf.sizeOf l:=List.sizeOf_lt_of_mem (zE8 h)
theorem yLc {l:List St} {i:Nat} (h:i < l.length):SizeOf.sizeOf (l.getD i default) < SizeOf.sizeOf l:=List.sizeOf_lt_of_mem (zE8 h)
theorem yLd {l:List Pt} {i:Nat} (h:i < l.length):SizeOf.sizeOf (l.getD i default) < SizeOf.sizeOf l:=List.sizeOf_lt_of_mem (zE8 h)
def yC6 (k:Int):Bool:=decide (1≤k∧k≤8)
def zWL (k:Int):Bool:=decide (4≤k∧k≤8)
def yJ1 (k:Int):Bool:=decide (k=9)||decide (k=10)
def zMG (k:Int):Bool:=decide (13≤k∧k≤15)
def zUc (a:Int):Bool:=decide (-1048576≤a∧a≤1048576)
def zUd (a b:Int):Int:=if zUc a&&zUc b then 0 else 3
mutual
def yCs:List Pt→Nat→Bool
 |[],_=>false
 |p::r,d=>tmP p d||yCs r d
def tmP:Pt→Nat→Bool
 |.mk s l,d=>!(decide (1≤s.length∧s.length≤5))||decide ((l.length:Int)≠s.length-1)||yD7 s d
def yD7:List St→Nat→Bool
 |[],_=>false
 |s::r,d=>tmS s d||yD7 r d
def tmS:St→Nat→Bool
 |.mk _ l,d=>decide (6 < l.length)||yD8 l d
def yD8:List Ts→Nat→Bool
 |[],_=>false
 |t::r,d=>tmT t d||yD8 r d
def tmT:Ts→Nat→Bool
 |.mk k _ _ _ _ l,d=>zMG k&&(decide (3 < d+1)||!(decide (1≤l.length∧l.length≤5))||yCs l (d+1))
end
def tmL (l:List Pt) (d:Nat):Bool:=decide (3 < d)||!(decide (1≤l.length∧l.length≤5))||yCs l d
def zYX (n:Int):Bool:=!(decide (1≤n∧n≤4))
mutual
def yER:List Pt→Bool
 |[]=>false
 |p::r=>bkP p||yER r
def bkP:Pt→Bool
 |.mk s l=>l.any zYX||yHT s
def yHT:List St→Bool
 |[]=>false
 |s::r=>bkS s||yHT r
def bkS:St→Bool
 |.mk _ l=>yHU l
def yHU:List Ts→Bool
 |[]=>false
 |t::r=>bkT t||yHU r
def bkT:Ts→Bool
 |.mk k _ _ _ _ l=>!(decide (1≤k∧k≤15))||(zMG k&&yER l)
end
def yFW (t:Ts):Bool:=(yC6 t.kind&&!zBJ t.name)||(!yC6 t.kind&&!(t.name==[]))
def yFX (t:Ts):Bool:=(zWL t.kind&&!zDJ t.value)||(!zWL t.kind&&!(t.value==[]))
def yES (t:Ts):Bool:=(!yJ1 t.kind&&!(t.na==0&&t.nb==0))||(!zMG t.kind&&decide (0 < t.list.length))
mutual
def yET:List Pt→Bool
 |[]=>false
 |p::r=>bfP p||yET r
def bfP:Pt→Bool
 |.mk s _=>yHV s
def yHV:List St→Bool
 |[]=>false
 |s::r=>bfS s||yHV r
def bfS:St→Bool
 |.mk t l=>(!(t==[])&&!zBJ t)||yHW l
def yHW:List Ts→Bool
 |[]=>false
 |t::r=>bfT t||yHW r
def bfT:Ts→Bool
 |.mk k n v a b l=>yFW (.mk k n v a b l)||yFX (.mk k n v a b l)||yES (.mk k n v a b l)||(zMG k&&yET l)
end
mutual
def yD9:List Pt→Bool
 |[]=>false
 |p::r=>bnP p||yD9 r
def bnP:Pt→Bool
 |.mk s _=>yHX s
def yHX:List St→Bool
 |[]=>false
 |s::r=>bnS s||yHX r
def bnS:St→Bool
 |.mk _ l=>yHY l
def yHY:List Ts→Bool
 |[]=>false
 |t::r=>bnT t||yHY r
def bnT:Ts→Bool
 |.mk _ _ _ a b l=>!(decide (zUd a b=0))||yD9 l
end
def zCK (l:List Pt):Int:=if tmL l 1 then 2 else if yER l then 4 else if yET l then 1 else if yD9 l then 3 else 0
structure Fd where
 f:Nat
 m:Nat
 r:Nat
 k:Nat
 deriving DecidableEq,Inhabited
def Fd.add (a b:Fd):Fd:=⟨a.f+b.f,a.m+b.m,a.r+b.r,a.k+b.k⟩
def fd0:Fd:=⟨0,0,0,0⟩
def fdV (c:Fd):List PV:=[bI 0,bI c.f,bI c.m,bI c.r,bI c.k]
def nB (b:Bool):Nat:=if b then 1 else 0
def fF (b:Bool):Fd:=⟨nB b,0,0,0⟩
def fM (b:Bool):Fd:=⟨0,nB b,0,0⟩
def fR (b:Bool):Fd:=⟨0,0,nB b,0⟩
def fK (b:Bool):Fd:=⟨0,0,0,nB b⟩
theorem Fd.add_assoc (a b c:Fd):(a.add b).add c=a.add (b.add c):=by simp [Fd.add,Nat.add_assoc]
theorem Fd.add_zero (a:Fd):a.add fd0=a:=rfl
theorem Fd.zero_add (a:Fd):fd0.add a=a:=by simp [Fd.add,fd0]
def zHC (l:List Pt) (d:Nat):Bool:=decide (3 < d)||decide (l.length < 1)||decide (5 < l.length)
def zYY (p:Pt):Bool:=decide (p.steps.length < 1)||decide (5 < p.steps.length)||decide ((p.links.length:Int)≠p.steps.length-1)
def yAS (l:List Int):Fd:=⟨0,0,0,l.countP zYX⟩
def yEa (t:Ts):Fd:=(((((fK (!decide (1≤t.kind∧t.kind≤15))).add (fF (yFW t))).add (fF (yFX t))).add (fF (yES t))).add (fR (!decide (zUd t.na t.nb=0))))
mutual
def zYC:List Pt→Nat→Fd
 |[],_=>fd0
 |p::r,d=>if zYY p then fM true else ((yAS p.links).add (ntP p d)).add (zYC r d)
def ntP:Pt→Nat→Fd
 |.mk s _,d=>yAT s d
def yAT:List St→Nat→Fd
 |[],_=>fd0
 |s::r,d=>(ntS s d).add (yAT r d)
def ntS:St→Nat→Fd
 |.mk t l,d=>if 6 < l.length then fM true else (fF (!(t==[])&&!zBJ t)).add (yAU l d)
def yAU:List Ts→Nat→Fd
 |[],_=>fd0
 |t::r,d=>(ntT t d).add (yAU r d)
def ntT:Ts→Nat→Fd
 |.mk k n v a b l,d=>(yEa (.mk k n v a b l)).add (if zMG k then (if zHC l (d+1) then fM true else zYC l (d+1)) else fd0)
end
def ntL (l:List Pt) (d:Nat):Fd:=if zHC l d then fM true else zYC l d
theorem yJB (t:Ts) (d:Nat):ntT t d=(yEa t).add (if zMG t.kind then ntL t.list (d+1) else fd0):=by cases t;rfl
theorem yFY (s:St) (d:Nat):ntS s d=if 6 < s.tests.length then fM true else (fF (!(s.tag==[])&&!zBJ s.tag)).add (yAU s.tests d):=by cases s;rfl
theorem yJC (p:Pt) (d:Nat):ntP p d=yAT p.steps d:=by cases p;rfl
theorem yC7 (b:Bool):0 < nB b↔b=true:=by cases b<;>simp [nB]
theorem zWM (l:List Pt) (d:Nat):zHC l d=(decide (3 < d)||!(decide (1≤l.length∧l.length≤5))):=by
 unfold zHC
 by_cases h1:3 < d<;>by_cases h2:l.length < 1<;>by_cases h3:5 < l.length<;>simp [h1,h2,h3]<;>omega
mutual
theorem yLf:∀ (l:List Pt) (d:Nat),0 < (zYC l d).m↔yCs l d=true
 |[],d=>by simp [zYC,yCs,fd0]
 |p::r,d=>by
  have h1:=m_P p d
  have h2:=yLf r d
  simp only [zYC,yCs]
  have hp:zYY p=true→tmP p d=true:=by
   intro hb
   cases p with
   |mk s l=>
    have hb:(decide (s.length < 1)||decide (5 < s.length)||decide ((l.length:Int)≠s.length-1))=true:=hb
    simp only [Bool.or_eq_true,decide_eq_true_eq] at hb
    simp only [tmP,Bool.or_eq_true,decide_eq_true_eq,Bool.not_eq_true',decide_eq_false_iff_not]
    omega
  split
  ·rename_i hb
   simp [fM,nB,hp hb]
  ·rename_i hb
   have h3:=h1 (by simpa using hb)
   simp only [Fd.add,yAS,Bool.or_eq_true,←h3,←h2]
   omega
theorem m_P:∀ (p:Pt) (d:Nat),zYY p=false→(0 < (ntP p d).m↔tmP p d=true)
 |.mk s l,d,hb=>by
  have h:=yLy s d
  have hb:(decide (s.length < 1)||decide (5 < s.length)||decide ((l.length:Int)≠s.length-1))=false:=hb
  simp only [Bool.or_eq_false_iff,decide_eq_false_iff_not] at hb
  have e1:decide (1≤s.length∧s.length≤5)=true:=by simp;omega
  have e2:decide ((l.length:Int)≠s.length-1)=false:=by simp;omega
  simp only [ntP,tmP,e1,e2,h,Bool.not_true,Bool.false_or]
theorem yLy:∀ (l:List St) (d:Nat),0 < (yAT l d).m↔yD7 l d=true
 |[],d=>by simp [yAT,yD7,fd0]
 |p::r,d=>by
  have h1:=m_S p d
  have h2:=yLy r d
  simp only [yAT,yD7,Fd.add,Bool.or_eq_true,←h1,←h2]
  omega
theorem m_S:∀ (p:St) (d:Nat),0 < (ntS p d).m↔tmS p d=true
 |.mk t l,d=>by
  have h:=yLz l d
  simp only [ntS,tmS]
  split
  ·rename_i hb;simp [fM,nB,hb]
  ·rename_i hb
   simp only [Fd.add,fF,Bool.or_eq_true,decide_eq_true_eq,←h]
   omega
theorem yLz:∀ (l:List Ts) (d:Nat),0 < (yAU l d).m↔yD8 l d=true
 |[],d=>by simp [yAU,yD8,fd0]
 |p::r,d=>by
  have h1:=m_T p d
  have h2:=yLz r d
  simp only [yAU,yD8,Fd.add,Bool.or_eq_true,←h1,←h2]
  omega
theorem m_T:∀ (p:Ts) (d:Nat),0 < (ntT p d).m↔tmT p d=true
 |.mk k n v a b l,d=>by
  have h:=yLf l (d+1)
  simp only [ntT,tmT,Fd.add,yEa,fF,fK,fR,Nat.zero_add]
  by_cases hk:zMG k=true
  ·simp only [hk,if_true,Bool.true_and]
   rw [zWM]
   by_cases hb:(decide (3 < d+1)||!(decide (1≤l.length∧l.length≤5)))=true
   ·rw [if_pos hb,hb];simp [fM,nB]
   ·rw [if_neg hb]
    have hb2:(decide (3 < d+1)||!(decide (1≤l.length∧l.length≤5)))=false:=eq_false_of_ne_true hb
    rw [hb2,Bool.false_or,h]
  ·have hk2:zMG k=false:=by simpa using hk
   simp [hk2,fd0]
end
theorem m_L (l:List Pt) (d:Nat):0 < (ntL l d).m↔tmL l d=true:=by
 unfold ntL tmL
 rw [zWM]
 by_cases hb:(decide (3 < d)||!(decide (1≤l.length∧l.length≤5)))=true
 ·rw [if_pos hb,hb];simp [fM,nB]
 ·rw [if_neg hb]
  have hb2:(decide (3 < d)||!(decide (1≤l.length∧l.length≤5)))=false:=eq_false_of_ne_true hb
  rw [hb2,Bool.false_or,yLf]
def Oth (c:Fd) (k f r:Bool):Prop:=c.m=0→((0 < c.k↔k=true)∧(0 < c.f↔f=true)∧(c.f=0→(0 < c.r↔r=true)))
theorem Oth.add {a b:Fd} {k f r k' f' r':Bool} (h:Oth a k f r) (g:Oth b k' f' r'):Oth (a.add b) (k||k') (f||f') (r||r'):=by
 intro hm
 simp only [Fd.add] at hm ⊢
 obtain ⟨h1,h2,h3⟩:=h (by omega)
 obtain ⟨g1,g2,g3⟩:=g (by omega)
 refine ⟨?_,?_,fun hf=>?_⟩
 ·rw [Bool.or_eq_true,←h1,←g1];omega
 ·rw [Bool.or_eq_true,←h2,←g2];omega
 ·have h4:=h3 (by omega)
  have g4:=g3 (by omega)
  rw [Bool.or_eq_true,←h4,←g4];omega
theorem Oth.zero:Oth fd0 false false false:=fun _=>⟨by simp [fd0],by simp [fd0],fun _=>by simp [fd0]⟩
theorem Oth.many {k f r:Bool}:Oth (fM true) k f r:=fun h=>by simp [fM,nB] at h
theorem Oth.k (b:Bool):Oth (fK b) b false false:=fun _=>⟨by simp [fK,yC7],by simp [fK],fun _=>by simp [fK]⟩
theorem Oth.f (b:Bool):Oth (fF b) false b false:=fun _=>⟨by simp [fF],by simp [fF,yC7],fun _=>by simp [fF]⟩
theorem Oth.r (b:Bool):Oth (fR b) false false b:=fun _=>⟨by simp [fR],by simp [fR],fun _=>by simp [fR,yC7]⟩
theorem Oth.cast {c:Fd} {k f r k' f' r':Bool} (h:Oth c k f r) (h1:k=k') (h2:f=f') (h3:r=r'):Oth c k' f' r':=by subst h1 h2 h3;exact h
theorem Oth.lk (l:List Int):Oth (yAS l) (l.any zYX) false false:=by
 intro _
 refine ⟨?_,by simp [yAS],fun _=>by simp [yAS]⟩
 simp [yAS,List.any_eq_true,List.countP_pos_iff]
mutual
theorem yLg:∀ (l:List Pt) (d:Nat),Oth (zYC l d) (yER l) (yET l) (yD9 l)
 |[],d=>Oth.zero
 |p::r,d=>by
  simp only [zYC,yER,yET,yD9]
  split
  ·exact Oth.many
  ·refine ((o_P p d).add (yLg r d))
theorem o_P:∀ (p:Pt) (d:Nat),Oth ((yAS p.links).add (ntP p d)) (bkP p) (bfP p) (bnP p)
 |.mk s l,d=>by
  simp only [ntP,Pt.links,bkP,bfP,bnP]
  exact ((Oth.lk l).add (yLA s d)).cast rfl (by simp) (by simp)
theorem yLA:∀ (l:List St) (d:Nat),Oth (yAT l d) (yHT l) (yHV l) (yHX l)
 |[],d=>Oth.zero
 |p::r,d=>by
  simp only [yAT,yHT,yHV,yHX]
  exact (o_S p d).add (yLA r d)
theorem o_S:∀ (p:St) (d:Nat),Oth (ntS p d) (bkS p) (bfS p) (bnS p)
 |.mk t l,d=>by
  simp only [ntS,bkS,bfS,bnS]
  split
  ·exact Oth.many
  ·exact ((Oth.f _).add (yLB l d)).cast (by simp) rfl (by simp)
theorem yLB:∀ (l:List Ts) (d:Nat),Oth (yAU l d) (yHU l) (yHW l) (yHY l)
 |[],d=>Oth.zero
 |p::r,d=>by
  simp only [yAU,yHU,yHW,yHY]
  exact (o_T p d).add (yLB r d)
theorem o_T:∀ (p:Ts) (d:Nat),Oth (ntT p d) (bkT p) (bfT p) (bnT p)
 |.mk k n v a b l,d=>by
  have h:=yLg l (d+1)
  have h1:Oth (yEa (.mk k n v a b l)) (!decide (1≤k∧k≤15)) (yFW (.mk k n v a b l)||yFX (.mk k n v a b l)||yES (.mk k n v a b l)) (!decide (zUd a b=0)):=
   (((((Oth.k (!decide (1≤k∧k≤15))).add (Oth.f _)).add (Oth.f _)).add (Oth.f _)).add (Oth.r (!decide (zUd a b=0)))).cast (by simp only [Bool.or_false]) (by simp only [Bool.false_or,Bool.or_false]) (by simp only [Bool.false_or])
  simp only [ntT,bkT,bfT,bnT]
  by_cases hk:zMG k=true
  ·simp only [hk,if_true,Bool.true_and]
   split
   ·intro hm
    simp [Fd.add,fM,nB] at hm
   ·exact h1.add h
  ·have hk2:zMG k=false:=eq_false_of_ne_true hk
   simp only [hk2,Bool.false_and,Bool.or_false]
   intro hm
   obtain ⟨a1,a2,a3⟩:=h1 (by simpa [Fd.add,fd0] using hm)
   refine ⟨by simpa [Fd.add,fd0] using a1,by simpa [Fd.add,fd0] using a2,fun hf=>?_⟩
   have hf0:(yEa (.mk k n v a b l)).f=0:=by simpa [Fd.add,fd0] using hf
   have a4:=a3 hf0
   have hl:l=[]:=by
    have h5:¬ (yFW (.mk k n v a b l)||yFX (.mk k n v a b l)||yES (.mk k n v a b l))=true:=by
     rw [←a2];omega
    simp only [yES,Ts.kind,Ts.list,hk2,Bool.not_false,Bool.true_and,Bool.or_eq_true,decide_eq_true_eq,not_or] at h5
    have:=h5.2.2
    cases l with
    |nil=>rfl
    |cons x y=>simp at this
   subst hl
   simpa [Fd.add,fd0,yD9] using a4
end
def yHe (c:Fd):Int:=if 0 < c.m then 2 else if 0 < c.k then 4 else if 0 < c.f then 1 else if 0 < c.r then 3 else 0
theorem yJD (l:List Pt):yHe (ntL l 1)=zCK l:=by
 unfold yHe zCK
 have hm:=m_L l 1
 by_cases h:tmL l 1=true
 ·rw [if_pos (hm.2 h),if_pos h]
 ·have hm0:¬ 0 < (ntL l 1).m:=fun hc=>h (hm.1 hc)
  rw [if_neg hm0,if_neg h]
  have hb:zHC l 1=false:=by
   cases hb:zHC l 1 with
   |false=>rfl
   |true=>unfold ntL at hm0;rw [if_pos hb] at hm0;simp [fM,nB] at hm0
  have e:ntL l 1=zYC l 1:=by unfold ntL;rw [if_neg (by rw [hb];simp)]
  rw [e] at hm0 ⊢
  obtain ⟨h1,h2,h3⟩:=yLg l 1 (by omega)
  by_cases hk:yER l=true
  ·rw [if_pos (h1.2 hk),if_pos hk]
  ·rw [if_neg (fun hc=>hk (h1.1 hc)),if_neg hk]
   by_cases hf:yET l=true
   ·rw [if_pos (h2.2 hf),if_pos hf]
   ·have hf0:¬ 0 < (zYC l 1).f:=fun hc=>hf (h2.1 hc)
    rw [if_neg hf0,if_neg hf]
    have h4:=h3 (by omega)
    by_cases hr:yD9 l=true
    ·rw [if_pos (h4.2 hr),if_pos hr]
    ·rw [if_neg (fun hc=>hr (h4.1 hc)),if_neg hr]
def bdF:Nat→Nat
 |0=>1
 |f+1=>4+5 * (4+5 * (1+6 * (5+bdF f)))
def bd (d:Nat):Nat:=bdF (4-d)
def bdT (d:Nat):Nat:=5+bd (d+1)
def bdS (d:Nat):Nat:=1+6 * bdT d
def bdP (d:Nat):Nat:=4+5 * bdS d
theorem zUe:∀ f,1≤bdF f
 |0=>Nat.le_refl _
 |f+1=>by simp only [bdF];omega
theorem yHf {d:Nat} (h:d≤3):bd d=4+5 * bdP d:=by
 unfold bdP bdS bdT bd
 obtain ⟨f,hf⟩:∃ f,4-d=f+1:=⟨4-d-1,by omega⟩
 have e:4-(d+1)=f:=by omega
 rw [hf,e]
 rfl
theorem yJE:bd 1≤100000000:=by decide
structure Fd.le (c:Fd) (n:Nat):Prop where
 f:c.f≤n
 m:c.m≤n
 r:c.r≤n
 k:c.k≤n
theorem Fd.le.le_add {a b:Fd} {n m:Nat} (h:a.le n) (g:b.le m):(a.add b).le (n+m):=by
 obtain ⟨h1,h2,h3,h4⟩:=h
 obtain ⟨g1,g2,g3,g4⟩:=g
 exact ⟨Nat.add_le_add h1 g1,Nat.add_le_add h2 g2,Nat.add_le_add h3 g3,Nat.add_le_add h4 g4⟩
theorem Fd.le.le_mono {a:Fd} {n m:Nat} (h:a.le n) (g:n≤m):a.le m:=⟨Nat.le_trans h.f g,Nat.le_trans h.m g,Nat.le_trans h.r g,Nat.le_trans h.k g⟩
theorem yEU (b:Bool):nB b≤1:=by cases b<;>simp [nB]
theorem yEV (b:Bool):(fM b).le 1:=⟨Nat.zero_le _,yEU b,Nat.zero_le _,Nat.zero_le _⟩
theorem zWN (b:Bool):(fF b).le 1:=⟨yEU b,Nat.zero_le _,Nat.zero_le _,Nat.zero_le _⟩
theorem yHg (b:Bool):(fK b).le 1:=⟨Nat.zero_le _,Nat.zero_le _,Nat.zero_le _,yEU b⟩
theorem yJF (b:Bool):(fR b).le 1:=⟨Nat.zero_le _,Nat.zero_le _,yEU b,Nat.zero_le _⟩
theorem zWO (n:Nat):fd0.le n:=⟨Nat.zero_le _,Nat.zero_le _,Nat.zero_le _,Nat.zero_le _⟩
theorem yLh (t:Ts):(yEa t).le 5:=((((yHg _).le_add (zWN _)).le_add (zWN _)).le_add (zWN _)).le_add (yJF _)
theorem yLi (l:List Int):(yAS l).le l.length:=⟨Nat.zero_le _,Nat.zero_le _,Nat.zero_le _,List.countP_le_length⟩
mutual
theorem yLj:∀ (l:List Pt) (d:Nat),(zYC l d).le (1+l.length * bdP d)
 |[],d=>zWO _
 |p::r,d=>by
  have h2:=yLj r d
  simp only [zYC,List.length_cons]
  split
  ·exact (yEV _).le_mono (Nat.le_add_right _ _)
  ·rename_i hb
   have h1:=b_P p d (eq_false_of_ne_true hb)
   exact (h1.le_add h2).le_mono (by rw [Nat.add_mul];omega)
theorem b_P:∀ (p:Pt) (d:Nat),zYY p=false→((yAS p.links).add (ntP p d)).le (bdP d)
 |.mk s l,d,hb=>by
  have hb:(decide (s.length < 1)||decide (5 < s.length)||decide ((l.length:Int)≠s.length-1))=false:=hb
  simp only [Bool.or_eq_false_iff,decide_eq_false_iff_not] at hb
  have h:=yLC s d
  simp only [ntP,Pt.links]
  refine ((yLi l).le_add h).le_mono ?_
  have h5:s.length * bdS d≤5 * bdS d:=Nat.mul_le_mul_right _ (by omega)
  unfold bdP
  omega
theorem yLC:∀ (l:List St) (d:Nat),(yAT l d).le (l.length * bdS d)
 |[],d=>zWO _
 |p::r,d=>by
  simp only [yAT,List.length_cons]
  exact ((b_S p d).le_add (yLC r d)).le_mono (by rw [Nat.add_mul];omega)
theorem b_S:∀ (p:St) (d:Nat),(ntS p d).le (bdS d)
 |.mk t l,d=>by
  simp only [ntS]
  split
  ·exact (yEV _).le_mono (by unfold bdS;omega)
  ·refine ((zWN _).le_add (yLD l d)).le_mono ?_
   have h5:l.length * bdT d≤6 * bdT d:=Nat.mul_le_mul_right _ (by omega)
   unfold bdS
   omega
theorem yLD:∀ (l:List Ts) (d:Nat),(yAU l d).le (l.length * bdT d)
 |[],d=>zWO _
 |p::r,d=>by
  simp only [yAU,List.length_cons]
  exact ((b_T p d).le_add (yLD r d)).le_mono (by rw [Nat.add_mul];omega)
theorem b_T:∀ (p:Ts) (d:Nat),(ntT p d).le (bdT d)
 |.mk k n v a b l,d=>by
  have h:=yLj l (d+1)
  simp only [ntT]
  refine (yLh _).le_add ?_
  split
  ·split
   ·exact (yEV _).le_mono (zUe _)
   ·rename_i hb
    simp only [zHC,Bool.or_eq_true,decide_eq_true_eq,not_or] at hb
    have h5:l.length * bdP (d+1)≤5 * bdP (d+1):=Nat.mul_le_mul_right _ (by omega)
    refine h.le_mono ?_
    rw [yHf (d:=d+1) (by omega)]
    omega
  ·exact zWO _
end
theorem b_L (l:List Pt) (d:Nat):(ntL l d).le (bd d):=by
 unfold ntL
 split
 ·exact (yEV _).le_mono (zUe _)
 ·rename_i hb
  simp only [zHC,Bool.or_eq_true,decide_eq_true_eq,not_or] at hb
  have h5:l.length * bdP d≤5 * bdP d:=Nat.mul_le_mul_right _ (by omega)
  refine (yLj l d).le_mono ?_
  rw [yHf (by omega)]
  omega
end Go.Hx
end

section
/-
 Right lists of paths, and their parts. Plain Lean. No condition.
-/
set_option maxRecDepth 100000
set_option linter.unusedSimpArgs false
namespace Go.Hx
def GTs (l:List Ts) (d:Nat):Prop:=yD8 l d=false∧yHU l=false∧yHW l=false∧yHY l=false
def GT (t:Ts) (d:Nat):Prop:=tmT t d=false∧bkT t=false∧bfT t=false∧bnT t=false
def GS (x:St) (d:Nat):Prop:=tmS x d=false∧bkS x=false∧bfS x=false∧bnS x=false
def GSs (l:List St) (d:Nat):Prop:=yD7 l d=false∧yHT l=false∧yHV l=false∧yHX l=false
def GP (x:Pt) (d:Nat):Prop:=tmP x d=false∧bkP x=false∧bfP x=false∧bnP x=false
def GPs (l:List Pt) (d:Nat):Prop:=yCs l d=false∧yER l=false∧yET l=false∧yD9 l=false
def GL (l:List Pt) (d:Nat):Prop:=d≤3∧1≤l.length∧l.length≤5∧GPs l d
theorem GTs.cons {t:Ts} {l:List Ts} {d:Nat} (h:GTs (t::l) d):GT t d∧GTs l d:=by
 simp only [GTs,yD8,yHU,yHW,yHY,Bool.or_eq_false_iff] at h
 exact ⟨⟨h.1.1,h.2.1.1,h.2.2.1.1,h.2.2.2.1⟩,⟨h.1.2,h.2.1.2,h.2.2.1.2,h.2.2.2.2⟩⟩
theorem GSs.cons {t:St} {l:List St} {d:Nat} (h:GSs (t::l) d):GS t d∧GSs l d:=by
 simp only [GSs,yD7,yHT,yHV,yHX,Bool.or_eq_false_iff] at h
 exact ⟨⟨h.1.1,h.2.1.1,h.2.2.1.1,h.2.2.2.1⟩,⟨h.1.2,h.2.1.2,h.2.2.1.2,h.2.2.2.2⟩⟩
theorem GPs.cons {t:Pt} {l:List Pt} {d:Nat} (h:GPs (t::l) d):GP t d∧GPs l d:=by
 simp only [GPs,yCs,yER,yET,yD9,Bool.or_eq_false_iff] at h
 exact ⟨⟨h.1.1,h.2.1.1,h.2.2.1.1,h.2.2.2.1⟩,⟨h.1.2,h.2.1.2,h.2.2.1.2,h.2.2.2.2⟩⟩
theorem GS.parts {tag:Bys} {l:List Ts} {d:Nat} (h:GS (.mk tag l) d):l.length≤6∧(tag=[]∨zBJ tag=true)∧GTs l d:=by
 simp only [GS,tmS,bkS,bfS,bnS,Bool.or_eq_false_iff,decide_eq_false_iff_not] at h
 refine ⟨by omega,?_,h.1.2,h.2.1,h.2.2.1.2,h.2.2.2⟩
 have:=h.2.2.1.1
 cases ht:tag with
 |nil=>exact .inl rfl
 |cons c tag=>
  right
  rw [ht] at this
  simpa using this
theorem GP.parts {st:List St} {lk:List Int} {d:Nat} (h:GP (.mk st lk) d):1≤st.length∧st.length≤5∧lk.length+1=st.length∧(∀ n∈lk,1≤n∧n≤4)∧GSs st d:=by
 simp only [GP,tmP,bkP,bfP,bnP,Bool.or_eq_false_iff,Bool.not_eq_false',decide_eq_true_eq,decide_eq_false_iff_not,List.any_eq_false,zYX,Bool.not_eq_true'] at h
 obtain ⟨⟨⟨h1,h2⟩,h3⟩,⟨h4,h5⟩,h6,h7⟩:=h
 refine ⟨h1.1,h1.2,by omega,fun n hn=>?_,h3,h5,h6,h7⟩
 have:=h4 n hn
 simp only [decide_eq_false_iff_not,Classical.not_not] at this
 exact this
theorem GT.parts {k:Int} {n v:Bys} {a b:Int} {l:List Pt} {d:Nat} (h:GT (.mk k n v a b l) d):
  (1≤k∧k≤15)∧(if k≤8 then zBJ n=true else n=[])∧(if 4≤k∧k≤8 then zDJ v=true else v=[])∧(if k=9∨k=10 then True else a=0∧b=0)∧zUd a b=0∧(if 13≤k then GL l (d+1) else l=[]):=by
 simp only [GT,tmT,bkT,bfT,bnT,Bool.or_eq_false_iff,Bool.and_eq_false_iff,Bool.not_eq_false',decide_eq_true_eq,decide_eq_false_iff_not,yFW,yFX,yES,Ts.kind,Ts.name,Ts.value,Ts.na,Ts.nb,Ts.list,yC6,zWL,yJ1,zMG,Bool.and_eq_true,beq_iff_eq,Bool.not_eq_true'] at h
 obtain ⟨h1,⟨h2,h3⟩,⟨⟨⟨⟨h4,h5⟩,h6,h7⟩,h8,h9⟩,h10⟩,h11,h12⟩:=h
 simp only [Bool.or_eq_true] at h8
 refine ⟨h2,?_,?_,?_,h11,?_⟩
 ·split
  ·rcases h4 with h|h
   ·exfalso;(first|omega|(have:=of_decide_eq_false h;omega)|(have:=of_decide_eq_true h;omega)|(rcases h with h|h<;>have:=of_decide_eq_true h<;>omega))
   ·exact h
  ·rcases h5 with h|h
   ·exfalso;(first|omega|(have:=of_decide_eq_false h;omega)|(have:=of_decide_eq_true h;omega)|(rcases h with h|h<;>have:=of_decide_eq_true h<;>omega))
   ·exact h
 ·split
  ·rcases h6 with h|h
   ·exfalso;(first|omega|(have:=of_decide_eq_false h;omega)|(have:=of_decide_eq_true h;omega)|(rcases h with h|h<;>have:=of_decide_eq_true h<;>omega))
   ·exact h
  ·rcases h7 with h|h
   ·exfalso;(first|omega|(have:=of_decide_eq_false h;omega)|(have:=of_decide_eq_true h;omega)|(rcases h with h|h<;>have:=of_decide_eq_true h<;>omega))
   ·exact h
 ·split
  ·trivial
  ·rcases h8 with h|h
   ·exfalso;(first|omega|(have:=of_decide_eq_false h;omega)|(have:=of_decide_eq_true h;omega)|(rcases h with h|h<;>have:=of_decide_eq_true h<;>omega))
   ·exact h
 ·split
  ·rename_i hk
   rcases h1 with h|h
   ·exfalso;(first|omega|(have:=of_decide_eq_false h;omega)|(have:=of_decide_eq_true h;omega)|(rcases h with h|h<;>have:=of_decide_eq_true h<;>omega))
   rcases h3 with h'|h'
   ·exfalso;(first|omega|(have:=of_decide_eq_false h;omega)|(have:=of_decide_eq_true h;omega)|(rcases h with h|h<;>have:=of_decide_eq_true h<;>omega))
   rcases h10 with h''|h''
   ·exfalso;(first|omega|(have:=of_decide_eq_false h;omega)|(have:=of_decide_eq_true h;omega)|(rcases h with h|h<;>have:=of_decide_eq_true h<;>omega))
   exact ⟨by omega,h.1.2.1,h.1.2.2,h.2,h',h'',h12⟩
  ·rcases h9 with h|h
   ·exfalso;(first|omega|(have:=of_decide_eq_false h;omega)|(have:=of_decide_eq_true h;omega)|(rcases h with h|h<;>have:=of_decide_eq_true h<;>omega))
   ·exact List.eq_nil_of_length_eq_zero (by have:=of_decide_eq_false h;omega)
theorem yHh {l:List Pt} (h:zCK l=0):GL l 1:=by
 unfold zCK at h
 split at h
 ·omega
 ·rename_i h1
  split at h
  ·omega
  ·rename_i h2
   split at h
   ·omega
   ·rename_i h3
    split at h
    ·omega
    ·rename_i h4
     simp only [tmL,Bool.not_eq_true,Bool.or_eq_false_iff,Bool.not_eq_false',decide_eq_true_eq,decide_eq_false_iff_not] at h1 h2 h3 h4
     exact ⟨by omega,h1.1.2.1,h1.1.2.2,h1.2,h2,h3,h4⟩
theorem GPs.get:∀ {l:List Pt} {d:Nat},GPs l d→∀ i,i < l.length→GP (l.getD i default) d
 |_::_,_,h,0,_=>h.cons.1
 |_::_,_,h,i+1,hi=>by
  have:=GPs.get h.cons.2 i (by simpa using hi)
  simpa using this
theorem GSs.get:∀ {l:List St} {d:Nat},GSs l d→∀ i,i < l.length→GS (l.getD i default) d
 |_::_,_,h,0,_=>h.cons.1
 |_::_,_,h,i+1,hi=>by
  have:=GSs.get h.cons.2 i (by simpa using hi)
  simpa using this
theorem GTs.get:∀ {l:List Ts} {d:Nat},GTs l d→∀ i,i < l.length→GT (l.getD i default) d
 |_::_,_,h,0,_=>h.cons.1
 |_::_,_,h,i+1,hi=>by
  have:=GTs.get h.cons.2 i (by simpa using hi)
  simpa using this
theorem GP.parts' {p:Pt} {d:Nat} (h:GP p d):1≤p.steps.length∧p.steps.length≤5∧p.links.length+1=p.steps.length∧(∀ n∈p.links,1≤n∧n≤4)∧GSs p.steps d:=by
 obtain ⟨st,lk⟩:=p
 exact h.parts
theorem GS.parts' {x:St} {d:Nat} (h:GS x d):x.tests.length≤6∧GTs x.tests d:=by
 obtain ⟨tag,l⟩:=x
 exact ⟨h.parts.1,h.parts.2.2⟩
theorem GT.parts' {t:Ts} {d:Nat} (h:GT t d):(1≤t.kind∧t.kind≤15)∧(13≤t.kind→GL t.list (d+1)):=by
 obtain ⟨k,n,v,a,b,l⟩:=t
 obtain ⟨h1,_,_,_,_,h6⟩:=h.parts
 exact ⟨h1,fun hk=>by change 13≤k at hk;rw [if_pos hk] at h6;exact h6⟩
end Go.Hx
end

section
/-
 Which elements match: as the document's answer says it. Plain Lean. No condition.
-/
namespace Go.Hx
variable [Glob]
def zHD (l:List (Bys×Bys)) (nm:Bys):Option Bys:=(l.find? fun a=>decide (a.1=nm)).map (·.2)
def zBT (s t:Bys) (i:Int):Bool:=decide (0≤i∧i+t.length≤s.length)&&decide ((s.drop i.toNat).take t.length=t)
def yAV (s t:Bys) (i:Nat):Bool:=zBT s t i&&(decide (i=0)||decide (s.getD (i-1) 0=32))&&(decide (i+t.length=s.length)||decide (s.getD (i+t.length) 0=32))
def yEW (s t:Bys):Bool:=!decide (t=[])&&t.all (fun c=>decide (c≠32))&&(List.range (s.length+1)).any (yAV s t)
def zGM (k:Int) (s t:Bys):Bool:=
 if k=3 then true else if k=4 then decide (s=t) else if k=8 then yEW s t else if t=[] then false
 else if k=5 then zBT s t 0 else if k=6 then zBT s t ((s.length:Int)-t.length) else (List.range s.length).any fun i=>zBT s t i
def zEx (d:List Nd) (n:Nat):List Int:=if n=0 then [0] else kidsUp d n d.length
where kidsUp (d:List Nd) (n k:Nat):List Int:=((List.range k).filter fun i=>decide (zBc d i=zBc d n)).map Int.ofNat
def zBu (l:List Int) (n:Int):Int:=match l.findIdx? (fun x=>decide (x=n)) with
 |some i=>i
 |none=>-1
def zK8 (d:List Nd) (m n:Nat):Bool:=(zBr d d.length (zBc d n)).contains (m:Int)
def yC8 (d:List Nd) (link:Int) (m n:Nat):Bool:=
 if link=1 then zK8 d m n else if link=2 then decide (zBc d n=m)
 else if link=3 then decide (0≤zBu (zEx d n) m)&&decide (zBu (zEx d n) m+1=zBu (zEx d n) n)
 else decide (0≤zBu (zEx d n) m)&&decide (zBu (zEx d n) m < zBu (zEx d n) n)
def yHi (d:List Nd) (n:Nat):List Nat:=(List.range d.length).filter fun i=>decide (zBc d i=n)
def zDM (d:List Nd) (ps:List (Nat→Bool)) (lk:List Int):Nat→Nat→Bool
 |0,n=>ps.getD 0 (fun _=>false) n
 |k+1,n=>ps.getD (k+1) (fun _=>false) n&&(List.range n).any fun m=>yC8 d (lk.getD k 0) m n&&zDM d ps lk k m
def yAW (a b i:Int):Bool:=if zUd a b=0∧1≤i∧i≤1073741824 then (if a=0∨i=b then decide (i=b) else if 0 < a then decide (b < i)&&decide ((i-b).tmod a=0) else decide (i < b)&&decide ((b-i).tmod (-a)=0)) else false
def zNZ (d:List Nd) (k:Int) (nm v:Bys) (a b:Int) (lp:Nat→Bool) (n:Nat):Bool:=
 let x:=d.getD n default
 if k=1 then x.cls.any (fun c=>decide (c=nm)) else if k=2 then decide (x.id=nm)
 else if k≤8 then (match zHD x.att nm with|some s=>zGM k s v|none=>false)
 else if k=9 then yAW a b (zBu (zEx d n) n+1) else if k=10 then yAW a b ((zEx d n).length-zBu (zEx d n) n)
 else if k=11 then decide (yHi d n=[]) else if k=12 then decide (n=0) else if k=13 then !lp n else if k=14 then lp n
 else (List.range d.length).any fun m=>zK8 d n m&&lp m
mutual
def tM (d:List Nd):Ts→Nat→Bool
 |.mk k nm v a b l=>zNZ d k nm v a b (lM d l)
def lM (d:List Nd):List Pt→Nat→Bool
 |[]=>fun _=>false
 |p::r=>fun n=>pM d p n||lM d r n
def pM (d:List Nd):Pt→Nat→Bool
 |.mk s lk=>zDM d (ssM d s) lk (s.length-1)
def ssM (d:List Nd):List St→List (Nat→Bool)
 |[]=>[]
 |s::r=>sM d s::ssM d r
def sM (d:List Nd):St→Nat→Bool
 |.mk t l=>fun n=>(decide (t=[])||decide (t=(d.getD n default).tag))&&tsM d l n
def tsM (d:List Nd):List Ts→Nat→Bool
 |[]=>fun _=>true
 |t::r=>fun n=>tM d t n&&tsM d r n
end
theorem yC9 (d:List Nd) (n:Nat):∀ l:List Pt,lM d l n=l.any fun p=>pM d p n
 |[]=>by rw [lM];rfl
 |p::r=>by rw [lM,List.any_cons,←yC9 d n r]
theorem yDa (d:List Nd) (n:Nat):∀ l:List Ts,tsM d l n=l.all fun t=>tM d t n
 |[]=>by rw [tsM];rfl
 |t::r=>by rw [tsM,List.all_cons,←yDa d n r]
theorem yDb (d:List Nd):∀ l:List St,ssM d l=l.map (sM d)
 |[]=>by rw [ssM];rfl
 |s::r=>by rw [ssM,yDb d r];rfl
theorem yEX (d:List Nd) (s:St) (n:Nat):sM d s n=((decide (s.tag=[])||decide (s.tag=(d.getD n default).tag))&&s.tests.all fun t=>tM d t n):=by
 obtain ⟨t,l⟩:=s
 rw [sM];show (_&&tsM d l n)=_;rw [yDa];rfl
theorem yJG (d:List Nd) (p:Pt):pM d p=zDM d (p.steps.map (sM d)) p.links (p.steps.length-1):=by
 obtain ⟨s,lk⟩:=p
 rw [pM,yDb];rfl
theorem yHj (d:List Nd) (t:Ts):tM d t=zNZ d t.kind t.name t.value t.na t.nb (lM d t.list):=by
 obtain ⟨k,nm,v,a,b,l⟩:=t
 rw [tM];rfl
end Go.Hx
end

section
/-
 What is looked up by a path's last step: every element that matches is among it. Plain Lean. No condition.
-/
set_option maxRecDepth 100000
set_option linter.unusedSimpArgs false
namespace Go.Hx
variable [Glob]
def yEb (l:List Ent) (k:Int) (nm:Bys):List Int×Int:=if k < 1∨3 < k then ([],4) else if 512 < l.length then ([],2) else (atK l (k,nm),0)
def zUf (d:List Nd) (k:Key):List Int:=zAF (zAW d d.length) k
theorem yHk (d:List Nd) (k:Key):atK (idxOf d) k=zUf d k:=by
 have h2:=(zE7 _ (zAW d d.length) rfl).2
 unfold atK idxOf zUf
 cases hf:(zBL (zAW d d.length)).find? (fun e=>decide (e.key=k)) with
 |none=>
  rw [List.find?_eq_none] at hf
  have:zAF (zAW d d.length) k=[]:=by
   unfold zAF
   rw [List.filter_eq_nil_iff.2 (fun q hq=>?_)]
   ·rfl
   ·intro hk
    have hk:q.1=k:=by simpa using hk
    have hm:(⟨k.1,k.2,zAF (zAW d d.length) k⟩:Ent)∈zBL (zAW d d.length):=(h2 _).2 ⟨List.mem_map.2 ⟨q,hq,hk⟩,rfl⟩
    exact hf _ hm (by simp [Ent.key])
  rw [this];rfl
 |some x=>
  have hx:=List.mem_of_find?_eq_some hf
  have hk:x.key=k:=by have:=List.find?_some hf;simpa using this
  have:=((h2 x).1 hx).2
  rw [hk] at this
  exact this
theorem zWP (d:List Nd):∀ (n:Nat) (k:Key) (v:Int),(k,v)∈zAW d n↔∃ i:Nat,i < n∧v=i∧k∈zEv (d.getD i default)
 |0,k,v=>by simp [zAW]
 |n+1,k,v=>by
  rw [zAW,List.mem_append,zWP d n k v,List.mem_map]
  constructor
  ·rintro (⟨i,h1,h2,h3⟩|⟨k',h1,h2⟩)
   ·exact ⟨i,by omega,h2,h3⟩
   ·injection h2 with h2 h3
    exact ⟨n,by omega,h3.symm,by rw [←h2];exact h1⟩
  ·rintro ⟨i,h1,h2,h3⟩
   by_cases h:i < n
   ·exact .inl ⟨i,h,h2,h3⟩
   ·have:i=n:=by omega
    subst this
    exact .inr ⟨k,h3,by rw [h2]⟩
theorem zOF (d:List Nd) (k:Key) (v:Int):v∈zUf d k↔∃ i:Nat,i < d.length∧v=i∧k∈zEv (d.getD i default):=by
 unfold zUf zAF
 rw [List.mem_map,←zWP]
 constructor
 ·rintro ⟨q,h1,h2⟩
  rw [List.mem_filter] at h1
  have:=h1.2
  simp only [decide_eq_true_eq] at this
  rw [←this,←h2];exact h1.1
 ·intro h
  exact ⟨(k,v),List.mem_filter.2 ⟨h,by simp⟩,rfl⟩
theorem yEY (d:List Nd) (hcls:∀ i,i < d.length→(d.getD i default).cls.length≤64) (k:Key):(zUf d k).length≤d.length * 66:=
 Nat.le_trans (zDL _ _) (zEw d d.length fun i hi=>hcls i hi)
theorem zE9 (d:List Nd):∀ (n:Nat),(∀ i,i < n→(d.getD i default).cls.length≤6)→(zAW d n).length≤n * 8
 |0,_=>by simp [zAW]
 |n+1,h=>by
  have h1:=zE9 d n fun i hi=>h i (by omega)
  have h2:=zMF (d.getD n default)
  have h3:=h n (by omega)
  rw [zAW,List.length_append,List.length_map]
  omega
theorem yDc (ps:List (Key×Int)):(zBL ps).length≤ps.length:=by
 have hi:∀ (es:List Ent) (k:Key) (n:Int),(zNY es k n).length≤es.length+1:=by
  intro es k n
  induction es with
  |nil=>simp [zNY]
  |cons e r ih=>
   rw [zNY]
   split
   ·simpa using ih
   ·split<;>simp
 have:∀ (ps:List (Key×Int)) (l:List Ent),(ps.foldl (fun l p=>zNY l p.1 p.2) l).length≤l.length+ps.length:=by
  intro ps
  induction ps with
  |nil=>intro l;simp
  |cons p r ih=>
   intro l
   have h1:=hi l p.1 p.2
   have:=ih (zNY l p.1 p.2)
   rw [List.foldl_cons,List.length_cons]
   omega
 have:=this ps []
 simpa [zBL] using this
theorem yEZ (d:List Nd) (h64:d.length≤64) (hcls:∀ i,i < d.length→(d.getD i default).cls.length≤6) {k:Int} (h1:1≤k) (h3:k≤3) (nm:Bys):yEb (idxOf d) k nm=(zUf d (k,nm),0):=by
 have h2:=zE9 d d.length fun i hi=>hcls i hi
 have h4:=yDc (zAW d d.length)
 have h5:(idxOf d).length≤512:=by unfold idxOf;omega
 unfold yEb
 rw [if_neg (by omega),if_neg (by omega),yHk]
def zRe (s:Bool×List Int) (l:List Int):Bool×List Int:=if s.1=false∨l.length < s.2.length then (true,l) else s
def zD1 (d:List Nd) (s:Bool×List Int) (t:Ts):Bool×List Int:=if t.kind=2 then zRe s (zUf d (2,t.name)) else if t.kind=1 then zRe s (zUf d (3,t.name)) else s
def zFs (d:List Nd) (s:St):Bool×List Int:=if s.tag=[] then (false,[]) else zRe (false,[]) (zUf d (1,s.tag))
def zFt (p:Pt):St:=p.steps.getD (p.steps.length-1) default
def yJ2 (d:List Nd):List Int:=(List.range d.length).map Int.ofNat
def zPu (d:List Nd) (p:Pt):List Int:=
 let r:=(zFt p).tests.foldl (zD1 d) (zFs d (zFt p))
 if r.1 then r.2 else yJ2 d
def yJH (d:List Nd) (q:Nat→Prop) (s:Bool×List Int):Prop:=(s.1=true→∀ n:Nat,n < d.length→q n→(n:Int)∈s.2)∧(∀ v∈s.2,∃ n:Nat,n < d.length∧v=n)∧s.2.length≤4224
theorem zYZ {d:List Nd} {q:Nat→Prop} {s:Bool×List Int} {l:List Int} (h:yJH d q s) (h1:∀ n:Nat,n < d.length→q n→(n:Int)∈l) (h2:∀ v∈l,∃ n:Nat,n < d.length∧v=n) (h3:l.length≤4224):yJH d q (zRe s l):=by
 unfold zRe
 split
 ·exact ⟨fun _=>h1,h2,h3⟩
 ·exact h
theorem zPv {d:List Nd} (h64:d.length≤64) (hcls:∀ i,i < d.length→(d.getD i default).cls.length≤64) (k:Key):(∀ v∈zUf d k,∃ n:Nat,n < d.length∧v=n)∧(zUf d k).length≤4224:=by
 refine ⟨fun v hv=>?_,?_⟩
 ·obtain ⟨i,h1,h2,_⟩:=(zOF d k v).1 hv
  exact ⟨i,h1,h2⟩
 ·have:=yEY d hcls k
  omega
theorem yAX {d:List Nd} (h64:d.length≤64) (hcls:∀ i,i < d.length→(d.getD i default).cls.length≤64) (q:Nat→Prop):∀ (l:List Ts),(∀ t∈l,(t.kind=2→∀ n:Nat,n < d.length→q n→(2,t.name)∈zEv (d.getD n default))∧(t.kind=1→∀ n:Nat,n < d.length→q n→(3,t.name)∈zEv (d.getD n default)))→∀ s,yJH d q s→yJH d q (l.foldl (zD1 d) s)
 |[],_,s,h=>h
 |t::r,ht,s,h=>by
  rw [List.foldl_cons]
  refine yAX h64 hcls q r (fun t' h'=>ht t' (List.mem_cons_of_mem _ h')) _ ?_
  obtain ⟨g1,g2⟩:=ht t List.mem_cons_self
  unfold zD1
  split
  ·rename_i hk
   obtain ⟨h1,h2⟩:=zPv h64 hcls (2,t.name)
   exact zYZ h (fun n hn hq=>(zOF d _ _).2 ⟨n,hn,rfl,g1 hk n hn hq⟩) h1 h2
  ·split
   ·rename_i hk
    obtain ⟨h1,h2⟩:=zPv h64 hcls (3,t.name)
    exact zYZ h (fun n hn hq=>(zOF d _ _).2 ⟨n,hn,rfl,g2 hk n hn hq⟩) h1 h2
   ·exact h
theorem zY0 {d:List Nd} {p:Pt} {n:Nat} (h0:1≤p.steps.length) (h:pM d p n=true):sM d (zFt p) n=true:=by
 rw [yJG] at h
 have hl:(p.steps.map (sM d)).getD (p.steps.length-1) (fun _=>false)=sM d (zFt p):=by
  have hlt:p.steps.length-1 < p.steps.length:=by omega
  simp [zFt,hlt]
 cases hk:p.steps.length-1 with
 |zero=>rw [hk,zDM,←hk,hl] at h;exact h
 |succ k=>rw [hk,zDM,←hk,hl,Bool.and_eq_true] at h;exact h.1
theorem yE0 {d:List Nd} (h64:d.length≤64) (hcls:∀ i,i < d.length→(d.getD i default).cls.length≤64) {p:Pt} (hp:GP p 1):
  (∀ n:Nat,n < d.length→pM d p n=true→(n:Int)∈zPu d p)∧(∀ v∈zPu d p,∃ n:Nat,n < d.length∧v=n)∧(zPu d p).length≤4224:=by
 obtain ⟨k1,k2,k3,k4,k5⟩:=hp.parts'
 have hg:GS (zFt p) 1:=GSs.get k5 _ (by omega)
 obtain ⟨tg,ts⟩:∃ tg ts,zFt p=St.mk tg ts:=by cases zFt p;exact ⟨_,_,rfl⟩
 obtain ⟨ts,htg⟩:=ts
 have hg':=hg
 rw [htg] at hg'
 obtain ⟨q1,q2,q3⟩:=hg'.parts
 have hs:yJH d (fun n=>sM d (zFt p) n=true) ((zFt p).tests.foldl (zD1 d) (zFs d (zFt p))):=by
  refine yAX h64 hcls _ _ (fun t ht=>?_) _ ?_
  ·have hgt:GT t 1:=by
    obtain ⟨i,hi,rfl⟩:=List.mem_iff_getElem.1 ht
    have:=GTs.get hg.parts'.2 i hi
    simpa [hi] using this
   obtain ⟨k,nm,v,a,b,l⟩:=t
   obtain ⟨r1,r2,_⟩:=hgt.parts
   refine ⟨fun hk n hn hq=>?_,fun hk n hn hq=>?_⟩
   ·have hk:k=2:=hk
    subst hk
    rw [yEX,Bool.and_eq_true,List.all_eq_true] at hq
    have:=hq.2 _ ht
    rw [yHj] at this
    simp only [zNZ,Ts.kind,Ts.name] at this
    simp only [show ¬ ((2:Int)=1) by decide,if_false,if_true] at this
    have this:(d.getD n default).id=nm:=of_decide_eq_true this
    simp only [show (2:Int)≤8 by decide,if_true] at r2
    have hne:(d.getD n default).id≠[]:=by
     rw [this];intro e;rw [e] at r2;simp [zBJ] at r2
    unfold zEv
    rw [if_neg hne,this]
    simp [Ts.name]
   ·have hk:k=1:=hk
    subst hk
    rw [yEX,Bool.and_eq_true,List.all_eq_true] at hq
    have:=hq.2 _ ht
    rw [yHj] at this
    simp only [zNZ,Ts.kind,Ts.name,if_true,List.any_eq_true,decide_eq_true_eq] at this
    obtain ⟨c,hc,hcn⟩:=this
    have hc:nm∈(d.getD n default).cls:=by rw [←of_decide_eq_true hcn];exact hc
    unfold zEv
    refine List.mem_cons_of_mem _ (List.mem_append_right _ (List.mem_map.2 ⟨nm,hc,rfl⟩))
  ·unfold zFs
   split
   ·exact ⟨(fun h=>nomatch h),(fun v hv=>nomatch hv),Nat.zero_le _⟩
   ·rename_i hne
    obtain ⟨h1,h2⟩:=zPv h64 hcls (1,(zFt p).tag)
    refine zYZ ⟨(fun h=>nomatch h),(fun v hv=>nomatch hv),Nat.zero_le _⟩ (fun n hn hq=>(zOF d _ _).2 ⟨n,hn,rfl,?_⟩) h1 h2
    have hq:sM d (zFt p) n=true:=hq
    rw [yEX,Bool.and_eq_true,Bool.or_eq_true] at hq
    have:(zFt p).tag=(d.getD n default).tag:=by
     rcases hq.1 with h|h
     ·exact absurd (by simpa using h) hne
     ·simpa using h
    unfold zEv
    rw [this];simp
 unfold zPu
 simp only
 split
 ·rename_i hr
  exact ⟨fun n hn hp=>hs.1 hr n hn (zY0 k1 hp),hs.2.1,hs.2.2⟩
 ·refine ⟨fun n hn _=>List.mem_map.2 ⟨n,List.mem_range.2 hn,rfl⟩,fun v hv=>?_,by simp [yJ2];omega⟩
  obtain ⟨n,hn,rfl⟩:=List.mem_map.1 hv
  exact ⟨n,List.mem_range.1 hn,rfl⟩
end Go.Hx
end

section
/-
 Shorter words for printed code; a function's contract out of its code by one computation; the first frame's words. Generic over the program. No condition.
-/
namespace Go.Hx
open Go.RowKit
variable [Glob]
abbrev oV (d:Nat) (v:VOp):HO:=⟨none,.val d v⟩
abbrev oG (g:Nat) (b:Bool) (d:Nat) (v:VOp):HO:=⟨some (g,b),.val d v⟩
abbrev oC (d:Nat) (f:FuncId) (l:List (Opd×AM)):HO:=⟨none,.call (some d) f l⟩
abbrev oD (i:Nat) (l:Bool) (h:HO):DO:=⟨i,l,h⟩
abbrev oN (l:List HO):HCode:=.reg l false []
abbrev oR (l:List HO) (f:List Nat):HCode:=.reg l false [.forget f]
abbrev oQ (l:List DO) (f:List Nat):HCode:=.drg l [.forget f]
def foB (E:Env) (base:Nat) (av:List AV):Bool:=Nat.ble av.length E.N&&Nat.ble (zTY av) 1&&Nat.ble (nIo av) 1&&match ioOf av with|some cs=>E.nfix==1&&E.Γ[0]?==some (base,cs.length)|none=>E.nfix==0
theorem fo {E:Env} {base:Nat} {av:List AV} (h:foB E base av=true):zWz E base av:=by
 unfold foB at h
 simp only [Bool.and_eq_true] at h
 refine ⟨Nat.le_of_ble_eq_true h.1.1.1,Nat.le_of_ble_eq_true h.1.1.2,Nat.le_of_ble_eq_true h.1.2,?_⟩
 have h2:=h.2
 split at h2
 ·rename_i cs e
  try rw [e]
  simpa using h2
 ·rename_i e
  try rw [e]
  simpa using h2
def zB1 (P:Program) (f:FuncId) (h:HCode) (E:Env) (R:List RSrc):Bool:=match P.funcs[f]? with
 |some fn=>match fn.body with
  |some c=>zBS P f&&(E.ok&&E.unaOk)&&(E.N==fn.ntmps)&&zCI P E c h&&zEt P E R fn.results.toList
  |none=>false
 |none=>false
theorem mkA {P:Program} {f:FuncId} {h:HCode} {E:Env} {R:List RSrc} (hc:zB1 P f h E R=true) {base:Nat} {av:List AV} {r:RV} (hfo:zWz E base av) (hW:AVs.fits av→hwp P h (yBx E base av R r) (F0 E base av)) (hov:∀ x,r.res=.ov x→zTY av=0:=by intro x h;cases h<;>rfl):Contract P f av r:=by
 unfold zB1 at hc
 split at hc
 ·rename_i fn hf
  split at hc
  ·rename_i c hb
   simp only [Bool.and_eq_true,beq_iff_eq] at hc
   exact zRk (fn:=fn) (c:=c) hf hb hc.1.1.1.1 (by simp [hc.1.1.1.2]) hc.1.1.2 hc.1.2 hc.2 hfo hW hov
  ·cases hc
 ·cases hc
theorem yLe {p:Prop} (h:p:=by repeat' (first|exact trivial|exact zAm (by omega)|exact zAi rfl|exact zAx rfl|exact zAs|exact le_refl _|refine And.intro ?_ ?_)):p:=h
theorem yIn:(∀ F,zAJ [] F=F)∧(∀ i r F,zAJ (i::r) F=zAJ r (F.set i .una))∧(∀ (a:Ct) l n b,(a::l).set (n+1) b=a::l.set n b)∧(∀ (a:Ct) l b,(a::l).set 0 b=b::l)∧
  (∀ (f:AV→Ct),[].map f=[])∧(∀ (f:AV→Ct) a l,(a::l).map f=f a::l.map f)∧(∀ (f:PV→Ct),[].map f=[])∧(∀ (f:PV→Ct) a l,(a::l).map f=f a::l.map f)∧
  (∀ x,zAH (.val x)=.pv x)∧(∀ e k r,zAH (.own e k r)=.own e k r)∧(∀ x,zAH (.io x)=.ptr 0 0)∧(∀ F i,zAa F i []=F)∧(∀ F i c l,zAa F i (c::l)=zAa (F.set i c) (i+1) l)∧
  (ioOf []=none)∧(∀ x l,ioOf (.val x::l)=ioOf l)∧(∀ e k r l,ioOf (.own e k r::l)=ioOf l)∧(∀ x l,ioOf (.io x::l)=some x)∧
  (([]:List AV).length=0)∧(∀ (a:AV) l,(a::l).length=l.length+1)∧(∀ a:Ct,List.replicate 0 a=[])∧(∀ (a:Ct) n,List.replicate (n+1) a=a::List.replicate n a)∧
  (∀ (a:Ct) l r,a::l++r=a::(l++r))∧(∀ l:List Ct,[]++l=l):=by
 refine ⟨fun _=>rfl,fun _ _ _=>rfl,fun _ _ _ _=>rfl,fun _ _ _=>rfl,fun _=>rfl,fun _ _ _=>rfl,fun _=>rfl,fun _ _ _=>rfl,fun _=>rfl,fun _ _ _=>rfl,fun _=>rfl,fun _ _=>rfl,fun _ _ _ _=>rfl,rfl,fun _ _=>rfl,fun _ _ _ _=>rfl,fun _ _=>rfl,rfl,fun _ _=>rfl,fun _=>rfl,fun _ _=>rfl,fun _ _ _=>rfl,fun _=>rfl⟩
end Go.Hx
end

section
/-
 THE ABSTRACT LAYER: a closure's contract out of its code. Generic over the program. No condition.
-/
namespace Go.Hx
open Go.RowKit
variable [Glob]
def zIQ:List CA→Nat→List Ct
 |[],_=>[]
 |.v x::r,j=>.pv (.one x)::zIQ r j
 |.io _::r,j=>.ptr j 0::zIQ r (j+1)
def zWj:List CA→List (List PV)
 |[]=>[]
 |.v _::r=>zWj r
 |.io c::r=>c::zWj r
def F0c (E:Env) (bxs:List (Nat×Nat×Nat)) (as:List AV) (cas:List CA):List Ct:=zAJ E.una (
 zEZ (as.map zAH++zIQ cas 0++List.replicate (E.L-as.length-cas.length) .un) bxs (zWj cas))
def zY1 (E:Env) (bxs:List (Nat×Nat×Nat)) (as:List AV) (cas:List CA):Prop:=
 as.length+cas.length≤E.N∧(∀ x∈as,∃ p,x=.val p)∧E.nfix=bxs.length∧bxs.map (·.1)=List.range bxs.length∧(zWj cas).map List.length=bxs.map (·.2.2)
def zS4 (F:List Ct):List (Nat×Nat×Nat)→Option (List (List PV))
 |[]=>some []
 |(_,base,n)::r=>match zAR F base n,zS4 F r with
  |some c,some l=>some (c::l)
  |_,_=>none
def yJI (bxs:List (Nat×Nat×Nat)) (io':List (List PV)):Exit→List Ct→Prop
 |.normal,F|.ret,F=>zS4 F bxs=some io'
 |_,_=>False
section
variable {P:Program} {E:Env} {m:Mem} {w:World}
theorem zFX:∀ (cas:List CA) (j:Nat),(zIQ cas j).length=cas.length
 |[],_=>rfl
 |.v x::r,j=>by simp [zIQ,zFX r]
 |.io c::r,j=>by simp [zIQ,zFX r]
theorem CArgs.len:∀ {cas:List CA} {cus:List Value} {bs:List Nat},CArgs m w cas cus bs→cus.length=cas.length∧bs.length=(zWj cas).length
 |[],cus,bs,h=>by obtain ⟨rfl,rfl⟩:=h;exact ⟨rfl,rfl⟩
 |.v x::r,cus,bs,h=>by
  obtain ⟨u,us',rfl,_,h3⟩:=h
  obtain ⟨h4,h5⟩:=h3.len
  exact ⟨by simp [h4],h5⟩
 |.io c::r,cus,bs,h=>by
  obtain ⟨b,us',bs',rfl,rfl,_,h3⟩:=h
  obtain ⟨h4,h5⟩:=h3.len
  exact ⟨by simp [h4],by simp [zWj,h5]⟩
theorem CArgs.slot {ow:Ow} {β:Bx}:∀ {cas:List CA} {cus:List Value} {bs:List Nat} {j0:Nat},CArgs m w cas cus bs→(∀ j b,bs[j]?=some b→β (j0+j)=some b)→∀ (i n:Nat) (c:Ct),(zIQ cas j0)[i]?=some c→∃ u,cus[i]?=some u∧CtRep m w β ow n c u
 |[],cus,bs,j0,h,hβ,i,n,c,hc=>by simp [zIQ] at hc
 |.v x::r,cus,bs,j0,h,hβ,i,n,c,hc=>by
  obtain ⟨u,us',rfl,h2,h3⟩:=h
  cases i with
  |zero=>
   simp only [zIQ,List.getElem?_cons_zero,Option.some.injEq] at hc
   subst hc
   exact ⟨u,rfl,h2⟩
  |succ i=>
   obtain ⟨v,g1,g2⟩:=h3.slot (ow:=ow) hβ i n c (by simpa [zIQ] using hc)
   exact ⟨v,by simpa using g1,g2⟩
 |.io l::r,cus,bs,j0,h,hβ,i,n,c,hc=>by
  obtain ⟨b,us',bs',rfl,rfl,h2,h3⟩:=h
  cases i with
  |zero=>
   simp only [zIQ,List.getElem?_cons_zero,Option.some.injEq] at hc
   subst hc
   exact ⟨_,rfl,b,by have:=hβ 0 b rfl;simpa using this,rfl⟩
  |succ i=>
   obtain ⟨v,g1,g2⟩:=h3.slot (ow:=ow) (j0:=j0+1) (fun j b' hj=>by have:=hβ (j+1) b' (by simpa using hj);rw [←this];congr 1;omega) i n c (by simpa [zIQ] using hc)
   exact ⟨v,by simpa using g1,g2⟩
theorem CArgs.box:∀ {cas:List CA} {cus:List Value} {bs:List Nat},CArgs m w cas cus bs→∀ (j:Nat) (l:List PV),(zWj cas)[j]?=some l→∃ b:Nat,bs[j]?=some b∧yJ7 m w b l
 |[],cus,bs,h,j,l,hl=>by simp [zWj] at hl
 |.v x::r,cus,bs,h,j,l,hl=>by
  obtain ⟨u,us',rfl,h2,h3⟩:=h
  exact h3.box j l hl
 |.io c::r,cus,bs,h,j,l,hl=>by
  obtain ⟨b,us',bs',rfl,rfl,h2,h3⟩:=h
  cases j with
  |zero=>
   simp only [zWj,List.getElem?_cons_zero,Option.some.injEq] at hl
   subst hl
   exact ⟨b,rfl,h2⟩
  |succ j=>
   obtain ⟨b',g1,g2⟩:=h3.box j l (by simpa [zWj] using hl)
   exact ⟨b',by simpa using g1,g2⟩
theorem zS5 {F:List Ct}:∀ {bxs:List (Nat×Nat×Nat)} {io:List (List PV)},zS4 F bxs=some io→io.length=bxs.length∧∀ (k:Nat) (bx:Nat×Nat×Nat) (l:List PV),bxs[k]?=some bx→io[k]?=some l→zAR F bx.2.1 bx.2.2=some l
 |[],io,h=>by
  simp only [zS4,Option.some.injEq] at h
  subst h
  exact ⟨rfl,fun k bx l hk=>by simp at hk⟩
 |(j,base,n)::r,io,h=>by
  simp only [zS4] at h
  split at h
  ·rename_i c l e1 e2
   injection h with h
   subst h
   obtain ⟨h1,h2⟩:=zS5 e2
   refine ⟨by simp [h1],fun k bx l' hk hl=>?_⟩
   cases k with
   |zero=>
    simp only [List.getElem?_cons_zero,Option.some.injEq] at hk hl
    subst hk;subst hl
    exact e1
   |succ k=>exact h2 k bx l' (by simpa using hk) (by simpa using hl)
  ·cases h
theorem yBG (hun:E.unaOk=true) (wf:E.Wf) {bxs:List (Nat×Nat×Nat)} (hbx:zYI E bxs=true) {as:List AV} {cas:List CA} {us cus:List Value} {bs:List Nat} (hf:zY1 E bxs as cas) (hm:MemOk m w) (ha:ArgsRep m w as us) (hc:CArgs m w cas cus bs) (hnd:bs.Nodup) (hG0:Glob.ok w) (hGR:∀ b∈bs,Glob.n≤b):
  Inv E {w0:=w,m0:=m,R0:=fun b=>b∈bs,b0:=fun j=>bs[j]?,g0:=hG0,gR:=hGR} (F0c E bxs as cas) {tmps:=(us++cus).toArray++Array.replicate (E.N-(us++cus).toArray.size) undef,defers:=[]} w:=by
 obtain ⟨hlen,hval,hnf,hrg,hls⟩:=hf
 simp only [zYI,Bool.and_eq_true,List.all_eq_true,decide_eq_true_eq] at hbx
 have hb:∀ bx∈bxs,E.Γ[bx.1]?=some (bx.2.1,bx.2.2):=fun bx hbx'=>zCM (hbx.1 bx hbx')
 have hul:=ha.length
 obtain ⟨hcl,hbl⟩:=hc.len
 have hNL:=wf.le
 have hbl2:bs.length=bxs.length:=by
  have:=congrArg List.length hls
  simp only [List.length_map] at this
  omega
 have hfst:∀ (k:Nat) (bx:Nat×Nat×Nat),bxs[k]?=some bx→bx.1=k:=by
  intro k bx hk
  have h1:(bxs.map (·.1))[k]?=some bx.1:=by rw [List.getElem?_map,hk];rfl
  rw [hrg,List.getElem?_range (List.getElem?_eq_some_iff.1 hk).1] at h1
  injection h1 with h1;exact h1.symm
 have hlo:∀ bx∈bxs,E.N≤bx.2.1:=fun bx hbx'=>wf.lo bx.1 _ (hb bx hbx')
 let G:=as.map zAH++zIQ cas 0++List.replicate (E.L-as.length-cas.length) Ct.un
 have hFl:G.length=E.L:=by simp only [G,List.length_append,List.length_map,zFX,List.length_replicate];omega
 obtain ⟨s1,s2,s3⟩:=zO6 wf (io:=zWj cas) hFl hb hbx.2 hls
 refine ⟨m,fun j=>bs[j]?,fun b=>if b∈bs then some (.box (bs.idxOf b)) else none,?_⟩
 refine zPk wf _ _ (fun i hi=>?_) ?_
 ·have hu:=List.all_eq_true.1 hun i hi
  simp only [Bool.and_eq_true,decide_eq_true_eq] at hu
  refine ⟨hu.1,fun j bn b hj hb'=>?_⟩
  have hjl:j < E.nfix:=by rw [hnf,←hbl2];exact (List.getElem?_eq_some_iff.1 hb').1
  have:=List.all_eq_true.1 hu.2 j (by simpa using hjl)
  rw [hj] at this
  simpa using this
 refine ⟨s1.trans hFl,by simp;omega,rfl,?_,?_,hm,m.le_refl,Pres.refl _ _,?_,?_,fun b o u h=>.inl h,fun j _=>rfl⟩
 ·intro i hi
  rw [s2 i fun bx hbx'=>by have:=hlo bx hbx';omega]
  have ht:∀ (u:Value),(us++cus)[i]?=some u→((us++cus).toArray++Array.replicate (E.N-(us++cus).toArray.size) undef).getD i undef=u:=by
   intro u hu
   have hil:=(List.getElem?_eq_some_iff.1 hu).1
   rw [Array.getD_eq_getD_getElem?,Array.getElem?_append_left (by simpa using hil)]
   simp only [List.getElem?_toArray,hu,Option.getD_some]
  by_cases hia:i < as.length
  ·have e1:G.getD i .un=zAH as[i]:=by
    simp only [G]
    rw [List.append_assoc,List.getD_eq_getElem?_getD,List.getElem?_append_left (by simpa using hia),List.getElem?_map,List.getElem?_eq_getElem hia];rfl
   rw [e1]
   obtain ⟨u,h1,h2⟩:=ha.get i as[i] (List.getElem?_eq_getElem hia)
   rw [ht u (by rw [List.getElem?_append_left (by omega)];exact h1)]
   obtain ⟨p,hp⟩:=hval as[i] (List.getElem_mem hia)
   rw [hp] at h2 ⊢
   exact h2
  ·by_cases hic:i < as.length+cas.length
   ·have hk:i-as.length < (zIQ cas 0).length:=by rw [zFX];omega
    have e1:G.getD i .un=(zIQ cas 0)[i-as.length]:=by
     simp only [G]
     rw [List.append_assoc,List.getD_eq_getElem?_getD,List.getElem?_append_right (by simpa using Nat.le_of_not_lt hia),List.length_map,List.getElem?_append_left hk,List.getElem?_eq_getElem hk];rfl
    rw [e1]
    obtain ⟨u,h1,h2⟩:=hc.slot (ow:=fun b=>if b∈bs then some (.box (bs.idxOf b)) else none) (β:=fun j=>bs[j]?) (j0:=0) (fun j b hj=>by simpa using hj) (i-as.length) i _ (List.getElem?_eq_getElem hk)
    rw [ht u (by rw [List.getElem?_append_right (by omega),hul];exact h1)]
    exact h2
   ·have e1:G.getD i .un=.un:=by
     simp only [G]
     rw [List.getD_eq_getElem?_getD,List.getElem?_append_right (by simp [zFX];omega),List.getElem?_replicate]
     split<;>rfl
    rw [e1]
    trivial
 ·intro j bn hj
  by_cases hjb:j < bxs.length
  ·have hk:=List.getElem?_eq_getElem hjb
   have hj1:=hfst j _ hk
   have hj2:=hb bxs[j] (List.getElem_mem hjb)
   rw [hj1,hj] at hj2
   injection hj2 with hj2
   subst hj2
   have hjc:j < (zWj cas).length:=by rw [←hbl,hbl2];exact hjb
   have hl:=List.getElem?_eq_getElem hjc
   obtain ⟨b,g1,g2,vs,T,g3,g4⟩:=hc.box j _ hl
   simp only [g1]
   have hbm:b∈bs:=List.mem_of_getElem? g1
   have hix:bs.idxOf b=j:=by
    have hjl:=(List.getElem?_eq_some_iff.1 g1).1
    have e:bs[j]=b:=by rw [List.getElem?_eq_getElem hjl] at g1;injection g1
    rw [←e]
    exact hnd.idxOf_getElem j hjl
   have hll:((zWj cas)[j]).length=bxs[j].2.2:=by
    have e1:((zWj cas).map List.length)[j]?=some ((zWj cas)[j]).length:=by rw [List.getElem?_map,hl];rfl
    have e2:(bxs.map (·.2.2))[j]?=some bxs[j].2.2:=by rw [List.getElem?_map,hk];rfl
    rw [hls,e2] at e1
    injection e1 with e1;exact e1.symm
   have hvl:=g4.length
   refine ⟨by simp only [if_pos hbm,hix],g2,vs,T,g3,by simpa [hll] using hvl,fun o ho=>?_⟩
   simp only at ho ⊢
   rw [s3 j _ _ hk hl o ho]
   have ho2:o < ((zWj cas)[j]).length:=by omega
   have ho3:o < vs.toList.length:=by omega
   rw [List.getD_eq_getElem?_getD,List.getElem?_map,List.getElem?_eq_getElem ho2]
   have e3:vs.getD o undef=vs.toList[o]:=by
    rw [Array.getD_eq_getD_getElem?,←Array.getElem?_toList,List.getElem?_eq_getElem ho3];rfl
   rw [e3]
   exact g4.get _ _ _ (List.getElem?_eq_getElem ho2) (List.getElem?_eq_getElem ho3)
  ·have e0:bs[j]?=none:=List.getElem?_eq_none (by omega)
   simp only [e0]
   intro o ho
   have hjN:=wf.lo j bn hj
   rw [s2 _ fun bx hbx'=>?_]
   ·left
    simp only [G]
    rw [List.getD_eq_getElem?_getD,List.getElem?_append_right (by simp [zFX];omega),List.getElem?_replicate]
    split<;>rfl
   ·obtain ⟨k,hk⟩:=List.getElem?_of_mem hbx'
    have hkl:=(List.getElem?_eq_some_iff.1 hk).1
    have hne:j≠bx.1:=by rw [hfst k bx hk];omega
    have:=wf.ap j bx.1 _ _ hj (hb bx hbx') hne
    simp only at this
    omega
 ·intro b t hb'
  split at hb'
  ·rename_i h;exact .inr h
  ·cases hb'
 ·intro b t hb'
  split at hb'
  ·rename_i h
   obtain ⟨k,hk⟩:=List.getElem?_of_mem h
   have hkl:k < (zWj cas).length:=by rw [←hbl];exact (List.getElem?_eq_some_iff.1 hk).1
   obtain ⟨b',g1,_,vs,T,g3,_⟩:=hc.box k _ (List.getElem?_eq_getElem hkl)
   rw [hk] at g1
   injection g1 with g1
   subst g1
   exact (Array.getElem?_eq_some_iff.1 g3).1
  ·cases hb'
theorem zPw {f:FuncId} {fn:Func} {c:Code} (hf:P.funcs[f]?=some fn) (hb:fn.body=some c) (hcall:zBS P f=true) (hE':(E.ok&&E.unaOk)=true) (hN:E.N=fn.ntmps)
  {h:HCode} (hk:zCI P E c h=true) (hrs:fn.results.toList.isEmpty=true) {bxs:List (Nat×Nat×Nat)} (hbx:zYI E bxs=true) {as:List AV} {cas:List CA} {io':List (List PV)} (hfo:zY1 E bxs as cas) (hl:io'.map List.length=zOR cas) (hW:hwp P h (yJI bxs io') (F0c E bxs as cas)):zEp P f as cas io':=by
 have hE:=Bool.and_eq_true_iff.1 hE'
 have wf:=Env.wf_of_ok hE.1
 refine ⟨hcall,hl,fun m w us cus bs hm ha hca hnd hG0 hGR=>?_⟩
 have h0:=yBG hE.2 wf hbx hfo hm ha hca hnd hG0 hGR
 have hc:=zIN wf c h _ _ _ _ hk hW h0
 refine calls_of_wp hf hb ?_
 rw [←hN]
 refine wp_mono hc ?_
 obtain ⟨hlen,hval,hnf,hrg,hls⟩:=hfo
 obtain ⟨hcl,hbl⟩:=hca.len
 have hbl2:bs.length=bxs.length:=by
  have:=congrArg List.length hls
  simp only [List.length_map] at this
  omega
 simp only [zYI,Bool.and_eq_true,List.all_eq_true,decide_eq_true_eq] at hbx
 have hb:∀ bx∈bxs,E.Γ[bx.1]?=some (bx.2.1,bx.2.2):=fun bx hbx'=>zCM (hbx.1 bx hbx')
 have hfst:∀ (k:Nat) (bx:Nat×Nat×Nat),bxs[k]?=some bx→bx.1=k:=by
  intro k bx hk
  have h1:(bxs.map (·.1))[k]?=some bx.1:=by rw [List.getElem?_map,hk];rfl
  rw [hrg,List.getElem?_range (List.getElem?_eq_some_iff.1 hk).1] at h1
  injection h1 with h1;exact h1.symm
 have fin:∀ {F:List Ct} {a':Act} {w':World},zS4 F bxs=some io'→
   Inv E {w0:=w,m0:=m,R0:=fun b=>b∈bs,b0:=fun j=>bs[j]?,g0:=hG0,gR:=hGR} F a' w'→
   a'.defers=[]∧∃ v,(results fn a'.tmps).run P w'=.ok v w'∧yIr m w bs io' (.returned v) w':=by
  rintro F a' w' hr ⟨m',β,ow,hG⟩
  refine ⟨hG.dfr,.tuple #[],?_,m',hG.mle,hG.mem,hG.pres,fun b o u hu=>?_,rfl,?_⟩
  ·have e:fn.results=#[]:=by
    have:fn.results.toList=[]:=by simpa using hrs
    exact Array.toList_eq_nil_iff.1 this
   unfold results
   rw [e]
   simp
  ·rcases hG.new b o u hu with g|g|g
   ·exact .inl g
   ·exact .inr g
   ·obtain ⟨k,hk⟩:=List.getElem?_of_mem g
    have hkl:k < bxs.length:=by rw [←hbl2];exact (List.getElem?_eq_some_iff.1 hk).1
    have hk2:=List.getElem?_eq_getElem hkl
    have hj:=hb bxs[k] (List.getElem_mem hkl)
    rw [hfst k _ hk2] at hj
    have hB:=hG.boxes k _ hj
    have hβ:β k=some b:=by rw [hG.fix k (by omega)];exact hk
    rw [hβ] at hB
    have:=hB.2.1 o
    rw [hu] at this
    cases this
  ·obtain ⟨g1,g2⟩:=zS5 hr
   refine ⟨by omega,fun k l hkl=>?_⟩
   have hkb:k < bxs.length:=by rw [←g1];exact (List.getElem?_eq_some_iff.1 hkl).1
   have hkbs:k < bs.length:=by omega
   have hk2:=List.getElem?_eq_getElem hkb
   have hcv:=g2 k _ l hk2 hkl
   have hj:=hb bxs[k] (List.getElem_mem hkb)
   rw [hfst k _ hk2] at hj
   have hB:=hG.boxes k _ hj
   have hβ:β k=some bs[k]:=by rw [hG.fix k (by omega)];exact List.getElem?_eq_getElem hkbs
   rw [hβ] at hB
   obtain ⟨vs,T,k1,k2,k3⟩:=zHv hB hcv
   exact ⟨bs[k],List.getElem?_eq_getElem hkbs,hB.2.1,vs,T,k1,k3⟩
 rintro e a' w' ⟨F,hq,hI⟩
 cases e with
 |normal=>exact fin hq hI
 |ret=>exact fin hq hI
 |panic ch=>exact hq.elim
 |exit id=>exact hq.elim
 |goto l=>exact hq.elim
 |outgrown=>exact hq.elim
end
end Go.Hx
end

section
/-
 Plainer lists of paths, as plain Lean data: the same lists, the first ones of equals, a list made plainer, how much it weighs. No condition.
-/
namespace Go.Hx
section
variable {α:Type} (eq:α→α→Bool)
end
end Go.Hx
end

section
/-
 A list made plainer: it weighs no more, it stays right, what is as plain as may be stays, and it matches what it matched. Plain Lean. No condition.
-/
set_option maxRecDepth 100000
set_option linter.unusedSimpArgs false
namespace Go.Hx
mutual
theorem zQM:∀ (l:List Pt) (d:Nat),yCs l (d+1)=false→yCs l d=false
 |[],_,_=>rfl
 |p::r,d,h=>by
  simp only [yCs,Bool.or_eq_false_iff] at h ⊢
  exact ⟨yFj p d h.1,zQM r d h.2⟩
theorem yFj:∀ (p:Pt) (d:Nat),tmP p (d+1)=false→tmP p d=false
 |.mk s l,d,h=>by
  simp only [tmP,Bool.or_eq_false_iff] at h ⊢
  exact ⟨h.1,zXY s d h.2⟩
theorem zXY:∀ (l:List St) (d:Nat),yD7 l (d+1)=false→yD7 l d=false
 |[],_,_=>rfl
 |p::r,d,h=>by
  simp only [yD7,Bool.or_eq_false_iff] at h ⊢
  exact ⟨yFk p d h.1,zXY r d h.2⟩
theorem yFk:∀ (p:St) (d:Nat),tmS p (d+1)=false→tmS p d=false
 |.mk t l,d,h=>by
  simp only [tmS,Bool.or_eq_false_iff] at h ⊢
  exact ⟨h.1,zQN l d h.2⟩
theorem zQN:∀ (l:List Ts) (d:Nat),yD8 l (d+1)=false→yD8 l d=false
 |[],_,_=>rfl
 |p::r,d,h=>by
  simp only [yD8,Bool.or_eq_false_iff] at h ⊢
  exact ⟨yA5 p d h.1,zQN r d h.2⟩
theorem yA5:∀ (p:Ts) (d:Nat),tmT p (d+1)=false→tmT p d=false
 |.mk k n v a b l,d,h=>by
  simp only [tmT,Bool.and_eq_false_iff,Bool.or_eq_false_iff] at h ⊢
  rcases h with h|⟨⟨h1,h2⟩,h3⟩
  ·exact .inl h
  ·exact .inr ⟨⟨by simp only [decide_eq_false_iff_not] at h1 ⊢;omega,h2⟩,zQM l (d+1) h3⟩
end
theorem GT.mono {t:Ts} {d:Nat} (h:GT t (d+1)):GT t d:=⟨yA5 t d h.1,h.2⟩
theorem GTs.mono {t:List Ts} {d:Nat} (h:GTs t (d+1)):GTs t d:=⟨zQN t d h.1,h.2⟩
theorem GPs.mono {t:List Pt} {d:Nat} (h:GPs t (d+1)):GPs t d:=⟨zQM t d h.1,h.2⟩
theorem GL.mono {t:List Pt} {d:Nat} (h:GL t (d+1)):GL t d:=⟨by have:=h.1;omega,h.2.1,h.2.2.1,h.2.2.2.mono⟩
theorem yDw {l:List Pt} (h:GL l 1):zCK l=0:=by
 obtain ⟨_,h1,h2,g1,g2,g3,g4⟩:=h
 unfold zCK tmL
 rw [g1,g2,g3,g4]
 simp [h1,h2]
section
variable [Glob]
end
end Go.Hx
end

section
/-
 Lists of which the first ones are done and the others are not; small laws on owned trees. No condition.
-/
namespace Go.Hx
open Go.RowKit
section
variable {α β:Type}
variable {f g:α→β} {l:List α} {k:Nat}
end
section
variable [Glob]
variable {P:Program} {F:List Ct} {K:List Ct→Prop} {X:Value→List Ct→Prop}
end
end Go.Hx
end

section
/-
 Maps from ints to ints; rows told by a function; the neighbours of elements. Plain Lean over the layer. No condition.
-/
set_option maxRecDepth 100000
namespace Go.Hx
section
variable [Glob]
abbrev yCt (b:Nat) (l:List (Int×Int)):OV:=.mp b (l.map fun x=>.int .i64 x.1) (l.map fun x=>.p (bI x.2))
def zRf:List (Int×Int)→Int→Option Int
 |[],_=>none
 |x::l,w=>if w=x.1 then some x.2 else zRf l w
def yCd:List (Int×Int)→Int→Int→List (Int×Int)
 |[],u,n=>[(u,n)]
 |x::l,u,n=>if u=x.1 then (x.1,n)::l else x::yCd l u n
theorem zIO:∀ (l:List (Int×Int)) (u n w:Int),zRf (yCd l u n) w=if w=u then some n else zRf l w
 |[],u,n,w=>by simp [zRf,yCd]
 |x::l,u,n,w=>by
  simp only [yCd]
  by_cases h:u=x.1
  ·rw [if_pos h]
   simp only [zRf]
   by_cases h2:w=x.1
   ·rw [if_pos h2,if_pos (by rw [h2,h])]
   ·rw [if_neg h2,if_neg (by rw [h];exact h2),if_neg h2]
  ·rw [if_neg h]
   simp only [zRf]
   rw [zIO l u n w]
   by_cases h2:w=x.1
   ·rw [if_pos h2,if_neg (by rw [h2];exact fun e=>h e.symm),if_pos h2]
   ·rw [if_neg h2,if_neg h2]
theorem yHA (a b:Int):zEr (.int .i64 a) (.int .i64 b)=decide (a=b):=by
 simp [zEr,zNV]
theorem yA6 (x:Int×Int) (l:List (Int×Int)) (w:Int):zGB ((x::l).map fun x=>Value.int .i64 x.1) (.int .i64 w)=if w=x.1 then some 0 else (zGB (l.map fun x=>Value.int .i64 x.1) (.int .i64 w)).map (·+1):=by
 unfold zGB
 simp only [List.map_cons,List.findIdx?_cons,yHA]
 by_cases h:w=x.1<;>simp [h]
theorem zZ0:∀ (l:List (Int×Int)) (w:Int),(zGB (l.map fun x=>Value.int .i64 x.1) (.int .i64 w)=none∧zRf l w=none)∨(∃ i,zGB (l.map fun x=>Value.int .i64 x.1) (.int .i64 w)=some i∧i < l.length∧zRf l w=some (l.getD i default).2)
 |[],w=>.inl ⟨rfl,rfl⟩
 |x::l,w=>by
  rw [yA6]
  simp only [zRf]
  by_cases h:w=x.1
  ·right
   exact ⟨0,by simp [h],by simp,by simp [h]⟩
  ·rw [if_neg h,if_neg h]
   rcases zZ0 l w with ⟨h1,h2⟩|⟨i,h1,h2,h3⟩
   ·left;exact ⟨by rw [h1];rfl,h2⟩
   ·right;exact ⟨i+1,by rw [h1];rfl,by simp;omega,by simpa using h3⟩
theorem yDB (b:Nat):∀ (l:List (Int×Int)) (u n:Int),zKY b (l.map fun x=>Value.int .i64 x.1) (l.map fun x=>.p (bI x.2)) (.int .i64 u) (.p (bI n))=yCt b (yCd l u n)
 |[],u,n=>rfl
 |x::l,u,n=>by
  have ih:=yDB b l u n
  unfold zKY at ih ⊢
  rw [yA6]
  simp only [yCd]
  by_cases h:u=x.1
  ·rw [if_pos h,if_pos h]
   simp [yCt]
  ·rw [if_neg h,if_neg h]
   rcases zZ0 l u with ⟨h1,_⟩|⟨i,h1,h2,h3⟩
   ·rw [h1] at ih ⊢
    simp only [Option.map_none]
    simp only [yCt,OV.mp.injEq] at ih ⊢
    simp only [List.map_cons,List.cons_append]
    exact ⟨trivial,by rw [ih.2.1],by rw [ih.2.2]⟩
   ·rw [h1] at ih ⊢
    simp only [Option.map_some]
    simp only [yCt,OV.mp.injEq] at ih ⊢
    simp only [List.map_cons,List.set_cons_succ]
    exact ⟨trivial,by rw [ih.2.1],by rw [ih.2.2]⟩
theorem yF0 (l:List (Int×Int)):∀ q∈(l.map fun x=>Value.int .i64 x.1),zNs q=1:=by
 intro q hq
 obtain ⟨x,_,rfl⟩:=List.mem_map.1 hq
 rfl
variable {P:Program} {F:List Ct} {K:List Ct→Prop} {X:Value→List Ct→Prop}
theorem yJQ {d:Nat} (h:∀ b,K (F.set d (.ov (.one (yCt b []))))):hoW P ⟨none,.mmk d⟩ F K X:=h
theorem yHB {x q y r b:Nat} {l:List (Int×Int)} {u n:Int} (hx:F.getD x .un=.mph b) (hr:F.getD r .un=.ov (.one (yCt b l))) (hq:F.getD q .un=.pv (iv u)) (hy:F.getD y .un=.pv (iv n)) (hyr:y≠r) (hK:K (F.set r (.ov (.one (yCt b (yCd l u n)))))):hoW P ⟨none,.mps (.t x) r 1 (.t q) (.t y)⟩ F K X:=by
 rw [yKX]
 have hm:zKZ F (.t x)=some b:=by unfold zKZ;simp only [zAk,hx]
 have hqv:(zAk F (.t q)).pv?=some (iv u):=by simp only [zAk,hq];rfl
 have hqn:(zAk F (.t q)).need:=by simp only [zAk,hq];trivial
 have hsv:zRc F (.t y)=(trivial=trivial,some (.p (bI n)))∨(zRc F (.t y)).1∧(zRc F (.t y)).2=some (.p (bI n)):=by
  right
  unfold zRc
  simp only [zAk,hy,Ct.pv?,Ct.need]
  exact ⟨trivial,rfl⟩
 have hs2:(zRc F (.t y)).1∧(zRc F (.t y)).2=some (.p (bI n)):=by
  unfold zRc
  simp only [zAk,hy,Ct.pv?,Ct.need]
  exact ⟨trivial,rfl⟩
 have hcl:clr F F (.t y)=F:=by simp only [clr,hy]
 unfold zJF
 rw [hm,hr,hqv]
 refine ⟨rfl,hqn,rfl,yF0 l,(fun s h=>by cases h;exact hyr),hs2.1,?_⟩
 rw [hs2.2,hcl]
 change K (F.set r (Ct.ov (OVal.one (zKY b (l.map fun x=>Value.int .i64 x.1) (l.map fun x=>OV.p (bI x.2)) (.int .i64 u) (.p (bI n))))))
 rw [yDB]
 exact hK
theorem yHC {d x q r b:Nat} {l:List (Int×Int)} {w:Int} {ok:Bool} (hx:F.getD x .un=.mph b) (hr:F.getD r .un=.ov (.one (yCt b l))) (hq:F.getD q .un=.pv (iv w)) (hK:K (F.set d (if ok then .tup [iv ((zRf l w).getD 0),bv (zRf l w).isSome] else .pv (iv ((zRf l w).getD 0))))):hoW P ⟨none,.mpl d (.t x) r 1 (.t q) (.v (.int .i64 0)) ok⟩ F K X:=by
 rw [yKY]
 have hm:zKZ F (.t x)=some b:=by unfold zKZ;simp only [zAk,hx]
 have hqv:(zAk F (.t q)).pv?=some (iv w):=by simp only [zAk,hq];rfl
 have hqn:(zAk F (.t q)).need:=by simp only [zAk,hq];trivial
 unfold zJF
 rw [hm,hr,hqv]
 refine ⟨rfl,hqn,rfl,yF0 l,?_⟩
 rcases zZ0 l w with ⟨h1,h2⟩|⟨i,h1,h2,h3⟩
 ·rw [h1]
  simp only [zYH]
  rw [h2] at hK
  exact hK
 ·rw [h1]
  have:(l.map fun x=>OV.p (bI x.2)).getD i .hole=.p (bI (l.getD i default).2):=by simp [h2]
  simp only [zYH,this]
  rw [h3] at hK
  exact hK
end
def zEi (L:Nat) (g:Nat→List OV):List (List OV):=(List.range L).map g
theorem yDC (L:Nat) (g:Nat→List OV):(zEi L g).length=L:=by simp [zEi]
theorem zCL {L i:Nat} (h:i < L) (g:Nat→List OV):(zEi L g).getD i []=g i:=by simp [zEi,h]
theorem yDD (L i:Nat) (g:Nat→List OV) (r:List OV):(zEi L g).set i r=zEi L (fun j=>if j=i then r else g j):=by
 refine List.ext_getElem (by simp [zEi]) fun k h1 h2=>?_
 simp only [zEi,List.getElem_set,List.getElem_map,List.getElem_range]
 by_cases h:i=k
 ·rw [if_pos h,if_pos h.symm]
 ·rw [if_neg h,if_neg (Ne.symm h)]
theorem yDE (L:Nat) (r:List OV):List.replicate L r=zEi L (fun _=>r):=by
 simp [zEi,List.map_const']
theorem zAZ {L:Nat} {g h:Nat→List OV} (e:∀ j,j < L→g j=h j):zEi L g=zEi L h:=
 List.map_congr_left fun j hj=>e j (List.mem_range.1 hj)
abbrev zJz (p o a u k:Int):List OV:=[.p (bI p),.p (bI o),.p (bI a),.p (bI u),.p (bI k)]
end Go.Hx
end

section
/-
 Right documents: what is above an element. Plain Lean. No condition.
-/
namespace Go.Hx
variable [Glob]
def C (d:List Nd) (k:Int):List Int:=zBr d d.length k
section
variable {d:List Nd} (hd:zCS d d.length=true)
include hd
theorem yFl {k:Int} (h:k < 0):C d k=[]:=by
 unfold C
 cases d.length<;>simp [zBr,h]
theorem zJA {k:Nat} (hk:k < d.length):C d k=(k:Int)::C d (zBc d k):=by
 unfold C
 have hu:=zBh hd k hk
 obtain ⟨f,hf⟩:∃ f,d.length=f+1:=⟨d.length-1,by omega⟩
 rw [hf]
 have e:=zFW (d:=d) f (f+1) (zBc d k) (fun j hj=>(zBh hd j (by omega)).2) (by omega) (by omega)
 rw [←e]
 simp only [zBr,Int.toNat_natCast]
 rw [if_neg (by omega)]
theorem yH1 {k:Int} (hk:k < d.length) {x:Int} (hx:x∈C d k):0≤x∧x≤k:=
 zDK d.length k (fun j hj=>(zBh hd j (by omega)).2) x hx
theorem yJR {p:Nat→Prop} (h:∀ k,k < d.length→(∀ j:Nat,zBc d k=(j:Int)→j < k→p j)→p k):∀ k,k < d.length→p k:=by
 intro k
 induction k using Nat.strongRecOn with
 |ind k ih=>intro hk;exact h k hk fun j _ hj=>ih j hj (by omega)
theorem yA7 {k:Nat} (hk:k < d.length):zBc d k < 0∨∃ j:Nat,zBc d k=j∧j < k:=by
 have:=zBh hd k hk
 by_cases h:zBc d k < 0
 ·exact .inl h
 ·exact .inr ⟨(zBc d k).toNat,by omega,by omega⟩
theorem yHD:∀ k,k < d.length→∀ {u x:Int},u∈C d k→x∈C d u→x∈C d k:=by
 refine yJR hd fun k hk ih u x hu hx=>?_
 rw [zJA hd hk] at hu ⊢
 rcases List.mem_cons.1 hu with rfl|hu
 ·rw [zJA hd hk] at hx;exact hx
 ·refine List.mem_cons_of_mem _ ?_
  rcases yA7 hd hk with h|⟨j,h,hj⟩
  ·rw [yFl hd h] at hu;cases hu
  ·rw [h] at hu ⊢
   exact ih j h hj hu hx
theorem yLo:∀ k,k < d.length→∀ {i:Nat} {x:Int},(i:Int)∈C d k→x∈C d k→x < i→x∈C d (zBc d i):=by
 refine yJR hd fun k hk ih i x hi hx hlt=>?_
 have hb:=yH1 hd (by omega) hi
 rw [zJA hd hk] at hi hx
 rcases List.mem_cons.1 hi with e|hi
 ·have e:i=k:=by omega
  subst e
  exact (List.mem_cons.1 hx).resolve_left (by omega)
 ·have hx:=(List.mem_cons.1 hx).resolve_left (by omega)
  rcases yA7 hd hk with h|⟨j,h,hj⟩
  ·rw [yFl hd h] at hi;cases hi
  ·rw [h] at hi hx
   exact ih j h hj hi hx hlt
end
end Go.Hx
end

section
/-
 An entry laid into the index, at its place. No condition.
-/
set_option maxRecDepth 100000
set_option linter.unusedSimpArgs false
namespace Go.Hx
open Go.RowKit
theorem yBb:∀ (es:List Ent) (i:Nat) (k:Key) (n:Int),i≤es.length→(∀ j,j < i→zAI (es.getD j default).key k=true)→(i=es.length∨zAI k (es.getD i default).key=true)→zNY es k n=es.take i++⟨k.1,k.2,[n]⟩::es.drop i
 |[],i,k,n,hi,_,_=>by
  have:i=0:=by simpa using hi
  subst this;rfl
 |e::r,0,k,n,_,_,h=>by
  have h1:zAI k e.key=true:=by rcases h with h|h;simp at h;exact h
  rw [zNY,if_neg (by rw [zGL h1];decide),if_pos h1];rfl
 |e::r,i+1,k,n,hi,hj,h=>by
  have h0:zAI e.key k=true:=hj 0 (by omega)
  rw [zNY,if_pos h0,yBb r i k n (by simpa using hi) (fun j hjj=>by have:=hj (j+1) (by omega);simpa using this) (by
   rcases h with h|h
   ·exact .inl (by simpa using h)
   ·exact .inr (by simpa using h))]
  rfl
theorem yBc:∀ (es:List Ent) (i:Nat) (k:Key) (n:Int),i < es.length→(∀ j,j < i→zAI (es.getD j default).key k=true)→(es.getD i default).key=k→zNY es k n=es.set i ⟨(es.getD i default).kind,(es.getD i default).name,(es.getD i default).nodes++[n]⟩
 |[],i,k,n,hi,_,_=>by simp at hi
 |e::r,0,k,n,_,_,h=>by
  have h1:e.key=k:=h
  rw [zNY,if_neg (by rw [h1,zBf];decide),if_neg (by rw [h1,zBf];decide)];rfl
 |e::r,i+1,k,n,hi,hj,h=>by
  have h0:zAI e.key k=true:=hj 0 (by omega)
  rw [zNY,if_pos h0,yBc r i k n (by simpa using hi) (fun j hjj=>by have:=hj (j+1) (by omega);simpa using this) (by simpa using h)]
  rfl
theorem yFt (es:List Ent) (k:Key) (n:Int):(zNY es k n).length≤es.length+1:=by
 induction es with
 |nil=>simp [zNY]
 |cons e r ih=>
  rw [zNY]
  split
  ·simpa using ih
  ·split<;>simp
theorem yCo (ps:List (Key×Int)):(zBL ps).length≤ps.length:=by
 have:∀ (ps:List (Key×Int)) (l:List Ent),(ps.foldl (fun l p=>zNY l p.1 p.2) l).length≤l.length+ps.length:=by
  intro ps
  induction ps with
  |nil=>intro l;simp
  |cons p r ih=>
   intro l
   have h1:=yFt l p.1 p.2
   have:=ih (zNY l p.1 p.2)
   rw [List.foldl_cons,List.length_cons]
   omega
 have:=this ps []
 simpa [zBL] using this
theorem yAd (ps:List (Key×Int)) {e:Ent} (h:e∈zBL ps):e.nodes.length≤ps.length:=by
 have:=((zE7 ps.length ps rfl).2 e).1 h
 rw [this.2]
 unfold zAF
 rw [List.length_map]
 exact List.length_filter_le _ _
def zYn (t:Nat) (e:Ent):List OV:=[.p (bI e.kind),.p (bS e.name),zJt t e.nodes]
def ovT (t:Nat) (es:List Ent):List (List OV):=es.map (zYn t)
theorem zDw (t:Nat) (es:List Ent):(ovT t es).length=es.length:=by simp [ovT]
theorem zQY (t:Nat) (es:List Ent) (i:Nat) (h:i < es.length):(ovT t es).getD i []=zYn t (es.getD i default):=by simp [ovT,h]
variable [Glob]
theorem yDV (t:Nat) (e:Ent):zRa (zYn t e)=some [bI e.kind,bS e.name,.sl 1 (zAS e.nodes)]:=by
 have:(zJt t e.nodes).frz=some (.sl 1 (zAS e.nodes)):=by
  have e1:(e.nodes.map fun n=>[OV.p (bI n)])=(zAS e.nodes).map fun r=>r.map OV.p:=by simp [zAS]
  unfold zJt
  rw [e1]
  exact zWD (zHy _)
 simp only [zYn,zRa,OV.frz,this]
theorem zQZ (t:Nat):∀ (es:List Ent),zDE (ovT t es)=some (es.map fun e=>[bI e.kind,bS e.name,.sl 1 (zAS e.nodes)])
 |[]=>rfl
 |e::es=>by
  have ih:=zQZ t es
  unfold ovT at ih ⊢
  simp only [List.map_cons,zDE,yDV,ih]
theorem zYo (t:Nat) (es:List Ent) (i:Nat) (hi:i≤es.length) (z r:List OV):(zCZ i (ovT t es++[z])).set i r=ovT t (es.take i)++r::ovT t (es.drop i):=by
 have hl:(List.take i (ovT t es++[z])).length=i:=by rw [List.length_take,List.length_append,zDw];simp;omega
 have h1:List.take i (ovT t es++[z])=ovT t (es.take i):=by
  rw [List.take_append_of_le_length (by rw [zDw];exact hi)]
  simp [ovT]
 have h2:(List.drop i (ovT t es++[z])).dropLast=ovT t (es.drop i):=by
  rw [List.drop_append_of_le_length (by rw [zDw];exact hi),List.dropLast_concat]
  simp [ovT]
 unfold zCZ
 rw [List.append_assoc,List.set_append_right _ _ (by rw [hl];exact Nat.le_refl _),hl,Nat.sub_self,h1,h2]
 rfl
theorem zYp (t:Nat) (es:List Ent) (i:Nat) (hi:i≤es.length) (z:List OV):(zCZ i (ovT t es++[z])).length=es.length+1:=by
 unfold zCZ
 simp only [List.length_append,List.length_take,List.length_cons,List.length_nil,List.length_dropLast,List.length_drop,zDw]
 omega
end Go.Hx
end

section
/-
 THE ABSTRACT LAYER: a contract out of the code of a function that is handed an owned tree and gives one zYP. Generic over the program. No condition.
-/
namespace Go.Hx
open Go.RowKit
variable [Glob]
variable {P:Program} {E:Env}
end Go.Hx
end
