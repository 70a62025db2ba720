/-
 THE ABSTRACT LAYER: kinds of cells; what is of its kind stays so when cells are overwritten by such of their kind. Generic over the program. No condition.
-/
import Derived.Test.YtjnagiaooecklabGreatDoorG9
set_option linter.all false
namespace Go.Hx
open Go.RowKit
inductive Sh where
 |str
 |int
 |sl (k:Nat) (row:List Sh)
 |sla
 deriving Inhabited
def yZe (u:Value):Prop:=∃ A l c,u=.slice A l c
mutual
def zAR:Sh→PV→Prop
 |.str,x=>∃ s,x=.v (.string s)
 |.int,x=>∃ n,x=.v (.int .i64 n)
 |.sl k row,x=>∃ rows,x=.sl k rows∧rows.length≤maxLen∧∀ r∈rows,zCj row r
 |.sla,x=>x=.w yZe .any
def zCj:List Sh→List PV→Prop
 |[],l=>l=[]
 |s::ss,l=>∃ x xs,l=x::xs∧zAR s x∧zCj ss xs
end
def lk (u u':Value):Prop:=u'=u∨(∃ s t,u=.string s∧u'=.string t∧zFI u'=true)∨(∃ a b,u=.int .i64 a∧u'=.int .i64 b)∨(∃ A l c,u=.slice A l c∧u'=.slice none 0 0)
def ySr:PV→PV→Prop
 |.sl _ r,.sl _ r'=>r'.length=r.length
 |_,_=>True
theorem yZf {m m':Mem} {s:Sh} {x:PV} {u u':Value} (h1:zAR s x) (g2:Rp m x u) (k2:lk u u') (hv:∃ x',zAR s x'∧Rp m' x' u):∃ x',zAR s x'∧Rp m' x' u':=by
 rcases k2 with rfl|⟨s0,t,rfl,rfl,ht⟩|⟨a0,b0,rfl,rfl⟩|⟨A,l,c,rfl,rfl⟩
 ·exact hv
 ·cases s with
  |str=>exact ⟨.v (.string t),by simp only [zAR];exact ⟨t,rfl⟩,by simp only [Rp];exact ⟨trivial,ht⟩⟩
  |int=>simp only [zAR] at h1;obtain ⟨n,rfl⟩:=h1;simp only [Rp] at g2;exact absurd g2.1 (by simp)
  |sl k row=>simp only [zAR] at h1;obtain ⟨rows,rfl,_⟩:=h1;simp only [Rp] at g2;obtain ⟨A,c,e,_⟩:=g2;cases e
  |sla=>simp only [zAR] at h1;subst h1;simp only [Rp] at g2;obtain ⟨A,l,c,e⟩:=g2.1;cases e
 ·cases s with
  |str=>simp only [zAR] at h1;obtain ⟨n,rfl⟩:=h1;simp only [Rp] at g2;exact absurd g2.1 (by simp)
  |int=>exact ⟨.v (.int .i64 b0),by simp only [zAR];exact ⟨b0,rfl⟩,by simp only [Rp];exact ⟨trivial,rfl⟩⟩
  |sl k row=>simp only [zAR] at h1;obtain ⟨rows,rfl,_⟩:=h1;simp only [Rp] at g2;obtain ⟨A,c,e,_⟩:=g2;cases e
  |sla=>simp only [zAR] at h1;subst h1;simp only [Rp] at g2;obtain ⟨A,l,c,e⟩:=g2.1;cases e
 ·cases s with
  |str=>simp only [zAR] at h1;obtain ⟨n,rfl⟩:=h1;simp only [Rp] at g2;exact absurd g2.1 (by simp)
  |int=>simp only [zAR] at h1;obtain ⟨n,rfl⟩:=h1;simp only [Rp] at g2;exact absurd g2.1 (by simp)
  |sl k row=>exact ⟨.sl k [],by simp only [zAR];exact ⟨[],rfl,Nat.zero_le _,fun r hr=>by cases hr⟩,by simp only [Rp];exact ⟨none,0,rfl,Nat.le_refl _,Nat.zero_le _,.inl trivial⟩⟩
  |sla=>exact ⟨.w yZe .any,by simp only [zAR],by simp only [Rp];exact ⟨⟨none,0,0,rfl⟩,rfl⟩⟩
section
variable {m m':Mem}
mutual
theorem yTc (hu:∀ b o u,m b o=some u→∃ u',m' b o=some u'∧lk u u'):∀ (s:Sh) (x:PV) (u:Value),zAR s x→Rp m x u→∃ x',(zAR s x'∧ySr x x')∧Rp m' x' u
 |.str,x,u,h,g=>by
  simp only [zAR] at h
  obtain ⟨s,rfl⟩:=h
  simp only [Rp] at g
  exact ⟨.v (.string s),⟨by simp only [zAR];exact ⟨s,rfl⟩,trivial⟩,by simp only [Rp];exact g⟩
 |.int,x,u,h,g=>by
  simp only [zAR] at h
  obtain ⟨n,rfl⟩:=h
  simp only [Rp] at g
  exact ⟨.v (.int .i64 n),⟨by simp only [zAR];exact ⟨n,rfl⟩,trivial⟩,by simp only [Rp];exact g⟩
 |.sla,x,u,h,g=>by
  simp only [zAR] at h
  subst h
  simp only [Rp] at g
  exact ⟨.w yZe .any,⟨by simp only [zAR],trivial⟩,by simp only [Rp];exact g⟩
 |.sl k row,x,u,h,g=>by
  simp only [zAR] at h
  obtain ⟨rows,rfl,hl,hr⟩:=h
  simp only [Rp] at g
  obtain ⟨A,c,h1,h2,h3,h4⟩:=g
  rcases h4 with h4|⟨b,o,h5,h6⟩
  ·subst h4
   exact ⟨.sl k [],⟨by simp only [zAR];exact ⟨[],rfl,hl,fun r hr=>by cases hr⟩,rfl⟩,by simp only [Rp];exact ⟨A,c,h1,h2,h3,.inl trivial⟩⟩
  ·have key:∀ (rows:List (List PV)) (o:Nat),(∀ r∈rows,zCj row r)→RpRows m b k o rows→∃ rows':List (List PV),rows'.length=rows.length∧(∀ r∈rows',zCj row r)∧RpRows m' b k o rows':=by
    intro rows
    induction rows with
    |nil=>intro o _ _;exact ⟨[],rfl,fun r hr=>(by cases hr),by simp only [RpRows]⟩
    |cons r rs ih=>
     intro o ha hp
     simp only [RpRows] at hp
     obtain ⟨⟨p1,p2⟩,p3⟩:=hp
     obtain ⟨r',q1,q2,q3⟩:=yXh hu row r b o (ha r List.mem_cons_self) p2
     obtain ⟨rs',q4,q5,q6⟩:=ih (o+k) (fun r hr=>ha r (List.mem_cons_of_mem _ hr)) p3
     refine ⟨r'::rs',by simp [q4],fun z hz=>?_,by simp only [RpRows];exact ⟨⟨q1.trans p1,q3⟩,q6⟩⟩
     rcases List.mem_cons.1 hz with rfl|hz
     ·exact q2
     ·exact q5 z hz
   obtain ⟨rows',q1,q2,q3⟩:=key rows o hr h6
   exact ⟨.sl k rows',⟨by simp only [zAR];exact ⟨rows',rfl,q1▸hl,q2⟩,q1⟩,by simp only [Rp];exact ⟨A,c,by rw [q1];exact h1,by rw [q1];exact h2,h3,.inr ⟨b,o,h5,q3⟩⟩⟩
theorem yXh (hu:∀ b o u,m b o=some u→∃ u',m' b o=some u'∧lk u u'):∀ (ss:List Sh) (xs:List PV) (b o:Nat),zCj ss xs→RpAt m b o xs→∃ xs':List PV,xs'.length=xs.length∧zCj ss xs'∧RpAt m' b o xs'
 |[],xs,b,o,h,g=>by
  simp only [zCj] at h
  subst h
  exact ⟨[],rfl,by simp only [zCj],by simp only [RpAt]⟩
 |s::ss,xs,b,o,h,g=>by
  simp only [zCj] at h
  obtain ⟨x,xs,rfl,h1,h2⟩:=h
  simp only [RpAt] at g
  obtain ⟨⟨u,g1,g2⟩,g3⟩:=g
  obtain ⟨u',k1,k2⟩:=hu b o u g1
  obtain ⟨x0,k5,k6⟩:=yTc hu s x u h1 g2
  obtain ⟨x',k3,k4⟩:=yZf h1 g2 k2 ⟨x0,k5.1,k6⟩
  obtain ⟨xs',q1,q2,q3⟩:=yXh hu ss xs b (o+1) h2 g3
  exact ⟨x'::xs',by simp [q1],by simp only [zCj];exact ⟨x',xs',rfl,k3,q2⟩,by simp only [RpAt];exact ⟨⟨u',k1,k4⟩,q3⟩⟩
end
end
def zOk:List Sh→List PV→Bool
 |[],[]=>true
 |.str::ss,.v (.string _)::r=>zOk ss r
 |.int::ss,.v (.int .i64 _)::r=>zOk ss r
 |.sl _ _::ss,.nl _::r=>zOk ss r
 |.sla::ss,.nl _::r=>zOk ss r
 |_,_=>false
theorem yQA {m:Mem}:∀ {ss:List Sh} {xs ys:List PV} {us vs:List Value},zCj ss xs→RpL m xs us→zOk ss ys=true→RpL m ys vs→us.length=vs.length∧∀ (i:Nat) (u v:Value),us[i]?=some u→vs[i]?=some v→lk u v
 |[],xs,ys,us,vs,h1,h2,h3,h4=>by
  simp only [zCj] at h1
  subst h1
  cases ys with
  |nil=>simp only [RpL] at h2 h4;subst h2;subst h4;exact ⟨rfl,fun i u v hu=>by simp at hu⟩
  |cons y ys=>simp [zOk] at h3
 |s::ss,xs,ys,us,vs,h1,h2,h3,h4=>by
  simp only [zCj] at h1
  obtain ⟨x,xs,rfl,k1,k2⟩:=h1
  simp only [RpL] at h2
  obtain ⟨u0,us,rfl,k3,k4⟩:=h2
  cases ys with
  |nil=>cases s<;>simp [zOk] at h3
  |cons y ys=>
   simp only [RpL] at h4
   obtain ⟨v0,vs,rfl,k5,k6⟩:=h4
   have hz:zOk ss ys=true∧lk u0 v0:=by
    cases s with
    |str=>
     simp only [zAR] at k1
     obtain ⟨s1,rfl⟩:=k1
     cases y with
     |v z=>
      cases z<;>simp only [zOk,Bool.false_eq_true] at h3
      simp only [Rp] at k3 k5
      exact ⟨h3,.inr (.inl ⟨_,_,k3.1,k5.1,by rw [k5.1];exact k5.2⟩)⟩
     |_=>simp [zOk] at h3
    |int=>
     simp only [zAR] at k1
     obtain ⟨s1,rfl⟩:=k1
     cases y with
     |v z=>
      cases z with
      |int kk n=>
       cases kk<;>simp only [zOk,Bool.false_eq_true] at h3
       simp only [Rp] at k3 k5
       exact ⟨h3,.inr (.inr (.inl ⟨_,_,k3.1,k5.1⟩))⟩
      |_=>simp [zOk] at h3
     |_=>simp [zOk] at h3
    |sl k row=>
     simp only [zAR] at k1
     obtain ⟨rows,rfl,_⟩:=k1
     cases y with
     |nl k'=>
      simp only [zOk] at h3
      simp only [Rp] at k3 k5
      obtain ⟨A,c,e,_⟩:=k3
      exact ⟨h3,.inr (.inr (.inr ⟨_,_,_,e,k5⟩))⟩
     |_=>simp [zOk] at h3
    |sla=>
     simp only [zAR] at k1
     subst k1
     cases y with
     |nl k'=>
      simp only [zOk] at h3
      simp only [Rp] at k3 k5
      obtain ⟨A,l,c,e⟩:=k3.1
      exact ⟨h3,.inr (.inr (.inr ⟨_,_,_,e,k5⟩))⟩
     |_=>simp [zOk] at h3
   obtain ⟨q1,q2⟩:=yQA k2 k4 hz.1 k6
   refine ⟨by simp [q1],fun i u v hu hv=>?_⟩
   cases i with
   |zero=>simp at hu hv;subst hu;subst hv;exact hz.2
   |succ i=>exact q2 i u v (by simpa using hu) (by simpa using hv)
theorem yB9 {s:Sh} {x:PV} {ss:List Sh} {cs ys:List PV} (hx:zAR s x) (hc:zCj ss cs) (hz:zOk ss ys=true):∀ (m:Mem) (b o:Nat) (u:Value) (us vs:List Value),(∀ i u,us[i]?=some u→m b (o+i)=some u)→RpL m cs us→RpL m ys vs→Rp m x u→∃ x',(zAR s x'∧ySr x x')∧Rp (yI0 m b o vs) x' u:=by
 intro m b o u us vs hm h1 h2 h3
 obtain ⟨hlen,hlk⟩:=yQA hc h1 hz h2
 refine yTc (m:=m) (fun g q v hq=>?_) s x u hx h3
 unfold yI0
 by_cases hc:g=b∧o≤q∧q < o+vs.length
 ·rw [if_pos hc]
  obtain ⟨rfl,a1,a2⟩:=hc
  have a3:q-o < us.length:=by omega
  have a4:=hm (q-o) _ (List.getElem?_eq_getElem a3)
  rw [show o+(q-o)=q by omega,hq] at a4
  injection a4 with a4
  have a5:q-o < vs.length:=by omega
  exact ⟨vs[q-o],List.getElem?_eq_getElem a5,hlk (q-o) v _ (by rw [List.getElem?_eq_getElem a3,a4]) (List.getElem?_eq_getElem a5)⟩
 ·rw [if_neg hc]
  exact ⟨v,hq,.inl rfl⟩
end Go.Hx
