/-
 Lists of paths in memory when some of their cells are overwritten. No condition.
-/
import Derived.Test.YtjnagiaooecklabGreatDoorG12
import Derived.Test.YtjnagiaooecklabGreatDoorG10
set_option linter.all false
namespace Go.Hx
section
variable {m m':Mem}
theorem ySs {A:Option Addr} {l c:Nat} {u':Value} (h:lk (.slice A l c) u'):u'=.slice A l c∨u'=.slice none 0 0:=by
 rcases h with h|⟨_,_,h,_⟩|⟨_,_,h,_⟩|⟨_,_,_,_,h⟩
 ·exact .inl h
 ·cases h
 ·cases h
 ·exact .inr h
theorem yXt {s:ByteArray} {u':Value} (h:lk (.string s) u') (hf:zFI (.string s)=true):∃ t,u'=.string t∧zFI u'=true:=by
 rcases h with rfl|⟨_,t,_,rfl,h⟩|⟨_,_,h,_⟩|⟨_,_,_,h,_⟩
 ·exact ⟨s,rfl,hf⟩
 ·exact ⟨t,rfl,h⟩
 ·cases h
 ·cases h
theorem yXu {n:Int} {u':Value} (h:lk (.int .i64 n) u'):∃ k,u'=.int .i64 k:=by
 rcases h with rfl|⟨_,_,h,_⟩|⟨_,k,_,rfl⟩|⟨_,_,_,h,_⟩
 ·exact ⟨n,rfl⟩
 ·cases h
 ·exact ⟨k,rfl⟩
 ·cases h
theorem yXv {k:Nat}:Rp m (.sl k []) (.slice none 0 0):=by
 simp only [Rp];exact ⟨none,0,rfl,Nat.le_refl _,Nat.zero_le _,.inl trivial⟩
theorem ySt {α:Type} {f:α→List PV} {k:Nat} {l:List α} {u:Value} (hk:∀ x,(f x).length=k) (hr:∀ x∈l,∀ b o,RpAt m b o (f x)→∃ y,RpAt m' b o (f y)) (h:Rp m (.sl k (l.map f)) u):∃ l':List α,l'.length=l.length∧Rp m' (.sl k (l'.map f)) u:=by
 simp only [Rp] at h
 obtain ⟨A,c,h1,h2,h3,h4⟩:=h
 rw [List.length_map] at h1 h2
 rcases h4 with h4|⟨b,o,h5,h6⟩
 ·rw [List.map_eq_nil_iff] at h4
  subst h4
  exact ⟨[],rfl,by simp only [Rp];exact ⟨A,c,h1,h2,h3,.inl rfl⟩⟩
 ·have key:∀ (l:List α) (o:Nat),(∀ x∈l,∀ b o,RpAt m b o (f x)→∃ y,RpAt m' b o (f y))→RpRows m b k o (l.map f)→∃ l':List α,l'.length=l.length∧RpRows m' b k o (l'.map f):=by
   intro l
   induction l with
   |nil=>intro o _ _;exact ⟨[],rfl,by simp only [List.map_nil,RpRows]⟩
   |cons x l ih=>
    intro o ha hp
    simp only [List.map_cons,RpRows] at hp
    obtain ⟨⟨p1,p2⟩,p3⟩:=hp
    obtain ⟨y,hy⟩:=ha x List.mem_cons_self b o p2
    obtain ⟨l',q1,q2⟩:=ih (o+k) (fun z hz=>ha z (List.mem_cons_of_mem _ hz)) p3
    exact ⟨y::l',by simp [q1],by simp only [List.map_cons,RpRows];exact ⟨⟨hk y,hy⟩,q2⟩⟩
  obtain ⟨l',q1,q2⟩:=key l o hr h6
  exact ⟨l',q1,by simp only [Rp];rw [List.length_map,q1];exact ⟨A,c,h1,h2,h3,.inr ⟨b,o,h5,q2⟩⟩⟩
theorem yGn {α:Type} {f:α→List PV} {k:Nat} {l:List α} {u u':Value} (hl:lk u u') (h:Rp m (.sl k (l.map f)) u) (hv:∃ l':List α,l'.length=l.length∧Rp m' (.sl k (l'.map f)) u):∃ l':List α,Rp m' (.sl k (l'.map f)) u':=by
 simp only [Rp] at h
 obtain ⟨A,c,h1,_⟩:=h
 rw [h1] at hl
 rcases ySs hl with rfl|rfl
 ·obtain ⟨l',_,h2⟩:=hv
  rw [h1] at h2
  exact ⟨l',h2⟩
 ·exact ⟨[],yXv⟩
theorem yQD {l:Bys} {u u':Value} (hl:lk u u') (h:Rp m (bS l) u):∃ l',Rp m' (bS l') u':=by
 simp only [Rp] at h
 obtain ⟨rfl,hf⟩:=h
 obtain ⟨t,rfl,ht⟩:=yXt hl hf
 have e:mkS (bys t)=.string t:=by cases t with|mk d=>simp [mkS,bys]
 exact ⟨bys t,by simp only [Rp];rw [e];exact ⟨rfl,ht⟩⟩
theorem yM0 {n:Int} {u u':Value} (hl:lk u u') (h:Rp m (bI n) u):∃ k,Rp m' (bI k) u':=by
 simp only [Rp] at h
 obtain ⟨rfl,_⟩:=h
 obtain ⟨k,rfl⟩:=yXu hl
 exact ⟨k,by simp only [Rp];exact ⟨trivial,rfl⟩⟩
variable (hu:∀ b o u,m b o=some u→∃ u',m' b o=some u'∧lk u u')
include hu
theorem yVe (l:List Int) (u:Value) (h:Rp m (.sl 1 (zAM l)) u):∃ l':List Int,l'.length=l.length∧Rp m' (.sl 1 (zAM l')) u:=by
 refine ySt (f:=fun n=>[bI n]) (fun _=>rfl) (fun x _ b o hx=>?_) h
 simp only [RpAt] at hx
 obtain ⟨⟨u0,h1,h2⟩,_⟩:=hx
 obtain ⟨u1,k1,k2⟩:=hu b o u0 h1
 obtain ⟨n,hn⟩:=yM0 (m':=m') k2 h2
 exact ⟨n,by simp only [RpAt];exact ⟨⟨u1,k1,hn⟩,trivial⟩⟩
theorem zTH:∀ (N:Nat) (l:List Pt),SizeOf.sizeOf l≤N→∀ u,Rp m (.sl 2 (zBx l)) u→∃ l':List Pt,l'.length=l.length∧Rp m' (.sl 2 (zBx l')) u
 |0,l,hN,u,h=>by cases l<;>simp at hN
 |N+1,l,hN,u,h=>by
  have ih:=zTH N
  rw [zDq] at h
  have hts:∀ t:Ts,SizeOf.sizeOf t≤N+1→∀ b o,RpAt m b o (tsV t)→∃ t':Ts,RpAt m' b o (tsV t'):=by
   intro t ht b o hx
   rw [zA1] at hx
   simp only [RpAt] at hx
   obtain ⟨⟨u0,a0,b0⟩,⟨u1,a1,b1⟩,⟨u2,a2,b2⟩,⟨u3,a3,b3⟩,⟨u4,a4,b4⟩,⟨u5,a5,b5⟩,_⟩:=hx
   obtain ⟨w0,c0,d0⟩:=hu _ _ _ a0
   obtain ⟨w1,c1,d1⟩:=hu _ _ _ a1
   obtain ⟨w2,c2,d2⟩:=hu _ _ _ a2
   obtain ⟨w3,c3,d3⟩:=hu _ _ _ a3
   obtain ⟨w4,c4,d4⟩:=hu _ _ _ a4
   obtain ⟨w5,c5,d5⟩:=hu _ _ _ a5
   obtain ⟨x0,e0⟩:=yM0 (m':=m') d0 b0
   obtain ⟨x1,e1⟩:=yQD (m':=m') d1 b1
   obtain ⟨x2,e2⟩:=yQD (m':=m') d2 b2
   obtain ⟨x3,e3⟩:=yM0 (m':=m') d3 b3
   obtain ⟨x4,e4⟩:=yM0 (m':=m') d4 b4
   have b5':=b5
   rw [zDq] at b5'
   obtain ⟨x5,e5⟩:=yGn (m':=m') d5 b5' (by
    obtain ⟨l',q1,q2⟩:=ih t.list (by have:=zER t;omega) u5 b5
    exact ⟨l',q1,by rw [←zDq];exact q2⟩)
   exact ⟨.mk x0 x1 x2 x3 x4 x5,by rw [tsV];simp only [RpAt];exact ⟨⟨w0,c0,e0⟩,⟨w1,c1,e1⟩,⟨w2,c2,e2⟩,⟨w3,c3,e3⟩,⟨w4,c4,e4⟩,⟨w5,c5,by rw [zDq];exact e5⟩,trivial⟩⟩
  have hst:∀ s:St,SizeOf.sizeOf s≤N+1→∀ b o,RpAt m b o (stV s)→∃ s':St,RpAt m' b o (stV s'):=by
   intro s hs b o hx
   rw [zBg] at hx
   simp only [RpAt] at hx
   obtain ⟨⟨u0,a0,b0⟩,⟨u1,a1,b1⟩,_⟩:=hx
   obtain ⟨w0,c0,d0⟩:=hu _ _ _ a0
   obtain ⟨w1,c1,d1⟩:=hu _ _ _ a1
   obtain ⟨x0,e0⟩:=yQD (m':=m') d0 b0
   rw [zEV] at b1
   obtain ⟨x1,e1⟩:=yGn (m':=m') d1 b1 (ySt (fun t=>by rw [zA1];rfl) (fun t ht b o hx=>hts t (by
    have h1:=List.sizeOf_lt_of_mem ht
    have h2:=zDr s
    omega) b o hx) b1)
   exact ⟨.mk x0 x1,by rw [stV];simp only [RpAt];exact ⟨⟨w0,c0,e0⟩,⟨w1,c1,by rw [zEV];exact e1⟩,trivial⟩⟩
  obtain ⟨l',q1,q2⟩:=ySt (m':=m') (fun p=>by rw [zA2];rfl) (fun p hp b o hx=>by
   rw [zA2] at hx
   simp only [RpAt] at hx
   obtain ⟨⟨u0,a0,b0⟩,⟨u1,a1,b1⟩,_⟩:=hx
   obtain ⟨w0,c0,d0⟩:=hu _ _ _ a0
   obtain ⟨w1,c1,d1⟩:=hu _ _ _ a1
   rw [zEl] at b0
   obtain ⟨x0,e0⟩:=yGn (m':=m') d0 b0 (ySt (fun t=>by rw [zBg];rfl) (fun s hs b o hx=>hst s (by
    have h1:=List.sizeOf_lt_of_mem hs
    have h2:=zDs p
    have h3:=List.sizeOf_lt_of_mem hp
    omega) b o hx) b0)
   obtain ⟨x1,e1⟩:=yGn (f:=fun n=>[bI n]) (m':=m') d1 b1 (yVe hu p.links u1 b1)
   exact ⟨.mk x0 x1,by rw [ptV];simp only [RpAt];exact ⟨⟨w0,c0,by rw [zEl];exact e0⟩,⟨w1,c1,e1⟩,trivial⟩⟩) h
  exact ⟨l',q1,by rw [zDq];exact q2⟩
end
section
variable {m:Mem}
theorem zYd {k:Nat} {rows:List (List PV)} {u:Value} (h:Rp m (.sl k rows) u):∃ A c,u=.slice A rows.length c:=by
 simp only [Rp] at h
 obtain ⟨A,c,h1,_⟩:=h
 exact ⟨A,c,h1⟩
theorem zDB {m':Mem} {k k':Nat} {r r':List (List PV)} {u:Value} (h:Rp m (.sl k r) u) (h':Rp m' (.sl k' r') u):r'.length=r.length:=by
 obtain ⟨A,c,e⟩:=zYd h
 obtain ⟨A',c',e'⟩:=zYd h'
 rw [e] at e'
 injection e' with _ e' _
 exact e'.symm
theorem yCc {k i:Nat} {rows:List (List PV)} {r:List PV} {u:Value} (h:Rp m (.sl k rows) u) (hi:rows[i]?=some r):∃ b o c,u=.slice (some ⟨b,o,none⟩) rows.length c∧RpAt m b (o+i * k) r:=by
 simp only [Rp] at h
 obtain ⟨A,c,h1,h2,h3,h4⟩:=h
 rcases h4 with h4|⟨b,o,h5,h6⟩
 ·subst h4;simp at hi
 ·exact ⟨b,o,c,by rw [h1,h5],(h6.get i r hi).2⟩
theorem zII {k k':Nat} {p p':PV} {r r':List PV} {R R':List (List PV)} {u:Value} (h:Rp m (.sl k ((p::r)::R)) u) (h':Rp m (.sl k' ((p'::r')::R')) u):∃ w,Rp m p w∧Rp m p' w:=by
 obtain ⟨b,o,c,e,h1⟩:=yCc (i:=0) h rfl
 obtain ⟨b',o',c',e',h1'⟩:=yCc (i:=0) h' rfl
 rw [e] at e'
 injection e' with e1 _ _
 injection e1 with e1
 injection e1 with e1 e2 _
 subst e1
 subst e2
 simp only [Nat.zero_mul,Nat.add_zero,RpAt] at h1 h1'
 obtain ⟨⟨w,a1,a2⟩,_⟩:=h1
 obtain ⟨⟨w',a3,a4⟩,_⟩:=h1'
 rw [a1] at a3
 injection a3 with a3
 subst a3
 exact ⟨w,a2,a4⟩
theorem yGo {α:Type} {f:α→List PV} {k:Nat} {l l':List α} {u:Value} (hr:∀ x∈l,∀ y b o,RpAt m b o (f x)→RpAt m b o (f y)→x=y) (h:Rp m (.sl k (l.map f)) u) (h':Rp m (.sl k (l'.map f)) u):l=l':=by
 have hl:l'.length=l.length:=by have:=zDB h h';simpa using this
 apply List.ext_getElem hl.symm
 intro i h1 h2
 obtain ⟨b,o,c,e,a1⟩:=yCc (i:=i) h (by rw [List.getElem?_map,List.getElem?_eq_getElem h1];rfl)
 obtain ⟨b',o',c',e',a2⟩:=yCc (i:=i) h' (by rw [List.getElem?_map,List.getElem?_eq_getElem h2];rfl)
 rw [e] at e'
 injection e' with e1 _ _
 injection e1 with e1
 injection e1 with e1 e2 _
 subst e1
 subst e2
 exact hr _ (List.getElem_mem h1) _ _ _ a1 a2
theorem yGp {a b:Bys} {u:Value} (h:Rp m (bS a) u) (h':Rp m (bS b) u):a=b:=by
 simp only [Rp] at h h'
 have:=h.1.symm.trans h'.1
 simpa [mkS] using this
theorem zTI {a b:Int} {u:Value} (h:Rp m (bI a) u) (h':Rp m (bI b) u):a=b:=by
 simp only [Rp] at h h'
 have:=h.1.symm.trans h'.1
 simpa using this
theorem yQE {l l':List Int} {u:Value} (h:Rp m (.sl 1 (zAM l)) u) (h':Rp m (.sl 1 (zAM l')) u):l=l':=by
 refine yGo (f:=fun n=>[bI n]) (fun x _ y b o hx hy=>?_) h h'
 simp only [RpAt] at hx hy
 obtain ⟨⟨u0,a1,a2⟩,_⟩:=hx
 obtain ⟨⟨u1,a3,a4⟩,_⟩:=hy
 rw [a1] at a3
 injection a3 with a3
 subst a3
 exact zTI a2 a4
theorem yCd:∀ (N:Nat) (l l':List St),SizeOf.sizeOf l≤N→∀ u,Rp m (.sl 2 (zFG l)) u→Rp m (.sl 2 (zFG l')) u→l=l'
 |0,l,_,hN,u,_,_=>by cases l<;>simp at hN
 |N+1,l,l',hN,u,h,h'=>by
  have ih:=yCd N
  rw [zEl] at h h'
  have hpt:∀ (p p':Pt),SizeOf.sizeOf p≤N→∀ b o,RpAt m b o (ptV p)→RpAt m b o (ptV p')→p=p':=by
   intro p p' hp b o hx hy
   rw [zA2] at hx hy
   simp only [RpAt] at hx hy
   obtain ⟨⟨u0,a0,b0⟩,⟨u1,a1,b1⟩,_⟩:=hx
   obtain ⟨⟨w0,c0,d0⟩,⟨w1,c1,d1⟩,_⟩:=hy
   rw [a0] at c0;injection c0 with c0;subst c0
   rw [a1] at c1;injection c1 with c1;subst c1
   have e1:=ih p.steps p'.steps (by have:=zDs p;omega) _ b0 d0
   have e2:=yQE b1 d1
   cases p;cases p'
   simp only [Pt.steps,Pt.links] at e1 e2
   rw [e1,e2]
  have hts:∀ (t t':Ts),SizeOf.sizeOf t≤N→∀ b o,RpAt m b o (tsV t)→RpAt m b o (tsV t')→t=t':=by
   intro t t' ht b o hx hy
   rw [zA1] at hx hy
   simp only [RpAt] at hx hy
   obtain ⟨⟨u0,a0,b0⟩,⟨u1,a1,b1⟩,⟨u2,a2,b2⟩,⟨u3,a3,b3⟩,⟨u4,a4,b4⟩,⟨u5,a5,b5⟩,_⟩:=hx
   obtain ⟨⟨w0,c0,d0⟩,⟨w1,c1,d1⟩,⟨w2,c2,d2⟩,⟨w3,c3,d3⟩,⟨w4,c4,d4⟩,⟨w5,c5,d5⟩,_⟩:=hy
   rw [a0] at c0;injection c0 with c0;subst c0
   rw [a1] at c1;injection c1 with c1;subst c1
   rw [a2] at c2;injection c2 with c2;subst c2
   rw [a3] at c3;injection c3 with c3;subst c3
   rw [a4] at c4;injection c4 with c4;subst c4
   rw [a5] at c5;injection c5 with c5;subst c5
   have e0:=zTI b0 d0
   have e1:=yGp b1 d1
   have e2:=yGp b2 d2
   have e3:=zTI b3 d3
   have e4:=zTI b4 d4
   rw [zDq] at b5 d5
   have e5:=yGo (fun p hp y b o hx hy=>hpt p y (by
    have h1:=List.sizeOf_lt_of_mem hp
    have h2:=zER t
    omega) b o hx hy) b5 d5
   cases t;cases t'
   simp only [Ts.kind,Ts.name,Ts.value,Ts.na,Ts.nb,Ts.list] at e0 e1 e2 e3 e4 e5
   rw [e0,e1,e2,e3,e4,e5]
  refine yGo (fun s hs y b o hx hy=>?_) h h'
  rw [zBg] at hx hy
  simp only [RpAt] at hx hy
  obtain ⟨⟨u0,a0,b0⟩,⟨u1,a1,b1⟩,_⟩:=hx
  obtain ⟨⟨w0,c0,d0⟩,⟨w1,c1,d1⟩,_⟩:=hy
  rw [a0] at c0;injection c0 with c0;subst c0
  rw [a1] at c1;injection c1 with c1;subst c1
  have e0:=yGp b0 d0
  rw [zEV] at b1 d1
  have e1:=yGo (fun t ht y b o hx hy=>hts t y (by
   have h1:=List.sizeOf_lt_of_mem ht
   have h2:=zDr s
   have h3:=List.sizeOf_lt_of_mem hs
   omega) b o hx hy) b1 d1
  cases s;cases y
  simp only [St.tag,St.tests] at e0 e1
  rw [e0,e1]
theorem yM1 {l:Bys} {n:Int} {w:Value} (h:Rp m (bS l) w) (h':Rp m (bI n) w):False:=by
 simp only [Rp] at h h'
 have:=h.1.symm.trans h'.1
 simp [mkS] at this
theorem zTJ {l:Bys} {k:Nat} {r:List (List PV)} {w:Value} (h:Rp m (bS l) w) (h':Rp m (.sl k r) w):False:=by
 obtain ⟨A,c,e⟩:=zYd h'
 simp only [Rp] at h
 have:=h.1.symm.trans e
 simp [mkS] at this
theorem zOs {n:Int} {k:Nat} {r:List (List PV)} {w:Value} (h:Rp m (bI n) w) (h':Rp m (.sl k r) w):False:=by
 obtain ⟨A,c,e⟩:=zYd h'
 simp only [Rp] at h
 have:=h.1.symm.trans e
 simp at this
theorem yGq {S:List St} {T:List Ts} {u:Value} (h:Rp m (.sl 2 (zFG S)) u) (h':Rp m (.sl 6 (zCJ T)) u) (hT:0 < T.length):False:=by
 have hl:=zDB h h'
 rw [zAO,zAQ] at hl
 obtain ⟨s,S,rfl⟩:=List.exists_cons_of_length_pos (l:=S) (by omega)
 obtain ⟨t,T,rfl⟩:=List.exists_cons_of_length_pos hT
 rw [zFG,zBg] at h
 rw [zCJ,zA1] at h'
 obtain ⟨w,a1,a2⟩:=zII h h'
 exact yM1 a1 a2
theorem zOt {S:List St} {T:List Pt} {u:Value} (h:Rp m (.sl 2 (zFG S)) u) (h':Rp m (.sl 2 (zBx T)) u) (hT:0 < T.length):False:=by
 have hl:=zDB h h'
 rw [zAO,zAD] at hl
 obtain ⟨s,S,rfl⟩:=List.exists_cons_of_length_pos (l:=S) (by omega)
 obtain ⟨t,T,rfl⟩:=List.exists_cons_of_length_pos hT
 rw [zFG,zBg] at h
 rw [zBx,zA2] at h'
 obtain ⟨w,a1,a2⟩:=zII h h'
 exact zTJ a1 a2
theorem yGr {S:List Ts} {T:List Pt} {u:Value} (h:Rp m (.sl 6 (zCJ S)) u) (h':Rp m (.sl 2 (zBx T)) u) (hS:0 < S.length):False:=by
 have hl:=zDB h h'
 rw [zAQ,zAD] at hl
 obtain ⟨s,S,rfl⟩:=List.exists_cons_of_length_pos hS
 obtain ⟨t,T,rfl⟩:=List.exists_cons_of_length_pos (l:=T) (by simp at hl hS ⊢;omega)
 rw [zCJ,zA1] at h
 rw [zBx,zA2] at h'
 obtain ⟨w,a1,a2⟩:=zII h h'
 exact zOs a1 a2
theorem yM2 (l:List Int):(zAM l).length=l.length:=by simp [zAM]
theorem yBb {S:List St} {T:List Int} {u:Value} (h:Rp m (.sl 2 (zFG S)) u) (h':Rp m (.sl 1 (zAM T)) u) (hS:0 < S.length):False:=by
 have hl:=zDB h h'
 rw [zAO,yM2] at hl
 obtain ⟨s,S,rfl⟩:=List.exists_cons_of_length_pos hS
 obtain ⟨t,T,rfl⟩:=List.exists_cons_of_length_pos (l:=T) (by simp at hl hS ⊢;omega)
 rw [zFG,zBg] at h
 obtain ⟨w,a1,a2⟩:=zII h h'
 exact yM1 a1 a2
theorem yBc {S:List Pt} {T:List Int} {u:Value} (h:Rp m (.sl 2 (zBx S)) u) (h':Rp m (.sl 1 (zAM T)) u) (hS:0 < S.length):False:=by
 have hl:=zDB h h'
 rw [zAD,yM2] at hl
 obtain ⟨s,S,rfl⟩:=List.exists_cons_of_length_pos hS
 obtain ⟨t,T,rfl⟩:=List.exists_cons_of_length_pos (l:=T) (by simp at hl hS ⊢;omega)
 rw [zBx,zA2] at h
 obtain ⟨w,a1,a2⟩:=zII h h'
 exact zOs a2 a1
end
section
variable {m m':Mem}
theorem yXw {α:Type} [Inhabited α] {f:α→List PV} {k i:Nat} {l l':List α} {u:Value} (h:Rp m (.sl k (l.map f)) u) (h':Rp m' (.sl k (l'.map f)) u) (hi:i < l.length):∃ b o,RpAt m b o (f (l.getD i default))∧RpAt m' b o (f (l'.getD i default)):=by
 have hl:l'.length=l.length:=by have:=zDB h h';simpa using this
 have hi':i < l'.length:=by omega
 obtain ⟨b,o,c,e,a1⟩:=yCc (i:=i) h (r:=f (l.getD i default)) (by rw [List.getElem?_map,List.getElem?_eq_getElem hi,List.getD_eq_getElem?_getD,List.getElem?_eq_getElem hi];rfl)
 obtain ⟨b',o',c',e',a2⟩:=yCc (i:=i) h' (r:=f (l'.getD i default)) (by rw [List.getElem?_map,List.getElem?_eq_getElem hi',List.getD_eq_getElem?_getD,List.getElem?_eq_getElem hi'];rfl)
 rw [e] at e'
 injection e' with e1 _ _
 injection e1 with e1
 injection e1 with e1 e2 _
 subst e1
 subst e2
 exact ⟨_,_,a1,a2⟩
theorem zK0 {xs xs':List PV} {b o c b0 o0:Nat} {vs:List Value} {p p':PV} (h:RpAt m b o xs) (h':RpAt (yI0 m b0 o0 vs) b o xs') (hc:xs[c]?=some p) (hc':xs'[c]?=some p') (hn:∀ v,m b (o+c)=some v→Rp m p v→¬ (b=b0∧o0≤o+c∧o+c < o0+vs.length)):∃ v,Rp m p v∧Rp (yI0 m b0 o0 vs) p' v:=by
 obtain ⟨v,h1,h2⟩:=h.get c p hc
 obtain ⟨v',h3,h4⟩:=h'.get c p' hc'
 have:=hn v h1 h2
 unfold yI0 at h3
 rw [if_neg this,h1] at h3
 injection h3 with h3
 subst h3
 exact ⟨v,h2,h4⟩
theorem yQF {b0 o0:Nat} {us vs:List Value} (hm:∀ i u,us[i]?=some u→m b0 (o0+i)=some u) (hl:us.length=vs.length) (hk:∀ (i:Nat) (u v:Value),us[i]?=some u→vs[i]?=some v→lk u v):∀ b o u,m b o=some u→∃ u',yI0 m b0 o0 vs b o=some u'∧lk u u':=by
 intro g q v hq
 unfold yI0
 by_cases hc:g=b0∧o0≤q∧q < o0+vs.length
 ·rw [if_pos hc]
  obtain ⟨rfl,a1,a2⟩:=hc
  have a3:q-o0 < us.length:=by omega
  have a4:=hm (q-o0) _ (List.getElem?_eq_getElem a3)
  rw [show o0+(q-o0)=q by omega,hq] at a4
  injection a4 with a4
  have a5:q-o0 < vs.length:=by omega
  exact ⟨vs[q-o0],List.getElem?_eq_getElem a5,hk (q-o0) v _ (by rw [List.getElem?_eq_getElem a3,a4]) (List.getElem?_eq_getElem a5)⟩
 ·rw [if_neg hc]
  exact ⟨v,hq,.inl rfl⟩
theorem yOS {L:List Pt} {i k j q:Nat} (hi:i < L.length) (hk:k < (L.getD i default).steps.length) (hj:j < ((L.getD i default).steps.getD k default).tests.length) (hq:q < (((L.getD i default).steps.getD k default).tests.getD j default).list.length)
  (b0 o0:Nat) (u:Value) (us vs:List Value) (hm:∀ i u,us[i]?=some u→m b0 (o0+i)=some u) (h1:RpL m (ptV ((((L.getD i default).steps.getD k default).tests.getD j default).list.getD q default)) us) (h2:RpL m [.nl 2,.nl 1] vs) (h3:Rp m (.sl 2 (zBx L)) u):
  ∃ x',(∃ L':List Pt,x'=.sl 2 (zBx L')∧L'.length=L.length∧(L'.getD i default).steps.length=(L.getD i default).steps.length∧((L'.getD i default).steps.getD k default).tests.length=((L.getD i default).steps.getD k default).tests.length∧(((L'.getD i default).steps.getD k default).tests.getD j default).list.length=(((L.getD i default).steps.getD k default).tests.getD j default).list.length)∧Rp (yI0 m b0 o0 vs) x' u:=by
 obtain ⟨P,hP⟩:∃ P,P=L.getD i default:=⟨_,rfl⟩
 rw [←hP] at hk hj hq h1 ⊢
 obtain ⟨S,hS⟩:∃ S,S=P.steps.getD k default:=⟨_,rfl⟩
 rw [←hS] at hj hq h1 ⊢
 obtain ⟨T,hT⟩:∃ T,T=S.tests.getD j default:=⟨_,rfl⟩
 rw [←hT] at hq h1 ⊢
 obtain ⟨Q,hQ⟩:∃ Q,Q=T.list.getD q default:=⟨_,rfl⟩
 rw [←hQ] at h1
 have hsz:SizeOf.sizeOf Q.steps < SizeOf.sizeOf P.steps:=by
  have a1:=zUt hk
  have a2:=zUs hj
  have a3:=zUu hq
  rw [←hS] at a1
  rw [←hT] at a2
  rw [←hQ] at a3
  have a4:=zDr S
  have a5:=zER T
  have a6:=zDs Q
  omega
 rw [zA2] at h1
 simp only [RpL] at h1 h2
 obtain ⟨z0,_,rfl,g0,z1,_,rfl,g1,rfl⟩:=h1
 obtain ⟨y0,_,rfl,e0,y1,_,rfl,e1,rfl⟩:=h2
 simp only [Rp] at e0 e1
 subst e0
 subst e1
 have m0:m b0 o0=some z0:=by have:=hm 0 z0 rfl;rwa [Nat.add_zero] at this
 have m1:m b0 (o0+1)=some z1:=hm 1 z1 rfl
 have hu:=yQF (vs:=[.slice none 0 0,.slice none 0 0]) hm rfl (fun i u v hu hv=>by
  match i with
  |0=>
   simp at hu hv;subst hu;subst hv
   obtain ⟨A,c,e⟩:=zYd g0
   exact .inr (.inr (.inr ⟨_,_,_,e,rfl⟩))
  |1=>
   simp at hu hv;subst hu;subst hv
   obtain ⟨A,c,e⟩:=zYd g1
   exact .inr (.inr (.inr ⟨_,_,_,e,rfl⟩))
  |i+2=>simp at hu)
 obtain ⟨L',hL,h4⟩:=zTH hu _ L (Nat.le_refl _) u h3
 refine ⟨_,⟨L',rfl,hL,?_⟩,h4⟩
 rw [zDq] at h3 h4
 obtain ⟨b,o,a1,a2⟩:=yXw h3 h4 hi
 rw [←hP,zA2] at a1
 rw [zA2] at a2
 obtain ⟨v1,c1,c2⟩:=zK0 (c:=0) a1 a2 rfl rfl (fun v hv hr hc=>by
  obtain ⟨rfl,c1,c2⟩:=hc
  simp only [List.length_cons,List.length_nil] at c2
  rcases Nat.lt_or_ge (o+0) (o0+1) with c3|c3
  ·have:o+0=o0:=by omega
   rw [this,m0] at hv
   injection hv with hv
   subst hv
   have:=yCd _ _ _ (Nat.le_refl _) _ hr g0
   rw [this] at hsz
   omega
  ·have:o+0=o0+1:=by omega
   rw [this,m1] at hv
   injection hv with hv
   subst hv
   exact yBb hr g1 (by omega))
 have l1:=zDB c1 c2
 rw [zAO,zAO] at l1
 refine ⟨l1,?_⟩
 rw [zEl] at c1 c2
 obtain ⟨b,o,a1,a2⟩:=yXw c1 c2 hk
 rw [←hS,zBg] at a1
 rw [zBg] at a2
 obtain ⟨v2,c1,c2⟩:=zK0 (c:=1) a1 a2 rfl rfl (fun v hv hr hc=>by
  obtain ⟨rfl,c1,c2⟩:=hc
  simp only [List.length_cons,List.length_nil] at c2
  rcases Nat.lt_or_ge (o+1) (o0+1) with c3|c3
  ·have:o+1=o0:=by omega
   rw [this,m0] at hv
   injection hv with hv
   subst hv
   exact yGq g0 hr (by omega)
  ·have:o=o0:=by omega
   simp only [RpAt] at a1
   obtain ⟨⟨w,d1,d2⟩,_⟩:=a1
   rw [this,m0] at d1
   injection d1 with d1
   subst d1
   exact zTJ d2 g0)
 have l2:=zDB c1 c2
 rw [zAQ,zAQ] at l2
 refine ⟨l2,?_⟩
 rw [zEV] at c1 c2
 obtain ⟨b,o,a1,a2⟩:=yXw c1 c2 hj
 rw [←hT,zA1] at a1
 rw [zA1] at a2
 obtain ⟨v3,c1,c2⟩:=zK0 (c:=5) a1 a2 rfl rfl (fun v hv hr hc=>by
  obtain ⟨rfl,c1,c2⟩:=hc
  simp only [List.length_cons,List.length_nil] at c2
  rcases Nat.lt_or_ge (o+5) (o0+1) with c3|c3
  ·have:o+5=o0:=by omega
   rw [this,m0] at hv
   injection hv with hv
   subst hv
   exact zOt g0 hr (by omega)
  ·have:o+5=o0+1:=by omega
   rw [this,m1] at hv
   injection hv with hv
   subst hv
   exact yBc hr g1 (by omega))
 have l3:=zDB c1 c2
 rw [zAD,zAD] at l3
 exact l3
theorem yOT {L:List Pt} {i k j:Nat} (hi:i < L.length) (hk:k < (L.getD i default).steps.length) (hj:j < ((L.getD i default).steps.getD k default).tests.length)
  (b0 o0:Nat) (u:Value) (us vs:List Value) (hm:∀ i u,us[i]?=some u→m b0 (o0+i)=some u) (h1:RpL m (tsV (((L.getD i default).steps.getD k default).tests.getD j default)) us) (h2:RpL m [bI 0,bS [],bS [],bI 0,bI 0,.nl 2] vs) (h3:Rp m (.sl 2 (zBx L)) u):
  ∃ x',(∃ L':List Pt,x'=.sl 2 (zBx L')∧L'.length=L.length∧(L'.getD i default).steps.length=(L.getD i default).steps.length∧((L'.getD i default).steps.getD k default).tests.length=((L.getD i default).steps.getD k default).tests.length)∧Rp (yI0 m b0 o0 vs) x' u:=by
 obtain ⟨P,hP⟩:∃ P,P=L.getD i default:=⟨_,rfl⟩
 rw [←hP] at hk hj h1 ⊢
 obtain ⟨S,hS⟩:∃ S,S=P.steps.getD k default:=⟨_,rfl⟩
 rw [←hS] at hj h1 ⊢
 obtain ⟨T,hT⟩:∃ T,T=S.tests.getD j default:=⟨_,rfl⟩
 rw [←hT] at h1
 rw [zA1] at h1
 simp only [RpL] at h1 h2
 obtain ⟨z0,_,rfl,g0,z1,_,rfl,g1,z2,_,rfl,g2,z3,_,rfl,g3,z4,_,rfl,g4,z5,_,rfl,g5,rfl⟩:=h1
 obtain ⟨y0,_,rfl,e0,y1,_,rfl,e1,y2,_,rfl,e2,y3,_,rfl,e3,y4,_,rfl,e4,y5,_,rfl,e5,rfl⟩:=h2
 have mz:∀ t v,[z0,z1,z2,z3,z4,z5][t]?=some v→m b0 (o0+t)=some v:=hm
 have hu:=yQF (vs:=[y0,y1,y2,y3,y4,y5]) hm rfl (fun i u v hu hv=>by
  simp only [Rp] at g0 g1 g2 g3 g4 e0 e1 e2 e3 e4 e5
  match i with
  |0=>simp at hu hv;subst hu;subst hv;exact .inr (.inr (.inl ⟨_,_,g0.1,e0.1⟩))
  |1=>simp at hu hv;subst hu;subst hv;exact .inr (.inl ⟨_,_,g1.1,e1.1,by rw [e1.1];exact e1.2⟩)
  |2=>simp at hu hv;subst hu;subst hv;exact .inr (.inl ⟨_,_,g2.1,e2.1,by rw [e2.1];exact e2.2⟩)
  |3=>simp at hu hv;subst hu;subst hv;exact .inr (.inr (.inl ⟨_,_,g3.1,e3.1⟩))
  |4=>simp at hu hv;subst hu;subst hv;exact .inr (.inr (.inl ⟨_,_,g4.1,e4.1⟩))
  |5=>
   simp at hu hv;subst hu;subst hv
   obtain ⟨A,c,e⟩:=zYd g5
   exact .inr (.inr (.inr ⟨_,_,_,e,e5⟩))
  |i+6=>simp at hu)
 have hat:∀ (c:Nat) (v:Value) (k:Nat) (r:List (List PV)),m b0 c=some v→Rp m (.sl k r) v→o0≤c→c < o0+6→Rp m (.sl 2 (zBx T.list)) v:=by
  intro c v k r hv hr h6 h7
  obtain ⟨t,rfl⟩:∃ t,c=o0+t:=⟨c-o0,by omega⟩
  match t,h7 with
  |0,_=>have:=mz 0 z0 rfl;rw [this] at hv;injection hv with hv;subst hv;exact (zOs g0 hr).elim
  |1,_=>have:=mz 1 z1 rfl;rw [this] at hv;injection hv with hv;subst hv;exact (zTJ g1 hr).elim
  |2,_=>have:=mz 2 z2 rfl;rw [this] at hv;injection hv with hv;subst hv;exact (zTJ g2 hr).elim
  |3,_=>have:=mz 3 z3 rfl;rw [this] at hv;injection hv with hv;subst hv;exact (zOs g3 hr).elim
  |4,_=>have:=mz 4 z4 rfl;rw [this] at hv;injection hv with hv;subst hv;exact (zOs g4 hr).elim
  |5,_=>have:=mz 5 z5 rfl;rw [this] at hv;injection hv with hv;subst hv;exact g5
  |t+6,h=>omega
 obtain ⟨L',hL,h4⟩:=zTH hu _ L (Nat.le_refl _) u h3
 refine ⟨_,⟨L',rfl,hL,?_⟩,h4⟩
 rw [zDq] at h3 h4
 obtain ⟨b,o,a1,a2⟩:=yXw h3 h4 hi
 rw [←hP,zA2] at a1
 rw [zA2] at a2
 obtain ⟨v1,c1,c2⟩:=zK0 (c:=0) a1 a2 rfl rfl (fun v hv hr hc=>by
  obtain ⟨rfl,c1,c2⟩:=hc
  exact zOt hr (hat _ _ _ _ hv hr c1 c2) (by
   have:=zDB hr (hat _ _ _ _ hv hr c1 c2)
   rw [zAO,zAD] at this
   omega))
 have l1:=zDB c1 c2
 rw [zAO,zAO] at l1
 refine ⟨l1,?_⟩
 rw [zEl] at c1 c2
 obtain ⟨b,o,a1,a2⟩:=yXw c1 c2 hk
 rw [←hS,zBg] at a1
 rw [zBg] at a2
 obtain ⟨v2,c1,c2⟩:=zK0 (c:=1) a1 a2 rfl rfl (fun v hv hr hc=>by
  obtain ⟨rfl,c1,c2⟩:=hc
  exact yGr hr (hat _ _ _ _ hv hr c1 c2) (by omega))
 have l2:=zDB c1 c2
 rw [zAQ,zAQ] at l2
 exact l2
theorem yQG {L:List Pt} {n k:Int} (b0 o0:Nat) (u:Value) (us vs:List Value) (hm:∀ i u,us[i]?=some u→m b0 (o0+i)=some u) (h1:RpL m [bI n] us) (h2:RpL m [bI k] vs) (h3:Rp m (.sl 2 (zBx L)) u):
  ∃ x',(∃ L':List Pt,x'=.sl 2 (zBx L')∧L'.length=L.length)∧Rp (yI0 m b0 o0 vs) x' u:=by
 simp only [RpL] at h1 h2
 obtain ⟨z0,_,rfl,g0,rfl⟩:=h1
 obtain ⟨y0,_,rfl,e0,rfl⟩:=h2
 have hu:=yQF (vs:=[y0]) hm rfl (fun i u v hu hv=>by
  simp only [Rp] at g0 e0
  match i with
  |0=>simp at hu hv;subst hu;subst hv;exact .inr (.inr (.inl ⟨_,_,g0.1,e0.1⟩))
  |i+1=>simp at hu)
 obtain ⟨L',hL,h4⟩:=zTH hu _ L (Nat.le_refl _) u h3
 exact ⟨_,⟨L',rfl,hL⟩,h4⟩
end
end Go.Hx
