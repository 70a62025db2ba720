/-
 Words of a text: parted at blanks, or found where they stand. Plain Lean. No condition.
-/
import Derived.Test.YtjnagiaooecklaaGreatDoorG11
import Derived.Lib.SplitLaws
set_option linter.all false
namespace Go.Hx
open Go.Lib
variable [Glob]
theorem zXV (t:Bys):∀ s:Bys,t.isPrefixOf s=true↔t.length≤s.length∧s.take t.length=t:=by
 induction t with
 |nil=>intro s;simp
 |cons x t ih=>
  intro s
  cases s with
  |nil=>simp
  |cons c r=>
   rw [List.isPrefixOf_cons₂,Bool.and_eq_true,ih r]
   simp only [beq_iff_eq,List.length_cons,List.take_succ_cons,List.cons.injEq]
   constructor
   ·rintro ⟨rfl,h1,h2⟩;exact ⟨by omega,rfl,h2⟩
   ·rintro ⟨h1,rfl,h2⟩;exact ⟨rfl,by omega,h2⟩
theorem zN1 (s t:Bys) (i:Nat):zBY s t i=(decide (i+t.length≤s.length)&&occAt s t i):=by
 rw [Bool.eq_iff_iff]
 unfold zBY occAt
 simp only [Bool.and_eq_true,decide_eq_true_eq,zXV,List.length_drop]
 constructor
 ·rintro ⟨⟨_,h1⟩,h2⟩;exact ⟨by omega,by omega,by simpa using h2⟩
 ·rintro ⟨h1,_,h2⟩;exact ⟨⟨by omega,by omega⟩,by simpa using h2⟩
theorem yAo (s t:Bys) (ht:t≠[]):Lib.contains s t=(List.range s.length).any fun i=>zBY s t i:=by
 have hl:0 < t.length:=List.length_pos_iff.2 ht
 unfold Lib.contains
 rw [Bool.eq_iff_iff,List.any_eq_true]
 simp only [decide_eq_true_eq,List.mem_range]
 rcases index_spec s t with ⟨h1,h2⟩|⟨i,h1,h2,h3,h4⟩
 ·rw [h1]
  constructor
  ·intro h;omega
  ·rintro ⟨j,hj,h⟩
   rw [zN1,h2 j (by omega)] at h
   simp at h
 ·rw [h1]
  constructor
  ·intro _
   have:i+t.length≤s.length:=by
    unfold occAt at h3
    have:=((zXV t _).1 h3).1
    rw [List.length_drop] at this
    omega
   exact ⟨i,by omega,by rw [zN1,h3];simp [this]⟩
  ·intro _;omega
def zBt:Bys→List Bys
 |[]=>[[]]
 |c::r=>if c=32 then []::zBt r else match zBt r with|w::ws=>(c::w)::ws|[]=>[[c]]
theorem zMU:∀ s:Bys,∃ w ws,zBt s=w::ws
 |[]=>⟨[],[],rfl⟩
 |c::r=>by
  unfold zBt
  split
  ·exact ⟨_,_,rfl⟩
  ·obtain ⟨w,ws,h⟩:=zMU r
   rw [h];exact ⟨_,_,rfl⟩
theorem zXW:∀ {s:Bys},(∀ c∈s,c≠32)→zBt s=[s]
 |[],_=>rfl
 |c::r,h=>by
  unfold zBt
  rw [if_neg (h c (by simp)),zXW fun x hx=>h x (by simp [hx])]
theorem yAp:∀ {a r:Bys},(∀ c∈a,c≠32)→zBt (a++32::r)=a::zBt r
 |[],r,_=>by rw [List.nil_append,zBt,if_pos rfl]
 |c::a,r,h=>by
  rw [List.cons_append,zBt,if_neg (h c (by simp)),yAp fun x hx=>h x (by simp [hx])]
theorem zUU {s:Bys} (h:index s [32]=-1):∀ c∈s,c≠32:=by
 intro c hc e
 subst e
 obtain ⟨j,hj,he⟩:=List.getElem_of_mem hc
 rcases index_spec s [32] with ⟨_,h2⟩|⟨i,h1,_⟩
 ·have:=h2 j (by omega)
  unfold occAt at this
  have h3:([32]:Bys).isPrefixOf (s.drop j)=true:=by
   rw [List.drop_eq_getElem_cons hj,he];simp
  rw [h3] at this;cases this
 ·omega
theorem zUV {s:Bys} {i:Nat} (h:index s [32]=i):(∀ c∈s.take i,c≠32)∧s=s.take i++32::s.drop (i+1):=by
 rcases index_spec s [32] with ⟨h1,_⟩|⟨k,h1,h2,h3,h4⟩
 ·omega
 ·have:k=i:=by omega
  subst this
  have hk:k < s.length:=by
   unfold occAt at h3
   have:=((zXV [32] _).1 h3).1
   simp at this;omega
  have hs:s.drop k=32::s.drop (k+1):=by
   unfold occAt at h3
   rw [List.drop_eq_getElem_cons hk,List.isPrefixOf_cons₂,Bool.and_eq_true] at h3
   have h6:s[k]=32:=(by simpa using h3.1:32=s[k]).symm
   rw [List.drop_eq_getElem_cons hk,h6]
  refine ⟨fun c hc e=>?_,?_⟩
  ·subst e
   obtain ⟨j,hj,he⟩:=List.getElem_of_mem hc
   rw [List.length_take] at hj
   rw [List.getElem_take] at he
   have:=h4 j (by omega)
   unfold occAt at this
   have h5:([32]:Bys).isPrefixOf (s.drop j)=true:=by
    rw [List.drop_eq_getElem_cons (by omega),he];simp
   rw [h5] at this;cases this
  ·rw [←hs,List.take_append_drop]
theorem zRQ:∀ (k:Nat) (s:Bys),s.count 32≤k→splitK [32] 0 k s=zBt s
 |0,s,h=>by
  rw [splitK,zXW]
  intro c hc e
  subst e
  have:=List.count_pos_iff.2 hc
  omega
 |k+1,s,h=>by
  rw [splitK]
  by_cases hi:index s [32]=-1
  ·rw [hi,zXW (zUU hi)];rfl
  ·obtain ⟨i,hix⟩:∃ i:Nat,index s [32]=i:=⟨(index s [32]).toNat,by have:=index_ge s [32];omega⟩
   obtain ⟨h1,h2⟩:=zUV hix
   rw [if_neg (by simpa using hi),hix]
   simp only [Int.toNat_natCast,List.length_singleton,Nat.add_zero]
   have h3:(s.drop (i+1)).count 32≤k:=by
    have h4:=congrArg (List.count 32) h2
    rw [List.count_append,List.count_cons_self] at h4
    omega
   rw [zRQ k _ h3]
   conv=>rhs;rw [h2]
   rw [yAp h1]
def wA:Bys→Bys→Bool
 |s,[]=>match s with|[]=>true|c::_=>decide (c=32)
 |[],_::_=>false
 |c::r,x::t=>decide (c=x)&&wA r t
theorem yJN:∀ (s t:Bys),wA s t=true↔t.isPrefixOf s=true∧(t.length=s.length∨s.getD t.length 0=32)
 |[],[]=>by simp [wA]
 |c::r,[]=>by simp [wA]
 |[],x::t=>by simp [wA]
 |c::r,x::t=>by
  rw [wA,Bool.and_eq_true,yJN r t,List.isPrefixOf_cons₂]
  simp only [decide_eq_true_eq,Bool.and_eq_true,beq_iff_eq,List.length_cons,List.getD_cons_succ,Nat.add_right_cancel_iff]
  constructor
  ·rintro ⟨rfl,h1,h2⟩;exact ⟨⟨rfl,h1⟩,h2⟩
  ·rintro ⟨⟨rfl,h1⟩,h2⟩;exact ⟨rfl,h1,h2⟩
def wQ:Bys→Bys→Bool
 |[],_=>false
 |c::r,t=>if c=32 then wA r t||wQ r t else wQ r t
theorem yJO:∀ (s t:Bys),wQ s t=true↔∃ i:Nat,i+1≤s.length∧s.getD i 0=32∧wA (s.drop (i+1)) t=true
 |[],t=>by simp [wQ]
 |c::r,t=>by
  have ih:=yJO r t
  rw [wQ]
  constructor
  ·intro h
   by_cases hc:c=32
   ·rw [if_pos hc,Bool.or_eq_true] at h
    rcases h with h|h
    ·exact ⟨0,by simp,by simpa using hc,by simpa using h⟩
    ·obtain ⟨i,h1,h2,h3⟩:=ih.1 h
     exact ⟨i+1,by simpa using h1,by simpa using h2,by simpa using h3⟩
   ·rw [if_neg hc] at h
    obtain ⟨i,h1,h2,h3⟩:=ih.1 h
    exact ⟨i+1,by simpa using h1,by simpa using h2,by simpa using h3⟩
  ·rintro ⟨i,h1,h2,h3⟩
   cases i with
   |zero=>
    have hc:c=32:=by simpa using h2
    rw [if_pos hc]
    simp only [List.drop_succ_cons,List.drop_zero] at h3
    rw [h3];rfl
   |succ i=>
    have:=ih.2 ⟨i,by simpa using h1,by simpa using h2,by simpa using h3⟩
    rw [this]
    split<;>simp
theorem zFa:∀ (s t:Bys),(∀ c∈t,c≠32)→∀ w ws,zBt s=w::ws→(wA s t=true↔t=w)∧(wQ s t=true↔t∈ws)
 |[],t,ht,w,ws,h=>by
  cases h
  cases t with
  |nil=>simp [wA,wQ]
  |cons x t=>simp [wA,wQ]
 |c::r,t,ht,w,ws,h=>by
  obtain ⟨w',ws',h'⟩:=zMU r
  rw [zBt,h'] at h
  by_cases hc:c=32
  ·rw [if_pos hc] at h
   cases h
   obtain ⟨i1,i2⟩:=zFa r t ht w' ws' h'
   constructor
   ·cases t with
    |nil=>simp [wA,hc]
    |cons x t=>
     have:=ht x (by simp)
     simp only [wA,Bool.and_eq_true,decide_eq_true_eq]
     constructor
     ·rintro ⟨rfl,_⟩;exact (this hc).elim
     ·intro e;cases e
   ·rw [wQ,if_pos hc,Bool.or_eq_true,i1,i2,List.mem_cons]
  ·rw [if_neg hc] at h
   obtain ⟨rfl,rfl⟩:=List.cons.inj h
   constructor
   ·cases t with
    |nil=>simp [wA,hc]
    |cons x t=>
     obtain ⟨i1,_⟩:=zFa r t (fun y hy=>ht y (by simp [hy])) w' ws' h'
     simp only [wA,Bool.and_eq_true,decide_eq_true_eq,i1,List.cons.injEq]
     constructor
     ·rintro ⟨rfl,h9⟩;exact ⟨rfl,h9⟩
     ·rintro ⟨rfl,h9⟩;exact ⟨rfl,h9⟩
   ·obtain ⟨_,i2⟩:=zFa r t ht w' ws' h'
    rw [wQ,if_neg hc,i2]
theorem zUW:∀ (s w:Bys),w∈zBt s→∀ c∈w,c≠32
 |[],w,h=>by simp [zBt] at h;subst h;simp
 |c::r,w,h=>by
  obtain ⟨w',ws',h'⟩:=zMU r
  have ih:=zUW r
  rw [zBt] at h
  by_cases hc:c=32
  ·rw [if_pos hc,List.mem_cons] at h
   rcases h with rfl|h
   ·simp
   ·exact ih w h
  ·rw [if_neg hc,h',List.mem_cons] at h
   rcases h with rfl|h
   ·intro x hx
    rw [List.mem_cons] at hx
    rcases hx with rfl|hx
    ·exact hc
    ·exact ih w' (by rw [h'];simp) x hx
   ·exact ih w (by rw [h'];simp [h])
theorem zN2 (s t:Bys) (i:Nat):(i < s.length+1∧yD0 s t i=true)↔(i≤s.length∧(i=0∨s.getD (i-1) 0=32)∧wA (s.drop i) t=true):=by
 unfold yD0
 simp only [Bool.and_eq_true,Bool.or_eq_true,decide_eq_true_eq]
 rw [yJN,zN1]
 simp only [Bool.and_eq_true,decide_eq_true_eq,List.length_drop]
 have hg:(s.drop i).getD t.length 0=s.getD (i+t.length) 0:=by simp
 rw [hg]
 unfold occAt
 constructor
 ·rintro ⟨h0,⟨⟨h1,h2⟩,h3⟩,h4⟩
  exact ⟨by omega,h3,h2,by rcases h4 with h4|h4;exact .inl (by omega);exact .inr h4⟩
 ·rintro ⟨h0,h3,h2,h4⟩
  have h5:=((zXV t _).1 h2).1
  rw [List.length_drop] at h5
  exact ⟨by omega,⟨⟨by omega,h2⟩,h3⟩,by rcases h4 with h4|h4;exact .inl (by omega);exact .inr h4⟩
theorem yFu (s t:Bys) (ht:t≠[]):((zBt s).any fun w=>decide (w=t))=yID s t:=by
 obtain ⟨w,ws,h⟩:=zMU s
 rw [Bool.eq_iff_iff,List.any_eq_true]
 unfold yID
 simp only [decide_eq_true_eq,Bool.and_eq_true,Bool.not_eq_true',decide_eq_false_iff_not,List.all_eq_true,List.any_eq_true,List.mem_range]
 have hex:(∃ i,i < s.length+1∧yD0 s t i=true)↔wA s t=true∨wQ s t=true:=by
  rw [yJO]
  constructor
  ·rintro ⟨i,h1⟩
   obtain ⟨h2,h3,h4⟩:=(zN2 s t i).1 h1
   cases i with
   |zero=>exact .inl h4
   |succ i=>exact .inr ⟨i,h2,by simpa using h3,h4⟩
  ·rintro (h1|⟨i,h1,h2,h3⟩)
   ·exact ⟨0,(zN2 s t 0).2 ⟨by omega,.inl rfl,h1⟩⟩
   ·exact ⟨i+1,(zN2 s t (i+1)).2 ⟨h1,.inr (by simpa using h2),h3⟩⟩
 rw [hex]
 constructor
 ·rintro ⟨x,hx,rfl⟩
  have hn:=zUW s x hx
  obtain ⟨j1,j2⟩:=zFa s x hn w ws h
  refine ⟨⟨ht,hn⟩,?_⟩
  rw [h,List.mem_cons] at hx
  rcases hx with hx|hx
  ·exact .inl (j1.2 hx)
  ·exact .inr (j2.2 hx)
 ·rintro ⟨⟨_,hn⟩,hd⟩
  obtain ⟨j1,j2⟩:=zFa s t hn w ws h
  refine ⟨t,?_,rfl⟩
  rw [h,List.mem_cons]
  rcases hd with hd|hd
  ·exact .inl (j1.1 hd)
  ·exact .inr (j2.1 hd)
end Go.Hx
