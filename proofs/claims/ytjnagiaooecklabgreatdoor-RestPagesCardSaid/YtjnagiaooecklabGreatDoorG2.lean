/-
  Walks of functions of the program over an abstract layer, and the laws that they use: each contract says what the function computes, for every input that its conditions let by. No other condition.
-/
import Derived.Test.YtjnagiaooecklabGreatDoorG1
import Derived.Calls
import Derived.Orders
import Derived.Below
import Derived.Laws.OwnMore
import Derived.Maps.AppendAt
import Derived.Deep.AppendLies
import Derived.Great.BuildSlice
set_option linter.all false
section
namespace Go.Hx
open Go.RowKit
inductive PV where
 |v (x:Value)
 |sl (k:Nat) (rows:List (List PV))
 |nl (k:Nat)
 |fp (cs:List PV)
 |clo (f:FuncId) (caps:List PV)
 |any
 |w (φ:Value→Prop) (x:PV)
 deriving Inhabited
abbrev Mem:=Nat→Nat→Option Value
def zFI:Value→Bool
 |.agg _|.tuple _=>false
 |.string s=>decide (s.size≤maxLen)
 |_=>true
theorem zCl {x:Value} (h:zFI x=true):x.oneCell'=true:=by
 cases x<;>simp_all [zFI,Value.oneCell']
mutual
def Rp (m:Mem):PV→Value→Prop
 |.v x,u=>u=x∧zFI x=true
 |.sl k rows,u=>∃ A c,u=.slice A rows.length c∧rows.length≤c∧c≤maxLen∧(rows=[]∨∃ b o,A=some ⟨b,o,none⟩∧RpRows m b k o rows)
 |.nl _,u=>u=.slice none 0 0
 |.fp cs,u=>∃ b o,u=.pointer (some ⟨b,o,none⟩)∧RpAt m b o cs
 |.clo f caps,u=>∃ us:List Value,u=.func (.func f) #[] us.toArray∧RpL m caps us
 |.any,u=>zFI u=true
 |.w φ x,u=>φ u∧Rp m x u
def RpAt (m:Mem) (b:Nat) (o:Nat):List PV→Prop
 |[]=>True
 |x::xs=>(∃ u,m b o=some u∧Rp m x u)∧RpAt m b (o+1) xs
def RpRows (m:Mem) (b:Nat) (k:Nat) (o:Nat):List (List PV)→Prop
 |[]=>True
 |r::rs=>(r.length=k∧RpAt m b o r)∧RpRows m b k (o+k) rs
def RpL (m:Mem):List PV→List Value→Prop
 |[],us=>us=[]
 |x::xs,us=>∃ u us',us=u::us'∧Rp m x u∧RpL m xs us'
end
def Mem.le (m m':Mem):Prop:=∀ b o u,m b o=some u→m' b o=some u
theorem Mem.le_refl (m:Mem):m.le m:=fun _ _ _ h=>h
theorem Mem.le_trans {a b c:Mem} (h:a.le b) (k:b.le c):a.le c:=fun _ _ _ g=>k _ _ _ (h _ _ _ g)
section
variable {m m':Mem}
mutual
theorem Rp.mono (h:m.le m'):∀ (x:PV) (u:Value),Rp m x u→Rp m' x u
 |.v _,_,g=>g
 |.sl k rows,_,g=>by
  obtain ⟨A,c,h1,h2,h3,h4⟩:=g
  refine ⟨A,c,h1,h2,h3,h4.imp id ?_⟩
  rintro ⟨b,o,e,hr⟩
  exact ⟨b,o,e,RpRows.mono h rows b k o hr⟩
 |.nl _,_,g=>g
 |.fp cs,_,g=>by
  obtain ⟨b,o,e,hr⟩:=g
  exact ⟨b,o,e,RpAt.mono h cs b o hr⟩
 |.clo f caps,_,g=>by
  obtain ⟨us,e,hr⟩:=g
  exact ⟨us,e,RpL.mono h caps us hr⟩
 |.any,_,g=>g
 |.w _ x,u,g=>⟨g.1,Rp.mono h x u g.2⟩
theorem RpAt.mono (h:m.le m'):∀ (cs:List PV) (b o:Nat),RpAt m b o cs→RpAt m' b o cs
 |[],_,_,_=>trivial
 |x::xs,b,o,g=>by
  obtain ⟨⟨u,h1,h2⟩,h3⟩:=g
  exact ⟨⟨u,h _ _ _ h1,Rp.mono h x u h2⟩,RpAt.mono h xs b (o+1) h3⟩
theorem RpRows.mono (h:m.le m'):∀ (rows:List (List PV)) (b k o:Nat),RpRows m b k o rows→RpRows m' b k o rows
 |[],_,_,_,_=>trivial
 |r::rs,b,k,o,g=>by
  obtain ⟨⟨h1,h2⟩,h3⟩:=g
  exact ⟨⟨h1,RpAt.mono h r b o h2⟩,RpRows.mono h rs b k (o+k) h3⟩
theorem RpL.mono (h:m.le m'):∀ (cs:List PV) (us:List Value),RpL m cs us→RpL m' cs us
 |[],_,g=>g
 |x::xs,_,g=>by
  obtain ⟨u,us',h1,h2,h3⟩:=g
  exact ⟨u,us',h1,Rp.mono h x u h2,RpL.mono h xs us' h3⟩
end
end
theorem Rp.flat_ {m:Mem}:∀ {x:PV} {u:Value},Rp m x u→zFI u=true
 |.v x,u,h=>by simp only [Rp] at h;rw [h.1];exact h.2
 |.sl k rows,u,h=>by simp only [Rp] at h;obtain ⟨A,c,rfl,_⟩:=h;rfl
 |.nl k,u,h=>by simp only [Rp] at h;subst h;rfl
 |.fp cs,u,h=>by simp only [Rp] at h;obtain ⟨b,o,rfl,_⟩:=h;rfl
 |.clo f caps,u,h=>by simp only [Rp] at h;obtain ⟨us,rfl,_⟩:=h;rfl
 |.any,u,h=>by simpa only [Rp] using h
 |.w φ x,u,h=>by simp only [Rp] at h;exact Rp.flat_ h.2
theorem RpAt.get {m:Mem} {b:Nat}:∀ {cs:List PV} {o:Nat},RpAt m b o cs→∀ (i:Nat) (x:PV),cs[i]?=some x→∃ u,m b (o+i)=some u∧Rp m x u
 |[],_,_,i,x,hx=>by simp at hx
 |y::ys,o,h,i,x,hx=>by
  simp only [RpAt] at h
  cases i with
  |zero=>simp at hx;subst hx;exact h.1
  |succ i=>
   obtain ⟨u,h1,h2⟩:=RpAt.get h.2 i x (by simpa using hx)
   exact ⟨u,by rw [←h1];congr 1;omega,h2⟩
theorem RpAt.of_get {m:Mem} {b:Nat}:∀ {cs:List PV} {o:Nat},(∀ (i:Nat) (x:PV),cs[i]?=some x→∃ u,m b (o+i)=some u∧Rp m x u)→RpAt m b o cs
 |[],_,_=>by simp [RpAt]
 |y::ys,o,h=>by
  simp only [RpAt]
  refine ⟨by simpa using h 0 y rfl,RpAt.of_get fun i x hx=>?_⟩
  obtain ⟨u,h1,h2⟩:=h (i+1) x (by simpa using hx)
  exact ⟨u,by rw [←h1];congr 1;omega,h2⟩
theorem RpAt.sub {m:Mem} {b o:Nat} {cs:List PV} (h:RpAt m b o cs) (i n:Nat):RpAt m b (o+i) ((cs.drop i).take n):=by
 refine RpAt.of_get fun j x hx=>?_
 have h1:cs[i+j]?=some x:=by
  rw [List.getElem?_take] at hx
  split at hx
  ·simpa using hx
  ·cases hx
 obtain ⟨u,h2,h3⟩:=h.get _ _ h1
 exact ⟨u,by rw [←h2];congr 1;omega,h3⟩
theorem RpRows.get {m:Mem} {b k:Nat}:∀ {rows:List (List PV)} {o:Nat},RpRows m b k o rows→∀ (i:Nat) (r:List PV),rows[i]?=some r→r.length=k∧RpAt m b (o+i * k) r
 |[],_,_,i,x,hx=>by simp at hx
 |y::ys,o,h,i,x,hx=>by
  simp only [RpRows] at h
  cases i with
  |zero=>simp at hx;subst hx;simpa using h.1
  |succ i=>
   obtain ⟨h1,h2⟩:=RpRows.get h.2 i x (by simpa using hx)
   refine ⟨h1,?_⟩
   have e:o+(i+1) * k=o+k+i * k:=by rw [Nat.add_mul];omega
   rw [e];exact h2
theorem RpRows.of_get {m:Mem} {b k:Nat}:∀ {rows:List (List PV)} {o:Nat},(∀ (i:Nat) (r:List PV),rows[i]?=some r→r.length=k∧RpAt m b (o+i * k) r)→RpRows m b k o rows
 |[],_,_=>by simp [RpRows]
 |y::ys,o,h=>by
  simp only [RpRows]
  refine ⟨by simpa using h 0 y rfl,RpRows.of_get fun i x hx=>?_⟩
  obtain ⟨h1,h2⟩:=h (i+1) x (by simpa using hx)
  have e:o+(i+1) * k=o+k+i * k:=by rw [Nat.add_mul];omega
  rw [e] at h2
  exact ⟨h1,h2⟩
theorem RpRows.sub {m:Mem} {b k o:Nat} {rows:List (List PV)} (h:RpRows m b k o rows) (i n:Nat):RpRows m b k (o+i * k) ((rows.drop i).take n):=by
 refine RpRows.of_get fun j r hr=>?_
 have h1:rows[i+j]?=some r:=by
  rw [List.getElem?_take] at hr
  split at hr
  ·simpa using hr
  ·cases hr
 obtain ⟨h2,h3⟩:=h.get _ _ h1
 refine ⟨h2,?_⟩
 have e:o+i * k+j * k=o+(i+j) * k:=by rw [Nat.add_mul];omega
 rw [e];exact h3
theorem RpL.length {m:Mem}:∀ {cs:List PV} {us:List Value},RpL m cs us→us.length=cs.length
 |[],us,h=>by simp only [RpL] at h;subst h;rfl
 |x::xs,us,h=>by
  simp only [RpL] at h
  obtain ⟨u,us',rfl,_,h3⟩:=h
  simp [RpL.length h3]
theorem RpL.get {m:Mem}:∀ {cs:List PV} {us:List Value},RpL m cs us→∀ (i:Nat) (x:PV) (u:Value),cs[i]?=some x→us[i]?=some u→Rp m x u
 |[],us,h,i,x,u,hx,_=>by simp at hx
 |y::ys,us,h,i,x,u,hx,hu=>by
  simp only [RpL] at h
  obtain ⟨v,us',rfl,h2,h3⟩:=h
  cases i with
  |zero=>simp at hx hu;subst hx;subst hu;exact h2
  |succ i=>exact RpL.get h3 i x u (by simpa using hx) (by simpa using hu)
theorem RpL.of_get {m:Mem}:∀ {cs:List PV} {us:List Value},us.length=cs.length→(∀ (i:Nat) (x:PV) (u:Value),cs[i]?=some x→us[i]?=some u→Rp m x u)→RpL m cs us
 |[],us,h,_=>by simp only [RpL];exact List.eq_nil_of_length_eq_zero (by simpa using h)
 |y::ys,us,h,g=>by
  simp only [RpL]
  cases us with
  |nil=>simp at h
  |cons u us'=>
   exact ⟨u,us',rfl,g 0 y u rfl rfl,RpL.of_get (by simpa using h) fun i x v hx hv=>g (i+1) x v (by simpa using hx) (by simpa using hv)⟩
theorem RpL.append {m:Mem} {cs ds:List PV} {us vs:List Value} (h:RpL m cs us) (h':RpL m ds vs):RpL m (cs++ds) (us++vs):=by
 refine RpL.of_get (by simp [h.length,h'.length]) fun i x u hx hu=>?_
 rcases Nat.lt_or_ge i cs.length with hi|hi
 ·rw [List.getElem?_append_left hi] at hx
  rw [List.getElem?_append_left (by rw [h.length];exact hi)] at hu
  exact h.get i x u hx hu
 ·rw [List.getElem?_append_right hi] at hx
  rw [List.getElem?_append_right (by rw [h.length];exact hi),h.length] at hu
  exact h'.get _ x u hx hu
theorem RpL.sub {m:Mem} {cs:List PV} {us:List Value} (h:RpL m cs us) (i n:Nat):RpL m ((cs.drop i).take n) ((us.drop i).take n):=by
 have hl:=h.length
 refine RpL.of_get (by simp [hl]) fun j x u hx hu=>?_
 rw [List.getElem?_take] at hx hu
 split at hx
 ·rename_i hj
  rw [if_pos hj] at hu
  exact h.get (i+j) x u (by simpa using hx) (by simpa using hu)
 ·cases hx
theorem RpAt.vals {m:Mem} {b o:Nat} {cs:List PV} (h:RpAt m b o cs):∃ us:List Value,RpL m cs us∧∀ i u,us[i]?=some u→m b (o+i)=some u:=by
 induction cs generalizing o with
 |nil=>exact ⟨[],by simp [RpL],by simp⟩
 |cons x xs ih=>
  simp only [RpAt] at h
  obtain ⟨⟨u,h1,h2⟩,h3⟩:=h
  obtain ⟨us,h4,h5⟩:=ih h3
  refine ⟨u::us,by simp only [RpL];exact ⟨u,us,rfl,h2,h4⟩,fun i v hv=>?_⟩
  cases i with
  |zero=>simp at hv;subst hv;exact h1
  |succ i=>rw [←h5 i v (by simpa using hv)];congr 1;omega
theorem RpL.at_ {m:Mem} {b o:Nat} {cs:List PV} {us:List Value} (h:RpL m cs us) (g:∀ i u,us[i]?=some u→m b (o+i)=some u):RpAt m b o cs:=
 RpAt.of_get fun i x hx=>by
  have hi:i < us.length:=by rw [h.length];exact (List.getElem?_eq_some_iff.1 hx).1
  exact ⟨us[i],g i _ (List.getElem?_eq_getElem hi),h.get i x _ hx (List.getElem?_eq_getElem hi)⟩
theorem RpL.flat_ {m:Mem} {cs:List PV} {us:List Value} (h:RpL m cs us):∀ u∈us,zFI u=true:=by
 intro u hu
 obtain ⟨i,hi⟩:=List.getElem?_of_mem hu
 have hl:i < cs.length:=by rw [←h.length];exact (List.getElem?_eq_some_iff.1 hi).1
 exact (h.get i _ u (List.getElem?_eq_getElem hl) hi).flat_
theorem RpRows.vals {m:Mem} {b k o:Nat} {rows:List (List PV)} (h:RpRows m b k o rows):∃ us:List Value,us.length=rows.length * k∧RpL m rows.flatten us∧∀ i u,us[i]?=some u→m b (o+i)=some u:=by
 induction rows generalizing o with
 |nil=>exact ⟨[],by simp,by simp [RpL],by simp⟩
 |cons r rs ih=>
  simp only [RpRows] at h
  obtain ⟨⟨h1,h2⟩,h3⟩:=h
  obtain ⟨us,h4,h5⟩:=h2.vals
  obtain ⟨vs,h6,h7,h8⟩:=ih h3
  have hl:=h4.length
  refine ⟨us++vs,by simp [hl,h1,h6,Nat.add_mul];omega,by rw [List.flatten_cons];exact h4.append h7,fun i u hu=>?_⟩
  rcases Nat.lt_or_ge i us.length with hi|hi
  ·rw [List.getElem?_append_left hi] at hu
   exact h5 i u hu
  ·rw [List.getElem?_append_right hi] at hu
   rw [←h8 _ u hu];congr 1;omega
theorem RpRows.of_flat {m:Mem} {b k o:Nat} {rows:List (List PV)} {us:List Value} (hk:∀ r∈rows,r.length=k) (h:RpL m rows.flatten us) (g:∀ i u,us[i]?=some u→m b (o+i)=some u):RpRows m b k o rows:=by
 induction rows generalizing o us with
 |nil=>simp [RpRows]
 |cons r rs ih=>
  rw [List.flatten_cons] at h
  have hr:r.length=k:=hk r (by simp)
  have hl:=h.length
  simp only [RpRows]
  have h1:RpL m r (us.take k):=by
   have:=h.sub 0 k
   simp only [List.drop_zero] at this
   rwa [←hr,List.take_left,hr] at this
  have h2:RpL m rs.flatten (us.drop k):=by
   have h3:=h.sub k (us.length-k)
   rw [←hr,List.drop_left,hr] at h3
   rw [List.take_of_length_le (by simp at hl ⊢;omega),List.take_of_length_le (by simp)] at h3
   exact h3
  refine ⟨⟨hr,h1.at_ fun i u hu=>?_⟩,ih (fun x hx=>hk x (by simp [hx])) h2 fun i u hu=>?_⟩
  ·rw [List.getElem?_take] at hu
   split at hu
   ·exact g i u hu
   ·cases hu
  ·rw [List.getElem?_drop] at hu
   rw [←g _ u hu];congr 1;omega
class Glob where
 ok:World→Prop
 n:Nat
 size:∀ w,ok w→n≤w.heap.size
 keep:∀ w w':World,(∀ b,b < n→w'.heap[b]?=w.heap[b]?)→ok w→ok w'
 strict:Bool:=false
class GlobL [Glob]:Prop where
 lax:Glob.strict=false
def UCell [Glob] (w:World) (b o:Nat) (u:Value):Prop:=w.cell? ⟨b,o,none⟩=some u∧(Glob.n≤b→∃ cs T,w.heap[b]?=some (.cells cs T (0,0)))
def MemOk [Glob] (m:Mem) (w:World):Prop:=∀ b o u,m b o=some u→UCell w b o u
section
variable [Glob] {m:Mem} {w w':World} {b o:Nat} {u:Value}
theorem MemOk.c (h:MemOk m w) (b o:Nat) (u:Value) (hu:m b o=some u):w.cell? ⟨b,o,none⟩=some u:=(h b o u hu).1
theorem UCell.block (h:UCell w b o u) (e:w'.heap[b]?=w.heap[b]?):UCell w' b o u:=by
 exact ⟨(World.cell?_of_block e).trans h.1,fun hn=>by rw [e];exact h.2 hn⟩
theorem UCell.of_cells {cs:Array Value} {T:TypeId} (h:w.heap[b]?=some (.cells cs T (0,0))) (hc:w.cell? ⟨b,o,none⟩=some u):UCell w b o u:=by
 exact ⟨hc,fun _=>⟨cs,T,h⟩⟩
theorem UCell.lt (h:UCell w b o u):b < w.heap.size:=World.block_lt_of_cell? w _ h.1
end
end Go.Hx
end

section
namespace Go.Hx
open Go.RowKit
inductive OV where
 |p (x:PV)
 |os (b:Option Nat) (e k:Nat) (rows:List (List OV))
 |hole
 |mp (b:Nat) (ks:List Value) (vs:List OV)
 |it (b n:Nat) (seen:List Nat)
 |bl (T e b:Nat) (bs:List UInt8)
 deriving Inhabited
def byV (l:List UInt8):List Value:=l.map fun b=>Value.int .u8 b.toNat
def blk (u:Value):List Nat:=u.ownBlock.toList
theorem zC0 {u:Value} {g:Nat}:g∈blk u↔u.ownBlock=some g:=by simp [blk]
def zIK:Value→Bool
 |.agg cs=>cs.toList.all zFI
 |x=>zFI x
def zBc (ks us:List Value):Array MapEntry:=((ks.zip us).zipIdx.map fun x=>{key:=x.1.1,val:=x.1.2,born:=x.2}).toArray
mutual
def OvR (m:Mem) (w:World):OV→Value→List Nat→Prop
 |.p x,u,fp=>fp=[]∧Rp m x u
 |.hole,u,fp=>fp=[]∧zFI u=true
 |.os pb e k rows,u,fp=>∃ xs f,w.ownsRow 0 e k u rows.length xs∧OvRows m w k rows xs f∧fp=blk u++f∧∀ b,pb=some b→rows≠[]→u.ownBlock=some b
 |.mp b ks vs,u,fp=>∃ us f,u=.map (some b)∧w.heap[b]?=some (.map (zBc ks us) ks.length)∧us.length=ks.length∧OvL m w vs us f∧fp=b::f∧∀ q∈ks,zIK q=true
 |.it b n seen,u,fp=>∃ g,u=.pointer (some ⟨g,0,none⟩)∧w.heap[g]?=some (.mapIter (some b) n seen.toArray n)∧fp=[g]∧∀ i∈seen,i < n
 |.bl T e b bs,u,fp=>∃ p v,u=.pointer (some ⟨b,0,none⟩)∧w.heap[b]?=some (.cells #[p,v] T (0,0))∧(p=.pointer none∨p=.pointer (some ⟨b,0,none⟩))∧w.ownsRow 0 e 1 v bs.length (byV bs)∧fp=b::blk v
def OvL (m:Mem) (w:World):List OV→List Value→List Nat→Prop
 |[],us,fp=>us=[]∧fp=[]
 |x::xs,us,fp=>∃ u us' f1 f2,us=u::us'∧fp=f1++f2∧OvR m w x u f1∧OvL m w xs us' f2
def OvRows (m:Mem) (w:World) (k:Nat):List (List OV)→List Value→List Nat→Prop
 |[],us,fp=>us=[]∧fp=[]
 |r::rs,us,fp=>∃ us1 us2 f1 f2,us=us1++us2∧fp=f1++f2∧us1.length=k∧r.length=k∧OvL m w r us1 f1∧OvRows m w k rs us2 f2
end
section
variable {m m':Mem} {w w':World}
theorem zJJ {base e size n:Nat} {u:Value} {xs:List Value} (h:w.ownsRow base e size u n xs) (hb:∀ g,u.ownBlock=some g→w'.heap[g]?=w.heap[g]?):w'.ownsRow base e size u n xs:=by
 obtain ⟨h1,h2⟩:=h
 refine ⟨h1,?_⟩
 rcases h2 with h2|⟨g,cap,cur,rfl,hg,hh,r⟩
 ·exact .inl h2
 ·exact .inr ⟨g,cap,cur,rfl,hg,(hb g rfl).trans hh,r⟩
theorem yGy {base e size n:Nat} {u:Value} {xs:List Value} (h:w.ownsRow base e size u n xs):zFI u=true:=by
 rcases h.2 with ⟨rfl,_⟩|⟨g,cap,cur,rfl,_⟩<;>rfl
mutual
theorem OvR.congr (hm:m.le m'):∀ (x:OV) (u:Value) (fp:List Nat),(∀ g∈fp,w'.heap[g]?=w.heap[g]?)→OvR m w x u fp→OvR m' w' x u fp
 |.p x,u,fp,_,h=>by
  simp only [OvR] at h ⊢
  exact ⟨h.1,Rp.mono hm x u h.2⟩
 |.hole,u,fp,_,h=>by simp only [OvR] at h ⊢;exact h
 |.os pb e k rows,u,fp,hw,h=>by
  simp only [OvR] at h ⊢
  obtain ⟨xs,f,h1,h2,rfl,h4⟩:=h
  exact ⟨xs,f,zJJ h1 fun g hg=>hw g (List.mem_append_left _ (zC0.2 hg)),OvRows.congr hm k rows xs f (fun g hg=>hw g (List.mem_append_right _ hg)) h2,rfl,h4⟩
 |.mp b ks vs,u,fp,hw,h=>by
  simp only [OvR] at h ⊢
  obtain ⟨us,f,h1,h2,h3,h4,rfl,h5⟩:=h
  exact ⟨us,f,h1,(hw b List.mem_cons_self).trans h2,h3,OvL.congr hm vs us f (fun g hg=>hw g (List.mem_cons_of_mem _ hg)) h4,rfl,h5⟩
 |.it b n seen,u,fp,hw,h=>by
  simp only [OvR] at h ⊢
  obtain ⟨g,h1,h2,rfl,h4⟩:=h
  exact ⟨g,h1,(hw g List.mem_cons_self).trans h2,rfl,h4⟩
 |.bl T e b bs,u,fp,hw,h=>by
  simp only [OvR] at h ⊢
  obtain ⟨p,v,h1,h2,h3,h4,rfl⟩:=h
  exact ⟨p,v,h1,(hw b List.mem_cons_self).trans h2,h3,zJJ h4 fun g hg=>hw g (List.mem_cons_of_mem _ (zC0.2 hg)),rfl⟩
theorem OvL.congr (hm:m.le m'):∀ (xs:List OV) (us:List Value) (fp:List Nat),(∀ g∈fp,w'.heap[g]?=w.heap[g]?)→OvL m w xs us fp→OvL m' w' xs us fp
 |[],us,fp,_,h=>by simp only [OvL] at h ⊢;exact h
 |x::xs,us,fp,hw,h=>by
  simp only [OvL] at h ⊢
  obtain ⟨u,us',f1,f2,rfl,rfl,h3,h4⟩:=h
  exact ⟨u,us',f1,f2,rfl,rfl,OvR.congr hm x u f1 (fun g hg=>hw g (List.mem_append_left _ hg)) h3,OvL.congr hm xs us' f2 (fun g hg=>hw g (List.mem_append_right _ hg)) h4⟩
theorem OvRows.congr (hm:m.le m') (k:Nat):∀ (rows:List (List OV)) (us:List Value) (fp:List Nat),(∀ g∈fp,w'.heap[g]?=w.heap[g]?)→OvRows m w k rows us fp→OvRows m' w' k rows us fp
 |[],us,fp,_,h=>by simp only [OvRows] at h ⊢;exact h
 |r::rs,us,fp,hw,h=>by
  simp only [OvRows] at h ⊢
  obtain ⟨us1,us2,f1,f2,rfl,rfl,h3,h4,h5,h6⟩:=h
  exact ⟨us1,us2,f1,f2,rfl,rfl,h3,h4,OvL.congr hm r us1 f1 (fun g hg=>hw g (List.mem_append_left _ hg)) h5,OvRows.congr hm k rs us2 f2 (fun g hg=>hw g (List.mem_append_right _ hg)) h6⟩
end
theorem OvR.flat_ {x:OV} {u:Value} {fp:List Nat} (h:OvR m w x u fp):zFI u=true:=by
 cases x with
 |p x=>simp only [OvR] at h;exact h.2.flat_
 |hole=>simp only [OvR] at h;exact h.2
 |os pb e k rows=>simp only [OvR] at h;obtain ⟨xs,f,h1,_⟩:=h;exact yGy h1
 |mp b ks vs=>simp only [OvR] at h;obtain ⟨us,f,rfl,_⟩:=h;rfl
 |it b n seen=>simp only [OvR] at h;obtain ⟨g,rfl,_⟩:=h;rfl
 |bl T e b bs=>simp only [OvR] at h;obtain ⟨p,v,rfl,_⟩:=h;rfl
theorem OvL.length:∀ {xs:List OV} {us:List Value} {fp:List Nat},OvL m w xs us fp→us.length=xs.length
 |[],us,fp,h=>by simp only [OvL] at h;rw [h.1];rfl
 |x::xs,us,fp,h=>by
  simp only [OvL] at h
  obtain ⟨u,us',f1,f2,rfl,rfl,h3,h4⟩:=h
  simp [h4.length]
theorem OvL.flat_:∀ {xs:List OV} {us:List Value} {fp:List Nat},OvL m w xs us fp→∀ u∈us,zFI u=true
 |[],us,fp,h,u,hu=>by simp only [OvL] at h;rw [h.1] at hu;cases hu
 |x::xs,us,fp,h,u,hu=>by
  simp only [OvL] at h
  obtain ⟨v,us',f1,f2,rfl,rfl,h3,h4⟩:=h
  rcases List.mem_cons.1 hu with rfl|hu
  ·exact h3.flat_
  ·exact h4.flat_ u hu
theorem OvL.append:∀ {xs ys:List OV} {us vs:List Value} {f g:List Nat},OvL m w xs us f→OvL m w ys vs g→OvL m w (xs++ys) (us++vs) (f++g)
 |[],ys,us,vs,f,g,h,h'=>by simp only [OvL] at h;obtain ⟨rfl,rfl⟩:=h;exact h'
 |x::xs,ys,us,vs,f,g,h,h'=>by
  simp only [OvL] at h
  obtain ⟨u,us',f1,f2,rfl,rfl,h3,h4⟩:=h
  simp only [List.cons_append,OvL]
  exact ⟨u,us'++vs,f1,f2++g,rfl,by rw [List.append_assoc],h3,h4.append h'⟩
theorem OvL.split:∀ {xs ys:List OV} {us:List Value} {fp:List Nat},OvL m w (xs++ys) us fp→∃ us1 us2 f1 f2,us=us1++us2∧fp=f1++f2∧OvL m w xs us1 f1∧OvL m w ys us2 f2
 |[],ys,us,fp,h=>⟨[],us,[],fp,rfl,rfl,by simp only [OvL];exact ⟨trivial,trivial⟩,h⟩
 |x::xs,ys,us,fp,h=>by
  simp only [List.cons_append,OvL] at h
  obtain ⟨u,us',f1,f2,rfl,rfl,h3,h4⟩:=h
  obtain ⟨a,b,c,d,rfl,rfl,h5,h6⟩:=h4.split
  exact ⟨u::a,b,f1++c,d,rfl,by rw [List.append_assoc],by simp only [OvL];exact ⟨u,a,f1,c,rfl,rfl,h3,h5⟩,h6⟩
theorem zOx {k:Nat}:∀ {rows:List (List OV)} {us:List Value} {fp:List Nat},OvRows m w k rows us fp↔OvL m w rows.flatten us fp∧∀ r∈rows,r.length=k
 |[],us,fp=>by simp [OvRows,OvL]
 |r::rs,us,fp=>by
  simp only [OvRows,List.flatten_cons]
  constructor
  ·rintro ⟨us1,us2,f1,f2,rfl,rfl,h3,h4,h5,h6⟩
   obtain ⟨h7,h8⟩:=zOx.1 h6
   refine ⟨h5.append h7,fun x hx=>?_⟩
   rcases List.mem_cons.1 hx with rfl|hx
   ·exact h4
   ·exact h8 x hx
  ·rintro ⟨h1,h2⟩
   obtain ⟨us1,us2,f1,f2,rfl,rfl,h3,h4⟩:=h1.split
   have hr:=h2 r List.mem_cons_self
   exact ⟨us1,us2,f1,f2,rfl,rfl,by rw [h3.length];exact hr,hr,h3,zOx.2 ⟨h4,fun x hx=>h2 x (List.mem_cons_of_mem _ hx)⟩⟩
theorem zCm {pb:Option Nat} {e k:Nat} {rows:List (List OV)} {u:Value} {fp:List Nat}:OvR m w (.os pb e k rows) u fp↔
  ∃ xs f,w.ownsRow 0 e k u rows.length xs∧OvL m w rows.flatten xs f∧(∀ r∈rows,r.length=k)∧fp=blk u++f∧∀ b,pb=some b→rows≠[]→u.ownBlock=some b:=by
 simp only [OvR,zOx]
 constructor
 ·rintro ⟨xs,f,h1,⟨h2,h3⟩,h4,h5⟩;exact ⟨xs,f,h1,h2,h3,h4,h5⟩
 ·rintro ⟨xs,f,h1,h2,h3,h4,h5⟩;exact ⟨xs,f,h1,⟨h2,h3⟩,h4,h5⟩
mutual
theorem OvR.lt:∀ (x:OV) (u:Value) (fp:List Nat),OvR m w x u fp→∀ g∈fp,g < w.heap.size
 |.p x,u,fp,h,g,hg=>by simp only [OvR] at h;rw [h.1] at hg;cases hg
 |.hole,u,fp,h,g,hg=>by simp only [OvR] at h;rw [h.1] at hg;cases hg
 |.os pb e k rows,u,fp,h,g,hg=>by
  simp only [OvR] at h
  obtain ⟨xs,f,h1,h2,rfl,h4⟩:=h
  rcases List.mem_append.1 hg with hg|hg
  ·exact (h1.lt g (zC0.1 hg)).2
  ·exact OvRows.lt k rows xs f h2 g hg
 |.mp b ks vs,u,fp,h,g,hg=>by
  simp only [OvR] at h
  obtain ⟨us,f,h1,h2,h3,h4,rfl,_⟩:=h
  rcases List.mem_cons.1 hg with rfl|hg
  ·exact (Array.getElem?_eq_some_iff.1 h2).1
  ·exact OvL.lt vs us f h4 g hg
 |.it b n seen,u,fp,h,g,hg=>by
  simp only [OvR] at h
  obtain ⟨g',h1,h2,rfl,_⟩:=h
  obtain rfl:=List.mem_singleton.1 hg
  exact (Array.getElem?_eq_some_iff.1 h2).1
 |.bl T e b bs,u,fp,h,g,hg=>by
  simp only [OvR] at h
  obtain ⟨p,v,h1,h2,h3,h4,rfl⟩:=h
  rcases List.mem_cons.1 hg with rfl|hg
  ·exact (Array.getElem?_eq_some_iff.1 h2).1
  ·exact (h4.lt g (zC0.1 hg)).2
theorem OvL.lt:∀ (xs:List OV) (us:List Value) (fp:List Nat),OvL m w xs us fp→∀ g∈fp,g < w.heap.size
 |[],us,fp,h,g,hg=>by simp only [OvL] at h;rw [h.2] at hg;cases hg
 |x::xs,us,fp,h,g,hg=>by
  simp only [OvL] at h
  obtain ⟨u,us',f1,f2,rfl,rfl,h3,h4⟩:=h
  rcases List.mem_append.1 hg with hg|hg
  ·exact OvR.lt x u f1 h3 g hg
  ·exact OvL.lt xs us' f2 h4 g hg
theorem OvRows.lt (k:Nat):∀ (rows:List (List OV)) (us:List Value) (fp:List Nat),OvRows m w k rows us fp→∀ g∈fp,g < w.heap.size
 |[],us,fp,h,g,hg=>by simp only [OvRows] at h;rw [h.2] at hg;cases hg
 |r::rs,us,fp,h,g,hg=>by
  simp only [OvRows] at h
  obtain ⟨us1,us2,f1,f2,rfl,rfl,h3,h4,h5,h6⟩:=h
  rcases List.mem_append.1 hg with hg|hg
  ·exact OvL.lt r us1 f1 h5 g hg
  ·exact OvRows.lt k rs us2 f2 h6 g hg
end
mutual
def OV.frz:OV→Option PV
 |.p x=>some x
 |.hole=>none
 |.os _ _ k rows=>match zCz rows with|some rs=>some (.sl k rs)|none=>none
 |.mp _ _ _=>none
 |.it _ _ _=>none
 |.bl _ _ _ _=>none
def zOv:List OV→Option (List PV)
 |[]=>some []
 |x::xs=>match x.frz,zOv xs with|some y,some ys=>some (y::ys)|_,_=>none
def zCz:List (List OV)→Option (List (List PV))
 |[]=>some []
 |r::rs=>match zOv r,zCz rs with|some y,some ys=>some (y::ys)|_,_=>none
end
theorem zTK:∀ {xs:List OV} {ys:List PV},zOv xs=some ys→ys.length=xs.length
 |[],ys,h=>by simp only [zOv,Option.some.injEq] at h;rw [←h];rfl
 |x::xs,ys,h=>by
  simp only [zOv] at h
  split at h
  ·rename_i y ys' h1 h2
   injection h with h
   subst h
   simp [zTK h2]
  ·cases h
theorem zLq:∀ {xs:List (List OV)} {ys:List (List PV)},zCz xs=some ys→ys.length=xs.length
 |[],ys,h=>by simp only [zCz,Option.some.injEq] at h;rw [←h];rfl
 |x::xs,ys,h=>by
  simp only [zCz] at h
  split at h
  ·rename_i y ys' h1 h2
   injection h with h
   subst h
   simp [zLq h2]
  ·cases h
variable [Glob]
theorem zTL {e k n:Nat} {u v:Value} {xs:List Value} {w:World} {b o:Nat} (h:w.ownsRow 0 e k u n xs) (hb:u.ownBlock=some b) (hv:xs[o]?=some v):UCell w b o v:=by
 have h1:=h.cells hb o v hv
 have e1:(⟨b,0,none⟩:Addr).add o=⟨b,o,none⟩:=by unfold Addr.add;split<;>simp_all
 rw [e1] at h1
 rcases h.2 with ⟨rfl,_⟩|⟨g,cap,cur,rfl,_,hh,_⟩
 ·simp [Value.ownBlock] at hb
 ·obtain rfl:g=b:=by simpa [Value.ownBlock] using hb
  exact UCell.of_cells hh h1
def Frz (m:Mem) (w:World) (fp:List Nat) (Q:Mem→Prop):Prop:=∃ m',m.le m'∧MemOk m' w∧(∀ g o,g∉fp→m' g o=m g o)∧Q m'
mutual
theorem OvR.freeze (w:World):∀ (x:OV) (m:Mem) (u:Value) (fp:List Nat) (y:PV),OvR m w x u fp→x.frz=some y→MemOk m w→fp.Nodup→(∀ g∈fp,∀ o,m g o=none)→Frz m w fp (fun m'=>Rp m' y u)
 |.p x,m,u,fp,y,h,hy,hm,_,_=>by
  simp only [OvR] at h
  simp only [OV.frz,Option.some.injEq] at hy
  subst hy
  exact ⟨m,m.le_refl,hm,fun _ _ _=>rfl,h.2⟩
 |.hole,m,u,fp,y,h,hy,hm,_,_=>by simp [OV.frz] at hy
 |.mp _ _ _,m,u,fp,y,h,hy,hm,_,_=>by simp [OV.frz] at hy
 |.it _ _ _,m,u,fp,y,h,hy,hm,_,_=>by simp [OV.frz] at hy
 |.bl _ _ _ _,m,u,fp,y,h,hy,hm,_,_=>by simp [OV.frz] at hy
 |.os pb e k rows,m,u,fp,y,h,hy,hm,hn,hf=>by
  simp only [OvR] at h
  obtain ⟨xs,f,h1,h2,rfl,h4⟩:=h
  simp only [OV.frz] at hy
  split at hy
  ·rename_i rs hrs
   injection hy with hy
   subst hy
   rw [List.nodup_append] at hn
   obtain ⟨_,hn2,hn3⟩:=hn
   obtain ⟨m1,g1,g2,g3,g4,g5⟩:=OvRows.freeze w k rows m xs f rs h2 hrs hm hn2 (fun g hg=>hf g (List.mem_append_right _ hg))
   have hout:∀ b,u.ownBlock=some b→∀ o,m1 b o=none:=by
    intro b hb o
    rw [g3 b o (fun hc=>hn3 b (zC0.2 hb) b hc rfl)]
    exact hf b (List.mem_append_left _ (zC0.2 hb)) o
   have hle:m1.le (fun b o=>if u.ownBlock=some b then xs[o]? else m1 b o):=by
    intro b o v hv
    show (if u.ownBlock=some b then xs[o]? else m1 b o)=some v
    rw [if_neg (fun hb=>by rw [hout b hb o] at hv;cases hv)]
    exact hv
   refine ⟨_,Mem.le_trans g1 hle,?_,?_,?_⟩
   ·intro b o v hv
    have hv':(if u.ownBlock=some b then xs[o]? else m1 b o)=some v:=hv
    split at hv'
    ·rename_i hb
     exact zTL h1 hb hv'
    ·exact g2 b o v hv'
   ·intro g o hg
    show (if u.ownBlock=some g then xs[o]? else m1 g o)=m g o
    rw [if_neg (fun hb=>hg (List.mem_append_left _ (zC0.2 hb)))]
    exact g3 g o (fun hc=>hg (List.mem_append_right _ hc))
   ·simp only [Rp]
    have hlen:=zLq hrs
    rcases h1.2 with ⟨rfl,h6⟩|⟨g,cap,cur,rfl,_,hh,h6,h7,_⟩
    ·have:rs=[]:=List.eq_nil_of_length_eq_zero (by omega)
     subst this
     exact ⟨none,0,by simp,Nat.le_refl _,by simp [maxLen],.inl rfl⟩
    ·refine ⟨_,cap,by rw [hlen],by omega,h7,.inr ⟨g,0,rfl,RpRows.of_flat (us:=xs) g5 (RpL.mono hle _ _ g4) fun i v hv=>?_⟩⟩
     show (if (Value.slice (some ⟨g,0,none⟩) rows.length cap).ownBlock=some g then xs[0+i]? else m1 g (0+i))=some v
     rw [if_pos (show (Value.slice (some ⟨g,0,none⟩) rows.length cap).ownBlock=some g from rfl),Nat.zero_add]
     exact hv
  ·cases hy
theorem OvL.freeze (w:World):∀ (xs:List OV) (m:Mem) (us:List Value) (fp:List Nat) (ys:List PV),OvL m w xs us fp→zOv xs=some ys→MemOk m w→fp.Nodup→(∀ g∈fp,∀ o,m g o=none)→Frz m w fp (fun m'=>RpL m' ys us)
 |[],m,us,fp,ys,h,hy,hm,_,_=>by
  simp only [OvL] at h
  simp only [zOv,Option.some.injEq] at hy
  subst hy
  exact ⟨m,m.le_refl,hm,fun _ _ _=>rfl,by simp only [RpL];exact h.1⟩
 |x::xs,m,us,fp,ys,h,hy,hm,hn,hf=>by
  simp only [OvL] at h
  obtain ⟨u,us',f1,f2,rfl,rfl,h3,h4⟩:=h
  simp only [zOv] at hy
  split at hy
  ·rename_i y ys' hy1 hy2
   injection hy with hy
   subst hy
   rw [List.nodup_append] at hn
   obtain ⟨hn1,hn2,hn3⟩:=hn
   obtain ⟨m1,a1,a2,a3,a4⟩:=OvR.freeze w x m u f1 y h3 hy1 hm hn1 (fun g hg=>hf g (List.mem_append_left _ hg))
   have hf2:∀ g∈f2,∀ o,m1 g o=none:=by
    intro g hg o
    rw [a3 g o (fun hc=>hn3 g hc g hg rfl)]
    exact hf g (List.mem_append_right _ hg) o
   obtain ⟨m2,b1,b2,b3,b4⟩:=OvL.freeze w xs m1 us' f2 ys' (OvL.congr a1 xs us' f2 (fun _ _=>rfl) h4) hy2 a2 hn2 hf2
   refine ⟨m2,Mem.le_trans a1 b1,b2,fun g o hg=>?_,?_⟩
   ·rw [b3 g o (fun hc=>hg (List.mem_append_right _ hc)),a3 g o (fun hc=>hg (List.mem_append_left _ hc))]
   ·simp only [RpL]
    exact ⟨u,us',rfl,Rp.mono b1 y u a4,b4⟩
  ·cases hy
theorem OvRows.freeze (w:World) (k:Nat):∀ (rows:List (List OV)) (m:Mem) (us:List Value) (fp:List Nat) (ys:List (List PV)),OvRows m w k rows us fp→zCz rows=some ys→MemOk m w→fp.Nodup→(∀ g∈fp,∀ o,m g o=none)→Frz m w fp (fun m'=>RpL m' ys.flatten us∧∀ r∈ys,r.length=k)
 |[],m,us,fp,ys,h,hy,hm,_,_=>by
  simp only [OvRows] at h
  simp only [zCz,Option.some.injEq] at hy
  subst hy
  exact ⟨m,m.le_refl,hm,fun _ _ _=>rfl,by simp only [List.flatten_nil,RpL];exact ⟨h.1,by simp⟩⟩
 |r::rs,m,us,fp,ys,h,hy,hm,hn,hf=>by
  simp only [OvRows] at h
  obtain ⟨us1,us2,f1,f2,rfl,rfl,h3,h4,h5,h6⟩:=h
  simp only [zCz] at hy
  split at hy
  ·rename_i y ys' hy1 hy2
   injection hy with hy
   subst hy
   rw [List.nodup_append] at hn
   obtain ⟨hn1,hn2,hn3⟩:=hn
   obtain ⟨m1,a1,a2,a3,a4⟩:=OvL.freeze w r m us1 f1 y h5 hy1 hm hn1 (fun g hg=>hf g (List.mem_append_left _ hg))
   have hf2:∀ g∈f2,∀ o,m1 g o=none:=by
    intro g hg o
    rw [a3 g o (fun hc=>hn3 g hc g hg rfl)]
    exact hf g (List.mem_append_right _ hg) o
   obtain ⟨m2,b1,b2,b3,b4,b5⟩:=OvRows.freeze w k rs m1 us2 f2 ys' (OvRows.congr a1 k rs us2 f2 (fun _ _=>rfl) h6) hy2 a2 hn2 hf2
   refine ⟨m2,Mem.le_trans a1 b1,b2,fun g o hg=>?_,?_,?_⟩
   ·rw [b3 g o (fun hc=>hg (List.mem_append_right _ hc)),a3 g o (fun hc=>hg (List.mem_append_left _ hc))]
   ·rw [List.flatten_cons]
    exact (RpL.mono b1 _ _ a4).append b4
   ·intro x hx
    rcases List.mem_cons.1 hx with rfl|hx
    ·rw [zTK hy1];exact h4
    ·exact b5 x hx
  ·cases hy
end
theorem OvL.of_rp:∀ {cs:List PV} {us:List Value},RpL m cs us→OvL m w (cs.map .p) us []
 |[],us,h=>by simp only [RpL] at h;simp only [List.map_nil,OvL];exact ⟨h,trivial⟩
 |x::xs,us,h=>by
  simp only [RpL] at h
  obtain ⟨u,us',rfl,h2,h3⟩:=h
  simp only [List.map_cons,OvL]
  exact ⟨u,us',[],[],rfl,rfl,by simp only [OvR];exact ⟨trivial,h2⟩,OvL.of_rp h3⟩
def OV.get:OV→List (Nat×Nat)→Option OV
 |x,[]=>some x
 |.os _ _ _ rows,(i,c)::pt=>match (rows.getD i [])[c]? with
  |some y=>y.get pt
  |none=>none
 |_,_::_=>none
def OV.upd:OV→List (Nat×Nat)→OV→OV
 |_,[],y=>y
 |.os b e k rows,(i,c)::pt,y=>.os b e k (rows.set i ((rows.getD i []).set c (((rows.getD i []).getD c .hole).upd pt y)))
 |x,_::_,_=>x
theorem OvL.mid {xs ys:List OV} {x:OV} {us:List Value} {fp:List Nat} (h:OvL m w (xs++x::ys) us fp):
  ∃ us1 u us2 f1 fx f2,us=us1++u::us2∧fp=f1++(fx++f2)∧us1.length=xs.length∧OvL m w xs us1 f1∧OvR m w x u fx∧OvL m w ys us2 f2:=by
 obtain ⟨us1,us2,f1,f2,rfl,rfl,h1,h2⟩:=h.split
 simp only [OvL] at h2
 obtain ⟨u,us',g1,g2,rfl,rfl,h3,h4⟩:=h2
 exact ⟨us1,u,us',f1,g1,g2,rfl,rfl,h1.length,h1,h3,h4⟩
theorem OvL.mid_mk {xs ys:List OV} {x:OV} {us1 us2:List Value} {u:Value} {f1 fx f2:List Nat} (h1:OvL m w xs us1 f1) (h2:OvR m w x u fx) (h3:OvL m w ys us2 f2):OvL m w (xs++x::ys) (us1++u::us2) (f1++(fx++f2)):=
 h1.append (by simp only [OvL];exact ⟨u,us2,fx,f2,rfl,rfl,h2,h3⟩)
theorem yGz {α:Type} {k:Nat}:∀ (rows:List (List α)) (i c:Nat) (x:α),(∀ r∈rows,r.length=k)→(rows.getD i [])[c]?=some x→
  ∃ a b,rows.flatten=a++x::b∧a.length=i * k+c∧∀ y,(rows.set i ((rows.getD i []).set c y)).flatten=a++y::b
 |[],i,c,x,_,h=>by simp at h
 |r::rs,0,c,x,hk,h=>by
  have hc:c < r.length:=(List.getElem?_eq_some_iff.1 (by simpa using h)).1
  have hx:r[c]?=some x:=by simpa using h
  have hsplit:r=r.take c++x::r.drop (c+1):=by
   have:=List.take_append_drop c r
   rw [List.drop_eq_getElem_cons hc] at this
   have e:r[c]=x:=by rw [List.getElem?_eq_getElem hc] at hx;exact Option.some.inj hx
   rw [e] at this
   exact this.symm
  refine ⟨r.take c,r.drop (c+1)++rs.flatten,?_,by simp;omega,fun y=>?_⟩
  ·rw [List.flatten_cons]
   conv=>lhs;rw [hsplit]
   simp
  ·simp only [List.getD_cons_zero,List.set_cons_zero,List.flatten_cons]
   have:r.set c y=r.take c++y::r.drop (c+1):=by
    rw [List.set_eq_take_append_cons_drop,if_pos hc]
   rw [this]
   simp
 |r::rs,i+1,c,x,hk,h=>by
  have hr:=hk r List.mem_cons_self
  obtain ⟨a,b,h1,h2,h3⟩:=yGz rs i c x (fun r' hr'=>hk r' (List.mem_cons_of_mem _ hr')) (by simpa using h)
  refine ⟨r++a,b,by rw [List.flatten_cons,h1];simp,by simp [h2,hr,Nat.add_mul];omega,fun y=>?_⟩
  simp only [List.getD_cons_succ,List.set_cons_succ,List.flatten_cons,h3 y]
  simp
theorem OvR.focus:∀ (p:List (Nat×Nat)) (x y:OV) (u:Value) (fp:List Nat),OvR m w x u fp→x.get p=some y→
  ∃ v f1 fy f2,fp=f1++(fy++f2)∧OvR m w y v fy∧(p=[]→v=u)∧∀ (m':Mem) (w':World) (y':OV) (fy':List Nat),m.le m'→(∀ g∈f1++f2,w'.heap[g]?=w.heap[g]?)→OvR m' w' y' v fy'→OvR m' w' (x.upd p y') u (f1++(fy'++f2))
 |[],x,y,u,fp,h,hy=>by
  simp only [OV.get,Option.some.injEq] at hy
  subst hy
  refine ⟨u,[],fp,[],by simp,h,fun _=>rfl,fun m' w' y' fy' _ _ h'=>?_⟩
  simp only [OV.upd,List.nil_append,List.append_nil]
  exact h'
 |(i,c)::p,.p x,y,u,fp,h,hy=>by simp [OV.get] at hy
 |(i,c)::p,.hole,y,u,fp,h,hy=>by simp [OV.get] at hy
 |(i,c)::p,.mp _ _ _,y,u,fp,h,hy=>by simp [OV.get] at hy
 |(i,c)::p,.it _ _ _,y,u,fp,h,hy=>by simp [OV.get] at hy
 |(i,c)::p,.bl _ _ _ _,y,u,fp,h,hy=>by simp [OV.get] at hy
 |(i,c)::p,.os pb e k rows,y,u,fp,h,hy=>by
  obtain ⟨xs,f,h1,h2,h3,rfl,h5⟩:=zCm.1 h
  simp only [OV.get] at hy
  split at hy
  ·rename_i z hz
   obtain ⟨a,b,e1,e2,e3⟩:=yGz rows i c z h3 hz
   rw [e1] at h2
   obtain ⟨us1,uz,us2,g1,gz,g2,rfl,rfl,hl,k1,k2,k3⟩:=h2.mid
   obtain ⟨v,f1,fy,f2,rfl,q1,_,q2⟩:=OvR.focus p z y uz gz k2 hy
   have hi:i < rows.length:=by
    rcases Nat.lt_or_ge i rows.length with hi|hi
    ·exact hi
    ·simp [List.getD_eq_getElem?_getD,List.getElem?_eq_none hi] at hz
   refine ⟨v,blk u++(g1++f1),fy,f2++g2,by simp [List.append_assoc],q1,(fun h'=>by cases h'),fun m' w' y' fy' hm hw h'=>?_⟩
   have e4:(rows.getD i []).getD c .hole=z:=by rw [List.getD_eq_getElem?_getD,hz];rfl
   simp only [OV.upd,e4]
   refine zCm.2 ⟨us1++uz::us2,g1++((f1++(fy'++f2))++g2),?_,?_,?_,by simp [List.append_assoc],?_⟩
   ·rw [List.length_set]
    exact zJJ h1 fun g hg=>hw g (by simp [zC0.2 hg])
   ·rw [e3]
    refine OvL.mid_mk (OvL.congr hm _ _ _ (fun g hg=>hw g (by simp [hg])) k1) (q2 m' w' y' fy' hm (fun g hg=>hw g ?_) h') (OvL.congr hm _ _ _ (fun g hg=>hw g (by simp [hg])) k3)
    rcases List.mem_append.1 hg with hg|hg<;>simp [hg]
   ·intro r hr
    rcases List.mem_or_eq_of_mem_set hr with hr|rfl
    ·exact h3 r hr
    ·rw [List.length_set]
     have:rows.getD i []∈rows:=by rw [List.getD_eq_getElem?_getD,List.getElem?_eq_getElem hi];exact List.getElem_mem hi
     exact h3 _ this
   ·intro b' hb hne
    exact h5 b' hb (fun e=>hne (by rw [e];simp))
  ·cases hy
def OV.left:OV→OV
 |.p x=>.p x
 |_=>.hole
theorem OvL.left:∀ {xs:List OV} {us:List Value} {fp:List Nat},OvL m w xs us fp→OvL m w (xs.map OV.left) us []
 |[],us,fp,h=>by simp only [OvL] at h;simp only [List.map_nil,OvL];exact ⟨h.1,trivial⟩
 |x::xs,us,fp,h=>by
  simp only [OvL] at h
  obtain ⟨u,us',f1,f2,rfl,rfl,h3,h4⟩:=h
  simp only [List.map_cons,OvL]
  refine ⟨u,us',[],[],rfl,rfl,?_,h4.left⟩
  have hf:=h3.flat_
  cases x with
  |p x=>simp only [OvR] at h3;simp only [OV.left,OvR];exact ⟨trivial,h3.2⟩
  |hole=>simp only [OV.left,OvR];exact ⟨trivial,hf⟩
  |os pb e k rows=>simp only [OV.left,OvR];exact ⟨trivial,hf⟩
  |mp b ks vs=>simp only [OV.left,OvR];exact ⟨trivial,hf⟩
  |it b n seen=>simp only [OV.left,OvR];exact ⟨trivial,hf⟩
  |bl T e b bs=>simp only [OV.left,OvR];exact ⟨trivial,hf⟩
def yBd (row:List OV) (f:Nat) (ys:List OV):List OV:=row.take f++ys++row.drop (f+ys.length)
theorem zTM {row ys:List OV} {f:Nat} (h:f+ys.length≤row.length):(yBd row f ys).length=row.length:=by
 simp [yBd];omega
theorem yCe {α:Type} {k:Nat}:∀ (rows:List (List α)) (i:Nat) (r:List α),(∀ r∈rows,r.length=k)→rows[i]?=some r→
  ∃ a b,rows.flatten=a++(r++b)∧a.length=i * k∧∀ r',(rows.set i r').flatten=a++(r'++b)
 |[],i,r,_,h=>by simp at h
 |r0::rs,0,r,hk,h=>by
  simp at h
  subst h
  exact ⟨[],rs.flatten,by simp,by simp,fun r'=>by simp⟩
 |r0::rs,i+1,r,hk,h=>by
  have hr:=hk r0 List.mem_cons_self
  obtain ⟨a,b,h1,h2,h3⟩:=yCe rs i r (fun r' hr'=>hk r' (List.mem_cons_of_mem _ hr')) (by simpa using h)
  exact ⟨r0++a,b,by rw [List.flatten_cons,h1];simp,by simp [h2,hr,Nat.add_mul];omega,fun r'=>by simp only [List.set_cons_succ,List.flatten_cons,h3 r'];simp⟩
theorem OvL.take {xs:List OV} {us:List Value} {fp:List Nat} (h:OvL m w xs us fp) (f n:Nat) (hn:f+n≤xs.length):
  ∃ us1 us2 us3 f1 f2 f3,us=us1++(us2++us3)∧fp=f1++(f2++f3)∧us1.length=f∧us2.length=n∧OvL m w (xs.take f) us1 f1∧OvL m w ((xs.drop f).take n) us2 f2∧OvL m w (xs.drop (f+n)) us3 f3:=by
 have e:xs=xs.take f++((xs.drop f).take n++xs.drop (f+n)):=by
  rw [show xs.drop (f+n)=(xs.drop f).drop n by rw [List.drop_drop],List.take_append_drop,List.take_append_drop]
 rw [e] at h
 obtain ⟨us1,us',f1,f',rfl,rfl,h1,h2⟩:=h.split
 obtain ⟨us2,us3,f2,f3,rfl,rfl,h3,h4⟩:=h2.split
 exact ⟨us1,us2,us3,f1,f2,f3,rfl,rfl,by rw [h1.length];simp;omega,by rw [h3.length];simp;omega,h1,h3,h4⟩
theorem OvR.out {pb:Option Nat} {e k:Nat} {rows:List (List OV)} {u:Value} {fp:List Nat} (h:OvR m w (.os pb e k rows) u fp) {i f n:Nat} {r:List OV} (hr:rows[i]?=some r) (hn:f+n≤r.length):
  ∃ us fa fm fb,fp=fa++(fm++fb)∧OvL m w ((r.drop f).take n) us fm∧us.length=n∧OvR m w (.os pb e k (rows.set i (yBd r f (((r.drop f).take n).map OV.left)))) u (fa++fb)∧
   ∃ g cap,u=.slice (some ⟨g,0,none⟩) rows.length cap∧g∈fa∧∀ (j:Nat) (v:Value),us[j]?=some v→w.cell? ⟨g,i * k+f+j,none⟩=some v:=by
 obtain ⟨xs,f',h1,h2,h3,rfl,h5⟩:=zCm.1 h
 obtain ⟨a,b,e1,e2,e3⟩:=yCe rows i r h3 hr
 have hi:i < rows.length:=(List.getElem?_eq_some_iff.1 hr).1
 have hrk:r.length=k:=h3 r (List.mem_of_getElem? hr)
 rw [e1] at h2
 obtain ⟨us1,us',f1,f'',rfl,rfl,k1,k2⟩:=h2.split
 obtain ⟨us2,us3,f2,f3,rfl,rfl,k3,k4⟩:=k2.split
 obtain ⟨v1,v2,v3,g1,g2,g3,rfl,rfl,hl1,hl2,q1,q2,q3⟩:=k3.take f n hn
 have hlen2:((r.drop f).take n).length=n:=by simp;omega
 refine ⟨v2,blk u++(f1++g1),g2,g3++f3,by simp [List.append_assoc],q2,hl2,?_,?_⟩
 ·refine zCm.2 ⟨us1++((v1++(v2++v3))++us3),(f1++g1)++(g3++f3),by rw [List.length_set];exact h1,?_,?_,by simp [List.append_assoc],?_⟩
  ·rw [e3]
   have:=q2.left
   have hlay:OvL m w (yBd r f (((r.drop f).take n).map OV.left)) (v1++(v2++v3)) (g1++([]++g3)):=by
    unfold yBd
    rw [List.append_assoc]
    refine q1.append (this.append ?_)
    rw [List.length_map,hlen2]
    exact q3
   have h9:=k1.append (hlay.append k4)
   simpa [List.append_assoc] using h9
  ·intro r' hr'
   rcases List.mem_or_eq_of_mem_set hr' with hr'|rfl
   ·exact h3 r' hr'
   ·rw [zTM (by simp;omega)]
    exact hrk
  ·intro b' hb hne
   exact h5 b' hb (fun e=>hne (by rw [e];simp))
 ·rcases h1.2 with ⟨_,h6⟩|⟨g,cap,cur,rfl,_,hh,_⟩
  ·omega
  ·refine ⟨g,cap,rfl,by simp [blk,Value.ownBlock],fun j v hv=>?_⟩
   have hj:j < v2.length:=(List.getElem?_eq_some_iff.1 hv).1
   have:=h1.cells (g:=g) rfl (i * k+f+j) v ?_
   ·have e9:(⟨g,0,none⟩:Addr).add (i * k+f+j)=⟨g,i * k+f+j,none⟩:=by unfold Addr.add;split<;>simp_all
    rwa [e9] at this
   ·have hu1:us1.length=i * k:=by rw [k1.length,e2]
    rw [List.getElem?_append_right (by omega),List.getElem?_append_left (by simp;omega),List.getElem?_append_right (by omega),List.getElem?_append_left (by omega)]
    rw [show i * k+f+j-us1.length-v1.length=j by omega]
    exact hv
end
end Go.Hx
end

section
namespace Go.Hx
open Go.RowKit
inductive PVal where
  | one (x:PV)
  | agg (cs:List PV)
  deriving Inhabited
def RpV (m:Mem):PVal→Value→Prop
  | .one x,u=>Rp m x u
  | .agg cs,u=>∃ us:List Value,u=.agg us.toArray∧RpL m cs us
theorem RpV.mono {m m':Mem} (h:m.le m') {x:PVal} {u:Value} (g:RpV m x u):RpV m' x u:=by
  cases x with
  | one x=>exact Rp.mono h x u g
  | agg cs=>obtain ⟨us,e,hr⟩:=g;exact ⟨us,e,RpL.mono h cs us hr⟩
def RpVL (m:Mem):List PVal→List Value→Prop
  | [],us=>us=[]
  | x::xs,us=>∃ u us',us=u::us'∧RpV m x u∧RpVL m xs us'
theorem RpVL.mono {m m':Mem} (h:m.le m'):∀ {xs:List PVal} {us:List Value},RpVL m xs us→RpVL m' xs us
  | [],_,g=>g
  | x::xs,_,g=>by
    obtain ⟨u,us',h1,h2,h3⟩:=g
    exact ⟨u,us',h1,h2.mono h,RpVL.mono h h3⟩
theorem RpVL.get {m:Mem}:∀ {xs:List PVal} {us:List Value},RpVL m xs us→∀ (i:Nat) (x:PVal),xs[i]?=some x→∃ u,us[i]?=some u∧RpV m x u
  | [],us,h,i,x,hx=>by simp at hx
  | y::ys,us,h,i,x,hx=>by
    obtain ⟨u,us',rfl,h2,h3⟩:=h
    cases i with
    | zero=>simp at hx;subst hx;exact ⟨u,rfl,h2⟩
    | succ i=>simpa using RpVL.get h3 i x (by simpa using hx)
inductive OVal where
  | one (x:OV)
  | agg (cs:List OV)
  deriving Inhabited
inductive Cap where
  | p (x:PV)
  | b (j:Nat)
  deriving Inhabited
inductive Ct where
  | un
  | pv (x:PVal)
  | own (e k:Nat) (rows:List (List PV))
  | ptr (j off:Nat)
  | tup (xs:List PVal)
  | gd (t:Bool) (x:PVal)
  | stk (e k:Nat) (rows:List (List PV))
  | hdr (n:Nat)
  | ov (x:OVal)
  | hdp (b k n:Nat)
  | hds (b k i n:Nat)
  | epp (b k i f:Nat)
  | una
  | mph (b:Nat)
  | cl (f:Nat) (caps:List Cap)
  deriving Inhabited
inductive Tag where
  | key (i:Nat)
  | box (j:Nat)
  deriving DecidableEq
abbrev Ow:=Nat→Option Tag
abbrev Bx:=Nat→Option Nat
def OwnRep (m:Mem) (w:World) (ow:Ow) (t:Tag) (e k:Nat) (rows:List (List PV)) (u:Value):Prop:=
  (∃ xs,w.ownsRow 0 e k u rows.length xs)∧∀ g,u.ownBlock=some g→ow g=some t∧RpRows m g k 0 rows∧∀ o,rows.length * k≤o→m g o=none
def StkRep (m:Mem) (w:World) (ow:Ow) (t:Tag) (e k:Nat) (rows:List (List PV)) (u:Value):Prop:=
  (∃ xs,w.ownsRow 0 e k u rows.length xs∧RpL m rows.flatten xs)∧(∀ r∈rows,r.length=k)∧∀ g,u.ownBlock=some g→ow g=some t∧∀ o,m g o=none
def OvV (m:Mem) (w:World):OVal→Value→List Nat→Prop
  | .one x,u,fp=>OvR m w x u fp
  | .agg cs,u,fp=>∃ us:List Value,u=.agg us.toArray∧OvL m w cs us fp
def OvOk (m:Mem) (w:World) (ow:Ow) (t:Tag) (x:OVal) (u:Value):Prop:=∃ fp,OvV m w x u fp∧fp.Nodup∧∀ g∈fp,ow g=some t∧∀ o,m g o=none
theorem OvV.congr {m m':Mem} {w w':World} (hm:m.le m') {x:OVal} {u:Value} {fp:List Nat} (hw:∀ g∈fp,w'.heap[g]?=w.heap[g]?) (h:OvV m w x u fp):OvV m' w' x u fp:=by
  cases x with
  | one x=>exact OvR.congr hm x u fp hw h
  | agg cs=>obtain ⟨us,h1,h2⟩:=h;exact ⟨us,h1,OvL.congr hm cs us fp hw h2⟩
def zMH (n:Nat) (u:Value):Prop:=∃ A c,u=.slice A n c∧n≤c∧c≤maxLen
def CapsRep (m:Mem) (β:Bx):List Cap→List Value→Prop
  | [],us=>us=[]
  | .p x::r,us=>∃ u us',us=u::us'∧Rp m x u∧CapsRep m β r us'
  | .b j::r,us=>∃ b us',us=.pointer (some ⟨b,0,none⟩)::us'∧β j=some b∧CapsRep m β r us'
theorem CapsRep.mono {m m':Mem} (h:m.le m') {β:Bx}:∀ {cs:List Cap} {us:List Value},CapsRep m β cs us→CapsRep m' β cs us
  | [],_,g=>g
  | .p x::r,_,g=>by
    obtain ⟨u,us',h1,h2,h3⟩:=g
    exact ⟨u,us',h1,Rp.mono h x u h2,h3.mono h⟩
  | .b j::r,_,g=>by
    obtain ⟨b,us',h1,h2,h3⟩:=g
    exact ⟨b,us',h1,h2,h3.mono h⟩
def zFJ (j:Nat):List Cap→Bool
  | []=>false
  | .p _::r=>zFJ j r
  | .b i::r=>i==j||zFJ j r
theorem CapsRep.congr {m:Mem} {β β':Bx} {j:Nat} (h:∀ i,i≠j→β' i=β i):∀ {cs:List Cap} {us:List Value},zFJ j cs=false→CapsRep m β cs us→CapsRep m β' cs us
  | [],_,_,g=>g
  | .p x::r,_,hc,g=>by
    obtain ⟨u,us',h1,h2,h3⟩:=g
    exact ⟨u,us',h1,h2,h3.congr h hc⟩
  | .b i::r,_,hc,g=>by
    obtain ⟨b,us',h1,h2,h3⟩:=g
    simp only [zFJ,Bool.or_eq_false_iff,beq_eq_false_iff_ne] at hc
    exact ⟨b,us',h1,(h i hc.1).trans h2,h3.congr h hc.2⟩
theorem CapsRep.has {m:Mem} {β:Bx} {j:Nat} (hj:β j=none):∀ {cs:List Cap} {us:List Value},CapsRep m β cs us→zFJ j cs=false
  | [],_,_=>rfl
  | .p x::r,_,g=>by
    obtain ⟨u,us',h1,h2,h3⟩:=g
    show zFJ j r=false
    exact CapsRep.has hj h3
  | .b i::r,_,g=>by
    obtain ⟨b,us',h1,h2,h3⟩:=g
    simp only [zFJ,Bool.or_eq_false_iff,beq_eq_false_iff_ne]
    refine ⟨?_,CapsRep.has hj h3⟩
    rintro rfl
    rw [hj] at h2;cases h2
def CtRep (m:Mem) (w:World) (β:Bx) (ow:Ow) (i:Nat):Ct→Value→Prop
  | .un,_=>True
  | .pv x,u=>RpV m x u
  | .own e k rows,u=>OwnRep m w ow (.key i) e k rows u
  | .ptr j off,u=>∃ b,β j=some b∧u=.pointer (some ⟨b,off,none⟩)
  | .tup xs,u=>∃ us:List Value,u=.tuple us.toArray∧RpVL m xs us
  | .gd t x,u=>(t=true→RpV m x u)∧(t=false→u=undef)
  | .stk e k rows,u=>StkRep m w ow (.key i) e k rows u
  | .hdr n,u=>zMH n u
  | .ov x,u=>OvOk m w ow (.key i) x u
  | .hdp b _ n,u=>zMH n u∧(n≠0→∃ c,u=.slice (some ⟨b,0,none⟩) n c)
  | .hds b k i n,u=>zMH n u∧(n≠0→∃ c,u=.slice (some ⟨b,i * k,none⟩) n c)
  | .epp b k r f,u=>u=.pointer (some ⟨b,r * k+f,none⟩)
  | .una,_=>True
  | .mph b,u=>u=.map (some b)
  | .cl f caps,u=>∃ us:List Value,u=.func (.func f) #[] us.toArray∧CapsRep m β caps us
def CellRep (m:Mem) (w:World) (ow:Ow) (i:Nat):Ct→Value→Prop
  | .un,_=>True
  | .pv (.one x),u=>Rp m x u
  | .own e k rows,u=>OwnRep m w ow (.key i) e k rows u
  | .ov (.one x),u=>OvOk m w ow (.key i) (.one x) u
  | _,_=>False
def unC (c:Ct):Prop:=c=.un∨c=.una
def BoxRep (m:Mem) (w:World) (ow:Ow) (F:List Ct) (j:Nat) (bn:Nat×Nat):Option Nat→Prop
  | none=>∀ o,o < bn.2→unC (F.getD (bn.1+o) .un)
  | some b=>ow b=some (.box j)∧(∀ o,m b o=none)∧∃ cs T,w.heap[b]?=some (.cells cs T (0,0))∧cs.size=bn.2∧∀ o,o < bn.2→CellRep m w ow (bn.1+o) (F.getD (bn.1+o) .un) (cs.getD o undef)
variable [Glob]
theorem zTN {α:Type}:∀ (s:Ask α) (w:World),w.drawn≤(w.ask s).2.drawn
  | .done a,w=>Nat.le_refl _
  | .ask what range k,w=>by
    rw [World.ask]
    split
    · exact zTN _ _
    · exact Nat.le_trans (Nat.le_succ _) (zTN _ {w with drawn:=w.drawn+1})
theorem yOZ (w:World) (c:Sys):w.drawn≤(w.sys c).2.drawn:=by
  have h:=zTN (Kernel.perform c w.os) w
  unfold World.sys
  split
  · exact Nat.le_refl _
  · rename_i e
    rw [e] at h;exact h
theorem yI7 {P:Program} {w w':World} {a:Addr} {v:Value} {b:Bool} {l:List Addr} (h:w.farStore P a v b=.ok (w',l)):w'.drawn=w.drawn:=by
  unfold World.farStore at h
  split at h
  · split at h
    · rename_i r e
      injection h with h
      subst h
      unfold World.viewStore at e
      simp only [bind,Except.bind,pure,Except.pure,throw,throwThe,MonadExceptOf.throw] at e
      repeat' split at e
      all_goals first|(cases e;rfl)|cases e
    · cases h
  · cases h
theorem zMI {P:Program} {α:Type}:∀ (s:Sem α) (w w':World) (a:α),s.run P w=.ok a w'→w.drawn≤w'.drawn:=by
  intro s
  induction s with
  | pure a=>intro w w' a' h;simp only [Sem.run] at h;cases h;exact Nat.le_refl _
  | load m a k ih=>
    intro w w' x h
    simp only [Sem.run] at h
    split at h
    · exact ih _ _ _ _ h
    · split at h
      · exact ih _ _ _ _ h
      · cases h
  | store m a v k ih=>
    intro w w' x h
    cases v<;>simp only [Sem.run] at h<;>first
      | (cases h;done)
      | (split at h
         · split at h
           · cases h
           · have h2:=ih _ _ _ h;exact h2
         · split at h
           · rename_i e
             rw [←yI7 e];exact ih _ _ _ h
           · cases h)
  | new o k ih=>intro w w' x h;simp only [Sem.run] at h;have h2:=ih _ _ _ _ h;exact h2
  | shape r k ih=>intro w w' x h;simp only [Sem.run] at h;exact ih _ _ _ _ h
  | freeze a n k ih=>
    intro w w' x h;simp only [Sem.run] at h
    have:=ih _ _ _ h
    unfold World.freeze at this
    split at this<;>exact this
  | frozen a k ih=>intro w w' x h;simp only [Sem.run] at h;exact ih _ _ _ _ h
  | getObj r k ih=>
    intro w w' x h;simp only [Sem.run] at h
    split at h
    · cases h
    · exact ih _ _ _ _ h
    · cases h
  | setObj r o k ih=>
    intro w w' x h;simp only [Sem.run] at h
    split at h
    · cases h
    · have h2:=ih _ _ _ h;exact h2
    · cases h
  | choose q k ih=>
    intro w w' x h;simp only [Sem.run] at h
    split at h
    · exact ih _ _ _ _ h
    · exact Nat.le_trans (Nat.le_succ _) (ih _ _ _ _ h)
  | sys c k ih=>intro w w' x h;simp only [Sem.run] at h;exact Nat.le_trans (yOZ w c) (ih _ _ _ _ h)
  | program k ih=>intro w w' x h;simp only [Sem.run] at h;exact ih _ _ _ _ h
  | mark m k ih=>intro w w' x h;simp only [Sem.run] at h;exact ih _ _ _ h
  | halt h0=>intro w w' x h;simp only [Sem.run] at h;cases h
structure Pres (R:Nat→Prop) (w w':World):Prop where
  os:w'.os=w.os
  tape:w'.tape=w.tape
  output:w'.output=w.output
  size:w.heap.size≤w'.heap.size
  block:∀ b,b < w.heap.size→¬ R b→w'.heap[b]?=w.heap[b]?
  drawn:Glob.strict=true→w.drawn≤w'.drawn
theorem Pres.refl (R:Nat→Prop) (w:World):Pres R w w:=⟨rfl,rfl,rfl,Nat.le_refl _,fun _ _ _=>rfl,fun _=>Nat.le_refl _⟩
theorem Pres.trans {R:Nat→Prop} {a b c:World} (h:Pres R a b) (k:Pres (fun x=>R x∨a.heap.size≤x) b c):Pres R a c:=
  ⟨k.os.trans h.os,k.tape.trans h.tape,k.output.trans h.output,Nat.le_trans h.size k.size,fun x hx hr=>(k.block x (Nat.lt_of_lt_of_le hx h.size) (by rintro (g|g);exact hr g;omega)).trans (h.block x hx hr),fun s=>Nat.le_trans (h.drawn s) (k.drawn s)⟩
theorem Pres.mono {R R':Nat→Prop} {w w':World} (h:Pres R w w') (hr:∀ b,b < w.heap.size→R b→R' b):Pres R' w w':=
  ⟨h.os,h.tape,h.output,h.size,fun b hb hn=>h.block b hb fun g=>hn (hr b hb g),h.drawn⟩
theorem Pres.alloc (R:Nat→Prop) (w:World) (o:Obj):Pres R w (w.alloc o):=
  ⟨rfl,rfl,rfl,by simp,fun b hb _=>Below.heap_alloc w o b hb,fun _=>Nat.le_refl _⟩
theorem Pres.drew (R:Nat→Prop) (w:World):Pres R w w.drew:=⟨rfl,rfl,rfl,Nat.le_refl _,fun _ _ _=>rfl,fun _=>Nat.le_succ _⟩
theorem Pres.of_below [GlobL] {w w':World} (R:Nat→Prop) (h:Below w.heap.size w w'):Pres R w w':=⟨h.os,h.tape,h.output,h.size,fun b hb _=>h.block b hb,fun s=>by rw [GlobL.lax] at s;cases s⟩
structure Env where
  N:Nat
  Γ:List (Nat×Nat)
  L:Nat
  nfix:Nat:=0
  una:List Nat:=[]
structure Start where
  w0:World
  m0:Mem
  R0:Nat→Prop
  b0:Bx
  g0:Glob.ok w0
  gR:∀ b,R0 b→Glob.n≤b
  d0:List Deferred:=[]
structure InvG (E:Env) (S:Start) (m:Mem) (β:Bx) (ow:Ow) (F:List Ct) (a:Act) (w:World):Prop where
  lenF:F.length=E.L
  lenA:a.tmps.size=E.N
  dfr:a.defers=S.d0
  slots:∀ i,i < E.N→CtRep m w β ow i (F.getD i .un) (a.tmps.getD i undef)
  boxes:∀ (j:Nat) (bn:Nat×Nat),E.Γ[j]?=some bn→BoxRep m w ow F j bn (β j)
  mem:MemOk m w
  mle:S.m0.le m
  pres:Pres S.R0 S.w0 w
  own:∀ b t,ow b=some t→S.w0.heap.size≤b∨S.R0 b
  lt:∀ b t,ow b=some t→b < w.heap.size
  new:∀ b o u,m b o=some u→S.m0 b o=some u∨S.w0.heap.size≤b∨S.R0 b
  fix:∀ j,j < E.nfix→β j=S.b0 j
theorem InvG.glob {E:Env} {S:Start} {m:Mem} {β:Bx} {ow:Ow} {F:List Ct} {a:Act} {w:World} (h:InvG E S m β ow F a w):Glob.ok w:=
  Glob.keep _ _ (fun b hb=>h.pres.block b (Nat.lt_of_lt_of_le hb (Glob.size _ S.g0)) fun hr=>absurd (S.gR b hr) (Nat.not_le_of_lt hb)) S.g0
theorem InvG.gown {E:Env} {S:Start} {m:Mem} {β:Bx} {ow:Ow} {F:List Ct} {a:Act} {w:World} (h:InvG E S m β ow F a w) {b:Nat} {t:Tag} (hb:ow b=some t):Glob.n≤b:=by
  rcases h.own b t hb with h1|h1
  · exact Nat.le_trans (Glob.size _ S.g0) h1
  · exact S.gR b h1
def Inv (E:Env) (S:Start) (F:List Ct) (a:Act) (w:World):Prop:=∃ m β ow,InvG E S m β ow F a w
structure Env.Wf (E:Env):Prop where
  le:E.N≤E.L
  lo:∀ (j:Nat) (bn:Nat×Nat),E.Γ[j]?=some bn→E.N≤bn.1
  hi:∀ (j:Nat) (bn:Nat×Nat),E.Γ[j]?=some bn→bn.1+bn.2≤E.L
  ap:∀ (i j:Nat) (x y:Nat×Nat),E.Γ[i]?=some x→E.Γ[j]?=some y→i≠j→x.1+x.2≤y.1∨y.1+y.2≤x.1
def Env.ok (E:Env):Bool:=
  decide (E.N≤E.L)&&E.Γ.all (fun bn=>decide (E.N≤bn.1)&&decide (bn.1+bn.2≤E.L)) &&
  (List.range E.Γ.length).all fun i=>(List.range E.Γ.length).all fun j=>
    i==j||(match E.Γ[i]?,E.Γ[j]? with|some x,some y=>decide (x.1+x.2≤y.1)||decide (y.1+y.2≤x.1)|_,_=>true)
def Env.unaOk (E:Env):Bool:=E.una.all fun i=>decide (E.N≤i)&&(List.range E.nfix).all fun j=>match E.Γ[j]? with|some x=>decide (i < x.1)||decide (x.1+x.2≤i)|none=>true
theorem Env.wf_of_ok {E:Env} (h:E.ok=true):E.Wf:=by
  simp only [Env.ok,Bool.and_eq_true,List.all_eq_true,decide_eq_true_eq,List.mem_range,Bool.or_eq_true,beq_iff_eq] at h
  obtain ⟨⟨h1,h2⟩,h3⟩:=h
  refine ⟨h1,fun j bn hj=>(h2 bn (List.mem_of_getElem? hj)).1,fun j bn hj=>(h2 bn (List.mem_of_getElem? hj)).2,fun i j x y hi hj hne=>?_⟩
  have h4:=h3 i (List.getElem?_eq_some_iff.1 hi).1 j (List.getElem?_eq_some_iff.1 hj).1
  rw [hi,hj] at h4
  rcases h4 with h4|h4
  · exact absurd h4 hne
  · simpa using h4
theorem zFs {w w':World} {base e size:Nat} {u:Value} {n:Nat} {xs:List Value} (h:w.ownsRow base e size u n xs) (hb:∀ g,u.ownBlock=some g→w'.heap[g]?=w.heap[g]?):w'.ownsRow base e size u n xs:=by
  obtain ⟨h1,h2⟩:=h
  refine ⟨h1,?_⟩
  rcases h2 with h2|⟨g,cap,cur,rfl,hg,hh,r⟩
  · exact .inl h2
  · exact .inr ⟨g,cap,cur,rfl,hg,(hb g rfl).trans hh,r⟩
structure Quiet (S:Start) (ow:Ow) (m m':Mem) (w w':World):Prop where
  le:m.le m'
  mem:MemOk m' w'
  heap:∀ b t,ow b=some t→w'.heap[b]?=w.heap[b]?
  free:∀ b t o,ow b=some t→m' b o=m b o
  new:∀ b o u,m' b o=some u→m b o=some u∨S.w0.heap.size≤b∨S.R0 b
  pres:Pres (fun x=>S.R0 x∨S.w0.heap.size≤x) w w'
theorem OwnRep.quiet {S:Start} {m m':Mem} {w w':World} {ow:Ow} {t:Tag} {e k:Nat} {rows:List (List PV)} {u:Value}
    (h:OwnRep m w ow t e k rows u) (q:Quiet S ow m m' w w'):OwnRep m' w' ow t e k rows u:=by
  obtain ⟨⟨xs,h1⟩,h2⟩:=h
  refine ⟨⟨xs,zFs h1 fun g hg=>q.heap g t (h2 g hg).1⟩,fun g hg=>?_⟩
  obtain ⟨h3,h4,h5⟩:=h2 g hg
  exact ⟨h3,RpRows.mono q.le rows g k 0 h4,fun o ho=>(q.free g t o h3).trans (h5 o ho)⟩
theorem StkRep.quiet {S:Start} {m m':Mem} {w w':World} {ow:Ow} {t:Tag} {e k:Nat} {rows:List (List PV)} {u:Value}
    (h:StkRep m w ow t e k rows u) (q:Quiet S ow m m' w w'):StkRep m' w' ow t e k rows u:=by
  obtain ⟨⟨xs,h1,h0⟩,hk,h2⟩:=h
  refine ⟨⟨xs,zFs h1 fun g hg=>q.heap g t (h2 g hg).1,RpL.mono q.le _ _ h0⟩,hk,fun g hg=>?_⟩
  obtain ⟨h3,h5⟩:=h2 g hg
  exact ⟨h3,fun o=>(q.free g t o h3).trans (h5 o)⟩
theorem OvOk.quiet {S:Start} {m m':Mem} {w w':World} {ow:Ow} {t:Tag} {x:OVal} {u:Value}
    (h:OvOk m w ow t x u) (q:Quiet S ow m m' w w'):OvOk m' w' ow t x u:=by
  obtain ⟨fp,h1,h2,h3⟩:=h
  exact ⟨fp,h1.congr q.le fun g hg=>q.heap g t (h3 g hg).1,h2,fun g hg=>⟨(h3 g hg).1,fun o=>(q.free g t o (h3 g hg).1).trans ((h3 g hg).2 o)⟩⟩
theorem CtRep.quiet {S:Start} {m m':Mem} {w w':World} {β:Bx} {ow:Ow} {i:Nat} {c:Ct} {u:Value}
    (h:CtRep m w β ow i c u) (q:Quiet S ow m m' w w'):CtRep m' w' β ow i c u:=by
  cases c with
  | un=>trivial
  | pv x=>exact RpV.mono q.le h
  | own e k rows=>exact OwnRep.quiet h q
  | ptr j off=>exact h
  | tup xs=>obtain ⟨us,h1,h2⟩:=h;exact ⟨us,h1,h2.mono q.le⟩
  | gd t x=>exact ⟨fun ht=>RpV.mono q.le (h.1 ht),h.2⟩
  | stk e k rows=>exact StkRep.quiet h q
  | hdr n=>exact h
  | ov x=>exact OvOk.quiet h q
  | hdp b k n=>exact h
  | hds b k i n=>exact h
  | epp b k r f=>exact h
  | una=>trivial
  | mph b=>exact h
  | cl f caps=>obtain ⟨us,h1,h2⟩:=h;exact ⟨us,h1,h2.mono q.le⟩
theorem CellRep.quiet {S:Start} {m m':Mem} {w w':World} {ow:Ow} {i:Nat} {c:Ct} {u:Value}
    (h:CellRep m w ow i c u) (q:Quiet S ow m m' w w'):CellRep m' w' ow i c u:=by
  cases c with
  | un=>trivial
  | pv x=>cases x with
    | one x=>exact Rp.mono q.le x u h
    | agg cs=>exact h.elim
  | own e k rows=>exact OwnRep.quiet h q
  | ptr j off=>exact h.elim
  | tup xs=>exact h.elim
  | gd t x=>exact h.elim
  | stk e k rows=>exact h.elim
  | hdr n=>exact h.elim
  | ov x=>cases x with
    | one x=>exact OvOk.quiet h q
    | agg cs=>exact h.elim
  | hdp b k n=>exact h.elim
  | hds b k i n=>exact h.elim
  | epp b k r f=>exact h.elim
  | una=>exact h.elim
  | mph b=>exact h.elim
  | cl f caps=>exact h.elim
theorem BoxRep.quiet {S:Start} {m m':Mem} {w w':World} {ow:Ow} {F:List Ct} {j:Nat} {bn:Nat×Nat} {b:Option Nat}
    (h:BoxRep m w ow F j bn b) (q:Quiet S ow m m' w w'):BoxRep m' w' ow F j bn b:=by
  cases b with
  | none=>exact h
  | some b=>
    obtain ⟨h1,h2,cs,T,h3,h4,h5⟩:=h
    exact ⟨h1,fun o=>(q.free b _ o h1).trans (h2 o),cs,T,(q.heap b _ h1).trans h3,h4,fun o ho=>(h5 o ho).quiet q⟩
theorem InvG.quiet {E:Env} {S:Start} {m m':Mem} {β:Bx} {ow:Ow} {F:List Ct} {a:Act} {w w':World}
    (h:InvG E S m β ow F a w) (q:Quiet S ow m m' w w'):InvG E S m' β ow F a w' where
  lenF:=h.lenF
  lenA:=h.lenA
  dfr:=h.dfr
  slots:=fun i hi=>(h.slots i hi).quiet q
  boxes:=fun j bn hj=>(h.boxes j bn hj).quiet q
  mem:=q.mem
  mle:=Mem.le_trans h.mle q.le
  pres:=h.pres.trans q.pres
  own:=h.own
  lt:=fun b t hb=>Nat.lt_of_lt_of_le (h.lt b t hb) q.pres.size
  new:=fun b o u hu=>(q.new b o u hu).elim (fun g=>h.new b o u g) .inr
  fix:=h.fix
theorem Quiet.refl {S:Start} {ow:Ow} {m:Mem} {w:World} (h:MemOk m w):Quiet S ow m m w w:=
  ⟨m.le_refl,h,fun _ _ _=>rfl,fun _ _ _ _=>rfl,fun _ _ _ h=>.inl h,Pres.refl _ _⟩
theorem zBm {α:Type} (l:List α) (d:α) (i j:Nat) (x:α):(l.set i x).getD j d=if i=j∧j < l.length then x else l.getD j d:=by
  simp only [List.getD_eq_getElem?_getD,List.getElem?_set]
  by_cases h:i=j
  · subst h
    by_cases h2:i < l.length
    · simp [h2]
    · simp [h2]
  · simp [h]
theorem zOy (l:Array Value) (i j:Nat) (x:Value):(l.setIfInBounds i x).getD j undef=if i=j∧j < l.size then x else l.getD j undef:=by
  simp only [Array.getD_eq_getD_getElem?,Array.getElem?_setIfInBounds]
  by_cases h:i=j
  · subst h
    by_cases h2:i < l.size
    · simp [h2]
    · simp [h2]
  · simp [h]
theorem CtRep.of_slot_lt {E:Env} {F:List Ct} {base o d:Nat} {c:Ct} (hd:d < E.N) (hb:E.N≤base):(F.set d c).getD (base+o) .un=F.getD (base+o) .un:=by
  rw [zBm,if_neg (by omega)]
theorem BoxRep.slot {E:Env} {m:Mem} {w:World} {ow:Ow} {F:List Ct} {j d:Nat} {c:Ct} {bn:Nat×Nat} {b:Option Nat} (hd:d < E.N) (hb:E.N≤bn.1)
    (h:BoxRep m w ow F j bn b):BoxRep m w ow (F.set d c) j bn b:=by
  cases b with
  | none=>exact fun o ho=>by rw [CtRep.of_slot_lt hd hb];exact h o ho
  | some b=>
    obtain ⟨h1,h2,cs,T,h3,h4,h5⟩:=h
    exact ⟨h1,h2,cs,T,h3,h4,fun o ho=>by rw [CtRep.of_slot_lt hd hb];exact h5 o ho⟩
theorem InvG.slot {E:Env} (wf:E.Wf) {S:Start} {m:Mem} {β:Bx} {ow:Ow} {F:List Ct} {a:Act} {w:World}
    (h:InvG E S m β ow F a w) {d:Nat} (hd:d < E.N) {c:Ct} {u:Value} (hc:CtRep m w β ow d c u):InvG E S m β ow (F.set d c) (a.put (some d) u) w where
  lenF:=by simp [h.lenF]
  lenA:=by simp [Act.put,h.lenA]
  dfr:=h.dfr
  slots:=fun i hi=>by
    have hF:d < F.length:=by rw [h.lenF];exact Nat.lt_of_lt_of_le hd wf.le
    simp only [Act.put]
    rw [zBm,zOy]
    by_cases hdi:d=i
    · subst hdi
      rw [if_pos ⟨rfl,hF⟩,if_pos ⟨rfl,by rw [h.lenA];exact hd⟩]
      exact hc
    · rw [if_neg (by omega),if_neg (by omega)]
      exact h.slots i hi
  boxes:=fun j bn hj=>(h.boxes j bn hj).slot hd (wf.lo j bn hj)
  mem:=h.mem
  mle:=h.mle
  pres:=h.pres
  own:=h.own
  lt:=h.lt
  new:=h.new
  fix:=h.fix
theorem InvG.forget {E:Env} (wf:E.Wf) {S:Start} {m:Mem} {β:Bx} {ow:Ow} {F:List Ct} {a:Act} {w:World}
    (h:InvG E S m β ow F a w) {d:Nat} (hd:d < E.N) {c:Ct} (hc:∀ u,CtRep m w β ow d (F.getD d .un) u→CtRep m w β ow d c u):InvG E S m β ow (F.set d c) a w where
  lenF:=by simp [h.lenF]
  lenA:=h.lenA
  dfr:=h.dfr
  slots:=fun i hi=>by
    rw [zBm]
    by_cases hdi:d=i
    · subst hdi
      split
      · exact hc _ (h.slots d hd)
      · exact h.slots d hd
    · rw [if_neg (by omega)]
      exact h.slots i hi
  boxes:=fun j bn hj=>(h.boxes j bn hj).slot hd (wf.lo j bn hj)
  mem:=h.mem
  mle:=h.mle
  pres:=h.pres
  own:=h.own
  lt:=h.lt
  new:=h.new
  fix:=h.fix
end Go.Hx
end
