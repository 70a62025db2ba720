/-
 THE ABSTRACT LAYER, THIRD TEXT: the operations that only make a value, evaluated on the abstract frame; that evaluation is sound. Generic over the program. No condition.
-/
import Derived.Test.YtjnagiaooecklaaGreatDoorG2
import Derived.Laws.StructEq
import Derived.Laws.Concat
set_option linter.all false
namespace Go.Hx
open Go.RowKit
variable [Glob]
inductive Opd where
 |t (n:Nat)
 |c (x:PVal)
 |f (n:Nat)
 deriving Inhabited
def zOD:Value→Value→Bool
 |.int k n,.int k' n'=>decide (k=k')&&decide (n=n')
 |.bool a,.bool b=>a==b
 |.string a,.string b=>decide (a.data.toList=b.data.toList)
 |.slice none 0 0,.slice none 0 0=>true
 |.nilIface,.nilIface=>true
 |.nilFunc,.nilFunc=>true
 |.pointer none,.pointer none=>true
 |_,_=>false
theorem zPt {a b:Value} (h:zOD a b=true):a=b:=by
 unfold zOD at h
 split at h<;>simp_all
 all_goals try rfl
 rename_i a b
 cases a with|mk da=>cases b with|mk db=>simp_all
def zPM:PVal→Value→Bool
 |.one (.v x),u=>zOD x u&&zEA x
 |.one (.nl _),.slice none 0 0=>true
 |_,_=>false
def zAf (F:List Ct):Opd→Ct
 |.t n=>F.getD n .un
 |.c x=>.pv x
 |.f n=>.pv (.one (.clo n []))
def zAc (N:Nat):Opd→Operand→Bool
 |.t n,.tmp k=>n==k&&decide (n < N)
 |.c x,.const v=>zPM x v
 |.f n,.func g=>n==g
 |_,_=>false
def Ct.need:Ct→Prop
 |.gd t _=>t=true
 |_=>True
def Ct.pv?:Ct→Option PVal
 |.pv x=>some x
 |.own _ k rows=>some (.one (.sl k rows))
 |.gd _ x=>some x
 |_=>none
theorem yDu {m:Mem} {x:PVal} {u:Value} (h:zPM x u=true):RpV m x u:=by
 unfold zPM at h
 split at h
 ·simp only [Bool.and_eq_true] at h
  exact ⟨(zPt h.1).symm,h.2⟩
 ·rfl
 ·cases h
theorem OwnRep.rp {m:Mem} {w:World} {ow:Ow} {t:Tag} {e k:Nat} {rows:List (List PV)} {u:Value} (h:OwnRep m w ow t e k rows u):Rp m (.sl k rows) u:=by
 obtain ⟨⟨xs,h1,h2⟩,h3⟩:=h
 simp only [Rp]
 rcases h2 with ⟨rfl,h4⟩|⟨g,cap,cur,rfl,_,hh,h5,h6,_⟩
 ·have:rows=[]:=List.eq_nil_of_length_eq_zero h4
  subst this
  exact ⟨none,0,rfl,Nat.le_refl _,by simp [maxLen],.inl rfl⟩
 ·exact ⟨_,cap,rfl,h5,h6,.inr ⟨g,0,rfl,(h3 g rfl).2.1⟩⟩
section
variable {E:Env} {S:Start} {m:Mem} {β:Bx} {ow:Ow} {F:List Ct} {a:Act} {w:World}
theorem zAI (h:InvG E S m β ow F a w) {x:Opd} {y:Operand} (hk:zAc E.N x y=true) {p:PVal} (hn:(zAf F x).need) (hp:(zAf F x).pv?=some p):RpV m p (a.eval y):=by
 cases x with
 |t n=>
  cases y<;>simp only [zAc] at hk<;>try cases hk
  simp only [Bool.and_eq_true,beq_iff_eq,decide_eq_true_eq] at hk
  obtain ⟨rfl,hn'⟩:=hk
  have hs:=h.slots n hn'
  simp only [zAf] at hn hp
  simp only [Act.eval]
  generalize F.getD n .un=c at *
  cases c with
  |un=>cases hp
  |pv q=>simp only [Ct.pv?,Option.some.injEq] at hp;subst hp;exact hs
  |own e k rows=>simp only [Ct.pv?,Option.some.injEq] at hp;subst hp;exact OwnRep.rp hs
  |ptr j off=>cases hp
  |tup xs=>cases hp
  |gd t q=>simp only [Ct.pv?,Option.some.injEq] at hp;subst hp;exact hs.1 hn
  |stk e k rows=>cases hp
  |hdr n=>cases hp
  |ov x=>cases hp
  |hdp b k n=>cases hp
  |hds b k i n=>cases hp
  |epp b k r f=>cases hp
  |mph b=>cases hp
  |cl f caps=>cases hp
  |una=>cases hp
 |c q=>
  cases y<;>simp only [zAc] at hk<;>try cases hk
  simp only [zAf,Ct.pv?,Option.some.injEq] at hp
  subst hp
  exact yDu hk
 |f n=>
  cases y<;>simp only [zAc] at hk<;>try cases hk
  simp only [beq_iff_eq] at hk
  subst hk
  simp only [zAf,Ct.pv?,Option.some.injEq] at hp
  subst hp
  exact ⟨[],rfl,by simp [RpL]⟩
theorem zC4 (h:InvG E S m β ow F a w) {x:Opd} {y:Operand} (hk:zAc E.N x y=true) {j off:Nat} (hp:zAf F x=.ptr j off):∃ b,β j=some b∧a.eval y=.pointer (some ⟨b,off,none⟩):=by
 cases x with
 |t n=>
  cases y<;>simp only [zAc] at hk<;>try cases hk
  simp only [Bool.and_eq_true,beq_iff_eq,decide_eq_true_eq] at hk
  obtain ⟨rfl,hn'⟩:=hk
  have hs:=h.slots n hn'
  simp only [zAf] at hp
  rw [hp] at hs
  exact hs
 |c q=>simp [zAf] at hp
 |f n=>simp [zAf] at hp
theorem yJU (h:InvG E S m β ow F a w) {n:Nat} {y:Operand} (hk:zAc E.N (.t n) y=true) {xs:List PVal} (hp:F.getD n .un=.tup xs):
  ∃ us:List Value,a.eval y=.tuple us.toArray∧RpVL m xs us:=by
 cases y<;>simp only [zAc] at hk<;>try cases hk
 simp only [Bool.and_eq_true,beq_iff_eq,decide_eq_true_eq] at hk
 obtain ⟨rfl,hn'⟩:=hk
 have hs:=h.slots n hn'
 rw [hp] at hs
 exact hs
end
def PV.norm:PV→PV
 |.nl k=>.sl k []
 |x=>x
def PVal.norm:PVal→PVal
 |.one x=>.one x.norm
 |.agg cs=>.agg (cs.map PV.norm)
theorem Rp.norm {m:Mem} {x:PV} {u:Value} (h:Rp m x u):Rp m x.norm u:=by
 cases x with
 |nl k=>simp only [Rp] at h;subst h;simp only [PV.norm,Rp];exact ⟨none,0,rfl,Nat.le_refl _,by simp [maxLen],.inl trivial⟩
 |_=>exact h
theorem RpL.norm {m:Mem}:∀ {cs:List PV} {us:List Value},RpL m cs us→RpL m (cs.map PV.norm) us
 |[],_,h=>h
 |x::xs,us,h=>by
  simp only [RpL] at h
  obtain ⟨u,us',h1,h2,h3⟩:=h
  simp only [List.map_cons,RpL]
  exact ⟨u,us',h1,h2.norm,h3.norm⟩
theorem RpV.norm {m:Mem} {x:PVal} {u:Value} (h:RpV m x u):RpV m x.norm u:=by
 cases x with
 |one x=>exact Rp.norm h
 |agg cs=>obtain ⟨us,h1,h2⟩:=h;exact ⟨us,h1,h2.norm⟩
abbrev iv (n:Int):PVal:=.one (.v (.int .i64 n))
abbrev bv (b:Bool):PVal:=.one (.v (.bool b))
abbrev mkS (l:List UInt8):Value:=.string ⟨l.toArray⟩
abbrev sv (l:List UInt8):PVal:=.one (.v (mkS l))
def bys (s:ByteArray):List UInt8:=s.data.toList
@[simp] theorem yLV (l:List UInt8):bys ⟨l.toArray⟩=l:=by simp [bys]
inductive VOp where
 |mv (x:Opd)
 |pick (c a b:Opd)
 |ints (op:BinOp) (x y:Opd)
 |strs (op:BinOp) (x y:Opd)
 |boo (neg:Bool) (x y:Opd)
 |not (x:Opd)
 |neg (x:Opd)
 |conv (k:IntKind) (x:Opd)
 |len (str:Bool) (x:Opd)
 |fldP (x:Opd) (off:Nat)
 |fldR (x:Opd) (off n:Nat)
 |ldR (x:Opd) (n:Nat) (agg:Bool)
 |ldB (x:Opd) (j base off n:Nat) (agg:Bool)
 |idxA (k:Nat) (x i:Opd)
 |idxS (x i:Opd)
 |sls (x:Opd) (lo hi:Option Opd)
 |slr (k:Nat) (x:Opd) (lo hi:Option Opd)
 |ext (n i:Nat)
 |nilck (x:Opd)
 |bld (zeros:List PV) (parts:List (Nat×Nat×Opd))
 |bslF (k:Nat) (parts:List Opd)
 |boxF (x:Opd)
 |mkf (f:Nat) (caps:List Opd)
 |mki (t:Nat) (x:Opd)
 |steq (ng:Bool) (ks:List Nat) (x y:Opd)
 |mx (x y:Opd)
 |ldh (x:Opd) (j base off:Nat)
 |b2s (x:Opd)
 |idxV (n:Nat) (x i:Opd)
 |ixB (n:Nat) (x i:Opd)
 |ldD (x:Opd) (j base sz:Nat)
 |pnl (ng pt:Bool) (x:Opd)
 deriving Inhabited
def inR (k:IntKind) (n:Int):Prop:=k.min≤n∧n≤k.max
def bad:Prop×Ct:=(False,.un)
def zSH (op:BinOp) (k:IntKind) (x y:Int):Prop×Ct:=
 match op with
 |.add=>(inR k (x+y),.pv (.one (.v (.int k (x+y)))))
 |.sub=>(inR k (x-y),.pv (.one (.v (.int k (x-y)))))
 |.mul=>(inR k (x * y),.pv (.one (.v (.int k (x * y)))))
 |.quo=>(y≠0∧inR k (x.tdiv y),.pv (.one (.v (.int k (x.tdiv y)))))
 |.rem=>(y≠0,.pv (.one (.v (.int k (x.tmod y)))))
 |.eql=>(True,.pv (bv (x==y)))
 |.neq=>(True,.pv (bv (x != y)))
 |.lss=>(True,.pv (bv (decide (x < y))))
 |.leq=>(True,.pv (bv (decide (x≤y))))
 |.gtr=>(True,.pv (bv (decide (x > y))))
 |.geq=>(True,.pv (bv (decide (x≥y))))
 |_=>bad
def zVe (op:BinOp) (x y:List UInt8):Prop×Ct:=
 match op with
 |.add=>(x.length+y.length≤maxLen,.pv (sv (x++y)))
 |.eql=>(True,.pv (bv (x==y)))
 |.neq=>(True,.pv (bv (!(x==y))))
 |.lss=>(True,.pv (bv (Op.bytesLess x y)))
 |.leq=>(True,.pv (bv (Op.bytesLess x y||x==y)))
 |.gtr=>(True,.pv (bv (!(Op.bytesLess x y||x==y))))
 |.geq=>(True,.pv (bv (!Op.bytesLess x y)))
 |_=>bad
def u8s:List (List PV)→Option (List Int)
 |[]=>some []
 |[.v (.int .u8 n)]::r=>(u8s r).map (n::·)
 |_=>none
def zLC:Ct→Option PV
 |.pv (.one x)=>some x.norm
 |.own _ k rows=>some (.sl k rows)
 |_=>none
def zAM (F:List Ct) (i:Nat):Nat→Option (List PV)
 |0=>some []
 |n+1=>match zLC (F.getD i .un),zAM F (i+1) n with
  |some x,some xs=>some (x::xs)
  |_,_=>none
def PVal.cells:PVal→List PV
 |.one x=>[x]
 |.agg cs=>cs
def zKy (cs:List PV) (off:Nat) (xs:List PV):List PV:=cs.take off++xs++cs.drop (off+xs.length)
def zBi (F:List Ct):List PV→List (Nat×Nat×Opd)→Prop×List PV
 |cs,[]=>(True,cs)
 |cs,(off,n,x)::rest=>
  match (zAf F x).pv? with
  |some p=>let r:=zBi F (zKy cs off p.cells) rest;((zAf F x).need∧p.cells.length=n∧off+n≤cs.length∧r.1,r.2)
  |none=>(False,[])
def zDJ (F:List Ct) (k:Nat):List Opd→Prop×List (List PV)
 |[]=>(True,[])
 |x::rest=>
  match (zAf F x).pv? with
  |some p=>let r:=zDJ F k rest;((zAf F x).need∧p.norm.cells.length=k∧r.1,p.norm.cells::r.2)
  |none=>(False,[])
def zAg:List Nat→List PV→List PV→Prop×Bool
 |[],[],[]=>(True,true)
 |0::ks,.v (.int k p)::xs,.v (.int k' q)::ys=>(k=k'∧(zAg ks xs ys).1,p==q&&(zAg ks xs ys).2)
 |1::ks,.v (.bool p)::xs,.v (.bool q)::ys=>((zAg ks xs ys).1,p==q&&(zAg ks xs ys).2)
 |2::ks,.v (.string p)::xs,.v (.string q)::ys=>((zAg ks xs ys).1,bys p==bys q&&(zAg ks xs ys).2)
 |_,_,_=>(False,false)
def zLD (F:List Ct):List Opd→Prop×List PV
 |[]=>(True,[])
 |x::r=>match (zAf F x).pv? with
  |some (.one p)=>((zAf F x).need∧(zLD F r).1,p::(zLD F r).2)
  |_=>(False,[])
def zBX (F:List Ct) (d:Int):Option Opd→Prop×Int
 |none=>(True,d)
 |some x=>match (zAf F x).pv? with
  |some (.one (.v (.int _ n)))=>((zAf F x).need,n)
  |_=>(False,0)
def ev (F:List Ct):VOp→Prop×Ct
 |.mv x=>match zAf F x with
  |.ptr j off=>(True,.ptr j off)
  |.un=>(True,.un)
  |.hdr n=>(True,.hdr n)
  |.stk _ _ rows=>(True,.hdr rows.length)
  |.hdp b k n=>(True,.hdp b k n)
  |.epp b k r f=>(True,.epp b k r f)
  |.mph b=>(True,.mph b)
  |.cl f caps=>(True,.cl f caps)
  |.ov (.one (.mp b _ _))=>(True,.mph b)
  |.tup xs=>(True,.tup xs)
  |.ov (.one (.os (some b) _ k rows))=>(True,.hdp b k rows.length)
  |.ov (.one (.os none _ _ rows))=>(True,.hdr rows.length)
  |c=>match c.pv? with
   |some p=>(c.need,.pv p)
   |none=>bad
 |.pick c x y=>match (zAf F c).pv?,(zAf F x).pv?,(zAf F y).pv? with
  |some (.one (.v (.bool t))),some (.one (.v (.bool p))),some (.one (.v (.bool q)))=>
   ((zAf F c).need∧(t=true→(zAf F x).need)∧(t=false→(zAf F y).need),.pv (bv (cond t p q)))
  |_,_,_=>bad
 |.ints op x y=>match (zAf F x).pv?,(zAf F y).pv? with
  |some (.one (.v (.int k p))),some (.one (.v (.int k' q)))=>((zAf F x).need∧(zAf F y).need∧k=k'∧(zSH op k p q).1,(zSH op k p q).2)
  |_,_=>bad
 |.strs op x y=>match (zAf F x).pv?,(zAf F y).pv? with
  |some (.one (.v (.string p))),some (.one (.v (.string q)))=>((zAf F x).need∧(zAf F y).need∧(zVe op (bys p) (bys q)).1,(zVe op (bys p) (bys q)).2)
  |_,_=>bad
 |.boo ng x y=>match (zAf F x).pv?,(zAf F y).pv? with
  |some (.one (.v (.bool p))),some (.one (.v (.bool q)))=>((zAf F x).need∧(zAf F y).need,.pv (bv (if ng then !(p==q) else p==q)))
  |_,_=>bad
 |.not x=>match (zAf F x).pv? with
  |some (.one (.v (.bool p)))=>((zAf F x).need,.pv (bv (!p)))
  |_=>bad
 |.neg x=>match (zAf F x).pv? with
  |some (.one (.v (.int k n)))=>((zAf F x).need∧inR k (-n),.pv (.one (.v (.int k (-n)))))
  |_=>bad
 |.conv k x=>match (zAf F x).pv? with
  |some (.one (.v (.int _ n)))=>((zAf F x).need∧inR k n,.pv (.one (.v (.int k n))))
  |_=>bad
 |.len str x=>match zAf F x with
  |.hdr n=>(str=false,.pv (iv n))
  |.stk _ _ rows=>(str=false,.pv (iv rows.length))
  |.hdp _ _ n=>(str=false,.pv (iv n))
  |.ov (.one (.os _ _ _ rows))=>(str=false,.pv (iv rows.length))
  |_=>match (zAf F x).pv? with
  |some (.one (.sl _ rows))=>(str=false∧(zAf F x).need,.pv (iv rows.length))
  |some (.one (.nl _))=>(str=false∧(zAf F x).need,.pv (iv 0))
  |some (.one (.v (.string s)))=>(str=true∧(zAf F x).need,.pv (iv (bys s).length))
  |_=>bad
 |.fldP x off=>match zAf F x with
  |.ptr j o=>(True,.ptr j (o+off))
  |.epp b k r f=>(True,.epp b k r (f+off))
  |_=>bad
 |.fldR x off n=>match (zAf F x).pv? with
  |some (.one (.fp cs))=>((zAf F x).need∧off+n≤cs.length,.pv (.one (.fp ((cs.drop off).take n))))
  |_=>bad
 |.ldR x n agg=>match (zAf F x).pv? with
  |some (.one (.fp cs))=>((zAf F x).need∧cs.length=n,if agg then .pv (.agg (cs.map PV.norm)) else .pv (.one (cs.headD (.nl 0)).norm))
  |_=>bad
 |.ldB x j base off n agg=>match zAf F x,zAM F (base+off) n with
  |.ptr j' off',some cs=>(j'=j∧off'=off,if agg then .pv (.agg cs) else .pv (.one (cs.headD (.nl 0))))
  |_,_=>bad
 |.idxA k x i=>match zAf F x with
  |.hdp b k' m=>match (zAf F i).pv? with
   |some (.one (.v (.int _ n)))=>((zAf F i).need∧k'=k∧0≤n∧n < m,.epp b k n.toNat 0)
   |_=>bad
  |_=>match (zAf F x).pv?,(zAf F i).pv? with
  |some (.one (.sl k' rows)),some (.one (.v (.int _ n)))=>((zAf F x).need∧(zAf F i).need∧k'=k∧0≤n∧n < rows.length,.pv (.one (.fp (rows.getD n.toNat []))))
  |_,_=>bad
 |.idxS x i=>match (zAf F x).pv?,(zAf F i).pv? with
  |some (.one (.v (.string s))),some (.one (.v (.int _ n)))=>((zAf F x).need∧(zAf F i).need∧0≤n∧n < (bys s).length,.pv (.one (.v (.int .u8 ((bys s).getD n.toNat 0).toNat))))
  |_,_=>bad
 |.sls x lo hi=>match (zAf F x).pv? with
  |some (.one (.v (.string s)))=>
   ((zAf F x).need∧(zBX F 0 lo).1∧(zBX F (bys s).length hi).1∧0≤(zBX F 0 lo).2∧(zBX F 0 lo).2≤(zBX F (bys s).length hi).2∧(zBX F (bys s).length hi).2≤(bys s).length,
    .pv (sv (((bys s).take (zBX F (bys s).length hi).2.toNat).drop (zBX F 0 lo).2.toNat)))
  |_=>bad
 |.slr k x lo hi=>match zAf F x with
  |.hdp b k' n=>(k'=k∧(zBX F 0 lo).1∧(zBX F n hi).1∧0≤(zBX F 0 lo).2∧(zBX F 0 lo).2≤(zBX F n hi).2∧(zBX F n hi).2≤n,.hds b k (zBX F 0 lo).2.toNat ((zBX F n hi).2.toNat-(zBX F 0 lo).2.toNat))
  |_=>match (zAf F x).pv? with
  |some (.one (.sl k' rows))=>
   ((zAf F x).need∧k'=k∧(zBX F 0 lo).1∧(zBX F rows.length hi).1∧0≤(zBX F 0 lo).2∧(zBX F 0 lo).2≤(zBX F rows.length hi).2∧(zBX F rows.length hi).2≤rows.length,
    .pv (.one (.sl k ((rows.take (zBX F rows.length hi).2.toNat).drop (zBX F 0 lo).2.toNat))))
  |_=>bad
 |.ext n i=>match F.getD n .un with
  |.tup xs=>match xs[i]? with
   |some x=>(True,.pv x)
   |none=>bad
  |_=>bad
 |.nilck x=>match zAf F x with
  |.ptr j off=>(True,.ptr j off)
  |.epp b k r f=>(True,.epp b k r f)
  |_=>match (zAf F x).pv? with
   |some (.one (.fp cs))=>((zAf F x).need,.pv (.one (.fp cs)))
   |_=>bad
 |.bld zeros parts=>((zBi F zeros parts).1,.pv (.agg (zBi F zeros parts).2))
 |.bslF k parts=>((zDJ F k parts).1,.pv (.one (.sl k (zDJ F k parts).2)))
 |.boxF x=>match (zAf F x).pv? with
  |some p=>((zAf F x).need,.pv (.one (.fp p.norm.cells)))
  |none=>bad
 |.steq ng ks x y=>match (zAf F x).pv?,(zAf F y).pv? with
  |some (.agg xs),some (.agg ys)=>((zAf F x).need∧(zAf F y).need∧(zAg ks xs ys).1,.pv (bv (if ng then !(zAg ks xs ys).2 else (zAg ks xs ys).2)))
  |_,_=>bad
 |.mx x y=>match (zAf F x).pv?,(zAf F y).pv? with
  |some (.one (.v (.int k p))),some (.one (.v (.int _ q)))=>((zAf F x).need∧(zAf F y).need,.pv (.one (.v (.int k (if q > p then q else p)))))
  |_,_=>bad
 |.ldh x j base off=>match zAf F x,F.getD (base+off) .un with
  |.ptr j' off',.ov (.one (.os (some b) _ k rows))=>(j'=j∧off'=off,.hdp b k rows.length)
  |.ptr j' off',.ov (.one (.os none _ _ rows))=>(j'=j∧off'=off,.hdr rows.length)
  |_,_=>bad
 |.b2s x=>match (zAf F x).pv? with
  |some (.one (.sl k rows))=>match u8s rows with
   |some ns=>((zAf F x).need∧k=1∧rows≠[],.pv (sv (ns.map fun n=>UInt8.ofNat n.toNat)))
   |none=>bad
  |_=>bad
 |.idxV n x i=>match (zAf F x).pv?,(zAf F i).pv? with
  |some (.agg cs),some (.one (.v (.int _ k)))=>((zAf F x).need∧(zAf F i).need∧cs.length=n∧0≤k∧k < n,.pv (.one (cs.getD k.toNat (.nl 0)).norm))
  |_,_=>bad
 |.ixB n x i=>match zAf F x,(zAf F i).pv? with
  |.ptr j off,some (.one (.v (.int _ k)))=>((zAf F i).need∧0≤k∧k < n,.ptr j (off+k.toNat))
  |_,_=>bad
 |.ldD x j base sz=>match zAf F x with
  |.ptr j' off'=>match (if off' < sz then zLC (F.getD (base+off') .un) else none) with
   |some p=>(j'=j,.pv (.one p))
   |none=>bad
  |_=>bad
 |.pnl ng pt x=>match pt,(zAf F x).pv? with
  |true,some (.one (.fp _))=>((zAf F x).need,.pv (bv ng))
  |true,some (.one (.v (.pointer none)))=>((zAf F x).need,.pv (bv (!ng)))
  |false,some (.one (.v .nilIface))=>((zAf F x).need,.pv (bv (!ng)))
  |false,some (.one (.v (.iface _ _)))=>((zAf F x).need,.pv (bv ng))
  |_,_=>bad
 |.mkf f caps=>((zLD F caps).1,.pv (.one (.clo f (zLD F caps).2)))
 |.mki t x=>match (zAf F x).pv? with
  |some (.one (.v u))=>((zAf F x).need,.pv (.one (.v (.iface t u))))
  |some (.agg [])=>((zAf F x).need,.pv (.one (.v (.iface t (.agg #[])))))
  |_=>bad
def zEc (P:Program) (t:TypeId):Option Nat:=(P.info? t).map (·.size)
def zB2 (P:Program) (t:TypeId):Option Bool:=(P.underlying t).map fun d=>match d with|.struct _|.array _ _=>true|_=>false
def zDj:List PV→List Value→Bool
 |[],[]=>true
 |x::xs,u::us=>zPM (.one x) u&&zDj xs us
 |_,_=>false
def fieldAt? (P:Program) (s:TypeId) (f:Nat):Option Field:=
 match P.underlying s with
 |some (.struct fs)=>fs[f]?
 |_=>none
def zFJ (N:Nat):Option Opd→Option Operand→Bool
 |none,none=>true
 |some x,some y=>zAc N x y
 |_,_=>false
def zCq (P:Program) (N:Nat) (t:TypeId):List (Nat×Nat×Opd)→List (Nat×Operand)→Bool
 |[],[]=>true
 |(off,n,x)::xs,(f,y)::ys=>(match fieldAt? P t f with|some fd=>fd.offset==off&&(zEc P fd.type==some n)|none=>false)&&zAc N x y&&zCq P N t xs ys
 |_,_=>false
def zGV (N:Nat):List (Nat×Nat×Opd)→List (Nat×Operand)→Bool
 |[],[]=>true
 |(off,n,x)::xs,(f,y)::ys=>off==f&&n==1&&zAc N x y&&zGV N xs ys
 |_,_=>false
def zVf (P:Program) (t n:Nat):Bool:=match P.underlying t with|some (.array m e)=>m==n&&zB2 P e==some false&&zEc P e==some 1|_=>false
def zJv (P:Program) (t:TypeId):Bool:=match P.underlying t with|some (.struct fs)=>(fs.toList.mapM (fun f=>(P.info? f.type).map fun i=>(f.offset,i.size))).isSome|_=>false
def zFg (N:Nat):Nat→List Opd→List (Nat×Operand)→Bool
 |_,[],[]=>true
 |i,x::xs,(j,y)::ys=>i==j&&zAc N x y&&zFg N (i+1) xs ys
 |_,_,_=>false
def sliceElem? (P:Program) (t:TypeId):Option TypeId:=match P.underlying t with|some (.slice e)=>some e|_=>none
def zN9 (P:Program) (t:TypeId) (k:IntKind):Bool:=match P.underlying t with|some (.int k')=>decide (k=k')|_=>false
def zFh (P:Program) (t:TypeId):Bool:=match P.underlying t with|some .string=>true|_=>false
def zPN (P:Program) (t:TypeId):Bool:=match P.underlying t with|some .bool=>true|_=>false
def zJw (P:Program) (t:TypeId):Bool:=match P.underlying t with|some (.slice _)=>true|_=>false
def zF7 (N:Nat):List Opd→List Operand→Bool
 |[],[]=>true
 |x::xs,y::ys=>zAc N x y&&zF7 N xs ys
 |_,_=>false
def zVg (P:Program) (t:TypeId):Bool:=match P.underlying t with|some (.interface _)=>true|none=>true|_=>false
def yFU (P:Program) (t:TypeId):Bool:=match P.underlying t with|some (.pointer _)=>true|_=>false
def yJV (P:Program) (t:TypeId):Bool:=match P.underlying t with|some (.interface _)=>true|_=>false
def zYk (P:Program) (t:TypeId):Nat→Bool
 |0=>match P.underlying t with|some (.int _)=>true|_=>false
 |1=>zPN P t
 |2=>zFh P t
 |_=>false
def zCl (P:Program):Nat→List Nat→List Field→Bool
 |_,[],[]=>true
 |i,k::ks,f::fs=>f.offset==i&&f.name != "_" && zYk P f.type k&&zCl P (i+1) ks fs
 |_,_,_=>false
def zCm (P:Program) (t:TypeId) (ks:List Nat):Bool:=match P.underlying t with
 |some (.struct fs)=>zCl P 0 ks fs.toList&&!P.stoodInHeld t&&!P.eqGuardType P.depth t
 |_=>false
def yLW:Callee→Bool
 |.builtin .len=>true
 |_=>false
def yHU (P:Program) (E:Env) (v:VOp) (op:Op):Bool:=
 match v with
 |.mv x=>(match op with|.move y=>zAc E.N x y|.assign y=>zAc E.N x y|_=>false)
 |.pick c x y=>(match op with|.pick c' x' y'=>zAc E.N c c'&&zAc E.N x x'&&zAc E.N y y'|_=>false)
 |.ints op1 x y=>(match op with|.binOp op' _ x' y' _=>decide (op1=op')&&zAc E.N x x'&&zAc E.N y y'|_=>false)
 |.strs op1 x y=>(match op with|.binOp op' _ x' y' _=>decide (op1=op')&&zAc E.N x x'&&zAc E.N y y'|_=>false)
 |.boo ng x y=>(match op with|.binOp op' t x' y' _=>decide (op'=if ng then .neq else .eql)&&zPN P t&&zAc E.N x x'&&zAc E.N y y'|_=>false)
 |.not x=>(match op with|.unOp op' _ y=>decide (op'=.not)&&zAc E.N x y|_=>false)
 |.neg x=>(match op with|.unOp op' _ y=>decide (op'=.neg)&&zAc E.N x y|_=>false)
 |.conv k x=>(match op with|.convert s t y=>zN9 P t k&&(P.underlying s).isSome&&zAc E.N x y|_=>false)
 |.len str x=>(match op with|.call c=>yLW c.callee&&(match c.args.toList,c.argTypes.toList with|[y],[t]=>zAc E.N x y&&(if str then zFh P t else zJw P t)|_,_=>false)|_=>false)
 |.fldP x off=>(match op with|.fieldAddr s y f=>zAc E.N x y&&(match fieldAt? P s f with|some fd=>fd.offset==off&&(match zEc P fd.type with|some n=>decide (0 < n)|none=>false)|none=>false)|_=>false)
 |.fldR x off n=>(match op with|.fieldAddr s y f=>zAc E.N x y&&(match fieldAt? P s f with|some fd=>fd.offset==off&&(zEc P fd.type==some n)&&decide (0 < n)|none=>false)|_=>false)
 |.ldR x n agg=>(match op with|.load t y=>zAc E.N x y&&(zB2 P t==some agg)&&(zEc P t==some n)&&(agg||n==1)|_=>false)
 |.ldB x j base off n agg=>(match op with|.load t y=>(match E.Γ[j]? with|some bn=>bn.1==base&&decide (off+n≤bn.2)|none=>false)&&zAc E.N x y&&(zB2 P t==some agg)&&(zEc P t==some n)&&(agg||n==1)|_=>false)
 |.ldh x j base off=>(match op with|.load t y=>(match E.Γ[j]? with|some bn=>bn.1==base&&decide (off+1≤bn.2)|none=>false)&&zAc E.N x y&&(zB2 P t==some false)&&(zEc P t==some 1)|_=>false)
 |.idxA k x i=>(match op with|.indexAddr t y j=>zAc E.N x y&&zAc E.N i j&&(match sliceElem? P t with|some e=>zEc P e==some k|none=>false)|_=>false)
 |.idxS x i=>(match op with|.index t y j=>zAc E.N x y&&zAc E.N i j&&zFh P t|_=>false)
 |.sls x lo hi=>(match op with|.slice t y lo' hi' mx=>mx.isNone&&zAc E.N x y&&zFJ E.N lo lo'&&zFJ E.N hi hi'&&zFh P t|_=>false)
 |.slr k x lo hi=>(match op with|.slice t y lo' hi' mx=>mx.isNone&&zAc E.N x y&&zFJ E.N lo lo'&&zFJ E.N hi hi'&&(match sliceElem? P t with|some e=>zEc P e==some k|none=>false)|_=>false)
 |.ext n i=>(match op with|.extract y i'=>zAc E.N (.t n) y&&i==i'|_=>false)
 |.nilck x=>(match op with|.nilCheck y=>zAc E.N x y|_=>false)
 |.bld zeros parts=>(match op with|.build t ps=>(match (P.info? t).bind (·.zero) with|some (.agg z)=>zDj zeros z.toList|_=>false)&&((zCq P E.N t parts ps.toList&&zJv P t)||(zVf P t zeros.length&&zGV E.N parts ps.toList))|_=>false)
 |.b2s x=>(match op with|.convert s t y=>(match sliceElem? P s with|some e=>zN9 P e .u8|none=>false)&&zFh P t&&zAc E.N x y|_=>false)
 |.idxV n x i=>(match op with|.index t y j=>zAc E.N x y&&zAc E.N i j&&zVf P t n|_=>false)
 |.ixB n x i=>(match op with|.indexAddr t y j=>zAc E.N x y&&zAc E.N i j&&zVf P t n|_=>false)
 |.ldD x j base sz=>(match op with|.load t y=>(match E.Γ[j]? with|some bn=>bn.1==base&&decide (sz≤bn.2)|none=>false)&&zAc E.N x y&&(zB2 P t==some false)&&(zEc P t==some 1)|_=>false)
 |.pnl ng pt x=>(match op with|.binOp op' t x' (.const c) _=>decide (op'=if ng then .neq else .eql)&&zAc E.N x x'&&(match pt,c with|true,.pointer none=>yFU P t|false,.nilIface=>yJV P t|_,_=>false)|_=>false)
 |.bslF k parts=>(match op with|.buildSlice t n ps=>zFg E.N 0 parts ps.toList&&n==parts.length&&decide (n * k≤2 ^ 24)&&decide (0 < k)&&(match sliceElem? P t with|some e=>zEc P e==some k&&(match (P.info? e).bind (·.zero) with|some z=>z.cells.size==k|none=>false)|none=>false)|_=>false)
 |.boxF x=>(match op with|.box _ y=>zAc E.N x y|_=>false)
 |.mkf f caps=>(match op with|.makeFunc (.func g) first captured=>f==g&&first.isEmpty&&zF7 E.N caps captured.toList|_=>false)
 |.steq ng ks x y=>(match op with|.binOp op' t x' y' _=>decide (op'=if ng then .neq else .eql)&&zCm P t ks&&zAc E.N x x'&&zAc E.N y y'|_=>false)
 |.mx x y=>(match op with|.call c=>(match c.callee with|.builtin .max=>true|_=>false)&&(match c.args.toList with|[x',y']=>zAc E.N x x'&&zAc E.N y y'|_=>false)|_=>false)
 |.mki t x=>(match op with|.makeInterface t' y=>t==t'&&!zVg P t&&zAc E.N x y|_=>false)
end Go.Hx
