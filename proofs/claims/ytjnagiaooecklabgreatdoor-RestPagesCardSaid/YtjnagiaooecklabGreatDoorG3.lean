/-
 THE ABSTRACT LAYER, THIRD TEXT: the operations that only make a value, evaluated on the abstract frame; that evaluation is sound. Generic over the program. No condition.
-/
import Derived.Test.YtjnagiaooecklabGreatDoorG2
import Derived.Laws.StructEq
import Derived.Laws.Concat
set_option linter.all false
namespace Go.Hx
open Go.RowKit
variable [Glob]
inductive Opd where
 |t (n:Nat)
 |c (x:PVal)
 |f (n:Nat)
 deriving Inhabited
def zTO:Value→Value→Bool
 |.int k n,.int k' n'=>decide (k=k')&&decide (n=n')
 |.bool a,.bool b=>a==b
 |.string a,.string b=>decide (a.data.toList=b.data.toList)
 |.slice none 0 0,.slice none 0 0=>true
 |.nilIface,.nilIface=>true
 |.nilFunc,.nilFunc=>true
 |.pointer none,.pointer none=>true
 |_,_=>false
theorem zTj {a b:Value} (h:zTO a b=true):a=b:=by
 unfold zTO at h
 split at h<;>simp_all
 all_goals try rfl
 rename_i a b
 cases a with|mk da=>cases b with|mk db=>simp_all
def zTP:PVal→Value→Bool
 |.one (.v x),u=>zTO x u&&zFI x
 |.one (.nl _),.slice none 0 0=>true
 |_,_=>false
def zAn (F:List Ct):Opd→Ct
 |.t n=>F.getD n .un
 |.c x=>.pv x
 |.f n=>.pv (.one (.clo n []))
def zAk (N:Nat):Opd→Operand→Bool
 |.t n,.tmp k=>n==k&&decide (n < N)
 |.c x,.const v=>zTP x v
 |.f n,.func g=>n==g
 |_,_=>false
def Ct.need:Ct→Prop
 |.gd t _=>t=true
 |_=>True
def Ct.pv?:Ct→Option PVal
 |.pv x=>some x
 |.own _ k rows=>some (.one (.sl k rows))
 |.gd _ x=>some x
 |_=>none
def PV.un:PV→PV
 |.w _ x=>x.un
 |x=>x
def PVal.un:PVal→PVal
 |.one x=>.one x.un
 |.agg cs=>.agg cs
def Ct.pw? (c:Ct):Option PVal:=c.pv?.map PVal.un
theorem Rp.un {m:Mem}:∀ {x:PV} {u:Value},Rp m x u→Rp m x.un u
 |.w φ x,u,h=>by simp only [Rp] at h;simp only [PV.un];exact Rp.un h.2
 |.v _,_,h=>h
 |.sl _ _,_,h=>h
 |.nl _,_,h=>h
 |.fp _,_,h=>h
 |.clo _ _,_,h=>h
 |.any,_,h=>h
theorem RpV.un {m:Mem} {x:PVal} {u:Value} (h:RpV m x u):RpV m x.un u:=by
 cases x with
 |one x=>exact Rp.un h
 |agg cs=>exact h
theorem yLH {m:Mem} {x:PVal} {u:Value} (h:zTP x u=true):RpV m x u:=by
 unfold zTP at h
 split at h
 ·simp only [Bool.and_eq_true] at h
  exact ⟨(zTj h.1).symm,h.2⟩
 ·rfl
 ·cases h
theorem OwnRep.rp {m:Mem} {w:World} {ow:Ow} {t:Tag} {e k:Nat} {rows:List (List PV)} {u:Value} (h:OwnRep m w ow t e k rows u):Rp m (.sl k rows) u:=by
 obtain ⟨⟨xs,h1,h2⟩,h3⟩:=h
 simp only [Rp]
 rcases h2 with ⟨rfl,h4⟩|⟨g,cap,cur,rfl,_,hh,h5,h6,_⟩
 ·have:rows=[]:=List.eq_nil_of_length_eq_zero h4
  subst this
  exact ⟨none,0,rfl,Nat.le_refl _,by simp [maxLen],.inl rfl⟩
 ·exact ⟨_,cap,rfl,h5,h6,.inr ⟨g,0,rfl,(h3 g rfl).2.1⟩⟩
section
variable {E:Env} {S:Start} {m:Mem} {β:Bx} {ow:Ow} {F:List Ct} {a:Act} {w:World}
theorem zBd (h:InvG E S m β ow F a w) {x:Opd} {y:Operand} (hk:zAk E.N x y=true) {p:PVal} (hn:(zAn F x).need) (hp:(zAn F x).pv?=some p):RpV m p (a.eval y):=by
 cases x with
 |t n=>
  cases y<;>simp only [zAk] at hk<;>try cases hk
  simp only [Bool.and_eq_true,beq_iff_eq,decide_eq_true_eq] at hk
  obtain ⟨rfl,hn'⟩:=hk
  have hs:=h.slots n hn'
  simp only [zAn] at hn hp
  simp only [Act.eval]
  generalize F.getD n .un=c at *
  cases c with
  |un=>cases hp
  |pv q=>simp only [Ct.pv?,Option.some.injEq] at hp;subst hp;exact hs
  |own e k rows=>simp only [Ct.pv?,Option.some.injEq] at hp;subst hp;exact OwnRep.rp hs
  |ptr j off=>cases hp
  |tup xs=>cases hp
  |gd t q=>simp only [Ct.pv?,Option.some.injEq] at hp;subst hp;exact hs.1 hn
  |stk e k rows=>cases hp
  |hdr n=>cases hp
  |ov x=>cases hp
  |hdp b k n=>cases hp
  |hds b k i n=>cases hp
  |epp b k r f=>cases hp
  |mph b=>cases hp
  |cl f caps=>cases hp
  |una=>cases hp
 |c q=>
  cases y<;>simp only [zAk] at hk<;>try cases hk
  simp only [zAn,Ct.pv?,Option.some.injEq] at hp
  subst hp
  exact yLH hk
 |f n=>
  cases y<;>simp only [zAk] at hk<;>try cases hk
  simp only [beq_iff_eq] at hk
  subst hk
  simp only [zAn,Ct.pv?,Option.some.injEq] at hp
  subst hp
  exact ⟨[],rfl,by simp [RpL]⟩
theorem zTQ (h:InvG E S m β ow F a w) {x:Opd} {y:Operand} (hk:zAk E.N x y=true) {p:PVal} (hn:(zAn F x).need) (hp:(zAn F x).pw?=some p):RpV m p (a.eval y):=by
 unfold Ct.pw? at hp
 cases hq:(zAn F x).pv? with
 |none=>rw [hq] at hp;cases hp
 |some q=>
  rw [hq] at hp
  simp only [Option.map_some,Option.some.injEq] at hp
  subst hp
  exact (zBd h hk hn hq).un
theorem zC5 (h:InvG E S m β ow F a w) {x:Opd} {y:Operand} (hk:zAk E.N x y=true) {j off:Nat} (hp:zAn F x=.ptr j off):∃ b,β j=some b∧a.eval y=.pointer (some ⟨b,off,none⟩):=by
 cases x with
 |t n=>
  cases y<;>simp only [zAk] at hk<;>try cases hk
  simp only [Bool.and_eq_true,beq_iff_eq,decide_eq_true_eq] at hk
  obtain ⟨rfl,hn'⟩:=hk
  have hs:=h.slots n hn'
  simp only [zAn] at hp
  rw [hp] at hs
  exact hs
 |c q=>simp [zAn] at hp
 |f n=>simp [zAn] at hp
theorem yTg (h:InvG E S m β ow F a w) {n:Nat} {y:Operand} (hk:zAk E.N (.t n) y=true) {xs:List PVal} (hp:F.getD n .un=.tup xs):
  ∃ us:List Value,a.eval y=.tuple us.toArray∧RpVL m xs us:=by
 cases y<;>simp only [zAk] at hk<;>try cases hk
 simp only [Bool.and_eq_true,beq_iff_eq,decide_eq_true_eq] at hk
 obtain ⟨rfl,hn'⟩:=hk
 have hs:=h.slots n hn'
 rw [hp] at hs
 exact hs
end
def PV.norm:PV→PV
 |.nl k=>.sl k []
 |x=>x
def PVal.norm:PVal→PVal
 |.one x=>.one x.norm
 |.agg cs=>.agg (cs.map PV.norm)
theorem Rp.norm {m:Mem} {x:PV} {u:Value} (h:Rp m x u):Rp m x.norm u:=by
 cases x with
 |nl k=>simp only [Rp] at h;subst h;simp only [PV.norm,Rp];exact ⟨none,0,rfl,Nat.le_refl _,by simp [maxLen],.inl trivial⟩
 |_=>exact h
theorem RpL.norm {m:Mem}:∀ {cs:List PV} {us:List Value},RpL m cs us→RpL m (cs.map PV.norm) us
 |[],_,h=>h
 |x::xs,us,h=>by
  simp only [RpL] at h
  obtain ⟨u,us',h1,h2,h3⟩:=h
  simp only [List.map_cons,RpL]
  exact ⟨u,us',h1,h2.norm,h3.norm⟩
theorem RpV.norm {m:Mem} {x:PVal} {u:Value} (h:RpV m x u):RpV m x.norm u:=by
 cases x with
 |one x=>exact Rp.norm h
 |agg cs=>obtain ⟨us,h1,h2⟩:=h;exact ⟨us,h1,h2.norm⟩
abbrev iv (n:Int):PVal:=.one (.v (.int .i64 n))
abbrev bv (b:Bool):PVal:=.one (.v (.bool b))
abbrev mkS (l:List UInt8):Value:=.string ⟨l.toArray⟩
abbrev sv (l:List UInt8):PVal:=.one (.v (mkS l))
def bys (s:ByteArray):List UInt8:=s.data.toList
@[simp] theorem yVn (l:List UInt8):bys ⟨l.toArray⟩=l:=by simp [bys]
inductive VOp where
 |mv (x:Opd)
 |pick (c a b:Opd)
 |ints (op:BinOp) (x y:Opd)
 |strs (op:BinOp) (x y:Opd)
 |not (x:Opd)
 |len (str:Bool) (x:Opd)
 |fldP (x:Opd) (off:Nat)
 |fldR (x:Opd) (off n:Nat)
 |ldR (x:Opd) (n:Nat) (agg:Bool)
 |ldB (x:Opd) (j base off n:Nat) (agg:Bool)
 |idxA (k:Nat) (x i:Opd)
 |idxS (x i:Opd)
 |slr (k:Nat) (x:Opd) (lo hi:Option Opd)
 |ext (n i:Nat)
 |nilck (x:Opd)
 |bld (zeros:List PV) (parts:List (Nat×Nat×Opd))
 |bslF (k:Nat) (parts:List Opd)
 |boxF (x:Opd)
 |mkf (f:Nat) (caps:List Opd)
 |mki (t:Nat) (x:Opd)
 |steq (ng:Bool) (ks:List Nat) (x y:Opd)
 |ldh (x:Opd) (j base off:Nat)
 |idxV (n:Nat) (x i:Opd)
 |ixB (n:Nat) (x i:Opd)
 |ldD (x:Opd) (j base sz:Nat)
 |pnl (ng pt:Bool) (x:Opd)
 deriving Inhabited
def inR (k:IntKind) (n:Int):Prop:=k.min≤n∧n≤k.max
def bad:Prop×Ct:=(False,.un)
def zYj (op:BinOp) (k:IntKind) (x y:Int):Prop×Ct:=
 match op with
 |.add=>(inR k (x+y),.pv (.one (.v (.int k (x+y)))))
 |.sub=>(inR k (x-y),.pv (.one (.v (.int k (x-y)))))
 |.mul=>(inR k (x * y),.pv (.one (.v (.int k (x * y)))))
 |.quo=>(y≠0∧inR k (x.tdiv y),.pv (.one (.v (.int k (x.tdiv y)))))
 |.rem=>(y≠0,.pv (.one (.v (.int k (x.tmod y)))))
 |.eql=>(True,.pv (bv (x==y)))
 |.neq=>(True,.pv (bv (x != y)))
 |.lss=>(True,.pv (bv (decide (x < y))))
 |.leq=>(True,.pv (bv (decide (x≤y))))
 |.gtr=>(True,.pv (bv (decide (x > y))))
 |.geq=>(True,.pv (bv (decide (x≥y))))
 |_=>bad
def yCf (op:BinOp) (x y:List UInt8):Prop×Ct:=
 match op with
 |.add=>(x.length+y.length≤maxLen,.pv (sv (x++y)))
 |.eql=>(True,.pv (bv (x==y)))
 |.neq=>(True,.pv (bv (!(x==y))))
 |.lss=>(True,.pv (bv (Op.bytesLess x y)))
 |.leq=>(True,.pv (bv (Op.bytesLess x y||x==y)))
 |.gtr=>(True,.pv (bv (!(Op.bytesLess x y||x==y))))
 |.geq=>(True,.pv (bv (!Op.bytesLess x y)))
 |_=>bad
def zP9:Ct→Option PV
 |.pv (.one x)=>some x.norm
 |.own _ k rows=>some (.sl k rows)
 |_=>none
def zBq (F:List Ct) (i:Nat):Nat→Option (List PV)
 |0=>some []
 |n+1=>match zP9 (F.getD i .un),zBq F (i+1) n with
  |some x,some xs=>some (x::xs)
  |_,_=>none
def PVal.cells:PVal→List PV
 |.one x=>[x]
 |.agg cs=>cs
def zLR (cs:List PV) (off:Nat) (xs:List PV):List PV:=cs.take off++xs++cs.drop (off+xs.length)
def zFm (F:List Ct):List PV→List (Nat×Nat×Opd)→Prop×List PV
 |cs,[]=>(True,cs)
 |cs,(off,n,x)::rest=>
  match (zAn F x).pv? with
  |some p=>let r:=zFm F (zLR cs off p.cells) rest;((zAn F x).need∧p.cells.length=n∧off+n≤cs.length∧r.1,r.2)
  |none=>(False,[])
def zEI (F:List Ct) (k:Nat):List Opd→Prop×List (List PV)
 |[]=>(True,[])
 |x::rest=>
  match (zAn F x).pv? with
  |some p=>let r:=zEI F k rest;((zAn F x).need∧p.norm.cells.length=k∧r.1,p.norm.cells::r.2)
  |none=>(False,[])
def zAm:List Nat→List PV→List PV→Prop×Bool
 |[],[],[]=>(True,true)
 |0::ks,.v (.int k p)::xs,.v (.int k' q)::ys=>(k=k'∧(zAm ks xs ys).1,p==q&&(zAm ks xs ys).2)
 |1::ks,.v (.bool p)::xs,.v (.bool q)::ys=>((zAm ks xs ys).1,p==q&&(zAm ks xs ys).2)
 |2::ks,.v (.string p)::xs,.v (.string q)::ys=>((zAm ks xs ys).1,bys p==bys q&&(zAm ks xs ys).2)
 |_,_,_=>(False,false)
def zMJ (F:List Ct):List Opd→Prop×List PV
 |[]=>(True,[])
 |x::r=>match (zAn F x).pv? with
  |some (.one p)=>((zAn F x).need∧(zMJ F r).1,p::(zMJ F r).2)
  |_=>(False,[])
def zC6 (F:List Ct) (d:Int):Option Opd→Prop×Int
 |none=>(True,d)
 |some x=>match (zAn F x).pv? with
  |some (.one (.v (.int _ n)))=>((zAn F x).need,n)
  |_=>(False,0)
def ev (F:List Ct):VOp→Prop×Ct
 |.mv x=>match zAn F x with
  |.ptr j off=>(True,.ptr j off)
  |.un=>(True,.un)
  |.hdr n=>(True,.hdr n)
  |.stk _ _ rows=>(True,.hdr rows.length)
  |.hdp b k n=>(True,.hdp b k n)
  |.epp b k r f=>(True,.epp b k r f)
  |.mph b=>(True,.mph b)
  |.cl f caps=>(True,.cl f caps)
  |.ov (.one (.mp b _ _))=>(True,.mph b)
  |.tup xs=>(True,.tup xs)
  |.ov (.one (.os (some b) _ k rows))=>(True,.hdp b k rows.length)
  |.ov (.one (.os none _ _ rows))=>(True,.hdr rows.length)
  |c=>match c.pv? with
   |some p=>(c.need,.pv p)
   |none=>bad
 |.pick c x y=>match (zAn F c).pv?,(zAn F x).pv?,(zAn F y).pv? with
  |some (.one (.v (.bool t))),some (.one (.v (.bool p))),some (.one (.v (.bool q)))=>
   ((zAn F c).need∧(t=true→(zAn F x).need)∧(t=false→(zAn F y).need),.pv (bv (cond t p q)))
  |_,_,_=>bad
 |.ints op x y=>match (zAn F x).pv?,(zAn F y).pv? with
  |some (.one (.v (.int k p))),some (.one (.v (.int k' q)))=>((zAn F x).need∧(zAn F y).need∧k=k'∧(zYj op k p q).1,(zYj op k p q).2)
  |_,_=>bad
 |.strs op x y=>match (zAn F x).pv?,(zAn F y).pv? with
  |some (.one (.v (.string p))),some (.one (.v (.string q)))=>((zAn F x).need∧(zAn F y).need∧(yCf op (bys p) (bys q)).1,(yCf op (bys p) (bys q)).2)
  |_,_=>bad
 |.not x=>match (zAn F x).pv? with
  |some (.one (.v (.bool p)))=>((zAn F x).need,.pv (bv (!p)))
  |_=>bad
 |.len str x=>match zAn F x with
  |.hdr n=>(str=false,.pv (iv n))
  |.stk _ _ rows=>(str=false,.pv (iv rows.length))
  |.hdp _ _ n=>(str=false,.pv (iv n))
  |.ov (.one (.os _ _ _ rows))=>(str=false,.pv (iv rows.length))
  |_=>match (zAn F x).pw? with
  |some (.one (.sl _ rows))=>(str=false∧(zAn F x).need,.pv (iv rows.length))
  |some (.one (.nl _))=>(str=false∧(zAn F x).need,.pv (iv 0))
  |some (.one (.v (.string s)))=>(str=true∧(zAn F x).need,.pv (iv (bys s).length))
  |_=>bad
 |.fldP x off=>match zAn F x with
  |.ptr j o=>(True,.ptr j (o+off))
  |.epp b k r f=>(True,.epp b k r (f+off))
  |_=>bad
 |.fldR x off n=>match (zAn F x).pw? with
  |some (.one (.fp cs))=>((zAn F x).need∧off+n≤cs.length,.pv (.one (.fp ((cs.drop off).take n))))
  |_=>bad
 |.ldR x n agg=>match (zAn F x).pw? with
  |some (.one (.fp cs))=>((zAn F x).need∧cs.length=n,if agg then .pv (.agg (cs.map PV.norm)) else .pv (.one (cs.headD (.nl 0)).norm))
  |_=>bad
 |.ldB x j base off n agg=>match zAn F x,zBq F (base+off) n with
  |.ptr j' off',some cs=>(j'=j∧off'=off,if agg then .pv (.agg cs) else .pv (.one (cs.headD (.nl 0))))
  |_,_=>bad
 |.idxA k x i=>match zAn F x with
  |.hdp b k' m=>match (zAn F i).pv? with
   |some (.one (.v (.int _ n)))=>((zAn F i).need∧k'=k∧0≤n∧n < m,.epp b k n.toNat 0)
   |_=>bad
  |_=>match (zAn F x).pw?,(zAn F i).pv? with
  |some (.one (.sl k' rows)),some (.one (.v (.int _ n)))=>((zAn F x).need∧(zAn F i).need∧k'=k∧0≤n∧n < rows.length,.pv (.one (.fp (rows.getD n.toNat []))))
  |_,_=>bad
 |.idxS x i=>match (zAn F x).pv?,(zAn F i).pv? with
  |some (.one (.v (.string s))),some (.one (.v (.int _ n)))=>((zAn F x).need∧(zAn F i).need∧0≤n∧n < (bys s).length,.pv (.one (.v (.int .u8 ((bys s).getD n.toNat 0).toNat))))
  |_,_=>bad
 |.slr k x lo hi=>match zAn F x with
  |.hdp b k' n=>(k'=k∧(zC6 F 0 lo).1∧(zC6 F n hi).1∧0≤(zC6 F 0 lo).2∧(zC6 F 0 lo).2≤(zC6 F n hi).2∧(zC6 F n hi).2≤n,.hds b k (zC6 F 0 lo).2.toNat ((zC6 F n hi).2.toNat-(zC6 F 0 lo).2.toNat))
  |_=>match (zAn F x).pv? with
  |some (.one (.sl k' rows))=>
   ((zAn F x).need∧k'=k∧(zC6 F 0 lo).1∧(zC6 F rows.length hi).1∧0≤(zC6 F 0 lo).2∧(zC6 F 0 lo).2≤(zC6 F rows.length hi).2∧(zC6 F rows.length hi).2≤rows.length,
    .pv (.one (.sl k ((rows.take (zC6 F rows.length hi).2.toNat).drop (zC6 F 0 lo).2.toNat))))
  |_=>bad
 |.ext n i=>match F.getD n .un with
  |.tup xs=>match xs[i]? with
   |some x=>(True,.pv x)
   |none=>bad
  |_=>bad
 |.nilck x=>match zAn F x with
  |.ptr j off=>(True,.ptr j off)
  |.epp b k r f=>(True,.epp b k r f)
  |_=>match (zAn F x).pv? with
   |some (.one (.fp cs))=>((zAn F x).need,.pv (.one (.fp cs)))
   |_=>bad
 |.bld zeros parts=>((zFm F zeros parts).1,.pv (.agg (zFm F zeros parts).2))
 |.bslF k parts=>((zEI F k parts).1,.pv (.one (.sl k (zEI F k parts).2)))
 |.boxF x=>match (zAn F x).pv? with
  |some p=>((zAn F x).need,.pv (.one (.fp p.norm.cells)))
  |none=>bad
 |.steq ng ks x y=>match (zAn F x).pv?,(zAn F y).pv? with
  |some (.agg xs),some (.agg ys)=>((zAn F x).need∧(zAn F y).need∧(zAm ks xs ys).1,.pv (bv (if ng then !(zAm ks xs ys).2 else (zAm ks xs ys).2)))
  |_,_=>bad
 |.ldh x j base off=>match zAn F x,F.getD (base+off) .un with
  |.ptr j' off',.ov (.one (.os (some b) _ k rows))=>(j'=j∧off'=off,.hdp b k rows.length)
  |.ptr j' off',.ov (.one (.os none _ _ rows))=>(j'=j∧off'=off,.hdr rows.length)
  |_,_=>bad
 |.idxV n x i=>match (zAn F x).pv?,(zAn F i).pv? with
  |some (.agg cs),some (.one (.v (.int _ k)))=>((zAn F x).need∧(zAn F i).need∧cs.length=n∧0≤k∧k < n,.pv (.one (cs.getD k.toNat (.nl 0)).norm))
  |_,_=>bad
 |.ixB n x i=>match zAn F x,(zAn F i).pv? with
  |.ptr j off,some (.one (.v (.int _ k)))=>((zAn F i).need∧0≤k∧k < n,.ptr j (off+k.toNat))
  |_,_=>bad
 |.ldD x j base sz=>match zAn F x with
  |.ptr j' off'=>match (if off' < sz then zP9 (F.getD (base+off') .un) else none) with
   |some p=>(j'=j,.pv (.one p))
   |none=>bad
  |_=>bad
 |.pnl ng pt x=>match pt,(zAn F x).pv? with
  |true,some (.one (.fp _))=>((zAn F x).need,.pv (bv ng))
  |true,some (.one (.v (.pointer none)))=>((zAn F x).need,.pv (bv (!ng)))
  |false,some (.one (.v .nilIface))=>((zAn F x).need,.pv (bv (!ng)))
  |false,some (.one (.v (.iface _ _)))=>((zAn F x).need,.pv (bv ng))
  |_,_=>bad
 |.mkf f caps=>((zMJ F caps).1,.pv (.one (.clo f (zMJ F caps).2)))
 |.mki t x=>match (zAn F x).pv? with
  |some (.one (.v u))=>((zAn F x).need,.pv (.one (.v (.iface t u))))
  |some (.agg [])=>((zAn F x).need,.pv (.one (.v (.iface t (.agg #[])))))
  |_=>bad
def zEg (P:Program) (t:TypeId):Option Nat:=(P.info? t).map (·.size)
def zBV (P:Program) (t:TypeId):Option Bool:=(P.underlying t).map fun d=>match d with|.struct _|.array _ _=>true|_=>false
def zFK:List PV→List Value→Bool
 |[],[]=>true
 |x::xs,u::us=>zTP (.one x) u&&zFK xs us
 |_,_=>false
def fieldAt? (P:Program) (s:TypeId) (f:Nat):Option Field:=
 match P.underlying s with
 |some (.struct fs)=>fs[f]?
 |_=>none
def zJK (N:Nat):Option Opd→Option Operand→Bool
 |none,none=>true
 |some x,some y=>zAk N x y
 |_,_=>false
def zLS (P:Program) (N:Nat) (t:TypeId):List (Nat×Nat×Opd)→List (Nat×Operand)→Bool
 |[],[]=>true
 |(off,n,x)::xs,(f,y)::ys=>(match fieldAt? P t f with|some fd=>fd.offset==off&&(zEg P fd.type==some n)|none=>false)&&zAk N x y&&zLS P N t xs ys
 |_,_=>false
def zIL (N:Nat):List (Nat×Nat×Opd)→List (Nat×Operand)→Bool
 |[],[]=>true
 |(off,n,x)::xs,(f,y)::ys=>off==f&&n==1&&zAk N x y&&zIL N xs ys
 |_,_=>false
def yCg (P:Program) (t n:Nat):Bool:=match P.underlying t with|some (.array m e)=>m==n&&zBV P e==some false&&zEg P e==some 1|_=>false
def yCh (P:Program) (t:TypeId):Bool:=match P.underlying t with|some (.struct fs)=>(fs.toList.mapM (fun f=>(P.info? f.type).map fun i=>(f.offset,i.size))).isSome|_=>false
def zGm (N:Nat):Nat→List Opd→List (Nat×Operand)→Bool
 |_,[],[]=>true
 |i,x::xs,(j,y)::ys=>i==j&&zAk N x y&&zGm N (i+1) xs ys
 |_,_,_=>false
def sliceElem? (P:Program) (t:TypeId):Option TypeId:=match P.underlying t with|some (.slice e)=>some e|_=>none
def ySx (P:Program) (t:TypeId) (k:IntKind):Bool:=match P.underlying t with|some (.int k')=>decide (k=k')|_=>false
def zLr (P:Program) (t:TypeId):Bool:=match P.underlying t with|some .string=>true|_=>false
def yO0 (P:Program) (t:TypeId):Bool:=match P.underlying t with|some .bool=>true|_=>false
def zK1 (P:Program) (t:TypeId):Bool:=match P.underlying t with|some (.slice _)=>true|_=>false
def zTR (N:Nat):List Opd→List Operand→Bool
 |[],[]=>true
 |x::xs,y::ys=>zAk N x y&&zTR N xs ys
 |_,_=>false
def yCi (P:Program) (t:TypeId):Bool:=match P.underlying t with|some (.interface _)=>true|none=>true|_=>false
def yO1 (P:Program) (t:TypeId):Bool:=match P.underlying t with|some (.pointer _)=>true|_=>false
def yTh (P:Program) (t:TypeId):Bool:=match P.underlying t with|some (.interface _)=>true|_=>false
def yGA (P:Program) (t:TypeId):Nat→Bool
 |0=>match P.underlying t with|some (.int _)=>true|_=>false
 |1=>yO0 P t
 |2=>zLr P t
 |_=>false
def zCS (P:Program):Nat→List Nat→List Field→Bool
 |_,[],[]=>true
 |i,k::ks,f::fs=>f.offset==i&&f.name != "_" && yGA P f.type k&&zCS P (i+1) ks fs
 |_,_,_=>false
def zCT (P:Program) (t:TypeId) (ks:List Nat):Bool:=match P.underlying t with
 |some (.struct fs)=>zCS P 0 ks fs.toList&&!P.stoodInHeld t&&!P.eqGuardType P.depth t
 |_=>false
def yVo:Callee→Bool
 |.builtin .len=>true
 |_=>false
def yQR (P:Program) (E:Env) (v:VOp) (op:Op):Bool:=
 match v with
 |.mv x=>(match op with|.move y=>zAk E.N x y|.assign y=>zAk E.N x y|_=>false)
 |.pick c x y=>(match op with|.pick c' x' y'=>zAk E.N c c'&&zAk E.N x x'&&zAk E.N y y'|_=>false)
 |.ints op1 x y=>(match op with|.binOp op' _ x' y' _=>decide (op1=op')&&zAk E.N x x'&&zAk E.N y y'|_=>false)
 |.strs op1 x y=>(match op with|.binOp op' _ x' y' _=>decide (op1=op')&&zAk E.N x x'&&zAk E.N y y'|_=>false)
 |.not x=>(match op with|.unOp op' _ y=>decide (op'=.not)&&zAk E.N x y|_=>false)
 |.len str x=>(match op with|.call c=>yVo c.callee&&(match c.args.toList,c.argTypes.toList with|[y],[t]=>zAk E.N x y&&(if str then zLr P t else zK1 P t)|_,_=>false)|_=>false)
 |.fldP x off=>(match op with|.fieldAddr s y f=>zAk E.N x y&&(match fieldAt? P s f with|some fd=>fd.offset==off&&(match zEg P fd.type with|some n=>decide (0 < n)|none=>false)|none=>false)|_=>false)
 |.fldR x off n=>(match op with|.fieldAddr s y f=>zAk E.N x y&&(match fieldAt? P s f with|some fd=>fd.offset==off&&(zEg P fd.type==some n)&&decide (0 < n)|none=>false)|_=>false)
 |.ldR x n agg=>(match op with|.load t y=>zAk E.N x y&&(zBV P t==some agg)&&(zEg P t==some n)&&(agg||n==1)|_=>false)
 |.ldB x j base off n agg=>(match op with|.load t y=>(match E.Γ[j]? with|some bn=>bn.1==base&&decide (off+n≤bn.2)|none=>false)&&zAk E.N x y&&(zBV P t==some agg)&&(zEg P t==some n)&&(agg||n==1)|_=>false)
 |.ldh x j base off=>(match op with|.load t y=>(match E.Γ[j]? with|some bn=>bn.1==base&&decide (off+1≤bn.2)|none=>false)&&zAk E.N x y&&(zBV P t==some false)&&(zEg P t==some 1)|_=>false)
 |.idxA k x i=>(match op with|.indexAddr t y j=>zAk E.N x y&&zAk E.N i j&&(match sliceElem? P t with|some e=>zEg P e==some k|none=>false)|_=>false)
 |.idxS x i=>(match op with|.index t y j=>zAk E.N x y&&zAk E.N i j&&zLr P t|_=>false)
 |.slr k x lo hi=>(match op with|.slice t y lo' hi' mx=>mx.isNone&&zAk E.N x y&&zJK E.N lo lo'&&zJK E.N hi hi'&&(match sliceElem? P t with|some e=>zEg P e==some k|none=>false)|_=>false)
 |.ext n i=>(match op with|.extract y i'=>zAk E.N (.t n) y&&i==i'|_=>false)
 |.nilck x=>(match op with|.nilCheck y=>zAk E.N x y|_=>false)
 |.bld zeros parts=>(match op with|.build t ps=>(match (P.info? t).bind (·.zero) with|some (.agg z)=>zFK zeros z.toList|_=>false)&&((zLS P E.N t parts ps.toList&&yCh P t)||(yCg P t zeros.length&&zIL E.N parts ps.toList))|_=>false)
 |.idxV n x i=>(match op with|.index t y j=>zAk E.N x y&&zAk E.N i j&&yCg P t n|_=>false)
 |.ixB n x i=>(match op with|.indexAddr t y j=>zAk E.N x y&&zAk E.N i j&&yCg P t n|_=>false)
 |.ldD x j base sz=>(match op with|.load t y=>(match E.Γ[j]? with|some bn=>bn.1==base&&decide (sz≤bn.2)|none=>false)&&zAk E.N x y&&(zBV P t==some false)&&(zEg P t==some 1)|_=>false)
 |.pnl ng pt x=>(match op with|.binOp op' t x' (.const c) _=>decide (op'=if ng then .neq else .eql)&&zAk E.N x x'&&(match pt,c with|true,.pointer none=>yO1 P t|false,.nilIface=>yTh P t|_,_=>false)|_=>false)
 |.bslF k parts=>(match op with|.buildSlice t n ps=>zGm E.N 0 parts ps.toList&&n==parts.length&&decide (n * k≤2 ^ 24)&&decide (0 < k)&&(match sliceElem? P t with|some e=>zEg P e==some k&&(match (P.info? e).bind (·.zero) with|some z=>z.cells.size==k|none=>false)|none=>false)|_=>false)
 |.boxF x=>(match op with|.box _ y=>zAk E.N x y|_=>false)
 |.mkf f caps=>(match op with|.makeFunc (.func g) first captured=>f==g&&first.isEmpty&&zTR E.N caps captured.toList|_=>false)
 |.steq ng ks x y=>(match op with|.binOp op' t x' y' _=>decide (op'=if ng then .neq else .eql)&&zCT P t ks&&zAk E.N x x'&&zAk E.N y y'|_=>false)
 |.mki t x=>(match op with|.makeInterface t' y=>t==t'&&!yCi P t&&zAk E.N x y|_=>false)
end Go.Hx
