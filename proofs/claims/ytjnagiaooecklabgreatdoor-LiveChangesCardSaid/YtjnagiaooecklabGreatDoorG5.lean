/-
  Walks of functions of the program over an abstract layer, and the laws that they use: each contract says what the function computes, for every input that its conditions let by. No other condition.
-/
import Derived.Test.YtjnagiaooecklabGreatDoorG4
set_option linter.all false
section
/-
 THE ABSTRACT LAYER, SIXTH TEXT: all operations on the abstract frame; each is sound. Generic over the program. No condition.
-/
namespace Go.Hx
open Go.RowKit
variable [Glob]
inductive AM where
 |v
 |o
 |n (e k:Nat)
 |i (j base sz:Nat)
 |r
 deriving Inhabited
inductive HOp where
 |val (d:Nat) (v:VOp)
 |call (d:Option Nat) (f:Nat) (args:List (Opd×AM))
 |callv (d:Option Nat) (x:Opd) (args:List (Opd×AM))
 |callg (d f:Nat) (args:List (Opd×AM))
 |mvo (d x:Nat)
 |nlo (d e k:Nat)
 |ldo (d:Nat) (x:Opd) (j base off e k:Nat)
 |sto (x:Opd) (j base off n:Nat) (y:Opd)
 |stw (x:Opd) (j base off:Nat) (y:Nat)
 |alloc (d j base:Nat) (cells:List PV)
 |box (d j base n:Nat) (x:Opd)
 |alo (d j base:Nat) (cells:List PV)
 |bxo (d j base n:Nat) (x:Opd)
 |app (d e k:Nat) (x:Opd) (y:Opd)
 |bsl (d e k:Nat) (parts:List Opd)
 |pan (x:Opd)
 |nlk (d e k:Nat)
 |mvk (d x:Nat)
 |trk (d x:Nat) (hi:Opd)
 |apk (d e k x:Nat) (y:Opd)
 |isn (d:Nat) (ng:Bool) (x:Opd)
 |vnl (d e k:Nat)
 |vmv (d x:Nat)
 |vld (d:Nat) (x:Opd) (j base off n:Nat) (agg:Bool)
 |vst (x:Opd) (j base off n y:Nat)
 |vap (d e k x:Nat) (y:Opd)
 |vbs (d e k x:Nat)
 |vbp (d e k:Nat) (y:Opd)
 |vbd (d:Nat) (zs:List PV) (off n:Nat) (y:Opd)
 |vbe (d:Nat) (zs:List PV) (parts:List (Nat×Nat×Opd)) (off n:Nat) (y:Opd)
 |vby (d j base n x:Nat)
 |vle (d:Nat) (x:Opd) (r j base:Nat) (pt:List (Opd×Nat)) (n:Nat) (agg:Bool)
 |vlp (d:Nat) (x:Opd) (r j base:Nat) (pt:List (Opd×Nat)) (n:Nat) (agg:Bool)
 |vlh (d:Nat) (x:Opd) (r j base:Nat) (pt:List (Opd×Nat))
 |vse (x:Opd) (r j base:Nat) (pt:List (Opd×Nat)) (n:Nat) (y:Opd)
 |std (x:Opd) (j base sz:Nat) (y:Opd)
 |callo (d f x:Nat)
 |callp (d f x:Nat)
 |vbx (d j base n x:Nat)
 |mmk (d:Nat)
 |mps (x:Opd) (r kk:Nat) (k:Opd) (y:Opd)
 |mpl (d:Nat) (x:Opd) (r kk:Nat) (k:Opd) (z:PV) (ok:Bool)
 |mpv (d:Nat) (x:Opd) (r kk:Nat) (k:Opd) (e kw:Nat)
 |mrg (d:Nat) (x:Opd) (r:Nat)
 |mnx (d it r:Nat)
 |men (d it r:Nat)
 |vmk (d e k:Nat) (zs:List PV) (x:Opd)
 |callm (d:Option Nat) (f r:Nat) (args:List (Opd×AM))
 |bmk (d T e:Nat)
 |vtr (d x:Nat) (hi:Opd)
 |cpy (d:Option Nat) (e k r:Nat) (x y:Opd)
 |cals (d:Option Nat) (f r:Nat) (x:Opd) (args:List (Opd×AM))
 |vow (d:Nat) (v:VOp) (off e k:Nat)
 |mkc (d f:Nat) (caps:List Opd)
 |clc (d:Option Nat) (x:Opd) (bxs:List (Nat×Nat×Nat)) (args:List (Opd×AM))
 deriving Inhabited
structure HO where
 g:Option (Nat×Bool):=none
 op:HOp
 deriving Inhabited
def zBp (F:List Ct):List (Opd×AM)→Prop×List AV
 |[]=>(True,[])
 |(x,.v)::r=>match (zAp F x).pv? with
  |some p=>((zAp F x).need∧(zBp F r).1,.val p.norm::(zBp F r).2)
  |none=>(False,[])
 |(x,.r)::r=>match (zAp F x).pv? with
  |some p=>((zAp F x).need∧(zBp F r).1,.val p::(zBp F r).2)
  |none=>(False,[])
 |(x,.o)::r=>match zAp F x with
  |.own e k rows=>((zBp F r).1,.own e k rows::(zBp F r).2)
  |_=>(False,[])
 |(x,.n e k)::r=>match zAp F x with
  |.pv (.one (.nl _))=>((zBp F r).1,.own e k []::(zBp F r).2)
  |_=>(False,[])
 |(x,.i j base sz)::r=>match zAp F x,zA6 F base sz with
  |.ptr j' 0,some cs=>(j'=j∧(zBp F r).1,.io cs::(zBp F r).2)
  |_,_=>(False,[])
def zAa (F:List Ct) (i:Nat):List Ct→List Ct
 |[]=>F
 |c::cs=>zAa (F.set i c) (i+1) cs
def zBh:List (Opd×AM)→Option Nat
 |(x,.o)::_=>match x with|.t n=>some n|_=>none
 |(_,.n _ _)::_=>none
 |(_,.v)::r=>zBh r
 |(_,.i _ _ _)::r=>zBh r
 |(_,.r)::r=>zBh r
 |[]=>none
def zDZ:List (Opd×AM)→Option (Nat×Nat×Nat)
 |(_,.i j base sz)::_=>some (j,base,sz)
 |(_,.o)::r=>zDZ r
 |(_,.n _ _)::r=>zDZ r
 |(_,.r)::r=>zDZ r
 |(_,.v)::r=>zDZ r
 |[]=>none
def zDD (F:List Ct):Option Nat→List Ct
 |some n=>match F.getD n .un with|.own _ k rows=>F.set n (.pv (.one (.sl k rows)))|_=>F
 |none=>F
def zCJ (sz:Nat):Option (List PV)→List Ct
 |some l=>(l.map fun x=>.pv (.one x)).take sz
 |none=>List.replicate sz .un
def zGy (F:List Ct) (io:Option (List PV)):Option (Nat×Nat×Nat)→List Ct
 |some (_,base,sz)=>zAa F base (zCJ sz io)
 |none=>F
def zAV (F:List Ct) (io:Option (List PV)) (args:List (Opd×AM)):List Ct:=zGy (zDD F (zBh args)) io (zDZ args)
def yIs:Res→Ct
 |.val x=>.pv x
 |.own e k rows=>.own e k rows
 |.tup []=>.un
 |.tup xs=>.tup xs
 |.pan _=>.un
 |.ov x=>.ov x
def zP0 (F:List Ct) (d:Option Nat) (c:Ct):List Ct:=match d with|some d=>F.set d c|none=>F
def zZv (F:List Ct) (d:Option Nat) (r:Res):List Ct:=zP0 F d (yIs r)
def zDE (j:Nat):Ct→Ct
 |.ptr j' off=>if j'=j then .un else .ptr j' off
 |.cl f caps=>if zEl j caps then .un else .cl f caps
 |c=>c
def zJk (F:List Ct):List Opd→Prop×List Cap
 |[]=>(True,[])
 |x::r=>match zAp F x with
  |.ptr j 0=>((zJk F r).1,.b j::(zJk F r).2)
  |c=>match c.pv? with
   |some (.one p)=>(c.need∧(zJk F r).1,.p p::(zJk F r).2)
   |_=>(False,[])
def zP7 (F:List Ct):List (Nat×Nat×Nat)→List Cap→Option (List CA)
 |[],[]=>some []
 |bxs,.p x::r=>match zP7 F bxs r with
  |some l=>some (.v x::l)
  |none=>none
 |(j,base,n)::bxs,.b i::r=>match i==j,zA6 F base n,zP7 F bxs r with
  |true,some cs,some l=>some (.io cs::l)
  |_,_,_=>none
 |_,_=>none
def zK8 (F:List Ct):List (Nat×Nat×Nat)→List (List PV)→List Ct
 |(_,base,_)::bxs,l::io=>zK8 (zAa F base (l.map fun x=>.pv (.one x))) bxs io
 |_,_=>F
def yIt:Ct→Nat→Nat→Nat→Ct
 |.pv (.agg cs),off,e,k=>.ov (.agg ((cs.take off).map .p++.os none e k []::(cs.drop (off+1)).map .p))
 |_,_,_,_=>.un
def yG1:Ct→Nat→Bool
 |.pv (.agg cs),off=>match cs[off]? with|some (.nl _)=>true|_=>false
 |_,_=>false
def OVal.cells:OVal→List OV
 |.one x=>[x]
 |.agg cs=>cs
def zEo:OV→Ct
 |.p x=>.pv (.one x)
 |o=>.ov (.one o)
def zNb:Ct→Option OV
 |.pv (.one x)=>some (.p x.norm)
 |.own _ k rows=>some (.p (.sl k rows))
 |.ov (.one x)=>some x
 |_=>none
def zCi (F:List Ct) (i:Nat):Nat→Option (List OV)
 |0=>some []
 |n+1=>match zNb (F.getD i .un),zCi F (i+1) n with
  |some x,some xs=>some (x::xs)
  |_,_=>none
def yAA:Ct→Ct
 |.ov _=>.un
 |c=>c
def zAU (F:List Ct) (i:Nat):Nat→List Ct
 |0=>[]
 |n+1=>yAA (F.getD i .un)::zAU F (i+1) n
def yBO (agg:Bool) (cs:List OV):OVal:=if agg then .agg cs else .one (cs.headD .hole)
def zCY (F:List Ct):List (Opd×Nat)→Prop×List (Nat×Nat)
 |[]=>(True,[])
 |(x,c)::r=>match (zAp F x).pv? with
  |some (.one (.v (.int _ n)))=>((zAp F x).need∧0≤n∧(zCY F r).1,(n.toNat,c)::(zCY F r).2)
  |_=>(False,[])
def yAB:List OV→Option (List PV)
 |[]=>some []
 |.p x::r=>match yAB r with|some xs=>some (x::xs)|none=>none
 |_::r=>match yAB r with|some xs=>some (.any::xs)|none=>none
def zC4 (i:Nat) (rows:List (List OV)):List (List OV):=rows.take i++[(rows.getD i []).map OV.left]++(rows.drop i).dropLast
def zD0 (F:List Ct) (y:Opd):Prop×List OV:=match zAp F y with
 |.ov v=>(True,v.cells)
 |c=>match c.pv? with
  |some p=>(c.need,p.norm.cells.map .p)
  |none=>(False,[])
def zP1 (F:List Ct) (k:Nat) (y:Opd):Prop×List (List OV):=match zAp F y with
 |.ov (.one (.os _ _ k' rs))=>(k'=k,rs)
 |c=>match c.pv? with
  |some (.one (.sl k' rs))=>(c.need∧k'=k,rs.map fun r=>r.map .p)
  |_=>(False,[])
def clr (F G:List Ct) (y:Opd):List Ct:=match y with
 |.t n=>match F.getD n .un with|.ov _=>G.set n .un|_=>G
 |_=>G
def zEG:List OV→Option (List PV)
 |[]=>some []
 |.p x::r=>match zEG r with|some xs=>some (x::xs)|none=>none
 |_=>none
def zP8:OVal→Ct
 |.one (.os _ _ _ rows)=>.hdr rows.length
 |_=>.un
def atV (F:List Ct) (x:Opd) (r:Nat) (pt:List (Opd×Nat)) (K:OV→List (Nat×Nat)→Nat→Nat→Nat→List (List OV)→Nat→Nat→Prop):Prop:=
 match zAp F x,F.getD r .un with
 |.epp b k i f,.ov (.one root)=>match root.get (zCY F pt).2 with
  |some (.os (some b') e k' rows)=>(zCY F pt).1∧b'=b∧k'=k∧i < rows.length∧K root (zCY F pt).2 b e k rows i f
  |_=>False
 |_,_=>False
def zLB:Value→Nat
 |.int .i64 _=>1
 |.string _=>2
 |.agg cs=>match cs.toList with
  |[.int .i64 _,.string _]=>3
  |_=>0
 |_=>0
def yAC:Value→PVal
 |.agg cs=>.agg (cs.toList.map .v)
 |x=>.one (.v x)
def yAD:PVal→Option Value
 |.one (.v x)=>some x
 |.agg [.v x,.v y]=>some (.agg #[x,y])
 |_=>none
def zE5:Value→Value→Bool
 |.agg a,.agg b=>match a.toList,b.toList with
  |[x,y],[x',y']=>zM5 x x'&&zM5 y y'
  |_,_=>false
 |a,b=>zM5 a b
def zHT (ks:List Value) (k:Value):Option Nat:=ks.findIdx? (zE5 k)
def zP9 (b:Nat) (ks:List Value) (vs:List OV) (k:Value) (c:OV):OV:=match zHT ks k with
 |some i=>.mp b ks (vs.set i c)
 |none=>.mp b (ks++[k]) (vs++[c])
def yDm (vs:List OV) (z:PV):Option Nat→Option PV
 |some i=>match vs.getD i .hole with
  |.p y=>some y
  |_=>none
 |none=>some z
def yAE (F:List Ct) (y:Opd):Prop×Option OV:=match zAp F y with
 |.ov (.one x)=>(True,some x)
 |c=>match c.pv? with
  |some (.one p)=>(c.need,some (.p p.norm))
  |_=>(False,none)
def zQa (F:List Ct) (x:Opd):Option Nat:=match zAp F x with
 |.mph b=>some b
 |.ov (.one (.mp b _ _))=>some b
 |_=>none
def zNc (F:List Ct) (x:Opd) (r kk:Nat) (k:Opd) (K:Nat→List Value→List OV→Value→Prop):Prop:=
 match zQa F x,F.getD r .un,(zAp F k).pv? with
 |some b,.ov (.one (.mp b' ks vs)),some p=>match yAD p.norm with
  |some kv=>b'=b∧(zAp F k).need∧zLB kv=kk∧(∀ q∈ks,zLB q=kk)∧K b ks vs kv
  |none=>False
 |_,_,_=>False
def zLC (P:Program) (f:FuncId) (avs:Prop×List AV) (F0:Option (List PV)→List Ct) (d:Option Nat) (K:List Ct→Prop) (X:Value→List Ct→Prop):Prop:=
 avs.1∧∃ r,Contract P f avs.2 r∧match r.res with
  |.pan v=>X v (F0 none)
  |res=>K (zZv (F0 (some r.io)) d res)
def zNd (P:Program) (e n:Nat):Prop:=n * 4096≤140737488355328∨∃ b,(P.info? e).map (·.bytes)=some b∧n≤maxLen∧n * b≤140737488355328
theorem yIL {P:Program} {e n:Nat} (h:n * 4096≤140737488355328):zNd P e n:=.inl h
def opW (P:Program) (o:HOp) (F:List Ct) (K:List Ct→Prop) (X:Value→List Ct→Prop):Prop:=
 match o with
 |.val d v=>(ev F v).1∧K (F.set d (ev F v).2)
 |.call d f args=>zLC P f (zBp F args) (fun io=>zAV F io args) d K X
 |.callg d f args=>zLC P f (zBp F args) (fun io=>zAV F io args) (some d) K X
 |.callv d x args=>match (zAp F x).pv? with
  |some (.one (.clo f caps))=>(zAp F x).need∧zLC P f ((zBp F args).1,(zBp F args).2++caps.map fun c=>.val (.one c)) (fun io=>zAV F io args) d K X
  |_=>False
 |.mvo d x=>match F.getD x .un with
  |.own e k rows=>d≠x∧K ((F.set x (.pv (.one (.sl k rows)))).set d (.own e k rows))
  |_=>False
 |.nlo d e k=>K (F.set d (.own e k []))
 |.ldo d x j base off e k=>match zAp F x,F.getD (base+off) .un with
  |.ptr j' off',.own e' k' rows=>j'=j∧off'=off∧e'=e∧k'=k∧K ((F.set (base+off) (.pv (.one (.sl k rows)))).set d (.own e k rows))
  |.ptr j' off',.pv (.one (.nl _))=>j'=j∧off'=off∧K (F.set d (.own e k []))
  |_,_=>False
 |.sto x j base off n y=>match zAp F x,(zAp F y).pv? with
  |.ptr j' off',some p=>j'=j∧off'=off∧p.cells.length=n∧(zAp F y).need∧K (zAa F (base+off) (p.cells.map fun c=>.pv (.one c)))
  |_,_=>False
 |.std x j base sz y=>match zAp F x,(zAp F y).pv? with
  |.ptr j' off',some p=>j'=j∧off' < sz∧p.cells.length=1∧(zAp F y).need∧K (zAa F (base+off') (p.cells.map fun c=>.pv (.one c)))
  |_,_=>False
 |.stw x j base off y=>match zAp F x,F.getD y .un with
  |.ptr j' off',.own e k rows=>j'=j∧off'=off∧K ((F.set y (.pv (.one (.sl k rows)))).set (base+off) (.own e k rows))
  |_,_=>False
 |.alloc d j base cells=>K (zAa ((F.map (zDE j)).set d (.ptr j 0)) base (cells.map fun c=>.pv (.one c)))
 |.box d j base n x=>match (zAp F x).pv? with
  |some p=>p.cells.length=n∧(zAp F x).need∧K (zAa ((F.map (zDE j)).set d (.ptr j 0)) base (p.cells.map fun c=>.pv (.one c)))
  |none=>False
 |.alo d j base cells=>F.getD base .un=.una∧K (zAa (F.set d (.ptr j 0)) base (cells.map fun c=>.pv (.one c)))
 |.bxo d j base n x=>match (zAp F x).pv? with
  |some p=>p.cells.length=n∧(zAp F x).need∧F.getD base .un=.una∧K (zAa (F.set d (.ptr j 0)) base (p.cells.map fun c=>.pv (.one c)))
  |none=>False
 |.app d e k x y=>match zAp F x,(zAp F y).pv? with
  |.own e' k' rows,some (.one (.sl k'' rs))=>(match x with|.t n=>n≠d|_=>False)∧e'=e∧k'=k∧k''=k∧(zAp F y).need∧zNd P e (rows.length+rs.length)∧K ((match x with|.t n=>F.set n (.pv (.one (.sl k rows)))|_=>F).set d (.own e k (rows++rs)))
  |_,_=>False
 |.bsl d e k parts=>(zDz F k parts).1∧K (F.set d (.own e k (zDz F k parts).2))
 |.pan x=>match (zAp F x).pv? with
  |some (.one (.v (.iface t u)))=>(zAp F x).need∧X (.iface t u) F
  |_=>False
 |.nlk d e k=>K (F.set d (.stk e k []))
 |.mvk d x=>match F.getD x .un with
  |.stk e k rows=>d≠x∧K ((F.set x (.hdr rows.length)).set d (.stk e k rows))
  |_=>False
 |.trk d x hi=>match F.getD x .un,(zAp F hi).pv? with
  |.stk e k rows,some (.one (.v (.int _ n)))=>d≠x∧(zAp F hi).need∧0≤n∧n≤rows.length∧K ((F.set x (.hdr rows.length)).set d (.stk e k (rows.take n.toNat)))
  |_,_=>False
 |.apk d e k x y=>match F.getD x .un,(zAp F y).pv? with
  |.stk e' k' rows,some (.one (.sl k'' rs))=>x≠d∧e'=e∧k'=k∧k''=k∧(zAp F y).need∧(rows.length+rs.length) * 4096≤140737488355328∧K ((F.set x (.hdr rows.length)).set d (.stk e k (rows++rs)))
  |_,_=>False
 |.isn d ng x=>match (zAp F x).pv? with
  |some (.one (.sl _ rows))=>(zAp F x).need∧∀ b:Bool,(rows≠[]→b=false)→K (F.set d (.pv (bv (if ng then !b else b))))
  |some (.one (.nl _))=>(zAp F x).need∧K (F.set d (.pv (bv (!ng))))
  |_=>False
 |.vnl d e k=>K (F.set d (.ov (.one (.os none e k []))))
 |.vmv d x=>match F.getD x .un with
  |.ov v=>d≠x∧K ((F.set x (zP8 v)).set d (.ov v))
  |_=>False
 |.vld d x j base off n agg=>match zAp F x,zCi F (base+off) n with
  |.ptr j' off',some cs=>j'=j∧off'=off∧K ((zAa F (base+off) (zAU F (base+off) n)).set d (.ov (yBO agg cs)))
  |_,_=>False
 |.vst x j base off n y=>match zAp F x,F.getD y .un with
  |.ptr j' off',.ov v=>j'=j∧off'=off∧v.cells.length=n∧K (zAa (F.set y .un) (base+off) (v.cells.map zEo))
  |_,_=>False
 |.callo d f x=>match F.getD x .un with
  |.ov v=>∃ v',zCh P f v v'∧K ((F.set x .un).set d (.ov v'))
  |_=>False
 |.callp d f x=>match F.getD x .un with
  |.ov v=>∃ cs xs,zCh P f v (.agg cs)∧zK5 cs=some xs∧K ((F.set x .un).set d (.pv (.agg xs)))
  |_=>False
 |.vbx d j base n x=>match F.getD x .un with
  |.ov v=>v.cells.length=n∧K (zAa ((((F.set x .un).map (zDE j))).set d (.ptr j 0)) base (v.cells.map zEo))
  |_=>False
 |.callm d f r args=>match F.getD r .un with
  |.ov (.one v)=>d≠some r∧(zBp F args).1∧∃ v' y,zVK P f v (zBp F args).2 v' y∧K (zP0 (F.set r (.ov (.one v'))) d (match y with|some p=>.pv p|none=>.un))
  |_=>False
 |.cpy d e k r x y=>match zAp F x,zAp F y,F.getD r .un with
  |.hds b1 k1 i1 n1,.hds b2 k2 i2 n2,.ov (.one (.os (some b) e' k' rows))=>b1=b∧b2=b∧k1=k∧k2=k∧e'=e∧k'=k∧i1=i2+1∧i2 < rows.length∧n2=rows.length-i2∧n1=rows.length-i2-1∧d≠some r∧
   K (zP0 (F.set r (.ov (.one (.os (some b) e k (zC4 i2 rows))))) d .un)
  |_,_,_=>False
 |.vow d v off e k=>(ev F v).1∧yG1 (ev F v).2 off=true∧K (F.set d (yIt (ev F v).2 off e k))
 |.mkc d f caps=>(zJk F caps).1∧K (F.set d (.cl f (zJk F caps).2))
 |.clc d x bxs args=>match zAp F x with
  |.cl f caps=>(zBp F args).1∧match zP7 F bxs caps with
   |some cas=>∃ io',zVM P f (zBp F args).2 cas io'∧K (zP0 (zK8 F bxs io') d .un)
   |none=>False
  |_=>False
 |.cals d f r x args=>match zAp F x,F.getD r .un with
  |.hdp b _ n,.ov (.one (.os (some b') e k rows))=>b'=b∧n=rows.length∧rows≠[]∧d≠some r∧(zBp F args).1∧∃ rows',zNa P f e k rows (zBp F args).2 rows'∧K (zP0 (F.set r (.ov (.one (.os (some b) e k rows')))) d .un)
  |_,_=>False
 |.vtr d x hi=>match F.getD x .un,(zAp F hi).pv? with
  |.ov (.one (.os pb e k rows)),some (.one (.v (.int _ n)))=>d≠x∧(zAp F hi).need∧0≤n∧n≤rows.length∧K ((F.set x .un).set d (.ov (.one (.os pb e k (rows.take n.toNat)))))
  |_,_=>False
 |.bmk d T e=>∀ b,K (F.set d (.ov (.one (.bl T e b []))))
 |.mmk d=>∀ b,K (F.set d (.ov (.one (.mp b [] []))))
 |.mps x r kk k y=>zNc F x r kk k fun b ks vs kv=>(∀ s,y=.t s→s≠r)∧(yAE F y).1∧match (yAE F y).2 with
  |some c=>K ((clr F F y).set r (.ov (.one (zP9 b ks vs kv c))))
  |_=>False
 |.mpl d x r kk k z ok=>zNc F x r kk k fun _ ks vs kv=>match yDm vs z (zHT ks kv) with
  |some v=>K (F.set d (if ok then .tup [.one v,bv (zHT ks kv).isSome] else .pv (.one v)))
  |none=>False
 |.mpv d x r kk k e kw=>zNc F x r kk k fun b ks vs kv=>d≠r∧match zHT ks kv with
  |some i=>i < vs.length∧K ((F.set r (.ov (.one (.mp b ks (vs.set i .hole))))).set d (.ov (.one (vs.getD i .hole))))
  |none=>K (F.set d (.ov (.one (.os none e kw []))))
 |.mrg d x r=>match zQa F x,F.getD r .un with
  |some b,.ov (.one (.mp b' ks _))=>b'=b∧K (F.set d (.ov (.one (.it b ks.length []))))
  |_,_=>False
 |.mnx d it r=>match F.getD it .un,F.getD r .un with
  |.ov (.one (.it b n seen)),.ov (.one (.mp b' ks vs))=>match zEG vs with
   |some ys=>b'=b∧n=ks.length∧d≠it∧it≠r∧((∀ i,i < n→i∈seen)→K (F.set d (.tup [bv false])))∧
     ∀ i,i < n→i∉seen→K ((F.set it (.ov (.one (.it b n (seen++[i]))))).set d (.tup [bv true,yAC (ks.getD i .nilIface),.one (ys.getD i (.nl 0))]))
   |none=>False
  |_,_=>False
 |.men d it r=>match F.getD it .un,F.getD r .un with
  |.ov (.one (.it b n seen)),.ov (.one (.mp b' ks vs))=>match zEG vs,seen.getLast? with
   |some ys,some i=>b'=b∧n=ks.length∧K (F.set d (.tup [yAC (ks.getD i .nilIface),.one (ys.getD i (.nl 0))]))
   |_,_=>False
  |_,_=>False
 |.vmk d e k zs x=>match (zAp F x).pv? with
  |some (.one (.v (.int _ n)))=>(zAp F x).need∧0≤n∧n * 4096≤140737488355328∧zs.length=k∧K (F.set d (.ov (.one (.os none e k (List.replicate n.toNat (zs.map .p))))))
  |_=>False
 |.vap d e k x y=>match F.getD x .un with
  |.ov (.one (.os _ e' k' rows))=>(∀ n,y=.t n→x≠n)∧e'=e∧k'=k∧(zP1 F k y).1∧(rows.length+(zP1 F k y).2.length) * 4096≤140737488355328∧K ((clr F (F.set x .un) y).set d (.ov (.one (.os none e k (rows++(zP1 F k y).2)))))
  |_=>False
 |.vbs d e k x=>match F.getD x .un with
  |.ov v=>v.cells.length=k∧K ((F.set x .un).set d (.ov (.one (.os none e k [v.cells]))))
  |_=>False
 |.vbp d e k y=>(zD0 F y).1∧(zD0 F y).2.length=k∧K ((clr F F y).set d (.ov (.one (.os none e k [(zD0 F y).2]))))
 |.vbd d zs off n y=>(zD0 F y).1∧(zD0 F y).2.length=n∧off+n≤zs.length∧K ((clr F F y).set d (.ov (.agg ((zs.take off).map .p++(zD0 F y).2++(zs.drop (off+n)).map .p))))
 |.vbe d zs parts off n y=>(zBm F zs parts).1∧(zBm F zs parts).2.length=zs.length∧(zD0 F y).1∧(zD0 F y).2.length=n∧off+n≤zs.length∧K ((clr F F y).set d (.ov (.agg (((zBm F zs parts).2.take off).map .p++(zD0 F y).2++((zBm F zs parts).2.drop (off+n)).map .p))))
 |.vby d j base n x=>match F.getD x .un with
  |.ov v=>v.cells.length=n∧F.getD base .un=.una∧K (zAa ((F.set x .un).set d (.ptr j 0)) base (v.cells.map zEo))
  |_=>False
 |.vle d x r _ _ pt n agg=>atV F x r pt fun root p b e k rows i f=>f+n≤(rows.getD i []).length∧
  K ((F.set r (.ov (.one (root.upd p (.os (some b) e k (rows.set i (zSA (rows.getD i []) f ((((rows.getD i []).drop f).take n).map OV.left)))))))).set d (.ov (yBO agg (((rows.getD i []).drop f).take n))))
 |.vlp d x r _ _ pt n agg=>atV F x r pt fun _ _ _ _ _ rows i f=>f+n≤(rows.getD i []).length∧match yAB (((rows.getD i []).drop f).take n) with
  |some ps=>K (F.set d (.pv (if agg then .agg ps else .one (ps.headD (.nl 0)))))
  |none=>False
 |.vlh d x r _ _ pt=>atV F x r pt fun _ _ _ _ _ rows i f=>match (rows.getD i [])[f]? with
  |some (.os (some b2) _ k2 rows2)=>K (F.set d (.hdp b2 k2 rows2.length))
  |some (.os none _ _ rows2)=>K (F.set d (.hdr rows2.length))
  |_=>False
 |.vse x r _ _ pt n y=>atV F x r pt fun root p b e k rows i f=>(∀ s,y=.t s→s≠r)∧(zD0 F y).1∧(zD0 F y).2.length=n∧f+n≤(rows.getD i []).length∧
  K ((clr F F y).set r (.ov (.one (root.upd p (.os (some b) e k (rows.set i (zSA (rows.getD i []) f (zD0 F y).2)))))))
def zDA (F:List Ct) (g:Nat×Bool):Option Bool:=
 match F.getD g.1 .un with
 |.pv (.one (.v (.bool t)))=>some (if g.2 then t else !t)
 |.gd t1 (.one (.v (.bool t)))=>some (t1&&(if g.2 then t else !t))
 |_=>none
def yDb (args:List (Opd×AM)):Bool:=args.all fun x=>match x.2 with|.v=>true|_=>false
def hoW (P:Program) (o:HO) (F:List Ct) (K:List Ct→Prop) (X:Value→List Ct→Prop):Prop:=
 match o.g with
 |none=>opW P o.op F K X
 |some g=>match zDA F g with
  |none=>False
  |some T=>match o.op with
   |.val d v=>match (ev F v).2 with
    |.pv x=>(T=true→(ev F v).1)∧K (F.set d (.gd T x))
    |_=>match T with
     |true=>(ev F v).1∧K (F.set d (ev F v).2)
     |false=>K (F.set d (.gd false (bv false)))
   |.call (some d) f args=>(T=true→(zBp F args).1)∧∃ x,(T=true→Contract P f (zBp F args).2 {res:=.val x})∧K (F.set d (.gd T x))
   |.callv (some d) y args=>match (zAp F y).pv? with
    |some (.one (.clo f caps))=>(T=true→(zAp F y).need∧(zBp F args).1)∧∃ x,(T=true→Contract P f ((zBp F args).2++caps.map fun c=>.val (.one c)) {res:=.val x})∧K (F.set d (.gd T x))
    |_=>False
   |.callg d f args=>match T with
    |true=>opW P (.callg d f args) F K X
    |false=>K (F.set d (.gd false (bv false)))
   |.vlp d x r j base pt n agg=>match T with
    |true=>opW P (.vlp d x r j base pt n agg) F K X
    |false=>K (F.set d (.gd false (bv false)))
   |_=>False
def yG2 (P:Program):List HO→List Ct→(List Ct→Prop)→(Value→List Ct→Prop)→Prop
 |[],F,K,_=>K F
 |o::os,F,K,X=>hoW P o F (fun F'=>yG2 P os F' K X) X
def quW (P:Program) (o:HO) (F:List Ct) (K:List Ct→Prop):Prop:=
 match o.op with
 |.val d v=>match o.g with
  |none=>(ev F v).1∧K (F.set d (ev F v).2)
  |some g=>match zDA F g with
   |none=>False
   |some T=>match (ev F v).2 with
    |.pv x=>(T=true→(ev F v).1)∧K (F.set d (.gd T x))
    |_=>T=false∧K (F.set d (.gd T (bv false)))
 |.call (some d) f args=>match o.g with
  |none=>(zBp F args).1∧∃ x,Contract P f (zBp F args).2 {res:=.val (.one (.v x))}∧K (F.set d (.pv (.one (.v x))))
  |some g=>match zDA F g with
   |none=>False
   |some T=>(T=true→(zBp F args).1)∧∃ x,(T=true→Contract P f (zBp F args).2 {res:=.val (.one (.v x))})∧K (F.set d (.gd T (.one (.v x))))
 |_=>False
def yEw (P:Program):List HO→List Ct→(List Ct→Prop)→Prop
 |[],F,K=>K F
 |o::os,F,K=>quW P o F (fun F'=>yEw P os F' K)
def HO.quiet (o:HO):Bool:=match o.op with
 |.val _ v=>v.reads
 |.call (some _) _ args=>yDb args
 |_=>false
def zJl (E:Env) (j base n:Nat):Bool:=match E.Γ[j]? with|some bn=>bn.1==base&&bn.2==n|none=>false
def zDB (E:Env) (j base top:Nat):Bool:=match E.Γ[j]? with|some bn=>bn.1==base&&decide (top≤bn.2)|none=>false
def zEa (E:Env):List (Opd×AM)→List Operand→Bool
 |[],[]=>true
 |(x,m)::r,y::ys=>zAe E.N x y&&(match m with|.i j base sz=>zJl E j base sz|.o=>(match x with|.t _=>true|_=>false)|_=>true)&&zEa E r ys
 |_,_=>false
def zAF (N:Nat):Option Nat→Option Nat→Bool
 |none,none=>true
 |some d,some d'=>d==d'&&decide (d < N)
 |_,_=>false
def zC5 (P:Program) (t e k:Nat):Bool:=match sliceElem? P t with|some e'=>e'==e&&zDc P e==some k&&decide (0 < k)&&(match (P.info? e) with|some i=>decide (i.bytes≤4096)&&(match i.zero with|some z=>z.cells.size==k|none=>false)|none=>false)|none=>false
def zGz (P:Program) (t:TypeId):Nat→Bool
 |1=>zK7 P t .i64
 |2=>zEE P t
 |3=>zCa P t [0,2]
 |_=>false
def zSK (P:Program) (t:TypeId) (kk:Nat):Bool:=match P.underlying t with
 |some (.map kt _)=>zGz P kt kk
 |_=>false
def yEx (P:Program) (t:TypeId) (z:PV):Bool:=match P.underlying t with
 |some (.map _ et)=>zBw P et==some false&&(match (P.info? et).bind (·.zero) with|some zv=>zBJ [z] zv.cells.toList&&zEA zv|none=>false)
 |_=>false
def zCL (E:Env) (r j base:Nat):Bool:=decide (r < E.N)||(decide (base≤r)&&zDB E j base (r-base+1))
def zZw (N:Nat) (pt:List (Opd×Nat)):Bool:=pt.all fun x=>match x.1 with|.t n=>decide (n < N)|.c _=>true|_=>false
def yFe (E:Env) (bxs:List (Nat×Nat×Nat)):Bool:=bxs.all (fun x=>zJl E x.1 x.2.1 x.2.2)&&decide (bxs.map (·.1)).Nodup
def zCe (P:Program) (E:Env) (o:HOp) (op:Op) (dst:Option Nat):Bool:=
 match o with
 |.val d v=>zAF E.N (some d) dst&&yDi P E v op
 |.call d f args=>(match op with|.call c=>zAF E.N d dst&&(match c.callee with|.value (.func g)=>g==f|_=>false)&&zEa E args c.args.toList|_=>false)
 |.callg d f args=>(match op with|.call c=>zAF E.N (some d) dst&&(match c.callee with|.value (.func g)=>g==f|_=>false)&&zEa E args c.args.toList|_=>false)
 |.callv d x args=>(match op with|.call c=>zAF E.N d dst&&(match c.callee with|.value y=>zAe E.N x y|_=>false)&&yDb args&&zEa E args c.args.toList|_=>false)
 |.mvo d x=>zAF E.N (some d) dst&&(match op with|.move y=>zAe E.N (.t x) y|.assign y=>zAe E.N (.t x) y|_=>false)
 |.nlo d _ _=>zAF E.N (some d) dst&&(match op with|.move y=>zAe E.N (.c (.one (.nl 0))) y|.assign y=>zAe E.N (.c (.one (.nl 0))) y|_=>false)
 |.ldo d x j base off _ _=>zAF E.N (some d) dst&&(match op with|.load t y=>zAe E.N x y&&zDB E j base (off+1)&&zBw P t==some false|_=>false)
 |.sto x j base off n y=>dst.isNone&&(match op with|.store t x' y'=>zAe E.N x x'&&zAe E.N y y'&&zDB E j base (off+n)&&zDc P t==some n|_=>false)
 |.std x j base sz y=>dst.isNone&&(match op with|.store t x' y'=>zAe E.N x x'&&zAe E.N y y'&&zDB E j base sz&&zDc P t==some 1|_=>false)
 |.stw x j base off y=>dst.isNone&&(match op with|.store t x' y'=>zAe E.N x x'&&zAe E.N (.t y) y'&&zDB E j base (off+1)&&zDc P t==some 1|_=>false)
 |.alloc d j base cells=>decide (E.nfix≤j)&&zAF E.N (some d) dst&&zJl E j base cells.length&&(match op with|.alloc t=>(match (P.info? t).bind (·.zero) with|some z=>zBJ cells z.cells.toList|none=>false)|_=>false)
 |.box d j base n x=>decide (E.nfix≤j)&&zAF E.N (some d) dst&&zJl E j base n&&(match op with|.box _ y=>zAe E.N x y|_=>false)
 |.alo d j base cells=>decide (E.nfix≤j)&&zAF E.N (some d) dst&&zJl E j base cells.length&&decide (0 < cells.length)&&(match op with|.alloc t=>(match (P.info? t).bind (·.zero) with|some z=>zBJ cells z.cells.toList|none=>false)|_=>false)
 |.bxo d j base n x=>decide (E.nfix≤j)&&zAF E.N (some d) dst&&zJl E j base n&&decide (0 < n)&&(match op with|.box _ y=>zAe E.N x y|_=>false)
 |.app d e k x y=>zAF E.N (some d) dst&&(match op with|.call c=>(match c.callee with|.builtin .append=>true|_=>false)&&(match c.args.toList,c.argTypes.toList with|[x',y'],[t,t']=>zAe E.N x x'&&zAe E.N y y'&&t==t'&&zC5 P t e k|_,_=>false)|_=>false)
 |.bsl d e k parts=>zAF E.N (some d) dst&&(match op with|.buildSlice t n ps=>zDf E.N 0 parts ps.toList&&n==parts.length&&decide (n * k≤2 ^ 24)&&zC5 P t e k|_=>false)
 |.pan x=>(match op with|.call c=>(match c.callee with|.builtin .panic=>true|_=>false)&&(match c.args.toList with|[y]=>zAe E.N x y|_=>false)|.panic y=>zAe E.N x y|_=>false)
 |.nlk d _ _=>zAF E.N (some d) dst&&(match op with|.move y=>zAe E.N (.c (.one (.nl 0))) y|.assign y=>zAe E.N (.c (.one (.nl 0))) y|_=>false)
 |.mvk d x=>zAF E.N (some d) dst&&(match op with|.move y=>zAe E.N (.t x) y|.assign y=>zAe E.N (.t x) y|_=>false)
 |.trk d x hi=>zAF E.N (some d) dst&&(match op with|.slice t y lo' hi' mx=>mx.isNone&&lo'.isNone&&zAe E.N (.t x) y&&zEm E.N (some hi) hi'&&(match sliceElem? P t with|some e=>(zDc P e).isSome|none=>false)|_=>false)
 |.apk d e k x y=>zAF E.N (some d) dst&&(match op with|.call c=>(match c.callee with|.builtin .append=>true|_=>false)&&(match c.args.toList,c.argTypes.toList with|[x',y'],[t,t']=>zAe E.N (.t x) x'&&zAe E.N y y'&&t==t'&&zC5 P t e k|_,_=>false)|_=>false)
 |.vnl d _ _=>zAF E.N (some d) dst&&(match op with|.move y=>zAe E.N (.c (.one (.nl 0))) y|.assign y=>zAe E.N (.c (.one (.nl 0))) y|_=>false)
 |.vmv d x=>zAF E.N (some d) dst&&(match op with|.move y=>zAe E.N (.t x) y|.assign y=>zAe E.N (.t x) y|_=>false)
 |.vld d x j base off n agg=>zAF E.N (some d) dst&&(match op with|.load t y=>zAe E.N x y&&zDB E j base (off+n)&&zBw P t==some agg&&zDc P t==some n&&(agg||n==1)|_=>false)
 |.vst x j base off n y=>dst.isNone&&(match op with|.store t x' y'=>zAe E.N x x'&&zAe E.N (.t y) y'&&zDB E j base (off+n)&&zDc P t==some n|_=>false)
 |.vap d e k x y=>zAF E.N (some d) dst&&(match op with|.call c=>(match c.callee with|.builtin .append=>true|_=>false)&&(match c.args.toList,c.argTypes.toList with|[x',y'],[t,t']=>zAe E.N (.t x) x'&&zAe E.N y y'&&t==t'&&zC5 P t e k|_,_=>false)|_=>false)
 |.callo d f x=>zAF E.N (some d) dst&&(match op with|.call c=>(match c.callee with|.value (.func g)=>g==f|_=>false)&&(match c.args.toList with|[y]=>zAe E.N (.t x) y|_=>false)|_=>false)
 |.callp d f x=>zAF E.N (some d) dst&&(match op with|.call c=>(match c.callee with|.value (.func g)=>g==f|_=>false)&&(match c.args.toList with|[y]=>zAe E.N (.t x) y|_=>false)|_=>false)
 |.vbx d j base n x=>decide (E.nfix≤j)&&zAF E.N (some d) dst&&zJl E j base n&&(match op with|.box _ y=>zAe E.N (.t x) y|_=>false)
 |.vbs d e k x=>zAF E.N (some d) dst&&(match op with|.buildSlice t n ps=>zDf E.N 0 [.t x] ps.toList&&n==1&&decide (k≤2 ^ 24)&&zC5 P t e k|_=>false)
 |.vbp d e k y=>zAF E.N (some d) dst&&(match op with|.buildSlice t n ps=>zDf E.N 0 [y] ps.toList&&n==1&&decide (k≤2 ^ 24)&&zC5 P t e k|_=>false)
 |.vbd d zs off n y=>zAF E.N (some d) dst&&(match op with|.build t ps=>(match (P.info? t).bind (·.zero) with|some (.agg z)=>zBJ zs z.toList|_=>false)&&zBx P E.N t [(off,n,y)] ps.toList&&zEg P t|_=>false)
 |.vbe d zs parts off n y=>zAF E.N (some d) dst&&(match op with|.build t ps=>(match (P.info? t).bind (·.zero) with|some (.agg z)=>zBJ zs z.toList|_=>false)&&zBx P E.N t (parts++[(off,n,y)]) ps.toList&&zEg P t|_=>false)
 |.vby d j base n x=>decide (E.nfix≤j)&&zAF E.N (some d) dst&&zJl E j base n&&decide (0 < n)&&(match op with|.box _ y=>zAe E.N (.t x) y|_=>false)
 |.vle d x r j base pt n agg=>zAF E.N (some d) dst&&zCL E r j base&&zZw E.N pt&&(match op with|.load t y=>zAe E.N x y&&zBw P t==some agg&&zDc P t==some n&&(agg||n==1)|_=>false)
 |.vlp d x r j base pt n agg=>zAF E.N (some d) dst&&zCL E r j base&&zZw E.N pt&&(match op with|.load t y=>zAe E.N x y&&zBw P t==some agg&&zDc P t==some n&&(agg||n==1)|_=>false)
 |.vlh d x r j base pt=>zAF E.N (some d) dst&&zCL E r j base&&zZw E.N pt&&(match op with|.load t y=>zAe E.N x y&&zBw P t==some false&&zDc P t==some 1|_=>false)
 |.callm d f r args=>zAF E.N d dst&&yDb args&&(match op with|.call c=>(match c.callee with|.value (.func g)=>g==f|_=>false)&&(match c.args.toList with|y::ys=>zAe E.N (.t r) y&&zEa E args ys|[]=>false)|_=>false)
 |.vtr d x hi=>zAF E.N (some d) dst&&(match op with|.slice t y lo' hi' mx=>mx.isNone&&lo'.isNone&&zAe E.N (.t x) y&&zEm E.N (some hi) hi'&&(match sliceElem? P t with|some e=>(zDc P e).isSome|none=>false)|_=>false)
 |.bmk d T _=>zAF E.N (some d) dst&&(match op with|.alloc t=>t==T&&(match (P.info? t).bind (·.zero) with|some z=>zBJ [.v (.pointer none),.nl 0] z.cells.toList|none=>false)|_=>false)
 |.mmk d=>zAF E.N (some d) dst&&(match op with|.makeMap _ r=>r.isNone|_=>false)
 |.mps x r kk k y=>dst.isNone&&decide (r < E.N)&&(match op with|.mapUpdate t m' k' y'=>zAe E.N x m'&&zAe E.N k k'&&zAe E.N y y'&&zSK P t kk|.insert t m' k' y'=>zAe E.N x m'&&zAe E.N k k'&&zAe E.N y y'&&zSK P t kk|_=>false)
 |.mpl d x r kk k z ok=>zAF E.N (some d) dst&&decide (r < E.N)&&(match op with|.lookup t m' k' ok'=>ok==ok'&&zAe E.N x m'&&zAe E.N k k'&&zSK P t kk&&yEx P t z|_=>false)
 |.mpv d x r kk k e kw=>zAF E.N (some d) dst&&decide (r < E.N)&&(match op with|.lookup t m' k' ok'=>!ok'&&zAe E.N x m'&&zAe E.N k k'&&zSK P t kk&&yEx P t (.nl 0)|_=>false)
 |.mrg d x r=>zAF E.N (some d) dst&&decide (r < E.N)&&(match op with|.range t y=>zAe E.N x y&&(match P.underlying t with|some (.map _ _)=>true|_=>false)|_=>false)
 |.mnx d it r=>zAF E.N (some d) dst&&decide (r < E.N)&&(match op with|.next y s=>!s&&zAe E.N (.t it) y|_=>false)
 |.men d it r=>zAF E.N (some d) dst&&decide (r < E.N)&&(match op with|.entry y=>zAe E.N (.t it) y|_=>false)
 |.cpy d e k r x y=>zAF E.N d dst&&decide (r < E.N)&&(match op with|.call c=>(match c.callee with|.builtin .copy=>true|_=>false)&&(match c.args.toList,c.argTypes.toList with|[x',y'],[t,t']=>zAe E.N x x'&&zAe E.N y y'&&t==t'&&zC5 P t e k|_,_=>false)|_=>false)
 |.cals d f r x args=>zAF E.N d dst&&yDb args&&decide (r < E.N)&&(match op with|.call c=>(match c.callee with|.value (.func g)=>g==f|_=>false)&&(match c.args.toList with|y::ys=>zAe E.N x y&&zEa E args ys|[]=>false)|_=>false)
 |.vow d v _ _ _=>zAF E.N (some d) dst&&yDi P E v op
 |.mkc d f caps=>zAF E.N (some d) dst&&(match op with|.makeFunc (.func g) first captured=>f==g&&first.isEmpty&&zFo E.N caps captured.toList|_=>false)
 |.clc d x bxs args=>zAF E.N d dst&&yDb args&&yFe E bxs&&(match op with|.call c=>(match c.callee with|.value y=>zAe E.N x y|_=>false)&&zEa E args c.args.toList|_=>false)
 |.vmk d e k zs x=>zAF E.N (some d) dst&&(match op with|.makeSlice t l c=>zAe E.N x l&&zAe E.N x c&&zC5 P t e k&&(match (P.info? e).bind (·.zero) with|some zv=>zBJ zs zv.cells.toList|none=>false)|_=>false)
 |.vse x r j base pt n y=>dst.isNone&&zCL E r j base&&zZw E.N pt&&(match op with|.store t x' y'=>zAe E.N x x'&&zAe E.N y y'&&zDc P t==some n|_=>false)
 |.isn d ng x=>zAF E.N (some d) dst&&(match op with|.binOp op' t x' (.const (.slice none 0 0)) _=>decide (op'=if ng then .neq else .eql)&&zHC P t&&zAe E.N x x'|_=>false)
end Go.Hx
end

section
/-
 THE ABSTRACT LAYER, SEVENTH TEXT: the operations that turn the frame are sound. Generic over the program. No condition.
-/
namespace Go.Hx
open Go.RowKit
variable [Glob]
section
variable {P:Program} {E:Env} {S:Start} {m:Mem} {β:Bx} {ow:Ow} {F:List Ct} {a:Act} {w:World}
theorem zAC {o:Oper} {K:Act→World→Prop} {Q:Exit→Act→World→Prop} {u:Value} {w':World} (hr:(execOp a.eval o).run P w=.ok (.value u) w') (hk:K (a.put o.dst u) w'):o.wp P a w K Q:=by
 unfold Oper.wp;rw [hr];exact hk
theorem zFr {o:Oper} {K:Act→World→Prop} {Q:Exit→Act→World→Prop} {w':World} (hr:(execOp a.eval o).run P w=.ok .skip w') (hk:K (a.put o.dst undef) w'):o.wp P a w K Q:=by
 unfold Oper.wp;rw [hr];exact hk
def zDe (E:Env) (S:Start) (K:List Ct→Prop):Act→World→Prop:=fun a w=>∃ F,K F∧Inv E S F a w
theorem zAf {N d:Nat} {dst:Option Nat} (h:zAF N (some d) dst=true):dst=some d∧d < N:=by
 cases dst with
 |none=>simp [zAF] at h
 |some d'=>simp only [zAF,Bool.and_eq_true,beq_iff_eq,decide_eq_true_eq] at h;exact ⟨by rw [h.1],h.2⟩
theorem yG3 (wf:E.Wf) (h:InvG E S m β ow F a w) {d:Nat} {v:VOp} {o:Oper} (hd:zAF E.N (some d) o.dst=true) (hk:yDi P E v o.op=true) {K:List Ct→Prop} {Q:Exit→Act→World→Prop}
  (hc:(ev F v).1) (hK:K (F.set d (ev F v).2)):o.wp P a w (zDe E S K) Q:=by
 obtain ⟨hd1,hd2⟩:=zAf hd
 obtain ⟨u,m',w',hr,q,hrep⟩:=zSJ h v o hk d hc
 refine zAC hr ⟨_,hK,m',β,ow,?_⟩
 rw [hd1]
 exact (h.quiet q).slot wf hd2 hrep
theorem yFf (wf:E.Wf) (h:InvG E S m β ow F a w) {d:Nat} {v:VOp} {o:Oper} (hd:zAF E.N (some d) o.dst=true) (hk:yDi P E v o.op=true) {K:List Ct→Prop} {Q:Exit→Act→World→Prop} {x:PVal}
  (he:(ev F v).2=.pv x) (hc:(ev F v).1) (hK:K (F.set d (.gd true x))):o.wp P a w (zDe E S K) Q:=by
 obtain ⟨hd1,hd2⟩:=zAf hd
 obtain ⟨u,m',w',hr,q,hrep⟩:=zSJ h v o hk d hc
 rw [he] at hrep
 refine zAC hr ⟨_,hK,m',β,ow,?_⟩
 rw [hd1]
 exact (h.quiet q).slot wf hd2 ⟨fun _=>hrep,fun h=>by cases h⟩
def zEB (ow:Ow) (v:Value) (d:Nat):Ow:=fun b=>if v.ownBlock=some b then some (.key d) else ow b
theorem zFs {s d e k:Nat} {rows:List (List PV)} {v:Value} (h:OwnRep m w ow (.key s) e k rows v):Step (fun t=>t=.key s∨t=.key d) m m w w ow (zEB ow v d) where
 le:=m.le_refl
 keep:=fun g t hg hx=>by
  refine ⟨rfl,fun _=>rfl,?_⟩
  unfold zEB
  rw [if_neg]
  ·exact hg
  ·intro hv
   have:=(h.2 g hv).1
   rw [hg] at this
   exact hx (.inl (Option.some.inj this))
theorem zNe (h:InvG E S m β ow F a w) {s d e k:Nat} {rows:List (List PV)} {v:Value} (ho:OwnRep m w ow (.key s) e k rows v):∀ b t,zEB ow v d b=some t→S.w0.heap.size≤b∨S.R0 b:=by
 intro b t hb
 unfold zEB at hb
 split at hb
 ·rename_i hv;exact h.own b _ (ho.2 b hv).1
 ·exact h.own b t hb
theorem zSL (h:InvG E S m β ow F a w) {s d e k:Nat} {rows:List (List PV)} {v:Value} (ho:OwnRep m w ow (.key s) e k rows v):∀ b t,zEB ow v d b=some t→b < w.heap.size:=by
 intro b t hb
 unfold zEB at hb
 split at hb
 ·rename_i hv;exact h.lt b _ (ho.2 b hv).1
 ·exact h.lt b t hb
theorem zNf {s d e k:Nat} {rows:List (List PV)} {v:Value} (h:OwnRep m w ow (.key s) e k rows v):OwnRep m w (zEB ow v d) (.key d) e k rows v:=
 h.at_.rep fun g hg=>by simp [zEB,hg]
theorem zGA {d i:Nat} {u:Value} (hd:d < a.tmps.size):(a.put (some d) u).tmps.getD i undef=if d=i then u else a.tmps.getD i undef:=by
 simp only [Act.put]
 rw [zKz]
 by_cases h:d=i
 ·subst h;rw [if_pos ⟨rfl,hd⟩,if_pos rfl]
 ·rw [if_neg (by omega),if_neg h]
theorem zAG {l:List Ct} {i d:Nat} {c:Ct} (hd:d < l.length):(l.set d c).getD i .un=if d=i then c else l.getD i .un:=by
 rw [zA3]
 by_cases h:d=i
 ·subst h;rw [if_pos ⟨rfl,hd⟩,if_pos rfl]
 ·rw [if_neg (by omega),if_neg h]
theorem yEy (wf:E.Wf) (h:InvG E S m β ow F a w) {d x:Nat} {o:Oper} (hd:zAF E.N (some d) o.dst=true) {y:Operand} (ho:o.op=.move y∨o.op=.assign y) (hk:zAe E.N (.t x) y=true) {K:List Ct→Prop} {Q:Exit→Act→World→Prop}
  {e k:Nat} {rows:List (List PV)} (hx:F.getD x .un=.own e k rows) (_hne:d≠x) (hK:K ((F.set x (.pv (.one (.sl k rows)))).set d (.own e k rows))):o.wp P a w (zDe E S K) Q:=by
 obtain ⟨hd1,hd2⟩:=zAf hd
 have hr:(execOp a.eval o).run P w=.ok (.value (a.eval y)) w:=by
  unfold execOp
  rcases ho with ho|ho<;>rw [ho]<;>rfl
 have hy:y=.tmp x∧x < E.N:=by
  cases y<;>simp only [zAe] at hk<;>try cases hk
  simp only [Bool.and_eq_true,beq_iff_eq,decide_eq_true_eq] at hk
  exact ⟨by rw [hk.1],hk.2⟩
 obtain ⟨rfl,hxN⟩:=hy
 have hrep:=h.slots x hxN
 rw [hx] at hrep
 have hv:a.eval (.tmp x)=a.tmps.getD x undef:=rfl
 have hL:=h.lenF
 have hle:=wf.le
 refine zAC hr ⟨_,hK,m,β,zEB ow (a.tmps.getD x undef) d,?_⟩
 rw [hd1,hv]
 refine h.step (zFs hrep) (by simp) (by simp [Act.put]) rfl ?_ ?_ h.mem (Pres.refl _ _) (zNe h hrep) (zSL h hrep) (fun b o u hu=>.inl hu)
 ·intro i hi
  rw [zAG (by simp;omega),zAG (by omega),zGA (by rw [h.lenA];exact hd2)]
  by_cases h1:d=i
  ·subst h1
   right
   rw [if_pos rfl,if_pos rfl]
   exact zNf hrep
  ·rw [if_neg h1,if_neg h1]
   by_cases h2:x=i
   ·subst h2
    right
    rw [if_pos rfl]
    exact OwnRep.rp hrep
   ·left
    rw [if_neg h2]
    exact ⟨rfl,rfl,.inl (by rintro (h3|h3)<;>injection h3<;>omega)⟩
 ·intro j bn hj
  left
  have:=wf.lo j bn hj
  refine ⟨(by rintro (h3|h3)<;>cases h3),fun o ho=>⟨?_,by rintro (h3|h3)<;>injection h3<;>omega⟩⟩
  rw [zAG (by simp;omega),zAG (by omega),if_neg (by omega),if_neg (by omega)]
theorem yEz (wf:E.Wf) (h:InvG E S m β ow F a w) {d e k:Nat} {o:Oper} (hd:zAF E.N (some d) o.dst=true) {y:Operand} (ho:o.op=.move y∨o.op=.assign y) (hk:zAe E.N (.c (.one (.nl 0))) y=true) {K:List Ct→Prop} {Q:Exit→Act→World→Prop}
  (hK:K (F.set d (.own e k []))):o.wp P a w (zDe E S K) Q:=by
 obtain ⟨hd1,hd2⟩:=zAf hd
 have hr:(execOp a.eval o).run P w=.ok (.value (a.eval y)) w:=by
  unfold execOp
  rcases ho with ho|ho<;>rw [ho]<;>rfl
 have hy:a.eval y=.slice none 0 0:=by
  have:=zAT h hk (p:=.one (.nl 0)) trivial rfl
  exact this
 refine zAC hr ⟨_,hK,m,β,ow,?_⟩
 rw [hd1,hy]
 exact h.slot wf hd2 ((OwnAt.nil m w e k).rep fun g hg=>by simp [Value.ownBlock] at hg)
theorem zBd {x:Nat} {y:Operand} (hk:zAe E.N (.t x) y=true):y=.tmp x∧x < E.N:=by
 cases y<;>simp only [zAe] at hk<;>try cases hk
 simp only [Bool.and_eq_true,beq_iff_eq,decide_eq_true_eq] at hk
 exact ⟨by rw [hk.1],hk.2⟩
theorem zCM {j base top:Nat} (h:zDB E j base top=true):∃ n,E.Γ[j]?=some (base,n)∧top≤n:=by
 unfold zDB at h
 split at h
 ·rename_i bn hbn
  simp only [Bool.and_eq_true,beq_iff_eq,decide_eq_true_eq] at h
  obtain ⟨b1,b2⟩:=bn
  simp only at h
  exact ⟨b2,by rw [hbn,←h.1],h.2⟩
 ·cases h
theorem zDK {j base n:Nat} (h:zJl E j base n=true):E.Γ[j]?=some (base,n):=by
 unfold zJl at h
 split at h
 ·rename_i bn hbn
  simp only [Bool.and_eq_true,beq_iff_eq] at h
  obtain ⟨b1,b2⟩:=bn
  simp only at h
  rw [hbn,←h.1,←h.2]
 ·cases h
theorem zJm {vs:Array Value} {i:Nat} (hi:i < vs.size):vs[i]?=some (vs.getD i undef):=by simp [hi]
theorem yG4 (wf:E.Wf) (h:InvG E S m β ow F a w) {d j base off e k:Nat} {x:Opd} {o:Oper} (hd:zAF E.N (some d) o.dst=true) {t:TypeId} {y:Operand} (ho:o.op=.load t y) (hk:zAe E.N x y=true) (hb:zDB E j base (off+1)=true) (hag:zBw P t=some false) {K:List Ct→Prop} {Q:Exit→Act→World→Prop}
  {rows:List (List PV)} (hx:zAp F x=.ptr j off) (hc:F.getD (base+off) .un=.own e k rows) (hK:K ((F.set (base+off) (.pv (.one (.sl k rows)))).set d (.own e k rows))):o.wp P a w (zDe E S K) Q:=by
 obtain ⟨hd1,hd2⟩:=zAf hd
 obtain ⟨n,hj,hn⟩:=zCM hb
 obtain ⟨b,hβ,hv⟩:=zCd h hk hx
 have hB:=h.boxes j _ hj
 rw [hβ] at hB
 have hB':=hB
 obtain ⟨ho1,ho2,vs,T,hh,hsz,hcells⟩:=hB'
 have hcr:=hcells off (by simp only;omega)
 simp only at hcr hsz
 rw [hc] at hcr
 have hcell:w.cell? ⟨b,off,none⟩=some (vs.getD off undef):=by
  rw [cell_of_row w b off vs T (0,0) hh];exact zJm (by omega)
 have hr:(execOp a.eval o).run P w=.ok (.value (vs.getD off undef)) w:=by
  unfold execOp;rw [ho]
  simp only [hv,Instr.loadAt,Instr.sureAddr,loadVar,Sem.run_bind,Sem.run_pure,Result.andThen_ok,zFp hag]
  simp [hcell]
 have hL:=h.lenF
 have hle:=wf.le
 have hlo:=wf.lo j _ hj
 have hhi:=wf.hi j _ hj
 simp only at hlo hhi
 refine zAC hr ⟨_,hK,m,β,zEB ow (vs.getD off undef) d,?_⟩
 rw [hd1]
 refine h.step (zFs hcr) (by simp) (by simp [Act.put]) rfl ?_ ?_ h.mem (Pres.refl _ _) (zNe h hcr) (zSL h hcr) (fun b o u hu=>.inl hu)
 ·intro i hi
  rw [zAG (by simp;omega),zAG (by omega),zGA (by rw [h.lenA];exact hd2)]
  by_cases h1:d=i
  ·subst h1
   right
   rw [if_pos rfl,if_pos rfl]
   exact zNf hcr
  ·rw [if_neg h1,if_neg h1,if_neg (by omega)]
   left
   exact ⟨rfl,rfl,.inl (by rintro (h3|h3)<;>injection h3<;>omega)⟩
 ·intro j' bn hj'
  have hlo':=wf.lo j' bn hj'
  by_cases hjj:j'=j
  ·subst hjj
   rw [hj] at hj'
   injection hj' with hj'
   subst hj'
   right
   rw [hβ]
   obtain ⟨s1,s2,s3⟩:=(zFs (d:=d) hcr).keep b _ ho1 (by rintro (h3|h3)<;>cases h3)
   refine ⟨s3,ho2,vs,T,hh,hsz,fun o' ho'=>?_⟩
   simp only at ho' ⊢
   rw [zAG (by simp;omega),zAG (by omega),if_neg (by omega)]
   by_cases h2:off=o'
   ·subst h2
    rw [if_pos rfl]
    exact OwnRep.rp hcr
   ·rw [if_neg (by omega)]
    exact (hcells o' ho').step (zFs hcr) (by rintro (h3|h3)<;>injection h3<;>(simp only at *;omega))
  ·left
   have hap:=wf.ap j' j _ _ hj' hj hjj
   simp only at hap
   refine ⟨(by rintro (h3|h3)<;>cases h3),fun o' ho'=>⟨?_,by rintro (h3|h3)<;>injection h3<;>omega⟩⟩
   rw [zAG (by simp;omega),zAG (by omega),if_neg (by omega),if_neg (by omega)]
theorem zAs:∀ (cs:List Ct) (F:List Ct) (i k:Nat),(zAa F i cs).getD k .un=if i≤k∧k < i+cs.length∧k < F.length then cs.getD (k-i) .un else F.getD k .un
 |[],F,i,k=>by simp only [zAa,List.length_nil,Nat.add_zero];rw [if_neg (by omega)]
 |c::cs,F,i,k=>by
  simp only [zAa]
  rw [zAs cs (F.set i c) (i+1) k,zA3]
  simp only [List.length_set,List.length_cons]
  by_cases h1:i=k
  ·subst h1
   rw [if_neg (by omega)]
   by_cases h2:i < F.length
   ·rw [if_pos ⟨rfl,h2⟩,if_pos ⟨Nat.le_refl _,by omega,h2⟩]
    simp
   ·rw [if_neg (by omega),if_neg (by omega)]
  ·by_cases h2:i+1≤k∧k < i+1+cs.length∧k < F.length
   ·rw [if_pos h2,if_pos (by omega)]
    have e:k-i=(k-(i+1))+1:=by omega
    rw [e,List.getD_cons_succ]
   ·rw [if_neg h2,if_neg (by omega),if_neg (by omega)]
theorem zAQ:∀ (cs:List Ct) (F:List Ct) (i:Nat),(zAa F i cs).length=F.length
 |[],_,_=>rfl
 |c::cs,F,i=>by simp only [zAa];rw [zAQ cs];simp
theorem zSM (l us:List Value) (off k:Nat) (h:off+us.length≤l.length):(l.take off++us++l.drop (off+us.length))[k]?=if off≤k∧k < off+us.length then us[k-off]? else l[k]?:=by
 have hlt:(l.take off).length=off:=by simp;omega
 rw [List.append_assoc]
 by_cases ha:k < off
 ·rw [if_neg (by omega),List.getElem?_append_left (by rw [hlt];exact ha),List.getElem?_take,if_pos ha]
 ·rw [List.getElem?_append_right (by omega),hlt]
  by_cases hb:k < off+us.length
  ·rw [if_pos ⟨by omega,hb⟩,List.getElem?_append_left (by omega)]
  ·rw [if_neg (by omega),List.getElem?_append_right (by omega),List.getElem?_drop]
   congr 1
   omega
theorem Pres.setRow (R:Nat→Prop) (w:World) (g:Nat) (cs:Array Value) (hg:R g):Pres R w (w.setRow g cs):=
 ⟨rfl,rfl,rfl,by simp,fun b _ hr=>setRow_other w g b cs (fun e=>hr (e▸hg)),fun _=>Nat.le_refl _⟩
theorem MemOk.setRow (hm:MemOk m w) {g:Nat} (hg:∀ o,m g o=none) (cs:Array Value):MemOk m (w.setRow g cs):=fun b o u hu=>by
 have hne:b≠g:=fun e=>by subst e;rw [hg o] at hu;cases hu
 rw [World.cell?_of_block (w:=w) (setRow_other w g b cs hne)]
 exact hm b o u hu
theorem zDg {t:TypeId} {v:Value} {n:Nat} (hs:zDc P t=some n) (hv:v.cells.size=n) {b off:Nat} {vs:Array Value} {T:TypeId} (hh:w.heap[b]?=some (.cells vs T (0,0))) (hle:off+n≤vs.size) (hf:∀ u∈v.cells.toList,zEA u=true):
  (storeVar t ⟨b,off,none⟩ v).run P w=.ok () (w.setRow b (vs.toList.take off++v.cells.toList++vs.toList.drop (off+n)).toArray):=by
 have hl:v.cells.toList.length=n:=by rw [Array.length_toList];exact hv
 have:=run_storeCells_at P b off T v.cells.toList 0 vs w hh (by rw [hl];omega) (fun u hu=>zBU (hf u hu))
 rw [hl] at this
 unfold storeVar
 rw [Sem.run_bind,zBj hs w]
 simp only [Result.andThen_ok]
 rw [if_neg (by rw [hv];simp)]
 simpa using this
theorem yEA (wf:E.Wf) (h:InvG E S m β ow F a w) {x y:Opd} {j base off n:Nat} {o:Oper} (hd:o.dst=none) {t:TypeId} {x' y':Operand} (ho:o.op=.store t x' y') (hk1:zAe E.N x x'=true) (hk2:zAe E.N y y'=true) (hb:zDB E j base (off+n)=true) (hs:zDc P t=some n)
  {K:List Ct→Prop} {Q:Exit→Act→World→Prop} {p:PVal} (hx:zAp F x=.ptr j off) (hp:(zAp F y).pv?=some p) (hn:p.cells.length=n) (hne:(zAp F y).need) (hK:K (zAa F (base+off) (p.cells.map fun c=>.pv (.one c)))):o.wp P a w (zDe E S K) Q:=by
 obtain ⟨nn,hj,hnn⟩:=zCM hb
 obtain ⟨b,hβ,hv⟩:=zCd h hk1 hx
 have hB:=h.boxes j _ hj
 rw [hβ] at hB
 obtain ⟨ho1,ho2,vs,T,hh,hsz,hcells⟩:=hB
 simp only at hsz hcells
 have hrv:=(zAT h hk2 hne hp).cells
 have hcl:=hrv.length
 have hvs:(a.eval y').cells.size=n:=by rw [←Array.length_toList,hcl,hn]
 have hrun:=zDg (P:=P) (w:=w) hs hvs hh (off:=off) (by omega) hrv.flat_
 have hr:(execOp a.eval o).run P w=.ok .skip (w.setRow b (vs.toList.take off++(a.eval y').cells.toList++vs.toList.drop (off+n)).toArray):=by
  unfold execOp;rw [ho]
  simp only [hv,Instr.storeAt,Instr.sureAddr,Sem.run_bind,Sem.run_pure,Result.andThen_ok,hrun]
 have hL:=h.lenF
 have hlo:=wf.lo j _ hj
 have hhi:=wf.hi j _ hj
 simp only at hlo hhi
 have hln:(a.eval y').cells.toList.length=n:=by rw [hcl,hn]
 have st:Step (fun t=>t=.box j) m m w (w.setRow b (vs.toList.take off++(a.eval y').cells.toList++vs.toList.drop (off+n)).toArray) ow ow:=by
  refine ⟨m.le_refl,fun g t hg hx=>⟨setRow_other w b g _ ?_,fun _=>rfl,hg⟩⟩
  rintro rfl
  rw [ho1] at hg
  exact hx (Option.some.inj hg).symm
 refine zFr hr ⟨_,hK,m,β,ow,?_⟩
 rw [hd]
 refine h.step st (zAQ _ _ _) rfl rfl ?_ ?_ (h.mem.setRow ho2 _) (Pres.setRow _ w b _ ((h.own b _ ho1).elim .inr .inl)) h.own (fun b' t hb'=>by simpa using h.lt b' t hb') (fun b o u hu=>.inl hu)
 ·intro i hi
  left
  refine ⟨?_,rfl,.inl (by rintro h3;cases h3)⟩
  rw [zAs,if_neg (by omega)]
 ·intro j' bn hj'
  by_cases hjj:j'=j
  ·subst hjj
   rw [hj] at hj'
   injection hj' with hj'
   subst hj'
   right
   rw [hβ]
   refine ⟨ho1,ho2,_,T,setRow_heap w b vs _ T (0,0) hh,?_,fun o' ho'=>?_⟩
   ·simp only [List.size_toArray,List.length_append,List.length_take,List.length_drop,Array.length_toList]
    omega
   ·simp only at ho' ⊢
    rw [zAs]
    have hcs:(vs.toList.take off++(a.eval y').cells.toList++vs.toList.drop (off+n)).toArray.getD o' undef=(if off≤o'∧o' < off+n then (a.eval y').cells.toList[o'-off]? else vs.toList[o']?).getD undef:=by
     have:=zSM vs.toList (a.eval y').cells.toList off o' (by rw [hln,Array.length_toList];omega)
     rw [hln] at this
     rw [Array.getD_eq_getD_getElem?,←this]
     simp
    rw [hcs]
    by_cases hin:off≤o'∧o' < off+n
    ·rw [if_pos (by rw [List.length_map,hn];omega),if_pos hin]
     have e:base+o'-(base+off)=o'-off:=by omega
     rw [e]
     have hlt:o'-off < p.cells.length:=by omega
     have hlt2:o'-off < (a.eval y').cells.toList.length:=by omega
     rw [List.getElem?_eq_getElem hlt2,Option.getD_some,List.getD_eq_getElem?_getD,List.getElem?_map,List.getElem?_eq_getElem hlt]
     exact hrv.get _ _ _ (List.getElem?_eq_getElem hlt) (List.getElem?_eq_getElem hlt2)
    ·rw [if_neg (by rw [List.length_map,hn];omega),if_neg hin]
     have:=hcells o' (by omega)
     rw [Array.getElem?_toList,←Array.getD_eq_getD_getElem?]
     exact this.step st (by rintro h3;cases h3)
  ·left
   have hap:=wf.ap j' j _ _ hj' hj hjj
   simp only at hap
   refine ⟨by rintro h3;injection h3 with h3;exact hjj h3,fun o' ho'=>⟨?_,by rintro h3;cases h3⟩⟩
   rw [zAs,if_neg (by rw [List.length_map,hn];omega)]
theorem yG5 (wf:E.Wf) (h:InvG E S m β ow F a w) {x:Opd} {y:Nat} {j base off:Nat} {o:Oper} (hd:o.dst=none) {t:TypeId} {x' y':Operand} (ho:o.op=.store t x' y') (hk1:zAe E.N x x'=true) (hk2:zAe E.N (.t y) y'=true) (hb:zDB E j base (off+1)=true) (hs:zDc P t=some 1)
  {K:List Ct→Prop} {Q:Exit→Act→World→Prop} {e k:Nat} {rows:List (List PV)} (hx:zAp F x=.ptr j off) (hy:F.getD y .un=.own e k rows) (hK:K ((F.set y (.pv (.one (.sl k rows)))).set (base+off) (.own e k rows))):o.wp P a w (zDe E S K) Q:=by
 obtain ⟨nn,hj,hnn⟩:=zCM hb
 obtain ⟨b,hβ,hv⟩:=zCd h hk1 hx
 obtain ⟨rfl,hyN⟩:=zBd hk2
 have hB:=h.boxes j _ hj
 rw [hβ] at hB
 obtain ⟨ho1,ho2,vs,T,hh,hsz,hcells⟩:=hB
 simp only at hsz hcells
 have hrep:=h.slots y hyN
 rw [hy] at hrep
 have hev:a.eval (.tmp y)=a.tmps.getD y undef:=rfl
 have hfl:zEA (a.tmps.getD y undef)=true:=Rp.flat_ (OwnRep.rp hrep)
 have hc1:=zFq hfl
 have hrun:=zDg (P:=P) (w:=w) hs (v:=a.tmps.getD y undef) (by rw [hc1];rfl) hh (off:=off) (by omega) (by rw [hc1];simpa using hfl)
 rw [hc1] at hrun
 have hr:(execOp a.eval o).run P w=.ok .skip (w.setRow b (vs.toList.take off++[a.tmps.getD y undef]++vs.toList.drop (off+1)).toArray):=by
  unfold execOp;rw [ho]
  simp only [hv,hev,Instr.storeAt,Instr.sureAddr,Sem.run_bind,Sem.run_pure,Result.andThen_ok,hrun]
 have hL:=h.lenF
 have hlo:=wf.lo j _ hj
 have hhi:=wf.hi j _ hj
 have hle:=wf.le
 simp only at hlo hhi
 have hob:∀ g,(a.tmps.getD y undef).ownBlock=some g→g≠b:=by
  intro g hg e
  subst e
  have:=(hrep.2 g hg).1
  rw [ho1] at this
  cases this
 have st:Step (fun t=>t=.box j∨t=.key y∨t=.key (base+off)) m m w (w.setRow b (vs.toList.take off++[a.tmps.getD y undef]++vs.toList.drop (off+1)).toArray) ow (zEB ow (a.tmps.getD y undef) (base+off)):=by
  refine ⟨m.le_refl,fun g t hg hx=>⟨setRow_other w b g _ ?_,fun _=>rfl,?_⟩⟩
  ·rintro rfl
   rw [ho1] at hg
   exact hx (.inl (Option.some.inj hg).symm)
  ·exact ((zFs (d:=base+off) hrep).keep g t hg (fun h3=>hx (.inr h3))).2.2
 refine zFr hr ⟨_,hK,m,β,zEB ow (a.tmps.getD y undef) (base+off),?_⟩
 rw [hd]
 refine h.step st (by simp) rfl rfl ?_ ?_ (h.mem.setRow ho2 _) (Pres.setRow _ w b _ ((h.own b _ ho1).elim .inr .inl)) (zNe h hrep) (fun b' t hb'=>by simpa using zSL h hrep b' t hb') (fun b o u hu=>.inl hu)
 ·intro i hi
  rw [zAG (by simp;omega),zAG (by omega),if_neg (by omega)]
  by_cases h2:y=i
  ·subst h2
   right
   rw [if_pos rfl]
   exact OwnRep.rp hrep
  ·left
   rw [if_neg h2]
   exact ⟨rfl,rfl,.inl (by rintro (h3|h3|h3)<;>injection h3<;>omega)⟩
 ·intro j' bn hj'
  by_cases hjj:j'=j
  ·subst hjj
   rw [hj] at hj'
   injection hj' with hj'
   subst hj'
   right
   rw [hβ]
   have hbt:zEB ow (a.tmps.getD y undef) (base+off) b=some (.box j'):=by
    unfold zEB
    rw [if_neg (fun h3=>hob b h3 rfl)]
    exact ho1
   refine ⟨hbt,ho2,_,T,setRow_heap w b vs _ T (0,0) hh,?_,fun o' ho'=>?_⟩
   ·simp only [List.size_toArray,List.length_append,List.length_take,List.length_drop,Array.length_toList,List.length_cons,List.length_nil]
    omega
   ·simp only at ho' ⊢
    have hcs:(vs.toList.take off++[a.tmps.getD y undef]++vs.toList.drop (off+1)).toArray.getD o' undef=(if off≤o'∧o' < off+1 then [a.tmps.getD y undef][o'-off]? else vs.toList[o']?).getD undef:=by
     have:=zSM vs.toList [a.tmps.getD y undef] off o' (by rw [Array.length_toList];simp;omega)
     simp only [List.length_cons,List.length_nil,Nat.zero_add] at this
     rw [Array.getD_eq_getD_getElem?,←this]
     simp
    rw [hcs,zAG (by simp;omega),zAG (by omega),if_neg (by omega:¬ y=base+o')]
    by_cases hin:off=o'
    ·subst hin
     rw [if_pos rfl,if_pos ⟨Nat.le_refl _,by omega⟩]
     simp only [Nat.sub_self,List.getElem?_cons_zero,Option.getD_some]
     have st2:Step (fun t=>t=.box j') m m w (w.setRow b (vs.toList.take off++[a.tmps.getD y undef]++vs.toList.drop (off+1)).toArray) (zEB ow (a.tmps.getD y undef) (base+off)) (zEB ow (a.tmps.getD y undef) (base+off)):=by
      refine ⟨m.le_refl,fun g t hg hx=>⟨setRow_other w b g _ ?_,fun _=>rfl,hg⟩⟩
      rintro rfl
      rw [hbt] at hg
      exact hx (Option.some.inj hg).symm
     exact OwnRep.step st2 (by rintro h3;cases h3) (zNf hrep)
    ·rw [if_neg (by omega),if_neg (by omega)]
     have:=hcells o' (by omega)
     rw [Array.getElem?_toList,←Array.getD_eq_getD_getElem?]
     exact this.step st (by rintro (h3|h3|h3)<;>injection h3<;>omega)
  ·left
   have hap:=wf.ap j' j _ _ hj' hj hjj
   simp only at hap
   have hlo':=wf.lo j' bn hj'
   refine ⟨by rintro (h3|h3|h3)<;>injection h3<;>omega,fun o' ho'=>⟨?_,by rintro (h3|h3|h3)<;>injection h3<;>omega⟩⟩
   rw [zAG (by simp;omega),zAG (by omega),if_neg (by omega),if_neg (by omega)]
theorem zCy (F:List Ct) (j i:Nat):(F.map (zDE j)).getD i .un=zDE j (F.getD i .un):=by
 simp only [List.getD_eq_getElem?_getD,List.getElem?_map]
 cases F[i]?<;>rfl
theorem zZx {j:Nat} {c:Ct} (h:unC c):unC (zDE j c):=by
 rcases h with rfl|rfl
 ·exact .inl rfl
 ·exact .inr rfl
theorem InvG.congrF (h:InvG E S m β ow F a w) {F':List Ct} (hl:F'.length=F.length) (hs:∀ i,i < E.N→F'.getD i .un=F.getD i .un)
  (hb:∀ (j:Nat) (bn:Nat×Nat),E.Γ[j]?=some bn→∀ o,o < bn.2→F'.getD (bn.1+o) .un=F.getD (bn.1+o) .un):InvG E S m β ow F' a w where
 lenF:=hl.trans h.lenF
 lenA:=h.lenA
 dfr:=h.dfr
 slots:=fun i hi=>by rw [hs i hi];exact h.slots i hi
 boxes:=fun j bn hj=>by
  have hB:=h.boxes j bn hj
  cases hb':β j with
  |none=>rw [hb'] at hB;intro o ho;rw [hb j bn hj o ho];exact hB o ho
  |some b=>
   rw [hb'] at hB
   obtain ⟨h1,h2,cs,T,h3,h4,h5⟩:=hB
   exact ⟨h1,h2,cs,T,h3,h4,fun o ho=>by rw [hb j bn hj o ho];exact h5 o ho⟩
 mem:=h.mem
 mle:=h.mle
 pres:=h.pres
 own:=h.own
 lt:=h.lt
 new:=h.new
 fix:=h.fix
theorem yDn (h:InvG E S m β ow F a w) {j base n:Nat} (hj:E.Γ[j]?=some (base,n)) (hn:0 < n) (hu:F.getD base .un=.una):
  (∀ i,i < E.N→zDE j (F.getD i .un)=F.getD i .un)∧∀ (j':Nat) (bn:Nat×Nat),E.Γ[j']?=some bn→∀ o,o < bn.2→zDE j (F.getD (bn.1+o) .un)=F.getD (bn.1+o) .un:=by
 have hβ:β j=none:=by
  have hB:=h.boxes j _ hj
  cases hb:β j with
  |none=>rfl
  |some b=>
   rw [hb] at hB
   obtain ⟨_,_,cs,T,_,_,h5⟩:=hB
   have:=h5 0 hn
   simp only [Nat.add_zero] at this
   rw [hu] at this
   exact this.elim
 refine ⟨fun i hi=>?_,fun j' bn hj' o ho=>?_⟩
 ·have hs:=h.slots i hi
  generalize F.getD i .un=c at hs
  cases c with
  |ptr j' off=>
   obtain ⟨b,hb,_⟩:=hs
   show (if j'=j then Ct.un else .ptr j' off)=.ptr j' off
   rw [if_neg]
   intro e;subst e;rw [hβ] at hb;cases hb
  |cl f caps=>
   obtain ⟨us,_,hu⟩:=hs
   show (if zEl j caps then Ct.un else .cl f caps)=.cl f caps
   rw [hu.has hβ];rfl
  |_=>rfl
 ·have hB:=h.boxes j' bn hj'
  cases hb:β j' with
  |none=>
   rw [hb] at hB
   rcases hB o ho with e|e<;>rw [e]<;>rfl
  |some b=>
   rw [hb] at hB
   obtain ⟨_,_,cs,T,_,_,h5⟩:=hB
   have:=h5 o ho
   generalize F.getD (bn.1+o) .un=c at this
   cases c with
   |ptr j'' off=>exact this.elim
   |cl f caps=>exact this.elim
   |_=>rfl
theorem yEB (wf:E.Wf) (h:InvG E S m β ow F a w) {d j base:Nat} (hfj:E.nfix≤j) (hd:d < E.N) {cells:List PV} {us:List Value} (hj:E.Γ[j]?=some (base,cells.length)) (hr:RpL m cells us) (T:TypeId):
  Inv E S (zAa ((F.map (zDE j)).set d (.ptr j 0)) base (cells.map fun c=>.pv (.one c))) (a.put (some d) (.pointer (some ⟨w.heap.size,0,none⟩))) (w.alloc (.cells us.toArray T)):=by
 have hL:=h.lenF
 have hlo:=wf.lo j _ hj
 have hhi:=wf.hi j _ hj
 have hle:=wf.le
 simp only at hlo hhi
 have hus:=hr.length
 have st:Step (fun _=>False) m m w (w.alloc (.cells us.toArray T)) ow (fun b=>if b=w.heap.size then some (.box j) else ow b):=
  ⟨m.le_refl,fun g t hg _=>⟨Below.heap_alloc w _ g (h.lt g t hg),fun _=>rfl,by rw [if_neg (by have:=h.lt g t hg;omega)];exact hg⟩⟩
 refine ⟨m,fun i=>if i=j then some w.heap.size else β i,fun b=>if b=w.heap.size then some (.box j) else ow b,?_⟩
 refine ⟨by rw [zAQ];simp [hL],by simp [Act.put,h.lenA],h.dfr,?_,?_,?_,h.mle,h.pres.trans (Pres.alloc _ w _),?_,?_,h.new,fun j' hj'=>by have:(if j'=j then some w.heap.size else β j')=S.b0 j':=(by rw [if_neg (by omega)];exact h.fix j' hj');exact this⟩
 ·intro i hi
  rw [zAs,if_neg (by omega),zAG (by simp;omega),zGA (by rw [h.lenA];exact hd)]
  by_cases h1:d=i
  ·subst h1
   rw [if_pos rfl,if_pos rfl]
   exact ⟨w.heap.size,by simp,rfl⟩
  ·rw [if_neg h1,if_neg h1,zCy]
   have hs:=(h.slots i hi).step st id
   generalize F.getD i .un=c at hs
   cases c with
   |ptr j' off=>
    simp only [zDE]
    split
    ·trivial
    ·rename_i hne
     obtain ⟨b,hb,hv⟩:=hs
     exact ⟨b,by simp only;rw [if_neg hne];exact hb,hv⟩
   |un=>trivial
   |pv x=>exact hs
   |own e k rows=>exact hs
   |tup xs=>exact hs
   |gd t x=>exact hs
   |stk e k rows=>exact hs
   |hdr n=>exact hs
   |ov x=>exact hs
   |hdp b k n=>exact hs
   |hds b k i n=>exact hs
   |epp b k r f=>exact hs
   |mph b=>exact hs
   |cl f caps=>
    simp only [zDE]
    split
    ·trivial
    ·rename_i hne
     obtain ⟨us,h1,h2⟩:=hs
     exact ⟨us,h1,h2.congr (j:=j) (fun i hi=>if_neg hi) (by simpa using hne)⟩
   |una=>trivial
 ·intro j' bn hj'
  by_cases hjj:j'=j
  ·subst hjj
   rw [hj] at hj'
   injection hj' with hj'
   subst hj'
   simp only [if_true]
   refine ⟨by simp,fun o=>?_,us.toArray,T,heap_alloc_new w _,by simp [hus],fun o' ho'=>?_⟩
   ·cases hm:m w.heap.size o with
    |none=>rfl
    |some u=>have:=zD9 h.mem hm;omega
   ·simp only at ho' ⊢
    rw [zAs,if_pos (by simp;omega)]
    have e:base+o'-base=o':=by omega
    have hlt2:o' < us.length:=by omega
    rw [e,List.getD_eq_getElem?_getD,List.getElem?_map,List.getElem?_eq_getElem ho']
    have hu:us.toArray.getD o' undef=us[o']:=by simp [hlt2]
    rw [hu]
    exact hr.get _ _ _ (List.getElem?_eq_getElem ho') (List.getElem?_eq_getElem hlt2)
  ·rw [if_neg hjj]
   have hap:=wf.ap j' j _ _ hj' hj hjj
   have hlo':=wf.lo j' bn hj'
   simp only at hap
   have hB:=h.boxes j' bn hj'
   have hF:∀ o,o < bn.2→(zAa ((F.map (zDE j)).set d (.ptr j 0)) base (cells.map fun c=>.pv (.one c))).getD (bn.1+o) .un=zDE j (F.getD (bn.1+o) .un):=by
    intro o ho
    rw [zAs,if_neg (by simp;omega),zAG (by simp;omega),if_neg (by omega),zCy]
   cases hb:β j' with
   |none=>
    rw [hb] at hB
    intro o ho
    rw [hF o ho]
    exact zZx (hB o ho)
   |some b=>
    rw [hb] at hB
    obtain ⟨h1,h2,vs,T',h3,h4,h5⟩:=hB
    obtain ⟨h6,_,h8⟩:=st.keep b _ h1 id
    refine ⟨h8,h2,vs,T',h6.trans h3,h4,fun o ho=>?_⟩
    rw [hF o ho]
    have:=(h5 o ho).step st id
    generalize F.getD (bn.1+o) .un=c at this
    cases c with
    |ptr j'' off=>exact this.elim
    |un=>trivial
    |pv x=>exact this
    |own e k rows=>exact this
    |tup xs=>exact this.elim
    |gd t x=>exact this.elim
    |stk e k rows=>exact this.elim
    |hdr n=>exact this.elim
    |ov x=>exact this
    |hdp b k n=>exact this.elim
    |hds b k i n=>exact this.elim
    |epp b k r f=>exact this.elim
    |mph b=>exact this.elim
    |cl f caps=>exact this.elim
    |una=>exact this.elim
 ·intro b o u hu
  have:=zD9 h.mem hu
  rw [World.cell?_alloc_lt w _ _ (by simpa using this)]
  exact h.mem b o u hu
 ·intro b t hb
  split at hb
  ·rename_i e
   exact .inl (by rw [e];exact h.pres.size)
  ·exact h.own b t hb
 ·intro b t hb
  split at hb
  ·rename_i e
   rw [e];simp
  ·have:=h.lt b t hb
   simp;omega
theorem yFg (wf:E.Wf) (h:InvG E S m β ow F a w) {d j base:Nat} (hfj:E.nfix≤j) (hd:d < E.N) {n:Nat} {us:List Value} (hj:E.Γ[j]?=some (base,n)) (hus:us.length=n) (T:TypeId):
  InvG E S m (fun i=>if i=j then some w.heap.size else β i) (fun b=>if b=w.heap.size then some (.box j) else ow b) (zAa ((F.map (zDE j)).set d (.ptr j 0)) base (List.replicate n .un)) (a.put (some d) (.pointer (some ⟨w.heap.size,0,none⟩))) (w.alloc (.cells us.toArray T)):=by
 have hL:=h.lenF
 have hlo:=wf.lo j _ hj
 have hhi:=wf.hi j _ hj
 have hle:=wf.le
 simp only at hlo hhi
 have st:Step (fun _=>False) m m w (w.alloc (.cells us.toArray T)) ow (fun b=>if b=w.heap.size then some (.box j) else ow b):=
  ⟨m.le_refl,fun g t hg _=>⟨Below.heap_alloc w _ g (h.lt g t hg),fun _=>rfl,by rw [if_neg (by have:=h.lt g t hg;omega)];exact hg⟩⟩
 refine ⟨by rw [zAQ];simp [hL],by simp [Act.put,h.lenA],h.dfr,?_,?_,?_,h.mle,h.pres.trans (Pres.alloc _ w _),?_,?_,h.new,fun j' hj'=>by have:(if j'=j then some w.heap.size else β j')=S.b0 j':=(by rw [if_neg (by omega)];exact h.fix j' hj');exact this⟩
 ·intro i hi
  rw [zAs,if_neg (by omega),zAG (by simp;omega),zGA (by rw [h.lenA];exact hd)]
  by_cases h1:d=i
  ·subst h1
   rw [if_pos rfl,if_pos rfl]
   exact ⟨w.heap.size,by simp,rfl⟩
  ·rw [if_neg h1,if_neg h1,zCy]
   have hs:=(h.slots i hi).step st id
   generalize F.getD i .un=c at hs
   cases c with
   |ptr j' off=>
    simp only [zDE]
    split
    ·trivial
    ·rename_i hne
     obtain ⟨b,hb,hv⟩:=hs
     exact ⟨b,by simp only;rw [if_neg hne];exact hb,hv⟩
   |un=>trivial
   |pv x=>exact hs
   |own e k rows=>exact hs
   |tup xs=>exact hs
   |gd t x=>exact hs
   |stk e k rows=>exact hs
   |hdr n=>exact hs
   |ov x=>exact hs
   |hdp b k n=>exact hs
   |hds b k i n=>exact hs
   |epp b k r f=>exact hs
   |mph b=>exact hs
   |cl f caps=>
    simp only [zDE]
    split
    ·trivial
    ·rename_i hne
     obtain ⟨us,h1,h2⟩:=hs
     exact ⟨us,h1,h2.congr (j:=j) (fun i hi=>if_neg hi) (by simpa using hne)⟩
   |una=>trivial
 ·intro j' bn hj'
  by_cases hjj:j'=j
  ·subst hjj
   rw [hj] at hj'
   injection hj' with hj'
   subst hj'
   simp only [if_true]
   refine ⟨by simp,fun o=>?_,us.toArray,T,heap_alloc_new w _,by simp [hus],fun o' ho'=>?_⟩
   ·cases hm:m w.heap.size o with
    |none=>rfl
    |some u=>have:=zD9 h.mem hm;omega
   ·simp only at ho' ⊢
    rw [zAs,if_pos (by simp;omega)]
    have hrep:(List.replicate n Ct.un).getD (base+o'-base) .un=.un:=by
     rw [List.getD_eq_getElem?_getD,List.getElem?_replicate]
     split<;>rfl
    rw [hrep]
    trivial
  ·rw [if_neg hjj]
   have hap:=wf.ap j' j _ _ hj' hj hjj
   have hlo':=wf.lo j' bn hj'
   simp only at hap
   have hB:=h.boxes j' bn hj'
   have hF:∀ o,o < bn.2→(zAa ((F.map (zDE j)).set d (.ptr j 0)) base (List.replicate n .un)).getD (bn.1+o) .un=zDE j (F.getD (bn.1+o) .un):=by
    intro o ho
    rw [zAs,if_neg (by simp;omega),zAG (by simp;omega),if_neg (by omega),zCy]
   cases hb:β j' with
   |none=>
    rw [hb] at hB
    intro o ho
    rw [hF o ho]
    exact zZx (hB o ho)
   |some b=>
    rw [hb] at hB
    obtain ⟨h1,h2,vs,T',h3,h4,h5⟩:=hB
    obtain ⟨h6,_,h8⟩:=st.keep b _ h1 id
    refine ⟨h8,h2,vs,T',h6.trans h3,h4,fun o ho=>?_⟩
    rw [hF o ho]
    have:=(h5 o ho).step st id
    generalize F.getD (bn.1+o) .un=c at this
    cases c with
    |ptr j'' off=>exact this.elim
    |un=>trivial
    |pv x=>exact this
    |own e k rows=>exact this
    |tup xs=>exact this.elim
    |gd t x=>exact this.elim
    |stk e k rows=>exact this.elim
    |hdr n=>exact this.elim
    |ov x=>exact this
    |hdp b k n=>exact this.elim
    |hds b k i n=>exact this.elim
    |epp b k r f=>exact this.elim
    |mph b=>exact this.elim
    |cl f caps=>exact this.elim
    |una=>exact this.elim
 ·intro b o u hu
  have:=zD9 h.mem hu
  rw [World.cell?_alloc_lt w _ _ (by simpa using this)]
  exact h.mem b o u hu
 ·intro b t hb
  split at hb
  ·rename_i e
   exact .inl (by rw [e];exact h.pres.size)
  ·exact h.own b t hb
 ·intro b t hb
  split at hb
  ·rename_i e
   rw [e];simp
  ·have:=h.lt b t hb
   simp;omega
theorem yEC (wf:E.Wf) (h:InvG E S m β ow F a w) {d j base n:Nat} {x:Opd} {o:Oper} (hfj:E.nfix≤j) (hd:zAF E.N (some d) o.dst=true) {t:TypeId} {y:Operand} (ho:o.op=.box t y) (hk:zAe E.N x y=true) (hb:zJl E j base n=true) {K:List Ct→Prop} {Q:Exit→Act→World→Prop} {p:PVal}
  (hp:(zAp F x).pv?=some p) (hn:p.cells.length=n) (hne:(zAp F x).need) (hK:K (zAa ((F.map (zDE j)).set d (.ptr j 0)) base (p.cells.map fun c=>.pv (.one c)))):o.wp P a w (zDe E S K) Q:=by
 obtain ⟨hd1,hd2⟩:=zAf hd
 have hrv:=(zAT h hk hne hp).cells
 have hr:(execOp a.eval o).run P w=.ok (.value (.pointer (some ⟨w.heap.size,0,none⟩))) (w.alloc (.cells (a.eval y).cells.toList.toArray t)):=by
  unfold execOp;rw [ho]
  simp [Instr.box,newVar,newRow]
 subst hn
 refine zAC hr ⟨_,hK,?_⟩
 rw [hd1]
 exact yEB wf h hfj hd2 (zDK hb) hrv t
theorem zZy (wf:E.Wf) (h:InvG E S m β ow F a w) {d j base:Nat} {cells:List PV} {o:Oper} (hfj:E.nfix≤j) (hd:zAF E.N (some d) o.dst=true) {t:TypeId} (ho:o.op=.alloc t) (hb:zJl E j base cells.length=true) {z:Value} (hz:(P.info? t).bind (·.zero)=some z) (hzo:zBJ cells z.cells.toList=true) {K:List Ct→Prop} {Q:Exit→Act→World→Prop}
  (hK:K (zAa ((F.map (zDE j)).set d (.ptr j 0)) base (cells.map fun c=>.pv (.one c)))):o.wp P a w (zDe E S K) Q:=by
 obtain ⟨hd1,hd2⟩:=zAf hd
 obtain ⟨it,hit,hz'⟩:=Option.bind_eq_some_iff.1 hz
 have hr:(execOp a.eval o).run P w=.ok (.value (.pointer (some ⟨w.heap.size,0,none⟩))) (w.alloc (.cells z.cells.toList.toArray t)):=by
  unfold execOp;rw [ho]
  simp [Instr.alloc,newVar,newRow,zeroValue,typeInfo,hit,hz']
 refine zAC hr ⟨_,hK,?_⟩
 rw [hd1]
 exact yEB wf h hfj hd2 (zDK hb) (zDQ hzo) t
theorem zSN (wf:E.Wf) {P:Program} {Q:Exit→Act→World→Prop} (h:InvG E S m β ow F a w) {d j base n:Nat} {o:Oper} (hd:d < E.N) (hj:E.Γ[j]?=some (base,n)) (hn:0 < n) (hu:F.getD base .un=.una) {K:List Ct→Prop} {cs:List Ct} (hcs:cs.length=n)
  (hK:K (zAa (F.set d (.ptr j 0)) base cs)) (hw:∀ K':List Ct→Prop,K' (zAa ((F.map (zDE j)).set d (.ptr j 0)) base cs)→o.wp P a w (zDe E S K') Q):o.wp P a w (zDe E S K) Q:=by
 obtain ⟨k1,k2⟩:=yDn h hj hn hu
 have hlo:=wf.lo j _ hj
 have hhi:=wf.hi j _ hj
 have hL:=h.lenF
 have hNL:=wf.le
 simp only at hlo hhi
 refine Oper.wp_mono (K:=zDe E S fun F1=>F1=zAa ((F.map (zDE j)).set d (.ptr j 0)) base cs) ?_ (hw _ rfl)
 rintro a' w' ⟨F1,rfl,m',β',ow',h'⟩
 refine ⟨_,hK,m',β',ow',h'.congrF (by rw [zAQ,zAQ];simp) ?_ ?_⟩
 ·intro i hi
  rw [zAs,zAs]
  simp only [List.length_set,List.length_map]
  split
  ·rfl
  ·rw [zAG (by omega),zAG (by simp;omega),zCy]
   split
   ·rfl
   ·exact (k1 i hi).symm
 ·intro j' bn hj' o' ho'
  have h1:=wf.lo j' bn hj'
  have h2:=wf.hi j' bn hj'
  rw [zAs,zAs]
  simp only [List.length_set,List.length_map]
  split
  ·rfl
  ·rw [zAG (by omega),zAG (by simp;omega),zCy]
   split
   ·rfl
   ·exact (k2 j' bn hj' o' ho').symm
theorem yG6 (wf:E.Wf) (h:InvG E S m β ow F a w) {d j base off e k kk:Nat} {x:Opd} {o:Oper} (hd:zAF E.N (some d) o.dst=true) {t:TypeId} {y:Operand} (ho:o.op=.load t y) (hk:zAe E.N x y=true) (hb:zDB E j base (off+1)=true) (hag:zBw P t=some false) {K:List Ct→Prop} {Q:Exit→Act→World→Prop}
  (hx:zAp F x=.ptr j off) (hc:F.getD (base+off) .un=.pv (.one (.nl kk))) (hK:K (F.set d (.own e k []))):o.wp P a w (zDe E S K) Q:=by
 obtain ⟨hd1,hd2⟩:=zAf hd
 obtain ⟨n,hj,hn⟩:=zCM hb
 obtain ⟨b,hβ,hv⟩:=zCd h hk hx
 have hB:=h.boxes j _ hj
 rw [hβ] at hB
 obtain ⟨ho1,ho2,vs,T,hh,hsz,hcells⟩:=hB
 have hcr:=hcells off (by simp only;omega)
 simp only at hcr hsz
 rw [hc] at hcr
 have hnil:vs.getD off undef=.slice none 0 0:=hcr
 have hcell:w.cell? ⟨b,off,none⟩=some (.slice none 0 0):=by
  rw [cell_of_row w b off vs T (0,0) hh,zJm (by omega),hnil]
 have hr:(execOp a.eval o).run P w=.ok (.value (.slice none 0 0)) w:=by
  unfold execOp;rw [ho]
  simp only [hv,Instr.loadAt,Instr.sureAddr,loadVar,Sem.run_bind,Sem.run_pure,Result.andThen_ok,zFp hag]
  simp [hcell]
 refine zAC hr ⟨_,hK,m,β,ow,?_⟩
 rw [hd1]
 exact h.slot wf hd2 ((OwnAt.nil m w e k).rep fun g hg=>by simp [Value.ownBlock] at hg)
theorem zGB {t e k:Nat} (h:zC5 P t e k=true):P.underlying t=some (.slice e)∧0 < k∧∃ i z,P.info? e=some i∧i.size=k∧i.bytes≤4096∧i.zero=some z∧z.cells.size=k:=by
 unfold zC5 at h
 split at h
 ·rename_i e' he
  simp only [Bool.and_eq_true,beq_iff_eq,decide_eq_true_eq] at h
  obtain ⟨⟨⟨rfl,h1⟩,h2⟩,h3⟩:=h
  refine ⟨zBK he,h2,?_⟩
  split at h3
  ·rename_i i hi
   simp only [Bool.and_eq_true,decide_eq_true_eq] at h3
   obtain ⟨h4,h5⟩:=h3
   split at h5
   ·rename_i z hz
    exact ⟨i,z,hi,by simpa [zDc,hi] using h1,h4,hz,by simpa using h5⟩
   ·cases h5
  ·cases h3
 ·cases h
theorem zXM {t ty e k:Nat} (he:zC5 P t e k=true) {v:Value} {n:Nat} {xs:List Value} (hown:w.ownsRow 0 e k v n xs) {y:Value} {A:Option Addr} {r c:Nat} (hy:y=.slice A r c) {news:List Value} (hl:news.length=r * k)
  (hnews:0 < r→∃ x,A=some x∧∀ j u,news[j]?=some u→w.cell? (x.add j)=some u) (h1:∀ u∈news,u.oneCell'=true) (hb:zNd P e (n+r)):
  ∃ v' w',(Builtin.append_ #[t,t] ty #[v,y]).run P w=.ok v' w'∧w'.ownsRow 0 e k v' (n+r) (xs++news)∧
   ((v'.ownBlock=v.ownBlock∧w.grownBy w' v.ownBlock)∨(v'.ownBlock=some w.heap.size∧w.grownBy w' none)):=by
 obtain ⟨hu,hk0,i,z,hi,hsz,hby,hz,hzs⟩:=zGB he
 subst hy
 have hm:n+r≤maxLen:=by
  rcases hb with hb|⟨_,_,hb,_⟩
  ·simp only [maxLen];omega
  ·exact hb
 have hbb:(n+r) * i.bytes≤140737488355328:=by
  rcases hb with hb|⟨b,hb,_,hb'⟩
  ·exact Nat.le_trans (Nat.mul_le_mul_left _ hby) hb
  ·rw [hi] at hb
   cases hb
   exact hb'
 rcases Nat.eq_zero_or_pos r with h0|h0
 ·subst h0
  have hn:news=[]:=List.eq_nil_of_length_eq_zero (by simpa using hl)
  subst hn
  refine ⟨v,w,?_,by simpa using hown,.inl ⟨rfl,⟨rfl,rfl,rfl,Nat.le_refl _,fun _ _ _=>rfl⟩⟩⟩
  have hfc:(Builtin.firstCells i.size 0 (.slice A 0 c)).run P w=.ok #[] w:=by
   cases A<;>simp [Builtin.firstCells,loadCells,loadCellsFrom]
  rcases hown.2 with ⟨rfl,rfl⟩|⟨g,cap,cur,rfl,_,_,hnc,_⟩
  ·simp [Builtin.append_,run_underlying hu,sizeOf,typeInfo,hi,Builtin.lenOf,hfc]
  ·simp [Builtin.append_,run_underlying hu,sizeOf,typeInfo,hi,Builtin.lenOf,hfc,hnc,storeCells]
 ·obtain ⟨x,rfl,hcells⟩:=hnews h0
  have hlen:(xs++news).length=(n+r) * k:=by rw [List.length_append,hown.1,hl,Nat.add_mul]
  have hlr:news.length=r * i.size:=by rw [hl,hsz]
  have grown:∀ (old:Nat),old < n+r→
    (w.drew.alloc (.cells (xs.toArray++news.toArray++Builtin.zeroCells z.cells (grownCap w (n+r) old e-(n+r))) e)).ownsRow 0 e k (.slice (some ⟨w.heap.size,0,none⟩) (n+r) (grownCap w (n+r) old e)) (n+r) (xs++news)∧
    w.grownBy (w.drew.alloc (.cells (xs.toArray++news.toArray++Builtin.zeroCells z.cells (grownCap w (n+r) old e-(n+r))) e)) none:=by
   intro old ho
   have hge:=grownCap_ge w (n+r) old e
   have hcm:=grownCap_le_maxLen w (n+r) old e hm
   refine ⟨⟨hlen,.inr ⟨w.heap.size,_,_,rfl,Nat.zero_le _,heap_alloc_new w.drew _,hge,hcm,?_,?_⟩⟩,⟨rfl,rfl,rfl,by simp,fun b hb _=>heap_alloc_old w.drew _ b hb⟩⟩
   ·simp only [Array.size_append,List.size_toArray,size_zeroCells,hzs]
    rw [←List.length_append,hlen,←Nat.add_mul]
    congr 1
    omega
   ·simp only [Array.toList_append]
    rw [←hlen]
    exact List.take_left
  rcases hown.2 with ⟨rfl,rfl⟩|⟨g,cap,cur,rfl,hbg,hg,hnc,hcm,hcs,htake⟩
  ·have hx:xs=[]:=List.eq_nil_of_length_eq_zero (by simpa using hown.1)
   subst hx
   have hrn:=run_append_nil (P:=P) w t ty e i z hu hi hz x r c news hlr hcells h0 (by simp only [maxLen] at hm;omega) (by simp only [Nat.zero_add] at hbb;omega)
   have hgr:=grown 0 (by omega)
   simp only [Nat.zero_add,List.nil_append] at hgr ⊢
   exact ⟨_,_,hrn,by simpa using hgr.1,.inr ⟨rfl,by simpa using hgr.2⟩⟩
  ·by_cases hroom:n+r≤cap
   ·have hfit:n * i.size+news.length≤cur.size:=by rw [hlr,hcs,hsz,←Nat.add_mul];exact Nat.mul_le_mul_right _ hroom
    have hrn:=run_append_room (P:=P) w t ty e i hu hi g n cap cur hg x r c news hlr hcells h1 hroom hfit
    refine ⟨_,_,hrn,⟨hlen,.inr ⟨g,cap,_,rfl,hbg,setRow_heap w g cur _ e _ hg,hroom,hcm,?_,?_⟩⟩,.inl ⟨rfl,⟨rfl,rfl,rfl,by simp,fun b _ hb=>setRow_other w g b _ (fun e=>hb (by simp [Value.ownBlock,e]))⟩⟩⟩
    ·simp only [List.size_toArray,List.length_append,List.length_take,List.length_drop,Array.length_toList]
     omega
    ·rw [hsz,htake,←hlen]
     exact List.take_left
   ·have holds:∀ j u,xs[j]?=some u→w.cell? ((⟨g,0,none⟩:Addr).add j)=some u:=by
     intro j u hj
     rw [zBn,Nat.zero_add,cell_of_row w g j cur e (0,0) hg]
     rw [←htake,List.getElem?_take] at hj
     split at hj
     ·simpa using hj
     ·cases hj
    have hrn:=run_append_grow (P:=P) w t ty e i z hu hi hz ⟨g,0,none⟩ n cap xs (by rw [hown.1,hsz]) holds x r c news hlr hcells (by omega) (by simp only [maxLen] at hm;omega) (growslice_fits (by omega) hbb)
    exact ⟨_,_,hrn,(grown cap (by omega)).1,.inr ⟨rfl,(grown cap (by omega)).2⟩⟩
theorem OwnAt.vals (hm:MemOk m w) {e k:Nat} {rows:List (List PV)} {v:Value} (h:OwnAt m w e k rows v) {xs:List Value} (hx:w.ownsRow 0 e k v rows.length xs):RpL m rows.flatten xs∧(∀ r∈rows,r.length=k)∧∀ g,v.ownBlock=some g→∀ j u,xs[j]?=some u→m g j=some u:=by
 cases hb:v.ownBlock with
 |none=>
  have:rows=[]:=by
   rcases hx.2 with ⟨_,h0⟩|⟨g,_,_,rfl,_⟩
   ·exact List.eq_nil_of_length_eq_zero h0
   ·simp [Value.ownBlock] at hb
  subst this
  have:xs=[]:=List.eq_nil_of_length_eq_zero (by simpa using hx.1)
  subst this
  exact ⟨by simp [RpL],by simp,fun g hg=>by cases hg⟩
 |some g=>
  obtain ⟨hr,_⟩:=h.2 g hb
  obtain ⟨us,h1,h2,h3⟩:=hr.vals
  have hcells:=hx.cells hb
  have he:us=xs:=by
   apply List.ext_getElem?
   intro j
   by_cases hj:j < rows.length * k
   ·have hj1:j < us.length:=by omega
    have hj2:j < xs.length:=by rw [hx.1];exact hj
    have e1:=hm _ _ _ (h3 j _ (List.getElem?_eq_getElem hj1))
    have e2:=hcells j _ (List.getElem?_eq_getElem hj2)
    rw [zBn] at e2
    rw [e1] at e2
    rw [List.getElem?_eq_getElem hj1,List.getElem?_eq_getElem hj2,Option.some.inj e2]
   ·rw [List.getElem?_eq_none (by omega),List.getElem?_eq_none (by rw [hx.1];omega)]
  subst he
  refine ⟨h2,fun r hr'=>?_,fun g' hg' j u hu=>?_⟩
  ·obtain ⟨i,hi⟩:=List.getElem?_of_mem hr'
   exact (hr.get i r hi).1
  ·injection hg' with hg'
   subst hg'
   have:=h3 j u hu
   simpa using this
theorem yG7 (wf:E.Wf) (h:InvG E S m β ow F a w) {d e k x:Nat} {y:Opd} {o:Oper} (hd:zAF E.N (some d) o.dst=true) {x' y':Operand} {t:TypeId} (ho:o.op=.call {callee:=.builtin .append,args:=#[x',y'],argTypes:=#[t,t]}) (hk1:zAe E.N (.t x) x'=true) (hk2:zAe E.N y y'=true) (he:zC5 P t e k=true) {K:List Ct→Prop} {Q:Exit→Act→World→Prop}
  {rows rs:List (List PV)} (hx:F.getD x .un=.own e k rows) (hy:(zAp F y).pv?=some (.one (.sl k rs))) (_hne:x≠d) (hne:(zAp F y).need) (hb:zNd P e (rows.length+rs.length))
  (hK:K ((F.set x (.pv (.one (.sl k rows)))).set d (.own e k (rows++rs)))):o.wp P a w (zDe E S K) Q:=by
 obtain ⟨hd1,hd2⟩:=zAf hd
 obtain ⟨rfl,hxN⟩:=zBd hk1
 have hrep:=h.slots x hxN
 rw [hx] at hrep
 obtain ⟨xs,hown⟩:=hrep.1
 obtain ⟨hv1,hv2,hv3⟩:=(OwnRep.at_ hrep).vals h.mem hown
 obtain ⟨A,c,hyv,_,_,hyr⟩:=zAT h hk2 hne hy
 have hnews:∃ news:List Value,news.length=rs.length * k∧RpL m rs.flatten news∧(∀ r∈rs,r.length=k)∧(0 < rs.length→∃ q,A=some q∧∀ j u,news[j]?=some u→w.cell? (q.add j)=some u):=by
  rcases hyr with hyr|⟨b,o',rfl,hyr⟩
  ·subst hyr
   exact ⟨[],by simp,by simp [RpL],by simp,by simp⟩
  ·obtain ⟨us,h1,h2,h3⟩:=hyr.vals
   refine ⟨us,h1,h2,fun r hr'=>?_,fun _=>⟨_,rfl,fun j u hu=>by rw [zBn];exact h.mem _ _ _ (h3 j u hu)⟩⟩
   obtain ⟨i,hi⟩:=List.getElem?_of_mem hr'
   exact (hyr.get i r hi).1
 obtain ⟨news,hl,hn2,hn3,hn4⟩:=hnews
 have hflat:∀ u∈news,u.oneCell'=true:=fun u hu=>zBU (hn2.flat_ u hu)
 obtain ⟨v',w',hrun,hown',hwhere⟩:=zXM (P:=P) (ty:=o.type) he hown hyv hl hn4 hflat hb
 have hr:(execOp a.eval o).run P w=.ok (.value v') w':=by
  obtain ⟨dst,op,ty,pos,after,gd⟩:=o
  simp only at ho
  subst ho
  rw [BigFrame.execOp_builtin,BigFrame.builtin_append]
  have e1:(#[Operand.tmp x,y'].map a.eval)=#[a.tmps.getD x undef,a.eval y']:=by simp [Act.eval]
  rw [e1]
  simp only [Sem.run_bind,hrun,Result.andThen_ok]
  rfl
 let m':Mem:=fun b j=>if v'.ownBlock=some b then (xs++news)[j]? else m b j
 let ow':Ow:=fun b=>if v'.ownBlock=some b then some (.key d) else ow b
 have hlt':∀ b,v'.ownBlock=some b→b < w'.heap.size:=fun b hb=>(hown'.lt b hb).2
 have hsize:w.heap.size≤w'.heap.size:=by rcases hwhere with ⟨_,g⟩|⟨_,g⟩<;>exact g.size
 have hblock:∀ b,b < w.heap.size→v'.ownBlock≠some b→w'.heap[b]?=w.heap[b]?:=by
  intro b hb hne'
  rcases hwhere with ⟨e1,g⟩|⟨_,g⟩
  ·exact g.block b hb (fun e=>hne' (by rw [e1];exact e.symm))
  ·exact g.block b hb (by simp)
 have hle:m.le m':=by
  intro b j u hu
  simp only [m']
  split
  ·rename_i hb
   rcases hwhere with ⟨e1,_⟩|⟨e1,_⟩
   ·have hvb:(a.tmps.getD x undef).ownBlock=some b:=by rw [←e1];exact hb
    have hfree:=(hrep.2 b hvb).2.2
    have hj:j < rows.length * k:=by
     rcases Nat.lt_or_ge j (rows.length * k) with h1|h1
     ·exact h1
     ·rw [hfree j h1] at hu;cases hu
    have hj2:j < xs.length:=by rw [hown.1];exact hj
    rw [List.getElem?_append_left hj2,List.getElem?_eq_getElem hj2]
    have:=hv3 b hvb j _ (List.getElem?_eq_getElem hj2)
    rw [this] at hu
    exact hu
   ·rw [e1] at hb
    injection hb with hb
    have:=zD9 h.mem hu
    omega
  ·exact hu
 have hmem:MemOk m' w':=by
  intro b j u hu
  simp only [m'] at hu
  split at hu
  ·rename_i hb
   have:=hown'.cells hb j u hu
   rw [zBn,Nat.zero_add] at this
   exact this
  ·rename_i hb
   have hbl:=zD9 h.mem hu
   rw [World.cell?_of_block (w:=w) (hblock b hbl hb)]
   exact h.mem b j u hu
 have hkey:∀ b,v'.ownBlock=some b→b < w.heap.size→ow b=some (.key x):=by
  intro b hb hbl
  rcases hwhere with ⟨e1,_⟩|⟨e1,_⟩
  ·exact (hrep.2 b (by rw [←e1];exact hb)).1
  ·rw [e1] at hb;injection hb with hb;omega
 have st:Step (fun t=>t=.key x∨t=.key d) m m' w w' ow ow':=by
  refine ⟨hle,fun g t hg hX=>?_⟩
  have hgl:=h.lt g t hg
  have hng:v'.ownBlock≠some g:=by
   intro hb
   rw [hkey g hb hgl] at hg
   exact hX (.inl (Option.some.inj hg).symm)
  exact ⟨hblock g hgl hng,fun j=>by simp only [m'];rw [if_neg hng],by simp only [ow'];rw [if_neg hng];exact hg⟩
 have hownP:∀ b t,ow' b=some t→S.w0.heap.size≤b∨S.R0 b:=by
  intro b t hb
  simp only [ow'] at hb
  split at hb
  ·rename_i hb'
   rcases Nat.lt_or_ge b w.heap.size with hbl|hbl
   ·exact h.own b _ (hkey b hb' hbl)
   ·exact .inl (Nat.le_trans h.pres.size hbl)
  ·exact h.own b t hb
 have hL:=h.lenF
 have hle2:=wf.le
 refine zAC hr ⟨_,hK,m',β,ow',?_⟩
 rw [hd1]
 refine h.step st (by simp) (by simp [Act.put]) rfl ?_ ?_ hmem ⟨?_,?_,?_,hsize,?_,fun _=>zFn _ _ _ _ hr⟩ hownP ?_ ?_
 ·intro i hi
  rw [zAG (by simp;omega),zAG (by omega),zGA (by rw [h.lenA];exact hd2)]
  by_cases h1:d=i
  ·subst h1
   right
   rw [if_pos rfl,if_pos rfl]
   refine ⟨⟨xs++news,by rw [List.length_append];exact hown'⟩,fun g hg=>⟨by simp [ow',hg],?_,fun j hj=>?_⟩⟩
   ·refine RpRows.of_flat (us:=xs++news) ?_ ?_ fun j u hu=>?_
    ·intro r hr'
     rcases List.mem_append.1 hr' with hr'|hr'
     ·exact hv2 r hr'
     ·exact hn3 r hr'
    ·rw [List.flatten_append]
     exact RpL.mono hle _ _ (hv1.append hn2)
    ·simp only [m',Nat.zero_add]
     rw [if_pos hg]
     exact hu
   ·simp only [m']
    rw [if_pos hg]
    refine List.getElem?_eq_none ?_
    rw [List.length_append,hown.1,hl,←Nat.add_mul]
    rw [List.length_append] at hj
    exact hj
  ·rw [if_neg h1,if_neg h1]
   by_cases h2:x=i
   ·subst h2
    right
    rw [if_pos rfl]
    exact RpV.mono (x:=.one (.sl k rows)) hle (OwnRep.rp hrep)
   ·left
    rw [if_neg h2]
    exact ⟨rfl,rfl,.inl (by rintro (h3|h3)<;>injection h3<;>omega)⟩
 ·intro j bn hj
  left
  have:=wf.lo j bn hj
  refine ⟨(by rintro (h3|h3)<;>cases h3),fun o ho=>⟨?_,by rintro (h3|h3)<;>injection h3<;>omega⟩⟩
  rw [zAG (by simp;omega),zAG (by omega),if_neg (by omega),if_neg (by omega)]
 ·rcases hwhere with ⟨_,g⟩|⟨_,g⟩<;>exact g.os
 ·rcases hwhere with ⟨_,g⟩|⟨_,g⟩<;>exact g.tape
 ·rcases hwhere with ⟨_,g⟩|⟨_,g⟩<;>exact g.output
 ·intro b hb hnb
  refine hblock b hb fun e=>hnb ?_
  have:=h.own b _ (hkey b e hb)
  rcases this with h1|h1
  ·exact .inr h1
  ·exact .inl h1
 ·intro b t hb
  simp only [ow'] at hb
  split at hb
  ·rename_i hb'
   exact hlt' b hb'
  ·exact Nat.lt_of_lt_of_le (h.lt b t hb) hsize
 ·intro b j u hu
  simp only [m'] at hu
  split at hu
  ·rename_i hb'
   right
   rcases Nat.lt_or_ge b w.heap.size with hbl|hbl
   ·exact h.own b _ (hkey b hb' hbl)
   ·exact .inl (Nat.le_trans h.pres.size hbl)
  ·exact .inl hu
end
end Go.Hx
end

section
/-
 THE ABSTRACT LAYER: stacks: slices of which no cell is frozen. Generic over the program. No condition.
-/
namespace Go.Hx
open Go.RowKit
variable [Glob]
section
variable {P:Program} {E:Env} {S:Start} {m:Mem} {β:Bx} {ow:Ow} {F:List Ct} {a:Act} {w:World}
theorem StkRep.nil (m:Mem) (w:World) (ow:Ow) (t:Tag) (e k:Nat):StkRep m w ow t e k [] (.slice none 0 0):=
 ⟨⟨[],World.ownsRow_nil w 0 e k,by simp [RpL]⟩,by simp,fun g hg=>by simp [Value.ownBlock] at hg⟩
theorem yED (wf:E.Wf) (h:InvG E S m β ow F a w) {d e k:Nat} {o:Oper} (hd:zAF E.N (some d) o.dst=true) {y:Operand} (ho:o.op=.move y∨o.op=.assign y) (hk:zAe E.N (.c (.one (.nl 0))) y=true) {K:List Ct→Prop} {Q:Exit→Act→World→Prop}
  (hK:K (F.set d (.stk e k []))):o.wp P a w (zDe E S K) Q:=by
 obtain ⟨hd1,hd2⟩:=zAf hd
 have hr:(execOp a.eval o).run P w=.ok (.value (a.eval y)) w:=by
  unfold execOp
  rcases ho with ho|ho<;>rw [ho]<;>rfl
 have hy:a.eval y=.slice none 0 0:=by
  have:=zAT h hk (p:=.one (.nl 0)) trivial rfl
  exact this
 refine zAC hr ⟨_,hK,m,β,ow,?_⟩
 rw [hd1,hy]
 exact h.slot wf hd2 (StkRep.nil m w ow _ e k)
theorem zZz (wf:E.Wf) (h:InvG E S m β ow F a w) {d x e k:Nat} {rows rows':List (List PV)} {v:Value} (hd2:d < E.N) (hxN:x < E.N) (hx:F.getD x .un=.stk e k rows)
  (hrep':StkRep m w ow (.key x) e k rows' v):Inv E S ((F.set x (.hdr rows.length)).set d (.stk e k rows')) (a.put (some d) v) w:=by
 have hrep:=h.slots x hxN
 rw [hx] at hrep
 have hL:=h.lenF
 have hle:=wf.le
 have key:∀ g,v.ownBlock=some g→ow g=some (.key x):=fun g hg=>(hrep'.2.2 g hg).1
 refine ⟨m,β,zEB ow v d,?_⟩
 have st:Step (fun t=>t=.key x∨t=.key d) m m w w ow (zEB ow v d):=by
  refine ⟨m.le_refl,fun g t hg hX=>⟨rfl,fun _=>rfl,?_⟩⟩
  unfold zEB
  rw [if_neg]
  ·exact hg
  ·intro hv'
   have:=key g hv'
   rw [hg] at this
   exact hX (.inl (Option.some.inj this))
 refine h.step st (by simp) (by simp [Act.put]) rfl ?_ ?_ h.mem (Pres.refl _ _) ?_ ?_ (fun b o u hu=>.inl hu)
 ·intro i hi
  rw [zAG (by simp;omega),zAG (by omega),zGA (by rw [h.lenA];exact hd2)]
  by_cases h1:d=i
  ·subst h1
   right
   rw [if_pos rfl,if_pos rfl]
   exact ⟨hrep'.1,hrep'.2.1,fun g hg=>⟨by simp [zEB,hg],(hrep'.2.2 g hg).2⟩⟩
  ·rw [if_neg h1,if_neg h1]
   by_cases h2:x=i
   ·subst h2
    right
    rw [if_pos rfl]
    exact StkRep.hdr hrep
   ·left
    rw [if_neg h2]
    exact ⟨rfl,rfl,.inl (by rintro (h3|h3)<;>injection h3<;>omega)⟩
 ·intro j bn hj
  left
  have:=wf.lo j bn hj
  refine ⟨(by rintro (h3|h3)<;>cases h3),fun o ho=>⟨?_,by rintro (h3|h3)<;>injection h3<;>omega⟩⟩
  rw [zAG (by simp;omega),zAG (by omega),if_neg (by omega),if_neg (by omega)]
 ·intro b t hb
  unfold zEB at hb
  split at hb
  ·rename_i hv';exact h.own b _ (key b hv')
  ·exact h.own b t hb
 ·intro b t hb
  unfold zEB at hb
  split at hb
  ·rename_i hv';exact h.lt b _ (key b hv')
  ·exact h.lt b t hb
theorem yEE (wf:E.Wf) (h:InvG E S m β ow F a w) {d x:Nat} {o:Oper} (hd:zAF E.N (some d) o.dst=true) {y:Operand} (ho:o.op=.move y∨o.op=.assign y) (hk:zAe E.N (.t x) y=true) {K:List Ct→Prop} {Q:Exit→Act→World→Prop}
  {e k:Nat} {rows:List (List PV)} (hx:F.getD x .un=.stk e k rows) (_hne:d≠x) (hK:K ((F.set x (.hdr rows.length)).set d (.stk e k rows))):o.wp P a w (zDe E S K) Q:=by
 obtain ⟨hd1,hd2⟩:=zAf hd
 have hr:(execOp a.eval o).run P w=.ok (.value (a.eval y)) w:=by
  unfold execOp
  rcases ho with ho|ho<;>rw [ho]<;>rfl
 obtain ⟨rfl,hxN⟩:=zBd hk
 have hrep:=h.slots x hxN
 rw [hx] at hrep
 refine zAC hr ⟨_,hK,?_⟩
 rw [hd1]
 exact zZz wf h hd2 hxN hx hrep
theorem StkRep.take {t:Tag} {e k:Nat} {rows:List (List PV)} {A:Option Addr} {l c:Nat} (h:StkRep m w ow t e k rows (.slice A l c)) (n:Nat) (hn:n≤rows.length):StkRep m w ow t e k (rows.take n) (.slice A n c):=by
 obtain ⟨⟨xs,⟨h1,h2⟩,h3⟩,h4,h5⟩:=h
 have hlen:(rows.take n).length=n:=by simp;omega
 have hk':∀ r∈rows.take n,r.length=k:=fun r hr=>h4 r (List.mem_of_mem_take hr)
 have hfl:(rows.take n).flatten=rows.flatten.take (n * k):=flatten_take rows n h4
 refine ⟨⟨xs.take (n * k),⟨by rw [hlen,List.length_take,h1];exact Nat.min_eq_left (Nat.mul_le_mul_right _ hn),?_⟩,?_⟩,hk',?_⟩
 ·rcases h2 with ⟨e1,e2⟩|⟨g,cap,cur,e1,e2,e3,e4,e5,e6,e7⟩
  ·injection e1 with e1 e1' e1''
   subst e1
   have:n=0:=by omega
   subst this
   exact .inl ⟨by rw [e1''],by rw [hlen]⟩
  ·injection e1 with e1 e1' e1''
   subst e1;subst e1''
   refine .inr ⟨g,c,cur,by rw [hlen],e2,e3,by rw [hlen];omega,e5,e6,?_⟩
   rw [hlen,←e7,List.take_take,Nat.min_eq_left (Nat.mul_le_mul_right _ hn)]
 ·rw [hfl]
  exact RpL.take' h3 _
 ·intro g hg
  exact h5 g (by cases A<;>simp [Value.ownBlock] at hg ⊢;exact hg)
where
 flatten_take:∀ (rows:List (List PV)) (n:Nat),(∀ r∈rows,r.length=k)→(rows.take n).flatten=rows.flatten.take (n * k)
  |[],n,_=>by simp
  |r::rs,0,_=>by simp
  |r::rs,n+1,h=>by
   have hr:=h r List.mem_cons_self
   rw [List.take_succ_cons,List.flatten_cons,List.flatten_cons,flatten_take rs n fun r' h'=>h r' (List.mem_cons_of_mem _ h'),Nat.succ_mul,List.take_append,List.take_of_length_le (l:=r) (by omega)]
   have e2:n * k+k-r.length=n * k:=by omega
   rw [e2]
 RpL.take':∀ {cs:List PV} {us:List Value},RpL m cs us→∀ n,RpL m (cs.take n) (us.take n)
  |[],us,h,n=>by simp only [RpL] at h;subst h;simp [RpL]
  |x::xs,us,h,0=>by simp [RpL]
  |x::xs,us,h,n+1=>by
   simp only [RpL] at h
   obtain ⟨u,us',rfl,h2,h3⟩:=h
   simp only [List.take_succ_cons,RpL]
   exact ⟨u,_,rfl,h2,RpL.take' h3 n⟩
theorem yG8 (wf:E.Wf) (h:InvG E S m β ow F a w) {d x:Nat} {hi:Opd} {o:Oper} (hd:zAF E.N (some d) o.dst=true) {t:TypeId} {x':Operand} {hi':Option Operand} (ho:o.op=.slice t x' none hi' none) (hk:zAe E.N (.t x) x'=true) (hk2:zEm E.N (some hi) hi'=true)
  {et:TypeId} (he:sliceElem? P t=some et) {sz:Nat} (hsz:zDc P et=some sz) {K:List Ct→Prop} {Q:Exit→Act→World→Prop} {e k:Nat} {rows:List (List PV)} {ik:IntKind} {n:Int} (hx:F.getD x .un=.stk e k rows) (hn:(zAp F hi).pv?=some (.one (.v (.int ik n)))) (_hne:d≠x) (hnd:(zAp F hi).need)
  (h0:0≤n) (h1:n≤rows.length) (hK:K ((F.set x (.hdr rows.length)).set d (.stk e k (rows.take n.toNat)))):o.wp P a w (zDe E S K) Q:=by
 obtain ⟨hd1,hd2⟩:=zAf hd
 obtain ⟨rfl,hxN⟩:=zBd hk
 have hrep:=h.slots x hxN
 rw [hx] at hrep
 obtain ⟨A,c,hv,hlc,hcm⟩:=StkRep.hdr hrep
 have hv':a.eval (.tmp x)=.slice A rows.length c:=hv
 have hbnd:zBF F rows.length (some hi)=((zAp F hi).need,n):=by simp only [zBF,hn]
 have hb:=zCg (P:=P) h (lo:=none) (lo':=none) (hi:=some hi) (by rfl) hk2 true rows.length c hlc trivial (by rw [hbnd];exact hnd) (by simp [zBF]) (by rw [hbnd];simpa [zBF] using h0) (by rw [hbnd];exact h1)
 rw [hbnd] at hb
 simp only [Option.map_none,zBF,Int.toNat_zero] at hb
 have hr:(execOp a.eval o).run P w=.ok (.value (.slice A n.toNat c)) w:=by
  unfold execOp;rw [ho]
  have hu:=zBK he
  simp only [hv',Instr.sliceAt,Instr.slice,Sem.run_bind,Sem.run_pure,Result.andThen_ok,run_underlying hu,Option.map_none,hb,zBj hsz]
  simp only [Nat.sub_zero,Nat.zero_mul]
  by_cases hc0:c=0
  ·simp [hc0]
  ·have hA:A.map (·.add 0)=A:=by
    cases A with
    |none=>rfl
    |some q=>simp [Addr.add]
   simp [hc0,hA]
 refine zAC hr ⟨_,hK,?_⟩
 rw [hd1]
 have hrep2:=hrep
 rw [hv] at hrep2
 exact zZz wf h hd2 hxN hx (hrep2.take n.toNat (by omega))
theorem yG9 (wf:E.Wf) (h:InvG E S m β ow F a w) {d e k x:Nat} {y:Opd} {o:Oper} (hd:zAF E.N (some d) o.dst=true) {x' y':Operand} {t:TypeId} (ho:o.op=.call {callee:=.builtin .append,args:=#[x',y'],argTypes:=#[t,t]}) (hk1:zAe E.N (.t x) x'=true) (hk2:zAe E.N y y'=true) (he:zC5 P t e k=true) {K:List Ct→Prop} {Q:Exit→Act→World→Prop}
  {rows rs:List (List PV)} (hx:F.getD x .un=.stk e k rows) (hy:(zAp F y).pv?=some (.one (.sl k rs))) (_hne:x≠d) (hne:(zAp F y).need) (hb:(rows.length+rs.length) * 4096≤140737488355328)
  (hK:K ((F.set x (.hdr rows.length)).set d (.stk e k (rows++rs)))):o.wp P a w (zDe E S K) Q:=by
 obtain ⟨hd1,hd2⟩:=zAf hd
 obtain ⟨rfl,hxN⟩:=zBd hk1
 have hrep:=h.slots x hxN
 rw [hx] at hrep
 obtain ⟨⟨xs,hown,hv1⟩,hv2,hv3⟩:=hrep
 obtain ⟨A,c,hyv,_,_,hyr⟩:=zAT h hk2 hne hy
 have hnews:∃ news:List Value,news.length=rs.length * k∧RpL m rs.flatten news∧(∀ r∈rs,r.length=k)∧(0 < rs.length→∃ q,A=some q∧∀ j u,news[j]?=some u→w.cell? (q.add j)=some u):=by
  rcases hyr with hyr|⟨b,o',rfl,hyr⟩
  ·subst hyr
   exact ⟨[],by simp,by simp [RpL],by simp,by simp⟩
  ·obtain ⟨us,h1,h2,h3⟩:=hyr.vals
   refine ⟨us,h1,h2,fun r hr'=>?_,fun _=>⟨_,rfl,fun j u hu=>by rw [zBn];exact h.mem _ _ _ (h3 j u hu)⟩⟩
   obtain ⟨i,hi⟩:=List.getElem?_of_mem hr'
   exact (hyr.get i r hi).1
 obtain ⟨news,hl,hn2,hn3,hn4⟩:=hnews
 have hflat:∀ u∈news,u.oneCell'=true:=fun u hu=>zBU (hn2.flat_ u hu)
 obtain ⟨v',w',hrun,hown',hwhere⟩:=zXM (P:=P) (ty:=o.type) he hown hyv hl hn4 hflat (.inl hb)
 have hr:(execOp a.eval o).run P w=.ok (.value v') w':=by
  obtain ⟨dst,op,ty,pos,after,gd⟩:=o
  simp only at ho
  subst ho
  rw [BigFrame.execOp_builtin,BigFrame.builtin_append]
  have e1:(#[Operand.tmp x,y'].map a.eval)=#[a.tmps.getD x undef,a.eval y']:=by simp [Act.eval]
  rw [e1]
  simp only [Sem.run_bind,hrun,Result.andThen_ok]
  rfl
 let ow':Ow:=fun b=>if v'.ownBlock=some b then some (.key d) else ow b
 have hlt':∀ b,v'.ownBlock=some b→b < w'.heap.size:=fun b hb=>(hown'.lt b hb).2
 have hsize:w.heap.size≤w'.heap.size:=by rcases hwhere with ⟨_,g⟩|⟨_,g⟩<;>exact g.size
 have hblock:∀ b,b < w.heap.size→v'.ownBlock≠some b→w'.heap[b]?=w.heap[b]?:=by
  intro b hb hne'
  rcases hwhere with ⟨e1,g⟩|⟨_,g⟩
  ·exact g.block b hb (fun e=>hne' (by rw [e1];exact e.symm))
  ·exact g.block b hb (by simp)
 have hfree:∀ b,v'.ownBlock=some b→∀ j,m b j=none:=by
  intro b hb j
  rcases hwhere with ⟨e1,_⟩|⟨e1,_⟩
  ·exact (hv3 b (by rw [←e1];exact hb)).2 j
  ·rw [e1] at hb
   injection hb with hb
   cases hm:m b j with
   |none=>rfl
   |some u=>have:=zD9 h.mem hm;omega
 have hmem:MemOk m w':=by
  intro b j u hu
  have hb:v'.ownBlock≠some b:=fun hb=>by rw [hfree b hb j] at hu;cases hu
  have hbl:=zD9 h.mem hu
  rw [World.cell?_of_block (w:=w) (hblock b hbl hb)]
  exact h.mem b j u hu
 have hkey:∀ b,v'.ownBlock=some b→b < w.heap.size→ow b=some (.key x):=by
  intro b hb hbl
  rcases hwhere with ⟨e1,_⟩|⟨e1,_⟩
  ·exact (hv3 b (by rw [←e1];exact hb)).1
  ·rw [e1] at hb;injection hb with hb;omega
 have st:Step (fun t=>t=.key x∨t=.key d) m m w w' ow ow':=by
  refine ⟨m.le_refl,fun g t hg hX=>?_⟩
  have hgl:=h.lt g t hg
  have hng:v'.ownBlock≠some g:=by
   intro hb
   rw [hkey g hb hgl] at hg
   exact hX (.inl (Option.some.inj hg).symm)
  exact ⟨hblock g hgl hng,fun j=>rfl,by simp only [ow'];rw [if_neg hng];exact hg⟩
 have hownP:∀ b t,ow' b=some t→S.w0.heap.size≤b∨S.R0 b:=by
  intro b t hb
  simp only [ow'] at hb
  split at hb
  ·rename_i hb'
   rcases Nat.lt_or_ge b w.heap.size with hbl|hbl
   ·exact h.own b _ (hkey b hb' hbl)
   ·exact .inl (Nat.le_trans h.pres.size hbl)
  ·exact h.own b t hb
 have hL:=h.lenF
 have hle2:=wf.le
 refine zAC hr ⟨_,hK,m,β,ow',?_⟩
 rw [hd1]
 refine h.step st (by simp) (by simp [Act.put]) rfl ?_ ?_ hmem ⟨?_,?_,?_,hsize,?_,fun _=>zFn _ _ _ _ hr⟩ hownP ?_ (fun b o u hu=>.inl hu)
 ·intro i hi
  rw [zAG (by simp;omega),zAG (by omega),zGA (by rw [h.lenA];exact hd2)]
  by_cases h1:d=i
  ·subst h1
   right
   rw [if_pos rfl,if_pos rfl]
   refine ⟨⟨xs++news,by rw [List.length_append];exact hown',?_⟩,?_,fun g hg=>⟨by simp [ow',hg],hfree g hg⟩⟩
   ·rw [List.flatten_append]
    exact hv1.append hn2
   ·intro r hr'
    rcases List.mem_append.1 hr' with hr'|hr'
    ·exact hv2 r hr'
    ·exact hn3 r hr'
  ·rw [if_neg h1,if_neg h1]
   by_cases h2:x=i
   ·subst h2
    right
    rw [if_pos rfl]
    exact StkRep.hdr (m:=m) (w:=w) (ow:=ow) (t:=.key x) (e:=e) (k:=k) ⟨⟨xs,hown,hv1⟩,hv2,hv3⟩
   ·left
    rw [if_neg h2]
    exact ⟨rfl,rfl,.inl (by rintro (h3|h3)<;>injection h3<;>omega)⟩
 ·intro j bn hj
  left
  have:=wf.lo j bn hj
  refine ⟨(by rintro (h3|h3)<;>cases h3),fun o ho=>⟨?_,by rintro (h3|h3)<;>injection h3<;>omega⟩⟩
  rw [zAG (by simp;omega),zAG (by omega),if_neg (by omega),if_neg (by omega)]
 ·rcases hwhere with ⟨_,g⟩|⟨_,g⟩<;>exact g.os
 ·rcases hwhere with ⟨_,g⟩|⟨_,g⟩<;>exact g.tape
 ·rcases hwhere with ⟨_,g⟩|⟨_,g⟩<;>exact g.output
 ·intro b hb hnb
  refine hblock b hb fun e=>hnb ?_
  have:=h.own b _ (hkey b e hb)
  rcases this with h1|h1
  ·exact .inr h1
  ·exact .inl h1
 ·intro b t hb
  simp only [ow'] at hb
  split at hb
  ·rename_i hb'
   exact hlt' b hb'
  ·exact Nat.lt_of_lt_of_le (h.lt b t hb) hsize
theorem zKC (d:Nat) {t et:TypeId} (hu:P.underlying t=some (.slice et)) (A:Option Addr) (l c:Nat):(Op.equalIn (d+1) t (.slice A l c) (.slice none 0 0)).run P w=.ok A.isNone w:=by
 simp only [Op.equalIn,Sem.run_bind,run_underlying hu,Result.andThen_ok]
 cases A<;>rfl
theorem yEF (wf:E.Wf) (h:InvG E S m β ow F a w) {d:Nat} {ng:Bool} {x:Opd} {o:Oper} (hd:zAF E.N (some d) o.dst=true) {x':Operand} {t t':TypeId} {op:BinOp} (ho:o.op=.binOp op t x' (.const (.slice none 0 0)) t') (hop:op=if ng then .neq else .eql) (ht:zHC P t=true) (hk:zAe E.N x x'=true)
  {K:List Ct→Prop} {Q:Exit→Act→World→Prop} {k:Nat} {rows:List (List PV)} (hp:(zAp F x).pv?=some (.one (.sl k rows))∨((zAp F x).pv?=some (.one (.nl k))∧rows=[])) (hn:(zAp F x).need)
  (hK:∀ b:Bool,(rows≠[]→b=false)→((zAp F x).pv?=some (.one (.nl k))→b=true)→K (F.set d (.pv (bv (if ng then !b else b))))):o.wp P a w (zDe E S K) Q:=by
 obtain ⟨hd1,hd2⟩:=zAf hd
 obtain ⟨et,hu⟩:=zEn ht
 have hv:∃ A l c,a.eval x'=.slice A l c∧(rows≠[]→A≠none)∧((zAp F x).pv?=some (.one (.nl k))→A=none):=by
  rcases hp with hp|⟨hp,rfl⟩
  ·obtain ⟨A,c,hv,_,_,hr⟩:=zAT h hk hn hp
   refine ⟨A,_,c,hv,fun hne=>?_,fun e=>by rw [hp] at e;cases e⟩
   rcases hr with hr|⟨b,o',rfl,_⟩
   ·exact (hne hr).elim
   ·simp
  ·have hv:=zAT h hk hn hp
   exact ⟨none,0,0,hv,fun h=>(h rfl).elim,fun _=>rfl⟩
 obtain ⟨A,l,c,hv,h1,h2⟩:=hv
 have hr:(execOp a.eval o).run P w=.ok (.value (.bool (if ng then !A.isNone else A.isNone))) w:=by
  unfold execOp;rw [ho]
  have e1:a.eval (.const (.slice none 0 0))=.slice none 0 0:=rfl
  have he:(Op.equal t (.slice A l c) (.slice none 0 0)).run P w=.ok A.isNone w:=by
   simp only [Op.equal,Op.maxDepth];exact zKC 9999 hu A l c
  simp only [hv,e1,Sem.run_bind,zCx (P:=P) (w:=w) op t x' _ (.slice A l c) (.slice none 0 0) rfl,Result.andThen_ok]
  subst hop;cases ng<;>simp [binOp,he]
 refine zAC hr ⟨_,hK A.isNone (fun hne=>?_) (fun e=>by rw [h2 e];rfl),m,β,ow,?_⟩
 ·cases A with
  |none=>exact (h1 hne rfl).elim
  |some q=>rfl
 ·rw [hd1]
  exact h.slot wf hd2 ⟨rfl,rfl⟩
end
end Go.Hx
end
