/-
  Walks of functions of the program over an abstract layer, and the laws that they use: each contract says what the function computes, for every input that its conditions let by. No other condition.
-/
import Derived.Test.YtjnagiaooecklabGreatDoorG9
import Derived.Scope
set_option linter.all false
section
/-
 THE ABSTRACT LAYER, ELEVENTH TEXT: the walk of code on the abstract frame is sound; a contract out of it. Generic over the program. No condition.
-/
namespace Go.Hx
open Go.RowKit
variable [Glob]
section
variable {P:Program} {E:Env} {S:Start}
def yEp (E:Env) (S:Start) (Q:Exit→List Ct→Prop):Exit→Act→World→Prop:=fun e a w=>∃ F,Q e F∧Inv E S F a w
theorem yEq {c:Code} {Q:Exit→Act→World→Prop} (I:Nat→Act→World→Prop)
  (round:∀ n a w,I n a w→c.wp P (Exit.then (fun a' w'=>∃ n',n' < n∧I n' a' w') Q) a w) {n:Nat} {a:Act} {w:World} (h0:I n a w):(Code.loop c).wp P Q a w:=by
 intro b k cs
 have key:∀ n a w,I n a w→∃ e a' w',Q e a' w'∧Arrives P (lone (b.at a (.code c::.inLoop c::k)) cs w) b k cs e a' w':=by
  intro n
  induction n using Nat.strongRecOn with
  |_ n ih=>
   intro a w hI
   obtain ⟨e,a₁,w₁,hq,harr⟩:=round n a w hI b (.inLoop c::k) cs
   cases e with
   |normal=>
    obtain ⟨n',hlt,hI₁⟩:=hq
    obtain ⟨e₂,a₂,w₂,hq₂,harr₂⟩:=ih n' hlt a₁ w₁ hI₁
    exact ⟨e₂,a₂,w₂,hq₂,.of_steps (Steps.trans harr (.one step_inLoop)) harr₂⟩
   |exit id=>exact ⟨_,a₁,w₁,hq,.pass (x:=.inLoop c) rfl (fun _ _=>.inl (by simp)) harr⟩
   |goto l=>exact ⟨_,a₁,w₁,hq,.pass (x:=.inLoop c) rfl (fun _ _=>.inl (by simp)) harr⟩
   |ret=>exact ⟨_,a₁,w₁,hq,.pass (x:=.inLoop c) rfl (fun _ _=>.inl (by simp)) harr⟩
   |panic ch=>exact ⟨_,a₁,w₁,hq,.pass (x:=.inLoop c) rfl (fun _ _=>.inl (by simp)) harr⟩
   |outgrown=>exact ⟨_,a₁,w₁,hq,.pass (x:=.inLoop c) rfl (fun _ _=>.inl (by simp)) harr⟩
 obtain ⟨e,a',w',hq,harr⟩:=key n a w h0
 exact ⟨e,a',w',hq,.of_steps (.one step_loop) harr⟩
def zCN (P:Program) (E:Env):Code→HCode→Bool
 |.skip,.skip=>true
 |.region _ ops draw,.reg hs dr post=>draw==dr&&zGr P E ops hs ops.toList&&zFZ E post&&(!draw||dkQ P ops hs)
 |.region _ ops draw,.drg ds post=>draw&&yGD P E ops ds&&zFZ E post
 |.region _ ops draw,.regG pre hs post=>!draw&&zGr P E ops hs ops.toList&&zFZ E pre&&zFZ E post
 |.region _ ops draw,.drgG pre ds post=>draw&&yGD P E ops ds&&zFZ E pre&&zFZ E post
 |.region _ ops draw,.rdr i hs dr post=>draw==dr&&zGr P E ops hs ops.toList&&zFZ E post&&(!draw||dkQ P ops hs)&&hs.all HO.quiet&&decide (i < E.N)&&(yKt hs).all (fun d=>decide (d < E.N))
 |.seq x y,.seq a b=>zCN P E x a&&zCN P E y b
 |.cond c x y,.cond d a b=>zAe E.N d c&&zCN P E x a&&zCN P E y b
 |.block i x,.block j a=>i==j&&zCN P E x a
 |.loop x,.loop a=>zCN P E x a
 |.exit i,.exit j=>i==j
 |.ret,.ret=>true
 |.scope x,.scope a=>zCN P E x a
 |.label _,.label=>true
 |_,_=>false
theorem yGF {F:List Ct} {a:Act} {w:World} (h:Inv E S F a w):Inv E S F a {w with drawn:=w.drawn+1}:=by
 obtain ⟨m,β,ow,h⟩:=h
 exact ⟨m,β,ow,h.quiet ⟨m.le_refl,h.mem,fun _ _ _=>rfl,fun _ _ _ _=>rfl,fun _ _ _ h=>.inl h,Pres.drew _ w⟩⟩
theorem yHw {K:List Ct→Prop} {Q:Exit→List Ct→Prop} {e:Exit} {a:Act} {w:World} (h:yEp E S (zYk K Q) e a w):Exit.then (fun a w=>zEn E S K a w) (yEp E S Q) e a w:=by
 obtain ⟨F,h1,h2⟩:=h
 cases e<;>exact ⟨F,h1,h2⟩
theorem zJs (wf:E.Wf):
  ∀ (c:Code) (h:HCode) (Q:Exit→List Ct→Prop) (F:List Ct) (a:Act) (w:World),zCN P E c h=true→hwp P h Q F→Inv E S F a w→c.wp P (yEp E S Q) a w:=by
 intro c
 induction c with
 |skip=>
  intro h Q F a w hk hW hI
  cases h<;>simp [zCN] at hk
  exact wp_skip ⟨F,hW,hI⟩
 |region id ops draw=>
  intro h Q F a w hk hW hI
  cases h with
  |reg hs dr post=>
   simp only [zCN,Bool.and_eq_true,beq_iff_eq,Bool.or_eq_true,Bool.not_eq_true'] at hk
   obtain ⟨⟨⟨rfl,h2⟩,h3⟩,h4⟩:=hk
   simp only [hwp] at hW
   have hN:∀ F' a' w',ghW F' (fun F''=>Q .normal F'') post→Inv E S F' a' w'→yEp E S Q .normal a' w':=fun F' a' w' hg hI'=>zB7 wf h3 hI' hg
   cases draw with
   |false=>
    refine wp_region ?_
    have:=zRf (P:=P) wf (ops:=ops) (X:=fun v F'=>Q (.panic [{v,recovered:=false}]) F') (Q:=yEp E S Q) (fun v F' a' w' hx hI'=>⟨F',hx,hI'⟩) hN hs ops.toList 0 (fun i o ho=>by simpa using ho) h2 F a w hI hW
    rw [Array.length_toList] at this
    rwa [List.range_eq_range']
   |true=>
    have hd:dkQ P ops hs=true:=by simpa using h4
    have hq:∀ o∈hs,o.quiet=true:=by
     simp only [dkQ,Bool.and_eq_true,List.all_eq_true] at hd
     exact hd.2
    obtain ⟨m,β,ow,hG⟩:=hI
    refine zOY wf (fun _=>hd) hq h2 hG hW ?_
    rintro a' w' hg ⟨F1,h5,h6,_⟩
    exact hN F1 a' w' h5 ⟨m,β,ow,h6.gr hg⟩
  |drg ds post=>
   simp only [zCN,Bool.and_eq_true] at hk
   obtain ⟨⟨rfl,h2⟩,h3⟩:=hk
   simp only [hwp] at hW
   exact zRp wf h2 (fun F' a' w' hg hI'=>zB7 wf h3 hI' hg) (fun v F' a' w' hx hag hI'=>⟨F',hx F' hag,hI'⟩) (yGF hI) hW
  |regG pre hs post=>
   simp only [zCN,Bool.and_eq_true,Bool.not_eq_true'] at hk
   obtain ⟨⟨⟨rfl,h2⟩,h5⟩,h3⟩:=hk
   simp only [hwp] at hW
   have hN:∀ F' a' w',ghW F' (fun F''=>Q .normal F'') post→Inv E S F' a' w'→yEp E S Q .normal a' w':=fun F' a' w' hg hI'=>zB7 wf h3 hI' hg
   obtain ⟨F0,hW0,hI0⟩:=zB7 wf h5 hI hW
   refine wp_region ?_
   have:=zRf (P:=P) wf (ops:=ops) (X:=fun v F'=>Q (.panic [{v,recovered:=false}]) F') (Q:=yEp E S Q) (fun v F' a' w' hx hI'=>⟨F',hx,hI'⟩) hN hs ops.toList 0 (fun i o ho=>by simpa using ho) h2 F0 a w hI0 hW0
   rw [Array.length_toList] at this
   rwa [List.range_eq_range']
  |drgG pre ds post=>
   simp only [zCN,Bool.and_eq_true] at hk
   obtain ⟨⟨⟨rfl,h2⟩,h5⟩,h3⟩:=hk
   simp only [hwp] at hW
   obtain ⟨F0,hW0,hI0⟩:=zB7 wf h5 hI hW
   exact zRp wf h2 (fun F' a' w' hg hI'=>zB7 wf h3 hI' hg) (fun v F' a' w' hx hag hI'=>⟨F',hx F' hag,hI'⟩) (yGF hI0) hW0
  |rdr i hs dr post=>
   simp only [zCN,Bool.and_eq_true,beq_iff_eq,Bool.or_eq_true,Bool.not_eq_true',List.all_eq_true,decide_eq_true_eq] at hk
   obtain ⟨⟨⟨⟨⟨⟨rfl,h2⟩,h3⟩,h4⟩,hq⟩,hi⟩,hds⟩:=hk
   simp only [hwp] at hW
   split at hW
   ·rename_i e k rows e1
    obtain ⟨m,β,ow,hG⟩:=hI
    obtain ⟨m',hG'⟩:=yHq wf hG hi e1
    refine zOY wf (fun hd=>by rcases h4 with h4|h4<;>simp_all) hq h2 hG' hW ?_
    rintro a' w' hg ⟨F1,h5,h6,h7⟩
    exact zB7 wf h3 ⟨m,β,ow,(yKQ wf hG h6 hds h7).gr hg⟩ h5
   ·exact hW.elim
  |_=>simp [zCN] at hk
 |seq x y ihx ihy=>
  intro h Q F a w hk hW hI
  cases h<;>simp only [zCN] at hk<;>try cases hk
  rename_i ha hb
  simp only [Bool.and_eq_true] at hk
  refine wp_seq (wp_mono (ihx ha _ F a w hk.1 hW hI) ?_)
  intro e a' w' h'
  have:=yHw h'
  cases e with
  |normal=>obtain ⟨F',h1,h2⟩:=this;exact ihy hb Q F' a' w' hk.2 h1 h2
  |_=>exact this
 |cond c x y ihx ihy=>
  intro h Q F a w hk hW hI
  cases h<;>simp only [zCN] at hk<;>try cases hk
  rename_i d ha hb
  simp only [Bool.and_eq_true] at hk
  obtain ⟨⟨h1,h2⟩,h3⟩:=hk
  simp only [hwp] at hW
  split at hW
  ·rename_i t e1
   obtain ⟨n1,ht,hf⟩:=hW
   obtain ⟨m,β,ow,hG⟩:=hI
   have hv:=zKp hG h1 n1 e1
   refine wp_cond_split hv (fun e=>ihx ha Q F a w h2 (ht e) ⟨m,β,ow,hG⟩) (fun e=>ihy hb Q F a w h3 (hf e) ⟨m,β,ow,hG⟩)
  ·exact hW.elim
 |block id x ih=>
  intro h Q F a w hk hW hI
  cases h<;>simp only [zCN] at hk<;>try cases hk
  rename_i j ha
  simp only [Bool.and_eq_true,beq_iff_eq] at hk
  obtain ⟨rfl,hk⟩:=hk
  refine wp_block (wp_mono (ih ha _ F a w hk hW hI) ?_)
  rintro e a' w' ⟨F',h1,h2⟩
  cases e with
  |exit id'=>
   simp only [zHg] at h1
   simp only [Exit.inBlock]
   split at h1
   ·rename_i e';rw [if_pos e'];exact ⟨F',h1,h2⟩
   ·rename_i e';rw [if_neg e'];exact ⟨F',h1,h2⟩
  |_=>exact ⟨F',h1,h2⟩
 |loop x ih=>
  intro h Q F a w hk hW hI
  cases h<;>simp only [zCN] at hk<;>try cases hk
  rename_i ha
  simp only [hwp] at hW
  obtain ⟨I,⟨n,F0,hle,hI0⟩,hround⟩:=hW
  obtain ⟨m,β,ow,hG⟩:=hI
  refine yEq (fun n a w=>∃ F,I n F∧Inv E S F a w) ?_ (n:=n) ⟨F0,hI0,m,β,ow,hG.le hle⟩
  rintro n a w ⟨F1,h1,h2⟩
  refine wp_mono (ih ha _ F1 a w hk (hround n F1 h1) h2) ?_
  rintro e a' w' ⟨F2,h3,h4⟩
  cases e with
  |normal=>
   obtain ⟨n',F',hlt,hle',hI'⟩:=h3
   obtain ⟨m,β,ow,hG⟩:=h4
   exact ⟨n',hlt,F',hI',m,β,ow,hG.le hle'⟩
  |_=>exact ⟨F2,h3,h4⟩
 |exit id=>
  intro h Q F a w hk hW hI
  cases h<;>simp only [zCN] at hk<;>try cases hk
  simp only [beq_iff_eq] at hk
  subst hk
  exact wp_exit ⟨F,hW,hI⟩
 |ret=>
  intro h Q F a w hk hW hI
  cases h<;>simp [zCN] at hk
  exact wp_ret ⟨F,hW,hI⟩
 |scope x ih=>
  intro h Q F a w hk hW hI
  cases h<;>simp only [zCN] at hk<;>try cases hk
  rename_i ha
  refine wp_scope_straight (wp_mono (ih ha _ F a w hk hW hI) ?_)
  rintro e a' w' ⟨F',h1,h2⟩
  cases e with
  |goto l=>exact h1.elim
  |_=>exact ⟨F',h1,h2⟩
 |label l=>
  intro h Q F a w hk hW hI
  cases h<;>simp [zCN] at hk
  exact wp_label ⟨F,hW,hI⟩
 |_=>
  intro h Q F a w hk hW hI
  cases h<;>simp [zCN] at hk
end
end Go.Hx
end

section
/-
 THE ABSTRACT LAYER, TWELFTH TEXT: a contract out of a function's code. Generic over the program. No condition.
-/
namespace Go.Hx
open Go.RowKit
variable [Glob]
def zNV:AV→Ct
 |.val x=>.pv x
 |.own e k rows=>.own e k rows
 |.io _=>.ptr 0 0
def ioOf:List AV→Option (List PV)
 |x::as=>match x with|.io cells=>some cells|_=>ioOf as
 |[]=>none
def zYl:List AV→Nat
 |x::as=>match x with|.own _ _ _=>zYl as+1|_=>zYl as
 |[]=>0
def nIo:List AV→Nat
 |x::as=>match x with|.io _=>nIo as+1|_=>nIo as
 |[]=>0
def yJb:List AV→Nat
 |x::as=>match x with|.own _ _ _=>0|_=>yJb as+1
 |[]=>0
def zUp:List Nat→List Ct→List Ct
 |[],F=>F
 |i::r,F=>zUp r (F.set i .una)
def F0 (E:Env) (base:Nat) (as:List AV):List Ct:=zUp E.una (
 zAn (as.map zNV++List.replicate (E.L-as.length) .un) base (match ioOf as with|some cs=>cs.map fun x=>.pv (.one x)|none=>[]))
def yBA (E:Env) (base:Nat) (as:List AV):Prop:=
 as.length≤E.N∧zYl as≤1∧nIo as≤1∧match ioOf as with|some cs=>E.nfix=1∧E.Γ[0]?=some (base,cs.length)|none=>E.nfix=0
inductive RSrc where
 |tmp (t:Nat)
 |cellB (t j base off n:Nat) (agg:Bool)
 |cellF (t n:Nat) (agg:Bool)
 deriving Inhabited
def zYm (P:Program) (E:Env):RSrc→ResultVar→Bool
 |.tmp t,.tmp t'=>t==t'&&decide (t < E.N)
 |.cellB t j base off n agg,.cell a ty=>t==a&&decide (t < E.N)&&zFx E j base (off+n)&&zBY P ty==some agg&&zEd P ty==some n&&(agg||n==1)
 |.cellF t n agg,.cell a ty=>t==a&&decide (t < E.N)&&zBY P ty==some agg&&zEd P ty==some n&&(agg||n==1)
 |_,_=>false
def zE0 (P:Program) (E:Env):List RSrc→List ResultVar→Bool
 |[],[]=>true
 |x::xs,y::ys=>zYm P E x y&&zE0 P E xs ys
 |_,_=>false
def rsV (F:List Ct):RSrc→PVal→Prop
 |.tmp t,x=>match (zAh F (.t t)).pv? with
  |some p=>(zAh F (.t t)).need∧(x=p∨x=p.norm)
  |none=>False
 |.cellB t j base off n agg,x=>match F.getD t .un,zAO F (base+off) n with
  |.ptr j' off',some cs=>j'=j∧off'=off∧(x=(if agg then .agg cs else .one (cs.headD (.nl 0)))∨x=(if agg then PVal.agg cs else .one (cs.headD (.nl 0))).norm)
  |_,_=>False
 |.cellF t n agg,x=>match (zAh F (.t t)).pv? with
  |some (.one (.fp cs))=>(zAh F (.t t)).need∧cs.length=n∧x=if agg then .agg (cs.map PV.norm) else .one (cs.headD (.nl 0)).norm
  |_=>False
def yEr (F:List Ct):List RSrc→List PVal→Prop
 |[],xs=>xs=[]
 |r::rs,l=>match l with|x::xs=>rsV F r x∧yEr F rs xs|[]=>False
def zKa (F:List Ct) (rs:List RSrc):Res→Prop
 |.val x=>match rs with|[r]=>rsV F r x|_=>False
 |.own e k rows=>match rs with|[.tmp t]=>F.getD t .un=.own e k rows|_=>False
 |.tup xs=>match rs with|[_]=>False|_=>yEr F rs xs
 |.pan _=>False
 |.ov x=>match rs with
  |[.tmp t]=>F.getD t .un=.ov x
  |[.cellB t j base off n agg]=>F.getD t .un=.ptr j off∧∃ cs,zNP F (base+off) n=some cs∧x=yOE agg cs
  |_=>False
def yHx (E:Env) (base:Nat) (as:List AV) (rs:List RSrc) (r:RV):Exit→List Ct→Prop
 |.normal,F|.ret,F=>zKa F rs r.res∧∀ cs,ioOf as=some cs→zAO F base cs.length=some r.io
 |.panic ch,_=>∃ v,r.res=.pan v∧ch=[{v,recovered:=false}]
 |_,_=>False
section
variable {P:Program} {E:Env} {S:Start} {m:Mem} {β:Bx} {ow:Ow} {F:List Ct} {a:Act} {w:World}
def rdR (tmps:Array Value):ResultVar→Sem Value
 |.tmp t=>pure (tmps.getD t undef)
 |.cell a t=>do loadVar t (←asAddr (tmps.getD a undef))
theorem yKX (h:InvG E S m β ow F a w) {r:RSrc} {s:ResultVar} (hk:zYm P E r s=true) {x:PVal} (hx:rsV F r x):
  ∃ u,(rdR a.tmps s).run P w=.ok u w∧RpV m x u:=by
 cases r with
 |tmp t=>
  cases s<;>simp only [zYm] at hk<;>try cases hk
  rename_i t'
  simp only [Bool.and_eq_true,beq_iff_eq,decide_eq_true_eq] at hk
  obtain ⟨rfl,ht⟩:=hk
  simp only [rsV] at hx
  split at hx
  ·rename_i p e1
   have hv:=zAI h (x:=.t t) (y:=.tmp t) (by simp [zAe,ht]) hx.1 e1
   rcases hx.2 with rfl|rfl
   ·exact ⟨_,rfl,hv⟩
   ·exact ⟨_,rfl,hv.norm⟩
  ·exact hx.elim
 |cellB t j base off n agg=>
  cases s<;>simp only [zYm] at hk<;>try cases hk
  rename_i b ty
  simp only [Bool.and_eq_true,beq_iff_eq,decide_eq_true_eq,Bool.or_eq_true] at hk
  obtain ⟨⟨⟨⟨⟨rfl,ht⟩,hb⟩,ha⟩,hn⟩,h1⟩:=hk
  simp only [rsV] at hx
  split at hx
  ·rename_i j' off' cs e1 e2
   obtain ⟨rfl,rfl,hx⟩:=hx
   suffices hg:∃ u,(rdR a.tmps (.cell t ty)).run P w=.ok u w∧RpV m (if agg then .agg cs else .one (cs.headD (.nl 0))) u by
    obtain ⟨u,h1,h2⟩:=hg
    rcases hx with rfl|rfl
    ·exact ⟨u,h1,h2⟩
    ·exact ⟨u,h1,h2.norm⟩
   clear hx
   obtain ⟨nn,hj,hle⟩:=zEW hb
   obtain ⟨b,hb,hv⟩:=zCY h (x:=.t t) (y:=.tmp t) (by simp [zAe,ht]) e1
   have hv':a.tmps.getD t undef=_:=hv
   have hB:=h.boxes _ _ hj
   rw [hb] at hB
   obtain ⟨us,hl,hu,hm⟩:=zLR hB n off' hle cs e2
   have hrun:=zBf (P:=P) (w:=w) ha hn h1 (us:=us) (b:=b) (o:=off') hl hm
   refine ⟨if agg=true then .agg us.toArray else us.headD undef,by simp only [rdR,hv',asAddr,Sem.run_bind,Sem.run_pure,Result.andThen_ok,hrun],?_⟩
   cases agg with
   |true=>exact ⟨us,rfl,hu⟩
   |false=>
    rcases h1 with h1|rfl
    ·cases h1
    ·have hcl:cs.length=1:=by rw [←hu.length,hl]
     match cs,hcl with
     |[x],_=>
      simp only [RpL] at hu
      obtain ⟨u,us',rfl,h2,_⟩:=hu
      exact h2
  ·exact hx.elim
 |cellF t n agg=>
  cases s<;>simp only [zYm] at hk<;>try cases hk
  rename_i b ty
  simp only [Bool.and_eq_true,beq_iff_eq,decide_eq_true_eq,Bool.or_eq_true] at hk
  obtain ⟨⟨⟨⟨rfl,ht⟩,ha⟩,hn⟩,h1⟩:=hk
  simp only [rsV] at hx
  split at hx
  ·rename_i cs e1
   obtain ⟨n1,rfl,rfl⟩:=hx
   have hv:=zAI h (x:=.t t) (y:=.tmp t) (by simp [zAe,ht]) n1 e1
   obtain ⟨b,o,hv,hr⟩:=hv
   have hv':a.tmps.getD t undef=_:=hv
   obtain ⟨us,hu,hm⟩:=hr.vals
   have hrun:=zBf (P:=P) (w:=w) ha hn h1 (us:=us) (b:=b) (o:=o) (by rw [hu.length]) (fun i u hi=>h.mem _ _ _ (hm i u hi))
   refine ⟨if agg=true then .agg us.toArray else us.headD undef,by simp only [rdR,hv',asAddr,Sem.run_bind,Sem.run_pure,Result.andThen_ok,hrun],?_⟩
   cases agg with
   |true=>exact ⟨us,rfl,hu.norm⟩
   |false=>
    rcases h1 with h1|h1
    ·cases h1
    ·exact zXh hu h1
  ·exact hx.elim
theorem yBB (h:InvG E S m β ow F a w):∀ {rs:List RSrc} {ss:List ResultVar} (_:zE0 P E rs ss=true) {xs:List PVal} (_:yEr F rs xs),
  ∃ us:List Value,(ss.mapM (rdR a.tmps)).run P w=.ok us w∧RpVL m xs us
 |[],[],_,xs,hx=>by
  simp only [yEr] at hx
  subst hx
  exact ⟨[],by simp,rfl⟩
 |[],s::ss,hk,xs,hx=>by simp [zE0] at hk
 |r::rs,[],hk,xs,hx=>by simp [zE0] at hk
 |r::rs,s::ss,hk,[],hx=>by simp [yEr] at hx
 |r::rs,s::ss,hk,x::xs,hx=>by
  simp only [zE0,Bool.and_eq_true] at hk
  simp only [yEr] at hx
  obtain ⟨u,h1,h2⟩:=yKX h hk.1 hx.1
  obtain ⟨us,h3,h4⟩:=yBB h hk.2 hx.2
  refine ⟨u::us,?_,u,us,rfl,h2,h4⟩
  rw [List.mapM_cons,Sem.run_bind,h1]
  simp only [Result.andThen_ok]
  rw [Sem.run_bind,h3]
  simp
theorem zHh (h:InvG E S m β ow F a w) {fn:Func} {rs:List RSrc} (hk:zE0 P E rs fn.results.toList=true) {xs:List PVal} (hx:yEr F rs xs):
  ∃ us:List Value,(results fn a.tmps).run P w=.ok (match us with|[u]=>u|_=>.tuple us.toArray) w∧RpVL m xs us:=by
 obtain ⟨us,h1,h2⟩:=yBB h hk hx
 refine ⟨us,?_,h2⟩
 have e:results fn a.tmps=(do let vs ←fn.results.mapM (rdR a.tmps);pure (if h:vs.size=1 then vs[0] else .tuple vs)):=by
  unfold results
  congr
 rw [e,Array.mapM_eq_mapM_toList]
 have h3:(Functor.map List.toArray (List.mapM (rdR a.tmps) fn.results.toList):Sem (Array Value)).run P w=.ok us.toArray w:=by
  rw [map_eq_pure_bind,Sem.run_bind,h1]
  rfl
 rw [Sem.run_bind,h3]
 simp only [Result.andThen_ok]
 match us with
 |[]=>rfl
 |[u]=>rfl
 |u::v::us=>rfl
theorem ArgsRep.get:∀ {as:List AV} {us:List Value},ArgsRep m w as us→∀ (i:Nat) (x:AV),as[i]?=some x→∃ u,us[i]?=some u∧ArgRep m w x u
 |[],us,h,i,x,hx=>by simp at hx
 |y::ys,us,h,i,x,hx=>by
  simp only [ArgsRep] at h
  obtain ⟨u,us',rfl,h2,h3⟩:=h
  cases i with
  |zero=>simp at hx;subst hx;exact ⟨u,rfl,h2⟩
  |succ i=>simpa using ArgsRep.get h3 i x (by simpa using hx)
theorem yEs:∀ {as:List AV} {us:List Value},ArgsRep m w as us→zYl as≤1→∀ (i:Nat) (e k:Nat) (rows:List (List PV)),as[i]?=some (.own e k rows)→i=yJb as∧∃ u,us[i]?=some u∧zH1 as us=u.ownBlock
 |[],us,h,_,i,e,k,rows,hx=>by simp at hx
 |y::ys,us,h,hn,i,e,k,rows,hx=>by
  simp only [ArgsRep] at h
  obtain ⟨u,us',rfl,h2,h3⟩:=h
  cases i with
  |zero=>
   simp at hx;subst hx
   exact ⟨rfl,u,rfl,rfl⟩
  |succ i=>
   have hx':ys[i]?=some (.own e k rows):=by simpa using hx
   cases y with
   |own e' k' rows'=>
    exfalso
    have:zYl ys=0:=by simp [zYl] at hn;omega
    exact absurd hx' (no_own this i e k rows)
   |val x=>
    obtain ⟨h4,u',h5,h6⟩:=yEs h3 (by simpa [zYl] using hn) i e k rows hx'
    exact ⟨by simp [yJb,h4],u',by simpa using h5,by simpa [zH1] using h6⟩
   |io cs=>
    obtain ⟨h4,u',h5,h6⟩:=yEs h3 (by simpa [zYl] using hn) i e k rows hx'
    exact ⟨by simp [yJb,h4],u',by simpa using h5,by simpa [zH1] using h6⟩
where
 no_own:∀ {as:List AV},zYl as=0→∀ (i:Nat) (e k:Nat) (rows:List (List PV)),as[i]?≠some (.own e k rows)
 |[],_,i,_,_,_=>by simp
 |.own _ _ _::ys,h,_,_,_,_=>by simp [zYl] at h
 |.val _::ys,h,0,_,_,_=>by simp
 |.val _::ys,h,i+1,e,k,rows=>by simpa using no_own (as:=ys) (by simpa [zYl] using h) i e k rows
 |.io _::ys,h,0,_,_,_=>by simp
 |.io _::ys,h,i+1,e,k,rows=>by simpa using no_own (as:=ys) (by simpa [zYl] using h) i e k rows
theorem yJc:∀ {as:List AV} {us:List Value},ArgsRep m w as us→nIo as≤1→∀ (i:Nat) (cs:List PV),as[i]?=some (.io cs)→ioOf as=some cs∧∃ u,us[i]?=some u∧ioB as us=yOy u
 |[],us,h,_,i,cs,hx=>by simp at hx
 |y::ys,us,h,hn,i,cs,hx=>by
  simp only [ArgsRep] at h
  obtain ⟨u,us',rfl,h2,h3⟩:=h
  cases i with
  |zero=>
   simp at hx;subst hx
   exact ⟨rfl,u,rfl,rfl⟩
  |succ i=>
   have hx':ys[i]?=some (.io cs):=by simpa using hx
   cases y with
   |io cs'=>
    exfalso
    have:nIo ys=0:=by simp [nIo] at hn;omega
    exact absurd hx' (no_io this i cs)
   |val x=>
    obtain ⟨h4,u',h5,h6⟩:=yJc h3 (by simpa [nIo] using hn) i cs hx'
    exact ⟨by simp [ioOf,h4],u',by simpa using h5,by simpa [ioB] using h6⟩
   |own e k rows=>
    obtain ⟨h4,u',h5,h6⟩:=yJc h3 (by simpa [nIo] using hn) i cs hx'
    exact ⟨by simp [ioOf,h4],u',by simpa using h5,by simpa [ioB] using h6⟩
where
 no_io:∀ {as:List AV},nIo as=0→∀ (i:Nat) (cs:List PV),as[i]?≠some (.io cs)
 |[],_,i,_=>by simp
 |.io _::ys,h,_,_=>by simp [nIo] at h
 |.val _::ys,h,0,_=>by simp
 |.val _::ys,h,i+1,cs=>by simpa using no_io (as:=ys) (by simpa [nIo] using h) i cs
 |.own _ _ _::ys,h,0,_=>by simp
 |.own _ _ _::ys,h,i+1,cs=>by simpa using no_io (as:=ys) (by simpa [nIo] using h) i cs
theorem yGG:∀ {as:List AV} {us:List Value} {cs:List PV},ArgsRep m w as us→ioOf as=some cs→zQY as=cs.length∧∃ b vs T,ioB as us=some b∧w.heap[b]?=some (.cells vs T (0,0))∧(∀ o,m b o=none)∧RpL m cs vs.toList
 |[],us,cs,h,hx=>by simp [ioOf] at hx
 |y::ys,us,cs,h,hx=>by
  simp only [ArgsRep] at h
  obtain ⟨u,us',rfl,h2,h3⟩:=h
  cases y with
  |io cs'=>
   simp only [ioOf,Option.some.injEq] at hx
   subst hx
   obtain ⟨b,vs,T,rfl,h4,h5,h6⟩:=h2
   exact ⟨rfl,b,vs,T,rfl,h4,h5,h6⟩
  |val x=>exact yGG (as:=ys) (us:=us') h3 hx
  |own e k rows=>exact yGG (as:=ys) (us:=us') h3 hx
theorem zNW:∀ {as:List AV} {us:List Value},ioOf as=none→ioB as us=none
 |[],us,h=>by cases us<;>rfl
 |y::ys,[],h=>rfl
 |y::ys,u::us,h=>by
  cases y with
  |io cs=>simp [ioOf] at h
  |val x=>exact zNW (as:=ys) h
  |own e k rows=>exact zNW (as:=ys) h
theorem zRq:∀ {as:List AV} {us:List Value} {b:Nat},ArgsRep m w as us→zH1 as us=some b→∃ (i e k:Nat) (rows:List (List PV)) (u:Value),as[i]?=some (.own e k rows)∧us[i]?=some u∧u.ownBlock=some b∧OwnAt m w e k rows u
 |[],us,b,h,hb=>by simp [zH1] at hb
 |y::ys,us,b,h,hb=>by
  simp only [ArgsRep] at h
  obtain ⟨u,us',rfl,h2,h3⟩:=h
  cases y with
  |own e k rows=>exact ⟨0,e,k,rows,u,rfl,rfl,hb,h2⟩
  |val x=>
   obtain ⟨i,e,k,rows,u',h4,h5,h6⟩:=zRq h3 (b:=b) hb
   exact ⟨i+1,e,k,rows,u',by simpa using h4,by simpa using h5,h6⟩
  |io cs=>
   obtain ⟨i,e,k,rows,u',h4,h5,h6⟩:=zRq h3 (b:=b) hb
   exact ⟨i+1,e,k,rows,u',by simpa using h4,by simpa using h5,h6⟩
theorem OwnAt.lt {e k:Nat} {rows:List (List PV)} {u:Value} (h:OwnAt m w e k rows u) {g:Nat} (hg:u.ownBlock=some g):g < w.heap.size:=by
 obtain ⟨⟨xs,h1,h2⟩,_⟩:=h
 rcases h2 with ⟨rfl,_⟩|⟨g',cap,cur,rfl,_,hh,_⟩
 ·simp [Value.ownBlock] at hg
 ·simp only [Value.ownBlock,Option.some.injEq] at hg
  subst hg
  exact (Array.getElem?_eq_some_iff.1 hh).1
theorem zRr (wf:E.Wf):∀ (l:List Nat) (F:List Ct),(∀ i∈l,E.N≤i∧∀ j bn b,E.Γ[j]?=some bn→β j=some b→i < bn.1∨bn.1+bn.2≤i)→InvG E S m β ow F a w→InvG E S m β ow (zUp l F) a w
 |[],_,_,h=>h
 |x::r,F,hx,h=>by
  refine zRr wf r (F.set x .una) (fun i hi=>hx i (List.mem_cons_of_mem _ hi)) ?_
  obtain ⟨hN,hb⟩:=hx x List.mem_cons_self
  have hg:∀ i,(F.set x .una).getD i .un=F.getD i .un∨(i=x∧(F.set x .una).getD i .un=.una):=by
   intro i
   rw [zBa]
   split
   ·exact .inr ⟨by omega,rfl⟩
   ·exact .inl rfl
  refine {h with lenF:=by rw [List.length_set];exact h.lenF,slots:=fun i hi=>?_,boxes:=fun j bn hj=>?_}
  ·rcases hg i with e|⟨e,_⟩
   ·rw [e];exact h.slots i hi
   ·omega
  ·have hB:=h.boxes j bn hj
   cases hβ:β j with
   |none=>
    rw [hβ] at hB
    intro o ho
    rcases hg (bn.1+o) with e|⟨_,e⟩
    ·rw [e];exact hB o ho
    ·exact .inr e
   |some b=>
    rw [hβ] at hB
    obtain ⟨h1,h2,cs,T,h3,h4,h5⟩:=hB
    refine ⟨h1,h2,cs,T,h3,h4,fun o ho=>?_⟩
    rcases hg (bn.1+o) with e|⟨e,_⟩
    ·rw [e];exact h5 o ho
    ·have:=hb j bn b hj hβ
     omega
theorem yBC (hun:E.unaOk=true) (wf:E.Wf) {base:Nat} {as:List AV} {us:List Value} (hf:yBA E base as) (hm:MemOk m w) (ha:ArgsRep m w as us) (hd:∀ g,zH1 as us=some g→ioB as us≠some g) (hG0:Glob.ok w) (hGR:∀ b,zNO as us b→Glob.n≤b):
  Inv E {w0:=w,m0:=m,R0:=zNO as us,b0:=fun j=>if j=0 then ioB as us else none,g0:=hG0,gR:=hGR} (F0 E base as) {tmps:=us.toArray++Array.replicate (E.N-us.toArray.size) undef,defers:=[]} w:=by
 obtain ⟨hlen,hno,hni,hio⟩:=hf
 have hul:=ha.length
 have hNL:=wf.le
 have hFl:(as.map zNV++List.replicate (E.L-as.length) Ct.un).length=E.L:=by simp;omega
 have hbase:∀ cs,ioOf as=some cs→E.N≤base∧base+cs.length≤E.L:=by
  intro cs hc
  rw [hc] at hio
  exact ⟨wf.lo 0 _ hio.2,wf.hi 0 _ hio.2⟩
 refine ⟨m,fun j=>if j=0 then ioB as us else none,fun b=>if zH1 as us=some b then some (.key (yJb as)) else if ioB as us=some b then some (.box 0) else none,?_⟩
 refine zRr wf _ _ (fun i hi=>?_) ?_
 ·have hu:=List.all_eq_true.1 hun i hi
  simp only [Bool.and_eq_true,decide_eq_true_eq] at hu
  refine ⟨hu.1,fun j bn b hj hb=>?_⟩
  split at hb
  ·rename_i e
   subst e
   have hn:E.nfix=1:=by
    cases hc:ioOf as with
    |none=>rw [zNW hc] at hb;cases hb
    |some cs=>rw [hc] at hio;exact hio.1
   have:=List.all_eq_true.1 hu.2 0 (by rw [hn];decide)
   rw [hj] at this
   simpa using this
  ·cases hb
 refine ⟨by rw [zAJ];exact hFl,by simp;omega,rfl,?_,?_,hm,m.le_refl,Pres.refl _ _,?_,?_,fun b o u h=>.inl h,fun j _=>rfl⟩
 ·intro i hi
  have e1:(zAn (as.map zNV++List.replicate (E.L-as.length) Ct.un) base (match ioOf as with|some cs=>cs.map fun x=>Ct.pv (.one x)|none=>[])).getD i .un=(as.map zNV++List.replicate (E.L-as.length) Ct.un).getD i .un:=by
   cases hc:ioOf as with
   |none=>rfl
   |some cs=>
    have:=hbase cs hc
    rw [zAp,if_neg (by omega)]
  rw [e1]
  by_cases hia:i < as.length
  ·rw [List.getD_eq_getElem?_getD,List.getElem?_append_left (by simpa using hia),List.getElem?_map,List.getElem?_eq_getElem hia]
   simp only [Option.map_some,Option.getD_some]
   obtain ⟨u,h1,h2⟩:=ha.get i as[i] (List.getElem?_eq_getElem hia)
   have e2:(us.toArray++Array.replicate (E.N-us.toArray.size) undef).getD i undef=u:=by
    rw [Array.getD_eq_getD_getElem?,Array.getElem?_append_left (by simp;omega)]
    simp [h1]
   rw [e2]
   cases hx:as[i] with
   |val x=>rw [hx] at h2;exact h2
   |own e k rows=>
    rw [hx] at h2
    obtain ⟨h3,u',h4,h5⟩:=yEs ha hno i e k rows (by rw [←hx];exact List.getElem?_eq_getElem hia)
    rw [h1] at h4
    injection h4 with h4
    subst h4
    refine OwnAt.rep h2 fun g hg=>?_
    rw [if_pos (h5.trans hg),h3]
   |io cs=>
    rw [hx] at h2
    obtain ⟨h3,u',h4,h5⟩:=yJc ha hni i cs (by rw [←hx];exact List.getElem?_eq_getElem hia)
    rw [h1] at h4
    injection h4 with h4
    subst h4
    obtain ⟨b,vs,T,rfl,_⟩:=h2
    exact ⟨b,by simpa [yOy] using h5,rfl⟩
  ·rw [List.getD_eq_getElem?_getD,List.getElem?_append_right (by simpa using Nat.le_of_not_lt hia),List.getElem?_replicate]
   split<;>trivial
 ·intro j bn hj
  by_cases hj0:j=0
  ·subst hj0
   simp only [if_true]
   cases hc:ioOf as with
   |none=>
    rw [zNW hc]
    intro o ho
    have hlo:=wf.lo 0 bn hj
    simp only [hc,zAn]
    rw [List.getD_eq_getElem?_getD,List.getElem?_append_right (by simp;omega),List.getElem?_replicate]
    left;split<;>rfl
   |some cs=>
    rw [hc] at hio
    obtain ⟨_,b,vs,T,h1,h2,h3,h4⟩:=yGG ha hc
    rw [hio.2] at hj
    injection hj with hj
    subst hj
    have:=hbase cs hc
    rw [h1]
    refine ⟨?_,h3,vs,T,h2,?_,?_⟩
    ·simp only;rw [if_neg (fun h=>hd b h h1),if_pos trivial]
    ·simpa using h4.length
    ·intro o ho
     simp only at ho ⊢
     rw [zAp,if_pos (by simp;omega)]
     have e:base+o-base=o:=by omega
     have hvl:vs.toList.length=cs.length:=h4.length
     rw [e,List.getD_eq_getElem?_getD,List.getElem?_map,List.getElem?_eq_getElem ho]
     have hlt:o < vs.toList.length:=by omega
     have hu:vs.getD o undef=vs.toList[o]:=by
      rw [Array.getD_eq_getD_getElem?,←Array.getElem?_toList,List.getElem?_eq_getElem hlt];rfl
     rw [hu]
     exact h4.get _ _ _ (List.getElem?_eq_getElem ho) (List.getElem?_eq_getElem hlt)
  ·simp only [hj0,if_false]
   intro o ho
   have hlo:=wf.lo j bn hj
   have hout:∀ cs,ioOf as=some cs→¬ (base≤bn.1+o∧bn.1+o < base+cs.length):=by
    intro cs hc
    rw [hc] at hio
    have:=wf.ap j 0 _ _ hj hio.2 hj0
    simp only at this
    omega
   rw [zAp]
   rw [if_neg]
   ·rw [List.getD_eq_getElem?_getD,List.getElem?_append_right (by simp;omega),List.getElem?_replicate]
    left;split<;>rfl
   ·cases hc:ioOf as with
    |none=>simp;omega
    |some cs=>intro h;exact hout cs hc (by simp at h;omega)
 ·intro b t hb
  refine .inr ?_
  split at hb
  ·rename_i h;exact .inl h
  ·split at hb
   ·rename_i h;exact .inr h
   ·cases hb
 ·intro b t hb
  split at hb
  ·rename_i h
   obtain ⟨i,e,k,rows,u,_,_,h5,h6⟩:=zRq ha h
   exact h6.lt h5
  ·split at hb
   ·rename_i h
    cases hc:ioOf as with
    |none=>rw [zNW hc] at h;cases h
    |some cs=>
     obtain ⟨_,b',vs,T,h1,h2,_⟩:=yGG ha hc
     rw [h] at h1
     injection h1 with h1
     subst h1
     exact (Array.getElem?_eq_some_iff.1 h2).1
   ·cases hb
theorem zYn:∀ {as:List AV} {cs:List PV},ioOf as=some cs→zQY as=cs.length
 |[],cs,h=>by simp [ioOf] at h
 |y::ys,cs,h=>by
  cases y with
  |io cs'=>simp only [ioOf,Option.some.injEq] at h;subst h;rfl
  |val x=>exact zYn (as:=ys) h
  |own e k rows=>exact zYn (as:=ys) h
mutual
def PV.fits:PV→Prop
 |.v x=>zEN x=true
 |.sl _ rows=>rows.length≤maxLen∧zUq rows
 |.nl _=>True
 |.fp cs=>zJx cs
 |.clo _ caps=>zJx caps
 |.any=>True
def zJx:List PV→Prop
 |[]=>True
 |x::xs=>x.fits∧zJx xs
def zUq:List (List PV)→Prop
 |[]=>True
 |r::rs=>zJx r∧zUq rs
end
def PVal.fits:PVal→Prop
 |.one x=>x.fits
 |.agg cs=>zJx cs
def AV.fits:AV→Prop
 |.val x=>x.fits
 |.own _ _ rows=>rows.length≤maxLen∧zUq rows
 |.io cells=>zJx cells
def AVs.fits:List AV→Prop
 |[]=>True
 |x::xs=>x.fits∧AVs.fits xs
mutual
theorem Rp.fits:∀ (x:PV) (u:Value),Rp m x u→x.fits
 |.v _,_,h=>by simp only [Rp] at h;simp only [PV.fits];exact h.2
 |.sl k rows,_,h=>by
  simp only [Rp] at h
  obtain ⟨A,c,_,h2,h3,h4⟩:=h
  simp only [PV.fits]
  refine ⟨Nat.le_trans h2 h3,?_⟩
  rcases h4 with h4|⟨b,o,_,h5⟩
  ·subst h4;simp only [zUq]
  ·exact RpRows.fits rows b k o h5
 |.nl _,_,_=>by simp only [PV.fits]
 |.fp cs,_,h=>by
  simp only [Rp] at h
  obtain ⟨b,o,_,h2⟩:=h
  simp only [PV.fits]
  exact RpAt.fits cs b o h2
 |.clo f caps,_,h=>by
  simp only [Rp] at h
  obtain ⟨us,_,h2⟩:=h
  simp only [PV.fits]
  exact RpL.fits caps us h2
 |.any,_,_=>by simp only [PV.fits]
theorem RpAt.fits:∀ (cs:List PV) (b o:Nat),RpAt m b o cs→zJx cs
 |[],_,_,_=>by simp only [zJx]
 |x::xs,b,o,h=>by
  simp only [RpAt] at h
  obtain ⟨⟨u,_,h2⟩,h3⟩:=h
  simp only [zJx]
  exact ⟨Rp.fits x u h2,RpAt.fits xs b (o+1) h3⟩
theorem RpRows.fits:∀ (rows:List (List PV)) (b k o:Nat),RpRows m b k o rows→zUq rows
 |[],_,_,_,_=>by simp only [zUq]
 |r::rs,b,k,o,h=>by
  simp only [RpRows] at h
  obtain ⟨⟨_,h2⟩,h3⟩:=h
  simp only [zUq]
  exact ⟨RpAt.fits r b o h2,RpRows.fits rs b k (o+k) h3⟩
theorem RpL.fits:∀ (cs:List PV) (us:List Value),RpL m cs us→zJx cs
 |[],_,_=>by simp only [zJx]
 |x::xs,_,h=>by
  simp only [RpL] at h
  obtain ⟨u,us',_,h2,h3⟩:=h
  simp only [zJx]
  exact ⟨Rp.fits x u h2,RpL.fits xs us' h3⟩
end
theorem ArgRep.fits {x:AV} {u:Value} (h:ArgRep m w x u):x.fits:=by
 cases x with
 |val x=>
  cases x with
  |one x=>exact Rp.fits x u h
  |agg cs=>obtain ⟨us,_,h2⟩:=h;exact RpL.fits cs us h2
 |own e k rows=>
  have:=Rp.fits _ _ (OwnAt.rp h)
  simp only [PV.fits] at this
  exact this
 |io cells=>obtain ⟨b,cs,T,_,_,_,h2⟩:=h;exact RpL.fits _ _ h2
theorem ArgsRep.fits:∀ {as:List AV} {us:List Value},ArgsRep m w as us→AVs.fits as
 |[],_,_=>trivial
 |x::xs,_,h=>by
  simp only [ArgsRep] at h
  obtain ⟨u,us',_,h2,h3⟩:=h
  exact ⟨h2.fits,ArgsRep.fits h3⟩
theorem zUr {f:FuncId} {fn:Func} {c:Code} (hf:P.funcs[f]?=some fn) (hb:fn.body=some c) (hcall:zCn P f=true) (hE':(E.ok&&E.unaOk)=true) (hN:E.N=fn.ntmps)
  {h:HCode} (hk:zCN P E c h=true)
  {rs:List RSrc} (hrs:zE0 P E rs fn.results.toList=true) {base:Nat} {as:List AV} (hfo:yBA E base as) {r:RV} (hW0:AVs.fits as→hwp P h (yHx E base as rs r) (F0 E base as)) (hov:∀ x,r.res=.ov x→zYl as=0:=by intro x h;cases h<;>rfl):Contract P f as r:=by
 have hE:=Bool.and_eq_true_iff.1 hE'
 have wf:=Env.wf_of_ok hE.1
 refine ⟨hcall,fun m w us hm ha hd hG0 hGR=>?_⟩
 have hW:=hW0 ha.fits
 have h0:=yBC hE.2 wf hfo hm ha hd hG0 hGR
 have hc:=zJs wf c h _ _ _ _ hk hW h0
 refine calls_of_wp hf hb ?_
 rw [←hN]
 refine wp_mono hc ?_
 have hio:=hfo.2.2.2
 have common:∀ {m':Mem} {β:Bx} {ow:Ow} {F:List Ct} {a':Act} {w':World},
   InvG E {w0:=w,m0:=m,R0:=zNO as us,b0:=fun j=>if j=0 then ioB as us else none,g0:=hG0,gR:=hGR} m' β ow F a' w'→
   m.le m'∧MemOk m' w'∧Pres (zNO as us) w w'∧(∀ b o u,m' b o=some u→m b o=some u∨w.heap.size≤b∨zH1 as us=some b)∧
   (∀ b,ioB as us=some b→ow b=some (.box 0)∧∀ io:Option (List PV),(∀ l,io=some l→∀ cs,ioOf as=some cs→zAO F base cs.length=some l)→yOz m' w' b (zQY as) io):=by
  intro m' β ow F a' w' hG
  have key:∀ b,ioB as us=some b→∃ cs,ioOf as=some cs∧E.Γ[0]?=some (base,cs.length)∧BoxRep m' w' ow F 0 (base,cs.length) (some b):=by
   intro b hb
   cases hc:ioOf as with
   |none=>rw [zNW hc] at hb;cases hb
   |some cs=>
    rw [hc] at hio
    have hB:=hG.boxes 0 _ hio.2
    have hβ:β 0=some b:=by rw [hG.fix 0 (by rw [hio.1];exact Nat.one_pos)];simp only [if_true];exact hb
    rw [hβ] at hB
    exact ⟨cs,rfl,hio.2,hB⟩
  refine ⟨hG.mle,hG.mem,hG.pres,fun b o u hu=>?_,fun b hb=>?_⟩
  ·rcases hG.new b o u hu with g|g|g
   ·exact .inl g
   ·exact .inr (.inl g)
   ·rcases g with g|g
    ·exact .inr (.inr g)
    ·obtain ⟨cs,_,_,hB⟩:=key b g
     have:=hB.2.1 o
     rw [hu] at this
     cases this
  ·obtain ⟨cs,hc,hj,hB⟩:=key b hb
   refine ⟨hB.1,fun io hl=>?_⟩
   rw [zYn hc]
   refine ⟨hB.2.1,?_⟩
   cases io with
   |none=>
    obtain ⟨h1,h2,vs,T,h3,h4,h5⟩:=hB
    exact ⟨vs,T,h3,h4,fun l e=>by cases e⟩
   |some l=>
    obtain ⟨vs,T,h3,h4,h5⟩:=zH6 hB (hl l rfl cs hc)
    exact ⟨vs,T,h3,h4,fun l' e=>by injection e with e;subst e;exact h5⟩
 have fin:∀ {F:List Ct} {a':Act} {w':World},(zKa F rs r.res∧∀ cs,ioOf as=some cs→zAO F base cs.length=some r.io)→
   Inv E {w0:=w,m0:=m,R0:=zNO as us,b0:=fun j=>if j=0 then ioB as us else none,g0:=hG0,gR:=hGR} F a' w'→
   a'.defers=[]∧∃ v,(results fn a'.tmps).run P w'=.ok v w'∧yLV m w as us r (.returned v) w':=by
  rintro F a' w' ⟨hr,hi⟩ ⟨m',β,ow,hG⟩
  obtain ⟨c1,c2,c3,c4,c5⟩:=common hG
  refine ⟨hG.dfr,?_⟩
  have hmk:∀ v,yBr m' w w' (zH1 as us) r.res (.returned v)→yLV m w as us r (.returned v) w':=by
   intro v hv
   refine ⟨m',c1,c2,c3,c4,fun b hb=>(c5 b hb).2 _ ?_,hv⟩
   intro l hl cs hcs
   unfold Res.ioOf at hl
   split at hl
   ·cases hl
   ·injection hl with hl;rw [←hl];exact hi cs hcs
  cases hres:r.res with
  |val x=>
   rw [hres] at hr
   simp only [zKa] at hr
   split at hr
   ·rename_i r1
    obtain ⟨us',h1,h2⟩:=zHh hG hrs (xs:=[x]) (by simp only [yEr];exact ⟨hr,trivial⟩)
    obtain ⟨u,us'',rfl,h3,h4⟩:=h2
    simp only [RpVL] at h4
    subst h4
    exact ⟨_,h1,hmk _ (by rw [hres];exact ⟨u,rfl,h3⟩)⟩
   ·exact hr.elim
  |own e k rows=>
   rw [hres] at hr
   simp only [zKa] at hr
   split at hr
   ·rename_i t
    have hlt:t < E.N:=by
     cases hl:fn.results.toList with
     |nil=>rw [hl] at hrs;simp [zE0] at hrs
     |cons s ss=>
      rw [hl] at hrs
      simp only [zE0,Bool.and_eq_true] at hrs
      cases s with
      |tmp t'=>have:=hrs.1;simp only [zYm,Bool.and_eq_true,decide_eq_true_eq] at this;exact this.2
      |cell x y=>have:=hrs.1;simp [zYm] at this
    have hs:=hG.slots t hlt
    rw [hr] at hs
    obtain ⟨us',h1,h2⟩:=zHh hG hrs (xs:=[.one (.sl k rows)]) (by simp only [yEr,rsV,zAh,hr];exact ⟨⟨trivial,.inl rfl⟩,trivial⟩)
    obtain ⟨u,us'',rfl,h3,h4⟩:=h2
    simp only [RpVL] at h4
    subst h4
    refine ⟨_,h1,?_⟩
    have hu:u=a'.tmps.getD t undef:=by
     have e:results fn a'.tmps=(do let vs ←fn.results.mapM (rdR a'.tmps);pure (if h:vs.size=1 then vs[0] else .tuple vs)):=by unfold results;congr
     cases hl:fn.results.toList with
     |nil=>rw [hl] at hrs;simp [zE0] at hrs
     |cons s ss=>
      rw [hl] at hrs
      simp only [zE0,Bool.and_eq_true] at hrs
      cases ss with
      |cons s2 ss2=>simp [zE0] at hrs
      |nil=>
       cases s with
       |cell x y=>have:=hrs.1;simp [zYm] at this
       |tmp t'=>
        have h5:=hrs.1
        simp only [zYm,Bool.and_eq_true,beq_iff_eq,decide_eq_true_eq] at h5
        obtain ⟨rfl,_⟩:=h5
        rw [e,Array.mapM_eq_mapM_toList,hl] at h1
        simp [rdR] at h1
        rw [Array.getD_eq_getD_getElem?];exact h1.symm
    subst hu
    refine hmk _ ?_
    rw [hres]
    refine ⟨_,rfl,OwnRep.at_ hs,fun g hg=>?_⟩
    have hg1:=(hs.2 g hg).1
    rcases hG.own g _ hg1 with h6|h6|h6
    ·exact .inl h6
    ·exact .inr h6
    ·rw [(c5 g h6).1] at hg1;cases hg1
   ·exact hr.elim
  |tup xs=>
   rw [hres] at hr
   simp only [zKa] at hr
   split at hr
   ·exact hr.elim
   ·rename_i hne
    obtain ⟨us',h1,h2⟩:=zHh hG hrs hr
    have hl1:us'.length=xs.length:=RpVL.length h2
    have hl2:rs.length=xs.length:=rsVs_length hr
    match us',h1,h2,hl1 with
    |[],h1,h2,_=>exact ⟨_,h1,hmk _ (by rw [hres];exact ⟨[],rfl,h2⟩)⟩
    |[u],h1,h2,hl1=>
     exfalso
     match rs,hne,hl2 with
     |[x],hne,_=>exact hne x rfl
     |[],_,h=>simp at h hl1;omega
     |_::_::_,_,h=>simp at h hl1;omega
    |u::v::l,h1,h2,_=>exact ⟨_,h1,hmk _ (by rw [hres];exact ⟨u::v::l,rfl,h2⟩)⟩
  |pan v=>rw [hres] at hr;exact hr.elim
  |ov x=>
   rw [hres] at hr
   have hno:=hov x hres
   have hfresh:∀ (i g:Nat),ow g=some (.key i)→w.heap.size≤g:=by
    intro i g hg
    rcases hG.own g _ hg with h6|h6|h6
    ·exact h6
    ·exact (no_ownB hno h6).elim
    ·rw [(c5 g h6).1] at hg;cases hg
   simp only [zKa] at hr
   split at hr
   ·rename_i t
    have hlt:t < E.N:=by
     cases hl:fn.results.toList with
     |nil=>rw [hl] at hrs;simp [zE0] at hrs
     |cons s ss=>
      rw [hl] at hrs
      simp only [zE0,Bool.and_eq_true] at hrs
      cases s with
      |tmp t'=>have:=hrs.1;simp only [zYm,Bool.and_eq_true,decide_eq_true_eq] at this;exact this.2
      |cell x y=>have:=hrs.1;simp [zYm] at this
    have hs:=hG.slots t hlt
    rw [hr] at hs
    obtain ⟨fp,k1,k2,k3⟩:=hs
    refine ⟨a'.tmps.getD t undef,res_one hrs (fun s hs1=>?_),hmk _ (by rw [hres];exact ⟨a'.tmps.getD t undef,fp,rfl,k1,k2,fun g hg=>⟨hfresh t g (k3 g hg).1,(k3 g hg).2⟩⟩)⟩
    cases s with
    |cell x y=>simp [zYm] at hs1
    |tmp t'=>
     simp only [zYm,Bool.and_eq_true,beq_iff_eq,decide_eq_true_eq] at hs1
     obtain ⟨rfl,_⟩:=hs1
     rfl
   ·rename_i t j bs off n agg
    obtain ⟨e1,cs,e2,rfl⟩:=hr
    have hsrc:∃ s,fn.results.toList=[s]∧zYm P E (.cellB t j bs off n agg) s=true:=by
     cases hl:fn.results.toList with
     |nil=>rw [hl] at hrs;simp [zE0] at hrs
     |cons s ss=>
      rw [hl] at hrs
      cases ss with
      |nil=>simp only [zE0,Bool.and_eq_true] at hrs;exact ⟨s,rfl,hrs.1⟩
      |cons s2 ss=>simp [zE0] at hrs
    obtain ⟨s,_,hs1⟩:=hsrc
    cases s with
    |tmp t'=>simp [zYm] at hs1
    |cell b ty=>
     have hs1':=hs1
     simp only [zYm,Bool.and_eq_true,beq_iff_eq,decide_eq_true_eq,Bool.or_eq_true] at hs1'
     obtain ⟨⟨⟨⟨⟨rfl,ht⟩,hb⟩,ha⟩,hn⟩,h1⟩:=hs1'
     obtain ⟨nn,hj,hle⟩:=zEW hb
     obtain ⟨bb,hbb,hv⟩:=zCY hG (x:=.t t) (y:=.tmp t) (by simp [zAe,ht]) e1
     have hv':a'.tmps.getD t undef=_:=hv
     have hB:=hG.boxes _ _ hj
     rw [hbb] at hB
     obtain ⟨us',fp,k1,k2,k3,k4,k5⟩:=yIR hB n off hle cs e2
     have hrun:=zBf (P:=P) (w:=w') ha hn h1 (us:=us') (b:=bb) (o:=off) k1 k5
     have hfp:∀ g∈fp,w.heap.size≤g∧∀ o,m' g o=none:=fun g hg=>by
      obtain ⟨⟨i,_,_,i3,_⟩,i5⟩:=k4 g hg
      exact ⟨hfresh i g i3,i5⟩
     refine ⟨if agg then .agg us'.toArray else us'.headD undef,res_one hrs (fun s hs2=>?_),hmk _ (by rw [hres];exact ⟨if agg then .agg us'.toArray else us'.headD undef,fp,rfl,yGn k2 (by rw [k1];exact h1),k3,hfp⟩)⟩
     ·cases s with
      |tmp t'=>simp [zYm] at hs2
      |cell b' ty'=>
       have hs2':=hs2
       simp only [zYm,Bool.and_eq_true,beq_iff_eq,decide_eq_true_eq,Bool.or_eq_true] at hs2'
       obtain ⟨⟨⟨⟨⟨rfl,_⟩,_⟩,ha'⟩,hn'⟩,_⟩:=hs2'
       have hrun':=zBf (P:=P) (w:=w') ha' hn' h1 (us:=us') (b:=bb) (o:=off) k1 k5
       simp only [rdR,hv',asAddr,Sem.run_bind,Sem.run_pure,Result.andThen_ok,hrun']
   ·exact hr.elim
 rintro e a' w' ⟨F,hq,hI⟩
 cases e with
 |normal=>exact fin hq hI
 |ret=>exact fin hq hI
 |panic ch=>
  obtain ⟨v,hv,rfl⟩:=hq
  obtain ⟨m',β,ow,hG⟩:=hI
  obtain ⟨c1,c2,c3,c4,c5⟩:=common hG
  refine ⟨hG.dfr,m',c1,c2,c3,c4,fun b hb=>(c5 b hb).2 _ ?_,?_⟩
  ·intro l hl
   simp only [Res.ioOf,hv] at hl
   cases hl
  ·rw [hv];rfl
 |exit id=>exact hq.elim
 |goto l=>exact hq.elim
 |outgrown=>exact hq.elim
where
 no_ownB:∀ {as:List AV} {us:List Value} {b:Nat},zYl as=0→zH1 as us≠some b
  |[],us,b,_=>by simp [zH1]
  |x::as,[],b,_=>by simp [zH1]
  |.own _ _ _::as,u::us,b,h=>by simp [zYl] at h
  |.val _::as,u::us,b,h=>by simpa [zH1] using no_ownB (as:=as) (us:=us) (by simpa [zYl] using h)
  |.io _::as,u::us,b,h=>by simpa [zH1] using no_ownB (as:=as) (us:=us) (by simpa [zYl] using h)
 res_one {fn:Func} {r:RSrc} (hrs:zE0 P E [r] fn.results.toList=true) {tmps:Array Value} {w':World} {u:Value} (h:∀ s,zYm P E r s=true→(rdR tmps s).run P w'=.ok u w'):(results fn tmps).run P w'=.ok u w':=by
  have e:results fn tmps=(do let vs ←fn.results.mapM (rdR tmps);pure (if h:vs.size=1 then vs[0] else .tuple vs)):=by unfold results;congr
  cases hl:fn.results.toList with
  |nil=>rw [hl] at hrs;simp [zE0] at hrs
  |cons s ss=>
   rw [hl] at hrs
   cases ss with
   |cons s2 ss2=>simp [zE0] at hrs
   |nil=>
    simp only [zE0,Bool.and_eq_true] at hrs
    have h1:=h s hrs.1
    rw [e,Array.mapM_eq_mapM_toList,hl]
    simp [h1]
 RpVL.length {m:Mem}:∀ {xs:List PVal} {us:List Value},RpVL m xs us→us.length=xs.length
  |[],us,h=>by simp only [RpVL] at h;subst h;rfl
  |x::xs,us,h=>by
   obtain ⟨u,us',rfl,_,h3⟩:=h
   simp [RpVL.length h3]
 rsVs_length {F:List Ct}:∀ {rs:List RSrc} {xs:List PVal},yEr F rs xs→rs.length=xs.length
  |[],xs,h=>by simp only [yEr] at h;subst h;rfl
  |r::rs,[],h=>by simp [yEr] at h
  |r::rs,x::xs,h=>by simp only [yEr] at h;simp [rsVs_length h.2]
end
end Go.Hx
end

section
/-
  THE ABSTRACT LAYER, THIRTEENTH TEXT: the rules by which simp walks the abstract code. Generic over the program. No condition.
-/
namespace Go.Hx
open Go.RowKit
variable [Glob]
section
variable {P:Program} {h h1 h2:HCode} {Q:Exit→List Ct→Prop} {K:List Ct→Prop} {X:Value→List Ct→Prop} {F F':List Ct}
def yPc (P:Program) (os:List HO) (K:List Ct→Prop) (X:Value→List Ct→Prop):List Ct→Prop:=fun F=>yOG P os F K X
def dK (P:Program) (ds:List DO) (N:List Ct→Prop) (X:Value→Prop):List Ct→Prop:=fun F=>dW P ds F N X
def dX (l:Bool) (X:Value→Prop):Value→List Ct→Prop:=fun v _=>l=true∧X v
def ghK (post:List Gh) (K:List Ct→Prop):List Ct→Prop:=fun F=>ghW F K post
def nrm (Q:Exit→List Ct→Prop):List Ct→Prop:=fun F=>Q .normal F
def yQe (Q:Exit→List Ct→Prop):Value→List Ct→Prop:=fun v F=>Q (.panic [{v,recovered:=false}]) F
def yQf (ds:List DO) (F:List Ct) (Q:Exit→List Ct→Prop):Value→Prop:=fun v=>∀ F',AgW (dsW ds) F F'→Q (.panic [{v,recovered:=false}]) F'
def yKu (P:Program) (os:List HO) (K:List Ct→Prop):List Ct→Prop:=fun F=>yLW P os F K
def bkK (F:List Ct) (ds:List Nat) (post:List Gh) (Q:Exit→List Ct→Prop):List Ct→Prop:=fun F1=>ghW (yEm F F1 ds) (nrm Q) post
theorem yPd:hwp P .skip Q F=Q .normal F:=rfl
theorem yQg {ops:List HO} {post:List Gh}:hwp P (.reg ops false post) Q F=yPc P ops (ghK post (nrm Q)) (yQe Q) F:=rfl
theorem yQh {ds:List DO} {post:List Gh}:hwp P (.drg ds post) Q F=dK P ds (ghK post (nrm Q)) (yQf ds F Q) F:=rfl
theorem yPe {pre:List Gh} {ops:List HO} {post:List Gh}:hwp P (.regG pre ops post) Q F=ghW F (fun F0=>yPc P ops (ghK post (nrm Q)) (yQe Q) F0) pre:=rfl
theorem yPf {pre:List Gh} {ds:List DO} {post:List Gh}:hwp P (.drgG pre ds post) Q F=ghW F (fun F0=>dK P ds (ghK post (nrm Q)) (yQf ds F0 Q) F0) pre:=rfl
theorem yQi {i:Nat} {ops:List HO} {draw:Bool} {post:List Gh}:hwp P (.rdr i ops draw post) Q F=(match F.getD i .un with
    | .stk e k rows=>yKu P ops (bkK F (yKt ops) post Q) (F.set i (.own e k rows))
    | _=>False):=rfl
theorem yQj:yPc P [] K X F=K F:=rfl
theorem yPg {o:HO} {os:List HO}:yPc P (o::os) K X F=hoW P o F (yPc P os K X) X:=rfl
theorem yPh {N:List Ct→Prop} {X0:Value→Prop}:dK P [] N X0 F=N F:=rfl
theorem yMS {i:Nat} {l:Bool} {h:HO} {ds:List DO} {N:List Ct→Prop} {X0:Value→Prop}:dK P (⟨i,l,h⟩::ds) N X0 F=hoW P h F (dK P ds N X0) (dX l X0):=rfl
theorem yRC {post:List Gh}:ghK post K F=ghW F K post:=rfl
theorem yQk:nrm Q F=Q .normal F:=rfl
theorem yPi {v:Value}:yQe Q v F=Q (.panic [{v,recovered:=false}]) F:=rfl
theorem yPj {v:Value} {ds:List DO}:yQf ds F Q v=∀ F',AgW (dsW ds) F F'→Q (.panic [{v,recovered:=false}]) F':=rfl
theorem yRD {l:Bool} {X0:Value→Prop} {v:Value}:dX l X0 v F=(l=true∧X0 v):=rfl
theorem yRE {F0:List Ct} {ds:List Nat} {post:List Gh}:bkK F0 ds post Q F=ghW (yEm F0 F ds) (nrm Q) post:=rfl
theorem yQl {d e k:Nat}:hoW P ⟨none,.nlk d e k⟩ F K X=K (F.set d (.stk e k [])):=rfl
theorem yQm {d x:Nat}:hoW P ⟨none,.mvk d x⟩ F K X=(match F.getD x .un with
    | .stk e k rows=>d≠x∧K ((F.set x (.hdr rows.length)).set d (.stk e k rows))
    | _=>False):=rfl
theorem yQn {d x:Nat} {hi:Opd}:hoW P ⟨none,.trk d x hi⟩ F K X=(match F.getD x .un,(zAh F hi).pv? with
    | .stk e k rows,some (.one (.v (.int _ n)))=>d≠x∧(zAh F hi).need∧0≤n∧n≤rows.length∧K ((F.set x (.hdr rows.length)).set d (.stk e k (rows.take n.toNat)))
    | _,_=>False):=rfl
theorem yQo {d e k x:Nat} {y:Opd}:hoW P ⟨none,.apk d e k x y⟩ F K X=(match F.getD x .un,(zAh F y).pv? with
    | .stk e' k' rows,some (.one (.sl k'' rs))=>x≠d∧e'=e∧k'=k∧k''=k∧(zAh F y).need∧(rows.length+rs.length) * 4096≤140737488355328∧K ((F.set x (.hdr rows.length)).set d (.stk e k (rows++rs)))
    | _,_=>False):=rfl
theorem yQp {d:Nat} {ng:Bool} {x:Opd}:hoW P ⟨none,.isn d ng x⟩ F K X=(match (zAh F x).pv? with
    | some (.one (.sl _ rows))=>(zAh F x).need∧∀ b:Bool,(rows≠[]→b=false)→K (F.set d (.pv (bv (if ng then !b else b))))
    | some (.one (.nl _))=>(zAh F x).need∧K (F.set d (.pv (bv (!ng))))
    | _=>False):=rfl
theorem yQq {F1:List Ct}:yEm F F1 []=F:=rfl
theorem yPk {F1:List Ct} {d:Nat} {ds:List Nat}:yEm F F1 (d::ds)=yEm (F.set d (yKP (F1.getD d .un))) F1 ds:=rfl
theorem yQr {a b:HCode}:hwp P (.seq a b) Q F=hwp P a (zYk (hwp P b Q) Q) F:=rfl
theorem zAa {x:Opd} {a b:HCode} {t:Bool} (e:(zAh F x).pv?=some (.one (.v (.bool t)))) (n:(zAh F x).need) (ht:t=true→hwp P a Q F) (hf:t=false→hwp P b Q F):hwp P (.cond x a b) Q F:=by
  simp only [hwp,e]
  exact ⟨n,ht,hf⟩
theorem zL0 {x:Opd} {a b:HCode} (e:(zAh F x).pv?=some (.one (.v (.bool true)))) (n:(zAh F x).need) (ht:hwp P a Q F):hwp P (.cond x a b) Q F:=
  zAa e n (fun _=>ht) (fun h=>by cases h)
theorem zH9 {x:Opd} {a b:HCode} (e:(zAh F x).pv?=some (.one (.v (.bool false)))) (n:(zAh F x).need) (hf:hwp P b Q F):hwp P (.cond x a b) Q F:=
  zAa e n (fun h=>by cases h) (fun _=>hf)
theorem yMT {id:Nat} {a:HCode}:hwp P (.block id a) Q F=hwp P a (zHg id Q) F:=rfl
theorem yPl {id:Nat}:hwp P (.exit id) Q F=Q (.exit id) F:=rfl
theorem yQs:hwp P .ret Q F=Q .ret F:=rfl
theorem yMU {a:HCode}:hwp P (.scope a) Q F=hwp P a (ngQ Q) F:=rfl
theorem yMV:hwp P .label Q F=Q .normal F:=rfl
theorem yQt:ngQ Q .normal F=Q .normal F:=rfl
theorem yQu {id:Nat}:ngQ Q (.exit id) F=Q (.exit id) F:=rfl
theorem yQv:ngQ Q .ret F=Q .ret F:=rfl
theorem yQw {ch:List PanicEntry}:ngQ Q (.panic ch) F=Q (.panic ch) F:=rfl
theorem yMW:zYk K Q .normal F=K F:=rfl
theorem yMX {id:Nat}:zYk K Q (.exit id) F=Q (.exit id) F:=rfl
theorem yMY:zYk K Q .ret F=Q .ret F:=rfl
theorem yMZ {ch:List PanicEntry}:zYk K Q (.panic ch) F=Q (.panic ch) F:=rfl
theorem yPm {id:Nat}:zHg id Q .normal F=Q .normal F:=rfl
theorem yPn {id id':Nat}:zHg id Q (.exit id') F=if id'=id then Q .normal F else Q (.exit id') F:=rfl
theorem yPo {id:Nat}:zHg id Q .ret F=Q .ret F:=rfl
theorem yPp {id:Nat} {ch:List PanicEntry}:zHg id Q (.panic ch) F=Q (.panic ch) F:=rfl
theorem yQx {d:Nat} {v:VOp}:hoW P ⟨none,.val d v⟩ F K X=((ev F v).1∧K (F.set d (ev F v).2)):=rfl
def zYo (T:Bool) (A B:Prop):Prop:=match T with
  | true=>A
  | false=>B
theorem yPq {A B:Prop}:zYo true A B=A:=rfl
theorem yPr {A B:Prop}:zYo false A B=B:=rfl
theorem yHy {T T':Bool} {A B:Prop} (h:T=T'):zYo T A B=zYo T' A B:=by rw [h]
attribute [congr] yHy
def gdV (o:Option Bool) (p:Prop×Ct) (d:Nat) (F:List Ct) (K:List Ct→Prop):Prop:=match o with
  | none=>False
  | some T=>match p.2 with
    | .pv x=>(T=true→p.1)∧K (F.set d (.gd T x))
    | c=>zYo T (p.1∧K (F.set d c)) (K (F.set d (.gd false (bv false))))
theorem yJd {o o':Option Bool} {p p':Prop×Ct} {d:Nat} (h1:o=o') (h2:p=p'):gdV o p d F K=gdV o' p' d F K:=by rw [h1,h2]
attribute [congr] yJd
theorem yKY {p:Prop×Ct} {d:Nat}:gdV none p d F K=False:=rfl
theorem yPs {T:Bool} {A:Prop} {x:PVal} {d:Nat}:gdV (some T) (A,.pv x) d F K=((T=true→A)∧K (F.set d (.gd T x))):=rfl
theorem yPt {T:Bool} {A:Prop} {d:Nat}:gdV (some T) (A,.un) d F K=zYo T (A∧K (F.set d .un)) (K (F.set d (.gd false (bv false)))):=rfl
theorem yM0 {T:Bool} {A:Prop} {j off:Nat} {d:Nat}:gdV (some T) (A,.ptr j off) d F K=zYo T (A∧K (F.set d (.ptr j off))) (K (F.set d (.gd false (bv false)))):=rfl
theorem yPu {T t:Bool} {A:Prop} {x:PVal} {d:Nat}:gdV (some T) (A,.gd t x) d F K=zYo T (A∧K (F.set d (.gd t x))) (K (F.set d (.gd false (bv false)))):=rfl
theorem yM1 {T:Bool} {A:Prop} {xs:List PVal} {d:Nat}:gdV (some T) (A,.tup xs) d F K=zYo T (A∧K (F.set d (.tup xs))) (K (F.set d (.gd false (bv false)))):=rfl
theorem yM2 {T:Bool} {A:Prop} {n:Nat} {d:Nat}:gdV (some T) (A,.hdr n) d F K=zYo T (A∧K (F.set d (.hdr n))) (K (F.set d (.gd false (bv false)))):=rfl
theorem yM3 {T:Bool} {A:Prop} {b k n:Nat} {d:Nat}:gdV (some T) (A,.hdp b k n) d F K=zYo T (A∧K (F.set d (.hdp b k n))) (K (F.set d (.gd false (bv false)))):=rfl
theorem yM4 {T:Bool} {A:Prop} {b k r f:Nat} {d:Nat}:gdV (some T) (A,.epp b k r f) d F K=zYo T (A∧K (F.set d (.epp b k r f))) (K (F.set d (.gd false (bv false)))):=rfl
theorem yM5 {T:Bool} {A:Prop} {b:Nat} {d:Nat}:gdV (some T) (A,.mph b) d F K=zYo T (A∧K (F.set d (.mph b))) (K (F.set d (.gd false (bv false)))):=rfl
theorem yM6 {T:Bool} {A:Prop} {e k:Nat} {rows:List (List PV)} {d:Nat}:gdV (some T) (A,.own e k rows) d F K=zYo T (A∧K (F.set d (.own e k rows))) (K (F.set d (.gd false (bv false)))):=rfl
theorem yM7 {T:Bool} {A:Prop} {e k:Nat} {rows:List (List PV)} {d:Nat}:gdV (some T) (A,.stk e k rows) d F K=zYo T (A∧K (F.set d (.stk e k rows))) (K (F.set d (.gd false (bv false)))):=rfl
theorem yPv {T:Bool} {A:Prop} {x:OVal} {d:Nat}:gdV (some T) (A,.ov x) d F K=zYo T (A∧K (F.set d (.ov x))) (K (F.set d (.gd false (bv false)))):=rfl
theorem yM8 {T:Bool} {A:Prop} {d:Nat}:gdV (some T) (A,.una) d F K=zYo T (A∧K (F.set d .una)) (K (F.set d (.gd false (bv false)))):=rfl
attribute [go_sem] yKY yPs yPt yM0 yPu yM1 yM2 yM3 yM4 yM5 yM6 yM7 yPv yM8
theorem yM9 {g:Nat×Bool} {d:Nat} {v:VOp}:hoW P ⟨some g,.val d v⟩ F K X=gdV (zDg F g) (ev F v) d F K:=by
  show (match zDg F g with
    | none=>False
    | some T=>match (ev F v).2 with
      | .pv x=>(T=true→(ev F v).1)∧K (F.set d (.gd T x))
      | _=>match T with
        | true=>(ev F v).1∧K (F.set d (ev F v).2)
        | false=>K (F.set d (.gd false (bv false))))=_
  unfold gdV
  cases zDg F g with
  | none=>rfl
  | some T=>
    generalize ev F v=p
    obtain ⟨A,c⟩:=p
    cases c<;>cases T<;>rfl
theorem yEt {g:Nat×Bool} {d:Nat} {x:Opd} {r j base:Nat} {pt:List (Opd×Nat)} {n:Nat} {agg:Bool}:hoW P ⟨some g,.vlp d x r j base pt n agg⟩ F K X=(match zDg F g with
    | none=>False
    | some T=>zYo T (hoW P ⟨none,.vlp d x r j base pt n agg⟩ F K X) (K (F.set d (.gd false (bv false))))):=rfl
theorem yQy:yKu P [] K F=K F:=rfl
theorem yQz {os:List HO} {d:Nat} {v:VOp}:yKu P (⟨none,.val d v⟩::os) K F=((ev F v).1∧yKu P os K (F.set d (ev F v).2)):=rfl
def gdD (o:Option Bool) (p:Prop×Ct) (d:Nat) (F:List Ct) (K:List Ct→Prop):Prop:=match o with
  | none=>False
  | some T=>match p.2 with
    | .pv x=>(T=true→p.1)∧K (F.set d (.gd T x))
    | _=>T=false∧K (F.set d (.gd T (bv false)))
theorem yJe {o o':Option Bool} {p p':Prop×Ct} {d:Nat} (h1:o=o') (h2:p=p'):gdD o p d F K=gdD o' p' d F K:=by rw [h1,h2]
attribute [congr] yJe
theorem yKZ {p:Prop×Ct} {d:Nat}:gdD none p d F K=False:=rfl
theorem yPw {T:Bool} {A:Prop} {x:PVal} {d:Nat}:gdD (some T) (A,.pv x) d F K=((T=true→A)∧K (F.set d (.gd T x))):=rfl
theorem yPx {T:Bool} {A:Prop} {d:Nat}:gdD (some T) (A,.un) d F K=(T=false∧K (F.set d (.gd T (bv false)))):=rfl
theorem yNa {T:Bool} {A:Prop} {j off:Nat} {d:Nat}:gdD (some T) (A,.ptr j off) d F K=(T=false∧K (F.set d (.gd T (bv false)))):=rfl
theorem yPy {T t:Bool} {A:Prop} {x:PVal} {d:Nat}:gdD (some T) (A,.gd t x) d F K=(T=false∧K (F.set d (.gd T (bv false)))):=rfl
theorem yNb {T:Bool} {A:Prop} {xs:List PVal} {d:Nat}:gdD (some T) (A,.tup xs) d F K=(T=false∧K (F.set d (.gd T (bv false)))):=rfl
theorem yNc {T:Bool} {A:Prop} {n:Nat} {d:Nat}:gdD (some T) (A,.hdr n) d F K=(T=false∧K (F.set d (.gd T (bv false)))):=rfl
theorem yNd {T:Bool} {A:Prop} {e k:Nat} {rows:List (List PV)} {d:Nat}:gdD (some T) (A,.own e k rows) d F K=(T=false∧K (F.set d (.gd T (bv false)))):=rfl
theorem yNe {T:Bool} {A:Prop} {e k:Nat} {rows:List (List PV)} {d:Nat}:gdD (some T) (A,.stk e k rows) d F K=(T=false∧K (F.set d (.gd T (bv false)))):=rfl
attribute [go_sem] yKZ yPw yPx yNa yPy yNb yNc yNd yNe
theorem yNf {os:List HO} {g:Nat×Bool} {d:Nat} {v:VOp}:yKu P (⟨some g,.val d v⟩::os) K F=gdD (zDg F g) (ev F v) d F (yKu P os K):=by
  show (match zDg F g with
    | none=>False
    | some T=>match (ev F v).2 with
      | .pv x=>(T=true→(ev F v).1)∧yKu P os K (F.set d (.gd T x))
      | _=>T=false∧yKu P os K (F.set d (.gd T (bv false))))=_
  unfold gdD
  cases zDg F g with
  | none=>rfl
  | some T=>
    generalize ev F v=p
    obtain ⟨A,c⟩:=p
    cases c<;>rfl
theorem yBD {os:List HO} {f:FuncId} {args:List (Opd×AM)} {d:Nat} {x:Value} (h1:(zBv F args).1) (h2:Contract P f (zBv F args).2 {res:=.val (.one (.v x))}) (h3:yKu P os K (F.set d (.pv (.one (.v x))))):yKu P (⟨none,.call (some d) f args⟩::os) K F:=
  ⟨h1,x,h2,h3⟩
theorem zAc {f:FuncId} {args:List (Opd×AM)} {d:Option Nat} {x:PVal} {io:List PV} (h1:(zBv F args).1) (h2:Contract P f (zBv F args).2 {res:=.val x,io:=io}) (h3:K (zUl (zAK F (some io) args) d (.pv x))):hoW P ⟨none,.call d f args⟩ F K X:=
  ⟨h1,_,h2,h3⟩
theorem zFD {f:FuncId} {args:List (Opd×AM)} {d:Option Nat} {e k:Nat} {rows:List (List PV)} {io:List PV} (h1:(zBv F args).1) (h2:Contract P f (zBv F args).2 {res:=.own e k rows,io:=io}) (h3:K (zUl (zAK F (some io) args) d (.own e k rows))):hoW P ⟨none,.call d f args⟩ F K X:=
  ⟨h1,_,h2,h3⟩
theorem zBx {f:FuncId} {args:List (Opd×AM)} {d:Option Nat} {x:PVal} {xs:List PVal} {io:List PV} (h1:(zBv F args).1) (h2:Contract P f (zBv F args).2 {res:=.tup (x::xs),io:=io}) (h3:K (zUl (zAK F (some io) args) d (.tup (x::xs)))):hoW P ⟨none,.call d f args⟩ F K X:=
  ⟨h1,_,h2,h3⟩
theorem zDR {f:FuncId} {args:List (Opd×AM)} {d:Option Nat} {io:List PV} (h1:(zBv F args).1) (h2:Contract P f (zBv F args).2 {res:=.tup [],io:=io}) (h3:K (zUl (zAK F (some io) args) d .un)):hoW P ⟨none,.call d f args⟩ F K X:=
  ⟨h1,_,h2,h3⟩
theorem zAg {g:Nat×Bool} {f:FuncId} {args:List (Opd×AM)} {d:Nat} {T:Bool} {x:PVal} (hg:zDg F g=some T) (h1:T=true→(zBv F args).1) (h2:T=true→Contract P f (zBv F args).2 {res:=.val x}) (h3:K (F.set d (.gd T x))):hoW P ⟨some g,.call (some d) f args⟩ F K X:=by
  show hoW P ⟨some g,.call (some d) f args⟩ F _ X
  unfold hoW
  simp only [hg]
  exact ⟨h1,x,h2,h3⟩
theorem zRs {g:Nat×Bool} {f:FuncId} {x0:Opd} {caps:List PV} {args:List (Opd×AM)} {d:Nat} {T:Bool} {x:PVal} (hg:zDg F g=some T) (e:(zAh F x0).pv?=some (.one (.clo f caps))) (n:T=true→(zAh F x0).need) (h1:T=true→(zBv F args).1)
    (h2:T=true→Contract P f ((zBv F args).2++caps.map fun c=>.val (.one c)) {res:=.val x}) (h3:K (F.set d (.gd T x))):hoW P ⟨some g,.callv (some d) x0 args⟩ F K X:=by
  unfold hoW
  simp only [hg,e]
  exact ⟨fun h=>⟨n h,h1 h⟩,x,h2,h3⟩
theorem zDm {f:FuncId} {x0:Opd} {caps:List PV} {args:List (Opd×AM)} {d:Option Nat} {x:PVal} {io:List PV} (e:(zAh F x0).pv?=some (.one (.clo f caps))) (n:(zAh F x0).need) (h1:(zBv F args).1)
    (h2:Contract P f ((zBv F args).2++caps.map fun c=>.val (.one c)) {res:=.val x,io:=io}) (h3:K (zUl (zAK F (some io) args) d (.pv x))):hoW P ⟨none,.callv d x0 args⟩ F K X:=by
  show opW P (.callv d x0 args) F _ X
  simp only [opW,e]
  exact ⟨n,h1,_,h2,h3⟩
theorem yJf {p q:Prop}:(p→p∧q)=(p→q):=propext ⟨fun h a=>(h a).2,fun h a=>⟨a,h a⟩⟩
theorem yK0 (c:Ct) (F:List Ct):(c::F).getD 0 .un=c:=rfl
theorem yK1 (c:Ct) (F:List Ct) (n:Nat):(c::F).getD (n+1) .un=F.getD n .un:=by simp
theorem yK2 (c d:Ct) (F:List Ct):(c::F).set 0 d=d::F:=rfl
theorem yK3 (c d:Ct) (F:List Ct) (n:Nat):(c::F).set (n+1) d=c::F.set n d:=rfl
theorem yK4:sets F []=F:=rfl
theorem yJg {i:Nat} {c:Ct} {l:List (Nat×Ct)}:sets F ((i,c)::l)=sets (F.set i c) l:=rfl
theorem zAd {a:HCode} {α:Type} (us:α→List (Nat×Ct)) (μ:α→Nat) (inv:α→Prop) (s0:α) (h0:Le F (sets F (us s0))) (h1:inv s0)
    (hr:∀ s,inv s→hwp P a (zYk (fun F2=>∃ s',μ s' < μ s∧inv s'∧Le F2 (sets F (us s'))) Q) (sets F (us s))):hwp P (.loop a) Q F:=
  ⟨fun n F'=>∃ s,μ s=n∧inv s∧F'=sets F (us s),⟨μ s0,_,h0,s0,rfl,h1,rfl⟩,by
    rintro n F1 ⟨s,rfl,hs,rfl⟩
    have e:(fun F2=>∃ n' F',n' < μ s∧Le F2 F'∧(fun n F'=>∃ s,μ s=n∧inv s∧F'=sets F (us s)) n' F')=(fun F2=>∃ s',μ s' < μ s∧inv s'∧Le F2 (sets F (us s'))):=by
      funext F2
      apply propext
      constructor
      · rintro ⟨n',F',h2,h3,s',rfl,h4,rfl⟩
        exact ⟨s',h2,h4,h3⟩
      · rintro ⟨s',h2,h3,h4⟩
        exact ⟨_,_,h2,h4,s',rfl,h3,rfl⟩
    rw [e]
    exact hr s hs⟩
theorem zA1:Le [] []=True:=by simp [Le]
theorem zAC {c d:Ct} {F G:List Ct}:Le (c::F) (d::G)=(leC c d∧Le F G):=by
  simp only [Le,List.cons.injEq,eq_iff_iff]
  constructor
  · rintro ⟨c',cs',⟨rfl,rfl⟩,h⟩;exact h
  · exact fun h=>⟨_,_,⟨rfl,rfl⟩,h⟩
theorem zB5 {c:Ct}:leC c .un=True:=by simp [leC]
theorem zAD {c:Ct}:leC c c=True:=by simp [leC]
theorem zBm {c d:Ct} (h:c=d):leC c d:=.inr (.inl h.symm)
theorem yNg:leC (.pv (iv 0)) (.pv (iv ((0:Nat):Int)))=True:=by simp [leC]
theorem zA2 {n m:Int} (h:n=m):leC (.pv (iv n)) (.pv (iv m)):=zBm (by rw [h])
theorem zXq {e k:Nat} {r r':List (List PV)} (h:r=r'):leC (.own e k r) (.own e k r'):=zBm (by rw [h])
theorem zBK {e k k':Nat}:leC (.pv (.one (.nl k))) (.own e k' []):=.inr (.inr rfl)
theorem yQA:ghW F K []=K F:=rfl
theorem yQB {j base n:Nat} {r:List Gh}:ghW F K (.frz j base n::r)=(match zAO F base n with
    | some cs=>ghW (zAn (F.map (yHu j cs)) base (List.replicate n .un)) K r
    | none=>False):=rfl
theorem yK5 {l:List Nat} {r:List Gh}:ghW F K (.forget l::r)=ghW (zCc F l) K r:=rfl
theorem yQC:zCc F []=F:=rfl
theorem yPz {i:Nat} {r:List Nat}:zCc F (i::r)=zCc (F.set i .un) r:=rfl
theorem yQD {i:Nat}:zAn F i []=F:=rfl
theorem yPA {i:Nat} {c:Ct} {cs:List Ct}:zAn F i (c::cs)=zAn (F.set i c) (i+1) cs:=rfl
theorem yQE {d x:Nat}:hoW P ⟨none,.mvo d x⟩ F K X=(match F.getD x .un with
    | .own e k rows=>d≠x∧K ((F.set x (.pv (.one (.sl k rows)))).set d (.own e k rows))
    | _=>False):=rfl
theorem yQF {d e k:Nat}:hoW P ⟨none,.nlo d e k⟩ F K X=K (F.set d (.own e k [])):=rfl
theorem yQG {d j base off e k:Nat} {x:Opd}:hoW P ⟨none,.ldo d x j base off e k⟩ F K X=(match zAh F x,F.getD (base+off) .un with
    | .ptr j' off',.own e' k' rows=>j'=j∧off'=off∧e'=e∧k'=k∧K ((F.set (base+off) (.pv (.one (.sl k rows)))).set d (.own e k rows))
    | .ptr j' off',.pv (.one (.nl _))=>j'=j∧off'=off∧K (F.set d (.own e k []))
    | _,_=>False):=rfl
theorem yQH {j base off n:Nat} {x y:Opd}:hoW P ⟨none,.sto x j base off n y⟩ F K X=(match zAh F x,(zAh F y).pv? with
    | .ptr j' off',some p=>j'=j∧off'=off∧p.cells.length=n∧(zAh F y).need∧K (zAn F (base+off) (p.cells.map fun c=>.pv (.one c)))
    | _,_=>False):=rfl
theorem yQI {j base sz:Nat} {x y:Opd}:hoW P ⟨none,.std x j base sz y⟩ F K X=(match zAh F x,(zAh F y).pv? with
    | .ptr j' off',some p=>j'=j∧off' < sz∧p.cells.length=1∧(zAh F y).need∧K (zAn F (base+off') (p.cells.map fun c=>.pv (.one c)))
    | _,_=>False):=rfl
theorem yQJ {j base off y:Nat} {x:Opd}:hoW P ⟨none,.stw x j base off y⟩ F K X=(match zAh F x,F.getD y .un with
    | .ptr j' off',.own e k rows=>j'=j∧off'=off∧K ((F.set y (.pv (.one (.sl k rows)))).set (base+off) (.own e k rows))
    | _,_=>False):=rfl
theorem yNh {d j base:Nat} {cells:List PV}:hoW P ⟨none,.alloc d j base cells⟩ F K X=K (zAn ((F.map (zEf j)).set d (.ptr j 0)) base (cells.map fun c=>.pv (.one c))):=rfl
theorem yQK {d j base n:Nat} {x:Opd}:hoW P ⟨none,.box d j base n x⟩ F K X=(match (zAh F x).pv? with
    | some p=>p.cells.length=n∧(zAh F x).need∧K (zAn ((F.map (zEf j)).set d (.ptr j 0)) base (p.cells.map fun c=>.pv (.one c)))
    | none=>False):=rfl
theorem yQL {d j base:Nat} {cells:List PV}:hoW P ⟨none,.alo d j base cells⟩ F K X=(F.getD base .un=.una∧K (zAn (F.set d (.ptr j 0)) base (cells.map fun c=>.pv (.one c)))):=rfl
theorem yQM {d e k x:Nat} {y:Opd}:hoW P ⟨none,.app d e k (.t x) y⟩ F K X=(match F.getD x .un,(zAh F y).pv? with
    | .own e' k' rows,some (.one (.sl k'' rs))=>x≠d∧e'=e∧k'=k∧k''=k∧(zAh F y).need∧zNQ P e (rows.length+rs.length)∧K ((F.set x (.pv (.one (.sl k rows)))).set d (.own e k (rows++rs)))
    | _,_=>False):=rfl
theorem yQN {d e k:Nat} {parts:List Opd}:hoW P ⟨none,.bsl d e k parts⟩ F K X=((zDJ F k parts).1∧K (F.set d (.own e k (zDJ F k parts).2))):=rfl
theorem yQO {d e k:Nat}:hoW P ⟨none,.vnl d e k⟩ F K X=K (F.set d (.ov (.one (.os none e k [])))):=rfl
theorem yK6 {pb:Option Nat} {e k:Nat} {rows:List (List OV)}:zUm (.one (.os pb e k rows))=.hdr rows.length:=rfl
theorem yJh {cs:List OV}:zUm (.agg cs)=.un:=rfl
theorem yHz:zUm (.one .hole)=.un:=rfl
theorem yNi {x:PV}:zUm (.one (.p x))=.un:=rfl
theorem yK7 {b:Nat} {ks:List Value} {vs:List OV}:zUm (.one (.mp b ks vs))=.un:=rfl
attribute [go_sem] yK6 yJh yHz yNi yK7
theorem yQP {d x:Nat}:hoW P ⟨none,.vmv d x⟩ F K X=(match F.getD x .un with
    | .ov v=>d≠x∧K ((F.set x (zUm v)).set d (.ov v))
    | _=>False):=rfl
theorem yQQ {d e k x:Nat} {y:Opd}:hoW P ⟨none,.vap d e k x y⟩ F K X=(match F.getD x .un with
    | .ov (.one (.os _ e' k' rows))=>(∀ n,y=.t n→x≠n)∧e'=e∧k'=k∧(zUe F k y).1∧(rows.length+(zUe F k y).2.length) * 4096≤140737488355328∧K ((clr F (F.set x .un) y).set d (.ov (.one (.os none e k (rows++(zUe F k y).2)))))
    | _=>False):=rfl
theorem yQR {d off e k:Nat} {v:VOp}:hoW P ⟨none,.vow d v off e k⟩ F K X=((ev F v).1∧yOC (ev F v).2 off=true∧K (F.set d (yP6 (ev F v).2 off e k))):=rfl
theorem yQS {d f:Nat} {caps:List Opd}:hoW P ⟨none,.mkc d f caps⟩ F K X=((zLS F caps).1∧K (F.set d (.cl f (zLS F caps).2))):=rfl
theorem yNj {d:Option Nat} {x:Opd} {bxs:List (Nat×Nat×Nat)} {args:List (Opd×AM)} {f:Nat} {caps:List Cap} {cas:List CA} {io':List (List PV)} (hx:zAh F x=.cl f caps) (h1:(zBv F args).1) (hc:zQ1 F bxs caps=some cas) (h2:zEU P f (zBv F args).2 cas io') (h3:K (zUl (zFw F bxs io') d .un)):hoW P ⟨none,.clc d x bxs args⟩ F K X:=by
  show opW P (.clc d x bxs args) F K X
  simp only [opW,hx,hc]
  exact ⟨h1,io',h2,h3⟩
theorem yK8 {cs:List PV} {off e k:Nat}:yP6 (.pv (.agg cs)) off e k=.ov (.agg ((cs.take off).map .p++.os none e k []::(cs.drop (off+1)).map .p)):=rfl
theorem yPB {T:Bool} {A:Prop} {f:Nat} {caps:List Cap} {d:Nat}:gdV (some T) (A,.cl f caps) d F K=zYo T (A∧K (F.set d (.cl f caps))) (K (F.set d (.gd false (bv false)))):=rfl
attribute [go_sem] yPB yK8 yOC zLS zER
theorem yPC {d off n:Nat} {zs:List PV} {parts:List (Nat×Nat×Opd)} {y:Opd}:hoW P ⟨none,.vbe d zs parts off n y⟩ F K X=((zBk F zs parts).1∧(zBk F zs parts).2.length=zs.length∧(zJ4 F y).1∧(zJ4 F y).2.length=n∧off+n≤zs.length∧K ((clr F F y).set d (.ov (.agg (((zBk F zs parts).2.take off).map .p++(zJ4 F y).2++((zBk F zs parts).2.drop (off+n)).map .p))))):=rfl
theorem yPD {d j base n x:Nat}:hoW P ⟨none,.vby d j base n x⟩ F K X=(match F.getD x .un with
    | .ov v=>v.cells.length=n∧F.getD base .un=.una∧K (zAn ((F.set x .un).set d (.ptr j 0)) base (v.cells.map zOU))
    | _=>False):=rfl
theorem yQT {d e k x:Nat}:hoW P ⟨none,.vbs d e k x⟩ F K X=(match F.getD x .un with
    | .ov v=>v.cells.length=k∧K ((F.set x .un).set d (.ov (.one (.os none e k [v.cells]))))
    | _=>False):=rfl
theorem yQU {d:Nat}:hoW P ⟨none,.mmk d⟩ F K X=(∀ b,K (F.set d (.ov (.one (.mp b [] []))))):=rfl
theorem yQV {x:Opd} {r kk:Nat} {k y:Opd}:hoW P ⟨none,.mps x r kk k y⟩ F K X=zKr F x r kk k (fun b ks vs kv=>(∀ s,y=.t s→s≠r)∧(zUf F y).1∧match (zUf F y).2 with
    | some c=>K ((clr F F y).set r (.ov (.one (zLT b ks vs kv c))))
    | _=>False):=rfl
theorem yQW {d:Nat} {x:Opd} {r kk:Nat} {k:Opd} {z:PV} {ok:Bool}:hoW P ⟨none,.mpl d x r kk k z ok⟩ F K X=zKr F x r kk k (fun _ ks vs kv=>match yEd vs z (zHa ks kv) with
    | some v=>K (F.set d (if ok then .tup [.one v,bv (zHa ks kv).isSome] else .pv (.one v)))
    | none=>False):=rfl
theorem yPE {d e k:Nat} {zs:List PV} {x:Opd}:hoW P ⟨none,.vmk d e k zs x⟩ F K X=(match (zAh F x).pv? with
    | some (.one (.v (.int _ n)))=>(zAh F x).need∧0≤n∧n * 4096≤140737488355328∧zs.length=k∧K (F.set d (.ov (.one (.os none e k (List.replicate n.toNat (zs.map .p))))))
    | _=>False):=rfl
def yC:Option PVal→Ct
  | some p=>.pv p
  | none=>.un
theorem yNk {p:PVal}:yC (some p)=.pv p:=rfl
theorem yNl:yC none=.un:=rfl
attribute [go_sem] yNk yNl yHi
theorem yQX {d:Nat} {x:Opd} {r j base:Nat} {pt:List (Opd×Nat)} {n:Nat} {agg:Bool}:hoW P ⟨none,.vle d x r j base pt n agg⟩ F K X=atV F x r pt (fun root p b e k rows i f=>f+n≤(rows.getD i []).length∧
    K ((F.set r (.ov (.one (root.upd p (.os (some b) e k (rows.set i (yBn (rows.getD i []) f ((((rows.getD i []).drop f).take n).map OV.left)))))))).set d (.ov (yOE agg (((rows.getD i []).drop f).take n))))):=rfl
theorem yNm {d:Nat} {x:Opd} {r j base:Nat} {pt:List (Opd×Nat)} {n:Nat} {agg:Bool}:hoW P ⟨none,.vlp d x r j base pt n agg⟩ F K X=atV F x r pt (fun _ _ _ _ _ rows i f=>f+n≤(rows.getD i []).length∧match yHi (((rows.getD i []).drop f).take n) with
    | some ps=>K (F.set d (.pv (if agg then .agg ps else .one (ps.headD (.nl 0)))))
    | none=>False):=rfl
theorem yNn {x:Opd} {r j base:Nat} {pt:List (Opd×Nat)} {n:Nat} {y:Opd}:hoW P ⟨none,.vse x r j base pt n y⟩ F K X=atV F x r pt (fun root p b e k rows i f=>(∀ s,y=.t s→s≠r)∧(zJ4 F y).1∧(zJ4 F y).2.length=n∧f+n≤(rows.getD i []).length∧
    K ((clr F F y).set r (.ov (.one (root.upd p (.os (some b) e k (rows.set i (yBn (rows.getD i []) f (zJ4 F y).2)))))))):=rfl
theorem yNo {f:FuncId} {args:List (Opd×AM)} {d:Option Nat} {v:OVal} {io:List PV} (h1:(zBv F args).1) (h2:Contract P f (zBv F args).2 {res:=.ov v,io:=io}) (h3:K (zUl (zAK F (some io) args) d (.ov v))):hoW P ⟨none,.call d f args⟩ F K X:=
  ⟨h1,_,h2,h3⟩
theorem yQY {s j base:Nat} {pt:List (Opd×Nat)} {r:List Gh}:ghW F K (.pin s j base pt::r)=(match F.getD s .un with
    | .ov (.one root)=>match root.get (zCZ F pt).2 with
      | some (.os none e k rows)=>(zCZ F pt).1∧∀ b,ghW (F.set s (.ov (.one (root.upd (zCZ F pt).2 (.os (some b) e k rows))))) K r
      | _=>False
    | _=>False):=rfl
theorem yQZ {s j base:Nat} {pt:List (Opd×Nat)} {r:List Gh}:ghW F K (.unp s j base pt::r)=(match F.getD s .un with
    | .ov (.one root)=>match root.get (zCZ F pt).2 with
      | some (.os _ e k rows)=>(zCZ F pt).1∧ghW (F.set s (.ov (.one (root.upd (zCZ F pt).2 (.os none e k rows))))) K r
      | _=>False
    | _=>False):=rfl
theorem yQ0 {s j base:Nat} {r:List Gh}:ghW F K (.vfr s j base::r)=(match F.getD s .un with
    | .ov (.one root)=>match root.frz with
      | some x=>ghW (F.set s (.pv (.one x))) K r
      | none=>False
    | .ov (.agg cs)=>match zXg cs with
      | some xs=>ghW (F.set s (.pv (.agg xs))) K r
      | none=>False
    | _=>False):=rfl
theorem yQ1 {s j base:Nat} {pt:List (Opd×Nat)} {r:List Gh}:ghW F K (.vfp s j base pt::r)=(match F.getD s .un with
    | .ov (.one root)=>match root.get (zCZ F pt).2 with
      | some y=>match y.frz with
        | some x=>(zCZ F pt).1∧ghW (F.set s (.ov (.one (root.upd (zCZ F pt).2 (.p x))))) K r
        | none=>False
      | none=>False
    | _=>False):=rfl
theorem yQ2 {s:Nat} {r:List Gh}:ghW F K (.vfm s::r)=(match F.getD s .un with
    | .ov (.one (.mp b ks vs))=>match zXg vs with
      | some xs=>ghW (F.set s (.ov (.one (.mp b ks (xs.map .p))))) K r
      | none=>False
    | _=>False):=rfl
theorem yMd {x:Opd} {r kk:Nat} {k:Opd} {KK:Nat→List Value→List OV→Value→Prop} {b:Nat} {ks:List Value} {vs:List OV} {p:PVal} {kv:Value} (e1:zLU F x=some b) (e2:F.getD r .un=.ov (.one (.mp b ks vs))) (e3:(zAh F k).pv?=some p) (e4:yHk p.norm=some kv) (hn:(zAh F k).need) (h1:zOV kv=kk) (h2:∀ q∈ks,zOV q=kk) (h:KK b ks vs kv):zKr F x r kk k KK:=by
  unfold zKr
  simp only [e1,e2,e3,e4]
  exact ⟨trivial,hn,h1,h2,h⟩
theorem yQ3 {d:Nat} {x:Opd} {r b:Nat} {ks:List Value} {vs:List OV} (e1:zLU F x=some b) (e2:F.getD r .un=.ov (.one (.mp b ks vs))) (h:K (F.set d (.ov (.one (.it b ks.length []))))):hoW P ⟨none,.mrg d x r⟩ F K X:=by
  show opW P (.mrg d x r) F K X
  simp only [opW,e1,e2]
  exact ⟨trivial,h⟩
theorem yQ4 {d it r b n:Nat} {seen:List Nat} {ks:List Value} {vs:List OV} {ys:List PV} (e1:F.getD it .un=.ov (.one (.it b n seen))) (e2:F.getD r .un=.ov (.one (.mp b ks vs))) (e3:zHv vs=some ys) (hn:n=ks.length) (h1:d≠it) (h2:it≠r)
    (h3:(∀ i,i < n→i∈seen)→K (F.set d (.tup [bv false]))) (h4:∀ i,i < n→i∉seen→K ((F.set it (.ov (.one (.it b n (seen++[i]))))).set d (.tup [bv true,yHj (ks.getD i .nilIface),.one (ys.getD i (.nl 0))]))):hoW P ⟨none,.mnx d it r⟩ F K X:=by
  show opW P (.mnx d it r) F K X
  simp only [opW,e1,e2,e3]
  exact ⟨trivial,hn,h1,h2,h3,h4⟩
theorem yQ5 {d it r b n i:Nat} {seen:List Nat} {ks:List Value} {vs:List OV} {ys:List PV} (e1:F.getD it .un=.ov (.one (.it b n (seen++[i])))) (e2:F.getD r .un=.ov (.one (.mp b ks vs))) (e3:zHv vs=some ys) (hn:n=ks.length)
    (h:K (F.set d (.tup [yHj (ks.getD i .nilIface),.one (ys.getD i (.nl 0))]))):hoW P ⟨none,.men d it r⟩ F K X:=by
  show opW P (.men d it r) F K X
  simp only [opW,e1,e2,e3,List.getLast?_concat]
  exact ⟨trivial,hn,h⟩
theorem yPF {d:Option Nat} {e k r:Nat} {x y:Opd} {b i n1 n2:Nat} {rows:List (List OV)} (e1:zAh F x=.hds b k (i+1) n1) (e2:zAh F y=.hds b k i n2) (e3:F.getD r .un=.ov (.one (.os (some b) e k rows))) (hi:i < rows.length) (h2:n2=rows.length-i) (h1:n1=rows.length-i-1) (hd:d≠some r) (h:K (zUl (F.set r (.ov (.one (.os (some b) e k (zC7 i rows))))) d .un)):hoW P ⟨none,.cpy d e k r x y⟩ F K X:=by
  show opW P (.cpy d e k r x y) F K X
  simp only [opW,e1,e2,e3]
  exact ⟨trivial,trivial,trivial,trivial,trivial,trivial,trivial,hi,h2,h1,hd,h⟩
theorem yPG {d:Option Nat} {f r:Nat} {x:Opd} {args:List (Opd×AM)} {b k0 e k:Nat} {rows rows':List (List OV)} (e1:zAh F x=.hdp b k0 rows.length) (e2:F.getD r .un=.ov (.one (.os (some b) e k rows))) (hne:rows≠[]) (hd:d≠some r) (h1:(zBv F args).1) (h2:zQ0 P f e k rows (zBv F args).2 rows') (h:K (zUl (F.set r (.ov (.one (.os (some b) e k rows')))) d .un)):hoW P ⟨none,.cals d f r x args⟩ F K X:=by
  show opW P (.cals d f r x args) F K X
  simp only [opW,e1,e2]
  exact ⟨trivial,trivial,hne,hd,h1,rows',h2,h⟩
theorem yQ6:zCZ F []=(True,[]):=rfl
theorem yNp {x:OV}:x.get []=some x:=by cases x<;>rfl
theorem yNq {x y:OV}:x.upd [] y=y:=by cases x<;>rfl
theorem yBE {b:Option Nat} {e k:Nat} {rows:List (List OV)} {rs:List (List PV)} (h:zDO rows=some rs):(OV.os b e k rows).frz=some (.sl k rs):=by simp only [OV.frz,h]
theorem yGH:∀ (r:List PV),zXg (r.map OV.p)=some r
  | []=>rfl
  | x::r=>by simp only [List.map_cons,zXg,OV.frz,yGH r]
theorem zIa:∀ (rows:List (List PV)),zDO (rows.map fun r=>r.map OV.p)=some rows
  | []=>rfl
  | r::rows=>by simp only [List.map_cons,zDO,yGH,zIa rows]
theorem yQ7 {x:Opd}:hoW P ⟨none,.pan x⟩ F K X=(match (zAh F x).pv? with
    | some (.one (.v (.iface t u)))=>(zAh F x).need∧X (.iface t u) F
    | _=>False):=rfl
section
variable {E:Env} {base:Nat} {av:List AV} {t:Nat} {x:PVal}
theorem zAb {p:PVal} (e:(zAh F (.t t)).pv?=some p) (n:(zAh F (.t t)).need) (h:x=p∨x=p.norm) (hio:ioOf av=none:=by rfl):yHx E base av [.tmp t] {res:=.val x} .ret F:=by
  refine ⟨?_,fun cs h=>by rw [hio] at h;cases h⟩
  simp only [zKa,rsV,e]
  exact ⟨n,h⟩
theorem zF0 {e k:Nat} {rows:List (List PV)} (h:F.getD t .un=.own e k rows) (hio:ioOf av=none:=by rfl):yHx E base av [.tmp t] {res:=.own e k rows} .ret F:=
  ⟨h,fun cs h=>by rw [hio] at h;cases h⟩
theorem yPH {v:OVal} (h:F.getD t .un=.ov v) (hio:ioOf av=none:=by rfl):yHx E base av [.tmp t] {res:=.ov v} .ret F:=
  ⟨h,fun cs h=>by rw [hio] at h;cases h⟩
theorem zYp {cells io:List PV} (hio:ioOf av=some cells) (hc:zAO F base cells.length=some io):yHx E base av [] {res:=.tup [],io:=io} .ret F:=
  ⟨rfl,fun cs h=>by rw [hio] at h;injection h with h;subst h;exact hc⟩
theorem zBd {rs:List RSrc} {xs:List PVal} (hn:∀ r,rs≠[r]) (h:yEr F rs xs) (hio:ioOf av=none:=by rfl):yHx E base av rs {res:=.tup xs} .ret F:=by
  refine ⟨?_,fun cs h=>by rw [hio] at h;cases h⟩
  simp only [zKa]
  first
    | exact h
    | (split
       · rename_i r;exact (hn r rfl).elim
       · exact h)
theorem yHA {j bs off n:Nat} {agg:Bool} {cs:List PV} (e:F.getD t .un=.ptr j off) (h:zAO F (bs+off) n=some cs) (hx:x=(if agg then PVal.agg cs else .one (cs.headD (.nl 0)))∨x=(if agg then PVal.agg cs else .one (cs.headD (.nl 0))).norm) (hio:ioOf av=none:=by rfl):yHx E base av [.cellB t j bs off n agg] {res:=.val x} .ret F:=by
  refine ⟨?_,fun cs h=>by rw [hio] at h;cases h⟩
  simp only [zKa,rsV,e,h]
  exact ⟨trivial,trivial,hx⟩
theorem zRt {j bs off n:Nat} {agg:Bool} {cs:List PV} (e:F.getD t .un=.ptr j off) (h:zAO F (bs+off) n=some cs) (hx:x=if agg then .agg cs else .one (cs.headD (.nl 0))) (hio:ioOf av=none:=by rfl):yHx E base av [.cellB t j bs off n agg] {res:=.val x} .ret F:=yHA e h (.inl hx) hio
theorem zAH {p:PVal} (e:(zAh F (.t t)).pv?=some p) (n:(zAh F (.t t)).need) (h:x=p∨x=p.norm):rsV F (.tmp t) x:=by
  simp only [rsV,e];exact ⟨n,h⟩
theorem zQH {j bs off n:Nat} {agg:Bool} {cs:List PV} (e:F.getD t .un=.ptr j off) (h:zAO F (bs+off) n=some cs) (hx:x=(if agg then PVal.agg cs else .one (cs.headD (.nl 0)))∨x=(if agg then PVal.agg cs else .one (cs.headD (.nl 0))).norm):rsV F (.cellB t j bs off n agg) x:=by
  simp only [rsV,e,h];exact ⟨trivial,trivial,hx⟩
end
end
attribute [go_sem ↓] yQR yQS yPC yPD yMU yMV yQt yQu yQv yQw yPq yPr yPd yQg yQh yPe yPf yQi yQj yPg yPh yMS yRC yQk yPi yPj yRD yRE yQl yQm yQn yQo yQp yQr yMT yPl yQs yMW yMX yMY yMZ yPm yPn yPo yPp yQO yQP yQQ yPE yQT yQY yQZ yQ0 yQ1 yQx yM9 yEt yQE yQF yQG yQH yQI yQJ yNh yQK yQL yQM yQN yQ7 yQy yQz yNf yQA yK5 yQB
attribute [go_sem] yOf implies_true and_self yJf Bool.not_eq_true' Bool.not_eq_false' Bool.not_not decide_eq_true_eq decide_eq_false_iff_not Nat.not_lt Int.not_lt Int.not_le gt_iff_lt ge_iff_le yNg yQ6 yNp yNq OVal.cells zOU yBs zNP yOD yBt yOE zJ4 zUe clr yK0 yK1 yK2 yK3 ev zAh Ct.pv? Ct.need zUj zXY true_and and_true zDg yKt yKP yQq yPk List.cons_append List.nil_append yQC yPz yQD yPA yK4 yJg zBU zDJ zBk zKo PVal.cells PVal.norm PV.norm zAO zLO zBv zEf yHu zUl zAK zDP zBc zH2 zEe zCH if_true if_false Bool.false_eq_true imp_self forall_const List.map_cons List.map_nil List.length_cons List.length_nil Nat.zero_add ite_true ite_false List.take_succ_cons List.take_zero List.drop_zero List.drop_succ_cons List.headD_cons Nat.le_refl beq_true beq_false cond_true cond_false Bool.and_true Bool.true_and Bool.and_false Bool.false_and Int.toNat_natCast ne_eq not_false_eq_true not_true_eq_false List.getElem?_cons_zero List.getElem?_cons_succ zLP List.replicate bad
end Go.Hx
end

section
/-
 Documents as plain Lean data, and what the walks say of them. No condition.
-/
namespace Go.Hx
variable [Glob]
theorem Contract.av {P:Go.Program} {f:Nat} {av av':List AV} {r:RV} (h:Contract P f av r) (e:av'=av):Contract P f av' r:=e▸h
abbrev Bys:=List UInt8
structure Nd where
 up:Int
 tag:Bys
 id:Bys
 cls:List Bys
 att:List (Bys×Bys)
 deriving DecidableEq,Inhabited
abbrev bI (n:Int):PV:=.v (.int .i64 n)
abbrev bS (l:Bys):PV:=.v (mkS l)
abbrev bB (b:Bool):PV:=.v (.bool b)
def zUg (l:List Bys):List (List PV):=l.map fun c=>[bS c]
def yGI (l:List (Bys×Bys)):List (List PV):=l.map fun a=>[bS a.1,bS a.2]
def ndV (x:Nd):List PV:=[bI x.up,bS x.tag,bS x.id,.sl 1 (zUg x.cls),.sl 2 (yGI x.att)]
def zNI (d:List Nd):List (List PV):=d.map ndV
def zC9 (d:List Nd):PVal:=.agg [.sl 5 (zNI d)]
def zAy (l:List Int):List (List PV):=l.map fun n=>[bI n]
theorem zAl (d:List Bys):(zUg d).length=d.length:=by simp [zUg]
theorem zAj (d:List (Bys×Bys)):(yGI d).length=d.length:=by simp [yGI]
theorem zAk (d:List Nd):(zNI d).length=d.length:=by simp [zNI]
theorem zAf (d:List Int):(zAy d).length=d.length:=by simp [zAy]
theorem zFE (d:List Bys) (i:Nat) (h:i < d.length):(zUg d).getD i []=[bS (d.getD i [])]:=by simp [zUg,h]
theorem zEz (d:List (Bys×Bys)) (i:Nat) (h:i < d.length):(yGI d).getD i []=[bS (d.getD i default).1,bS (d.getD i default).2]:=by simp [yGI,h]
theorem zAW (d:List Nd) (i:Nat) (h:i < d.length):(zNI d).getD i []=ndV (d.getD i default):=by simp [zNI,h]
theorem zCO (d:List Int) (i:Nat) (h:i < d.length):(zAy d).getD i []=[bI (d.getD i 0)]:=by simp [zAy,h]
theorem zGu {n:Int} (h1:-9223372036854775808≤n) (h2:n≤9223372036854775807):inR .i64 n:=⟨h1,h2⟩
theorem zAt {p q:Prop} (hq:q) (hp:p:=by (first|omega|exact zGu (by omega) (by omega)|exact fun _=>zGu (by omega) (by omega)|((with_reducible refine yOF ?_);first|omega|(simp_all;done)|(simp_all;omega)|grind)|assumption|trivial|(intros;omega)|(intro s h;injection h with h;subst h;decide)|(simp_all;done)|(intros;simp [*];done)|(simp_all;omega)|grind)):p∧q:=⟨hp,hq⟩
theorem zHi {α:Type} {p:α→Bool} {l:List α} {i:Nat} {d:α} (h:i < l.length):(l.take (i+1)).all p=((l.take i).all p&&p (l.getD i d)):=by
 rw [List.take_add_one,List.all_append]
 simp [h]
theorem zA4 {n m:Bool} (h:n=m):leC (.pv (bv n)) (.pv (bv m)):=zBm (by rw [h])
theorem yBF {α:Type} {a b:List α} {i:Nat} (d:α) (h:a.take i=b.take i) (ha:i < a.length) (hb:i < b.length) (e:a.getD i d=b.getD i d):a.take (i+1)=b.take (i+1):=by
 rw [List.take_succ_eq_append_getElem ha,List.take_succ_eq_append_getElem hb,h]
 simp [ha,hb] at e
 rw [e]
theorem yHB {α:Type} {a b:List α} {i:Nat} (d:α) (e:a.getD i d≠b.getD i d):a≠b:=fun h=>e (by rw [h])
theorem yHC {α:Type} {a b:List α} (hl:a.length=b.length) (h:a.take a.length=b.take a.length):a=b:=by
 rw [List.take_length,hl,List.take_length] at h;exact h
theorem zDn {k:Nat} {rows:List (List PV)} (h:PV.fits (.sl k rows)):rows.length≤9223372036854775807:=by
 simp only [PV.fits,maxLen] at h;omega
def zO1 (c:UInt8):Bool:=decide (97≤c.toNat∧c.toNat≤122)||decide (48≤c.toNat∧c.toNat≤57)||decide (c.toNat=45)
def yHD (c:UInt8):Bool:=decide (32≤c.toNat∧c.toNat≤126)&&!decide (c.toNat=34)
def zBC (s:Bys):Bool:=decide (1≤s.length∧s.length≤12)&&decide (97≤(s.getD 0 0).toNat∧(s.getD 0 0).toNat≤122)&&s.all zO1
def zCq (s:Bys):Bool:=decide (s.length≤16)&&s.all yHD
def cOk (l:List Bys) (k:Nat):Bool:=zBC (l.getD k [])&&(decide (k=0)||Op.bytesLess (l.getD (k-1) []) (l.getD k []))
def okC (l:List Bys) (i:Nat):Bool:=(List.range i).all (cOk l)
def aOk (l:List (Bys×Bys)) (k:Nat):Bool:=zBC (l.getD k default).1&&zCq (l.getD k default).2&&(decide (k=0)||Op.bytesLess (l.getD (k-1) default).1 (l.getD k default).1)
def okA (l:List (Bys×Bys)) (i:Nat):Bool:=(List.range i).all (aOk l)
def zBo (x:Nd):Bool:=zBC x.tag&&(x.id==[]||zBC x.id)&&decide (x.cls.length≤6)&&decide (x.att.length≤4)&&okC x.cls x.cls.length&&okA x.att x.att.length
theorem zCP {p:Nat→Bool} {i:Nat}:(List.range (i+1)).all p=((List.range i).all p&&p i):=by
 rw [List.range_succ,List.all_append];simp
theorem zAF {p:Nat→Bool} {n i:Nat} (h:(List.range n).all p=true) (hi:i < n):p i=true:=by
 rw [List.all_eq_true] at h
 exact h i (List.mem_range.2 hi)
theorem yBG {p:Nat→Bool} {n i:Nat} (h:(List.range n).all p=true) (hi:i≤n):(List.range i).all p=true:=by
 rw [List.all_eq_true] at *
 exact fun x hx=>h x (List.mem_range.2 (Nat.lt_of_lt_of_le (List.mem_range.1 hx) hi))
def zAX (d:List Nd) (i:Nat):Int:=(d.getD i default).up
def zA5 (d:List Nd):Nat→Int→List Int
 |0,_=>[]
 |f+1,k=>if k < 0 then [] else k::zA5 d f (zAX d k.toNat)
def yJi (d:List Nd) (i:Nat):Bool:=if i=0 then decide (zAX d 0=-1) else (zA5 d i ((i:Int)-1)).contains (zAX d i)
def yBj (d:List Nd) (i:Nat):Bool:=zBo (d.getD i default)&&yJi d i
def zCd (d:List Nd) (n:Nat):Bool:=(List.range n).all (yBj d)
def zAq (d:List Nd):Int:=if 1≤d.length∧d.length≤64 then (if zCd d d.length then 0 else 1) else 2
theorem zDS {d:List Nd}:∀ (f:Nat) (k:Int),(∀ j:Nat,(j:Int)≤k→zAX d j < j)→∀ x∈zA5 d f k,0≤x∧x≤k
 |0,k,_,x,hx=>by simp [zA5] at hx
 |f+1,k,h,x,hx=>by
  simp only [zA5] at hx
  split at hx
  ·cases hx
  ·rename_i hk
   rcases List.mem_cons.1 hx with rfl|hx
   ·omega
   ·have h1:=h k.toNat (by omega)
    have:=zDS f (zAX d k.toNat) (fun j hj=>h j (by omega)) x hx
    omega
theorem zBb {d:List Nd}:∀ {n:Nat},zCd d n=true→∀ j,j < n→-1≤zAX d j∧zAX d j < j
 |0,_,j,hj=>by omega
 |n+1,h,j,hj=>by
  have h0:zCd d n=true:=yBG h (Nat.le_succ n)
  by_cases hjn:j < n
  ·exact zBb h0 j hjn
  ·have e:j=n:=by omega
   subst e
   have h1:=zAF h (Nat.lt_succ_self j)
   simp only [yBj,yJi,Bool.and_eq_true] at h1
   split at h1
   ·rename_i e;subst e;simp at h1;omega
   ·have h2:zAX d j∈zA5 d j ((j:Int)-1):=by simpa using h1.2
    have:=zDS j ((j:Int)-1) (fun k hk=>(zBb h0 k (by omega)).2) _ h2
    omega
theorem zEO {d:List Nd}:∀ (f g:Nat) (k:Int),(∀ j:Nat,(j:Int)≤k→zAX d j < j)→k < f→k < g→zA5 d f k=zA5 d g k
 |0,g,k,_,h1,_=>by
  have:k < 0:=by omega
  cases g<;>simp [zA5,this]
 |f+1,0,k,_,_,h2=>by
  have:k < 0:=by omega
  simp [zA5,this]
 |f+1,g+1,k,h,h1,h2=>by
  simp only [zA5]
  split
  ·rfl
  ·rename_i hk
   have h3:=h k.toNat (by omega)
   rw [zEO f g (zAX d k.toNat) (fun j hj=>h j (by omega)) (by omega) (by omega)]
end Go.Hx
end

section
set_option maxRecDepth 100000
namespace Go.Hx
variable [Glob]
def Wr (q:Prop):Prop:=q
theorem wrId {q:Prop}:Wr q→q:=id
theorem sAndI {p q r:Prop} (hq:r→q) (hp:p:=by (first|omega|exact zGu (by omega) (by omega)|exact fun _=>zGu (by omega) (by omega)|((with_reducible refine yOF ?_);first|omega|(simp_all;done)|(simp_all;omega)|grind)|assumption|trivial|(intros;omega)|(intro s h;injection h with h;subst h;decide)|(simp_all;done)|(intros;simp [*];done)|(simp_all;omega)|grind)):r→p∧q:=fun h=>⟨hp,hq h⟩
theorem goW {p q:Prop} (h:q) (e:Wr q→p:=by ((try simp (maxSteps:=2000000) only [go_sem,reduceCtorEq,Nat.reduceAdd,Nat.reduceEqDiff,reduceIte,Nat.reduceLeDiff,Nat.reduceLT,Nat.reduceSub]);(repeat (with_reducible refine sAndI ?_));exact wrId)):p:=e h
theorem goU {p q:Prop} (h:q) (e:Wr q→p:=by (simp (maxSteps:=2000000) only [zUp,List.set_cons_succ,List.set_cons_zero,List.map_cons,List.map_nil,zNV,zAn,ioOf,List.length_cons,List.length_nil,Nat.reduceAdd,Nat.reduceSub,List.replicate,List.cons_append,List.nil_append];(try simp (maxSteps:=2000000) only [go_sem,reduceCtorEq,Nat.reduceAdd,Nat.reduceEqDiff,reduceIte,Nat.reduceLeDiff,Nat.reduceLT,Nat.reduceSub]);(repeat (with_reducible refine sAndI ?_));exact wrId)):p:=e h
theorem leA {p:Prop} (h:p:=by (simp (maxSteps:=2000000) only [go_sem,reduceCtorEq,Nat.reduceAdd,Nat.reduceEqDiff,reduceIte,Nat.reduceLeDiff,Nat.reduceLT,Nat.reduceSub,zAC,zA1,zB5,zAD];all_goals (repeat' (first|exact trivial|exact zA2 (by omega)|exact zA4 rfl|exact zBm rfl|exact zBK|exact le_refl _|refine And.intro ?_ ?_)))):p:=h
end Go.Hx
end

section
/-
 The index of a document: the entries in their order, each with its elements. Plain Lean. No condition.
-/
set_option maxRecDepth 100000
set_option linter.unusedSimpArgs false
namespace Go.Hx
abbrev Key:=Int×Bys
structure Ent where
 kind:Int
 name:Bys
 nodes:List Int
 deriving DecidableEq,Inhabited
def Ent.key (e:Ent):Key:=(e.kind,e.name)
theorem Ent.ext' {a b:Ent} (h:a.key=b.key) (h2:a.nodes=b.nodes):a=b:=by
 obtain ⟨k,n,l⟩:=a
 obtain ⟨k',n',l'⟩:=b
 simp only [Ent.key,Prod.mk.injEq] at h h2
 obtain ⟨rfl,rfl⟩:=h
 subst h2;rfl
def zAx (a b:Key):Bool:=if a.1=b.1 then Op.bytesLess a.2 b.2 else decide (a.1 < b.1)
theorem zIb:∀ x:Bys,Op.bytesLess x x=false
 |[]=>rfl
 |a::x=>by
  rw [Op.bytesLess,zIb x]
  simp
theorem zRu:∀ x y:Bys,Op.bytesLess x y=false→Op.bytesLess y x=false→x=y
 |[],[],_,_=>rfl
 |[],b::y,h,_=>by simp [Op.bytesLess] at h
 |a::x,[],_,h=>by simp [Op.bytesLess] at h
 |a::x,b::y,h,g=>by
  rw [Op.bytesLess] at h g
  simp only [Bool.or_eq_false_iff,decide_eq_false_iff_not,Bool.and_eq_false_iff,beq_eq_false_iff_ne] at h g
  have e:a=b:=by
   have h1:=h.1;have g1:=g.1
   apply UInt8.toNat_inj.1
   rw [UInt8.lt_iff_toNat_lt] at h1 g1
   omega
  subst e
  have h2:Op.bytesLess x y=false:=h.2.resolve_left (fun h=>h rfl)
  have g2:Op.bytesLess y x=false:=g.2.resolve_left (fun h=>h rfl)
  rw [zRu x y h2 g2]
theorem zKu:∀ x y z:Bys,Op.bytesLess x y=true→Op.bytesLess y z=true→Op.bytesLess x z=true
 |x,[],z,h,_=>by cases x<;>simp [Op.bytesLess] at h
 |x,b::y,[],_,h=>by simp [Op.bytesLess] at h
 |[],b::y,c::z,_,_=>by simp [Op.bytesLess]
 |a::x,b::y,c::z,h,g=>by
  rw [Op.bytesLess] at h g ⊢
  simp only [Bool.or_eq_true,decide_eq_true_eq,Bool.and_eq_true,beq_iff_eq] at h g ⊢
  rw [UInt8.lt_iff_toNat_lt] at h g ⊢
  rcases h with h|⟨rfl,h⟩
  ·rcases g with g|⟨rfl,g⟩
   ·exact .inl (by omega)
   ·exact .inl h
  ·rcases g with g|⟨rfl,g⟩
   ·exact .inl g
   ·exact .inr ⟨rfl,zKu x y z h g⟩
theorem zBe (k:Key):zAx k k=false:=by unfold zAx;rw [if_pos rfl,zIb]
theorem zHj {a b:Key} (h:zAx a b=false) (g:zAx b a=false):a=b:=by
 unfold zAx at h g
 by_cases e:a.1=b.1
 ·rw [if_pos e] at h
  rw [if_pos e.symm] at g
  exact Prod.ext e (zRu _ _ h g)
 ·rw [if_neg e] at h
  rw [if_neg (fun h=>e h.symm)] at g
  simp only [decide_eq_false_iff_not] at h g
  omega
theorem zDo {a b c:Key} (h:zAx a b=true) (g:zAx b c=true):zAx a c=true:=by
 unfold zAx at h g ⊢
 by_cases e:a.1=b.1
 ·rw [if_pos e] at h
  by_cases e2:b.1=c.1
  ·rw [if_pos e2] at g
   rw [if_pos (e.trans e2)]
   exact zKu _ _ _ h g
  ·rw [if_neg e2] at g
   rw [if_neg (by omega)]
   simp only [decide_eq_true_eq] at g ⊢
   omega
 ·rw [if_neg e] at h
  simp only [decide_eq_true_eq] at h
  by_cases e2:b.1=c.1
  ·rw [if_neg (by omega)]
   simp only [decide_eq_true_eq];omega
  ·rw [if_neg e2] at g
   simp only [decide_eq_true_eq] at g
   rw [if_neg (by omega)]
   simp only [decide_eq_true_eq];omega
theorem zHk {a b:Key} (h:zAx a b=true):zAx b a=false:=by
 cases g:zAx b a with
 |false=>rfl
 |true=>have:=zDo h g;rw [zBe] at this;cases this
def zKb (l:List Ent):Prop:=l.Pairwise fun a b=>zAx a.key b.key=true
theorem zXr:∀ {a b:List Ent},zKb a→zKb b→(∀ e,e∈a↔e∈b)→a=b
 |[],[],_,_,_=>rfl
 |[],y::r,_,_,h=>by have:=(h y).2 List.mem_cons_self;cases this
 |x::r,[],_,_,h=>by have:=(h x).1 List.mem_cons_self;cases this
 |x::r,y::s,ha,hb,h=>by
  obtain ⟨a1,a2⟩:=List.pairwise_cons.1 ha
  obtain ⟨b1,b2⟩:=List.pairwise_cons.1 hb
  have e:x=y:=by
   rcases List.mem_cons.1 ((h x).1 List.mem_cons_self) with e|hx
   ·exact e
   ·rcases List.mem_cons.1 ((h y).2 List.mem_cons_self) with e|hy
    ·exact e.symm
    ·have h1:=b1 x hx
     have h2:=a1 y hy
     rw [zHk h1] at h2;cases h2
  subst e
  have hm:∀ e,e∈r↔e∈s:=fun e=>by
   constructor
   ·intro he
    rcases List.mem_cons.1 ((h e).1 (List.mem_cons_of_mem _ he)) with rfl|h1
    ·have:=a1 e he;rw [zBe] at this;cases this
    ·exact h1
   ·intro he
    rcases List.mem_cons.1 ((h e).2 (List.mem_cons_of_mem _ he)) with rfl|h1
    ·have:=b1 e he;rw [zBe] at this;cases this
    ·exact h1
  rw [zXr a2 b2 hm]
def zPx:List Ent→Key→Int→List Ent
 |[],k,n=>[⟨k.1,k.2,[n]⟩]
 |e::r,k,n=>if zAx e.key k then e::zPx r k n else if zAx k e.key then ⟨k.1,k.2,[n]⟩::e::r else ⟨e.kind,e.name,e.nodes++[n]⟩::r
def atK (l:List Ent) (k:Key):List Int:=((l.find? fun e=>decide (e.key=k)).map (·.nodes)).getD []
theorem zYq:∀ (l:List Ent) (k:Key) (n:Int),zKb l→∀ e,e∈zPx l k n↔(e∈l∧e.key≠k)∨(e.key=k∧e.nodes=atK l k++[n])
 |[],k,n,_,e=>by
  simp only [zPx,List.mem_singleton,List.not_mem_nil,false_and,false_or,atK,List.find?_nil,Option.map_none,Option.getD_none,List.nil_append]
  constructor
  ·rintro rfl;exact ⟨rfl,rfl⟩
  ·rintro ⟨h1,h2⟩;exact Ent.ext' h1 h2
 |x::r,k,n,hs,e=>by
  obtain ⟨s1,s2⟩:=List.pairwise_cons.1 hs
  simp only [zPx]
  by_cases h1:zAx x.key k=true
  ·rw [if_pos h1]
   have hne:x.key≠k:=by rintro rfl;rw [zBe] at h1;cases h1
   have ha:atK (x::r) k=atK r k:=by unfold atK;rw [List.find?_cons_of_neg (by simpa using hne)]
   rw [List.mem_cons,zYq r k n s2 e,ha,List.mem_cons]
   constructor
   ·rintro (rfl|⟨h,g⟩|h)
    ·exact .inl ⟨.inl rfl,hne⟩
    ·exact .inl ⟨.inr h,g⟩
    ·exact .inr h
   ·rintro (⟨rfl|h,g⟩|h)
    ·exact .inl rfl
    ·exact .inr (.inl ⟨h,g⟩)
    ·exact .inr (.inr h)
  ·have h1:zAx x.key k=false:=eq_false_of_ne_true h1
   rw [if_neg (by rw [h1];decide)]
   by_cases h2:zAx k x.key=true
   ·rw [if_pos h2]
    have hne:∀ y∈x::r,y.key≠k:=fun y hy=>by
     rcases List.mem_cons.1 hy with rfl|hy
     ·rintro rfl;rw [zBe] at h2;cases h2
     ·rintro rfl
      have:=zDo h2 (s1 y hy)
      rw [zBe] at this;cases this
    have ha:atK (x::r) k=[]:=by
     unfold atK
     rw [List.find?_eq_none.2 (fun y hy=>by simpa using hne y hy)];rfl
    rw [List.mem_cons,ha,List.nil_append]
    constructor
    ·rintro (rfl|h)
     ·exact .inr ⟨rfl,rfl⟩
     ·exact .inl ⟨h,hne e h⟩
    ·rintro (⟨h,_⟩|⟨h,g⟩)
     ·exact .inr h
     ·exact .inl (Ent.ext' h g)
   ·have h2:zAx k x.key=false:=eq_false_of_ne_true h2
    rw [if_neg (by rw [h2];decide)]
    have he:=zHj h1 h2
    have ha:atK (x::r) k=x.nodes:=by unfold atK;rw [List.find?_cons_of_pos (by simpa using he)];rfl
    have hne:∀ y∈r,y.key≠k:=fun y hy=>by
     rintro rfl
     have:=s1 y hy
     rw [he,zBe] at this;cases this
    rw [List.mem_cons,ha,List.mem_cons]
    constructor
    ·rintro (rfl|h)
     ·exact .inr ⟨he,rfl⟩
     ·exact .inl ⟨.inr h,hne e h⟩
    ·rintro (⟨rfl|h,g⟩|⟨h,g⟩)
     ·exact absurd he g
     ·exact .inr h
     ·exact .inl (Ent.ext' (h.trans he.symm) g)
theorem zRv:∀ (l:List Ent) (k:Key) (n:Int),zKb l→zKb (zPx l k n)
 |[],k,n,_=>List.pairwise_singleton _ _
 |x::r,k,n,hs=>by
  obtain ⟨s1,s2⟩:=List.pairwise_cons.1 hs
  simp only [zPx]
  by_cases h1:zAx x.key k=true
  ·rw [if_pos h1]
   refine List.pairwise_cons.2 ⟨fun y hy=>?_,zRv r k n s2⟩
   rcases (zYq r k n s2 y).1 hy with ⟨h,_⟩|⟨h,_⟩
   ·exact s1 y h
   ·rw [h];exact h1
  ·have h1:zAx x.key k=false:=eq_false_of_ne_true h1
   rw [if_neg (by rw [h1];decide)]
   by_cases h2:zAx k x.key=true
   ·rw [if_pos h2]
    refine List.pairwise_cons.2 ⟨fun y hy=>?_,hs⟩
    rcases List.mem_cons.1 hy with rfl|hy
    ·exact h2
    ·exact zDo h2 (s1 y hy)
   ·rw [if_neg h2]
    exact List.pairwise_cons.2 ⟨fun y hy=>s1 y hy,s2⟩
def zE1 (x:Nd):List Key:=(1,x.tag)::((if x.id=[] then [] else [(2,x.id)])++x.cls.map fun c=>(3,c))
def zAS (d:List Nd):Nat→List (Key×Int)
 |0=>[]
 |n+1=>zAS d n++(zE1 (d.getD n default)).map fun k=>(k,(n:Int))
def zBL (ps:List (Key×Int)):List Ent:=ps.foldl (fun l p=>zPx l p.1 p.2) []
def idxOf (d:List Nd):List Ent:=zBL (zAS d d.length)
def zAv (ps:List (Key×Int)) (k:Key):List Int:=(ps.filter fun p=>decide (p.1=k)).map (·.2)
theorem zRw (ps:List (Key×Int)) (p:Key×Int):zBL (ps++[p])=zPx (zBL ps) p.1 p.2:=by
 unfold zBL;rw [List.foldl_append];rfl
theorem zFF:∀ (n:Nat) (ps:List (Key×Int)),ps.length=n→zKb (zBL ps)∧∀ e,e∈zBL ps↔e.key∈ps.map (·.1)∧e.nodes=zAv ps e.key
 |0,ps,h=>by
  have:ps=[]:=List.eq_nil_of_length_eq_zero h
  subst this
  exact ⟨List.Pairwise.nil,fun e=>by simp [zBL]⟩
 |n+1,ps,h=>by
  obtain ⟨qs,p,rfl⟩:∃ qs p,ps=qs++[p]:=by
   refine ⟨ps.dropLast,ps.getLast (by intro e;rw [e] at h;cases h),(List.dropLast_concat_getLast _).symm⟩
  obtain ⟨h1,h2⟩:=zFF n qs (by simpa using h)
  rw [zRw]
  refine ⟨zRv _ _ _ h1,fun e=>?_⟩
  have hat:∀ k,atK (zBL qs) k=zAv qs k:=fun k=>by
   unfold atK
   cases hf:(zBL qs).find? (fun e=>decide (e.key=k)) with
   |none=>
    rw [List.find?_eq_none] at hf
    have:zAv qs k=[]:=by
     unfold zAv
     rw [List.filter_eq_nil_iff.2 (fun q hq=>?_)]
     ·rfl
     ·intro hk
      have hk:q.1=k:=by simpa using hk
      have hm:(⟨k.1,k.2,zAv qs k⟩:Ent)∈zBL qs:=(h2 _).2 ⟨List.mem_map.2 ⟨q,hq,hk⟩,rfl⟩
      exact hf _ hm (by simp [Ent.key])
    rw [this];rfl
   |some x=>
    have hx:=List.mem_of_find?_eq_some hf
    have hk:x.key=k:=by have:=List.find?_some hf;simpa using this
    have:=((h2 x).1 hx).2
    rw [hk] at this
    exact this
  rw [zYq _ _ _ h1 e,h2,hat]
  have hn:zAv (qs++[p]) e.key=zAv qs e.key++(if p.1=e.key then [p.2] else []):=by
   unfold zAv
   rw [List.filter_append,List.map_append]
   congr 1
   by_cases hp:p.1=e.key<;>simp [hp]
  rw [hn,List.map_append,List.mem_append]
  simp only [List.map_cons,List.map_nil,List.mem_singleton]
  by_cases hk:e.key=p.1
  ·rw [if_pos hk.symm,hk]
   constructor
   ·rintro (⟨_,h⟩|⟨_,h⟩)
    ·exact absurd rfl h
    ·exact ⟨.inr rfl,h⟩
   ·rintro ⟨_,h⟩;exact .inr ⟨rfl,h⟩
  ·rw [if_neg (fun h=>hk h.symm),List.append_nil]
   constructor
   ·rintro (⟨h,_⟩|⟨h,_⟩)
    ·exact ⟨.inl h.1,h.2⟩
    ·exact absurd h hk
   ·rintro ⟨h|h,g⟩
    ·exact .inl ⟨⟨h,g⟩,hk⟩
    ·exact absurd h hk
end Go.Hx
end

section
/-
 A map from keys to elements, as the walk has it. Generic over the program. No condition.
-/
set_option maxRecDepth 100000
set_option linter.unusedSimpArgs false
namespace Go.Hx
open Go.RowKit
def zLN (k:Key):Value:=.agg #[.int .i64 k.1,mkS k.2]
theorem yNr {a b:Bys} (h:mkS a=mkS b):a=b:=by
 unfold mkS at h
 injection h with h
 injection h with h
 simpa using congrArg Array.toList h
theorem yK9 {a b:Key} (h:zLN a=zLN b):a=b:=by
 unfold zLN at h
 injection h with h
 have h:=congrArg Array.toList h
 simp only [List.cons.injEq,and_true] at h
 obtain ⟨h1,h2⟩:=h
 injection h1 with _ h1
 exact Prod.ext h1 (yNr h2)
def yGJ (l:List Key) (k:Key):List Key:=if k∈l then l else l++[k]
def gK (ps:List (Key×Int)):List Key:=ps.foldl (fun l p=>yGJ l p.1) []
theorem yJj (ps:List (Key×Int)) (p:Key×Int):gK (ps++[p])=yGJ (gK ps) p.1:=by
 unfold gK;rw [List.foldl_append];rfl
theorem zXs (ps:List (Key×Int)):∀ (l:List Key),l.Nodup→(ps.foldl (fun l p=>yGJ l p.1) l).Nodup∧∀ k,k∈ps.foldl (fun l p=>yGJ l p.1) l↔k∈l∨k∈ps.map (·.1):=by
 induction ps with
 |nil=>intro l h;exact ⟨h,fun k=>by simp⟩
 |cons p r ih=>
  intro l h
  have h1:(yGJ l p.1).Nodup∧∀ k,k∈yGJ l p.1↔k∈l∨k=p.1:=by
   unfold yGJ
   split
   ·rename_i hm
    refine ⟨h,fun k=>⟨.inl,?_⟩⟩
    rintro (h2|rfl)
    ·exact h2
    ·exact hm
   ·rename_i hm
    refine ⟨?_,fun k=>by simp⟩
    rw [List.nodup_append]
    refine ⟨h,by simp,fun a ha b hb e=>?_⟩
    rw [List.mem_singleton.1 hb] at e
    rw [e] at ha
    exact hm ha
  obtain ⟨i1,i2⟩:=ih _ h1.1
  refine ⟨i1,fun k=>?_⟩
  rw [List.foldl_cons,i2,h1.2,List.map_cons,List.mem_cons,or_assoc]
theorem yGK (ps:List (Key×Int)):(gK ps).Nodup:=(zXs ps [] List.nodup_nil).1
theorem yJk (ps:List (Key×Int)) (k:Key):k∈gK ps↔k∈ps.map (·.1):=by
 rw [show gK ps=ps.foldl (fun l p=>yGJ l p.1) [] from rfl,(zXs ps [] List.nodup_nil).2];simp
def zKc (e:Nat) (l:List Int):OV:=.os none e 1 (l.map fun n=>[.p (bI n)])
def mpO (b e:Nat) (ps:List (Key×Int)):OV:=.mp b ((gK ps).map zLN) ((gK ps).map fun k=>zKc e (zAv ps k))
theorem zYr (ps:List (Key×Int)):∀ q∈(gK ps).map zLN,zOV q=3:=by
 intro q hq
 obtain ⟨k,_,rfl⟩:=List.mem_map.1 hq
 rfl
variable [Glob]
theorem yHE (a b:Key):zEV (zLN a) (zLN b)=decide (a=b):=by
 rw [Bool.eq_iff_iff,decide_eq_true_eq]
 constructor
 ·intro h
  exact yK9 (yGo h)
 ·rintro rfl
  simp only [zLN,zEV,Bool.and_eq_true]
  exact ⟨zXj (.inl ⟨_,rfl⟩),zXj (.inr ⟨_,rfl⟩)⟩
theorem yGL (l:List Key) (k:Key):zHa (l.map zLN) (zLN k)=l.findIdx? (fun q=>decide (k=q)):=by
 unfold zHa
 rw [List.findIdx?_map]
 congr 1
 funext q
 exact yHE k q
theorem zO2 (ps:List (Key×Int)) (k k':Key) (n:Int):zAv (ps++[(k,n)]) k'=zAv ps k'++(if k=k' then [n] else []):=by
 unfold zAv
 rw [List.filter_append,List.map_append]
 congr 1
 by_cases h:k=k'<;>simp [h]
theorem zRx (e:Nat) (l:List Int) (n:Int):zKc e (l++[n])=.os none e 1 ((l.map fun n=>[.p (bI n)])++[[.p (bI n)]]):=by simp [zKc]
theorem yLa {b e:Nat} {ps:List (Key×Int)} {k:Key} {i:Nat} (hi:zHa ((gK ps).map zLN) (zLN k)=some i) (n:Int):
  i < ((gK ps).map fun k=>zKc e (zAv ps k)).length∧((gK ps).map fun k=>zKc e (zAv ps k)).getD i .hole=zKc e (zAv ps k)∧
  zLT b ((gK ps).map zLN) (((gK ps).map fun k=>zKc e (zAv ps k)).set i .hole) (zLN k) (zKc e (zAv ps k++[n]))=mpO b e (ps++[(k,n)]):=by
 have hi0:=hi
 rw [yGL] at hi
 obtain ⟨h1,h2,h3⟩:=List.findIdx?_eq_some_iff_getElem.1 hi
 have hk:k=(gK ps)[i]:=by simpa using h2
 refine ⟨by simpa using h1,?_,?_⟩
 ·rw [List.getD_eq_getElem?_getD,List.getElem?_map,List.getElem?_eq_getElem h1]
  simp only [Option.map_some,Option.getD_some,←hk]
 ·unfold zLT
  rw [hi0]
  have hg:gK (ps++[(k,n)])=gK ps:=by
   rw [yJj];unfold yGJ;rw [if_pos]
   show k∈gK ps
   rw [hk];exact List.getElem_mem h1
  unfold mpO
  rw [hg]
  simp only [OV.mp.injEq,true_and]
  apply List.ext_getElem
  ·simp
  ·intro j hj1 hj2
   simp only [List.length_map] at hj2
   simp only [List.set_set,List.getElem_set,List.getElem_map,zO2]
   by_cases e1:i=j
   ·subst e1
    rw [if_pos rfl,←hk,if_pos rfl]
   ·rw [if_neg e1,if_neg,List.append_nil]
    intro e2
    apply e1
    exact (List.getElem_inj (yGK ps)).1 (hk.symm.trans e2)
theorem yBH {ps:List (Key×Int)} {k:Key} (h:k∉gK ps):zAv ps k=[]:=by
 unfold zAv
 rw [List.filter_eq_nil_iff.2 (fun q hq=>?_)]
 ·rfl
 ·intro hk
  apply h
  rw [yJk]
  exact List.mem_map.2 ⟨q,hq,by simpa using hk⟩
theorem yNs {b e:Nat} {ps:List (Key×Int)} {k:Key} (hi:zHa ((gK ps).map zLN) (zLN k)=none) (n:Int):
  zAv ps k=[]∧zLT b ((gK ps).map zLN) ((gK ps).map fun k=>zKc e (zAv ps k)) (zLN k) (zKc e (zAv ps k++[n]))=mpO b e (ps++[(k,n)]):=by
 have hi0:=hi
 rw [yGL,List.findIdx?_eq_none_iff] at hi
 have hk:k∉gK ps:=fun hc=>by have:=hi k hc;simp at this
 have h0:=yBH hk
 refine ⟨h0,?_⟩
 unfold zLT
 rw [hi0]
 have hg:gK (ps++[(k,n)])=gK ps++[k]:=by
  rw [yJj];unfold yGJ;rw [if_neg hk]
 unfold mpO
 rw [hg,List.map_append,List.map_append]
 simp only [OV.mp.injEq,true_and,List.map_cons,List.map_nil,zO2,if_true]
 congr 1
 apply List.map_congr_left
 intro q hq
 rw [if_neg,List.append_nil]
 rintro rfl
 exact hk hq
section
variable {P:Program} {F:List Ct} {K:List Ct→Prop} {X:Value→List Ct→Prop}
theorem yNt {d r b e:Nat} {x k:Opd} {ps:List (Key×Int)} {key:Key} {p:PVal} (e1:zLU F x=some b) (e2:F.getD r .un=.ov (.one (mpO b e ps))) (hr:r < F.length) (e3:(zAh F k).pv?=some p) (e4:yHk p.norm=some (zLN key)) (hn:(zAh F k).need) (hd:d≠r)
  (h:∀ K1 V1,(∀ q∈K1,zOV q=3)→(∀ n,zLT b K1 V1 (zLN key) (zKc e (zAv ps key++[n]))=mpO b e (ps++[(key,n)]))→K ((F.set r (.ov (.one (.mp b K1 V1)))).set d (.ov (.one (zKc e (zAv ps key)))))):hoW P ⟨none,.mpv d x r 3 k e 1⟩ F K X:=by
 show opW P (.mpv d x r 3 k e 1) F K X
 simp only [opW]
 refine yMd e1 e2 e3 e4 hn rfl (zYr ps) ⟨hd,?_⟩
 split
 ·rename_i i hi
  have h1:=yLa (b:=b) (e:=e) hi
  refine ⟨(h1 0).1,?_⟩
  rw [(h1 0).2.1]
  exact h _ _ (zYr ps) fun n=>(h1 n).2.2
 ·rename_i hi
  have h1:=yNs (b:=b) (e:=e) hi
  have:=h _ _ (zYr ps) fun n=>(h1 n).2
  rw [(h1 0).1] at this
  have e5:F.set r (.ov (.one (.mp b ((gK ps).map zLN) ((gK ps).map fun k=>zKc e (zAv ps k)))))=F:=by
   apply List.ext_getElem?
   intro j
   rw [List.getElem?_set]
   split
   ·rename_i hj
    subst hj
    rw [List.getD_eq_getElem?_getD,List.getElem?_eq_getElem hr] at e2
    rw [List.getElem?_eq_getElem hr]
    simp only [Option.getD_some] at e2
    rw [e2];rfl
   ·rfl
  rw [e5] at this
  exact this
theorem yNu {r b e:Nat} {x k:Opd} {n:Nat} {ps:List (Key×Int)} {key:Key} {p:PVal} {K1:List Value} {V1:List OV} {v:Int} {c:OV} (e1:zLU F x=some b) (e2:F.getD r .un=.ov (.one (.mp b K1 V1))) (e3:(zAh F k).pv?=some p) (e4:yHk p.norm=some (zLN key)) (hn:(zAh F k).need) (hk:∀ q∈K1,zOV q=3)
  (hp:∀ n,zLT b K1 V1 (zLN key) (zKc e (zAv ps key++[n]))=mpO b e (ps++[(key,n)])) (hy:F.getD n .un=.ov (.one c)) (hc:c=zKc e (zAv ps key++[v])) (hnr:n≠r) (h:K ((F.set n .un).set r (.ov (.one (mpO b e (ps++[(key,v)])))))):hoW P ⟨none,.mps x r 3 k (.t n)⟩ F K X:=by
 show opW P (.mps x r 3 k (.t n)) F K X
 simp only [opW]
 refine yMd e1 e2 e3 e4 hn rfl hk ⟨fun s hs=>by injection hs with hs;rw [←hs];exact hnr,?_⟩
 have h1:zUf F (.t n)=(True,some c):=by unfold zUf;simp only [zAh,hy]
 have h2:clr F F (.t n)=F.set n .un:=by simp only [clr,hy]
 rw [h1,h2]
 refine ⟨trivial,?_⟩
 simp only [hc,hp]
 exact h
end
end Go.Hx
end

section
/-
 The entries as a walk through the map brings them: a permutation of the index. No condition.
-/
set_option maxRecDepth 100000
set_option linter.unusedSimpArgs false
namespace Go.Hx
open Go.RowKit
theorem zRy:∀ (N:Nat) (l:List Nat),l.Nodup→(∀ i∈l,i < N)→l.length≤N
 |0,[],_,_=>Nat.le_refl _
 |0,i::l,_,h=>absurd (h i List.mem_cons_self) (Nat.not_lt_zero _)
 |N+1,l,hn,h=>by
  have h1:∀ i∈l.erase N,i < N:=fun i hi=>by
   have h2:=(List.Nodup.mem_erase_iff hn).1 hi
   have:=h i h2.2
   have:=h2.1
   omega
  have h2:=zRy N (l.erase N) (hn.erase N) h1
  have h3:=List.length_erase (a:=N) (l:=l)
  split at h3<;>omega
def yBI (ps:List (Key×Int)) (i:Nat):Ent:=⟨((gK ps).getD i default).1,((gK ps).getD i default).2,zAv ps ((gK ps).getD i default)⟩
theorem yBJ (ps:List (Key×Int)) {i:Nat} (h:i < (gK ps).length):(gK ps).getD i default=(gK ps)[i]:=by
 rw [List.getD_eq_getElem?_getD,List.getElem?_eq_getElem h];rfl
theorem zL1 (ps:List (Key×Int)) (i:Nat):(yBI ps i).key=(gK ps).getD i default:=rfl
theorem yBK {l:List Ent} (h:zKb l):l.Nodup:=by
 unfold zKb at h
 exact List.Pairwise.imp (fun {a b} h e=>by rw [e,zBe] at h;cases h) h
theorem yLb {ps:List (Key×Int)} {seen:List Nat} (hn:seen.Nodup) (hb:∀ i∈seen,i < (gK ps).length) (ha:∀ i,i < (gK ps).length→i∈seen):(seen.map (yBI ps)).Perm (zBL ps):=by
 have hs:=zFF ps.length ps rfl
 refine (List.perm_ext_iff_of_nodup ?_ (yBK hs.1)).2 fun e=>?_
 ·rw [List.nodup_iff_pairwise_ne,List.pairwise_map]
  refine List.Pairwise.imp_of_mem (fun {a b} h1 h2 h3 e=>?_) hn
  have e1:=congrArg Ent.key e
  rw [zL1,zL1,yBJ ps (hb a h1),yBJ ps (hb b h2)] at e1
  exact h3 ((List.getElem_inj (yGK ps)).1 e1)
 ·rw [hs.2,List.mem_map]
  constructor
  ·rintro ⟨i,hi,rfl⟩
   rw [zL1,yBJ ps (hb i hi)]
   refine ⟨(yJk ps _).1 (List.getElem_mem _),?_⟩
   show zAv ps ((gK ps).getD i default)=_
   rw [yBJ ps (hb i hi)]
  ·rintro ⟨h1,h2⟩
   obtain ⟨i,hi,h3⟩:=List.mem_iff_getElem.1 ((yJk ps _).2 h1)
   refine ⟨i,ha i hi,?_⟩
   refine Ent.ext' ?_ ?_
   ·rw [zL1,yBJ ps hi,h3]
   ·show zAv ps ((gK ps).getD i default)=_
    rw [yBJ ps hi,h3,h2]
theorem yPI (ps:List (Key×Int)):(gK ps).length≤ps.length:=by
 have:∀ (ps:List (Key×Int)) (l:List Key),(ps.foldl (fun l p=>yGJ l p.1) l).length≤l.length+ps.length:=by
  intro ps
  induction ps with
  |nil=>intro l;simp
  |cons p r ih=>
   intro l
   have h1:(yGJ l p.1).length≤l.length+1:=by unfold yGJ;split<;>simp
   have:=ih (yGJ l p.1)
   rw [List.foldl_cons,List.length_cons]
   omega
 have:=this ps []
 simpa [gK] using this
theorem zDT (ps:List (Key×Int)) (k:Key):(zAv ps k).length≤ps.length:=by
 unfold zAv
 rw [List.length_map]
 exact List.length_filter_le _ _
theorem zNX (x:Nd):(zE1 x).length≤2+x.cls.length:=by
 unfold zE1
 rw [List.length_cons,List.length_append,List.length_map]
 split<;>simp<;>omega
theorem zE2 (d:List Nd):∀ (n:Nat),(∀ i,i < n→(d.getD i default).cls.length≤64)→(zAS d n).length≤n * 66
 |0,_=>by simp [zAS]
 |n+1,h=>by
  have h1:=zE2 d n fun i hi=>h i (by omega)
  have h2:=zNX (d.getD n default)
  have h3:=h n (by omega)
  rw [zAS,List.length_append,List.length_map]
  omega
theorem zO3 (d:List Nd) (i:Nat):zAS d (i+1)=(zAS d i++[((1,(d.getD i default).tag),(i:Int))]++(if (d.getD i default).id=[] then [] else [((2,(d.getD i default).id),(i:Int))]))++(d.getD i default).cls.map fun c=>((3,c),(i:Int)):=by
 rw [zAS,zE1,List.map_cons,List.map_append,List.map_map,List.append_assoc,List.append_assoc,List.singleton_append]
 congr 2
 split<;>simp
end Go.Hx
end
