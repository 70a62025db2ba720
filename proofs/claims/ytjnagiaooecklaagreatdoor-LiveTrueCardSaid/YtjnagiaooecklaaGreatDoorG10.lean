/-
  Walks of functions of the program over an abstract layer, and the laws that they use: each contract says what the function computes, for every input that its conditions let by. No other condition.
-/
import Derived.Test.YtjnagiaooecklaaGreatDoorG9
import Derived.Scope
set_option linter.all false
section
/-
 THE ABSTRACT LAYER, ELEVENTH TEXT: the walk of code on the abstract frame is sound; a contract out of it. Generic over the program. No condition.
-/
namespace Go.Hx
open Go.RowKit
variable [Glob]
section
variable {P:Program} {E:Env} {S:Start}
def yBh (E:Env) (S:Start) (Q:Exit→List Ct→Prop):Exit→Act→World→Prop:=fun e a w=>∃ F,Q e F∧Inv E S F a w
theorem yBi {c:Code} {Q:Exit→Act→World→Prop} (I:Nat→Act→World→Prop)
  (round:∀ n a w,I n a w→c.wp P (Exit.then (fun a' w'=>∃ n',n' < n∧I n' a' w') Q) a w) {n:Nat} {a:Act} {w:World} (h0:I n a w):(Code.loop c).wp P Q a w:=by
 intro b k cs
 have key:∀ n a w,I n a w→∃ e a' w',Q e a' w'∧Arrives P (lone (b.at a (.code c::.inLoop c::k)) cs w) b k cs e a' w':=by
  intro n
  induction n using Nat.strongRecOn with
  |_ n ih=>
   intro a w hI
   obtain ⟨e,a₁,w₁,hq,harr⟩:=round n a w hI b (.inLoop c::k) cs
   cases e with
   |normal=>
    obtain ⟨n',hlt,hI₁⟩:=hq
    obtain ⟨e₂,a₂,w₂,hq₂,harr₂⟩:=ih n' hlt a₁ w₁ hI₁
    exact ⟨e₂,a₂,w₂,hq₂,.of_steps (Steps.trans harr (.one step_inLoop)) harr₂⟩
   |exit id=>exact ⟨_,a₁,w₁,hq,.pass (x:=.inLoop c) rfl (fun _ _=>.inl (by simp)) harr⟩
   |goto l=>exact ⟨_,a₁,w₁,hq,.pass (x:=.inLoop c) rfl (fun _ _=>.inl (by simp)) harr⟩
   |ret=>exact ⟨_,a₁,w₁,hq,.pass (x:=.inLoop c) rfl (fun _ _=>.inl (by simp)) harr⟩
   |panic ch=>exact ⟨_,a₁,w₁,hq,.pass (x:=.inLoop c) rfl (fun _ _=>.inl (by simp)) harr⟩
   |outgrown=>exact ⟨_,a₁,w₁,hq,.pass (x:=.inLoop c) rfl (fun _ _=>.inl (by simp)) harr⟩
 obtain ⟨e,a',w',hq,harr⟩:=key n a w h0
 exact ⟨e,a',w',hq,.of_steps (.one step_loop) harr⟩
def zCV (P:Program) (E:Env):Code→HCode→Bool
 |.skip,.skip=>true
 |.region _ ops draw,.reg hs dr post=>draw==dr&&zGd P E ops hs ops.toList&&zFK E post&&(!draw||dkQ P ops hs)
 |.region _ ops draw,.drg ds post=>draw&&yDQ P E ops ds&&zFK E post
 |.region _ ops draw,.regG pre hs post=>!draw&&zGd P E ops hs ops.toList&&zFK E pre&&zFK E post
 |.region _ ops draw,.drgG pre ds post=>draw&&yDQ P E ops ds&&zFK E pre&&zFK E post
 |.region _ ops draw,.rdr i hs dr post=>draw==dr&&zGd P E ops hs ops.toList&&zFK E post&&(!draw||dkQ P ops hs)&&hs.all HO.quiet&&decide (i < E.N)&&(yHL hs).all (fun d=>decide (d < E.N))
 |.seq x y,.seq a b=>zCV P E x a&&zCV P E y b
 |.cond c x y,.cond d a b=>zAc E.N d c&&zCV P E x a&&zCV P E y b
 |.block i x,.block j a=>i==j&&zCV P E x a
 |.loop x,.loop a=>zCV P E x a
 |.exit i,.exit j=>i==j
 |.ret,.ret=>true
 |.scope x,.scope a=>zCV P E x a
 |.label _,.label=>true
 |_,_=>false
theorem yDS {F:List Ct} {a:Act} {w:World} (h:Inv E S F a w):Inv E S F a {w with drawn:=w.drawn+1}:=by
 obtain ⟨m,β,ow,h⟩:=h
 exact ⟨m,β,ow,h.quiet ⟨m.le_refl,h.mem,fun _ _ _=>rfl,fun _ _ _ _=>rfl,fun _ _ _ h=>.inl h,Pres.drew _ w⟩⟩
theorem yEC {K:List Ct→Prop} {Q:Exit→List Ct→Prop} {e:Exit} {a:Act} {w:World} (h:yBh E S (zVB K Q) e a w):Exit.then (fun a w=>zEj E S K a w) (yBh E S Q) e a w:=by
 obtain ⟨F,h1,h2⟩:=h
 cases e<;>exact ⟨F,h1,h2⟩
theorem zJC (wf:E.Wf):
  ∀ (c:Code) (h:HCode) (Q:Exit→List Ct→Prop) (F:List Ct) (a:Act) (w:World),zCV P E c h=true→hwp P h Q F→Inv E S F a w→c.wp P (yBh E S Q) a w:=by
 intro c
 induction c with
 |skip=>
  intro h Q F a w hk hW hI
  cases h<;>simp [zCV] at hk
  exact wp_skip ⟨F,hW,hI⟩
 |region id ops draw=>
  intro h Q F a w hk hW hI
  cases h with
  |reg hs dr post=>
   simp only [zCV,Bool.and_eq_true,beq_iff_eq,Bool.or_eq_true,Bool.not_eq_true'] at hk
   obtain ⟨⟨⟨rfl,h2⟩,h3⟩,h4⟩:=hk
   simp only [hwp] at hW
   have hN:∀ F' a' w',ghW F' (fun F''=>Q .normal F'') post→Inv E S F' a' w'→yBh E S Q .normal a' w':=fun F' a' w' hg hI'=>zCa wf h3 hI' hg
   cases draw with
   |false=>
    refine wp_region ?_
    have:=zQb (P:=P) wf (ops:=ops) (X:=fun v F'=>Q (.panic [{v,recovered:=false}]) F') (Q:=yBh E S Q) (fun v F' a' w' hx hI'=>⟨F',hx,hI'⟩) hN hs ops.toList 0 (fun i o ho=>by simpa using ho) h2 F a w hI hW
    rw [Array.length_toList] at this
    rwa [List.range_eq_range']
   |true=>
    have hd:dkQ P ops hs=true:=by simpa using h4
    have hq:∀ o∈hs,o.quiet=true:=by
     simp only [dkQ,Bool.and_eq_true,List.all_eq_true] at hd
     exact hd.2
    obtain ⟨m,β,ow,hG⟩:=hI
    refine zOe wf (fun _=>hd) hq h2 hG hW ?_
    rintro a' w' hg ⟨F1,h5,h6,_⟩
    exact hN F1 a' w' h5 ⟨m,β,ow,h6.gr hg⟩
  |drg ds post=>
   simp only [zCV,Bool.and_eq_true] at hk
   obtain ⟨⟨rfl,h2⟩,h3⟩:=hk
   simp only [hwp] at hW
   exact zQl wf h2 (fun F' a' w' hg hI'=>zCa wf h3 hI' hg) (fun v F' a' w' hx hag hI'=>⟨F',hx F' hag,hI'⟩) (yDS hI) hW
  |regG pre hs post=>
   simp only [zCV,Bool.and_eq_true,Bool.not_eq_true'] at hk
   obtain ⟨⟨⟨rfl,h2⟩,h5⟩,h3⟩:=hk
   simp only [hwp] at hW
   have hN:∀ F' a' w',ghW F' (fun F''=>Q .normal F'') post→Inv E S F' a' w'→yBh E S Q .normal a' w':=fun F' a' w' hg hI'=>zCa wf h3 hI' hg
   obtain ⟨F0,hW0,hI0⟩:=zCa wf h5 hI hW
   refine wp_region ?_
   have:=zQb (P:=P) wf (ops:=ops) (X:=fun v F'=>Q (.panic [{v,recovered:=false}]) F') (Q:=yBh E S Q) (fun v F' a' w' hx hI'=>⟨F',hx,hI'⟩) hN hs ops.toList 0 (fun i o ho=>by simpa using ho) h2 F0 a w hI0 hW0
   rw [Array.length_toList] at this
   rwa [List.range_eq_range']
  |drgG pre ds post=>
   simp only [zCV,Bool.and_eq_true] at hk
   obtain ⟨⟨⟨rfl,h2⟩,h5⟩,h3⟩:=hk
   simp only [hwp] at hW
   obtain ⟨F0,hW0,hI0⟩:=zCa wf h5 hI hW
   exact zQl wf h2 (fun F' a' w' hg hI'=>zCa wf h3 hI' hg) (fun v F' a' w' hx hag hI'=>⟨F',hx F' hag,hI'⟩) (yDS hI0) hW0
  |rdr i hs dr post=>
   simp only [zCV,Bool.and_eq_true,beq_iff_eq,Bool.or_eq_true,Bool.not_eq_true',List.all_eq_true,decide_eq_true_eq] at hk
   obtain ⟨⟨⟨⟨⟨⟨rfl,h2⟩,h3⟩,h4⟩,hq⟩,hi⟩,hds⟩:=hk
   simp only [hwp] at hW
   split at hW
   ·rename_i e k rows e1
    obtain ⟨m,β,ow,hG⟩:=hI
    obtain ⟨m',hG'⟩:=yEw wf hG hi e1
    refine zOe wf (fun hd=>by rcases h4 with h4|h4<;>simp_all) hq h2 hG' hW ?_
    rintro a' w' hg ⟨F1,h5,h6,h7⟩
    exact zCa wf h3 ⟨m,β,ow,(yH9 wf hG h6 hds h7).gr hg⟩ h5
   ·exact hW.elim
  |_=>simp [zCV] at hk
 |seq x y ihx ihy=>
  intro h Q F a w hk hW hI
  cases h<;>simp only [zCV] at hk<;>try cases hk
  rename_i ha hb
  simp only [Bool.and_eq_true] at hk
  refine wp_seq (wp_mono (ihx ha _ F a w hk.1 hW hI) ?_)
  intro e a' w' h'
  have:=yEC h'
  cases e with
  |normal=>obtain ⟨F',h1,h2⟩:=this;exact ihy hb Q F' a' w' hk.2 h1 h2
  |_=>exact this
 |cond c x y ihx ihy=>
  intro h Q F a w hk hW hI
  cases h<;>simp only [zCV] at hk<;>try cases hk
  rename_i d ha hb
  simp only [Bool.and_eq_true] at hk
  obtain ⟨⟨h1,h2⟩,h3⟩:=hk
  simp only [hwp] at hW
  split at hW
  ·rename_i t e1
   obtain ⟨n1,ht,hf⟩:=hW
   obtain ⟨m,β,ow,hG⟩:=hI
   have hv:=zKz hG h1 n1 e1
   refine wp_cond_split hv (fun e=>ihx ha Q F a w h2 (ht e) ⟨m,β,ow,hG⟩) (fun e=>ihy hb Q F a w h3 (hf e) ⟨m,β,ow,hG⟩)
  ·exact hW.elim
 |block id x ih=>
  intro h Q F a w hk hW hI
  cases h<;>simp only [zCV] at hk<;>try cases hk
  rename_i j ha
  simp only [Bool.and_eq_true,beq_iff_eq] at hk
  obtain ⟨rfl,hk⟩:=hk
  refine wp_block (wp_mono (ih ha _ F a w hk hW hI) ?_)
  rintro e a' w' ⟨F',h1,h2⟩
  cases e with
  |exit id'=>
   simp only [zG0] at h1
   simp only [Exit.inBlock]
   split at h1
   ·rename_i e';rw [if_pos e'];exact ⟨F',h1,h2⟩
   ·rename_i e';rw [if_neg e'];exact ⟨F',h1,h2⟩
  |_=>exact ⟨F',h1,h2⟩
 |loop x ih=>
  intro h Q F a w hk hW hI
  cases h<;>simp only [zCV] at hk<;>try cases hk
  rename_i ha
  simp only [hwp] at hW
  obtain ⟨I,⟨n,F0,hle,hI0⟩,hround⟩:=hW
  obtain ⟨m,β,ow,hG⟩:=hI
  refine yBi (fun n a w=>∃ F,I n F∧Inv E S F a w) ?_ (n:=n) ⟨F0,hI0,m,β,ow,hG.le hle⟩
  rintro n a w ⟨F1,h1,h2⟩
  refine wp_mono (ih ha _ F1 a w hk (hround n F1 h1) h2) ?_
  rintro e a' w' ⟨F2,h3,h4⟩
  cases e with
  |normal=>
   obtain ⟨n',F',hlt,hle',hI'⟩:=h3
   obtain ⟨m,β,ow,hG⟩:=h4
   exact ⟨n',hlt,F',hI',m,β,ow,hG.le hle'⟩
  |_=>exact ⟨F2,h3,h4⟩
 |exit id=>
  intro h Q F a w hk hW hI
  cases h<;>simp only [zCV] at hk<;>try cases hk
  simp only [beq_iff_eq] at hk
  subst hk
  exact wp_exit ⟨F,hW,hI⟩
 |ret=>
  intro h Q F a w hk hW hI
  cases h<;>simp [zCV] at hk
  exact wp_ret ⟨F,hW,hI⟩
 |scope x ih=>
  intro h Q F a w hk hW hI
  cases h<;>simp only [zCV] at hk<;>try cases hk
  rename_i ha
  refine wp_scope_straight (wp_mono (ih ha _ F a w hk hW hI) ?_)
  rintro e a' w' ⟨F',h1,h2⟩
  cases e with
  |goto l=>exact h1.elim
  |_=>exact ⟨F',h1,h2⟩
 |label l=>
  intro h Q F a w hk hW hI
  cases h<;>simp [zCV] at hk
  exact wp_label ⟨F,hW,hI⟩
 |_=>
  intro h Q F a w hk hW hI
  cases h<;>simp [zCV] at hk
end
end Go.Hx
end

section
/-
 THE ABSTRACT LAYER, TWELFTH TEXT: a contract out of a function's code. Generic over the program. No condition.
-/
namespace Go.Hx
open Go.RowKit
variable [Glob]
def zNo:AV→Ct
 |.val x=>.pv x
 |.own e k rows=>.own e k rows
 |.io _=>.ptr 0 0
def ioOf:List AV→Option (List PV)
 |x::as=>match x with|.io cells=>some cells|_=>ioOf as
 |[]=>none
def zVC:List AV→Nat
 |x::as=>match x with|.own _ _ _=>zVC as+1|_=>zVC as
 |[]=>0
def nIo:List AV→Nat
 |x::as=>match x with|.io _=>nIo as+1|_=>nIo as
 |[]=>0
def yGl:List AV→Nat
 |x::as=>match x with|.own _ _ _=>0|_=>yGl as+1
 |[]=>0
def zSL:List Nat→List Ct→List Ct
 |[],F=>F
 |i::r,F=>zSL r (F.set i .una)
def F0 (E:Env) (base:Nat) (as:List AV):List Ct:=zSL E.una (
 zAl (as.map zNo++List.replicate (E.L-as.length) .un) base (match ioOf as with|some cs=>cs.map fun x=>.pv (.one x)|none=>[]))
def zYu (E:Env) (base:Nat) (as:List AV):Prop:=
 as.length≤E.N∧zVC as≤1∧nIo as≤1∧match ioOf as with|some cs=>E.nfix=1∧E.Γ[0]?=some (base,cs.length)|none=>E.nfix=0
inductive RSrc where
 |tmp (t:Nat)
 |cellB (t j base off n:Nat) (agg:Bool)
 |cellF (t n:Nat) (agg:Bool)
 deriving Inhabited
def zVD (P:Program) (E:Env):RSrc→ResultVar→Bool
 |.tmp t,.tmp t'=>t==t'&&decide (t < E.N)
 |.cellB t j base off n agg,.cell a ty=>t==a&&decide (t < E.N)&&zFl E j base (off+n)&&zB2 P ty==some agg&&zEc P ty==some n&&(agg||n==1)
 |.cellF t n agg,.cell a ty=>t==a&&decide (t < E.N)&&zB2 P ty==some agg&&zEc P ty==some n&&(agg||n==1)
 |_,_=>false
def zEN (P:Program) (E:Env):List RSrc→List ResultVar→Bool
 |[],[]=>true
 |x::xs,y::ys=>zVD P E x y&&zEN P E xs ys
 |_,_=>false
def rsV (F:List Ct):RSrc→PVal→Prop
 |.tmp t,x=>match (zAf F (.t t)).pv? with
  |some p=>(zAf F (.t t)).need∧(x=p∨x=p.norm)
  |none=>False
 |.cellB t j base off n agg,x=>match F.getD t .un,zAM F (base+off) n with
  |.ptr j' off',some cs=>j'=j∧off'=off∧(x=(if agg then .agg cs else .one (cs.headD (.nl 0)))∨x=(if agg then PVal.agg cs else .one (cs.headD (.nl 0))).norm)
  |_,_=>False
 |.cellF t n agg,x=>match (zAf F (.t t)).pv? with
  |some (.one (.fp cs))=>(zAf F (.t t)).need∧cs.length=n∧x=if agg then .agg (cs.map PV.norm) else .one (cs.headD (.nl 0)).norm
  |_=>False
def yBj (F:List Ct):List RSrc→List PVal→Prop
 |[],xs=>xs=[]
 |r::rs,l=>match l with|x::xs=>rsV F r x∧yBj F rs xs|[]=>False
def zKj (F:List Ct) (rs:List RSrc):Res→Prop
 |.val x=>match rs with|[r]=>rsV F r x|_=>False
 |.own e k rows=>match rs with|[.tmp t]=>F.getD t .un=.own e k rows|_=>False
 |.tup xs=>match rs with|[_]=>False|_=>yBj F rs xs
 |.pan _=>False
 |.ov x=>match rs with
  |[.tmp t]=>F.getD t .un=.ov x
  |[.cellB t j base off n agg]=>F.getD t .un=.ptr j off∧∃ cs,zHX F (base+off) n=some cs∧x=yKc agg cs
  |_=>False
def yED (E:Env) (base:Nat) (as:List AV) (rs:List RSrc) (r:RV):Exit→List Ct→Prop
 |.normal,F|.ret,F=>zKj F rs r.res∧∀ cs,ioOf as=some cs→zAM F base cs.length=some r.io
 |.panic ch,_=>∃ v,r.res=.pan v∧ch=[{v,recovered:=false}]
 |_,_=>False
section
variable {P:Program} {E:Env} {S:Start} {m:Mem} {β:Bx} {ow:Ow} {F:List Ct} {a:Act} {w:World}
def rdR (tmps:Array Value):ResultVar→Sem Value
 |.tmp t=>pure (tmps.getD t undef)
 |.cell a t=>do loadVar t (←asAddr (tmps.getD a undef))
theorem yIg (h:InvG E S m β ow F a w) {r:RSrc} {s:ResultVar} (hk:zVD P E r s=true) {x:PVal} (hx:rsV F r x):
  ∃ u,(rdR a.tmps s).run P w=.ok u w∧RpV m x u:=by
 cases r with
 |tmp t=>
  cases s<;>simp only [zVD] at hk<;>try cases hk
  rename_i t'
  simp only [Bool.and_eq_true,beq_iff_eq,decide_eq_true_eq] at hk
  obtain ⟨rfl,ht⟩:=hk
  simp only [rsV] at hx
  split at hx
  ·rename_i p e1
   have hv:=zAI h (x:=.t t) (y:=.tmp t) (by simp [zAc,ht]) hx.1 e1
   rcases hx.2 with rfl|rfl
   ·exact ⟨_,rfl,hv⟩
   ·exact ⟨_,rfl,hv.norm⟩
  ·exact hx.elim
 |cellB t j base off n agg=>
  cases s<;>simp only [zVD] at hk<;>try cases hk
  rename_i b ty
  simp only [Bool.and_eq_true,beq_iff_eq,decide_eq_true_eq,Bool.or_eq_true] at hk
  obtain ⟨⟨⟨⟨⟨rfl,ht⟩,hb⟩,ha⟩,hn⟩,h1⟩:=hk
  simp only [rsV] at hx
  split at hx
  ·rename_i j' off' cs e1 e2
   obtain ⟨rfl,rfl,hx⟩:=hx
   suffices hg:∃ u,(rdR a.tmps (.cell t ty)).run P w=.ok u w∧RpV m (if agg then .agg cs else .one (cs.headD (.nl 0))) u by
    obtain ⟨u,h1,h2⟩:=hg
    rcases hx with rfl|rfl
    ·exact ⟨u,h1,h2⟩
    ·exact ⟨u,h1,h2.norm⟩
   clear hx
   obtain ⟨nn,hj,hle⟩:=zEJ hb
   obtain ⟨b,hb,hv⟩:=zC4 h (x:=.t t) (y:=.tmp t) (by simp [zAc,ht]) e1
   have hv':a.tmps.getD t undef=_:=hv
   have hB:=h.boxes _ _ hj
   rw [hb] at hB
   obtain ⟨us,hl,hu,hm⟩:=zLF hB n off' hle cs e2
   have hrun:=zBf (P:=P) (w:=w) ha hn h1 (us:=us) (b:=b) (o:=off') hl hm
   refine ⟨if agg=true then .agg us.toArray else us.headD undef,by simp only [rdR,hv',asAddr,Sem.run_bind,Sem.run_pure,Result.andThen_ok,hrun],?_⟩
   cases agg with
   |true=>exact ⟨us,rfl,hu⟩
   |false=>
    rcases h1 with h1|rfl
    ·cases h1
    ·have hcl:cs.length=1:=by rw [←hu.length,hl]
     match cs,hcl with
     |[x],_=>
      simp only [RpL] at hu
      obtain ⟨u,us',rfl,h2,_⟩:=hu
      exact h2
  ·exact hx.elim
 |cellF t n agg=>
  cases s<;>simp only [zVD] at hk<;>try cases hk
  rename_i b ty
  simp only [Bool.and_eq_true,beq_iff_eq,decide_eq_true_eq,Bool.or_eq_true] at hk
  obtain ⟨⟨⟨⟨rfl,ht⟩,ha⟩,hn⟩,h1⟩:=hk
  simp only [rsV] at hx
  split at hx
  ·rename_i cs e1
   obtain ⟨n1,rfl,rfl⟩:=hx
   have hv:=zAI h (x:=.t t) (y:=.tmp t) (by simp [zAc,ht]) n1 e1
   obtain ⟨b,o,hv,hr⟩:=hv
   have hv':a.tmps.getD t undef=_:=hv
   obtain ⟨us,hu,hm⟩:=hr.vals
   have hrun:=zBf (P:=P) (w:=w) ha hn h1 (us:=us) (b:=b) (o:=o) (by rw [hu.length]) (fun i u hi=>h.mem _ _ _ (hm i u hi))
   refine ⟨if agg=true then .agg us.toArray else us.headD undef,by simp only [rdR,hv',asAddr,Sem.run_bind,Sem.run_pure,Result.andThen_ok,hrun],?_⟩
   cases agg with
   |true=>exact ⟨us,rfl,hu.norm⟩
   |false=>
    rcases h1 with h1|h1
    ·cases h1
    ·exact zUn hu h1
  ·exact hx.elim
theorem zYv (h:InvG E S m β ow F a w):∀ {rs:List RSrc} {ss:List ResultVar} (_:zEN P E rs ss=true) {xs:List PVal} (_:yBj F rs xs),
  ∃ us:List Value,(ss.mapM (rdR a.tmps)).run P w=.ok us w∧RpVL m xs us
 |[],[],_,xs,hx=>by
  simp only [yBj] at hx
  subst hx
  exact ⟨[],by simp,rfl⟩
 |[],s::ss,hk,xs,hx=>by simp [zEN] at hk
 |r::rs,[],hk,xs,hx=>by simp [zEN] at hk
 |r::rs,s::ss,hk,[],hx=>by simp [yBj] at hx
 |r::rs,s::ss,hk,x::xs,hx=>by
  simp only [zEN,Bool.and_eq_true] at hk
  simp only [yBj] at hx
  obtain ⟨u,h1,h2⟩:=yIg h hk.1 hx.1
  obtain ⟨us,h3,h4⟩:=zYv h hk.2 hx.2
  refine ⟨u::us,?_,u,us,rfl,h2,h4⟩
  rw [List.mapM_cons,Sem.run_bind,h1]
  simp only [Result.andThen_ok]
  rw [Sem.run_bind,h3]
  simp
theorem zG1 (h:InvG E S m β ow F a w) {fn:Func} {rs:List RSrc} (hk:zEN P E rs fn.results.toList=true) {xs:List PVal} (hx:yBj F rs xs):
  ∃ us:List Value,(results fn a.tmps).run P w=.ok (match us with|[u]=>u|_=>.tuple us.toArray) w∧RpVL m xs us:=by
 obtain ⟨us,h1,h2⟩:=zYv h hk hx
 refine ⟨us,?_,h2⟩
 have e:results fn a.tmps=(do let vs ←fn.results.mapM (rdR a.tmps);pure (if h:vs.size=1 then vs[0] else .tuple vs)):=by
  unfold results
  congr
 rw [e,Array.mapM_eq_mapM_toList]
 have h3:(Functor.map List.toArray (List.mapM (rdR a.tmps) fn.results.toList):Sem (Array Value)).run P w=.ok us.toArray w:=by
  rw [map_eq_pure_bind,Sem.run_bind,h1]
  rfl
 rw [Sem.run_bind,h3]
 simp only [Result.andThen_ok]
 match us with
 |[]=>rfl
 |[u]=>rfl
 |u::v::us=>rfl
theorem ArgsRep.get:∀ {as:List AV} {us:List Value},ArgsRep m w as us→∀ (i:Nat) (x:AV),as[i]?=some x→∃ u,us[i]?=some u∧ArgRep m w x u
 |[],us,h,i,x,hx=>by simp at hx
 |y::ys,us,h,i,x,hx=>by
  simp only [ArgsRep] at h
  obtain ⟨u,us',rfl,h2,h3⟩:=h
  cases i with
  |zero=>simp at hx;subst hx;exact ⟨u,rfl,h2⟩
  |succ i=>simpa using ArgsRep.get h3 i x (by simpa using hx)
theorem yBk:∀ {as:List AV} {us:List Value},ArgsRep m w as us→zVC as≤1→∀ (i:Nat) (e k:Nat) (rows:List (List PV)),as[i]?=some (.own e k rows)→i=yGl as∧∃ u,us[i]?=some u∧zHV as us=u.ownBlock
 |[],us,h,_,i,e,k,rows,hx=>by simp at hx
 |y::ys,us,h,hn,i,e,k,rows,hx=>by
  simp only [ArgsRep] at h
  obtain ⟨u,us',rfl,h2,h3⟩:=h
  cases i with
  |zero=>
   simp at hx;subst hx
   exact ⟨rfl,u,rfl,rfl⟩
  |succ i=>
   have hx':ys[i]?=some (.own e k rows):=by simpa using hx
   cases y with
   |own e' k' rows'=>
    exfalso
    have:zVC ys=0:=by simp [zVC] at hn;omega
    exact absurd hx' (no_own this i e k rows)
   |val x=>
    obtain ⟨h4,u',h5,h6⟩:=yBk h3 (by simpa [zVC] using hn) i e k rows hx'
    exact ⟨by simp [yGl,h4],u',by simpa using h5,by simpa [zHV] using h6⟩
   |io cs=>
    obtain ⟨h4,u',h5,h6⟩:=yBk h3 (by simpa [zVC] using hn) i e k rows hx'
    exact ⟨by simp [yGl,h4],u',by simpa using h5,by simpa [zHV] using h6⟩
where
 no_own:∀ {as:List AV},zVC as=0→∀ (i:Nat) (e k:Nat) (rows:List (List PV)),as[i]?≠some (.own e k rows)
 |[],_,i,_,_,_=>by simp
 |.own _ _ _::ys,h,_,_,_,_=>by simp [zVC] at h
 |.val _::ys,h,0,_,_,_=>by simp
 |.val _::ys,h,i+1,e,k,rows=>by simpa using no_own (as:=ys) (by simpa [zVC] using h) i e k rows
 |.io _::ys,h,0,_,_,_=>by simp
 |.io _::ys,h,i+1,e,k,rows=>by simpa using no_own (as:=ys) (by simpa [zVC] using h) i e k rows
theorem yGm:∀ {as:List AV} {us:List Value},ArgsRep m w as us→nIo as≤1→∀ (i:Nat) (cs:List PV),as[i]?=some (.io cs)→ioOf as=some cs∧∃ u,us[i]?=some u∧ioB as us=yMe u
 |[],us,h,_,i,cs,hx=>by simp at hx
 |y::ys,us,h,hn,i,cs,hx=>by
  simp only [ArgsRep] at h
  obtain ⟨u,us',rfl,h2,h3⟩:=h
  cases i with
  |zero=>
   simp at hx;subst hx
   exact ⟨rfl,u,rfl,rfl⟩
  |succ i=>
   have hx':ys[i]?=some (.io cs):=by simpa using hx
   cases y with
   |io cs'=>
    exfalso
    have:nIo ys=0:=by simp [nIo] at hn;omega
    exact absurd hx' (no_io this i cs)
   |val x=>
    obtain ⟨h4,u',h5,h6⟩:=yGm h3 (by simpa [nIo] using hn) i cs hx'
    exact ⟨by simp [ioOf,h4],u',by simpa using h5,by simpa [ioB] using h6⟩
   |own e k rows=>
    obtain ⟨h4,u',h5,h6⟩:=yGm h3 (by simpa [nIo] using hn) i cs hx'
    exact ⟨by simp [ioOf,h4],u',by simpa using h5,by simpa [ioB] using h6⟩
where
 no_io:∀ {as:List AV},nIo as=0→∀ (i:Nat) (cs:List PV),as[i]?≠some (.io cs)
 |[],_,i,_=>by simp
 |.io _::ys,h,_,_=>by simp [nIo] at h
 |.val _::ys,h,0,_=>by simp
 |.val _::ys,h,i+1,cs=>by simpa using no_io (as:=ys) (by simpa [nIo] using h) i cs
 |.own _ _ _::ys,h,0,_=>by simp
 |.own _ _ _::ys,h,i+1,cs=>by simpa using no_io (as:=ys) (by simpa [nIo] using h) i cs
theorem yDT:∀ {as:List AV} {us:List Value} {cs:List PV},ArgsRep m w as us→ioOf as=some cs→zPS as=cs.length∧∃ b vs T,ioB as us=some b∧w.heap[b]?=some (.cells vs T (0,0))∧(∀ o,m b o=none)∧RpL m cs vs.toList
 |[],us,cs,h,hx=>by simp [ioOf] at hx
 |y::ys,us,cs,h,hx=>by
  simp only [ArgsRep] at h
  obtain ⟨u,us',rfl,h2,h3⟩:=h
  cases y with
  |io cs'=>
   simp only [ioOf,Option.some.injEq] at hx
   subst hx
   obtain ⟨b,vs,T,rfl,h4,h5,h6⟩:=h2
   exact ⟨rfl,b,vs,T,rfl,h4,h5,h6⟩
  |val x=>exact yDT (as:=ys) (us:=us') h3 hx
  |own e k rows=>exact yDT (as:=ys) (us:=us') h3 hx
theorem zNp:∀ {as:List AV} {us:List Value},ioOf as=none→ioB as us=none
 |[],us,h=>by cases us<;>rfl
 |y::ys,[],h=>rfl
 |y::ys,u::us,h=>by
  cases y with
  |io cs=>simp [ioOf] at h
  |val x=>exact zNp (as:=ys) h
  |own e k rows=>exact zNp (as:=ys) h
theorem zQm:∀ {as:List AV} {us:List Value} {b:Nat},ArgsRep m w as us→zHV as us=some b→∃ (i e k:Nat) (rows:List (List PV)) (u:Value),as[i]?=some (.own e k rows)∧us[i]?=some u∧u.ownBlock=some b∧OwnAt m w e k rows u
 |[],us,b,h,hb=>by simp [zHV] at hb
 |y::ys,us,b,h,hb=>by
  simp only [ArgsRep] at h
  obtain ⟨u,us',rfl,h2,h3⟩:=h
  cases y with
  |own e k rows=>exact ⟨0,e,k,rows,u,rfl,rfl,hb,h2⟩
  |val x=>
   obtain ⟨i,e,k,rows,u',h4,h5,h6⟩:=zQm h3 (b:=b) hb
   exact ⟨i+1,e,k,rows,u',by simpa using h4,by simpa using h5,h6⟩
  |io cs=>
   obtain ⟨i,e,k,rows,u',h4,h5,h6⟩:=zQm h3 (b:=b) hb
   exact ⟨i+1,e,k,rows,u',by simpa using h4,by simpa using h5,h6⟩
theorem OwnAt.lt {e k:Nat} {rows:List (List PV)} {u:Value} (h:OwnAt m w e k rows u) {g:Nat} (hg:u.ownBlock=some g):g < w.heap.size:=by
 obtain ⟨⟨xs,h1,h2⟩,_⟩:=h
 rcases h2 with ⟨rfl,_⟩|⟨g',cap,cur,rfl,_,hh,_⟩
 ·simp [Value.ownBlock] at hg
 ·simp only [Value.ownBlock,Option.some.injEq] at hg
  subst hg
  exact (Array.getElem?_eq_some_iff.1 hh).1
theorem zQn (wf:E.Wf):∀ (l:List Nat) (F:List Ct),(∀ i∈l,E.N≤i∧∀ j bn b,E.Γ[j]?=some bn→β j=some b→i < bn.1∨bn.1+bn.2≤i)→InvG E S m β ow F a w→InvG E S m β ow (zSL l F) a w
 |[],_,_,h=>h
 |x::r,F,hx,h=>by
  refine zQn wf r (F.set x .una) (fun i hi=>hx i (List.mem_cons_of_mem _ hi)) ?_
  obtain ⟨hN,hb⟩:=hx x List.mem_cons_self
  have hg:∀ i,(F.set x .una).getD i .un=F.getD i .un∨(i=x∧(F.set x .una).getD i .un=.una):=by
   intro i
   rw [zBc]
   split
   ·exact .inr ⟨by omega,rfl⟩
   ·exact .inl rfl
  refine {h with lenF:=by rw [List.length_set];exact h.lenF,slots:=fun i hi=>?_,boxes:=fun j bn hj=>?_}
  ·rcases hg i with e|⟨e,_⟩
   ·rw [e];exact h.slots i hi
   ·omega
  ·have hB:=h.boxes j bn hj
   cases hβ:β j with
   |none=>
    rw [hβ] at hB
    intro o ho
    rcases hg (bn.1+o) with e|⟨_,e⟩
    ·rw [e];exact hB o ho
    ·exact .inr e
   |some b=>
    rw [hβ] at hB
    obtain ⟨h1,h2,cs,T,h3,h4,h5⟩:=hB
    refine ⟨h1,h2,cs,T,h3,h4,fun o ho=>?_⟩
    rcases hg (bn.1+o) with e|⟨e,_⟩
    ·rw [e];exact h5 o ho
    ·have:=hb j bn b hj hβ
     omega
theorem zYw (hun:E.unaOk=true) (wf:E.Wf) {base:Nat} {as:List AV} {us:List Value} (hf:zYu E base as) (hm:MemOk m w) (ha:ArgsRep m w as us) (hd:∀ g,zHV as us=some g→ioB as us≠some g) (hG0:Glob.ok w) (hGR:∀ b,zNi as us b→Glob.n≤b):
  Inv E {w0:=w,m0:=m,R0:=zNi as us,b0:=fun j=>if j=0 then ioB as us else none,g0:=hG0,gR:=hGR} (F0 E base as) {tmps:=us.toArray++Array.replicate (E.N-us.toArray.size) undef,defers:=[]} w:=by
 obtain ⟨hlen,hno,hni,hio⟩:=hf
 have hul:=ha.length
 have hNL:=wf.le
 have hFl:(as.map zNo++List.replicate (E.L-as.length) Ct.un).length=E.L:=by simp;omega
 have hbase:∀ cs,ioOf as=some cs→E.N≤base∧base+cs.length≤E.L:=by
  intro cs hc
  rw [hc] at hio
  exact ⟨wf.lo 0 _ hio.2,wf.hi 0 _ hio.2⟩
 refine ⟨m,fun j=>if j=0 then ioB as us else none,fun b=>if zHV as us=some b then some (.key (yGl as)) else if ioB as us=some b then some (.box 0) else none,?_⟩
 refine zQn wf _ _ (fun i hi=>?_) ?_
 ·have hu:=List.all_eq_true.1 hun i hi
  simp only [Bool.and_eq_true,decide_eq_true_eq] at hu
  refine ⟨hu.1,fun j bn b hj hb=>?_⟩
  split at hb
  ·rename_i e
   subst e
   have hn:E.nfix=1:=by
    cases hc:ioOf as with
    |none=>rw [zNp hc] at hb;cases hb
    |some cs=>rw [hc] at hio;exact hio.1
   have:=List.all_eq_true.1 hu.2 0 (by rw [hn];decide)
   rw [hj] at this
   simpa using this
  ·cases hb
 refine ⟨by rw [zAJ];exact hFl,by simp;omega,rfl,?_,?_,hm,m.le_refl,Pres.refl _ _,?_,?_,fun b o u h=>.inl h,fun j _=>rfl⟩
 ·intro i hi
  have e1:(zAl (as.map zNo++List.replicate (E.L-as.length) Ct.un) base (match ioOf as with|some cs=>cs.map fun x=>Ct.pv (.one x)|none=>[])).getD i .un=(as.map zNo++List.replicate (E.L-as.length) Ct.un).getD i .un:=by
   cases hc:ioOf as with
   |none=>rfl
   |some cs=>
    have:=hbase cs hc
    rw [zAp,if_neg (by omega)]
  rw [e1]
  by_cases hia:i < as.length
  ·rw [List.getD_eq_getElem?_getD,List.getElem?_append_left (by simpa using hia),List.getElem?_map,List.getElem?_eq_getElem hia]
   simp only [Option.map_some,Option.getD_some]
   obtain ⟨u,h1,h2⟩:=ha.get i as[i] (List.getElem?_eq_getElem hia)
   have e2:(us.toArray++Array.replicate (E.N-us.toArray.size) undef).getD i undef=u:=by
    rw [Array.getD_eq_getD_getElem?,Array.getElem?_append_left (by simp;omega)]
    simp [h1]
   rw [e2]
   cases hx:as[i] with
   |val x=>rw [hx] at h2;exact h2
   |own e k rows=>
    rw [hx] at h2
    obtain ⟨h3,u',h4,h5⟩:=yBk ha hno i e k rows (by rw [←hx];exact List.getElem?_eq_getElem hia)
    rw [h1] at h4
    injection h4 with h4
    subst h4
    refine OwnAt.rep h2 fun g hg=>?_
    rw [if_pos (h5.trans hg),h3]
   |io cs=>
    rw [hx] at h2
    obtain ⟨h3,u',h4,h5⟩:=yGm ha hni i cs (by rw [←hx];exact List.getElem?_eq_getElem hia)
    rw [h1] at h4
    injection h4 with h4
    subst h4
    obtain ⟨b,vs,T,rfl,_⟩:=h2
    exact ⟨b,by simpa [yMe] using h5,rfl⟩
  ·rw [List.getD_eq_getElem?_getD,List.getElem?_append_right (by simpa using Nat.le_of_not_lt hia),List.getElem?_replicate]
   split<;>trivial
 ·intro j bn hj
  by_cases hj0:j=0
  ·subst hj0
   simp only [if_true]
   cases hc:ioOf as with
   |none=>
    rw [zNp hc]
    intro o ho
    have hlo:=wf.lo 0 bn hj
    simp only [hc,zAl]
    rw [List.getD_eq_getElem?_getD,List.getElem?_append_right (by simp;omega),List.getElem?_replicate]
    left;split<;>rfl
   |some cs=>
    rw [hc] at hio
    obtain ⟨_,b,vs,T,h1,h2,h3,h4⟩:=yDT ha hc
    rw [hio.2] at hj
    injection hj with hj
    subst hj
    have:=hbase cs hc
    rw [h1]
    refine ⟨?_,h3,vs,T,h2,?_,?_⟩
    ·simp only;rw [if_neg (fun h=>hd b h h1),if_pos trivial]
    ·simpa using h4.length
    ·intro o ho
     simp only at ho ⊢
     rw [zAp,if_pos (by simp;omega)]
     have e:base+o-base=o:=by omega
     have hvl:vs.toList.length=cs.length:=h4.length
     rw [e,List.getD_eq_getElem?_getD,List.getElem?_map,List.getElem?_eq_getElem ho]
     have hlt:o < vs.toList.length:=by omega
     have hu:vs.getD o undef=vs.toList[o]:=by
      rw [Array.getD_eq_getD_getElem?,←Array.getElem?_toList,List.getElem?_eq_getElem hlt];rfl
     rw [hu]
     exact h4.get _ _ _ (List.getElem?_eq_getElem ho) (List.getElem?_eq_getElem hlt)
  ·simp only [hj0,if_false]
   intro o ho
   have hlo:=wf.lo j bn hj
   have hout:∀ cs,ioOf as=some cs→¬ (base≤bn.1+o∧bn.1+o < base+cs.length):=by
    intro cs hc
    rw [hc] at hio
    have:=wf.ap j 0 _ _ hj hio.2 hj0
    simp only at this
    omega
   rw [zAp]
   rw [if_neg]
   ·rw [List.getD_eq_getElem?_getD,List.getElem?_append_right (by simp;omega),List.getElem?_replicate]
    left;split<;>rfl
   ·cases hc:ioOf as with
    |none=>simp;omega
    |some cs=>intro h;exact hout cs hc (by simp at h;omega)
 ·intro b t hb
  refine .inr ?_
  split at hb
  ·rename_i h;exact .inl h
  ·split at hb
   ·rename_i h;exact .inr h
   ·cases hb
 ·intro b t hb
  split at hb
  ·rename_i h
   obtain ⟨i,e,k,rows,u,_,_,h5,h6⟩:=zQm ha h
   exact h6.lt h5
  ·split at hb
   ·rename_i h
    cases hc:ioOf as with
    |none=>rw [zNp hc] at h;cases h
    |some cs=>
     obtain ⟨_,b',vs,T,h1,h2,_⟩:=yDT ha hc
     rw [h] at h1
     injection h1 with h1
     subst h1
     exact (Array.getElem?_eq_some_iff.1 h2).1
   ·cases hb
theorem zVE:∀ {as:List AV} {cs:List PV},ioOf as=some cs→zPS as=cs.length
 |[],cs,h=>by simp [ioOf] at h
 |y::ys,cs,h=>by
  cases y with
  |io cs'=>simp only [ioOf,Option.some.injEq] at h;subst h;rfl
  |val x=>exact zVE (as:=ys) h
  |own e k rows=>exact zVE (as:=ys) h
mutual
def PV.fits:PV→Prop
 |.v x=>zEA x=true
 |.sl _ rows=>rows.length≤maxLen∧yBl rows
 |.nl _=>True
 |.fp cs=>zOF cs
 |.clo _ caps=>zOF caps
 |.any=>True
def zOF:List PV→Prop
 |[]=>True
 |x::xs=>x.fits∧zOF xs
def yBl:List (List PV)→Prop
 |[]=>True
 |r::rs=>zOF r∧yBl rs
end
def PVal.fits:PVal→Prop
 |.one x=>x.fits
 |.agg cs=>zOF cs
def AV.fits:AV→Prop
 |.val x=>x.fits
 |.own _ _ rows=>rows.length≤maxLen∧yBl rows
 |.io cells=>zOF cells
def AVs.fits:List AV→Prop
 |[]=>True
 |x::xs=>x.fits∧AVs.fits xs
mutual
theorem Rp.fits:∀ (x:PV) (u:Value),Rp m x u→x.fits
 |.v _,_,h=>by simp only [Rp] at h;simp only [PV.fits];exact h.2
 |.sl k rows,_,h=>by
  simp only [Rp] at h
  obtain ⟨A,c,_,h2,h3,h4⟩:=h
  simp only [PV.fits]
  refine ⟨Nat.le_trans h2 h3,?_⟩
  rcases h4 with h4|⟨b,o,_,h5⟩
  ·subst h4;simp only [yBl]
  ·exact RpRows.fits rows b k o h5
 |.nl _,_,_=>by simp only [PV.fits]
 |.fp cs,_,h=>by
  simp only [Rp] at h
  obtain ⟨b,o,_,h2⟩:=h
  simp only [PV.fits]
  exact RpAt.fits cs b o h2
 |.clo f caps,_,h=>by
  simp only [Rp] at h
  obtain ⟨us,_,h2⟩:=h
  simp only [PV.fits]
  exact RpL.fits caps us h2
 |.any,_,_=>by simp only [PV.fits]
theorem RpAt.fits:∀ (cs:List PV) (b o:Nat),RpAt m b o cs→zOF cs
 |[],_,_,_=>by simp only [zOF]
 |x::xs,b,o,h=>by
  simp only [RpAt] at h
  obtain ⟨⟨u,_,h2⟩,h3⟩:=h
  simp only [zOF]
  exact ⟨Rp.fits x u h2,RpAt.fits xs b (o+1) h3⟩
theorem RpRows.fits:∀ (rows:List (List PV)) (b k o:Nat),RpRows m b k o rows→yBl rows
 |[],_,_,_,_=>by simp only [yBl]
 |r::rs,b,k,o,h=>by
  simp only [RpRows] at h
  obtain ⟨⟨_,h2⟩,h3⟩:=h
  simp only [yBl]
  exact ⟨RpAt.fits r b o h2,RpRows.fits rs b k (o+k) h3⟩
theorem RpL.fits:∀ (cs:List PV) (us:List Value),RpL m cs us→zOF cs
 |[],_,_=>by simp only [zOF]
 |x::xs,_,h=>by
  simp only [RpL] at h
  obtain ⟨u,us',_,h2,h3⟩:=h
  simp only [zOF]
  exact ⟨Rp.fits x u h2,RpL.fits xs us' h3⟩
end
theorem ArgRep.fits {x:AV} {u:Value} (h:ArgRep m w x u):x.fits:=by
 cases x with
 |val x=>
  cases x with
  |one x=>exact Rp.fits x u h
  |agg cs=>obtain ⟨us,_,h2⟩:=h;exact RpL.fits cs us h2
 |own e k rows=>
  have:=Rp.fits _ _ (OwnAt.rp h)
  simp only [PV.fits] at this
  exact this
 |io cells=>obtain ⟨b,cs,T,_,_,_,h2⟩:=h;exact RpL.fits _ _ h2
theorem ArgsRep.fits:∀ {as:List AV} {us:List Value},ArgsRep m w as us→AVs.fits as
 |[],_,_=>trivial
 |x::xs,_,h=>by
  simp only [ArgsRep] at h
  obtain ⟨u,us',_,h2,h3⟩:=h
  exact ⟨h2.fits,ArgsRep.fits h3⟩
theorem zSM {f:FuncId} {fn:Func} {c:Code} (hf:P.funcs[f]?=some fn) (hb:fn.body=some c) (hcall:zCs P f=true) (hE':(E.ok&&E.unaOk)=true) (hN:E.N=fn.ntmps)
  {h:HCode} (hk:zCV P E c h=true)
  {rs:List RSrc} (hrs:zEN P E rs fn.results.toList=true) {base:Nat} {as:List AV} (hfo:zYu E base as) {r:RV} (hW0:AVs.fits as→hwp P h (yED E base as rs r) (F0 E base as)) (hov:∀ x,r.res=.ov x→zVC as=0:=by intro x h;cases h<;>rfl):Contract P f as r:=by
 have hE:=Bool.and_eq_true_iff.1 hE'
 have wf:=Env.wf_of_ok hE.1
 refine ⟨hcall,fun m w us hm ha hd hG0 hGR=>?_⟩
 have hW:=hW0 ha.fits
 have h0:=zYw hE.2 wf hfo hm ha hd hG0 hGR
 have hc:=zJC wf c h _ _ _ _ hk hW h0
 refine calls_of_wp hf hb ?_
 rw [←hN]
 refine wp_mono hc ?_
 have hio:=hfo.2.2.2
 have common:∀ {m':Mem} {β:Bx} {ow:Ow} {F:List Ct} {a':Act} {w':World},
   InvG E {w0:=w,m0:=m,R0:=zNi as us,b0:=fun j=>if j=0 then ioB as us else none,g0:=hG0,gR:=hGR} m' β ow F a' w'→
   m.le m'∧MemOk m' w'∧Pres (zNi as us) w w'∧(∀ b o u,m' b o=some u→m b o=some u∨w.heap.size≤b∨zHV as us=some b)∧
   (∀ b,ioB as us=some b→ow b=some (.box 0)∧∀ io:Option (List PV),(∀ l,io=some l→∀ cs,ioOf as=some cs→zAM F base cs.length=some l)→yMf m' w' b (zPS as) io):=by
  intro m' β ow F a' w' hG
  have key:∀ b,ioB as us=some b→∃ cs,ioOf as=some cs∧E.Γ[0]?=some (base,cs.length)∧BoxRep m' w' ow F 0 (base,cs.length) (some b):=by
   intro b hb
   cases hc:ioOf as with
   |none=>rw [zNp hc] at hb;cases hb
   |some cs=>
    rw [hc] at hio
    have hB:=hG.boxes 0 _ hio.2
    have hβ:β 0=some b:=by rw [hG.fix 0 (by rw [hio.1];exact Nat.one_pos)];simp only [if_true];exact hb
    rw [hβ] at hB
    exact ⟨cs,rfl,hio.2,hB⟩
  refine ⟨hG.mle,hG.mem,hG.pres,fun b o u hu=>?_,fun b hb=>?_⟩
  ·rcases hG.new b o u hu with g|g|g
   ·exact .inl g
   ·exact .inr (.inl g)
   ·rcases g with g|g
    ·exact .inr (.inr g)
    ·obtain ⟨cs,_,_,hB⟩:=key b g
     have:=hB.2.1 o
     rw [hu] at this
     cases this
  ·obtain ⟨cs,hc,hj,hB⟩:=key b hb
   refine ⟨hB.1,fun io hl=>?_⟩
   rw [zVE hc]
   refine ⟨hB.2.1,?_⟩
   cases io with
   |none=>
    obtain ⟨h1,h2,vs,T,h3,h4,h5⟩:=hB
    exact ⟨vs,T,h3,h4,fun l e=>by cases e⟩
   |some l=>
    obtain ⟨vs,T,h3,h4,h5⟩:=zH1 hB (hl l rfl cs hc)
    exact ⟨vs,T,h3,h4,fun l' e=>by injection e with e;subst e;exact h5⟩
 have fin:∀ {F:List Ct} {a':Act} {w':World},(zKj F rs r.res∧∀ cs,ioOf as=some cs→zAM F base cs.length=some r.io)→
   Inv E {w0:=w,m0:=m,R0:=zNi as us,b0:=fun j=>if j=0 then ioB as us else none,g0:=hG0,gR:=hGR} F a' w'→
   a'.defers=[]∧∃ v,(results fn a'.tmps).run P w'=.ok v w'∧yJn m w as us r (.returned v) w':=by
  rintro F a' w' ⟨hr,hi⟩ ⟨m',β,ow,hG⟩
  obtain ⟨c1,c2,c3,c4,c5⟩:=common hG
  refine ⟨hG.dfr,?_⟩
  have hmk:∀ v,zYn m' w w' (zHV as us) r.res (.returned v)→yJn m w as us r (.returned v) w':=by
   intro v hv
   refine ⟨m',c1,c2,c3,c4,fun b hb=>(c5 b hb).2 _ ?_,hv⟩
   intro l hl cs hcs
   unfold Res.ioOf at hl
   split at hl
   ·cases hl
   ·injection hl with hl;rw [←hl];exact hi cs hcs
  cases hres:r.res with
  |val x=>
   rw [hres] at hr
   simp only [zKj] at hr
   split at hr
   ·rename_i r1
    obtain ⟨us',h1,h2⟩:=zG1 hG hrs (xs:=[x]) (by simp only [yBj];exact ⟨hr,trivial⟩)
    obtain ⟨u,us'',rfl,h3,h4⟩:=h2
    simp only [RpVL] at h4
    subst h4
    exact ⟨_,h1,hmk _ (by rw [hres];exact ⟨u,rfl,h3⟩)⟩
   ·exact hr.elim
  |own e k rows=>
   rw [hres] at hr
   simp only [zKj] at hr
   split at hr
   ·rename_i t
    have hlt:t < E.N:=by
     cases hl:fn.results.toList with
     |nil=>rw [hl] at hrs;simp [zEN] at hrs
     |cons s ss=>
      rw [hl] at hrs
      simp only [zEN,Bool.and_eq_true] at hrs
      cases s with
      |tmp t'=>have:=hrs.1;simp only [zVD,Bool.and_eq_true,decide_eq_true_eq] at this;exact this.2
      |cell x y=>have:=hrs.1;simp [zVD] at this
    have hs:=hG.slots t hlt
    rw [hr] at hs
    obtain ⟨us',h1,h2⟩:=zG1 hG hrs (xs:=[.one (.sl k rows)]) (by simp only [yBj,rsV,zAf,hr];exact ⟨⟨trivial,.inl rfl⟩,trivial⟩)
    obtain ⟨u,us'',rfl,h3,h4⟩:=h2
    simp only [RpVL] at h4
    subst h4
    refine ⟨_,h1,?_⟩
    have hu:u=a'.tmps.getD t undef:=by
     have e:results fn a'.tmps=(do let vs ←fn.results.mapM (rdR a'.tmps);pure (if h:vs.size=1 then vs[0] else .tuple vs)):=by unfold results;congr
     cases hl:fn.results.toList with
     |nil=>rw [hl] at hrs;simp [zEN] at hrs
     |cons s ss=>
      rw [hl] at hrs
      simp only [zEN,Bool.and_eq_true] at hrs
      cases ss with
      |cons s2 ss2=>simp [zEN] at hrs
      |nil=>
       cases s with
       |cell x y=>have:=hrs.1;simp [zVD] at this
       |tmp t'=>
        have h5:=hrs.1
        simp only [zVD,Bool.and_eq_true,beq_iff_eq,decide_eq_true_eq] at h5
        obtain ⟨rfl,_⟩:=h5
        rw [e,Array.mapM_eq_mapM_toList,hl] at h1
        simp [rdR] at h1
        rw [Array.getD_eq_getD_getElem?];exact h1.symm
    subst hu
    refine hmk _ ?_
    rw [hres]
    refine ⟨_,rfl,OwnRep.at_ hs,fun g hg=>?_⟩
    have hg1:=(hs.2 g hg).1
    rcases hG.own g _ hg1 with h6|h6|h6
    ·exact .inl h6
    ·exact .inr h6
    ·rw [(c5 g h6).1] at hg1;cases hg1
   ·exact hr.elim
  |tup xs=>
   rw [hres] at hr
   simp only [zKj] at hr
   split at hr
   ·exact hr.elim
   ·rename_i hne
    obtain ⟨us',h1,h2⟩:=zG1 hG hrs hr
    have hl1:us'.length=xs.length:=RpVL.length h2
    have hl2:rs.length=xs.length:=rsVs_length hr
    match us',h1,h2,hl1 with
    |[],h1,h2,_=>exact ⟨_,h1,hmk _ (by rw [hres];exact ⟨[],rfl,h2⟩)⟩
    |[u],h1,h2,hl1=>
     exfalso
     match rs,hne,hl2 with
     |[x],hne,_=>exact hne x rfl
     |[],_,h=>simp at h hl1;omega
     |_::_::_,_,h=>simp at h hl1;omega
    |u::v::l,h1,h2,_=>exact ⟨_,h1,hmk _ (by rw [hres];exact ⟨u::v::l,rfl,h2⟩)⟩
  |pan v=>rw [hres] at hr;exact hr.elim
  |ov x=>
   rw [hres] at hr
   have hno:=hov x hres
   have hfresh:∀ (i g:Nat),ow g=some (.key i)→w.heap.size≤g:=by
    intro i g hg
    rcases hG.own g _ hg with h6|h6|h6
    ·exact h6
    ·exact (no_ownB hno h6).elim
    ·rw [(c5 g h6).1] at hg;cases hg
   simp only [zKj] at hr
   split at hr
   ·rename_i t
    have hlt:t < E.N:=by
     cases hl:fn.results.toList with
     |nil=>rw [hl] at hrs;simp [zEN] at hrs
     |cons s ss=>
      rw [hl] at hrs
      simp only [zEN,Bool.and_eq_true] at hrs
      cases s with
      |tmp t'=>have:=hrs.1;simp only [zVD,Bool.and_eq_true,decide_eq_true_eq] at this;exact this.2
      |cell x y=>have:=hrs.1;simp [zVD] at this
    have hs:=hG.slots t hlt
    rw [hr] at hs
    obtain ⟨fp,k1,k2,k3⟩:=hs
    refine ⟨a'.tmps.getD t undef,res_one hrs (fun s hs1=>?_),hmk _ (by rw [hres];exact ⟨a'.tmps.getD t undef,fp,rfl,k1,k2,fun g hg=>⟨hfresh t g (k3 g hg).1,(k3 g hg).2⟩⟩)⟩
    cases s with
    |cell x y=>simp [zVD] at hs1
    |tmp t'=>
     simp only [zVD,Bool.and_eq_true,beq_iff_eq,decide_eq_true_eq] at hs1
     obtain ⟨rfl,_⟩:=hs1
     rfl
   ·rename_i t j bs off n agg
    obtain ⟨e1,cs,e2,rfl⟩:=hr
    have hsrc:∃ s,fn.results.toList=[s]∧zVD P E (.cellB t j bs off n agg) s=true:=by
     cases hl:fn.results.toList with
     |nil=>rw [hl] at hrs;simp [zEN] at hrs
     |cons s ss=>
      rw [hl] at hrs
      cases ss with
      |nil=>simp only [zEN,Bool.and_eq_true] at hrs;exact ⟨s,rfl,hrs.1⟩
      |cons s2 ss=>simp [zEN] at hrs
    obtain ⟨s,_,hs1⟩:=hsrc
    cases s with
    |tmp t'=>simp [zVD] at hs1
    |cell b ty=>
     have hs1':=hs1
     simp only [zVD,Bool.and_eq_true,beq_iff_eq,decide_eq_true_eq,Bool.or_eq_true] at hs1'
     obtain ⟨⟨⟨⟨⟨rfl,ht⟩,hb⟩,ha⟩,hn⟩,h1⟩:=hs1'
     obtain ⟨nn,hj,hle⟩:=zEJ hb
     obtain ⟨bb,hbb,hv⟩:=zC4 hG (x:=.t t) (y:=.tmp t) (by simp [zAc,ht]) e1
     have hv':a'.tmps.getD t undef=_:=hv
     have hB:=hG.boxes _ _ hj
     rw [hbb] at hB
     obtain ⟨us',fp,k1,k2,k3,k4,k5⟩:=yF1 hB n off hle cs e2
     have hrun:=zBf (P:=P) (w:=w') ha hn h1 (us:=us') (b:=bb) (o:=off) k1 k5
     have hfp:∀ g∈fp,w.heap.size≤g∧∀ o,m' g o=none:=fun g hg=>by
      obtain ⟨⟨i,_,_,i3,_⟩,i5⟩:=k4 g hg
      exact ⟨hfresh i g i3,i5⟩
     refine ⟨if agg then .agg us'.toArray else us'.headD undef,res_one hrs (fun s hs2=>?_),hmk _ (by rw [hres];exact ⟨if agg then .agg us'.toArray else us'.headD undef,fp,rfl,yDA k2 (by rw [k1];exact h1),k3,hfp⟩)⟩
     ·cases s with
      |tmp t'=>simp [zVD] at hs2
      |cell b' ty'=>
       have hs2':=hs2
       simp only [zVD,Bool.and_eq_true,beq_iff_eq,decide_eq_true_eq,Bool.or_eq_true] at hs2'
       obtain ⟨⟨⟨⟨⟨rfl,_⟩,_⟩,ha'⟩,hn'⟩,_⟩:=hs2'
       have hrun':=zBf (P:=P) (w:=w') ha' hn' h1 (us:=us') (b:=bb) (o:=off) k1 k5
       simp only [rdR,hv',asAddr,Sem.run_bind,Sem.run_pure,Result.andThen_ok,hrun']
   ·exact hr.elim
 rintro e a' w' ⟨F,hq,hI⟩
 cases e with
 |normal=>exact fin hq hI
 |ret=>exact fin hq hI
 |panic ch=>
  obtain ⟨v,hv,rfl⟩:=hq
  obtain ⟨m',β,ow,hG⟩:=hI
  obtain ⟨c1,c2,c3,c4,c5⟩:=common hG
  refine ⟨hG.dfr,m',c1,c2,c3,c4,fun b hb=>(c5 b hb).2 _ ?_,?_⟩
  ·intro l hl
   simp only [Res.ioOf,hv] at hl
   cases hl
  ·rw [hv];rfl
 |exit id=>exact hq.elim
 |goto l=>exact hq.elim
 |outgrown=>exact hq.elim
where
 no_ownB:∀ {as:List AV} {us:List Value} {b:Nat},zVC as=0→zHV as us≠some b
  |[],us,b,_=>by simp [zHV]
  |x::as,[],b,_=>by simp [zHV]
  |.own _ _ _::as,u::us,b,h=>by simp [zVC] at h
  |.val _::as,u::us,b,h=>by simpa [zHV] using no_ownB (as:=as) (us:=us) (by simpa [zVC] using h)
  |.io _::as,u::us,b,h=>by simpa [zHV] using no_ownB (as:=as) (us:=us) (by simpa [zVC] using h)
 res_one {fn:Func} {r:RSrc} (hrs:zEN P E [r] fn.results.toList=true) {tmps:Array Value} {w':World} {u:Value} (h:∀ s,zVD P E r s=true→(rdR tmps s).run P w'=.ok u w'):(results fn tmps).run P w'=.ok u w':=by
  have e:results fn tmps=(do let vs ←fn.results.mapM (rdR tmps);pure (if h:vs.size=1 then vs[0] else .tuple vs)):=by unfold results;congr
  cases hl:fn.results.toList with
  |nil=>rw [hl] at hrs;simp [zEN] at hrs
  |cons s ss=>
   rw [hl] at hrs
   cases ss with
   |cons s2 ss2=>simp [zEN] at hrs
   |nil=>
    simp only [zEN,Bool.and_eq_true] at hrs
    have h1:=h s hrs.1
    rw [e,Array.mapM_eq_mapM_toList,hl]
    simp [h1]
 RpVL.length {m:Mem}:∀ {xs:List PVal} {us:List Value},RpVL m xs us→us.length=xs.length
  |[],us,h=>by simp only [RpVL] at h;subst h;rfl
  |x::xs,us,h=>by
   obtain ⟨u,us',rfl,_,h3⟩:=h
   simp [RpVL.length h3]
 rsVs_length {F:List Ct}:∀ {rs:List RSrc} {xs:List PVal},yBj F rs xs→rs.length=xs.length
  |[],xs,h=>by simp only [yBj] at h;subst h;rfl
  |r::rs,[],h=>by simp [yBj] at h
  |r::rs,x::xs,h=>by simp only [yBj] at h;simp [rsVs_length h.2]
end
end Go.Hx
end

section
/-
  THE ABSTRACT LAYER, THIRTEENTH TEXT: the rules by which simp walks the abstract code. Generic over the program. No condition.
-/
namespace Go.Hx
open Go.RowKit
variable [Glob]
section
variable {P:Program} {h h1 h2:HCode} {Q:Exit→List Ct→Prop} {K:List Ct→Prop} {X:Value→List Ct→Prop} {F F':List Ct}
def yMQ (P:Program) (os:List HO) (K:List Ct→Prop) (X:Value→List Ct→Prop):List Ct→Prop:=fun F=>yMk P os F K X
def dK (P:Program) (ds:List DO) (N:List Ct→Prop) (X:Value→Prop):List Ct→Prop:=fun F=>dW P ds F N X
def dX (l:Bool) (X:Value→Prop):Value→List Ct→Prop:=fun v _=>l=true∧X v
def ghK (post:List Gh) (K:List Ct→Prop):List Ct→Prop:=fun F=>ghW F K post
def nrm (Q:Exit→List Ct→Prop):List Ct→Prop:=fun F=>Q .normal F
def yN0 (Q:Exit→List Ct→Prop):Value→List Ct→Prop:=fun v F=>Q (.panic [{v,recovered:=false}]) F
def yN1 (ds:List DO) (F:List Ct) (Q:Exit→List Ct→Prop):Value→Prop:=fun v=>∀ F',AgW (dsW ds) F F'→Q (.panic [{v,recovered:=false}]) F'
def yHM (P:Program) (os:List HO) (K:List Ct→Prop):List Ct→Prop:=fun F=>yJo P os F K
def bkK (F:List Ct) (ds:List Nat) (post:List Gh) (Q:Exit→List Ct→Prop):List Ct→Prop:=fun F1=>ghW (yBe F F1 ds) (nrm Q) post
theorem yMR:hwp P .skip Q F=Q .normal F:=rfl
theorem yN2 {ops:List HO} {post:List Gh}:hwp P (.reg ops false post) Q F=yMQ P ops (ghK post (nrm Q)) (yN0 Q) F:=rfl
theorem yN3 {ds:List DO} {post:List Gh}:hwp P (.drg ds post) Q F=dK P ds (ghK post (nrm Q)) (yN1 ds F Q) F:=rfl
theorem yMS {pre:List Gh} {ops:List HO} {post:List Gh}:hwp P (.regG pre ops post) Q F=ghW F (fun F0=>yMQ P ops (ghK post (nrm Q)) (yN0 Q) F0) pre:=rfl
theorem yMT {pre:List Gh} {ds:List DO} {post:List Gh}:hwp P (.drgG pre ds post) Q F=ghW F (fun F0=>dK P ds (ghK post (nrm Q)) (yN1 ds F0 Q) F0) pre:=rfl
theorem yN4 {i:Nat} {ops:List HO} {draw:Bool} {post:List Gh}:hwp P (.rdr i ops draw post) Q F=(match F.getD i .un with
    | .stk e k rows=>yHM P ops (bkK F (yHL ops) post Q) (F.set i (.own e k rows))
    | _=>False):=rfl
theorem yN5:yMQ P [] K X F=K F:=rfl
theorem yMU {o:HO} {os:List HO}:yMQ P (o::os) K X F=hoW P o F (yMQ P os K X) X:=rfl
theorem yMV {N:List Ct→Prop} {X0:Value→Prop}:dK P [] N X0 F=N F:=rfl
theorem yKr {i:Nat} {l:Bool} {h:HO} {ds:List DO} {N:List Ct→Prop} {X0:Value→Prop}:dK P (⟨i,l,h⟩::ds) N X0 F=hoW P h F (dK P ds N X0) (dX l X0):=rfl
theorem yPx {post:List Gh}:ghK post K F=ghW F K post:=rfl
theorem yN6:nrm Q F=Q .normal F:=rfl
theorem yMW {v:Value}:yN0 Q v F=Q (.panic [{v,recovered:=false}]) F:=rfl
theorem yMX {v:Value} {ds:List DO}:yN1 ds F Q v=∀ F',AgW (dsW ds) F F'→Q (.panic [{v,recovered:=false}]) F':=rfl
theorem yPy {l:Bool} {X0:Value→Prop} {v:Value}:dX l X0 v F=(l=true∧X0 v):=rfl
theorem yPz {F0:List Ct} {ds:List Nat} {post:List Gh}:bkK F0 ds post Q F=ghW (yBe F0 F ds) (nrm Q) post:=rfl
theorem yN7 {d e k:Nat}:hoW P ⟨none,.nlk d e k⟩ F K X=K (F.set d (.stk e k [])):=rfl
theorem yN8 {d x:Nat}:hoW P ⟨none,.mvk d x⟩ F K X=(match F.getD x .un with
    | .stk e k rows=>d≠x∧K ((F.set x (.hdr rows.length)).set d (.stk e k rows))
    | _=>False):=rfl
theorem yN9 {d x:Nat} {hi:Opd}:hoW P ⟨none,.trk d x hi⟩ F K X=(match F.getD x .un,(zAf F hi).pv? with
    | .stk e k rows,some (.one (.v (.int _ n)))=>d≠x∧(zAf F hi).need∧0≤n∧n≤rows.length∧K ((F.set x (.hdr rows.length)).set d (.stk e k (rows.take n.toNat)))
    | _,_=>False):=rfl
theorem yOa {d e k x:Nat} {y:Opd}:hoW P ⟨none,.apk d e k x y⟩ F K X=(match F.getD x .un,(zAf F y).pv? with
    | .stk e' k' rows,some (.one (.sl k'' rs))=>x≠d∧e'=e∧k'=k∧k''=k∧(zAf F y).need∧(rows.length+rs.length) * 4096≤140737488355328∧K ((F.set x (.hdr rows.length)).set d (.stk e k (rows++rs)))
    | _,_=>False):=rfl
theorem yOb {d:Nat} {ng:Bool} {x:Opd}:hoW P ⟨none,.isn d ng x⟩ F K X=(match (zAf F x).pv? with
    | some (.one (.sl _ rows))=>(zAf F x).need∧∀ b:Bool,(rows≠[]→b=false)→K (F.set d (.pv (bv (if ng then !b else b))))
    | some (.one (.nl _))=>(zAf F x).need∧K (F.set d (.pv (bv (!ng))))
    | _=>False):=rfl
theorem yOc {F1:List Ct}:yBe F F1 []=F:=rfl
theorem yMY {F1:List Ct} {d:Nat} {ds:List Nat}:yBe F F1 (d::ds)=yBe (F.set d (yH8 (F1.getD d .un))) F1 ds:=rfl
theorem yOd {a b:HCode}:hwp P (.seq a b) Q F=hwp P a (zVB (hwp P b Q) Q) F:=rfl
theorem zAa {x:Opd} {a b:HCode} {t:Bool} (e:(zAf F x).pv?=some (.one (.v (.bool t)))) (n:(zAf F x).need) (ht:t=true→hwp P a Q F) (hf:t=false→hwp P b Q F):hwp P (.cond x a b) Q F:=by
  simp only [hwp,e]
  exact ⟨n,ht,hf⟩
theorem zKk {x:Opd} {a b:HCode} (e:(zAf F x).pv?=some (.one (.v (.bool true)))) (n:(zAf F x).need) (ht:hwp P a Q F):hwp P (.cond x a b) Q F:=
  zAa e n (fun _=>ht) (fun h=>by cases h)
theorem zHm {x:Opd} {a b:HCode} (e:(zAf F x).pv?=some (.one (.v (.bool false)))) (n:(zAf F x).need) (hf:hwp P b Q F):hwp P (.cond x a b) Q F:=
  zAa e n (fun h=>by cases h) (fun _=>hf)
theorem yKs {id:Nat} {a:HCode}:hwp P (.block id a) Q F=hwp P a (zG0 id Q) F:=rfl
theorem yMZ {id:Nat}:hwp P (.exit id) Q F=Q (.exit id) F:=rfl
theorem yOe:hwp P .ret Q F=Q .ret F:=rfl
theorem yKt {a:HCode}:hwp P (.scope a) Q F=hwp P a (ngQ Q) F:=rfl
theorem yKu:hwp P .label Q F=Q .normal F:=rfl
theorem yOf:ngQ Q .normal F=Q .normal F:=rfl
theorem yOg {id:Nat}:ngQ Q (.exit id) F=Q (.exit id) F:=rfl
theorem yOh:ngQ Q .ret F=Q .ret F:=rfl
theorem yOi {ch:List PanicEntry}:ngQ Q (.panic ch) F=Q (.panic ch) F:=rfl
theorem yKv:zVB K Q .normal F=K F:=rfl
theorem yKw {id:Nat}:zVB K Q (.exit id) F=Q (.exit id) F:=rfl
theorem yKx:zVB K Q .ret F=Q .ret F:=rfl
theorem yKy {ch:List PanicEntry}:zVB K Q (.panic ch) F=Q (.panic ch) F:=rfl
theorem yM0 {id:Nat}:zG0 id Q .normal F=Q .normal F:=rfl
theorem yM1 {id id':Nat}:zG0 id Q (.exit id') F=if id'=id then Q .normal F else Q (.exit id') F:=rfl
theorem yM2 {id:Nat}:zG0 id Q .ret F=Q .ret F:=rfl
theorem yM3 {id:Nat} {ch:List PanicEntry}:zG0 id Q (.panic ch) F=Q (.panic ch) F:=rfl
theorem yOj {d:Nat} {v:VOp}:hoW P ⟨none,.val d v⟩ F K X=((ev F v).1∧K (F.set d (ev F v).2)):=rfl
def zVF (T:Bool) (A B:Prop):Prop:=match T with
  | true=>A
  | false=>B
theorem yM4 {A B:Prop}:zVF true A B=A:=rfl
theorem yM5 {A B:Prop}:zVF false A B=B:=rfl
theorem yEE {T T':Bool} {A B:Prop} (h:T=T'):zVF T A B=zVF T' A B:=by rw [h]
attribute [congr] yEE
def gdV (o:Option Bool) (p:Prop×Ct) (d:Nat) (F:List Ct) (K:List Ct→Prop):Prop:=match o with
  | none=>False
  | some T=>match p.2 with
    | .pv x=>(T=true→p.1)∧K (F.set d (.gd T x))
    | c=>zVF T (p.1∧K (F.set d c)) (K (F.set d (.gd false (bv false))))
theorem yGn {o o':Option Bool} {p p':Prop×Ct} {d:Nat} (h1:o=o') (h2:p=p'):gdV o p d F K=gdV o' p' d F K:=by rw [h1,h2]
attribute [congr] yGn
theorem yIh {p:Prop×Ct} {d:Nat}:gdV none p d F K=False:=rfl
theorem yM6 {T:Bool} {A:Prop} {x:PVal} {d:Nat}:gdV (some T) (A,.pv x) d F K=((T=true→A)∧K (F.set d (.gd T x))):=rfl
theorem yM7 {T:Bool} {A:Prop} {d:Nat}:gdV (some T) (A,.un) d F K=zVF T (A∧K (F.set d .un)) (K (F.set d (.gd false (bv false)))):=rfl
theorem yKz {T:Bool} {A:Prop} {j off:Nat} {d:Nat}:gdV (some T) (A,.ptr j off) d F K=zVF T (A∧K (F.set d (.ptr j off))) (K (F.set d (.gd false (bv false)))):=rfl
theorem yM8 {T t:Bool} {A:Prop} {x:PVal} {d:Nat}:gdV (some T) (A,.gd t x) d F K=zVF T (A∧K (F.set d (.gd t x))) (K (F.set d (.gd false (bv false)))):=rfl
theorem yKA {T:Bool} {A:Prop} {xs:List PVal} {d:Nat}:gdV (some T) (A,.tup xs) d F K=zVF T (A∧K (F.set d (.tup xs))) (K (F.set d (.gd false (bv false)))):=rfl
theorem yKB {T:Bool} {A:Prop} {n:Nat} {d:Nat}:gdV (some T) (A,.hdr n) d F K=zVF T (A∧K (F.set d (.hdr n))) (K (F.set d (.gd false (bv false)))):=rfl
theorem yKC {T:Bool} {A:Prop} {b k n:Nat} {d:Nat}:gdV (some T) (A,.hdp b k n) d F K=zVF T (A∧K (F.set d (.hdp b k n))) (K (F.set d (.gd false (bv false)))):=rfl
theorem yKD {T:Bool} {A:Prop} {b k r f:Nat} {d:Nat}:gdV (some T) (A,.epp b k r f) d F K=zVF T (A∧K (F.set d (.epp b k r f))) (K (F.set d (.gd false (bv false)))):=rfl
theorem yKE {T:Bool} {A:Prop} {b:Nat} {d:Nat}:gdV (some T) (A,.mph b) d F K=zVF T (A∧K (F.set d (.mph b))) (K (F.set d (.gd false (bv false)))):=rfl
theorem yKF {T:Bool} {A:Prop} {e k:Nat} {rows:List (List PV)} {d:Nat}:gdV (some T) (A,.own e k rows) d F K=zVF T (A∧K (F.set d (.own e k rows))) (K (F.set d (.gd false (bv false)))):=rfl
theorem yKG {T:Bool} {A:Prop} {e k:Nat} {rows:List (List PV)} {d:Nat}:gdV (some T) (A,.stk e k rows) d F K=zVF T (A∧K (F.set d (.stk e k rows))) (K (F.set d (.gd false (bv false)))):=rfl
theorem yM9 {T:Bool} {A:Prop} {x:OVal} {d:Nat}:gdV (some T) (A,.ov x) d F K=zVF T (A∧K (F.set d (.ov x))) (K (F.set d (.gd false (bv false)))):=rfl
theorem yKH {T:Bool} {A:Prop} {d:Nat}:gdV (some T) (A,.una) d F K=zVF T (A∧K (F.set d .una)) (K (F.set d (.gd false (bv false)))):=rfl
attribute [go_sem] yIh yM6 yM7 yKz yM8 yKA yKB yKC yKD yKE yKF yKG yM9 yKH
theorem yKI {g:Nat×Bool} {d:Nat} {v:VOp}:hoW P ⟨some g,.val d v⟩ F K X=gdV (zDL F g) (ev F v) d F K:=by
  show (match zDL F g with
    | none=>False
    | some T=>match (ev F v).2 with
      | .pv x=>(T=true→(ev F v).1)∧K (F.set d (.gd T x))
      | _=>match T with
        | true=>(ev F v).1∧K (F.set d (ev F v).2)
        | false=>K (F.set d (.gd false (bv false))))=_
  unfold gdV
  cases zDL F g with
  | none=>rfl
  | some T=>
    generalize ev F v=p
    obtain ⟨A,c⟩:=p
    cases c<;>cases T<;>rfl
theorem yBm {g:Nat×Bool} {d:Nat} {x:Opd} {r j base:Nat} {pt:List (Opd×Nat)} {n:Nat} {agg:Bool}:hoW P ⟨some g,.vlp d x r j base pt n agg⟩ F K X=(match zDL F g with
    | none=>False
    | some T=>zVF T (hoW P ⟨none,.vlp d x r j base pt n agg⟩ F K X) (K (F.set d (.gd false (bv false))))):=rfl
theorem yOk:yHM P [] K F=K F:=rfl
theorem yOl {os:List HO} {d:Nat} {v:VOp}:yHM P (⟨none,.val d v⟩::os) K F=((ev F v).1∧yHM P os K (F.set d (ev F v).2)):=rfl
def gdD (o:Option Bool) (p:Prop×Ct) (d:Nat) (F:List Ct) (K:List Ct→Prop):Prop:=match o with
  | none=>False
  | some T=>match p.2 with
    | .pv x=>(T=true→p.1)∧K (F.set d (.gd T x))
    | _=>T=false∧K (F.set d (.gd T (bv false)))
theorem yGo {o o':Option Bool} {p p':Prop×Ct} {d:Nat} (h1:o=o') (h2:p=p'):gdD o p d F K=gdD o' p' d F K:=by rw [h1,h2]
attribute [congr] yGo
theorem yIi {p:Prop×Ct} {d:Nat}:gdD none p d F K=False:=rfl
theorem yNa {T:Bool} {A:Prop} {x:PVal} {d:Nat}:gdD (some T) (A,.pv x) d F K=((T=true→A)∧K (F.set d (.gd T x))):=rfl
theorem yNb {T:Bool} {A:Prop} {d:Nat}:gdD (some T) (A,.un) d F K=(T=false∧K (F.set d (.gd T (bv false)))):=rfl
theorem yKJ {T:Bool} {A:Prop} {j off:Nat} {d:Nat}:gdD (some T) (A,.ptr j off) d F K=(T=false∧K (F.set d (.gd T (bv false)))):=rfl
theorem yNc {T t:Bool} {A:Prop} {x:PVal} {d:Nat}:gdD (some T) (A,.gd t x) d F K=(T=false∧K (F.set d (.gd T (bv false)))):=rfl
theorem yKK {T:Bool} {A:Prop} {xs:List PVal} {d:Nat}:gdD (some T) (A,.tup xs) d F K=(T=false∧K (F.set d (.gd T (bv false)))):=rfl
theorem yKL {T:Bool} {A:Prop} {n:Nat} {d:Nat}:gdD (some T) (A,.hdr n) d F K=(T=false∧K (F.set d (.gd T (bv false)))):=rfl
theorem yKM {T:Bool} {A:Prop} {e k:Nat} {rows:List (List PV)} {d:Nat}:gdD (some T) (A,.own e k rows) d F K=(T=false∧K (F.set d (.gd T (bv false)))):=rfl
theorem yKN {T:Bool} {A:Prop} {e k:Nat} {rows:List (List PV)} {d:Nat}:gdD (some T) (A,.stk e k rows) d F K=(T=false∧K (F.set d (.gd T (bv false)))):=rfl
attribute [go_sem] yIi yNa yNb yKJ yNc yKK yKL yKM yKN
theorem yKO {os:List HO} {g:Nat×Bool} {d:Nat} {v:VOp}:yHM P (⟨some g,.val d v⟩::os) K F=gdD (zDL F g) (ev F v) d F (yHM P os K):=by
  show (match zDL F g with
    | none=>False
    | some T=>match (ev F v).2 with
      | .pv x=>(T=true→(ev F v).1)∧yHM P os K (F.set d (.gd T x))
      | _=>T=false∧yHM P os K (F.set d (.gd T (bv false))))=_
  unfold gdD
  cases zDL F g with
  | none=>rfl
  | some T=>
    generalize ev F v=p
    obtain ⟨A,c⟩:=p
    cases c<;>rfl
theorem zYx {os:List HO} {f:FuncId} {args:List (Opd×AM)} {d:Nat} {x:Value} (h1:(zBn F args).1) (h2:Contract P f (zBn F args).2 {res:=.val (.one (.v x))}) (h3:yHM P os K (F.set d (.pv (.one (.v x))))):yHM P (⟨none,.call (some d) f args⟩::os) K F:=
  ⟨h1,x,h2,h3⟩
theorem zAo {f:FuncId} {args:List (Opd×AM)} {d:Option Nat} {x:PVal} {io:List PV} (h1:(zBn F args).1) (h2:Contract P f (zBn F args).2 {res:=.val x,io:=io}) (h3:K (zSC (zAF F (some io) args) d (.pv x))):hoW P ⟨none,.call d f args⟩ F K X:=
  ⟨h1,_,h2,h3⟩
theorem zBI {f:FuncId} {args:List (Opd×AM)} {d:Option Nat} {e k:Nat} {rows:List (List PV)} {io:List PV} (h1:(zBn F args).1) (h2:Contract P f (zBn F args).2 {res:=.own e k rows,io:=io}) (h3:K (zSC (zAF F (some io) args) d (.own e k rows))):hoW P ⟨none,.call d f args⟩ F K X:=
  ⟨h1,_,h2,h3⟩
theorem zAR {f:FuncId} {args:List (Opd×AM)} {d:Option Nat} {x:PVal} {xs:List PVal} {io:List PV} (h1:(zBn F args).1) (h2:Contract P f (zBn F args).2 {res:=.tup (x::xs),io:=io}) (h3:K (zSC (zAF F (some io) args) d (.tup (x::xs)))):hoW P ⟨none,.call d f args⟩ F K X:=
  ⟨h1,_,h2,h3⟩
theorem zDS {f:FuncId} {args:List (Opd×AM)} {d:Option Nat} {io:List PV} (h1:(zBn F args).1) (h2:Contract P f (zBn F args).2 {res:=.tup [],io:=io}) (h3:K (zSC (zAF F (some io) args) d .un)):hoW P ⟨none,.call d f args⟩ F K X:=
  ⟨h1,_,h2,h3⟩
theorem zAr {g:Nat×Bool} {f:FuncId} {args:List (Opd×AM)} {d:Nat} {T:Bool} {x:PVal} (hg:zDL F g=some T) (h1:T=true→(zBn F args).1) (h2:T=true→Contract P f (zBn F args).2 {res:=.val x}) (h3:K (F.set d (.gd T x))):hoW P ⟨some g,.call (some d) f args⟩ F K X:=by
  show hoW P ⟨some g,.call (some d) f args⟩ F _ X
  unfold hoW
  simp only [hg]
  exact ⟨h1,x,h2,h3⟩
theorem zQo {g:Nat×Bool} {f:FuncId} {x0:Opd} {caps:List PV} {args:List (Opd×AM)} {d:Nat} {T:Bool} {x:PVal} (hg:zDL F g=some T) (e:(zAf F x0).pv?=some (.one (.clo f caps))) (n:T=true→(zAf F x0).need) (h1:T=true→(zBn F args).1)
    (h2:T=true→Contract P f ((zBn F args).2++caps.map fun c=>.val (.one c)) {res:=.val x}) (h3:K (F.set d (.gd T x))):hoW P ⟨some g,.callv (some d) x0 args⟩ F K X:=by
  unfold hoW
  simp only [hg,e]
  exact ⟨fun h=>⟨n h,h1 h⟩,x,h2,h3⟩
theorem zCu {f:FuncId} {x0:Opd} {caps:List PV} {args:List (Opd×AM)} {d:Option Nat} {x:PVal} {io:List PV} (e:(zAf F x0).pv?=some (.one (.clo f caps))) (n:(zAf F x0).need) (h1:(zBn F args).1)
    (h2:Contract P f ((zBn F args).2++caps.map fun c=>.val (.one c)) {res:=.val x,io:=io}) (h3:K (zSC (zAF F (some io) args) d (.pv x))):hoW P ⟨none,.callv d x0 args⟩ F K X:=by
  show opW P (.callv d x0 args) F _ X
  simp only [opW,e]
  exact ⟨n,h1,_,h2,h3⟩
theorem yGp {p q:Prop}:(p→p∧q)=(p→q):=propext ⟨fun h a=>(h a).2,fun h a=>⟨a,h a⟩⟩
theorem yIj (c:Ct) (F:List Ct):(c::F).getD 0 .un=c:=rfl
theorem yIk (c:Ct) (F:List Ct) (n:Nat):(c::F).getD (n+1) .un=F.getD n .un:=by simp
theorem yIl (c d:Ct) (F:List Ct):(c::F).set 0 d=d::F:=rfl
theorem yIm (c d:Ct) (F:List Ct) (n:Nat):(c::F).set (n+1) d=c::F.set n d:=rfl
theorem yIo:sets F []=F:=rfl
theorem yGq {i:Nat} {c:Ct} {l:List (Nat×Ct)}:sets F ((i,c)::l)=sets (F.set i c) l:=rfl
theorem zAn {a:HCode} {α:Type} (us:α→List (Nat×Ct)) (μ:α→Nat) (inv:α→Prop) (s0:α) (h0:Le F (sets F (us s0))) (h1:inv s0)
    (hr:∀ s,inv s→hwp P a (zVB (fun F2=>∃ s',μ s' < μ s∧inv s'∧Le F2 (sets F (us s'))) Q) (sets F (us s))):hwp P (.loop a) Q F:=
  ⟨fun n F'=>∃ s,μ s=n∧inv s∧F'=sets F (us s),⟨μ s0,_,h0,s0,rfl,h1,rfl⟩,by
    rintro n F1 ⟨s,rfl,hs,rfl⟩
    have e:(fun F2=>∃ n' F',n' < μ s∧Le F2 F'∧(fun n F'=>∃ s,μ s=n∧inv s∧F'=sets F (us s)) n' F')=(fun F2=>∃ s',μ s' < μ s∧inv s'∧Le F2 (sets F (us s'))):=by
      funext F2
      apply propext
      constructor
      · rintro ⟨n',F',h2,h3,s',rfl,h4,rfl⟩
        exact ⟨s',h2,h4,h3⟩
      · rintro ⟨s',h2,h3,h4⟩
        exact ⟨_,_,h2,h4,s',rfl,h3,rfl⟩
    rw [e]
    exact hr s hs⟩
theorem zBu:Le [] []=True:=by simp [Le]
theorem zAS {c d:Ct} {F G:List Ct}:Le (c::F) (d::G)=(leC c d∧Le F G):=by
  simp only [Le,List.cons.injEq,eq_iff_iff]
  constructor
  · rintro ⟨c',cs',⟨rfl,rfl⟩,h⟩;exact h
  · exact fun h=>⟨_,_,⟨rfl,rfl⟩,h⟩
theorem zCR {c:Ct}:leC c .un=True:=by simp [leC]
theorem zAT {c:Ct}:leC c c=True:=by simp [leC]
theorem zBb {c d:Ct} (h:c=d):leC c d:=.inr (.inl h.symm)
theorem yKP:leC (.pv (iv 0)) (.pv (iv ((0:Nat):Int)))=True:=by simp [leC]
theorem zBa {n m:Int} (h:n=m):leC (.pv (iv n)) (.pv (iv m)):=zBb (by rw [h])
theorem zQp {e k:Nat} {r r':List (List PV)} (h:r=r'):leC (.own e k r) (.own e k r'):=zBb (by rw [h])
theorem zBB {e k k':Nat}:leC (.pv (.one (.nl k))) (.own e k' []):=.inr (.inr rfl)
theorem yOm:ghW F K []=K F:=rfl
theorem yOn {j base n:Nat} {r:List Gh}:ghW F K (.frz j base n::r)=(match zAM F base n with
    | some cs=>ghW (zAl (F.map (yEA j cs)) base (List.replicate n .un)) K r
    | none=>False):=rfl
theorem yIp {l:List Nat} {r:List Gh}:ghW F K (.forget l::r)=ghW (zCh F l) K r:=rfl
theorem yOo:zCh F []=F:=rfl
theorem yNd {i:Nat} {r:List Nat}:zCh F (i::r)=zCh (F.set i .un) r:=rfl
theorem yOp {i:Nat}:zAl F i []=F:=rfl
theorem yNe {i:Nat} {c:Ct} {cs:List Ct}:zAl F i (c::cs)=zAl (F.set i c) (i+1) cs:=rfl
theorem yOq {d x:Nat}:hoW P ⟨none,.mvo d x⟩ F K X=(match F.getD x .un with
    | .own e k rows=>d≠x∧K ((F.set x (.pv (.one (.sl k rows)))).set d (.own e k rows))
    | _=>False):=rfl
theorem yOr {d e k:Nat}:hoW P ⟨none,.nlo d e k⟩ F K X=K (F.set d (.own e k [])):=rfl
theorem yOs {d j base off e k:Nat} {x:Opd}:hoW P ⟨none,.ldo d x j base off e k⟩ F K X=(match zAf F x,F.getD (base+off) .un with
    | .ptr j' off',.own e' k' rows=>j'=j∧off'=off∧e'=e∧k'=k∧K ((F.set (base+off) (.pv (.one (.sl k rows)))).set d (.own e k rows))
    | .ptr j' off',.pv (.one (.nl _))=>j'=j∧off'=off∧K (F.set d (.own e k []))
    | _,_=>False):=rfl
theorem yOt {j base off n:Nat} {x y:Opd}:hoW P ⟨none,.sto x j base off n y⟩ F K X=(match zAf F x,(zAf F y).pv? with
    | .ptr j' off',some p=>j'=j∧off'=off∧p.cells.length=n∧(zAf F y).need∧K (zAl F (base+off) (p.cells.map fun c=>.pv (.one c)))
    | _,_=>False):=rfl
theorem yOu {j base sz:Nat} {x y:Opd}:hoW P ⟨none,.std x j base sz y⟩ F K X=(match zAf F x,(zAf F y).pv? with
    | .ptr j' off',some p=>j'=j∧off' < sz∧p.cells.length=1∧(zAf F y).need∧K (zAl F (base+off') (p.cells.map fun c=>.pv (.one c)))
    | _,_=>False):=rfl
theorem yOv {j base off y:Nat} {x:Opd}:hoW P ⟨none,.stw x j base off y⟩ F K X=(match zAf F x,F.getD y .un with
    | .ptr j' off',.own e k rows=>j'=j∧off'=off∧K ((F.set y (.pv (.one (.sl k rows)))).set (base+off) (.own e k rows))
    | _,_=>False):=rfl
theorem yKQ {d j base:Nat} {cells:List PV}:hoW P ⟨none,.alloc d j base cells⟩ F K X=K (zAl ((F.map (zEe j)).set d (.ptr j 0)) base (cells.map fun c=>.pv (.one c))):=rfl
theorem yOw {d j base n:Nat} {x:Opd}:hoW P ⟨none,.box d j base n x⟩ F K X=(match (zAf F x).pv? with
    | some p=>p.cells.length=n∧(zAf F x).need∧K (zAl ((F.map (zEe j)).set d (.ptr j 0)) base (p.cells.map fun c=>.pv (.one c)))
    | none=>False):=rfl
theorem yOx {d e k x:Nat} {y:Opd}:hoW P ⟨none,.app d e k (.t x) y⟩ F K X=(match F.getD x .un,(zAf F y).pv? with
    | .own e' k' rows,some (.one (.sl k'' rs))=>x≠d∧e'=e∧k'=k∧k''=k∧(zAf F y).need∧zNj P e (rows.length+rs.length)∧K ((F.set x (.pv (.one (.sl k rows)))).set d (.own e k (rows++rs)))
    | _,_=>False):=rfl
theorem yOy {d e k:Nat} {parts:List Opd}:hoW P ⟨none,.bsl d e k parts⟩ F K X=((zDJ F k parts).1∧K (F.set d (.own e k (zDJ F k parts).2))):=rfl
theorem yOz {d e k:Nat}:hoW P ⟨none,.vnl d e k⟩ F K X=K (F.set d (.ov (.one (.os none e k [])))):=rfl
theorem yIq {pb:Option Nat} {e k:Nat} {rows:List (List OV)}:zSJ (.one (.os pb e k rows))=.hdr rows.length:=rfl
theorem yGr {cs:List OV}:zSJ (.agg cs)=.un:=rfl
theorem yEF:zSJ (.one .hole)=.un:=rfl
theorem yKR {x:PV}:zSJ (.one (.p x))=.un:=rfl
theorem yIr {b:Nat} {ks:List Value} {vs:List OV}:zSJ (.one (.mp b ks vs))=.un:=rfl
attribute [go_sem] yIq yGr yEF yKR yIr
theorem yOA {d x:Nat}:hoW P ⟨none,.vmv d x⟩ F K X=(match F.getD x .un with
    | .ov v=>d≠x∧K ((F.set x (zSJ v)).set d (.ov v))
    | _=>False):=rfl
theorem yOB {d e k x:Nat} {y:Opd}:hoW P ⟨none,.vap d e k x y⟩ F K X=(match F.getD x .un with
    | .ov (.one (.os _ e' k' rows))=>(∀ n,y=.t n→x≠n)∧e'=e∧k'=k∧(zSD F k y).1∧(rows.length+(zSD F k y).2.length) * 4096≤140737488355328∧K ((clr F (F.set x .un) y).set d (.ov (.one (.os none e k (rows++(zSD F k y).2)))))
    | _=>False):=rfl
theorem yOC {d off e k:Nat} {v:VOp}:hoW P ⟨none,.vow d v off e k⟩ F K X=((ev F v).1∧yMi (ev F v).2 off=true∧K (F.set d (yNR (ev F v).2 off e k))):=rfl
theorem yOD {d f:Nat} {caps:List Opd}:hoW P ⟨none,.mkc d f caps⟩ F K X=((zLG F caps).1∧K (F.set d (.cl f (zLG F caps).2))):=rfl
theorem yKS {d:Option Nat} {x:Opd} {bxs:List (Nat×Nat×Nat)} {args:List (Opd×AM)} {f:Nat} {caps:List Cap} {cas:List CA} {io':List (List PV)} (hx:zAf F x=.cl f caps) (h1:(zBn F args).1) (hc:zPV F bxs caps=some cas) (h2:zEH P f (zBn F args).2 cas io') (h3:K (zSC (zFj F bxs io') d .un)):hoW P ⟨none,.clc d x bxs args⟩ F K X:=by
  show opW P (.clc d x bxs args) F K X
  simp only [opW,hx,hc]
  exact ⟨h1,io',h2,h3⟩
theorem yIs {cs:List PV} {off e k:Nat}:yNR (.pv (.agg cs)) off e k=.ov (.agg ((cs.take off).map .p++.os none e k []::(cs.drop (off+1)).map .p)):=rfl
theorem yNf {T:Bool} {A:Prop} {f:Nat} {caps:List Cap} {d:Nat}:gdV (some T) (A,.cl f caps) d F K=zVF T (A∧K (F.set d (.cl f caps))) (K (F.set d (.gd false (bv false)))):=rfl
attribute [go_sem] yNf yIs yMi zLG zEE
theorem yNg {d off n:Nat} {zs:List PV} {parts:List (Nat×Nat×Opd)} {y:Opd}:hoW P ⟨none,.vbe d zs parts off n y⟩ F K X=((zBi F zs parts).1∧(zBi F zs parts).2.length=zs.length∧(zKd F y).1∧(zKd F y).2.length=n∧off+n≤zs.length∧K ((clr F F y).set d (.ov (.agg (((zBi F zs parts).2.take off).map .p++(zKd F y).2++((zBi F zs parts).2.drop (off+n)).map .p))))):=rfl
theorem yNh {d j base n x:Nat}:hoW P ⟨none,.vby d j base n x⟩ F K X=(match F.getD x .un with
    | .ov v=>v.cells.length=n∧F.getD base .un=.una∧K (zAl ((F.set x .un).set d (.ptr j 0)) base (v.cells.map zOa))
    | _=>False):=rfl
theorem yOE {d e k x:Nat}:hoW P ⟨none,.vbs d e k x⟩ F K X=(match F.getD x .un with
    | .ov v=>v.cells.length=k∧K ((F.set x .un).set d (.ov (.one (.os none e k [v.cells]))))
    | _=>False):=rfl
theorem yOF {d:Nat}:hoW P ⟨none,.mmk d⟩ F K X=(∀ b,K (F.set d (.ov (.one (.mp b [] []))))):=rfl
theorem yOG {x:Opd} {r kk:Nat} {k y:Opd}:hoW P ⟨none,.mps x r kk k y⟩ F K X=zKB F x r kk k (fun b ks vs kv=>(∀ s,y=.t s→s≠r)∧(zSE F y).1∧match (zSE F y).2 with
    | some c=>K ((clr F F y).set r (.ov (.one (zLI b ks vs kv c))))
    | _=>False):=rfl
theorem yOH {d:Nat} {x:Opd} {r kk:Nat} {k:Opd} {z:PV} {ok:Bool}:hoW P ⟨none,.mpl d x r kk k z ok⟩ F K X=zKB F x r kk k (fun _ ks vs kv=>match yA5 vs z (zGU ks kv) with
    | some v=>K (F.set d (if ok then .tup [.one v,bv (zGU ks kv).isSome] else .pv (.one v)))
    | none=>False):=rfl
theorem yNi {d e k:Nat} {zs:List PV} {x:Opd}:hoW P ⟨none,.vmk d e k zs x⟩ F K X=(match (zAf F x).pv? with
    | some (.one (.v (.int _ n)))=>(zAf F x).need∧0≤n∧n * 4096≤140737488355328∧zs.length=k∧K (F.set d (.ov (.one (.os none e k (List.replicate n.toNat (zs.map .p))))))
    | _=>False):=rfl
def yC:Option PVal→Ct
  | some p=>.pv p
  | none=>.un
theorem yKT {p:PVal}:yC (some p)=.pv p:=rfl
theorem yKU:yC none=.un:=rfl
attribute [go_sem] yKT yKU yEo
theorem yNj {d:Nat} {x:Opd} {r j base:Nat} {pt:List (Opd×Nat)} {n:Nat} {agg:Bool}:hoW P ⟨none,.vle d x r j base pt n agg⟩ F K X=atV F x r pt (fun root p b e k rows i f=>f+n≤(rows.getD i []).length∧
    K ((F.set r (.ov (.one (root.upd p (.os (some b) e k (rows.set i (zVc (rows.getD i []) f ((((rows.getD i []).drop f).take n).map OV.left)))))))).set d (.ov (yKc agg (((rows.getD i []).drop f).take n))))):=rfl
theorem yGs {d:Nat} {x:Opd} {r j base:Nat} {pt:List (Opd×Nat)} {n:Nat} {agg:Bool}:hoW P ⟨none,.vlp d x r j base pt n agg⟩ F K X=atV F x r pt (fun _ _ _ _ _ rows i f=>f+n≤(rows.getD i []).length∧match yEo (((rows.getD i []).drop f).take n) with
    | some ps=>K (F.set d (.pv (if agg then .agg ps else .one (ps.headD (.nl 0)))))
    | none=>False):=rfl
theorem yGt {x:Opd} {r j base:Nat} {pt:List (Opd×Nat)} {n:Nat} {y:Opd}:hoW P ⟨none,.vse x r j base pt n y⟩ F K X=atV F x r pt (fun root p b e k rows i f=>(∀ s,y=.t s→s≠r)∧(zKd F y).1∧(zKd F y).2.length=n∧f+n≤(rows.getD i []).length∧
    K ((clr F F y).set r (.ov (.one (root.upd p (.os (some b) e k (rows.set i (zVc (rows.getD i []) f (zKd F y).2)))))))):=rfl
theorem yGu {f:FuncId} {args:List (Opd×AM)} {d:Option Nat} {v:OVal} {io:List PV} (h1:(zBn F args).1) (h2:Contract P f (zBn F args).2 {res:=.ov v,io:=io}) (h3:K (zSC (zAF F (some io) args) d (.ov v))):hoW P ⟨none,.call d f args⟩ F K X:=
  ⟨h1,_,h2,h3⟩
theorem yOI {s j base:Nat} {pt:List (Opd×Nat)} {r:List Gh}:ghW F K (.pin s j base pt::r)=(match F.getD s .un with
    | .ov (.one root)=>match root.get (zC5 F pt).2 with
      | some (.os none e k rows)=>(zC5 F pt).1∧∀ b,ghW (F.set s (.ov (.one (root.upd (zC5 F pt).2 (.os (some b) e k rows))))) K r
      | _=>False
    | _=>False):=rfl
theorem yOJ {s j base:Nat} {pt:List (Opd×Nat)} {r:List Gh}:ghW F K (.unp s j base pt::r)=(match F.getD s .un with
    | .ov (.one root)=>match root.get (zC5 F pt).2 with
      | some (.os _ e k rows)=>(zC5 F pt).1∧ghW (F.set s (.ov (.one (root.upd (zC5 F pt).2 (.os none e k rows))))) K r
      | _=>False
    | _=>False):=rfl
theorem yOK {s j base:Nat} {r:List Gh}:ghW F K (.vfr s j base::r)=(match F.getD s .un with
    | .ov (.one root)=>match root.frz with
      | some x=>ghW (F.set s (.pv (.one x))) K r
      | none=>False
    | .ov (.agg cs)=>match zUm cs with
      | some xs=>ghW (F.set s (.pv (.agg xs))) K r
      | none=>False
    | _=>False):=rfl
theorem yOL {s j base:Nat} {pt:List (Opd×Nat)} {r:List Gh}:ghW F K (.vfp s j base pt::r)=(match F.getD s .un with
    | .ov (.one root)=>match root.get (zC5 F pt).2 with
      | some y=>match y.frz with
        | some x=>(zC5 F pt).1∧ghW (F.set s (.ov (.one (root.upd (zC5 F pt).2 (.p x))))) K r
        | none=>False
      | none=>False
    | _=>False):=rfl
theorem yOM {s:Nat} {r:List Gh}:ghW F K (.vfm s::r)=(match F.getD s .un with
    | .ov (.one (.mp b ks vs))=>match zUm vs with
      | some xs=>ghW (F.set s (.ov (.one (.mp b ks (xs.map .p))))) K r
      | none=>False
    | _=>False):=rfl
theorem yJF {x:Opd} {r kk:Nat} {k:Opd} {KK:Nat→List Value→List OV→Value→Prop} {b:Nat} {ks:List Value} {vs:List OV} {p:PVal} {kv:Value} (e1:zLJ F x=some b) (e2:F.getD r .un=.ov (.one (.mp b ks vs))) (e3:(zAf F k).pv?=some p) (e4:yEq p.norm=some kv) (hn:(zAf F k).need) (h1:zOb kv=kk) (h2:∀ q∈ks,zOb q=kk) (h:KK b ks vs kv):zKB F x r kk k KK:=by
  unfold zKB
  simp only [e1,e2,e3,e4]
  exact ⟨trivial,hn,h1,h2,h⟩
theorem yON {d:Nat} {x:Opd} {r b:Nat} {ks:List Value} {vs:List OV} (e1:zLJ F x=some b) (e2:F.getD r .un=.ov (.one (.mp b ks vs))) (h:K (F.set d (.ov (.one (.it b ks.length []))))):hoW P ⟨none,.mrg d x r⟩ F K X:=by
  show opW P (.mrg d x r) F K X
  simp only [opW,e1,e2]
  exact ⟨trivial,h⟩
theorem yOO {d it r b n:Nat} {seen:List Nat} {ks:List Value} {vs:List OV} {ys:List PV} (e1:F.getD it .un=.ov (.one (.it b n seen))) (e2:F.getD r .un=.ov (.one (.mp b ks vs))) (e3:zFk vs=some ys) (hn:n=ks.length) (h1:d≠it) (h2:it≠r)
    (h3:(∀ i,i < n→i∈seen)→K (F.set d (.tup [bv false]))) (h4:∀ i,i < n→i∉seen→K ((F.set it (.ov (.one (.it b n (seen++[i]))))).set d (.tup [bv true,yEp (ks.getD i .nilIface),.one (ys.getD i (.nl 0))]))):hoW P ⟨none,.mnx d it r⟩ F K X:=by
  show opW P (.mnx d it r) F K X
  simp only [opW,e1,e2,e3]
  exact ⟨trivial,hn,h1,h2,h3,h4⟩
theorem yOP {d it r b n i:Nat} {seen:List Nat} {ks:List Value} {vs:List OV} {ys:List PV} (e1:F.getD it .un=.ov (.one (.it b n (seen++[i])))) (e2:F.getD r .un=.ov (.one (.mp b ks vs))) (e3:zFk vs=some ys) (hn:n=ks.length)
    (h:K (F.set d (.tup [yEp (ks.getD i .nilIface),.one (ys.getD i (.nl 0))]))):hoW P ⟨none,.men d it r⟩ F K X:=by
  show opW P (.men d it r) F K X
  simp only [opW,e1,e2,e3,List.getLast?_concat]
  exact ⟨trivial,hn,h⟩
theorem yNk {d:Option Nat} {e k r:Nat} {x y:Opd} {b i n1 n2:Nat} {rows:List (List OV)} (e1:zAf F x=.hds b k (i+1) n1) (e2:zAf F y=.hds b k i n2) (e3:F.getD r .un=.ov (.one (.os (some b) e k rows))) (hi:i < rows.length) (h2:n2=rows.length-i) (h1:n1=rows.length-i-1) (hd:d≠some r) (h:K (zSC (F.set r (.ov (.one (.os (some b) e k (zDd i rows))))) d .un)):hoW P ⟨none,.cpy d e k r x y⟩ F K X:=by
  show opW P (.cpy d e k r x y) F K X
  simp only [opW,e1,e2,e3]
  exact ⟨trivial,trivial,trivial,trivial,trivial,trivial,trivial,hi,h2,h1,hd,h⟩
theorem yNl {d:Option Nat} {f r:Nat} {x:Opd} {args:List (Opd×AM)} {b k0 e k:Nat} {rows rows':List (List OV)} (e1:zAf F x=.hdp b k0 rows.length) (e2:F.getD r .un=.ov (.one (.os (some b) e k rows))) (hne:rows≠[]) (hd:d≠some r) (h1:(zBn F args).1) (h2:zPU P f e k rows (zBn F args).2 rows') (h:K (zSC (F.set r (.ov (.one (.os (some b) e k rows')))) d .un)):hoW P ⟨none,.cals d f r x args⟩ F K X:=by
  show opW P (.cals d f r x args) F K X
  simp only [opW,e1,e2]
  exact ⟨trivial,trivial,hne,hd,h1,rows',h2,h⟩
theorem yOQ:zC5 F []=(True,[]):=rfl
theorem yKV {x:OV}:x.get []=some x:=by cases x<;>rfl
theorem yKW {x y:OV}:x.upd [] y=y:=by cases x<;>rfl
theorem zUw {b:Option Nat} {e k:Nat} {rows:List (List OV)} {rs:List (List PV)} (h:zDP rows=some rs):(OV.os b e k rows).frz=some (.sl k rs):=by simp only [OV.frz,h]
theorem zUx:∀ (r:List PV),zUm (r.map OV.p)=some r
  | []=>rfl
  | x::r=>by simp only [List.map_cons,zUm,OV.frz,zUx r]
theorem zGf:∀ (rows:List (List PV)),zDP (rows.map fun r=>r.map OV.p)=some rows
  | []=>rfl
  | r::rows=>by simp only [List.map_cons,zDP,zUx,zGf rows]
theorem yOR {x:Opd}:hoW P ⟨none,.pan x⟩ F K X=(match (zAf F x).pv? with
    | some (.one (.v (.iface t u)))=>(zAf F x).need∧X (.iface t u) F
    | _=>False):=rfl
section
variable {E:Env} {base:Nat} {av:List AV} {t:Nat} {x:PVal}
theorem zAb {p:PVal} (e:(zAf F (.t t)).pv?=some p) (n:(zAf F (.t t)).need) (h:x=p∨x=p.norm) (hio:ioOf av=none:=by rfl):yED E base av [.tmp t] {res:=.val x} .ret F:=by
  refine ⟨?_,fun cs h=>by rw [hio] at h;cases h⟩
  simp only [zKj,rsV,e]
  exact ⟨n,h⟩
theorem zG2 {e k:Nat} {rows:List (List PV)} (h:F.getD t .un=.own e k rows) (hio:ioOf av=none:=by rfl):yED E base av [.tmp t] {res:=.own e k rows} .ret F:=
  ⟨h,fun cs h=>by rw [hio] at h;cases h⟩
theorem yJG {v:OVal} (h:F.getD t .un=.ov v) (hio:ioOf av=none:=by rfl):yED E base av [.tmp t] {res:=.ov v} .ret F:=
  ⟨h,fun cs h=>by rw [hio] at h;cases h⟩
theorem zVG {cells io:List PV} (hio:ioOf av=some cells) (hc:zAM F base cells.length=some io):yED E base av [] {res:=.tup [],io:=io} .ret F:=
  ⟨rfl,fun cs h=>by rw [hio] at h;injection h with h;subst h;exact hc⟩
theorem zAA {rs:List RSrc} {xs:List PVal} (hn:∀ r,rs≠[r]) (h:yBj F rs xs) (hio:ioOf av=none:=by rfl):yED E base av rs {res:=.tup xs} .ret F:=by
  refine ⟨?_,fun cs h=>by rw [hio] at h;cases h⟩
  simp only [zKj]
  first
    | exact h
    | (split
       · rename_i r;exact (hn r rfl).elim
       · exact h)
theorem yEG {j bs off n:Nat} {agg:Bool} {cs:List PV} (e:F.getD t .un=.ptr j off) (h:zAM F (bs+off) n=some cs) (hx:x=(if agg then PVal.agg cs else .one (cs.headD (.nl 0)))∨x=(if agg then PVal.agg cs else .one (cs.headD (.nl 0))).norm) (hio:ioOf av=none:=by rfl):yED E base av [.cellB t j bs off n agg] {res:=.val x} .ret F:=by
  refine ⟨?_,fun cs h=>by rw [hio] at h;cases h⟩
  simp only [zKj,rsV,e,h]
  exact ⟨trivial,trivial,hx⟩
theorem zQq {j bs off n:Nat} {agg:Bool} {cs:List PV} (e:F.getD t .un=.ptr j off) (h:zAM F (bs+off) n=some cs) (hx:x=if agg then .agg cs else .one (cs.headD (.nl 0))) (hio:ioOf av=none:=by rfl):yED E base av [.cellB t j bs off n agg] {res:=.val x} .ret F:=yEG e h (.inl hx) hio
theorem zAv {p:PVal} (e:(zAf F (.t t)).pv?=some p) (n:(zAf F (.t t)).need) (h:x=p∨x=p.norm):rsV F (.tmp t) x:=by
  simp only [rsV,e];exact ⟨n,h⟩
theorem zAZ {j bs off n:Nat} {agg:Bool} {cs:List PV} (e:F.getD t .un=.ptr j off) (h:zAM F (bs+off) n=some cs) (hx:x=(if agg then PVal.agg cs else .one (cs.headD (.nl 0)))∨x=(if agg then PVal.agg cs else .one (cs.headD (.nl 0))).norm):rsV F (.cellB t j bs off n agg) x:=by
  simp only [rsV,e,h];exact ⟨trivial,trivial,hx⟩
end
end
attribute [go_sem ↓] yOC yOD yNg yNh yKt yKu yOf yOg yOh yOi yM4 yM5 yMR yN2 yN3 yMS yMT yN4 yN5 yMU yMV yKr yPx yN6 yMW yMX yPy yPz yN7 yN8 yN9 yOa yOb yOd yKs yMZ yOe yKv yKw yKx yKy yM0 yM1 yM2 yM3 yOz yOA yOB yNi yOE yOI yOJ yOK yOL yOj yKI yBm yOq yOr yOs yOt yOu yOv yKQ yOw yOx yOy yOR yOk yOl yKO yOm yIp yOn
attribute [go_sem] yLV implies_true and_self yGp Bool.not_eq_true' Bool.not_eq_false' Bool.not_not decide_eq_true_eq decide_eq_false_iff_not Nat.not_lt Int.not_lt Int.not_le gt_iff_lt ge_iff_le yKP yOQ yKV yKW OVal.cells zOa zPW zHX yHY zLH yKc zKd zSD clr yIj yIk yIl yIm ev zAf Ct.pv? Ct.need zSH zVe true_and and_true zDL yHL yH8 yOc yMY List.cons_append List.nil_append yOo yNd yOp yNe yIo yGq zBX zDJ zBi zKy PVal.cells PVal.norm PV.norm zAM zLC zBn zEe yEA zSC zAF zDQ zBd zHW zEd zCQ if_true if_false Bool.false_eq_true imp_self forall_const List.map_cons List.map_nil List.length_cons List.length_nil Nat.zero_add ite_true ite_false List.take_succ_cons List.take_zero List.drop_zero List.drop_succ_cons List.headD_cons Nat.le_refl beq_true beq_false cond_true cond_false Bool.and_true Bool.true_and Bool.and_false Bool.false_and Int.toNat_natCast ne_eq not_false_eq_true not_true_eq_false List.getElem?_cons_zero List.getElem?_cons_succ zLD List.replicate bad
end Go.Hx
end

section
/-
 Documents as plain Lean data, and what the walks say of them. No condition.
-/
namespace Go.Hx
variable [Glob]
theorem Contract.av {P:Go.Program} {f:Nat} {av av':List AV} {r:RV} (h:Contract P f av r) (e:av'=av):Contract P f av' r:=e▸h
abbrev Bys:=List UInt8
structure Nd where
 up:Int
 tag:Bys
 id:Bys
 cls:List Bys
 att:List (Bys×Bys)
 deriving DecidableEq,Inhabited
abbrev bI (n:Int):PV:=.v (.int .i64 n)
abbrev bS (l:Bys):PV:=.v (mkS l)
abbrev bB (b:Bool):PV:=.v (.bool b)
def zQr (l:List Bys):List (List PV):=l.map fun c=>[bS c]
def yBn (l:List (Bys×Bys)):List (List PV):=l.map fun a=>[bS a.1,bS a.2]
def ndV (x:Nd):List PV:=[bI x.up,bS x.tag,bS x.id,.sl 1 (zQr x.cls),.sl 2 (yBn x.att)]
def zEf (d:List Nd):List (List PV):=d.map ndV
def zCv (d:List Nd):PVal:=.agg [.sl 5 (zEf d)]
def zAH (l:List Int):List (List PV):=l.map fun n=>[bI n]
theorem zAi (d:List Bys):(zQr d).length=d.length:=by simp [zQr]
theorem zAj (d:List (Bys×Bys)):(yBn d).length=d.length:=by simp [yBn]
theorem zAk (d:List Nd):(zEf d).length=d.length:=by simp [zEf]
theorem zAe (d:List Int):(zAH d).length=d.length:=by simp [zAH]
theorem zPx (d:List Bys) (i:Nat) (h:i < d.length):(zQr d).getD i []=[bS (d.getD i [])]:=by simp [zQr,h]
theorem zPy (d:List (Bys×Bys)) (i:Nat) (h:i < d.length):(yBn d).getD i []=[bS (d.getD i default).1,bS (d.getD i default).2]:=by simp [yBn,h]
theorem zBo (d:List Nd) (i:Nat) (h:i < d.length):(zEf d).getD i []=ndV (d.getD i default):=by simp [zEf,h]
theorem zD3 (d:List Int) (i:Nat) (h:i < d.length):(zAH d).getD i []=[bI (d.getD i 0)]:=by simp [zAH,h]
theorem zH5 {n:Int} (h1:-9223372036854775808≤n) (h2:n≤9223372036854775807):inR .i64 n:=⟨h1,h2⟩
theorem zAP {p q:Prop} (hq:q) (hp:p:=by (first|omega|exact zH5 (by omega) (by omega)|exact fun _=>zH5 (by omega) (by omega)|((with_reducible refine yMj ?_);first|omega|(simp_all;done)|(simp_all;omega)|grind)|assumption|trivial|(intros;omega)|(intro s h;injection h with h;subst h;decide)|(simp_all;done)|(intros;simp [*];done)|(simp_all;omega)|grind)):p∧q:=⟨hp,hq⟩
theorem zAX {n m:Bool} (h:n=m):leC (.pv (bv n)) (.pv (bv m)):=zBb (by rw [h])
theorem zYy {α:Type} {a b:List α} {i:Nat} (d:α) (h:a.take i=b.take i) (ha:i < a.length) (hb:i < b.length) (e:a.getD i d=b.getD i d):a.take (i+1)=b.take (i+1):=by
 rw [List.take_succ_eq_append_getElem ha,List.take_succ_eq_append_getElem hb,h]
 simp [ha,hb] at e
 rw [e]
theorem yEH {α:Type} {a b:List α} {i:Nat} (d:α) (e:a.getD i d≠b.getD i d):a≠b:=fun h=>e (by rw [h])
theorem yEI {α:Type} {a b:List α} (hl:a.length=b.length) (h:a.take a.length=b.take a.length):a=b:=by
 rw [List.take_length,hl,List.take_length] at h;exact h
theorem zDp {k:Nat} {rows:List (List PV)} (h:PV.fits (.sl k rows)):rows.length≤9223372036854775807:=by
 simp only [PV.fits,maxLen] at h;omega
def zYz (c:UInt8):Bool:=decide (97≤c.toNat∧c.toNat≤122)||decide (48≤c.toNat∧c.toNat≤57)||decide (c.toNat=45)
def yKX (c:UInt8):Bool:=decide (32≤c.toNat∧c.toNat≤126)&&!decide (c.toNat=34)
def zCW (s:Bys):Bool:=decide (1≤s.length∧s.length≤12)&&decide (97≤(s.getD 0 0).toNat∧(s.getD 0 0).toNat≤122)&&s.all zYz
def zH6 (s:Bys):Bool:=decide (s.length≤16)&&s.all yKX
def cOk (l:List Bys) (k:Nat):Bool:=zCW (l.getD k [])&&(decide (k=0)||Op.bytesLess (l.getD (k-1) []) (l.getD k []))
def okC (l:List Bys) (i:Nat):Bool:=(List.range i).all (cOk l)
def aOk (l:List (Bys×Bys)) (k:Nat):Bool:=zCW (l.getD k default).1&&zH6 (l.getD k default).2&&(decide (k=0)||Op.bytesLess (l.getD (k-1) default).1 (l.getD k default).1)
def okA (l:List (Bys×Bys)) (i:Nat):Bool:=(List.range i).all (aOk l)
def zCb (x:Nd):Bool:=zCW x.tag&&(x.id==[]||zCW x.id)&&decide (x.cls.length≤6)&&decide (x.att.length≤4)&&okC x.cls x.cls.length&&okA x.att x.att.length
theorem zFL {p:Nat→Bool} {i:Nat}:(List.range (i+1)).all p=((List.range i).all p&&p i):=by
 rw [List.range_succ,List.all_append];simp
theorem zA0 {p:Nat→Bool} {n i:Nat} (h:(List.range n).all p=true) (hi:i < n):p i=true:=by
 rw [List.all_eq_true] at h
 exact h i (List.mem_range.2 hi)
theorem zYA {p:Nat→Bool} {n i:Nat} (h:(List.range n).all p=true) (hi:i≤n):(List.range i).all p=true:=by
 rw [List.all_eq_true] at *
 exact fun x hx=>h x (List.mem_range.2 (Nat.lt_of_lt_of_le (List.mem_range.1 hx) hi))
def zAB (d:List Nd) (i:Nat):Int:=(d.getD i default).up
def zBk (d:List Nd):Nat→Int→List Int
 |0,_=>[]
 |f+1,k=>if k < 0 then [] else k::zBk d f (zAB d k.toNat)
def yHN (d:List Nd) (i:Nat):Bool:=if i=0 then decide (zAB d 0=-1) else (zBk d i ((i:Int)-1)).contains (zAB d i)
def zVH (d:List Nd) (i:Nat):Bool:=zCb (d.getD i default)&&yHN d i
def zCF (d:List Nd) (n:Nat):Bool:=(List.range n).all (zVH d)
def zAd (d:List Nd):Int:=if 1≤d.length∧d.length≤64 then (if zCF d d.length then 0 else 1) else 2
theorem zDT {d:List Nd}:∀ (f:Nat) (k:Int),(∀ j:Nat,(j:Int)≤k→zAB d j < j)→∀ x∈zBk d f k,0≤x∧x≤k
 |0,k,_,x,hx=>by simp [zBk] at hx
 |f+1,k,h,x,hx=>by
  simp only [zBk] at hx
  split at hx
  ·cases hx
  ·rename_i hk
   rcases List.mem_cons.1 hx with rfl|hx
   ·omega
   ·have h1:=h k.toNat (by omega)
    have:=zDT f (zAB d k.toNat) (fun j hj=>h j (by omega)) x hx
    omega
theorem zA1 {d:List Nd}:∀ {n:Nat},zCF d n=true→∀ j,j < n→-1≤zAB d j∧zAB d j < j
 |0,_,j,hj=>by omega
 |n+1,h,j,hj=>by
  have h0:zCF d n=true:=zYA h (Nat.le_succ n)
  by_cases hjn:j < n
  ·exact zA1 h0 j hjn
  ·have e:j=n:=by omega
   subst e
   have h1:=zA0 h (Nat.lt_succ_self j)
   simp only [zVH,yHN,Bool.and_eq_true] at h1
   split at h1
   ·rename_i e;subst e;simp at h1;omega
   ·have h2:zAB d j∈zBk d j ((j:Int)-1):=by simpa using h1.2
    have:=zDT j ((j:Int)-1) (fun k hk=>(zA1 h0 k (by omega)).2) _ h2
    omega
theorem zGg {d:List Nd}:∀ (f g:Nat) (k:Int),(∀ j:Nat,(j:Int)≤k→zAB d j < j)→k < f→k < g→zBk d f k=zBk d g k
 |0,g,k,_,h1,_=>by
  have:k < 0:=by omega
  cases g<;>simp [zBk,this]
 |f+1,0,k,_,_,h2=>by
  have:k < 0:=by omega
  simp [zBk,this]
 |f+1,g+1,k,h,h1,h2=>by
  simp only [zBk]
  split
  ·rfl
  ·rename_i hk
   have h3:=h k.toNat (by omega)
   rw [zGg f g (zAB d k.toNat) (fun j hj=>h j (by omega)) (by omega) (by omega)]
end Go.Hx
end

section
set_option maxRecDepth 100000
namespace Go.Hx
variable [Glob]
def Wr (q:Prop):Prop:=q
theorem wrId {q:Prop}:Wr q→q:=id
theorem sAndI {p q r:Prop} (hq:r→q) (hp:p:=by (first|omega|exact zH5 (by omega) (by omega)|exact fun _=>zH5 (by omega) (by omega)|((with_reducible refine yMj ?_);first|omega|(simp_all;done)|(simp_all;omega)|grind)|assumption|trivial|(intros;omega)|(intro s h;injection h with h;subst h;decide)|(simp_all;done)|(intros;simp [*];done)|(simp_all;omega)|grind)):r→p∧q:=fun h=>⟨hp,hq h⟩
theorem goW {p q:Prop} (h:q) (e:Wr q→p:=by ((try simp (maxSteps:=2000000) only [go_sem,reduceCtorEq,Nat.reduceAdd,Nat.reduceEqDiff,reduceIte,Nat.reduceLeDiff,Nat.reduceLT,Nat.reduceSub]);(repeat (with_reducible refine sAndI ?_));exact wrId)):p:=e h
theorem goU {p q:Prop} (h:q) (e:Wr q→p:=by (simp (maxSteps:=2000000) only [zSL,List.set_cons_succ,List.set_cons_zero,List.map_cons,List.map_nil,zNo,zAl,ioOf,List.length_cons,List.length_nil,Nat.reduceAdd,Nat.reduceSub,List.replicate,List.cons_append,List.nil_append];(try simp (maxSteps:=2000000) only [go_sem,reduceCtorEq,Nat.reduceAdd,Nat.reduceEqDiff,reduceIte,Nat.reduceLeDiff,Nat.reduceLT,Nat.reduceSub]);(repeat (with_reducible refine sAndI ?_));exact wrId)):p:=e h
theorem leA {p:Prop} (h:p:=by (simp (maxSteps:=2000000) only [go_sem,reduceCtorEq,Nat.reduceAdd,Nat.reduceEqDiff,reduceIte,Nat.reduceLeDiff,Nat.reduceLT,Nat.reduceSub,zAS,zBu,zCR,zAT];all_goals (repeat' (first|exact trivial|exact zBa (by omega)|exact zAX rfl|exact zBb rfl|exact zBB|exact le_refl _|refine And.intro ?_ ?_)))):p:=h
end Go.Hx
end

section
/-
 The index of a document: the entries in their order, each with its elements. Plain Lean. No condition.
-/
set_option maxRecDepth 100000
set_option linter.unusedSimpArgs false
namespace Go.Hx
abbrev Key:=Int×Bys
structure Ent where
 kind:Int
 name:Bys
 nodes:List Int
 deriving DecidableEq,Inhabited
def Ent.key (e:Ent):Key:=(e.kind,e.name)
theorem Ent.ext' {a b:Ent} (h:a.key=b.key) (h2:a.nodes=b.nodes):a=b:=by
 obtain ⟨k,n,l⟩:=a
 obtain ⟨k',n',l'⟩:=b
 simp only [Ent.key,Prod.mk.injEq] at h h2
 obtain ⟨rfl,rfl⟩:=h
 subst h2;rfl
def zAC (a b:Key):Bool:=if a.1=b.1 then Op.bytesLess a.2 b.2 else decide (a.1 < b.1)
theorem zH7:∀ x:Bys,Op.bytesLess x x=false
 |[]=>rfl
 |a::x=>by
  rw [Op.bytesLess,zH7 x]
  simp
theorem zQs:∀ x y:Bys,Op.bytesLess x y=false→Op.bytesLess y x=false→x=y
 |[],[],_,_=>rfl
 |[],b::y,h,_=>by simp [Op.bytesLess] at h
 |a::x,[],_,h=>by simp [Op.bytesLess] at h
 |a::x,b::y,h,g=>by
  rw [Op.bytesLess] at h g
  simp only [Bool.or_eq_false_iff,decide_eq_false_iff_not,Bool.and_eq_false_iff,beq_eq_false_iff_ne] at h g
  have e:a=b:=by
   have h1:=h.1;have g1:=g.1
   apply UInt8.toNat_inj.1
   rw [UInt8.lt_iff_toNat_lt] at h1 g1
   omega
  subst e
  have h2:Op.bytesLess x y=false:=h.2.resolve_left (fun h=>h rfl)
  have g2:Op.bytesLess y x=false:=g.2.resolve_left (fun h=>h rfl)
  rw [zQs x y h2 g2]
theorem zKE:∀ x y z:Bys,Op.bytesLess x y=true→Op.bytesLess y z=true→Op.bytesLess x z=true
 |x,[],z,h,_=>by cases x<;>simp [Op.bytesLess] at h
 |x,b::y,[],_,h=>by simp [Op.bytesLess] at h
 |[],b::y,c::z,_,_=>by simp [Op.bytesLess]
 |a::x,b::y,c::z,h,g=>by
  rw [Op.bytesLess] at h g ⊢
  simp only [Bool.or_eq_true,decide_eq_true_eq,Bool.and_eq_true,beq_iff_eq] at h g ⊢
  rw [UInt8.lt_iff_toNat_lt] at h g ⊢
  rcases h with h|⟨rfl,h⟩
  ·rcases g with g|⟨rfl,g⟩
   ·exact .inl (by omega)
   ·exact .inl h
  ·rcases g with g|⟨rfl,g⟩
   ·exact .inl g
   ·exact .inr ⟨rfl,zKE x y z h g⟩
theorem zBe (k:Key):zAC k k=false:=by unfold zAC;rw [if_pos rfl,zH7]
theorem zG3 {a b:Key} (h:zAC a b=false) (g:zAC b a=false):a=b:=by
 unfold zAC at h g
 by_cases e:a.1=b.1
 ·rw [if_pos e] at h
  rw [if_pos e.symm] at g
  exact Prod.ext e (zQs _ _ h g)
 ·rw [if_neg e] at h
  rw [if_neg (fun h=>e h.symm)] at g
  simp only [decide_eq_false_iff_not] at h g
  omega
theorem zDq {a b c:Key} (h:zAC a b=true) (g:zAC b c=true):zAC a c=true:=by
 unfold zAC at h g ⊢
 by_cases e:a.1=b.1
 ·rw [if_pos e] at h
  by_cases e2:b.1=c.1
  ·rw [if_pos e2] at g
   rw [if_pos (e.trans e2)]
   exact zKE _ _ _ h g
  ·rw [if_neg e2] at g
   rw [if_neg (by omega)]
   simp only [decide_eq_true_eq] at g ⊢
   omega
 ·rw [if_neg e] at h
  simp only [decide_eq_true_eq] at h
  by_cases e2:b.1=c.1
  ·rw [if_neg (by omega)]
   simp only [decide_eq_true_eq];omega
  ·rw [if_neg e2] at g
   simp only [decide_eq_true_eq] at g
   rw [if_neg (by omega)]
   simp only [decide_eq_true_eq];omega
theorem zG4 {a b:Key} (h:zAC a b=true):zAC b a=false:=by
 cases g:zAC b a with
 |false=>rfl
 |true=>have:=zDq h g;rw [zBe] at this;cases this
def zKl (l:List Ent):Prop:=l.Pairwise fun a b=>zAC a.key b.key=true
theorem zUy:∀ {a b:List Ent},zKl a→zKl b→(∀ e,e∈a↔e∈b)→a=b
 |[],[],_,_,_=>rfl
 |[],y::r,_,_,h=>by have:=(h y).2 List.mem_cons_self;cases this
 |x::r,[],_,_,h=>by have:=(h x).1 List.mem_cons_self;cases this
 |x::r,y::s,ha,hb,h=>by
  obtain ⟨a1,a2⟩:=List.pairwise_cons.1 ha
  obtain ⟨b1,b2⟩:=List.pairwise_cons.1 hb
  have e:x=y:=by
   rcases List.mem_cons.1 ((h x).1 List.mem_cons_self) with e|hx
   ·exact e
   ·rcases List.mem_cons.1 ((h y).2 List.mem_cons_self) with e|hy
    ·exact e.symm
    ·have h1:=b1 x hx
     have h2:=a1 y hy
     rw [zG4 h1] at h2;cases h2
  subst e
  have hm:∀ e,e∈r↔e∈s:=fun e=>by
   constructor
   ·intro he
    rcases List.mem_cons.1 ((h e).1 (List.mem_cons_of_mem _ he)) with rfl|h1
    ·have:=a1 e he;rw [zBe] at this;cases this
    ·exact h1
   ·intro he
    rcases List.mem_cons.1 ((h e).2 (List.mem_cons_of_mem _ he)) with rfl|h1
    ·have:=b1 e he;rw [zBe] at this;cases this
    ·exact h1
  rw [zUy a2 b2 hm]
def zOG:List Ent→Key→Int→List Ent
 |[],k,n=>[⟨k.1,k.2,[n]⟩]
 |e::r,k,n=>if zAC e.key k then e::zOG r k n else if zAC k e.key then ⟨k.1,k.2,[n]⟩::e::r else ⟨e.kind,e.name,e.nodes++[n]⟩::r
def atK (l:List Ent) (k:Key):List Int:=((l.find? fun e=>decide (e.key=k)).map (·.nodes)).getD []
theorem zVI:∀ (l:List Ent) (k:Key) (n:Int),zKl l→∀ e,e∈zOG l k n↔(e∈l∧e.key≠k)∨(e.key=k∧e.nodes=atK l k++[n])
 |[],k,n,_,e=>by
  simp only [zOG,List.mem_singleton,List.not_mem_nil,false_and,false_or,atK,List.find?_nil,Option.map_none,Option.getD_none,List.nil_append]
  constructor
  ·rintro rfl;exact ⟨rfl,rfl⟩
  ·rintro ⟨h1,h2⟩;exact Ent.ext' h1 h2
 |x::r,k,n,hs,e=>by
  obtain ⟨s1,s2⟩:=List.pairwise_cons.1 hs
  simp only [zOG]
  by_cases h1:zAC x.key k=true
  ·rw [if_pos h1]
   have hne:x.key≠k:=by rintro rfl;rw [zBe] at h1;cases h1
   have ha:atK (x::r) k=atK r k:=by unfold atK;rw [List.find?_cons_of_neg (by simpa using hne)]
   rw [List.mem_cons,zVI r k n s2 e,ha,List.mem_cons]
   constructor
   ·rintro (rfl|⟨h,g⟩|h)
    ·exact .inl ⟨.inl rfl,hne⟩
    ·exact .inl ⟨.inr h,g⟩
    ·exact .inr h
   ·rintro (⟨rfl|h,g⟩|h)
    ·exact .inl rfl
    ·exact .inr (.inl ⟨h,g⟩)
    ·exact .inr (.inr h)
  ·have h1:zAC x.key k=false:=eq_false_of_ne_true h1
   rw [if_neg (by rw [h1];decide)]
   by_cases h2:zAC k x.key=true
   ·rw [if_pos h2]
    have hne:∀ y∈x::r,y.key≠k:=fun y hy=>by
     rcases List.mem_cons.1 hy with rfl|hy
     ·rintro rfl;rw [zBe] at h2;cases h2
     ·rintro rfl
      have:=zDq h2 (s1 y hy)
      rw [zBe] at this;cases this
    have ha:atK (x::r) k=[]:=by
     unfold atK
     rw [List.find?_eq_none.2 (fun y hy=>by simpa using hne y hy)];rfl
    rw [List.mem_cons,ha,List.nil_append]
    constructor
    ·rintro (rfl|h)
     ·exact .inr ⟨rfl,rfl⟩
     ·exact .inl ⟨h,hne e h⟩
    ·rintro (⟨h,_⟩|⟨h,g⟩)
     ·exact .inr h
     ·exact .inl (Ent.ext' h g)
   ·have h2:zAC k x.key=false:=eq_false_of_ne_true h2
    rw [if_neg (by rw [h2];decide)]
    have he:=zG3 h1 h2
    have ha:atK (x::r) k=x.nodes:=by unfold atK;rw [List.find?_cons_of_pos (by simpa using he)];rfl
    have hne:∀ y∈r,y.key≠k:=fun y hy=>by
     rintro rfl
     have:=s1 y hy
     rw [he,zBe] at this;cases this
    rw [List.mem_cons,ha,List.mem_cons]
    constructor
    ·rintro (rfl|h)
     ·exact .inr ⟨he,rfl⟩
     ·exact .inl ⟨.inr h,hne e h⟩
    ·rintro (⟨rfl|h,g⟩|⟨h,g⟩)
     ·exact absurd he g
     ·exact .inr h
     ·exact .inl (Ent.ext' (h.trans he.symm) g)
theorem zQt:∀ (l:List Ent) (k:Key) (n:Int),zKl l→zKl (zOG l k n)
 |[],k,n,_=>List.pairwise_singleton _ _
 |x::r,k,n,hs=>by
  obtain ⟨s1,s2⟩:=List.pairwise_cons.1 hs
  simp only [zOG]
  by_cases h1:zAC x.key k=true
  ·rw [if_pos h1]
   refine List.pairwise_cons.2 ⟨fun y hy=>?_,zQt r k n s2⟩
   rcases (zVI r k n s2 y).1 hy with ⟨h,_⟩|⟨h,_⟩
   ·exact s1 y h
   ·rw [h];exact h1
  ·have h1:zAC x.key k=false:=eq_false_of_ne_true h1
   rw [if_neg (by rw [h1];decide)]
   by_cases h2:zAC k x.key=true
   ·rw [if_pos h2]
    refine List.pairwise_cons.2 ⟨fun y hy=>?_,hs⟩
    rcases List.mem_cons.1 hy with rfl|hy
    ·exact h2
    ·exact zDq h2 (s1 y hy)
   ·rw [if_neg h2]
    exact List.pairwise_cons.2 ⟨fun y hy=>s1 y hy,s2⟩
def zEO (x:Nd):List Key:=(1,x.tag)::((if x.id=[] then [] else [(2,x.id)])++x.cls.map fun c=>(3,c))
def zAY (d:List Nd):Nat→List (Key×Int)
 |0=>[]
 |n+1=>zAY d n++(zEO (d.getD n default)).map fun k=>(k,(n:Int))
def zBM (ps:List (Key×Int)):List Ent:=ps.foldl (fun l p=>zOG l p.1 p.2) []
def idxOf (d:List Nd):List Ent:=zBM (zAY d d.length)
def zAx (ps:List (Key×Int)) (k:Key):List Int:=(ps.filter fun p=>decide (p.1=k)).map (·.2)
theorem zQu (ps:List (Key×Int)) (p:Key×Int):zBM (ps++[p])=zOG (zBM ps) p.1 p.2:=by
 unfold zBM;rw [List.foldl_append];rfl
theorem zG5:∀ (n:Nat) (ps:List (Key×Int)),ps.length=n→zKl (zBM ps)∧∀ e,e∈zBM ps↔e.key∈ps.map (·.1)∧e.nodes=zAx ps e.key
 |0,ps,h=>by
  have:ps=[]:=List.eq_nil_of_length_eq_zero h
  subst this
  exact ⟨List.Pairwise.nil,fun e=>by simp [zBM]⟩
 |n+1,ps,h=>by
  obtain ⟨qs,p,rfl⟩:∃ qs p,ps=qs++[p]:=by
   refine ⟨ps.dropLast,ps.getLast (by intro e;rw [e] at h;cases h),(List.dropLast_concat_getLast _).symm⟩
  obtain ⟨h1,h2⟩:=zG5 n qs (by simpa using h)
  rw [zQu]
  refine ⟨zQt _ _ _ h1,fun e=>?_⟩
  have hat:∀ k,atK (zBM qs) k=zAx qs k:=fun k=>by
   unfold atK
   cases hf:(zBM qs).find? (fun e=>decide (e.key=k)) with
   |none=>
    rw [List.find?_eq_none] at hf
    have:zAx qs k=[]:=by
     unfold zAx
     rw [List.filter_eq_nil_iff.2 (fun q hq=>?_)]
     ·rfl
     ·intro hk
      have hk:q.1=k:=by simpa using hk
      have hm:(⟨k.1,k.2,zAx qs k⟩:Ent)∈zBM qs:=(h2 _).2 ⟨List.mem_map.2 ⟨q,hq,hk⟩,rfl⟩
      exact hf _ hm (by simp [Ent.key])
    rw [this];rfl
   |some x=>
    have hx:=List.mem_of_find?_eq_some hf
    have hk:x.key=k:=by have:=List.find?_some hf;simpa using this
    have:=((h2 x).1 hx).2
    rw [hk] at this
    exact this
  rw [zVI _ _ _ h1 e,h2,hat]
  have hn:zAx (qs++[p]) e.key=zAx qs e.key++(if p.1=e.key then [p.2] else []):=by
   unfold zAx
   rw [List.filter_append,List.map_append]
   congr 1
   by_cases hp:p.1=e.key<;>simp [hp]
  rw [hn,List.map_append,List.mem_append]
  simp only [List.map_cons,List.map_nil,List.mem_singleton]
  by_cases hk:e.key=p.1
  ·rw [if_pos hk.symm,hk]
   constructor
   ·rintro (⟨_,h⟩|⟨_,h⟩)
    ·exact absurd rfl h
    ·exact ⟨.inr rfl,h⟩
   ·rintro ⟨_,h⟩;exact .inr ⟨rfl,h⟩
  ·rw [if_neg (fun h=>hk h.symm),List.append_nil]
   constructor
   ·rintro (⟨h,_⟩|⟨h,_⟩)
    ·exact ⟨.inl h.1,h.2⟩
    ·exact absurd h hk
   ·rintro ⟨h|h,g⟩
    ·exact .inl ⟨⟨h,g⟩,hk⟩
    ·exact absurd h hk
end Go.Hx
end

section
/-
 A map from keys to elements, as the walk has it. Generic over the program. No condition.
-/
set_option maxRecDepth 100000
set_option linter.unusedSimpArgs false
namespace Go.Hx
open Go.RowKit
def zLB (k:Key):Value:=.agg #[.int .i64 k.1,mkS k.2]
theorem yKY {a b:Bys} (h:mkS a=mkS b):a=b:=by
 unfold mkS at h
 injection h with h
 injection h with h
 simpa using congrArg Array.toList h
theorem yIt {a b:Key} (h:zLB a=zLB b):a=b:=by
 unfold zLB at h
 injection h with h
 have h:=congrArg Array.toList h
 simp only [List.cons.injEq,and_true] at h
 obtain ⟨h1,h2⟩:=h
 injection h1 with _ h1
 exact Prod.ext h1 (yKY h2)
def yDU (l:List Key) (k:Key):List Key:=if k∈l then l else l++[k]
def gK (ps:List (Key×Int)):List Key:=ps.foldl (fun l p=>yDU l p.1) []
theorem yGv (ps:List (Key×Int)) (p:Key×Int):gK (ps++[p])=yDU (gK ps) p.1:=by
 unfold gK;rw [List.foldl_append];rfl
theorem zUz (ps:List (Key×Int)):∀ (l:List Key),l.Nodup→(ps.foldl (fun l p=>yDU l p.1) l).Nodup∧∀ k,k∈ps.foldl (fun l p=>yDU l p.1) l↔k∈l∨k∈ps.map (·.1):=by
 induction ps with
 |nil=>intro l h;exact ⟨h,fun k=>by simp⟩
 |cons p r ih=>
  intro l h
  have h1:(yDU l p.1).Nodup∧∀ k,k∈yDU l p.1↔k∈l∨k=p.1:=by
   unfold yDU
   split
   ·rename_i hm
    refine ⟨h,fun k=>⟨.inl,?_⟩⟩
    rintro (h2|rfl)
    ·exact h2
    ·exact hm
   ·rename_i hm
    refine ⟨?_,fun k=>by simp⟩
    rw [List.nodup_append]
    refine ⟨h,by simp,fun a ha b hb e=>?_⟩
    rw [List.mem_singleton.1 hb] at e
    rw [e] at ha
    exact hm ha
  obtain ⟨i1,i2⟩:=ih _ h1.1
  refine ⟨i1,fun k=>?_⟩
  rw [List.foldl_cons,i2,h1.2,List.map_cons,List.mem_cons,or_assoc]
theorem yDV (ps:List (Key×Int)):(gK ps).Nodup:=(zUz ps [] List.nodup_nil).1
theorem yGw (ps:List (Key×Int)) (k:Key):k∈gK ps↔k∈ps.map (·.1):=by
 rw [show gK ps=ps.foldl (fun l p=>yDU l p.1) [] from rfl,(zUz ps [] List.nodup_nil).2];simp
def zKm (e:Nat) (l:List Int):OV:=.os none e 1 (l.map fun n=>[.p (bI n)])
def mpO (b e:Nat) (ps:List (Key×Int)):OV:=.mp b ((gK ps).map zLB) ((gK ps).map fun k=>zKm e (zAx ps k))
theorem zVJ (ps:List (Key×Int)):∀ q∈(gK ps).map zLB,zOb q=3:=by
 intro q hq
 obtain ⟨k,_,rfl⟩:=List.mem_map.1 hq
 rfl
variable [Glob]
theorem yEJ (a b:Key):zEI (zLB a) (zLB b)=decide (a=b):=by
 rw [Bool.eq_iff_iff,decide_eq_true_eq]
 constructor
 ·intro h
  exact yIt (yDB h)
 ·rintro rfl
  simp only [zLB,zEI,Bool.and_eq_true]
  exact ⟨zUp (.inl ⟨_,rfl⟩),zUp (.inr ⟨_,rfl⟩)⟩
theorem yDW (l:List Key) (k:Key):zGU (l.map zLB) (zLB k)=l.findIdx? (fun q=>decide (k=q)):=by
 unfold zGU
 rw [List.findIdx?_map]
 congr 1
 funext q
 exact yEJ k q
theorem zOh (ps:List (Key×Int)) (k k':Key) (n:Int):zAx (ps++[(k,n)]) k'=zAx ps k'++(if k=k' then [n] else []):=by
 unfold zAx
 rw [List.filter_append,List.map_append]
 congr 1
 by_cases h:k=k'<;>simp [h]
theorem zQv (e:Nat) (l:List Int) (n:Int):zKm e (l++[n])=.os none e 1 ((l.map fun n=>[.p (bI n)])++[[.p (bI n)]]):=by simp [zKm]
theorem yIu {b e:Nat} {ps:List (Key×Int)} {k:Key} {i:Nat} (hi:zGU ((gK ps).map zLB) (zLB k)=some i) (n:Int):
  i < ((gK ps).map fun k=>zKm e (zAx ps k)).length∧((gK ps).map fun k=>zKm e (zAx ps k)).getD i .hole=zKm e (zAx ps k)∧
  zLI b ((gK ps).map zLB) (((gK ps).map fun k=>zKm e (zAx ps k)).set i .hole) (zLB k) (zKm e (zAx ps k++[n]))=mpO b e (ps++[(k,n)]):=by
 have hi0:=hi
 rw [yDW] at hi
 obtain ⟨h1,h2,h3⟩:=List.findIdx?_eq_some_iff_getElem.1 hi
 have hk:k=(gK ps)[i]:=by simpa using h2
 refine ⟨by simpa using h1,?_,?_⟩
 ·rw [List.getD_eq_getElem?_getD,List.getElem?_map,List.getElem?_eq_getElem h1]
  simp only [Option.map_some,Option.getD_some,←hk]
 ·unfold zLI
  rw [hi0]
  have hg:gK (ps++[(k,n)])=gK ps:=by
   rw [yGv];unfold yDU;rw [if_pos]
   show k∈gK ps
   rw [hk];exact List.getElem_mem h1
  unfold mpO
  rw [hg]
  simp only [OV.mp.injEq,true_and]
  apply List.ext_getElem
  ·simp
  ·intro j hj1 hj2
   simp only [List.length_map] at hj2
   simp only [List.set_set,List.getElem_set,List.getElem_map,zOh]
   by_cases e1:i=j
   ·subst e1
    rw [if_pos rfl,←hk,if_pos rfl]
   ·rw [if_neg e1,if_neg,List.append_nil]
    intro e2
    apply e1
    exact (List.getElem_inj (yDV ps)).1 (hk.symm.trans e2)
theorem zYB {ps:List (Key×Int)} {k:Key} (h:k∉gK ps):zAx ps k=[]:=by
 unfold zAx
 rw [List.filter_eq_nil_iff.2 (fun q hq=>?_)]
 ·rfl
 ·intro hk
  apply h
  rw [yGw]
  exact List.mem_map.2 ⟨q,hq,by simpa using hk⟩
theorem yKZ {b e:Nat} {ps:List (Key×Int)} {k:Key} (hi:zGU ((gK ps).map zLB) (zLB k)=none) (n:Int):
  zAx ps k=[]∧zLI b ((gK ps).map zLB) ((gK ps).map fun k=>zKm e (zAx ps k)) (zLB k) (zKm e (zAx ps k++[n]))=mpO b e (ps++[(k,n)]):=by
 have hi0:=hi
 rw [yDW,List.findIdx?_eq_none_iff] at hi
 have hk:k∉gK ps:=fun hc=>by have:=hi k hc;simp at this
 have h0:=zYB hk
 refine ⟨h0,?_⟩
 unfold zLI
 rw [hi0]
 have hg:gK (ps++[(k,n)])=gK ps++[k]:=by
  rw [yGv];unfold yDU;rw [if_neg hk]
 unfold mpO
 rw [hg,List.map_append,List.map_append]
 simp only [OV.mp.injEq,true_and,List.map_cons,List.map_nil,zOh,if_true]
 congr 1
 apply List.map_congr_left
 intro q hq
 rw [if_neg,List.append_nil]
 rintro rfl
 exact hk hq
section
variable {P:Program} {F:List Ct} {K:List Ct→Prop} {X:Value→List Ct→Prop}
theorem yK0 {d r b e:Nat} {x k:Opd} {ps:List (Key×Int)} {key:Key} {p:PVal} (e1:zLJ F x=some b) (e2:F.getD r .un=.ov (.one (mpO b e ps))) (hr:r < F.length) (e3:(zAf F k).pv?=some p) (e4:yEq p.norm=some (zLB key)) (hn:(zAf F k).need) (hd:d≠r)
  (h:∀ K1 V1,(∀ q∈K1,zOb q=3)→(∀ n,zLI b K1 V1 (zLB key) (zKm e (zAx ps key++[n]))=mpO b e (ps++[(key,n)]))→K ((F.set r (.ov (.one (.mp b K1 V1)))).set d (.ov (.one (zKm e (zAx ps key)))))):hoW P ⟨none,.mpv d x r 3 k e 1⟩ F K X:=by
 show opW P (.mpv d x r 3 k e 1) F K X
 simp only [opW]
 refine yJF e1 e2 e3 e4 hn rfl (zVJ ps) ⟨hd,?_⟩
 split
 ·rename_i i hi
  have h1:=yIu (b:=b) (e:=e) hi
  refine ⟨(h1 0).1,?_⟩
  rw [(h1 0).2.1]
  exact h _ _ (zVJ ps) fun n=>(h1 n).2.2
 ·rename_i hi
  have h1:=yKZ (b:=b) (e:=e) hi
  have:=h _ _ (zVJ ps) fun n=>(h1 n).2
  rw [(h1 0).1] at this
  have e5:F.set r (.ov (.one (.mp b ((gK ps).map zLB) ((gK ps).map fun k=>zKm e (zAx ps k)))))=F:=by
   apply List.ext_getElem?
   intro j
   rw [List.getElem?_set]
   split
   ·rename_i hj
    subst hj
    rw [List.getD_eq_getElem?_getD,List.getElem?_eq_getElem hr] at e2
    rw [List.getElem?_eq_getElem hr]
    simp only [Option.getD_some] at e2
    rw [e2];rfl
   ·rfl
  rw [e5] at this
  exact this
theorem yK1 {r b e:Nat} {x k:Opd} {n:Nat} {ps:List (Key×Int)} {key:Key} {p:PVal} {K1:List Value} {V1:List OV} {v:Int} {c:OV} (e1:zLJ F x=some b) (e2:F.getD r .un=.ov (.one (.mp b K1 V1))) (e3:(zAf F k).pv?=some p) (e4:yEq p.norm=some (zLB key)) (hn:(zAf F k).need) (hk:∀ q∈K1,zOb q=3)
  (hp:∀ n,zLI b K1 V1 (zLB key) (zKm e (zAx ps key++[n]))=mpO b e (ps++[(key,n)])) (hy:F.getD n .un=.ov (.one c)) (hc:c=zKm e (zAx ps key++[v])) (hnr:n≠r) (h:K ((F.set n .un).set r (.ov (.one (mpO b e (ps++[(key,v)])))))):hoW P ⟨none,.mps x r 3 k (.t n)⟩ F K X:=by
 show opW P (.mps x r 3 k (.t n)) F K X
 simp only [opW]
 refine yJF e1 e2 e3 e4 hn rfl hk ⟨fun s hs=>by injection hs with hs;rw [←hs];exact hnr,?_⟩
 have h1:zSE F (.t n)=(True,some c):=by unfold zSE;simp only [zAf,hy]
 have h2:clr F F (.t n)=F.set n .un:=by simp only [clr,hy]
 rw [h1,h2]
 refine ⟨trivial,?_⟩
 simp only [hc,hp]
 exact h
end
end Go.Hx
end

section
/-
 The entries as a walk through the map brings them: a permutation of the index. No condition.
-/
set_option maxRecDepth 100000
set_option linter.unusedSimpArgs false
namespace Go.Hx
open Go.RowKit
theorem zQw:∀ (N:Nat) (l:List Nat),l.Nodup→(∀ i∈l,i < N)→l.length≤N
 |0,[],_,_=>Nat.le_refl _
 |0,i::l,_,h=>absurd (h i List.mem_cons_self) (Nat.not_lt_zero _)
 |N+1,l,hn,h=>by
  have h1:∀ i∈l.erase N,i < N:=fun i hi=>by
   have h2:=(List.Nodup.mem_erase_iff hn).1 hi
   have:=h i h2.2
   have:=h2.1
   omega
  have h2:=zQw N (l.erase N) (hn.erase N) h1
  have h3:=List.length_erase (a:=N) (l:=l)
  split at h3<;>omega
def zYC (ps:List (Key×Int)) (i:Nat):Ent:=⟨((gK ps).getD i default).1,((gK ps).getD i default).2,zAx ps ((gK ps).getD i default)⟩
theorem zYD (ps:List (Key×Int)) {i:Nat} (h:i < (gK ps).length):(gK ps).getD i default=(gK ps)[i]:=by
 rw [List.getD_eq_getElem?_getD,List.getElem?_eq_getElem h];rfl
theorem zLP (ps:List (Key×Int)) (i:Nat):(zYC ps i).key=(gK ps).getD i default:=rfl
theorem zYE {l:List Ent} (h:zKl l):l.Nodup:=by
 unfold zKl at h
 exact List.Pairwise.imp (fun {a b} h e=>by rw [e,zBe] at h;cases h) h
theorem yIv {ps:List (Key×Int)} {seen:List Nat} (hn:seen.Nodup) (hb:∀ i∈seen,i < (gK ps).length) (ha:∀ i,i < (gK ps).length→i∈seen):(seen.map (zYC ps)).Perm (zBM ps):=by
 have hs:=zG5 ps.length ps rfl
 refine (List.perm_ext_iff_of_nodup ?_ (zYE hs.1)).2 fun e=>?_
 ·rw [List.nodup_iff_pairwise_ne,List.pairwise_map]
  refine List.Pairwise.imp_of_mem (fun {a b} h1 h2 h3 e=>?_) hn
  have e1:=congrArg Ent.key e
  rw [zLP,zLP,zYD ps (hb a h1),zYD ps (hb b h2)] at e1
  exact h3 ((List.getElem_inj (yDV ps)).1 e1)
 ·rw [hs.2,List.mem_map]
  constructor
  ·rintro ⟨i,hi,rfl⟩
   rw [zLP,zYD ps (hb i hi)]
   refine ⟨(yGw ps _).1 (List.getElem_mem _),?_⟩
   show zAx ps ((gK ps).getD i default)=_
   rw [zYD ps (hb i hi)]
  ·rintro ⟨h1,h2⟩
   obtain ⟨i,hi,h3⟩:=List.mem_iff_getElem.1 ((yGw ps _).2 h1)
   refine ⟨i,ha i hi,?_⟩
   refine Ent.ext' ?_ ?_
   ·rw [zLP,zYD ps hi,h3]
   ·show zAx ps ((gK ps).getD i default)=_
    rw [zYD ps hi,h3,h2]
theorem yNm (ps:List (Key×Int)):(gK ps).length≤ps.length:=by
 have:∀ (ps:List (Key×Int)) (l:List Key),(ps.foldl (fun l p=>yDU l p.1) l).length≤l.length+ps.length:=by
  intro ps
  induction ps with
  |nil=>intro l;simp
  |cons p r ih=>
   intro l
   have h1:(yDU l p.1).length≤l.length+1:=by unfold yDU;split<;>simp
   have:=ih (yDU l p.1)
   rw [List.foldl_cons,List.length_cons]
   omega
 have:=this ps []
 simpa [gK] using this
theorem zEP (ps:List (Key×Int)) (k:Key):(zAx ps k).length≤ps.length:=by
 unfold zAx
 rw [List.length_map]
 exact List.length_filter_le _ _
theorem zNq (x:Nd):(zEO x).length≤2+x.cls.length:=by
 unfold zEO
 rw [List.length_cons,List.length_append,List.length_map]
 split<;>simp<;>omega
theorem zEQ (d:List Nd):∀ (n:Nat),(∀ i,i < n→(d.getD i default).cls.length≤64)→(zAY d n).length≤n * 66
 |0,_=>by simp [zAY]
 |n+1,h=>by
  have h1:=zEQ d n fun i hi=>h i (by omega)
  have h2:=zNq (d.getD n default)
  have h3:=h n (by omega)
  rw [zAY,List.length_append,List.length_map]
  omega
theorem zOi (d:List Nd) (i:Nat):zAY d (i+1)=(zAY d i++[((1,(d.getD i default).tag),(i:Int))]++(if (d.getD i default).id=[] then [] else [((2,(d.getD i default).id),(i:Int))]))++(d.getD i default).cls.map fun c=>((3,c),(i:Int)):=by
 rw [zAY,zEO,List.map_cons,List.map_append,List.map_map,List.append_assoc,List.append_assoc,List.singleton_append]
 congr 2
 split<;>simp
end Go.Hx
end
