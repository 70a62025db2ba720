/-
  Walks of functions of the program over an abstract layer, and the laws that they use: each contract says what the function computes, for every input that its conditions let by. No other condition.
-/
import Derived.Test.YtjnagiaooecklabGreatDoorG8
import Derived.Scope
set_option linter.all false
section
/-
 THE ABSTRACT LAYER, ELEVENTH TEXT: the walk of code on the abstract frame is sound; a contract out of it. Generic over the program. No condition.
-/
namespace Go.Hx
open Go.RowKit
variable [Glob]
section
variable {P:Program} {E:Env} {S:Start}
def zZL (E:Env) (S:Start) (Q:Exit→List Ct→Prop):Exit→Act→World→Prop:=fun e a w=>∃ F,Q e F∧Inv E S F a w
theorem zZM {c:Code} {Q:Exit→Act→World→Prop} (I:Nat→Act→World→Prop)
  (round:∀ n a w,I n a w→c.wp P (Exit.then (fun a' w'=>∃ n',n'<n∧I n' a' w') Q) a w) {n:Nat} {a:Act} {w:World} (h0:I n a w):(Code.loop c).wp P Q a w:=by
 intro b k cs
 have key:∀ n a w,I n a w→∃ e a' w',Q e a' w'∧Arrives P (lone (b.at a (.code c :: .inLoop c :: k)) cs w) b k cs e a' w':=by
  intro n
  induction n using Nat.strongRecOn with
  |_ n ih=>
   intro a w hI
   obtain ⟨e,a₁,w₁,hq,harr⟩:=round n a w hI b (.inLoop c :: k) cs
   cases e with
   |normal=>
    obtain ⟨n',hlt,hI₁⟩:=hq
    obtain ⟨e₂,a₂,w₂,hq₂,harr₂⟩:=ih n' hlt a₁ w₁ hI₁
    exact ⟨e₂,a₂,w₂,hq₂,.of_steps (Steps.trans harr (.one step_inLoop)) harr₂⟩
   |exit id=>exact ⟨_,a₁,w₁,hq,.pass (x:=.inLoop c) rfl (fun _ _=>.inl (by simp)) harr⟩
   |goto l=>exact ⟨_,a₁,w₁,hq,.pass (x:=.inLoop c) rfl (fun _ _=>.inl (by simp)) harr⟩
   |ret=>exact ⟨_,a₁,w₁,hq,.pass (x:=.inLoop c) rfl (fun _ _=>.inl (by simp)) harr⟩
   |panic ch=>exact ⟨_,a₁,w₁,hq,.pass (x:=.inLoop c) rfl (fun _ _=>.inl (by simp)) harr⟩
   |outgrown=>exact ⟨_,a₁,w₁,hq,.pass (x:=.inLoop c) rfl (fun _ _=>.inl (by simp)) harr⟩
 obtain ⟨e,a',w',hq,harr⟩:=key n a w h0
 exact ⟨e,a',w',hq,.of_steps (.one step_loop) harr⟩
def zDC (P:Program) (E:Env):Code→HCode→Bool
 |.skip,.skip=>true
 |.region _ ops draw,.reg hs dr post=>draw == dr && zFg P E ops hs ops.toList && zFR E post && (!draw || dkQ P ops hs)
 |.region _ ops draw,.drg ds post=>draw && yBn P E ops ds && zFR E post
 |.region _ ops draw,.regG pre hs post=>!draw && zFg P E ops hs ops.toList && zFR E pre && zFR E post
 |.region _ ops draw,.drgG pre ds post=>draw && yBn P E ops ds && zFR E pre && zFR E post
 |.region _ ops draw,.rdr i hs dr post=>draw == dr && zFg P E ops hs ops.toList && zFR E post && (!draw || dkQ P ops hs) && hs.all HO.quiet && decide (i<E.N) && (yEQ hs).all (fun d=>decide (d<E.N))
 |.seq x y,.seq a b=>zDC P E x a && zDC P E y b
 |.cond c x y,.cond d a b=>zAp E.N d c && zDC P E x a && zDC P E y b
 |.block i x,.block j a=>i == j && zDC P E x a
 |.loop x,.loop a=>zDC P E x a
 |.exit i,.exit j=>i == j
 |.ret,.ret=>true
 |.scope x,.scope a=>zDC P E x a
 |.label _,.label=>true
 |_,_=>false
theorem yBp {F:List Ct} {a:Act} {w:World} (h:Inv E S F a w):Inv E S F a { w with drawn:=w.drawn+1 }:=by
 obtain ⟨m,β,ow,h⟩:=h
 exact ⟨m,β,ow,h.quiet ⟨m.le_refl,h.mem,fun _ _ _=>rfl,fun _ _ _ _=>rfl,fun _ _ _ h=>.inl h,Pres.drew _ w⟩⟩
theorem yCc {K:List Ct→Prop} {Q:Exit→List Ct→Prop} {e:Exit} {a:Act} {w:World} (h:zZL E S (zU3 K Q) e a w):Exit.then (fun a w=>zDU E S K a w) (zZL E S Q) e a w:=by
 obtain ⟨F,h1,h2⟩:=h
 cases e <;> exact ⟨F,h1,h2⟩
theorem zKT (wf:E.Wf) :
  ∀ (c:Code) (h:HCode) (Q:Exit→List Ct→Prop) (F:List Ct) (a:Act) (w:World),zDC P E c h=true→hwp P h Q F→Inv E S F a w→c.wp P (zZL E S Q) a w:=by
 intro c
 induction c with
 |skip=>
  intro h Q F a w hk hW hI
  cases h <;> simp [zDC] at hk
  exact wp_skip ⟨F,hW,hI⟩
 |region id ops draw=>
  intro h Q F a w hk hW hI
  cases h with
  |reg hs dr post=>
   simp only [zDC,Bool.and_eq_true,beq_iff_eq,Bool.or_eq_true,Bool.not_eq_true'] at hk
   obtain ⟨⟨⟨rfl,h2⟩,h3⟩,h4⟩:=hk
   simp only [hwp] at hW
   have hN:∀ F' a' w',ghW F' (fun F''=>Q .normal F'') post→Inv E S F' a' w'→zZL E S Q .normal a' w':=fun F' a' w' hg hI'=>zCs wf h3 hI' hg
   cases draw with
   |false=>
    refine wp_region ?_
    have:=zPU (P:=P) wf (ops:=ops) (X:=fun v F'=>Q (.panic [{ v,recovered:=false }]) F') (Q:=zZL E S Q) (fun v F' a' w' hx hI'=>⟨F',hx,hI'⟩) hN hs ops.toList 0 (fun i o ho=>by simpa using ho) h2 F a w hI hW
    rw [Array.length_toList] at this
    rwa [List.range_eq_range']
   |true=>
    have hd:dkQ P ops hs=true:=by simpa using h4
    have hq:∀ o ∈ hs,o.quiet=true:=by
     simp only [dkQ,Bool.and_eq_true,List.all_eq_true] at hd
     exact hd.2
    obtain ⟨m,β,ow,hG⟩:=hI
    refine zMb wf (fun _=>hd) hq h2 hG hW ?_
    rintro a' w' hg ⟨F1,h5,h6,_⟩
    exact hN F1 a' w' h5 ⟨m,β,ow,h6.gr hg⟩
  |drg ds post=>
   simp only [zDC,Bool.and_eq_true] at hk
   obtain ⟨⟨rfl,h2⟩,h3⟩:=hk
   simp only [hwp] at hW
   exact zP4 wf h2 (fun F' a' w' hg hI'=>zCs wf h3 hI' hg) (fun v F' a' w' hx hag hI'=>⟨F',hx F' hag,hI'⟩) (yBp hI) hW
  |regG pre hs post=>
   simp only [zDC,Bool.and_eq_true,Bool.not_eq_true'] at hk
   obtain ⟨⟨⟨rfl,h2⟩,h5⟩,h3⟩:=hk
   simp only [hwp] at hW
   have hN:∀ F' a' w',ghW F' (fun F''=>Q .normal F'') post→Inv E S F' a' w'→zZL E S Q .normal a' w':=fun F' a' w' hg hI'=>zCs wf h3 hI' hg
   obtain ⟨F0,hW0,hI0⟩:=zCs wf h5 hI hW
   refine wp_region ?_
   have:=zPU (P:=P) wf (ops:=ops) (X:=fun v F'=>Q (.panic [{ v,recovered:=false }]) F') (Q:=zZL E S Q) (fun v F' a' w' hx hI'=>⟨F',hx,hI'⟩) hN hs ops.toList 0 (fun i o ho=>by simpa using ho) h2 F0 a w hI0 hW0
   rw [Array.length_toList] at this
   rwa [List.range_eq_range']
  |drgG pre ds post=>
   simp only [zDC,Bool.and_eq_true] at hk
   obtain ⟨⟨⟨rfl,h2⟩,h5⟩,h3⟩:=hk
   simp only [hwp] at hW
   obtain ⟨F0,hW0,hI0⟩:=zCs wf h5 hI hW
   exact zP4 wf h2 (fun F' a' w' hg hI'=>zCs wf h3 hI' hg) (fun v F' a' w' hx hag hI'=>⟨F',hx F' hag,hI'⟩) (yBp hI0) hW0
  |rdr i hs dr post=>
   simp only [zDC,Bool.and_eq_true,beq_iff_eq,Bool.or_eq_true,Bool.not_eq_true',List.all_eq_true,decide_eq_true_eq] at hk
   obtain ⟨⟨⟨⟨⟨⟨rfl,h2⟩,h3⟩,h4⟩,hq⟩,hi⟩,hds⟩:=hk
   simp only [hwp] at hW
   split at hW
   ·rename_i e k rows e1
    obtain ⟨m,β,ow,hG⟩:=hI
    obtain ⟨m',hG'⟩:=yB8 wf hG hi e1
    refine zMb wf (fun hd=>by rcases h4 with h4 | h4 <;> simp_all) hq h2 hG' hW ?_
    rintro a' w' hg ⟨F1,h5,h6,h7⟩
    exact zCs wf h3 ⟨m,β,ow,(yFe wf hG h6 hds h7).gr hg⟩ h5
   ·exact hW.elim
  |_=>simp [zDC] at hk
 |seq x y ihx ihy=>
  intro h Q F a w hk hW hI
  cases h <;> simp only [zDC] at hk <;> try cases hk
  rename_i ha hb
  simp only [Bool.and_eq_true] at hk
  refine wp_seq (wp_mono (ihx ha _ F a w hk.1 hW hI) ?_)
  intro e a' w' h'
  have:=yCc h'
  cases e with
  |normal=>obtain ⟨F',h1,h2⟩:=this; exact ihy hb Q F' a' w' hk.2 h1 h2
  |_=>exact this
 |cond c x y ihx ihy=>
  intro h Q F a w hk hW hI
  cases h <;> simp only [zDC] at hk <;> try cases hk
  rename_i d ha hb
  simp only [Bool.and_eq_true] at hk
  obtain ⟨⟨h1,h2⟩,h3⟩:=hk
  simp only [hwp] at hW
  split at hW
  ·rename_i t e1
   obtain ⟨n1,ht,hf⟩:=hW
   obtain ⟨m,β,ow,hG⟩:=hI
   have hv:=zHD hG h1 n1 e1
   refine wp_cond_split hv (fun e=>ihx ha Q F a w h2 (ht e) ⟨m,β,ow,hG⟩) (fun e=>ihy hb Q F a w h3 (hf e) ⟨m,β,ow,hG⟩)
  ·exact hW.elim
 |block id x ih=>
  intro h Q F a w hk hW hI
  cases h <;> simp only [zDC] at hk <;> try cases hk
  rename_i j ha
  simp only [Bool.and_eq_true,beq_iff_eq] at hk
  obtain ⟨rfl,hk⟩:=hk
  refine wp_block (wp_mono (ih ha _ F a w hk hW hI) ?_)
  rintro e a' w' ⟨F',h1,h2⟩
  cases e with
  |exit id'=>
   simp only [zFQ] at h1
   simp only [Exit.inBlock]
   split at h1
   ·rename_i e'; rw [if_pos e']; exact ⟨F',h1,h2⟩
   ·rename_i e'; rw [if_neg e']; exact ⟨F',h1,h2⟩
  |_=>exact ⟨F',h1,h2⟩
 |loop x ih=>
  intro h Q F a w hk hW hI
  cases h <;> simp only [zDC] at hk <;> try cases hk
  rename_i ha
  simp only [hwp] at hW
  obtain ⟨I,⟨n,F0,hle,hI0⟩,hround⟩:=hW
  obtain ⟨m,β,ow,hG⟩:=hI
  refine zZM (fun n a w=>∃ F,I n F∧Inv E S F a w) ?_ (n:=n) ⟨F0,hI0,m,β,ow,hG.le hle⟩
  rintro n a w ⟨F1,h1,h2⟩
  refine wp_mono (ih ha _ F1 a w hk (hround n F1 h1) h2) ?_
  rintro e a' w' ⟨F2,h3,h4⟩
  cases e with
  |normal=>
   obtain ⟨n',F',hlt,hle',hI'⟩:=h3
   obtain ⟨m,β,ow,hG⟩:=h4
   exact ⟨n',hlt,F',hI',m,β,ow,hG.le hle'⟩
  |_=>exact ⟨F2,h3,h4⟩
 |exit id=>
  intro h Q F a w hk hW hI
  cases h <;> simp only [zDC] at hk <;> try cases hk
  simp only [beq_iff_eq] at hk
  subst hk
  exact wp_exit ⟨F,hW,hI⟩
 |ret=>
  intro h Q F a w hk hW hI
  cases h <;> simp [zDC] at hk
  exact wp_ret ⟨F,hW,hI⟩
 |scope x ih=>
  intro h Q F a w hk hW hI
  cases h <;> simp only [zDC] at hk <;> try cases hk
  rename_i ha
  refine wp_scope_straight (wp_mono (ih ha _ F a w hk hW hI) ?_)
  rintro e a' w' ⟨F',h1,h2⟩
  cases e with
  |goto l=>exact h1.elim
  |_=>exact ⟨F',h1,h2⟩
 |label l=>
  intro h Q F a w hk hW hI
  cases h <;> simp [zDC] at hk
  exact wp_label ⟨F,hW,hI⟩
 |_=>
  intro h Q F a w hk hW hI
  cases h <;> simp [zDC] at hk
end
end Go.Hx
end

section
/-
 THE ABSTRACT LAYER, TWELFTH TEXT: a contract out of a function's code. Generic over the program. No condition.
-/
namespace Go.Hx
open Go.RowKit
variable [Glob]
def zAG:AV→Ct
 |.val x=>.pv x
 |.own e k rows=>.own e k rows
 |.io _=>.ptr 0 0
def ioOf:List AV→Option (List PV)
 |x :: as=>match x with | .io cells=>some cells | _=>ioOf as
 |[]=>none
def zU4:List AV→Nat
 |x :: as=>match x with | .own _ _ _=>zU4 as+1 | _=>zU4 as
 |[]=>0
def nIo:List AV→Nat
 |x :: as=>match x with | .io _=>nIo as+1 | _=>nIo as
 |[]=>0
def yDC:List AV→Nat
 |x :: as=>match x with | .own _ _ _=>0 | _=>yDC as+1
 |[]=>0
def zAI:List Nat→List Ct→List Ct
 |[],F=>F
 |i :: r,F=>zAI r (F.set i .una)
def F0 (E:Env) (base:Nat) (as:List AV):List Ct:=zAI E.una (
 zAe (as.map zAG ++ List.replicate (E.L - as.length) .un) base (match ioOf as with | some cs=>cs.map fun x=>.pv (.one x) | none=>[]))
def zUe (E:Env) (base:Nat) (as:List AV):Prop:=
 as.length≤E.N∧zU4 as≤1∧nIo as≤1∧match ioOf as with | some cs=>E.nfix=1∧E.Γ[0]? = some (base,cs.length) | none=>E.nfix=0
inductive RSrc where
 |tmp (t:Nat)
 |cellB (t j base off n:Nat) (agg:Bool)
 |cellF (t n:Nat) (agg:Bool)
 deriving Inhabited
def zU5 (P:Program) (E:Env):RSrc→ResultVar→Bool
 |.tmp t,.tmp t'=>t == t' && decide (t<E.N)
 |.cellB t j base off n agg,.cell a ty=>t == a && decide (t<E.N) && zDD E j base (off+n) && zBH P ty == some agg && zDB P ty == some n && (agg || n == 1)
 |.cellF t n agg,.cell a ty=>t == a && decide (t<E.N) && zBH P ty == some agg && zDB P ty == some n && (agg || n == 1)
 |_,_=>false
def zD7 (P:Program) (E:Env):List RSrc→List ResultVar→Bool
 |[],[]=>true
 |x :: xs,y :: ys=>zU5 P E x y && zD7 P E xs ys
 |_,_=>false
def rsV (F:List Ct):RSrc→PVal→Prop
 |.tmp t,x=>match (zAv F (.t t)).pv? with
  |some p=>(zAv F (.t t)).need∧(x=p∨x=p.norm)
  |none=>False
 |.cellB t j base off n agg,x=>match F.getD t .un,zAL F (base+off) n with
  |.ptr j' off',some cs=>j'=j∧off'=off∧(x=(if agg then .agg cs else .one (cs.headD (.nl 0)))∨x=(if agg then PVal.agg cs else .one (cs.headD (.nl 0))).norm)
  |_,_=>False
 |.cellF t n agg,x=>match (zAv F (.t t)).pv? with
  |some (.one (.fp cs))=>(zAv F (.t t)).need∧cs.length=n∧x=if agg then .agg (cs.map PV.norm) else .one (cs.headD (.nl 0)).norm
  |_=>False
def zZt (F:List Ct):List RSrc→List PVal→Prop
 |[],xs=>xs=[]
 |r :: rs,l=>match l with | x :: xs=>rsV F r x∧zZt F rs xs | []=>False
def zDc (F:List Ct) (rs:List RSrc):Res→Prop
 |.val x=>match rs with | [r]=>rsV F r x | _=>False
 |.own e k rows=>match rs with | [.tmp t]=>F.getD t .un = .own e k rows | _=>False
 |.tup xs=>match rs with | [_]=>False | _=>zZt F rs xs
 |.pan _=>False
 |.ov x=>match rs with
  |[.tmp t]=>F.getD t .un = .ov x
  |[.cellB t j base off n agg]=>F.getD t .un = .ptr j off∧∃ cs,zDi F (base+off) n=some cs∧x=yGe agg cs
  |_=>False
def yCd (E:Env) (base:Nat) (as:List AV) (rs:List RSrc) (r:RV):Exit→List Ct→Prop
 |.normal,F | .ret,F=>zDc F rs r.res∧∀ cs,ioOf as=some cs→zAL F base cs.length=some r.io
 |.panic ch,_=>∃ v,r.res = .pan v∧ch=[{ v,recovered:=false }]
 |_,_=>False
section
variable {P:Program} {E:Env} {S:Start} {m:Mem} {β:Bx} {ow:Ow} {F:List Ct} {a:Act} {w:World}
def rdR (tmps:Array Value):ResultVar→Sem Value
 |.tmp t=>pure (tmps.getD t undef)
 |.cell a t=>do loadVar t (← asAddr (tmps.getD a undef))
theorem yFl (h:InvG E S m β ow F a w) {r:RSrc} {s:ResultVar} (hk:zU5 P E r s=true) {x:PVal} (hx:rsV F r x) :
  ∃ u,(rdR a.tmps s).run P w = .ok u w∧RpV m x u:=by
 cases r with
 |tmp t=>
  cases s <;> simp only [zU5] at hk <;> try cases hk
  rename_i t'
  simp only [Bool.and_eq_true,beq_iff_eq,decide_eq_true_eq] at hk
  obtain ⟨rfl,ht⟩:=hk
  simp only [rsV] at hx
  split at hx
  ·rename_i p e1
   have hv:=zAT h (x:=.t t) (y:=.tmp t) (by simp [zAp,ht]) hx.1 e1
   rcases hx.2 with rfl | rfl
   ·exact ⟨_,rfl,hv⟩
   ·exact ⟨_,rfl,hv.norm⟩
  ·exact hx.elim
 |cellB t j base off n agg=>
  cases s <;> simp only [zU5] at hk <;> try cases hk
  rename_i b ty
  simp only [Bool.and_eq_true,beq_iff_eq,decide_eq_true_eq,Bool.or_eq_true] at hk
  obtain ⟨⟨⟨⟨⟨rfl,ht⟩,hb⟩,ha⟩,hn⟩,h1⟩:=hk
  simp only [rsV] at hx
  split at hx
  ·rename_i j' off' cs e1 e2
   obtain ⟨rfl,rfl,hx⟩:=hx
   suffices hg:∃ u,(rdR a.tmps (.cell t ty)).run P w = .ok u w∧RpV m (if agg then .agg cs else .one (cs.headD (.nl 0))) u by
    obtain ⟨u,h1,h2⟩:=hg
    rcases hx with rfl | rfl
    ·exact ⟨u,h1,h2⟩
    ·exact ⟨u,h1,h2.norm⟩
   clear hx
   obtain ⟨nn,hj,hle⟩:=zDk hb
   obtain ⟨b,hb,hv⟩:=zCP h (x:=.t t) (y:=.tmp t) (by simp [zAp,ht]) e1
   have hv':a.tmps.getD t undef=_:=hv
   have hB:=h.boxes _ _ hj
   rw [hb] at hB
   obtain ⟨us,hl,hu,hm⟩:=zIK hB n off' hle cs e2
   have hrun:=zBl (P:=P) (w:=w) ha hn h1 (us:=us) (b:=b) (o:=off') hl hm
   refine ⟨if agg=true then .agg us.toArray else us.headD undef,by simp only [rdR,hv',asAddr,Sem.run_bind,Sem.run_pure,Result.andThen_ok,hrun],?_⟩
   cases agg with
   |true=>exact ⟨us,rfl,hu⟩
   |false=>
    rcases h1 with h1 | rfl
    ·cases h1
    ·have hcl:cs.length=1:=by rw [← hu.length,hl]
     match cs,hcl with
     |[x],_=>
      simp only [RpL] at hu
      obtain ⟨u,us',rfl,h2,_⟩:=hu
      exact h2
  ·exact hx.elim
 |cellF t n agg=>
  cases s <;> simp only [zU5] at hk <;> try cases hk
  rename_i b ty
  simp only [Bool.and_eq_true,beq_iff_eq,decide_eq_true_eq,Bool.or_eq_true] at hk
  obtain ⟨⟨⟨⟨rfl,ht⟩,ha⟩,hn⟩,h1⟩:=hk
  simp only [rsV] at hx
  split at hx
  ·rename_i cs e1
   obtain ⟨n1,rfl,rfl⟩:=hx
   have hv:=zAT h (x:=.t t) (y:=.tmp t) (by simp [zAp,ht]) n1 e1
   obtain ⟨b,o,hv,hr⟩:=hv
   have hv':a.tmps.getD t undef=_:=hv
   obtain ⟨us,hu,hm⟩:=hr.vals
   have hrun:=zBl (P:=P) (w:=w) ha hn h1 (us:=us) (b:=b) (o:=o) (by rw [hu.length]) (fun i u hi=>h.mem _ _ _ (hm i u hi))
   refine ⟨if agg=true then .agg us.toArray else us.headD undef,by simp only [rdR,hv',asAddr,Sem.run_bind,Sem.run_pure,Result.andThen_ok,hrun],?_⟩
   cases agg with
   |true=>exact ⟨us,rfl,hu.norm⟩
   |false=>
    rcases h1 with h1 | h1
    ·cases h1
    ·exact zT4 hu h1
  ·exact hx.elim
theorem zXS (h:InvG E S m β ow F a w):∀ {rs:List RSrc} {ss:List ResultVar} (_:zD7 P E rs ss=true) {xs:List PVal} (_:zZt F rs xs),
  ∃ us:List Value,(ss.mapM (rdR a.tmps)).run P w = .ok us w∧RpVL m xs us
 |[],[],_,xs,hx=>by
  simp only [zZt] at hx
  subst hx
  exact ⟨[],by simp,rfl⟩
 |[],s :: ss,hk,xs,hx=>by simp [zD7] at hk
 |r :: rs,[],hk,xs,hx=>by simp [zD7] at hk
 |r :: rs,s :: ss,hk,[],hx=>by simp [zZt] at hx
 |r :: rs,s :: ss,hk,x :: xs,hx=>by
  simp only [zD7,Bool.and_eq_true] at hk
  simp only [zZt] at hx
  obtain ⟨u,h1,h2⟩:=yFl h hk.1 hx.1
  obtain ⟨us,h3,h4⟩:=zXS h hk.2 hx.2
  refine ⟨u :: us,?_,u,us,rfl,h2,h4⟩
  rw [List.mapM_cons,Sem.run_bind,h1]
  simp only [Result.andThen_ok]
  rw [Sem.run_bind,h3]
  simp
theorem zEi (h:InvG E S m β ow F a w) {fn:Func} {rs:List RSrc} (hk:zD7 P E rs fn.results.toList=true) {xs:List PVal} (hx:zZt F rs xs) :
  ∃ us:List Value,(results fn a.tmps).run P w = .ok (match us with | [u]=>u | _=>.tuple us.toArray) w∧RpVL m xs us:=by
 obtain ⟨us,h1,h2⟩:=zXS h hk hx
 refine ⟨us,?_,h2⟩
 have e:results fn a.tmps=(do let vs ← fn.results.mapM (rdR a.tmps); pure (if h:vs.size=1 then vs[0] else .tuple vs)):=by
  unfold results
  congr
 rw [e,Array.mapM_eq_mapM_toList]
 have h3:(Functor.map List.toArray (List.mapM (rdR a.tmps) fn.results.toList):Sem (Array Value)).run P w = .ok us.toArray w:=by
  rw [map_eq_pure_bind,Sem.run_bind,h1]
  rfl
 rw [Sem.run_bind,h3]
 simp only [Result.andThen_ok]
 match us with
 |[]=>rfl
 |[u]=>rfl
 |u :: v :: us=>rfl
theorem ArgsRep.get:∀ {as:List AV} {us:List Value},ArgsRep m w as us→∀ (i:Nat) (x:AV),as[i]? = some x→∃ u,us[i]? = some u∧ArgRep m w x u
 |[],us,h,i,x,hx=>by simp at hx
 |y :: ys,us,h,i,x,hx=>by
  simp only [ArgsRep] at h
  obtain ⟨u,us',rfl,h2,h3⟩:=h
  cases i with
  |zero=>simp at hx; subst hx; exact ⟨u,rfl,h2⟩
  |succ i=>simpa using ArgsRep.get h3 i x (by simpa using hx)
theorem zZN:∀ {as:List AV} {us:List Value},ArgsRep m w as us→zU4 as≤1→∀ (i:Nat) (e k:Nat) (rows:List (List PV)),as[i]? = some (.own e k rows)→i=yDC as∧∃ u,us[i]? = some u∧zGj as us=u.ownBlock
 |[],us,h,_,i,e,k,rows,hx=>by simp at hx
 |y :: ys,us,h,hn,i,e,k,rows,hx=>by
  simp only [ArgsRep] at h
  obtain ⟨u,us',rfl,h2,h3⟩:=h
  cases i with
  |zero=>
   simp at hx; subst hx
   exact ⟨rfl,u,rfl,rfl⟩
  |succ i=>
   have hx':ys[i]? = some (.own e k rows):=by simpa using hx
   cases y with
   |own e' k' rows'=>
    exfalso
    have:zU4 ys=0:=by simp [zU4] at hn; omega
    exact absurd hx' (no_own this i e k rows)
   |val x=>
    obtain ⟨h4,u',h5,h6⟩:=zZN h3 (by simpa [zU4] using hn) i e k rows hx'
    exact ⟨by simp [yDC,h4],u',by simpa using h5,by simpa [zGj] using h6⟩
   |io cs=>
    obtain ⟨h4,u',h5,h6⟩:=zZN h3 (by simpa [zU4] using hn) i e k rows hx'
    exact ⟨by simp [yDC,h4],u',by simpa using h5,by simpa [zGj] using h6⟩
where
 no_own:∀ {as:List AV},zU4 as=0→∀ (i:Nat) (e k:Nat) (rows:List (List PV)),as[i]? ≠ some (.own e k rows)
 |[],_,i,_,_,_=>by simp
 |.own _ _ _ :: ys,h,_,_,_,_=>by simp [zU4] at h
 |.val _ :: ys,h,0,_,_,_=>by simp
 |.val _ :: ys,h,i+1,e,k,rows=>by simpa using no_own (as:=ys) (by simpa [zU4] using h) i e k rows
 |.io _ :: ys,h,0,_,_,_=>by simp
 |.io _ :: ys,h,i+1,e,k,rows=>by simpa using no_own (as:=ys) (by simpa [zU4] using h) i e k rows
theorem yDD:∀ {as:List AV} {us:List Value},ArgsRep m w as us→nIo as≤1→∀ (i:Nat) (cs:List PV),as[i]? = some (.io cs)→ioOf as=some cs∧∃ u,us[i]? = some u∧ioB as us=yIF u
 |[],us,h,_,i,cs,hx=>by simp at hx
 |y :: ys,us,h,hn,i,cs,hx=>by
  simp only [ArgsRep] at h
  obtain ⟨u,us',rfl,h2,h3⟩:=h
  cases i with
  |zero=>
   simp at hx; subst hx
   exact ⟨rfl,u,rfl,rfl⟩
  |succ i=>
   have hx':ys[i]? = some (.io cs):=by simpa using hx
   cases y with
   |io cs'=>
    exfalso
    have:nIo ys=0:=by simp [nIo] at hn; omega
    exact absurd hx' (no_io this i cs)
   |val x=>
    obtain ⟨h4,u',h5,h6⟩:=yDD h3 (by simpa [nIo] using hn) i cs hx'
    exact ⟨by simp [ioOf,h4],u',by simpa using h5,by simpa [ioB] using h6⟩
   |own e k rows=>
    obtain ⟨h4,u',h5,h6⟩:=yDD h3 (by simpa [nIo] using hn) i cs hx'
    exact ⟨by simp [ioOf,h4],u',by simpa using h5,by simpa [ioB] using h6⟩
where
 no_io:∀ {as:List AV},nIo as=0→∀ (i:Nat) (cs:List PV),as[i]? ≠ some (.io cs)
 |[],_,i,_=>by simp
 |.io _ :: ys,h,_,_=>by simp [nIo] at h
 |.val _ :: ys,h,0,_=>by simp
 |.val _ :: ys,h,i+1,cs=>by simpa using no_io (as:=ys) (by simpa [nIo] using h) i cs
 |.own _ _ _ :: ys,h,0,_=>by simp
 |.own _ _ _ :: ys,h,i+1,cs=>by simpa using no_io (as:=ys) (by simpa [nIo] using h) i cs
theorem yBq:∀ {as:List AV} {us:List Value} {cs:List PV},ArgsRep m w as us→ioOf as=some cs→zPI as=cs.length∧∃ b vs T,ioB as us=some b∧w.heap[b]? = some (.cells vs T (0,0))∧(∀ o,m b o=none)∧RpL m cs vs.toList
 |[],us,cs,h,hx=>by simp [ioOf] at hx
 |y :: ys,us,cs,h,hx=>by
  simp only [ArgsRep] at h
  obtain ⟨u,us',rfl,h2,h3⟩:=h
  cases y with
  |io cs'=>
   simp only [ioOf,Option.some.injEq] at hx
   subst hx
   obtain ⟨b,vs,T,rfl,h4,h5,h6⟩:=h2
   exact ⟨rfl,b,vs,T,rfl,h4,h5,h6⟩
  |val x=>exact yBq (as:=ys) (us:=us') h3 hx
  |own e k rows=>exact yBq (as:=ys) (us:=us') h3 hx
theorem zGt:∀ {as:List AV} {us:List Value},ioOf as=none→ioB as us=none
 |[],us,h=>by cases us <;> rfl
 |y :: ys,[],h=>rfl
 |y :: ys,u :: us,h=>by
  cases y with
  |io cs=>simp [ioOf] at h
  |val x=>exact zGt (as:=ys) h
  |own e k rows=>exact zGt (as:=ys) h
theorem zP5:∀ {as:List AV} {us:List Value} {b:Nat},ArgsRep m w as us→zGj as us=some b→∃ (i e k:Nat) (rows:List (List PV)) (u:Value),as[i]? = some (.own e k rows)∧us[i]? = some u∧u.ownBlock=some b∧OwnAt m w e k rows u
 |[],us,b,h,hb=>by simp [zGj] at hb
 |y :: ys,us,b,h,hb=>by
  simp only [ArgsRep] at h
  obtain ⟨u,us',rfl,h2,h3⟩:=h
  cases y with
  |own e k rows=>exact ⟨0,e,k,rows,u,rfl,rfl,hb,h2⟩
  |val x=>
   obtain ⟨i,e,k,rows,u',h4,h5,h6⟩:=zP5 h3 (b:=b) hb
   exact ⟨i+1,e,k,rows,u',by simpa using h4,by simpa using h5,h6⟩
  |io cs=>
   obtain ⟨i,e,k,rows,u',h4,h5,h6⟩:=zP5 h3 (b:=b) hb
   exact ⟨i+1,e,k,rows,u',by simpa using h4,by simpa using h5,h6⟩
theorem OwnAt.lt {e k:Nat} {rows:List (List PV)} {u:Value} (h:OwnAt m w e k rows u) {g:Nat} (hg:u.ownBlock=some g):g<w.heap.size:=by
 obtain ⟨⟨xs,h1,h2⟩,_⟩:=h
 rcases h2 with ⟨rfl,_⟩ | ⟨g',cap,cur,rfl,_,hh,_⟩
 ·simp [Value.ownBlock] at hg
 ·simp only [Value.ownBlock,Option.some.injEq] at hg
  subst hg
  exact (Array.getElem?_eq_some_iff.1 hh).1
theorem zXT (wf:E.Wf):∀ (l:List Nat) (F:List Ct),(∀ i ∈ l,E.N≤i∧∀ j bn b,E.Γ[j]? = some bn→β j=some b→i<bn.1∨bn.1+bn.2≤i)→InvG E S m β ow F a w→InvG E S m β ow (zAI l F) a w
 |[],_,_,h=>h
 |x :: r,F,hx,h=>by
  refine zXT wf r (F.set x .una) (fun i hi=>hx i (List.mem_cons_of_mem _ hi)) ?_
  obtain ⟨hN,hb⟩:=hx x List.mem_cons_self
  have hg:∀ i,(F.set x .una).getD i .un=F.getD i .un∨(i=x∧(F.set x .una).getD i .un = .una):=by
   intro i
   rw [zAP]
   split
   ·exact .inr ⟨by omega,rfl⟩
   ·exact .inl rfl
  refine { h with lenF:=by rw [List.length_set]; exact h.lenF,slots:=fun i hi=>?_,boxes:=fun j bn hj=>?_ }
  ·rcases hg i with e | ⟨e,_⟩
   ·rw [e]; exact h.slots i hi
   ·omega
  ·have hB:=h.boxes j bn hj
   cases hβ:β j with
   |none=>
    rw [hβ] at hB
    intro o ho
    rcases hg (bn.1+o) with e | ⟨_,e⟩
    ·rw [e]; exact hB o ho
    ·exact .inr e
   |some b=>
    rw [hβ] at hB
    obtain ⟨h1,h2,cs,T,h3,h4,h5⟩:=hB
    refine ⟨h1,h2,cs,T,h3,h4,fun o ho=>?_⟩
    rcases hg (bn.1+o) with e | ⟨e,_⟩
    ·rw [e]; exact h5 o ho
    ·have:=hb j bn b hj hβ
     omega
theorem zXU (hun:E.unaOk=true) (wf:E.Wf) {base:Nat} {as:List AV} {us:List Value} (hf:zUe E base as) (hm:MemOk m w) (ha:ArgsRep m w as us) (hd:∀ g,zGj as us=some g→ioB as us≠some g) (hG0:Glob.ok w) (hGR:∀ b,zKN as us b→Glob.n≤b) :
  Inv E { w0:=w,m0:=m,R0:=zKN as us,b0:=fun j=>if j=0 then ioB as us else none,g0:=hG0,gR:=hGR } (F0 E base as) { tmps:=us.toArray ++ Array.replicate (E.N - us.toArray.size) undef,defers:=[] } w:=by
 obtain ⟨hlen,hno,hni,hio⟩:=hf
 have hul:=ha.length
 have hNL:=wf.le
 have hFl:(as.map zAG ++ List.replicate (E.L - as.length) Ct.un).length=E.L:=by simp; omega
 have hbase:∀ cs,ioOf as=some cs→E.N≤base∧base+cs.length≤E.L:=by
  intro cs hc
  rw [hc] at hio
  exact ⟨wf.lo 0 _ hio.2,wf.hi 0 _ hio.2⟩
 refine ⟨m,fun j=>if j=0 then ioB as us else none,fun b=>if zGj as us=some b then some (.key (yDC as)) else if ioB as us=some b then some (.box 0) else none,?_⟩
 refine zXT wf _ _ (fun i hi=>?_) ?_
 ·have hu:=List.all_eq_true.1 hun i hi
  simp only [Bool.and_eq_true,decide_eq_true_eq] at hu
  refine ⟨hu.1,fun j bn b hj hb=>?_⟩
  split at hb
  ·rename_i e
   subst e
   have hn:E.nfix=1:=by
    cases hc:ioOf as with
    |none=>rw [zGt hc] at hb; cases hb
    |some cs=>rw [hc] at hio; exact hio.1
   have:=List.all_eq_true.1 hu.2 0 (by rw [hn]; decide)
   rw [hj] at this
   simpa using this
  ·cases hb
 refine ⟨by rw [zAR]; exact hFl,by simp; omega,rfl,?_,?_,hm,m.le_refl,Pres.refl _ _,?_,?_,fun b o u h=>.inl h,fun j _=>rfl⟩
 ·intro i hi
  have e1:(zAe (as.map zAG ++ List.replicate (E.L - as.length) Ct.un) base (match ioOf as with | some cs=>cs.map fun x=>Ct.pv (.one x) | none=>[])).getD i .un=(as.map zAG ++ List.replicate (E.L - as.length) Ct.un).getD i .un:=by
   cases hc:ioOf as with
   |none=>rfl
   |some cs=>
    have:=hbase cs hc
    rw [zAu,if_neg yO]
  rw [e1]
  by_cases hia:i<as.length
  ·rw [List.getD_eq_getElem?_getD,List.getElem?_append_left (by simpa using hia),List.getElem?_map,List.getElem?_eq_getElem hia]
   simp only [Option.map_some,Option.getD_some]
   obtain ⟨u,h1,h2⟩:=ha.get i as[i] (List.getElem?_eq_getElem hia)
   have e2:(us.toArray ++ Array.replicate (E.N - us.toArray.size) undef).getD i undef=u:=by
    rw [Array.getD_eq_getD_getElem?,Array.getElem?_append_left (by simp; omega)]
    simp [h1]
   rw [e2]
   cases hx:as[i] with
   |val x=>rw [hx] at h2; exact h2
   |own e k rows=>
    rw [hx] at h2
    obtain ⟨h3,u',h4,h5⟩:=zZN ha hno i e k rows (by rw [← hx]; exact List.getElem?_eq_getElem hia)
    rw [h1] at h4
    injection h4 with h4
    subst h4
    refine OwnAt.rep h2 fun g hg=>?_
    rw [if_pos (h5.trans hg),h3]
   |io cs=>
    rw [hx] at h2
    obtain ⟨h3,u',h4,h5⟩:=yDD ha hni i cs (by rw [← hx]; exact List.getElem?_eq_getElem hia)
    rw [h1] at h4
    injection h4 with h4
    subst h4
    obtain ⟨b,vs,T,rfl,_⟩:=h2
    exact ⟨b,by simpa [yIF] using h5,rfl⟩
  ·rw [List.getD_eq_getElem?_getD,List.getElem?_append_right (by simpa using Nat.le_of_not_lt hia),List.getElem?_replicate]
   split <;> trivial
 ·intro j bn hj
  by_cases hj0:j=0
  ·subst hj0
   simp only [if_true]
   cases hc:ioOf as with
   |none=>
    rw [zGt hc]
    intro o ho
    have hlo:=wf.lo 0 bn hj
    simp only [hc,zAe]
    rw [List.getD_eq_getElem?_getD,List.getElem?_append_right (by simp; omega),List.getElem?_replicate]
    left; split <;> rfl
   |some cs=>
    rw [hc] at hio
    obtain ⟨_,b,vs,T,h1,h2,h3,h4⟩:=yBq ha hc
    rw [hio.2] at hj
    injection hj with hj
    subst hj
    have:=hbase cs hc
    rw [h1]
    refine ⟨?_,h3,vs,T,h2,?_,?_⟩
    ·simp only; rw [if_neg (fun h=>hd b h h1),if_pos trivial]
    ·simpa using h4.length
    ·intro o ho
     simp only at ho ⊢
     rw [zAu,if_pos (by simp; omega)]
     have e:base+o - base=o:=by omega
     have hvl:vs.toList.length=cs.length:=h4.length
     rw [e,List.getD_eq_getElem?_getD,List.getElem?_map,List.getElem?_eq_getElem ho]
     have hlt:o<vs.toList.length:=by omega
     have hu:vs.getD o undef=vs.toList[o]:=by
      rw [Array.getD_eq_getD_getElem?,← Array.getElem?_toList,List.getElem?_eq_getElem hlt]; rfl
     rw [hu]
     exact h4.get _ _ _ (List.getElem?_eq_getElem ho) (List.getElem?_eq_getElem hlt)
  ·simp only [hj0,if_false]
   intro o ho
   have hlo:=wf.lo j bn hj
   have hout:∀ cs,ioOf as=some cs→¬ (base≤bn.1+o∧bn.1+o<base+cs.length):=by
    intro cs hc
    rw [hc] at hio
    have:=wf.ap j 0 _ _ hj hio.2 hj0
    simp only at this
    omega
   rw [zAu]
   rw [if_neg]
   ·rw [List.getD_eq_getElem?_getD,List.getElem?_append_right (by simp; omega),List.getElem?_replicate]
    left; split <;> rfl
   ·cases hc:ioOf as with
    |none=>simp; omega
    |some cs=>intro h; exact hout cs hc (by simp at h; omega)
 ·intro b t hb
  refine .inr ?_
  split at hb
  ·rename_i h; exact .inl h
  ·split at hb
   ·rename_i h; exact .inr h
   ·cases hb
 ·intro b t hb
  split at hb
  ·rename_i h
   obtain ⟨i,e,k,rows,u,_,_,h5,h6⟩:=zP5 ha h
   exact h6.lt h5
  ·split at hb
   ·rename_i h
    cases hc:ioOf as with
    |none=>rw [zGt hc] at h; cases h
    |some cs=>
     obtain ⟨_,b',vs,T,h1,h2,_⟩:=yBq ha hc
     rw [h] at h1
     injection h1 with h1
     subst h1
     exact (Array.getElem?_eq_some_iff.1 h2).1
   ·cases hb
theorem zPu:∀ {as:List AV} {cs:List PV},ioOf as=some cs→zPI as=cs.length
 |[],cs,h=>by simp [ioOf] at h
 |y :: ys,cs,h=>by
  cases y with
  |io cs'=>simp only [ioOf,Option.some.injEq] at h; subst h; rfl
  |val x=>exact zPu (as:=ys) h
  |own e k rows=>exact zPu (as:=ys) h
mutual
def PV.fits:PV→Prop
 |.v x=>zEH x=true
 |.sl _ rows=>rows.length≤maxLen∧zSp rows
 |.nl _=>True
 |.fp cs=>zG9 cs
 |.clo _ caps=>zG9 caps
 |.any=>True
def zG9:List PV→Prop
 |[]=>True
 |x :: xs=>x.fits∧zG9 xs
def zSp:List (List PV)→Prop
 |[]=>True
 |r :: rs=>zG9 r∧zSp rs
end
def PVal.fits:PVal→Prop
 |.one x=>x.fits
 |.agg cs=>zG9 cs
def AV.fits:AV→Prop
 |.val x=>x.fits
 |.own _ _ rows=>rows.length≤maxLen∧zSp rows
 |.io cells=>zG9 cells
def AVs.fits:List AV→Prop
 |[]=>True
 |x :: xs=>x.fits∧AVs.fits xs
mutual
theorem Rp.fits:∀ (x:PV) (u:Value),Rp m x u→x.fits
 |.v _,_,h=>by simp only [Rp] at h; simp only [PV.fits]; exact h.2
 |.sl k rows,_,h=>by
  simp only [Rp] at h
  obtain ⟨A,c,_,h2,h3,h4⟩:=h
  simp only [PV.fits]
  refine ⟨Nat.le_trans h2 h3,?_⟩
  rcases h4 with h4 | ⟨b,o,_,h5⟩
  ·subst h4; simp only [zSp]
  ·exact RpRows.fits rows b k o h5
 |.nl _,_,_=>by simp only [PV.fits]
 |.fp cs,_,h=>by
  simp only [Rp] at h
  obtain ⟨b,o,_,h2⟩:=h
  simp only [PV.fits]
  exact RpAt.fits cs b o h2
 |.clo f caps,_,h=>by
  simp only [Rp] at h
  obtain ⟨us,_,h2⟩:=h
  simp only [PV.fits]
  exact RpL.fits caps us h2
 |.any,_,_=>by simp only [PV.fits]
theorem RpAt.fits:∀ (cs:List PV) (b o:Nat),RpAt m b o cs→zG9 cs
 |[],_,_,_=>by simp only [zG9]
 |x :: xs,b,o,h=>by
  simp only [RpAt] at h
  obtain ⟨⟨u,_,h2⟩,h3⟩:=h
  simp only [zG9]
  exact ⟨Rp.fits x u h2,RpAt.fits xs b (o+1) h3⟩
theorem RpRows.fits:∀ (rows:List (List PV)) (b k o:Nat),RpRows m b k o rows→zSp rows
 |[],_,_,_,_=>by simp only [zSp]
 |r :: rs,b,k,o,h=>by
  simp only [RpRows] at h
  obtain ⟨⟨_,h2⟩,h3⟩:=h
  simp only [zSp]
  exact ⟨RpAt.fits r b o h2,RpRows.fits rs b k (o+k) h3⟩
theorem RpL.fits:∀ (cs:List PV) (us:List Value),RpL m cs us→zG9 cs
 |[],_,_=>by simp only [zG9]
 |x :: xs,_,h=>by
  simp only [RpL] at h
  obtain ⟨u,us',_,h2,h3⟩:=h
  simp only [zG9]
  exact ⟨Rp.fits x u h2,RpL.fits xs us' h3⟩
end
theorem ArgRep.fits {x:AV} {u:Value} (h:ArgRep m w x u):x.fits:=by
 cases x with
 |val x=>
  cases x with
  |one x=>exact Rp.fits x u h
  |agg cs=>obtain ⟨us,_,h2⟩:=h; exact RpL.fits cs us h2
 |own e k rows=>
  have:=Rp.fits _ _ (OwnAt.rp h)
  simp only [PV.fits] at this
  exact this
 |io cells=>obtain ⟨b,cs,T,_,_,_,h2⟩:=h; exact RpL.fits _ _ h2
theorem ArgsRep.fits:∀ {as:List AV} {us:List Value},ArgsRep m w as us→AVs.fits as
 |[],_,_=>trivial
 |x :: xs,_,h=>by
  simp only [ArgsRep] at h
  obtain ⟨u,us',_,h2,h3⟩:=h
  exact ⟨h2.fits,ArgsRep.fits h3⟩
theorem contract_of_wp {f:FuncId} {fn:Func} {c:Code} (hf:P.funcs[f]? = some fn) (hb:fn.body=some c) (hcall:zCC P f=true) (hE':(E.ok && E.unaOk)=true) (hN:E.N=fn.ntmps)
  {h:HCode} (hk:zDC P E c h=true)
  {rs:List RSrc} (hrs:zD7 P E rs fn.results.toList=true) {base:Nat} {as:List AV} (hfo:zUe E base as) {r:RV} (hW0:AVs.fits as→hwp P h (yCd E base as rs r) (F0 E base as)) (hov:∀ x,r.res = .ov x→zU4 as=0:=by intro x h; cases h <;> rfl):Contract P f as r:=by
 have hE:=Bool.and_eq_true_iff.1 hE'
 have wf:=Env.wf_of_ok hE.1
 refine ⟨hcall,fun m w us hm ha hd hG0 hGR=>?_⟩
 have hW:=hW0 ha.fits
 have h0:=zXU hE.2 wf hfo hm ha hd hG0 hGR
 have hc:=zKT wf c h _ _ _ _ hk hW h0
 refine calls_of_wp hf hb ?_
 rw [← hN]
 refine wp_mono hc ?_
 have hio:=hfo.2.2.2
 have common:∀ {m':Mem} {β:Bx} {ow:Ow} {F:List Ct} {a':Act} {w':World},
   InvG E { w0:=w,m0:=m,R0:=zKN as us,b0:=fun j=>if j=0 then ioB as us else none,g0:=hG0,gR:=hGR } m' β ow F a' w' →
   m.le m'∧MemOk m' w'∧Pres (zKN as us) w w'∧(∀ b o u,m' b o=some u→m b o=some u∨w.heap.size≤b∨zGj as us=some b) ∧
   (∀ b,ioB as us=some b→ow b=some (.box 0)∧∀ io:Option (List PV),(∀ l,io=some l→∀ cs,ioOf as=some cs→zAL F base cs.length=some l)→yIG m' w' b (zPI as) io):=by
  intro m' β ow F a' w' hG
  have key:∀ b,ioB as us=some b→∃ cs,ioOf as=some cs∧E.Γ[0]? = some (base,cs.length)∧BoxRep m' w' ow F 0 (base,cs.length) (some b):=by
   intro b hb
   cases hc:ioOf as with
   |none=>rw [zGt hc] at hb; cases hb
   |some cs=>
    rw [hc] at hio
    have hB:=hG.boxes 0 _ hio.2
    have hβ:β 0=some b:=by rw [hG.fix 0 (by rw [hio.1]; exact Nat.one_pos)]; simp only [if_true]; exact hb
    rw [hβ] at hB
    exact ⟨cs,rfl,hio.2,hB⟩
  refine ⟨hG.mle,hG.mem,hG.pres,fun b o u hu=>?_,fun b hb=>?_⟩
  ·rcases hG.new b o u hu with g | g | g
   ·exact .inl g
   ·exact .inr (.inl g)
   ·rcases g with g | g
    ·exact .inr (.inr g)
    ·obtain ⟨cs,_,_,hB⟩:=key b g
     have:=hB.2.1 o
     rw [hu] at this
     cases this
  ·obtain ⟨cs,hc,hj,hB⟩:=key b hb
   refine ⟨hB.1,fun io hl=>?_⟩
   rw [zPu hc]
   refine ⟨hB.2.1,?_⟩
   cases io with
   |none=>
    obtain ⟨h1,h2,vs,T,h3,h4,h5⟩:=hB
    exact ⟨vs,T,h3,h4,fun l e=>by cases e⟩
   |some l=>
    obtain ⟨vs,T,h3,h4,h5⟩:=zIR hB (hl l rfl cs hc)
    exact ⟨vs,T,h3,h4,fun l' e=>by injection e with e; subst e; exact h5⟩
 have fin:∀ {F:List Ct} {a':Act} {w':World},(zDc F rs r.res∧∀ cs,ioOf as=some cs→zAL F base cs.length=some r.io) →
   Inv E { w0:=w,m0:=m,R0:=zKN as us,b0:=fun j=>if j=0 then ioB as us else none,g0:=hG0,gR:=hGR } F a' w' →
   a'.defers=[]∧∃ v,(results fn a'.tmps).run P w' = .ok v w'∧yEO m w as us r (.returned v) w':=by
  rintro F a' w' ⟨hr,hi⟩ ⟨m',β,ow,hG⟩
  obtain ⟨c1,c2,c3,c4,c5⟩:=common hG
  refine ⟨hG.dfr,?_⟩
  have hmk:∀ v,zPH m' w w' (zGj as us) r.res (.returned v)→yEO m w as us r (.returned v) w':=by
   intro v hv
   refine ⟨m',c1,c2,c3,c4,fun b hb=>(c5 b hb).2 _ ?_,hv⟩
   intro l hl cs hcs
   unfold Res.ioOf at hl
   split at hl
   ·cases hl
   ·injection hl with hl; rw [← hl]; exact hi cs hcs
  cases hres:r.res with
  |val x=>
   rw [hres] at hr
   simp only [zDc] at hr
   split at hr
   ·rename_i r1
    obtain ⟨us',h1,h2⟩:=zEi hG hrs (xs:=[x]) (by simp only [zZt]; exact ⟨hr,trivial⟩)
    obtain ⟨u,us'',rfl,h3,h4⟩:=h2
    simp only [RpVL] at h4
    subst h4
    exact ⟨_,h1,hmk _ (by rw [hres]; exact ⟨u,rfl,h3⟩)⟩
   ·exact hr.elim
  |own e k rows=>
   rw [hres] at hr
   simp only [zDc] at hr
   split at hr
   ·rename_i t
    have hlt:t<E.N:=by
     cases hl:fn.results.toList with
     |nil=>rw [hl] at hrs; simp [zD7] at hrs
     |cons s ss=>
      rw [hl] at hrs
      simp only [zD7,Bool.and_eq_true] at hrs
      cases s with
      |tmp t'=>have:=hrs.1; simp only [zU5,Bool.and_eq_true,decide_eq_true_eq] at this; exact this.2
      |cell x y=>have:=hrs.1; simp [zU5] at this
    have hs:=hG.slots t hlt
    rw [hr] at hs
    obtain ⟨us',h1,h2⟩:=zEi hG hrs (xs:=[.one (.sl k rows)]) (by simp only [zZt,rsV,zAv,hr]; exact ⟨⟨trivial,.inl rfl⟩,trivial⟩)
    obtain ⟨u,us'',rfl,h3,h4⟩:=h2
    simp only [RpVL] at h4
    subst h4
    refine ⟨_,h1,?_⟩
    have hu:u=a'.tmps.getD t undef:=by
     have e:results fn a'.tmps=(do let vs ← fn.results.mapM (rdR a'.tmps); pure (if h:vs.size=1 then vs[0] else .tuple vs)):=by unfold results; congr
     cases hl:fn.results.toList with
     |nil=>rw [hl] at hrs; simp [zD7] at hrs
     |cons s ss=>
      rw [hl] at hrs
      simp only [zD7,Bool.and_eq_true] at hrs
      cases ss with
      |cons s2 ss2=>simp [zD7] at hrs
      |nil=>
       cases s with
       |cell x y=>have:=hrs.1; simp [zU5] at this
       |tmp t'=>
        have h5:=hrs.1
        simp only [zU5,Bool.and_eq_true,beq_iff_eq,decide_eq_true_eq] at h5
        obtain ⟨rfl,_⟩:=h5
        rw [e,Array.mapM_eq_mapM_toList,hl] at h1
        simp [rdR] at h1
        rw [Array.getD_eq_getD_getElem?]; exact h1.symm
    subst hu
    refine hmk _ ?_
    rw [hres]
    refine ⟨_,rfl,OwnRep.at_ hs,fun g hg=>?_⟩
    have hg1:=(hs.2 g hg).1
    rcases hG.own g _ hg1 with h6 | h6 | h6
    ·exact .inl h6
    ·exact .inr h6
    ·rw [(c5 g h6).1] at hg1; cases hg1
   ·exact hr.elim
  |tup xs=>
   rw [hres] at hr
   simp only [zDc] at hr
   split at hr
   ·exact hr.elim
   ·rename_i hne
    obtain ⟨us',h1,h2⟩:=zEi hG hrs hr
    have hl1:us'.length=xs.length:=RpVL.length h2
    have hl2:rs.length=xs.length:=rsVs_length hr
    match us',h1,h2,hl1 with
    |[],h1,h2,_=>exact ⟨_,h1,hmk _ (by rw [hres]; exact ⟨[],rfl,h2⟩)⟩
    |[u],h1,h2,hl1=>
     exfalso
     match rs,hne,hl2 with
     |[x],hne,_=>exact hne x rfl
     |[],_,h=>simp at h hl1; omega
     |_ :: _ :: _,_,h=>simp at h hl1; omega
    |u :: v :: l,h1,h2,_=>exact ⟨_,h1,hmk _ (by rw [hres]; exact ⟨u :: v :: l,rfl,h2⟩)⟩
  |pan v=>rw [hres] at hr; exact hr.elim
  |ov x=>
   rw [hres] at hr
   have hno:=hov x hres
   have hfresh:∀ (i g:Nat),ow g=some (.key i)→w.heap.size≤g:=by
    intro i g hg
    rcases hG.own g _ hg with h6 | h6 | h6
    ·exact h6
    ·exact (no_ownB hno h6).elim
    ·rw [(c5 g h6).1] at hg; cases hg
   simp only [zDc] at hr
   split at hr
   ·rename_i t
    have hlt:t<E.N:=by
     cases hl:fn.results.toList with
     |nil=>rw [hl] at hrs; simp [zD7] at hrs
     |cons s ss=>
      rw [hl] at hrs
      simp only [zD7,Bool.and_eq_true] at hrs
      cases s with
      |tmp t'=>have:=hrs.1; simp only [zU5,Bool.and_eq_true,decide_eq_true_eq] at this; exact this.2
      |cell x y=>have:=hrs.1; simp [zU5] at this
    have hs:=hG.slots t hlt
    rw [hr] at hs
    obtain ⟨fp,k1,k2,k3⟩:=hs
    refine ⟨a'.tmps.getD t undef,res_one hrs (fun s hs1=>?_),hmk _ (by rw [hres]; exact ⟨a'.tmps.getD t undef,fp,rfl,k1,k2,fun g hg=>⟨hfresh t g (k3 g hg).1,(k3 g hg).2⟩⟩)⟩
    cases s with
    |cell x y=>simp [zU5] at hs1
    |tmp t'=>
     simp only [zU5,Bool.and_eq_true,beq_iff_eq,decide_eq_true_eq] at hs1
     obtain ⟨rfl,_⟩:=hs1
     rfl
   ·rename_i t j bs off n agg
    obtain ⟨e1,cs,e2,rfl⟩:=hr
    have hsrc:∃ s,fn.results.toList=[s]∧zU5 P E (.cellB t j bs off n agg) s=true:=by
     cases hl:fn.results.toList with
     |nil=>rw [hl] at hrs; simp [zD7] at hrs
     |cons s ss=>
      rw [hl] at hrs
      cases ss with
      |nil=>simp only [zD7,Bool.and_eq_true] at hrs; exact ⟨s,rfl,hrs.1⟩
      |cons s2 ss=>simp [zD7] at hrs
    obtain ⟨s,_,hs1⟩:=hsrc
    cases s with
    |tmp t'=>simp [zU5] at hs1
    |cell b ty=>
     have hs1':=hs1
     simp only [zU5,Bool.and_eq_true,beq_iff_eq,decide_eq_true_eq,Bool.or_eq_true] at hs1'
     obtain ⟨⟨⟨⟨⟨rfl,ht⟩,hb⟩,ha⟩,hn⟩,h1⟩:=hs1'
     obtain ⟨nn,hj,hle⟩:=zDk hb
     obtain ⟨bb,hbb,hv⟩:=zCP hG (x:=.t t) (y:=.tmp t) (by simp [zAp,ht]) e1
     have hv':a'.tmps.getD t undef=_:=hv
     have hB:=hG.boxes _ _ hj
     rw [hbb] at hB
     obtain ⟨us',fp,k1,k2,k3,k4,k5⟩:=zZG hB n off hle cs e2
     have hrun:=zBl (P:=P) (w:=w') ha hn h1 (us:=us') (b:=bb) (o:=off) k1 k5
     have hfp:∀ g ∈ fp,w.heap.size≤g∧∀ o,m' g o=none:=fun g hg=>by
      obtain ⟨⟨i,_,_,i3,_⟩,i5⟩:=k4 g hg
      exact ⟨hfresh i g i3,i5⟩
     refine ⟨if agg then .agg us'.toArray else us'.headD undef,res_one hrs (fun s hs2=>?_),hmk _ (by rw [hres]; exact ⟨if agg then .agg us'.toArray else us'.headD undef,fp,rfl,zUQ k2 (by rw [k1]; exact h1),k3,hfp⟩)⟩
     ·cases s with
      |tmp t'=>simp [zU5] at hs2
      |cell b' ty'=>
       have hs2':=hs2
       simp only [zU5,Bool.and_eq_true,beq_iff_eq,decide_eq_true_eq,Bool.or_eq_true] at hs2'
       obtain ⟨⟨⟨⟨⟨rfl,_⟩,_⟩,ha'⟩,hn'⟩,_⟩:=hs2'
       have hrun':=zBl (P:=P) (w:=w') ha' hn' h1 (us:=us') (b:=bb) (o:=off) k1 k5
       simp only [rdR,hv',asAddr,Sem.run_bind,Sem.run_pure,Result.andThen_ok,hrun']
   ·exact hr.elim
 rintro e a' w' ⟨F,hq,hI⟩
 cases e with
 |normal=>exact fin hq hI
 |ret=>exact fin hq hI
 |panic ch=>
  obtain ⟨v,hv,rfl⟩:=hq
  obtain ⟨m',β,ow,hG⟩:=hI
  obtain ⟨c1,c2,c3,c4,c5⟩:=common hG
  refine ⟨hG.dfr,m',c1,c2,c3,c4,fun b hb=>(c5 b hb).2 _ ?_,?_⟩
  ·intro l hl
   simp only [Res.ioOf,hv] at hl
   cases hl
  ·rw [hv]; rfl
 |exit id=>exact hq.elim
 |goto l=>exact hq.elim
 |outgrown=>exact hq.elim
where
 no_ownB:∀ {as:List AV} {us:List Value} {b:Nat},zU4 as=0→zGj as us≠some b
  |[],us,b,_=>by simp [zGj]
  |x :: as,[],b,_=>by simp [zGj]
  |.own _ _ _ :: as,u :: us,b,h=>by simp [zU4] at h
  |.val _ :: as,u :: us,b,h=>by simpa [zGj] using no_ownB (as:=as) (us:=us) (by simpa [zU4] using h)
  |.io _ :: as,u :: us,b,h=>by simpa [zGj] using no_ownB (as:=as) (us:=us) (by simpa [zU4] using h)
 res_one {fn:Func} {r:RSrc} (hrs:zD7 P E [r] fn.results.toList=true) {tmps:Array Value} {w':World} {u:Value} (h:∀ s,zU5 P E r s=true→(rdR tmps s).run P w' = .ok u w'):(results fn tmps).run P w' = .ok u w':=by
  have e:results fn tmps=(do let vs ← fn.results.mapM (rdR tmps); pure (if h:vs.size=1 then vs[0] else .tuple vs)):=by unfold results; congr
  cases hl:fn.results.toList with
  |nil=>rw [hl] at hrs; simp [zD7] at hrs
  |cons s ss=>
   rw [hl] at hrs
   cases ss with
   |cons s2 ss2=>simp [zD7] at hrs
   |nil=>
    simp only [zD7,Bool.and_eq_true] at hrs
    have h1:=h s hrs.1
    rw [e,Array.mapM_eq_mapM_toList,hl]
    simp [h1]
 RpVL.length {m:Mem}:∀ {xs:List PVal} {us:List Value},RpVL m xs us→us.length=xs.length
  |[],us,h=>by simp only [RpVL] at h; subst h; rfl
  |x :: xs,us,h=>by
   obtain ⟨u,us',rfl,_,h3⟩:=h
   simp [RpVL.length h3]
 rsVs_length {F:List Ct}:∀ {rs:List RSrc} {xs:List PVal},zZt F rs xs→rs.length=xs.length
  |[],xs,h=>by simp only [zZt] at h; subst h; rfl
  |r :: rs,[],h=>by simp [zZt] at h
  |r :: rs,x :: xs,h=>by simp only [zZt] at h; simp [rsVs_length h.2]
end
end Go.Hx
end

section
/-
  THE ABSTRACT LAYER, THIRTEENTH TEXT: the rules by which simp walks the abstract code. Generic over the program. No condition.
-/
namespace Go.Hx
open Go.RowKit
variable [Glob]
section
variable {P:Program} {h h1 h2:HCode} {Q:Exit→List Ct→Prop} {K:List Ct→Prop} {X:Value→List Ct→Prop} {F F':List Ct}
def yJd (P:Program) (os:List HO) (K:List Ct→Prop) (X:Value→List Ct→Prop):List Ct→Prop:=fun F=>yIJ P os F K X
def dK (P:Program) (ds:List DO) (N:List Ct→Prop) (X:Value→Prop):List Ct→Prop:=fun F=>dW P ds F N X
def dX (l:Bool) (X:Value→Prop):Value→List Ct→Prop:=fun v _=>l=true∧X v
def ghK (post:List Gh) (K:List Ct→Prop):List Ct→Prop:=fun F=>ghW F K post
def nrm (Q:Exit→List Ct→Prop):List Ct→Prop:=fun F=>Q .normal F
def yJ6 (Q:Exit→List Ct→Prop):Value→List Ct→Prop:=fun v F=>Q (.panic [{ v,recovered:=false }]) F
def yJ7 (ds:List DO) (F:List Ct) (Q:Exit→List Ct→Prop):Value→Prop:=fun v=>∀ F',AgW (dsW ds) F F'→Q (.panic [{ v,recovered:=false }]) F'
def yGx (P:Program) (os:List HO) (K:List Ct→Prop):List Ct→Prop:=fun F=>yGg P os F K
def bkK (F:List Ct) (ds:List Nat) (post:List Gh) (Q:Exit→List Ct→Prop):List Ct→Prop:=fun F1=>ghW (yBf F F1 ds) (nrm Q) post
theorem yJe:hwp P .skip Q F=Q .normal F:=rfl
theorem yJ8 {ops:List HO} {post:List Gh}:hwp P (.reg ops false post) Q F=yJd P ops (ghK post (nrm Q)) (yJ6 Q) F:=rfl
theorem yJ9 {ds:List DO} {post:List Gh}:hwp P (.drg ds post) Q F=dK P ds (ghK post (nrm Q)) (yJ7 ds F Q) F:=rfl
theorem yJf {pre:List Gh} {ops:List HO} {post:List Gh}:hwp P (.regG pre ops post) Q F=ghW F (fun F0=>yJd P ops (ghK post (nrm Q)) (yJ6 Q) F0) pre:=rfl
theorem yJg {pre:List Gh} {ds:List DO} {post:List Gh}:hwp P (.drgG pre ds post) Q F=ghW F (fun F0=>dK P ds (ghK post (nrm Q)) (yJ7 ds F0 Q) F0) pre:=rfl
theorem yKa {i:Nat} {ops:List HO} {draw:Bool} {post:List Gh}:hwp P (.rdr i ops draw post) Q F=(match F.getD i .un with
    | .stk e k rows=>yGx P ops (bkK F (yEQ ops) post Q) (F.set i (.own e k rows))
    | _=>False):=rfl
theorem yKb:yJd P [] K X F=K F:=rfl
theorem yJh {o:HO} {os:List HO}:yJd P (o :: os) K X F=hoW P o F (yJd P os K X) X:=rfl
theorem yJi {N:List Ct→Prop} {X0:Value→Prop}:dK P [] N X0 F=N F:=rfl
theorem yHe {i:Nat} {l:Bool} {h:HO} {ds:List DO} {N:List Ct→Prop} {X0:Value→Prop}:dK P (⟨i,l,h⟩ :: ds) N X0 F=hoW P h F (dK P ds N X0) (dX l X0):=rfl
theorem yLB {post:List Gh}:ghK post K F=ghW F K post:=rfl
theorem yKc:nrm Q F=Q .normal F:=rfl
theorem yJj {v:Value}:yJ6 Q v F=Q (.panic [{ v,recovered:=false }]) F:=rfl
theorem yJk {v:Value} {ds:List DO}:yJ7 ds F Q v=∀ F',AgW (dsW ds) F F'→Q (.panic [{ v,recovered:=false }]) F':=rfl
theorem yLC {l:Bool} {X0:Value→Prop} {v:Value}:dX l X0 v F=(l=true∧X0 v):=rfl
theorem yLD {F0:List Ct} {ds:List Nat} {post:List Gh}:bkK F0 ds post Q F=ghW (yBf F0 F ds) (nrm Q) post:=rfl
theorem yKd {d e k:Nat}:hoW P ⟨none,.nlk d e k⟩ F K X=K (F.set d (.stk e k [])):=rfl
theorem yKe {d x:Nat}:hoW P ⟨none,.mvk d x⟩ F K X=(match F.getD x .un with
    | .stk e k rows=>d≠x∧K ((F.set x (.hdr rows.length)).set d (.stk e k rows))
    | _=>False):=rfl
theorem yKf {d x:Nat} {hi:Opd}:hoW P ⟨none,.trk d x hi⟩ F K X=(match F.getD x .un,(zAv F hi).pv? with
    | .stk e k rows,some (.one (.v (.int _ n)))=>d≠x∧(zAv F hi).need∧0≤n∧n≤rows.length∧K ((F.set x (.hdr rows.length)).set d (.stk e k (rows.take n.toNat)))
    | _,_=>False):=rfl
theorem yKg {d e k x:Nat} {y:Opd}:hoW P ⟨none,.apk d e k x y⟩ F K X=(match F.getD x .un,(zAv F y).pv? with
    | .stk e' k' rows,some (.one (.sl k'' rs))=>x≠d∧e'=e∧k'=k∧k''=k∧(zAv F y).need∧(rows.length+rs.length) * 4096≤140737488355328∧K ((F.set x (.hdr rows.length)).set d (.stk e k (rows ++ rs)))
    | _,_=>False):=rfl
theorem yKh {d:Nat} {ng:Bool} {x:Opd}:hoW P ⟨none,.isn d ng x⟩ F K X=(match (zAv F x).pv? with
    | some (.one (.sl _ rows))=>(zAv F x).need∧∀ b:Bool,(rows≠[]→b=false)→K (F.set d (.pv (bv (if ng then !b else b))))
    | some (.one (.nl _))=>(zAv F x).need∧K (F.set d (.pv (bv (!ng))))
    | _=>False):=rfl
theorem yKi {F1:List Ct}:yBf F F1 []=F:=rfl
theorem yJl {F1:List Ct} {d:Nat} {ds:List Nat}:yBf F F1 (d :: ds)=yBf (F.set d (yFd (F1.getD d .un))) F1 ds:=rfl
theorem yKj {a b:HCode}:hwp P (.seq a b) Q F=hwp P a (zU3 (hwp P b Q) Q) F:=rfl
theorem zAa {x:Opd} {a b:HCode} {t:Bool} (e:(zAv F x).pv? = some (.one (.v (.bool t)))) (n:(zAv F x).need) (ht:t=true→hwp P a Q F) (hf:t=false→hwp P b Q F):hwp P (.cond x a b) Q F:=by
  simp only [hwp,e]
  exact ⟨n,ht,hf⟩
theorem yJm {x:Opd} {a b:HCode} (e:(zAv F x).pv? = some (.one (.v (.bool true)))) (n:(zAv F x).need) (ht:hwp P a Q F):hwp P (.cond x a b) Q F:=
  zAa e n (fun _=>ht) (fun h=>by cases h)
theorem yGy {x:Opd} {a b:HCode} (e:(zAv F x).pv? = some (.one (.v (.bool false)))) (n:(zAv F x).need) (hf:hwp P b Q F):hwp P (.cond x a b) Q F:=
  zAa e n (fun h=>by cases h) (fun _=>hf)
theorem yHf {id:Nat} {a:HCode}:hwp P (.block id a) Q F=hwp P a (zFQ id Q) F:=rfl
theorem yJn {id:Nat}:hwp P (.exit id) Q F=Q (.exit id) F:=rfl
theorem yKk:hwp P .ret Q F=Q .ret F:=rfl
theorem yHg {a:HCode}:hwp P (.scope a) Q F=hwp P a (ngQ Q) F:=rfl
theorem yHh:hwp P .label Q F=Q .normal F:=rfl
theorem yKl:ngQ Q .normal F=Q .normal F:=rfl
theorem yKm {id:Nat}:ngQ Q (.exit id) F=Q (.exit id) F:=rfl
theorem yKn:ngQ Q .ret F=Q .ret F:=rfl
theorem yKo {ch:List PanicEntry}:ngQ Q (.panic ch) F=Q (.panic ch) F:=rfl
theorem yHi:zU3 K Q .normal F=K F:=rfl
theorem yHj {id:Nat}:zU3 K Q (.exit id) F=Q (.exit id) F:=rfl
theorem yHk:zU3 K Q .ret F=Q .ret F:=rfl
theorem yHl {ch:List PanicEntry}:zU3 K Q (.panic ch) F=Q (.panic ch) F:=rfl
theorem yJo {id:Nat}:zFQ id Q .normal F=Q .normal F:=rfl
theorem yJp {id id':Nat}:zFQ id Q (.exit id') F=if id'=id then Q .normal F else Q (.exit id') F:=rfl
theorem yJq {id:Nat}:zFQ id Q .ret F=Q .ret F:=rfl
theorem yJr {id:Nat} {ch:List PanicEntry}:zFQ id Q (.panic ch) F=Q (.panic ch) F:=rfl
theorem yKp {d:Nat} {v:VOp}:hoW P ⟨none,.val d v⟩ F K X=((ev F v).1∧K (F.set d (ev F v).2)):=rfl
def zXB (T:Bool) (A B:Prop):Prop:=match T with
  | true=>A
  | false=>B
theorem yJs {A B:Prop}:zXB true A B=A:=rfl
theorem yJt {A B:Prop}:zXB false A B=B:=rfl
theorem yCe {T T':Bool} {A B:Prop} (h:T=T'):zXB T A B=zXB T' A B:=by rw [h]
attribute [congr] yCe
def gdV (o:Option Bool) (p:Prop × Ct) (d:Nat) (F:List Ct) (K:List Ct→Prop):Prop:=match o with
  | none=>False
  | some T=>match p.2 with
    | .pv x=>(T=true→p.1)∧K (F.set d (.gd T x))
    | c=>zXB T (p.1∧K (F.set d c)) (K (F.set d (.gd false (bv false))))
theorem yDE {o o':Option Bool} {p p':Prop × Ct} {d:Nat} (h1:o=o') (h2:p=p'):gdV o p d F K=gdV o' p' d F K:=by rw [h1,h2]
attribute [congr] yDE
theorem yFm {p:Prop × Ct} {d:Nat}:gdV none p d F K=False:=rfl
theorem yJu {T:Bool} {A:Prop} {x:PVal} {d:Nat}:gdV (some T) (A,.pv x) d F K=((T=true→A)∧K (F.set d (.gd T x))):=rfl
theorem yJv {T:Bool} {A:Prop} {d:Nat}:gdV (some T) (A,.un) d F K=zXB T (A∧K (F.set d .un)) (K (F.set d (.gd false (bv false)))):=rfl
theorem yHm {T:Bool} {A:Prop} {j off:Nat} {d:Nat}:gdV (some T) (A,.ptr j off) d F K=zXB T (A∧K (F.set d (.ptr j off))) (K (F.set d (.gd false (bv false)))):=rfl
theorem yJw {T t:Bool} {A:Prop} {x:PVal} {d:Nat}:gdV (some T) (A,.gd t x) d F K=zXB T (A∧K (F.set d (.gd t x))) (K (F.set d (.gd false (bv false)))):=rfl
theorem yHn {T:Bool} {A:Prop} {xs:List PVal} {d:Nat}:gdV (some T) (A,.tup xs) d F K=zXB T (A∧K (F.set d (.tup xs))) (K (F.set d (.gd false (bv false)))):=rfl
theorem yHo {T:Bool} {A:Prop} {n:Nat} {d:Nat}:gdV (some T) (A,.hdr n) d F K=zXB T (A∧K (F.set d (.hdr n))) (K (F.set d (.gd false (bv false)))):=rfl
theorem yHp {T:Bool} {A:Prop} {b k n:Nat} {d:Nat}:gdV (some T) (A,.hdp b k n) d F K=zXB T (A∧K (F.set d (.hdp b k n))) (K (F.set d (.gd false (bv false)))):=rfl
theorem yHq {T:Bool} {A:Prop} {b k r f:Nat} {d:Nat}:gdV (some T) (A,.epp b k r f) d F K=zXB T (A∧K (F.set d (.epp b k r f))) (K (F.set d (.gd false (bv false)))):=rfl
theorem yHr {T:Bool} {A:Prop} {b:Nat} {d:Nat}:gdV (some T) (A,.mph b) d F K=zXB T (A∧K (F.set d (.mph b))) (K (F.set d (.gd false (bv false)))):=rfl
theorem yHs {T:Bool} {A:Prop} {e k:Nat} {rows:List (List PV)} {d:Nat}:gdV (some T) (A,.own e k rows) d F K=zXB T (A∧K (F.set d (.own e k rows))) (K (F.set d (.gd false (bv false)))):=rfl
theorem yHt {T:Bool} {A:Prop} {e k:Nat} {rows:List (List PV)} {d:Nat}:gdV (some T) (A,.stk e k rows) d F K=zXB T (A∧K (F.set d (.stk e k rows))) (K (F.set d (.gd false (bv false)))):=rfl
theorem yJx {T:Bool} {A:Prop} {x:OVal} {d:Nat}:gdV (some T) (A,.ov x) d F K=zXB T (A∧K (F.set d (.ov x))) (K (F.set d (.gd false (bv false)))):=rfl
theorem yHu {T:Bool} {A:Prop} {d:Nat}:gdV (some T) (A,.una) d F K=zXB T (A∧K (F.set d .una)) (K (F.set d (.gd false (bv false)))):=rfl
attribute [go_sem] yFm yJu yJv yHm yJw yHn yHo yHp yHq yHr yHs yHt yJx yHu
theorem yHv {g:Nat × Bool} {d:Nat} {v:VOp}:hoW P ⟨some g,.val d v⟩ F K X=gdV (zDj F g) (ev F v) d F K:=by
  show (match zDj F g with
    | none=>False
    | some T=>match (ev F v).2 with
      | .pv x=>(T=true→(ev F v).1)∧K (F.set d (.gd T x))
      | _=>match T with
        | true=>(ev F v).1∧K (F.set d (ev F v).2)
        | false=>K (F.set d (.gd false (bv false))))=_
  unfold gdV
  cases zDj F g with
  | none=>rfl
  | some T=>
    generalize ev F v=p
    obtain ⟨A,c⟩:=p
    cases c <;> cases T <;> rfl
theorem zZO {g:Nat × Bool} {d:Nat} {x:Opd} {r j base:Nat} {pt:List (Opd × Nat)} {n:Nat} {agg:Bool}:hoW P ⟨some g,.vlp d x r j base pt n agg⟩ F K X=(match zDj F g with
    | none=>False
    | some T=>zXB T (hoW P ⟨none,.vlp d x r j base pt n agg⟩ F K X) (K (F.set d (.gd false (bv false))))):=rfl
theorem yKq:yGx P [] K F=K F:=rfl
theorem yKr {os:List HO} {d:Nat} {v:VOp}:yGx P (⟨none,.val d v⟩ :: os) K F=((ev F v).1∧yGx P os K (F.set d (ev F v).2)):=rfl
def gdD (o:Option Bool) (p:Prop × Ct) (d:Nat) (F:List Ct) (K:List Ct→Prop):Prop:=match o with
  | none=>False
  | some T=>match p.2 with
    | .pv x=>(T=true→p.1)∧K (F.set d (.gd T x))
    | _=>T=false∧K (F.set d (.gd T (bv false)))
theorem yDF {o o':Option Bool} {p p':Prop × Ct} {d:Nat} (h1:o=o') (h2:p=p'):gdD o p d F K=gdD o' p' d F K:=by rw [h1,h2]
attribute [congr] yDF
theorem yFn {p:Prop × Ct} {d:Nat}:gdD none p d F K=False:=rfl
theorem yJy {T:Bool} {A:Prop} {x:PVal} {d:Nat}:gdD (some T) (A,.pv x) d F K=((T=true→A)∧K (F.set d (.gd T x))):=rfl
theorem yJz {T:Bool} {A:Prop} {d:Nat}:gdD (some T) (A,.un) d F K=(T=false∧K (F.set d (.gd T (bv false)))):=rfl
theorem yHw {T:Bool} {A:Prop} {j off:Nat} {d:Nat}:gdD (some T) (A,.ptr j off) d F K=(T=false∧K (F.set d (.gd T (bv false)))):=rfl
theorem yJA {T t:Bool} {A:Prop} {x:PVal} {d:Nat}:gdD (some T) (A,.gd t x) d F K=(T=false∧K (F.set d (.gd T (bv false)))):=rfl
theorem yHx {T:Bool} {A:Prop} {xs:List PVal} {d:Nat}:gdD (some T) (A,.tup xs) d F K=(T=false∧K (F.set d (.gd T (bv false)))):=rfl
theorem yHy {T:Bool} {A:Prop} {n:Nat} {d:Nat}:gdD (some T) (A,.hdr n) d F K=(T=false∧K (F.set d (.gd T (bv false)))):=rfl
theorem yHz {T:Bool} {A:Prop} {e k:Nat} {rows:List (List PV)} {d:Nat}:gdD (some T) (A,.own e k rows) d F K=(T=false∧K (F.set d (.gd T (bv false)))):=rfl
theorem yHA {T:Bool} {A:Prop} {e k:Nat} {rows:List (List PV)} {d:Nat}:gdD (some T) (A,.stk e k rows) d F K=(T=false∧K (F.set d (.gd T (bv false)))):=rfl
attribute [go_sem] yFn yJy yJz yHw yJA yHx yHy yHz yHA
theorem yHB {os:List HO} {g:Nat × Bool} {d:Nat} {v:VOp}:yGx P (⟨some g,.val d v⟩ :: os) K F=gdD (zDj F g) (ev F v) d F (yGx P os K):=by
  show (match zDj F g with
    | none=>False
    | some T=>match (ev F v).2 with
      | .pv x=>(T=true→(ev F v).1)∧yGx P os K (F.set d (.gd T x))
      | _=>T=false∧yGx P os K (F.set d (.gd T (bv false))))=_
  unfold gdD
  cases zDj F g with
  | none=>rfl
  | some T=>
    generalize ev F v=p
    obtain ⟨A,c⟩:=p
    cases c <;> rfl
theorem zAd {f:FuncId} {args:List (Opd × AM)} {d:Option Nat} {x:PVal} {io:List PV} (h1:(zBF F args).1) (h2:Contract P f (zBF F args).2 { res:=.val x,io:=io }) (h3:K (zXK (zAQ F (some io) args) d (.pv x))):hoW P ⟨none,.call d f args⟩ F K X:=
  ⟨h1,_,h2,h3⟩
theorem zG1 {f:FuncId} {args:List (Opd × AM)} {d:Option Nat} {e k:Nat} {rows:List (List PV)} {io:List PV} (h1:(zBF F args).1) (h2:Contract P f (zBF F args).2 { res:=.own e k rows,io:=io }) (h3:K (zXK (zAQ F (some io) args) d (.own e k rows))):hoW P ⟨none,.call d f args⟩ F K X:=
  ⟨h1,_,h2,h3⟩
theorem zAE {f:FuncId} {args:List (Opd × AM)} {d:Option Nat} {x:PVal} {xs:List PVal} {io:List PV} (h1:(zBF F args).1) (h2:Contract P f (zBF F args).2 { res:=.tup (x :: xs),io:=io }) (h3:K (zXK (zAQ F (some io) args) d (.tup (x :: xs)))):hoW P ⟨none,.call d f args⟩ F K X:=
  ⟨h1,_,h2,h3⟩
theorem zCq {f:FuncId} {args:List (Opd × AM)} {d:Option Nat} {io:List PV} (h1:(zBF F args).1) (h2:Contract P f (zBF F args).2 { res:=.tup [],io:=io }) (h3:K (zXK (zAQ F (some io) args) d .un)):hoW P ⟨none,.call d f args⟩ F K X:=
  ⟨h1,_,h2,h3⟩
theorem zBS {f:FuncId} {args:List (Opd × AM)} {d:Option Nat} {v:Value} (h1:(zBF F args).1) (h2:Contract P f (zBF F args).2 { res:=.pan v }) (h3:X v (zAQ F none args)):hoW P ⟨none,.call d f args⟩ F K X:=
  ⟨h1,_,h2,h3⟩
theorem zAA {g:Nat × Bool} {f:FuncId} {args:List (Opd × AM)} {d:Nat} {T:Bool} {x:PVal} (hg:zDj F g=some T) (h1:T=true→(zBF F args).1) (h2:T=true→Contract P f (zBF F args).2 { res:=.val x }) (h3:K (F.set d (.gd T x))):hoW P ⟨some g,.call (some d) f args⟩ F K X:=by
  show hoW P ⟨some g,.call (some d) f args⟩ F _ X
  unfold hoW
  simp only [hg]
  exact ⟨h1,x,h2,h3⟩
theorem yCf {g:Nat × Bool} {f:FuncId} {args:List (Opd × AM)} {d:Nat} (hg:zDj F g=some false) (h3:K (F.set d (.gd false (bv false)))):hoW P ⟨some g,.callg d f args⟩ F K X:=by
  simp only [hoW,hg]; exact h3
theorem zGu {g:Nat × Bool} {f:FuncId} {args:List (Opd × AM)} {d:Nat} {x:PVal} {io:List PV} (hg:zDj F g=some true) (h1:(zBF F args).1) (h2:Contract P f (zBF F args).2 { res:=.val x,io:=io }) (h3:K (zXK (zAQ F (some io) args) (some d) (.pv x))):hoW P ⟨some g,.callg d f args⟩ F K X:=by
  simp only [hoW,hg]; exact ⟨h1,_,h2,h3⟩
theorem yDG {f:FuncId} {x0:Opd} {caps:List PV} {args:List (Opd × AM)} {d:Option Nat} {x:PVal} {io:List PV} (e:(zAv F x0).pv? = some (.one (.clo f caps))) (n:(zAv F x0).need) (h1:(zBF F args).1)
    (h2:Contract P f ((zBF F args).2 ++ caps.map fun c=>.val (.one c)) { res:=.val x,io:=io }) (h3:K (zXK (zAQ F (some io) args) d (.pv x))):hoW P ⟨none,.callv d x0 args⟩ F K X:=by
  show opW P (.callv d x0 args) F _ X
  simp only [opW,e]
  exact ⟨n,h1,_,h2,h3⟩
theorem yDH {p q:Prop}:(p→p∧q)=(p→q):=propext ⟨fun h a=>(h a).2,fun h a=>⟨a,h a⟩⟩
theorem yFo (c:Ct) (F:List Ct):(c :: F).getD 0 .un=c:=rfl
theorem yFp (c:Ct) (F:List Ct) (n:Nat):(c :: F).getD (n+1) .un=F.getD n .un:=by simp
theorem yFq (c d:Ct) (F:List Ct):(c :: F).set 0 d=d :: F:=rfl
theorem yFr (c d:Ct) (F:List Ct) (n:Nat):(c :: F).set (n+1) d=c :: F.set n d:=rfl
theorem yFs:sets F []=F:=rfl
theorem yDI {i:Nat} {c:Ct} {l:List (Nat × Ct)}:sets F ((i,c) :: l)=sets (F.set i c) l:=rfl
theorem zAr {a:HCode} {α:Type} (us:α→List (Nat × Ct)) (μ:α→Nat) (inv:α→Prop) (s0:α) (h0:Le F (sets F (us s0))) (h1:inv s0)
    (hr:∀ s,inv s→hwp P a (zU3 (fun F2=>∃ s',μ s'<μ s∧inv s'∧Le F2 (sets F (us s'))) Q) (sets F (us s))):hwp P (.loop a) Q F:=
  ⟨fun n F'=>∃ s,μ s=n∧inv s∧F'=sets F (us s),⟨μ s0,_,h0,s0,rfl,h1,rfl⟩,by
    rintro n F1 ⟨s,rfl,hs,rfl⟩
    have e:(fun F2=>∃ n' F',n'<μ s∧Le F2 F'∧(fun n F'=>∃ s,μ s=n∧inv s∧F'=sets F (us s)) n' F')=(fun F2=>∃ s',μ s'<μ s∧inv s'∧Le F2 (sets F (us s'))):=by
      funext F2
      apply propext
      constructor
      · rintro ⟨n',F',h2,h3,s',rfl,h4,rfl⟩
        exact ⟨s',h2,h4,h3⟩
      · rintro ⟨s',h2,h3,h4⟩
        exact ⟨_,_,h2,h4,s',rfl,h3,rfl⟩
    rw [e]
    exact hr s hs⟩
theorem zAl:Le [] []=True:=by simp [Le]
theorem zAf {c d:Ct} {F G:List Ct}:Le (c :: F) (d :: G)=(leC c d∧Le F G):=by
  simp only [Le,List.cons.injEq,eq_iff_iff]
  constructor
  · rintro ⟨c',cs',⟨rfl,rfl⟩,h⟩; exact h
  · exact fun h=>⟨_,_,⟨rfl,rfl⟩,h⟩
theorem zAs {c:Ct}:leC c .un=True:=by simp [leC]
theorem zAb {c:Ct}:leC c c=True:=by simp [leC]
theorem zAm {c d:Ct} (h:c=d):leC c d:=.inr (.inl h.symm)
theorem yHC:leC (.pv (iv 0)) (.pv (iv ((0:Nat):Int)))=True:=by simp [leC]
theorem zAi {n m:Int} (h:n=m):leC (.pv (iv n)) (.pv (iv m)):=zAm (by rw [h])
theorem zB7 {e k:Nat} {r r':List (List PV)} (h:r=r'):leC (.own e k r) (.own e k r'):=zAm (by rw [h])
theorem zAn {e k k':Nat}:leC (.pv (.one (.nl k))) (.own e k' []):=.inr (.inr rfl)
theorem yKs:ghW F K []=K F:=rfl
theorem yKt {j base n:Nat} {r:List Gh}:ghW F K (.frz j base n :: r)=(match zAL F base n with
    | some cs=>ghW (zAe (F.map (yDB j cs)) base (List.replicate n .un)) K r
    | none=>False):=rfl
theorem yFt {l:List Nat} {r:List Gh}:ghW F K (.forget l :: r)=ghW (zCf F l) K r:=rfl
theorem yKu:zCf F []=F:=rfl
theorem yJB {i:Nat} {r:List Nat}:zCf F (i :: r)=zCf (F.set i .un) r:=rfl
theorem yKv {i:Nat}:zAe F i []=F:=rfl
theorem yJC {i:Nat} {c:Ct} {cs:List Ct}:zAe F i (c :: cs)=zAe (F.set i c) (i+1) cs:=rfl
theorem yKw {d x:Nat}:hoW P ⟨none,.mvo d x⟩ F K X=(match F.getD x .un with
    | .own e k rows=>d≠x∧K ((F.set x (.pv (.one (.sl k rows)))).set d (.own e k rows))
    | _=>False):=rfl
theorem yKx {d e k:Nat}:hoW P ⟨none,.nlo d e k⟩ F K X=K (F.set d (.own e k [])):=rfl
theorem yKy {d j base off e k:Nat} {x:Opd}:hoW P ⟨none,.ldo d x j base off e k⟩ F K X=(match zAv F x,F.getD (base+off) .un with
    | .ptr j' off',.own e' k' rows=>j'=j∧off'=off∧e'=e∧k'=k∧K ((F.set (base+off) (.pv (.one (.sl k rows)))).set d (.own e k rows))
    | .ptr j' off',.pv (.one (.nl _))=>j'=j∧off'=off∧K (F.set d (.own e k []))
    | _,_=>False):=rfl
theorem yKz {j base off n:Nat} {x y:Opd}:hoW P ⟨none,.sto x j base off n y⟩ F K X=(match zAv F x,(zAv F y).pv? with
    | .ptr j' off',some p=>j'=j∧off'=off∧p.cells.length=n∧(zAv F y).need∧K (zAe F (base+off) (p.cells.map fun c=>.pv (.one c)))
    | _,_=>False):=rfl
theorem yKA {j base sz:Nat} {x y:Opd}:hoW P ⟨none,.std x j base sz y⟩ F K X=(match zAv F x,(zAv F y).pv? with
    | .ptr j' off',some p=>j'=j∧off'<sz∧p.cells.length=1∧(zAv F y).need∧K (zAe F (base+off') (p.cells.map fun c=>.pv (.one c)))
    | _,_=>False):=rfl
theorem yKB {j base off y:Nat} {x:Opd}:hoW P ⟨none,.stw x j base off y⟩ F K X=(match zAv F x,F.getD y .un with
    | .ptr j' off',.own e k rows=>j'=j∧off'=off∧K ((F.set y (.pv (.one (.sl k rows)))).set (base+off) (.own e k rows))
    | _,_=>False):=rfl
theorem yHD {d j base:Nat} {cells:List PV}:hoW P ⟨none,.alloc d j base cells⟩ F K X=K (zAe ((F.map (zDW j)).set d (.ptr j 0)) base (cells.map fun c=>.pv (.one c))):=rfl
theorem yKC {d j base n:Nat} {x:Opd}:hoW P ⟨none,.box d j base n x⟩ F K X=(match (zAv F x).pv? with
    | some p=>p.cells.length=n∧(zAv F x).need∧K (zAe ((F.map (zDW j)).set d (.ptr j 0)) base (p.cells.map fun c=>.pv (.one c)))
    | none=>False):=rfl
theorem yKD {d j base:Nat} {cells:List PV}:hoW P ⟨none,.alo d j base cells⟩ F K X=(F.getD base .un = .una∧K (zAe (F.set d (.ptr j 0)) base (cells.map fun c=>.pv (.one c)))):=rfl
theorem yKE {d j base n:Nat} {x:Opd}:hoW P ⟨none,.bxo d j base n x⟩ F K X=(match (zAv F x).pv? with
    | some p=>p.cells.length=n∧(zAv F x).need∧F.getD base .un = .una∧K (zAe (F.set d (.ptr j 0)) base (p.cells.map fun c=>.pv (.one c)))
    | none=>False):=rfl
theorem yKF {d e k x:Nat} {y:Opd}:hoW P ⟨none,.app d e k (.t x) y⟩ F K X=(match F.getD x .un,(zAv F y).pv? with
    | .own e' k' rows,some (.one (.sl k'' rs))=>x≠d∧e'=e∧k'=k∧k''=k∧(zAv F y).need∧(rows.length+rs.length) * 4096≤140737488355328∧K ((F.set x (.pv (.one (.sl k rows)))).set d (.own e k (rows ++ rs)))
    | _,_=>False):=rfl
theorem yKG {d e k:Nat} {parts:List Opd}:hoW P ⟨none,.bsl d e k parts⟩ F K X=((zDA F k parts).1∧K (F.set d (.own e k (zDA F k parts).2))):=rfl
theorem yKH {d e k:Nat}:hoW P ⟨none,.vnl d e k⟩ F K X=K (F.set d (.ov (.one (.os none e k [])))):=rfl
theorem yFu {pb:Option Nat} {e k:Nat} {rows:List (List OV)}:zSn (.one (.os pb e k rows)) = .hdr rows.length:=rfl
theorem yDJ {cs:List OV}:zSn (.agg cs) = .un:=rfl
theorem yCg:zSn (.one .hole) = .un:=rfl
theorem yHE {x:PV}:zSn (.one (.p x)) = .un:=rfl
theorem yFv {b:Nat} {ks:List Value} {vs:List OV}:zSn (.one (.mp b ks vs)) = .un:=rfl
attribute [go_sem] yFu yDJ yCg yHE yFv
theorem yKI {d x:Nat}:hoW P ⟨none,.vmv d x⟩ F K X=(match F.getD x .un with
    | .ov v=>d≠x∧K ((F.set x (zSn v)).set d (.ov v))
    | _=>False):=rfl
theorem yKJ {d j base off n:Nat} {x:Opd} {agg:Bool}:hoW P ⟨none,.vld d x j base off n agg⟩ F K X=(match zAv F x,zDi F (base+off) n with
    | .ptr j' off',some cs=>j'=j∧off'=off∧K ((zAe F (base+off) (zAV F (base+off) n)).set d (.ov (yGe agg cs)))
    | _,_=>False):=rfl
theorem yKK {x:Opd} {j base off n y:Nat}:hoW P ⟨none,.vst x j base off n y⟩ F K X=(match zAv F x,F.getD y .un with
    | .ptr j' off',.ov v=>j'=j∧off'=off∧v.cells.length=n∧K (zAe (F.set y .un) (base+off) (v.cells.map zD4))
    | _,_=>False):=rfl
theorem yKL {d e k x:Nat} {y:Opd}:hoW P ⟨none,.vap d e k x y⟩ F K X=(match F.getD x .un with
    | .ov (.one (.os _ e' k' rows))=>(∀ n,y = .t n→x≠n)∧e'=e∧k'=k∧(zSh F k y).1∧(rows.length+(zSh F k y).2.length) * 4096≤140737488355328∧K ((clr F (F.set x .un) y).set d (.ov (.one (.os none e k (rows ++ (zSh F k y).2)))))
    | _=>False):=rfl
theorem yKM {d e k:Nat} {y:Opd}:hoW P ⟨none,.vbp d e k y⟩ F K X=((zEd F y).1∧(zEd F y).2.length=k∧K ((clr F F y).set d (.ov (.one (.os none e k [(zEd F y).2]))))):=rfl
theorem yKN {d off n:Nat} {zs:List PV} {y:Opd}:hoW P ⟨none,.vbd d zs off n y⟩ F K X=((zEd F y).1∧(zEd F y).2.length=n∧off+n≤zs.length∧K ((clr F F y).set d (.ov (.agg ((zs.take off).map .p ++ (zEd F y).2 ++ (zs.drop (off+n)).map .p))))):=rfl
theorem yKO {d off n:Nat} {zs:List PV} {parts:List (Nat × Nat × Opd)} {y:Opd}:hoW P ⟨none,.vbe d zs parts off n y⟩ F K X=((zBn F zs parts).1∧(zBn F zs parts).2.length=zs.length∧(zEd F y).1∧(zEd F y).2.length=n∧off+n≤zs.length∧K ((clr F F y).set d (.ov (.agg (((zBn F zs parts).2.take off).map .p ++ (zEd F y).2 ++ ((zBn F zs parts).2.drop (off+n)).map .p))))):=rfl
theorem yKP {d j base n x:Nat}:hoW P ⟨none,.vby d j base n x⟩ F K X=(match F.getD x .un with
    | .ov v=>v.cells.length=n∧F.getD base .un = .una∧K (zAe ((F.set x .un).set d (.ptr j 0)) base (v.cells.map zD4))
    | _=>False):=rfl
theorem yKQ {d e k x:Nat}:hoW P ⟨none,.vbs d e k x⟩ F K X=(match F.getD x .un with
    | .ov v=>v.cells.length=k∧K ((F.set x .un).set d (.ov (.one (.os none e k [v.cells]))))
    | _=>False):=rfl
theorem yKR {d j base n x:Nat}:hoW P ⟨none,.vbx d j base n x⟩ F K X=(match F.getD x .un with
    | .ov v=>v.cells.length=n∧K (zAe ((((F.set x .un).map (zDW j))).set d (.ptr j 0)) base (v.cells.map zD4))
    | _=>False):=rfl
theorem yKS {x:Opd} {r kk:Nat} {k y:Opd}:hoW P ⟨none,.mps x r kk k y⟩ F K X=zUL F x r kk k (fun b ks vs kv=>(∀ s,y = .t s→s≠r)∧(yEP F y).1∧match (yEP F y).2 with
    | some c=>K ((clr F F y).set r (.ov (.one (zZB b ks vs kv c))))
    | _=>False):=rfl
theorem yKT {d:Nat} {x:Opd} {r kk:Nat} {k:Opd} {z:PV} {ok:Bool}:hoW P ⟨none,.mpl d x r kk k z ok⟩ F K X=zUL F x r kk k (fun _ ks vs kv=>match zZC vs z (zGk ks kv) with
    | some v=>K (F.set d (if ok then .tup [.one v,bv (zGk ks kv).isSome] else .pv (.one v)))
    | none=>False):=rfl
theorem yKU {d e k:Nat} {zs:List PV} {x:Opd}:hoW P ⟨none,.vmk d e k zs x⟩ F K X=(match (zAv F x).pv? with
    | some (.one (.v (.int _ n)))=>(zAv F x).need∧0≤n∧n * 4096≤140737488355328∧zs.length=k∧K (F.set d (.ov (.one (.os none e k (List.replicate n.toNat (zs.map .p))))))
    | _=>False):=rfl
theorem yKV {d x:Nat} {hi:Opd}:hoW P ⟨none,.vtr d x hi⟩ F K X=(match F.getD x .un,(zAv F hi).pv? with
    | .ov (.one (.os pb e k rows)),some (.one (.v (.int _ n)))=>d≠x∧(zAv F hi).need∧0≤n∧n≤rows.length∧K ((F.set x .un).set d (.ov (.one (.os pb e k (rows.take n.toNat)))))
    | _,_=>False):=rfl
def yC:Option PVal→Ct
  | some p=>.pv p
  | none=>.un
theorem yHF {p:PVal}:yC (some p) = .pv p:=rfl
theorem yHG:yC none = .un:=rfl
attribute [go_sem] yHF yHG
theorem zP6 {d:Option Nat} {f r:Nat} {args:List (Opd × AM)} {v v':OV} {y:Option PVal} (hv:F.getD r .un = .ov (.one v)) (hd:d≠some r) (h1:(zBF F args).1) (h2:zE9 P f v (zBF F args).2 v' y)
    (h3:K (zXK (F.set r (.ov (.one v'))) d (yC y))):hoW P ⟨none,.callm d f r args⟩ F K X:=by
  show opW P (.callm d f r args) F K X
  simp only [opW,hv]
  refine ⟨hd,h1,v',y,h2,?_⟩
  cases y <;> exact h3
theorem yKW {s j base:Nat} {pt:List (Opd × Nat)} {r:List Gh}:ghW F K (.pin s j base pt :: r)=(match F.getD s .un with
    | .ov (.one root)=>match root.get (zC4 F pt).2 with
      | some (.os none e k rows)=>(zC4 F pt).1∧∀ b,ghW (F.set s (.ov (.one (root.upd (zC4 F pt).2 (.os (some b) e k rows))))) K r
      | _=>False
    | _=>False):=rfl
theorem yKX {s j base:Nat} {pt:List (Opd × Nat)} {r:List Gh}:ghW F K (.unp s j base pt :: r)=(match F.getD s .un with
    | .ov (.one root)=>match root.get (zC4 F pt).2 with
      | some (.os _ e k rows)=>(zC4 F pt).1∧ghW (F.set s (.ov (.one (root.upd (zC4 F pt).2 (.os none e k rows))))) K r
      | _=>False
    | _=>False):=rfl
theorem yKY {s j base:Nat} {r:List Gh}:ghW F K (.vfr s j base :: r)=(match F.getD s .un with
    | .ov (.one root)=>match root.frz with
      | some x=>ghW (F.set s (.pv (.one x))) K r
      | none=>False
    | .ov (.agg cs)=>match zZx cs with
      | some xs=>ghW (F.set s (.pv (.agg xs))) K r
      | none=>False
    | _=>False):=rfl
theorem yKZ {s j base:Nat} {pt:List (Opd × Nat)} {r:List Gh}:ghW F K (.vfp s j base pt :: r)=(match F.getD s .un with
    | .ov (.one root)=>match root.get (zC4 F pt).2 with
      | some y=>match y.frz with
        | some x=>(zC4 F pt).1∧ghW (F.set s (.ov (.one (root.upd (zC4 F pt).2 (.p x))))) K r
        | none=>False
      | none=>False
    | _=>False):=rfl
theorem yK0:zC4 F []=(True,[]):=rfl
theorem yHH {x:OV}:x.get []=some x:=by cases x <;> rfl
theorem yHI {x y:OV}:x.upd [] y=y:=by cases x <;> rfl
theorem yJD {b:Option Nat} {e k:Nat} {rows:List (List OV)} {rs:List (List PV)} (h:zEe rows=some rs):(OV.os b e k rows).frz=some (.sl k rs):=by simp only [OV.frz,h]
theorem yGz:∀ (r:List PV),zZx (r.map OV.p)=some r
  | []=>rfl
  | x :: r=>by simp only [List.map_cons,zZx,OV.frz,yGz r]
theorem zXV:∀ (rows:List (List PV)),zEe (rows.map fun r=>r.map OV.p)=some rows
  | []=>rfl
  | r :: rows=>by simp only [List.map_cons,zEe,yGz,zXV rows]
theorem yK1 {x:Opd}:hoW P ⟨none,.pan x⟩ F K X=(match (zAv F x).pv? with
    | some (.one (.v (.iface t u)))=>(zAv F x).need∧X (.iface t u) F
    | _=>False):=rfl
section
variable {E:Env} {base:Nat} {av:List AV} {t:Nat} {x:PVal}
theorem zAq {p:PVal} (e:(zAv F (.t t)).pv? = some p) (n:(zAv F (.t t)).need) (h:x=p∨x=p.norm) (hio:ioOf av=none:=by rfl):yCd E base av [.tmp t] { res:=.val x } .ret F:=by
  refine ⟨?_,fun cs h=>by rw [hio] at h; cases h⟩
  simp only [zDc,rsV,e]
  exact ⟨n,h⟩
theorem zBT {p:PVal} {cells io:List PV} (e:(zAv F (.t t)).pv? = some p) (n:(zAv F (.t t)).need) (h:x=p∨x=p.norm) (hio:ioOf av=some cells) (hc:zAL F base cells.length=some io):yCd E base av [.tmp t] { res:=.val x,io:=io } .ret F:=by
  refine ⟨?_,fun cs h=>by rw [hio] at h; injection h with h; subst h; exact hc⟩
  simp only [zDc,rsV,e]
  exact ⟨n,h⟩
theorem zU6 {cells io:List PV} (hio:ioOf av=some cells) (hc:zAL F base cells.length=some io):yCd E base av [] { res:=.tup [],io:=io } .ret F:=
  ⟨rfl,fun cs h=>by rw [hio] at h; injection h with h; subst h; exact hc⟩
theorem zCr {rs:List RSrc} {xs:List PVal} (hn:∀ r,rs≠[r]) (h:zZt F rs xs) (hio:ioOf av=none:=by rfl):yCd E base av rs { res:=.tup xs } .ret F:=by
  refine ⟨?_,fun cs h=>by rw [hio] at h; cases h⟩
  simp only [zDc]
  first
    | exact h
    | (split
       · rename_i r; exact (hn r rfl).elim
       · exact h)
theorem zA9 {rs:List RSrc} {xs:List PVal} {cells io:List PV} (hn:∀ r,rs≠[r]) (h:zZt F rs xs) (hio:ioOf av=some cells) (hc:zAL F base cells.length=some io):yCd E base av rs { res:=.tup xs,io:=io } .ret F:=by
  refine ⟨?_,fun cs h=>by rw [hio] at h; injection h with h; subst h; exact hc⟩
  simp only [zDc]
  first
    | exact h
    | (split
       · rename_i r; exact (hn r rfl).elim
       · exact h)
theorem yCh {j bs off n:Nat} {agg:Bool} {cs:List PV} (e:F.getD t .un = .ptr j off) (h:zAL F (bs+off) n=some cs) (hx:x=(if agg then PVal.agg cs else .one (cs.headD (.nl 0)))∨x=(if agg then PVal.agg cs else .one (cs.headD (.nl 0))).norm) (hio:ioOf av=none:=by rfl):yCd E base av [.cellB t j bs off n agg] { res:=.val x } .ret F:=by
  refine ⟨?_,fun cs h=>by rw [hio] at h; cases h⟩
  simp only [zDc,rsV,e,h]
  exact ⟨trivial,trivial,hx⟩
theorem zIW {j bs off n:Nat} {agg:Bool} {cs:List PV} (e:F.getD t .un = .ptr j off) (h:zAL F (bs+off) n=some cs) (hx:x=if agg then .agg cs else .one (cs.headD (.nl 0))) (hio:ioOf av=none:=by rfl):yCd E base av [.cellB t j bs off n agg] { res:=.val x } .ret F:=yCh e h (.inl hx) hio
theorem zAO {p:PVal} (e:(zAv F (.t t)).pv? = some p) (n:(zAv F (.t t)).need) (h:x=p∨x=p.norm):rsV F (.tmp t) x:=by
  simp only [rsV,e]; exact ⟨n,h⟩
theorem zAS {j bs off n:Nat} {agg:Bool} {cs:List PV} (e:F.getD t .un = .ptr j off) (h:zAL F (bs+off) n=some cs) (hx:x=(if agg then PVal.agg cs else .one (cs.headD (.nl 0)))∨x=(if agg then PVal.agg cs else .one (cs.headD (.nl 0))).norm):rsV F (.cellB t j bs off n agg) x:=by
  simp only [rsV,e,h]; exact ⟨trivial,trivial,hx⟩
end
end
attribute [go_sem ↓] yKO yKP yKM yKN yHg yHh yKl yKm yKn yKo yJs yJt yJe yJ8 yJ9 yJf yJg yKa yKb yJh yJi yHe yLB yKc yJj yJk yLC yLD yKd yKe yKf yKg yKh yKj yHf yJn yKk yHi yHj yHk yHl yJo yJp yJq yJr yKH yKI yKJ yKK yKL yKV yKU yKQ yKR yKW yKX yKY yKZ yKp yHv zZO yKw yKx yKy yKz yKA yKB yHD yKC yKD yKE yKF yKG yK1 yKq yKr yHB yKs yFt yKt
attribute [go_sem] yIl implies_true and_self yDH Bool.not_eq_true' Bool.not_eq_false' Bool.not_not decide_eq_true_eq decide_eq_false_iff_not Nat.not_lt Int.not_lt Int.not_le gt_iff_lt ge_iff_le yHC yK0 yHH yHI OVal.cells zD4 zXL zDi yE3 zAV yGe zEd zSh clr yFo yFp yFq yFr ev zAv Ct.pv? Ct.need zSl zUE true_and and_true zDj yEQ yFd yKi yJl List.cons_append List.nil_append yKu yJB yKv yJC yFs yDI zCp zDA zBn zKL PVal.cells PVal.norm PV.norm zAL zL7 zBF zDW yDB zXK zAQ zDI zBg zGo zDV zCQ if_true if_false Bool.false_eq_true imp_self forall_const List.map_cons List.map_nil List.length_cons List.length_nil Nat.zero_add ite_true ite_false List.take_succ_cons List.take_zero List.drop_zero List.drop_succ_cons List.headD_cons Nat.le_refl beq_true beq_false cond_true cond_false Bool.and_true Bool.true_and Bool.and_false Bool.false_and Int.toNat_natCast ne_eq not_false_eq_true not_true_eq_false List.getElem?_cons_zero List.getElem?_cons_succ zIJ List.replicate bad
end Go.Hx
end

section
/-
 Documents as plain Lean data, and what the walks say of them. No condition.
-/
namespace Go.Hx
variable [Glob]
theorem Contract.av {P:Go.Program} {f:Nat} {av av':List AV} {r:RV} (h:Contract P f av r) (e:av'=av):Contract P f av' r:=e ▸ h
abbrev Bys:=List UInt8
structure Nd where
 up:Int
 tag:Bys
 id:Bys
 cls:List Bys
 att:List (Bys × Bys)
 deriving DecidableEq,Inhabited
abbrev bI (n:Int):PV:=.v (.int .i64 n)
abbrev bS (l:Bys):PV:=.v (mkS l)
abbrev bB (b:Bool):PV:=.v (.bool b)
def zZP (l:List Bys):List (List PV):=l.map fun c=>[bS c]
def yK2 (l:List (Bys × Bys)):List (List PV):=l.map fun a=>[bS a.1,bS a.2]
def ndV (x:Nd):List PV:=[bI x.up,bS x.tag,bS x.id,.sl 1 (zZP x.cls),.sl 2 (yK2 x.att)]
def yLl (d:List Nd):List (List PV):=d.map ndV
def zEK (l:List Int):List (List PV):=l.map fun n=>[bI n]
theorem zAz (d:List Bys):(zZP d).length=d.length:=by simp [zZP]
theorem zAB (d:List (Bys × Bys)):(yK2 d).length=d.length:=by simp [yK2]
theorem zAC (d:List Nd):(yLl d).length=d.length:=by simp [yLl]
theorem zAw (d:List Int):(zEK d).length=d.length:=by simp [zEK]
theorem zU7 (d:List Bys) (i:Nat) (h:i<d.length):(zZP d).getD i []=[bS (d.getD i [])]:=by simp [zZP,h]
theorem zEj (d:List Int) (i:Nat) (h:i<d.length):(zEK d).getD i []=[bI (d.getD i 0)]:=by simp [zEK,h]
theorem zEk {n:Int} (h1 : -9223372036854775808≤n) (h2:n≤9223372036854775807):inR .i64 n:=⟨h1,h2⟩
theorem zAc {p q:Prop} (hq:q) (hp:p:=by (first | omega | exact zEk yO yO | exact fun _=>zEk yO yO | assumption | trivial | (intros; omega) | (intro s h; injection h with h; subst h; decide) | (simp_all; done) | (intros; simp [*]; done) | (simp_all; omega) | grind)):p∧q:=⟨hp,hq⟩
theorem zD8 {α:Type} {p:α→Bool} {l:List α} {i:Nat} {d:α} (h:i<l.length):(l.take (i+1)).all p=((l.take i).all p && p (l.getD i d)):=by
 rw [List.take_add_one,List.all_append]
 simp [h]
theorem zAh {n m:Bool} (h:n=m):leC (.pv (bv n)) (.pv (bv m)):=zAm (by rw [h])
theorem zXW {α:Type} {a b:List α} {i:Nat} (d:α) (h:a.take i=b.take i) (ha:i<a.length) (hb:i<b.length) (e:a.getD i d=b.getD i d):a.take (i+1)=b.take (i+1):=by
 rw [List.take_succ_eq_append_getElem ha,List.take_succ_eq_append_getElem hb,h]
 simp [ha,hb] at e
 rw [e]
theorem yCi {α:Type} {a b:List α} {i:Nat} (d:α) (e:a.getD i d≠b.getD i d):a≠b:=fun h=>e (by rw [h])
theorem yCj {α:Type} {a b:List α} (hl:a.length=b.length) (h:a.take a.length=b.take a.length):a=b:=by
 rw [List.take_length,hl,List.take_length] at h; exact h
theorem yHJ {k:Nat} {rows:List (List PV)} (h:PV.fits (.sl k rows)):rows.length≤9223372036854775807:=by
 simp only [PV.fits,maxLen] at h; omega
def nameCh (c:UInt8):Bool:=decide (97≤c.toNat∧c.toNat≤122) || decide (48≤c.toNat∧c.toNat≤57) || decide (c.toNat=45)
def zZQ (c:UInt8):Bool:=decide (32≤c.toNat∧c.toNat≤126) && !decide (c.toNat=34)
def zB3 (s:Bys):Bool:=decide (1≤s.length∧s.length≤12) && decide (97≤(s.getD 0 0).toNat∧(s.getD 0 0).toNat≤122) && s.all nameCh
def zCR (s:Bys):Bool:=decide (s.length≤16) && s.all zZQ
end Go.Hx
end

section
/-
 Shorter words for printed code; a function's contract out of its code by one computation; the first frame's words. Generic over the program. No condition.
-/
namespace Go.Hx
open Go.RowKit
variable [Glob]
abbrev oV (d:Nat) (v:VOp):HO:=⟨none,.val d v⟩
abbrev oG (g:Nat) (b:Bool) (d:Nat) (v:VOp):HO:=⟨some (g,b),.val d v⟩
abbrev oC (d:Nat) (f:FuncId) (l:List (Opd × AM)):HO:=⟨none,.call (some d) f l⟩
abbrev oD (i:Nat) (l:Bool) (h:HO):DO:=⟨i,l,h⟩
abbrev oN (l:List HO):HCode:=.reg l false []
abbrev oR (l:List HO) (f:List Nat):HCode:=.reg l false [.forget f]
abbrev oQ (l:List DO) (f:List Nat):HCode:=.drg l [.forget f]
def foB (E:Env) (base:Nat) (av:List AV):Bool:=Nat.ble av.length E.N && Nat.ble (zU4 av) 1 && Nat.ble (nIo av) 1 && match ioOf av with | some cs=>E.nfix == 1 && E.Γ[0]? == some (base,cs.length) | none=>E.nfix == 0
theorem fo {E:Env} {base:Nat} {av:List AV} (h:foB E base av=true):zUe E base av:=by
 unfold foB at h
 simp only [Bool.and_eq_true] at h
 refine ⟨Nat.le_of_ble_eq_true h.1.1.1,Nat.le_of_ble_eq_true h.1.1.2,Nat.le_of_ble_eq_true h.1.2,?_⟩
 have h2:=h.2
 split at h2
 ·rename_i cs e
  try rw [e]
  simpa using h2
 ·rename_i e
  try rw [e]
  simpa using h2
def zCu (P:Program) (f:FuncId) (h:HCode) (E:Env) (R:List RSrc):Bool:=match P.funcs[f]? with
 |some fn=>match fn.body with
  |some c=>zCC P f && (E.ok && E.unaOk) && (E.N == fn.ntmps) && zDC P E c h && zD7 P E R fn.results.toList
  |none=>false
 |none=>false
theorem mkA {P:Program} {f:FuncId} {h:HCode} {E:Env} {R:List RSrc} (hc:zCu P f h E R=true) {base:Nat} {av:List AV} {r:RV} (hfo:zUe E base av) (hW:AVs.fits av→hwp P h (yCd E base av R r) (F0 E base av)) (hov:∀ x,r.res = .ov x→zU4 av=0:=by intro x h; cases h <;> rfl):Contract P f av r:=by
 unfold zCu at hc
 split at hc
 ·rename_i fn hf
  split at hc
  ·rename_i c hb
   simp only [Bool.and_eq_true,beq_iff_eq] at hc
   exact contract_of_wp (fn:=fn) (c:=c) hf hb hc.1.1.1.1 (by simp [hc.1.1.1.2]) hc.1.1.2 hc.1.2 hc.2 hfo hW hov
  ·cases hc
 ·cases hc
theorem yLe {p:Prop} (h:p:=by repeat' (first | exact trivial | exact zAi (by omega) | exact zAh rfl | exact zAm rfl | exact zAn | exact le_refl _ | refine And.intro ?_ ?_)):p:=h
theorem yIn:(∀ F,zAI [] F=F)∧(∀ i r F,zAI (i :: r) F=zAI r (F.set i .una))∧(∀ (a:Ct) l n b,(a :: l).set (n+1) b=a :: l.set n b)∧(∀ (a:Ct) l b,(a :: l).set 0 b=b :: l) ∧
  (∀ (f:AV→Ct),[].map f=[])∧(∀ (f:AV→Ct) a l,(a :: l).map f=f a :: l.map f)∧(∀ (f:PV→Ct),[].map f=[])∧(∀ (f:PV→Ct) a l,(a :: l).map f=f a :: l.map f) ∧
  (∀ x,zAG (.val x) = .pv x)∧(∀ e k r,zAG (.own e k r) = .own e k r)∧(∀ x,zAG (.io x) = .ptr 0 0)∧(∀ F i,zAe F i []=F)∧(∀ F i c l,zAe F i (c :: l)=zAe (F.set i c) (i+1) l) ∧
  (ioOf []=none)∧(∀ x l,ioOf (.val x :: l)=ioOf l)∧(∀ e k r l,ioOf (.own e k r :: l)=ioOf l)∧(∀ x l,ioOf (.io x :: l)=some x) ∧
  (([]:List AV).length=0)∧(∀ (a:AV) l,(a :: l).length=l.length+1)∧(∀ a:Ct,List.replicate 0 a=[])∧(∀ (a:Ct) n,List.replicate (n+1) a=a :: List.replicate n a) ∧
  (∀ (a:Ct) l r,a :: l ++ r=a :: (l ++ r))∧(∀ l:List Ct,[] ++ l=l):=by
 refine ⟨fun _=>rfl,fun _ _ _=>rfl,fun _ _ _ _=>rfl,fun _ _ _=>rfl,fun _=>rfl,fun _ _ _=>rfl,fun _=>rfl,fun _ _ _=>rfl,fun _=>rfl,fun _ _ _=>rfl,fun _=>rfl,fun _ _=>rfl,fun _ _ _ _=>rfl,rfl,fun _ _=>rfl,fun _ _ _ _=>rfl,fun _ _=>rfl,rfl,fun _ _=>rfl,fun _=>rfl,fun _ _=>rfl,fun _ _ _=>rfl,fun _=>rfl⟩
end Go.Hx
end

section
/-
 Lists of paths as plain Lean data, what is right of them, and which error is told. No condition.
-/
namespace Go.Hx
mutual
inductive Ts where
 |mk (kind:Int) (name value:Bys) (na nb:Int) (list:List Pt)
inductive St where
 |mk (tag:Bys) (tests:List Ts)
inductive Pt where
 |mk (steps:List St) (links:List Int)
end
instance:Inhabited Ts:=⟨.mk 0 [] [] 0 0 []⟩
instance:Inhabited St:=⟨.mk [] []⟩
instance:Inhabited Pt:=⟨.mk [] []⟩
def Ts.kind:Ts→Int | .mk k _ _ _ _ _=>k
def Ts.name:Ts→Bys | .mk _ n _ _ _ _=>n
def Ts.value:Ts→Bys | .mk _ _ v _ _ _=>v
def Ts.na:Ts→Int | .mk _ _ _ a _ _=>a
def Ts.nb:Ts→Int | .mk _ _ _ _ b _=>b
def Ts.list:Ts→List Pt | .mk _ _ _ _ _ l=>l
def St.tag:St→Bys | .mk t _=>t
def St.tests:St→List Ts | .mk _ l=>l
def Pt.steps:Pt→List St | .mk s _=>s
def Pt.links:Pt→List Int | .mk _ l=>l
mutual
def tsV:Ts→List PV
 |.mk k n v a b l=>[bI k,bS n,bS v,bI a,bI b,.sl 2 (zFl l)]
def zUk:List Ts→List (List PV)
 |[]=>[]
 |t :: r=>tsV t :: zUk r
def stV:St→List PV
 |.mk t l=>[bS t,.sl 6 (zUk l)]
def zMn:List St→List (List PV)
 |[]=>[]
 |s :: r=>stV s :: zMn r
def ptV:Pt→List PV
 |.mk s l=>[.sl 2 (zMn s),.sl 1 (zEK l)]
def zFl:List Pt→List (List PV)
 |[]=>[]
 |p :: r=>ptV p :: zFl r
end
def zBf (l:List Pt):PVal:=.one (.sl 2 (zFl l))
theorem zJv:∀ l:List Ts,zUk l=l.map tsV
 |[]=>rfl
 |t :: r=>by simp only [zUk,List.map_cons,zJv r]
theorem zFX:∀ l:List St,zMn l=l.map stV
 |[]=>rfl
 |t :: r=>by simp only [zMn,List.map_cons,zFX r]
theorem zJw:∀ l:List Pt,zFl l=l.map ptV
 |[]=>rfl
 |t :: r=>by simp only [zFl,List.map_cons,zJw r]
theorem zA7 (l:List Ts):(zUk l).length=l.length:=by simp [zJv]
theorem zBb (l:List St):(zMn l).length=l.length:=by simp [zFX]
theorem zBW (l:List Pt):(zFl l).length=l.length:=by simp [zJw]
theorem zBk (t:Ts):tsV t=[bI t.kind,bS t.name,bS t.value,bI t.na,bI t.nb,.sl 2 (zFl t.list)]:=by cases t; rfl
theorem zBh (t:St):stV t=[bS t.tag,.sl 6 (zUk t.tests)]:=by cases t; rfl
theorem zBB (t:Pt):ptV t=[.sl 2 (zMn t.steps),.sl 1 (zEK t.links)]:=by cases t; rfl
theorem zBz (d:List Ts) (i:Nat) (h:i<d.length):(zUk d).getD i []=tsV (d.getD i default):=by simp [zJv,h]
theorem zC1 (d:List St) (i:Nat) (h:i<d.length):(zMn d).getD i []=stV (d.getD i default):=by simp [zFX,h]
theorem zB5 (d:List Pt) (i:Nat) (h:i<d.length):(zFl d).getD i []=ptV (d.getD i default):=by simp [zJw,h]
theorem zWA {α:Type} [Inhabited α] {l:List α} {i:Nat} (h:i<l.length):l.getD i default ∈ l:=by
 rw [List.getD_eq_getElem?_getD,List.getElem?_eq_getElem h]
 exact List.getElem_mem h
theorem zLR (t:Ts):SizeOf.sizeOf t.list<SizeOf.sizeOf t:=by cases t; simp only [Ts.list,Ts.mk.sizeOf_spec]; omega
theorem zG4 (t:St):SizeOf.sizeOf t.tests<SizeOf.sizeOf t:=by cases t; simp only [St.tests,St.mk.sizeOf_spec]; omega
theorem zG5 (t:Pt):SizeOf.sizeOf t.steps<SizeOf.sizeOf t:=by cases t; simp only [Pt.steps,Pt.mk.sizeOf_spec]; omega
theorem yCJ {l:List Ts} {i:Nat} (h:i<l.length):SizeOf.sizeOf (l.getD i default)<SizeOf.sizeOf l:=List.sizeOf_lt_of_mem (zWA h)
theorem yCK {l:List St} {i:Nat} (h:i<l.length):SizeOf.sizeOf (l.getD i default)<SizeOf.sizeOf l:=List.sizeOf_lt_of_mem (zWA h)
theorem yCL {l:List Pt} {i:Nat} (h:i<l.length):SizeOf.sizeOf (l.getD i default)<SizeOf.sizeOf l:=List.sizeOf_lt_of_mem (zWA h)
def zYO (k:Int):Bool:=decide (1≤k∧k≤8)
def zMo (k:Int):Bool:=decide (4≤k∧k≤8)
def yGC (k:Int):Bool:=decide (k=9) || decide (k=10)
def zEc (k:Int):Bool:=decide (13≤k∧k≤15)
def zN1 (a:Int):Bool:=decide (-1048576≤a∧a≤1048576)
def zIG (a b:Int):Int:=if zN1 a && zN1 b then 0 else 3
mutual
def yD0:List Pt→Nat→Bool
 |[],_=>false
 |p :: r,d=>tmP p d || yD0 r d
def tmP:Pt→Nat→Bool
 |.mk s l,d=>!(decide (1≤s.length∧s.length≤5)) || decide ((l.length:Int)≠s.length - 1) || yD1 s d
def yD1:List St→Nat→Bool
 |[],_=>false
 |s :: r,d=>tmS s d || yD1 r d
def tmS:St→Nat→Bool
 |.mk _ l,d=>decide (6<l.length) || yD2 l d
def yD2:List Ts→Nat→Bool
 |[],_=>false
 |t :: r,d=>tmT t d || yD2 r d
def tmT:Ts→Nat→Bool
 |.mk k _ _ _ _ l,d=>zEc k && (decide (3<d+1) || !(decide (1≤l.length∧l.length≤5)) || yD0 l (d+1))
end
def tmL (l:List Pt) (d:Nat):Bool:=decide (3<d) || !(decide (1≤l.length∧l.length≤5)) || yD0 l d
def zN2 (n:Int):Bool:=!(decide (1≤n∧n≤4))
mutual
def yCM:List Pt→Bool
 |[]=>false
 |p :: r=>bkP p || yCM r
def bkP:Pt→Bool
 |.mk s l=>l.any zN2 || yD3 s
def yD3:List St→Bool
 |[]=>false
 |s :: r=>bkS s || yD3 r
def bkS:St→Bool
 |.mk _ l=>yER l
def yER:List Ts→Bool
 |[]=>false
 |t :: r=>bkT t || yER r
def bkT:Ts→Bool
 |.mk k _ _ _ _ l=>!(decide (1≤k∧k≤15)) || (zEc k && yCM l)
end
def yFH (t:Ts):Bool:=(zYO t.kind && !zB3 t.name) || (!zYO t.kind && !(t.name == []))
def yFI (t:Ts):Bool:=(zMo t.kind && !zCR t.value) || (!zMo t.kind && !(t.value == []))
def yES (t:Ts):Bool:=(!yGC t.kind && !(t.na == 0 && t.nb == 0)) || (!zEc t.kind && decide (0<t.list.length))
mutual
def yCN:List Pt→Bool
 |[]=>false
 |p :: r=>bfP p || yCN r
def bfP:Pt→Bool
 |.mk s _=>yET s
def yET:List St→Bool
 |[]=>false
 |s :: r=>bfS s || yET r
def bfS:St→Bool
 |.mk t l=>(!(t == []) && !zB3 t) || yEU l
def yEU:List Ts→Bool
 |[]=>false
 |t :: r=>bfT t || yEU r
def bfT:Ts→Bool
 |.mk k n v a b l=>yFH (.mk k n v a b l) || yFI (.mk k n v a b l) || yES (.mk k n v a b l) || (zEc k && yCN l)
end
mutual
def yBu:List Pt→Bool
 |[]=>false
 |p :: r=>bnP p || yBu r
def bnP:Pt→Bool
 |.mk s _=>yEV s
def yEV:List St→Bool
 |[]=>false
 |s :: r=>bnS s || yEV r
def bnS:St→Bool
 |.mk _ l=>yEW l
def yEW:List Ts→Bool
 |[]=>false
 |t :: r=>bnT t || yEW r
def bnT:Ts→Bool
 |.mk _ _ _ a b l=>!(decide (zIG a b=0)) || yBu l
end
def zA0 (l:List Pt):Int:=if tmL l 1 then 2 else if yCM l then 4 else if yCN l then 1 else if yBu l then 3 else 0
structure Fd where
 f:Nat
 m:Nat
 r:Nat
 k:Nat
 deriving DecidableEq,Inhabited
def Fd.add (a b:Fd):Fd:=⟨a.f+b.f,a.m+b.m,a.r+b.r,a.k+b.k⟩
def fd0:Fd:=⟨0,0,0,0⟩
def fdV (c:Fd):List PV:=[bI 0,bI c.f,bI c.m,bI c.r,bI c.k]
def nB (b:Bool):Nat:=if b then 1 else 0
def fF (b:Bool):Fd:=⟨nB b,0,0,0⟩
def fM (b:Bool):Fd:=⟨0,nB b,0,0⟩
def fR (b:Bool):Fd:=⟨0,0,nB b,0⟩
def fK (b:Bool):Fd:=⟨0,0,0,nB b⟩
theorem Fd.add_assoc (a b c:Fd):(a.add b).add c=a.add (b.add c):=by simp [Fd.add,Nat.add_assoc]
theorem Fd.add_zero (a:Fd):a.add fd0=a:=rfl
theorem Fd.zero_add (a:Fd):fd0.add a=a:=by simp [Fd.add,fd0]
def zGG (l:List Pt) (d:Nat):Bool:=decide (3<d) || decide (l.length<1) || decide (5<l.length)
def yAE (p:Pt):Bool:=decide (p.steps.length<1) || decide (5<p.steps.length) || decide ((p.links.length:Int)≠p.steps.length - 1)
def yBv (l:List Int):Fd:=⟨0,0,0,l.countP zN2⟩
def yEX (t:Ts):Fd:=(((((fK (!decide (1≤t.kind∧t.kind≤15))).add (fF (yFH t))).add (fF (yFI t))).add (fF (yES t))).add (fR (!decide (zIG t.na t.nb=0))))
mutual
def zZu:List Pt→Nat→Fd
 |[],_=>fd0
 |p :: r,d=>if yAE p then fM true else ((yBv p.links).add (ntP p d)).add (zZu r d)
def ntP:Pt→Nat→Fd
 |.mk s _,d=>yBw s d
def yBw:List St→Nat→Fd
 |[],_=>fd0
 |s :: r,d=>(ntS s d).add (yBw r d)
def ntS:St→Nat→Fd
 |.mk t l,d=>if 6<l.length then fM true else (fF (!(t == []) && !zB3 t)).add (yBx l d)
def yBx:List Ts→Nat→Fd
 |[],_=>fd0
 |t :: r,d=>(ntT t d).add (yBx r d)
def ntT:Ts→Nat→Fd
 |.mk k n v a b l,d=>(yEX (.mk k n v a b l)).add (if zEc k then (if zGG l (d+1) then fM true else zZu l (d+1)) else fd0)
end
def ntL (l:List Pt) (d:Nat):Fd:=if zGG l d then fM true else zZu l d
theorem yJI (t:Ts) (d:Nat):ntT t d=(yEX t).add (if zEc t.kind then ntL t.list (d+1) else fd0):=by cases t; rfl
theorem yGD (s:St) (d:Nat):ntS s d=if 6<s.tests.length then fM true else (fF (!(s.tag == []) && !zB3 s.tag)).add (yBx s.tests d):=by cases s; rfl
theorem yJJ (p:Pt) (d:Nat):ntP p d=yBw p.steps d:=by cases p; rfl
theorem yD4 (b:Bool):0<nB b↔b=true:=by cases b <;> simp [nB]
theorem zYP (l:List Pt) (d:Nat):zGG l d=(decide (3<d) || !(decide (1≤l.length∧l.length≤5))):=by
 unfold zGG
 by_cases h1:3<d <;> by_cases h2:l.length<1 <;> by_cases h3:5<l.length <;> simp [h1,h2,h3] <;> omega
mutual
theorem yK3:∀ (l:List Pt) (d:Nat),0<(zZu l d).m↔yD0 l d=true
 |[],d=>by simp [zZu,yD0,fd0]
 |p :: r,d=>by
  have h1:=m_P p d
  have h2:=yK3 r d
  simp only [zZu,yD0]
  have hp:yAE p=true→tmP p d=true:=by
   intro hb
   cases p with
   |mk s l=>
    have hb:(decide (s.length<1) || decide (5<s.length) || decide ((l.length:Int)≠s.length - 1))=true:=hb
    simp only [Bool.or_eq_true,decide_eq_true_eq] at hb
    simp only [tmP,Bool.or_eq_true,decide_eq_true_eq,Bool.not_eq_true',decide_eq_false_iff_not]
    omega
  split
  ·rename_i hb
   simp [fM,nB,hp hb]
  ·rename_i hb
   have h3:=h1 (by simpa using hb)
   simp only [Fd.add,yBv,Bool.or_eq_true,← h3,← h2]
   omega
theorem m_P:∀ (p:Pt) (d:Nat),yAE p=false→(0<(ntP p d).m↔tmP p d=true)
 |.mk s l,d,hb=>by
  have h:=yLm s d
  have hb:(decide (s.length<1) || decide (5<s.length) || decide ((l.length:Int)≠s.length - 1))=false:=hb
  simp only [Bool.or_eq_false_iff,decide_eq_false_iff_not] at hb
  have e1:decide (1≤s.length∧s.length≤5)=true:=by simp; omega
  have e2:decide ((l.length:Int)≠s.length - 1)=false:=by simp; omega
  simp only [ntP,tmP,e1,e2,h,Bool.not_true,Bool.false_or]
theorem yLm:∀ (l:List St) (d:Nat),0<(yBw l d).m↔yD1 l d=true
 |[],d=>by simp [yBw,yD1,fd0]
 |p :: r,d=>by
  have h1:=m_S p d
  have h2:=yLm r d
  simp only [yBw,yD1,Fd.add,Bool.or_eq_true,← h1,← h2]
  omega
theorem m_S:∀ (p:St) (d:Nat),0<(ntS p d).m↔tmS p d=true
 |.mk t l,d=>by
  have h:=yLn l d
  simp only [ntS,tmS]
  split
  ·rename_i hb; simp [fM,nB,hb]
  ·rename_i hb
   simp only [Fd.add,fF,Bool.or_eq_true,decide_eq_true_eq,← h]
   omega
theorem yLn:∀ (l:List Ts) (d:Nat),0<(yBx l d).m↔yD2 l d=true
 |[],d=>by simp [yBx,yD2,fd0]
 |p :: r,d=>by
  have h1:=m_T p d
  have h2:=yLn r d
  simp only [yBx,yD2,Fd.add,Bool.or_eq_true,← h1,← h2]
  omega
theorem m_T:∀ (p:Ts) (d:Nat),0<(ntT p d).m↔tmT p d=true
 |.mk k n v a b l,d=>by
  have h:=yK3 l (d+1)
  simp only [ntT,tmT,Fd.add,yEX,fF,fK,fR,Nat.zero_add]
  by_cases hk:zEc k=true
  ·simp only [hk,if_true,Bool.true_and]
   rw [zYP]
   by_cases hb:(decide (3<d+1) || !(decide (1≤l.length∧l.length≤5)))=true
   ·rw [if_pos hb,hb]; simp [fM,nB]
   ·rw [if_neg hb]
    have hb2:(decide (3<d+1) || !(decide (1≤l.length∧l.length≤5)))=false:=eq_false_of_ne_true hb
    rw [hb2,Bool.false_or,h]
  ·have hk2:zEc k=false:=by simpa using hk
   simp [hk2,fd0]
end
theorem m_L (l:List Pt) (d:Nat):0<(ntL l d).m↔tmL l d=true:=by
 unfold ntL tmL
 rw [zYP]
 by_cases hb:(decide (3<d) || !(decide (1≤l.length∧l.length≤5)))=true
 ·rw [if_pos hb,hb]; simp [fM,nB]
 ·rw [if_neg hb]
  have hb2:(decide (3<d) || !(decide (1≤l.length∧l.length≤5)))=false:=eq_false_of_ne_true hb
  rw [hb2,Bool.false_or,yK3]
def Oth (c:Fd) (k f r:Bool):Prop:=c.m=0→((0<c.k↔k=true)∧(0<c.f↔f=true)∧(c.f=0→(0<c.r↔r=true)))
theorem Oth.add {a b:Fd} {k f r k' f' r':Bool} (h:Oth a k f r) (g:Oth b k' f' r'):Oth (a.add b) (k || k') (f || f') (r || r'):=by
 intro hm
 simp only [Fd.add] at hm ⊢
 obtain ⟨h1,h2,h3⟩:=h yO
 obtain ⟨g1,g2,g3⟩:=g yO
 refine ⟨?_,?_,fun hf=>?_⟩
 ·rw [Bool.or_eq_true,← h1,← g1]; omega
 ·rw [Bool.or_eq_true,← h2,← g2]; omega
 ·have h4:=h3 yO
  have g4:=g3 yO
  rw [Bool.or_eq_true,← h4,← g4]; omega
theorem Oth.zero:Oth fd0 false false false:=fun _=>⟨by simp [fd0],by simp [fd0],fun _=>by simp [fd0]⟩
theorem Oth.many {k f r:Bool}:Oth (fM true) k f r:=fun h=>by simp [fM,nB] at h
theorem Oth.k (b:Bool):Oth (fK b) b false false:=fun _=>⟨by simp [fK,yD4],by simp [fK],fun _=>by simp [fK]⟩
theorem Oth.f (b:Bool):Oth (fF b) false b false:=fun _=>⟨by simp [fF],by simp [fF,yD4],fun _=>by simp [fF]⟩
theorem Oth.r (b:Bool):Oth (fR b) false false b:=fun _=>⟨by simp [fR],by simp [fR],fun _=>by simp [fR,yD4]⟩
theorem Oth.cast {c:Fd} {k f r k' f' r':Bool} (h:Oth c k f r) (h1:k=k') (h2:f=f') (h3:r=r'):Oth c k' f' r':=by subst h1 h2 h3; exact h
theorem Oth.lk (l:List Int):Oth (yBv l) (l.any zN2) false false:=by
 intro _
 refine ⟨?_,by simp [yBv],fun _=>by simp [yBv]⟩
 simp [yBv,List.any_eq_true,List.countP_pos_iff]
mutual
theorem yK4:∀ (l:List Pt) (d:Nat),Oth (zZu l d) (yCM l) (yCN l) (yBu l)
 |[],d=>Oth.zero
 |p :: r,d=>by
  simp only [zZu,yCM,yCN,yBu]
  split
  ·exact Oth.many
  ·refine ((o_P p d).add (yK4 r d))
theorem o_P:∀ (p:Pt) (d:Nat),Oth ((yBv p.links).add (ntP p d)) (bkP p) (bfP p) (bnP p)
 |.mk s l,d=>by
  simp only [ntP,Pt.links,bkP,bfP,bnP]
  exact ((Oth.lk l).add (yLo s d)).cast rfl (by simp) (by simp)
theorem yLo:∀ (l:List St) (d:Nat),Oth (yBw l d) (yD3 l) (yET l) (yEV l)
 |[],d=>Oth.zero
 |p :: r,d=>by
  simp only [yBw,yD3,yET,yEV]
  exact (o_S p d).add (yLo r d)
theorem o_S:∀ (p:St) (d:Nat),Oth (ntS p d) (bkS p) (bfS p) (bnS p)
 |.mk t l,d=>by
  simp only [ntS,bkS,bfS,bnS]
  split
  ·exact Oth.many
  ·exact ((Oth.f _).add (yLp l d)).cast (by simp) rfl (by simp)
theorem yLp:∀ (l:List Ts) (d:Nat),Oth (yBx l d) (yER l) (yEU l) (yEW l)
 |[],d=>Oth.zero
 |p :: r,d=>by
  simp only [yBx,yER,yEU,yEW]
  exact (o_T p d).add (yLp r d)
theorem o_T:∀ (p:Ts) (d:Nat),Oth (ntT p d) (bkT p) (bfT p) (bnT p)
 |.mk k n v a b l,d=>by
  have h:=yK4 l (d+1)
  have h1:Oth (yEX (.mk k n v a b l)) (!decide (1≤k∧k≤15)) (yFH (.mk k n v a b l) || yFI (.mk k n v a b l) || yES (.mk k n v a b l)) (!decide (zIG a b=0)):=
   (((((Oth.k (!decide (1≤k∧k≤15))).add (Oth.f _)).add (Oth.f _)).add (Oth.f _)).add (Oth.r (!decide (zIG a b=0)))).cast (by simp only [Bool.or_false]) (by simp only [Bool.false_or,Bool.or_false]) (by simp only [Bool.false_or])
  simp only [ntT,bkT,bfT,bnT]
  by_cases hk:zEc k=true
  ·simp only [hk,if_true,Bool.true_and]
   split
   ·intro hm
    simp [Fd.add,fM,nB] at hm
   ·exact h1.add h
  ·have hk2:zEc k=false:=eq_false_of_ne_true hk
   simp only [hk2,Bool.false_and,Bool.or_false]
   intro hm
   obtain ⟨a1,a2,a3⟩:=h1 (by simpa [Fd.add,fd0] using hm)
   refine ⟨by simpa [Fd.add,fd0] using a1,by simpa [Fd.add,fd0] using a2,fun hf=>?_⟩
   have hf0:(yEX (.mk k n v a b l)).f=0:=by simpa [Fd.add,fd0] using hf
   have a4:=a3 hf0
   have hl:l=[]:=by
    have h5:¬ (yFH (.mk k n v a b l) || yFI (.mk k n v a b l) || yES (.mk k n v a b l))=true:=by
     rw [← a2]; omega
    simp only [yES,Ts.kind,Ts.list,hk2,Bool.not_false,Bool.true_and,Bool.or_eq_true,decide_eq_true_eq,not_or] at h5
    have:=h5.2.2
    cases l with
    |nil=>rfl
    |cons x y=>simp at this
   subst hl
   simpa [Fd.add,fd0,yBu] using a4
end
def yHX (c:Fd):Int:=if 0<c.m then 2 else if 0<c.k then 4 else if 0<c.f then 1 else if 0<c.r then 3 else 0
theorem yJK (l:List Pt):yHX (ntL l 1)=zA0 l:=by
 unfold yHX zA0
 have hm:=m_L l 1
 by_cases h:tmL l 1=true
 ·rw [if_pos (hm.2 h),if_pos h]
 ·have hm0:¬ 0<(ntL l 1).m:=fun hc=>h (hm.1 hc)
  rw [if_neg hm0,if_neg h]
  have hb:zGG l 1=false:=by
   cases hb:zGG l 1 with
   |false=>rfl
   |true=>unfold ntL at hm0; rw [if_pos hb] at hm0; simp [fM,nB] at hm0
  have e:ntL l 1=zZu l 1:=by unfold ntL; rw [if_neg (by rw [hb]; simp)]
  rw [e] at hm0 ⊢
  obtain ⟨h1,h2,h3⟩:=yK4 l 1 yO
  by_cases hk:yCM l=true
  ·rw [if_pos (h1.2 hk),if_pos hk]
  ·rw [if_neg (fun hc=>hk (h1.1 hc)),if_neg hk]
   by_cases hf:yCN l=true
   ·rw [if_pos (h2.2 hf),if_pos hf]
   ·have hf0:¬ 0<(zZu l 1).f:=fun hc=>hf (h2.1 hc)
    rw [if_neg hf0,if_neg hf]
    have h4:=h3 yO
    by_cases hr:yBu l=true
    ·rw [if_pos (h4.2 hr),if_pos hr]
    ·rw [if_neg (fun hc=>hr (h4.1 hc)),if_neg hr]
def bdF:Nat→Nat
 |0=>1
 |f+1=>4+5 * (4+5 * (1+6 * (5+bdF f)))
def bd (d:Nat):Nat:=bdF (4 - d)
def bdT (d:Nat):Nat:=5+bd (d+1)
def bdS (d:Nat):Nat:=1+6 * bdT d
def bdP (d:Nat):Nat:=4+5 * bdS d
theorem zWB:∀ f,1≤bdF f
 |0=>Nat.le_refl _
 |f+1=>by simp only [bdF]; omega
theorem yHY {d:Nat} (h:d≤3):bd d=4+5 * bdP d:=by
 unfold bdP bdS bdT bd
 obtain ⟨f,hf⟩:∃ f,4 - d=f+1:=⟨4 - d - 1,by omega⟩
 have e:4 - (d+1)=f:=by omega
 rw [hf,e]
 rfl
theorem yJL:bd 1≤100000000:=by decide
structure Fd.le (c:Fd) (n:Nat):Prop where
 f:c.f≤n
 m:c.m≤n
 r:c.r≤n
 k:c.k≤n
theorem Fd.le.le_add {a b:Fd} {n m:Nat} (h:a.le n) (g:b.le m):(a.add b).le (n+m):=by
 obtain ⟨h1,h2,h3,h4⟩:=h
 obtain ⟨g1,g2,g3,g4⟩:=g
 exact ⟨Nat.add_le_add h1 g1,Nat.add_le_add h2 g2,Nat.add_le_add h3 g3,Nat.add_le_add h4 g4⟩
theorem Fd.le.le_mono {a:Fd} {n m:Nat} (h:a.le n) (g:n≤m):a.le m:=⟨Nat.le_trans h.f g,Nat.le_trans h.m g,Nat.le_trans h.r g,Nat.le_trans h.k g⟩
theorem yFJ (b:Bool):nB b≤1:=by cases b <;> simp [nB]
theorem yFK (b:Bool):(fM b).le 1:=⟨Nat.zero_le _,yFJ b,Nat.zero_le _,Nat.zero_le _⟩
theorem zYQ (b:Bool):(fF b).le 1:=⟨yFJ b,Nat.zero_le _,Nat.zero_le _,Nat.zero_le _⟩
theorem yHZ (b:Bool):(fK b).le 1:=⟨Nat.zero_le _,Nat.zero_le _,Nat.zero_le _,yFJ b⟩
theorem yJM (b:Bool):(fR b).le 1:=⟨Nat.zero_le _,Nat.zero_le _,yFJ b,Nat.zero_le _⟩
theorem zYR (n:Nat):fd0.le n:=⟨Nat.zero_le _,Nat.zero_le _,Nat.zero_le _,Nat.zero_le _⟩
theorem yK5 (t:Ts):(yEX t).le 5:=((((yHZ _).le_add (zYQ _)).le_add (zYQ _)).le_add (zYQ _)).le_add (yJM _)
theorem yK6 (l:List Int):(yBv l).le l.length:=⟨Nat.zero_le _,Nat.zero_le _,Nat.zero_le _,List.countP_le_length⟩
mutual
theorem yK7:∀ (l:List Pt) (d:Nat),(zZu l d).le (1+l.length * bdP d)
 |[],d=>zYR _
 |p :: r,d=>by
  have h2:=yK7 r d
  simp only [zZu,List.length_cons]
  split
  ·exact (yFK _).le_mono (Nat.le_add_right _ _)
  ·rename_i hb
   have h1:=b_P p d (eq_false_of_ne_true hb)
   exact (h1.le_add h2).le_mono (by rw [Nat.add_mul]; omega)
theorem b_P:∀ (p:Pt) (d:Nat),yAE p=false→((yBv p.links).add (ntP p d)).le (bdP d)
 |.mk s l,d,hb=>by
  have hb:(decide (s.length<1) || decide (5<s.length) || decide ((l.length:Int)≠s.length - 1))=false:=hb
  simp only [Bool.or_eq_false_iff,decide_eq_false_iff_not] at hb
  have h:=yLq s d
  simp only [ntP,Pt.links]
  refine ((yK6 l).le_add h).le_mono ?_
  have h5:s.length * bdS d≤5 * bdS d:=Nat.mul_le_mul_right _ yO
  unfold bdP
  omega
theorem yLq:∀ (l:List St) (d:Nat),(yBw l d).le (l.length * bdS d)
 |[],d=>zYR _
 |p :: r,d=>by
  simp only [yBw,List.length_cons]
  exact ((b_S p d).le_add (yLq r d)).le_mono (by rw [Nat.add_mul]; omega)
theorem b_S:∀ (p:St) (d:Nat),(ntS p d).le (bdS d)
 |.mk t l,d=>by
  simp only [ntS]
  split
  ·exact (yFK _).le_mono (by unfold bdS; omega)
  ·refine ((zYQ _).le_add (yLr l d)).le_mono ?_
   have h5:l.length * bdT d≤6 * bdT d:=Nat.mul_le_mul_right _ yO
   unfold bdS
   omega
theorem yLr:∀ (l:List Ts) (d:Nat),(yBx l d).le (l.length * bdT d)
 |[],d=>zYR _
 |p :: r,d=>by
  simp only [yBx,List.length_cons]
  exact ((b_T p d).le_add (yLr r d)).le_mono (by rw [Nat.add_mul]; omega)
theorem b_T:∀ (p:Ts) (d:Nat),(ntT p d).le (bdT d)
 |.mk k n v a b l,d=>by
  have h:=yK7 l (d+1)
  simp only [ntT]
  refine (yK5 _).le_add ?_
  split
  ·split
   ·exact (yFK _).le_mono (zWB _)
   ·rename_i hb
    simp only [zGG,Bool.or_eq_true,decide_eq_true_eq,not_or] at hb
    have h5:l.length * bdP (d+1)≤5 * bdP (d+1):=Nat.mul_le_mul_right _ yO
    refine h.le_mono ?_
    rw [yHY (d:=d+1) yO]
    omega
  ·exact zYR _
end
theorem b_L (l:List Pt) (d:Nat):(ntL l d).le (bd d):=by
 unfold ntL
 split
 ·exact (yFK _).le_mono (zWB _)
 ·rename_i hb
  simp only [zGG,Bool.or_eq_true,decide_eq_true_eq,not_or] at hb
  have h5:l.length * bdP d≤5 * bdP d:=Nat.mul_le_mul_right _ yO
  refine (yK7 l d).le_mono ?_
  rw [yHY yO]
  omega
end Go.Hx
end

section
/-
 Right lists of paths, and their parts. Plain Lean. No condition.
-/
set_option maxRecDepth 100000
set_option linter.unusedSimpArgs false
namespace Go.Hx
def GTs (l:List Ts) (d:Nat):Prop:=yD2 l d=false∧yER l=false∧yEU l=false∧yEW l=false
def GT (t:Ts) (d:Nat):Prop:=tmT t d=false∧bkT t=false∧bfT t=false∧bnT t=false
def GS (x:St) (d:Nat):Prop:=tmS x d=false∧bkS x=false∧bfS x=false∧bnS x=false
def GSs (l:List St) (d:Nat):Prop:=yD1 l d=false∧yD3 l=false∧yET l=false∧yEV l=false
def GP (x:Pt) (d:Nat):Prop:=tmP x d=false∧bkP x=false∧bfP x=false∧bnP x=false
def GPs (l:List Pt) (d:Nat):Prop:=yD0 l d=false∧yCM l=false∧yCN l=false∧yBu l=false
def GL (l:List Pt) (d:Nat):Prop:=d≤3∧1≤l.length∧l.length≤5∧GPs l d
theorem GTs.cons {t:Ts} {l:List Ts} {d:Nat} (h:GTs (t :: l) d):GT t d∧GTs l d:=by
 simp only [GTs,yD2,yER,yEU,yEW,Bool.or_eq_false_iff] at h
 exact ⟨⟨h.1.1,h.2.1.1,h.2.2.1.1,h.2.2.2.1⟩,⟨h.1.2,h.2.1.2,h.2.2.1.2,h.2.2.2.2⟩⟩
theorem GSs.cons {t:St} {l:List St} {d:Nat} (h:GSs (t :: l) d):GS t d∧GSs l d:=by
 simp only [GSs,yD1,yD3,yET,yEV,Bool.or_eq_false_iff] at h
 exact ⟨⟨h.1.1,h.2.1.1,h.2.2.1.1,h.2.2.2.1⟩,⟨h.1.2,h.2.1.2,h.2.2.1.2,h.2.2.2.2⟩⟩
theorem GPs.cons {t:Pt} {l:List Pt} {d:Nat} (h:GPs (t :: l) d):GP t d∧GPs l d:=by
 simp only [GPs,yD0,yCM,yCN,yBu,Bool.or_eq_false_iff] at h
 exact ⟨⟨h.1.1,h.2.1.1,h.2.2.1.1,h.2.2.2.1⟩,⟨h.1.2,h.2.1.2,h.2.2.1.2,h.2.2.2.2⟩⟩
theorem GS.parts {tag:Bys} {l:List Ts} {d:Nat} (h:GS (.mk tag l) d):l.length≤6∧(tag=[]∨zB3 tag=true)∧GTs l d:=by
 simp only [GS,tmS,bkS,bfS,bnS,Bool.or_eq_false_iff,decide_eq_false_iff_not] at h
 refine ⟨by omega,?_,h.1.2,h.2.1,h.2.2.1.2,h.2.2.2⟩
 have:=h.2.2.1.1
 cases ht:tag with
 |nil=>exact .inl rfl
 |cons c tag=>
  right
  rw [ht] at this
  simpa using this
theorem GP.parts {st:List St} {lk:List Int} {d:Nat} (h:GP (.mk st lk) d):1≤st.length∧st.length≤5∧lk.length+1=st.length∧(∀ n ∈ lk,1≤n∧n≤4)∧GSs st d:=by
 simp only [GP,tmP,bkP,bfP,bnP,Bool.or_eq_false_iff,Bool.not_eq_false',decide_eq_true_eq,decide_eq_false_iff_not,List.any_eq_false,zN2,Bool.not_eq_true'] at h
 obtain ⟨⟨⟨h1,h2⟩,h3⟩,⟨h4,h5⟩,h6,h7⟩:=h
 refine ⟨h1.1,h1.2,by omega,fun n hn=>?_,h3,h5,h6,h7⟩
 have:=h4 n hn
 simp only [decide_eq_false_iff_not,Classical.not_not] at this
 exact this
theorem GT.parts {k:Int} {n v:Bys} {a b:Int} {l:List Pt} {d:Nat} (h:GT (.mk k n v a b l) d) :
  (1≤k∧k≤15)∧(if k≤8 then zB3 n=true else n=[])∧(if 4≤k∧k≤8 then zCR v=true else v=[])∧(if k=9∨k=10 then True else a=0∧b=0)∧zIG a b=0∧(if 13≤k then GL l (d+1) else l=[]):=by
 simp only [GT,tmT,bkT,bfT,bnT,Bool.or_eq_false_iff,Bool.and_eq_false_iff,Bool.not_eq_false',decide_eq_true_eq,decide_eq_false_iff_not,yFH,yFI,yES,Ts.kind,Ts.name,Ts.value,Ts.na,Ts.nb,Ts.list,zYO,zMo,yGC,zEc,Bool.and_eq_true,beq_iff_eq,Bool.not_eq_true'] at h
 obtain ⟨h1,⟨h2,h3⟩,⟨⟨⟨⟨h4,h5⟩,h6,h7⟩,h8,h9⟩,h10⟩,h11,h12⟩:=h
 simp only [Bool.or_eq_true] at h8
 refine ⟨h2,?_,?_,?_,h11,?_⟩
 ·split
  ·rcases h4 with h | h
   ·exfalso; (first | omega | (have:=of_decide_eq_false h; omega) | (have:=of_decide_eq_true h; omega) | (rcases h with h | h <;> have:=of_decide_eq_true h <;> omega))
   ·exact h
  ·rcases h5 with h | h
   ·exfalso; (first | omega | (have:=of_decide_eq_false h; omega) | (have:=of_decide_eq_true h; omega) | (rcases h with h | h <;> have:=of_decide_eq_true h <;> omega))
   ·exact h
 ·split
  ·rcases h6 with h | h
   ·exfalso; (first | omega | (have:=of_decide_eq_false h; omega) | (have:=of_decide_eq_true h; omega) | (rcases h with h | h <;> have:=of_decide_eq_true h <;> omega))
   ·exact h
  ·rcases h7 with h | h
   ·exfalso; (first | omega | (have:=of_decide_eq_false h; omega) | (have:=of_decide_eq_true h; omega) | (rcases h with h | h <;> have:=of_decide_eq_true h <;> omega))
   ·exact h
 ·split
  ·trivial
  ·rcases h8 with h | h
   ·exfalso; (first | omega | (have:=of_decide_eq_false h; omega) | (have:=of_decide_eq_true h; omega) | (rcases h with h | h <;> have:=of_decide_eq_true h <;> omega))
   ·exact h
 ·split
  ·rename_i hk
   rcases h1 with h | h
   ·exfalso; (first | omega | (have:=of_decide_eq_false h; omega) | (have:=of_decide_eq_true h; omega) | (rcases h with h | h <;> have:=of_decide_eq_true h <;> omega))
   rcases h3 with h' | h'
   ·exfalso; (first | omega | (have:=of_decide_eq_false h; omega) | (have:=of_decide_eq_true h; omega) | (rcases h with h | h <;> have:=of_decide_eq_true h <;> omega))
   rcases h10 with h'' | h''
   ·exfalso; (first | omega | (have:=of_decide_eq_false h; omega) | (have:=of_decide_eq_true h; omega) | (rcases h with h | h <;> have:=of_decide_eq_true h <;> omega))
   exact ⟨by omega,h.1.2.1,h.1.2.2,h.2,h',h'',h12⟩
  ·rcases h9 with h | h
   ·exfalso; (first | omega | (have:=of_decide_eq_false h; omega) | (have:=of_decide_eq_true h; omega) | (rcases h with h | h <;> have:=of_decide_eq_true h <;> omega))
   ·exact List.eq_nil_of_length_eq_zero (by have:=of_decide_eq_false h; omega)
theorem yEc {l:List Pt} (h:zA0 l=0):GL l 1:=by
 unfold zA0 at h
 split at h
 ·omega
 ·rename_i h1
  split at h
  ·omega
  ·rename_i h2
   split at h
   ·omega
   ·rename_i h3
    split at h
    ·omega
    ·rename_i h4
     simp only [tmL,Bool.not_eq_true,Bool.or_eq_false_iff,Bool.not_eq_false',decide_eq_true_eq,decide_eq_false_iff_not] at h1 h2 h3 h4
     exact ⟨by omega,h1.1.2.1,h1.1.2.2,h1.2,h2,h3,h4⟩
theorem GPs.get:∀ {l:List Pt} {d:Nat},GPs l d→∀ i,i<l.length→GP (l.getD i default) d
 |_ :: _,_,h,0,_=>h.cons.1
 |_ :: _,_,h,i+1,hi=>by
  have:=GPs.get h.cons.2 i (by simpa using hi)
  simpa using this
theorem GSs.get:∀ {l:List St} {d:Nat},GSs l d→∀ i,i<l.length→GS (l.getD i default) d
 |_ :: _,_,h,0,_=>h.cons.1
 |_ :: _,_,h,i+1,hi=>by
  have:=GSs.get h.cons.2 i (by simpa using hi)
  simpa using this
theorem GTs.get:∀ {l:List Ts} {d:Nat},GTs l d→∀ i,i<l.length→GT (l.getD i default) d
 |_ :: _,_,h,0,_=>h.cons.1
 |_ :: _,_,h,i+1,hi=>by
  have:=GTs.get h.cons.2 i (by simpa using hi)
  simpa using this
theorem GP.parts' {p:Pt} {d:Nat} (h:GP p d):1≤p.steps.length∧p.steps.length≤5∧p.links.length+1=p.steps.length∧(∀ n ∈ p.links,1≤n∧n≤4)∧GSs p.steps d:=by
 obtain ⟨st,lk⟩:=p
 exact h.parts
theorem GS.parts' {x:St} {d:Nat} (h:GS x d):x.tests.length≤6∧GTs x.tests d:=by
 obtain ⟨tag,l⟩:=x
 exact ⟨h.parts.1,h.parts.2.2⟩
theorem GT.parts' {t:Ts} {d:Nat} (h:GT t d):(1≤t.kind∧t.kind≤15)∧(13≤t.kind→GL t.list (d+1)):=by
 obtain ⟨k,n,v,a,b,l⟩:=t
 obtain ⟨h1,_,_,_,_,h6⟩:=h.parts
 exact ⟨h1,fun hk=>by change 13≤k at hk; rw [if_pos hk] at h6; exact h6⟩
theorem yLa {p:Pt} (h:zA0 [p]=0):GP p 1:=(yEc h).2.2.2.cons.1
end Go.Hx
end

section
/-
 Plainer lists of paths, as plain Lean data: the same lists, the first ones of equals, a list made plainer, how much it weighs. No condition.
-/
namespace Go.Hx
mutual
def zY6:Ts→Ts→Bool
 |.mk k n v a b l,t=>k == t.kind && (n == t.name) && (v == t.value) && (a == t.na && b == t.nb) && zDR l t.list
def zED:List Ts→List Ts→Bool
 |[],[]=>true
 |t :: r,t' :: r'=>zY6 t t' && zED r r'
 |_,_=>false
def zWV:St→St→Bool
 |.mk t l,s=>(t == s.tag) && zED l s.tests
def zEE:List St→List St→Bool
 |[],[]=>true
 |t :: r,t' :: r'=>zWV t t' && zEE r r'
 |_,_=>false
def zWW:Pt→Pt→Bool
 |.mk s l,p=>(l == p.links) && zEE s p.steps
def zDR:List Pt→List Pt→Bool
 |[],[]=>true
 |t :: r,t' :: r'=>zWW t t' && zDR r r'
 |_,_=>false
end
mutual
theorem yEw:∀ (t u:Ts),zY6 t u=true↔t=u
 |.mk k n v a b l,.mk k' n' v' a' b' l'=>by
  have h:=zG8 l l'
  simp only [zY6,Ts.kind,Ts.name,Ts.value,Ts.na,Ts.nb,Ts.list,Bool.and_eq_true,beq_iff_eq,h,Ts.mk.injEq]
  grind
theorem zLU:∀ (t u:List Ts),zED t u=true↔t=u
 |[],[]=>by simp [zED]
 |t :: r,t' :: r'=>by
  have h:=yEw t t'
  have h2:=zLU r r'
  simp only [zED,Bool.and_eq_true,h,h2,List.cons.injEq]
 |[],t :: r=>by simp [zED]
 |t :: r,[]=>by simp [zED]
theorem yEx:∀ (t u:St),zWV t u=true↔t=u
 |.mk t l,.mk t' l'=>by
  have h:=zLU l l'
  simp only [zWV,St.tag,St.tests,Bool.and_eq_true,beq_iff_eq,h,St.mk.injEq]
theorem zLV:∀ (t u:List St),zEE t u=true↔t=u
 |[],[]=>by simp [zEE]
 |t :: r,t' :: r'=>by
  have h:=yEx t t'
  have h2:=zLV r r'
  simp only [zEE,Bool.and_eq_true,h,h2,List.cons.injEq]
 |[],t :: r=>by simp [zEE]
 |t :: r,[]=>by simp [zEE]
theorem yEy:∀ (t u:Pt),zWW t u=true↔t=u
 |.mk s l,.mk s' l'=>by
  have h:=zLV s s'
  simp only [zWW,Pt.steps,Pt.links,Bool.and_eq_true,beq_iff_eq,h,Pt.mk.injEq]
  grind
theorem zG8:∀ (t u:List Pt),zDR t u=true↔t=u
 |[],[]=>by simp [zDR]
 |t :: r,t' :: r'=>by
  have h:=yEy t t'
  have h2:=zG8 r r'
  simp only [zDR,Bool.and_eq_true,h,h2,List.cons.injEq]
 |[],t :: r=>by simp [zDR]
 |t :: r,[]=>by simp [zDR]
end
theorem yFZ (t u:Ts):zY6 t u=(t.kind == u.kind && (t.name == u.name) && (t.value == u.value) && (t.na == u.na && t.nb == u.nb) && zDR t.list u.list):=by cases t; simp only [zY6,Ts.kind,Ts.name,Ts.value,Ts.na,Ts.nb,Ts.list]
theorem yBQ (t u:St):zWV t u=((t.tag == u.tag) && zED t.tests u.tests):=by cases t; simp only [zWV,St.tag,St.tests]
theorem yBR (t u:Pt):zWW t u=((t.links == u.links) && zEE t.steps u.steps):=by cases t; simp only [zWW,Pt.steps,Pt.links]
theorem yC0 {t u:List Ts} (h:t.length≠u.length):zED t u=false:=by
 cases hs:zED t u with
 |false=>rfl
 |true=>rw [zLU] at hs; exact (h (by rw [hs])).elim
theorem yC1 {t u:List St} (h:t.length≠u.length):zEE t u=false:=by
 cases hs:zEE t u with
 |false=>rfl
 |true=>rw [zLV] at hs; exact (h (by rw [hs])).elim
theorem yC2 {t u:List Pt} (h:t.length≠u.length):zDR t u=false:=by
 cases hs:zDR t u with
 |false=>rfl
 |true=>rw [zG8] at hs; exact (h (by rw [hs])).elim
section
variable {α:Type} (eq:α→α→Bool)
end
end Go.Hx
end
