/-
  Walks of functions of the program over an abstract layer, and the laws that they use: each contract says what the function computes, for every input that its conditions let by. No other condition.
-/
import Derived.Test.YtjnagiaooecklabGreatDoorG9
import Derived.Scope
set_option linter.all false
section
namespace Go.Hx
open Go.RowKit
variable [Glob]
section
variable {P:Program} {E:Env} {S:Start}
def zQQ (E:Env) (S:Start) (Q:Exit→List Ct→Prop):Exit→Act→World→Prop:=fun e a w=>∃ F,Q e F∧Inv E S F a w
theorem yJm {c:Code} {Q:Exit→Act→World→Prop} (I:Nat→Act→World→Prop)
  (round:∀ n a w,I n a w→c.wp P (Exit.then (fun a' w'=>∃ n',n' < n∧I n' a' w') Q) a w) {n:Nat} {a:Act} {w:World} (h0:I n a w):(Code.loop c).wp P Q a w:=by
 intro b k cs
 have key:∀ n a w,I n a w→∃ e a' w',Q e a' w'∧Arrives P (lone (b.at a (.code c::.inLoop c::k)) cs w) b k cs e a' w':=by
  intro n
  induction n using Nat.strongRecOn with
  |_ n ih=>
   intro a w hI
   obtain ⟨e,a₁,w₁,hq,harr⟩:=round n a w hI b (.inLoop c::k) cs
   cases e with
   |normal=>
    obtain ⟨n',hlt,hI₁⟩:=hq
    obtain ⟨e₂,a₂,w₂,hq₂,harr₂⟩:=ih n' hlt a₁ w₁ hI₁
    exact ⟨e₂,a₂,w₂,hq₂,.of_steps (Steps.trans harr (.one step_inLoop)) harr₂⟩
   |exit id=>exact ⟨_,a₁,w₁,hq,.pass (x:=.inLoop c) rfl (fun _ _=>.inl (by simp)) harr⟩
   |goto l=>exact ⟨_,a₁,w₁,hq,.pass (x:=.inLoop c) rfl (fun _ _=>.inl (by simp)) harr⟩
   |ret=>exact ⟨_,a₁,w₁,hq,.pass (x:=.inLoop c) rfl (fun _ _=>.inl (by simp)) harr⟩
   |panic ch=>exact ⟨_,a₁,w₁,hq,.pass (x:=.inLoop c) rfl (fun _ _=>.inl (by simp)) harr⟩
   |outgrown=>exact ⟨_,a₁,w₁,hq,.pass (x:=.inLoop c) rfl (fun _ _=>.inl (by simp)) harr⟩
 obtain ⟨e,a',w',hq,harr⟩:=key n a w h0
 exact ⟨e,a',w',hq,.of_steps (.one step_loop) harr⟩
def yZB (P:Program) (E:Env) (o:Oper) (x y:Opd) (n:Nat):Bool:=o.guard.isNone&&o.dst.isNone&&decide (0 < n)&&(match o.op with
 |.store t x' y'=>zAk E.N x x'&&zAk E.N y y'&&zEg P t==some n
 |_=>false)
def zBM (jf:Bool) (P:Program) (E:Env):Code→HCode→Bool
 |.skip,.skip=>true
 |.region _ ops draw,.reg hs dr post=>draw==dr&&zEK P E ops hs ops.toList&&zE4 E post&&(!draw||dkQ P ops hs)
 |.region _ ops draw,.drg ds post=>draw&&yL5 P E ops ds&&zE4 E post
 |.region _ ops draw,.regG pre hs post=>!draw&&zEK P E ops hs ops.toList&&zE4 E pre&&zE4 E post
 |.region _ ops draw,.drgG pre ds post=>draw&&yL5 P E ops ds&&zE4 E pre&&zE4 E post
 |.region _ ops draw,.rdr i hs dr post=>draw==dr&&zEK P E ops hs ops.toList&&zE4 E post&&(!draw||dkQ P ops hs)&&hs.all HO.quiet&&decide (i < E.N)&&(yQK hs).all (fun d=>decide (d < E.N))
 |.seq x y,.seq a b=>zBM jf P E x a&&zBM jf P E y b
 |.cond c x y,.cond d a b=>zAk E.N d c&&zBM jf P E x a&&zBM jf P E y b
 |.block i x,.block j a=>i==j&&zBM jf P E x a
 |.loop x,.loop a=>zBM jf P E x a
 |.exit i,.exit j=>i==j
 |.ret,.ret=>true
 |.scope x,.scope a=>zBM jf P E x a
 |.label _,.label=>true
 |.region _ ops draw,.jreg hs x n y js post=>jf&&!draw&&zEK P E ops hs ops.toList.dropLast&&(match ops.toList.getLast? with|some o=>yZB P E o x y n|none=>false)&&js.all (fun q=>zB5 E q.1 q.2.1 q.2.2)&&zE4 E post
 |_,_=>false
abbrev zMR (P:Program) (E:Env) (c:Code) (h:HCode):Bool:=zBM false P E c h
theorem yL7 {F:List Ct} {a:Act} {w:World} (h:Inv E S F a w):Inv E S F a {w with drawn:=w.drawn+1}:=by
 obtain ⟨m,β,ow,h⟩:=h
 exact ⟨m,β,ow,h.quiet ⟨m.le_refl,h.mem,fun _ _ _=>rfl,fun _ _ _ _=>rfl,fun _ _ _ h=>.inl h,Pres.drew _ w⟩⟩
theorem yNm {K:List Ct→Prop} {Q:Exit→List Ct→Prop} {e:Exit} {a:Act} {w:World} (h:zQQ E S (zYq K Q) e a w):Exit.then (fun a w=>zFb E S K a w) (zQQ E S Q) e a w:=by
 obtain ⟨F,h1,h2⟩:=h
 cases e<;>exact ⟨F,h1,h2⟩
theorem yBr (wf:E.Wf) {ops:Array Oper} {K:List Ct→Prop} {X:Value→List Ct→Prop} {Q:Exit→Act→World→Prop} {kl:Nat}
  (hQ:∀ v F' a' w',X v F'→Inv E S F' a' w'→Q (.panic [{v,recovered:=false}]) a' w') (hN:∀ F' a' w',K F'→Inv E S F' a' w'→wpOps P ops Q [kl] a' w'):
  ∀ (hs:List HO) (os:List Oper) (k:Nat),k+os.length=kl→(∀ i o,os[i]?=some o→ops[k+i]?=some o)→zEK P E ops hs os=true→∀ (F:List Ct) (a:Act) (w:World),Inv E S F a w→yTy P hs F K X→wpOps P ops Q (List.range' k os.length++[kl]) a w
 |[],[],k,_,_,_,F,a,w,hI,hW=>hN F a w hW hI
 |[],_::_,_,_,_,hk,_,_,_,_,_=>by simp [zEK] at hk
 |_::_,[],_,_,_,hk,_,_,_,_,_=>by simp [zEK] at hk
 |h::hs,o::os,k,hl,hi,hk,F,a,w,hI,hW=>by
  simp only [zEK,Bool.and_eq_true] at hk
  obtain ⟨m,β,ow,hG⟩:=hI
  have h0:ops[k]?=some o:=by simpa using hi 0 o rfl
  simp only [List.length_cons,List.range'_succ,List.cons_append]
  rw [wpOps_cons]
  refine wpOp_mono ?_ (yCy wf hG h0 hk.1 hQ hW)
  rintro a' w' ⟨F',hK',hI'⟩
  exact yBr wf hQ hN hs os (k+1) (by simp at hl;omega) (fun i o' ho'=>by
   have:=hi (i+1) o' (by simpa using ho')
   rw [show k+1+i=k+(i+1) by omega];exact this) hk.2 F' a' w' hI' hK'
theorem zUi (jf:Bool) (wf:E.Wf) (hS:jf=true→∀ b o,S.m0 b o=none):
  ∀ (c:Code) (h:HCode) (Q:Exit→List Ct→Prop) (F:List Ct) (a:Act) (w:World),zBM jf P E c h=true→hwp P h Q F→Inv E S F a w→c.wp P (zQQ E S Q) a w:=by
 intro c
 induction c with
 |skip=>
  intro h Q F a w hk hW hI
  cases h<;>simp [zBM] at hk
  exact wp_skip ⟨F,hW,hI⟩
 |region id ops draw=>
  intro h Q F a w hk hW hI
  cases h with
  |reg hs dr post=>
   simp only [zBM,Bool.and_eq_true,beq_iff_eq,Bool.or_eq_true,Bool.not_eq_true'] at hk
   obtain ⟨⟨⟨rfl,h2⟩,h3⟩,h4⟩:=hk
   simp only [hwp] at hW
   have hN:∀ F' a' w',ghW F' (fun F''=>Q .normal F'') post→Inv E S F' a' w'→zQQ E S Q .normal a' w':=fun F' a' w' hg hI'=>zBP wf h3 hI' hg
   cases draw with
   |false=>
    refine wp_region ?_
    have:=zT7 (P:=P) wf (ops:=ops) (X:=fun v F'=>Q (.panic [{v,recovered:=false}]) F') (Q:=zQQ E S Q) (fun v F' a' w' hx hI'=>⟨F',hx,hI'⟩) hN hs ops.toList 0 (fun i o ho=>by simpa using ho) h2 F a w hI hW
    rw [Array.length_toList] at this
    rwa [List.range_eq_range']
   |true=>
    have hd:dkQ P ops hs=true:=by simpa using h4
    have hq:∀ o∈hs,o.quiet=true:=by
     simp only [dkQ,Bool.and_eq_true,List.all_eq_true] at hd
     exact hd.2
    obtain ⟨m,β,ow,hG⟩:=hI
    refine zQe wf (fun _=>hd) hq h2 hG hW ?_
    rintro a' w' hg ⟨F1,h5,h6,_⟩
    exact hN F1 a' w' h5 ⟨m,β,ow,h6.gr hg⟩
  |drg ds post=>
   simp only [zBM,Bool.and_eq_true] at hk
   obtain ⟨⟨rfl,h2⟩,h3⟩:=hk
   simp only [hwp] at hW
   exact zUh wf h2 (fun F' a' w' hg hI'=>zBP wf h3 hI' hg) (fun v F' a' w' hx hag hI'=>⟨F',hx F' hag,hI'⟩) (yL7 hI) hW
  |regG pre hs post=>
   simp only [zBM,Bool.and_eq_true,Bool.not_eq_true'] at hk
   obtain ⟨⟨⟨rfl,h2⟩,h5⟩,h3⟩:=hk
   simp only [hwp] at hW
   have hN:∀ F' a' w',ghW F' (fun F''=>Q .normal F'') post→Inv E S F' a' w'→zQQ E S Q .normal a' w':=fun F' a' w' hg hI'=>zBP wf h3 hI' hg
   obtain ⟨F0,hW0,hI0⟩:=zBP wf h5 hI hW
   refine wp_region ?_
   have:=zT7 (P:=P) wf (ops:=ops) (X:=fun v F'=>Q (.panic [{v,recovered:=false}]) F') (Q:=zQQ E S Q) (fun v F' a' w' hx hI'=>⟨F',hx,hI'⟩) hN hs ops.toList 0 (fun i o ho=>by simpa using ho) h2 F0 a w hI0 hW0
   rw [Array.length_toList] at this
   rwa [List.range_eq_range']
  |drgG pre ds post=>
   simp only [zBM,Bool.and_eq_true] at hk
   obtain ⟨⟨⟨rfl,h2⟩,h5⟩,h3⟩:=hk
   simp only [hwp] at hW
   obtain ⟨F0,hW0,hI0⟩:=zBP wf h5 hI hW
   exact zUh wf h2 (fun F' a' w' hg hI'=>zBP wf h3 hI' hg) (fun v F' a' w' hx hag hI'=>⟨F',hx F' hag,hI'⟩) (yL7 hI0) hW0
  |rdr i hs dr post=>
   simp only [zBM,Bool.and_eq_true,beq_iff_eq,Bool.or_eq_true,Bool.not_eq_true',List.all_eq_true,decide_eq_true_eq] at hk
   obtain ⟨⟨⟨⟨⟨⟨rfl,h2⟩,h3⟩,h4⟩,hq⟩,hi⟩,hds⟩:=hk
   simp only [hwp] at hW
   split at hW
   ·rename_i e k rows e1
    obtain ⟨m,β,ow,hG⟩:=hI
    obtain ⟨m',hG'⟩:=yNh wf hG hi e1
    refine zQe wf (fun hd=>by rcases h4 with h4|h4<;>simp_all) hq h2 hG' hW ?_
    rintro a' w' hg ⟨F1,h5,h6,h7⟩
    exact zBP wf h3 ⟨m,β,ow,(yQ6 wf hG h6 hds h7).gr hg⟩ h5
   ·exact hW.elim
  |jreg hs x n y js post=>
   simp only [zBM,Bool.and_eq_true,Bool.not_eq_true'] at hk
   obtain ⟨⟨⟨⟨⟨hj,rfl⟩,h2⟩,h4⟩,h5⟩,h3⟩:=hk
   simp only [hwp] at hW
   have hN:∀ F' a' w',ghW F' (fun F''=>Q .normal F'') post→Inv E S F' a' w'→zQQ E S Q .normal a' w':=fun F' a' w' hg hI'=>zBP wf h3 hI' hg
   split at h4
   rotate_left
   ·cases h4
   rename_i o ho
   have hne:ops.toList≠[]:=fun e=>by rw [e] at ho;cases ho
   have hcat:ops.toList=ops.toList.dropLast++[o]:=by
    rw [List.getLast?_eq_some_getLast hne] at ho
    injection ho with ho
    rw [←ho]
    exact (List.dropLast_concat_getLast hne).symm
   have hlen:ops.size=ops.toList.dropLast.length+1:=by
    rw [←Array.length_toList]
    conv=>lhs;rw [hcat]
    simp
   have hlast:ops[ops.toList.dropLast.length]?=some o:=by
    rw [←Array.getElem?_toList,hcat]
    simp
   simp only [yZB,Bool.and_eq_true,decide_eq_true_eq,Option.isNone_iff_eq_none] at h4
   obtain ⟨⟨⟨hgn,hdn⟩,h0⟩,h6⟩:=h4
   split at h6
   rotate_left
   ·cases h6
   rename_i t x' y' hop
   simp only [Bool.and_eq_true,beq_iff_eq] at h6
   obtain ⟨⟨k1,k2⟩,k3⟩:=h6
   refine wp_region ?_
   rw [hlen,List.range_eq_range',List.range'_1_concat]
   refine yBr (P:=P) wf (ops:=ops) (K:=fun F1=>jst F1 x n y js (fun F2=>ghW F2 (fun F3=>Q .normal F3) post)) (X:=fun v F'=>Q (.panic [{v,recovered:=false}]) F') (Q:=zQQ E S Q) (fun v F' a' w' hx hI'=>⟨F',hx,hI'⟩) (kl:=0+ops.toList.dropLast.length) (fun F1 a1 w1 hK1 hI1=>?_) hs ops.toList.dropLast 0 rfl (fun i o1 ho1=>?_) h2 F a w hI hW
   ·rw [Nat.zero_add]
    rw [wpOps_cons]
    obtain ⟨m1,β1,ow1,hG1⟩:=hI1
    refine wpOp_mono (K:=zFb E S (fun F2=>ghW F2 (fun F3=>Q .normal F3) post)) (fun a2 w2 hq=>?_) ?_
    ·obtain ⟨F2,q1,q2⟩:=hq
     exact hN F2 a2 w2 q1 q2
    ·have hw:Region.wanted o (yielded ops a1.tmps)=true:=by simp [Region.wanted,hgn]
     unfold wpOp
     rw [hlast]
     simp only
     rw [if_pos hw]
     exact .inl (yWa wf (hS hj) hG1 hdn hop k1 k2 k3 h0 h5 hK1)
   ·have h7:ops.toList[i]?=some o1:=by
     rw [hcat,List.getElem?_append_left (List.getElem?_eq_some_iff.1 ho1).1];exact ho1
    simpa using h7
  |_=>simp [zBM] at hk
 |seq x y ihx ihy=>
  intro h Q F a w hk hW hI
  cases h<;>simp only [zBM] at hk<;>try cases hk
  rename_i ha hb
  simp only [Bool.and_eq_true] at hk
  refine wp_seq (wp_mono (ihx ha _ F a w hk.1 hW hI) ?_)
  intro e a' w' h'
  have:=yNm h'
  cases e with
  |normal=>obtain ⟨F',h1,h2⟩:=this;exact ihy hb Q F' a' w' hk.2 h1 h2
  |_=>exact this
 |cond c x y ihx ihy=>
  intro h Q F a w hk hW hI
  cases h<;>simp only [zBM] at hk<;>try cases hk
  rename_i d ha hb
  simp only [Bool.and_eq_true] at hk
  obtain ⟨⟨h1,h2⟩,h3⟩:=hk
  simp only [hwp] at hW
  split at hW
  ·rename_i t e1
   obtain ⟨n1,ht,hf⟩:=hW
   obtain ⟨m,β,ow,hG⟩:=hI
   have hv:=zTS hG h1 n1 e1
   refine wp_cond_split hv (fun e=>ihx ha Q F a w h2 (ht e) ⟨m,β,ow,hG⟩) (fun e=>ihy hb Q F a w h3 (hf e) ⟨m,β,ow,hG⟩)
  ·exact hW.elim
 |block id x ih=>
  intro h Q F a w hk hW hI
  cases h<;>simp only [zBM] at hk<;>try cases hk
  rename_i j ha
  simp only [Bool.and_eq_true,beq_iff_eq] at hk
  obtain ⟨rfl,hk⟩:=hk
  refine wp_block (wp_mono (ih ha _ F a w hk hW hI) ?_)
  rintro e a' w' ⟨F',h1,h2⟩
  cases e with
  |exit id'=>
   simp only [zIR] at h1
   simp only [Exit.inBlock]
   split at h1
   ·rename_i e';rw [if_pos e'];exact ⟨F',h1,h2⟩
   ·rename_i e';rw [if_neg e'];exact ⟨F',h1,h2⟩
  |_=>exact ⟨F',h1,h2⟩
 |loop x ih=>
  intro h Q F a w hk hW hI
  cases h<;>simp only [zBM] at hk<;>try cases hk
  rename_i ha
  simp only [hwp] at hW
  obtain ⟨I,⟨n,F0,hle,hI0⟩,hround⟩:=hW
  obtain ⟨m,β,ow,hG⟩:=hI
  refine yJm (fun n a w=>∃ F,I n F∧Inv E S F a w) ?_ (n:=n) ⟨F0,hI0,m,β,ow,hG.le hle⟩
  rintro n a w ⟨F1,h1,h2⟩
  refine wp_mono (ih ha _ F1 a w hk (hround n F1 h1) h2) ?_
  rintro e a' w' ⟨F2,h3,h4⟩
  cases e with
  |normal=>
   obtain ⟨n',F',hlt,hle',hI'⟩:=h3
   obtain ⟨m,β,ow,hG⟩:=h4
   exact ⟨n',hlt,F',hI',m,β,ow,hG.le hle'⟩
  |_=>exact ⟨F2,h3,h4⟩
 |exit id=>
  intro h Q F a w hk hW hI
  cases h<;>simp only [zBM] at hk<;>try cases hk
  simp only [beq_iff_eq] at hk
  subst hk
  exact wp_exit ⟨F,hW,hI⟩
 |ret=>
  intro h Q F a w hk hW hI
  cases h<;>simp [zBM] at hk
  exact wp_ret ⟨F,hW,hI⟩
 |scope x ih=>
  intro h Q F a w hk hW hI
  cases h<;>simp only [zBM] at hk<;>try cases hk
  rename_i ha
  refine wp_scope_straight (wp_mono (ih ha _ F a w hk hW hI) ?_)
  rintro e a' w' ⟨F',h1,h2⟩
  cases e with
  |goto l=>exact h1.elim
  |_=>exact ⟨F',h1,h2⟩
 |label l=>
  intro h Q F a w hk hW hI
  cases h<;>simp [zBM] at hk
  exact wp_label ⟨F,hW,hI⟩
 |_=>
  intro h Q F a w hk hW hI
  cases h<;>simp [zBM] at hk
theorem zHc (wf:E.Wf) (c:Code) (h:HCode) (Q:Exit→List Ct→Prop) (F:List Ct) (a:Act) (w:World) (hk:zMR P E c h=true) (hW:hwp P h Q F) (hI:Inv E S F a w):c.wp P (zQQ E S Q) a w:=
 zUi false wf (fun h=>by cases h) c h Q F a w hk hW hI
end
end Go.Hx
end

section
namespace Go.Hx
open Go.RowKit
variable [Glob]
def yCC:AV→Ct
 |.val x=>.pv x
 |.own e k rows=>.own e k rows
 |.io _=>.ptr 0 0
def ioOf:List AV→Option (List PV)
 |x::as=>match x with|.io cells=>some cells|_=>ioOf as
 |[]=>none
def zUj:List AV→Nat
 |x::as=>match x with|.own _ _ _=>zUj as+1|_=>zUj as
 |[]=>0
def nIo:List AV→Nat
 |x::as=>match x with|.io _=>nIo as+1|_=>nIo as
 |[]=>0
def yPq:List AV→Nat
 |x::as=>match x with|.own _ _ _=>0|_=>yPq as+1
 |[]=>0
def yGN:List Nat→List Ct→List Ct
 |[],F=>F
 |i::r,F=>yGN r (F.set i .una)
def F0 (E:Env) (base:Nat) (as:List AV):List Ct:=yGN E.una (
 zAi (as.map yCC++List.replicate (E.L-as.length) .un) base (match ioOf as with|some cs=>cs.map fun x=>.pv (.one x)|none=>[]))
def yGO (E:Env) (base:Nat) (as:List AV):Prop:=
 as.length≤E.N∧zUj as≤1∧nIo as≤1∧match ioOf as with|some cs=>E.nfix=1∧E.Γ[0]?=some (base,cs.length)|none=>E.nfix=0
inductive RSrc where
 |tmp (t:Nat)
 |cellB (t j base off n:Nat) (agg:Bool)
 |cellF (t n:Nat) (agg:Bool)
 deriving Inhabited
def zMS (P:Program) (E:Env):RSrc→ResultVar→Bool
 |.tmp t,.tmp t'=>t==t'&&decide (t < E.N)
 |.cellB t j base off n agg,.cell a ty=>t==a&&decide (t < E.N)&&zEJ E j base (off+n)&&zBV P ty==some agg&&zEg P ty==some n&&(agg||n==1)
 |.cellF t n agg,.cell a ty=>t==a&&decide (t < E.N)&&zBV P ty==some agg&&zEg P ty==some n&&(agg||n==1)
 |_,_=>false
def zDp (P:Program) (E:Env):List RSrc→List ResultVar→Bool
 |[],[]=>true
 |x::xs,y::ys=>zMS P E x y&&zDp P E xs ys
 |_,_=>false
def rsV (F:List Ct):RSrc→PVal→Prop
 |.tmp t,x=>match (zAn F (.t t)).pv? with
  |some p=>(zAn F (.t t)).need∧(x=p∨x=p.norm)
  |none=>False
 |.cellB t j base off n agg,x=>match F.getD t .un,zBq F (base+off) n with
  |.ptr j' off',some cs=>j'=j∧off'=off∧(x=(if agg then .agg cs else .one (cs.headD (.nl 0)))∨x=(if agg then PVal.agg cs else .one (cs.headD (.nl 0))).norm)
  |_,_=>False
 |.cellF t n agg,x=>match (zAn F (.t t)).pv? with
  |some (.one (.fp cs))=>(zAn F (.t t)).need∧cs.length=n∧x=if agg then .agg (cs.map PV.norm) else .one (cs.headD (.nl 0)).norm
  |_=>False
def yL8 (F:List Ct):List RSrc→List PVal→Prop
 |[],xs=>xs=[]
 |r::rs,l=>match l with|x::xs=>rsV F r x∧yL8 F rs xs|[]=>False
def zJQ (F:List Ct) (rs:List RSrc):Res→Prop
 |.val x=>match rs with|[r]=>rsV F r x|_=>False
 |.own e k rows=>match rs with|[.tmp t]=>F.getD t .un=.own e k rows|_=>False
 |.tup xs=>match rs with|[_]=>False|_=>yL8 F rs xs
 |.pan _=>False
 |.ov x=>match rs with
  |[.tmp t]=>F.getD t .un=.ov x
  |[.cellB t j base off n agg]=>F.getD t .un=.ptr j off∧∃ cs,zC1 F (base+off) n=some cs∧x=yM8 agg cs
  |_=>False
def yGw (E:Env) (base:Nat) (as:List AV) (rs:List RSrc) (r:RV):Exit→List Ct→Prop
 |.normal,F|.ret,F=>zJQ F rs r.res∧∀ cs,ioOf as=some cs→zBq F base cs.length=some r.io
 |.panic ch,_=>∃ v,r.res=.pan v∧ch=[{v,recovered:=false}]
 |_,_=>False
section
variable {P:Program} {E:Env} {S:Start} {m:Mem} {β:Bx} {ow:Ow} {F:List Ct} {a:Act} {w:World}
def rdR (tmps:Array Value):ResultVar→Sem Value
 |.tmp t=>pure (tmps.getD t undef)
 |.cell a t=>do loadVar t (←asAddr (tmps.getD a undef))
theorem yRe (h:InvG E S m β ow F a w) {r:RSrc} {s:ResultVar} (hk:zMS P E r s=true) {x:PVal} (hx:rsV F r x):
  ∃ u,(rdR a.tmps s).run P w=.ok u w∧RpV m x u:=by
 cases r with
 |tmp t=>
  cases s<;>simp only [zMS] at hk<;>try cases hk
  rename_i t'
  simp only [Bool.and_eq_true,beq_iff_eq,decide_eq_true_eq] at hk
  obtain ⟨rfl,ht⟩:=hk
  simp only [rsV] at hx
  split at hx
  ·rename_i p e1
   have hv:=zBd h (x:=.t t) (y:=.tmp t) (by simp [zAk,ht]) hx.1 e1
   rcases hx.2 with rfl|rfl
   ·exact ⟨_,rfl,hv⟩
   ·exact ⟨_,rfl,hv.norm⟩
  ·exact hx.elim
 |cellB t j base off n agg=>
  cases s<;>simp only [zMS] at hk<;>try cases hk
  rename_i b ty
  simp only [Bool.and_eq_true,beq_iff_eq,decide_eq_true_eq,Bool.or_eq_true] at hk
  obtain ⟨⟨⟨⟨⟨rfl,ht⟩,hb⟩,ha⟩,hn⟩,h1⟩:=hk
  simp only [rsV] at hx
  split at hx
  ·rename_i j' off' cs e1 e2
   obtain ⟨rfl,rfl,hx⟩:=hx
   suffices hg:∃ u,(rdR a.tmps (.cell t ty)).run P w=.ok u w∧RpV m (if agg then .agg cs else .one (cs.headD (.nl 0))) u by
    obtain ⟨u,h1,h2⟩:=hg
    rcases hx with rfl|rfl
    ·exact ⟨u,h1,h2⟩
    ·exact ⟨u,h1,h2.norm⟩
   clear hx
   obtain ⟨nn,hj,hle⟩:=zDG hb
   obtain ⟨b,hb,hv⟩:=zC5 h (x:=.t t) (y:=.tmp t) (by simp [zAk,ht]) e1
   have hv':a.tmps.getD t undef=_:=hv
   have hB:=h.boxes _ _ hj
   rw [hb] at hB
   obtain ⟨us,hl,hu,hm⟩:=zMK hB n off' hle cs e2
   have hrun:=zBf (P:=P) (w:=w) ha hn h1 (us:=us) (b:=b) (o:=off') hl hm
   refine ⟨if agg=true then .agg us.toArray else us.headD undef,by simp only [rdR,hv',asAddr,Sem.run_bind,Sem.run_pure,Result.andThen_ok,hrun],?_⟩
   cases agg with
   |true=>exact ⟨us,rfl,hu⟩
   |false=>
    rcases h1 with h1|rfl
    ·cases h1
    ·have hcl:cs.length=1:=by rw [←hu.length,hl]
     match cs,hcl with
     |[x],_=>
      simp only [RpL] at hu
      obtain ⟨u,us',rfl,h2,_⟩:=hu
      exact h2
  ·exact hx.elim
 |cellF t n agg=>
  cases s<;>simp only [zMS] at hk<;>try cases hk
  rename_i b ty
  simp only [Bool.and_eq_true,beq_iff_eq,decide_eq_true_eq,Bool.or_eq_true] at hk
  obtain ⟨⟨⟨⟨rfl,ht⟩,ha⟩,hn⟩,h1⟩:=hk
  simp only [rsV] at hx
  split at hx
  ·rename_i cs e1
   obtain ⟨n1,rfl,rfl⟩:=hx
   have hv:=zBd h (x:=.t t) (y:=.tmp t) (by simp [zAk,ht]) n1 e1
   obtain ⟨b,o,hv,hr⟩:=hv
   have hv':a.tmps.getD t undef=_:=hv
   obtain ⟨us,hu,hm⟩:=hr.vals
   have hrun:=zBf (P:=P) (w:=w) ha hn h1 (us:=us) (b:=b) (o:=o) (by rw [hu.length]) (fun i u hi=>h.mem.c _ _ _ (hm i u hi))
   refine ⟨if agg=true then .agg us.toArray else us.headD undef,by simp only [rdR,hv',asAddr,Sem.run_bind,Sem.run_pure,Result.andThen_ok,hrun],?_⟩
   cases agg with
   |true=>exact ⟨us,rfl,hu.norm⟩
   |false=>
    rcases h1 with h1|h1
    ·cases h1
    ·exact yBe hu h1
  ·exact hx.elim
theorem yGP (h:InvG E S m β ow F a w):∀ {rs:List RSrc} {ss:List ResultVar} (_:zDp P E rs ss=true) {xs:List PVal} (_:yL8 F rs xs),
  ∃ us:List Value,(ss.mapM (rdR a.tmps)).run P w=.ok us w∧RpVL m xs us
 |[],[],_,xs,hx=>by
  simp only [yL8] at hx
  subst hx
  exact ⟨[],by simp,rfl⟩
 |[],s::ss,hk,xs,hx=>by simp [zDp] at hk
 |r::rs,[],hk,xs,hx=>by simp [zDp] at hk
 |r::rs,s::ss,hk,[],hx=>by simp [yL8] at hx
 |r::rs,s::ss,hk,x::xs,hx=>by
  simp only [zDp,Bool.and_eq_true] at hk
  simp only [yL8] at hx
  obtain ⟨u,h1,h2⟩:=yRe h hk.1 hx.1
  obtain ⟨us,h3,h4⟩:=yGP h hk.2 hx.2
  refine ⟨u::us,?_,u,us,rfl,h2,h4⟩
  rw [List.mapM_cons,Sem.run_bind,h1]
  simp only [Result.andThen_ok]
  rw [Sem.run_bind,h3]
  simp
theorem zLW (h:InvG E S m β ow F a w) {fn:Func} {rs:List RSrc} (hk:zDp P E rs fn.results.toList=true) {xs:List PVal} (hx:yL8 F rs xs):
  ∃ us:List Value,(results fn a.tmps).run P w=.ok (match us with|[u]=>u|_=>.tuple us.toArray) w∧RpVL m xs us:=by
 obtain ⟨us,h1,h2⟩:=yGP h hk hx
 refine ⟨us,?_,h2⟩
 have e:results fn a.tmps=(do let vs ←fn.results.mapM (rdR a.tmps);pure (if h:vs.size=1 then vs[0] else .tuple vs)):=by
  unfold results
  congr
 rw [e,Array.mapM_eq_mapM_toList]
 have h3:(Functor.map List.toArray (List.mapM (rdR a.tmps) fn.results.toList):Sem (Array Value)).run P w=.ok us.toArray w:=by
  rw [map_eq_pure_bind,Sem.run_bind,h1]
  rfl
 rw [Sem.run_bind,h3]
 simp only [Result.andThen_ok]
 match us with
 |[]=>rfl
 |[u]=>rfl
 |u::v::us=>rfl
theorem ArgsRep.get:∀ {as:List AV} {us:List Value},ArgsRep m w as us→∀ (i:Nat) (x:AV),as[i]?=some x→∃ u,us[i]?=some u∧ArgRep m w x u
 |[],us,h,i,x,hx=>by simp at hx
 |y::ys,us,h,i,x,hx=>by
  simp only [ArgsRep] at h
  obtain ⟨u,us',rfl,h2,h3⟩:=h
  cases i with
  |zero=>simp at hx;subst hx;exact ⟨u,rfl,h2⟩
  |succ i=>simpa using ArgsRep.get h3 i x (by simpa using hx)
theorem yJn:∀ {as:List AV} {us:List Value},ArgsRep m w as us→zUj as≤1→∀ (i:Nat) (e k:Nat) (rows:List (List PV)),as[i]?=some (.own e k rows)→i=yPq as∧∃ u,us[i]?=some u∧zIJ as us=u.ownBlock
 |[],us,h,_,i,e,k,rows,hx=>by simp at hx
 |y::ys,us,h,hn,i,e,k,rows,hx=>by
  simp only [ArgsRep] at h
  obtain ⟨u,us',rfl,h2,h3⟩:=h
  cases i with
  |zero=>
   simp at hx;subst hx
   exact ⟨rfl,u,rfl,rfl⟩
  |succ i=>
   have hx':ys[i]?=some (.own e k rows):=by simpa using hx
   cases y with
   |own e' k' rows'=>
    exfalso
    have:zUj ys=0:=by simp [zUj] at hn;omega
    exact absurd hx' (no_own this i e k rows)
   |val x=>
    obtain ⟨h4,u',h5,h6⟩:=yJn h3 (by simpa [zUj] using hn) i e k rows hx'
    exact ⟨by simp [yPq,h4],u',by simpa using h5,by simpa [zIJ] using h6⟩
   |io cs=>
    obtain ⟨h4,u',h5,h6⟩:=yJn h3 (by simpa [zUj] using hn) i e k rows hx'
    exact ⟨by simp [yPq,h4],u',by simpa using h5,by simpa [zIJ] using h6⟩
where
 no_own:∀ {as:List AV},zUj as=0→∀ (i:Nat) (e k:Nat) (rows:List (List PV)),as[i]?≠some (.own e k rows)
 |[],_,i,_,_,_=>by simp
 |.own _ _ _::ys,h,_,_,_,_=>by simp [zUj] at h
 |.val _::ys,h,0,_,_,_=>by simp
 |.val _::ys,h,i+1,e,k,rows=>by simpa using no_own (as:=ys) (by simpa [zUj] using h) i e k rows
 |.io _::ys,h,0,_,_,_=>by simp
 |.io _::ys,h,i+1,e,k,rows=>by simpa using no_own (as:=ys) (by simpa [zUj] using h) i e k rows
theorem yPr:∀ {as:List AV} {us:List Value},ArgsRep m w as us→nIo as≤1→∀ (i:Nat) (cs:List PV),as[i]?=some (.io cs)→ioOf as=some cs∧∃ u,us[i]?=some u∧ioB as us=yVC u
 |[],us,h,_,i,cs,hx=>by simp at hx
 |y::ys,us,h,hn,i,cs,hx=>by
  simp only [ArgsRep] at h
  obtain ⟨u,us',rfl,h2,h3⟩:=h
  cases i with
  |zero=>
   simp at hx;subst hx
   exact ⟨rfl,u,rfl,rfl⟩
  |succ i=>
   have hx':ys[i]?=some (.io cs):=by simpa using hx
   cases y with
   |io cs'=>
    exfalso
    have:nIo ys=0:=by simp [nIo] at hn;omega
    exact absurd hx' (no_io this i cs)
   |val x=>
    obtain ⟨h4,u',h5,h6⟩:=yPr h3 (by simpa [nIo] using hn) i cs hx'
    exact ⟨by simp [ioOf,h4],u',by simpa using h5,by simpa [ioB] using h6⟩
   |own e k rows=>
    obtain ⟨h4,u',h5,h6⟩:=yPr h3 (by simpa [nIo] using hn) i cs hx'
    exact ⟨by simp [ioOf,h4],u',by simpa using h5,by simpa [ioB] using h6⟩
where
 no_io:∀ {as:List AV},nIo as=0→∀ (i:Nat) (cs:List PV),as[i]?≠some (.io cs)
 |[],_,i,_=>by simp
 |.io _::ys,h,_,_=>by simp [nIo] at h
 |.val _::ys,h,0,_=>by simp
 |.val _::ys,h,i+1,cs=>by simpa using no_io (as:=ys) (by simpa [nIo] using h) i cs
 |.own _ _ _::ys,h,0,_=>by simp
 |.own _ _ _::ys,h,i+1,cs=>by simpa using no_io (as:=ys) (by simpa [nIo] using h) i cs
theorem yL9:∀ {as:List AV} {us:List Value} {cs:List PV},ArgsRep m w as us→ioOf as=some cs→zTU as=cs.length∧∃ b vs T,ioB as us=some b∧w.heap[b]?=some (.cells vs T (0,0))∧(∀ o,m b o=none)∧RpL m cs vs.toList
 |[],us,cs,h,hx=>by simp [ioOf] at hx
 |y::ys,us,cs,h,hx=>by
  simp only [ArgsRep] at h
  obtain ⟨u,us',rfl,h2,h3⟩:=h
  cases y with
  |io cs'=>
   simp only [ioOf,Option.some.injEq] at hx
   subst hx
   obtain ⟨b,vs,T,rfl,h4,h5,h6⟩:=h2
   exact ⟨rfl,b,vs,T,rfl,h4,h5,h6⟩
  |val x=>exact yL9 (as:=ys) (us:=us') h3 hx
  |own e k rows=>exact yL9 (as:=ys) (us:=us') h3 hx
theorem zOG:∀ {as:List AV} {us:List Value},ioOf as=none→ioB as us=none
 |[],us,h=>by cases us<;>rfl
 |y::ys,[],h=>rfl
 |y::ys,u::us,h=>by
  cases y with
  |io cs=>simp [ioOf] at h
  |val x=>exact zOG (as:=ys) h
  |own e k rows=>exact zOG (as:=ys) h
theorem zUk:∀ {as:List AV} {us:List Value} {b:Nat},ArgsRep m w as us→zIJ as us=some b→∃ (i e k:Nat) (rows:List (List PV)) (u:Value),as[i]?=some (.own e k rows)∧us[i]?=some u∧u.ownBlock=some b∧OwnAt m w e k rows u
 |[],us,b,h,hb=>by simp [zIJ] at hb
 |y::ys,us,b,h,hb=>by
  simp only [ArgsRep] at h
  obtain ⟨u,us',rfl,h2,h3⟩:=h
  cases y with
  |own e k rows=>exact ⟨0,e,k,rows,u,rfl,rfl,hb,h2⟩
  |val x=>
   obtain ⟨i,e,k,rows,u',h4,h5,h6⟩:=zUk h3 (b:=b) hb
   exact ⟨i+1,e,k,rows,u',by simpa using h4,by simpa using h5,h6⟩
  |io cs=>
   obtain ⟨i,e,k,rows,u',h4,h5,h6⟩:=zUk h3 (b:=b) hb
   exact ⟨i+1,e,k,rows,u',by simpa using h4,by simpa using h5,h6⟩
theorem OwnAt.lt {e k:Nat} {rows:List (List PV)} {u:Value} (h:OwnAt m w e k rows u) {g:Nat} (hg:u.ownBlock=some g):g < w.heap.size:=by
 obtain ⟨⟨xs,h1,h2⟩,_⟩:=h
 rcases h2 with ⟨rfl,_⟩|⟨g',cap,cur,rfl,_,hh,_⟩
 ·simp [Value.ownBlock] at hg
 ·simp only [Value.ownBlock,Option.some.injEq] at hg
  subst hg
  exact (Array.getElem?_eq_some_iff.1 hh).1
theorem yGQ (wf:E.Wf):∀ (l:List Nat) (F:List Ct),(∀ i∈l,E.N≤i∧∀ j bn b,E.Γ[j]?=some bn→β j=some b→i < bn.1∨bn.1+bn.2≤i)→InvG E S m β ow F a w→InvG E S m β ow (yGN l F) a w
 |[],_,_,h=>h
 |x::r,F,hx,h=>by
  refine yGQ wf r (F.set x .una) (fun i hi=>hx i (List.mem_cons_of_mem _ hi)) ?_
  obtain ⟨hN,hb⟩:=hx x List.mem_cons_self
  have hg:∀ i,(F.set x .una).getD i .un=F.getD i .un∨(i=x∧(F.set x .una).getD i .un=.una):=by
   intro i
   rw [zBm]
   split
   ·exact .inr ⟨by omega,rfl⟩
   ·exact .inl rfl
  refine {h with lenF:=by rw [List.length_set];exact h.lenF,slots:=fun i hi=>?_,boxes:=fun j bn hj=>?_}
  ·rcases hg i with e|⟨e,_⟩
   ·rw [e];exact h.slots i hi
   ·omega
  ·have hB:=h.boxes j bn hj
   cases hβ:β j with
   |none=>
    rw [hβ] at hB
    intro o ho
    rcases hg (bn.1+o) with e|⟨_,e⟩
    ·rw [e];exact hB o ho
    ·exact .inr e
   |some b=>
    rw [hβ] at hB
    obtain ⟨h1,h2,cs,T,h3,h4,h5⟩:=hB
    refine ⟨h1,h2,cs,T,h3,h4,fun o ho=>?_⟩
    rcases hg (bn.1+o) with e|⟨e,_⟩
    ·rw [e];exact h5 o ho
    ·have:=hb j bn b hj hβ
     omega
theorem yPs (hun:E.unaOk=true) (wf:E.Wf) {base:Nat} {as:List AV} {us:List Value} (hf:yGO E base as) (hm:MemOk m w) (ha:ArgsRep m w as us) (hd:∀ g,zIJ as us=some g→ioB as us≠some g) (hG0:Glob.ok w) (hGR:∀ b,zTT as us b→Glob.n≤b):
  Inv E {w0:=w,m0:=m,R0:=zTT as us,b0:=fun j=>if j=0 then ioB as us else none,g0:=hG0,gR:=hGR} (F0 E base as) {tmps:=us.toArray++Array.replicate (E.N-us.toArray.size) undef,defers:=[]} w:=by
 obtain ⟨hlen,hno,hni,hio⟩:=hf
 have hul:=ha.length
 have hNL:=wf.le
 have hFl:(as.map yCC++List.replicate (E.L-as.length) Ct.un).length=E.L:=by simp;omega
 have hbase:∀ cs,ioOf as=some cs→E.N≤base∧base+cs.length≤E.L:=by
  intro cs hc
  rw [hc] at hio
  exact ⟨wf.lo 0 _ hio.2,wf.hi 0 _ hio.2⟩
 refine ⟨m,fun j=>if j=0 then ioB as us else none,fun b=>if zIJ as us=some b then some (.key (yPq as)) else if ioB as us=some b then some (.box 0) else none,?_⟩
 refine yGQ wf _ _ (fun i hi=>?_) ?_
 ·have hu:=List.all_eq_true.1 hun i hi
  simp only [Bool.and_eq_true,decide_eq_true_eq] at hu
  refine ⟨hu.1,fun j bn b hj hb=>?_⟩
  split at hb
  ·rename_i e
   subst e
   have hn:E.nfix=1:=by
    cases hc:ioOf as with
    |none=>rw [zOG hc] at hb;cases hb
    |some cs=>rw [hc] at hio;exact hio.1
   have:=List.all_eq_true.1 hu.2 0 (by rw [hn];decide)
   rw [hj] at this
   simpa using this
  ·cases hb
 refine ⟨by rw [zA4];exact hFl,by simp;omega,rfl,?_,?_,hm,m.le_refl,Pres.refl _ _,?_,?_,fun b o u h=>.inl h,fun j _=>rfl⟩
 ·intro i hi
  have e1:(zAi (as.map yCC++List.replicate (E.L-as.length) Ct.un) base (match ioOf as with|some cs=>cs.map fun x=>Ct.pv (.one x)|none=>[])).getD i .un=(as.map yCC++List.replicate (E.L-as.length) Ct.un).getD i .un:=by
   cases hc:ioOf as with
   |none=>rfl
   |some cs=>
    have:=hbase cs hc
    rw [zAr,if_neg (by omega)]
  rw [e1]
  by_cases hia:i < as.length
  ·rw [List.getD_eq_getElem?_getD,List.getElem?_append_left (by simpa using hia),List.getElem?_map,List.getElem?_eq_getElem hia]
   simp only [Option.map_some,Option.getD_some]
   obtain ⟨u,h1,h2⟩:=ha.get i as[i] (List.getElem?_eq_getElem hia)
   have e2:(us.toArray++Array.replicate (E.N-us.toArray.size) undef).getD i undef=u:=by
    rw [Array.getD_eq_getD_getElem?,Array.getElem?_append_left (by simp;omega)]
    simp [h1]
   rw [e2]
   cases hx:as[i] with
   |val x=>rw [hx] at h2;exact h2
   |own e k rows=>
    rw [hx] at h2
    obtain ⟨h3,u',h4,h5⟩:=yJn ha hno i e k rows (by rw [←hx];exact List.getElem?_eq_getElem hia)
    rw [h1] at h4
    injection h4 with h4
    subst h4
    refine OwnAt.rep h2 fun g hg=>?_
    rw [if_pos (h5.trans hg),h3]
   |io cs=>
    rw [hx] at h2
    obtain ⟨h3,u',h4,h5⟩:=yPr ha hni i cs (by rw [←hx];exact List.getElem?_eq_getElem hia)
    rw [h1] at h4
    injection h4 with h4
    subst h4
    obtain ⟨b,vs,T,rfl,_⟩:=h2
    exact ⟨b,by simpa [yVC] using h5,rfl⟩
  ·rw [List.getD_eq_getElem?_getD,List.getElem?_append_right (by simpa using Nat.le_of_not_lt hia),List.getElem?_replicate]
   split<;>trivial
 ·intro j bn hj
  by_cases hj0:j=0
  ·subst hj0
   simp only [if_true]
   cases hc:ioOf as with
   |none=>
    rw [zOG hc]
    intro o ho
    have hlo:=wf.lo 0 bn hj
    simp only [hc,zAi]
    rw [List.getD_eq_getElem?_getD,List.getElem?_append_right (by simp;omega),List.getElem?_replicate]
    left;split<;>rfl
   |some cs=>
    rw [hc] at hio
    obtain ⟨_,b,vs,T,h1,h2,h3,h4⟩:=yL9 ha hc
    rw [hio.2] at hj
    injection hj with hj
    subst hj
    have:=hbase cs hc
    rw [h1]
    refine ⟨?_,h3,vs,T,h2,?_,?_⟩
    ·simp only;rw [if_neg (fun h=>hd b h h1),if_pos trivial]
    ·simpa using h4.length
    ·intro o ho
     simp only at ho ⊢
     rw [zAr,if_pos (by simp;omega)]
     have e:base+o-base=o:=by omega
     have hvl:vs.toList.length=cs.length:=h4.length
     rw [e,List.getD_eq_getElem?_getD,List.getElem?_map,List.getElem?_eq_getElem ho]
     have hlt:o < vs.toList.length:=by omega
     have hu:vs.getD o undef=vs.toList[o]:=by
      rw [Array.getD_eq_getD_getElem?,←Array.getElem?_toList,List.getElem?_eq_getElem hlt];rfl
     rw [hu]
     exact h4.get _ _ _ (List.getElem?_eq_getElem ho) (List.getElem?_eq_getElem hlt)
  ·simp only [hj0,if_false]
   intro o ho
   have hlo:=wf.lo j bn hj
   have hout:∀ cs,ioOf as=some cs→¬ (base≤bn.1+o∧bn.1+o < base+cs.length):=by
    intro cs hc
    rw [hc] at hio
    have:=wf.ap j 0 _ _ hj hio.2 hj0
    simp only at this
    omega
   rw [zAr]
   rw [if_neg]
   ·rw [List.getD_eq_getElem?_getD,List.getElem?_append_right (by simp;omega),List.getElem?_replicate]
    left;split<;>rfl
   ·cases hc:ioOf as with
    |none=>simp;omega
    |some cs=>intro h;exact hout cs hc (by simp at h;omega)
 ·intro b t hb
  refine .inr ?_
  split at hb
  ·rename_i h;exact .inl h
  ·split at hb
   ·rename_i h;exact .inr h
   ·cases hb
 ·intro b t hb
  split at hb
  ·rename_i h
   obtain ⟨i,e,k,rows,u,_,_,h5,h6⟩:=zUk ha h
   exact h6.lt h5
  ·split at hb
   ·rename_i h
    cases hc:ioOf as with
    |none=>rw [zOG hc] at h;cases h
    |some cs=>
     obtain ⟨_,b',vs,T,h1,h2,_⟩:=yL9 ha hc
     rw [h] at h1
     injection h1 with h1
     subst h1
     exact (Array.getElem?_eq_some_iff.1 h2).1
   ·cases hb
theorem yCD:∀ {as:List AV} {cs:List PV},ioOf as=some cs→zTU as=cs.length
 |[],cs,h=>by simp [ioOf] at h
 |y::ys,cs,h=>by
  cases y with
  |io cs'=>simp only [ioOf,Option.some.injEq] at h;subst h;rfl
  |val x=>exact yCD (as:=ys) h
  |own e k rows=>exact yCD (as:=ys) h
mutual
def PV.fits:PV→Prop
 |.v x=>zFI x=true
 |.sl _ rows=>rows.length≤maxLen∧zQR rows
 |.nl _=>True
 |.fp cs=>zHd cs
 |.clo _ caps=>zHd caps
 |.any=>True
 |.w _ x=>x.fits
def zHd:List PV→Prop
 |[]=>True
 |x::xs=>x.fits∧zHd xs
def zQR:List (List PV)→Prop
 |[]=>True
 |r::rs=>zHd r∧zQR rs
end
def PVal.fits:PVal→Prop
 |.one x=>x.fits
 |.agg cs=>zHd cs
def AV.fits:AV→Prop
 |.val x=>x.fits
 |.own _ _ rows=>rows.length≤maxLen∧zQR rows
 |.io cells=>zHd cells
def AVs.fits:List AV→Prop
 |[]=>True
 |x::xs=>x.fits∧AVs.fits xs
mutual
theorem Rp.fits:∀ (x:PV) (u:Value),Rp m x u→x.fits
 |.v _,_,h=>by simp only [Rp] at h;simp only [PV.fits];exact h.2
 |.sl k rows,_,h=>by
  simp only [Rp] at h
  obtain ⟨A,c,_,h2,h3,h4⟩:=h
  simp only [PV.fits]
  refine ⟨Nat.le_trans h2 h3,?_⟩
  rcases h4 with h4|⟨b,o,_,h5⟩
  ·subst h4;simp only [zQR]
  ·exact RpRows.fits rows b k o h5
 |.nl _,_,_=>by simp only [PV.fits]
 |.fp cs,_,h=>by
  simp only [Rp] at h
  obtain ⟨b,o,_,h2⟩:=h
  simp only [PV.fits]
  exact RpAt.fits cs b o h2
 |.clo f caps,_,h=>by
  simp only [Rp] at h
  obtain ⟨us,_,h2⟩:=h
  simp only [PV.fits]
  exact RpL.fits caps us h2
 |.any,_,_=>by simp only [PV.fits]
 |.w _ x,u,h=>by
  simp only [Rp] at h
  simp only [PV.fits]
  exact Rp.fits x u h.2
theorem RpAt.fits:∀ (cs:List PV) (b o:Nat),RpAt m b o cs→zHd cs
 |[],_,_,_=>by simp only [zHd]
 |x::xs,b,o,h=>by
  simp only [RpAt] at h
  obtain ⟨⟨u,_,h2⟩,h3⟩:=h
  simp only [zHd]
  exact ⟨Rp.fits x u h2,RpAt.fits xs b (o+1) h3⟩
theorem RpRows.fits:∀ (rows:List (List PV)) (b k o:Nat),RpRows m b k o rows→zQR rows
 |[],_,_,_,_=>by simp only [zQR]
 |r::rs,b,k,o,h=>by
  simp only [RpRows] at h
  obtain ⟨⟨_,h2⟩,h3⟩:=h
  simp only [zQR]
  exact ⟨RpAt.fits r b o h2,RpRows.fits rs b k (o+k) h3⟩
theorem RpL.fits:∀ (cs:List PV) (us:List Value),RpL m cs us→zHd cs
 |[],_,_=>by simp only [zHd]
 |x::xs,_,h=>by
  simp only [RpL] at h
  obtain ⟨u,us',_,h2,h3⟩:=h
  simp only [zHd]
  exact ⟨Rp.fits x u h2,RpL.fits xs us' h3⟩
end
theorem ArgRep.fits {x:AV} {u:Value} (h:ArgRep m w x u):x.fits:=by
 cases x with
 |val x=>
  cases x with
  |one x=>exact Rp.fits x u h
  |agg cs=>obtain ⟨us,_,h2⟩:=h;exact RpL.fits cs us h2
 |own e k rows=>
  have:=Rp.fits _ _ (OwnAt.rp h)
  simp only [PV.fits] at this
  exact this
 |io cells=>obtain ⟨b,cs,T,_,_,_,h2⟩:=h;exact RpL.fits _ _ h2
theorem ArgsRep.fits:∀ {as:List AV} {us:List Value},ArgsRep m w as us→AVs.fits as
 |[],_,_=>trivial
 |x::xs,_,h=>by
  simp only [ArgsRep] at h
  obtain ⟨u,us',_,h2,h3⟩:=h
  exact ⟨h2.fits,ArgsRep.fits h3⟩
theorem zJm {f:FuncId} {fn:Func} {c:Code} (hf:P.funcs[f]?=some fn) (hb:fn.body=some c) (hcall:zDm P f=true) (hE':(E.ok&&E.unaOk)=true) (hN:E.N=fn.ntmps)
  {rs:List RSrc} (hrs:zDp P E rs fn.results.toList=true) {base:Nat} {as:List AV} (hfo:yGO E base as) {r:RV} (hW0:AVs.fits as→∀ (S:Start) (a:Act) (w:World),Inv E S (F0 E base as) a w→c.wp P (zQQ E S (yGw E base as rs r)) a w) (hov:∀ x,r.res=.ov x→zUj as=0:=by intro x h;cases h<;>rfl):Contract P f as r:=by
 have hE:=Bool.and_eq_true_iff.1 hE'
 have wf:=Env.wf_of_ok hE.1
 refine ⟨hcall,fun m w us hm ha hd hG0 hGR=>?_⟩
 have h0:=yPs hE.2 wf hfo hm ha hd hG0 hGR
 have hc:=hW0 ha.fits _ _ _ h0
 refine calls_of_wp hf hb ?_
 rw [←hN]
 refine wp_mono hc ?_
 have hio:=hfo.2.2.2
 have common:∀ {m':Mem} {β:Bx} {ow:Ow} {F:List Ct} {a':Act} {w':World},
   InvG E {w0:=w,m0:=m,R0:=zTT as us,b0:=fun j=>if j=0 then ioB as us else none,g0:=hG0,gR:=hGR} m' β ow F a' w'→
   m.le m'∧MemOk m' w'∧Pres (zTT as us) w w'∧(∀ b o u,m' b o=some u→m b o=some u∨w.heap.size≤b∨zIJ as us=some b)∧
   (∀ b,ioB as us=some b→ow b=some (.box 0)∧∀ io:Option (List PV),(∀ l,io=some l→∀ cs,ioOf as=some cs→zBq F base cs.length=some l)→yVD m' w' b (zTU as) io):=by
  intro m' β ow F a' w' hG
  have key:∀ b,ioB as us=some b→∃ cs,ioOf as=some cs∧E.Γ[0]?=some (base,cs.length)∧BoxRep m' w' ow F 0 (base,cs.length) (some b):=by
   intro b hb
   cases hc:ioOf as with
   |none=>rw [zOG hc] at hb;cases hb
   |some cs=>
    rw [hc] at hio
    have hB:=hG.boxes 0 _ hio.2
    have hβ:β 0=some b:=by rw [hG.fix 0 (by rw [hio.1];exact Nat.one_pos)];simp only [if_true];exact hb
    rw [hβ] at hB
    exact ⟨cs,rfl,hio.2,hB⟩
  refine ⟨hG.mle,hG.mem,hG.pres,fun b o u hu=>?_,fun b hb=>?_⟩
  ·rcases hG.new b o u hu with g|g|g
   ·exact .inl g
   ·exact .inr (.inl g)
   ·rcases g with g|g
    ·exact .inr (.inr g)
    ·obtain ⟨cs,_,_,hB⟩:=key b g
     have:=hB.2.1 o
     rw [hu] at this
     cases this
  ·obtain ⟨cs,hc,hj,hB⟩:=key b hb
   refine ⟨hB.1,fun io hl=>?_⟩
   rw [yCD hc]
   refine ⟨hB.2.1,?_⟩
   cases io with
   |none=>
    obtain ⟨h1,h2,vs,T,h3,h4,h5⟩:=hB
    exact ⟨vs,T,h3,h4,fun l e=>by cases e⟩
   |some l=>
    obtain ⟨vs,T,h3,h4,h5⟩:=zT1 hB (hl l rfl cs hc)
    exact ⟨vs,T,h3,h4,fun l' e=>by injection e with e;subst e;exact h5⟩
 have fin:∀ {F:List Ct} {a':Act} {w':World},(zJQ F rs r.res∧∀ cs,ioOf as=some cs→zBq F base cs.length=some r.io)→
   Inv E {w0:=w,m0:=m,R0:=zTT as us,b0:=fun j=>if j=0 then ioB as us else none,g0:=hG0,gR:=hGR} F a' w'→
   a'.defers=[]∧∃ v,(results fn a'.tmps).run P w'=.ok v w'∧yVE m w as us r (.returned v) w':=by
  rintro F a' w' ⟨hr,hi⟩ ⟨m',β,ow,hG⟩
  obtain ⟨c1,c2,c3,c4,c5⟩:=common hG
  refine ⟨hG.dfr,?_⟩
  have hmk:∀ v,yBh m' w w' (zIJ as us) r.res (.returned v)→yVE m w as us r (.returned v) w':=by
   intro v hv
   refine ⟨m',c1,c2,c3,c4,fun b hb=>(c5 b hb).2 _ ?_,hv⟩
   intro l hl cs hcs
   unfold Res.ioOf at hl
   split at hl
   ·cases hl
   ·injection hl with hl;rw [←hl];exact hi cs hcs
  cases hres:r.res with
  |val x=>
   rw [hres] at hr
   simp only [zJQ] at hr
   split at hr
   ·rename_i r1
    obtain ⟨us',h1,h2⟩:=zLW hG hrs (xs:=[x]) (by simp only [yL8];exact ⟨hr,trivial⟩)
    obtain ⟨u,us'',rfl,h3,h4⟩:=h2
    simp only [RpVL] at h4
    subst h4
    exact ⟨_,h1,hmk _ (by rw [hres];exact ⟨u,rfl,h3⟩)⟩
   ·exact hr.elim
  |own e k rows=>
   rw [hres] at hr
   simp only [zJQ] at hr
   split at hr
   ·rename_i t
    have hlt:t < E.N:=by
     cases hl:fn.results.toList with
     |nil=>rw [hl] at hrs;simp [zDp] at hrs
     |cons s ss=>
      rw [hl] at hrs
      simp only [zDp,Bool.and_eq_true] at hrs
      cases s with
      |tmp t'=>have:=hrs.1;simp only [zMS,Bool.and_eq_true,decide_eq_true_eq] at this;exact this.2
      |cell x y=>have:=hrs.1;simp [zMS] at this
    have hs:=hG.slots t hlt
    rw [hr] at hs
    obtain ⟨us',h1,h2⟩:=zLW hG hrs (xs:=[.one (.sl k rows)]) (by simp only [yL8,rsV,zAn,hr];exact ⟨⟨trivial,.inl rfl⟩,trivial⟩)
    obtain ⟨u,us'',rfl,h3,h4⟩:=h2
    simp only [RpVL] at h4
    subst h4
    refine ⟨_,h1,?_⟩
    have hu:u=a'.tmps.getD t undef:=by
     have e:results fn a'.tmps=(do let vs ←fn.results.mapM (rdR a'.tmps);pure (if h:vs.size=1 then vs[0] else .tuple vs)):=by unfold results;congr
     cases hl:fn.results.toList with
     |nil=>rw [hl] at hrs;simp [zDp] at hrs
     |cons s ss=>
      rw [hl] at hrs
      simp only [zDp,Bool.and_eq_true] at hrs
      cases ss with
      |cons s2 ss2=>simp [zDp] at hrs
      |nil=>
       cases s with
       |cell x y=>have:=hrs.1;simp [zMS] at this
       |tmp t'=>
        have h5:=hrs.1
        simp only [zMS,Bool.and_eq_true,beq_iff_eq,decide_eq_true_eq] at h5
        obtain ⟨rfl,_⟩:=h5
        rw [e,Array.mapM_eq_mapM_toList,hl] at h1
        simp [rdR] at h1
        rw [Array.getD_eq_getD_getElem?];exact h1.symm
    subst hu
    refine hmk _ ?_
    rw [hres]
    refine ⟨_,rfl,OwnRep.at_ hs,fun g hg=>?_⟩
    have hg1:=(hs.2 g hg).1
    rcases hG.own g _ hg1 with h6|h6|h6
    ·exact .inl h6
    ·exact .inr h6
    ·rw [(c5 g h6).1] at hg1;cases hg1
   ·exact hr.elim
  |tup xs=>
   rw [hres] at hr
   simp only [zJQ] at hr
   split at hr
   ·exact hr.elim
   ·rename_i hne
    obtain ⟨us',h1,h2⟩:=zLW hG hrs hr
    have hl1:us'.length=xs.length:=RpVL.length h2
    have hl2:rs.length=xs.length:=rsVs_length hr
    match us',h1,h2,hl1 with
    |[],h1,h2,_=>exact ⟨_,h1,hmk _ (by rw [hres];exact ⟨[],rfl,h2⟩)⟩
    |[u],h1,h2,hl1=>
     exfalso
     match rs,hne,hl2 with
     |[x],hne,_=>exact hne x rfl
     |[],_,h=>simp at h hl1;omega
     |_::_::_,_,h=>simp at h hl1;omega
    |u::v::l,h1,h2,_=>exact ⟨_,h1,hmk _ (by rw [hres];exact ⟨u::v::l,rfl,h2⟩)⟩
  |pan v=>rw [hres] at hr;exact hr.elim
  |ov x=>
   rw [hres] at hr
   have hno:=hov x hres
   have hfresh:∀ (i g:Nat),ow g=some (.key i)→w.heap.size≤g:=by
    intro i g hg
    rcases hG.own g _ hg with h6|h6|h6
    ·exact h6
    ·exact (no_ownB hno h6).elim
    ·rw [(c5 g h6).1] at hg;cases hg
   simp only [zJQ] at hr
   split at hr
   ·rename_i t
    have hlt:t < E.N:=by
     cases hl:fn.results.toList with
     |nil=>rw [hl] at hrs;simp [zDp] at hrs
     |cons s ss=>
      rw [hl] at hrs
      simp only [zDp,Bool.and_eq_true] at hrs
      cases s with
      |tmp t'=>have:=hrs.1;simp only [zMS,Bool.and_eq_true,decide_eq_true_eq] at this;exact this.2
      |cell x y=>have:=hrs.1;simp [zMS] at this
    have hs:=hG.slots t hlt
    rw [hr] at hs
    obtain ⟨fp,k1,k2,k3⟩:=hs
    refine ⟨a'.tmps.getD t undef,res_one hrs (fun s hs1=>?_),hmk _ (by rw [hres];exact ⟨a'.tmps.getD t undef,fp,rfl,k1,k2,fun g hg=>⟨hfresh t g (k3 g hg).1,(k3 g hg).2⟩⟩)⟩
    cases s with
    |cell x y=>simp [zMS] at hs1
    |tmp t'=>
     simp only [zMS,Bool.and_eq_true,beq_iff_eq,decide_eq_true_eq] at hs1
     obtain ⟨rfl,_⟩:=hs1
     rfl
   ·rename_i t j bs off n agg
    obtain ⟨e1,cs,e2,rfl⟩:=hr
    have hsrc:∃ s,fn.results.toList=[s]∧zMS P E (.cellB t j bs off n agg) s=true:=by
     cases hl:fn.results.toList with
     |nil=>rw [hl] at hrs;simp [zDp] at hrs
     |cons s ss=>
      rw [hl] at hrs
      cases ss with
      |nil=>simp only [zDp,Bool.and_eq_true] at hrs;exact ⟨s,rfl,hrs.1⟩
      |cons s2 ss=>simp [zDp] at hrs
    obtain ⟨s,_,hs1⟩:=hsrc
    cases s with
    |tmp t'=>simp [zMS] at hs1
    |cell b ty=>
     have hs1':=hs1
     simp only [zMS,Bool.and_eq_true,beq_iff_eq,decide_eq_true_eq,Bool.or_eq_true] at hs1'
     obtain ⟨⟨⟨⟨⟨rfl,ht⟩,hb⟩,ha⟩,hn⟩,h1⟩:=hs1'
     obtain ⟨nn,hj,hle⟩:=zDG hb
     obtain ⟨bb,hbb,hv⟩:=zC5 hG (x:=.t t) (y:=.tmp t) (by simp [zAk,ht]) e1
     have hv':a'.tmps.getD t undef=_:=hv
     have hB:=hG.boxes _ _ hj
     rw [hbb] at hB
     obtain ⟨us',fp,k1,k2,k3,k4,k5⟩:=yCu hB n off hle cs e2
     have hrun:=zBf (P:=P) (w:=w') ha hn h1 (us:=us') (b:=bb) (o:=off) k1 k5
     have hfp:∀ g∈fp,w.heap.size≤g∧∀ o,m' g o=none:=fun g hg=>by
      obtain ⟨⟨i,_,_,i3,_⟩,i5⟩:=k4 g hg
      exact ⟨hfresh i g i3,i5⟩
     refine ⟨if agg then .agg us'.toArray else us'.headD undef,res_one hrs (fun s hs2=>?_),hmk _ (by rw [hres];exact ⟨if agg then .agg us'.toArray else us'.headD undef,fp,rfl,zTl k2 (by rw [k1];exact h1),k3,hfp⟩)⟩
     ·cases s with
      |tmp t'=>simp [zMS] at hs2
      |cell b' ty'=>
       have hs2':=hs2
       simp only [zMS,Bool.and_eq_true,beq_iff_eq,decide_eq_true_eq,Bool.or_eq_true] at hs2'
       obtain ⟨⟨⟨⟨⟨rfl,_⟩,_⟩,ha'⟩,hn'⟩,_⟩:=hs2'
       have hrun':=zBf (P:=P) (w:=w') ha' hn' h1 (us:=us') (b:=bb) (o:=off) k1 k5
       simp only [rdR,hv',asAddr,Sem.run_bind,Sem.run_pure,Result.andThen_ok,hrun']
   ·exact hr.elim
 rintro e a' w' ⟨F,hq,hI⟩
 cases e with
 |normal=>exact fin hq hI
 |ret=>exact fin hq hI
 |panic ch=>
  obtain ⟨v,hv,rfl⟩:=hq
  obtain ⟨m',β,ow,hG⟩:=hI
  obtain ⟨c1,c2,c3,c4,c5⟩:=common hG
  refine ⟨hG.dfr,m',c1,c2,c3,c4,fun b hb=>(c5 b hb).2 _ ?_,?_⟩
  ·intro l hl
   simp only [Res.ioOf,hv] at hl
   cases hl
  ·rw [hv];rfl
 |exit id=>exact hq.elim
 |goto l=>exact hq.elim
 |outgrown=>exact hq.elim
where
 no_ownB:∀ {as:List AV} {us:List Value} {b:Nat},zUj as=0→zIJ as us≠some b
  |[],us,b,_=>by simp [zIJ]
  |x::as,[],b,_=>by simp [zIJ]
  |.own _ _ _::as,u::us,b,h=>by simp [zUj] at h
  |.val _::as,u::us,b,h=>by simpa [zIJ] using no_ownB (as:=as) (us:=us) (by simpa [zUj] using h)
  |.io _::as,u::us,b,h=>by simpa [zIJ] using no_ownB (as:=as) (us:=us) (by simpa [zUj] using h)
 res_one {fn:Func} {r:RSrc} (hrs:zDp P E [r] fn.results.toList=true) {tmps:Array Value} {w':World} {u:Value} (h:∀ s,zMS P E r s=true→(rdR tmps s).run P w'=.ok u w'):(results fn tmps).run P w'=.ok u w':=by
  have e:results fn tmps=(do let vs ←fn.results.mapM (rdR tmps);pure (if h:vs.size=1 then vs[0] else .tuple vs)):=by unfold results;congr
  cases hl:fn.results.toList with
  |nil=>rw [hl] at hrs;simp [zDp] at hrs
  |cons s ss=>
   rw [hl] at hrs
   cases ss with
   |cons s2 ss2=>simp [zDp] at hrs
   |nil=>
    simp only [zDp,Bool.and_eq_true] at hrs
    have h1:=h s hrs.1
    rw [e,Array.mapM_eq_mapM_toList,hl]
    simp [h1]
 RpVL.length {m:Mem}:∀ {xs:List PVal} {us:List Value},RpVL m xs us→us.length=xs.length
  |[],us,h=>by simp only [RpVL] at h;subst h;rfl
  |x::xs,us,h=>by
   obtain ⟨u,us',rfl,_,h3⟩:=h
   simp [RpVL.length h3]
 rsVs_length {F:List Ct}:∀ {rs:List RSrc} {xs:List PVal},yL8 F rs xs→rs.length=xs.length
  |[],xs,h=>by simp only [yL8] at h;subst h;rfl
  |r::rs,[],h=>by simp [yL8] at h
  |r::rs,x::xs,h=>by simp only [yL8] at h;simp [rsVs_length h.2]
theorem zYr {f:FuncId} {fn:Func} {c:Code} (hf:P.funcs[f]?=some fn) (hb:fn.body=some c) (hcall:zDm P f=true) (hE':(E.ok&&E.unaOk)=true) (hN:E.N=fn.ntmps)
  {h:HCode} (hk:zMR P E c h=true)
  {rs:List RSrc} (hrs:zDp P E rs fn.results.toList=true) {base:Nat} {as:List AV} (hfo:yGO E base as) {r:RV} (hW0:AVs.fits as→hwp P h (yGw E base as rs r) (F0 E base as)) (hov:∀ x,r.res=.ov x→zUj as=0:=by intro x h;cases h<;>rfl):Contract P f as r:=
 zJm hf hb hcall hE' hN hrs hfo (fun hf S a w hI=>zHc (Env.wf_of_ok (Bool.and_eq_true_iff.1 hE').1) c h _ _ _ _ hk (hW0 hf) hI) hov
end
end Go.Hx
end

section
namespace Go.Hx
open Go.RowKit
variable [Glob]
section
variable {P:Program} {h h1 h2:HCode} {Q:Exit→List Ct→Prop} {K:List Ct→Prop} {X:Value→List Ct→Prop} {F F':List Ct}
def yVk (P:Program) (os:List HO) (K:List Ct→Prop) (X:Value→List Ct→Prop):List Ct→Prop:=fun F=>yTy P os F K X
def dK (P:Program) (ds:List DO) (N:List Ct→Prop) (X:Value→Prop):List Ct→Prop:=fun F=>dW P ds F N X
def dX (l:Bool) (X:Value→Prop):Value→List Ct→Prop:=fun v _=>l=true∧X v
def ghK (post:List Gh) (K:List Ct→Prop):List Ct→Prop:=fun F=>ghW F K post
def nrm (Q:Exit→List Ct→Prop):List Ct→Prop:=fun F=>Q .normal F
def yXF (Q:Exit→List Ct→Prop):Value→List Ct→Prop:=fun v F=>Q (.panic [{v,recovered:=false}]) F
def yXN (ds:List DO) (F:List Ct) (Q:Exit→List Ct→Prop):Value→Prop:=fun v=>∀ F',AgW (dsW ds) F F'→Q (.panic [{v,recovered:=false}]) F'
def yQL (P:Program) (os:List HO) (K:List Ct→Prop):List Ct→Prop:=fun F=>ySA P os F K
def bkK (F:List Ct) (ds:List Nat) (post:List Gh) (Q:Exit→List Ct→Prop):List Ct→Prop:=fun F1=>ghW (yJi F F1 ds) (nrm Q) post
theorem yWb:hwp P .skip Q F=Q .normal F:=rfl
theorem yXO {ops:List HO} {post:List Gh}:hwp P (.reg ops false post) Q F=yVk P ops (ghK post (nrm Q)) (yXF Q) F:=rfl
theorem yXP {ds:List DO} {post:List Gh}:hwp P (.drg ds post) Q F=dK P ds (ghK post (nrm Q)) (yXN ds F Q) F:=rfl
theorem yWc {pre:List Gh} {ops:List HO} {post:List Gh}:hwp P (.regG pre ops post) Q F=ghW F (fun F0=>yVk P ops (ghK post (nrm Q)) (yXF Q) F0) pre:=rfl
theorem yWd {pre:List Gh} {ds:List DO} {post:List Gh}:hwp P (.drgG pre ds post) Q F=ghW F (fun F0=>dK P ds (ghK post (nrm Q)) (yXN ds F0 Q) F0) pre:=rfl
theorem yXQ {i:Nat} {ops:List HO} {draw:Bool} {post:List Gh}:hwp P (.rdr i ops draw post) Q F=(match F.getD i .un with
    | .stk e k rows=>yQL P ops (bkK F (yQK ops) post Q) (F.set i (.own e k rows))
    | _=>False):=rfl
theorem yXR:yVk P [] K X F=K F:=rfl
theorem yWe {o:HO} {os:List HO}:yVk P (o::os) K X F=hoW P o F (yVk P os K X) X:=rfl
theorem yWf {N:List Ct→Prop} {X0:Value→Prop}:dK P [] N X0 F=N F:=rfl
theorem yTR {i:Nat} {l:Bool} {h:HO} {ds:List DO} {N:List Ct→Prop} {X0:Value→Prop}:dK P (⟨i,l,h⟩::ds) N X0 F=hoW P h F (dK P ds N X0) (dX l X0):=rfl
theorem yZP {post:List Gh}:ghK post K F=ghW F K post:=rfl
theorem yXS:nrm Q F=Q .normal F:=rfl
theorem yWg {v:Value}:yXF Q v F=Q (.panic [{v,recovered:=false}]) F:=rfl
theorem yWh {v:Value} {ds:List DO}:yXN ds F Q v=∀ F',AgW (dsW ds) F F'→Q (.panic [{v,recovered:=false}]) F':=rfl
theorem yZQ {l:Bool} {X0:Value→Prop} {v:Value}:dX l X0 v F=(l=true∧X0 v):=rfl
theorem yZR {F0:List Ct} {ds:List Nat} {post:List Gh}:bkK F0 ds post Q F=ghW (yJi F0 F ds) (nrm Q) post:=rfl
theorem yXT {d e k:Nat}:hoW P ⟨none,.nlk d e k⟩ F K X=K (F.set d (.stk e k [])):=rfl
theorem yXU {d x:Nat}:hoW P ⟨none,.mvk d x⟩ F K X=(match F.getD x .un with
    | .stk e k rows=>d≠x∧K ((F.set x (.hdr rows.length)).set d (.stk e k rows))
    | _=>False):=rfl
theorem yXV {d x:Nat} {hi:Opd}:hoW P ⟨none,.trk d x hi⟩ F K X=(match F.getD x .un,(zAn F hi).pv? with
    | .stk e k rows,some (.one (.v (.int _ n)))=>d≠x∧(zAn F hi).need∧0≤n∧n≤rows.length∧K ((F.set x (.hdr rows.length)).set d (.stk e k (rows.take n.toNat)))
    | _,_=>False):=rfl
theorem yXW {d e k x:Nat} {y:Opd}:hoW P ⟨none,.apk d e k x y⟩ F K X=(match F.getD x .un,(zAn F y).pv? with
    | .stk e' k' rows,some (.one (.sl k'' rs))=>x≠d∧e'=e∧k'=k∧k''=k∧(zAn F y).need∧(rows.length+rs.length) * 4096≤140737488355328∧K ((F.set x (.hdr rows.length)).set d (.stk e k (rows++rs)))
    | _,_=>False):=rfl
theorem yXX {d:Nat} {ng:Bool} {x:Opd}:hoW P ⟨none,.isn d ng x⟩ F K X=(match (zAn F x).pv? with
    | some (.one (.sl _ rows))=>(zAn F x).need∧∀ b:Bool,(rows≠[]→b=false)→K (F.set d (.pv (bv (if ng then !b else b))))
    | some (.one (.nl _))=>(zAn F x).need∧K (F.set d (.pv (bv (!ng))))
    | _=>False):=rfl
theorem yXY {F1:List Ct}:yJi F F1 []=F:=rfl
theorem yWi {F1:List Ct} {d:Nat} {ds:List Nat}:yJi F F1 (d::ds)=yJi (F.set d (yQ5 (F1.getD d .un))) F1 ds:=rfl
theorem yXZ {a b:HCode}:hwp P (.seq a b) Q F=hwp P a (zYq (hwp P b Q) Q) F:=rfl
theorem zAa {x:Opd} {a b:HCode} {t:Bool} (e:(zAn F x).pv?=some (.one (.v (.bool t)))) (n:(zAn F x).need) (ht:t=true→hwp P a Q F) (hf:t=false→hwp P b Q F):hwp P (.cond x a b) Q F:=by
  simp only [hwp,e]
  exact ⟨n,ht,hf⟩
theorem zE5 {x:Opd} {a b:HCode} (e:(zAn F x).pv?=some (.one (.v (.bool true)))) (n:(zAn F x).need) (ht:hwp P a Q F):hwp P (.cond x a b) Q F:=
  zAa e n (fun _=>ht) (fun h=>by cases h)
theorem zJR {x:Opd} {a b:HCode} (e:(zAn F x).pv?=some (.one (.v (.bool false)))) (n:(zAn F x).need) (hf:hwp P b Q F):hwp P (.cond x a b) Q F:=
  zAa e n (fun h=>by cases h) (fun _=>hf)
theorem yTS {id:Nat} {a:HCode}:hwp P (.block id a) Q F=hwp P a (zIR id Q) F:=rfl
theorem yWj {id:Nat}:hwp P (.exit id) Q F=Q (.exit id) F:=rfl
theorem yX0:hwp P .ret Q F=Q .ret F:=rfl
theorem yTT {a:HCode}:hwp P (.scope a) Q F=hwp P a (ngQ Q) F:=rfl
theorem yTU:hwp P .label Q F=Q .normal F:=rfl
theorem yX1:ngQ Q .normal F=Q .normal F:=rfl
theorem yX2 {id:Nat}:ngQ Q (.exit id) F=Q (.exit id) F:=rfl
theorem yX3:ngQ Q .ret F=Q .ret F:=rfl
theorem yX4 {ch:List PanicEntry}:ngQ Q (.panic ch) F=Q (.panic ch) F:=rfl
theorem yTV:zYq K Q .normal F=K F:=rfl
theorem yTW {id:Nat}:zYq K Q (.exit id) F=Q (.exit id) F:=rfl
theorem yTX:zYq K Q .ret F=Q .ret F:=rfl
theorem yTY {ch:List PanicEntry}:zYq K Q (.panic ch) F=Q (.panic ch) F:=rfl
theorem yWk {id:Nat}:zIR id Q .normal F=Q .normal F:=rfl
theorem yWl {id id':Nat}:zIR id Q (.exit id') F=if id'=id then Q .normal F else Q (.exit id') F:=rfl
theorem yWm {id:Nat}:zIR id Q .ret F=Q .ret F:=rfl
theorem yWn {id:Nat} {ch:List PanicEntry}:zIR id Q (.panic ch) F=Q (.panic ch) F:=rfl
theorem yX5 {d:Nat} {v:VOp}:hoW P ⟨none,.val d v⟩ F K X=((ev F v).1∧K (F.set d (ev F v).2)):=rfl
def yCE (T:Bool) (A B:Prop):Prop:=match T with
  | true=>A
  | false=>B
theorem yWo {A B:Prop}:yCE true A B=A:=rfl
theorem yWp {A B:Prop}:yCE false A B=B:=rfl
theorem yNn {T T':Bool} {A B:Prop} (h:T=T'):yCE T A B=yCE T' A B:=by rw [h]
attribute [congr] yNn
def gdV (o:Option Bool) (p:Prop×Ct) (d:Nat) (F:List Ct) (K:List Ct→Prop):Prop:=match o with
  | none=>False
  | some T=>match p.2 with
    | .pv x=>(T=true→p.1)∧K (F.set d (.gd T x))
    | c=>yCE T (p.1∧K (F.set d c)) (K (F.set d (.gd false (bv false))))
theorem yPt {o o':Option Bool} {p p':Prop×Ct} {d:Nat} (h1:o=o') (h2:p=p'):gdV o p d F K=gdV o' p' d F K:=by rw [h1,h2]
attribute [congr] yPt
theorem yRf {p:Prop×Ct} {d:Nat}:gdV none p d F K=False:=rfl
theorem yWq {T:Bool} {A:Prop} {x:PVal} {d:Nat}:gdV (some T) (A,.pv x) d F K=((T=true→A)∧K (F.set d (.gd T x))):=rfl
theorem yWr {T:Bool} {A:Prop} {d:Nat}:gdV (some T) (A,.un) d F K=yCE T (A∧K (F.set d .un)) (K (F.set d (.gd false (bv false)))):=rfl
theorem yTZ {T:Bool} {A:Prop} {j off:Nat} {d:Nat}:gdV (some T) (A,.ptr j off) d F K=yCE T (A∧K (F.set d (.ptr j off))) (K (F.set d (.gd false (bv false)))):=rfl
theorem yWs {T t:Bool} {A:Prop} {x:PVal} {d:Nat}:gdV (some T) (A,.gd t x) d F K=yCE T (A∧K (F.set d (.gd t x))) (K (F.set d (.gd false (bv false)))):=rfl
theorem yT0 {T:Bool} {A:Prop} {xs:List PVal} {d:Nat}:gdV (some T) (A,.tup xs) d F K=yCE T (A∧K (F.set d (.tup xs))) (K (F.set d (.gd false (bv false)))):=rfl
theorem yT1 {T:Bool} {A:Prop} {n:Nat} {d:Nat}:gdV (some T) (A,.hdr n) d F K=yCE T (A∧K (F.set d (.hdr n))) (K (F.set d (.gd false (bv false)))):=rfl
theorem yT2 {T:Bool} {A:Prop} {b k n:Nat} {d:Nat}:gdV (some T) (A,.hdp b k n) d F K=yCE T (A∧K (F.set d (.hdp b k n))) (K (F.set d (.gd false (bv false)))):=rfl
theorem yT3 {T:Bool} {A:Prop} {b k r f:Nat} {d:Nat}:gdV (some T) (A,.epp b k r f) d F K=yCE T (A∧K (F.set d (.epp b k r f))) (K (F.set d (.gd false (bv false)))):=rfl
theorem yT4 {T:Bool} {A:Prop} {b:Nat} {d:Nat}:gdV (some T) (A,.mph b) d F K=yCE T (A∧K (F.set d (.mph b))) (K (F.set d (.gd false (bv false)))):=rfl
theorem yT5 {T:Bool} {A:Prop} {e k:Nat} {rows:List (List PV)} {d:Nat}:gdV (some T) (A,.own e k rows) d F K=yCE T (A∧K (F.set d (.own e k rows))) (K (F.set d (.gd false (bv false)))):=rfl
theorem yT6 {T:Bool} {A:Prop} {e k:Nat} {rows:List (List PV)} {d:Nat}:gdV (some T) (A,.stk e k rows) d F K=yCE T (A∧K (F.set d (.stk e k rows))) (K (F.set d (.gd false (bv false)))):=rfl
theorem yWt {T:Bool} {A:Prop} {x:OVal} {d:Nat}:gdV (some T) (A,.ov x) d F K=yCE T (A∧K (F.set d (.ov x))) (K (F.set d (.gd false (bv false)))):=rfl
theorem yT7 {T:Bool} {A:Prop} {d:Nat}:gdV (some T) (A,.una) d F K=yCE T (A∧K (F.set d .una)) (K (F.set d (.gd false (bv false)))):=rfl
attribute [go_sem] yRf yWq yWr yTZ yWs yT0 yT1 yT2 yT3 yT4 yT5 yT6 yWt yT7
theorem yT8 {g:Nat×Bool} {d:Nat} {v:VOp}:hoW P ⟨some g,.val d v⟩ F K X=gdV (zEh F g) (ev F v) d F K:=by
  show (match zEh F g with
    | none=>False
    | some T=>match (ev F v).2 with
      | .pv x=>(T=true→(ev F v).1)∧K (F.set d (.gd T x))
      | _=>match T with
        | true=>(ev F v).1∧K (F.set d (ev F v).2)
        | false=>K (F.set d (.gd false (bv false))))=_
  unfold gdV
  cases zEh F g with
  | none=>rfl
  | some T=>
    generalize ev F v=p
    obtain ⟨A,c⟩:=p
    cases c<;>cases T<;>rfl
theorem yJo {g:Nat×Bool} {d:Nat} {x:Opd} {r j base:Nat} {pt:List (Opd×Nat)} {n:Nat} {agg:Bool}:hoW P ⟨some g,.vlp d x r j base pt n agg⟩ F K X=(match zEh F g with
    | none=>False
    | some T=>yCE T (hoW P ⟨none,.vlp d x r j base pt n agg⟩ F K X) (K (F.set d (.gd false (bv false))))):=rfl
theorem yX6:yQL P [] K F=K F:=rfl
theorem yX7 {os:List HO} {d:Nat} {v:VOp}:yQL P (⟨none,.val d v⟩::os) K F=((ev F v).1∧yQL P os K (F.set d (ev F v).2)):=rfl
def gdD (o:Option Bool) (p:Prop×Ct) (d:Nat) (F:List Ct) (K:List Ct→Prop):Prop:=match o with
  | none=>False
  | some T=>match p.2 with
    | .pv x=>(T=true→p.1)∧K (F.set d (.gd T x))
    | _=>T=false∧K (F.set d (.gd T (bv false)))
theorem yPu {o o':Option Bool} {p p':Prop×Ct} {d:Nat} (h1:o=o') (h2:p=p'):gdD o p d F K=gdD o' p' d F K:=by rw [h1,h2]
attribute [congr] yPu
theorem yRg {p:Prop×Ct} {d:Nat}:gdD none p d F K=False:=rfl
theorem yWu {T:Bool} {A:Prop} {x:PVal} {d:Nat}:gdD (some T) (A,.pv x) d F K=((T=true→A)∧K (F.set d (.gd T x))):=rfl
theorem yWv {T:Bool} {A:Prop} {d:Nat}:gdD (some T) (A,.un) d F K=(T=false∧K (F.set d (.gd T (bv false)))):=rfl
theorem yT9 {T:Bool} {A:Prop} {j off:Nat} {d:Nat}:gdD (some T) (A,.ptr j off) d F K=(T=false∧K (F.set d (.gd T (bv false)))):=rfl
theorem yWw {T t:Bool} {A:Prop} {x:PVal} {d:Nat}:gdD (some T) (A,.gd t x) d F K=(T=false∧K (F.set d (.gd T (bv false)))):=rfl
theorem yUa {T:Bool} {A:Prop} {xs:List PVal} {d:Nat}:gdD (some T) (A,.tup xs) d F K=(T=false∧K (F.set d (.gd T (bv false)))):=rfl
theorem yUb {T:Bool} {A:Prop} {n:Nat} {d:Nat}:gdD (some T) (A,.hdr n) d F K=(T=false∧K (F.set d (.gd T (bv false)))):=rfl
theorem yUc {T:Bool} {A:Prop} {e k:Nat} {rows:List (List PV)} {d:Nat}:gdD (some T) (A,.own e k rows) d F K=(T=false∧K (F.set d (.gd T (bv false)))):=rfl
theorem yUd {T:Bool} {A:Prop} {e k:Nat} {rows:List (List PV)} {d:Nat}:gdD (some T) (A,.stk e k rows) d F K=(T=false∧K (F.set d (.gd T (bv false)))):=rfl
attribute [go_sem] yRg yWu yWv yT9 yWw yUa yUb yUc yUd
theorem yUe {os:List HO} {g:Nat×Bool} {d:Nat} {v:VOp}:yQL P (⟨some g,.val d v⟩::os) K F=gdD (zEh F g) (ev F v) d F (yQL P os K):=by
  show (match zEh F g with
    | none=>False
    | some T=>match (ev F v).2 with
      | .pv x=>(T=true→(ev F v).1)∧yQL P os K (F.set d (.gd T x))
      | _=>T=false∧yQL P os K (F.set d (.gd T (bv false))))=_
  unfold gdD
  cases zEh F g with
  | none=>rfl
  | some T=>
    generalize ev F v=p
    obtain ⟨A,c⟩:=p
    cases c<;>rfl
theorem yGR {os:List HO} {f:FuncId} {args:List (Opd×AM)} {d:Nat} {x:Value} (h1:(zBR F args).1) (h2:Contract P f (zBR F args).2 {res:=.val (.one (.v x))}) (h3:yQL P os K (F.set d (.pv (.one (.v x))))):yQL P (⟨none,.call (some d) f args⟩::os) K F:=
  ⟨h1,x,h2,h3⟩
theorem zAe {f:FuncId} {args:List (Opd×AM)} {d:Option Nat} {x:PVal} {io:List PV} (h1:(zBR F args).1) (h2:Contract P f (zBR F args).2 {res:=.val x,io:=io}) (h3:K (yCo (zAX F (some io) args) d (.pv x))):hoW P ⟨none,.call d f args⟩ F K X:=
  ⟨h1,_,h2,h3⟩
theorem zA3 {f:FuncId} {args:List (Opd×AM)} {d:Option Nat} {e k:Nat} {rows:List (List PV)} {io:List PV} (h1:(zBR F args).1) (h2:Contract P f (zBR F args).2 {res:=.own e k rows,io:=io}) (h3:K (yCo (zAX F (some io) args) d (.own e k rows))):hoW P ⟨none,.call d f args⟩ F K X:=
  ⟨h1,_,h2,h3⟩
theorem zA8 {f:FuncId} {args:List (Opd×AM)} {d:Option Nat} {x:PVal} {xs:List PVal} {io:List PV} (h1:(zBR F args).1) (h2:Contract P f (zBR F args).2 {res:=.tup (x::xs),io:=io}) (h3:K (yCo (zAX F (some io) args) d (.tup (x::xs)))):hoW P ⟨none,.call d f args⟩ F K X:=
  ⟨h1,_,h2,h3⟩
theorem zEQ {f:FuncId} {args:List (Opd×AM)} {d:Option Nat} {io:List PV} (h1:(zBR F args).1) (h2:Contract P f (zBR F args).2 {res:=.tup [],io:=io}) (h3:K (yCo (zAX F (some io) args) d .un)):hoW P ⟨none,.call d f args⟩ F K X:=
  ⟨h1,_,h2,h3⟩
theorem zAo {g:Nat×Bool} {f:FuncId} {args:List (Opd×AM)} {d:Nat} {T:Bool} {x:PVal} (hg:zEh F g=some T) (h1:T=true→(zBR F args).1) (h2:T=true→Contract P f (zBR F args).2 {res:=.val x}) (h3:K (F.set d (.gd T x))):hoW P ⟨some g,.call (some d) f args⟩ F K X:=by
  show hoW P ⟨some g,.call (some d) f args⟩ F _ X
  unfold hoW
  simp only [hg]
  exact ⟨h1,x,h2,h3⟩
theorem zUl {g:Nat×Bool} {f:FuncId} {x0:Opd} {caps:List PV} {args:List (Opd×AM)} {d:Nat} {T:Bool} {x:PVal} (hg:zEh F g=some T) (e:(zAn F x0).pv?=some (.one (.clo f caps))) (n:T=true→(zAn F x0).need) (h1:T=true→(zBR F args).1)
    (h2:T=true→Contract P f ((zBR F args).2++caps.map fun c=>.val (.one c)) {res:=.val x}) (h3:K (F.set d (.gd T x))):hoW P ⟨some g,.callv (some d) x0 args⟩ F K X:=by
  unfold hoW
  simp only [hg,e]
  exact ⟨fun h=>⟨n h,h1 h⟩,x,h2,h3⟩
theorem zBX {f:FuncId} {x0:Opd} {caps:List PV} {args:List (Opd×AM)} {d:Option Nat} {x:PVal} {io:List PV} (e:(zAn F x0).pv?=some (.one (.clo f caps))) (n:(zAn F x0).need) (h1:(zBR F args).1)
    (h2:Contract P f ((zBR F args).2++caps.map fun c=>.val (.one c)) {res:=.val x,io:=io}) (h3:K (yCo (zAX F (some io) args) d (.pv x))):hoW P ⟨none,.callv d x0 args⟩ F K X:=by
  show opW P (.callv d x0 args) F _ X
  simp only [opW,e]
  exact ⟨n,h1,_,h2,h3⟩
theorem yPv {p q:Prop}:(p→p∧q)=(p→q):=propext ⟨fun h a=>(h a).2,fun h a=>⟨a,h a⟩⟩
theorem yRh (c:Ct) (F:List Ct):(c::F).getD 0 .un=c:=rfl
theorem yRi (c:Ct) (F:List Ct) (n:Nat):(c::F).getD (n+1) .un=F.getD n .un:=by simp
theorem yRj (c d:Ct) (F:List Ct):(c::F).set 0 d=d::F:=rfl
theorem yRk (c d:Ct) (F:List Ct) (n:Nat):(c::F).set (n+1) d=c::F.set n d:=rfl
theorem zCA:sets F []=F:=rfl
theorem zBY {i:Nat} {c:Ct} {l:List (Nat×Ct)}:sets F ((i,c)::l)=sets (F.set i c) l:=rfl
theorem zAc {a:HCode} {α:Type} (us:α→List (Nat×Ct)) (μ:α→Nat) (inv:α→Prop) (s0:α) (h0:Le F (sets F (us s0))) (h1:inv s0)
    (hr:∀ s,inv s→hwp P a (zYq (fun F2=>∃ s',μ s' < μ s∧inv s'∧Le F2 (sets F (us s'))) Q) (sets F (us s))):hwp P (.loop a) Q F:=
  ⟨fun n F'=>∃ s,μ s=n∧inv s∧F'=sets F (us s),⟨μ s0,_,h0,s0,rfl,h1,rfl⟩,by
    rintro n F1 ⟨s,rfl,hs,rfl⟩
    have e:(fun F2=>∃ n' F',n' < μ s∧Le F2 F'∧(fun n F'=>∃ s,μ s=n∧inv s∧F'=sets F (us s)) n' F')=(fun F2=>∃ s',μ s' < μ s∧inv s'∧Le F2 (sets F (us s'))):=by
      funext F2
      apply propext
      constructor
      · rintro ⟨n',F',h2,h3,s',rfl,h4,rfl⟩
        exact ⟨s',h2,h4,h3⟩
      · rintro ⟨s',h2,h3,h4⟩
        exact ⟨_,_,h2,h4,s',rfl,h3,rfl⟩
    rw [e]
    exact hr s hs⟩
theorem zAE:Le [] []=True:=by simp [Le]
theorem zAu {c d:Ct} {F G:List Ct}:Le (c::F) (d::G)=(leC c d∧Le F G):=by
  simp only [Le,List.cons.injEq,eq_iff_iff]
  constructor
  · rintro ⟨c',cs',⟨rfl,rfl⟩,h⟩;exact h
  · exact fun h=>⟨_,_,⟨rfl,rfl⟩,h⟩
theorem zA9 {c:Ct}:leC c .un=True:=by simp [leC]
theorem zAv {c:Ct}:leC c c=True:=by simp [leC]
theorem zAU {c d:Ct} (h:c=d):leC c d:=.inr (.inl h.symm)
theorem yUf:leC (.pv (iv 0)) (.pv (iv ((0:Nat):Int)))=True:=by simp [leC]
theorem zAI {n m:Int} (h:n=m):leC (.pv (iv n)) (.pv (iv m)):=zAU (by rw [h])
theorem zBk {e k:Nat} {r r':List (List PV)} (h:r=r'):leC (.own e k r) (.own e k r'):=zAU (by rw [h])
theorem zAW {e k k':Nat}:leC (.pv (.one (.nl k))) (.own e k' []):=.inr (.inr rfl)
theorem yX8:ghW F K []=K F:=rfl
theorem yX9 {j base n:Nat} {r:List Gh}:ghW F K (.frz j base n::r)=(match zBq F base n with
    | some cs=>ghW (zAi (F.map (yNk j cs)) base (List.replicate n .un)) K r
    | none=>False):=rfl
theorem yRl {l:List Nat} {r:List Gh}:ghW F K (.forget l::r)=ghW (zCG F l) K r:=rfl
theorem yYa:zCG F []=F:=rfl
theorem yWx {i:Nat} {r:List Nat}:zCG F (i::r)=zCG (F.set i .un) r:=rfl
theorem yYb {i:Nat}:zAi F i []=F:=rfl
theorem yWy {i:Nat} {c:Ct} {cs:List Ct}:zAi F i (c::cs)=zAi (F.set i c) (i+1) cs:=rfl
theorem yYc {d x:Nat}:hoW P ⟨none,.mvo d x⟩ F K X=(match F.getD x .un with
    | .own e k rows=>d≠x∧K ((F.set x (.pv (.one (.sl k rows)))).set d (.own e k rows))
    | _=>False):=rfl
theorem yYd {d e k:Nat}:hoW P ⟨none,.nlo d e k⟩ F K X=K (F.set d (.own e k [])):=rfl
theorem yYe {d j base off e k:Nat} {x:Opd}:hoW P ⟨none,.ldo d x j base off e k⟩ F K X=(match zAn F x,F.getD (base+off) .un with
    | .ptr j' off',.own e' k' rows=>j'=j∧off'=off∧e'=e∧k'=k∧K ((F.set (base+off) (.pv (.one (.sl k rows)))).set d (.own e k rows))
    | .ptr j' off',.pv (.one (.nl _))=>j'=j∧off'=off∧K (F.set d (.own e k []))
    | _,_=>False):=rfl
theorem yYf {j base off n:Nat} {x y:Opd}:hoW P ⟨none,.sto x j base off n y⟩ F K X=(match zAn F x,(zAn F y).pv? with
    | .ptr j' off',some p=>j'=j∧off'=off∧p.cells.length=n∧(zAn F y).need∧K (zAi F (base+off) (p.cells.map fun c=>.pv (.one c)))
    | _,_=>False):=rfl
theorem yYg {j base sz:Nat} {x y:Opd}:hoW P ⟨none,.std x j base sz y⟩ F K X=(match zAn F x,(zAn F y).pv? with
    | .ptr j' off',some p=>j'=j∧off' < sz∧p.cells.length=1∧(zAn F y).need∧K (zAi F (base+off') (p.cells.map fun c=>.pv (.one c)))
    | _,_=>False):=rfl
theorem yYh {j base off y:Nat} {x:Opd}:hoW P ⟨none,.stw x j base off y⟩ F K X=(match zAn F x,F.getD y .un with
    | .ptr j' off',.own e k rows=>j'=j∧off'=off∧K ((F.set y (.pv (.one (.sl k rows)))).set (base+off) (.own e k rows))
    | _,_=>False):=rfl
theorem yUg {d j base:Nat} {cells:List PV}:hoW P ⟨none,.alloc d j base cells⟩ F K X=K (zAi ((F.map (zEO j)).set d (.ptr j 0)) base (cells.map fun c=>.pv (.one c))):=rfl
theorem yYi {d j base n:Nat} {x:Opd}:hoW P ⟨none,.box d j base n x⟩ F K X=(match (zAn F x).pv? with
    | some p=>p.cells.length=n∧(zAn F x).need∧K (zAi ((F.map (zEO j)).set d (.ptr j 0)) base (p.cells.map fun c=>.pv (.one c)))
    | none=>False):=rfl
theorem yYj {d j base:Nat} {cells:List PV}:hoW P ⟨none,.alo d j base cells⟩ F K X=(F.getD base .un=.una∧K (zAi (F.set d (.ptr j 0)) base (cells.map fun c=>.pv (.one c)))):=rfl
theorem yYk {d e k x:Nat} {y:Opd}:hoW P ⟨none,.app d e k (.t x) y⟩ F K X=(match F.getD x .un,(zAn F y).pw? with
    | .own e' k' rows,some (.one (.sl k'' rs))=>x≠d∧e'=e∧k'=k∧k''=k∧(zAn F y).need∧zOB P e (rows.length+rs.length)∧K ((F.set x (.pv (.one (.sl k rows)))).set d (.own e k (rows++rs)))
    | _,_=>False):=rfl
theorem yYl {d e k:Nat} {parts:List Opd}:hoW P ⟨none,.bsl d e k parts⟩ F K X=((zEI F k parts).1∧K (F.set d (.own e k (zEI F k parts).2))):=rfl
theorem yYm {d e k:Nat}:hoW P ⟨none,.vnl d e k⟩ F K X=K (F.set d (.ov (.one (.os none e k [])))):=rfl
theorem yRm {pb:Option Nat} {e k:Nat} {rows:List (List OV)}:zYl (.one (.os pb e k rows))=.hdr rows.length:=rfl
theorem yPw {cs:List OV}:zYl (.agg cs)=.un:=rfl
theorem yNo:zYl (.one .hole)=.un:=rfl
theorem yUh {x:PV}:zYl (.one (.p x))=.un:=rfl
theorem yRn {b:Nat} {ks:List Value} {vs:List OV}:zYl (.one (.mp b ks vs))=.un:=rfl
attribute [go_sem] yRm yPw yNo yUh yRn
theorem yYn {d x:Nat}:hoW P ⟨none,.vmv d x⟩ F K X=(match F.getD x .un with
    | .ov v=>d≠x∧K ((F.set x (zYl v)).set d (.ov v))
    | _=>False):=rfl
theorem yYo {d j base off n:Nat} {x:Opd} {agg:Bool}:hoW P ⟨none,.vld d x j base off n agg⟩ F K X=(match zAn F x,zC1 F (base+off) n with
    | .ptr j' off',some cs=>j'=j∧off'=off∧K ((zAi F (base+off) (zAV F (base+off) n)).set d (.ov (yM8 agg cs)))
    | _,_=>False):=rfl
theorem yYp {x:Opd} {j base off n y:Nat}:hoW P ⟨none,.vst x j base off n y⟩ F K X=(match zAn F x,F.getD y .un with
    | .ptr j' off',.ov v=>j'=j∧off'=off∧v.cells.length=n∧K (zAi (F.set y .un) (base+off) (v.cells.map zG7))
    | _,_=>False):=rfl
theorem yYq {d e k x:Nat} {y:Opd}:hoW P ⟨none,.vap d e k x y⟩ F K X=(match F.getD x .un with
    | .ov (.one (.os _ e' k' rows))=>(∀ n,y=.t n→x≠n)∧e'=e∧k'=k∧(zYh F k y).1∧(rows.length+(zYh F k y).2.length) * 4096≤140737488355328∧K ((clr F (F.set x .un) y).set d (.ov (.one (.os none e k (rows++(zYh F k y).2)))))
    | _=>False):=rfl
theorem yYr {d off e k:Nat} {v:VOp}:hoW P ⟨none,.vow d v off e k⟩ F K X=((ev F v).1∧yVF (ev F v).2 off=true∧K (F.set d (yXD (ev F v).2 off e k))):=rfl
theorem yRo {cs:List PV} {off e k:Nat}:yXD (.pv (.agg cs)) off e k=.ov (.agg ((cs.take off).map .p++.os none e k []::(cs.drop (off+1)).map .p)):=rfl
theorem yWz {T:Bool} {A:Prop} {f:Nat} {caps:List Cap} {d:Nat}:gdV (some T) (A,.cl f caps) d F K=yCE T (A∧K (F.set d (.cl f caps))) (K (F.set d (.gd false (bv false)))):=rfl
attribute [go_sem] yWz yRo yVF yO6 zFJ
theorem yYs {d e k x:Nat}:hoW P ⟨none,.vbs d e k x⟩ F K X=(match F.getD x .un with
    | .ov v=>v.cells.length=k∧K ((F.set x .un).set d (.ov (.one (.os none e k [v.cells]))))
    | _=>False):=rfl
theorem yUi {d f x:Nat}:hoW P ⟨none,.callo d f x⟩ F K X=(match F.getD x .un with
    | .ov v=>∃ v',zC8 P f v v'∧K ((F.set x .un).set d (.ov v'))
    | _=>False):=rfl
theorem yUj {d f x:Nat}:hoW P ⟨none,.callp d f x⟩ F K X=(match F.getD x .un with
    | .ov v=>∃ cs xs,zC8 P f v (.agg cs)∧zOv cs=some xs∧K ((F.set x .un).set d (.pv (.agg xs)))
    | _=>False):=rfl
theorem yYt {d j base n x:Nat}:hoW P ⟨none,.vbx d j base n x⟩ F K X=(match F.getD x .un with
    | .ov v=>v.cells.length=n∧K (zAi ((((F.set x .un).map (zEO j))).set d (.ptr j 0)) base (v.cells.map zG7))
    | _=>False):=rfl
theorem yYu {d:Nat}:hoW P ⟨none,.mmk d⟩ F K X=(∀ b,K (F.set d (.ov (.one (.mp b [] []))))):=rfl
def yC:Option PVal→Ct
  | some p=>.pv p
  | none=>.un
theorem yUk {p:PVal}:yC (some p)=.pv p:=rfl
theorem yUl:yC none=.un:=rfl
attribute [go_sem] yUk yUl yM9
theorem yWA {d:Nat} {x:Opd} {r j base:Nat} {pt:List (Opd×Nat)} {n:Nat} {agg:Bool}:hoW P ⟨none,.vle d x r j base pt n agg⟩ F K X=atV F x r pt (fun root p b e k rows i f=>f+n≤(rows.getD i []).length∧
    K ((F.set r (.ov (.one (root.upd p (.os (some b) e k (rows.set i (yBd (rows.getD i []) f ((((rows.getD i []).drop f).take n).map OV.left)))))))).set d (.ov (yM8 agg (((rows.getD i []).drop f).take n))))):=rfl
theorem yNp {d:Nat} {x:Opd} {r j base:Nat} {pt:List (Opd×Nat)} {n:Nat} {agg:Bool}:hoW P ⟨none,.vlp d x r j base pt n agg⟩ F K X=atV F x r pt (fun _ _ _ _ _ rows i f=>f+n≤(rows.getD i []).length∧match yM9 (((rows.getD i []).drop f).take n) with
    | some ps=>K (F.set d (.pv (if agg then .agg ps else .one (ps.headD (.nl 0)))))
    | none=>False):=rfl
theorem yWB {d:Nat} {x:Opd} {r j base:Nat} {pt:List (Opd×Nat)}:hoW P ⟨none,.vlh d x r j base pt⟩ F K X=atV F x r pt (fun _ _ _ _ _ rows i f=>match (rows.getD i [])[f]? with
    | some (.os (some b2) _ k2 rows2)=>K (F.set d (.hdp b2 k2 rows2.length))
    | some (.os none _ _ rows2)=>K (F.set d (.hdr rows2.length))
    | _=>False):=rfl
theorem yNq {x:Opd} {r j base:Nat} {pt:List (Opd×Nat)} {n:Nat} {y:Opd}:hoW P ⟨none,.vse x r j base pt n y⟩ F K X=atV F x r pt (fun root p b e k rows i f=>(∀ s,y=.t s→s≠r)∧(zYg F y).1∧(zYg F y).2.length=n∧f+n≤(rows.getD i []).length∧
    K ((clr F F y).set r (.ov (.one (root.upd p (.os (some b) e k (rows.set i (yBd (rows.getD i []) f (zYg F y).2)))))))):=rfl
theorem zUm {f:FuncId} {args:List (Opd×AM)} {d:Option Nat} {v:OVal} {io:List PV} (h1:(zBR F args).1) (h2:Contract P f (zBR F args).2 {res:=.ov v,io:=io}) (h3:K (yCo (zAX F (some io) args) d (.ov v))):hoW P ⟨none,.call d f args⟩ F K X:=
  ⟨h1,_,h2,h3⟩
theorem yYv {s j base:Nat} {pt:List (Opd×Nat)} {r:List Gh}:ghW F K (.pin s j base pt::r)=(match F.getD s .un with
    | .ov (.one root)=>match root.get (zDn F pt).2 with
      | some (.os none e k rows)=>(zDn F pt).1∧∀ b,ghW (F.set s (.ov (.one (root.upd (zDn F pt).2 (.os (some b) e k rows))))) K r
      | _=>False
    | _=>False):=rfl
theorem yYw {s j base:Nat} {pt:List (Opd×Nat)} {r:List Gh}:ghW F K (.unp s j base pt::r)=(match F.getD s .un with
    | .ov (.one root)=>match root.get (zDn F pt).2 with
      | some (.os _ e k rows)=>(zDn F pt).1∧ghW (F.set s (.ov (.one (root.upd (zDn F pt).2 (.os none e k rows))))) K r
      | _=>False
    | _=>False):=rfl
theorem yYx {s j base:Nat} {r:List Gh}:ghW F K (.vfr s j base::r)=(match F.getD s .un with
    | .ov (.one root)=>match root.frz with
      | some x=>ghW (F.set s (.pv (.one x))) K r
      | none=>False
    | .ov (.agg cs)=>match zOv cs with
      | some xs=>ghW (F.set s (.pv (.agg xs))) K r
      | none=>False
    | _=>False):=rfl
theorem yYy {s j base:Nat} {pt:List (Opd×Nat)} {r:List Gh}:ghW F K (.vfp s j base pt::r)=(match F.getD s .un with
    | .ov (.one root)=>match root.get (zDn F pt).2 with
      | some y=>match y.frz with
        | some x=>(zDn F pt).1∧ghW (F.set s (.ov (.one (root.upd (zDn F pt).2 (.p x))))) K r
        | none=>False
      | none=>False
    | _=>False):=rfl
theorem yYz {s j base:Nat} {r:List Gh}:ghW F K (.ffr s j base::r)=(match F.getD s .un with
    | .own _ k rows=>ghW (F.set s (.pv (.one (.w (frP Glob.n) (.sl k rows))))) K r
    | .ov (.one (.os _ _ k rows))=>match zCz rows with
      | some rs=>ghW (F.set s (.pv (.one (.w (frP Glob.n) (.sl k rs))))) K r
      | none=>False
    | _=>False):=rfl
theorem yYA {s:Nat} {r:List Gh}:ghW F K (.vmf s::r)=(match F.getD s .un with
    | .ov (.one (.mp b ks vs))=>match zOv vs with
      | some xs=>yJl vs=true∧ghW (F.set s (.ov (.one (.mp b ks (xs.map fun x=>.p (.w (frP Glob.n) x)))))) K r
      | none=>False
    | _=>False):=rfl
theorem ySR {x:Opd} {r kk:Nat} {k:Opd} {KK:Nat→List Value→List OV→Value→Prop} {b:Nat} {ks:List Value} {vs:List OV} {p:PVal} {kv:Value} (e1:zYn F x=some b) (e2:F.getD r .un=.ov (.one (.mp b ks vs))) (e3:(zAn F k).pv?=some p) (e4:yNb p.norm=some kv) (hn:(zAn F k).need) (h1:zTW kv=kk) (h2:∀ q∈ks,zTW q=kk) (h:KK b ks vs kv):zYo F x r kk k KK:=by
  unfold zYo
  simp only [e1,e2,e3,e4]
  exact ⟨trivial,hn,h1,h2,h⟩
theorem yYB {d:Nat} {x:Opd} {r b:Nat} {ks:List Value} {vs:List OV} (e1:zYn F x=some b) (e2:F.getD r .un=.ov (.one (.mp b ks vs))) (h:K (F.set d (.ov (.one (.it b ks.length []))))):hoW P ⟨none,.mrg d x r⟩ F K X:=by
  show opW P (.mrg d x r) F K X
  simp only [opW,e1,e2]
  exact ⟨trivial,h⟩
theorem yYC {d it r b n:Nat} {seen:List Nat} {ks:List Value} {vs:List OV} {ys:List PV} (e1:F.getD it .un=.ov (.one (.it b n seen))) (e2:F.getD r .un=.ov (.one (.mp b ks vs))) (e3:zFO vs=some ys) (hn:n=ks.length) (h1:d≠it) (h2:it≠r)
    (h3:(∀ i,i < n→i∈seen)→K (F.set d (.tup [bv false]))) (h4:∀ i,i < n→i∉seen→K ((F.set it (.ov (.one (.it b n (seen++[i]))))).set d (.tup [bv true,yNa (ks.getD i .nilIface),.one (ys.getD i (.nl 0))]))):hoW P ⟨none,.mnx d it r⟩ F K X:=by
  show opW P (.mnx d it r) F K X
  simp only [opW,e1,e2,e3]
  exact ⟨trivial,hn,h1,h2,h3,h4⟩
theorem yYD {d it r b n i:Nat} {seen:List Nat} {ks:List Value} {vs:List OV} {ys:List PV} (e1:F.getD it .un=.ov (.one (.it b n (seen++[i])))) (e2:F.getD r .un=.ov (.one (.mp b ks vs))) (e3:zFO vs=some ys) (hn:n=ks.length)
    (h:K (F.set d (.tup [yNa (ks.getD i .nilIface),.one (ys.getD i (.nl 0))]))):hoW P ⟨none,.men d it r⟩ F K X:=by
  show opW P (.men d it r) F K X
  simp only [opW,e1,e2,e3,List.getLast?_concat]
  exact ⟨trivial,hn,h⟩
theorem yWC {d:Option Nat} {e k r:Nat} {x y:Opd} {b i n1 n2:Nat} {rows:List (List OV)} (e1:zAn F x=.hds b k (i+1) n1) (e2:zAn F y=.hds b k i n2) (e3:F.getD r .un=.ov (.one (.os (some b) e k rows))) (hi:i < rows.length) (h2:n2=rows.length-i) (h1:n1=rows.length-i-1) (hd:d≠some r) (h:K (yCo (F.set r (.ov (.one (.os (some b) e k (zD3 i rows))))) d .un)):hoW P ⟨none,.cpy d e k r x y⟩ F K X:=by
  show opW P (.cpy d e k r x y) F K X
  simp only [opW,e1,e2,e3]
  exact ⟨trivial,trivial,trivial,trivial,trivial,trivial,trivial,hi,h2,h1,hd,h⟩
theorem yWD {d:Option Nat} {f r:Nat} {x:Opd} {args:List (Opd×AM)} {b k0 e k:Nat} {rows rows':List (List OV)} (e1:zAn F x=.hdp b k0 rows.length) (e2:F.getD r .un=.ov (.one (.os (some b) e k rows))) (hne:rows≠[]) (hd:d≠some r) (h1:(zBR F args).1) (h2:zTV P f e k rows (zBR F args).2 rows') (h:K (yCo (F.set r (.ov (.one (.os (some b) e k rows')))) d .un)):hoW P ⟨none,.cals d f r x args⟩ F K X:=by
  show opW P (.cals d f r x args) F K X
  simp only [opW,e1,e2]
  exact ⟨trivial,trivial,hne,hd,h1,rows',h2,h⟩
theorem yYE:zDn F []=(True,[]):=rfl
theorem yUm {x:OV}:x.get []=some x:=by cases x<;>rfl
theorem yUn {x y:OV}:x.upd [] y=y:=by cases x<;>rfl
theorem yBs {b:Option Nat} {e k:Nat} {rows:List (List OV)} {rs:List (List PV)} (h:zCz rows=some rs):(OV.os b e k rows).frz=some (.sl k rs):=by simp only [OV.frz,h]
theorem yBt:∀ (r:List PV),zOv (r.map OV.p)=some r
  | []=>rfl
  | x::r=>by simp only [List.map_cons,zOv,OV.frz,yBt r]
theorem zFS:∀ (rows:List (List PV)),zCz (rows.map fun r=>r.map OV.p)=some rows
  | []=>rfl
  | r::rows=>by simp only [List.map_cons,zCz,yBt,zFS rows]
theorem yYF {x:Opd}:hoW P ⟨none,.pan x⟩ F K X=(match (zAn F x).pv? with
    | some (.one (.v (.iface t u)))=>(zAn F x).need∧X (.iface t u) F
    | _=>False):=rfl
section
variable {E:Env} {base:Nat} {av:List AV} {t:Nat} {x:PVal}
theorem zAb {p:PVal} (e:(zAn F (.t t)).pv?=some p) (n:(zAn F (.t t)).need) (h:x=p∨x=p.norm) (hio:ioOf av=none:=by rfl):yGw E base av [.tmp t] {res:=.val x} .ret F:=by
  refine ⟨?_,fun cs h=>by rw [hio] at h;cases h⟩
  simp only [zJQ,rsV,e]
  exact ⟨n,h⟩
theorem zDb {e k:Nat} {rows:List (List PV)} (h:F.getD t .un=.own e k rows) (hio:ioOf av=none:=by rfl):yGw E base av [.tmp t] {res:=.own e k rows} .ret F:=
  ⟨h,fun cs h=>by rw [hio] at h;cases h⟩
theorem yPx {v:OVal} (h:F.getD t .un=.ov v) (hio:ioOf av=none:=by rfl):yGw E base av [.tmp t] {res:=.ov v} .ret F:=
  ⟨h,fun cs h=>by rw [hio] at h;cases h⟩
theorem yBu {j bs off n:Nat} {agg:Bool} {cs:List OV} {v:OVal} (e:F.getD t .un=.ptr j off) (h:zC1 F (bs+off) n=some cs) (hx:v=yM8 agg cs) (hio:ioOf av=none:=by rfl):yGw E base av [.cellB t j bs off n agg] {res:=.ov v} .ret F:=
  ⟨⟨e,cs,h,hx⟩,fun _ h=>by rw [hio] at h;cases h⟩
theorem yCF {cells io:List PV} (hio:ioOf av=some cells) (hc:zBq F base cells.length=some io):yGw E base av [] {res:=.tup [],io:=io} .ret F:=
  ⟨rfl,fun cs h=>by rw [hio] at h;injection h with h;subst h;exact hc⟩
theorem zAL {rs:List RSrc} {xs:List PVal} (hn:∀ r,rs≠[r]) (h:yL8 F rs xs) (hio:ioOf av=none:=by rfl):yGw E base av rs {res:=.tup xs} .ret F:=by
  refine ⟨?_,fun cs h=>by rw [hio] at h;cases h⟩
  simp only [zJQ]
  first
    | exact h
    | (split
       · rename_i r;exact (hn r rfl).elim
       · exact h)
theorem yNr {j bs off n:Nat} {agg:Bool} {cs:List PV} (e:F.getD t .un=.ptr j off) (h:zBq F (bs+off) n=some cs) (hx:x=(if agg then PVal.agg cs else .one (cs.headD (.nl 0)))∨x=(if agg then PVal.agg cs else .one (cs.headD (.nl 0))).norm) (hio:ioOf av=none:=by rfl):yGw E base av [.cellB t j bs off n agg] {res:=.val x} .ret F:=by
  refine ⟨?_,fun cs h=>by rw [hio] at h;cases h⟩
  simp only [zJQ,rsV,e,h]
  exact ⟨trivial,trivial,hx⟩
theorem zCH {j bs off n:Nat} {agg:Bool} {cs:List PV} (e:F.getD t .un=.ptr j off) (h:zBq F (bs+off) n=some cs) (hx:x=if agg then .agg cs else .one (cs.headD (.nl 0))) (hio:ioOf av=none:=by rfl):yGw E base av [.cellB t j bs off n agg] {res:=.val x} .ret F:=yNr e h (.inl hx) hio
theorem zA5 {p:PVal} (e:(zAn F (.t t)).pv?=some p) (n:(zAn F (.t t)).need) (h:x=p∨x=p.norm):rsV F (.tmp t) x:=by
  simp only [rsV,e];exact ⟨n,h⟩
theorem zAN {j bs off n:Nat} {agg:Bool} {cs:List PV} (e:F.getD t .un=.ptr j off) (h:zBq F (bs+off) n=some cs) (hx:x=(if agg then PVal.agg cs else .one (cs.headD (.nl 0)))∨x=(if agg then PVal.agg cs else .one (cs.headD (.nl 0))).norm):rsV F (.cellB t j bs off n agg) x:=by
  simp only [rsV,e,h];exact ⟨trivial,trivial,hx⟩
end
end
attribute [go_sem ↓] yYr yTT yTU yX1 yX2 yX3 yX4 yWo yWp yWb yXO yXP yWc yWd yXQ yXR yWe yWf yTR yZP yXS yWg yWh yZQ yZR yXT yXU yXV yXW yXX yXZ yTS yWj yX0 yTV yTW yTX yTY yWk yWl yWm yWn yYm yYn yYo yYp yYq yYs yYt yYv yYw yYx yYz yYy yX5 yT8 yJo yYc yYd yYe yYf yYg yYh yUg yYi yYj yYk yYl yYF yX6 yX7 yUe yX8 yRl yX9
attribute [go_sem] yVn implies_true and_self yPv Bool.not_eq_true' Bool.not_eq_false' Bool.not_not decide_eq_true_eq decide_eq_false_iff_not Nat.not_lt Int.not_lt Int.not_le gt_iff_lt ge_iff_le yUf yYE yUm yUn OVal.cells zG7 zQb zC1 yJb zAV yM8 zYg zYh clr yRh yRi yRj yRk ev zAn Ct.pv? Ct.pw? PVal.un PV.un Option.map_some Ct.need zYj yCf true_and and_true zEh yQK yQ5 yXY yWi List.cons_append List.nil_append yYa yWx yYb yWy zCA zBY zC6 zEI zFm zLR PVal.cells PVal.norm PV.norm zBq zP9 zBR zEO yNk yCo zAX zEN zBw zJM zFc zDF if_true if_false Bool.false_eq_true imp_self forall_const List.map_cons List.map_nil List.length_cons List.length_nil Nat.zero_add ite_true ite_false List.take_succ_cons List.take_zero List.drop_zero List.drop_succ_cons List.headD_cons Nat.le_refl beq_true beq_false cond_true cond_false Bool.and_true Bool.true_and Bool.and_false Bool.false_and Int.toNat_natCast ne_eq not_false_eq_true not_true_eq_false List.getElem?_cons_zero List.getElem?_cons_succ zMJ List.replicate bad
end Go.Hx
end

section
namespace Go.Hx
variable [Glob]
theorem Contract.av {P:Go.Program} {f:Nat} {av av':List AV} {r:RV} (h:Contract P f av r) (e:av'=av):Contract P f av' r:=e▸h
abbrev Bys:=List UInt8
structure Nd where
 up:Int
 tag:Bys
 id:Bys
 cls:List Bys
 att:List (Bys×Bys)
 deriving DecidableEq,Inhabited
abbrev bI (n:Int):PV:=.v (.int .i64 n)
abbrev bS (l:Bys):PV:=.v (mkS l)
abbrev bB (b:Bool):PV:=.v (.bool b)
def yCG (l:List Bys):List (List PV):=l.map fun c=>[bS c]
def yCH (l:List (Bys×Bys)):List (List PV):=l.map fun a=>[bS a.1,bS a.2]
def ndV (x:Nd):List PV:=[bI x.up,bS x.tag,bS x.id,.sl 1 (yCG x.cls),.sl 2 (yCH x.att)]
def zDW (d:List Nd):List (List PV):=d.map ndV
def zB6 (d:List Nd):PVal:=.agg [.sl 5 (zDW d)]
def zAM (l:List Int):List (List PV):=l.map fun n=>[bI n]
theorem zAj (d:List Bys):(yCG d).length=d.length:=by simp [yCG]
theorem zAg (d:List (Bys×Bys)):(yCH d).length=d.length:=by simp [yCH]
theorem zAh (d:List Nd):(zDW d).length=d.length:=by simp [zDW]
theorem zAd (d:List Int):(zAM d).length=d.length:=by simp [zAM]
theorem zGq (d:List Bys) (i:Nat) (h:i < d.length):(yCG d).getD i []=[bS (d.getD i [])]:=by simp [yCG,h]
theorem zGr (d:List (Bys×Bys)) (i:Nat) (h:i < d.length):(yCH d).getD i []=[bS (d.getD i default).1,bS (d.getD i default).2]:=by simp [yCH,h]
theorem zBv (d:List Nd) (i:Nat) (h:i < d.length):(zDW d).getD i []=ndV (d.getD i default):=by simp [zDW,h]
theorem zDc (d:List Int) (i:Nat) (h:i < d.length):(zAM d).getD i []=[bI (d.getD i 0)]:=by simp [zAM,h]
theorem zHe {n:Int} (h1:-9223372036854775808≤n) (h2:n≤9223372036854775807):inR .i64 n:=⟨h1,h2⟩
theorem zAt {p q:Prop} (hq:q) (hp:p:=by (first|omega|exact zHe (by omega) (by omega)|exact fun _=>zHe (by omega) (by omega)|((with_reducible refine yVG ?_);first|omega|(simp_all;done)|(simp_all;omega)|grind)|assumption|trivial|(intros;omega)|(intro s h;injection h with h;subst h;decide)|(simp_all;done)|(intros;simp [*];done)|(simp_all;omega)|grind)):p∧q:=⟨hp,hq⟩
theorem zMT {α:Type} {p:α→Bool} {l:List α} {i:Nat} {d:α} (h:i < l.length):(l.take (i+1)).all p=((l.take i).all p&&p (l.getD i d)):=by
 rw [List.take_add_one,List.all_append]
 simp [h]
theorem zAB {n m:Bool} (h:n=m):leC (.pv (bv n)) (.pv (bv m)):=zAU (by rw [h])
theorem zGs {α:Type} {a b:List α} {i:Nat} (d:α) (h:a.take i=b.take i) (ha:i < a.length) (hb:i < b.length) (e:a.getD i d=b.getD i d):a.take (i+1)=b.take (i+1):=by
 rw [List.take_succ_eq_append_getElem ha,List.take_succ_eq_append_getElem hb,h]
 simp [ha,hb] at e
 rw [e]
theorem zOH {α:Type} {a b:List α} {i:Nat} (d:α) (e:a.getD i d≠b.getD i d):a≠b:=fun h=>e (by rw [h])
theorem zK8 {α:Type} {a b:List α} (hl:a.length=b.length) (h:a.take a.length=b.take a.length):a=b:=by
 rw [List.take_length,hl,List.take_length] at h;exact h
theorem zC2 {k:Nat} {rows:List (List PV)} (h:PV.fits (.sl k rows)):rows.length≤9223372036854775807:=by
 simp only [PV.fits,maxLen] at h;omega
def zQj (c:UInt8):Bool:=decide (97≤c.toNat∧c.toNat≤122)||decide (48≤c.toNat∧c.toNat≤57)||decide (c.toNat=45)
def yNs (c:UInt8):Bool:=decide (32≤c.toNat∧c.toNat≤126)&&!decide (c.toNat=34)
def zCg (s:Bys):Bool:=decide (1≤s.length∧s.length≤12)&&decide (97≤(s.getD 0 0).toNat∧(s.getD 0 0).toNat≤122)&&s.all zQj
def zFd (s:Bys):Bool:=decide (s.length≤16)&&s.all yNs
def cOk (l:List Bys) (k:Nat):Bool:=zCg (l.getD k [])&&(decide (k=0)||Op.bytesLess (l.getD (k-1) []) (l.getD k []))
def okC (l:List Bys) (i:Nat):Bool:=(List.range i).all (cOk l)
def aOk (l:List (Bys×Bys)) (k:Nat):Bool:=zCg (l.getD k default).1&&zFd (l.getD k default).2&&(decide (k=0)||Op.bytesLess (l.getD (k-1) default).1 (l.getD k default).1)
def okA (l:List (Bys×Bys)) (i:Nat):Bool:=(List.range i).all (aOk l)
def zBo (x:Nd):Bool:=zCg x.tag&&(x.id==[]||zCg x.id)&&decide (x.cls.length≤6)&&decide (x.att.length≤4)&&okC x.cls x.cls.length&&okA x.att x.att.length
theorem zDH {p:Nat→Bool} {i:Nat}:(List.range (i+1)).all p=((List.range i).all p&&p i):=by
 rw [List.range_succ,List.all_append];simp
theorem zBi {p:Nat→Bool} {n i:Nat} (h:(List.range n).all p=true) (hi:i < n):p i=true:=by
 rw [List.all_eq_true] at h
 exact h i (List.mem_range.2 hi)
theorem yGS {p:Nat→Bool} {n i:Nat} (h:(List.range n).all p=true) (hi:i≤n):(List.range i).all p=true:=by
 rw [List.all_eq_true] at *
 exact fun x hx=>h x (List.mem_range.2 (Nat.lt_of_lt_of_le (List.mem_range.1 hx) hi))
def zAZ (d:List Nd) (i:Nat):Int:=(d.getD i default).up
def zBN (d:List Nd):Nat→Int→List Int
 |0,_=>[]
 |f+1,k=>if k < 0 then [] else k::zBN d f (zAZ d k.toNat)
def yNt (d:List Nd) (i:Nat):Bool:=if i=0 then decide (zAZ d 0=-1) else (zBN d i ((i:Int)-1)).contains (zAZ d i)
def yCI (d:List Nd) (i:Nat):Bool:=zBo (d.getD i default)&&yNt d i
def zDI (d:List Nd) (n:Nat):Bool:=(List.range n).all (yCI d)
def zAl (d:List Nd):Int:=if 1≤d.length∧d.length≤64 then (if zDI d d.length then 0 else 1) else 2
theorem zFT {d:List Nd}:∀ (f:Nat) (k:Int),(∀ j:Nat,(j:Int)≤k→zAZ d j < j)→∀ x∈zBN d f k,0≤x∧x≤k
 |0,k,_,x,hx=>by simp [zBN] at hx
 |f+1,k,h,x,hx=>by
  simp only [zBN] at hx
  split at hx
  ·cases hx
  ·rename_i hk
   rcases List.mem_cons.1 hx with rfl|hx
   ·omega
   ·have h1:=h k.toNat (by omega)
    have:=zFT f (zAZ d k.toNat) (fun j hj=>h j (by omega)) x hx
    omega
theorem zB3 {d:List Nd}:∀ {n:Nat},zDI d n=true→∀ j,j < n→-1≤zAZ d j∧zAZ d j < j
 |0,_,j,hj=>by omega
 |n+1,h,j,hj=>by
  have h0:zDI d n=true:=yGS h (Nat.le_succ n)
  by_cases hjn:j < n
  ·exact zB3 h0 j hjn
  ·have e:j=n:=by omega
   subst e
   have h1:=zBi h (Nat.lt_succ_self j)
   simp only [yCI,yNt,Bool.and_eq_true] at h1
   split at h1
   ·rename_i e;subst e;simp at h1;omega
   ·have h2:zAZ d j∈zBN d j ((j:Int)-1):=by simpa using h1.2
    have:=zFT j ((j:Int)-1) (fun k hk=>(zB3 h0 k (by omega)).2) _ h2
    omega
theorem zHf {d:List Nd}:∀ (f g:Nat) (k:Int),(∀ j:Nat,(j:Int)≤k→zAZ d j < j)→k < f→k < g→zBN d f k=zBN d g k
 |0,g,k,_,h1,_=>by
  have:k < 0:=by omega
  cases g<;>simp [zBN,this]
 |f+1,0,k,_,_,h2=>by
  have:k < 0:=by omega
  simp [zBN,this]
 |f+1,g+1,k,h,h1,h2=>by
  simp only [zBN]
  split
  ·rfl
  ·rename_i hk
   have h3:=h k.toNat (by omega)
   rw [zHf f g (zAZ d k.toNat) (fun j hj=>h j (by omega)) (by omega) (by omega)]
end Go.Hx
end

section
set_option maxRecDepth 100000
namespace Go.Hx
variable [Glob]
def Wr (q:Prop):Prop:=q
theorem wrId {q:Prop}:Wr q→q:=id
theorem sAndI {p q r:Prop} (hq:r→q) (hp:p:=by (first|omega|exact zHe (by omega) (by omega)|exact fun _=>zHe (by omega) (by omega)|((with_reducible refine yVG ?_);first|omega|(simp_all;done)|(simp_all;omega)|grind)|assumption|trivial|(intros;omega)|(intro s h;injection h with h;subst h;decide)|(simp_all;done)|(intros;simp [*];done)|(simp_all;omega)|grind)):r→p∧q:=fun h=>⟨hp,hq h⟩
theorem goW {p q:Prop} (h:q) (e:Wr q→p:=by ((try simp (maxSteps:=2000000) only [go_sem,reduceCtorEq,Nat.reduceAdd,Nat.reduceEqDiff,reduceIte,Nat.reduceLeDiff,Nat.reduceLT,Nat.reduceSub]);(repeat (with_reducible refine sAndI ?_));exact wrId)):p:=e h
theorem goU {p q:Prop} (h:q) (e:Wr q→p:=by (simp (maxSteps:=2000000) only [yGN,List.set_cons_succ,List.set_cons_zero,List.map_cons,List.map_nil,yCC,zAi,ioOf,List.length_cons,List.length_nil,Nat.reduceAdd,Nat.reduceSub,List.replicate,List.cons_append,List.nil_append];(try simp (maxSteps:=2000000) only [go_sem,reduceCtorEq,Nat.reduceAdd,Nat.reduceEqDiff,reduceIte,Nat.reduceLeDiff,Nat.reduceLT,Nat.reduceSub]);(repeat (with_reducible refine sAndI ?_));exact wrId)):p:=e h
theorem leA {p:Prop} (h:p:=by (simp (maxSteps:=2000000) only [go_sem,reduceCtorEq,Nat.reduceAdd,Nat.reduceEqDiff,reduceIte,Nat.reduceLeDiff,Nat.reduceLT,Nat.reduceSub,zAu,zAE,zA9,zAv];all_goals (repeat' (first|exact trivial|exact zAI (by omega)|exact zAB rfl|exact zAU rfl|exact zAW|exact le_refl _|refine And.intro ?_ ?_)))):p:=h
end Go.Hx
end

section
set_option maxRecDepth 100000
namespace Go.Hx
abbrev Key:=Int×Bys
structure Ent where
 kind:Int
 name:Bys
 nodes:List Int
 deriving DecidableEq,Inhabited
def Ent.key (e:Ent):Key:=(e.kind,e.name)
theorem Ent.ext' {a b:Ent} (h:a.key=b.key) (h2:a.nodes=b.nodes):a=b:=by
 obtain ⟨k,n,l⟩:=a
 obtain ⟨k',n',l'⟩:=b
 simp only [Ent.key,Prod.mk.injEq] at h h2
 obtain ⟨rfl,rfl⟩:=h
 subst h2;rfl
def zAJ (a b:Key):Bool:=if a.1=b.1 then Op.bytesLess a.2 b.2 else decide (a.1 < b.1)
theorem zJS:∀ x:Bys,Op.bytesLess x x=false
 |[]=>rfl
 |a::x=>by
  rw [Op.bytesLess,zJS x]
  simp
theorem zUn:∀ x y:Bys,Op.bytesLess x y=false→Op.bytesLess y x=false→x=y
 |[],[],_,_=>rfl
 |[],b::y,h,_=>by simp [Op.bytesLess] at h
 |a::x,[],_,h=>by simp [Op.bytesLess] at h
 |a::x,b::y,h,g=>by
  rw [Op.bytesLess] at h g
  simp only [Bool.or_eq_false_iff,decide_eq_false_iff_not,Bool.and_eq_false_iff,beq_eq_false_iff_ne] at h g
  have e:a=b:=by
   have h1:=h.1;have g1:=g.1
   apply UInt8.toNat_inj.1
   rw [UInt8.lt_iff_toNat_lt] at h1 g1
   omega
  subst e
  have h2:Op.bytesLess x y=false:=h.2.resolve_left (fun h=>h rfl)
  have g2:Op.bytesLess y x=false:=g.2.resolve_left (fun h=>h rfl)
  rw [zUn x y h2 g2]
theorem zLX:∀ x y z:Bys,Op.bytesLess x y=true→Op.bytesLess y z=true→Op.bytesLess x z=true
 |x,[],z,h,_=>by cases x<;>simp [Op.bytesLess] at h
 |x,b::y,[],_,h=>by simp [Op.bytesLess] at h
 |[],b::y,c::z,_,_=>by simp [Op.bytesLess]
 |a::x,b::y,c::z,h,g=>by
  rw [Op.bytesLess] at h g ⊢
  simp only [Bool.or_eq_true,decide_eq_true_eq,Bool.and_eq_true,beq_iff_eq] at h g ⊢
  rw [UInt8.lt_iff_toNat_lt] at h g ⊢
  rcases h with h|⟨rfl,h⟩
  ·rcases g with g|⟨rfl,g⟩
   ·exact .inl (by omega)
   ·exact .inl h
  ·rcases g with g|⟨rfl,g⟩
   ·exact .inl g
   ·exact .inr ⟨rfl,zLX x y z h g⟩
theorem zBy (k:Key):zAJ k k=false:=by unfold zAJ;rw [if_pos rfl,zJS]
theorem zIS {a b:Key} (h:zAJ a b=false) (g:zAJ b a=false):a=b:=by
 unfold zAJ at h g
 by_cases e:a.1=b.1
 ·rw [if_pos e] at h
  rw [if_pos e.symm] at g
  exact Prod.ext e (zUn _ _ h g)
 ·rw [if_neg e] at h
  rw [if_neg (fun h=>e h.symm)] at g
  simp only [decide_eq_false_iff_not] at h g
  omega
theorem zEk {a b c:Key} (h:zAJ a b=true) (g:zAJ b c=true):zAJ a c=true:=by
 unfold zAJ at h g ⊢
 by_cases e:a.1=b.1
 ·rw [if_pos e] at h
  by_cases e2:b.1=c.1
  ·rw [if_pos e2] at g
   rw [if_pos (e.trans e2)]
   exact zLX _ _ _ h g
  ·rw [if_neg e2] at g
   rw [if_neg (by omega)]
   simp only [decide_eq_true_eq] at g ⊢
   omega
 ·rw [if_neg e] at h
  simp only [decide_eq_true_eq] at h
  by_cases e2:b.1=c.1
  ·rw [if_neg (by omega)]
   simp only [decide_eq_true_eq];omega
  ·rw [if_neg e2] at g
   simp only [decide_eq_true_eq] at g
   rw [if_neg (by omega)]
   simp only [decide_eq_true_eq];omega
theorem zIT {a b:Key} (h:zAJ a b=true):zAJ b a=false:=by
 cases g:zAJ b a with
 |false=>rfl
 |true=>have:=zEk h g;rw [zBy] at this;cases this
def zLx (l:List Ent):Prop:=l.Pairwise fun a b=>zAJ a.key b.key=true
theorem yBv:∀ {a b:List Ent},zLx a→zLx b→(∀ e,e∈a↔e∈b)→a=b
 |[],[],_,_,_=>rfl
 |[],y::r,_,_,h=>by have:=(h y).2 List.mem_cons_self;cases this
 |x::r,[],_,_,h=>by have:=(h x).1 List.mem_cons_self;cases this
 |x::r,y::s,ha,hb,h=>by
  obtain ⟨a1,a2⟩:=List.pairwise_cons.1 ha
  obtain ⟨b1,b2⟩:=List.pairwise_cons.1 hb
  have e:x=y:=by
   rcases List.mem_cons.1 ((h x).1 List.mem_cons_self) with e|hx
   ·exact e
   ·rcases List.mem_cons.1 ((h y).2 List.mem_cons_self) with e|hy
    ·exact e.symm
    ·have h1:=b1 x hx
     have h2:=a1 y hy
     rw [zIT h1] at h2;cases h2
  subst e
  have hm:∀ e,e∈r↔e∈s:=fun e=>by
   constructor
   ·intro he
    rcases List.mem_cons.1 ((h e).1 (List.mem_cons_of_mem _ he)) with rfl|h1
    ·have:=a1 e he;rw [zBy] at this;cases this
    ·exact h1
   ·intro he
    rcases List.mem_cons.1 ((h e).2 (List.mem_cons_of_mem _ he)) with rfl|h1
    ·have:=b1 e he;rw [zBy] at this;cases this
    ·exact h1
  rw [yBv a2 b2 hm]
def yBw:List Ent→Key→Int→List Ent
 |[],k,n=>[⟨k.1,k.2,[n]⟩]
 |e::r,k,n=>if zAJ e.key k then e::yBw r k n else if zAJ k e.key then ⟨k.1,k.2,[n]⟩::e::r else ⟨e.kind,e.name,e.nodes++[n]⟩::r
def atK (l:List Ent) (k:Key):List Int:=((l.find? fun e=>decide (e.key=k)).map (·.nodes)).getD []
theorem yCJ:∀ (l:List Ent) (k:Key) (n:Int),zLx l→∀ e,e∈yBw l k n↔(e∈l∧e.key≠k)∨(e.key=k∧e.nodes=atK l k++[n])
 |[],k,n,_,e=>by
  simp only [yBw,List.mem_singleton,List.not_mem_nil,false_and,false_or,atK,List.find?_nil,Option.map_none,Option.getD_none,List.nil_append]
  constructor
  ·rintro rfl;exact ⟨rfl,rfl⟩
  ·rintro ⟨h1,h2⟩;exact Ent.ext' h1 h2
 |x::r,k,n,hs,e=>by
  obtain ⟨s1,s2⟩:=List.pairwise_cons.1 hs
  simp only [yBw]
  by_cases h1:zAJ x.key k=true
  ·rw [if_pos h1]
   have hne:x.key≠k:=by rintro rfl;rw [zBy] at h1;cases h1
   have ha:atK (x::r) k=atK r k:=by unfold atK;rw [List.find?_cons_of_neg (by simpa using hne)]
   rw [List.mem_cons,yCJ r k n s2 e,ha,List.mem_cons]
   constructor
   ·rintro (rfl|⟨h,g⟩|h)
    ·exact .inl ⟨.inl rfl,hne⟩
    ·exact .inl ⟨.inr h,g⟩
    ·exact .inr h
   ·rintro (⟨rfl|h,g⟩|h)
    ·exact .inl rfl
    ·exact .inr (.inl ⟨h,g⟩)
    ·exact .inr (.inr h)
  ·have h1:zAJ x.key k=false:=eq_false_of_ne_true h1
   rw [if_neg (by rw [h1];decide)]
   by_cases h2:zAJ k x.key=true
   ·rw [if_pos h2]
    have hne:∀ y∈x::r,y.key≠k:=fun y hy=>by
     rcases List.mem_cons.1 hy with rfl|hy
     ·rintro rfl;rw [zBy] at h2;cases h2
     ·rintro rfl
      have:=zEk h2 (s1 y hy)
      rw [zBy] at this;cases this
    have ha:atK (x::r) k=[]:=by
     unfold atK
     rw [List.find?_eq_none.2 (fun y hy=>by simpa using hne y hy)];rfl
    rw [List.mem_cons,ha,List.nil_append]
    constructor
    ·rintro (rfl|h)
     ·exact .inr ⟨rfl,rfl⟩
     ·exact .inl ⟨h,hne e h⟩
    ·rintro (⟨h,_⟩|⟨h,g⟩)
     ·exact .inr h
     ·exact .inl (Ent.ext' h g)
   ·have h2:zAJ k x.key=false:=eq_false_of_ne_true h2
    rw [if_neg (by rw [h2];decide)]
    have he:=zIS h1 h2
    have ha:atK (x::r) k=x.nodes:=by unfold atK;rw [List.find?_cons_of_pos (by simpa using he)];rfl
    have hne:∀ y∈r,y.key≠k:=fun y hy=>by
     rintro rfl
     have:=s1 y hy
     rw [he,zBy] at this;cases this
    rw [List.mem_cons,ha,List.mem_cons]
    constructor
    ·rintro (rfl|h)
     ·exact .inr ⟨he,rfl⟩
     ·exact .inl ⟨.inr h,hne e h⟩
    ·rintro (⟨rfl|h,g⟩|⟨h,g⟩)
     ·exact absurd he g
     ·exact .inr h
     ·exact .inl (Ent.ext' (h.trans he.symm) g)
theorem zUo:∀ (l:List Ent) (k:Key) (n:Int),zLx l→zLx (yBw l k n)
 |[],k,n,_=>List.pairwise_singleton _ _
 |x::r,k,n,hs=>by
  obtain ⟨s1,s2⟩:=List.pairwise_cons.1 hs
  simp only [yBw]
  by_cases h1:zAJ x.key k=true
  ·rw [if_pos h1]
   refine List.pairwise_cons.2 ⟨fun y hy=>?_,zUo r k n s2⟩
   rcases (yCJ r k n s2 y).1 hy with ⟨h,_⟩|⟨h,_⟩
   ·exact s1 y h
   ·rw [h];exact h1
  ·have h1:zAJ x.key k=false:=eq_false_of_ne_true h1
   rw [if_neg (by rw [h1];decide)]
   by_cases h2:zAJ k x.key=true
   ·rw [if_pos h2]
    refine List.pairwise_cons.2 ⟨fun y hy=>?_,hs⟩
    rcases List.mem_cons.1 hy with rfl|hy
    ·exact h2
    ·exact zEk h2 (s1 y hy)
   ·rw [if_neg h2]
    exact List.pairwise_cons.2 ⟨fun y hy=>s1 y hy,s2⟩
def zQk (x:Nd):List Key:=(1,x.tag)::((if x.id=[] then [] else [(2,x.id)])++x.cls.map fun c=>(3,c))
def zDd (d:List Nd):Nat→List (Key×Int)
 |0=>[]
 |n+1=>zDd d n++(zQk (d.getD n default)).map fun k=>(k,(n:Int))
def zCI (ps:List (Key×Int)):List Ent:=ps.foldl (fun l p=>yBw l p.1 p.2) []
def zBF (d:List Nd):List Ent:=zCI (zDd d d.length)
def zAK (ps:List (Key×Int)) (k:Key):List Int:=(ps.filter fun p=>decide (p.1=k)).map (·.2)
theorem zUp (ps:List (Key×Int)) (p:Key×Int):zCI (ps++[p])=yBw (zCI ps) p.1 p.2:=by
 unfold zCI;rw [List.foldl_append];rfl
theorem zMU:∀ (n:Nat) (ps:List (Key×Int)),ps.length=n→zLx (zCI ps)∧∀ e,e∈zCI ps↔e.key∈ps.map (·.1)∧e.nodes=zAK ps e.key
 |0,ps,h=>by
  have:ps=[]:=List.eq_nil_of_length_eq_zero h
  subst this
  exact ⟨List.Pairwise.nil,fun e=>by simp [zCI]⟩
 |n+1,ps,h=>by
  obtain ⟨qs,p,rfl⟩:∃ qs p,ps=qs++[p]:=by
   refine ⟨ps.dropLast,ps.getLast (by intro e;rw [e] at h;cases h),(List.dropLast_concat_getLast _).symm⟩
  obtain ⟨h1,h2⟩:=zMU n qs (by simpa using h)
  rw [zUp]
  refine ⟨zUo _ _ _ h1,fun e=>?_⟩
  have hat:∀ k,atK (zCI qs) k=zAK qs k:=fun k=>by
   unfold atK
   cases hf:(zCI qs).find? (fun e=>decide (e.key=k)) with
   |none=>
    rw [List.find?_eq_none] at hf
    have:zAK qs k=[]:=by
     unfold zAK
     rw [List.filter_eq_nil_iff.2 (fun q hq=>?_)]
     ·rfl
     ·intro hk
      have hk:q.1=k:=by simpa using hk
      have hm:(⟨k.1,k.2,zAK qs k⟩:Ent)∈zCI qs:=(h2 _).2 ⟨List.mem_map.2 ⟨q,hq,hk⟩,rfl⟩
      exact hf _ hm (by simp [Ent.key])
    rw [this];rfl
   |some x=>
    have hx:=List.mem_of_find?_eq_some hf
    have hk:x.key=k:=by have:=List.find?_some hf;simpa using this
    have:=((h2 x).1 hx).2
    rw [hk] at this
    exact this
  rw [yCJ _ _ _ h1 e,h2,hat]
  have hn:zAK (qs++[p]) e.key=zAK qs e.key++(if p.1=e.key then [p.2] else []):=by
   unfold zAK
   rw [List.filter_append,List.map_append]
   congr 1
   by_cases hp:p.1=e.key<;>simp [hp]
  rw [hn,List.map_append,List.mem_append]
  simp only [List.map_cons,List.map_nil,List.mem_singleton]
  by_cases hk:e.key=p.1
  ·rw [if_pos hk.symm,hk]
   constructor
   ·rintro (⟨_,h⟩|⟨_,h⟩)
    ·exact absurd rfl h
    ·exact ⟨.inr rfl,h⟩
   ·rintro ⟨_,h⟩;exact .inr ⟨rfl,h⟩
  ·rw [if_neg (fun h=>hk h.symm),List.append_nil]
   constructor
   ·rintro (⟨h,_⟩|⟨h,_⟩)
    ·exact ⟨.inl h.1,h.2⟩
    ·exact absurd h hk
   ·rintro ⟨h|h,g⟩
    ·exact .inl ⟨⟨h,g⟩,hk⟩
    ·exact absurd h hk
end Go.Hx
end

section
set_option maxRecDepth 100000
namespace Go.Hx
open Go.RowKit
def zME (k:Key):Value:=.agg #[.int .i64 k.1,mkS k.2]
theorem yUo {a b:Bys} (h:mkS a=mkS b):a=b:=by
 unfold mkS at h
 injection h with h
 injection h with h
 simpa using congrArg Array.toList h
theorem yRp {a b:Key} (h:zME a=zME b):a=b:=by
 unfold zME at h
 injection h with h
 have h:=congrArg Array.toList h
 simp only [List.cons.injEq,and_true] at h
 obtain ⟨h1,h2⟩:=h
 injection h1 with _ h1
 exact Prod.ext h1 (yUo h2)
def yMa (l:List Key) (k:Key):List Key:=if k∈l then l else l++[k]
def gK (ps:List (Key×Int)):List Key:=ps.foldl (fun l p=>yMa l p.1) []
theorem yPy (ps:List (Key×Int)) (p:Key×Int):gK (ps++[p])=yMa (gK ps) p.1:=by
 unfold gK;rw [List.foldl_append];rfl
theorem yBx (ps:List (Key×Int)):∀ (l:List Key),l.Nodup→(ps.foldl (fun l p=>yMa l p.1) l).Nodup∧∀ k,k∈ps.foldl (fun l p=>yMa l p.1) l↔k∈l∨k∈ps.map (·.1):=by
 induction ps with
 |nil=>intro l h;exact ⟨h,fun k=>by simp⟩
 |cons p r ih=>
  intro l h
  have h1:(yMa l p.1).Nodup∧∀ k,k∈yMa l p.1↔k∈l∨k=p.1:=by
   unfold yMa
   split
   ·rename_i hm
    refine ⟨h,fun k=>⟨.inl,?_⟩⟩
    rintro (h2|rfl)
    ·exact h2
    ·exact hm
   ·rename_i hm
    refine ⟨?_,fun k=>by simp⟩
    rw [List.nodup_append]
    refine ⟨h,by simp,fun a ha b hb e=>?_⟩
    rw [List.mem_singleton.1 hb] at e
    rw [e] at ha
    exact hm ha
  obtain ⟨i1,i2⟩:=ih _ h1.1
  refine ⟨i1,fun k=>?_⟩
  rw [List.foldl_cons,i2,h1.2,List.map_cons,List.mem_cons,or_assoc]
theorem yMb (ps:List (Key×Int)):(gK ps).Nodup:=(yBx ps [] List.nodup_nil).1
theorem yPz (ps:List (Key×Int)) (k:Key):k∈gK ps↔k∈ps.map (·.1):=by
 rw [show gK ps=ps.foldl (fun l p=>yMa l p.1) [] from rfl,(yBx ps [] List.nodup_nil).2];simp
def zK9 (e:Nat) (l:List Int):OV:=.os none e 1 (l.map fun n=>[.p (bI n)])
def mpO (b e:Nat) (ps:List (Key×Int)):OV:=.mp b ((gK ps).map zME) ((gK ps).map fun k=>zK9 e (zAK ps k))
theorem yCK (ps:List (Key×Int)):∀ q∈(gK ps).map zME,zTW q=3:=by
 intro q hq
 obtain ⟨k,_,rfl⟩:=List.mem_map.1 hq
 rfl
variable [Glob]
theorem yNu (a b:Key):zGH (zME a) (zME b)=decide (a=b):=by
 rw [Bool.eq_iff_iff,decide_eq_true_eq]
 constructor
 ·intro h
  exact yRp (yLQ h)
 ·rintro rfl
  simp only [zME,zGH,Bool.and_eq_true]
  exact ⟨yBi (.inl ⟨_,rfl⟩),yBi (.inr ⟨_,rfl⟩)⟩
theorem yMc (l:List Key) (k:Key):zQO (l.map zME) (zME k)=l.findIdx? (fun q=>decide (k=q)):=by
 unfold zQO
 rw [List.findIdx?_map]
 congr 1
 funext q
 exact yNu k q
theorem zQl (ps:List (Key×Int)) (k k':Key) (n:Int):zAK (ps++[(k,n)]) k'=zAK ps k'++(if k=k' then [n] else []):=by
 unfold zAK
 rw [List.filter_append,List.map_append]
 congr 1
 by_cases h:k=k'<;>simp [h]
theorem zUq (e:Nat) (l:List Int) (n:Int):zK9 e (l++[n])=.os none e 1 ((l.map fun n=>[.p (bI n)])++[[.p (bI n)]]):=by simp [zK9]
theorem yRq {b e:Nat} {ps:List (Key×Int)} {k:Key} {i:Nat} (hi:zQO ((gK ps).map zME) (zME k)=some i) (n:Int):
  i < ((gK ps).map fun k=>zK9 e (zAK ps k)).length∧((gK ps).map fun k=>zK9 e (zAK ps k)).getD i .hole=zK9 e (zAK ps k)∧
  zYm b ((gK ps).map zME) (((gK ps).map fun k=>zK9 e (zAK ps k)).set i .hole) (zME k) (zK9 e (zAK ps k++[n]))=mpO b e (ps++[(k,n)]):=by
 have hi0:=hi
 rw [yMc] at hi
 obtain ⟨h1,h2,h3⟩:=List.findIdx?_eq_some_iff_getElem.1 hi
 have hk:k=(gK ps)[i]:=by simpa using h2
 refine ⟨by simpa using h1,?_,?_⟩
 ·rw [List.getD_eq_getElem?_getD,List.getElem?_map,List.getElem?_eq_getElem h1]
  simp only [Option.map_some,Option.getD_some,←hk]
 ·unfold zYm
  rw [hi0]
  have hg:gK (ps++[(k,n)])=gK ps:=by
   rw [yPy];unfold yMa;rw [if_pos]
   show k∈gK ps
   rw [hk];exact List.getElem_mem h1
  unfold mpO
  rw [hg]
  simp only [OV.mp.injEq,true_and]
  apply List.ext_getElem
  ·simp
  ·intro j hj1 hj2
   simp only [List.length_map] at hj2
   simp only [List.set_set,List.getElem_set,List.getElem_map,zQl]
   by_cases e1:i=j
   ·subst e1
    rw [if_pos rfl,←hk,if_pos rfl]
   ·rw [if_neg e1,if_neg,List.append_nil]
    intro e2
    apply e1
    exact (List.getElem_inj (yMb ps)).1 (hk.symm.trans e2)
theorem yGT {ps:List (Key×Int)} {k:Key} (h:k∉gK ps):zAK ps k=[]:=by
 unfold zAK
 rw [List.filter_eq_nil_iff.2 (fun q hq=>?_)]
 ·rfl
 ·intro hk
  apply h
  rw [yPz]
  exact List.mem_map.2 ⟨q,hq,by simpa using hk⟩
theorem yUp {b e:Nat} {ps:List (Key×Int)} {k:Key} (hi:zQO ((gK ps).map zME) (zME k)=none) (n:Int):
  zAK ps k=[]∧zYm b ((gK ps).map zME) ((gK ps).map fun k=>zK9 e (zAK ps k)) (zME k) (zK9 e (zAK ps k++[n]))=mpO b e (ps++[(k,n)]):=by
 have hi0:=hi
 rw [yMc,List.findIdx?_eq_none_iff] at hi
 have hk:k∉gK ps:=fun hc=>by have:=hi k hc;simp at this
 have h0:=yGT hk
 refine ⟨h0,?_⟩
 unfold zYm
 rw [hi0]
 have hg:gK (ps++[(k,n)])=gK ps++[k]:=by
  rw [yPy];unfold yMa;rw [if_neg hk]
 unfold mpO
 rw [hg,List.map_append,List.map_append]
 simp only [OV.mp.injEq,true_and,List.map_cons,List.map_nil,zQl,if_true]
 congr 1
 apply List.map_congr_left
 intro q hq
 rw [if_neg,List.append_nil]
 rintro rfl
 exact hk hq
section
variable {P:Program} {F:List Ct} {K:List Ct→Prop} {X:Value→List Ct→Prop}
theorem yUq {d r b e:Nat} {x k:Opd} {ps:List (Key×Int)} {key:Key} {p:PVal} (e1:zYn F x=some b) (e2:F.getD r .un=.ov (.one (mpO b e ps))) (hr:r < F.length) (e3:(zAn F k).pv?=some p) (e4:yNb p.norm=some (zME key)) (hn:(zAn F k).need) (hd:d≠r)
  (h:∀ K1 V1,(∀ q∈K1,zTW q=3)→(∀ n,zYm b K1 V1 (zME key) (zK9 e (zAK ps key++[n]))=mpO b e (ps++[(key,n)]))→K ((F.set r (.ov (.one (.mp b K1 V1)))).set d (.ov (.one (zK9 e (zAK ps key)))))):hoW P ⟨none,.mpv d x r 3 k e 1⟩ F K X:=by
 show opW P (.mpv d x r 3 k e 1) F K X
 simp only [opW]
 refine ySR e1 e2 e3 e4 hn rfl (yCK ps) ⟨hd,?_⟩
 split
 ·rename_i i hi
  have h1:=yRq (b:=b) (e:=e) hi
  refine ⟨(h1 0).1,?_⟩
  rw [(h1 0).2.1]
  exact h _ _ (yCK ps) fun n=>(h1 n).2.2
 ·rename_i hi
  have h1:=yUp (b:=b) (e:=e) hi
  have:=h _ _ (yCK ps) fun n=>(h1 n).2
  rw [(h1 0).1] at this
  have e5:F.set r (.ov (.one (.mp b ((gK ps).map zME) ((gK ps).map fun k=>zK9 e (zAK ps k)))))=F:=by
   apply List.ext_getElem?
   intro j
   rw [List.getElem?_set]
   split
   ·rename_i hj
    subst hj
    rw [List.getD_eq_getElem?_getD,List.getElem?_eq_getElem hr] at e2
    rw [List.getElem?_eq_getElem hr]
    simp only [Option.getD_some] at e2
    rw [e2];rfl
   ·rfl
  rw [e5] at this
  exact this
theorem yUr {r b e:Nat} {x k:Opd} {n:Nat} {ps:List (Key×Int)} {key:Key} {p:PVal} {K1:List Value} {V1:List OV} {v:Int} {c:OV} (e1:zYn F x=some b) (e2:F.getD r .un=.ov (.one (.mp b K1 V1))) (e3:(zAn F k).pv?=some p) (e4:yNb p.norm=some (zME key)) (hn:(zAn F k).need) (hk:∀ q∈K1,zTW q=3)
  (hp:∀ n,zYm b K1 V1 (zME key) (zK9 e (zAK ps key++[n]))=mpO b e (ps++[(key,n)])) (hy:F.getD n .un=.ov (.one c)) (hc:c=zK9 e (zAK ps key++[v])) (hnr:n≠r) (h:K ((F.set n .un).set r (.ov (.one (mpO b e (ps++[(key,v)])))))):hoW P ⟨none,.mps x r 3 k (.t n)⟩ F K X:=by
 show opW P (.mps x r 3 k (.t n)) F K X
 simp only [opW]
 refine ySR e1 e2 e3 e4 hn rfl hk ⟨fun s hs=>by injection hs with hs;rw [←hs];exact hnr,?_⟩
 have h1:yNc F (.t n)=(True,some c):=by unfold yNc;simp only [zAn,hy]
 have h2:clr F F (.t n)=F.set n .un:=by simp only [clr,hy]
 rw [h1,h2]
 refine ⟨trivial,?_⟩
 simp only [hc,hp]
 exact h
end
end Go.Hx
end

section
set_option maxRecDepth 100000
namespace Go.Hx
open Go.RowKit
theorem zUr:∀ (N:Nat) (l:List Nat),l.Nodup→(∀ i∈l,i < N)→l.length≤N
 |0,[],_,_=>Nat.le_refl _
 |0,i::l,_,h=>absurd (h i List.mem_cons_self) (Nat.not_lt_zero _)
 |N+1,l,hn,h=>by
  have h1:∀ i∈l.erase N,i < N:=fun i hi=>by
   have h2:=(List.Nodup.mem_erase_iff hn).1 hi
   have:=h i h2.2
   have:=h2.1
   omega
  have h2:=zUr N (l.erase N) (hn.erase N) h1
  have h3:=List.length_erase (a:=N) (l:=l)
  split at h3<;>omega
def yGU (ps:List (Key×Int)) (i:Nat):Ent:=⟨((gK ps).getD i default).1,((gK ps).getD i default).2,zAK ps ((gK ps).getD i default)⟩
theorem yGV (ps:List (Key×Int)) {i:Nat} (h:i < (gK ps).length):(gK ps).getD i default=(gK ps)[i]:=by
 rw [List.getD_eq_getElem?_getD,List.getElem?_eq_getElem h];rfl
theorem zMV (ps:List (Key×Int)) (i:Nat):(yGU ps i).key=(gK ps).getD i default:=rfl
theorem yGW {l:List Ent} (h:zLx l):l.Nodup:=by
 unfold zLx at h
 exact List.Pairwise.imp (fun {a b} h e=>by rw [e,zBy] at h;cases h) h
theorem yRr {ps:List (Key×Int)} {seen:List Nat} (hn:seen.Nodup) (hb:∀ i∈seen,i < (gK ps).length) (ha:∀ i,i < (gK ps).length→i∈seen):(seen.map (yGU ps)).Perm (zCI ps):=by
 have hs:=zMU ps.length ps rfl
 refine (List.perm_ext_iff_of_nodup ?_ (yGW hs.1)).2 fun e=>?_
 ·rw [List.nodup_iff_pairwise_ne,List.pairwise_map]
  refine List.Pairwise.imp_of_mem (fun {a b} h1 h2 h3 e=>?_) hn
  have e1:=congrArg Ent.key e
  rw [zMV,zMV,yGV ps (hb a h1),yGV ps (hb b h2)] at e1
  exact h3 ((List.getElem_inj (yMb ps)).1 e1)
 ·rw [hs.2,List.mem_map]
  constructor
  ·rintro ⟨i,hi,rfl⟩
   rw [zMV,yGV ps (hb i hi)]
   refine ⟨(yPz ps _).1 (List.getElem_mem _),?_⟩
   show zAK ps ((gK ps).getD i default)=_
   rw [yGV ps (hb i hi)]
  ·rintro ⟨h1,h2⟩
   obtain ⟨i,hi,h3⟩:=List.mem_iff_getElem.1 ((yPz ps _).2 h1)
   refine ⟨i,ha i hi,?_⟩
   refine Ent.ext' ?_ ?_
   ·rw [zMV,yGV ps hi,h3]
   ·show zAK ps ((gK ps).getD i default)=_
    rw [yGV ps hi,h3,h2]
theorem yWE (ps:List (Key×Int)):(gK ps).length≤ps.length:=by
 have:∀ (ps:List (Key×Int)) (l:List Key),(ps.foldl (fun l p=>yMa l p.1) l).length≤l.length+ps.length:=by
  intro ps
  induction ps with
  |nil=>intro l;simp
  |cons p r ih=>
   intro l
   have h1:(yMa l p.1).length≤l.length+1:=by unfold yMa;split<;>simp
   have:=ih (yMa l p.1)
   rw [List.foldl_cons,List.length_cons]
   omega
 have:=this ps []
 simpa [gK] using this
theorem zLY (ps:List (Key×Int)) (k:Key):(zAK ps k).length≤ps.length:=by
 unfold zAK
 rw [List.length_map]
 exact List.length_filter_le _ _
theorem yBy (x:Nd):(zQk x).length≤2+x.cls.length:=by
 unfold zQk
 rw [List.length_cons,List.length_append,List.length_map]
 split<;>simp<;>omega
theorem zIU (d:List Nd):∀ (n:Nat),(∀ i,i < n→(d.getD i default).cls.length≤64)→(zDd d n).length≤n * 66
 |0,_=>by simp [zDd]
 |n+1,h=>by
  have h1:=zIU d n fun i hi=>h i (by omega)
  have h2:=yBy (d.getD n default)
  have h3:=h n (by omega)
  rw [zDd,List.length_append,List.length_map]
  omega
theorem zQm (d:List Nd) (i:Nat):zDd d (i+1)=(zDd d i++[((1,(d.getD i default).tag),(i:Int))]++(if (d.getD i default).id=[] then [] else [((2,(d.getD i default).id),(i:Int))]))++(d.getD i default).cls.map fun c=>((3,c),(i:Int)):=by
 rw [zDd,zQk,List.map_cons,List.map_append,List.map_map,List.append_assoc,List.append_assoc,List.singleton_append]
 congr 2
 split<;>simp
end Go.Hx
end
