/-
  Walks of functions of the program over an abstract layer, and the laws that they use: each contract says what the function computes, for every input that its conditions let by. No other condition.
-/
import Derived.Test.YtjnagiaooecklabGreatDoorG3
import Derived.BigFrame
import Derived.Laws.BytesArg
set_option linter.all false
section
namespace Go.Hx
open Go.RowKit
variable [Glob]
theorem yQS {k:IntKind} {n:Int} (h:inR k n):k.wrap n=n:=by
 obtain ⟨h1,h2⟩:=h
 cases k<;>simp [IntKind.min,IntKind.max,IntKind.signed,IntKind.bits] at h1 h2<;>simp [IntKind.wrap,IntKind.signed,IntKind.bits]<;>(try split)<;>omega
section
variable {P:Program} {E:Env} {S:Start} {m:Mem} {β:Bx} {ow:Ow} {F:List Ct} {a:Act} {w:World}
def VSound (P:Program) (S:Start) (m:Mem) (β:Bx) (ow:Ow) (a:Act) (w:World) (d:Nat) (o:Oper) (c:Ct):Prop:=
 ∃ u m' w',(execOp a.eval o).run P w=.ok (.value u) w'∧Quiet S ow m m' w w'∧CtRep m' w' β ow d c u
theorem VSound.same (h:InvG E S m β ow F a w) {d:Nat} {o:Oper} {c:Ct} (u:Value) (hr:(execOp a.eval o).run P w=.ok (.value u) w) (hc:CtRep m w β ow d c u):VSound P S m β ow a w d o c:=
 ⟨u,m,w,hr,Quiet.refl h.mem,hc⟩
abbrev Gr (w w':World):Prop:=Pres (fun _=>False) w w'
theorem Gr.blk {w w':World} (g:Gr w w') {b:Nat} (hb:b < w.heap.size):w'.heap[b]?=w.heap[b]?:=Pres.block g b hb id
theorem Gr.cell {w w':World} (g:Gr w w') {b o:Nat} {u:Value} (h:w.cell? ⟨b,o,none⟩=some u):w'.cell? ⟨b,o,none⟩=some u:=by
 rw [←h]
 have e:w'.heap[b]?=w.heap[b]?:=g.blk (World.block_lt_of_cell? w ⟨b,o,none⟩ h)
 simp only [World.cell?,e]
theorem InvG.gr (h:InvG E S m β ow F a w) {w':World} (g:Gr w w'):InvG E S m β ow F a w':=
 h.quiet ⟨m.le_refl,fun b o u hu=>(h.mem b o u hu).block (g.blk (h.mem b o u hu).lt),fun b t hb=>g.blk (h.lt b t hb),fun _ _ _ _=>rfl,fun _ _ _ h=>.inl h,g.mono fun _ _ h=>h.elim⟩
def VSame (P:Program) (m:Mem) (β:Bx) (ow:Ow) (a:Act) (w:World) (d:Nat) (o:Oper) (c:Ct):Prop:=
 ∃ u,(∀ w',Gr w w'→(execOp a.eval o).run P w'=.ok (.value u) w')∧CtRep m w β ow d c u
theorem VSame.sound (h:InvG E S m β ow F a w) {d:Nat} {o:Oper} {c:Ct} (v:VSame P m β ow a w d o c):VSound P S m β ow a w d o c:=by
 obtain ⟨u,hr,hc⟩:=v
 exact VSound.same h u (hr w (Pres.refl _ w)) hc
def ctV:Ct→Value
 |.pv (.one (.v u))=>u
 |_=>undef
theorem zEM (op:BinOp) (t:TypeId) (x y:Operand) (p q:Value) (hp:(match p with|.agg _|.nilIface=>false|_=>true)=true):(eqGuard op t x y p q).run P w=.ok () w:=by
 unfold eqGuard
 cases p<;>cases op<;>first|(cases hp;done)|(simp;done)|(cases q<;>simp)
theorem yM4 (op:BinOp) (k:IntKind) (p q:Int) (h:(zYj op k p q).1):∃ u,(zYj op k p q).2=.pv (.one (.v u))∧zFI u=true:=by
 cases op<;>simp only [zYj,bad] at h ⊢<;>first|exact h.elim|exact ⟨_,rfl,rfl⟩
theorem yCj (op:BinOp) (t:TypeId) (k:IntKind) (p q:Int) (h:(zYj op k p q).1):
  (binOp op t (.int k p) (.int k q)).run P w=.ok (ctV (zYj op k p q).2) w:=by
 cases op<;>simp only [zYj,bad] at h ⊢<;>try exact h.elim
 all_goals simp_all [binOp,Op.intArith,Op.intDiv,Op.intCmp,yQS,ctV]
theorem zTk {l:List UInt8} (h:l.length≤maxLen):zFI (mkS l)=true:=by
 have e:ByteArray.size ⟨l.toArray⟩=l.length:=by simp [ByteArray.size]
 have e2:zFI (mkS l)=decide (ByteArray.size ⟨l.toArray⟩≤maxLen):=rfl
 rw [e2,e]
 exact decide_eq_true h
theorem yM5 (op:BinOp) (p q:List UInt8) (h:(yCf op p q).1):∃ u,(yCf op p q).2=.pv (.one (.v u))∧zFI u=true:=by
 cases op
 case add=>exact ⟨_,rfl,zTk (by rw [List.length_append];exact h)⟩
 all_goals first|exact ⟨_,rfl,rfl⟩|exact h.elim
theorem zK2 (s:ByteArray):s.toList=bys s:=ByteArray.toList_eq s
theorem yM6 (p q:ByteArray):(p++q:ByteArray)=⟨(bys p++bys q).toArray⟩:=by
 cases p with|mk p=>cases q with|mk q=>apply ByteArray.ext;simp [bys]
theorem yCk (s:ByteArray):s.size=(bys s).length:=Array.length_toList.symm
theorem yCl (op:BinOp) (t:TypeId) (p q:ByteArray) (h:(yCf op (bys p) (bys q)).1):
  (binOp op t (.string p) (.string q)).run P w=.ok (ctV (yCf op (bys p) (bys q)).2) w:=by
 have hb:binOp op t (.string p) (.string q)=Op.stringOp op p q:=by cases op<;>rfl
 rw [hb]
 unfold Op.stringOp
 rw [zK2,zK2]
 cases op<;>simp only [yCf,bad] at h ⊢<;>try exact h.elim
 case add=>
  have h':¬ (((p.size+q.size:Nat):Int) > IntKind.i64.max):=by
   rw [yCk,yCk]
   simp [IntKind.max,IntKind.signed,IntKind.bits,maxLen] at h ⊢
   omega
  simp only [h',if_false,Sem.run_pure,ctV,mkS]
  rw [yM6]
 all_goals rfl
theorem StkRep.hdr {t:Tag} {e k:Nat} {rows:List (List PV)} {u:Value} (h:StkRep m w ow t e k rows u):zMH rows.length u:=by
 obtain ⟨⟨xs,⟨h1,h2⟩,_⟩,_,_⟩:=h
 rcases h2 with ⟨rfl,h4⟩|⟨g,cap,cur,rfl,_,hh,h5,h6,_⟩
 ·exact ⟨none,0,by rw [h4],by omega,by simp [maxLen]⟩
 ·exact ⟨_,cap,rfl,h5,h6⟩
theorem zBu (h:InvG E S m β ow F a w) {x:Opd} {y:Operand} (hk:zAk E.N x y=true) {c:Ct} (hx:zAn F x=c) (hc:∀ p,c≠.pv p):∃ n,x=.t n∧n < E.N∧CtRep m w β ow n c (a.eval y):=by
 cases x with
 |t n=>
  cases y<;>simp only [zAk] at hk<;>try cases hk
  simp only [Bool.and_eq_true,beq_iff_eq,decide_eq_true_eq] at hk
  obtain ⟨rfl,hn'⟩:=hk
  have hs:=h.slots n hn'
  simp only [zAn] at hx
  rw [hx] at hs
  exact ⟨n,rfl,hn',hs⟩
 |c q=>simp only [zAn] at hx;exact (hc q hx.symm).elim
 |f n=>simp only [zAn] at hx;exact (hc _ hx.symm).elim
theorem yO2 (h:InvG E S m β ow F a w) {x:Opd} {y:Operand} (hk:zAk E.N x y=true) {n:Nat} (hx:zAn F x=.hdr n):zMH n (a.eval y):=by
 obtain ⟨_,_,_,hs⟩:=zBu h hk hx (fun p=>by simp)
 exact hs
theorem yO3 (h:InvG E S m β ow F a w) {x:Opd} {y:Operand} (hk:zAk E.N x y=true) {e k:Nat} {rows:List (List PV)} (hx:zAn F x=.stk e k rows):zMH rows.length (a.eval y):=by
 obtain ⟨_,_,_,hs⟩:=zBu h hk hx (fun p=>by simp)
 exact StkRep.hdr hs
theorem zOz {pb:Option Nat} {e k:Nat} {rows:List (List OV)} {u:Value} {fp:List Nat} (h:OvR m w (.os pb e k rows) u fp):zMH rows.length u∧∀ b,pb=some b→rows.length≠0→∃ c,u=.slice (some ⟨b,0,none⟩) rows.length c:=by
 obtain ⟨xs,f,h1,_,_,_,h5⟩:=zCm.1 h
 rcases h1.2 with ⟨rfl,h0⟩|⟨g,cap,cur,rfl,_,_,h2,h3,_⟩
 ·rw [h0]
  exact ⟨⟨none,0,rfl,Nat.le_refl _,by simp [maxLen]⟩,fun b _ hne=>(hne rfl).elim⟩
 ·refine ⟨⟨_,cap,rfl,h2,h3⟩,fun b hb hne=>?_⟩
  have:=h5 b hb (fun e=>hne (by rw [e];rfl))
  simp only [Value.ownBlock,Option.some.injEq] at this
  exact ⟨cap,by rw [this]⟩
theorem yVp (h:InvG E S m β ow F a w) {x:Opd} {y:Operand} {o:Oper} (ho:o.op=.move y∨o.op=.assign y) (hk:zAk E.N x y=true) (d:Nat) (hc:(ev F (.mv x)).1):VSame P m β ow a w d o (ev F (.mv x)).2:=by
 have hr:∀ w',Gr w w'→(execOp a.eval o).run P w'=.ok (.value (a.eval y)) w':=by
  intro w' _
  unfold execOp
  rcases ho with ho|ho<;>rw [ho]<;>rfl
 refine ⟨_,hr,?_⟩
 cases hx:zAn F x with
 |un=>simp only [ev,hx];trivial
 |ptr j off=>simp only [ev,hx];exact zC5 h hk hx
 |pv p=>simp only [ev,hx,Ct.pv?] at hc ⊢;exact zBd h hk (by rw [hx];exact hc) (by rw [hx];rfl)
 |own e k rows=>simp only [ev,hx,Ct.pv?] at hc ⊢;exact zBd h hk (by rw [hx];exact hc) (by rw [hx];rfl)
 |tup xs=>
  obtain ⟨n,rfl,hn,hs⟩:=zBu h hk hx (by intro p;simp)
  simp only [ev,hx];exact hs
 |stk e k rows=>simp only [ev,hx];exact yO3 h hk hx
 |hdr n=>simp only [ev,hx];exact yO2 h hk hx
 |ov q=>
  obtain ⟨n,rfl,hn,hs⟩:=zBu h hk hx (by intro p;simp)
  cases q with
  |agg cs=>simp only [ev,hx,Ct.pv?,bad] at hc
  |one q=>cases q with
   |p q=>simp only [ev,hx,Ct.pv?,bad] at hc
   |hole=>simp only [ev,hx,Ct.pv?,bad] at hc
   |mp b ks vs=>
    obtain ⟨fp,h1,_⟩:=hs
    have h1':OvR m w (.mp b ks vs) (a.eval y) fp:=h1
    simp only [OvR] at h1'
    obtain ⟨us,f,h2,_⟩:=h1'
    simp only [ev,hx];exact h2
   |it b n seen=>simp only [ev,hx,Ct.pv?,bad] at hc
   |bl T e b bs=>simp only [ev,hx,Ct.pv?,bad] at hc
   |os pb e k rows=>
    obtain ⟨fp,h1,_⟩:=hs
    have hd:=zOz h1
    cases pb with
    |none=>simp only [ev,hx];exact hd.1
    |some b=>simp only [ev,hx];exact ⟨hd.1,fun hne=>hd.2 b rfl hne⟩
 |hdp b k n=>
  obtain ⟨n,rfl,hn,hs⟩:=zBu h hk hx (by intro p;simp)
  simp only [ev,hx];exact hs
 |hds b k i n=>simp only [ev,hx,Ct.pv?,bad] at hc
 |epp b k r f=>
  obtain ⟨n,rfl,hn,hs⟩:=zBu h hk hx (by intro p;simp)
  simp only [ev,hx];exact hs
 |mph b=>
  obtain ⟨n,rfl,hn,hs⟩:=zBu h hk hx (by intro p;simp)
  simp only [ev,hx];exact hs
 |cl f caps=>
  obtain ⟨n,rfl,hn,hs⟩:=zBu h hk hx (by intro p;simp)
  simp only [ev,hx];exact hs
 |una=>simp only [ev,hx,Ct.pv?,bad] at hc
 |gd t p=>simp only [ev,hx,Ct.pv?] at hc ⊢;exact zBd h hk (by rw [hx];exact hc) (by rw [hx];rfl)
theorem zTS (h:InvG E S m β ow F a w) {x:Opd} {y:Operand} (hk:zAk E.N x y=true) {t:Bool} (hn:(zAn F x).need) (hp:(zAn F x).pv?=some (.one (.v (.bool t)))):a.eval y=.bool t:=(zBd h hk hn hp).1
theorem zQa (h:InvG E S m β ow F a w) {x:Opd} {y:Operand} (hk:zAk E.N x y=true) {k:IntKind} {n:Int} (hn:(zAn F x).need) (hp:(zAn F x).pv?=some (.one (.v (.int k n)))):a.eval y=.int k n:=(zBd h hk hn hp).1
theorem yO4 (h:InvG E S m β ow F a w) {x:Opd} {y:Operand} (hk:zAk E.N x y=true) {s:ByteArray} (hn:(zAn F x).need) (hp:(zAn F x).pv?=some (.one (.v (.string s)))):a.eval y=.string s∧s.size≤maxLen:=by
 have:=zBd h hk hn hp
 exact ⟨this.1,by have h2:=this.2;simpa [zFI] using h2⟩
theorem yTi (h:InvG E S m β ow F a w) {c x y:Opd} {c' x' y':Operand} {o:Oper} (ho:o.op=.pick c' x' y') (k1:zAk E.N c c'=true) (k2:zAk E.N x x'=true) (k3:zAk E.N y y'=true) (d:Nat) (hc:(ev F (.pick c x y)).1):VSame P m β ow a w d o (ev F (.pick c x y)).2:=by
 simp only [ev] at hc ⊢
 split at hc
 ·rename_i t p q e1 e2 e3
  obtain ⟨n1,n2,n3⟩:=hc
  have hcv:=zTS h k1 n1 e1
  cases t with
  |true=>
   have:=zTS h k2 (n2 rfl) e2
   refine ⟨(.bool p),fun w' hg=>?_,⟨rfl,rfl⟩⟩
   unfold execOp;rw [ho];simp [hcv,asBool,this]
  |false=>
   have:=zTS h k3 (n3 rfl) e3
   refine ⟨(.bool q),fun w' hg=>?_,⟨rfl,rfl⟩⟩
   unfold execOp;rw [ho];simp [hcv,asBool,this]
 ·exact hc.elim
theorem yTj (h:InvG E S m β ow F a w) {op:BinOp} {x y:Opd} {x' y':Operand} {t t':TypeId} {o:Oper} (ho:o.op=.binOp op t x' y' t') (k2:zAk E.N x x'=true) (k3:zAk E.N y y'=true) (d:Nat) (hc:(ev F (.ints op x y)).1):VSame P m β ow a w d o (ev F (.ints op x y)).2:=by
 simp only [ev] at hc ⊢
 split at hc
 ·rename_i k p k' q e2 e3
  obtain ⟨n2,n3,rfl,n4⟩:=hc
  have h2:=zQa h k2 n2 e2
  have h3:=zQa h k3 n3 e3
  obtain ⟨u,e,hf⟩:=yM4 op k p q n4
  refine ⟨(ctV (zYj op k p q).2),fun w' hg=>?_,(by rw [e];exact ⟨rfl,hf⟩)⟩
  unfold execOp;rw [ho]
  simp only [h2,h3,Sem.run_bind,zEM (P:=P) (w:=w') op t x' y' (.int k p) (.int k q) rfl,Result.andThen_ok,yCj (P:=P) (w:=w') op t k p q n4]
  rfl
 ·exact hc.elim
theorem yTk (h:InvG E S m β ow F a w) {op:BinOp} {x y:Opd} {x' y':Operand} {t t':TypeId} {o:Oper} (ho:o.op=.binOp op t x' y' t') (k2:zAk E.N x x'=true) (k3:zAk E.N y y'=true) (d:Nat) (hc:(ev F (.strs op x y)).1):VSame P m β ow a w d o (ev F (.strs op x y)).2:=by
 simp only [ev] at hc ⊢
 split at hc
 ·rename_i p q e2 e3
  obtain ⟨n2,n3,n4⟩:=hc
  have h2:=(yO4 h k2 n2 e2).1
  have h3:=(yO4 h k3 n3 e3).1
  obtain ⟨u,e,hf⟩:=yM5 op (bys p) (bys q) n4
  refine ⟨(ctV (yCf op (bys p) (bys q)).2),fun w' hg=>?_,(by rw [e];exact ⟨rfl,hf⟩)⟩
  unfold execOp;rw [ho]
  simp only [h2,h3,Sem.run_bind,zEM (P:=P) (w:=w') op t x' y' (.string p) (.string q) rfl,Result.andThen_ok,yCl (P:=P) (w:=w') op t p q n4]
  rfl
 ·exact hc.elim
theorem yVq (h:InvG E S m β ow F a w) {x:Opd} {x':Operand} {t:TypeId} {o:Oper} (ho:o.op=.unOp .not t x') (k2:zAk E.N x x'=true) (d:Nat) (hc:(ev F (.not x)).1):VSame P m β ow a w d o (ev F (.not x)).2:=by
 simp only [ev] at hc ⊢
 split at hc
 ·rename_i p e2
  have h2:=zTS h k2 hc e2
  refine ⟨(.bool (!p)),fun w' hg=>?_,⟨rfl,rfl⟩⟩
  unfold execOp;rw [ho];simp only [h2];rfl
 ·exact hc.elim
theorem zFL {t:TypeId} (h:zK1 P t=true):∃ e,P.underlying t=some (.slice e):=by
 unfold zK1 at h
 split at h
 ·exact ⟨_,by assumption⟩
 ·cases h
theorem yI8 {t:TypeId} (h:zLr P t=true):P.underlying t=some .string:=by
 unfold zLr at h
 split at h
 ·assumption
 ·cases h
theorem yVr (h:InvG E S m β ow F a w) {str:Bool} {x:Opd} {x':Operand} {t:TypeId} {o:Oper} (ho:o.op=.call {callee:=.builtin .len,args:=#[x'],argTypes:=#[t]}) (k2:zAk E.N x x'=true) (ht:(if str then zLr P t else zK1 P t)=true) (d:Nat) (hc:(ev F (.len str x)).1):VSame P m β ow a w d o (ev F (.len str x)).2:=by
 obtain ⟨dst,op,ty,pos,after,gd⟩:=o
 simp only at ho
 subst ho
 have hex:execOp a.eval {dst,op:=.call {callee:=.builtin .len,args:=#[x'],argTypes:=#[t]},type:=ty,pos,after,guard:=gd}=(do pure (.value (←Builtin.len_ #[t] ty #[a.eval x']))):=by
  rw [BigFrame.execOp_builtin,BigFrame.builtin_len];simp
 simp only [ev] at hc ⊢
 split at hc
 ·rename_i n e1
  simp only [e1] at hc ⊢
  subst hc
  obtain ⟨A,c,hv,_⟩:=yO2 h k2 e1
  obtain ⟨e,hu⟩:=zFL (by simpa using ht)
  refine ⟨goInt n,fun w' hg=>?_,⟨rfl,rfl⟩⟩
  rw [hex,hv]
  simp [Builtin.len_,run_underlying hu]
 ·rename_i e k rows e1
  simp only [e1] at hc ⊢
  subst hc
  obtain ⟨A,c,hv,_⟩:=yO3 h k2 e1
  obtain ⟨e,hu⟩:=zFL (by simpa using ht)
  refine ⟨goInt rows.length,fun w' hg=>?_,⟨rfl,rfl⟩⟩
  rw [hex,hv]
  simp [Builtin.len_,run_underlying hu]
 ·rename_i b k n e1
  simp only [e1] at hc ⊢
  subst hc
  obtain ⟨n',rfl,hn,hs⟩:=zBu h k2 e1 (by intro p;simp)
  obtain ⟨⟨A,c,hv,_⟩,_⟩:=hs
  obtain ⟨e,hu⟩:=zFL (by simpa using ht)
  refine ⟨goInt n,fun w' hg=>?_,⟨rfl,rfl⟩⟩
  rw [hex,hv]
  simp [Builtin.len_,run_underlying hu]
 ·rename_i pb e k rows e1
  simp only [e1] at hc ⊢
  subst hc
  obtain ⟨n',rfl,hn,hs⟩:=zBu h k2 e1 (by intro p;simp)
  obtain ⟨fp,h1,_⟩:=hs
  obtain ⟨A,c,hv,_⟩:=(zOz h1).1
  obtain ⟨e,hu⟩:=zFL (by simpa using ht)
  refine ⟨goInt rows.length,fun w' hg=>?_,⟨rfl,rfl⟩⟩
  rw [hex,hv]
  simp [Builtin.len_,run_underlying hu]
 ·split at hc
  ·rename_i k rows e2
   obtain ⟨rfl,hc⟩:=hc
   obtain ⟨A,c,hv,_⟩:=zTQ h k2 hc e2
   obtain ⟨e,hu⟩:=zFL (by simpa using ht)
   refine ⟨(goInt rows.length),fun w' hg=>?_,⟨rfl,rfl⟩⟩
   rw [hex,hv]
   simp [Builtin.len_,run_underlying hu]
  ·rename_i k e2
   obtain ⟨rfl,hc⟩:=hc
   have hv:=zTQ h k2 hc e2
   simp only [RpV,Rp] at hv
   obtain ⟨e,hu⟩:=zFL (by simpa using ht)
   refine ⟨(goInt 0),fun w' hg=>?_,⟨rfl,rfl⟩⟩
   rw [hex,hv]
   simp [Builtin.len_,run_underlying hu]
  ·rename_i s e2
   obtain ⟨rfl,hc⟩:=hc
   have hv:=(zTQ h k2 hc e2).1
   have hu:=yI8 (by simpa using ht)
   refine ⟨(goInt (bys s).length),fun w' hg=>?_,⟨rfl,rfl⟩⟩
   rw [hex,hv]
   simp [Builtin.len_,run_underlying hu,yCk]
  ·exact hc.elim
theorem zBG {t:TypeId} {n:Nat} (h:zEg P t=some n) (w:World):(sizeOf t).run P w=.ok n w:=by
 unfold zEg at h
 cases hi:P.info? t with
 |none=>simp [hi] at h
 |some i=>simp [hi] at h;simp [sizeOf,typeInfo,hi,h]
theorem zG5 {t:TypeId} {b:Bool} (h:zBV P t=some b) (w:World):(isAgg t).run P w=.ok b w:=by
 unfold zBV at h
 cases hu:P.underlying t with
 |none=>simp [hu] at h
 |some d=>
  unfold isAgg
  rw [Sem.run_bind,run_underlying hu w]
  cases d<;>simp_all
theorem zYk {fd:Field} {n:Nat} (hn:zEg P fd.type=some n) (h0:0 < n) (x:Addr) (w:World):(fieldPlace x fd).run P w=.ok (x.add fd.offset) w:=by
 unfold fieldPlace
 rw [Sem.run_bind,zBG hn w]
 simp only [Result.andThen_ok]
 rw [if_neg (by omega)]
 rfl
theorem zLT {s:TypeId} {f:Nat} {fd:Field} (hf:fieldAt? P s f=some fd) {n:Nat} (hn:zEg P fd.type=some n) (h0:0 < n) (x:Addr) (w:World):
  (Instr.fieldAt s (.pointer (some x)) f).run P w=.ok (.pointer (some (x.add fd.offset))) w:=by
 unfold fieldAt? at hf
 split at hf
 ·rename_i fs hu
  simp [Instr.fieldAt,run_underlying hu,hf,Instr.sureAddr,zYk hn h0]
 ·cases hf
theorem zBW (b o i:Nat):(⟨b,o,none⟩:Addr).add i=⟨b,o+i,none⟩:=by unfold Addr.add;split<;>simp_all
theorem yTl (h:InvG E S m β ow F a w) {x:Opd} {x':Operand} {s:TypeId} {f off:Nat} {o:Oper} (ho:o.op=.fieldAddr s x' f) (k2:zAk E.N x x'=true)
  {fd:Field} (hf:fieldAt? P s f=some fd) (hoff:fd.offset=off) {n:Nat} (hn:zEg P fd.type=some n) (h0:0 < n) (d:Nat) (hc:(ev F (.fldP x off)).1):VSame P m β ow a w d o (ev F (.fldP x off)).2:=by
 subst hoff
 simp only [ev] at hc ⊢
 split at hc
 ·rename_i j o' e2
  obtain ⟨b,hb,hv⟩:=zC5 h k2 e2
  refine ⟨(.pointer (some ⟨b,o'+fd.offset,none⟩)),fun w' hg=>?_,⟨b,hb,rfl⟩⟩
  unfold execOp;rw [ho]
  simp only [hv,Sem.run_bind,zLT hf hn h0,Result.andThen_ok,zBW]
  rfl
 ·rename_i b k r f' e2
  obtain ⟨n',rfl,hn',hs⟩:=zBu h k2 e2 (by intro p;simp)
  have hv:a.eval x'=.pointer (some ⟨b,r * k+f',none⟩):=hs
  refine ⟨(.pointer (some ⟨b,r * k+(f'+fd.offset),none⟩)),fun w' hg=>?_,rfl⟩
  unfold execOp;rw [ho]
  simp only [hv,Sem.run_bind,zLT hf hn h0,Result.andThen_ok,zBW,Nat.add_assoc]
  rfl
 ·exact hc.elim
theorem yTm (h:InvG E S m β ow F a w) {x:Opd} {x':Operand} {s:TypeId} {f off n:Nat} {o:Oper} (ho:o.op=.fieldAddr s x' f) (k2:zAk E.N x x'=true)
  {fd:Field} (hf:fieldAt? P s f=some fd) (hoff:fd.offset=off) (hn:zEg P fd.type=some n) (h0:0 < n) (d:Nat) (hc:(ev F (.fldR x off n)).1):VSame P m β ow a w d o (ev F (.fldR x off n)).2:=by
 subst hoff
 simp only [ev] at hc ⊢
 split at hc
 ·rename_i cs e2
  obtain ⟨n1,n2⟩:=hc
  obtain ⟨b,o',hv,hr⟩:=zTQ h k2 n1 e2
  refine ⟨(.pointer (some ⟨b,o'+fd.offset,none⟩)),fun w' hg=>?_,⟨b,o'+fd.offset,rfl,hr.sub _ _⟩⟩
  unfold execOp;rw [ho]
  simp only [hv,Sem.run_bind,zLT hf hn h0,Result.andThen_ok,zBW]
  rfl
 ·exact hc.elim
theorem zBf {t:TypeId} {agg:Bool} {n:Nat} (ha:zBV P t=some agg) (hn:zEg P t=some n) (h1:agg=true∨n=1) {b o:Nat} {us:List Value} (hl:us.length=n)
  (hw:∀ i u,us[i]?=some u→w.cell? ⟨b,o+i,none⟩=some u):(loadVar t ⟨b,o,none⟩).run P w=.ok (if agg then .agg us.toArray else us.headD undef) w:=by
 unfold loadVar
 rw [Sem.run_bind,zG5 ha w]
 simp only [Result.andThen_ok]
 cases agg with
 |true=>
  have hlc:=run_loadCells_list (P:=P) (w:=w) ⟨b,o,none⟩ us (fun j v hv=>by rw [zBW];exact hw j v hv)
  simp [zBG hn,←hl,hlc]
 |false=>
  rcases h1 with h1|rfl
  ·cases h1
  ·match us,hl with
   |[u],_=>
    have this:w.cell? ⟨b,o,none⟩=some u:=hw 0 u rfl
    simp [this]
theorem yBe {m:Mem} {cs:List PV} {us:List Value} (h:RpL m cs us) (h1:cs.length=1):Rp m (cs.headD (.nl 0)).norm (us.headD undef):=by
 match cs,h1 with
 |[x],_=>
  simp only [RpL] at h
  obtain ⟨u,us',rfl,h2,_⟩:=h
  exact h2.norm
theorem yVs (h:InvG E S m β ow F a w) {x:Opd} {x':Operand} {t:TypeId} {n:Nat} {agg:Bool} {o:Oper} (ho:o.op=.load t x') (k2:zAk E.N x x'=true)
  (ha:zBV P t=some agg) (hn:zEg P t=some n) (h1:agg=true∨n=1) (d:Nat) (hc:(ev F (.ldR x n agg)).1):VSame P m β ow a w d o (ev F (.ldR x n agg)).2:=by
 simp only [ev] at hc ⊢
 split at hc
 ·rename_i cs e2
  obtain ⟨n1,n2⟩:=hc
  obtain ⟨b,o',hv,hr⟩:=zTQ h k2 n1 e2
  obtain ⟨us,hu,hm⟩:=hr.vals
  have hrun:=fun (w':World) (hg:Gr w w')=>zBf (P:=P) (w:=w') ha hn h1 (us:=us) (b:=b) (o:=o') (by rw [hu.length,n2]) (fun i u hi=>hg.cell (h.mem.c _ _ _ (hm i u hi)))
  refine ⟨(if agg then .agg us.toArray else us.headD undef),fun w' hg=>?_,?_⟩
  ·unfold execOp;rw [ho]
   simp only [hv,Instr.loadAt,Instr.sureAddr,Sem.run_bind,Sem.run_pure,Result.andThen_ok,hrun w' hg]
  ·cases agg with
   |true=>exact ⟨us,rfl,hu.norm⟩
   |false=>
    rcases h1 with h1|rfl
    ·cases h1
    ·exact yBe hu n2
 ·exact hc.elim
theorem yM7 {i:Nat} {c:Ct} {u:Value} {x:PV} (h:CellRep m w ow i c u) (hx:zP9 c=some x):Rp m x u:=by
 cases c with
 |un=>cases hx
 |pv p=>cases p with
  |one y=>simp only [zP9,Option.some.injEq] at hx;subst hx;exact Rp.norm h
  |agg cs=>cases hx
 |own e k rows=>simp only [zP9,Option.some.injEq] at hx;subst hx;exact OwnRep.rp h
 |ptr j off=>cases hx
 |tup xs=>cases hx
 |gd t p=>cases hx
 |stk e k rows=>cases hx
 |hdr n=>cases hx
 |ov x=>cases hx
 |hdp b k n=>cases hx
 |hds b k i n=>cases hx
 |epp b k r f=>cases hx
 |mph b=>cases hx
 |cl f caps=>cases hx
 |una=>cases hx
theorem zMK {j base nn b:Nat} (hB:BoxRep m w ow F j (base,nn) (some b)):∀ (n off:Nat),off+n≤nn→∀ cs,zBq F (base+off) n=some cs→
  ∃ us:List Value,us.length=n∧RpL m cs us∧∀ i u,us[i]?=some u→w.cell? ⟨b,off+i,none⟩=some u:=by
 obtain ⟨_,_,vs,T,hh,hsz,hc⟩:=hB
 intro n
 induction n with
 |zero=>
  intro off _ cs hcs
  simp only [zBq,Option.some.injEq] at hcs
  subst hcs
  exact ⟨[],rfl,by simp [RpL],by simp⟩
 |succ n ih=>
  intro off hle cs hcs
  simp only [zBq] at hcs
  split at hcs
  ·rename_i x xs e1 e2
   simp only [Option.some.injEq] at hcs
   subst hcs
   obtain ⟨us,h1,h2,h3⟩:=ih (off+1) (by omega) xs (by rw [←e2];rfl)
   have hlt:off < vs.size:=by simp only at hsz;omega
   have hr:=yM7 (hc off (by simp only;omega)) e1
   refine ⟨vs.getD off undef::us,by simp [h1],by simp only [RpL];exact ⟨_,_,rfl,hr,h2⟩,fun i u hu=>?_⟩
   cases i with
   |zero=>
    simp at hu
    rw [Nat.add_zero,cell_of_row w b off vs T (0,0) hh,←hu]
    simp [hlt]
   |succ i=>
    rw [←h3 i u (by simpa using hu)]
    congr 2
    omega
  ·cases hcs
theorem yVt (h:InvG E S m β ow F a w) {x:Opd} {x':Operand} {t:TypeId} {j base off n nn:Nat} {agg:Bool} {o:Oper} (ho:o.op=.load t x') (hj:E.Γ[j]?=some (base,nn)) (hle:off+n≤nn) (k2:zAk E.N x x'=true)
  (ha:zBV P t=some agg) (hn:zEg P t=some n) (h1:agg=true∨n=1) (d:Nat) (hc:(ev F (.ldB x j base off n agg)).1):VSame P m β ow a w d o (ev F (.ldB x j base off n agg)).2:=by
 simp only [ev] at hc ⊢
 split at hc
 ·rename_i j' off' cs e1 e2
  obtain ⟨rfl,rfl⟩:=hc
  obtain ⟨b,hb,hv⟩:=zC5 h k2 e1
  have hB:=h.boxes _ _ hj
  rw [hb] at hB
  obtain ⟨us,hl,hu,hm⟩:=zMK hB n off' hle cs e2
  have hrun:=fun (w':World) (hg:Gr w w')=>zBf (P:=P) (w:=w') ha hn h1 (us:=us) (b:=b) (o:=off') hl (fun i u hi=>hg.cell (hm i u hi))
  refine ⟨(if agg then .agg us.toArray else us.headD undef),fun w' hg=>?_,?_⟩
  ·unfold execOp;rw [ho]
   simp only [hv,Instr.loadAt,Instr.sureAddr,Sem.run_bind,Sem.run_pure,Result.andThen_ok,hrun w' hg]
  ·cases agg with
   |true=>exact ⟨us,rfl,hu⟩
   |false=>
    rcases h1 with h1|rfl
    ·cases h1
    ·have hcl:cs.length=1:=by rw [←hu.length,hl]
     match cs,hcl with
     |[x],_=>
      simp only [RpL] at hu
      obtain ⟨u,us',rfl,h2,_⟩:=hu
      exact h2
 ·exact hc.elim
theorem zC7 {t e:TypeId} (h:sliceElem? P t=some e):P.underlying t=some (.slice e):=by
 unfold sliceElem? at h
 split at h
 ·simp_all
 ·cases h
theorem yTn (h:InvG E S m β ow F a w) {k:Nat} {x i:Opd} {x' i':Operand} {t e:TypeId} {o:Oper} (ho:o.op=.indexAddr t x' i') (k1:zAk E.N x x'=true) (k2:zAk E.N i i'=true)
  (he:sliceElem? P t=some e) (hn:zEg P e=some k) (d:Nat) (hc:(ev F (.idxA k x i)).1):VSame P m β ow a w d o (ev F (.idxA k x i)).2:=by
 simp only [ev] at hc ⊢
 split at hc
 ·rename_i b k' mm e1
  split at hc
  ·rename_i kk n e2
   obtain ⟨n2,rfl,h0,hlt⟩:=hc
   obtain ⟨n',rfl,hn',hs⟩:=zBu h k1 e1 (by intro p;simp)
   obtain ⟨_,hs⟩:=hs
   obtain ⟨c,hv⟩:=hs (by omega)
   have hi:=zQa h k2 n2 e2
   refine ⟨(.pointer (some ⟨b,0+n.toNat * k',none⟩)),fun w' hg=>?_,by show Value.pointer _=Value.pointer _;rw [Nat.zero_add,Nat.add_zero]⟩
   unfold execOp;rw [ho]
   simp only [hv,hi,Instr.indexAt,asIntOf,Sem.run_bind,Sem.run_pure,Result.andThen_ok,run_underlying (zC7 he)]
   simp [h0,hlt,zBG hn,zBW]
  ·exact hc.elim
 split at hc
 ·rename_i k' rows kk n e1 e2
  obtain ⟨n1,n2,rfl,h0,hlt⟩:=hc
  obtain ⟨A,c,hv,_,_,hr⟩:=zTQ h k1 n1 e1
  have hi:=zQa h k2 n2 e2
  have hlt':n.toNat < rows.length:=by omega
  rcases hr with hr|⟨b,o',rfl,hr⟩
  ·subst hr;simp at hlt'
  ·have hg:rows[n.toNat]?=some (rows.getD n.toNat []):=by simp [hlt']
   obtain ⟨_,hat⟩:=hr.get _ _ hg
   refine ⟨(.pointer (some ⟨b,o'+n.toNat * k',none⟩)),fun w' hg=>?_,⟨b,_,rfl,hat⟩⟩
   unfold execOp;rw [ho]
   simp only [hv,hi,Instr.indexAt,asIntOf,Sem.run_bind,Sem.run_pure,Result.andThen_ok,run_underlying (zC7 he)]
   simp [h0,hlt,zBG hn,zBW]
 ·exact hc.elim
theorem yI9 (s:ByteArray) (i:Nat):s[i]?=(bys s)[i]?:=by
 cases s with|mk d=>simp [bys];rfl
theorem yTo (h:InvG E S m β ow F a w) {x i:Opd} {x' i':Operand} {t:TypeId} {o:Oper} (ho:o.op=.index t x' i') (k1:zAk E.N x x'=true) (k2:zAk E.N i i'=true)
  (he:zLr P t=true) (d:Nat) (hc:(ev F (.idxS x i)).1):VSame P m β ow a w d o (ev F (.idxS x i)).2:=by
 simp only [ev] at hc ⊢
 split at hc
 ·rename_i s kk n e1 e2
  obtain ⟨n1,n2,h0,hlt⟩:=hc
  have hv:=(yO4 h k1 n1 e1).1
  have hi:=zQa h k2 n2 e2
  have hlt':n.toNat < (bys s).length:=by omega
  have hgg:s[n.toNat]?=some ((bys s).getD n.toNat 0):=by rw [yI9];simp [hlt']
  refine ⟨(.int .u8 ((bys s).getD n.toNat 0).toNat),fun w' hg=>?_,⟨rfl,rfl⟩⟩
  unfold execOp;rw [ho]
  simp only [hv,hi,Instr.index,asIntOf,Sem.run_bind,Sem.run_pure,Result.andThen_ok,run_underlying (yI8 he),h0,if_true,hgg]
 ·exact hc.elim
theorem yTp (h:InvG E S m β ow F a w) {n:Nat} {x i:Opd} {x' i':Operand} {t:TypeId} {o:Oper} (ho:o.op=.index t x' i') (k1:zAk E.N x x'=true) (k2:zAk E.N i i'=true)
  (he:yCg P t n=true) (d:Nat) (hc:(ev F (.idxV n x i)).1):VSame P m β ow a w d o (ev F (.idxV n x i)).2:=by
 simp only [ev] at hc ⊢
 split at hc
 ·rename_i cs kk k e1 e2
  obtain ⟨n1,n2,hl,h0,hlt⟩:=hc
  obtain ⟨us,hv,hr⟩:=zBd h k1 n1 e1
  have hi:=zQa h k2 n2 e2
  have hus:=hr.length
  unfold yCg at he
  split at he
  ·rename_i mm e hu
   simp only [Bool.and_eq_true,beq_iff_eq] at he
   obtain ⟨⟨rfl,ha⟩,hsz⟩:=he
   have hkl:k.toNat < us.length:=by omega
   refine ⟨us[k.toNat],fun w' hg=>?_,?_⟩
   ·unfold execOp;rw [ho]
    have hg2:us.toArray[k.toNat]?=some us[k.toNat]:=by simp [hkl]
    simp only [hv,hi,Instr.index,asIntOf,Sem.run_bind,Sem.run_pure,Result.andThen_ok,run_underlying hu,h0,hlt,true_and,if_true,zBG hsz,Nat.mul_one]
    simp [part,zG5 ha,hg2]
   ·have:=hr.get k.toNat (cs.getD k.toNat (.nl 0)) us[k.toNat] (by rw [List.getD_eq_getElem?_getD,List.getElem?_eq_getElem (by omega)];rfl) (List.getElem?_eq_getElem hkl)
    exact this.norm
  ·cases he
 ·exact hc.elim
theorem yTq (h:InvG E S m β ow F a w) {x:Opd} {y:Operand} (hk:zAk E.N x y=true) {top:Int} (hc:(zC6 F top (some x)).1):∃ k,a.eval y=.int k (zC6 F top (some x)).2:=by
 simp only [zC6] at hc ⊢
 split at hc
 ·rename_i k n e
  exact ⟨k,zQa h hk hc e⟩
 ·exact hc.elim
theorem zFM (h:InvG E S m β ow F a w) {lo hi:Option Opd} {lo' hi':Option Operand} (k1:zJK E.N lo lo'=true) (k2:zJK E.N hi hi'=true) (sl:Bool) (len cap:Nat) (hlc:len≤cap)
  (c1:(zC6 F 0 lo).1) (c2:(zC6 F len hi).1) (h0:0≤(zC6 F 0 lo).2) (h1:(zC6 F 0 lo).2≤(zC6 F len hi).2) (h2:(zC6 F len hi).2≤len):
  (Instr.sliceBounds sl len cap (lo'.map a.eval) (hi'.map a.eval) none).run P w=.ok ((zC6 F 0 lo).2.toNat,(zC6 F len hi).2.toNat,cap) w:=by
 have bnd:∀ (x:Opd) (y:Operand) (top:Int) (lim:Nat) (code:BoundsCode),zAk E.N x y=true→(zC6 F top (some x)).1→0≤(zC6 F top (some x)).2→(zC6 F top (some x)).2≤lim→(Instr.sliceBound (a.eval y) lim code).run P w=.ok (zC6 F top (some x)).2.toNat w:=by
  intro x y top lim code hk hc g0 g1
  obtain ⟨k,hv⟩:=yTq h hk hc
  simp only [hv,Instr.sliceBound,asIntOf,Sem.run_bind,Sem.run_pure,Result.andThen_ok]
  rw [if_pos ⟨g0,g1⟩]
  rfl
 unfold Instr.sliceBounds
 cases hi with
 |none=>
  cases hi' with
  |some y=>simp [zJK] at k2
  |none=>
   cases lo with
   |none=>
    cases lo' with
    |some y=>simp [zJK] at k1
    |none=>simp [zC6]
   |some x=>
    cases lo' with
    |none=>simp [zJK] at k1
    |some y=>
     have hb:=fun code=>bnd x y 0 len code (by simpa [zJK] using k1) c1 h0 (by simpa [zC6] using h1)
     simp only [Option.map_some,Option.map_none,Sem.run_bind,Sem.run_pure,Result.andThen_ok,hb,zC6,Int.toNat_natCast]
 |some x2=>
  cases hi' with
  |none=>simp [zJK] at k2
  |some y2=>
   have hb2:=fun code=>bnd x2 y2 len cap code (by simpa [zJK] using k2) c2 (by omega) (by omega)
   cases lo with
   |none=>
    cases lo' with
    |some y=>simp [zJK] at k1
    |none=>
     simp only [Option.map_some,Option.map_none,Sem.run_bind,Sem.run_pure,Result.andThen_ok,hb2]
     simp [zC6]
   |some x=>
    cases lo' with
    |none=>simp [zJK] at k1
    |some y=>
     have hb:=fun code=>bnd x y 0 (zC6 F len (some x2)).2.toNat code (by simpa [zJK] using k1) c1 h0 (by omega)
     simp only [Option.map_some,Sem.run_bind,Sem.run_pure,Result.andThen_ok,hb2,hb]
theorem RpRows.take {m:Mem} {b k o:Nat} {rows:List (List PV)} (h:RpRows m b k o rows) (n:Nat):RpRows m b k o (rows.take n):=by
 have:=h.sub 0 n
 simpa using this
theorem yVu (h:InvG E S m β ow F a w) {k:Nat} {x:Opd} {lo hi:Option Opd} {x':Operand} {lo' hi':Option Operand} {t e:TypeId} {o:Oper} (ho:o.op=.slice t x' lo' hi' none) (k0:zAk E.N x x'=true) (k1:zJK E.N lo lo'=true) (k2:zJK E.N hi hi'=true)
  (he:sliceElem? P t=some e) (hn:zEg P e=some k) (d:Nat) (hc:(ev F (.slr k x lo hi)).1):VSame P m β ow a w d o (ev F (.slr k x lo hi)).2:=by
 simp only [ev] at hc ⊢
 split at hc
 ·rename_i b k' n e0
  obtain ⟨rfl,c1,c2,h0,h1,h2⟩:=hc
  obtain ⟨i,rfl,hn',hs⟩:=zBu h k0 e0 (by intro p;simp)
  obtain ⟨⟨A,c,hv,hlc,hcm⟩,hat⟩:=hs
  have hb:=fun (w':World) (hg:Gr w w')=>zFM (P:=P) (h.gr hg) k1 k2 true n c hlc c1 c2 h0 h1 h2
  have hev:a.eval x'=.slice A n c:=by first|exact hv|simpa using hv
  refine ⟨(.slice (if c=(zC6 F 0 lo).2.toNat then A else A.map (·.add ((zC6 F 0 lo).2.toNat * k'))) ((zC6 F n hi).2.toNat-(zC6 F 0 lo).2.toNat) (c-(zC6 F 0 lo).2.toNat)),fun w' hg=>?_,?_⟩
  ·unfold execOp;rw [ho]
   have hu:=zC7 he
   simp only [hev,Instr.sliceAt,Instr.slice,Sem.run_bind,Sem.run_pure,Result.andThen_ok,run_underlying hu,Option.map_none,hb w' hg,zBG hn]
  ·refine ⟨⟨_,_,rfl,by omega,by omega⟩,fun hne=>?_⟩
   have hn0:n≠0:=by omega
   obtain ⟨c',hc'⟩:=hat hn0
   rw [hv] at hc'
   injection hc' with hA _ _
   subst hA
   rw [if_neg (by omega)]
   exact ⟨c-(zC6 F 0 lo).2.toNat,by simp [zBW]⟩
 rename_i hx0
 split at hc
 ·rename_i k' rows e1
  obtain ⟨n1,rfl,c1,c2,h0,h1,h2⟩:=hc
  obtain ⟨A,c,hv,hlc,hcm,hr⟩:=zBd h k0 n1 e1
  have hb:=fun (w':World) (hg:Gr w w')=>zFM (P:=P) (h.gr hg) k1 k2 true rows.length c hlc c1 c2 h0 h1 h2
  have hl:((rows.take (zC6 F rows.length hi).2.toNat).drop (zC6 F 0 lo).2.toNat).length=(zC6 F rows.length hi).2.toNat-(zC6 F 0 lo).2.toNat:=by
   simp only [List.length_drop,List.length_take];omega
  refine ⟨(.slice (if c=(zC6 F 0 lo).2.toNat then A else A.map (·.add ((zC6 F 0 lo).2.toNat * k'))) ((zC6 F rows.length hi).2.toNat-(zC6 F 0 lo).2.toNat) (c-(zC6 F 0 lo).2.toNat)),fun w' hg=>?_,?_⟩
  ·unfold execOp;rw [ho]
   have hu:=zC7 he
   simp only [hv,Instr.sliceAt,Instr.slice,Sem.run_bind,Sem.run_pure,Result.andThen_ok,run_underlying hu,Option.map_none,hb w' hg,zBG hn]
  ·refine ⟨_,_,by rw [hl],by rw [hl];omega,by omega,?_⟩
   rcases hr with hr|⟨b,o',rfl,hr⟩
   ·subst hr;exact .inl (by simp)
   ·by_cases hce:c=(zC6 F 0 lo).2.toNat
    ·left
     apply List.eq_nil_of_length_eq_zero
     rw [hl];omega
    ·right
     rw [if_neg hce]
     refine ⟨b,o'+(zC6 F 0 lo).2.toNat * k',by simp [zBW],?_⟩
     have h3:=(hr.take (zC6 F rows.length hi).2.toNat).sub (zC6 F 0 lo).2.toNat ((zC6 F rows.length hi).2.toNat-(zC6 F 0 lo).2.toNat)
     rwa [List.take_of_length_le (by rw [hl];exact Nat.le_refl _)] at h3
 ·exact hc.elim
theorem yVv (h:InvG E S m β ow F a w) {n i:Nat} {y:Operand} {o:Oper} (ho:o.op=.extract y i) (k0:zAk E.N (.t n) y=true) (d:Nat) (hc:(ev F (.ext n i)).1):VSame P m β ow a w d o (ev F (.ext n i)).2:=by
 simp only [ev] at hc ⊢
 split at hc
 ·rename_i xs e1
  obtain ⟨us,hv,hr⟩:=yTg h k0 e1
  split at hc
  ·rename_i x e2
   obtain ⟨u,hu,h3⟩:=hr.get i x e2
   refine ⟨u,fun w' hg=>?_,h3⟩
   unfold execOp;rw [ho]
   have hi:=(List.getElem?_eq_some_iff.1 hu).1
   have he:=(List.getElem?_eq_some_iff.1 hu).2
   simp [hv,Instr.extract,hi,he]
  ·exact hc.elim
 ·exact hc.elim
theorem yQT (h:InvG E S m β ow F a w) {x:Opd} {y:Operand} {o:Oper} (ho:o.op=.nilCheck y) (k0:zAk E.N x y=true) (d:Nat) (hc:(ev F (.nilck x)).1):VSame P m β ow a w d o (ev F (.nilck x)).2:=by
 simp only [ev] at hc ⊢
 split at hc
 ·rename_i j off e1
  obtain ⟨b,hb,hv⟩:=zC5 h k0 e1
  refine ⟨(.pointer (some ⟨b,off,none⟩)),fun w' hg=>?_,⟨b,hb,rfl⟩⟩
  unfold execOp;rw [ho];simp [hv]
 ·rename_i b k r f e1
  obtain ⟨n',rfl,hn',hs⟩:=zBu h k0 e1 (by intro p;simp)
  have hv:a.eval y=.pointer (some ⟨b,r * k+f,none⟩):=hs
  refine ⟨_,fun w' hg=>?_,hs⟩
  unfold execOp;rw [ho];simp only [hv];rfl
 ·split at hc
  ·rename_i cs e1
   obtain ⟨b,o',hv,hr⟩:=zBd h k0 hc e1
   refine ⟨(.pointer (some ⟨b,o',none⟩)),fun w' hg=>?_,⟨b,o',rfl,hr⟩⟩
   unfold execOp;rw [ho];simp [hv]
  ·exact hc.elim
theorem yVw (h:InvG E S m β ow F a w) {x:Opd} {x':Operand} {t:TypeId} {j base off nn:Nat} {o:Oper} (ho:o.op=.load t x') (hj:E.Γ[j]?=some (base,nn)) (hle:off+1≤nn) (k2:zAk E.N x x'=true) (ha:zBV P t=some false) (hn:zEg P t=some 1) (d:Nat) (hc:(ev F (.ldh x j base off)).1):VSame P m β ow a w d o (ev F (.ldh x j base off)).2:=by
 have main:∀ {j' off':Nat} {pb:Option Nat} {e k:Nat} {rows:List (List OV)},zAn F x=.ptr j' off'→F.getD (base+off) .un=.ov (.one (.os pb e k rows))→j'=j∧off'=off→
   ∃ u,(∀ w',Gr w w'→(execOp a.eval o).run P w'=.ok (.value u) w')∧zMH rows.length u∧∀ b,pb=some b→rows.length≠0→∃ c,u=.slice (some ⟨b,0,none⟩) rows.length c:=by
  rintro j' off' pb e k rows e1 e2 ⟨rfl,rfl⟩
  obtain ⟨b,hb,hv⟩:=zC5 h k2 e1
  have hB:=h.boxes _ _ hj
  rw [hb] at hB
  obtain ⟨_,_,cs,T,hh,hsz,hcell⟩:=hB
  have hc:=hcell off' (by simp only;omega)
  rw [e2] at hc
  obtain ⟨fp,h1,_⟩:=hc
  have hd:=zOz h1
  refine ⟨cs.getD off' undef,fun w' hg=>?_,hd.1,hd.2⟩
  unfold execOp;rw [ho]
  have hcell':w.cell? ⟨b,off',none⟩=some (cs.getD off' undef):=by
   rw [cell_of_row w b off' cs T (0,0) hh]
   simp only at hsz
   have:off' < cs.size:=by omega
   simp [this]
  have:=zBf (P:=P) (w:=w') ha hn (.inr rfl) (us:=[cs.getD off' undef]) (b:=b) (o:=off') rfl (fun i u hi=>by
   cases i with
   |zero=>simp only [List.getElem?_cons_zero,Option.some.injEq] at hi;subst hi;rw [Nat.add_zero];exact hg.cell hcell'
   |succ i=>simp at hi)
  simp only [hv,Instr.loadAt,Instr.sureAddr,Sem.run_bind,Sem.run_pure,Result.andThen_ok,this]
  rfl
 simp only [ev] at hc ⊢
 split at hc
 ·rename_i j' off' b e k rows e1 e2
  obtain ⟨u,h1,h2,h3⟩:=main e1 e2 hc
  exact ⟨u,h1,h2,fun hne=>h3 b rfl hne⟩
 ·rename_i j' off' e k rows e1 e2
  obtain ⟨u,h1,h2,_⟩:=main e1 e2 hc
  exact ⟨u,h1,h2⟩
 ·exact hc.elim
def Mem.put (m:Mem) (b:Nat) (us:List Value):Mem:=fun b' o=>if b'=b then us[o]? else m b' o
theorem zFN (hm:MemOk m w) {b o:Nat} {u:Value} (h:m b o=some u):b < w.heap.size:=(hm b o u h).lt
theorem Quiet.newBlock (h:InvG E S m β ow F a w) (us:List Value) (e:TypeId):Quiet S ow m (m.put w.heap.size us) w (w.alloc (.cells us.toArray e)) where
 le:=fun b o u hu=>by
  have:=zFN h.mem hu
  simp only [Mem.put]
  rw [if_neg (by omega)]
  exact hu
 mem:=fun b o u hu=>by
  simp only [Mem.put] at hu
  split at hu
  ·rename_i hb
   subst hb
   exact UCell.of_cells (heap_alloc_new w _) (by rw [cell_of_row _ _ o us.toArray e (0,0) (heap_alloc_new w _)];simpa using hu)
  ·have:=zFN h.mem hu
   exact (h.mem b o u hu).block (Below.heap_alloc w _ b (by simpa using this))
 heap:=fun b t hb=>Below.heap_alloc w _ b (h.lt b t hb)
 free:=fun b t o hb=>by
  have:=h.lt b t hb
  simp only [Mem.put]
  rw [if_neg (by omega)]
 new:=fun b o u hu=>by
  simp only [Mem.put] at hu
  split at hu
  ·rename_i hb
   subst hb
   exact .inr (.inl h.pres.size)
  ·exact .inl hu
 pres:=Pres.alloc _ w _
theorem RpL.newBlock {us:List Value} {cs:List PV} (hm:MemOk m w) (h:RpL m cs us):RpAt (m.put w.heap.size us) w.heap.size 0 cs:=by
 have hle:m.le (m.put w.heap.size us):=fun b o u hu=>by
  have:=zFN hm hu
  simp only [Mem.put]
  rw [if_neg (by omega)]
  exact hu
 exact (RpL.mono hle cs us h).at_ fun i u hu=>by simp [Mem.put,hu]
theorem zG6 {u:Value} (h:zFI u=true):u.cells=#[u]:=by cases u<;>first|rfl|cases h
theorem RpV.cells {m:Mem} {p:PVal} {u:Value} (h:RpV m p u):RpL m p.cells u.cells.toList:=by
 cases p with
 |one x=>
  have hf:=Rp.flat_ h
  rw [zG6 hf]
  simp only [PVal.cells,RpL]
  exact ⟨u,[],rfl,h,rfl⟩
 |agg cs=>
  obtain ⟨us,rfl,hr⟩:=h
  simpa [PVal.cells,Value.cells] using hr
theorem yTr (h:InvG E S m β ow F a w) {x:Opd} {x':Operand} {t:TypeId} {o:Oper} (ho:o.op=.box t x') (k0:zAk E.N x x'=true) (d:Nat) (hc:(ev F (.boxF x)).1):VSound P S m β ow a w d o (ev F (.boxF x)).2:=by
 simp only [ev] at hc ⊢
 split at hc
 ·rename_i p e1
  have hv:=(zBd h k0 hc e1).norm.cells
  refine ⟨.pointer (some ⟨w.heap.size,0,none⟩),_,_,?_,Quiet.newBlock h (a.eval x').cells.toList t,⟨w.heap.size,0,rfl,RpL.newBlock h.mem hv⟩⟩
  unfold execOp;rw [ho]
  simp [Instr.box,newVar,newRow]
 ·exact hc.elim
theorem yCm (h:InvG E S m β ow F a w) {k:Nat}:∀ {parts:List Opd} {ps:List (Nat×Operand)} {i:Nat},zGm E.N i parts ps=true→(zEI F k parts).1→
  (ps.map fun x=>(x.1,a.eval x.2))=((ps.map fun x=>a.eval x.2).zipIdx i).map (fun x=>(x.2,x.1))∧ps.length=parts.length∧(zEI F k parts).2.length=parts.length∧
  (∀ v∈ps.map (fun x=>a.eval x.2),v.cells.size=k)∧(∀ r∈(zEI F k parts).2,r.length=k)∧RpL m (zEI F k parts).2.flatten ((ps.map fun x=>a.eval x.2).flatMap fun v=>v.cells.toList)
 |[],[],i,_,_=>by simp [zEI,RpL]
 |[],_::_,_,hk,_=>by simp [zGm] at hk
 |_::_,[],_,hk,_=>by simp [zGm] at hk
 |x::xs,(j,y)::ys,i,hk,hc=>by
  simp only [zGm,Bool.and_eq_true,beq_iff_eq] at hk
  obtain ⟨⟨rfl,hk1⟩,hk2⟩:=hk
  simp only [zEI] at hc ⊢
  split at hc
  ·rename_i p e1
   obtain ⟨c1,c2,c3⟩:=hc
   obtain ⟨h1,h2,h3,h4,h5,h6⟩:=yCm h hk2 c3
   have hv:=(zBd h hk1 c1 e1).norm.cells
   have hl:=hv.length
   refine ⟨by simp only [List.map_cons,List.zipIdx_cons];rw [h1],by simp [h2],by simp [h3],?_,?_,?_⟩
   ·intro v hv'
    simp only [List.map_cons,List.mem_cons] at hv'
    rcases hv' with rfl|hv'
    ·rw [←c2,←hl];simp
    ·exact h4 v hv'
   ·intro r hr
    simp only [List.mem_cons] at hr
    rcases hr with rfl|hr
    ·exact c2
    ·exact h5 r hr
   ·simp only [List.flatten_cons,List.map_cons,List.flatMap_cons]
    exact hv.append h6
  ·exact hc.elim
theorem yTs (h:InvG E S m β ow F a w) {k n:Nat} {parts:List Opd} {t e:TypeId} {ps:Array (Nat×Operand)} {o:Oper} (ho:o.op=.buildSlice t n ps) (k0:zGm E.N 0 parts ps.toList=true) (hn:n=parts.length) (hsm:n * k≤2 ^ 24) (hk:0 < k)
  (he:sliceElem? P t=some e) (hs:zEg P e=some k) {z:Value} (hz:(P.info? e).bind (·.zero)=some z) (hzs:z.cells.size=k) (d:Nat) (hc:(ev F (.bslF k parts)).1):VSound P S m β ow a w d o (ev F (.bslF k parts)).2:=by
 simp only [ev] at hc ⊢
 obtain ⟨h1,h2,h3,h4,h5,h6⟩:=yCm h k0 hc
 obtain ⟨ie,hie,hz'⟩:=Option.bind_eq_some_iff.1 hz
 have hsz:ie.size=k:=by simpa [zEg,hie] using hs
 have hu:=zC7 he
 have hev:(ps.map fun x=>(x.1,a.eval x.2)).toList=((ps.toList.map fun x=>a.eval x.2).zipIdx 0).map (fun x=>(x.2,x.1)):=by rw [Array.toList_map];exact h1
 have hall:n=0∨0 < n:=Nat.eq_zero_or_pos n
 have hrun:∃ us:List Value,RpL m (zEI F k parts).2.flatten us∧(execOp a.eval o).run P w=.ok (.value (.slice (some ⟨w.heap.size,0,none⟩) n n)) (w.alloc (.cells us.toArray e)):=by
  rcases hall with h0|h0
  ·refine ⟨[],?_,?_⟩
   ·have:parts=[]:=List.eq_nil_of_length_eq_zero (by omega)
    subst this
    simp [zEI,RpL]
   ·have hps:ps=#[]:=by
     apply Array.ext'
     exact List.eq_nil_of_length_eq_zero (by rw [h2];omega)
    unfold execOp;rw [ho]
    subst hps
    simp [h0,Instr.buildSlice,run_underlying hu,zBG hs,Instr.fill,newRow]
    congr 2
    exact Array.eq_empty_of_size_eq_zero (by simp)
  ·refine ⟨_,h6,?_⟩
   have hf:=Great.fill_whole (s:=ie.size) (by omega) (ps.toList.map fun x=>a.eval x.2) ((Array.range (n * ie.size)).map (z.cells[· % z.cells.size]!)) (by rw [hsz];exact h4) (by simp [h2,hn])
   have hpos:¬ n * ie.size=0:=by rw [hsz];exact Nat.mul_ne_zero (by omega) (by omega)
   have hr:=run_buildSlice (P:=P) w t e n (ps.map fun x=>(x.1,a.eval x.2)) _ ie z hu hie hz' (by rw [hsz];omega) hpos (by rw [hev];exact hf)
   unfold execOp;rw [ho]
   simp only [Sem.run_bind,hr,Result.andThen_ok]
   rfl
 obtain ⟨us,hus,hrun⟩:=hrun
 refine ⟨_,_,_,hrun,Quiet.newBlock h us e,?_⟩
 have hlen:(zEI F k parts).2.length=n:=by rw [h3,hn]
 have hle:m.le (m.put w.heap.size us):=(Quiet.newBlock h us e).le
 have hnm:n≤maxLen:=by
  have:n≤n * k:=Nat.le_mul_of_pos_right n hk
  simp only [maxLen];omega
 refine ⟨some ⟨w.heap.size,0,none⟩,n,by rw [hlen],by rw [hlen];exact Nat.le_refl _,hnm,.inr ⟨w.heap.size,0,rfl,?_⟩⟩
 exact RpRows.of_flat h5 (RpL.mono hle _ _ hus) fun i u hi=>by simp [Mem.put,hi]
theorem yGB (off:Nat) (vs:List Value) (cs:Array Value) (hle:off+vs.length≤cs.size):
  (vs.zipIdx.foldl (fun cs (x:Value×Nat)=>cs.setIfInBounds (off+x.2) x.1) cs)=(cs.toList.take off++vs++cs.toList.drop (off+vs.length)).toArray:=by
 obtain ⟨h1,h2⟩:=Great.foldl_set off vs 0 cs
 apply Array.ext_getElem?
 intro k
 rw [h2 k]
 simp only [Nat.add_zero]
 have e:(cs.toList.take off++vs++cs.toList.drop (off+vs.length)).toArray[k]?=(cs.toList.take off++vs++cs.toList.drop (off+vs.length))[k]?:=by simp
 rw [e]
 have hlt:(cs.toList.take off).length=off:=by simp;omega
 rw [List.append_assoc]
 by_cases ha:k < off
 ·rw [if_neg (by omega),List.getElem?_append_left (by rw [hlt];exact ha),List.getElem?_take,if_pos ha]
  simp
 ·rw [List.getElem?_append_right (by omega),hlt]
  by_cases hb:k < off+vs.length
  ·rw [if_pos ⟨by omega,hb,by omega⟩,List.getElem?_append_left (by omega)]
  ·rw [if_neg (by omega),List.getElem?_append_right (by omega),List.getElem?_drop]
   simp only [Array.getElem?_toList]
   congr 1
   omega
theorem yBf {P:Program}:∀ {fs:List Field} {places:List (Nat×Nat)},fs.mapM (fun f=>(P.info? f.type).map fun i=>(f.offset,i.size))=some places→∀ (j:Nat) (fd:Field),fs[j]?=some fd→places[j]?=(P.info? fd.type).map fun i=>(fd.offset,i.size)
 |[],_,_,j,fd,h=>by simp at h
 |f::fs,places,h,j,fd,hj=>by
  simp only [List.mapM_cons,Option.bind_eq_bind,Option.pure_def] at h
  cases hi:P.info? f.type with
  |none=>simp [hi] at h
  |some i=>
   cases hr:fs.mapM (fun f=>(P.info? f.type).map fun i=>(f.offset,i.size)) with
   |none=>simp [hi,hr] at h
   |some rest=>
    simp [hi,hr] at h
    subst h
    cases j with
    |zero=>simp at hj;subst hj;simp [hi]
    |succ j=>simpa using yBf hr j fd (by simpa using hj)
theorem yGC (h:InvG E S m β ow F a w) {t:TypeId} {fs:Array Field} (hu:P.underlying t=some (.struct fs)) {places:List (Nat×Nat)}
  (hpl:fs.toList.mapM (fun f=>(P.info? f.type).map fun i=>(f.offset,i.size))=some places):
  ∀ {parts:List (Nat×Nat×Opd)} {ps:List (Nat×Operand)} {cs:List PV} {us:List Value},zLS P E.N t parts ps=true→RpL m cs us→(zFm F cs parts).1→
  ∃ us':List Value,Instr.fill (places.toArray[·]?) us.toArray (ps.map fun x=>(x.1,a.eval x.2))=some us'.toArray∧RpL m (zFm F cs parts).2 us'
 |[],[],cs,us,_,hr,_=>⟨us,rfl,hr⟩
 |[],_::_,_,_,hk,_,_=>by simp [zLS] at hk
 |_::_,[],_,_,hk,_,_=>by simp [zLS] at hk
 |(off,n,x)::xs,(f,y)::ys,cs,us,hk,hr,hc=>by
  simp only [zLS,Bool.and_eq_true] at hk
  obtain ⟨⟨hk0,hk1⟩,hk2⟩:=hk
  split at hk0
  ·rename_i fd hfd
   simp only [Bool.and_eq_true,beq_iff_eq] at hk0
   obtain ⟨rfl,hn⟩:=hk0
   simp only [zFm] at hc ⊢
   split at hc
   ·rename_i p e1
    obtain ⟨c1,c2,c3,c4⟩:=hc
    have hv:=(zBd h hk1 c1 e1).cells
    have hl:=hv.length
    have hus:=hr.length
    have hvl:(a.eval y).cells.toList.length=n:=by rw [hl,c2]
    have hpf:places.toArray[f]?=some (fd.offset,n):=by
     have hfs:fs[f]?=some fd:=by unfold fieldAt? at hfd;rw [hu] at hfd;exact hfd
     have:=yBf hpl f fd (by simpa using hfs)
     rw [show places.toArray[f]?=places[f]? by simp,this]
     obtain ⟨i,hi,hin⟩:=Option.map_eq_some_iff.1 hn
     simp [hi,hin]
    have hsz:(a.eval y).cells.size=n:=by rw [←Array.length_toList];exact hvl
    have hstep:RpL m (zLR cs fd.offset p.cells) (us.take fd.offset++(a.eval y).cells.toList++us.drop (fd.offset+(a.eval y).cells.toList.length)):=by
     unfold zLR
     have h1:RpL m (cs.take fd.offset) (us.take fd.offset):=by simpa using hr.sub 0 fd.offset
     have h2:RpL m (cs.drop (fd.offset+p.cells.length)) (us.drop (fd.offset+(a.eval y).cells.toList.length)):=by
      have:=hr.sub (fd.offset+p.cells.length) cs.length
      rw [List.take_of_length_le (by simp),List.take_of_length_le (by simp [hus])] at this
      rw [hl];exact this
     exact (h1.append hv).append h2
    obtain ⟨us',hf,hr'⟩:=yGC h hu hpl hk2 hstep c4
    refine ⟨us',?_,hr'⟩
    rw [←hf]
    simp only [List.map_cons]
    conv=>lhs;unfold Instr.fill
    simp only [hpf]
    rw [if_neg (by rw [hsz];simp [hus];omega)]
    congr 1
    rw [←Array.foldl_toList,Array.toList_zipIdx]
    have:=yGB fd.offset (a.eval y).cells.toList us.toArray (by rw [hvl];simp [hus];omega)
    simpa using this
   ·exact hc.elim
  ·cases hk0
theorem zML {m:Mem}:∀ {zs:List PV} {us:List Value},zFK zs us=true→RpL m zs us
 |[],[],_=>by simp [RpL]
 |[],_::_,h=>by simp [zFK] at h
 |_::_,[],h=>by simp [zFK] at h
 |x::xs,u::us,h=>by
  simp only [zFK,Bool.and_eq_true] at h
  simp only [RpL]
  exact ⟨u,us,rfl,yLH h.1,zML h.2⟩
theorem yGD (h:InvG E S m β ow F a w):
  ∀ {parts:List (Nat×Nat×Opd)} {ps:List (Nat×Operand)} {cs:List PV} {us:List Value},zIL E.N parts ps=true→RpL m cs us→(zFm F cs parts).1→
  ∃ us':List Value,Instr.fill (fun i=>some (i * 1,1)) us.toArray (ps.map fun x=>(x.1,a.eval x.2))=some us'.toArray∧RpL m (zFm F cs parts).2 us'
 |[],[],cs,us,_,hr,_=>⟨us,rfl,hr⟩
 |[],_::_,_,_,hk,_,_=>by simp [zIL] at hk
 |_::_,[],_,_,hk,_,_=>by simp [zIL] at hk
 |(off,n,x)::xs,(f,y)::ys,cs,us,hk,hr,hc=>by
  simp only [zIL,Bool.and_eq_true,beq_iff_eq] at hk
  obtain ⟨⟨⟨rfl,rfl⟩,hk1⟩,hk2⟩:=hk
  simp only [zFm] at hc ⊢
  split at hc
  ·rename_i p e1
   obtain ⟨c1,c2,c3,c4⟩:=hc
   have hv:=(zBd h hk1 c1 e1).cells
   have hl:=hv.length
   have hus:=hr.length
   have hvl:(a.eval y).cells.toList.length=1:=by rw [hl,c2]
   have hsz:(a.eval y).cells.size=1:=by rw [←Array.length_toList];exact hvl
   have hstep:RpL m (zLR cs off p.cells) (us.take off++(a.eval y).cells.toList++us.drop (off+(a.eval y).cells.toList.length)):=by
    unfold zLR
    have h1:RpL m (cs.take off) (us.take off):=by simpa using hr.sub 0 off
    have h2:RpL m (cs.drop (off+p.cells.length)) (us.drop (off+(a.eval y).cells.toList.length)):=by
     have:=hr.sub (off+p.cells.length) cs.length
     rw [List.take_of_length_le (by simp),List.take_of_length_le (by simp [hus])] at this
     rw [hl];exact this
    exact (h1.append hv).append h2
   obtain ⟨us',hf,hr'⟩:=yGD h hk2 hstep c4
   refine ⟨us',?_,hr'⟩
   rw [←hf]
   simp only [List.map_cons]
   conv=>lhs;unfold Instr.fill
   simp only [Nat.mul_one]
   rw [if_neg (by rw [hsz];simp [hus];omega)]
   congr 1
   rw [←Array.foldl_toList,Array.toList_zipIdx]
   have:=yGB off (a.eval y).cells.toList us.toArray (by rw [hvl];simp [hus];omega)
   simpa using this
  ·exact hc.elim
theorem yTt (h:InvG E S m β ow F a w) {zeros:List PV} {parts:List (Nat×Nat×Opd)} {t:TypeId} {ps:Array (Nat×Operand)} {o:Oper} (ho:o.op=.build t ps) (k0:zIL E.N parts ps.toList=true) {z:Array Value} (hz:(P.info? t).bind (·.zero)=some (.agg z)) (hzo:zFK zeros z.toList=true) {n:Nat} (hpl:yCg P t n=true) (d:Nat) (hc:(ev F (.bld zeros parts)).1):VSame P m β ow a w d o (ev F (.bld zeros parts)).2:=by
 simp only [ev] at hc ⊢
 unfold yCg at hpl
 split at hpl
 ·rename_i mm e hu
  simp only [Bool.and_eq_true,beq_iff_eq] at hpl
  obtain ⟨⟨_,_⟩,hsz⟩:=hpl
  obtain ⟨it,hit,hz'⟩:=Option.bind_eq_some_iff.1 hz
  obtain ⟨ie,hie,hie2⟩:=Option.map_eq_some_iff.1 hsz
  obtain ⟨us',hf,hr⟩:=yGD h k0 (zML (m:=m) hzo) hc
  refine ⟨(.agg us'.toArray),fun w' hg=>?_,⟨us',rfl,hr⟩⟩
  have hb:P.built t (ps.map fun x=>(x.1,a.eval x.2)).toList=some us'.toArray:=by
   unfold Program.built
   simp only [hit,hu,hz',hie,Value.cells,Array.toList_map,hie2]
   rw [←hf]
  unfold execOp;rw [ho]
  have hrun:=run_build w' t (ps.map fun x=>(x.1,a.eval x.2)) us'.toArray hb
  simp only [Sem.run_bind,hrun,Result.andThen_ok]
  rfl
 ·cases hpl
theorem yVx (h:InvG E S m β ow F a w) {zeros:List PV} {parts:List (Nat×Nat×Opd)} {t:TypeId} {ps:Array (Nat×Operand)} {o:Oper} (ho:o.op=.build t ps) (k0:zLS P E.N t parts ps.toList=true) {z:Array Value} (hz:(P.info? t).bind (·.zero)=some (.agg z)) (hzo:zFK zeros z.toList=true) (hpl:yCh P t=true) (d:Nat) (hc:(ev F (.bld zeros parts)).1):VSame P m β ow a w d o (ev F (.bld zeros parts)).2:=by
 simp only [ev] at hc ⊢
 unfold yCh at hpl
 split at hpl
 ·rename_i fs hu
  obtain ⟨places,hpl⟩:=Option.isSome_iff_exists.1 hpl
  obtain ⟨it,hit,hz'⟩:=Option.bind_eq_some_iff.1 hz
  obtain ⟨us',hf,hr⟩:=yGC h hu hpl k0 (zML (m:=m) hzo) hc
  refine ⟨(.agg us'.toArray),fun w' hg=>?_,⟨us',rfl,hr⟩⟩
  have hb:P.built t (ps.map fun x=>(x.1,a.eval x.2)).toList=some us'.toArray:=by
   unfold Program.built
   simp only [hit,hu,hz',hpl,Value.cells,Array.toList_map]
   rw [←hf]
  unfold execOp;rw [ho]
  have hrun:=run_build w' t (ps.map fun x=>(x.1,a.eval x.2)) us'.toArray hb
  simp only [Sem.run_bind,hrun,Result.andThen_ok]
  rfl
 ·cases hpl
theorem zJL (d:Nat):∀ (ks:List Nat) (fs:List Field) (xs ys:List PV) (i:Nat) (us vs:Array Value),zCS P i ks fs=true→(zAm ks xs ys).1→
  (∀ j x,xs[j]?=some x→∃ u,us[i+j]?=some u∧Rp m x u)→(∀ j x,ys[j]?=some x→∃ u,vs[i+j]?=some u∧Rp m x u)→(Op.eqFields (d+1) us vs fs).run P w=.ok (zAm ks xs ys).2 w
 |[],fs,xs,ys,i,us,vs,hf,hc,h1,h2=>by
  cases fs with
  |cons f fs=>simp [zCS] at hf
  |nil=>
   cases xs with
   |nil=>cases ys with
    |nil=>rfl
    |cons y ys=>simp [zAm] at hc
   |cons x xs=>cases ys<;>simp [zAm] at hc
 |k::ks,[],xs,ys,i,us,vs,hf,hc,h1,h2=>by simp [zCS] at hf
 |k::ks,f::fs,xs,ys,i,us,vs,hf,hc,h1,h2=>by
  simp only [zCS,Bool.and_eq_true,beq_iff_eq,bne_iff_ne] at hf
  obtain ⟨⟨⟨ho,hnm⟩,hkd⟩,hf⟩:=hf
  have step:∀ (x y:PV) (xs' ys':List PV) (r:Bool),xs=x::xs'→ys=y::ys'→(∀ u v,Rp m x u→Rp m y v→zBV P f.type=some false∧(Op.equalIn (d+1) f.type u v).run P w=.ok r w)→(zAm ks xs' ys').1→
    (Op.eqFields (d+1) us vs (f::fs)).run P w=.ok (r&&(zAm ks xs' ys').2) w:=by
   intro x y xs' ys' r e1 e2 he hc'
   subst e1;subst e2
   obtain ⟨u,hu,ru⟩:=h1 0 x rfl
   obtain ⟨v,hv,rv⟩:=h2 0 y rfl
   rw [Nat.add_zero] at hu hv
   obtain ⟨hag,heq⟩:=he u v ru rv
   have ih:=zJL d ks fs xs' ys' (i+1) us vs hf hc' (fun j x hx=>by have:=h1 (j+1) x (by simpa using hx);rwa [show i+(j+1)=i+1+j from by omega] at this) (fun j x hx=>by have:=h2 (j+1) x (by simpa using hx);rwa [show i+(j+1)=i+1+j from by omega] at this)
   have hpu:(part f.type us f.offset).run P w=.ok u w:=by
    simp [part,zG5 hag,ho,hu]
   have hpv:(part f.type vs f.offset).run P w=.ok v w:=by
    simp [part,zG5 hag,ho,hv]
   simp only [Op.eqFields,if_pos hnm,Sem.run_bind,hpu,hpv,Result.andThen_ok,heq]
   cases r with
   |true=>simpa using ih
   |false=>simp
  have nag:∀ {t:TypeId} {ds:TypeDesc},P.underlying t=some ds→(match ds with|.struct _|.array _ _=>True|_=>False)∨zBV P t=some false:=by
   intro t ds h
   unfold zBV
   rw [h]
   cases ds<;>simp
  generalize hce:zAm (k::ks) xs ys=ce at hc ⊢
  unfold zAm at hce
  split at hce
  ·have e0:k::ks=[]:=by assumption
   cases e0
  ·rename_i ks' kk p xs' k' q ys' e0
   injection e0 with e0 e0'
   subst e0;subst e0';subst hce
   obtain ⟨rfl,hc'⟩:=hc
   refine step _ _ xs' ys' (p==q) rfl rfl ?_ hc'
   rintro u v ⟨rfl,_⟩ ⟨rfl,_⟩
   simp only [yGA] at hkd
   split at hkd
   ·rename_i k2 hu
    exact ⟨(nag hu).resolve_left id,run_equalIn_int w d f.type kk k2 p q hu⟩
   ·cases hkd
  ·rename_i ks' p xs' q ys' e0
   injection e0 with e0 e0'
   subst e0;subst e0';subst hce
   refine step _ _ xs' ys' (p==q) rfl rfl ?_ hc
   rintro u v ⟨rfl,_⟩ ⟨rfl,_⟩
   simp only [yGA] at hkd
   have hu:P.underlying f.type=some .bool:=by unfold yO0 at hkd;split at hkd<;>simp_all
   exact ⟨(nag hu).resolve_left id,run_equalIn_bool' w d f.type p q hu⟩
  ·rename_i ks' p xs' q ys' e0
   injection e0 with e0 e0'
   subst e0;subst e0';subst hce
   refine step _ _ xs' ys' (bys p==bys q) rfl rfl ?_ hc
   rintro u v ⟨rfl,_⟩ ⟨rfl,_⟩
   simp only [yGA] at hkd
   have hu:=yI8 hkd
   exact ⟨(nag hu).resolve_left id,by rw [run_equalIn_string w d f.type p q hu,zK2,zK2]⟩
  ·subst hce;exact hc.elim
theorem yTu (h:InvG E S m β ow F a w) {ng:Bool} {ks:List Nat} {x y:Opd} {x' y':Operand} {t t':TypeId} {op:BinOp} {o:Oper} (ho:o.op=.binOp op t x' y' t') (hop:op=if ng then .neq else .eql) (hf:zCT P t ks=true) (k2:zAk E.N x x'=true) (k3:zAk E.N y y'=true) (d:Nat) (hc:(ev F (.steq ng ks x y)).1):
  VSame P m β ow a w d o (ev F (.steq ng ks x y)).2:=by
 simp only [ev] at hc ⊢
 split at hc
 ·rename_i xs ys e1 e2
  obtain ⟨n1,n2,hc⟩:=hc
  obtain ⟨us,hv1,r1⟩:=zBd h k2 n1 e1
  obtain ⟨vs,hv2,r2⟩:=zBd h k3 n2 e2
  unfold zCT at hf
  split at hf
  ·rename_i fs hu
   simp only [Bool.and_eq_true,Bool.not_eq_true'] at hf
   obtain ⟨⟨hf1,hf2⟩,hf3⟩:=hf
   have hfo:P.fieldsOf t=fs:=by simp [Program.fieldsOf,hu]
   refine ⟨.bool (if ng then !(zAm ks xs ys).2 else (zAm ks xs ys).2),fun w' hg=>?_,⟨rfl,rfl⟩⟩
   have he:(Op.equal t (.agg us.toArray) (.agg vs.toArray)).run P w'=.ok (zAm ks xs ys).2 w':=by
    simp only [Op.equal,Op.maxDepth]
    rw [run_equalIn_struct w' 9999 t _ _ (by rw [hfo];exact hu) hf2,hfo]
    refine zJL (m:=m) 9998 ks fs.toList xs ys 0 _ _ hf1 hc ?_ ?_
    ·intro j x hx
     have hl:=r1.length
     have hj:j < us.length:=by have:=(List.getElem?_eq_some_iff.1 hx).1;omega
     exact ⟨us[j],by simp [hj],r1.get _ _ _ hx (List.getElem?_eq_getElem hj)⟩
    ·intro j x hx
     have hl:=r2.length
     have hj:j < vs.length:=by have:=(List.getElem?_eq_some_iff.1 hx).1;omega
     exact ⟨vs[j],by simp [hj],r2.get _ _ _ hx (List.getElem?_eq_getElem hj)⟩
   have hgd:(eqGuard op t x' y' (.agg us.toArray) (.agg vs.toArray)).run P w'=.ok () w':=by
    unfold eqGuard
    subst hop
    cases ng<;>simp [hf3]
   unfold execOp;rw [ho]
   simp only [hv1,hv2,Sem.run_bind,hgd,Result.andThen_ok]
   subst hop;cases ng<;>simp [binOp,he]
  ·cases hf
 ·exact hc.elim
theorem yBg (h:InvG E S m β ow F a w):∀ {caps:List Opd} {ys:List Operand},zTR E.N caps ys=true→(zMJ F caps).1→RpL m (zMJ F caps).2 (ys.map a.eval)
 |[],[],_,_=>by simp [zMJ,RpL]
 |[],_::_,hk,_=>by simp [zTR] at hk
 |_::_,[],hk,_=>by simp [zTR] at hk
 |x::xs,y::ys,hk,hc=>by
  simp only [zTR,Bool.and_eq_true] at hk
  simp only [zMJ] at hc ⊢
  split at hc
  ·rename_i p e1
   simp only [e1,List.map_cons,RpL]
   exact ⟨_,_,rfl,zBd h hk.1 hc.1 e1,yBg h hk.2 hc.2⟩
  ·exact hc.elim
theorem yVy (h:InvG E S m β ow F a w) {f:Nat} {caps:List Opd} {first captured:Array Operand} {o:Oper} (ho:o.op=.makeFunc (.func f) first captured) (hf:first.isEmpty=true) (hk:zTR E.N caps captured.toList=true) (d:Nat) (hc:(ev F (.mkf f caps)).1):
  VSame P m β ow a w d o (ev F (.mkf f caps)).2:=by
 simp only [ev] at hc ⊢
 refine ⟨.func (.func f) #[] (captured.map a.eval),fun w' hg=>?_,⟨captured.toList.map a.eval,?_,?_⟩⟩
 ·have hfe:first=#[]:=by simpa using hf
  subst hfe
  unfold execOp;rw [ho]
  simp [Instr.makeFunc]
 ·congr 1
  exact Array.ext' (by simp)
 ·exact yBg h hk hc
theorem yVz (h:InvG E S m β ow F a w) {t:TypeId} {x:Opd} {y:Operand} {o:Oper} (ho:o.op=.makeInterface t y) (ht:yCi P t=false) (hk:zAk E.N x y=true) (d:Nat) (hc:(ev F (.mki t x)).1):
  VSame P m β ow a w d o (ev F (.mki t x)).2:=by
 have hrun:∀ (u:Value) w',a.eval y=u→(execOp a.eval o).run P w'=.ok (.value (.iface t u)) w':=by
  intro u w' hu
  unfold execOp;rw [ho]
  unfold yCi at ht
  cases hd:P.underlying t with
  |none=>rw [hd] at ht;cases ht
  |some ds=>
   rw [hd] at ht
   cases ds<;>first|(cases ht;done)|simp [Instr.makeInterface,run_underlying hd,hu]
 simp only [ev] at hc ⊢
 split at hc
 ·rename_i u e1
  have hv:=zBd h hk hc e1
  exact ⟨_,fun w' _=>hrun u w' hv.1,⟨rfl,rfl⟩⟩
 ·rename_i e1
  obtain ⟨us,hv,hr⟩:=zBd h hk hc e1
  simp only [RpL] at hr
  subst hr
  exact ⟨_,fun w' _=>hrun _ w' hv,⟨rfl,rfl⟩⟩
 ·exact hc.elim
theorem yVA (h:InvG E S m β ow F a w) {n:Nat} {x i:Opd} {x' i':Operand} {t:TypeId} {o:Oper} (ho:o.op=.indexAddr t x' i') (k1:zAk E.N x x'=true) (k2:zAk E.N i i'=true)
  (he:yCg P t n=true) (d:Nat) (hc:(ev F (.ixB n x i)).1):VSame P m β ow a w d o (ev F (.ixB n x i)).2:=by
 simp only [ev] at hc ⊢
 split at hc
 ·rename_i j off kk k e1 e2
  obtain ⟨n2,h0,hlt⟩:=hc
  obtain ⟨b,hb,hv⟩:=zC5 h k1 e1
  have hi:=zQa h k2 n2 e2
  unfold yCg at he
  split at he
  ·rename_i mm e hu
   simp only [Bool.and_eq_true,beq_iff_eq] at he
   obtain ⟨⟨rfl,ha⟩,hsz⟩:=he
   refine ⟨(.pointer (some ⟨b,off+k.toNat,none⟩)),fun w' hg=>?_,⟨b,hb,rfl⟩⟩
   unfold execOp;rw [ho]
   simp only [hv,hi,Instr.indexAt,Instr.sureAddr,asIntOf,Sem.run_bind,Sem.run_pure,Result.andThen_ok,run_underlying hu,h0,hlt,true_and,if_true,zBG hsz,Nat.mul_one,zBW]
  ·cases he
 ·exact hc.elim
theorem yVB (h:InvG E S m β ow F a w) {x:Opd} {x':Operand} {t:TypeId} {j base sz nn:Nat} {o:Oper} (ho:o.op=.load t x') (hj:E.Γ[j]?=some (base,nn)) (hle:sz≤nn) (k2:zAk E.N x x'=true)
  (ha:zBV P t=some false) (hn:zEg P t=some 1) (d:Nat) (hc:(ev F (.ldD x j base sz)).1):VSame P m β ow a w d o (ev F (.ldD x j base sz)).2:=by
 simp only [ev] at hc ⊢
 split at hc
 ·rename_i j' off' e1
  split at hc
  ·rename_i p e2
   obtain rfl:j'=j:=hc
   split at e2
   ·rename_i hlt
    obtain ⟨b,hb,hv⟩:=zC5 h k2 e1
    have hB:=h.boxes _ _ hj
    rw [hb] at hB
    have e3:zBq F (base+off') 1=some [p]:=by simp only [zBq];rw [e2]
    obtain ⟨us,hl,hu,hm⟩:=zMK hB 1 off' (by omega) [p] e3
    have hrun:=fun (w':World) (hg:Gr w w')=>zBf (P:=P) (w:=w') ha hn (.inr rfl) (us:=us) (b:=b) (o:=off') hl (fun i u hi=>hg.cell (hm i u hi))
    refine ⟨us.headD undef,fun w' hg=>?_,?_⟩
    ·unfold execOp;rw [ho]
     simp only [hv,Instr.loadAt,Instr.sureAddr,Sem.run_bind,Sem.run_pure,Result.andThen_ok,hrun w' hg]
     rfl
    ·simp only [RpL] at hu
     obtain ⟨u,us',rfl,h2,_⟩:=hu
     simp only [hlt,if_true,e2]
     exact h2
   ·cases e2
  ·exact hc.elim
 ·exact hc.elim
def ySy:Value→Bool
 |.agg _=>false
 |_=>true
theorem zOA (op:BinOp) (t:TypeId) (x:Operand) (c:Value) (p q:Value) (hq:ySy q=true):(eqGuard op t x (.const c) p q).run P w=.ok () w:=by
 unfold eqGuard
 cases q<;>first|(cases hq;done)|(cases p<;>cases op<;>simp)
theorem yO5 (w':World) (d:Nat) (t e:TypeId) (q:Option Addr) (hu:P.underlying t=some (.pointer e)):(Op.equalIn (d+1) t (.pointer q) (.pointer none)).run P w'=.ok q.isNone w':=by
 rw [Op.equalIn]
 simp only [Sem.run_bind,run_underlying hu,Result.andThen_ok]
 cases q<;>simp
theorem yQU (w':World) (d:Nat) (t:TypeId) {e} (hu:P.underlying t=some (.interface e)):(Op.equalIn (d+1) t .nilIface .nilIface).run P w'=.ok true w':=by
 rw [Op.equalIn]
 simp only [Sem.run_bind,run_underlying hu,Result.andThen_ok]
 simp
theorem yQV (w':World) (d:Nat) (t ti:TypeId) (v:Value) {e} (hu:P.underlying t=some (.interface e)):(Op.equalIn (d+1) t (.iface ti v) .nilIface).run P w'=.ok false w':=by
 rw [Op.equalIn]
 simp only [Sem.run_bind,run_underlying hu,Result.andThen_ok]
 simp
theorem zK3 {op:BinOp} {ng:Bool} {x':Operand} {t t':TypeId} {c u:Value} {o:Oper} (ho:o.op=.binOp op t x' (.const c) t') (hop:op=if ng then .neq else .eql) (hv:a.eval x'=u) {r:Bool} (w':World)
  (hq:ySy c=true) (he:(Op.equal t u c).run P w'=.ok r w') (hb:∀ op,(op=.eql∨op=.neq)→binOp op t u c=(match op with|.eql=>do pure (.bool (←Op.equal t u c))|_=>do pure (.bool (!(←Op.equal t u c))))):
  (execOp a.eval o).run P w'=.ok (.value (.bool (if ng then !r else r))) w':=by
 unfold execOp;rw [ho]
 have ec:a.eval (.const c)=c:=rfl
 simp only [hv,ec,Sem.run_bind,zOA (P:=P) (w:=w') op t x' c u c hq,Result.andThen_ok]
 subst hop
 cases ng
 ·simp [hb .eql (.inl rfl),he]
 ·simp [hb .neq (.inr rfl),he]
theorem yTv (h:InvG E S m β ow F a w) {op:BinOp} {ng:Bool} {x:Opd} {x':Operand} {t t':TypeId} {o:Oper} (ho:o.op=.binOp op t x' (.const (.pointer none)) t') (hop:op=if ng then .neq else .eql)
  (ht:yO1 P t=true) (k2:zAk E.N x x'=true) (d:Nat) (hc:(ev F (.pnl ng true x)).1):VSame P m β ow a w d o (ev F (.pnl ng true x)).2:=by
 unfold yO1 at ht
 split at ht
 ·rename_i e hun
  simp only [ev] at hc ⊢
  split at hc
  ·rename_i cs _ e1
   obtain ⟨b,o',hv,_⟩:=zBd h k2 hc e1
   refine ⟨.bool (if ng then !false else false),fun w' _=>zK3 ho hop hv w' rfl ?_ (by rintro _ (rfl|rfl)<;>rfl),by cases ng<;>exact ⟨rfl,rfl⟩⟩
   simp only [Op.equal,Op.maxDepth]
   exact yO5 w' 9999 t e _ hun
  ·rename_i _ e1
   have hv:a.eval x'=.pointer none:=(zBd h k2 hc e1).1
   refine ⟨.bool (if ng then !true else true),fun w' _=>zK3 ho hop hv w' rfl ?_ (by rintro _ (rfl|rfl)<;>rfl),by cases ng<;>exact ⟨rfl,rfl⟩⟩
   simp only [Op.equal,Op.maxDepth]
   exact yO5 w' 9999 t e _ hun
  ·rename_i hh _;cases hh
  ·rename_i hh _;cases hh
  ·exact hc.elim
 ·cases ht
theorem yTw (h:InvG E S m β ow F a w) {op:BinOp} {ng:Bool} {x:Opd} {x':Operand} {t t':TypeId} {o:Oper} (ho:o.op=.binOp op t x' (.const .nilIface) t') (hop:op=if ng then .neq else .eql)
  (ht:yTh P t=true) (k2:zAk E.N x x'=true) (d:Nat) (hc:(ev F (.pnl ng false x)).1):VSame P m β ow a w d o (ev F (.pnl ng false x)).2:=by
 unfold yTh at ht
 split at ht
 ·rename_i e hun
  simp only [ev] at hc ⊢
  split at hc
  ·rename_i hh _;cases hh
  ·rename_i hh _;cases hh
  ·rename_i _ e1
   have hv:a.eval x'=.nilIface:=(zBd h k2 hc e1).1
   refine ⟨.bool (if ng then !true else true),fun w' _=>zK3 ho hop hv w' rfl ?_ (by rintro _ (rfl|rfl)<;>rfl),by cases ng<;>exact ⟨rfl,rfl⟩⟩
   simp only [Op.equal,Op.maxDepth]
   exact yQU w' 9999 t hun
  ·rename_i ti v _ e1
   have hv:a.eval x'=.iface ti v:=(zBd h k2 hc e1).1
   refine ⟨.bool (if ng then !false else false),fun w' _=>zK3 ho hop hv w' rfl ?_ (by rintro _ (rfl|rfl)<;>rfl),by cases ng<;>exact ⟨rfl,rfl⟩⟩
   simp only [Op.equal,Op.maxDepth]
   exact yQV w' 9999 t ti v hun
  ·exact hc.elim
 ·cases ht
def VOp.reads:VOp→Bool
 |.bslF _ _|.boxF _=>false
 |_=>true
theorem yJa (h:InvG E S m β ow F a w) (v:VOp) (o:Oper) (hk:yQR P E v o.op=true) (d:Nat) (hc:(ev F v).1) (hrd:v.reads=true):VSame P m β ow a w d o (ev F v).2:=by
 cases v<;>(try (cases hrd;done))<;>simp only [yQR] at hk<;>split at hk<;>(try cases hk;done)<;>rename_i ho
 ·exact yVp h (.inl ho) hk d hc
 ·exact yVp h (.inr ho) hk d hc
 ·
  simp only [Bool.and_eq_true] at hk
  exact yTi h ho hk.1.1 hk.1.2 hk.2 d hc
 ·
  simp only [Bool.and_eq_true,decide_eq_true_eq] at hk
  obtain ⟨⟨rfl,h1⟩,h2⟩:=hk
  exact yTj h ho h1 h2 d hc
 ·
  simp only [Bool.and_eq_true,decide_eq_true_eq] at hk
  obtain ⟨⟨rfl,h1⟩,h2⟩:=hk
  exact yTk h ho h1 h2 d hc
 ·
  simp only [Bool.and_eq_true,decide_eq_true_eq] at hk
  obtain ⟨rfl,h1⟩:=hk
  exact yVq h ho h1 d hc
 ·
  rename_i c
  simp only [Bool.and_eq_true] at hk
  obtain ⟨h0,h1⟩:=hk
  split at h1
  ·rename_i y t e1 e2
   simp only [Bool.and_eq_true] at h1
   obtain ⟨callee,args,argTypes⟩:=c
   simp only at e1 e2 h0
   have ha:args=#[y]:=Array.ext' e1
   have ht:argTypes=#[t]:=Array.ext' e2
   subst ha;subst ht
   have hcl:callee=.builtin .len:=by
    unfold yVo at h0
    split at h0
    ·rfl
    ·cases h0
   subst hcl
   exact yVr h ho h1.1 h1.2 d hc
  ·cases h1
 ·
  simp only [Bool.and_eq_true] at hk
  obtain ⟨h1,h2⟩:=hk
  split at h2
  ·rename_i fd hfd
   simp only [Bool.and_eq_true,beq_iff_eq] at h2
   obtain ⟨h3,h4⟩:=h2
   split at h4
   ·rename_i n hn
    exact yTl h ho h1 hfd h3 hn (by simpa using h4) d hc
   ·cases h4
  ·cases h2
 ·
  simp only [Bool.and_eq_true] at hk
  obtain ⟨h1,h2⟩:=hk
  split at h2
  ·rename_i fd hfd
   simp only [Bool.and_eq_true,beq_iff_eq,decide_eq_true_eq] at h2
   obtain ⟨⟨h3,h4⟩,h5⟩:=h2
   exact yTm h ho h1 hfd h3 h4 h5 d hc
  ·cases h2
 ·
  simp only [Bool.and_eq_true,beq_iff_eq,Bool.or_eq_true] at hk
  obtain ⟨⟨⟨h1,h2⟩,h3⟩,h4⟩:=hk
  exact yVs h ho h1 h2 h3 h4 d hc
 ·
  simp only [Bool.and_eq_true,beq_iff_eq,Bool.or_eq_true] at hk
  obtain ⟨⟨⟨⟨h0,h1⟩,h2⟩,h3⟩,h4⟩:=hk
  split at h0
  ·rename_i bn hbn
   simp only [Bool.and_eq_true,beq_iff_eq,decide_eq_true_eq] at h0
   obtain ⟨b1,b2⟩:=bn
   simp only at h0
   obtain ⟨rfl,h6⟩:=h0
   exact yVt h ho hbn h6 h1 h2 h3 h4 d hc
  ·cases h0
 ·
  simp only [Bool.and_eq_true] at hk
  obtain ⟨⟨h1,h2⟩,h3⟩:=hk
  split at h3
  ·rename_i e he
   exact yTn h ho h1 h2 he (by simpa using h3) d hc
  ·cases h3
 ·
  simp only [Bool.and_eq_true] at hk
  exact yTo h ho hk.1.1 hk.1.2 hk.2 d hc
 ·
  simp only [Bool.and_eq_true] at hk
  obtain ⟨⟨⟨⟨h0,h1⟩,h2⟩,h3⟩,h4⟩:=hk
  rw [Option.isNone_iff_eq_none] at h0
  subst h0
  split at h4
  ·rename_i e he
   exact yVu h ho h1 h2 h3 he (by simpa using h4) d hc
  ·cases h4
 ·
  simp only [Bool.and_eq_true,beq_iff_eq] at hk
  obtain ⟨h1,rfl⟩:=hk
  exact yVv h ho h1 d hc
 ·exact yQT h ho hk d hc
 ·
  simp only [Bool.and_eq_true] at hk
  obtain ⟨h2,h1⟩:=hk
  split at h2
  ·rename_i z hz
   simp only [Bool.or_eq_true,Bool.and_eq_true] at h1
   rcases h1 with h1|h1
   ·exact yVx h ho h1.1 hz h2 h1.2 d hc
   ·exact yTt h ho h1.2 hz h2 h1.1 d hc
  ·cases h2
 ·
  simp only [Bool.and_eq_true,beq_iff_eq] at hk
  obtain ⟨⟨rfl,h1⟩,h2⟩:=hk
  exact yVy h ho h1 h2 d hc
 ·
  simp only [Bool.and_eq_true,beq_iff_eq,Bool.not_eq_true'] at hk
  obtain ⟨⟨rfl,h1⟩,h2⟩:=hk
  exact yVz h ho h1 h2 d hc
 ·
  simp only [Bool.and_eq_true,decide_eq_true_eq] at hk
  obtain ⟨⟨⟨h0,h1⟩,h2⟩,h3⟩:=hk
  exact yTu h ho h0 h1 h2 h3 d hc
 ·
  simp only [Bool.and_eq_true,beq_iff_eq] at hk
  obtain ⟨⟨⟨h0,h1⟩,h2⟩,h3⟩:=hk
  split at h0
  ·rename_i bn hbn
   simp only [Bool.and_eq_true,beq_iff_eq,decide_eq_true_eq] at h0
   obtain ⟨b1,b2⟩:=bn
   simp only at h0
   obtain ⟨rfl,h6⟩:=h0
   exact yVw h ho hbn h6 h1 h2 h3 d hc
  ·cases h0
 ·
  simp only [Bool.and_eq_true] at hk
  exact yTp h ho hk.1.1 hk.1.2 hk.2 d hc
 ·
  simp only [Bool.and_eq_true] at hk
  exact yVA h ho hk.1.1 hk.1.2 hk.2 d hc
 ·
  simp only [Bool.and_eq_true,beq_iff_eq] at hk
  obtain ⟨⟨⟨h0,h1⟩,h2⟩,h3⟩:=hk
  split at h0
  ·rename_i bn hbn
   simp only [Bool.and_eq_true,beq_iff_eq,decide_eq_true_eq] at h0
   obtain ⟨b1,b2⟩:=bn
   simp only at h0
   obtain ⟨rfl,h6⟩:=h0
   exact yVB h ho hbn h6 h1 h2 h3 d hc
  ·cases h0
 ·
  simp only [Bool.and_eq_true,decide_eq_true_eq] at hk
  obtain ⟨⟨h0,h1⟩,h2⟩:=hk
  split at h2
  ·exact yTv h ho h0 h2 h1 d hc
  ·exact yTw h ho h0 h2 h1 d hc
  ·cases h2
theorem yCn (h:InvG E S m β ow F a w) (v:VOp) (o:Oper) (hk:yQR P E v o.op=true) (d:Nat) (hc:(ev F v).1):VSound P S m β ow a w d o (ev F v).2:=by
 by_cases hrd:v.reads=true
 ·exact (yJa h v o hk d hc hrd).sound h
 cases v<;>(try (exact absurd rfl hrd))<;>simp only [yQR] at hk<;>split at hk<;>(try cases hk;done)<;>rename_i ho
 ·
  simp only [Bool.and_eq_true,beq_iff_eq,decide_eq_true_eq] at hk
  obtain ⟨⟨⟨⟨h1,h2⟩,h3⟩,h4⟩,h5⟩:=hk
  split at h5
  ·rename_i e he
   simp only [Bool.and_eq_true,beq_iff_eq] at h5
   obtain ⟨h6,h7⟩:=h5
   split at h7
   ·rename_i z hz
    exact yTs h ho h1 h2 h3 h4 he h6 hz (by simpa using h7) d hc
   ·cases h7
  ·cases h5
 ·exact yTr h ho hk d hc
end
end Go.Hx
end

section
namespace Go.Hx
open Go.RowKit
variable [Glob]
inductive AV where
 |val (x:PVal)
 |own (e k:Nat) (rows:List (List PV))
 |io (cells:List PV)
 deriving Inhabited
inductive Res where
 |val (x:PVal)
 |own (e k:Nat) (rows:List (List PV))
 |tup (xs:List PVal)
 |pan (v:Value)
 |ov (x:OVal)
 deriving Inhabited
structure RV where
 res:Res
 io:List PV:=[]
def yVC:Value→Option Nat
 |.pointer (some a)=>some a.block
 |_=>none
def zIJ:List AV→List Value→Option Nat
 |x::as,u::us=>match x with|.own _ _ _=>u.ownBlock|_=>zIJ as us
 |_,_=>none
def ioB:List AV→List Value→Option Nat
 |x::as,u::us=>match x with|.io _=>yVC u|_=>ioB as us
 |_,_=>none
def zTT (as:List AV) (us:List Value) (b:Nat):Prop:=zIJ as us=some b∨ioB as us=some b
def OwnAt (m:Mem) (w:World) (e k:Nat) (rows:List (List PV)) (u:Value):Prop:=
 (∃ xs,w.ownsRow 0 e k u rows.length xs)∧∀ g,u.ownBlock=some g→RpRows m g k 0 rows∧∀ o,rows.length * k≤o→m g o=none
theorem OwnRep.at_ {m:Mem} {w:World} {ow:Ow} {t:Tag} {e k:Nat} {rows:List (List PV)} {u:Value} (h:OwnRep m w ow t e k rows u):OwnAt m w e k rows u:=⟨h.1,fun g hg=>(h.2 g hg).2⟩
theorem OwnAt.rep {m:Mem} {w:World} {ow:Ow} {t:Tag} {e k:Nat} {rows:List (List PV)} {u:Value} (h:OwnAt m w e k rows u) (ht:∀ g,u.ownBlock=some g→ow g=some t):OwnRep m w ow t e k rows u:=⟨h.1,fun g hg=>⟨ht g hg,h.2 g hg⟩⟩
theorem OwnAt.rp {m:Mem} {w:World} {e k:Nat} {rows:List (List PV)} {u:Value} (h:OwnAt m w e k rows u):Rp m (.sl k rows) u:=
 (h.rep (ow:=fun _=>some (.key 0)) (t:=.key 0) fun _ _=>rfl).rp
theorem OwnAt.nil (m:Mem) (w:World) (e k:Nat):OwnAt m w e k [] (.slice none 0 0):=⟨⟨[],World.ownsRow_nil w 0 e k⟩,fun g hg=>by simp [Value.ownBlock] at hg⟩
def ArgRep (m:Mem) (w:World):AV→Value→Prop
 |.val x,u=>RpV m x u
 |.own e k rows,u=>OwnAt m w e k rows u
 |.io cells,u=>∃ b cs T,u=.pointer (some ⟨b,0,none⟩)∧w.heap[b]?=some (.cells cs T (0,0))∧(∀ o,m b o=none)∧RpL m cells cs.toList
def ArgsRep (m:Mem) (w:World):List AV→List Value→Prop
 |[],us=>us=[]
 |x::xs,us=>∃ u us',us=u::us'∧ArgRep m w x u∧ArgsRep m w xs us'
def yVD (m:Mem) (w:World) (b n:Nat) (cells:Option (List PV)):Prop:=
 (∀ o,m b o=none)∧∃ cs T,w.heap[b]?=some (.cells cs T (0,0))∧cs.size=n∧∀ l,cells=some l→RpL m l cs.toList
def yBh (m':Mem) (w w':World) (ob:Option Nat):Res→Ending→Prop
 |.val x,e=>∃ u,e=.returned u∧RpV m' x u
 |.own t k rows,e=>∃ u,e=.returned u∧OwnAt m' w' t k rows u∧∀ g,u.ownBlock=some g→w.heap.size≤g∨ob=some g
 |.tup xs,e=>∃ us:List Value,e=.returned (.tuple us.toArray)∧RpVL m' xs us
 |.pan v,e=>e=.panicked [{v,recovered:=false}]
 |.ov x,e=>∃ u fp,e=.returned u∧OvV m' w' x u fp∧fp.Nodup∧∀ g∈fp,w.heap.size≤g∧∀ o,m' g o=none
def Res.ioOf (r:RV):Option (List PV):=match r.res with|.pan _=>none|_=>some r.io
def zTU:List AV→Nat
 |x::as=>match x with|.io cells=>cells.length|_=>zTU as
 |[]=>0
def yVE (m:Mem) (w:World) (as:List AV) (us:List Value) (r:RV) (e:Ending) (w':World):Prop:=
 ∃ m':Mem,m.le m'∧MemOk m' w'∧Pres (zTT as us) w w'∧(∀ b o u,m' b o=some u→m b o=some u∨w.heap.size≤b∨zIJ as us=some b)∧
  (∀ b,ioB as us=some b→yVD m' w' b (zTU as) (Res.ioOf r))∧yBh m' w w' (zIJ as us) r.res e
def zDm (P:Program) (f:FuncId):Bool:=match P.funcs[f]? with
 |some fn=>fn.body.isSome&&!(fn.name == "runtime.NumGoroutine")
 |none=>false
def Contract (P:Program) (f:FuncId) (as:List AV) (r:RV):Prop:=zDm P f=true∧
 ∀ (m:Mem) (w:World) (us:List Value),MemOk m w→ArgsRep m w as us→(∀ g,zIJ as us=some g→ioB as us≠some g)→Glob.ok w→(∀ b,zTT as us b→Glob.n≤b)→Calls P f us.toArray w (yVE m w as us r)
def yTx (m:Mem) (w:World) (fp:List Nat) (x':OVal) (e:Ending) (w':World):Prop:=
 ∃ m':Mem,m.le m'∧MemOk m' w'∧Pres (fun b=>b∈fp) w w'∧(∀ b o u,m' b o=some u→m b o=some u∨w.heap.size≤b∨b∈fp)∧
  ∃ u' fp',e=.returned u'∧OvV m' w' x' u' fp'∧fp'.Nodup∧∀ g∈fp',(w.heap.size≤g∨g∈fp)∧∀ o,m' g o=none
def zC8 (P:Program) (f:FuncId) (x x':OVal):Prop:=zDm P f=true∧
 ∀ (m:Mem) (w:World) (u:Value) (fp:List Nat),MemOk m w→OvV m w x u fp→fp.Nodup→(∀ g∈fp,Glob.n≤g∧∀ o,m g o=none)→Glob.ok w→Calls P f #[u] w (yTx m w fp x')
def yXK (m:Mem) (w:World) (fp:List Nat) (u:Value) (x':OV) (y:Option PVal) (e:Ending) (w':World):Prop:=
 ∃ m':Mem,m.le m'∧MemOk m' w'∧Pres (fun b=>b∈fp) w w'∧(∀ b o u,m' b o=some u→m b o=some u∨w.heap.size≤b∨b∈fp)∧
  ∃ v fp',e=.returned v∧(∀ p,y=some p→RpV m' p v)∧OvR m' w' x' u fp'∧fp'.Nodup∧∀ g∈fp',(w.heap.size≤g∨g∈fp)∧∀ o,m' g o=none
inductive CA where
 |v (x:PV)
 |io (cells:List PV)
 deriving Inhabited
def zTV (P:Program) (f:FuncId) (e k:Nat) (rows:List (List OV)) (as:List AV) (rows':List (List OV)):Prop:=zDm P f=true∧
 ∀ (m:Mem) (w:World) (u:Value) (b c:Nat) (fp:List Nat) (us:List Value),MemOk m w→OvR m w (.os (some b) e k rows) u fp→rows≠[]→fp.Nodup→(∀ g∈fp,Glob.n≤g∧∀ o,m g o=none)→Glob.ok w→ArgsRep m w as us→
  Calls P f (.slice (some ⟨b,0,none⟩) rows.length c::us).toArray w (yXK m w fp u (.os (some b) e k rows') none)
structure Step (X:Tag→Prop) (m m':Mem) (w w':World) (ow ow':Ow):Prop where
 le:m.le m'
 keep:∀ g t,ow g=some t→¬ X t→w'.heap[g]?=w.heap[g]?∧(∀ o,m' g o=m g o)∧ow' g=some t
section
variable {X:Tag→Prop} {m m':Mem} {w w':World} {ow ow':Ow} {β:Bx}
theorem OwnRep.step (s:Step X m m' w w' ow ow') {t:Tag} (ht:¬ X t) {e k:Nat} {rows:List (List PV)} {u:Value} (h:OwnRep m w ow t e k rows u):OwnRep m' w' ow' t e k rows u:=by
 obtain ⟨⟨xs,h1⟩,h2⟩:=h
 refine ⟨⟨xs,zFs h1 fun g hg=>(s.keep g t (h2 g hg).1 ht).1⟩,fun g hg=>?_⟩
 obtain ⟨h3,h4,h5⟩:=h2 g hg
 obtain ⟨_,h7,h8⟩:=s.keep g t h3 ht
 exact ⟨h8,RpRows.mono s.le rows g k 0 h4,fun o ho=>(h7 o).trans (h5 o ho)⟩
theorem StkRep.step (s:Step X m m' w w' ow ow') {t:Tag} (ht:¬ X t) {e k:Nat} {rows:List (List PV)} {u:Value} (h:StkRep m w ow t e k rows u):StkRep m' w' ow' t e k rows u:=by
 obtain ⟨⟨xs,h1,h0⟩,hk,h2⟩:=h
 refine ⟨⟨xs,zFs h1 fun g hg=>(s.keep g t (h2 g hg).1 ht).1,RpL.mono s.le _ _ h0⟩,hk,fun g hg=>?_⟩
 obtain ⟨h3,h5⟩:=h2 g hg
 obtain ⟨_,h7,h8⟩:=s.keep g t h3 ht
 exact ⟨h8,fun o=>(h7 o).trans (h5 o)⟩
theorem OvOk.step (s:Step X m m' w w' ow ow') {t:Tag} (ht:¬ X t) {x:OVal} {u:Value} (h:OvOk m w ow t x u):OvOk m' w' ow' t x u:=by
 obtain ⟨fp,h1,h2,h3⟩:=h
 refine ⟨fp,h1.congr s.le fun g hg=>(s.keep g t (h3 g hg).1 ht).1,h2,fun g hg=>?_⟩
 obtain ⟨_,h7,h8⟩:=s.keep g t (h3 g hg).1 ht
 exact ⟨h8,fun o=>(h7 o).trans ((h3 g hg).2 o)⟩
def Ct.plain:Ct→Bool
 |.own _ _ _|.stk _ _ _|.ov _=>false
 |_=>true
theorem CtRep.step (s:Step X m m' w w' ow ow') {i:Nat} (ht:¬ X (.key i)) {c:Ct} {u:Value} (h:CtRep m w β ow i c u):CtRep m' w' β ow' i c u:=by
 cases c with
 |un=>trivial
 |pv x=>exact RpV.mono s.le h
 |own e k rows=>exact OwnRep.step s ht h
 |ptr j off=>exact h
 |tup xs=>obtain ⟨us,h1,h2⟩:=h;exact ⟨us,h1,h2.mono s.le⟩
 |gd t x=>exact ⟨fun ht=>RpV.mono s.le (h.1 ht),h.2⟩
 |stk e k rows=>exact StkRep.step s ht h
 |hdr n=>exact h
 |ov x=>exact OvOk.step s ht h
 |hdp b k n=>exact h
 |hds b k i n=>exact h
 |epp b k r f=>exact h
 |mph b=>exact h
 |cl f caps=>obtain ⟨us,h1,h2⟩:=h;exact ⟨us,h1,h2.mono s.le⟩
 |una=>trivial
theorem CtRep.step_plain (s:Step X m m' w w' ow ow') {i:Nat} {c:Ct} (hc:c.plain=true) {u:Value} (h:CtRep m w β ow i c u):CtRep m' w' β ow' i c u:=by
 cases c with
 |un=>trivial
 |pv x=>exact RpV.mono s.le h
 |own e k rows=>cases hc
 |ptr j off=>exact h
 |tup xs=>obtain ⟨us,h1,h2⟩:=h;exact ⟨us,h1,h2.mono s.le⟩
 |gd t x=>exact ⟨fun ht=>RpV.mono s.le (h.1 ht),h.2⟩
 |stk e k rows=>cases hc
 |hdr n=>exact h
 |ov x=>cases hc
 |hdp b k n=>exact h
 |hds b k i n=>exact h
 |epp b k r f=>exact h
 |mph b=>exact h
 |cl f caps=>obtain ⟨us,h1,h2⟩:=h;exact ⟨us,h1,h2.mono s.le⟩
 |una=>trivial
theorem CellRep.step (s:Step X m m' w w' ow ow') {i:Nat} (ht:¬ X (.key i)) {c:Ct} {u:Value} (h:CellRep m w ow i c u):CellRep m' w' ow' i c u:=by
 cases c with
 |un=>trivial
 |pv x=>cases x with
  |one x=>exact Rp.mono s.le x u h
  |agg cs=>exact h.elim
 |own e k rows=>exact OwnRep.step s ht h
 |ptr j off=>exact h.elim
 |tup xs=>exact h.elim
 |gd t x=>exact h.elim
 |stk e k rows=>exact h.elim
 |hdr n=>exact h.elim
 |ov x=>cases x with
  |one x=>exact OvOk.step s ht h
  |agg cs=>exact h.elim
 |hdp b k n=>exact h.elim
 |hds b k i n=>exact h.elim
 |epp b k r f=>exact h.elim
 |mph b=>exact h.elim
 |cl f caps=>exact h.elim
 |una=>exact h.elim
theorem BoxRep.step (s:Step X m m' w w' ow ow') {F F':List Ct} {j:Nat} {bn:Nat×Nat} (hj:¬ X (.box j)) (hF:∀ o,o < bn.2→F'.getD (bn.1+o) .un=F.getD (bn.1+o) .un) (hk:∀ o,o < bn.2→¬ X (.key (bn.1+o))) {b:Option Nat}
  (h:BoxRep m w ow F j bn b):BoxRep m' w' ow' F' j bn b:=by
 cases b with
 |none=>exact fun o ho=>by rw [hF o ho];exact h o ho
 |some b=>
  obtain ⟨h1,h2,cs,T,h3,h4,h5⟩:=h
  obtain ⟨h6,h7,h8⟩:=s.keep b _ h1 hj
  exact ⟨h8,fun o=>(h7 o).trans (h2 o),cs,T,h6.trans h3,h4,fun o ho=>by rw [hF o ho];exact (h5 o ho).step s (hk o ho)⟩
theorem InvG.step {E:Env} {S:Start} {F F':List Ct} {a a':Act} (h:InvG E S m β ow F a w) (s:Step X m m' w w' ow ow')
  (hF:F'.length=F.length) (ha:a'.tmps.size=a.tmps.size) (hd:a'.defers=a.defers)
  (slots:∀ i,i < E.N→(F'.getD i .un=F.getD i .un∧a'.tmps.getD i undef=a.tmps.getD i undef∧(¬ X (.key i)∨(F.getD i .un).plain=true))∨CtRep m' w' β ow' i (F'.getD i .un) (a'.tmps.getD i undef))
  (boxes:∀ (j:Nat) (bn:Nat×Nat),E.Γ[j]?=some bn→(¬ X (.box j)∧∀ o,o < bn.2→F'.getD (bn.1+o) .un=F.getD (bn.1+o) .un∧¬ X (.key (bn.1+o)))∨BoxRep m' w' ow' F' j bn (β j))
  (mem:MemOk m' w') (pres:Pres (fun x=>S.R0 x∨S.w0.heap.size≤x) w w') (own:∀ b t,ow' b=some t→S.w0.heap.size≤b∨S.R0 b) (lt:∀ b t,ow' b=some t→b < w'.heap.size)
  (new:∀ b o u,m' b o=some u→m b o=some u∨S.w0.heap.size≤b∨S.R0 b):InvG E S m' β ow' F' a' w' where
 lenF:=hF.trans h.lenF
 lenA:=ha.trans h.lenA
 dfr:=hd.trans h.dfr
 slots:=fun i hi=>by
  rcases slots i hi with ⟨h1,h2,h3⟩|h1
  ·rw [h1,h2]
   rcases h3 with h3|h3
   ·exact (h.slots i hi).step s h3
   ·exact (h.slots i hi).step_plain s h3
  ·exact h1
 boxes:=fun j bn hj=>by
  rcases boxes j bn hj with ⟨h1,h2⟩|h1
  ·exact (h.boxes j bn hj).step s h1 (fun o ho=>(h2 o ho).1) (fun o ho=>(h2 o ho).2)
  ·exact h1
 mem:=mem
 mle:=Mem.le_trans h.mle s.le
 pres:=h.pres.trans pres
 own:=own
 lt:=lt
 new:=fun b o u hu=>(new b o u hu).elim (fun g=>h.new b o u g) .inr
 fix:=h.fix
end
end Go.Hx
end

section
namespace Go.Hx
open Go.RowKit
variable [Glob]
inductive AM where
 |v
 |o
 |n (e k:Nat)
 |i (j base sz:Nat)
 |r
 deriving Inhabited
inductive HOp where
 |val (d:Nat) (v:VOp)
 |call (d:Option Nat) (f:Nat) (args:List (Opd×AM))
 |callv (d:Option Nat) (x:Opd) (args:List (Opd×AM))
 |callg (d f:Nat) (args:List (Opd×AM))
 |mvo (d x:Nat)
 |nlo (d e k:Nat)
 |ldo (d:Nat) (x:Opd) (j base off e k:Nat)
 |sto (x:Opd) (j base off n:Nat) (y:Opd)
 |stw (x:Opd) (j base off:Nat) (y:Nat)
 |alloc (d j base:Nat) (cells:List PV)
 |box (d j base n:Nat) (x:Opd)
 |alo (d j base:Nat) (cells:List PV)
 |app (d e k:Nat) (x:Opd) (y:Opd)
 |bsl (d e k:Nat) (parts:List Opd)
 |pan (x:Opd)
 |nlk (d e k:Nat)
 |mvk (d x:Nat)
 |trk (d x:Nat) (hi:Opd)
 |apk (d e k x:Nat) (y:Opd)
 |isn (d:Nat) (ng:Bool) (x:Opd)
 |vnl (d e k:Nat)
 |vmv (d x:Nat)
 |vld (d:Nat) (x:Opd) (j base off n:Nat) (agg:Bool)
 |vst (x:Opd) (j base off n y:Nat)
 |vap (d e k x:Nat) (y:Opd)
 |vbs (d e k x:Nat)
 |vle (d:Nat) (x:Opd) (r j base:Nat) (pt:List (Opd×Nat)) (n:Nat) (agg:Bool)
 |vlp (d:Nat) (x:Opd) (r j base:Nat) (pt:List (Opd×Nat)) (n:Nat) (agg:Bool)
 |vlh (d:Nat) (x:Opd) (r j base:Nat) (pt:List (Opd×Nat))
 |vse (x:Opd) (r j base:Nat) (pt:List (Opd×Nat)) (n:Nat) (y:Opd)
 |std (x:Opd) (j base sz:Nat) (y:Opd)
 |callo (d f x:Nat)
 |callp (d f x:Nat)
 |vbx (d j base n x:Nat)
 |mmk (d:Nat)
 |mps (x:Opd) (r kk:Nat) (k:Opd) (y:Opd)
 |mpv (d:Nat) (x:Opd) (r kk:Nat) (k:Opd) (e kw:Nat)
 |mrg (d:Nat) (x:Opd) (r:Nat)
 |mnx (d it r:Nat)
 |men (d it r:Nat)
 |cpy (d:Option Nat) (e k r:Nat) (x y:Opd)
 |cals (d:Option Nat) (f r:Nat) (x:Opd) (args:List (Opd×AM))
 |vow (d:Nat) (v:VOp) (off e k:Nat)
 deriving Inhabited
structure HO where
 g:Option (Nat×Bool):=none
 op:HOp
 deriving Inhabited
def zBR (F:List Ct):List (Opd×AM)→Prop×List AV
 |[]=>(True,[])
 |(x,.v)::r=>match (zAn F x).pv? with
  |some p=>((zAn F x).need∧(zBR F r).1,.val p.norm::(zBR F r).2)
  |none=>(False,[])
 |(x,.r)::r=>match (zAn F x).pv? with
  |some p=>((zAn F x).need∧(zBR F r).1,.val p::(zBR F r).2)
  |none=>(False,[])
 |(x,.o)::r=>match zAn F x with
  |.own e k rows=>((zBR F r).1,.own e k rows::(zBR F r).2)
  |_=>(False,[])
 |(x,.n e k)::r=>match zAn F x with
  |.pv (.one (.nl _))=>((zBR F r).1,.own e k []::(zBR F r).2)
  |_=>(False,[])
 |(x,.i j base sz)::r=>match zAn F x,zBq F base sz with
  |.ptr j' 0,some cs=>(j'=j∧(zBR F r).1,.io cs::(zBR F r).2)
  |_,_=>(False,[])
def zAi (F:List Ct) (i:Nat):List Ct→List Ct
 |[]=>F
 |c::cs=>zAi (F.set i c) (i+1) cs
def zBw:List (Opd×AM)→Option Nat
 |(x,.o)::_=>match x with|.t n=>some n|_=>none
 |(_,.n _ _)::_=>none
 |(_,.v)::r=>zBw r
 |(_,.i _ _ _)::r=>zBw r
 |(_,.r)::r=>zBw r
 |[]=>none
def zFc:List (Opd×AM)→Option (Nat×Nat×Nat)
 |(_,.i j base sz)::_=>some (j,base,sz)
 |(_,.o)::r=>zFc r
 |(_,.n _ _)::r=>zFc r
 |(_,.r)::r=>zFc r
 |(_,.v)::r=>zFc r
 |[]=>none
def zEN (F:List Ct):Option Nat→List Ct
 |some n=>match F.getD n .un with|.own _ k rows=>F.set n (.pv (.one (.sl k rows)))|_=>F
 |none=>F
def zDF (sz:Nat):Option (List PV)→List Ct
 |some l=>(l.map fun x=>.pv (.one x)).take sz
 |none=>List.replicate sz .un
def zJM (F:List Ct) (io:Option (List PV)):Option (Nat×Nat×Nat)→List Ct
 |some (_,base,sz)=>zAi F base (zDF sz io)
 |none=>F
def zAX (F:List Ct) (io:Option (List PV)) (args:List (Opd×AM)):List Ct:=zJM (zEN F (zBw args)) io (zFc args)
def yXC:Res→Ct
 |.val x=>.pv x
 |.own e k rows=>.own e k rows
 |.tup []=>.un
 |.tup xs=>.tup xs
 |.pan _=>.un
 |.ov x=>.ov x
def yCo (F:List Ct) (d:Option Nat) (c:Ct):List Ct:=match d with|some d=>F.set d c|none=>F
def yLI (F:List Ct) (d:Option Nat) (r:Res):List Ct:=yCo F d (yXC r)
def zEO (j:Nat):Ct→Ct
 |.ptr j' off=>if j'=j then .un else .ptr j' off
 |.cl f caps=>if zFJ j caps then .un else .cl f caps
 |c=>c
def yO6 (F:List Ct):List Opd→Prop×List Cap
 |[]=>(True,[])
 |x::r=>match zAn F x with
  |.ptr j 0=>((yO6 F r).1,.b j::(yO6 F r).2)
  |c=>match c.pv? with
   |some (.one p)=>(c.need∧(yO6 F r).1,.p p::(yO6 F r).2)
   |_=>(False,[])
def yXD:Ct→Nat→Nat→Nat→Ct
 |.pv (.agg cs),off,e,k=>.ov (.agg ((cs.take off).map .p++.os none e k []::(cs.drop (off+1)).map .p))
 |_,_,_,_=>.un
def yVF:Ct→Nat→Bool
 |.pv (.agg cs),off=>match cs[off]? with|some (.nl _)=>true|_=>false
 |_,_=>false
def OVal.cells:OVal→List OV
 |.one x=>[x]
 |.agg cs=>cs
def zG7:OV→Ct
 |.p x=>.pv (.one x)
 |o=>.ov (.one o)
def zQb:Ct→Option OV
 |.pv (.one x)=>some (.p x.norm)
 |.own _ k rows=>some (.p (.sl k rows))
 |.ov (.one x)=>some x
 |_=>none
def zC1 (F:List Ct) (i:Nat):Nat→Option (List OV)
 |0=>some []
 |n+1=>match zQb (F.getD i .un),zC1 F (i+1) n with
  |some x,some xs=>some (x::xs)
  |_,_=>none
def yJb:Ct→Ct
 |.ov _=>.un
 |c=>c
def zAV (F:List Ct) (i:Nat):Nat→List Ct
 |0=>[]
 |n+1=>yJb (F.getD i .un)::zAV F (i+1) n
def yM8 (agg:Bool) (cs:List OV):OVal:=if agg then .agg cs else .one (cs.headD .hole)
def zDn (F:List Ct):List (Opd×Nat)→Prop×List (Nat×Nat)
 |[]=>(True,[])
 |(x,c)::r=>match (zAn F x).pv? with
  |some (.one (.v (.int _ n)))=>((zAn F x).need∧0≤n∧(zDn F r).1,(n.toNat,c)::(zDn F r).2)
  |_=>(False,[])
def yM9:List OV→Option (List PV)
 |[]=>some []
 |.p x::r=>match yM9 r with|some xs=>some (x::xs)|none=>none
 |_::r=>match yM9 r with|some xs=>some (.any::xs)|none=>none
def zD3 (i:Nat) (rows:List (List OV)):List (List OV):=rows.take i++[(rows.getD i []).map OV.left]++(rows.drop i).dropLast
def zYg (F:List Ct) (y:Opd):Prop×List OV:=match zAn F y with
 |.ov v=>(True,v.cells)
 |c=>match c.pv? with
  |some p=>(c.need,p.norm.cells.map .p)
  |none=>(False,[])
def zYh (F:List Ct) (k:Nat) (y:Opd):Prop×List (List OV):=match zAn F y with
 |.ov (.one (.os _ _ k' rs))=>(k'=k,rs)
 |c=>match c.pv? with
  |some (.one (.sl k' rs))=>(c.need∧k'=k,rs.map fun r=>r.map .p)
  |_=>(False,[])
def clr (F G:List Ct) (y:Opd):List Ct:=match y with
 |.t n=>match F.getD n .un with|.ov _=>G.set n .un|_=>G
 |_=>G
def zFO:List OV→Option (List PV)
 |[]=>some []
 |.p x::r=>match zFO r with|some xs=>some (x::xs)|none=>none
 |_=>none
def zYl:OVal→Ct
 |.one (.os _ _ _ rows)=>.hdr rows.length
 |_=>.un
def atV (F:List Ct) (x:Opd) (r:Nat) (pt:List (Opd×Nat)) (K:OV→List (Nat×Nat)→Nat→Nat→Nat→List (List OV)→Nat→Nat→Prop):Prop:=
 match zAn F x,F.getD r .un with
 |.epp b k i f,.ov (.one root)=>match root.get (zDn F pt).2 with
  |some (.os (some b') e k' rows)=>(zDn F pt).1∧b'=b∧k'=k∧i < rows.length∧K root (zDn F pt).2 b e k rows i f
  |_=>False
 |_,_=>False
def zTW:Value→Nat
 |.int .i64 _=>1
 |.string _=>2
 |.agg cs=>match cs.toList with
  |[.int .i64 _,.string _]=>3
  |_=>0
 |_=>0
def yNa:Value→PVal
 |.agg cs=>.agg (cs.toList.map .v)
 |x=>.one (.v x)
def yNb:PVal→Option Value
 |.one (.v x)=>some x
 |.agg [.v x,.v y]=>some (.agg #[x,y])
 |_=>none
def zGH:Value→Value→Bool
 |.agg a,.agg b=>match a.toList,b.toList with
  |[x,y],[x',y']=>zTO x x'&&zTO y y'
  |_,_=>false
 |a,b=>zTO a b
def zQO (ks:List Value) (k:Value):Option Nat:=ks.findIdx? (zGH k)
def zYm (b:Nat) (ks:List Value) (vs:List OV) (k:Value) (c:OV):OV:=match zQO ks k with
 |some i=>.mp b ks (vs.set i c)
 |none=>.mp b (ks++[k]) (vs++[c])
def yNc (F:List Ct) (y:Opd):Prop×Option OV:=match zAn F y with
 |.ov (.one x)=>(True,some x)
 |c=>match c.pv? with
  |some (.one p)=>(c.need,some (.p p.norm))
  |_=>(False,none)
def zYn (F:List Ct) (x:Opd):Option Nat:=match zAn F x with
 |.mph b=>some b
 |.ov (.one (.mp b _ _))=>some b
 |_=>none
def zYo (F:List Ct) (x:Opd) (r kk:Nat) (k:Opd) (K:Nat→List Value→List OV→Value→Prop):Prop:=
 match zYn F x,F.getD r .un,(zAn F k).pv? with
 |some b,.ov (.one (.mp b' ks vs)),some p=>match yNb p.norm with
  |some kv=>b'=b∧(zAn F k).need∧zTW kv=kk∧(∀ q∈ks,zTW q=kk)∧K b ks vs kv
  |none=>False
 |_,_,_=>False
def zQP (P:Program) (f:FuncId) (avs:Prop×List AV) (F0:Option (List PV)→List Ct) (d:Option Nat) (K:List Ct→Prop) (X:Value→List Ct→Prop):Prop:=
 avs.1∧∃ r,Contract P f avs.2 r∧match r.res with
  |.pan v=>X v (F0 none)
  |res=>K (yLI (F0 (some r.io)) d res)
def zOB (P:Program) (e n:Nat):Prop:=n * 4096≤140737488355328∨∃ b,(P.info? e).map (·.bytes)=some b∧n≤maxLen∧n * b≤140737488355328
theorem yVG {P:Program} {e n:Nat} (h:n * 4096≤140737488355328):zOB P e n:=.inl h
def opW (P:Program) (o:HOp) (F:List Ct) (K:List Ct→Prop) (X:Value→List Ct→Prop):Prop:=
 match o with
 |.val d v=>(ev F v).1∧K (F.set d (ev F v).2)
 |.call d f args=>zQP P f (zBR F args) (fun io=>zAX F io args) d K X
 |.callg d f args=>zQP P f (zBR F args) (fun io=>zAX F io args) (some d) K X
 |.callv d x args=>match (zAn F x).pv? with
  |some (.one (.clo f caps))=>(zAn F x).need∧zQP P f ((zBR F args).1,(zBR F args).2++caps.map fun c=>.val (.one c)) (fun io=>zAX F io args) d K X
  |_=>False
 |.mvo d x=>match F.getD x .un with
  |.own e k rows=>d≠x∧K ((F.set x (.pv (.one (.sl k rows)))).set d (.own e k rows))
  |_=>False
 |.nlo d e k=>K (F.set d (.own e k []))
 |.ldo d x j base off e k=>match zAn F x,F.getD (base+off) .un with
  |.ptr j' off',.own e' k' rows=>j'=j∧off'=off∧e'=e∧k'=k∧K ((F.set (base+off) (.pv (.one (.sl k rows)))).set d (.own e k rows))
  |.ptr j' off',.pv (.one (.nl _))=>j'=j∧off'=off∧K (F.set d (.own e k []))
  |_,_=>False
 |.sto x j base off n y=>match zAn F x,(zAn F y).pv? with
  |.ptr j' off',some p=>j'=j∧off'=off∧p.cells.length=n∧(zAn F y).need∧K (zAi F (base+off) (p.cells.map fun c=>.pv (.one c)))
  |_,_=>False
 |.std x j base sz y=>match zAn F x,(zAn F y).pv? with
  |.ptr j' off',some p=>j'=j∧off' < sz∧p.cells.length=1∧(zAn F y).need∧K (zAi F (base+off') (p.cells.map fun c=>.pv (.one c)))
  |_,_=>False
 |.stw x j base off y=>match zAn F x,F.getD y .un with
  |.ptr j' off',.own e k rows=>j'=j∧off'=off∧K ((F.set y (.pv (.one (.sl k rows)))).set (base+off) (.own e k rows))
  |_,_=>False
 |.alloc d j base cells=>K (zAi ((F.map (zEO j)).set d (.ptr j 0)) base (cells.map fun c=>.pv (.one c)))
 |.box d j base n x=>match (zAn F x).pv? with
  |some p=>p.cells.length=n∧(zAn F x).need∧K (zAi ((F.map (zEO j)).set d (.ptr j 0)) base (p.cells.map fun c=>.pv (.one c)))
  |none=>False
 |.alo d j base cells=>F.getD base .un=.una∧K (zAi (F.set d (.ptr j 0)) base (cells.map fun c=>.pv (.one c)))
 |.app d e k x y=>match zAn F x,(zAn F y).pw? with
  |.own e' k' rows,some (.one (.sl k'' rs))=>(match x with|.t n=>n≠d|_=>False)∧e'=e∧k'=k∧k''=k∧(zAn F y).need∧zOB P e (rows.length+rs.length)∧K ((match x with|.t n=>F.set n (.pv (.one (.sl k rows)))|_=>F).set d (.own e k (rows++rs)))
  |_,_=>False
 |.bsl d e k parts=>(zEI F k parts).1∧K (F.set d (.own e k (zEI F k parts).2))
 |.pan x=>match (zAn F x).pv? with
  |some (.one (.v (.iface t u)))=>(zAn F x).need∧X (.iface t u) F
  |_=>False
 |.nlk d e k=>K (F.set d (.stk e k []))
 |.mvk d x=>match F.getD x .un with
  |.stk e k rows=>d≠x∧K ((F.set x (.hdr rows.length)).set d (.stk e k rows))
  |_=>False
 |.trk d x hi=>match F.getD x .un,(zAn F hi).pv? with
  |.stk e k rows,some (.one (.v (.int _ n)))=>d≠x∧(zAn F hi).need∧0≤n∧n≤rows.length∧K ((F.set x (.hdr rows.length)).set d (.stk e k (rows.take n.toNat)))
  |_,_=>False
 |.apk d e k x y=>match F.getD x .un,(zAn F y).pv? with
  |.stk e' k' rows,some (.one (.sl k'' rs))=>x≠d∧e'=e∧k'=k∧k''=k∧(zAn F y).need∧(rows.length+rs.length) * 4096≤140737488355328∧K ((F.set x (.hdr rows.length)).set d (.stk e k (rows++rs)))
  |_,_=>False
 |.isn d ng x=>match (zAn F x).pv? with
  |some (.one (.sl _ rows))=>(zAn F x).need∧∀ b:Bool,(rows≠[]→b=false)→K (F.set d (.pv (bv (if ng then !b else b))))
  |some (.one (.nl _))=>(zAn F x).need∧K (F.set d (.pv (bv (!ng))))
  |_=>False
 |.vnl d e k=>K (F.set d (.ov (.one (.os none e k []))))
 |.vmv d x=>match F.getD x .un with
  |.ov v=>d≠x∧K ((F.set x (zYl v)).set d (.ov v))
  |_=>False
 |.vld d x j base off n agg=>match zAn F x,zC1 F (base+off) n with
  |.ptr j' off',some cs=>j'=j∧off'=off∧K ((zAi F (base+off) (zAV F (base+off) n)).set d (.ov (yM8 agg cs)))
  |_,_=>False
 |.vst x j base off n y=>match zAn F x,F.getD y .un with
  |.ptr j' off',.ov v=>j'=j∧off'=off∧v.cells.length=n∧K (zAi (F.set y .un) (base+off) (v.cells.map zG7))
  |_,_=>False
 |.callo d f x=>match F.getD x .un with
  |.ov v=>∃ v',zC8 P f v v'∧K ((F.set x .un).set d (.ov v'))
  |_=>False
 |.callp d f x=>match F.getD x .un with
  |.ov v=>∃ cs xs,zC8 P f v (.agg cs)∧zOv cs=some xs∧K ((F.set x .un).set d (.pv (.agg xs)))
  |_=>False
 |.vbx d j base n x=>match F.getD x .un with
  |.ov v=>v.cells.length=n∧K (zAi ((((F.set x .un).map (zEO j))).set d (.ptr j 0)) base (v.cells.map zG7))
  |_=>False
 |.cpy d e k r x y=>match zAn F x,zAn F y,F.getD r .un with
  |.hds b1 k1 i1 n1,.hds b2 k2 i2 n2,.ov (.one (.os (some b) e' k' rows))=>b1=b∧b2=b∧k1=k∧k2=k∧e'=e∧k'=k∧i1=i2+1∧i2 < rows.length∧n2=rows.length-i2∧n1=rows.length-i2-1∧d≠some r∧
   K (yCo (F.set r (.ov (.one (.os (some b) e k (zD3 i2 rows))))) d .un)
  |_,_,_=>False
 |.vow d v off e k=>(ev F v).1∧yVF (ev F v).2 off=true∧K (F.set d (yXD (ev F v).2 off e k))
 |.cals d f r x args=>match zAn F x,F.getD r .un with
  |.hdp b _ n,.ov (.one (.os (some b') e k rows))=>b'=b∧n=rows.length∧rows≠[]∧d≠some r∧(zBR F args).1∧∃ rows',zTV P f e k rows (zBR F args).2 rows'∧K (yCo (F.set r (.ov (.one (.os (some b) e k rows')))) d .un)
  |_,_=>False
 |.mmk d=>∀ b,K (F.set d (.ov (.one (.mp b [] []))))
 |.mps x r kk k y=>zYo F x r kk k fun b ks vs kv=>(∀ s,y=.t s→s≠r)∧(yNc F y).1∧match (yNc F y).2 with
  |some c=>K ((clr F F y).set r (.ov (.one (zYm b ks vs kv c))))
  |_=>False
 |.mpv d x r kk k e kw=>zYo F x r kk k fun b ks vs kv=>d≠r∧match zQO ks kv with
  |some i=>i < vs.length∧K ((F.set r (.ov (.one (.mp b ks (vs.set i .hole))))).set d (.ov (.one (vs.getD i .hole))))
  |none=>K (F.set d (.ov (.one (.os none e kw []))))
 |.mrg d x r=>match zYn F x,F.getD r .un with
  |some b,.ov (.one (.mp b' ks _))=>b'=b∧K (F.set d (.ov (.one (.it b ks.length []))))
  |_,_=>False
 |.mnx d it r=>match F.getD it .un,F.getD r .un with
  |.ov (.one (.it b n seen)),.ov (.one (.mp b' ks vs))=>match zFO vs with
   |some ys=>b'=b∧n=ks.length∧d≠it∧it≠r∧((∀ i,i < n→i∈seen)→K (F.set d (.tup [bv false])))∧
     ∀ i,i < n→i∉seen→K ((F.set it (.ov (.one (.it b n (seen++[i]))))).set d (.tup [bv true,yNa (ks.getD i .nilIface),.one (ys.getD i (.nl 0))]))
   |none=>False
  |_,_=>False
 |.men d it r=>match F.getD it .un,F.getD r .un with
  |.ov (.one (.it b n seen)),.ov (.one (.mp b' ks vs))=>match zFO vs,seen.getLast? with
   |some ys,some i=>b'=b∧n=ks.length∧K (F.set d (.tup [yNa (ks.getD i .nilIface),.one (ys.getD i (.nl 0))]))
   |_,_=>False
  |_,_=>False
 |.vap d e k x y=>match F.getD x .un with
  |.ov (.one (.os _ e' k' rows))=>(∀ n,y=.t n→x≠n)∧e'=e∧k'=k∧(zYh F k y).1∧(rows.length+(zYh F k y).2.length) * 4096≤140737488355328∧K ((clr F (F.set x .un) y).set d (.ov (.one (.os none e k (rows++(zYh F k y).2)))))
  |_=>False
 |.vbs d e k x=>match F.getD x .un with
  |.ov v=>v.cells.length=k∧K ((F.set x .un).set d (.ov (.one (.os none e k [v.cells]))))
  |_=>False
 |.vle d x r _ _ pt n agg=>atV F x r pt fun root p b e k rows i f=>f+n≤(rows.getD i []).length∧
  K ((F.set r (.ov (.one (root.upd p (.os (some b) e k (rows.set i (yBd (rows.getD i []) f ((((rows.getD i []).drop f).take n).map OV.left)))))))).set d (.ov (yM8 agg (((rows.getD i []).drop f).take n))))
 |.vlp d x r _ _ pt n agg=>atV F x r pt fun _ _ _ _ _ rows i f=>f+n≤(rows.getD i []).length∧match yM9 (((rows.getD i []).drop f).take n) with
  |some ps=>K (F.set d (.pv (if agg then .agg ps else .one (ps.headD (.nl 0)))))
  |none=>False
 |.vlh d x r _ _ pt=>atV F x r pt fun _ _ _ _ _ rows i f=>match (rows.getD i [])[f]? with
  |some (.os (some b2) _ k2 rows2)=>K (F.set d (.hdp b2 k2 rows2.length))
  |some (.os none _ _ rows2)=>K (F.set d (.hdr rows2.length))
  |_=>False
 |.vse x r _ _ pt n y=>atV F x r pt fun root p b e k rows i f=>(∀ s,y=.t s→s≠r)∧(zYg F y).1∧(zYg F y).2.length=n∧f+n≤(rows.getD i []).length∧
  K ((clr F F y).set r (.ov (.one (root.upd p (.os (some b) e k (rows.set i (yBd (rows.getD i []) f (zYg F y).2)))))))
def zEh (F:List Ct) (g:Nat×Bool):Option Bool:=
 match F.getD g.1 .un with
 |.pv (.one (.v (.bool t)))=>some (if g.2 then t else !t)
 |.gd t1 (.one (.v (.bool t)))=>some (t1&&(if g.2 then t else !t))
 |_=>none
def ySz (args:List (Opd×AM)):Bool:=args.all fun x=>match x.2 with|.v=>true|_=>false
def hoW (P:Program) (o:HO) (F:List Ct) (K:List Ct→Prop) (X:Value→List Ct→Prop):Prop:=
 match o.g with
 |none=>opW P o.op F K X
 |some g=>match zEh F g with
  |none=>False
  |some T=>match o.op with
   |.val d v=>match (ev F v).2 with
    |.pv x=>(T=true→(ev F v).1)∧K (F.set d (.gd T x))
    |_=>match T with
     |true=>(ev F v).1∧K (F.set d (ev F v).2)
     |false=>K (F.set d (.gd false (bv false)))
   |.call (some d) f args=>(T=true→(zBR F args).1)∧∃ x,(T=true→Contract P f (zBR F args).2 {res:=.val x})∧K (F.set d (.gd T x))
   |.callv (some d) y args=>match (zAn F y).pv? with
    |some (.one (.clo f caps))=>(T=true→(zAn F y).need∧(zBR F args).1)∧∃ x,(T=true→Contract P f ((zBR F args).2++caps.map fun c=>.val (.one c)) {res:=.val x})∧K (F.set d (.gd T x))
    |_=>False
   |.callg d f args=>match T with
    |true=>opW P (.callg d f args) F K X
    |false=>K (F.set d (.gd false (bv false)))
   |.vlp d x r j base pt n agg=>match T with
    |true=>opW P (.vlp d x r j base pt n agg) F K X
    |false=>K (F.set d (.gd false (bv false)))
   |_=>False
def yTy (P:Program):List HO→List Ct→(List Ct→Prop)→(Value→List Ct→Prop)→Prop
 |[],F,K,_=>K F
 |o::os,F,K,X=>hoW P o F (fun F'=>yTy P os F' K X) X
def quW (P:Program) (o:HO) (F:List Ct) (K:List Ct→Prop):Prop:=
 match o.op with
 |.val d v=>match o.g with
  |none=>(ev F v).1∧K (F.set d (ev F v).2)
  |some g=>match zEh F g with
   |none=>False
   |some T=>match (ev F v).2 with
    |.pv x=>(T=true→(ev F v).1)∧K (F.set d (.gd T x))
    |_=>T=false∧K (F.set d (.gd T (bv false)))
 |.call (some d) f args=>match o.g with
  |none=>(zBR F args).1∧∃ x,Contract P f (zBR F args).2 {res:=.val (.one (.v x))}∧K (F.set d (.pv (.one (.v x))))
  |some g=>match zEh F g with
   |none=>False
   |some T=>(T=true→(zBR F args).1)∧∃ x,(T=true→Contract P f (zBR F args).2 {res:=.val (.one (.v x))})∧K (F.set d (.gd T (.one (.v x))))
 |_=>False
def ySA (P:Program):List HO→List Ct→(List Ct→Prop)→Prop
 |[],F,K=>K F
 |o::os,F,K=>quW P o F (fun F'=>ySA P os F' K)
def HO.quiet (o:HO):Bool:=match o.op with
 |.val _ v=>v.reads
 |.call (some _) _ args=>ySz args
 |_=>false
def zTX (E:Env) (j base n:Nat):Bool:=match E.Γ[j]? with|some bn=>bn.1==base&&bn.2==n|none=>false
def zEJ (E:Env) (j base top:Nat):Bool:=match E.Γ[j]? with|some bn=>bn.1==base&&decide (top≤bn.2)|none=>false
def zJk (E:Env):List (Opd×AM)→List Operand→Bool
 |[],[]=>true
 |(x,m)::r,y::ys=>zAk E.N x y&&(match m with|.i j base sz=>zTX E j base sz|.o=>(match x with|.t _=>true|_=>false)|_=>true)&&zJk E r ys
 |_,_=>false
def zAY (N:Nat):Option Nat→Option Nat→Bool
 |none,none=>true
 |some d,some d'=>d==d'&&decide (d < N)
 |_,_=>false
def zFn (P:Program) (t e k:Nat):Bool:=match sliceElem? P t with|some e'=>e'==e&&zEg P e==some k&&decide (0 < k)&&(match (P.info? e) with|some i=>decide (i.bytes≤4096)&&(match i.zero with|some z=>z.cells.size==k|none=>false)|none=>false)|none=>false
def zLs (P:Program) (t:TypeId):Nat→Bool
 |1=>ySx P t .i64
 |2=>zLr P t
 |3=>zCT P t [0,2]
 |_=>false
def yJc (P:Program) (t:TypeId) (kk:Nat):Bool:=match P.underlying t with
 |some (.map kt _)=>zLs P kt kk
 |_=>false
def yVH (P:Program) (t:TypeId) (z:PV):Bool:=match P.underlying t with
 |some (.map _ et)=>zBV P et==some false&&(match (P.info? et).bind (·.zero) with|some zv=>zFK [z] zv.cells.toList&&zFI zv|none=>false)
 |_=>false
def zB5 (E:Env) (r j base:Nat):Bool:=decide (r < E.N)||(decide (base≤r)&&zEJ E j base (r-base+1))
def yLJ (N:Nat) (pt:List (Opd×Nat)):Bool:=pt.all fun x=>match x.1 with|.t n=>decide (n < N)|.c _=>true|_=>false
def zD4 (P:Program) (E:Env) (o:HOp) (op:Op) (dst:Option Nat):Bool:=
 match o with
 |.val d v=>zAY E.N (some d) dst&&yQR P E v op
 |.call d f args=>(match op with|.call c=>zAY E.N d dst&&(match c.callee with|.value (.func g)=>g==f|_=>false)&&zJk E args c.args.toList|_=>false)
 |.callg d f args=>(match op with|.call c=>zAY E.N (some d) dst&&(match c.callee with|.value (.func g)=>g==f|_=>false)&&zJk E args c.args.toList|_=>false)
 |.callv d x args=>(match op with|.call c=>zAY E.N d dst&&(match c.callee with|.value y=>zAk E.N x y|_=>false)&&ySz args&&zJk E args c.args.toList|_=>false)
 |.mvo d x=>zAY E.N (some d) dst&&(match op with|.move y=>zAk E.N (.t x) y|.assign y=>zAk E.N (.t x) y|_=>false)
 |.nlo d _ _=>zAY E.N (some d) dst&&(match op with|.move y=>zAk E.N (.c (.one (.nl 0))) y|.assign y=>zAk E.N (.c (.one (.nl 0))) y|_=>false)
 |.ldo d x j base off _ _=>zAY E.N (some d) dst&&(match op with|.load t y=>zAk E.N x y&&zEJ E j base (off+1)&&zBV P t==some false|_=>false)
 |.sto x j base off n y=>dst.isNone&&(match op with|.store t x' y'=>zAk E.N x x'&&zAk E.N y y'&&zEJ E j base (off+n)&&zEg P t==some n|_=>false)
 |.std x j base sz y=>dst.isNone&&(match op with|.store t x' y'=>zAk E.N x x'&&zAk E.N y y'&&zEJ E j base sz&&zEg P t==some 1|_=>false)
 |.stw x j base off y=>dst.isNone&&(match op with|.store t x' y'=>zAk E.N x x'&&zAk E.N (.t y) y'&&zEJ E j base (off+1)&&zEg P t==some 1|_=>false)
 |.alloc d j base cells=>decide (E.nfix≤j)&&zAY E.N (some d) dst&&zTX E j base cells.length&&(match op with|.alloc t=>(match (P.info? t).bind (·.zero) with|some z=>zFK cells z.cells.toList|none=>false)|_=>false)
 |.box d j base n x=>decide (E.nfix≤j)&&zAY E.N (some d) dst&&zTX E j base n&&(match op with|.box _ y=>zAk E.N x y|_=>false)
 |.alo d j base cells=>decide (E.nfix≤j)&&zAY E.N (some d) dst&&zTX E j base cells.length&&decide (0 < cells.length)&&(match op with|.alloc t=>(match (P.info? t).bind (·.zero) with|some z=>zFK cells z.cells.toList|none=>false)|_=>false)
 |.app d e k x y=>zAY E.N (some d) dst&&(match op with|.call c=>(match c.callee with|.builtin .append=>true|_=>false)&&(match c.args.toList,c.argTypes.toList with|[x',y'],[t,t']=>zAk E.N x x'&&zAk E.N y y'&&t==t'&&zFn P t e k|_,_=>false)|_=>false)
 |.bsl d e k parts=>zAY E.N (some d) dst&&(match op with|.buildSlice t n ps=>zGm E.N 0 parts ps.toList&&n==parts.length&&decide (n * k≤2 ^ 24)&&zFn P t e k|_=>false)
 |.pan x=>(match op with|.call c=>(match c.callee with|.builtin .panic=>true|_=>false)&&(match c.args.toList with|[y]=>zAk E.N x y|_=>false)|.panic y=>zAk E.N x y|_=>false)
 |.nlk d _ _=>zAY E.N (some d) dst&&(match op with|.move y=>zAk E.N (.c (.one (.nl 0))) y|.assign y=>zAk E.N (.c (.one (.nl 0))) y|_=>false)
 |.mvk d x=>zAY E.N (some d) dst&&(match op with|.move y=>zAk E.N (.t x) y|.assign y=>zAk E.N (.t x) y|_=>false)
 |.trk d x hi=>zAY E.N (some d) dst&&(match op with|.slice t y lo' hi' mx=>mx.isNone&&lo'.isNone&&zAk E.N (.t x) y&&zJK E.N (some hi) hi'&&(match sliceElem? P t with|some e=>(zEg P e).isSome|none=>false)|_=>false)
 |.apk d e k x y=>zAY E.N (some d) dst&&(match op with|.call c=>(match c.callee with|.builtin .append=>true|_=>false)&&(match c.args.toList,c.argTypes.toList with|[x',y'],[t,t']=>zAk E.N (.t x) x'&&zAk E.N y y'&&t==t'&&zFn P t e k|_,_=>false)|_=>false)
 |.vnl d _ _=>zAY E.N (some d) dst&&(match op with|.move y=>zAk E.N (.c (.one (.nl 0))) y|.assign y=>zAk E.N (.c (.one (.nl 0))) y|_=>false)
 |.vmv d x=>zAY E.N (some d) dst&&(match op with|.move y=>zAk E.N (.t x) y|.assign y=>zAk E.N (.t x) y|_=>false)
 |.vld d x j base off n agg=>zAY E.N (some d) dst&&(match op with|.load t y=>zAk E.N x y&&zEJ E j base (off+n)&&zBV P t==some agg&&zEg P t==some n&&(agg||n==1)|_=>false)
 |.vst x j base off n y=>dst.isNone&&(match op with|.store t x' y'=>zAk E.N x x'&&zAk E.N (.t y) y'&&zEJ E j base (off+n)&&zEg P t==some n|_=>false)
 |.vap d e k x y=>zAY E.N (some d) dst&&(match op with|.call c=>(match c.callee with|.builtin .append=>true|_=>false)&&(match c.args.toList,c.argTypes.toList with|[x',y'],[t,t']=>zAk E.N (.t x) x'&&zAk E.N y y'&&t==t'&&zFn P t e k|_,_=>false)|_=>false)
 |.callo d f x=>zAY E.N (some d) dst&&(match op with|.call c=>(match c.callee with|.value (.func g)=>g==f|_=>false)&&(match c.args.toList with|[y]=>zAk E.N (.t x) y|_=>false)|_=>false)
 |.callp d f x=>zAY E.N (some d) dst&&(match op with|.call c=>(match c.callee with|.value (.func g)=>g==f|_=>false)&&(match c.args.toList with|[y]=>zAk E.N (.t x) y|_=>false)|_=>false)
 |.vbx d j base n x=>decide (E.nfix≤j)&&zAY E.N (some d) dst&&zTX E j base n&&(match op with|.box _ y=>zAk E.N (.t x) y|_=>false)
 |.vbs d e k x=>zAY E.N (some d) dst&&(match op with|.buildSlice t n ps=>zGm E.N 0 [.t x] ps.toList&&n==1&&decide (k≤2 ^ 24)&&zFn P t e k|_=>false)
 |.vle d x r j base pt n agg=>zAY E.N (some d) dst&&zB5 E r j base&&yLJ E.N pt&&(match op with|.load t y=>zAk E.N x y&&zBV P t==some agg&&zEg P t==some n&&(agg||n==1)|_=>false)
 |.vlp d x r j base pt n agg=>zAY E.N (some d) dst&&zB5 E r j base&&yLJ E.N pt&&(match op with|.load t y=>zAk E.N x y&&zBV P t==some agg&&zEg P t==some n&&(agg||n==1)|_=>false)
 |.vlh d x r j base pt=>zAY E.N (some d) dst&&zB5 E r j base&&yLJ E.N pt&&(match op with|.load t y=>zAk E.N x y&&zBV P t==some false&&zEg P t==some 1|_=>false)
 |.mmk d=>zAY E.N (some d) dst&&(match op with|.makeMap _ r=>r.isNone|_=>false)
 |.mps x r kk k y=>dst.isNone&&decide (r < E.N)&&(match op with|.mapUpdate t m' k' y'=>zAk E.N x m'&&zAk E.N k k'&&zAk E.N y y'&&yJc P t kk|.insert t m' k' y'=>zAk E.N x m'&&zAk E.N k k'&&zAk E.N y y'&&yJc P t kk|_=>false)
 |.mpv d x r kk k e kw=>zAY E.N (some d) dst&&decide (r < E.N)&&(match op with|.lookup t m' k' ok'=>!ok'&&zAk E.N x m'&&zAk E.N k k'&&yJc P t kk&&yVH P t (.nl 0)|_=>false)
 |.mrg d x r=>zAY E.N (some d) dst&&decide (r < E.N)&&(match op with|.range t y=>zAk E.N x y&&(match P.underlying t with|some (.map _ _)=>true|_=>false)|_=>false)
 |.mnx d it r=>zAY E.N (some d) dst&&decide (r < E.N)&&(match op with|.next y s=>!s&&zAk E.N (.t it) y|_=>false)
 |.men d it r=>zAY E.N (some d) dst&&decide (r < E.N)&&(match op with|.entry y=>zAk E.N (.t it) y|_=>false)
 |.cpy d e k r x y=>zAY E.N d dst&&decide (r < E.N)&&(match op with|.call c=>(match c.callee with|.builtin .copy=>true|_=>false)&&(match c.args.toList,c.argTypes.toList with|[x',y'],[t,t']=>zAk E.N x x'&&zAk E.N y y'&&t==t'&&zFn P t e k|_,_=>false)|_=>false)
 |.cals d f r x args=>zAY E.N d dst&&ySz args&&decide (r < E.N)&&(match op with|.call c=>(match c.callee with|.value (.func g)=>g==f|_=>false)&&(match c.args.toList with|y::ys=>zAk E.N x y&&zJk E args ys|[]=>false)|_=>false)
 |.vow d v _ _ _=>zAY E.N (some d) dst&&yQR P E v op
 |.vse x r j base pt n y=>dst.isNone&&zB5 E r j base&&yLJ E.N pt&&(match op with|.store t x' y'=>zAk E.N x x'&&zAk E.N y y'&&zEg P t==some n|_=>false)
 |.isn d ng x=>zAY E.N (some d) dst&&(match op with|.binOp op' t x' (.const (.slice none 0 0)) _=>decide (op'=if ng then .neq else .eql)&&zK1 P t&&zAk E.N x x'|_=>false)
end Go.Hx
end
