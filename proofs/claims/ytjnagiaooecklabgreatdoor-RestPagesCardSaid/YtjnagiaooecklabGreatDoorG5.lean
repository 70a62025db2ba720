/-
  Walks of functions of the program over an abstract layer, and the laws that they use: each contract says what the function computes, for every input that its conditions let by. No other condition.
-/
import Derived.Test.YtjnagiaooecklabGreatDoorG4
set_option linter.all false
section
namespace Go.Hx
open Go.RowKit
variable [Glob]
section
variable {P:Program} {E:Env} {S:Start} {m:Mem} {β:Bx} {ow:Ow} {F:List Ct} {a:Act} {w:World}
theorem zAP {o:Oper} {K:Act→World→Prop} {Q:Exit→Act→World→Prop} {u:Value} {w':World} (hr:(execOp a.eval o).run P w=.ok (.value u) w') (hk:K (a.put o.dst u) w'):o.wp P a w K Q:=by
 unfold Oper.wp;rw [hr];exact hk
theorem zFE {o:Oper} {K:Act→World→Prop} {Q:Exit→Act→World→Prop} {w':World} (hr:(execOp a.eval o).run P w=.ok .skip w') (hk:K (a.put o.dst undef) w'):o.wp P a w K Q:=by
 unfold Oper.wp;rw [hr];exact hk
def zFb (E:Env) (S:Start) (K:List Ct→Prop):Act→World→Prop:=fun a w=>∃ F,K F∧Inv E S F a w
theorem zAp {N d:Nat} {dst:Option Nat} (h:zAY N (some d) dst=true):dst=some d∧d < N:=by
 cases dst with
 |none=>simp [zAY] at h
 |some d'=>simp only [zAY,Bool.and_eq_true,beq_iff_eq,decide_eq_true_eq] at h;exact ⟨by rw [h.1],h.2⟩
theorem yVI (wf:E.Wf) (h:InvG E S m β ow F a w) {d:Nat} {v:VOp} {o:Oper} (hd:zAY E.N (some d) o.dst=true) (hk:yQR P E v o.op=true) {K:List Ct→Prop} {Q:Exit→Act→World→Prop}
  (hc:(ev F v).1) (hK:K (F.set d (ev F v).2)):o.wp P a w (zFb E S K) Q:=by
 obtain ⟨hd1,hd2⟩:=zAp hd
 obtain ⟨u,m',w',hr,q,hrep⟩:=yCn h v o hk d hc
 refine zAP hr ⟨_,hK,m',β,ow,?_⟩
 rw [hd1]
 exact (h.quiet q).slot wf hd2 hrep
theorem yTz (wf:E.Wf) (h:InvG E S m β ow F a w) {d:Nat} {v:VOp} {o:Oper} (hd:zAY E.N (some d) o.dst=true) (hk:yQR P E v o.op=true) {K:List Ct→Prop} {Q:Exit→Act→World→Prop} {x:PVal}
  (he:(ev F v).2=.pv x) (hc:(ev F v).1) (hK:K (F.set d (.gd true x))):o.wp P a w (zFb E S K) Q:=by
 obtain ⟨hd1,hd2⟩:=zAp hd
 obtain ⟨u,m',w',hr,q,hrep⟩:=yCn h v o hk d hc
 rw [he] at hrep
 refine zAP hr ⟨_,hK,m',β,ow,?_⟩
 rw [hd1]
 exact (h.quiet q).slot wf hd2 ⟨fun _=>hrep,fun h=>by cases h⟩
def zGd (ow:Ow) (v:Value) (d:Nat):Ow:=fun b=>if v.ownBlock=some b then some (.key d) else ow b
theorem zG8 {s d e k:Nat} {rows:List (List PV)} {v:Value} (h:OwnRep m w ow (.key s) e k rows v):Step (fun t=>t=.key s∨t=.key d) m m w w ow (zGd ow v d) where
 le:=m.le_refl
 keep:=fun g t hg hx=>by
  refine ⟨rfl,fun _=>rfl,?_⟩
  unfold zGd
  rw [if_neg]
  ·exact hg
  ·intro hv
   have:=(h.2 g hv).1
   rw [hg] at this
   exact hx (.inl (Option.some.inj this))
theorem zTY (h:InvG E S m β ow F a w) {s d e k:Nat} {rows:List (List PV)} {v:Value} (ho:OwnRep m w ow (.key s) e k rows v):∀ b t,zGd ow v d b=some t→S.w0.heap.size≤b∨S.R0 b:=by
 intro b t hb
 unfold zGd at hb
 split at hb
 ·rename_i hv;exact h.own b _ (ho.2 b hv).1
 ·exact h.own b t hb
theorem yCp (h:InvG E S m β ow F a w) {s d e k:Nat} {rows:List (List PV)} {v:Value} (ho:OwnRep m w ow (.key s) e k rows v):∀ b t,zGd ow v d b=some t→b < w.heap.size:=by
 intro b t hb
 unfold zGd at hb
 split at hb
 ·rename_i hv;exact h.lt b _ (ho.2 b hv).1
 ·exact h.lt b t hb
theorem zTZ {s d e k:Nat} {rows:List (List PV)} {v:Value} (h:OwnRep m w ow (.key s) e k rows v):OwnRep m w (zGd ow v d) (.key d) e k rows v:=
 h.at_.rep fun g hg=>by simp [zGd,hg]
theorem zJN {d i:Nat} {u:Value} (hd:d < a.tmps.size):(a.put (some d) u).tmps.getD i undef=if d=i then u else a.tmps.getD i undef:=by
 simp only [Act.put]
 rw [zOy]
 by_cases h:d=i
 ·subst h;rw [if_pos ⟨rfl,hd⟩,if_pos rfl]
 ·rw [if_neg (by omega),if_neg h]
theorem zAG {l:List Ct} {i d:Nat} {c:Ct} (hd:d < l.length):(l.set d c).getD i .un=if d=i then c else l.getD i .un:=by
 rw [zBm]
 by_cases h:d=i
 ·subst h;rw [if_pos ⟨rfl,hd⟩,if_pos rfl]
 ·rw [if_neg (by omega),if_neg h]
theorem ySB (wf:E.Wf) (h:InvG E S m β ow F a w) {d x:Nat} {o:Oper} (hd:zAY E.N (some d) o.dst=true) {y:Operand} (ho:o.op=.move y∨o.op=.assign y) (hk:zAk E.N (.t x) y=true) {K:List Ct→Prop} {Q:Exit→Act→World→Prop}
  {e k:Nat} {rows:List (List PV)} (hx:F.getD x .un=.own e k rows) (_hne:d≠x) (hK:K ((F.set x (.pv (.one (.sl k rows)))).set d (.own e k rows))):o.wp P a w (zFb E S K) Q:=by
 obtain ⟨hd1,hd2⟩:=zAp hd
 have hr:(execOp a.eval o).run P w=.ok (.value (a.eval y)) w:=by
  unfold execOp
  rcases ho with ho|ho<;>rw [ho]<;>rfl
 have hy:y=.tmp x∧x < E.N:=by
  cases y<;>simp only [zAk] at hk<;>try cases hk
  simp only [Bool.and_eq_true,beq_iff_eq,decide_eq_true_eq] at hk
  exact ⟨by rw [hk.1],hk.2⟩
 obtain ⟨rfl,hxN⟩:=hy
 have hrep:=h.slots x hxN
 rw [hx] at hrep
 have hv:a.eval (.tmp x)=a.tmps.getD x undef:=rfl
 have hL:=h.lenF
 have hle:=wf.le
 refine zAP hr ⟨_,hK,m,β,zGd ow (a.tmps.getD x undef) d,?_⟩
 rw [hd1,hv]
 refine h.step (zG8 hrep) (by simp) (by simp [Act.put]) rfl ?_ ?_ h.mem (Pres.refl _ _) (zTY h hrep) (yCp h hrep) (fun b o u hu=>.inl hu)
 ·intro i hi
  rw [zAG (by simp;omega),zAG (by omega),zJN (by rw [h.lenA];exact hd2)]
  by_cases h1:d=i
  ·subst h1
   right
   rw [if_pos rfl,if_pos rfl]
   exact zTZ hrep
  ·rw [if_neg h1,if_neg h1]
   by_cases h2:x=i
   ·subst h2
    right
    rw [if_pos rfl]
    exact OwnRep.rp hrep
   ·left
    rw [if_neg h2]
    exact ⟨rfl,rfl,.inl (by rintro (h3|h3)<;>injection h3<;>omega)⟩
 ·intro j bn hj
  left
  have:=wf.lo j bn hj
  refine ⟨(by rintro (h3|h3)<;>cases h3),fun o ho=>⟨?_,by rintro (h3|h3)<;>injection h3<;>omega⟩⟩
  rw [zAG (by simp;omega),zAG (by omega),if_neg (by omega),if_neg (by omega)]
theorem ySC (wf:E.Wf) (h:InvG E S m β ow F a w) {d e k:Nat} {o:Oper} (hd:zAY E.N (some d) o.dst=true) {y:Operand} (ho:o.op=.move y∨o.op=.assign y) (hk:zAk E.N (.c (.one (.nl 0))) y=true) {K:List Ct→Prop} {Q:Exit→Act→World→Prop}
  (hK:K (F.set d (.own e k []))):o.wp P a w (zFb E S K) Q:=by
 obtain ⟨hd1,hd2⟩:=zAp hd
 have hr:(execOp a.eval o).run P w=.ok (.value (a.eval y)) w:=by
  unfold execOp
  rcases ho with ho|ho<;>rw [ho]<;>rfl
 have hy:a.eval y=.slice none 0 0:=by
  have:=zBd h hk (p:=.one (.nl 0)) trivial rfl
  exact this
 refine zAP hr ⟨_,hK,m,β,ow,?_⟩
 rw [hd1,hy]
 exact h.slot wf hd2 ((OwnAt.nil m w e k).rep fun g hg=>by simp [Value.ownBlock] at hg)
theorem zBL {x:Nat} {y:Operand} (hk:zAk E.N (.t x) y=true):y=.tmp x∧x < E.N:=by
 cases y<;>simp only [zAk] at hk<;>try cases hk
 simp only [Bool.and_eq_true,beq_iff_eq,decide_eq_true_eq] at hk
 exact ⟨by rw [hk.1],hk.2⟩
theorem zDG {j base top:Nat} (h:zEJ E j base top=true):∃ n,E.Γ[j]?=some (base,n)∧top≤n:=by
 unfold zEJ at h
 split at h
 ·rename_i bn hbn
  simp only [Bool.and_eq_true,beq_iff_eq,decide_eq_true_eq] at h
  obtain ⟨b1,b2⟩:=bn
  simp only at h
  exact ⟨b2,by rw [hbn,←h.1],h.2⟩
 ·cases h
theorem zK4 {j base n:Nat} (h:zTX E j base n=true):E.Γ[j]?=some (base,n):=by
 unfold zTX at h
 split at h
 ·rename_i bn hbn
  simp only [Bool.and_eq_true,beq_iff_eq] at h
  obtain ⟨b1,b2⟩:=bn
  simp only at h
  rw [hbn,←h.1,←h.2]
 ·cases h
theorem zMM {vs:Array Value} {i:Nat} (hi:i < vs.size):vs[i]?=some (vs.getD i undef):=by simp [hi]
theorem yVJ (wf:E.Wf) (h:InvG E S m β ow F a w) {d j base off e k:Nat} {x:Opd} {o:Oper} (hd:zAY E.N (some d) o.dst=true) {t:TypeId} {y:Operand} (ho:o.op=.load t y) (hk:zAk E.N x y=true) (hb:zEJ E j base (off+1)=true) (hag:zBV P t=some false) {K:List Ct→Prop} {Q:Exit→Act→World→Prop}
  {rows:List (List PV)} (hx:zAn F x=.ptr j off) (hc:F.getD (base+off) .un=.own e k rows) (hK:K ((F.set (base+off) (.pv (.one (.sl k rows)))).set d (.own e k rows))):o.wp P a w (zFb E S K) Q:=by
 obtain ⟨hd1,hd2⟩:=zAp hd
 obtain ⟨n,hj,hn⟩:=zDG hb
 obtain ⟨b,hβ,hv⟩:=zC5 h hk hx
 have hB:=h.boxes j _ hj
 rw [hβ] at hB
 have hB':=hB
 obtain ⟨ho1,ho2,vs,T,hh,hsz,hcells⟩:=hB'
 have hcr:=hcells off (by simp only;omega)
 simp only at hcr hsz
 rw [hc] at hcr
 have hcell:w.cell? ⟨b,off,none⟩=some (vs.getD off undef):=by
  rw [cell_of_row w b off vs T (0,0) hh];exact zMM (by omega)
 have hr:(execOp a.eval o).run P w=.ok (.value (vs.getD off undef)) w:=by
  unfold execOp;rw [ho]
  simp only [hv,Instr.loadAt,Instr.sureAddr,loadVar,Sem.run_bind,Sem.run_pure,Result.andThen_ok,zG5 hag]
  simp [hcell]
 have hL:=h.lenF
 have hle:=wf.le
 have hlo:=wf.lo j _ hj
 have hhi:=wf.hi j _ hj
 simp only at hlo hhi
 refine zAP hr ⟨_,hK,m,β,zGd ow (vs.getD off undef) d,?_⟩
 rw [hd1]
 refine h.step (zG8 hcr) (by simp) (by simp [Act.put]) rfl ?_ ?_ h.mem (Pres.refl _ _) (zTY h hcr) (yCp h hcr) (fun b o u hu=>.inl hu)
 ·intro i hi
  rw [zAG (by simp;omega),zAG (by omega),zJN (by rw [h.lenA];exact hd2)]
  by_cases h1:d=i
  ·subst h1
   right
   rw [if_pos rfl,if_pos rfl]
   exact zTZ hcr
  ·rw [if_neg h1,if_neg h1,if_neg (by omega)]
   left
   exact ⟨rfl,rfl,.inl (by rintro (h3|h3)<;>injection h3<;>omega)⟩
 ·intro j' bn hj'
  have hlo':=wf.lo j' bn hj'
  by_cases hjj:j'=j
  ·subst hjj
   rw [hj] at hj'
   injection hj' with hj'
   subst hj'
   right
   rw [hβ]
   obtain ⟨s1,s2,s3⟩:=(zG8 (d:=d) hcr).keep b _ ho1 (by rintro (h3|h3)<;>cases h3)
   refine ⟨s3,ho2,vs,T,hh,hsz,fun o' ho'=>?_⟩
   simp only at ho' ⊢
   rw [zAG (by simp;omega),zAG (by omega),if_neg (by omega)]
   by_cases h2:off=o'
   ·subst h2
    rw [if_pos rfl]
    exact OwnRep.rp hcr
   ·rw [if_neg (by omega)]
    exact (hcells o' ho').step (zG8 hcr) (by rintro (h3|h3)<;>injection h3<;>(simp only at *;omega))
  ·left
   have hap:=wf.ap j' j _ _ hj' hj hjj
   simp only at hap
   refine ⟨(by rintro (h3|h3)<;>cases h3),fun o' ho'=>⟨?_,by rintro (h3|h3)<;>injection h3<;>omega⟩⟩
   rw [zAG (by simp;omega),zAG (by omega),if_neg (by omega),if_neg (by omega)]
theorem zAr:∀ (cs:List Ct) (F:List Ct) (i k:Nat),(zAi F i cs).getD k .un=if i≤k∧k < i+cs.length∧k < F.length then cs.getD (k-i) .un else F.getD k .un
 |[],F,i,k=>by simp only [zAi,List.length_nil,Nat.add_zero];rw [if_neg (by omega)]
 |c::cs,F,i,k=>by
  simp only [zAi]
  rw [zAr cs (F.set i c) (i+1) k,zBm]
  simp only [List.length_set,List.length_cons]
  by_cases h1:i=k
  ·subst h1
   rw [if_neg (by omega)]
   by_cases h2:i < F.length
   ·rw [if_pos ⟨rfl,h2⟩,if_pos ⟨Nat.le_refl _,by omega,h2⟩]
    simp
   ·rw [if_neg (by omega),if_neg (by omega)]
  ·by_cases h2:i+1≤k∧k < i+1+cs.length∧k < F.length
   ·rw [if_pos h2,if_pos (by omega)]
    have e:k-i=(k-(i+1))+1:=by omega
    rw [e,List.getD_cons_succ]
   ·rw [if_neg h2,if_neg (by omega),if_neg (by omega)]
theorem zA4:∀ (cs:List Ct) (F:List Ct) (i:Nat),(zAi F i cs).length=F.length
 |[],_,_=>rfl
 |c::cs,F,i=>by simp only [zAi];rw [zA4 cs];simp
theorem zT0 (l us:List Value) (off k:Nat) (h:off+us.length≤l.length):(l.take off++us++l.drop (off+us.length))[k]?=if off≤k∧k < off+us.length then us[k-off]? else l[k]?:=by
 have hlt:(l.take off).length=off:=by simp;omega
 rw [List.append_assoc]
 by_cases ha:k < off
 ·rw [if_neg (by omega),List.getElem?_append_left (by rw [hlt];exact ha),List.getElem?_take,if_pos ha]
 ·rw [List.getElem?_append_right (by omega),hlt]
  by_cases hb:k < off+us.length
  ·rw [if_pos ⟨by omega,hb⟩,List.getElem?_append_left (by omega)]
  ·rw [if_neg (by omega),List.getElem?_append_right (by omega),List.getElem?_drop]
   congr 1
   omega
theorem Pres.setRow (R:Nat→Prop) (w:World) (g:Nat) (cs:Array Value) (hg:R g):Pres R w (w.setRow g cs):=
 ⟨rfl,rfl,rfl,by simp,fun b _ hr=>setRow_other w g b cs (fun e=>hr (e▸hg)),fun _=>Nat.le_refl _⟩
theorem MemOk.setRow (hm:MemOk m w) {g:Nat} (hg:∀ o,m g o=none) (cs:Array Value):MemOk m (w.setRow g cs):=fun b o u hu=>by
 have hne:b≠g:=fun e=>by subst e;rw [hg o] at hu;cases hu
 exact (hm b o u hu).block (setRow_other w g b cs hne)
theorem zC9 {t:TypeId} {v:Value} {n:Nat} (hs:zEg P t=some n) (hv:v.cells.size=n) {b off:Nat} {vs:Array Value} {T:TypeId} (hh:w.heap[b]?=some (.cells vs T (0,0))) (hle:off+n≤vs.size) (hf:∀ u∈v.cells.toList,zFI u=true):
  (storeVar t ⟨b,off,none⟩ v).run P w=.ok () (w.setRow b (vs.toList.take off++v.cells.toList++vs.toList.drop (off+n)).toArray):=by
 have hl:v.cells.toList.length=n:=by rw [Array.length_toList];exact hv
 have:=run_storeCells_at P b off T v.cells.toList 0 vs w hh (by rw [hl];omega) (fun u hu=>zCl (hf u hu))
 rw [hl] at this
 unfold storeVar
 rw [Sem.run_bind,zBG hs w]
 simp only [Result.andThen_ok]
 rw [if_neg (by rw [hv];simp)]
 simpa using this
theorem ySD (wf:E.Wf) (h:InvG E S m β ow F a w) {x y:Opd} {j base off n:Nat} {o:Oper} (hd:o.dst=none) {t:TypeId} {x' y':Operand} (ho:o.op=.store t x' y') (hk1:zAk E.N x x'=true) (hk2:zAk E.N y y'=true) (hb:zEJ E j base (off+n)=true) (hs:zEg P t=some n)
  {K:List Ct→Prop} {Q:Exit→Act→World→Prop} {p:PVal} (hx:zAn F x=.ptr j off) (hp:(zAn F y).pv?=some p) (hn:p.cells.length=n) (hne:(zAn F y).need) (hK:K (zAi F (base+off) (p.cells.map fun c=>.pv (.one c)))):o.wp P a w (zFb E S K) Q:=by
 obtain ⟨nn,hj,hnn⟩:=zDG hb
 obtain ⟨b,hβ,hv⟩:=zC5 h hk1 hx
 have hB:=h.boxes j _ hj
 rw [hβ] at hB
 obtain ⟨ho1,ho2,vs,T,hh,hsz,hcells⟩:=hB
 simp only at hsz hcells
 have hrv:=(zBd h hk2 hne hp).cells
 have hcl:=hrv.length
 have hvs:(a.eval y').cells.size=n:=by rw [←Array.length_toList,hcl,hn]
 have hrun:=zC9 (P:=P) (w:=w) hs hvs hh (off:=off) (by omega) hrv.flat_
 have hr:(execOp a.eval o).run P w=.ok .skip (w.setRow b (vs.toList.take off++(a.eval y').cells.toList++vs.toList.drop (off+n)).toArray):=by
  unfold execOp;rw [ho]
  simp only [hv,Instr.storeAt,Instr.sureAddr,Sem.run_bind,Sem.run_pure,Result.andThen_ok,hrun]
 have hL:=h.lenF
 have hlo:=wf.lo j _ hj
 have hhi:=wf.hi j _ hj
 simp only at hlo hhi
 have hln:(a.eval y').cells.toList.length=n:=by rw [hcl,hn]
 have st:Step (fun t=>t=.box j) m m w (w.setRow b (vs.toList.take off++(a.eval y').cells.toList++vs.toList.drop (off+n)).toArray) ow ow:=by
  refine ⟨m.le_refl,fun g t hg hx=>⟨setRow_other w b g _ ?_,fun _=>rfl,hg⟩⟩
  rintro rfl
  rw [ho1] at hg
  exact hx (Option.some.inj hg).symm
 refine zFE hr ⟨_,hK,m,β,ow,?_⟩
 rw [hd]
 refine h.step st (zA4 _ _ _) rfl rfl ?_ ?_ (h.mem.setRow ho2 _) (Pres.setRow _ w b _ ((h.own b _ ho1).elim .inr .inl)) h.own (fun b' t hb'=>by simpa using h.lt b' t hb') (fun b o u hu=>.inl hu)
 ·intro i hi
  left
  refine ⟨?_,rfl,.inl (by rintro h3;cases h3)⟩
  rw [zAr,if_neg (by omega)]
 ·intro j' bn hj'
  by_cases hjj:j'=j
  ·subst hjj
   rw [hj] at hj'
   injection hj' with hj'
   subst hj'
   right
   rw [hβ]
   refine ⟨ho1,ho2,_,T,setRow_heap w b vs _ T (0,0) hh,?_,fun o' ho'=>?_⟩
   ·simp only [List.size_toArray,List.length_append,List.length_take,List.length_drop,Array.length_toList]
    omega
   ·simp only at ho' ⊢
    rw [zAr]
    have hcs:(vs.toList.take off++(a.eval y').cells.toList++vs.toList.drop (off+n)).toArray.getD o' undef=(if off≤o'∧o' < off+n then (a.eval y').cells.toList[o'-off]? else vs.toList[o']?).getD undef:=by
     have:=zT0 vs.toList (a.eval y').cells.toList off o' (by rw [hln,Array.length_toList];omega)
     rw [hln] at this
     rw [Array.getD_eq_getD_getElem?,←this]
     simp
    rw [hcs]
    by_cases hin:off≤o'∧o' < off+n
    ·rw [if_pos (by rw [List.length_map,hn];omega),if_pos hin]
     have e:base+o'-(base+off)=o'-off:=by omega
     rw [e]
     have hlt:o'-off < p.cells.length:=by omega
     have hlt2:o'-off < (a.eval y').cells.toList.length:=by omega
     rw [List.getElem?_eq_getElem hlt2,Option.getD_some,List.getD_eq_getElem?_getD,List.getElem?_map,List.getElem?_eq_getElem hlt]
     exact hrv.get _ _ _ (List.getElem?_eq_getElem hlt) (List.getElem?_eq_getElem hlt2)
    ·rw [if_neg (by rw [List.length_map,hn];omega),if_neg hin]
     have:=hcells o' (by omega)
     rw [Array.getElem?_toList,←Array.getD_eq_getD_getElem?]
     exact this.step st (by rintro h3;cases h3)
  ·left
   have hap:=wf.ap j' j _ _ hj' hj hjj
   simp only at hap
   refine ⟨by rintro h3;injection h3 with h3;exact hjj h3,fun o' ho'=>⟨?_,by rintro h3;cases h3⟩⟩
   rw [zAr,if_neg (by rw [List.length_map,hn];omega)]
theorem yVK (wf:E.Wf) (h:InvG E S m β ow F a w) {x:Opd} {y:Nat} {j base off:Nat} {o:Oper} (hd:o.dst=none) {t:TypeId} {x' y':Operand} (ho:o.op=.store t x' y') (hk1:zAk E.N x x'=true) (hk2:zAk E.N (.t y) y'=true) (hb:zEJ E j base (off+1)=true) (hs:zEg P t=some 1)
  {K:List Ct→Prop} {Q:Exit→Act→World→Prop} {e k:Nat} {rows:List (List PV)} (hx:zAn F x=.ptr j off) (hy:F.getD y .un=.own e k rows) (hK:K ((F.set y (.pv (.one (.sl k rows)))).set (base+off) (.own e k rows))):o.wp P a w (zFb E S K) Q:=by
 obtain ⟨nn,hj,hnn⟩:=zDG hb
 obtain ⟨b,hβ,hv⟩:=zC5 h hk1 hx
 obtain ⟨rfl,hyN⟩:=zBL hk2
 have hB:=h.boxes j _ hj
 rw [hβ] at hB
 obtain ⟨ho1,ho2,vs,T,hh,hsz,hcells⟩:=hB
 simp only at hsz hcells
 have hrep:=h.slots y hyN
 rw [hy] at hrep
 have hev:a.eval (.tmp y)=a.tmps.getD y undef:=rfl
 have hfl:zFI (a.tmps.getD y undef)=true:=Rp.flat_ (OwnRep.rp hrep)
 have hc1:=zG6 hfl
 have hrun:=zC9 (P:=P) (w:=w) hs (v:=a.tmps.getD y undef) (by rw [hc1];rfl) hh (off:=off) (by omega) (by rw [hc1];simpa using hfl)
 rw [hc1] at hrun
 have hr:(execOp a.eval o).run P w=.ok .skip (w.setRow b (vs.toList.take off++[a.tmps.getD y undef]++vs.toList.drop (off+1)).toArray):=by
  unfold execOp;rw [ho]
  simp only [hv,hev,Instr.storeAt,Instr.sureAddr,Sem.run_bind,Sem.run_pure,Result.andThen_ok,hrun]
 have hL:=h.lenF
 have hlo:=wf.lo j _ hj
 have hhi:=wf.hi j _ hj
 have hle:=wf.le
 simp only at hlo hhi
 have hob:∀ g,(a.tmps.getD y undef).ownBlock=some g→g≠b:=by
  intro g hg e
  subst e
  have:=(hrep.2 g hg).1
  rw [ho1] at this
  cases this
 have st:Step (fun t=>t=.box j∨t=.key y∨t=.key (base+off)) m m w (w.setRow b (vs.toList.take off++[a.tmps.getD y undef]++vs.toList.drop (off+1)).toArray) ow (zGd ow (a.tmps.getD y undef) (base+off)):=by
  refine ⟨m.le_refl,fun g t hg hx=>⟨setRow_other w b g _ ?_,fun _=>rfl,?_⟩⟩
  ·rintro rfl
   rw [ho1] at hg
   exact hx (.inl (Option.some.inj hg).symm)
  ·exact ((zG8 (d:=base+off) hrep).keep g t hg (fun h3=>hx (.inr h3))).2.2
 refine zFE hr ⟨_,hK,m,β,zGd ow (a.tmps.getD y undef) (base+off),?_⟩
 rw [hd]
 refine h.step st (by simp) rfl rfl ?_ ?_ (h.mem.setRow ho2 _) (Pres.setRow _ w b _ ((h.own b _ ho1).elim .inr .inl)) (zTY h hrep) (fun b' t hb'=>by simpa using yCp h hrep b' t hb') (fun b o u hu=>.inl hu)
 ·intro i hi
  rw [zAG (by simp;omega),zAG (by omega),if_neg (by omega)]
  by_cases h2:y=i
  ·subst h2
   right
   rw [if_pos rfl]
   exact OwnRep.rp hrep
  ·left
   rw [if_neg h2]
   exact ⟨rfl,rfl,.inl (by rintro (h3|h3|h3)<;>injection h3<;>omega)⟩
 ·intro j' bn hj'
  by_cases hjj:j'=j
  ·subst hjj
   rw [hj] at hj'
   injection hj' with hj'
   subst hj'
   right
   rw [hβ]
   have hbt:zGd ow (a.tmps.getD y undef) (base+off) b=some (.box j'):=by
    unfold zGd
    rw [if_neg (fun h3=>hob b h3 rfl)]
    exact ho1
   refine ⟨hbt,ho2,_,T,setRow_heap w b vs _ T (0,0) hh,?_,fun o' ho'=>?_⟩
   ·simp only [List.size_toArray,List.length_append,List.length_take,List.length_drop,Array.length_toList,List.length_cons,List.length_nil]
    omega
   ·simp only at ho' ⊢
    have hcs:(vs.toList.take off++[a.tmps.getD y undef]++vs.toList.drop (off+1)).toArray.getD o' undef=(if off≤o'∧o' < off+1 then [a.tmps.getD y undef][o'-off]? else vs.toList[o']?).getD undef:=by
     have:=zT0 vs.toList [a.tmps.getD y undef] off o' (by rw [Array.length_toList];simp;omega)
     simp only [List.length_cons,List.length_nil,Nat.zero_add] at this
     rw [Array.getD_eq_getD_getElem?,←this]
     simp
    rw [hcs,zAG (by simp;omega),zAG (by omega),if_neg (by omega:¬ y=base+o')]
    by_cases hin:off=o'
    ·subst hin
     rw [if_pos rfl,if_pos ⟨Nat.le_refl _,by omega⟩]
     simp only [Nat.sub_self,List.getElem?_cons_zero,Option.getD_some]
     have st2:Step (fun t=>t=.box j') m m w (w.setRow b (vs.toList.take off++[a.tmps.getD y undef]++vs.toList.drop (off+1)).toArray) (zGd ow (a.tmps.getD y undef) (base+off)) (zGd ow (a.tmps.getD y undef) (base+off)):=by
      refine ⟨m.le_refl,fun g t hg hx=>⟨setRow_other w b g _ ?_,fun _=>rfl,hg⟩⟩
      rintro rfl
      rw [hbt] at hg
      exact hx (Option.some.inj hg).symm
     exact OwnRep.step st2 (by rintro h3;cases h3) (zTZ hrep)
    ·rw [if_neg (by omega),if_neg (by omega)]
     have:=hcells o' (by omega)
     rw [Array.getElem?_toList,←Array.getD_eq_getD_getElem?]
     exact this.step st (by rintro (h3|h3|h3)<;>injection h3<;>omega)
  ·left
   have hap:=wf.ap j' j _ _ hj' hj hjj
   simp only at hap
   have hlo':=wf.lo j' bn hj'
   refine ⟨by rintro (h3|h3|h3)<;>injection h3<;>omega,fun o' ho'=>⟨?_,by rintro (h3|h3|h3)<;>injection h3<;>omega⟩⟩
   rw [zAG (by simp;omega),zAG (by omega),if_neg (by omega),if_neg (by omega)]
theorem zDo (F:List Ct) (j i:Nat):(F.map (zEO j)).getD i .un=zEO j (F.getD i .un):=by
 simp only [List.getD_eq_getElem?_getD,List.getElem?_map]
 cases F[i]?<;>rfl
theorem yLK {j:Nat} {c:Ct} (h:unC c):unC (zEO j c):=by
 rcases h with rfl|rfl
 ·exact .inl rfl
 ·exact .inr rfl
theorem InvG.congrF (h:InvG E S m β ow F a w) {F':List Ct} (hl:F'.length=F.length) (hs:∀ i,i < E.N→F'.getD i .un=F.getD i .un)
  (hb:∀ (j:Nat) (bn:Nat×Nat),E.Γ[j]?=some bn→∀ o,o < bn.2→F'.getD (bn.1+o) .un=F.getD (bn.1+o) .un):InvG E S m β ow F' a w where
 lenF:=hl.trans h.lenF
 lenA:=h.lenA
 dfr:=h.dfr
 slots:=fun i hi=>by rw [hs i hi];exact h.slots i hi
 boxes:=fun j bn hj=>by
  have hB:=h.boxes j bn hj
  cases hb':β j with
  |none=>rw [hb'] at hB;intro o ho;rw [hb j bn hj o ho];exact hB o ho
  |some b=>
   rw [hb'] at hB
   obtain ⟨h1,h2,cs,T,h3,h4,h5⟩:=hB
   exact ⟨h1,h2,cs,T,h3,h4,fun o ho=>by rw [hb j bn hj o ho];exact h5 o ho⟩
 mem:=h.mem
 mle:=h.mle
 pres:=h.pres
 own:=h.own
 lt:=h.lt
 new:=h.new
 fix:=h.fix
theorem yQW (h:InvG E S m β ow F a w) {j base n:Nat} (hj:E.Γ[j]?=some (base,n)) (hn:0 < n) (hu:F.getD base .un=.una):
  (∀ i,i < E.N→zEO j (F.getD i .un)=F.getD i .un)∧∀ (j':Nat) (bn:Nat×Nat),E.Γ[j']?=some bn→∀ o,o < bn.2→zEO j (F.getD (bn.1+o) .un)=F.getD (bn.1+o) .un:=by
 have hβ:β j=none:=by
  have hB:=h.boxes j _ hj
  cases hb:β j with
  |none=>rfl
  |some b=>
   rw [hb] at hB
   obtain ⟨_,_,cs,T,_,_,h5⟩:=hB
   have:=h5 0 hn
   simp only [Nat.add_zero] at this
   rw [hu] at this
   exact this.elim
 refine ⟨fun i hi=>?_,fun j' bn hj' o ho=>?_⟩
 ·have hs:=h.slots i hi
  generalize F.getD i .un=c at hs
  cases c with
  |ptr j' off=>
   obtain ⟨b,hb,_⟩:=hs
   show (if j'=j then Ct.un else .ptr j' off)=.ptr j' off
   rw [if_neg]
   intro e;subst e;rw [hβ] at hb;cases hb
  |cl f caps=>
   obtain ⟨us,_,hu⟩:=hs
   show (if zFJ j caps then Ct.un else .cl f caps)=.cl f caps
   rw [hu.has hβ];rfl
  |_=>rfl
 ·have hB:=h.boxes j' bn hj'
  cases hb:β j' with
  |none=>
   rw [hb] at hB
   rcases hB o ho with e|e<;>rw [e]<;>rfl
  |some b=>
   rw [hb] at hB
   obtain ⟨_,_,cs,T,_,_,h5⟩:=hB
   have:=h5 o ho
   generalize F.getD (bn.1+o) .un=c at this
   cases c with
   |ptr j'' off=>exact this.elim
   |cl f caps=>exact this.elim
   |_=>rfl
theorem ySE (wf:E.Wf) (h:InvG E S m β ow F a w) {d j base:Nat} (hfj:E.nfix≤j) (hd:d < E.N) {cells:List PV} {us:List Value} (hj:E.Γ[j]?=some (base,cells.length)) (hr:RpL m cells us) (T:TypeId):
  Inv E S (zAi ((F.map (zEO j)).set d (.ptr j 0)) base (cells.map fun c=>.pv (.one c))) (a.put (some d) (.pointer (some ⟨w.heap.size,0,none⟩))) (w.alloc (.cells us.toArray T)):=by
 have hL:=h.lenF
 have hlo:=wf.lo j _ hj
 have hhi:=wf.hi j _ hj
 have hle:=wf.le
 simp only at hlo hhi
 have hus:=hr.length
 have st:Step (fun _=>False) m m w (w.alloc (.cells us.toArray T)) ow (fun b=>if b=w.heap.size then some (.box j) else ow b):=
  ⟨m.le_refl,fun g t hg _=>⟨Below.heap_alloc w _ g (h.lt g t hg),fun _=>rfl,by rw [if_neg (by have:=h.lt g t hg;omega)];exact hg⟩⟩
 refine ⟨m,fun i=>if i=j then some w.heap.size else β i,fun b=>if b=w.heap.size then some (.box j) else ow b,?_⟩
 refine ⟨by rw [zA4];simp [hL],by simp [Act.put,h.lenA],h.dfr,?_,?_,?_,h.mle,h.pres.trans (Pres.alloc _ w _),?_,?_,h.new,fun j' hj'=>by have:(if j'=j then some w.heap.size else β j')=S.b0 j':=(by rw [if_neg (by omega)];exact h.fix j' hj');exact this⟩
 ·intro i hi
  rw [zAr,if_neg (by omega),zAG (by simp;omega),zJN (by rw [h.lenA];exact hd)]
  by_cases h1:d=i
  ·subst h1
   rw [if_pos rfl,if_pos rfl]
   exact ⟨w.heap.size,by simp,rfl⟩
  ·rw [if_neg h1,if_neg h1,zDo]
   have hs:=(h.slots i hi).step st id
   generalize F.getD i .un=c at hs
   cases c with
   |ptr j' off=>
    simp only [zEO]
    split
    ·trivial
    ·rename_i hne
     obtain ⟨b,hb,hv⟩:=hs
     exact ⟨b,by simp only;rw [if_neg hne];exact hb,hv⟩
   |un=>trivial
   |pv x=>exact hs
   |own e k rows=>exact hs
   |tup xs=>exact hs
   |gd t x=>exact hs
   |stk e k rows=>exact hs
   |hdr n=>exact hs
   |ov x=>exact hs
   |hdp b k n=>exact hs
   |hds b k i n=>exact hs
   |epp b k r f=>exact hs
   |mph b=>exact hs
   |cl f caps=>
    simp only [zEO]
    split
    ·trivial
    ·rename_i hne
     obtain ⟨us,h1,h2⟩:=hs
     exact ⟨us,h1,h2.congr (j:=j) (fun i hi=>if_neg hi) (by simpa using hne)⟩
   |una=>trivial
 ·intro j' bn hj'
  by_cases hjj:j'=j
  ·subst hjj
   rw [hj] at hj'
   injection hj' with hj'
   subst hj'
   simp only [if_true]
   refine ⟨by simp,fun o=>?_,us.toArray,T,heap_alloc_new w _,by simp [hus],fun o' ho'=>?_⟩
   ·cases hm:m w.heap.size o with
    |none=>rfl
    |some u=>have:=zFN h.mem hm;omega
   ·simp only at ho' ⊢
    rw [zAr,if_pos (by simp;omega)]
    have e:base+o'-base=o':=by omega
    have hlt2:o' < us.length:=by omega
    rw [e,List.getD_eq_getElem?_getD,List.getElem?_map,List.getElem?_eq_getElem ho']
    have hu:us.toArray.getD o' undef=us[o']:=by simp [hlt2]
    rw [hu]
    exact hr.get _ _ _ (List.getElem?_eq_getElem ho') (List.getElem?_eq_getElem hlt2)
  ·rw [if_neg hjj]
   have hap:=wf.ap j' j _ _ hj' hj hjj
   have hlo':=wf.lo j' bn hj'
   simp only at hap
   have hB:=h.boxes j' bn hj'
   have hF:∀ o,o < bn.2→(zAi ((F.map (zEO j)).set d (.ptr j 0)) base (cells.map fun c=>.pv (.one c))).getD (bn.1+o) .un=zEO j (F.getD (bn.1+o) .un):=by
    intro o ho
    rw [zAr,if_neg (by simp;omega),zAG (by simp;omega),if_neg (by omega),zDo]
   cases hb:β j' with
   |none=>
    rw [hb] at hB
    intro o ho
    rw [hF o ho]
    exact yLK (hB o ho)
   |some b=>
    rw [hb] at hB
    obtain ⟨h1,h2,vs,T',h3,h4,h5⟩:=hB
    obtain ⟨h6,_,h8⟩:=st.keep b _ h1 id
    refine ⟨h8,h2,vs,T',h6.trans h3,h4,fun o ho=>?_⟩
    rw [hF o ho]
    have:=(h5 o ho).step st id
    generalize F.getD (bn.1+o) .un=c at this
    cases c with
    |ptr j'' off=>exact this.elim
    |un=>trivial
    |pv x=>exact this
    |own e k rows=>exact this
    |tup xs=>exact this.elim
    |gd t x=>exact this.elim
    |stk e k rows=>exact this.elim
    |hdr n=>exact this.elim
    |ov x=>exact this
    |hdp b k n=>exact this.elim
    |hds b k i n=>exact this.elim
    |epp b k r f=>exact this.elim
    |mph b=>exact this.elim
    |cl f caps=>exact this.elim
    |una=>exact this.elim
 ·intro b o u hu
  have:=zFN h.mem hu
  exact (h.mem b o u hu).block (Below.heap_alloc w _ b (by simpa using this))
 ·intro b t hb
  split at hb
  ·rename_i e
   exact .inl (by rw [e];exact h.pres.size)
  ·exact h.own b t hb
 ·intro b t hb
  split at hb
  ·rename_i e
   rw [e];simp
  ·have:=h.lt b t hb
   simp;omega
theorem yTA (wf:E.Wf) (h:InvG E S m β ow F a w) {d j base:Nat} (hfj:E.nfix≤j) (hd:d < E.N) {n:Nat} {us:List Value} (hj:E.Γ[j]?=some (base,n)) (hus:us.length=n) (T:TypeId):
  InvG E S m (fun i=>if i=j then some w.heap.size else β i) (fun b=>if b=w.heap.size then some (.box j) else ow b) (zAi ((F.map (zEO j)).set d (.ptr j 0)) base (List.replicate n .un)) (a.put (some d) (.pointer (some ⟨w.heap.size,0,none⟩))) (w.alloc (.cells us.toArray T)):=by
 have hL:=h.lenF
 have hlo:=wf.lo j _ hj
 have hhi:=wf.hi j _ hj
 have hle:=wf.le
 simp only at hlo hhi
 have st:Step (fun _=>False) m m w (w.alloc (.cells us.toArray T)) ow (fun b=>if b=w.heap.size then some (.box j) else ow b):=
  ⟨m.le_refl,fun g t hg _=>⟨Below.heap_alloc w _ g (h.lt g t hg),fun _=>rfl,by rw [if_neg (by have:=h.lt g t hg;omega)];exact hg⟩⟩
 refine ⟨by rw [zA4];simp [hL],by simp [Act.put,h.lenA],h.dfr,?_,?_,?_,h.mle,h.pres.trans (Pres.alloc _ w _),?_,?_,h.new,fun j' hj'=>by have:(if j'=j then some w.heap.size else β j')=S.b0 j':=(by rw [if_neg (by omega)];exact h.fix j' hj');exact this⟩
 ·intro i hi
  rw [zAr,if_neg (by omega),zAG (by simp;omega),zJN (by rw [h.lenA];exact hd)]
  by_cases h1:d=i
  ·subst h1
   rw [if_pos rfl,if_pos rfl]
   exact ⟨w.heap.size,by simp,rfl⟩
  ·rw [if_neg h1,if_neg h1,zDo]
   have hs:=(h.slots i hi).step st id
   generalize F.getD i .un=c at hs
   cases c with
   |ptr j' off=>
    simp only [zEO]
    split
    ·trivial
    ·rename_i hne
     obtain ⟨b,hb,hv⟩:=hs
     exact ⟨b,by simp only;rw [if_neg hne];exact hb,hv⟩
   |un=>trivial
   |pv x=>exact hs
   |own e k rows=>exact hs
   |tup xs=>exact hs
   |gd t x=>exact hs
   |stk e k rows=>exact hs
   |hdr n=>exact hs
   |ov x=>exact hs
   |hdp b k n=>exact hs
   |hds b k i n=>exact hs
   |epp b k r f=>exact hs
   |mph b=>exact hs
   |cl f caps=>
    simp only [zEO]
    split
    ·trivial
    ·rename_i hne
     obtain ⟨us,h1,h2⟩:=hs
     exact ⟨us,h1,h2.congr (j:=j) (fun i hi=>if_neg hi) (by simpa using hne)⟩
   |una=>trivial
 ·intro j' bn hj'
  by_cases hjj:j'=j
  ·subst hjj
   rw [hj] at hj'
   injection hj' with hj'
   subst hj'
   simp only [if_true]
   refine ⟨by simp,fun o=>?_,us.toArray,T,heap_alloc_new w _,by simp [hus],fun o' ho'=>?_⟩
   ·cases hm:m w.heap.size o with
    |none=>rfl
    |some u=>have:=zFN h.mem hm;omega
   ·simp only at ho' ⊢
    rw [zAr,if_pos (by simp;omega)]
    have hrep:(List.replicate n Ct.un).getD (base+o'-base) .un=.un:=by
     rw [List.getD_eq_getElem?_getD,List.getElem?_replicate]
     split<;>rfl
    rw [hrep]
    trivial
  ·rw [if_neg hjj]
   have hap:=wf.ap j' j _ _ hj' hj hjj
   have hlo':=wf.lo j' bn hj'
   simp only at hap
   have hB:=h.boxes j' bn hj'
   have hF:∀ o,o < bn.2→(zAi ((F.map (zEO j)).set d (.ptr j 0)) base (List.replicate n .un)).getD (bn.1+o) .un=zEO j (F.getD (bn.1+o) .un):=by
    intro o ho
    rw [zAr,if_neg (by simp;omega),zAG (by simp;omega),if_neg (by omega),zDo]
   cases hb:β j' with
   |none=>
    rw [hb] at hB
    intro o ho
    rw [hF o ho]
    exact yLK (hB o ho)
   |some b=>
    rw [hb] at hB
    obtain ⟨h1,h2,vs,T',h3,h4,h5⟩:=hB
    obtain ⟨h6,_,h8⟩:=st.keep b _ h1 id
    refine ⟨h8,h2,vs,T',h6.trans h3,h4,fun o ho=>?_⟩
    rw [hF o ho]
    have:=(h5 o ho).step st id
    generalize F.getD (bn.1+o) .un=c at this
    cases c with
    |ptr j'' off=>exact this.elim
    |un=>trivial
    |pv x=>exact this
    |own e k rows=>exact this
    |tup xs=>exact this.elim
    |gd t x=>exact this.elim
    |stk e k rows=>exact this.elim
    |hdr n=>exact this.elim
    |ov x=>exact this
    |hdp b k n=>exact this.elim
    |hds b k i n=>exact this.elim
    |epp b k r f=>exact this.elim
    |mph b=>exact this.elim
    |cl f caps=>exact this.elim
    |una=>exact this.elim
 ·intro b o u hu
  have:=zFN h.mem hu
  exact (h.mem b o u hu).block (Below.heap_alloc w _ b (by simpa using this))
 ·intro b t hb
  split at hb
  ·rename_i e
   exact .inl (by rw [e];exact h.pres.size)
  ·exact h.own b t hb
 ·intro b t hb
  split at hb
  ·rename_i e
   rw [e];simp
  ·have:=h.lt b t hb
   simp;omega
theorem yVL (wf:E.Wf) (h:InvG E S m β ow F a w) {d j base n:Nat} {x:Opd} {o:Oper} (hfj:E.nfix≤j) (hd:zAY E.N (some d) o.dst=true) {t:TypeId} {y:Operand} (ho:o.op=.box t y) (hk:zAk E.N x y=true) (hb:zTX E j base n=true) {K:List Ct→Prop} {Q:Exit→Act→World→Prop} {p:PVal}
  (hp:(zAn F x).pv?=some p) (hn:p.cells.length=n) (hne:(zAn F x).need) (hK:K (zAi ((F.map (zEO j)).set d (.ptr j 0)) base (p.cells.map fun c=>.pv (.one c)))):o.wp P a w (zFb E S K) Q:=by
 obtain ⟨hd1,hd2⟩:=zAp hd
 have hrv:=(zBd h hk hne hp).cells
 have hr:(execOp a.eval o).run P w=.ok (.value (.pointer (some ⟨w.heap.size,0,none⟩))) (w.alloc (.cells (a.eval y).cells.toList.toArray t)):=by
  unfold execOp;rw [ho]
  simp [Instr.box,newVar,newRow]
 subst hn
 refine zAP hr ⟨_,hK,?_⟩
 rw [hd1]
 exact ySE wf h hfj hd2 (zK4 hb) hrv t
theorem yLL (wf:E.Wf) (h:InvG E S m β ow F a w) {d j base:Nat} {cells:List PV} {o:Oper} (hfj:E.nfix≤j) (hd:zAY E.N (some d) o.dst=true) {t:TypeId} (ho:o.op=.alloc t) (hb:zTX E j base cells.length=true) {z:Value} (hz:(P.info? t).bind (·.zero)=some z) (hzo:zFK cells z.cells.toList=true) {K:List Ct→Prop} {Q:Exit→Act→World→Prop}
  (hK:K (zAi ((F.map (zEO j)).set d (.ptr j 0)) base (cells.map fun c=>.pv (.one c)))):o.wp P a w (zFb E S K) Q:=by
 obtain ⟨hd1,hd2⟩:=zAp hd
 obtain ⟨it,hit,hz'⟩:=Option.bind_eq_some_iff.1 hz
 have hr:(execOp a.eval o).run P w=.ok (.value (.pointer (some ⟨w.heap.size,0,none⟩))) (w.alloc (.cells z.cells.toList.toArray t)):=by
  unfold execOp;rw [ho]
  simp [Instr.alloc,newVar,newRow,zeroValue,typeInfo,hit,hz']
 refine zAP hr ⟨_,hK,?_⟩
 rw [hd1]
 exact ySE wf h hfj hd2 (zK4 hb) (zML hzo) t
theorem yQX (wf:E.Wf) {P:Program} {Q:Exit→Act→World→Prop} (h:InvG E S m β ow F a w) {d j base n:Nat} {o:Oper} (hd:d < E.N) (hj:E.Γ[j]?=some (base,n)) (hn:0 < n) (hu:F.getD base .un=.una) {K:List Ct→Prop} {cs:List Ct} (hcs:cs.length=n)
  (hK:K (zAi (F.set d (.ptr j 0)) base cs)) (hw:∀ K':List Ct→Prop,K' (zAi ((F.map (zEO j)).set d (.ptr j 0)) base cs)→o.wp P a w (zFb E S K') Q):o.wp P a w (zFb E S K) Q:=by
 obtain ⟨k1,k2⟩:=yQW h hj hn hu
 have hlo:=wf.lo j _ hj
 have hhi:=wf.hi j _ hj
 have hL:=h.lenF
 have hNL:=wf.le
 simp only at hlo hhi
 refine Oper.wp_mono (K:=zFb E S fun F1=>F1=zAi ((F.map (zEO j)).set d (.ptr j 0)) base cs) ?_ (hw _ rfl)
 rintro a' w' ⟨F1,rfl,m',β',ow',h'⟩
 refine ⟨_,hK,m',β',ow',h'.congrF (by rw [zA4,zA4];simp) ?_ ?_⟩
 ·intro i hi
  rw [zAr,zAr]
  simp only [List.length_set,List.length_map]
  split
  ·rfl
  ·rw [zAG (by omega),zAG (by simp;omega),zDo]
   split
   ·rfl
   ·exact (k1 i hi).symm
 ·intro j' bn hj' o' ho'
  have h1:=wf.lo j' bn hj'
  have h2:=wf.hi j' bn hj'
  rw [zAr,zAr]
  simp only [List.length_set,List.length_map]
  split
  ·rfl
  ·rw [zAG (by omega),zAG (by simp;omega),zDo]
   split
   ·rfl
   ·exact (k2 j' bn hj' o' ho').symm
theorem yVM (wf:E.Wf) (h:InvG E S m β ow F a w) {d j base off e k kk:Nat} {x:Opd} {o:Oper} (hd:zAY E.N (some d) o.dst=true) {t:TypeId} {y:Operand} (ho:o.op=.load t y) (hk:zAk E.N x y=true) (hb:zEJ E j base (off+1)=true) (hag:zBV P t=some false) {K:List Ct→Prop} {Q:Exit→Act→World→Prop}
  (hx:zAn F x=.ptr j off) (hc:F.getD (base+off) .un=.pv (.one (.nl kk))) (hK:K (F.set d (.own e k []))):o.wp P a w (zFb E S K) Q:=by
 obtain ⟨hd1,hd2⟩:=zAp hd
 obtain ⟨n,hj,hn⟩:=zDG hb
 obtain ⟨b,hβ,hv⟩:=zC5 h hk hx
 have hB:=h.boxes j _ hj
 rw [hβ] at hB
 obtain ⟨ho1,ho2,vs,T,hh,hsz,hcells⟩:=hB
 have hcr:=hcells off (by simp only;omega)
 simp only at hcr hsz
 rw [hc] at hcr
 have hnil:vs.getD off undef=.slice none 0 0:=hcr
 have hcell:w.cell? ⟨b,off,none⟩=some (.slice none 0 0):=by
  rw [cell_of_row w b off vs T (0,0) hh,zMM (by omega),hnil]
 have hr:(execOp a.eval o).run P w=.ok (.value (.slice none 0 0)) w:=by
  unfold execOp;rw [ho]
  simp only [hv,Instr.loadAt,Instr.sureAddr,loadVar,Sem.run_bind,Sem.run_pure,Result.andThen_ok,zG5 hag]
  simp [hcell]
 refine zAP hr ⟨_,hK,m,β,ow,?_⟩
 rw [hd1]
 exact h.slot wf hd2 ((OwnAt.nil m w e k).rep fun g hg=>by simp [Value.ownBlock] at hg)
theorem zMN {t e k:Nat} (h:zFn P t e k=true):P.underlying t=some (.slice e)∧0 < k∧∃ i z,P.info? e=some i∧i.size=k∧i.bytes≤4096∧i.zero=some z∧z.cells.size=k:=by
 unfold zFn at h
 split at h
 ·rename_i e' he
  simp only [Bool.and_eq_true,beq_iff_eq,decide_eq_true_eq] at h
  obtain ⟨⟨⟨rfl,h1⟩,h2⟩,h3⟩:=h
  refine ⟨zC7 he,h2,?_⟩
  split at h3
  ·rename_i i hi
   simp only [Bool.and_eq_true,decide_eq_true_eq] at h3
   obtain ⟨h4,h5⟩:=h3
   split at h5
   ·rename_i z hz
    exact ⟨i,z,hi,by simpa [zEg,hi] using h1,h4,hz,by simpa using h5⟩
   ·cases h5
  ·cases h3
 ·cases h
theorem yJd {t ty e k:Nat} (he:zFn P t e k=true) {v:Value} {n:Nat} {xs:List Value} (hown:w.ownsRow 0 e k v n xs) {y:Value} {A:Option Addr} {r c:Nat} (hy:y=.slice A r c) {news:List Value} (hl:news.length=r * k)
  (hnews:0 < r→∃ x,A=some x∧∀ j u,news[j]?=some u→w.cell? (x.add j)=some u) (h1:∀ u∈news,u.oneCell'=true) (hb:zOB P e (n+r)):
  ∃ v' w',(Builtin.append_ #[t,t] ty #[v,y]).run P w=.ok v' w'∧w'.ownsRow 0 e k v' (n+r) (xs++news)∧
   ((v'.ownBlock=v.ownBlock∧w.grownBy w' v.ownBlock)∨(v'.ownBlock=some w.heap.size∧w.grownBy w' none)):=by
 obtain ⟨hu,hk0,i,z,hi,hsz,hby,hz,hzs⟩:=zMN he
 subst hy
 have hm:n+r≤maxLen:=by
  rcases hb with hb|⟨_,_,hb,_⟩
  ·simp only [maxLen];omega
  ·exact hb
 have hbb:(n+r) * i.bytes≤140737488355328:=by
  rcases hb with hb|⟨b,hb,_,hb'⟩
  ·exact Nat.le_trans (Nat.mul_le_mul_left _ hby) hb
  ·rw [hi] at hb
   cases hb
   exact hb'
 rcases Nat.eq_zero_or_pos r with h0|h0
 ·subst h0
  have hn:news=[]:=List.eq_nil_of_length_eq_zero (by simpa using hl)
  subst hn
  refine ⟨v,w,?_,by simpa using hown,.inl ⟨rfl,⟨rfl,rfl,rfl,Nat.le_refl _,fun _ _ _=>rfl⟩⟩⟩
  have hfc:(Builtin.firstCells i.size 0 (.slice A 0 c)).run P w=.ok #[] w:=by
   cases A<;>simp [Builtin.firstCells,loadCells,loadCellsFrom]
  rcases hown.2 with ⟨rfl,rfl⟩|⟨g,cap,cur,rfl,_,_,hnc,_⟩
  ·simp [Builtin.append_,run_underlying hu,sizeOf,typeInfo,hi,Builtin.lenOf,hfc]
  ·simp [Builtin.append_,run_underlying hu,sizeOf,typeInfo,hi,Builtin.lenOf,hfc,hnc,storeCells]
 ·obtain ⟨x,rfl,hcells⟩:=hnews h0
  have hlen:(xs++news).length=(n+r) * k:=by rw [List.length_append,hown.1,hl,Nat.add_mul]
  have hlr:news.length=r * i.size:=by rw [hl,hsz]
  have grown:∀ (old:Nat),old < n+r→
    (w.drew.alloc (.cells (xs.toArray++news.toArray++Builtin.zeroCells z.cells (grownCap w (n+r) old e-(n+r))) e)).ownsRow 0 e k (.slice (some ⟨w.heap.size,0,none⟩) (n+r) (grownCap w (n+r) old e)) (n+r) (xs++news)∧
    w.grownBy (w.drew.alloc (.cells (xs.toArray++news.toArray++Builtin.zeroCells z.cells (grownCap w (n+r) old e-(n+r))) e)) none:=by
   intro old ho
   have hge:=grownCap_ge w (n+r) old e
   have hcm:=grownCap_le_maxLen w (n+r) old e hm
   refine ⟨⟨hlen,.inr ⟨w.heap.size,_,_,rfl,Nat.zero_le _,heap_alloc_new w.drew _,hge,hcm,?_,?_⟩⟩,⟨rfl,rfl,rfl,by simp,fun b hb _=>heap_alloc_old w.drew _ b hb⟩⟩
   ·simp only [Array.size_append,List.size_toArray,size_zeroCells,hzs]
    rw [←List.length_append,hlen,←Nat.add_mul]
    congr 1
    omega
   ·simp only [Array.toList_append]
    rw [←hlen]
    exact List.take_left
  rcases hown.2 with ⟨rfl,rfl⟩|⟨g,cap,cur,rfl,hbg,hg,hnc,hcm,hcs,htake⟩
  ·have hx:xs=[]:=List.eq_nil_of_length_eq_zero (by simpa using hown.1)
   subst hx
   have hrn:=run_append_nil (P:=P) w t ty e i z hu hi hz x r c news hlr hcells h0 (by simp only [maxLen] at hm;omega) (by simp only [Nat.zero_add] at hbb;omega)
   have hgr:=grown 0 (by omega)
   simp only [Nat.zero_add,List.nil_append] at hgr ⊢
   exact ⟨_,_,hrn,by simpa using hgr.1,.inr ⟨rfl,by simpa using hgr.2⟩⟩
  ·by_cases hroom:n+r≤cap
   ·have hfit:n * i.size+news.length≤cur.size:=by rw [hlr,hcs,hsz,←Nat.add_mul];exact Nat.mul_le_mul_right _ hroom
    have hrn:=run_append_room (P:=P) w t ty e i hu hi g n cap cur hg x r c news hlr hcells h1 hroom hfit
    refine ⟨_,_,hrn,⟨hlen,.inr ⟨g,cap,_,rfl,hbg,setRow_heap w g cur _ e _ hg,hroom,hcm,?_,?_⟩⟩,.inl ⟨rfl,⟨rfl,rfl,rfl,by simp,fun b _ hb=>setRow_other w g b _ (fun e=>hb (by simp [Value.ownBlock,e]))⟩⟩⟩
    ·simp only [List.size_toArray,List.length_append,List.length_take,List.length_drop,Array.length_toList]
     omega
    ·rw [hsz,htake,←hlen]
     exact List.take_left
   ·have holds:∀ j u,xs[j]?=some u→w.cell? ((⟨g,0,none⟩:Addr).add j)=some u:=by
     intro j u hj
     rw [zBW,Nat.zero_add,cell_of_row w g j cur e (0,0) hg]
     rw [←htake,List.getElem?_take] at hj
     split at hj
     ·simpa using hj
     ·cases hj
    have hrn:=run_append_grow (P:=P) w t ty e i z hu hi hz ⟨g,0,none⟩ n cap xs (by rw [hown.1,hsz]) holds x r c news hlr hcells (by omega) (by simp only [maxLen] at hm;omega) (growslice_fits (by omega) hbb)
    exact ⟨_,_,hrn,(grown cap (by omega)).1,.inr ⟨rfl,(grown cap (by omega)).2⟩⟩
theorem OwnAt.vals (hm:MemOk m w) {e k:Nat} {rows:List (List PV)} {v:Value} (h:OwnAt m w e k rows v) {xs:List Value} (hx:w.ownsRow 0 e k v rows.length xs):RpL m rows.flatten xs∧(∀ r∈rows,r.length=k)∧∀ g,v.ownBlock=some g→∀ j u,xs[j]?=some u→m g j=some u:=by
 cases hb:v.ownBlock with
 |none=>
  have:rows=[]:=by
   rcases hx.2 with ⟨_,h0⟩|⟨g,_,_,rfl,_⟩
   ·exact List.eq_nil_of_length_eq_zero h0
   ·simp [Value.ownBlock] at hb
  subst this
  have:xs=[]:=List.eq_nil_of_length_eq_zero (by simpa using hx.1)
  subst this
  exact ⟨by simp [RpL],by simp,fun g hg=>by cases hg⟩
 |some g=>
  obtain ⟨hr,_⟩:=h.2 g hb
  obtain ⟨us,h1,h2,h3⟩:=hr.vals
  have hcells:=hx.cells hb
  have he:us=xs:=by
   apply List.ext_getElem?
   intro j
   by_cases hj:j < rows.length * k
   ·have hj1:j < us.length:=by omega
    have hj2:j < xs.length:=by rw [hx.1];exact hj
    have e1:=hm.c _ _ _ (h3 j _ (List.getElem?_eq_getElem hj1))
    have e2:=hcells j _ (List.getElem?_eq_getElem hj2)
    rw [zBW] at e2
    rw [e1] at e2
    rw [List.getElem?_eq_getElem hj1,List.getElem?_eq_getElem hj2,Option.some.inj e2]
   ·rw [List.getElem?_eq_none (by omega),List.getElem?_eq_none (by rw [hx.1];omega)]
  subst he
  refine ⟨h2,fun r hr'=>?_,fun g' hg' j u hu=>?_⟩
  ·obtain ⟨i,hi⟩:=List.getElem?_of_mem hr'
   exact (hr.get i r hi).1
  ·injection hg' with hg'
   subst hg'
   have:=h3 j u hu
   simpa using this
theorem yVN (wf:E.Wf) (h:InvG E S m β ow F a w) {d e k x:Nat} {y:Opd} {o:Oper} (hd:zAY E.N (some d) o.dst=true) {x' y':Operand} {t:TypeId} (ho:o.op=.call {callee:=.builtin .append,args:=#[x',y'],argTypes:=#[t,t]}) (hk1:zAk E.N (.t x) x'=true) (hk2:zAk E.N y y'=true) (he:zFn P t e k=true) {K:List Ct→Prop} {Q:Exit→Act→World→Prop}
  {rows rs:List (List PV)} (hx:F.getD x .un=.own e k rows) (hy:(zAn F y).pw?=some (.one (.sl k rs))) (_hne:x≠d) (hne:(zAn F y).need) (hb:zOB P e (rows.length+rs.length))
  (hK:K ((F.set x (.pv (.one (.sl k rows)))).set d (.own e k (rows++rs)))):o.wp P a w (zFb E S K) Q:=by
 obtain ⟨hd1,hd2⟩:=zAp hd
 obtain ⟨rfl,hxN⟩:=zBL hk1
 have hrep:=h.slots x hxN
 rw [hx] at hrep
 obtain ⟨xs,hown⟩:=hrep.1
 obtain ⟨hv1,hv2,hv3⟩:=(OwnRep.at_ hrep).vals h.mem hown
 obtain ⟨A,c,hyv,_,_,hyr⟩:=zTQ h hk2 hne hy
 have hnews:∃ news:List Value,news.length=rs.length * k∧RpL m rs.flatten news∧(∀ r∈rs,r.length=k)∧(0 < rs.length→∃ q,A=some q∧∀ j u,news[j]?=some u→w.cell? (q.add j)=some u):=by
  rcases hyr with hyr|⟨b,o',rfl,hyr⟩
  ·subst hyr
   exact ⟨[],by simp,by simp [RpL],by simp,by simp⟩
  ·obtain ⟨us,h1,h2,h3⟩:=hyr.vals
   refine ⟨us,h1,h2,fun r hr'=>?_,fun _=>⟨_,rfl,fun j u hu=>by rw [zBW];exact h.mem.c _ _ _ (h3 j u hu)⟩⟩
   obtain ⟨i,hi⟩:=List.getElem?_of_mem hr'
   exact (hyr.get i r hi).1
 obtain ⟨news,hl,hn2,hn3,hn4⟩:=hnews
 have hflat:∀ u∈news,u.oneCell'=true:=fun u hu=>zCl (hn2.flat_ u hu)
 obtain ⟨v',w',hrun,hown',hwhere⟩:=yJd (P:=P) (ty:=o.type) he hown hyv hl hn4 hflat hb
 have hr:(execOp a.eval o).run P w=.ok (.value v') w':=by
  obtain ⟨dst,op,ty,pos,after,gd⟩:=o
  simp only at ho
  subst ho
  rw [BigFrame.execOp_builtin,BigFrame.builtin_append]
  have e1:(#[Operand.tmp x,y'].map a.eval)=#[a.tmps.getD x undef,a.eval y']:=by simp [Act.eval]
  rw [e1]
  simp only [Sem.run_bind,hrun,Result.andThen_ok]
  rfl
 let m':Mem:=fun b j=>if v'.ownBlock=some b then (xs++news)[j]? else m b j
 let ow':Ow:=fun b=>if v'.ownBlock=some b then some (.key d) else ow b
 have hlt':∀ b,v'.ownBlock=some b→b < w'.heap.size:=fun b hb=>(hown'.lt b hb).2
 have hsize:w.heap.size≤w'.heap.size:=by rcases hwhere with ⟨_,g⟩|⟨_,g⟩<;>exact g.size
 have hblock:∀ b,b < w.heap.size→v'.ownBlock≠some b→w'.heap[b]?=w.heap[b]?:=by
  intro b hb hne'
  rcases hwhere with ⟨e1,g⟩|⟨_,g⟩
  ·exact g.block b hb (fun e=>hne' (by rw [e1];exact e.symm))
  ·exact g.block b hb (by simp)
 have hle:m.le m':=by
  intro b j u hu
  simp only [m']
  split
  ·rename_i hb
   rcases hwhere with ⟨e1,_⟩|⟨e1,_⟩
   ·have hvb:(a.tmps.getD x undef).ownBlock=some b:=by rw [←e1];exact hb
    have hfree:=(hrep.2 b hvb).2.2
    have hj:j < rows.length * k:=by
     rcases Nat.lt_or_ge j (rows.length * k) with h1|h1
     ·exact h1
     ·rw [hfree j h1] at hu;cases hu
    have hj2:j < xs.length:=by rw [hown.1];exact hj
    rw [List.getElem?_append_left hj2,List.getElem?_eq_getElem hj2]
    have:=hv3 b hvb j _ (List.getElem?_eq_getElem hj2)
    rw [this] at hu
    exact hu
   ·rw [e1] at hb
    injection hb with hb
    have:=zFN h.mem hu
    omega
  ·exact hu
 have hmem:MemOk m' w':=by
  intro b j u hu
  simp only [m'] at hu
  split at hu
  ·rename_i hb
   exact zTL hown' hb hu
  ·rename_i hb
   have hbl:=zFN h.mem hu
   exact (h.mem b j u hu).block (hblock b hbl hb)
 have hkey:∀ b,v'.ownBlock=some b→b < w.heap.size→ow b=some (.key x):=by
  intro b hb hbl
  rcases hwhere with ⟨e1,_⟩|⟨e1,_⟩
  ·exact (hrep.2 b (by rw [←e1];exact hb)).1
  ·rw [e1] at hb;injection hb with hb;omega
 have st:Step (fun t=>t=.key x∨t=.key d) m m' w w' ow ow':=by
  refine ⟨hle,fun g t hg hX=>?_⟩
  have hgl:=h.lt g t hg
  have hng:v'.ownBlock≠some g:=by
   intro hb
   rw [hkey g hb hgl] at hg
   exact hX (.inl (Option.some.inj hg).symm)
  exact ⟨hblock g hgl hng,fun j=>by simp only [m'];rw [if_neg hng],by simp only [ow'];rw [if_neg hng];exact hg⟩
 have hownP:∀ b t,ow' b=some t→S.w0.heap.size≤b∨S.R0 b:=by
  intro b t hb
  simp only [ow'] at hb
  split at hb
  ·rename_i hb'
   rcases Nat.lt_or_ge b w.heap.size with hbl|hbl
   ·exact h.own b _ (hkey b hb' hbl)
   ·exact .inl (Nat.le_trans h.pres.size hbl)
  ·exact h.own b t hb
 have hL:=h.lenF
 have hle2:=wf.le
 refine zAP hr ⟨_,hK,m',β,ow',?_⟩
 rw [hd1]
 refine h.step st (by simp) (by simp [Act.put]) rfl ?_ ?_ hmem ⟨?_,?_,?_,hsize,?_,fun _=>zMI _ _ _ _ hr⟩ hownP ?_ ?_
 ·intro i hi
  rw [zAG (by simp;omega),zAG (by omega),zJN (by rw [h.lenA];exact hd2)]
  by_cases h1:d=i
  ·subst h1
   right
   rw [if_pos rfl,if_pos rfl]
   refine ⟨⟨xs++news,by rw [List.length_append];exact hown'⟩,fun g hg=>⟨by simp [ow',hg],?_,fun j hj=>?_⟩⟩
   ·refine RpRows.of_flat (us:=xs++news) ?_ ?_ fun j u hu=>?_
    ·intro r hr'
     rcases List.mem_append.1 hr' with hr'|hr'
     ·exact hv2 r hr'
     ·exact hn3 r hr'
    ·rw [List.flatten_append]
     exact RpL.mono hle _ _ (hv1.append hn2)
    ·simp only [m',Nat.zero_add]
     rw [if_pos hg]
     exact hu
   ·simp only [m']
    rw [if_pos hg]
    refine List.getElem?_eq_none ?_
    rw [List.length_append,hown.1,hl,←Nat.add_mul]
    rw [List.length_append] at hj
    exact hj
  ·rw [if_neg h1,if_neg h1]
   by_cases h2:x=i
   ·subst h2
    right
    rw [if_pos rfl]
    exact RpV.mono (x:=.one (.sl k rows)) hle (OwnRep.rp hrep)
   ·left
    rw [if_neg h2]
    exact ⟨rfl,rfl,.inl (by rintro (h3|h3)<;>injection h3<;>omega)⟩
 ·intro j bn hj
  left
  have:=wf.lo j bn hj
  refine ⟨(by rintro (h3|h3)<;>cases h3),fun o ho=>⟨?_,by rintro (h3|h3)<;>injection h3<;>omega⟩⟩
  rw [zAG (by simp;omega),zAG (by omega),if_neg (by omega),if_neg (by omega)]
 ·rcases hwhere with ⟨_,g⟩|⟨_,g⟩<;>exact g.os
 ·rcases hwhere with ⟨_,g⟩|⟨_,g⟩<;>exact g.tape
 ·rcases hwhere with ⟨_,g⟩|⟨_,g⟩<;>exact g.output
 ·intro b hb hnb
  refine hblock b hb fun e=>hnb ?_
  have:=h.own b _ (hkey b e hb)
  rcases this with h1|h1
  ·exact .inr h1
  ·exact .inl h1
 ·intro b t hb
  simp only [ow'] at hb
  split at hb
  ·rename_i hb'
   exact hlt' b hb'
  ·exact Nat.lt_of_lt_of_le (h.lt b t hb) hsize
 ·intro b j u hu
  simp only [m'] at hu
  split at hu
  ·rename_i hb'
   right
   rcases Nat.lt_or_ge b w.heap.size with hbl|hbl
   ·exact h.own b _ (hkey b hb' hbl)
   ·exact .inl (Nat.le_trans h.pres.size hbl)
  ·exact .inl hu
end
end Go.Hx
end

section
namespace Go.Hx
open Go.RowKit
variable [Glob]
section
variable {P:Program} {E:Env} {S:Start} {m:Mem} {β:Bx} {ow:Ow} {F:List Ct} {a:Act} {w:World}
theorem StkRep.nil (m:Mem) (w:World) (ow:Ow) (t:Tag) (e k:Nat):StkRep m w ow t e k [] (.slice none 0 0):=
 ⟨⟨[],World.ownsRow_nil w 0 e k,by simp [RpL]⟩,by simp,fun g hg=>by simp [Value.ownBlock] at hg⟩
theorem ySF (wf:E.Wf) (h:InvG E S m β ow F a w) {d e k:Nat} {o:Oper} (hd:zAY E.N (some d) o.dst=true) {y:Operand} (ho:o.op=.move y∨o.op=.assign y) (hk:zAk E.N (.c (.one (.nl 0))) y=true) {K:List Ct→Prop} {Q:Exit→Act→World→Prop}
  (hK:K (F.set d (.stk e k []))):o.wp P a w (zFb E S K) Q:=by
 obtain ⟨hd1,hd2⟩:=zAp hd
 have hr:(execOp a.eval o).run P w=.ok (.value (a.eval y)) w:=by
  unfold execOp
  rcases ho with ho|ho<;>rw [ho]<;>rfl
 have hy:a.eval y=.slice none 0 0:=by
  have:=zBd h hk (p:=.one (.nl 0)) trivial rfl
  exact this
 refine zAP hr ⟨_,hK,m,β,ow,?_⟩
 rw [hd1,hy]
 exact h.slot wf hd2 (StkRep.nil m w ow _ e k)
theorem yLM (wf:E.Wf) (h:InvG E S m β ow F a w) {d x e k:Nat} {rows rows':List (List PV)} {v:Value} (hd2:d < E.N) (hxN:x < E.N) (hx:F.getD x .un=.stk e k rows)
  (hrep':StkRep m w ow (.key x) e k rows' v):Inv E S ((F.set x (.hdr rows.length)).set d (.stk e k rows')) (a.put (some d) v) w:=by
 have hrep:=h.slots x hxN
 rw [hx] at hrep
 have hL:=h.lenF
 have hle:=wf.le
 have key:∀ g,v.ownBlock=some g→ow g=some (.key x):=fun g hg=>(hrep'.2.2 g hg).1
 refine ⟨m,β,zGd ow v d,?_⟩
 have st:Step (fun t=>t=.key x∨t=.key d) m m w w ow (zGd ow v d):=by
  refine ⟨m.le_refl,fun g t hg hX=>⟨rfl,fun _=>rfl,?_⟩⟩
  unfold zGd
  rw [if_neg]
  ·exact hg
  ·intro hv'
   have:=key g hv'
   rw [hg] at this
   exact hX (.inl (Option.some.inj this))
 refine h.step st (by simp) (by simp [Act.put]) rfl ?_ ?_ h.mem (Pres.refl _ _) ?_ ?_ (fun b o u hu=>.inl hu)
 ·intro i hi
  rw [zAG (by simp;omega),zAG (by omega),zJN (by rw [h.lenA];exact hd2)]
  by_cases h1:d=i
  ·subst h1
   right
   rw [if_pos rfl,if_pos rfl]
   exact ⟨hrep'.1,hrep'.2.1,fun g hg=>⟨by simp [zGd,hg],(hrep'.2.2 g hg).2⟩⟩
  ·rw [if_neg h1,if_neg h1]
   by_cases h2:x=i
   ·subst h2
    right
    rw [if_pos rfl]
    exact StkRep.hdr hrep
   ·left
    rw [if_neg h2]
    exact ⟨rfl,rfl,.inl (by rintro (h3|h3)<;>injection h3<;>omega)⟩
 ·intro j bn hj
  left
  have:=wf.lo j bn hj
  refine ⟨(by rintro (h3|h3)<;>cases h3),fun o ho=>⟨?_,by rintro (h3|h3)<;>injection h3<;>omega⟩⟩
  rw [zAG (by simp;omega),zAG (by omega),if_neg (by omega),if_neg (by omega)]
 ·intro b t hb
  unfold zGd at hb
  split at hb
  ·rename_i hv';exact h.own b _ (key b hv')
  ·exact h.own b t hb
 ·intro b t hb
  unfold zGd at hb
  split at hb
  ·rename_i hv';exact h.lt b _ (key b hv')
  ·exact h.lt b t hb
theorem ySG (wf:E.Wf) (h:InvG E S m β ow F a w) {d x:Nat} {o:Oper} (hd:zAY E.N (some d) o.dst=true) {y:Operand} (ho:o.op=.move y∨o.op=.assign y) (hk:zAk E.N (.t x) y=true) {K:List Ct→Prop} {Q:Exit→Act→World→Prop}
  {e k:Nat} {rows:List (List PV)} (hx:F.getD x .un=.stk e k rows) (_hne:d≠x) (hK:K ((F.set x (.hdr rows.length)).set d (.stk e k rows))):o.wp P a w (zFb E S K) Q:=by
 obtain ⟨hd1,hd2⟩:=zAp hd
 have hr:(execOp a.eval o).run P w=.ok (.value (a.eval y)) w:=by
  unfold execOp
  rcases ho with ho|ho<;>rw [ho]<;>rfl
 obtain ⟨rfl,hxN⟩:=zBL hk
 have hrep:=h.slots x hxN
 rw [hx] at hrep
 refine zAP hr ⟨_,hK,?_⟩
 rw [hd1]
 exact yLM wf h hd2 hxN hx hrep
theorem StkRep.take {t:Tag} {e k:Nat} {rows:List (List PV)} {A:Option Addr} {l c:Nat} (h:StkRep m w ow t e k rows (.slice A l c)) (n:Nat) (hn:n≤rows.length):StkRep m w ow t e k (rows.take n) (.slice A n c):=by
 obtain ⟨⟨xs,⟨h1,h2⟩,h3⟩,h4,h5⟩:=h
 have hlen:(rows.take n).length=n:=by simp;omega
 have hk':∀ r∈rows.take n,r.length=k:=fun r hr=>h4 r (List.mem_of_mem_take hr)
 have hfl:(rows.take n).flatten=rows.flatten.take (n * k):=flatten_take rows n h4
 refine ⟨⟨xs.take (n * k),⟨by rw [hlen,List.length_take,h1];exact Nat.min_eq_left (Nat.mul_le_mul_right _ hn),?_⟩,?_⟩,hk',?_⟩
 ·rcases h2 with ⟨e1,e2⟩|⟨g,cap,cur,e1,e2,e3,e4,e5,e6,e7⟩
  ·injection e1 with e1 e1' e1''
   subst e1
   have:n=0:=by omega
   subst this
   exact .inl ⟨by rw [e1''],by rw [hlen]⟩
  ·injection e1 with e1 e1' e1''
   subst e1;subst e1''
   refine .inr ⟨g,c,cur,by rw [hlen],e2,e3,by rw [hlen];omega,e5,e6,?_⟩
   rw [hlen,←e7,List.take_take,Nat.min_eq_left (Nat.mul_le_mul_right _ hn)]
 ·rw [hfl]
  exact RpL.take' h3 _
 ·intro g hg
  exact h5 g (by cases A<;>simp [Value.ownBlock] at hg ⊢;exact hg)
where
 flatten_take:∀ (rows:List (List PV)) (n:Nat),(∀ r∈rows,r.length=k)→(rows.take n).flatten=rows.flatten.take (n * k)
  |[],n,_=>by simp
  |r::rs,0,_=>by simp
  |r::rs,n+1,h=>by
   have hr:=h r List.mem_cons_self
   rw [List.take_succ_cons,List.flatten_cons,List.flatten_cons,flatten_take rs n fun r' h'=>h r' (List.mem_cons_of_mem _ h'),Nat.succ_mul,List.take_append,List.take_of_length_le (l:=r) (by omega)]
   have e2:n * k+k-r.length=n * k:=by omega
   rw [e2]
 RpL.take':∀ {cs:List PV} {us:List Value},RpL m cs us→∀ n,RpL m (cs.take n) (us.take n)
  |[],us,h,n=>by simp only [RpL] at h;subst h;simp [RpL]
  |x::xs,us,h,0=>by simp [RpL]
  |x::xs,us,h,n+1=>by
   simp only [RpL] at h
   obtain ⟨u,us',rfl,h2,h3⟩:=h
   simp only [List.take_succ_cons,RpL]
   exact ⟨u,_,rfl,h2,RpL.take' h3 n⟩
theorem yVO (wf:E.Wf) (h:InvG E S m β ow F a w) {d x:Nat} {hi:Opd} {o:Oper} (hd:zAY E.N (some d) o.dst=true) {t:TypeId} {x':Operand} {hi':Option Operand} (ho:o.op=.slice t x' none hi' none) (hk:zAk E.N (.t x) x'=true) (hk2:zJK E.N (some hi) hi'=true)
  {et:TypeId} (he:sliceElem? P t=some et) {sz:Nat} (hsz:zEg P et=some sz) {K:List Ct→Prop} {Q:Exit→Act→World→Prop} {e k:Nat} {rows:List (List PV)} {ik:IntKind} {n:Int} (hx:F.getD x .un=.stk e k rows) (hn:(zAn F hi).pv?=some (.one (.v (.int ik n)))) (_hne:d≠x) (hnd:(zAn F hi).need)
  (h0:0≤n) (h1:n≤rows.length) (hK:K ((F.set x (.hdr rows.length)).set d (.stk e k (rows.take n.toNat)))):o.wp P a w (zFb E S K) Q:=by
 obtain ⟨hd1,hd2⟩:=zAp hd
 obtain ⟨rfl,hxN⟩:=zBL hk
 have hrep:=h.slots x hxN
 rw [hx] at hrep
 obtain ⟨A,c,hv,hlc,hcm⟩:=StkRep.hdr hrep
 have hv':a.eval (.tmp x)=.slice A rows.length c:=hv
 have hbnd:zC6 F rows.length (some hi)=((zAn F hi).need,n):=by simp only [zC6,hn]
 have hb:=zFM (P:=P) h (lo:=none) (lo':=none) (hi:=some hi) (by rfl) hk2 true rows.length c hlc trivial (by rw [hbnd];exact hnd) (by simp [zC6]) (by rw [hbnd];simpa [zC6] using h0) (by rw [hbnd];exact h1)
 rw [hbnd] at hb
 simp only [Option.map_none,zC6,Int.toNat_zero] at hb
 have hr:(execOp a.eval o).run P w=.ok (.value (.slice A n.toNat c)) w:=by
  unfold execOp;rw [ho]
  have hu:=zC7 he
  simp only [hv',Instr.sliceAt,Instr.slice,Sem.run_bind,Sem.run_pure,Result.andThen_ok,run_underlying hu,Option.map_none,hb,zBG hsz]
  simp only [Nat.sub_zero,Nat.zero_mul]
  by_cases hc0:c=0
  ·simp [hc0]
  ·have hA:A.map (·.add 0)=A:=by
    cases A with
    |none=>rfl
    |some q=>simp [Addr.add]
   simp [hc0,hA]
 refine zAP hr ⟨_,hK,?_⟩
 rw [hd1]
 have hrep2:=hrep
 rw [hv] at hrep2
 exact yLM wf h hd2 hxN hx (hrep2.take n.toNat (by omega))
theorem yVP (wf:E.Wf) (h:InvG E S m β ow F a w) {d e k x:Nat} {y:Opd} {o:Oper} (hd:zAY E.N (some d) o.dst=true) {x' y':Operand} {t:TypeId} (ho:o.op=.call {callee:=.builtin .append,args:=#[x',y'],argTypes:=#[t,t]}) (hk1:zAk E.N (.t x) x'=true) (hk2:zAk E.N y y'=true) (he:zFn P t e k=true) {K:List Ct→Prop} {Q:Exit→Act→World→Prop}
  {rows rs:List (List PV)} (hx:F.getD x .un=.stk e k rows) (hy:(zAn F y).pv?=some (.one (.sl k rs))) (_hne:x≠d) (hne:(zAn F y).need) (hb:(rows.length+rs.length) * 4096≤140737488355328)
  (hK:K ((F.set x (.hdr rows.length)).set d (.stk e k (rows++rs)))):o.wp P a w (zFb E S K) Q:=by
 obtain ⟨hd1,hd2⟩:=zAp hd
 obtain ⟨rfl,hxN⟩:=zBL hk1
 have hrep:=h.slots x hxN
 rw [hx] at hrep
 obtain ⟨⟨xs,hown,hv1⟩,hv2,hv3⟩:=hrep
 obtain ⟨A,c,hyv,_,_,hyr⟩:=zBd h hk2 hne hy
 have hnews:∃ news:List Value,news.length=rs.length * k∧RpL m rs.flatten news∧(∀ r∈rs,r.length=k)∧(0 < rs.length→∃ q,A=some q∧∀ j u,news[j]?=some u→w.cell? (q.add j)=some u):=by
  rcases hyr with hyr|⟨b,o',rfl,hyr⟩
  ·subst hyr
   exact ⟨[],by simp,by simp [RpL],by simp,by simp⟩
  ·obtain ⟨us,h1,h2,h3⟩:=hyr.vals
   refine ⟨us,h1,h2,fun r hr'=>?_,fun _=>⟨_,rfl,fun j u hu=>by rw [zBW];exact h.mem.c _ _ _ (h3 j u hu)⟩⟩
   obtain ⟨i,hi⟩:=List.getElem?_of_mem hr'
   exact (hyr.get i r hi).1
 obtain ⟨news,hl,hn2,hn3,hn4⟩:=hnews
 have hflat:∀ u∈news,u.oneCell'=true:=fun u hu=>zCl (hn2.flat_ u hu)
 obtain ⟨v',w',hrun,hown',hwhere⟩:=yJd (P:=P) (ty:=o.type) he hown hyv hl hn4 hflat (.inl hb)
 have hr:(execOp a.eval o).run P w=.ok (.value v') w':=by
  obtain ⟨dst,op,ty,pos,after,gd⟩:=o
  simp only at ho
  subst ho
  rw [BigFrame.execOp_builtin,BigFrame.builtin_append]
  have e1:(#[Operand.tmp x,y'].map a.eval)=#[a.tmps.getD x undef,a.eval y']:=by simp [Act.eval]
  rw [e1]
  simp only [Sem.run_bind,hrun,Result.andThen_ok]
  rfl
 let ow':Ow:=fun b=>if v'.ownBlock=some b then some (.key d) else ow b
 have hlt':∀ b,v'.ownBlock=some b→b < w'.heap.size:=fun b hb=>(hown'.lt b hb).2
 have hsize:w.heap.size≤w'.heap.size:=by rcases hwhere with ⟨_,g⟩|⟨_,g⟩<;>exact g.size
 have hblock:∀ b,b < w.heap.size→v'.ownBlock≠some b→w'.heap[b]?=w.heap[b]?:=by
  intro b hb hne'
  rcases hwhere with ⟨e1,g⟩|⟨_,g⟩
  ·exact g.block b hb (fun e=>hne' (by rw [e1];exact e.symm))
  ·exact g.block b hb (by simp)
 have hfree:∀ b,v'.ownBlock=some b→∀ j,m b j=none:=by
  intro b hb j
  rcases hwhere with ⟨e1,_⟩|⟨e1,_⟩
  ·exact (hv3 b (by rw [←e1];exact hb)).2 j
  ·rw [e1] at hb
   injection hb with hb
   cases hm:m b j with
   |none=>rfl
   |some u=>have:=zFN h.mem hm;omega
 have hmem:MemOk m w':=by
  intro b j u hu
  have hb:v'.ownBlock≠some b:=fun hb=>by rw [hfree b hb j] at hu;cases hu
  have hbl:=zFN h.mem hu
  exact (h.mem b j u hu).block (hblock b hbl hb)
 have hkey:∀ b,v'.ownBlock=some b→b < w.heap.size→ow b=some (.key x):=by
  intro b hb hbl
  rcases hwhere with ⟨e1,_⟩|⟨e1,_⟩
  ·exact (hv3 b (by rw [←e1];exact hb)).1
  ·rw [e1] at hb;injection hb with hb;omega
 have st:Step (fun t=>t=.key x∨t=.key d) m m w w' ow ow':=by
  refine ⟨m.le_refl,fun g t hg hX=>?_⟩
  have hgl:=h.lt g t hg
  have hng:v'.ownBlock≠some g:=by
   intro hb
   rw [hkey g hb hgl] at hg
   exact hX (.inl (Option.some.inj hg).symm)
  exact ⟨hblock g hgl hng,fun j=>rfl,by simp only [ow'];rw [if_neg hng];exact hg⟩
 have hownP:∀ b t,ow' b=some t→S.w0.heap.size≤b∨S.R0 b:=by
  intro b t hb
  simp only [ow'] at hb
  split at hb
  ·rename_i hb'
   rcases Nat.lt_or_ge b w.heap.size with hbl|hbl
   ·exact h.own b _ (hkey b hb' hbl)
   ·exact .inl (Nat.le_trans h.pres.size hbl)
  ·exact h.own b t hb
 have hL:=h.lenF
 have hle2:=wf.le
 refine zAP hr ⟨_,hK,m,β,ow',?_⟩
 rw [hd1]
 refine h.step st (by simp) (by simp [Act.put]) rfl ?_ ?_ hmem ⟨?_,?_,?_,hsize,?_,fun _=>zMI _ _ _ _ hr⟩ hownP ?_ (fun b o u hu=>.inl hu)
 ·intro i hi
  rw [zAG (by simp;omega),zAG (by omega),zJN (by rw [h.lenA];exact hd2)]
  by_cases h1:d=i
  ·subst h1
   right
   rw [if_pos rfl,if_pos rfl]
   refine ⟨⟨xs++news,by rw [List.length_append];exact hown',?_⟩,?_,fun g hg=>⟨by simp [ow',hg],hfree g hg⟩⟩
   ·rw [List.flatten_append]
    exact hv1.append hn2
   ·intro r hr'
    rcases List.mem_append.1 hr' with hr'|hr'
    ·exact hv2 r hr'
    ·exact hn3 r hr'
  ·rw [if_neg h1,if_neg h1]
   by_cases h2:x=i
   ·subst h2
    right
    rw [if_pos rfl]
    exact StkRep.hdr (m:=m) (w:=w) (ow:=ow) (t:=.key x) (e:=e) (k:=k) ⟨⟨xs,hown,hv1⟩,hv2,hv3⟩
   ·left
    rw [if_neg h2]
    exact ⟨rfl,rfl,.inl (by rintro (h3|h3)<;>injection h3<;>omega)⟩
 ·intro j bn hj
  left
  have:=wf.lo j bn hj
  refine ⟨(by rintro (h3|h3)<;>cases h3),fun o ho=>⟨?_,by rintro (h3|h3)<;>injection h3<;>omega⟩⟩
  rw [zAG (by simp;omega),zAG (by omega),if_neg (by omega),if_neg (by omega)]
 ·rcases hwhere with ⟨_,g⟩|⟨_,g⟩<;>exact g.os
 ·rcases hwhere with ⟨_,g⟩|⟨_,g⟩<;>exact g.tape
 ·rcases hwhere with ⟨_,g⟩|⟨_,g⟩<;>exact g.output
 ·intro b hb hnb
  refine hblock b hb fun e=>hnb ?_
  have:=h.own b _ (hkey b e hb)
  rcases this with h1|h1
  ·exact .inr h1
  ·exact .inl h1
 ·intro b t hb
  simp only [ow'] at hb
  split at hb
  ·rename_i hb'
   exact hlt' b hb'
  ·exact Nat.lt_of_lt_of_le (h.lt b t hb) hsize
theorem zOC (d:Nat) {t et:TypeId} (hu:P.underlying t=some (.slice et)) (A:Option Addr) (l c:Nat):(Op.equalIn (d+1) t (.slice A l c) (.slice none 0 0)).run P w=.ok A.isNone w:=by
 simp only [Op.equalIn,Sem.run_bind,run_underlying hu,Result.andThen_ok]
 cases A<;>rfl
theorem ySH (wf:E.Wf) (h:InvG E S m β ow F a w) {d:Nat} {ng:Bool} {x:Opd} {o:Oper} (hd:zAY E.N (some d) o.dst=true) {x':Operand} {t t':TypeId} {op:BinOp} (ho:o.op=.binOp op t x' (.const (.slice none 0 0)) t') (hop:op=if ng then .neq else .eql) (ht:zK1 P t=true) (hk:zAk E.N x x'=true)
  {K:List Ct→Prop} {Q:Exit→Act→World→Prop} {k:Nat} {rows:List (List PV)} (hp:(zAn F x).pv?=some (.one (.sl k rows))∨((zAn F x).pv?=some (.one (.nl k))∧rows=[])) (hn:(zAn F x).need)
  (hK:∀ b:Bool,(rows≠[]→b=false)→((zAn F x).pv?=some (.one (.nl k))→b=true)→K (F.set d (.pv (bv (if ng then !b else b))))):o.wp P a w (zFb E S K) Q:=by
 obtain ⟨hd1,hd2⟩:=zAp hd
 obtain ⟨et,hu⟩:=zFL ht
 have hv:∃ A l c,a.eval x'=.slice A l c∧(rows≠[]→A≠none)∧((zAn F x).pv?=some (.one (.nl k))→A=none):=by
  rcases hp with hp|⟨hp,rfl⟩
  ·obtain ⟨A,c,hv,_,_,hr⟩:=zBd h hk hn hp
   refine ⟨A,_,c,hv,fun hne=>?_,fun e=>by rw [hp] at e;cases e⟩
   rcases hr with hr|⟨b,o',rfl,_⟩
   ·exact (hne hr).elim
   ·simp
  ·have hv:=zBd h hk hn hp
   exact ⟨none,0,0,hv,fun h=>(h rfl).elim,fun _=>rfl⟩
 obtain ⟨A,l,c,hv,h1,h2⟩:=hv
 have hr:(execOp a.eval o).run P w=.ok (.value (.bool (if ng then !A.isNone else A.isNone))) w:=by
  unfold execOp;rw [ho]
  have e1:a.eval (.const (.slice none 0 0))=.slice none 0 0:=rfl
  have he:(Op.equal t (.slice A l c) (.slice none 0 0)).run P w=.ok A.isNone w:=by
   simp only [Op.equal,Op.maxDepth];exact zOC 9999 hu A l c
  simp only [hv,e1,Sem.run_bind,zEM (P:=P) (w:=w) op t x' _ (.slice A l c) (.slice none 0 0) rfl,Result.andThen_ok]
  subst hop;cases ng<;>simp [binOp,he]
 refine zAP hr ⟨_,hK A.isNone (fun hne=>?_) (fun e=>by rw [h2 e];rfl),m,β,ow,?_⟩
 ·cases A with
  |none=>exact (h1 hne rfl).elim
  |some q=>rfl
 ·rw [hd1]
  exact h.slot wf hd2 ⟨rfl,rfl⟩
end
end Go.Hx
end

section
namespace Go.Hx
open Go.RowKit
variable [Glob]
section
variable {P:Program} {E:Env} {S:Start} {m:Mem} {β:Bx} {ow:Ow} {F:List Ct} {a:Act} {w:World}
theorem yVQ (wf:E.Wf) (h:InvG E S m β ow F a w) {d e k n:Nat} {parts:List Opd} {o:Oper} (hd:zAY E.N (some d) o.dst=true) {t:TypeId} {ps:Array (Nat×Operand)} (ho:o.op=.buildSlice t n ps) (k0:zGm E.N 0 parts ps.toList=true) (hn:n=parts.length) (hsm:n * k≤2 ^ 24) (he:zFn P t e k=true)
  {K:List Ct→Prop} {Q:Exit→Act→World→Prop} (hc:(zEI F k parts).1) (hK:K (F.set d (.own e k (zEI F k parts).2))):o.wp P a w (zFb E S K) Q:=by
 obtain ⟨hd1,hd2⟩:=zAp hd
 obtain ⟨hu,hk,ie,z,hie,hsz,hby,hz',hzs⟩:=zMN he
 obtain ⟨h1,h2,h3,h4,h5,h6⟩:=yCm h k0 hc
 have hev:(ps.map fun x=>(x.1,a.eval x.2)).toList=((ps.toList.map fun x=>a.eval x.2).zipIdx 0).map (fun x=>(x.2,x.1)):=by rw [Array.toList_map];exact h1
 have hs:zEg P e=some k:=by simp [zEg,hie,hsz]
 have hrun:∃ us:List Value,us.length=n * k∧RpL m (zEI F k parts).2.flatten us∧(execOp a.eval o).run P w=.ok (.value (.slice (some ⟨w.heap.size,0,none⟩) n n)) (w.alloc (.cells us.toArray e)):=by
  rcases Nat.eq_zero_or_pos n with h0|h0
  ·refine ⟨[],by simp [h0],?_,?_⟩
   ·have:parts=[]:=List.eq_nil_of_length_eq_zero (by omega)
    subst this
    simp [zEI,RpL]
   ·have hps:ps=#[]:=by
     apply Array.ext'
     exact List.eq_nil_of_length_eq_zero (by rw [h2];omega)
    unfold execOp;rw [ho]
    subst hps
    simp [h0,Instr.buildSlice,run_underlying hu,zBG hs,Instr.fill,newRow]
    congr 2
    exact Array.eq_empty_of_size_eq_zero (by simp)
  ·refine ⟨_,?_,h6,?_⟩
   ·have:((ps.toList.map fun x=>a.eval x.2).flatMap fun v=>v.cells.toList).length=(ps.toList.map fun x=>a.eval x.2).length * k:=by
     rw [List.length_flatMap]
     have hall:∀ l:List Value,(∀ v∈l,v.cells.size=k)→(l.map fun v=>v.cells.toList.length).sum=l.length * k:=by
      intro l
      induction l with
      |nil=>simp
      |cons v l ih=>
       intro hl
       simp only [List.map_cons,List.sum_cons,List.length_cons]
       rw [ih (fun u hu=>hl u (List.mem_cons_of_mem _ hu)),Array.length_toList,hl v List.mem_cons_self,Nat.add_mul]
       omega
     exact hall _ h4
    rw [this,List.length_map,h2,hn]
   ·have hf:=Great.fill_whole (s:=ie.size) (by omega) (ps.toList.map fun x=>a.eval x.2) ((Array.range (n * ie.size)).map (z.cells[· % z.cells.size]!)) (by rw [hsz];exact h4) (by simp [h2,hn])
    have hpos:¬ n * ie.size=0:=by rw [hsz];exact Nat.mul_ne_zero (by omega) (by omega)
    have hr:=run_buildSlice (P:=P) w t e n (ps.map fun x=>(x.1,a.eval x.2)) _ ie z hu hie hz' (by rw [hsz];omega) hpos (by rw [hev];exact hf)
    unfold execOp;rw [ho]
    simp only [Sem.run_bind,hr,Result.andThen_ok]
    rfl
 obtain ⟨us,hul,hus,hrun⟩:=hrun
 have hlen:(zEI F k parts).2.length=n:=by rw [h3,hn]
 have q:=Quiet.newBlock h us e
 have hle:m.le (m.put w.heap.size us):=q.le
 have hnm:n≤maxLen:=by
  have:n≤n * k:=Nat.le_mul_of_pos_right n hk
  simp only [maxLen];omega
 have st:Step (fun _=>False) m (m.put w.heap.size us) w (w.alloc (.cells us.toArray e)) ow (fun b=>if b=w.heap.size then some (.key d) else ow b):=by
  refine ⟨hle,fun g t hg _=>⟨q.heap g t hg,fun o'=>q.free g t o' hg,?_⟩⟩
  have:=h.lt g t hg
  rw [if_neg (by omega)]
  exact hg
 refine zAP hrun ⟨_,hK,m.put w.heap.size us,β,fun b=>if b=w.heap.size then some (.key d) else ow b,?_⟩
 rw [hd1]
 have hL:=h.lenF
 have hle2:=wf.le
 refine h.step st (by simp) (by simp [Act.put]) rfl ?_ ?_ q.mem q.pres ?_ ?_ q.new
 ·intro i hi
  rw [zAG (by omega),zJN (by rw [h.lenA];exact hd2)]
  by_cases h1':d=i
  ·subst h1'
   right
   rw [if_pos rfl,if_pos rfl]
   refine ⟨⟨us,?_⟩,fun g hg=>?_⟩
   ·rw [hlen]
    refine ⟨hul,.inr ⟨w.heap.size,n,us.toArray,rfl,Nat.zero_le _,heap_alloc_new w _,Nat.le_refl _,hnm,by simp [hul],?_⟩⟩
    simp [←hul]
   ·simp only [Value.ownBlock,Option.some.injEq] at hg
    subst hg
    refine ⟨by simp,RpRows.of_flat h5 (RpL.mono hle _ _ hus) fun i u hi=>by simp [Mem.put,hi],fun o' ho'=>?_⟩
    simp only [Mem.put,if_true]
    exact List.getElem?_eq_none (by rw [hul,←hlen];exact ho')
  ·left
   rw [if_neg h1',if_neg h1']
   exact ⟨rfl,rfl,.inl id⟩
 ·intro j bn hj
  left
  have:=wf.lo j bn hj
  refine ⟨id,fun o' ho'=>⟨?_,id⟩⟩
  rw [zAG (by omega),if_neg (by omega)]
 ·intro b t hb
  split at hb
  ·rename_i e'
   exact .inl (by rw [e'];exact h.pres.size)
  ·exact h.own b t hb
 ·intro b t hb
  split at hb
  ·rename_i e'
   rw [e'];simp
  ·have:=h.lt b t hb
   simp;omega
theorem ySI (h:InvG E S m β ow F a w) {x:Opd} {y:Operand} {o:Oper} (ho:(∃ ats,o.op=.call {callee:=.builtin .panic,args:=#[y],argTypes:=ats})∨o.op=.panic y) (hk:zAk E.N x y=true) {ti:TypeId} {u':Value} (hx:(zAn F x).pv?=some (.one (.v (.iface ti u')))) (hne:(zAn F x).need)
  {K:Act→World→Prop} {Q:Exit→Act→World→Prop} (hQ:Q (.panic [{v:=.iface ti u',recovered:=false}]) a w):o.wp P a w K Q:=by
 have hv:a.eval y=.iface ti u':=(zBd h hk hne hx).1
 have hp:(Instr.panic (.iface ti u')).run P w=.halt (.panic (.iface ti u')) w:=rfl
 have hr:(execOp a.eval o).run P w=.halt (.panic (.iface ti u')) w:=by
  rcases ho with ⟨ats,ho⟩|ho
  ·obtain ⟨dst,op,ty,pos,after,gd⟩:=o
   simp only at ho
   subst ho
   rw [BigFrame.execOp_builtin,BigFrame.builtin_panic]
   simp [hv,hp]
  ·unfold execOp;rw [ho]
   simp [hv,hp]
 unfold Oper.wp
 rw [hr]
 exact hQ
theorem zT1 {j base sz b:Nat} (hB:BoxRep m w ow F j (base,sz) (some b)) {cs:List PV} (hc:zBq F base sz=some cs):∃ vs T,w.heap[b]?=some (.cells vs T (0,0))∧vs.size=sz∧RpL m cs vs.toList:=by
 obtain ⟨us,h1,h2,h3⟩:=zMK hB sz 0 (by omega) cs (by simpa using hc)
 obtain ⟨_,_,vs,T,hh,hsz,_⟩:=hB
 refine ⟨vs,T,hh,hsz,?_⟩
 have:us=vs.toList:=by
  apply List.ext_getElem?
  intro i
  by_cases hi:i < us.length
  ·have:=h3 i _ (List.getElem?_eq_getElem hi)
   rw [Nat.zero_add,cell_of_row w b i vs T (0,0) hh] at this
   rw [List.getElem?_eq_getElem hi,Array.getElem?_toList,this]
  ·simp only at hsz
   rw [List.getElem?_eq_none (by omega),List.getElem?_eq_none (by simp;omega)]
 rw [←this]
 exact h2
theorem zFt (h:InvG E S m β ow F a w):∀ {args:List (Opd×AM)} {ys:List Operand},zJk E args ys=true→(zBR F args).1→
  ArgsRep m w (zBR F args).2 (ys.map a.eval)∧
  (∀ g,zIJ (zBR F args).2 (ys.map a.eval)=some g→∃ n e k rows,zBw args=some n∧n < E.N∧F.getD n .un=.own e k rows∧ow g=some (.key n))∧
  (∀ n,zBw args=some n→n < E.N∧∃ e k rows,F.getD n .un=.own e k rows∧zIJ (zBR F args).2 (ys.map a.eval)=(a.tmps.getD n undef).ownBlock)∧
  (∀ b,ioB (zBR F args).2 (ys.map a.eval)=some b→∃ j base sz,zFc args=some (j,base,sz)∧E.Γ[j]?=some (base,sz)∧β j=some b∧zTU (zBR F args).2=sz)∧
  (∀ j base sz,zFc args=some (j,base,sz)→E.Γ[j]?=some (base,sz)∧∃ b,β j=some b∧ioB (zBR F args).2 (ys.map a.eval)=some b)
 |[],[],_,_=>by simp [zBR,ArgsRep,zIJ,ioB,zBw,zFc]
 |[],_::_,hk,_=>by simp [zJk] at hk
 |_::_,[],hk,_=>by simp [zJk] at hk
 |(x,mo)::r,y::ys,hk,hc=>by
  simp only [zJk,Bool.and_eq_true] at hk
  obtain ⟨⟨hk1,hk2⟩,hk3⟩:=hk
  cases mo with
  |v=>
   simp only [zBR] at hc ⊢
   split at hc
   ·rename_i p e1
    obtain ⟨c1,c2⟩:=hc
    obtain ⟨i1,i2,i3,i4,i5⟩:=zFt h hk3 c2
    have hv:=(zBd h hk1 c1 e1).norm
    exact ⟨⟨_,_,rfl,hv,i1⟩,i2,i3,i4,i5⟩
   ·exact hc.elim
  |r=>
   simp only [zBR] at hc ⊢
   split at hc
   ·rename_i p e1
    obtain ⟨c1,c2⟩:=hc
    obtain ⟨i1,i2,i3,i4,i5⟩:=zFt h hk3 c2
    have hv:=zBd h hk1 c1 e1
    exact ⟨⟨_,_,rfl,hv,i1⟩,i2,i3,i4,i5⟩
   ·exact hc.elim
  |o=>
   simp only [zBR] at hc ⊢
   split at hc
   ·rename_i e k rows e1
    obtain ⟨i1,i2,i3,i4,i5⟩:=zFt h hk3 hc
    cases x with
    |t n=>
     obtain ⟨rfl,hn⟩:=zBL hk1
     simp only [zAn] at e1
     have hrep:=h.slots n hn
     rw [e1] at hrep
     refine ⟨⟨_,_,rfl,OwnRep.at_ hrep,i1⟩,?_,?_,i4,i5⟩
     ·intro g hg
      exact ⟨n,e,k,rows,rfl,hn,e1,(hrep.2 g hg).1⟩
     ·intro n' hn'
      simp only [zBw,Option.some.injEq] at hn'
      subst hn'
      exact ⟨hn,e,k,rows,e1,rfl⟩
    |c p=>simp [zAn] at e1
    |f n=>simp [zAn] at e1
   ·exact hc.elim
  |n e k=>
   simp only [zBR] at hc ⊢
   split at hc
   ·rename_i kk e1
    obtain ⟨i1,i2,i3,i4,i5⟩:=zFt h hk3 hc
    have hv:a.eval y=.slice none 0 0:=zBd h hk1 (p:=.one (.nl kk)) (by rw [e1];trivial) (by rw [e1];rfl)
    refine ⟨⟨_,_,rfl,by rw [hv];exact OwnAt.nil m w e k,i1⟩,?_,?_,i4,i5⟩
    ·intro g hg
     simp only [List.map_cons,hv,zIJ,Value.ownBlock] at hg
     cases hg
    ·intro n' hn'
     simp [zBw] at hn'
   ·exact hc.elim
  |i j base sz=>
   simp only [zBR] at hc ⊢
   split at hc
   ·rename_i j' cs e1 e2
    obtain ⟨rfl,hc⟩:=hc
    obtain ⟨i1,i2,i3,i4,i5⟩:=zFt h hk3 hc
    obtain ⟨b,hb,hv⟩:=zC5 h hk1 e1
    have hj:=zK4 (by simpa using hk2)
    have hB:=h.boxes j' _ hj
    rw [hb] at hB
    obtain ⟨vs,T,hh,hsz,hr⟩:=zT1 hB e2
    have hcl:cs.length=sz:=by rw [←hr.length,Array.length_toList,hsz]
    refine ⟨⟨_,_,rfl,⟨b,vs,T,hv,hh,hB.2.1,hr⟩,i1⟩,i2,i3,?_,?_⟩
    ·intro b' hb'
     simp only [List.map_cons,hv,ioB,yVC,Option.some.injEq] at hb'
     subst hb'
     exact ⟨j',base,sz,rfl,hj,hb,hcl⟩
    ·intro j2 base2 sz2 h2
     simp only [zFc,Option.some.injEq,Prod.mk.injEq] at h2
     obtain ⟨rfl,rfl,rfl⟩:=h2
     exact ⟨hj,b,hb,by simp [hv,ioB,yVC]⟩
   ·exact hc.elim
theorem yJe (wf:E.Wf) {j base sz:Nat} (hj:E.Γ[j]?=some (base,sz)) {F:List Ct} {io:Option (List PV)} {i:Nat} (hi:i < E.N):(zJM F io (some (j,base,sz))).getD i .un=F.getD i .un:=by
 have:=wf.lo j _ hj
 simp only at this
 simp only [zJM]
 rw [zAr,if_neg (by omega)]
theorem ArgsRep.length:∀ {as:List AV} {us:List Value},ArgsRep m w as us→us.length=as.length
 |[],us,h=>by simp only [ArgsRep] at h;subst h;rfl
 |x::xs,us,h=>by
  simp only [ArgsRep] at h
  obtain ⟨u,us',rfl,_,h3⟩:=h
  simp [ArgsRep.length h3]
theorem yGE:∀ {extra:List AV} {us2:List Value},(∀ x∈extra,∃ p,x=.val p)→zIJ extra us2=none
 |[],_,_=>rfl
 |x::xs,[],_=>rfl
 |x::xs,u::us,h=>by
  obtain ⟨p,rfl⟩:=h x List.mem_cons_self
  simp only [zIJ]
  exact yGE fun y hy=>h y (List.mem_cons_of_mem _ hy)
theorem yLN:∀ {extra:List AV} {us2:List Value},(∀ x∈extra,∃ p,x=.val p)→ioB extra us2=none
 |[],_,_=>rfl
 |x::xs,[],_=>rfl
 |x::xs,u::us,h=>by
  obtain ⟨p,rfl⟩:=h x List.mem_cons_self
  simp only [ioB]
  exact yLN fun y hy=>h y (List.mem_cons_of_mem _ hy)
theorem zFP {extra:List AV} {us2:List Value} (h:∀ x∈extra,∃ p,x=.val p):∀ {as:List AV} {us:List Value},us.length=as.length→zIJ (as++extra) (us++us2)=zIJ as us
 |[],[],_=>by simpa [zIJ] using yGE h
 |[],_::_,hl=>by simp at hl
 |_::_,[],hl=>by simp at hl
 |x::as,u::us,hl=>by
  have:=zFP (us2:=us2) h (as:=as) (us:=us) (by simpa using hl)
  cases x<;>simp only [List.cons_append,zIJ]<;>exact this
theorem zG9 {extra:List AV} {us2:List Value} (h:∀ x∈extra,∃ p,x=.val p):∀ {as:List AV} {us:List Value},us.length=as.length→ioB (as++extra) (us++us2)=ioB as us
 |[],[],_=>by simpa [ioB] using yLN h
 |[],_::_,hl=>by simp at hl
 |_::_,[],hl=>by simp at hl
 |x::as,u::us,hl=>by
  have:=zG9 (us2:=us2) h (as:=as) (us:=us) (by simpa using hl)
  cases x<;>simp only [List.cons_append,ioB]<;>exact this
theorem zGn {extra:List AV}:∀ {as:List AV} {us:List Value} {b:Nat},ioB as us=some b→zTU (as++extra)=zTU as
 |[],_,_,h=>by simp [ioB] at h
 |_::_,[],_,h=>by simp [ioB] at h
 |x::as,u::us,b,h=>by
  cases x with
  |io cells=>simp [zTU]
  |val p=>simp only [ioB] at h;simp only [List.cons_append,zTU];exact zGn h
  |own e k rows=>simp only [ioB] at h;simp only [List.cons_append,zTU];exact zGn h
theorem yNd (wf:E.Wf) (h:InvG E S m β ow F a w) {args:List (Opd×AM)} {ys:List Operand} (hk:zJk E args ys=true) (hc:(zBR F args).1) {extra:List AV} {us2:List Value} (hx:∀ x∈extra,∃ p,x=.val p) {r:RV} {e:Ending} {w':World}
  (hp:yVE m w ((zBR F args).2++extra) (ys.map a.eval++us2) r e w'):
  ∃ (m':Mem) (ow1:Ow) (ob:Option Nat),InvG E S m' β ow1 (zAX F (Res.ioOf r) args) a w'∧yBh m' w w' ob r.res e∧(∀ g,w.heap.size≤g∨ob=some g→ow1 g=none)∧(∀ g,ob=some g→S.w0.heap.size≤g∨S.R0 g)∧w.heap.size≤w'.heap.size:=by
 obtain ⟨r1,r2,r3,r4,r5⟩:=zFt h hk hc
 have hlen:=r1.length
 obtain ⟨m',p1,p2,p3,p4,p5,p6⟩:=hp
 rw [zFP hx hlen] at p4 p6
 have p3':Pres (zTT (zBR F args).2 (ys.map a.eval)) w w':=p3.mono fun b _ hb=>by
  unfold zTT at hb ⊢
  rw [zFP hx hlen,zG9 hx hlen] at hb
  exact hb
 rw [zG9 hx hlen] at p5
 generalize hgO:zIJ (zBR F args).2 (ys.map a.eval)=gO at *
 generalize hgI:ioB (zBR F args).2 (ys.map a.eval)=gI at *
 let ow1:Ow:=fun b=>if gO=some b then none else ow b
 let X:Tag→Prop:=fun t=>(∃ n,zBw args=some n∧t=.key n)∨∃ j base sz,zFc args=some (j,base,sz)∧t=.box j
 have hOX:∀ g t,gO=some g→ow g=some t→X t:=by
  intro g t hg ht
  obtain ⟨n,e',k',rows',h1,_,_,h4⟩:=r2 g hg
  rw [h4] at ht
  exact .inl ⟨n,h1,(Option.some.inj ht).symm⟩
 have hIX:∀ g t,gI=some g→ow g=some t→X t:=by
  intro g t hg ht
  obtain ⟨j,base,sz,h1,h2,h3,_⟩:=r4 g hg
  have hB:=h.boxes j _ h2
  rw [h3] at hB
  rw [hB.1] at ht
  exact .inr ⟨j,base,sz,h1,(Option.some.inj ht).symm⟩
 have hmfree:∀ g o,g < w.heap.size→gO≠some g→m' g o=m g o:=by
  intro g o hg hne
  cases hm:m' g o with
  |none=>
   cases hm2:m g o with
   |none=>rfl
   |some u=>rw [p1 g o u hm2] at hm;cases hm
  |some u=>
   rcases p4 g o u hm with h1|h1|h1
   ·exact h1.symm
   ·omega
   ·exact (hne h1).elim
 have st:Step X m m' w w' ow ow1:=by
  refine ⟨p1,fun g t hg hX=>?_⟩
  have hgl:=h.lt g t hg
  have n1:gO≠some g:=fun e'=>hX (hOX g t e' hg)
  have n2:gI≠some g:=fun e'=>hX (hIX g t e' hg)
  refine ⟨p3'.block g hgl ?_,fun o=>hmfree g o hgl n1,by simp only [ow1];rw [if_neg n1];exact hg⟩
  unfold zTT
  rw [hgO,hgI]
  rintro (h1|h1)
  ·exact n1 h1
  ·exact n2 h1
 have hgOown:∀ g,gO=some g→S.w0.heap.size≤g∨S.R0 g:=by
  intro g hg
  obtain ⟨n,_,_,_,_,_,_,h4⟩:=r2 g hg
  exact h.own g _ h4
 have hgIown:∀ g,gI=some g→S.w0.heap.size≤g∨S.R0 g:=by
  intro g hg
  obtain ⟨j,base,sz,h1,h2,h3,_⟩:=r4 g hg
  have hB:=h.boxes j _ h2
  rw [h3] at hB
  exact h.own g _ hB.1
 have hL:=h.lenF
 have hle:=wf.le
 have hF1:∀ i,(zEN F (zBw args)).getD i .un=if zBw args=some i then (match F.getD i .un with|.own _ k rows=>.pv (.one (.sl k rows))|c=>c) else F.getD i .un:=by
  intro i
  cases hok:zBw args with
  |none=>simp [zEN]
  |some n=>
   obtain ⟨hn,e',k',rows',hFn,_⟩:=r3 n hok
   simp only [zEN,hFn]
   rw [zAG (by omega)]
   by_cases hni:n=i
   ·subst hni
    rw [if_pos rfl,if_pos rfl,hFn]
   ·rw [if_neg hni,if_neg (by simpa using hni)]
 have hL1:(zEN F (zBw args)).length=F.length:=by
  cases hok:zBw args with
  |none=>rfl
  |some n=>simp only [zEN];split<;>simp
 have hslot:∀ i,i < E.N→(zAX F (Res.ioOf r) args).getD i .un=(zEN F (zBw args)).getD i .un:=by
  intro i hi
  unfold zAX
  cases hik:zFc args with
  |none=>rfl
  |some x=>
   obtain ⟨j,base,sz⟩:=x
   exact yJe wf (r5 j base sz hik).1 hi
 have hLd:(zAX F (Res.ioOf r) args).length=F.length:=by
  unfold zAX
  cases hik:zFc args with
  |none=>simpa [zJM] using hL1
  |some x=>obtain ⟨j,base,sz⟩:=x;simp only [zJM];rw [zA4,hL1]
 have hcell:∀ i,E.N≤i→(zEN F (zBw args)).getD i .un=F.getD i .un:=by
  intro i hi
  rw [hF1 i]
  rw [if_neg]
  intro hok
  have:=(r3 i hok).1
  omega
 refine ⟨m',ow1,gO,?_,p6,?_,hgOown,p3.size⟩
 ·refine h.step st hLd rfl rfl ?_ ?_ p2 (p3'.mono ?_) ?_ ?_ ?_
  ·intro i hi
   rw [hslot i hi,hF1 i]
   by_cases hok:zBw args=some i
   ·right
    rw [if_pos hok]
    obtain ⟨_,e',k',rows',hFn,_⟩:=r3 i hok
    have hrep:=h.slots i hi
    rw [hFn] at hrep ⊢
    exact RpV.mono (x:=.one (.sl k' rows')) p1 (OwnRep.rp hrep)
   ·left
    rw [if_neg hok]
    refine ⟨rfl,rfl,.inl ?_⟩
    rintro (⟨n,h1,h2⟩|⟨j,base,sz,h1,h2⟩)
    ·injection h2 with h2;subst h2;exact hok h1
    ·cases h2
  ·intro j bn hj
   have hlo:=wf.lo j bn hj
   have hxk:∀ o,o < bn.2→¬ X (.key (bn.1+o)):=by
    rintro o ho (⟨n,h1,h2⟩|⟨j',base,sz,h1,h2⟩)
    ·injection h2 with h2
     have:=(r3 n h1).1
     omega
    ·cases h2
   cases hik:zFc args with
   |none=>
    left
    refine ⟨?_,fun o ho=>⟨?_,hxk o ho⟩⟩
    ·rintro (⟨n,h1,h2⟩|⟨j',base,sz,h1,h2⟩)
     ·cases h2
     ·rw [hik] at h1;cases h1
    ·unfold zAX
     rw [hik]
     exact hcell _ (by omega)
   |some x=>
    obtain ⟨j2,base,sz⟩:=x
    obtain ⟨hj2,b,hb,hgb⟩:=r5 j2 base sz hik
    have hhi:=wf.hi j2 _ hj2
    simp only at hhi
    by_cases hjj:j=j2
    ·subst hjj
     rw [hj2] at hj
     injection hj with hj
     subst hj
     right
     rw [hb]
     have hB:=h.boxes j _ hj2
     rw [hb] at hB
     have hbo:ow b=some (.box j):=hB.1
     have hne:gO≠some b:=by
      intro e'
      obtain ⟨n,_,_,_,_,_,_,h4⟩:=r2 b e'
      rw [hbo] at h4
      cases h4
     obtain ⟨q1,cs,T,q2,q3,q4⟩:=p5 b hgb
     have hgb':ioB (zBR F args).2 (ys.map a.eval)=some b:=by rw [hgI];exact hgb
     have hio:=r4 b hgb
     obtain ⟨j3,base3,sz3,g1,g2,g3,g4⟩:=hio
     rw [hik] at g1
     simp only [Option.some.injEq,Prod.mk.injEq] at g1
     obtain ⟨rfl,rfl,rfl⟩:=g1
     rw [zGn hgb',g4] at q3
     refine ⟨by simp only [ow1];rw [if_neg hne];exact hbo,q1,cs,T,q2,q3,fun o ho=>?_⟩
     simp only at ho ⊢
     unfold zAX
     rw [hik]
     simp only [zJM]
     have hlen2:(zDF sz (Res.ioOf r)).length=sz:=by
      cases hior:Res.ioOf r with
      |none=>simp [zDF]
      |some l=>have hl:=q4 l hior;simp [zDF,←hl.length,q3]
     rw [zAr,hL1,hlen2,if_pos (by omega)]
     have e1:base+o-base=o:=by omega
     rw [e1]
     cases hior:Res.ioOf r with
     |none=>
      have:(zDF sz none).getD o .un=.un:=by simp [zDF,ho]
      rw [this]
      trivial
     |some l=>
      have hl:=q4 l hior
      have hll:l.length=sz:=by rw [←hl.length,Array.length_toList,q3]
      have hol:o < l.length:=by omega
      have hoc:o < cs.size:=by omega
      have e2:(zDF sz (some l)).getD o .un=.pv (.one l[o]):=by simp [zDF,hol,List.take_of_length_le (Nat.le_of_eq (show (l.map fun x=>Ct.pv (.one x)).length=sz by simp [hll]))]
      have e3:cs.getD o undef=cs[o]:=by simp [hoc]
      rw [e2,e3]
      exact hl.get o _ _ (List.getElem?_eq_getElem hol) (by simp [hoc])
    ·left
     have hap:=wf.ap j j2 _ _ hj hj2 hjj
     simp only at hap
     refine ⟨?_,fun o ho=>⟨?_,hxk o ho⟩⟩
     ·rintro (⟨n,h1,h2⟩|⟨j',base',sz',h1,h2⟩)
      ·cases h2
      ·rw [hik] at h1
       simp only [Option.some.injEq,Prod.mk.injEq] at h1
       injection h2 with h2
       exact hjj (by rw [h2,←h1.1])
     ·unfold zAX
      rw [hik]
      simp only [zJM]
      rw [zAr]
      have hll:(zDF sz (Res.ioOf r)).length≤sz:=by
       cases hior:Res.ioOf r with
       |none=>simp [zDF]
       |some l=>
        obtain ⟨q1,cs,T,q2,q3,q4⟩:=p5 b hgb
        have hl:=q4 l hior
        have hgb':ioB (zBR F args).2 (ys.map a.eval)=some b:=by rw [hgI];exact hgb
        obtain ⟨j3,base3,sz3,g1,g2,g3,g4⟩:=r4 b hgb
        rw [hik] at g1
        simp only [Option.some.injEq,Prod.mk.injEq] at g1
        obtain ⟨rfl,rfl,rfl⟩:=g1
        rw [zGn hgb',g4] at q3
        simp only [zDF,List.length_take];omega
      rw [if_neg (by omega)]
      exact hcell _ (by omega)
  ·rintro b hb (h1|h1)
   ·rw [hgO] at h1
    exact (hgOown b h1).symm
   ·rw [hgI] at h1
    exact (hgIown b h1).symm
  ·intro b t hb
   simp only [ow1] at hb
   split at hb
   ·cases hb
   ·exact h.own b t hb
  ·intro b t hb
   simp only [ow1] at hb
   split at hb
   ·cases hb
   ·exact Nat.lt_of_lt_of_le (h.lt b t hb) p3.size
  ·intro b o u hu
   rcases p4 b o u hu with h1|h1|h1
   ·exact .inl h1
   ·exact .inr (.inl (Nat.le_trans h.pres.size h1))
   ·exact .inr (hgOown b h1)
 ·rintro g (hg|hg)
  ·simp only [ow1]
   split
   ·rfl
   ·cases ho:ow g with
    |none=>rfl
    |some t=>have:=h.lt g t ho;omega
  ·simp only [ow1]
   rw [if_pos hg]
theorem ArgsRep.append:∀ {as bs:List AV} {us vs:List Value},ArgsRep m w as us→ArgsRep m w bs vs→ArgsRep m w (as++bs) (us++vs)
 |[],_,us,_,h,h2=>by simp only [ArgsRep] at h;subst h;exact h2
 |x::xs,bs,us,vs,h,h2=>by
  simp only [ArgsRep] at h
  obtain ⟨u,us',rfl,h3,h4⟩:=h
  exact ⟨u,us'++vs,rfl,h3,ArgsRep.append h4 h2⟩
theorem yLO:∀ {caps:List PV} {us:List Value},RpL m caps us→ArgsRep m w (caps.map fun c=>.val (.one c)) us
 |[],us,h=>by simp only [RpL] at h;subst h;rfl
 |x::xs,us,h=>by
  simp only [RpL] at h
  obtain ⟨u,us',rfl,h2,h3⟩:=h
  exact ⟨u,us',rfl,h2,yLO h3⟩
theorem yQY (wf:E.Wf) {m':Mem} {ow1:Ow} {F1:List Ct} {w':World} (h:InvG E S m' β ow1 F1 a w') {d e k:Nat} (hd:d < E.N) {rows:List (List PV)} {u:Value} (hu:OwnAt m' w' e k rows u) (hn:∀ g,u.ownBlock=some g→ow1 g=none∧(S.w0.heap.size≤g∨S.R0 g)):
  Inv E S (F1.set d (.own e k rows)) (a.put (some d) u) w':=by
 let ow2:Ow:=fun b=>if u.ownBlock=some b then some (.key d) else ow1 b
 have st:Step (fun _=>False) m' m' w' w' ow1 ow2:=by
  refine ⟨m'.le_refl,fun g t hg _=>⟨rfl,fun _=>rfl,?_⟩⟩
  simp only [ow2]
  rw [if_neg]
  ·exact hg
  ·intro e'
   rw [(hn g e').1] at hg
   cases hg
 have hult:∀ g,u.ownBlock=some g→g < w'.heap.size:=by
  intro g hg
  obtain ⟨xs,hx⟩:=hu.1
  exact (hx.lt g hg).2
 have h2:InvG E S m' β ow2 F1 a w':=by
  refine h.step st rfl rfl rfl (fun i _=>.inl ⟨rfl,rfl,.inl id⟩) (fun j bn _=>.inl ⟨id,fun o _=>⟨rfl,id⟩⟩) h.mem (Pres.refl _ _) ?_ ?_ (fun b o u hu=>.inl hu)
  ·intro b t hb
   simp only [ow2] at hb
   split at hb
   ·rename_i hb';exact (hn b hb').2
   ·exact h.own b t hb
  ·intro b t hb
   simp only [ow2] at hb
   split at hb
   ·rename_i hb';exact hult b hb'
   ·exact h.lt b t hb
 exact ⟨m',β,ow2,h2.slot wf hd (hu.rep fun g hg=>by simp [ow2,hg])⟩
theorem zFQ (wf:E.Wf) {m':Mem} {ow1:Ow} {F1:List Ct} {w':World} (h:InvG E S m' β ow1 F1 a w') {d:Nat} (hd:d < E.N) {x:OVal} {u:Value} {fp:List Nat} (hu:OvV m' w' x u fp) (hnd:fp.Nodup) (hn:∀ g∈fp,ow1 g=none∧(S.w0.heap.size≤g∨S.R0 g)∧g < w'.heap.size∧∀ o,m' g o=none):
  Inv E S (F1.set d (.ov x)) (a.put (some d) u) w':=by
 let ow2:Ow:=fun b=>if b∈fp then some (.key d) else ow1 b
 have st:Step (fun _=>False) m' m' w' w' ow1 ow2:=by
  refine ⟨m'.le_refl,fun g t hg _=>⟨rfl,fun _=>rfl,?_⟩⟩
  simp only [ow2]
  rw [if_neg]
  ·exact hg
  ·intro e'
   rw [(hn g e').1] at hg
   cases hg
 have h2:InvG E S m' β ow2 F1 a w':=by
  refine h.step st rfl rfl rfl (fun i _=>.inl ⟨rfl,rfl,.inl id⟩) (fun j bn _=>.inl ⟨id,fun o _=>⟨rfl,id⟩⟩) h.mem (Pres.refl _ _) ?_ ?_ (fun b o u hu=>.inl hu)
  ·intro b t hb
   simp only [ow2] at hb
   split at hb
   ·rename_i hb';exact (hn b hb').2.1
   ·exact h.own b t hb
  ·intro b t hb
   simp only [ow2] at hb
   split at hb
   ·rename_i hb';exact (hn b hb').2.2.1
   ·exact h.lt b t hb
 exact ⟨m',β,ow2,h2.slot wf hd ⟨fp,hu,hnd,fun g hg=>⟨by simp [ow2,hg],(hn g hg).2.2.2⟩⟩⟩
theorem OvV.lt {x:OVal} {u:Value} {fp:List Nat} (h:OvV m w x u fp):∀ g∈fp,g < w.heap.size:=by
 cases x with
 |one x=>exact OvR.lt x u fp h
 |agg cs=>obtain ⟨us,_,h2⟩:=h;exact OvL.lt cs us fp h2
theorem yJf (wf:E.Wf) (h:InvG E S m β ow F a w) {d:Option Nat} {f:FuncId} {args:List (Opd×AM)} {ys:List Operand} {extra:List AV} {us2:List Value} {o:Oper} (hd:zAY E.N d o.dst=true) (hk:zJk E args ys=true) (hx:∀ x∈extra,∃ p,x=.val p) (hr2:ArgsRep m w extra us2)
  (hop:(execOp a.eval o).run P w=.ok (.enter f (ys.map a.eval++us2).toArray) w) {K:List Ct→Prop} {X:Value→List Ct→Prop} {Q:Exit→Act→World→Prop} (hQ:∀ v F' a' w',X v F'→Inv E S F' a' w'→Q (.panic [{v,recovered:=false}]) a' w')
  (hW:zQP P f ((zBR F args).1,(zBR F args).2++extra) (fun io=>zAX F io args) d K X):o.wp P a w (zFb E S K) Q:=by
 obtain ⟨hc,r,hcon,hres⟩:=hW
 simp only at hc hcon
 obtain ⟨r1,r2,r3,r4,r5⟩:=zFt h hk hc
 have hlen:=r1.length
 have hdist:∀ g,zIJ ((zBR F args).2++extra) (ys.map a.eval++us2)=some g→ioB ((zBR F args).2++extra) (ys.map a.eval++us2)≠some g:=by
  intro g hg hi
  rw [zFP hx hlen] at hg
  rw [zG9 hx hlen] at hi
  obtain ⟨n,_,_,_,_,_,_,h4⟩:=r2 g hg
  obtain ⟨j,base,sz,_,g2,g3,_⟩:=r4 g hi
  have hB:=h.boxes j _ g2
  rw [g3] at hB
  rw [hB.1] at h4
  cases h4
 have hcalls:=hcon.2 m w (ys.map a.eval++us2) h.mem (r1.append hr2) hdist h.glob (by
  rintro b (hb|hb)
  ·rw [zFP hx hlen] at hb
   obtain ⟨n,_,_,_,_,_,_,h4⟩:=r2 b hb
   exact h.gown h4
  ·rw [zG9 hx hlen] at hb
   obtain ⟨j,base,sz,_,g2,g3,_⟩:=r4 b hb
   have hB:=h.boxes j _ g2
   rw [g3] at hB
   exact h.gown hB.1)
 unfold Oper.wp
 rw [hop]
 refine Calls.mono hcalls fun e w' hp=>?_
 obtain ⟨m',ow1,ob,hI,hR,hn,hobS,hsz⟩:=yNd wf h hk hc hx hp
 have hput:∀ {F1:List Ct} {c:Ct} {u:Value},InvG E S m' β ow1 F1 a w'→(∀ d',d=some d'→CtRep m' w' β ow1 d' c u)→Inv E S (yCo F1 d c) (a.put o.dst u) w':=by
  intro F1 c u hI' hc'
  cases d with
  |none=>
   have:o.dst=none:=by
    cases hdd:o.dst with
    |none=>rfl
    |some x=>rw [hdd] at hd;simp [zAY] at hd
   rw [this]
   exact ⟨m',β,ow1,hI'⟩
  |some d'=>
   obtain ⟨h1,h2⟩:=zAp hd
   rw [h1]
   exact ⟨m',β,ow1,hI'.slot wf h2 (hc' d' rfl)⟩
 cases hrr:r.res with
 |pan v=>
  rw [hrr] at hR hres
  simp only [yBh] at hR
  subst hR
  simp only [Res.ioOf,hrr] at hI
  exact hQ v _ a w' hres ⟨m',β,ow1,hI⟩
 |val x=>
  rw [hrr] at hR hres
  obtain ⟨u,rfl,hu⟩:=hR
  simp only [Res.ioOf,hrr] at hI
  refine ⟨_,hres,?_⟩
  exact hput hI fun _ _=>hu
 |tup xs=>
  rw [hrr] at hR hres
  obtain ⟨us,rfl,hu⟩:=hR
  simp only [Res.ioOf,hrr] at hI
  refine ⟨_,hres,?_⟩
  cases xs with
  |nil=>exact hput hI fun _ _=>trivial
  |cons x xs=>exact hput hI fun _ _=>⟨us,rfl,hu⟩
 |ov x=>
  rw [hrr] at hR hres
  obtain ⟨u,fp,rfl,hu,hnd,hg⟩:=hR
  simp only [Res.ioOf,hrr] at hI
  refine ⟨_,hres,?_⟩
  cases d with
  |none=>exact hput hI (c:=.un) fun _ h'=>by cases h'
  |some d'=>
   obtain ⟨h1,h2⟩:=zAp hd
   rw [h1]
   exact zFQ wf hI h2 hu hnd fun g hg'=>⟨hn g (.inl (hg g hg').1),.inl (Nat.le_trans h.pres.size (hg g hg').1),hu.lt g hg',(hg g hg').2⟩
 |own e' k rows=>
  rw [hrr] at hR hres
  obtain ⟨u,rfl,hu,hg⟩:=hR
  simp only [Res.ioOf,hrr] at hI
  refine ⟨_,hres,?_⟩
  cases d with
  |none=>exact hput hI (c:=.un) fun _ h'=>by cases h'
  |some d'=>
   obtain ⟨h1,h2⟩:=zAp hd
   rw [h1]
   refine yQY wf hI h2 hu fun g hg'=>⟨hn g (hg g hg'),?_⟩
   rcases hg g hg' with h3|h3
   ·exact .inl (Nat.le_trans h.pres.size h3)
   ·exact hobS g h3
end
end Go.Hx
end
