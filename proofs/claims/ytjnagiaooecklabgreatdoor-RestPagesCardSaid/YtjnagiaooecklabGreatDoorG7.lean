/-
 THE ABSTRACT LAYER: operations on owned maps are sound. Generic over the program. No condition.
-/
import Derived.Test.YtjnagiaooecklabGreatDoorG6
import Derived.MapKept
import Derived.Laws.OwnMore
set_option linter.all false
namespace Go.Hx
open Go.RowKit
variable [Glob]
section
variable {P:Program} {E:Env} {S:Start} {m:Mem} {β:Bx} {ow:Ow} {F:List Ct} {a:Act} {w:World}
theorem yBi {x:Value} (h:(∃ n,x=.int .i64 n)∨∃ s,x=.string s):zTO x x=true:=by
 rcases h with ⟨n,rfl⟩|⟨s,rfl⟩<;>simp [zTO]
theorem zDa {v:Value} {kk:Nat} (h:zTW v=kk) (hk:kk≠0):(kk=1∧∃ n,v=.int .i64 n)∨(kk=2∧∃ s,v=.string s)∨(kk=3∧∃ n s,v=.agg #[.int .i64 n,.string s]):=by
 unfold zTW at h
 split at h
 ·exact .inl ⟨h.symm,_,rfl⟩
 ·exact .inr (.inl ⟨h.symm,_,rfl⟩)
 ·rename_i cs
  split at h
  ·rename_i n s e
   refine .inr (.inr ⟨h.symm,n,s,?_⟩)
   congr 1
   rw [←Array.toArray_toList (xs:=cs),e]
  ·exact (hk h.symm).elim
 ·exact (hk h.symm).elim
theorem yLQ {a b:Value} (h:zGH a b=true):a=b:=by
 unfold zGH at h
 split at h
 ·rename_i x y
  split at h
  ·rename_i p q p' q' e1 e2
   simp only [Bool.and_eq_true] at h
   have h1:=zTj h.1
   have h2:=zTj h.2
   subst h1;subst h2
   congr 1
   rw [←Array.toArray_toList (xs:=x),←Array.toArray_toList (xs:=y),e1,e2]
  ·cases h
 ·exact zTj h
theorem zOD (a b:ByteArray):(a==b)=true↔a=b:=by
 obtain ⟨x⟩:=a
 obtain ⟨y⟩:=b
 constructor
 ·intro h
  have e:x=y:=by simpa using (show (x==y)=true from h)
  rw [e]
 ·intro h
  cases h
  show (x==x)=true
  simp
theorem yTB (p q:ByteArray):(p==q)=decide (bys p=bys q):=by
 by_cases h:p=q
 ·subst h
  rw [decide_eq_true rfl]
  exact (zOD p p).2 rfl
 ·have h1:¬ bys p=bys q:=by
   intro hc
   apply h
   have:p.data=q.data:=by
    have e:p.data.toList=q.data.toList:=hc
    exact Array.toList_inj.1 e
   cases p;cases q;simp_all
  rw [decide_eq_false h1]
  cases hb:(p==q) with
  |false=>rfl
  |true=>exact (h ((zOD p q).1 hb)).elim
theorem zMP {t:TypeId} (h:zCT P t [0,2]=true):∃ f1 f2 k,P.underlying t=some (.struct #[f1,f2])∧f1.offset=0∧f2.offset=1∧f1.name ≠ "_" ∧ f2.name ≠ "_" ∧ P.underlying f1.type=some (.int k)∧P.underlying f2.type=some .string:=by
 unfold zCT at h
 split at h
 ·rename_i fs hu
  simp only [Bool.and_eq_true] at h
  have h1:=h.1.1
  match hl:fs.toList,h1 with
  |[f1,f2],h1=>
   simp only [zCS,Bool.and_eq_true,beq_iff_eq,bne_iff_ne] at h1
   obtain ⟨⟨⟨a1,a2⟩,a3⟩,⟨⟨b1,b2⟩,b3⟩,_⟩:=h1
   simp only [yGA] at a3 b3
   split at a3
   ·rename_i k hk
    unfold zLr at b3
    split at b3
    ·rename_i hs
     have hfs:fs=#[f1,f2]:=by rw [←Array.toArray_toList (xs:=fs),hl]
     exact ⟨f1,f2,k,by rw [hu,hfs],a1,b1,a2,b2,hk,hs⟩
    ·cases b3
   ·cases a3
  |[],h1=>simp [zCS] at h1
  |[_],h1=>simp [zCS] at h1
  |_::_::_::_,h1=>simp [zCS] at h1
 ·cases h
theorem yNe {t:TypeId} (h:zCT P t [0,2]=true) (n:Int) (s:ByteArray) (n':Int) (s':ByteArray) (hs:zFI (.string s)=true) (hs':zFI (.string s')=true):
  (Op.equal t (.agg #[.int .i64 n,.string s]) (.agg #[.int .i64 n',.string s'])).run P w=.ok (zGH (.agg #[.int .i64 n,.string s]) (.agg #[.int .i64 n',.string s'])) w:=by
 have hf:=h
 unfold zCT at hf
 split at hf
 ·rename_i fs hu
  simp only [Bool.and_eq_true,Bool.not_eq_true'] at hf
  obtain ⟨⟨hf1,hf2⟩,hf3⟩:=hf
  have hfo:P.fieldsOf t=fs:=by simp [Program.fieldsOf,hu]
  simp only [Op.equal,Op.maxDepth]
  rw [run_equalIn_struct w 9999 t _ _ (by rw [hfo];exact hu) hf2,hfo]
  have hm:Mem.le (fun _ _=>none) (fun _ _=>none):=Mem.le_refl _
  have:=zJL (m:=fun _ _=>none) (w:=w) (P:=P) 9998 [0,2] fs.toList [.v (.int .i64 n),.v (.string s)] [.v (.int .i64 n'),.v (.string s')] 0 #[.int .i64 n,.string s] #[.int .i64 n',.string s'] hf1 (by simp [zAm]) (by
   intro j x hx
   match j,hx with
   |0,hx=>simp at hx;subst hx;exact ⟨_,rfl,rfl,rfl⟩
   |1,hx=>simp at hx;subst hx;exact ⟨_,rfl,rfl,hs⟩
   |j+2,hx=>simp at hx) (by
   intro j x hx
   match j,hx with
   |0,hx=>simp at hx;subst hx;exact ⟨_,rfl,rfl,rfl⟩
   |1,hx=>simp at hx;subst hx;exact ⟨_,rfl,rfl,hs'⟩
   |j+2,hx=>simp at hx)
  rw [this]
  simp [zAm,zGH,zTO,bys]
  rw [Bool.eq_iff_iff]
  simp
 ·cases hf
theorem zT2 {ks us:List Value} (h:us.length=ks.length):(zBc ks us).toList.map (·.key)=ks:=by
 simp only [zBc,List.map_map]
 have:((fun x:MapEntry=>x.key)∘fun x:(Value×Value)×Nat=>({key:=x.1.1,val:=x.1.2,born:=x.2}:MapEntry))=Prod.fst∘Prod.fst:=rfl
 rw [this,←List.map_map,List.zipIdx_map_fst]
 exact List.map_fst_zip (by omega)
theorem zEP {ks us:List Value} (h:us.length=ks.length) {i:Nat} (hi:i < ks.length):(zBc ks us)[i]?=some {key:=ks.getD i default,val:=us.getD i default,born:=i}:=by
 simp [zBc,List.getElem?_zipIdx,List.getElem?_zip_eq_some,hi,h]
theorem zIN {ks us:List Value} (h:us.length=ks.length):(zBc ks us).size=ks.length:=by simp [zBc,h]
theorem yJh {ks us:List Value} (h:us.length=ks.length) (k v:Value):(zBc ks us).push {key:=k,val:=v,born:=ks.length}=zBc (ks++[k]) (us++[v]):=by
 simp only [zBc,List.push_toArray]
 congr 1
 rw [List.zip_append (by omega),List.zipIdx_append,List.map_append]
 simp [h]
theorem yCv {ks us:List Value} (h:us.length=ks.length) {i:Nat} (hi:i < ks.length) {k:Value} (hk:ks.getD i default=k) (v:Value):
  (zBc ks us).modify i (fun e=>{e with key:=k,val:=v})=zBc ks (us.set i v):=by
 apply Array.ext_getElem?
 intro j
 rw [Array.getElem?_modify]
 by_cases hj:j < ks.length
 ·rw [zEP h hj,zEP (by simpa using h) hj]
  split
  ·rename_i e
   subst e
   rw [hk]
   simp [hi,h]
  ·rename_i e
   simp [e,List.getElem?_set]
 ·rw [Array.getElem?_eq_none (by rw [zIN h];omega),Array.getElem?_eq_none (by rw [zIN (by simpa using h)];omega)]
  simp
theorem zQc {t:TypeId} {kk:Nat} (h:zLs P t kk=true):(kk=1∧P.underlying t=some (.int .i64))∨(kk=2∧P.underlying t=some .string)∨(kk=3∧zCT P t [0,2]=true):=by
 unfold zLs at h
 split at h
 ·unfold ySx at h
  split at h
  ·rename_i k' hu
   have:IntKind.i64=k':=by simpa using h
   subst this
   exact .inl ⟨rfl,hu⟩
  ·cases h
 ·unfold zLr at h
  split at h
  ·rename_i hu;exact .inr (.inl ⟨rfl,hu⟩)
  ·cases h
 ·exact .inr (.inr ⟨rfl,h⟩)
 ·cases h
theorem yLR {n:Int}:∀ (l:List MapEntry) (i:Nat),(∀ e∈l,zTW e.key=1)→Instr.findNow (.int .i64) (.int .i64 n) l i=some ((l.findIdx? fun e=>zGH (.int .i64 n) e.key).map fun j=>(i+j,(l.getD j default).val))
 |[],i,_=>rfl
 |e::l,i,h=>by
  obtain ⟨n',hn⟩:∃ n',e.key=.int .i64 n':=by
   rcases zDa (h e List.mem_cons_self) (by decide) with ⟨_,h1⟩|⟨h1,_⟩|⟨h1,_⟩
   ·exact h1
   ·cases h1
   ·cases h1
  have ih:=yLR l (i+1) (fun x hx=>h x (List.mem_cons_of_mem _ hx)) (n:=n)
  have hs:Instr.sameNow (.int .i64) (.int .i64 n) e.key=some (decide (n=n')):=by rw [hn];simp [Instr.sameNow];rfl
  have hk:zGH (.int .i64 n) e.key=decide (n=n'):=by rw [hn];simp [zGH,zTO]
  rw [List.findIdx?_cons,hk]
  simp only [Instr.findNow,hs]
  by_cases hnn:n=n'
  ·simp [hnn]
  ·simp only [decide_eq_false hnn,Bool.false_eq_true,if_false,ih,Option.map_map]
   congr 1
   cases List.findIdx? (fun e=>zGH (.int .i64 n) e.key) l with
   |none=>rfl
   |some j=>simp;omega
theorem yLS {s:ByteArray}:∀ (l:List MapEntry) (i:Nat),(∀ e∈l,zTW e.key=2)→Instr.findNow .string (.string s) l i=some ((l.findIdx? fun e=>zGH (.string s) e.key).map fun j=>(i+j,(l.getD j default).val))
 |[],i,_=>rfl
 |e::l,i,h=>by
  obtain ⟨s',hn⟩:∃ s',e.key=.string s':=by
   rcases zDa (h e List.mem_cons_self) (by decide) with ⟨h1,_⟩|⟨_,h1⟩|⟨h1,_⟩
   ·cases h1
   ·exact h1
   ·cases h1
  have ih:=yLS l (i+1) (fun x hx=>h x (List.mem_cons_of_mem _ hx)) (s:=s)
  have hs:Instr.sameNow .string (.string s) e.key=some (decide (bys s=bys s')):=by rw [hn];simp only [Instr.sameNow,yTB]
  have hk:zGH (.string s) e.key=decide (bys s=bys s'):=by rw [hn];simp [zGH,zTO,bys]
  rw [List.findIdx?_cons,hk]
  simp only [Instr.findNow,hs]
  by_cases hnn:bys s=bys s'
  ·simp [hnn]
  ·simp only [decide_eq_false hnn,Bool.false_eq_true,if_false,ih,Option.map_map]
   congr 1
   cases List.findIdx? (fun e=>zGH (.string s) e.key) l with
   |none=>rfl
   |some j=>simp;omega
theorem zT3 {t:TypeId} (ht:zCT P t [0,2]=true) {n:Int} {s:ByteArray} (hs:zFI (.string s)=true):∀ (l:List MapEntry) (i:Nat),(∀ e∈l,zTW e.key=3∧zIK e.key=true)→
  (Instr.findAsking t (.agg #[.int .i64 n,.string s]) l i).run P w=.ok ((l.findIdx? fun e=>zGH (.agg #[.int .i64 n,.string s]) e.key).map fun j=>(i+j,(l.getD j default).val)) w
 |[],i,_=>rfl
 |e::l,i,h=>by
  obtain ⟨n',s',hn⟩:∃ n' s',e.key=.agg #[.int .i64 n',.string s']:=by
   rcases zDa (h e List.mem_cons_self).1 (by decide) with ⟨h1,_⟩|⟨h1,_⟩|⟨_,h1⟩
   ·cases h1
   ·cases h1
   ·exact h1
  have hs':zFI (.string s')=true:=by
   have:=(h e List.mem_cons_self).2
   rw [hn] at this
   simp [zIK] at this
   exact this.2
  have ih:=zT3 ht hs l (i+1) (fun x hx=>h x (List.mem_cons_of_mem _ hx)) (n:=n)
  have hr:=yNe (w:=w) ht n s n' s' hs hs'
  rw [←hn] at hr
  rw [List.findIdx?_cons]
  simp only [Instr.findAsking,Sem.run_bind,hr,Result.andThen_ok]
  cases hk:zGH (.agg #[.int .i64 n,.string s]) e.key with
  |true=>simp
  |false=>
   simp only [Bool.false_eq_true,if_false,ih,Option.map_map]
   congr 1
   cases List.findIdx? (fun e=>zGH (.agg #[.int .i64 n,.string s]) e.key) l with
   |none=>rfl
   |some j=>simp;omega
theorem ySL {kt:TypeId} {d:TypeDesc} {k:Value} {l:List MapEntry} {a:Option (Nat×Value)} (hd:P.underlying kt=some d) (h:Instr.findNow d k l 0=some a):(Instr.findKey kt k l).run P w=.ok a w:=by
 simp [Instr.findKey,run_underlying hd,Result.andThen,h]
theorem yLT {t:TypeId} {kk:Nat} (ht:zLs P t kk=true) {ks us:List Value} (hl:us.length=ks.length) {k:Value} (hk:zTW k=kk) (hf:zIK k=true) (hks:∀ q∈ks,zTW q=kk) (hfs:∀ q∈ks,zIK q=true):
  (Instr.findKey t k (zBc ks us).toList).run P w=.ok ((zQO ks k).map fun j=>(j,us.getD j default)) w:=by
 have hkeys:∀ e∈(zBc ks us).toList,zTW e.key=kk∧zIK e.key=true:=by
  intro e he
  have:e.key∈ks:=by rw [←zT2 hl];exact List.mem_map_of_mem he
  exact ⟨hks _ this,hfs _ this⟩
 have hix:(zBc ks us).toList.findIdx? (fun e=>zGH k e.key)=zQO ks k:=by
  unfold zQO
  conv=>rhs;rw [←zT2 hl]
  rw [List.findIdx?_map]
  rfl
 have hval:∀ j,zQO ks k=some j→((zBc ks us).toList.getD j default).val=us.getD j default:=by
  intro j hj
  have hj':j < ks.length:=by
   unfold zQO at hj
   exact (List.findIdx?_eq_some_iff_getElem.1 hj).1
  have:=zEP hl hj'
  rw [List.getD_eq_getElem?_getD,Array.getElem?_toList,this]
  rfl
 have hfin:((zBc ks us).toList.findIdx? (fun e=>zGH k e.key)).map (fun j=>(0+j,((zBc ks us).toList.getD j default).val))=(zQO ks k).map fun j=>(j,us.getD j default):=by
  rw [hix]
  cases hj:zQO ks k with
  |none=>rfl
  |some j=>simp only [Option.map_some,hval j hj,Nat.zero_add]
 rcases zQc ht with ⟨rfl,hu⟩|⟨rfl,hu⟩|⟨rfl,hu⟩
 ·obtain ⟨n,rfl⟩:∃ n,k=.int .i64 n:=by
   rcases zDa hk (by decide) with ⟨_,h1⟩|⟨h1,_⟩|⟨h1,_⟩
   ·exact h1
   ·cases h1
   ·cases h1
  rw [ySL hu (yLR _ 0 fun e he=>(hkeys e he).1),hfin]
 ·obtain ⟨s,rfl⟩:∃ s,k=.string s:=by
   rcases zDa hk (by decide) with ⟨h1,_⟩|⟨_,h1⟩|⟨h1,_⟩
   ·cases h1
   ·exact h1
   ·cases h1
  rw [ySL hu (yLS _ 0 fun e he=>(hkeys e he).1),hfin]
 ·obtain ⟨n,s,rfl⟩:∃ n s,k=.agg #[.int .i64 n,.string s]:=by
   rcases zDa hk (by decide) with ⟨h1,_⟩|⟨h1,_⟩|⟨_,h1⟩
   ·cases h1
   ·cases h1
   ·exact h1
  have hs:zFI (.string s)=true:=by simp [zIK] at hf;exact hf.2
  obtain ⟨f1,f2,kd,hu2,_⟩:=zMP hu
  have hA:=zT3 (w:=w) hu hs (zBc ks us).toList 0 hkeys (n:=n)
  rw [hfin] at hA
  unfold Instr.findKey
  simp only [Sem.run_bind,run_underlying hu2,Result.andThen_ok]
  cases hl2:(zBc ks us).toList with
  |nil=>
   rw [hl2] at hA
   simp only [Instr.findNow]
   simpa [Instr.findAsking] using hA
  |cons e l=>
   rw [hl2] at hA
   obtain ⟨n',s',hn⟩:∃ n' s',e.key=.agg #[.int .i64 n',.string s']:=by
    rcases zDa (hkeys e (by rw [hl2];exact List.mem_cons_self)).1 (by decide) with ⟨h1,_⟩|⟨h1,_⟩|⟨_,h1⟩
    ·cases h1
    ·cases h1
    ·exact h1
   have:Instr.findNow (.struct #[f1,f2]) (.agg #[.int .i64 n,.string s]) (e::l) 0=none:=by
    simp only [Instr.findNow,hn,Instr.sameNow]
   simp only [this]
   exact hA
theorem yGF {t:TypeId} {kk:Nat} (ht:zLs P t kk=true) {k:Value} (hk:zTW k=kk) (em:Bool) (n:Nat):(Instr.checkKey em (n+2) t k).run P w=.ok () w:=by
 rcases zQc ht with ⟨rfl,hu⟩|⟨rfl,hu⟩|⟨rfl,hu⟩
 ·obtain ⟨n,rfl⟩:∃ n,k=.int .i64 n:=by
   rcases zDa hk (by decide) with ⟨_,h1⟩|⟨h1,_⟩|⟨h1,_⟩
   ·exact h1
   ·cases h1
   ·cases h1
  unfold Instr.checkKey
  simp only [Sem.run_bind,run_underlying hu,Result.andThen_ok]
  rfl
 ·obtain ⟨s,rfl⟩:∃ s,k=.string s:=by
   rcases zDa hk (by decide) with ⟨h1,_⟩|⟨_,h1⟩|⟨h1,_⟩
   ·cases h1
   ·exact h1
   ·cases h1
  unfold Instr.checkKey
  simp only [Sem.run_bind,run_underlying hu,Result.andThen_ok]
  rfl
 ·obtain ⟨m,s,rfl⟩:∃ n s,k=.agg #[.int .i64 n,.string s]:=by
   rcases zDa hk (by decide) with ⟨h1,_⟩|⟨h1,_⟩|⟨_,h1⟩
   ·cases h1
   ·cases h1
   ·exact h1
  obtain ⟨f1,f2,kd,hu2,o1,o2,n1,n2,t1,t2⟩:=zMP hu
  unfold Instr.checkKey
  simp [run_underlying hu2,Result.andThen,o1,o2,n1,n2,part,isAgg,run_underlying t1,run_underlying t2,Instr.checkKey]
theorem OvL.put {vs:List OV} {us:List Value} {f:List Nat} (h:OvL m w vs us f) {i:Nat} (hi:i < vs.length):
  ∃ u f1 fx f2,f=f1++(fx++f2)∧us.getD i default=u∧OvR m w (vs.getD i .hole) u fx∧
   ∀ (w':World) (y:OV) (v:Value) (fy:List Nat),(∀ g∈f1++f2,w'.heap[g]?=w.heap[g]?)→OvR m w' y v fy→OvL m w' (vs.set i y) (us.set i v) (f1++(fy++f2)):=by
 have e:vs=vs.take i++vs.getD i .hole::vs.drop (i+1):=by
  rw [List.getD_eq_getElem?_getD,List.getElem?_eq_getElem hi,Option.getD_some,←List.drop_eq_getElem_cons hi,List.take_append_drop]
 have hlen:=h.length
 rw [e] at h
 obtain ⟨us1,u,us2,f1,fx,f2,rfl,rfl,h1,h2,h3,h4⟩:=h.mid
 have hl:us1.length=i:=by rw [h1,List.length_take];omega
 refine ⟨u,f1,fx,f2,rfl,?_,h3,fun w' y v fy hw hy=>?_⟩
 ·rw [List.getD_eq_getElem?_getD,List.getElem?_append_right (by omega),hl]
  simp
 ·have e2:vs.set i y=vs.take i++y::vs.drop (i+1):=by rw [List.set_eq_take_append_cons_drop,if_pos hi]
  have e3:(us1++u::us2).set i v=us1++v::us2:=by
   rw [List.set_append_right _ _ (by omega),hl,Nat.sub_self,List.set_cons_zero]
  rw [e2,e3]
  exact OvL.mid_mk (OvL.congr m.le_refl _ _ _ (fun g hg=>hw g (List.mem_append_left _ hg)) h2) hy (OvL.congr m.le_refl _ _ _ (fun g hg=>hw g (List.mem_append_right _ hg)) h4)
theorem yQ1 {p:PVal} {kv u:Value} (h:RpV m p u) (hk:yNb p=some kv):u=kv∧zIK kv=true:=by
 unfold yNb at hk
 split at hk
 ·rename_i x
  injection hk with hk
  subst hk
  obtain ⟨rfl,hf⟩:=h
  refine ⟨rfl,?_⟩
  cases u<;>first|exact hf|(simp [zFI] at hf)
 ·rename_i x y
  injection hk with hk
  subst hk
  obtain ⟨us,rfl,hr⟩:=h
  simp only [RpL,Rp] at hr
  obtain ⟨u1,us1,rfl,⟨rfl,h1⟩,u2,us2,rfl,⟨rfl,h2⟩,rfl⟩:=hr
  exact ⟨rfl,by simp [zIK,h1,h2]⟩
 ·cases hk
theorem yBj (h:InvG E S m β ow F a w) {x:Opd} {x':Operand} (hx:zAk E.N x x'=true) {b:Nat} (hb:zYn F x=some b):a.eval x'=.map (some b):=by
 unfold zYn at hb
 split at hb
 ·rename_i b' e
  injection hb with hb
  subst hb
  obtain ⟨n,rfl,hn,hs⟩:=zBu h hx e (by intro p;simp)
  exact hs
 ·rename_i b' ks vs e
  injection hb with hb
  subst hb
  obtain ⟨n,rfl,hn,fp,hs,_⟩:=zBu h hx e (by intro p;simp)
  have hs':OvR m w (.mp b' ks vs) (a.eval x') fp:=hs
  simp only [OvR] at hs'
  obtain ⟨us,f,h1,_⟩:=hs'
  exact h1
 ·cases hb
theorem yGG (h:InvG E S m β ow F a w) {x k:Opd} {x' k':Operand} {r kk:Nat} (hr:r < E.N) (hx:zAk E.N x x'=true) (hk:zAk E.N k k'=true) {K:Nat→List Value→List OV→Value→Prop} (hW:zYo F x r kk k K):
  ∃ b ks vs us f,a.eval x'=.map (some b)∧zTW (a.eval k')=kk∧zIK (a.eval k')=true∧(∀ q∈ks,zTW q=kk)∧F.getD r .un=.ov (.one (.mp b ks vs))∧a.tmps.getD r undef=.map (some b)∧
   w.heap[b]?=some (.map (zBc ks us) ks.length)∧us.length=ks.length∧OvL m w vs us f∧(b::f).Nodup∧(∀ g∈b::f,ow g=some (.key r)∧∀ o,m g o=none)∧(∀ q∈ks,zIK q=true)∧K b ks vs (a.eval k'):=by
 unfold zYo at hW
 split at hW
 ·rename_i b b' ks vs p e1 e2 e3
  split at hW
  ·rename_i kv e4
   obtain ⟨rfl,h1,h2,h3,h4⟩:=hW
   have hrp:=(zBd h hk h1 e3).norm
   obtain ⟨e5,e6⟩:=yQ1 hrp e4
   have hs:=h.slots r hr
   rw [e2] at hs
   obtain ⟨fp,g1,g2,g3⟩:=hs
   have g1':OvR m w (.mp b' ks vs) (a.tmps.getD r undef) fp:=g1
   simp only [OvR] at g1'
   obtain ⟨us,f,q1,q2,q3,q4,rfl,q5⟩:=g1'
   exact ⟨b',ks,vs,us,f,yBj h hx e1,by rw [e5];exact h2,by rw [e5];exact e6,h3,e2,q1,q2,q3,q4,g2,g3,q5,by rw [e5];exact h4⟩
  ·exact hW.elim
 ·exact hW.elim
theorem yLU {t:TypeId} {kk:Nat} (h:yJc P t kk=true):∃ kt et,P.underlying t=some (.map kt et)∧zLs P kt kk=true:=by
 unfold yJc at h
 split at h
 ·rename_i kt et hu;exact ⟨kt,et,hu,h⟩
 ·cases h
theorem yGH {k:Value} {kk:Nat} (hk:zTW k=kk) (h0:kk≠0) (n:Nat):Instr.sameBits (n+2) k k=true:=by
 rcases zDa hk h0 with ⟨_,n,rfl⟩|⟨_,s,rfl⟩|⟨_,n,s,rfl⟩<;>simp [Instr.sameBits,(zOD _ _).2]
def zEi (w:World) (b:Nat) (o:Obj):World:={w with heap:=w.heap.setIfInBounds b o}
theorem yBk {o o':Obj} {b:Nat} (h:w.heap[b]?=some o):(zEi w b o').heap[b]?=some o':=by
 have hlt:b < w.heap.size:=(Array.getElem?_eq_some_iff.1 h).1
 simp [zEi,hlt]
theorem zMQ {o':Obj} {b g:Nat} (h:g≠b):(zEi w b o').heap[g]?=w.heap[g]?:=by
 simp [zEi,Ne.symm h]
theorem yCw (o':Obj) (b:Nat):w.grownBy (zEi w b o') (some b):=
 ⟨rfl,rfl,rfl,by simp [zEi],fun g _ hg=>zMQ (by simpa using hg)⟩
theorem yTC {t kt et:TypeId} {kk b:Nat} (hu:P.underlying t=some (.map kt et)) (ht:zLs P kt kk=true) (h0:kk≠0) {ks us:List Value} (hb:w.heap[b]?=some (.map (zBc ks us) ks.length)) (hl:us.length=ks.length) {k v:Value} (hk:zTW k=kk) (hf:zIK k=true) (hks:∀ q∈ks,zTW q=kk) (hfs:∀ q∈ks,zIK q=true):
  (Instr.mapUpdate t (.map (some b)) k v).run P w=.ok () (zEi w b (match zQO ks k with|some i=>.map (zBc ks (us.set i v)) ks.length|none=>.map (zBc (ks++[k]) (us++[v])) (ks++[k]).length)):=by
 have hg:(getObj b).run P w=.ok (.map (zBc ks us) ks.length) w:=by simp [getObj,Sem.run,hb]
 have hs:∀ o,(setObj b o).run P w=.ok () (zEi w b o):=by intro o;simp [setObj,Sem.run,hb,zEi]
 have hc:=yGF (w:=w) ht hk false 9998
 have hfd:=yLT (w:=w) ht hl hk hf hks hfs
 unfold Instr.mapUpdate
 simp only [Sem.run_bind,run_underlying hu,Result.andThen_ok,hg,hc,hfd]
 cases hi:zQO ks k with
 |none=>
  simp only [Option.map_none,yJh hl,hs,List.length_append,List.length_cons,List.length_nil]
 |some i=>
  have hil:i < ks.length∧zGH k (ks.getD i default)=true:=by
   unfold zQO at hi
   obtain ⟨h1,h2,_⟩:=List.findIdx?_eq_some_iff_getElem.1 hi
   refine ⟨h1,?_⟩
   rw [List.getD_eq_getElem?_getD,List.getElem?_eq_getElem h1]
   exact h2
  have hkk:=yLQ hil.2
  have hold:(((zBc ks us)[i]?).map (·.key)).getD k=k:=by
   rw [zEP hl hil.1]
   exact hkk.symm
  have hst:(Instr.keyThatStays k k).run P w=.ok k w:=by
   simp [Instr.keyThatStays,yGH hk h0 9998]
  simp only [Option.map_some,hold,Sem.run_bind,hst,Result.andThen_ok,yCv hl hil.1 hkk.symm,hs]
theorem yO8 {t:TypeId} {kk:Nat} (h:zLs P t kk=true):kk≠0:=by
 rintro rfl;simp [zLs] at h
theorem yO9 (h:InvG E S m β ow F a w) {y:Opd} {y':Operand} (hk:zAk E.N y y'=true) (hs:(yNc F y).1) {c:OV} (hc:(yNc F y).2=some c):(zYg F y).2=[c]∧zFI (a.eval y')=true:=by
 unfold yNc at hs hc
 split at hs
 ·rename_i x e
  simp only [e,Option.some.injEq] at hc
  subst hc
  obtain ⟨n,rfl,hn,fp,h1,_⟩:=zBu h hk e (by intro p;simp)
  exact ⟨by simp only [zYg,e];rfl,OvR.flat_ h1⟩
 ·rename_i e
  split at hs
  ·rename_i p e2
   have hc':OV.p p.norm=c:=by
    split at hc
    ·rename_i x e3;exact (e x e3).elim
    ·simpa only [e2,Option.some.injEq] using hc
   subst hc'
   have hrep:=zBd h hk hs e2
   refine ⟨?_,Rp.flat_ hrep⟩
   unfold zYg
   split
   ·rename_i v e3;rw [e3] at e2;cases e2
   ·simp only [e2];rfl
  ·exact hs.elim
theorem yPa {y:Opd} (hs:(yNc F y).1) {c:OV} (hc:(yNc F y).2=some c):(zYg F y).1:=by
 unfold yNc at hs hc
 unfold zYg
 split at hs
 ·rename_i x e
  simp only [e]
 ·rename_i e
  split at hs
  ·rename_i p e2
   split
   ·trivial
   ·simp only [e2];exact hs
  ·exact hs.elim
theorem ySM (wf:E.Wf) (h:InvG E S m β ow F a w) {x k y:Opd} {r kk:Nat} {o:Oper} (hd:o.dst=none) (hr:r < E.N) {t:TypeId} {x' k' y':Operand} (ho:o.op=.mapUpdate t x' k' y'∨o.op=.insert t x' k' y') (hx:zAk E.N x x'=true) (hk:zAk E.N k k'=true) (hy:zAk E.N y y'=true) (hm:yJc P t kk=true)
  {K:List Ct→Prop} {X:Value→List Ct→Prop} {Q:Exit→Act→World→Prop} (hW:opW P (.mps x r kk k y) F K X):o.wp P a w (zFb E S K) Q:=by
 simp only [opW] at hW
 obtain ⟨b,ks,vs,us,f,e1,e2,e3,e4,e5,e6,e7,e8,e9,e10,e11,e12,hyr,hsr,hK⟩:=yGG h hr hx hk hW
 obtain ⟨kt,et,hu,ht⟩:=yLU hm
 have hrun:=yTC (v:=a.eval y') hu ht (yO8 ht) e7 e8 e2 e3 e4 e12
 split at hK
 ·rename_i c hc
  obtain ⟨fy,y1,y2,y3,y4,y5,y6⟩:=yO7 wf h hy (yPa hsr hc) hyr
  obtain ⟨z1,z2⟩:=yO9 h hy hsr hc
  rw [z1] at y1
  have hcl:(a.eval y').cells.toList=[a.eval y']:=by rw [zG6 z2]
  rw [hcl] at y1
  have hv2:OvR m w c (a.eval y') fy:=by
   simp only [OvL] at y1
   obtain ⟨v,us',f1,f2,q1,rfl,q3,rfl,rfl⟩:=y1
   injection q1 with q1 _
   rw [q1,List.append_nil]
   exact q3
  have hrD:InvG E S m β (dropB ow fy) (clr F F y) a w:=y4
  have hroot:(clr F F y).getD r .un=.ov (.one (.mp b ks vs)):=y5.trans e5
  have hnfy:∀ g∈b::f,g∉fy:=by
   intro g hg hc'
   obtain ⟨s,q1,q2,_⟩:=y3 g hc'
   have:=(e11 g hg).1
   rw [q2] at this
   injection this with this
   injection this with this
   exact hyr s q1 this
  have hown:∀ g∈b::f,dropB ow fy g=some (.key r)∧∀ o,m g o=none:=fun g hg=>⟨by unfold dropB;rw [if_neg (hnfy g hg)];exact (e11 g hg).1,(e11 g hg).2⟩
  have hD:=zC4 wf hrD fun g hg=>(hown g hg).1
  have hloose:=zBn hrD hown
  have hlb:=hloose b List.mem_cons_self
  have hW2:=hD.world hlb.1 hlb.2.2.2 hlb.2.1 (yCw (match zQO ks (a.eval k') with|some i=>.map (zBc ks (us.set i (a.eval y'))) ks.length|none=>.map (zBc (ks++[a.eval k']) (us++[a.eval y'])) (ks++[a.eval k']).length) b) (Nat.le_refl _)
  have hbf:b∉f:=(List.nodup_cons.1 e10).1
  have hkeep:∀ (o:Obj) (g:Nat),g∈f++fy→(zEi w b o).heap[g]?=w.heap[g]?:=by
   intro o g hg
   refine zMQ ?_
   rintro rfl
   rcases List.mem_append.1 hg with hg|hg
   ·exact hbf hg
   ·exact hnfy g List.mem_cons_self hg
  have hlo2:Loose S m (zEi w b (match zQO ks (a.eval k') with|some i=>.map (zBc ks (us.set i (a.eval y'))) ks.length|none=>.map (zBc (ks++[a.eval k']) (us++[a.eval y'])) (ks++[a.eval k']).length)) (dropB (dropB ow fy) (b::f)) ((b::f)++fy):=
   (hloose.append y6.dropB).grow (by simp [zEi])
  have hnd:((b::f)++fy).Nodup:=List.nodup_append.2 ⟨e10,y2,fun p hp q hq e=>hnfy p hp (e▸hq)⟩
  have hnew:∃ f',OvR m (zEi w b (match zQO ks (a.eval k') with|some i=>.map (zBc ks (us.set i (a.eval y'))) ks.length|none=>.map (zBc (ks++[a.eval k']) (us++[a.eval y'])) (ks++[a.eval k']).length)) (zYm b ks vs (a.eval k') c) (.map (some b)) f'∧f'.Nodup∧∀ g∈f',g∈(b::f)++fy:=by
   unfold zYm
   cases hi:zQO ks (a.eval k') with
   |none=>
    refine ⟨b::(f++fy),?_,by simpa using hnd,fun g hg=>by simpa using hg⟩
    simp only [OvR]
    refine ⟨us++[a.eval y'],f++fy,trivial,yBk e7,by simp [e8],?_,rfl,?_⟩
    ·refine (OvL.congr m.le_refl _ _ _ (fun g hg=>hkeep _ g (List.mem_append_left _ hg)) e9).append ?_
     simp only [OvL]
     exact ⟨_,[],fy,[],rfl,by simp,OvR.congr m.le_refl _ _ _ (fun g hg=>hkeep _ g (List.mem_append_right _ hg)) hv2,rfl,rfl⟩
    ·intro q hq
     rcases List.mem_append.1 hq with hq|hq
     ·exact e12 q hq
     ·rw [List.mem_singleton.1 hq];exact e3
   |some i=>
    have hil:i < ks.length:=by
     unfold zQO at hi
     exact (List.findIdx?_eq_some_iff_getElem.1 hi).1
    have hvl:i < vs.length:=by rw [←e9.length,e8];exact hil
    obtain ⟨u,f1,fx,f2,rfl,_,_,hput⟩:=e9.put hvl
    have hsub:∀ g∈f1++(fy++f2),g∈(f1++(fx++f2))++fy:=by
     intro g hg
     simp only [List.mem_append] at hg ⊢
     rcases hg with hg|hg|hg
     ·exact .inl (.inl hg)
     ·exact .inr hg
     ·exact .inl (.inr (.inr hg))
    refine ⟨b::(f1++(fy++f2)),?_,?_,fun g hg=>?_⟩
    ·simp only [OvR]
     refine ⟨us.set i (a.eval y'),f1++(fy++f2),trivial,yBk e7,by simp [e8],?_,rfl,e12⟩
     exact hput _ _ _ _ (fun g hg=>hkeep _ g (List.mem_append_left _ (by simp only [List.mem_append] at hg ⊢;rcases hg with hg|hg;exact .inl hg;exact .inr (.inr hg)))) (OvR.congr m.le_refl _ _ _ (fun g hg=>hkeep _ g (List.mem_append_right _ hg)) hv2)
    ·have hp:((f1++(fx++f2))++fy).Perm (fx++(f1++(fy++f2))):=List.perm_iff_count.2 fun x=>by simp only [List.count_append];omega
     have h1:((f1++(fx++f2))++fy).Nodup:=(List.nodup_cons.1 (show (b::((f1++(fx++f2))++fy)).Nodup from hnd)).2
     have h2:=hp.nodup_iff.1 h1
     rw [List.nodup_append] at h2
     refine List.nodup_cons.2 ⟨fun hc'=>?_,h2.2.1⟩
     have h3:=(List.nodup_cons.1 (show (b::((f1++(fx++f2))++fy)).Nodup from hnd)).1
     exact h3 (hsub b hc')
    ·rcases List.mem_cons.1 hg with rfl|hg
     ·exact List.mem_append_left _ List.mem_cons_self
     ·have:=hsub g hg
      simp only [List.mem_append,List.mem_cons] at this ⊢
      rcases this with h1|h1
      ·exact .inl (.inr h1)
      ·exact .inr h1
  obtain ⟨f',hn1,hn2,hn3⟩:=hnew
  have hA:=zE3 wf hW2 (.inl ⟨hr,e6.symm⟩) hn1 hn2 (hlo2.sub hn3)
  rw [List.set_set] at hA
  have hre:(execOp a.eval o).run P w=.ok .skip (zEi w b (match zQO ks (a.eval k') with|some i=>.map (zBc ks (us.set i (a.eval y'))) ks.length|none=>.map (zBc (ks++[a.eval k']) (us++[a.eval y'])) (ks++[a.eval k']).length)):=by
   unfold execOp
   rcases ho with ho|ho<;>rw [ho]<;>simp only [Sem.run_bind,e1,hrun,Result.andThen_ok,Sem.run_pure]
  refine zFE hre ⟨_,hK,m,β,zFu (dropB (dropB ow fy) (b::f)) f' r,?_⟩
  rw [hd]
  exact hA
 ·exact hK.elim
theorem yTD {t kt et:TypeId} {z:PV} (hu:P.underlying t=some (.map kt et)) (h:yVH P t z=true):∃ zv,(∀ w,(zeroValue et).run P w=.ok zv w)∧zFK [z] [zv]=true∧zBV P et=some false:=by
 unfold yVH at h
 rw [hu] at h
 simp only [Bool.and_eq_true,beq_iff_eq] at h
 obtain ⟨h1,h2⟩:=h
 split at h2
 ·rename_i zv hz
  simp only [Bool.and_eq_true] at h2
  obtain ⟨h2,h3⟩:=h2
  rw [zG6 h3] at h2
  cases hi:P.info? et with
  |none=>rw [hi] at hz;cases hz
  |some i=>
   rw [hi] at hz
   simp only [Option.bind_some] at hz
   exact ⟨zv,fun w=>by simp [zeroValue,typeInfo,hi,hz],h2,h1⟩
 ·cases h2
theorem yNf {zv:Value} (h:zFK [.nl 0] [zv]=true):zv=.slice none 0 0:=by
 simp only [zFK,Bool.and_true,zTP] at h
 split at h<;>simp_all
theorem InvG.allocd (h:InvG E S m β ow F a w) (o:Obj):InvG E S m β ow F a (w.alloc o):=
 h.quiet ⟨m.le_refl,fun b x u hu=>by
  have h1:=h.mem b x u hu
  exact h1.block (Below.heap_alloc w o b h1.lt),fun b t hb=>Below.heap_alloc w o b (h.lt b t hb),fun _ _ _ _=>rfl,fun _ _ _ hu=>.inl hu,Pres.alloc _ w o⟩
theorem InvG.fresh (h:InvG E S m β ow F a w):ow w.heap.size=none∧∀ o,m w.heap.size o=none:=by
 refine ⟨?_,fun o=>?_⟩
 ·cases e:ow w.heap.size with
  |none=>rfl
  |some t=>exact absurd (h.lt _ t e) (Nat.lt_irrefl _)
 ·cases e:m w.heap.size o with
  |none=>rfl
  |some u=>exact absurd ((h.mem _ _ _ e).lt) (Nat.lt_irrefl _)
theorem zTn (w:World) (o:Obj):(w.alloc o).heap[w.heap.size]?=some o:=by
 have e:(w.alloc o).heap=w.heap.push o:=rfl
 rw [e];simp
theorem zYp {t kt et:TypeId} {kk b:Nat} (hu:P.underlying t=some (.map kt et)) (ht:zLs P kt kk=true) (hz:yVH P t (.nl 0)=true) {ks us:List Value} (hb:w.heap[b]?=some (.map (zBc ks us) ks.length)) (hl:us.length=ks.length) {k:Value} (hk:zTW k=kk) (hf:zIK k=true) (hks:∀ q∈ks,zTW q=kk) (hfs:∀ q∈ks,zIK q=true):
  (Instr.lookup t (.map (some b)) k false).run P w=.ok (match zQO ks k with|some i=>us.getD i default|none=>.slice none 0 0) w:=by
 obtain ⟨zv,hzv,hz2,_⟩:=yTD hu hz
 have hzz:zv=.slice none 0 0:=yNf hz2
 have hg:(getObj b).run P w=.ok (.map (zBc ks us) ks.length) w:=by simp [getObj,Sem.run,hb]
 have hc:=fun em=>yGF (P:=P) (w:=w) ht hk em 9998
 have hfd:=yLT (w:=w) ht hl hk hf hks hfs
 unfold Instr.lookup
 simp only [Sem.run_bind,run_underlying hu,Result.andThen_ok,hg,Sem.run_pure,hc,hfd]
 cases hi:zQO ks k with
 |none=>simp only [Option.map_none,Sem.run_bind,hzv w,Result.andThen_ok,Sem.run_pure,hzz];rfl
 |some i=>simp
theorem yV0 (wf:E.Wf) (h:InvG E S m β ow F a w) {d:Nat} {o:Oper} (hd:zAY E.N (some d) o.dst=true) {t:TypeId} (ho:o.op=.makeMap t none)
  {K:List Ct→Prop} {X:Value→List Ct→Prop} {Q:Exit→Act→World→Prop} (hW:opW P (.mmk d) F K X):o.wp P a w (zFb E S K) Q:=by
 obtain ⟨hd1,hd2⟩:=zAp hd
 have hr:(execOp a.eval o).run P w=.ok (.value (.map (some w.heap.size))) (w.alloc (.map #[] 0)):=by
  unfold execOp;rw [ho]
  rfl
 have hw:=h.allocd (.map #[] 0)
 have hfr:=h.fresh
 refine zAP hr ⟨_,hW w.heap.size,?_⟩
 rw [hd1]
 refine zFQ wf hw hd2 (x:=.one (.mp w.heap.size [] [])) (fp:=[w.heap.size]) ?_ (by simp) fun g hg=>?_
 ·simp only [OvV,OvR]
  exact ⟨[],[],trivial,zTn w _,rfl,by simp only [OvL];exact ⟨trivial,trivial⟩,rfl,by simp⟩
 ·obtain rfl:=List.mem_singleton.1 hg
  exact ⟨hfr.1,.inl h.pres.size,(Array.getElem?_eq_some_iff.1 (zTn w (.map #[] 0))).1,hfr.2⟩
theorem yV1 (wf:E.Wf) (h:InvG E S m β ow F a w) {d:Nat} {x k:Opd} {r kk e kw:Nat} {o:Oper} (hd:zAY E.N (some d) o.dst=true) (hr:r < E.N) {t:TypeId} {x' k':Operand} (ho:o.op=.lookup t x' k' false) (hx:zAk E.N x x'=true) (hk:zAk E.N k k'=true) (hm:yJc P t kk=true) (hz:yVH P t (.nl 0)=true)
  {K:List Ct→Prop} {X:Value→List Ct→Prop} {Q:Exit→Act→World→Prop} (hW:opW P (.mpv d x r kk k e kw) F K X):o.wp P a w (zFb E S K) Q:=by
 obtain ⟨hd1,hd2⟩:=zAp hd
 simp only [opW] at hW
 obtain ⟨b,ks,vs,us,f,e1,e2,e3,e4,e5,e6,e7,e8,e9,e10,e11,e12,hdr,hK⟩:=yGG h hr hx hk hW
 obtain ⟨kt,et,hu,ht⟩:=yLU hm
 have hval:=zYp (w:=w) hu ht hz e7 e8 e2 e3 e4 e12
 have hre:(execOp a.eval o).run P w=.ok (.value (match zQO ks (a.eval k') with|some i=>us.getD i default|none=>.slice none 0 0)) w:=by
  unfold execOp;rw [ho]
  simp only [Sem.run_bind,e1,hval,Result.andThen_ok,Sem.run_pure]
 split at hK
 ·rename_i i hi
  obtain ⟨hil,hK⟩:=hK
  rw [hi] at hre
  obtain ⟨u,f1,fx,f2,rfl,q1,q2,hput⟩:=e9.put hil
  simp only [q1] at hre
  have hD:=zC4 wf h fun g hg=>(e11 g hg).1
  have hloose:=zBn h e11
  have hbn:=(List.nodup_cons.1 e10)
  have hnew:OvR m w (.mp b ks (vs.set i .hole)) (.map (some b)) (b::(f1++f2)):=by
   simp only [OvR]
   refine ⟨us,f1++f2,trivial,e7,e8,?_,rfl,e12⟩
   have hfl:zFI u=true:=q2.flat_
   have:=hput w .hole u [] (fun _ _=>rfl) (by simp only [OvR];exact ⟨trivial,hfl⟩)
   have e:us.set i u=us:=by
    have hul:i < us.length:=by rw [e9.length];exact hil
    rw [←q1,List.getD_eq_getElem?_getD,List.getElem?_eq_getElem hul]
    simp
   rw [e] at this
   simpa using this
  have hp:(b::(f1++(fx++f2))).Perm (fx++(b::(f1++f2))):=List.perm_iff_count.2 fun x=>by simp only [List.count_append,List.count_cons];omega
  have hnd:=hp.nodup_iff.1 e10
  rw [List.nodup_append] at hnd
  have hA:=zE3 wf hD (.inl ⟨hr,e6.symm⟩) hnew hnd.2.1 (hloose.sub fun x hx=>by
   simp only [List.mem_append,List.mem_cons] at hx ⊢
   rcases hx with hx|hx|hx
   ·exact .inl hx
   ·exact .inr (.inl hx)
   ·exact .inr (.inr (.inr hx)))
  rw [List.set_set] at hA
  refine zAP hre ⟨_,hK,?_⟩
  rw [hd1]
  refine zFQ wf hA hd2 (x:=.one (vs.getD i .hole)) (fp:=fx) q2 hnd.1 fun g hg=>?_
  have hl:=hloose g (by simp [hg])
  refine ⟨?_,hl.2⟩
  unfold zFu
  rw [if_neg (fun hc=>hnd.2.2 g hg g hc rfl)]
  exact hl.1
 ·rename_i hi
  rw [hi] at hre
  refine zAP hre ⟨_,hK,m,β,ow,?_⟩
  rw [hd1]
  refine h.slot wf hd2 ⟨[],?_,List.nodup_nil,by simp⟩
  exact zCm.2 ⟨[],[],World.ownsRow_nil w 0 e kw,by simp only [List.flatten_nil,OvL];exact ⟨trivial,trivial⟩,by simp,by simp [blk,Value.ownBlock],fun b hb=>by cases hb⟩
end
end Go.Hx
