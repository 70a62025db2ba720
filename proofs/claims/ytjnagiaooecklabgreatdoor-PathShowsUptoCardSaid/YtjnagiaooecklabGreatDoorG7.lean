/-
  Walks of functions of the program over an abstract layer, and the laws that they use: each contract says what the function computes, for every input that its conditions let by. No other condition.
-/
import Derived.Test.YtjnagiaooecklabGreatDoorG6
import Derived.MapKept
import Derived.Laws.OwnMore
set_option linter.all false
section
/-
 THE ABSTRACT LAYER: operations on owned maps are sound. Generic over the program. No condition.
-/
namespace Go.Hx
open Go.RowKit
variable [Glob]
section
variable {P:Program} {E:Env} {S:Start} {m:Mem} {β:Bx} {ow:Ow} {F:List Ct} {a:Act} {w:World}
theorem zCv {v:Value} {kk:Nat} (h:zSi v=kk) (hk:kk≠0):(kk=1∧∃ n,v = .int .i64 n)∨(kk=2∧∃ s,v = .string s)∨(kk=3∧∃ n s,v = .agg #[.int .i64 n,.string s]):=by
 unfold zSi at h
 split at h
 ·exact .inl ⟨h.symm,_,rfl⟩
 ·exact .inr (.inl ⟨h.symm,_,rfl⟩)
 ·rename_i cs
  split at h
  ·rename_i n s e
   refine .inr (.inr ⟨h.symm,n,s,?_⟩)
   congr 1
   rw [← Array.toArray_toList (xs:=cs),e]
  ·exact (hk h.symm).elim
 ·exact (hk h.symm).elim
theorem yE7 {a b:Value} (h:zFa a b=true):a=b:=by
 unfold zFa at h
 split at h
 ·rename_i x y
  split at h
  ·rename_i p q p' q' e1 e2
   simp only [Bool.and_eq_true] at h
   have h1:=zII h.1
   have h2:=zII h.2
   subst h1; subst h2
   congr 1
   rw [← Array.toArray_toList (xs:=x),← Array.toArray_toList (xs:=y),e1,e2]
  ·cases h
 ·exact zII h
theorem zKP (a b:ByteArray):(a == b)=true↔a=b:=by
 obtain ⟨x⟩:=a
 obtain ⟨y⟩:=b
 constructor
 ·intro h
  have e:x=y:=by simpa using (show (x == y)=true from h)
  rw [e]
 ·intro h
  cases h
  show (x == x)=true
  simp
theorem yG4 (p q:ByteArray):(p == q)=decide (bys p=bys q):=by
 by_cases h:p=q
 ·subst h
  rw [decide_eq_true rfl]
  exact (zKP p p).2 rfl
 ·have h1:¬ bys p=bys q:=by
   intro hc
   apply h
   have:p.data=q.data:=by
    have e:p.data.toList=q.data.toList:=hc
    exact Array.toList_inj.1 e
   cases p; cases q; simp_all
  rw [decide_eq_false h1]
  cases hb:(p == q) with
  |false=>rfl
  |true=>exact (h ((zKP p q).1 hb)).elim
theorem zIS {t : TypeId} (h : zCk P t [0, 2] = true) : ∃ f1 f2 k, P.underlying t = some (.struct #[f1, f2]) ∧ f1.offset = 0 ∧ f2.offset = 1 ∧ f1.name ≠ "_" ∧ f2.name ≠ "_" ∧ P.underlying f1.type = some (.int k) ∧ P.underlying f2.type = some .string := by
 unfold zCk at h
 split at h
 ·rename_i fs hu
  simp only [Bool.and_eq_true] at h
  have h1:=h.1.1
  match hl:fs.toList,h1 with
  |[f1,f2],h1=>
   simp only [zCj,Bool.and_eq_true,beq_iff_eq,bne_iff_ne] at h1
   obtain ⟨⟨⟨a1,a2⟩,a3⟩,⟨⟨b1,b2⟩,b3⟩,_⟩:=h1
   simp only [zXH] at a3 b3
   split at a3
   ·rename_i k hk
    unfold zEL at b3
    split at b3
    ·rename_i hs
     have hfs:fs = #[f1,f2]:=by rw [← Array.toArray_toList (xs:=fs),hl]
     exact ⟨f1,f2,k,by rw [hu,hfs],a1,b1,a2,b2,hk,hs⟩
    ·cases b3
   ·cases a3
  |[],h1=>simp [zCj] at h1
  |[_],h1=>simp [zCj] at h1
  |_ :: _ :: _ :: _,h1=>simp [zCj] at h1
 ·cases h
theorem yB4 {t:TypeId} (h:zCk P t [0,2]=true) (n:Int) (s:ByteArray) (n':Int) (s':ByteArray) (hs:zEH (.string s)=true) (hs':zEH (.string s')=true) :
  (Op.equal t (.agg #[.int .i64 n,.string s]) (.agg #[.int .i64 n',.string s'])).run P w = .ok (zFa (.agg #[.int .i64 n,.string s]) (.agg #[.int .i64 n',.string s'])) w:=by
 have hf:=h
 unfold zCk at hf
 split at hf
 ·rename_i fs hu
  simp only [Bool.and_eq_true,Bool.not_eq_true'] at hf
  obtain ⟨⟨hf1,hf2⟩,hf3⟩:=hf
  have hfo:P.fieldsOf t=fs:=by simp [Program.fieldsOf,hu]
  simp only [Op.equal,Op.maxDepth]
  rw [run_equalIn_struct w 9999 t _ _ (by rw [hfo]; exact hu) hf2,hfo]
  have hm:Mem.le (fun _ _=>none) (fun _ _=>none):=Mem.le_refl _
  have:=zGn (m:=fun _ _=>none) (w:=w) (P:=P) 9998 [0,2] fs.toList [.v (.int .i64 n),.v (.string s)] [.v (.int .i64 n'),.v (.string s')] 0 #[.int .i64 n,.string s] #[.int .i64 n',.string s'] hf1 (by simp [zAx]) (by
   intro j x hx
   match j,hx with
   |0,hx=>simp at hx; subst hx; exact ⟨_,rfl,rfl,rfl⟩
   |1,hx=>simp at hx; subst hx; exact ⟨_,rfl,rfl,hs⟩
   |j+2,hx=>simp at hx) (by
   intro j x hx
   match j,hx with
   |0,hx=>simp at hx; subst hx; exact ⟨_,rfl,rfl,rfl⟩
   |1,hx=>simp at hx; subst hx; exact ⟨_,rfl,rfl,hs'⟩
   |j+2,hx=>simp at hx)
  rw [this]
  simp [zAx,zFa,zUD,bys]
  rw [Bool.eq_iff_iff]
  simp
 ·cases hf
theorem zPN {ks us:List Value} (h:us.length=ks.length):(zBe ks us).toList.map (·.key)=ks:=by
 simp only [zBe,List.map_map]
 have:((fun x:MapEntry=>x.key) ∘ fun x:(Value × Value) × Nat=>({ key:=x.1.1,val:=x.1.2,born:=x.2 }:MapEntry))=Prod.fst ∘ Prod.fst:=rfl
 rw [this,← List.map_map,List.zipIdx_map_fst]
 exact List.map_fst_zip yO
theorem zGY {ks us:List Value} (h:us.length=ks.length) {i:Nat} (hi:i<ks.length):(zBe ks us)[i]? = some { key:=ks.getD i default,val:=us.getD i default,born:=i }:=by
 simp [zBe,List.getElem?_zipIdx,List.getElem?_zip_eq_some,hi,h]
theorem zPO {ks us:List Value} (h:us.length=ks.length):(zBe ks us).size=ks.length:=by simp [zBe,h]
theorem zZI {ks us:List Value} (h:us.length=ks.length) (k v:Value):(zBe ks us).push { key:=k,val:=v,born:=ks.length } = zBe (ks ++ [k]) (us ++ [v]):=by
 simp only [zBe,List.push_toArray]
 congr 1
 rw [List.zip_append yO,List.zipIdx_append,List.map_append]
 simp [h]
theorem zUU {ks us:List Value} (h:us.length=ks.length) {i:Nat} (hi:i<ks.length) {k:Value} (hk:ks.getD i default=k) (v:Value) :
  (zBe ks us).modify i (fun e=>{ e with key:=k,val:=v })=zBe ks (us.set i v):=by
 apply Array.ext_getElem?
 intro j
 rw [Array.getElem?_modify]
 by_cases hj:j<ks.length
 ·rw [zGY h hj,zGY (by simpa using h) hj]
  split
  ·rename_i e
   subst e
   rw [hk]
   simp [hi,h]
  ·rename_i e
   simp [e,List.getElem?_set]
 ·rw [Array.getElem?_eq_none (by rw [zPO h]; omega),Array.getElem?_eq_none (by rw [zPO (by simpa using h)]; omega)]
  simp
theorem zL9 {t:TypeId} {kk:Nat} (h:zGp P t kk=true):(kk=1∧P.underlying t=some (.int .i64))∨(kk=2∧P.underlying t=some .string)∨(kk=3∧zCk P t [0,2]=true):=by
 unfold zGp at h
 split at h
 ·unfold zL8 at h
  split at h
  ·rename_i k' hu
   have:IntKind.i64=k':=by simpa using h
   subst this
   exact .inl ⟨rfl,hu⟩
  ·cases h
 ·unfold zEL at h
  split at h
  ·rename_i hu; exact .inr (.inl ⟨rfl,hu⟩)
  ·cases h
 ·exact .inr (.inr ⟨rfl,h⟩)
 ·cases h
theorem yBc {n:Int}:∀ (l:List MapEntry) (i:Nat),(∀ e ∈ l,zSi e.key=1)→Instr.findNow (.int .i64) (.int .i64 n) l i=some ((l.findIdx? fun e=>zFa (.int .i64 n) e.key).map fun j=>(i+j,(l.getD j default).val))
 |[],i,_=>rfl
 |e :: l,i,h=>by
  obtain ⟨n',hn⟩:∃ n',e.key = .int .i64 n':=by
   rcases zCv (h e List.mem_cons_self) (by decide) with ⟨_,h1⟩ | ⟨h1,_⟩ | ⟨h1,_⟩
   ·exact h1
   ·cases h1
   ·cases h1
  have ih:=yBc l (i+1) (fun x hx=>h x (List.mem_cons_of_mem _ hx)) (n:=n)
  have hs:Instr.sameNow (.int .i64) (.int .i64 n) e.key=some (decide (n=n')):=by rw [hn]; simp [Instr.sameNow]; rfl
  have hk:zFa (.int .i64 n) e.key=decide (n=n'):=by rw [hn]; simp [zFa,zUD]
  rw [List.findIdx?_cons,hk]
  simp only [Instr.findNow,hs]
  by_cases hnn:n=n'
  ·simp [hnn]
  ·simp only [decide_eq_false hnn,Bool.false_eq_true,if_false,ih,Option.map_map]
   congr 1
   cases List.findIdx? (fun e=>zFa (.int .i64 n) e.key) l with
   |none=>rfl
   |some j=>simp; omega
theorem yBd {s:ByteArray}:∀ (l:List MapEntry) (i:Nat),(∀ e ∈ l,zSi e.key=2)→Instr.findNow .string (.string s) l i=some ((l.findIdx? fun e=>zFa (.string s) e.key).map fun j=>(i+j,(l.getD j default).val))
 |[],i,_=>rfl
 |e :: l,i,h=>by
  obtain ⟨s',hn⟩:∃ s',e.key = .string s':=by
   rcases zCv (h e List.mem_cons_self) (by decide) with ⟨h1,_⟩ | ⟨_,h1⟩ | ⟨h1,_⟩
   ·cases h1
   ·exact h1
   ·cases h1
  have ih:=yBd l (i+1) (fun x hx=>h x (List.mem_cons_of_mem _ hx)) (s:=s)
  have hs:Instr.sameNow .string (.string s) e.key=some (decide (bys s=bys s')):=by rw [hn]; simp only [Instr.sameNow,yG4]
  have hk:zFa (.string s) e.key=decide (bys s=bys s'):=by rw [hn]; simp [zFa,zUD,bys]
  rw [List.findIdx?_cons,hk]
  simp only [Instr.findNow,hs]
  by_cases hnn:bys s=bys s'
  ·simp [hnn]
  ·simp only [decide_eq_false hnn,Bool.false_eq_true,if_false,ih,Option.map_map]
   congr 1
   cases List.findIdx? (fun e=>zFa (.string s) e.key) l with
   |none=>rfl
   |some j=>simp; omega
theorem zPP {t:TypeId} (ht:zCk P t [0,2]=true) {n:Int} {s:ByteArray} (hs:zEH (.string s)=true):∀ (l:List MapEntry) (i:Nat),(∀ e ∈ l,zSi e.key=3∧zGl e.key=true) →
  (Instr.findAsking t (.agg #[.int .i64 n,.string s]) l i).run P w = .ok ((l.findIdx? fun e=>zFa (.agg #[.int .i64 n,.string s]) e.key).map fun j=>(i+j,(l.getD j default).val)) w
 |[],i,_=>rfl
 |e :: l,i,h=>by
  obtain ⟨n',s',hn⟩:∃ n' s',e.key = .agg #[.int .i64 n',.string s']:=by
   rcases zCv (h e List.mem_cons_self).1 (by decide) with ⟨h1,_⟩ | ⟨h1,_⟩ | ⟨_,h1⟩
   ·cases h1
   ·cases h1
   ·exact h1
  have hs':zEH (.string s')=true:=by
   have:=(h e List.mem_cons_self).2
   rw [hn] at this
   simp [zGl] at this
   exact this.2
  have ih:=zPP ht hs l (i+1) (fun x hx=>h x (List.mem_cons_of_mem _ hx)) (n:=n)
  have hr:=yB4 (w:=w) ht n s n' s' hs hs'
  rw [← hn] at hr
  rw [List.findIdx?_cons]
  simp only [Instr.findAsking,Sem.run_bind,hr,Result.andThen_ok]
  cases hk:zFa (.agg #[.int .i64 n,.string s]) e.key with
  |true=>simp
  |false=>
   simp only [Bool.false_eq_true,if_false,ih,Option.map_map]
   congr 1
   cases List.findIdx? (fun e=>zFa (.agg #[.int .i64 n,.string s]) e.key) l with
   |none=>rfl
   |some j=>simp; omega
theorem yGu {kt:TypeId} {d:TypeDesc} {k:Value} {l:List MapEntry} {a:Option (Nat × Value)} (hd:P.underlying kt=some d) (h:Instr.findNow d k l 0=some a):(Instr.findKey kt k l).run P w = .ok a w:=by
 simp [Instr.findKey,run_underlying hd,Result.andThen,h]
theorem zUV {t:TypeId} {kk:Nat} (ht:zGp P t kk=true) {ks us:List Value} (hl:us.length=ks.length) {k:Value} (hk:zSi k=kk) (hf:zGl k=true) (hks:∀ q ∈ ks,zSi q=kk) (hfs:∀ q ∈ ks,zGl q=true) :
  (Instr.findKey t k (zBe ks us).toList).run P w = .ok ((zGk ks k).map fun j=>(j,us.getD j default)) w:=by
 have hkeys:∀ e ∈ (zBe ks us).toList,zSi e.key=kk∧zGl e.key=true:=by
  intro e he
  have:e.key ∈ ks:=by rw [← zPN hl]; exact List.mem_map_of_mem he
  exact ⟨hks _ this,hfs _ this⟩
 have hix:(zBe ks us).toList.findIdx? (fun e=>zFa k e.key)=zGk ks k:=by
  unfold zGk
  conv=>rhs; rw [← zPN hl]
  rw [List.findIdx?_map]
  rfl
 have hval:∀ j,zGk ks k=some j→((zBe ks us).toList.getD j default).val=us.getD j default:=by
  intro j hj
  have hj':j<ks.length:=by
   unfold zGk at hj
   exact (List.findIdx?_eq_some_iff_getElem.1 hj).1
  have:=zGY hl hj'
  rw [List.getD_eq_getElem?_getD,Array.getElem?_toList,this]
  rfl
 have hfin:((zBe ks us).toList.findIdx? (fun e=>zFa k e.key)).map (fun j=>(0+j,((zBe ks us).toList.getD j default).val))=(zGk ks k).map fun j=>(j,us.getD j default):=by
  rw [hix]
  cases hj:zGk ks k with
  |none=>rfl
  |some j=>simp only [Option.map_some,hval j hj,Nat.zero_add]
 rcases zL9 ht with ⟨rfl,hu⟩ | ⟨rfl,hu⟩ | ⟨rfl,hu⟩
 ·obtain ⟨n,rfl⟩:∃ n,k = .int .i64 n:=by
   rcases zCv hk (by decide) with ⟨_,h1⟩ | ⟨h1,_⟩ | ⟨h1,_⟩
   ·exact h1
   ·cases h1
   ·cases h1
  rw [yGu hu (yBc _ 0 fun e he=>(hkeys e he).1),hfin]
 ·obtain ⟨s,rfl⟩:∃ s,k = .string s:=by
   rcases zCv hk (by decide) with ⟨h1,_⟩ | ⟨_,h1⟩ | ⟨h1,_⟩
   ·cases h1
   ·exact h1
   ·cases h1
  rw [yGu hu (yBd _ 0 fun e he=>(hkeys e he).1),hfin]
 ·obtain ⟨n,s,rfl⟩:∃ n s,k = .agg #[.int .i64 n,.string s]:=by
   rcases zCv hk (by decide) with ⟨h1,_⟩ | ⟨h1,_⟩ | ⟨_,h1⟩
   ·cases h1
   ·cases h1
   ·exact h1
  have hs:zEH (.string s)=true:=by simp [zGl] at hf; exact hf.2
  obtain ⟨f1,f2,kd,hu2,_⟩:=zIS hu
  have hA:=zPP (w:=w) hu hs (zBe ks us).toList 0 hkeys (n:=n)
  rw [hfin] at hA
  unfold Instr.findKey
  simp only [Sem.run_bind,run_underlying hu2,Result.andThen_ok]
  cases hl2:(zBe ks us).toList with
  |nil=>
   rw [hl2] at hA
   simp only [Instr.findNow]
   simpa [Instr.findAsking] using hA
  |cons e l=>
   rw [hl2] at hA
   obtain ⟨n',s',hn⟩:∃ n' s',e.key = .agg #[.int .i64 n',.string s']:=by
    rcases zCv (hkeys e (by rw [hl2]; exact List.mem_cons_self)).1 (by decide) with ⟨h1,_⟩ | ⟨h1,_⟩ | ⟨_,h1⟩
    ·cases h1
    ·cases h1
    ·exact h1
   have:Instr.findNow (.struct #[f1,f2]) (.agg #[.int .i64 n,.string s]) (e :: l) 0=none:=by
    simp only [Instr.findNow,hn,Instr.sameNow]
   simp only [this]
   exact hA
theorem zPQ {t:TypeId} {kk:Nat} (ht:zGp P t kk=true) {k:Value} (hk:zSi k=kk) (em:Bool) (n:Nat):(Instr.checkKey em (n+2) t k).run P w = .ok () w:=by
 rcases zL9 ht with ⟨rfl,hu⟩ | ⟨rfl,hu⟩ | ⟨rfl,hu⟩
 ·obtain ⟨n,rfl⟩:∃ n,k = .int .i64 n:=by
   rcases zCv hk (by decide) with ⟨_,h1⟩ | ⟨h1,_⟩ | ⟨h1,_⟩
   ·exact h1
   ·cases h1
   ·cases h1
  unfold Instr.checkKey
  simp only [Sem.run_bind,run_underlying hu,Result.andThen_ok]
  rfl
 ·obtain ⟨s,rfl⟩:∃ s,k = .string s:=by
   rcases zCv hk (by decide) with ⟨h1,_⟩ | ⟨_,h1⟩ | ⟨h1,_⟩
   ·cases h1
   ·exact h1
   ·cases h1
  unfold Instr.checkKey
  simp only [Sem.run_bind,run_underlying hu,Result.andThen_ok]
  rfl
 ·obtain ⟨m,s,rfl⟩:∃ n s,k = .agg #[.int .i64 n,.string s]:=by
   rcases zCv hk (by decide) with ⟨h1,_⟩ | ⟨h1,_⟩ | ⟨_,h1⟩
   ·cases h1
   ·cases h1
   ·exact h1
  obtain ⟨f1,f2,kd,hu2,o1,o2,n1,n2,t1,t2⟩:=zIS hu
  unfold Instr.checkKey
  simp [run_underlying hu2,Result.andThen,o1,o2,n1,n2,part,isAgg,run_underlying t1,run_underlying t2,Instr.checkKey]
theorem OvL.put {vs:List OV} {us:List Value} {f:List Nat} (h:OvL m w vs us f) {i:Nat} (hi:i<vs.length) :
  ∃ u f1 fx f2,f=f1 ++ (fx ++ f2)∧us.getD i default=u∧OvR m w (vs.getD i .hole) u fx ∧
   ∀ (w':World) (y:OV) (v:Value) (fy:List Nat),(∀ g ∈ f1 ++ f2,w'.heap[g]? = w.heap[g]?)→OvR m w' y v fy→OvL m w' (vs.set i y) (us.set i v) (f1 ++ (fy ++ f2)):=by
 have e:vs=vs.take i ++ vs.getD i .hole :: vs.drop (i+1):=by
  rw [List.getD_eq_getElem?_getD,List.getElem?_eq_getElem hi,Option.getD_some,← List.drop_eq_getElem_cons hi,List.take_append_drop]
 have hlen:=h.length
 rw [e] at h
 obtain ⟨us1,u,us2,f1,fx,f2,rfl,rfl,h1,h2,h3,h4⟩:=h.mid
 have hl:us1.length=i:=by rw [h1,List.length_take]; omega
 refine ⟨u,f1,fx,f2,rfl,?_,h3,fun w' y v fy hw hy=>?_⟩
 ·rw [List.getD_eq_getElem?_getD,List.getElem?_append_right yO,hl]
  simp
 ·have e2:vs.set i y=vs.take i ++ y :: vs.drop (i+1):=by rw [List.set_eq_take_append_cons_drop,if_pos hi]
  have e3:(us1 ++ u :: us2).set i v=us1 ++ v :: us2:=by
   rw [List.set_append_right _ _ yO,hl,Nat.sub_self,List.set_cons_zero]
  rw [e2,e3]
  exact OvL.mid_mk (OvL.congr m.le_refl _ _ _ (fun g hg=>hw g (List.mem_append_left _ hg)) h2) hy (OvL.congr m.le_refl _ _ _ (fun g hg=>hw g (List.mem_append_right _ hg)) h4)
theorem yE8 {p:PVal} {kv u:Value} (h:RpV m p u) (hk:yG1 p=some kv):u=kv∧zGl kv=true:=by
 unfold yG1 at hk
 split at hk
 ·rename_i x
  injection hk with hk
  subst hk
  obtain ⟨rfl,hf⟩:=h
  refine ⟨rfl,?_⟩
  cases u <;> first | exact hf | (simp [zEH] at hf)
 ·rename_i x y
  injection hk with hk
  subst hk
  obtain ⟨us,rfl,hr⟩:=h
  simp only [RpL,Rp] at hr
  obtain ⟨u1,us1,rfl,⟨rfl,h1⟩,u2,us2,rfl,⟨rfl,h2⟩,rfl⟩:=hr
  exact ⟨rfl,by simp [zGl,h1,h2]⟩
 ·cases hk
theorem yB5 (h:InvG E S m β ow F a w) {x:Opd} {x':Operand} (hx:zAp E.N x x'=true) {b:Nat} (hb:zXM F x=some b):a.eval x' = .map (some b):=by
 unfold zXM at hb
 split at hb
 ·rename_i b' e
  injection hb with hb
  subst hb
  obtain ⟨n,rfl,hn,hs⟩:=zBM h hx e (by intro p; simp)
  exact hs
 ·rename_i b' ks vs e
  injection hb with hb
  subst hb
  obtain ⟨n,rfl,hn,fp,hs,_⟩:=zBM h hx e (by intro p; simp)
  have hs':OvR m w (.mp b' ks vs) (a.eval x') fp:=hs
  simp only [OvR] at hs'
  obtain ⟨us,f,h1,_⟩:=hs'
  exact h1
 ·cases hb
theorem zPR (h:InvG E S m β ow F a w) {x k:Opd} {x' k':Operand} {r kk:Nat} (hr:r<E.N) (hx:zAp E.N x x'=true) (hk:zAp E.N k k'=true) {K:Nat→List Value→List OV→Value→Prop} (hW:zUL F x r kk k K) :
  ∃ b ks vs us f,a.eval x' = .map (some b)∧zSi (a.eval k')=kk∧zGl (a.eval k')=true∧(∀ q ∈ ks,zSi q=kk)∧F.getD r .un = .ov (.one (.mp b ks vs))∧a.tmps.getD r undef = .map (some b) ∧
   w.heap[b]? = some (.map (zBe ks us) ks.length)∧us.length=ks.length∧OvL m w vs us f∧(b :: f).Nodup∧(∀ g ∈ b :: f,ow g=some (.key r)∧∀ o,m g o=none)∧(∀ q ∈ ks,zGl q=true)∧K b ks vs (a.eval k'):=by
 unfold zUL at hW
 split at hW
 ·rename_i b b' ks vs p e1 e2 e3
  split at hW
  ·rename_i kv e4
   obtain ⟨rfl,h1,h2,h3,h4⟩:=hW
   have hrp:=(zAT h hk h1 e3).norm
   obtain ⟨e5,e6⟩:=yE8 hrp e4
   have hs:=h.slots r hr
   rw [e2] at hs
   obtain ⟨fp,g1,g2,g3⟩:=hs
   have g1':OvR m w (.mp b' ks vs) (a.tmps.getD r undef) fp:=g1
   simp only [OvR] at g1'
   obtain ⟨us,f,q1,q2,q3,q4,rfl,q5⟩:=g1'
   exact ⟨b',ks,vs,us,f,yB5 h hx e1,by rw [e5]; exact h2,by rw [e5]; exact e6,h3,e2,q1,q2,q3,q4,g2,g3,q5,by rw [e5]; exact h4⟩
  ·exact hW.elim
 ·exact hW.elim
theorem zUW {t:TypeId} {kk:Nat} (h:zUM P t kk=true):∃ kt et,P.underlying t=some (.map kt et)∧zGp P kt kk=true:=by
 unfold zUM at h
 split at h
 ·rename_i kt et hu; exact ⟨kt,et,hu,h⟩
 ·cases h
theorem zXP {k:Value} {kk:Nat} (hk:zSi k=kk) (h0:kk≠0) (n:Nat):Instr.sameBits (n+2) k k=true:=by
 rcases zCv hk h0 with ⟨_,n,rfl⟩ | ⟨_,s,rfl⟩ | ⟨_,n,s,rfl⟩ <;> simp [Instr.sameBits,(zKP _ _).2]
def zDm (w:World) (b:Nat) (o:Obj):World:={ w with heap:=w.heap.setIfInBounds b o }
theorem zT7 {o o':Obj} {b:Nat} (h:w.heap[b]? = some o):(zDm w b o').heap[b]? = some o':=by
 have hlt:b<w.heap.size:=(Array.getElem?_eq_some_iff.1 h).1
 simp [zDm,hlt]
theorem zIT {o':Obj} {b g:Nat} (h:g≠b):(zDm w b o').heap[g]? = w.heap[g]?:=by
 simp [zDm,Ne.symm h]
theorem zUX (o':Obj) (b:Nat):w.grownBy (zDm w b o') (some b):=
 ⟨rfl,rfl,rfl,by simp [zDm],fun g _ hg=>zIT (by simpa using hg)⟩
theorem yG5 {t kt et:TypeId} {kk b:Nat} (hu:P.underlying t=some (.map kt et)) (ht:zGp P kt kk=true) (h0:kk≠0) {ks us:List Value} (hb:w.heap[b]? = some (.map (zBe ks us) ks.length)) (hl:us.length=ks.length) {k v:Value} (hk:zSi k=kk) (hf:zGl k=true) (hks:∀ q ∈ ks,zSi q=kk) (hfs:∀ q ∈ ks,zGl q=true) :
  (Instr.mapUpdate t (.map (some b)) k v).run P w = .ok () (zDm w b (match zGk ks k with | some i=>.map (zBe ks (us.set i v)) ks.length | none=>.map (zBe (ks ++ [k]) (us ++ [v])) (ks ++ [k]).length)):=by
 have hg:(getObj b).run P w = .ok (.map (zBe ks us) ks.length) w:=by simp [getObj,Sem.run,hb]
 have hs:∀ o,(setObj b o).run P w = .ok () (zDm w b o):=by intro o; simp [setObj,Sem.run,hb,zDm]
 have hc:=zPQ (w:=w) ht hk false 9998
 have hfd:=zUV (w:=w) ht hl hk hf hks hfs
 unfold Instr.mapUpdate
 simp only [Sem.run_bind,run_underlying hu,Result.andThen_ok,hg,hc,hfd]
 cases hi:zGk ks k with
 |none=>
  simp only [Option.map_none,zZI hl,hs,List.length_append,List.length_cons,List.length_nil]
 |some i=>
  have hil:i<ks.length∧zFa k (ks.getD i default)=true:=by
   unfold zGk at hi
   obtain ⟨h1,h2,_⟩:=List.findIdx?_eq_some_iff_getElem.1 hi
   refine ⟨h1,?_⟩
   rw [List.getD_eq_getElem?_getD,List.getElem?_eq_getElem h1]
   exact h2
  have hkk:=yE7 hil.2
  have hold:(((zBe ks us)[i]?).map (·.key)).getD k=k:=by
   rw [zGY hl hil.1]
   exact hkk.symm
  have hst:(Instr.keyThatStays k k).run P w = .ok k w:=by
   simp [Instr.keyThatStays,zXP hk h0 9998]
  simp only [Option.map_some,hold,Sem.run_bind,hst,Result.andThen_ok,zUU hl hil.1 hkk.symm,hs]
theorem yDm {t:TypeId} {kk:Nat} (h:zGp P t kk=true):kk≠0:=by
 rintro rfl; simp [zGp] at h
theorem yDn (h:InvG E S m β ow F a w) {y:Opd} {y':Operand} (hk:zAp E.N y y'=true) (hs:(yEP F y).1) {c:OV} (hc:(yEP F y).2=some c):(zEd F y).2=[c]∧zEH (a.eval y')=true:=by
 unfold yEP at hs hc
 split at hs
 ·rename_i x e
  simp only [e,Option.some.injEq] at hc
  subst hc
  obtain ⟨n,rfl,hn,fp,h1,_⟩:=zBM h hk e (by intro p; simp)
  exact ⟨by simp only [zEd,e]; rfl,OvR.flat_ h1⟩
 ·rename_i e
  split at hs
  ·rename_i p e2
   have hc':OV.p p.norm=c:=by
    split at hc
    ·rename_i x e3; exact (e x e3).elim
    ·simpa only [e2,Option.some.injEq] using hc
   subst hc'
   have hrep:=zAT h hk hs e2
   refine ⟨?_,Rp.flat_ hrep⟩
   unfold zEd
   split
   ·rename_i v e3; rw [e3] at e2; cases e2
   ·simp only [e2]; rfl
  ·exact hs.elim
theorem yDo {y:Opd} (hs:(yEP F y).1) {c:OV} (hc:(yEP F y).2=some c):(zEd F y).1:=by
 unfold yEP at hs hc
 unfold zEd
 split at hs
 ·rename_i x e
  simp only [e]
 ·rename_i e
  split at hs
  ·rename_i p e2
   split
   ·trivial
   ·simp only [e2]; exact hs
  ·exact hs.elim
theorem yGv (wf:E.Wf) (h:InvG E S m β ow F a w) {x k y:Opd} {r kk:Nat} {o:Oper} (hd:o.dst=none) (hr:r<E.N) {t:TypeId} {x' k' y':Operand} (ho:o.op = .mapUpdate t x' k' y'∨o.op = .insert t x' k' y') (hx:zAp E.N x x'=true) (hk:zAp E.N k k'=true) (hy:zAp E.N y y'=true) (hm:zUM P t kk=true)
  {K:List Ct→Prop} {X:Value→List Ct→Prop} {Q:Exit→Act→World→Prop} (hW:opW P (.mps x r kk k y) F K X):o.wp P a w (zDU E S K) Q:=by
 simp only [opW] at hW
 obtain ⟨b,ks,vs,us,f,e1,e2,e3,e4,e5,e6,e7,e8,e9,e10,e11,e12,hyr,hsr,hK⟩:=zPR h hr hx hk hW
 obtain ⟨kt,et,hu,ht⟩:=zUW hm
 have hrun:=yG5 (v:=a.eval y') hu ht (yDm ht) e7 e8 e2 e3 e4 e12
 split at hK
 ·rename_i c hc
  obtain ⟨fy,y1,y2,y3,y4,y5,y6⟩:=zPL wf h hy (yDo hsr hc) hyr
  obtain ⟨z1,z2⟩:=yDn h hy hsr hc
  rw [z1] at y1
  have hcl:(a.eval y').cells.toList=[a.eval y']:=by rw [zE8 z2]
  rw [hcl] at y1
  have hv2:OvR m w c (a.eval y') fy:=by
   simp only [OvL] at y1
   obtain ⟨v,us',f1,f2,q1,rfl,q3,rfl,rfl⟩:=y1
   injection q1 with q1 _
   rw [q1,List.append_nil]
   exact q3
  have hrD:InvG E S m β (dropB ow fy) (clr F F y) a w:=y4
  have hroot:(clr F F y).getD r .un = .ov (.one (.mp b ks vs)):=y5.trans e5
  have hnfy:∀ g ∈ b :: f,g ∉ fy:=by
   intro g hg hc'
   obtain ⟨s,q1,q2,_⟩:=y3 g hc'
   have:=(e11 g hg).1
   rw [q2] at this
   injection this with this
   injection this with this
   exact hyr s q1 this
  have hown:∀ g ∈ b :: f,dropB ow fy g=some (.key r)∧∀ o,m g o=none:=fun g hg=>⟨by unfold dropB; rw [if_neg (hnfy g hg)]; exact (e11 g hg).1,(e11 g hg).2⟩
  have hD:=zDb wf hrD fun g hg=>(hown g hg).1
  have hloose:=zBo hrD hown
  have hlb:=hloose b List.mem_cons_self
  have hW2:=hD.world hlb.1 hlb.2.2.2 hlb.2.1 (zUX (match zGk ks (a.eval k') with | some i=>.map (zBe ks (us.set i (a.eval y'))) ks.length | none=>.map (zBe (ks ++ [a.eval k']) (us ++ [a.eval y'])) (ks ++ [a.eval k']).length) b)
  have hbf:b ∉ f:=(List.nodup_cons.1 e10).1
  have hkeep:∀ (o:Obj) (g:Nat),g ∈ f ++ fy→(zDm w b o).heap[g]? = w.heap[g]?:=by
   intro o g hg
   refine zIT ?_
   rintro rfl
   rcases List.mem_append.1 hg with hg | hg
   ·exact hbf hg
   ·exact hnfy g List.mem_cons_self hg
  have hlo2:Loose S m (zDm w b (match zGk ks (a.eval k') with | some i=>.map (zBe ks (us.set i (a.eval y'))) ks.length | none=>.map (zBe (ks ++ [a.eval k']) (us ++ [a.eval y'])) (ks ++ [a.eval k']).length)) (dropB (dropB ow fy) (b :: f)) ((b :: f) ++ fy):=
   (hloose.append y6.dropB).grow (by simp [zDm])
  have hnd:((b :: f) ++ fy).Nodup:=List.nodup_append.2 ⟨e10,y2,fun p hp q hq e=>hnfy p hp (e ▸ hq)⟩
  have hnew:∃ f',OvR m (zDm w b (match zGk ks (a.eval k') with | some i=>.map (zBe ks (us.set i (a.eval y'))) ks.length | none=>.map (zBe (ks ++ [a.eval k']) (us ++ [a.eval y'])) (ks ++ [a.eval k']).length)) (zZB b ks vs (a.eval k') c) (.map (some b)) f'∧f'.Nodup∧∀ g ∈ f',g ∈ (b :: f) ++ fy:=by
   unfold zZB
   cases hi:zGk ks (a.eval k') with
   |none=>
    refine ⟨b :: (f ++ fy),?_,by simpa using hnd,fun g hg=>by simpa using hg⟩
    simp only [OvR]
    refine ⟨us ++ [a.eval y'],f ++ fy,trivial,zT7 e7,by simp [e8],?_,rfl,?_⟩
    ·refine (OvL.congr m.le_refl _ _ _ (fun g hg=>hkeep _ g (List.mem_append_left _ hg)) e9).append ?_
     simp only [OvL]
     exact ⟨_,[],fy,[],rfl,by simp,OvR.congr m.le_refl _ _ _ (fun g hg=>hkeep _ g (List.mem_append_right _ hg)) hv2,rfl,rfl⟩
    ·intro q hq
     rcases List.mem_append.1 hq with hq | hq
     ·exact e12 q hq
     ·rw [List.mem_singleton.1 hq]; exact e3
   |some i=>
    have hil:i<ks.length:=by
     unfold zGk at hi
     exact (List.findIdx?_eq_some_iff_getElem.1 hi).1
    have hvl:i<vs.length:=by rw [← e9.length,e8]; exact hil
    obtain ⟨u,f1,fx,f2,rfl,_,_,hput⟩:=e9.put hvl
    have hsub:∀ g ∈ f1 ++ (fy ++ f2),g ∈ (f1 ++ (fx ++ f2)) ++ fy:=by
     intro g hg
     simp only [List.mem_append] at hg ⊢
     rcases hg with hg | hg | hg
     ·exact .inl (.inl hg)
     ·exact .inr hg
     ·exact .inl (.inr (.inr hg))
    refine ⟨b :: (f1 ++ (fy ++ f2)),?_,?_,fun g hg=>?_⟩
    ·simp only [OvR]
     refine ⟨us.set i (a.eval y'),f1 ++ (fy ++ f2),trivial,zT7 e7,by simp [e8],?_,rfl,e12⟩
     exact hput _ _ _ _ (fun g hg=>hkeep _ g (List.mem_append_left _ (by simp only [List.mem_append] at hg ⊢; rcases hg with hg | hg; exact .inl hg; exact .inr (.inr hg)))) (OvR.congr m.le_refl _ _ _ (fun g hg=>hkeep _ g (List.mem_append_right _ hg)) hv2)
    ·have hp:((f1 ++ (fx ++ f2)) ++ fy).Perm (fx ++ (f1 ++ (fy ++ f2))):=List.perm_iff_count.2 fun x=>by simp only [List.count_append]; omega
     have h1:((f1 ++ (fx ++ f2)) ++ fy).Nodup:=(List.nodup_cons.1 (show (b :: ((f1 ++ (fx ++ f2)) ++ fy)).Nodup from hnd)).2
     have h2:=hp.nodup_iff.1 h1
     rw [List.nodup_append] at h2
     refine List.nodup_cons.2 ⟨fun hc'=>?_,h2.2.1⟩
     have h3:=(List.nodup_cons.1 (show (b :: ((f1 ++ (fx ++ f2)) ++ fy)).Nodup from hnd)).1
     exact h3 (hsub b hc')
    ·rcases List.mem_cons.1 hg with rfl | hg
     ·exact List.mem_append_left _ List.mem_cons_self
     ·have:=hsub g hg
      simp only [List.mem_append,List.mem_cons] at this ⊢
      rcases this with h1 | h1
      ·exact .inl (.inr h1)
      ·exact .inr h1
  obtain ⟨f',hn1,hn2,hn3⟩:=hnew
  have hA:=zFe wf hW2 (.inl ⟨hr,e6.symm⟩) hn1 hn2 (hlo2.sub hn3)
  rw [List.set_set] at hA
  have hre:(execOp a.eval o).run P w = .ok .skip (zDm w b (match zGk ks (a.eval k') with | some i=>.map (zBe ks (us.set i (a.eval y'))) ks.length | none=>.map (zBe (ks ++ [a.eval k']) (us ++ [a.eval y'])) (ks ++ [a.eval k']).length)):=by
   unfold execOp
   rcases ho with ho | ho <;> rw [ho] <;> simp only [Sem.run_bind,e1,hrun,Result.andThen_ok,Sem.run_pure]
  refine zFb hre ⟨_,hK,m,β,zEJ (dropB (dropB ow fy) (b :: f)) f' r,?_⟩
  rw [hd]
  exact hA
 ·exact hK.elim
theorem yDp {t kt et:TypeId} {z:PV} (hu:P.underlying t=some (.map kt et)) (h:yGh P t z=true):∃ zv,(∀ w,(zeroValue et).run P w = .ok zv w)∧zBR [z] [zv]=true∧zBH P et=some false:=by
 unfold yGh at h
 rw [hu] at h
 simp only [Bool.and_eq_true,beq_iff_eq] at h
 obtain ⟨h1,h2⟩:=h
 split at h2
 ·rename_i zv hz
  simp only [Bool.and_eq_true] at h2
  obtain ⟨h2,h3⟩:=h2
  rw [zE8 h3] at h2
  cases hi:P.info? et with
  |none=>rw [hi] at hz; cases hz
  |some i=>
   rw [hi] at hz
   simp only [Option.bind_some] at hz
   exact ⟨zv,fun w=>by simp [zeroValue,typeInfo,hi,hz],h2,h1⟩
 ·cases h2
theorem zT8 {zv:Value} (h:zBR [.nl 0] [zv]=true):zv = .slice none 0 0:=by
 simp only [zBR,Bool.and_true,zKK] at h
 split at h <;> simp_all
theorem yB6 {z:PV} {zv:Value} (h:zBR [z] [zv]=true):Rp m z zv:=by
 have:=zDQ (m:=m) h
 simp only [RpL] at this
 obtain ⟨u,us,e,h1,_⟩:=this
 injection e with e _
 rw [e]; exact h1
theorem InvG.allocd (h:InvG E S m β ow F a w) (o:Obj):InvG E S m β ow F a (w.alloc o):=
 h.quiet ⟨m.le_refl,fun b x u hu=>by
  have h1:=h.mem b x u hu
  rw [← h1]
  exact World.cell?_of_block (Below.heap_alloc w o b (World.block_lt_of_cell? w _ h1)),fun b t hb=>Below.heap_alloc w o b (h.lt b t hb),fun _ _ _ _=>rfl,fun _ _ _ hu=>.inl hu,Pres.alloc _ w o⟩
theorem InvG.fresh (h:InvG E S m β ow F a w):ow w.heap.size=none∧∀ o,m w.heap.size o=none:=by
 refine ⟨?_,fun o=>?_⟩
 ·cases e:ow w.heap.size with
  |none=>rfl
  |some t=>exact absurd (h.lt _ t e) (Nat.lt_irrefl _)
 ·cases e:m w.heap.size o with
  |none=>rfl
  |some u=>exact absurd (World.block_lt_of_cell? w _ (h.mem _ _ _ e)) (Nat.lt_irrefl _)
theorem zPt (w:World) (o:Obj):(w.alloc o).heap[w.heap.size]? = some o:=by
 have e:(w.alloc o).heap=w.heap.push o:=rfl
 rw [e]; simp
theorem zSo {t kt et:TypeId} {kk b:Nat} (hu:P.underlying t=some (.map kt et)) (ht:zGp P kt kk=true) (hz:yGh P t (.nl 0)=true) {ks us:List Value} (hb:w.heap[b]? = some (.map (zBe ks us) ks.length)) (hl:us.length=ks.length) {k:Value} (hk:zSi k=kk) (hf:zGl k=true) (hks:∀ q ∈ ks,zSi q=kk) (hfs:∀ q ∈ ks,zGl q=true) :
  (Instr.lookup t (.map (some b)) k false).run P w = .ok (match zGk ks k with | some i=>us.getD i default | none=>.slice none 0 0) w:=by
 obtain ⟨zv,hzv,hz2,_⟩:=yDp hu hz
 have hzz:zv = .slice none 0 0:=zT8 hz2
 have hg:(getObj b).run P w = .ok (.map (zBe ks us) ks.length) w:=by simp [getObj,Sem.run,hb]
 have hc:=fun em=>zPQ (P:=P) (w:=w) ht hk em 9998
 have hfd:=zUV (w:=w) ht hl hk hf hks hfs
 unfold Instr.lookup
 simp only [Sem.run_bind,run_underlying hu,Result.andThen_ok,hg,Sem.run_pure,hc,hfd]
 cases hi:zGk ks k with
 |none=>simp only [Option.map_none,Sem.run_bind,hzv w,Result.andThen_ok,Sem.run_pure,hzz]; rfl
 |some i=>simp
theorem yG6 {t kt et:TypeId} {kk b:Nat} {z:PV} {ok:Bool} (hu:P.underlying t=some (.map kt et)) (ht:zGp P kt kk=true) (hz:yGh P t z=true) {ks us:List Value} {vs:List OV} {f:List Nat} (hb:w.heap[b]? = some (.map (zBe ks us) ks.length)) (hl:us.length=ks.length) {k:Value} (hk:zSi k=kk) (hf:zGl k=true) (hks:∀ q ∈ ks,zSi q=kk) (hfs:∀ q ∈ ks,zGl q=true) (hv:OvL m w vs us f) {v:PV} (hg:zZC vs z (zGk ks k)=some v) :
  ∃ u,(Instr.lookup t (.map (some b)) k ok).run P w = .ok (if ok then .tuple #[u,.bool (zGk ks k).isSome] else u) w∧Rp m v u:=by
 obtain ⟨zv,hzv,hz2,_⟩:=yDp hu hz
 have hgo:(getObj b).run P w = .ok (.map (zBe ks us) ks.length) w:=by simp [getObj,Sem.run,hb]
 have hc:=fun em=>zPQ (P:=P) (w:=w) ht hk em 9998
 have hfd:=zUV (w:=w) ht hl hk hf hks hfs
 cases hi:zGk ks k with
 |none=>
  rw [hi] at hg
  simp only [zZC,Option.some.injEq] at hg
  subst hg
  refine ⟨zv,?_,yB6 hz2⟩
  unfold Instr.lookup
  simp only [Sem.run_bind,run_underlying hu,Result.andThen_ok,hgo,Sem.run_pure,hc,hfd,hi,Option.map_none,hzv w]
  cases ok <;> rfl
 |some i=>
  rw [hi] at hg
  have hil:i<vs.length:=by
   rw [← hv.length,hl]
   unfold zGk at hi
   exact (List.findIdx?_eq_some_iff_getElem.1 hi).1
  obtain ⟨u,f1,fx,f2,rfl,q1,q2,_⟩:=hv.put hil
  simp only [zZC] at hg
  split at hg
  ·rename_i y hy
   injection hg with hg
   subst hg
   rw [hy] at q2
   simp only [OvR] at q2
   refine ⟨u,?_,q2.2⟩
   unfold Instr.lookup
   simp only [Sem.run_bind,run_underlying hu,Result.andThen_ok,hgo,Sem.run_pure,hc,hfd,hi,Option.map_some,q1]
   cases ok <;> rfl
  ·cases hg
theorem yI3 (wf:E.Wf) (h:InvG E S m β ow F a w) {d:Nat} {o:Oper} (hd:zAN E.N (some d) o.dst=true) {t:TypeId} (ho:o.op = .makeMap t none)
  {K:List Ct→Prop} {X:Value→List Ct→Prop} {Q:Exit→Act→World→Prop} (hW:opW P (.mmk d) F K X):o.wp P a w (zDU E S K) Q:=by
 obtain ⟨hd1,hd2⟩:=zAt hd
 have hr:(execOp a.eval o).run P w = .ok (.value (.map (some w.heap.size))) (w.alloc (.map #[] 0)):=by
  unfold execOp; rw [ho]
  rfl
 have hw:=h.allocd (.map #[] 0)
 have hfr:=h.fresh
 refine zAJ hr ⟨_,hW w.heap.size,?_⟩
 rw [hd1]
 refine zC5 wf hw hd2 (x:=.one (.mp w.heap.size [] [])) (fp:=[w.heap.size]) ?_ (by simp) fun g hg=>?_
 ·simp only [OvV,OvR]
  exact ⟨[],[],trivial,zPt w _,rfl,by simp only [OvL]; exact ⟨trivial,trivial⟩,rfl,by simp⟩
 ·obtain rfl:=List.mem_singleton.1 hg
  exact ⟨hfr.1,.inl h.pres.size,(Array.getElem?_eq_some_iff.1 (zPt w (.map #[] 0))).1,hfr.2⟩
theorem yI4 (wf:E.Wf) (h:InvG E S m β ow F a w) {d:Nat} {x k:Opd} {r kk:Nat} {z:PV} {ok:Bool} {o:Oper} (hd:zAN E.N (some d) o.dst=true) (hr:r<E.N) {t:TypeId} {x' k':Operand} (ho:o.op = .lookup t x' k' ok) (hx:zAp E.N x x'=true) (hk:zAp E.N k k'=true) (hm:zUM P t kk=true) (hz:yGh P t z=true)
  {K:List Ct→Prop} {X:Value→List Ct→Prop} {Q:Exit→Act→World→Prop} (hW:opW P (.mpl d x r kk k z ok) F K X):o.wp P a w (zDU E S K) Q:=by
 obtain ⟨hd1,hd2⟩:=zAt hd
 simp only [opW] at hW
 obtain ⟨b,ks,vs,us,f,e1,e2,e3,e4,e5,e6,e7,e8,e9,e10,e11,e12,hK⟩:=zPR h hr hx hk hW
 obtain ⟨kt,et,hu,ht⟩:=zUW hm
 split at hK
 ·rename_i v hv
  obtain ⟨u,hu1,hu2⟩:=yG6 (m:=m) (w:=w) (ok:=ok) hu ht hz e7 e8 e2 e3 e4 e12 e9 hv
  have hre:(execOp a.eval o).run P w = .ok (.value (if ok then .tuple #[u,.bool (zGk ks (a.eval k')).isSome] else u)) w:=by
   unfold execOp; rw [ho]
   simp only [Sem.run_bind,e1,hu1,Result.andThen_ok,Sem.run_pure]
  refine zAJ hre ⟨_,hK,m,β,ow,?_⟩
  rw [hd1]
  refine h.slot wf hd2 ?_
  cases ok with
  |true=>exact ⟨[u,.bool (zGk ks (a.eval k')).isSome],rfl,_,_,rfl,hu2,_,_,rfl,⟨rfl,rfl⟩,rfl⟩
  |false=>exact hu2
 ·exact hK.elim
theorem yI5 (wf:E.Wf) (h:InvG E S m β ow F a w) {d:Nat} {x k:Opd} {r kk e kw:Nat} {o:Oper} (hd:zAN E.N (some d) o.dst=true) (hr:r<E.N) {t:TypeId} {x' k':Operand} (ho:o.op = .lookup t x' k' false) (hx:zAp E.N x x'=true) (hk:zAp E.N k k'=true) (hm:zUM P t kk=true) (hz:yGh P t (.nl 0)=true)
  {K:List Ct→Prop} {X:Value→List Ct→Prop} {Q:Exit→Act→World→Prop} (hW:opW P (.mpv d x r kk k e kw) F K X):o.wp P a w (zDU E S K) Q:=by
 obtain ⟨hd1,hd2⟩:=zAt hd
 simp only [opW] at hW
 obtain ⟨b,ks,vs,us,f,e1,e2,e3,e4,e5,e6,e7,e8,e9,e10,e11,e12,hdr,hK⟩:=zPR h hr hx hk hW
 obtain ⟨kt,et,hu,ht⟩:=zUW hm
 have hval:=zSo (w:=w) hu ht hz e7 e8 e2 e3 e4 e12
 have hre:(execOp a.eval o).run P w = .ok (.value (match zGk ks (a.eval k') with | some i=>us.getD i default | none=>.slice none 0 0)) w:=by
  unfold execOp; rw [ho]
  simp only [Sem.run_bind,e1,hval,Result.andThen_ok,Sem.run_pure]
 split at hK
 ·rename_i i hi
  obtain ⟨hil,hK⟩:=hK
  rw [hi] at hre
  obtain ⟨u,f1,fx,f2,rfl,q1,q2,hput⟩:=e9.put hil
  simp only [q1] at hre
  have hD:=zDb wf h fun g hg=>(e11 g hg).1
  have hloose:=zBo h e11
  have hbn:=(List.nodup_cons.1 e10)
  have hnew:OvR m w (.mp b ks (vs.set i .hole)) (.map (some b)) (b :: (f1 ++ f2)):=by
   simp only [OvR]
   refine ⟨us,f1 ++ f2,trivial,e7,e8,?_,rfl,e12⟩
   have hfl:zEH u=true:=q2.flat_
   have:=hput w .hole u [] (fun _ _=>rfl) (by simp only [OvR]; exact ⟨trivial,hfl⟩)
   have e:us.set i u=us:=by
    have hul:i<us.length:=by rw [e9.length]; exact hil
    rw [← q1,List.getD_eq_getElem?_getD,List.getElem?_eq_getElem hul]
    simp
   rw [e] at this
   simpa using this
  have hp:(b :: (f1 ++ (fx ++ f2))).Perm (fx ++ (b :: (f1 ++ f2))):=List.perm_iff_count.2 fun x=>by simp only [List.count_append,List.count_cons]; omega
  have hnd:=hp.nodup_iff.1 e10
  rw [List.nodup_append] at hnd
  have hA:=zFe wf hD (.inl ⟨hr,e6.symm⟩) hnew hnd.2.1 (hloose.sub fun x hx=>by
   simp only [List.mem_append,List.mem_cons] at hx ⊢
   rcases hx with hx | hx | hx
   ·exact .inl hx
   ·exact .inr (.inl hx)
   ·exact .inr (.inr (.inr hx)))
  rw [List.set_set] at hA
  refine zAJ hre ⟨_,hK,?_⟩
  rw [hd1]
  refine zC5 wf hA hd2 (x:=.one (vs.getD i .hole)) (fp:=fx) q2 hnd.1 fun g hg=>?_
  have hl:=hloose g (by simp [hg])
  refine ⟨?_,hl.2⟩
  unfold zEJ
  rw [if_neg (fun hc=>hnd.2.2 g hg g hc rfl)]
  exact hl.1
 ·rename_i hi
  rw [hi] at hre
  refine zAJ hre ⟨_,hK,m,β,ow,?_⟩
  rw [hd1]
  refine h.slot wf hd2 ⟨[],?_,List.nodup_nil,by simp⟩
  exact zCe.2 ⟨[],[],World.ownsRow_nil w 0 e kw,by simp only [List.flatten_nil,OvL]; exact ⟨trivial,trivial⟩,by simp,by simp [blk,Value.ownBlock],fun b hb=>by cases hb⟩
theorem zPS {z:Array Value} {k:Nat} (hk:z.size=k) (h0:0<k):∀ n,(madeCells z (n * k)).toList=(List.replicate n z.toList).flatten
 |0=>by simp [madeCells]
 |n+1=>by
  rw [List.replicate_succ',List.flatten_append,← zPS hk h0 n]
  simp only [madeCells,Array.toList_map,Array.toList_range,List.flatten_cons,List.flatten_nil,List.append_nil]
  rw [show (n+1) * k=n * k+k by rw [Nat.add_mul]; omega,List.range_add,List.map_append,List.map_map]
  congr 1
  apply List.ext_getElem?
  intro j
  rw [List.getElem?_map]
  by_cases hj:j<k
  ·rw [List.getElem?_range hj]
   simp only [Option.map_some,Function.comp]
   rw [show (n * k+j) % z.size=j by rw [hk,Nat.add_comm,Nat.add_mul_mod_self_right,Nat.mod_eq_of_lt hj]]
   simp [hk,hj]
  ·rw [List.getElem?_eq_none (by simp; omega),List.getElem?_eq_none (by rw [Array.length_toList]; omega)]
   rfl
theorem zIU {zs:List PV} {us:List Value} (h:RpL m zs us):∀ n,RpL m (List.replicate n zs).flatten (List.replicate n us).flatten
 |0=>by simp [RpL]
 |n+1=>by
  simp only [List.replicate_succ,List.flatten_cons]
  exact h.append (zIU h n)
theorem yI6 (wf:E.Wf) (h:InvG E S m β ow F a w) {d e k:Nat} {zs:List PV} {x:Opd} {o:Oper} (hd:zAN E.N (some d) o.dst=true) {t:TypeId} {x1 x2:Operand} (ho:o.op = .makeSlice t x1 x2) (k1:zAp E.N x x1=true) (k2:zAp E.N x x2=true) (he:zDE P t e k=true) (hz:(match (P.info? e).bind (·.zero) with | some zv=>zBR zs zv.cells.toList | none=>false)=true)
  {K:List Ct→Prop} {X:Value→List Ct→Prop} {Q:Exit→Act→World→Prop} (hW:opW P (.vmk d e k zs x) F K X):o.wp P a w (zDU E S K) Q:=by
 obtain ⟨hd1,hd2⟩:=zAt hd
 simp only [opW] at hW
 split at hW
 ·rename_i kd n e1
  obtain ⟨hn,h0,hb,hl,hK⟩:=hW
  have ev1:a.eval x1 = .int kd n:=(zAT h k1 hn e1).1
  have ev2:a.eval x2 = .int kd n:=(zAT h k2 hn e1).1
  obtain ⟨hu,hkp,ie,z,hie,hsz,hby,hz',hzs⟩:=zIQ he
  obtain ⟨q,rfl⟩:∃ q:Nat,n=(q:Int):=⟨n.toNat,(Int.toNat_of_nonneg h0).symm⟩
  have hq:q * 4096≤140737488355328:=by omega
  have hbb:ie.bytes * q≤281474976710656:=Nat.le_trans (Nat.mul_le_mul_right q hby) yO
  obtain ⟨w',hr,how,hgrow⟩:=run_make_full (P:=P) w 0 t e ie z k hu hie hz' hsz kd kd q hbb (by simp [maxLen]; omega) (Nat.zero_le _)
  rw [zPS hzs hkp] at how
  have hzr:RpL m zs z.cells.toList:=by
   rw [hie] at hz
   simp only [Option.bind_some,hz'] at hz
   exact zDQ hz
  have hre:(execOp a.eval o).run P w = .ok (.value (.slice (some ⟨w.heap.size,0,none⟩) q q)) w':=by
   unfold execOp; rw [ho]
   simp only [Sem.run_bind,ev1,ev2,hr,Result.andThen_ok,Sem.run_pure]
  have hfr:=h.fresh
  have hDw:InvG E S m β ow F a w':=h.world (b:=w.heap.size) hfr.1 hfr.2 (.inl h.pres.size) ⟨hgrow.os,hgrow.tape,hgrow.output,hgrow.size,fun g hg _=>hgrow.block g hg (by simp)⟩
  refine zAJ hre ⟨_,hK,?_⟩
  rw [hd1]
  refine zC5 wf hDw hd2 (x:=.one (.os none e k (List.replicate q (zs.map .p)))) (fp:=[w.heap.size]) ?_ (by simp) fun g hg=>?_
  ·refine zCe.2 ⟨(List.replicate q z.cells.toList).flatten,[],by simpa using how,?_,?_,by simp [blk,Value.ownBlock],fun b hb=>by cases hb⟩
   ·have:=OvL.of_rp (w:=w') (zIU hzr q)
    simpa [List.map_flatten] using this
   ·intro r hr
    rw [List.eq_of_mem_replicate hr,List.length_map,hl]
  ·obtain rfl:=List.mem_singleton.1 hg
   exact ⟨hfr.1,.inl h.pres.size,(how.lt w.heap.size rfl).2,hfr.2⟩
 ·exact hW.elim
theorem yI7 (wf:E.Wf) (h:InvG E S m β ow F a w) {d x:Nat} {hi:Opd} {o:Oper} (hd:zAN E.N (some d) o.dst=true) {t:TypeId} {x':Operand} {hi':Option Operand} (ho:o.op = .slice t x' none hi' none) (hk:zAp E.N (.t x) x'=true) (hk2:zEf E.N (some hi) hi'=true)
  {et:TypeId} (he:sliceElem? P t=some et) {sz:Nat} (hsz:zDB P et=some sz) {K:List Ct→Prop} {Q:Exit→Act→World→Prop} {pb:Option Nat} {e k:Nat} {rows:List (List OV)} {ik:IntKind} {n:Int} (hx:F.getD x .un = .ov (.one (.os pb e k rows))) (hn:(zAv F hi).pv? = some (.one (.v (.int ik n)))) (hnd:(zAv F hi).need)
  (h0:0≤n) (h1:n≤rows.length) (hK:K ((F.set x .un).set d (.ov (.one (.os pb e k (rows.take n.toNat)))))):o.wp P a w (zDU E S K) Q:=by
 obtain ⟨hd1,hd2⟩:=zAt hd
 obtain ⟨rfl,hxN⟩:=zBw hk
 have hrep:=h.slots x hxN
 rw [hx] at hrep
 obtain ⟨fp,r1,r2,r3⟩:=hrep
 have r1':OvR m w (.os pb e k rows) (a.tmps.getD x undef) fp:=r1
 obtain ⟨A,c,hv,hlc,hcm⟩:=(zHC r1).1
 have hv':a.eval (.tmp x) = .slice A rows.length c:=hv
 have hbnd:zCp F rows.length (some hi)=((zAv F hi).need,n):=by simp only [zCp,hn]
 have hb:=zDh (P:=P) h (lo:=none) (lo':=none) (hi:=some hi) yF hk2 true rows.length c hlc trivial (by rw [hbnd]; exact hnd) (by simp [zCp]) (by rw [hbnd]; simpa [zCp] using h0) (by rw [hbnd]; exact h1)
 rw [hbnd] at hb
 simp only [Option.map_none,zCp,Int.toNat_zero] at hb
 have hr:(execOp a.eval o).run P w = .ok (.value (.slice A n.toNat c)) w:=by
  unfold execOp; rw [ho]
  have hu:=zCb he
  simp only [hv',Instr.sliceAt,Instr.slice,Sem.run_bind,Sem.run_pure,Result.andThen_ok,run_underlying hu,Option.map_none,hb,zBN hsz]
  simp only [Nat.sub_zero,Nat.zero_mul]
  by_cases hc0:c=0
  ·simp [hc0]
  ·have hA:A.map (·.add 0)=A:=by
    cases A with
    |none=>rfl
    |some q=>simp [Addr.add]
   simp [hc0,hA]
 obtain ⟨xs,f,g1,g2,g3,rfl,g5⟩:=zCe.1 r1'
 rw [hv] at g1 g5
 obtain ⟨q,rfl⟩:∃ q:Nat,n=(q:Int):=⟨n.toNat,(Int.toNat_of_nonneg h0).symm⟩
 have hq:q≤rows.length:=by omega
 simp only [Int.toNat_natCast] at hr hK ⊢
 have hsplit:rows.flatten=(rows.take q).flatten ++ (rows.drop q).flatten:=by rw [← List.flatten_append,List.take_append_drop]
 rw [hsplit] at g2
 obtain ⟨us1,us2,f1,f2,rfl,rfl,q1,q2⟩:=g2.split
 have hl1:us1.length=q * k:=by
  rw [q1.length]
  have:∀ (l:List (List OV)),(∀ r ∈ l,r.length=k)→l.flatten.length=l.length * k:=by
   intro l hl
   induction l with
   |nil=>simp
   |cons r l ih=>
    rw [List.flatten_cons,List.length_append,ih fun r' hr'=>hl r' (List.mem_cons_of_mem _ hr'),hl r List.mem_cons_self,List.length_cons,Nat.succ_mul]
    omega
  rw [this _ fun r hr=>g3 r (List.mem_of_mem_take hr),List.length_take,Nat.min_eq_left hq]
 have hblk:blk (.slice A q c)=blk (.slice A rows.length c):=by
  cases A <;> rfl
 have hnew:OvR m w (.os pb e k (rows.take q)) (.slice A q c) (blk (.slice A q c) ++ f1):=by
  refine zCe.2 ⟨us1,f1,?_,q1,fun r hr=>g3 r (List.mem_of_mem_take hr),rfl,fun b hb hne=>?_⟩
  ·rw [List.length_take,Nat.min_eq_left hq]
   refine ⟨hl1,?_⟩
   rcases g1.2 with ⟨e1,e2⟩ | ⟨g,cap,cur,e1,e2,e3,e4,e5,e6,e7⟩
   ·injection e1 with e1 e1' e1''
    subst e1
    have:q=0:=by omega
    subst this
    exact .inl ⟨by rw [e1''],rfl⟩
   ·injection e1 with e1 e1' e1''
    subst e1; subst e1''
    refine .inr ⟨g,c,cur,rfl,e2,e3,by omega,e5,e6,?_⟩
    have:us1=(us1 ++ us2).take (q * k):=by rw [← hl1,List.take_left]
    rw [this,← e7,List.take_take,Nat.min_eq_left (Nat.mul_le_mul_right _ hq)]
  ·have hne':rows≠[]:=by rintro rfl; simp at hne
   have:=g5 b hb hne'
   cases A with
   |none=>simp [Value.ownBlock] at this
   |some ad=>exact this
 have hsub:∀ g ∈ blk (.slice A q c) ++ f1,g ∈ blk (a.tmps.getD x undef) ++ (f1 ++ f2):=by
  intro g hg
  rw [hv,← hblk]
  simp only [List.mem_append] at hg ⊢
  rcases hg with hg | hg
  ·exact .inl hg
  ·exact .inr (.inl hg)
 have hnd2:(blk (.slice A q c) ++ f1).Nodup:=by
  rw [hv,← hblk,← List.append_assoc] at r2
  exact (List.nodup_append.1 r2).1
 have hD:=zDb wf h fun g hg=>(r3 g hg).1
 have hloose:=zBo h r3
 refine zAJ hr ⟨_,hK,?_⟩
 rw [hd1]
 exact zC5 wf hD hd2 (x:=.one (.os pb e k (rows.take q))) (fp:=blk (.slice A q c) ++ f1) hnew hnd2 fun g hg=>hloose g (hsub g hg)
end
end Go.Hx
end

section
/-
 THE ABSTRACT LAYER, NINTH TEXT: every operation, every region in the text's order is sound. Generic over the program. No condition.
-/
namespace Go.Hx
open Go.RowKit
variable [Glob]
section
variable {P:Program} {E:Env} {S:Start} {m:Mem} {β:Bx} {ow:Ow} {F:List Ct} {a:Act} {w:World}
theorem zMa {f:FuncId} (h:zCC P f=true) (args:Array Value) (w:World):(callFunc f args).run P w = .ok (.enter f args) w:=by
 unfold zCC at h
 split at h
 ·rename_i fn hf
  simp only [Bool.and_eq_true,Bool.not_eq_true'] at h
  obtain ⟨h1,h2⟩:=h
  have h3:fn.body≠none:=by intro hb; rw [hb] at h1; cases h1
  have h4 : fn.name ≠ "runtime.NumGoroutine" := by intro hb; rw [hb] at h2; simp at h2
  simp [callFunc,hf,h3,h4]
 ·cases h
theorem zFO {c:Call} {o:Oper} (ho:o.op = .call c) {x:Operand} (hc:c.callee = .value x) {f:FuncId} {us:List Value} (hx:a.eval x = .func (.func f) #[] us.toArray) (hf:zCC P f=true) :
  (execOp a.eval o).run P w = .ok (.enter f (c.args.toList.map a.eval ++ us).toArray) w:=by
 unfold execOp
 rw [ho]
 simp only [resolve,hc,hx,Deferred.ofValue,Sem.run_bind,Sem.run_pure,Result.andThen_ok,invoke]
 rw [zMa hf]
 congr 2
 apply Array.ext'
 simp
theorem zUY {args:List (Opd × AM)} (h:yGf args=true):zBg args=none∧zDV args=none:=by
 induction args with
 |nil=>exact ⟨rfl,rfl⟩
 |cons x r ih=>
  obtain ⟨x,mo⟩:=x
  simp only [yGf,List.all_cons,Bool.and_eq_true] at h
  obtain ⟨h1,h2⟩:=h
  cases mo <;> simp at h1
  exact ih h2
theorem yE9 (wf:E.Wf) (h:InvG E S m β ow F a w) {d f x:Nat} {o:Oper} (hd:zAN E.N (some d) o.dst=true) {c:Call} (ho:o.op = .call c) (hc:c.callee = .value (.func f)) {y:Operand} (hargs:c.args.toList=[y]) (hk:zAp E.N (.t x) y=true) {K:List Ct→Prop} {Q:Exit→Act→World→Prop} {v v':OVal}
  (hx:F.getD x .un = .ov v) (hcon:zIM P f v v') (hK:K ((F.set x .un).set d (.ov v'))):o.wp P a w (zDU E S K) Q:=by
 obtain ⟨hd1,hd2⟩:=zAt hd
 obtain ⟨rfl,hyN⟩:=zBw hk
 have hrep:=h.slots x hyN
 rw [hx] at hrep
 obtain ⟨fp,r1,r2,r3⟩:=hrep
 have hD:=zDb wf h fun g hg=>(r3 g hg).1
 have hloose:=zBo h r3
 have hop:=zFO (a:=a) (w:=w) ho hc (f:=f) (us:=[]) rfl hcon.1
 rw [hargs] at hop
 unfold Oper.wp
 rw [hop]
 refine Calls.mono (hcon.2 m w (a.tmps.getD x undef) fp h.mem r1 r2 (fun g hg=>⟨h.gown (r3 g hg).1,(r3 g hg).2⟩) h.glob) fun e w' hp=>?_
 obtain ⟨m',p1,p2,p3,p4,u',fp',rfl,q1,q2,q3⟩:=hp
 have hkeep:∀ b t,dropB ow fp b=some t→b ∉ fp∧b<w.heap.size:=by
  intro b t hb
  refine ⟨fun hc=>by simp [dropB,hc] at hb,hD.lt b t hb⟩
 have hQ:InvG E S m' β (dropB ow fp) (F.set x .un) a w':=hD.quiet {
  le:=p1
  mem:=p2
  heap:=fun b t hb=>p3.block b (hkeep b t hb).2 (hkeep b t hb).1
  free:=fun b t o hb=>by
   cases hm:m' b o with
   |none=>
    cases hm2:m b o with
    |none=>rfl
    |some u=>rw [p1 b o u hm2] at hm; cases hm
   |some u=>
    rcases p4 b o u hm with h1 | h1 | h1
    ·exact h1.symm
    ·have:=(hkeep b t hb).2; omega
    ·exact ((hkeep b t hb).1 h1).elim
  new:=fun b o u hu=>by
   rcases p4 b o u hu with h1 | h1 | h1
   ·exact .inl h1
   ·exact .inr (.inl (Nat.le_trans h.pres.size h1))
   ·rcases (hloose b h1).2.1 with h2 | h2
    ·exact .inr (.inl h2)
    ·exact .inr (.inr h2)
  pres:=p3.mono fun b _ hb=>(hloose b hb).2.1.symm }
 refine ⟨_,hK,?_⟩
 rw [hd1]
 refine zC5 wf hQ hd2 q1 q2 fun g hg=>⟨?_,?_,q1.lt g hg,(q3 g hg).2⟩
 ·rcases (q3 g hg).1 with h1 | h1
  ·cases ho:dropB ow fp g with
   |none=>rfl
   |some t=>have:=hD.lt g t ho; omega
  ·exact (hloose g h1).1
 ·rcases (q3 g hg).1 with h1 | h1
  ·exact .inl (Nat.le_trans h.pres.size h1)
  ·exact (hloose g h1).2.1
theorem yFa (wf:E.Wf) (h:InvG E S m β ow F a w) {d f x:Nat} {o:Oper} (hd:zAN E.N (some d) o.dst=true) {c:Call} (ho:o.op = .call c) (hc:c.callee = .value (.func f)) {y:Operand} (hargs:c.args.toList=[y]) (hk:zAp E.N (.t x) y=true) {K:List Ct→Prop} {Q:Exit→Act→World→Prop} {v:OVal} {cs:List OV} {xs:List PV}
  (hx:F.getD x .un = .ov v) (hcon:zIM P f v (.agg cs)) (hfz:zZx cs=some xs) (hK:K ((F.set x .un).set d (.pv (.agg xs)))):o.wp P a w (zDU E S K) Q:=by
 obtain ⟨hd1,hd2⟩:=zAt hd
 obtain ⟨rfl,hyN⟩:=zBw hk
 have hrep:=h.slots x hyN
 rw [hx] at hrep
 obtain ⟨fp,r1,r2,r3⟩:=hrep
 have hD:=zDb wf h fun g hg=>(r3 g hg).1
 have hloose:=zBo h r3
 have hop:=zFO (a:=a) (w:=w) ho hc (f:=f) (us:=[]) rfl hcon.1
 rw [hargs] at hop
 unfold Oper.wp
 rw [hop]
 refine Calls.mono (hcon.2 m w (a.tmps.getD x undef) fp h.mem r1 r2 (fun g hg=>⟨h.gown (r3 g hg).1,(r3 g hg).2⟩) h.glob) fun e w' hp=>?_
 obtain ⟨m',p1,p2,p3,p4,u',fp',rfl,q1,q2,q3⟩:=hp
 have hkeep:∀ b t,dropB ow fp b=some t→b ∉ fp∧b<w.heap.size:=by
  intro b t hb
  refine ⟨fun hc=>by simp [dropB,hc] at hb,hD.lt b t hb⟩
 have hQ:InvG E S m' β (dropB ow fp) (F.set x .un) a w':=hD.quiet {
  le:=p1
  mem:=p2
  heap:=fun b t hb=>p3.block b (hkeep b t hb).2 (hkeep b t hb).1
  free:=fun b t o hb=>by
   cases hm:m' b o with
   |none=>
    cases hm2:m b o with
    |none=>rfl
    |some u=>rw [p1 b o u hm2] at hm; cases hm
   |some u=>
    rcases p4 b o u hm with h1 | h1 | h1
    ·exact h1.symm
    ·have:=(hkeep b t hb).2; omega
    ·exact ((hkeep b t hb).1 h1).elim
  new:=fun b o u hu=>by
   rcases p4 b o u hu with h1 | h1 | h1
   ·exact .inl h1
   ·exact .inr (.inl (Nat.le_trans h.pres.size h1))
   ·rcases (hloose b h1).2.1 with h2 | h2
    ·exact .inr (.inl h2)
    ·exact .inr (.inr h2)
  pres:=p3.mono fun b _ hb=>(hloose b hb).2.1.symm }
 have hl:Loose S m' w' (dropB ow fp) fp':=fun g hg=>⟨by
  rcases (q3 g hg).1 with h1 | h1
  ·cases ho:dropB ow fp g with
   |none=>rfl
   |some t=>have:=hD.lt g t ho; omega
  ·exact (hloose g h1).1,by
  rcases (q3 g hg).1 with h1 | h1
  ·exact .inl (Nat.le_trans h.pres.size h1)
  ·exact (hloose g h1).2.1,q1.lt g hg,(q3 g hg).2⟩
 obtain ⟨us,hus,hrep⟩:=q1
 obtain ⟨m2,g1,g2,g3,g4⟩:=OvL.freeze w' cs m' us fp' xs hrep hfz p2 q2 fun g hg=>(q3 g hg).2
 have hQ2:InvG E S m2 β (dropB ow fp) (F.set x .un) a w':=hQ.quiet {
  le:=g1
  mem:=g2
  heap:=fun _ _ _=>rfl
  free:=fun b t o hb=>g3 b o fun hc=>(by rw [(hl b hc).1] at hb; cases hb)
  new:=fun b o u hu=>(by
   by_cases hc:b ∈ fp'
   ·exact .inr (hl b hc).2.1
   ·rw [g3 b o hc] at hu; exact .inl hu)
  pres:=Pres.refl _ _ }
 refine ⟨_,hK,?_⟩
 rw [hd1]
 exact ⟨m2,β,_,hQ2.slot wf hd2 ⟨us,hus,g4⟩⟩
theorem yFb (wf:E.Wf) (h:InvG E S m β ow F a w) {d:Option Nat} {f r:Nat} {args:List (Opd × AM)} {o:Oper} (hd:zAN E.N d o.dst=true) {c:Call} (ho:o.op = .call c) (hc:c.callee = .value (.func f)) {y:Operand} {ys:List Operand} (hargs:c.args.toList=y :: ys) (hk:zAp E.N (.t r) y=true) (hk2:zF7 E args ys=true) {K:List Ct→Prop} {Q:Exit→Act→World→Prop} {v v':OV} {q:Option PVal}
  (hx:F.getD r .un = .ov (.one v)) (hdr:d≠some r) (hav:(zBF F args).1) (hK:K (zXK (F.set r (.ov (.one v'))) d (match q with | some p=>.pv p | none=>.un))) (hcon:zE9 P f v (zBF F args).2 v' q):o.wp P a w (zDU E S K) Q:=by
 obtain ⟨rfl,hyN⟩:=zBw hk
 have hrep:=h.slots r hyN
 rw [hx] at hrep
 obtain ⟨fp,r1,r2,r3⟩:=hrep
 have r1':OvR m w v (a.tmps.getD r undef) fp:=r1
 have hD:=zDb wf h fun g hg=>(r3 g hg).1
 have hloose:=zBo h r3
 have hop:=zFO (a:=a) (w:=w) ho hc (f:=f) (us:=[]) rfl hcon.1
 rw [hargs] at hop
 unfold Oper.wp
 rw [hop]
 simp only [List.map_cons,List.append_nil]
 refine Calls.mono (hcon.2 m w (a.tmps.getD r undef) fp (ys.map a.eval) h.mem r1' r2 (fun g hg=>⟨h.gown (r3 g hg).1,(r3 g hg).2⟩) h.glob (zD6 h hk2 hav).1) fun e w' hp=>?_
 obtain ⟨m',p1,p2,p3,p4,u',fp',rfl,q0,q1,q2,q3⟩:=hp
 have hkeep:∀ b t,dropB ow fp b=some t→b ∉ fp∧b<w.heap.size:=by
  intro b t hb
  refine ⟨fun hc=>by simp [dropB,hc] at hb,hD.lt b t hb⟩
 have hQ:InvG E S m' β (dropB ow fp) (F.set r .un) a w':=hD.quiet {
  le:=p1
  mem:=p2
  heap:=fun b t hb=>p3.block b (hkeep b t hb).2 (hkeep b t hb).1
  free:=fun b t o hb=>by
   cases hm:m' b o with
   |none=>
    cases hm2:m b o with
    |none=>rfl
    |some u=>rw [p1 b o u hm2] at hm; cases hm
   |some u=>
    rcases p4 b o u hm with h1 | h1 | h1
    ·exact h1.symm
    ·have:=(hkeep b t hb).2; omega
    ·exact ((hkeep b t hb).1 h1).elim
  new:=fun b o u hu=>by
   rcases p4 b o u hu with h1 | h1 | h1
   ·exact .inl h1
   ·exact .inr (.inl (Nat.le_trans h.pres.size h1))
   ·rcases (hloose b h1).2.1 with h2 | h2
    ·exact .inr (.inl h2)
    ·exact .inr (.inr h2)
  pres:=p3.mono fun b _ hb=>(hloose b hb).2.1.symm }
 have hl:Loose S m' w' (dropB ow fp) fp':=fun g hg=>⟨by
  rcases (q3 g hg).1 with h1 | h1
  ·cases ho:dropB ow fp g with
   |none=>rfl
   |some t=>have:=hD.lt g t ho; omega
  ·exact (hloose g h1).1,by
  rcases (q3 g hg).1 with h1 | h1
  ·exact .inl (Nat.le_trans h.pres.size h1)
  ·exact (hloose g h1).2.1,OvR.lt _ _ _ q1 g hg,(q3 g hg).2⟩
 have hA:=zFe wf hQ (.inl ⟨hyN,rfl⟩) q1 q2 hl
 rw [List.set_set] at hA
 refine ⟨_,hK,m',β,zEJ (dropB ow fp) fp' r,?_⟩
 cases d with
 |none=>
  have hn:o.dst=none:=by
   cases hh:o.dst with
   |none=>rfl
   |some x=>rw [hh] at hd; simp [zAN] at hd
  rw [hn]
  exact hA
 |some d=>
  obtain ⟨hd1,hd2⟩:=zAt hd
  rw [hd1]
  refine hA.slot wf hd2 ?_
  cases q with
  |none=>trivial
  |some p=>exact q0 p rfl
theorem yI8 (wf:E.Wf) (h:InvG E S m β ow F a w) {d T e:Nat} {o:Oper} (hd:zAN E.N (some d) o.dst=true) (ho:o.op = .alloc T) (hz:(match (P.info? T).bind (·.zero) with | some z=>zBR [.v (.pointer none),.nl 0] z.cells.toList | none=>false)=true)
  {K:List Ct→Prop} {X:Value→List Ct→Prop} {Q:Exit→Act→World→Prop} (hW:opW P (.bmk d T e) F K X):o.wp P a w (zDU E S K) Q:=by
 obtain ⟨hd1,hd2⟩:=zAt hd
 split at hz
 ·rename_i z hzz
  obtain ⟨it,hit,hz'⟩:=Option.bind_eq_some_iff.1 hzz
  have hzl:z.cells.toList=[.pointer none,.slice none 0 0]:=by
   match hl:z.cells.toList,hz with
   |[x,y],hz=>
    simp only [zBR,Bool.and_eq_true] at hz
    obtain ⟨h1,h2,_⟩:=hz
    have e1:x = .pointer none:=by
     simp only [zKK,Bool.and_eq_true] at h1
     exact (zII h1.1).symm
    have e2:=zT8 (zv:=y) (by simp only [zBR,Bool.and_true]; exact h2)
    rw [e1,e2]
   |[],hz=>simp [zBR] at hz
   |[_],hz=>simp [zBR] at hz
   |_ :: _ :: _ :: _,hz=>simp [zBR] at hz
  have hr:(execOp a.eval o).run P w = .ok (.value (.pointer (some ⟨w.heap.size,0,none⟩))) (w.alloc (.cells #[.pointer none,.slice none 0 0] T)):=by
   unfold execOp; rw [ho]
   have:z.cells = #[.pointer none,.slice none 0 0]:=by rw [← Array.toArray_toList (xs:=z.cells),hzl]
   simp [Instr.alloc,newVar,newRow,zeroValue,typeInfo,hit,hz',this]
  have hw:=h.allocd (.cells #[.pointer none,.slice none 0 0] T)
  have hfr:=h.fresh
  refine zAJ hr ⟨_,hW w.heap.size,?_⟩
  rw [hd1]
  refine zC5 wf hw hd2 (x:=.one (.bl T e w.heap.size [])) (fp:=[w.heap.size]) ?_ (by simp) fun g hg=>?_
  ·simp only [OvV,OvR]
   exact ⟨_,_,trivial,zPt w _,.inl rfl,World.ownsRow_nil _ 0 e 1,by simp [blk,Value.ownBlock]⟩
  ·obtain rfl:=List.mem_singleton.1 hg
   exact ⟨hfr.1,.inl h.pres.size,(Array.getElem?_eq_some_iff.1 (zPt w (.cells #[.pointer none,.slice none 0 0] T))).1,hfr.2⟩
 ·cases hz
theorem zFf (wf:E.Wf) (h:InvG E S m β ow F a w) {ho:HOp} {o:Oper} (hk:zCD P E ho o.op o.dst=true) {K:List Ct→Prop} {X:Value→List Ct→Prop} {Q:Exit→Act→World→Prop}
  (hQ:∀ v F' a' w',X v F'→Inv E S F' a' w'→Q (.panic [{ v,recovered:=false }]) a' w') (hW:opW P ho F K X):o.wp P a w (zDU E S K) Q:=by
 cases ho with
 |val d v=>
  simp only [zCD,Bool.and_eq_true] at hk
  exact yIK wf h hk.1 hk.2 hW.1 hW.2
 |call d f args=>
  simp only [zCD] at hk
  split at hk
  ·rename_i c ho
   simp only [Bool.and_eq_true] at hk
   obtain ⟨⟨h1,h2⟩,h3⟩:=hk
   split at h2
   ·rename_i g hc
    simp only [beq_iff_eq] at h2
    subst h2
    have hcall:zCC P g=true:=by obtain ⟨_,r,hcon,_⟩:=hW; exact hcon.1
    have:=zFO (a:=a) (w:=w) ho hc (f:=g) (us:=[]) rfl hcall
    refine zZF wf h h1 h3 (extra:=[]) (us2:=[]) (by simp) rfl this hQ ?_
    simpa [opW] using hW
   ·cases h2
  ·cases hk
 |callg d f args=>
  simp only [zCD] at hk
  split at hk
  ·rename_i c ho
   simp only [Bool.and_eq_true] at hk
   obtain ⟨⟨h1,h2⟩,h3⟩:=hk
   split at h2
   ·rename_i g hc
    simp only [beq_iff_eq] at h2
    subst h2
    have hcall:zCC P g=true:=by obtain ⟨_,r,hcon,_⟩:=hW; exact hcon.1
    have:=zFO (a:=a) (w:=w) ho hc (f:=g) (us:=[]) rfl hcall
    refine zZF wf h h1 h3 (extra:=[]) (us2:=[]) (by simp) rfl this hQ ?_
    simpa [opW] using hW
   ·cases h2
  ·cases hk
 |callv d x args=>
  simp only [zCD] at hk
  split at hk
  ·rename_i c ho
   simp only [Bool.and_eq_true] at hk
   obtain ⟨⟨⟨h1,h2⟩,h3⟩,h4⟩:=hk
   split at h2
   ·rename_i y hc
    simp only [opW] at hW
    split at hW
    ·rename_i f caps e1
     obtain ⟨n1,hW⟩:=hW
     obtain ⟨us,hv,hr⟩:=zAT h h2 n1 e1
     have hcall:zCC P f=true:=by obtain ⟨_,r,hcon,_⟩:=hW; exact hcon.1
     have:=zFO (w:=w) ho hc hv hcall
     refine zZF wf h h1 h4 (extra:=caps.map fun c=>.val (.one c)) (us2:=us) ?_ (yA9 hr) this hQ hW
     intro x hx
     obtain ⟨c,_,rfl⟩:=List.mem_map.1 hx
     exact ⟨_,rfl⟩
    ·exact hW.elim
   ·cases h2
  ·cases hk
 |mvo d x=>
  simp only [zCD,Bool.and_eq_true] at hk
  simp only [opW] at hW
  split at hW
  ·rename_i e k rows e1
   obtain ⟨h1,h2⟩:=hk
   split at h2
   ·rename_i y ho; exact yGi wf h h1 (.inl ho) h2 e1 hW.1 hW.2
   ·rename_i y ho; exact yGi wf h h1 (.inr ho) h2 e1 hW.1 hW.2
   ·cases h2
  ·exact hW.elim
 |nlo d e k=>
  simp only [zCD,Bool.and_eq_true] at hk
  obtain ⟨h1,h2⟩:=hk
  split at h2
  ·rename_i y ho; exact yGj wf h h1 (.inl ho) h2 hW
  ·rename_i y ho; exact yGj wf h h1 (.inr ho) h2 hW
  ·cases h2
 |ldo d x j base off e k=>
  simp only [zCD,Bool.and_eq_true] at hk
  obtain ⟨h1,h2⟩:=hk
  split at h2
  ·rename_i t y ho
   simp only [Bool.and_eq_true,beq_iff_eq] at h2
   obtain ⟨⟨h3,h4⟩,h5⟩:=h2
   simp only [opW] at hW
   split at hW
   ·rename_i j' off' e' k' rows e1 e2
    obtain ⟨rfl,rfl,rfl,rfl,hW⟩:=hW
    exact yIL wf h h1 ho h3 h4 h5 e1 e2 hW
   ·rename_i j' off' kk e1 e2
    obtain ⟨rfl,rfl,hW⟩:=hW
    exact yIN wf h h1 ho h3 h4 h5 e1 e2 hW
   ·exact hW.elim
  ·cases h2
 |sto x j base off n y=>
  simp only [zCD,Bool.and_eq_true] at hk
  obtain ⟨h1,h2⟩:=hk
  split at h2
  ·rename_i t x' y' ho
   simp only [Bool.and_eq_true,beq_iff_eq] at h2
   obtain ⟨⟨⟨h3,h4⟩,h5⟩,h6⟩:=h2
   simp only [opW] at hW
   split at hW
   ·rename_i j' off' p e1 e2
    obtain ⟨rfl,rfl,hn,hne,hW⟩:=hW
    exact yGk wf h (Option.isNone_iff_eq_none.1 h1) ho h3 h4 h5 h6 e1 e2 hn hne hW
   ·exact hW.elim
  ·cases h2
 |std x j base sz y=>
  simp only [zCD,Bool.and_eq_true] at hk
  obtain ⟨h1,h2⟩:=hk
  split at h2
  ·rename_i t x' y' ho
   simp only [Bool.and_eq_true,beq_iff_eq] at h2
   obtain ⟨⟨⟨h3,h4⟩,h5⟩,h6⟩:=h2
   simp only [opW] at hW
   split at hW
   ·rename_i j' off' p e1 e2
    obtain ⟨rfl,hlt,hn,hne,hW⟩:=hW
    have h5':zDD E j' base (off'+1)=true:=by
     unfold zDD at h5 ⊢
     split at h5
     ·simp only [Bool.and_eq_true,decide_eq_true_eq] at h5 ⊢
      exact ⟨h5.1,by omega⟩
     ·cases h5
    exact yGk wf h (Option.isNone_iff_eq_none.1 h1) ho h3 h4 h5' h6 e1 e2 hn hne hW
   ·exact hW.elim
  ·cases h2
 |stw x j base off y=>
  simp only [zCD,Bool.and_eq_true] at hk
  obtain ⟨h1,h2⟩:=hk
  split at h2
  ·rename_i t x' y' ho
   simp only [Bool.and_eq_true,beq_iff_eq] at h2
   obtain ⟨⟨⟨h3,h4⟩,h5⟩,h6⟩:=h2
   simp only [opW] at hW
   split at hW
   ·rename_i j' off' e k rows e1 e2
    obtain ⟨rfl,rfl,hW⟩:=hW
    exact yIM wf h (Option.isNone_iff_eq_none.1 h1) ho h3 h4 h5 h6 e1 e2 hW
   ·exact hW.elim
  ·cases h2
 |alloc d j base cells=>
  simp only [zCD,Bool.and_eq_true] at hk
  obtain ⟨⟨⟨h0,h1⟩,h2⟩,h3⟩:=hk
  split at h3
  ·rename_i t ho
   split at h3
   ·rename_i z hz
    exact yA6 wf h (of_decide_eq_true h0) h1 ho h2 hz h3 hW
   ·cases h3
  ·cases h3
 |box d j base n x=>
  simp only [zCD,Bool.and_eq_true] at hk
  obtain ⟨⟨⟨h0,h1⟩,h2⟩,h3⟩:=hk
  split at h3
  ·rename_i t y ho
   simp only [opW] at hW
   split at hW
   ·rename_i p e1
    obtain ⟨hn,hne,hW⟩:=hW
    exact yGm wf h (of_decide_eq_true h0) h1 ho h3 h2 e1 hn hne hW
   ·exact hW.elim
  ·cases h3
 |alo d j base cells=>
  simp only [zCD,Bool.and_eq_true] at hk
  obtain ⟨⟨⟨⟨h0,h1⟩,h2⟩,h4⟩,h3⟩:=hk
  obtain ⟨hu,hK⟩:=hW
  split at h3
  ·rename_i t ho
   split at h3
   ·rename_i z hz
    exact zUP wf h (zAt h1).2 (zDK h2) (of_decide_eq_true h4) hu (by simp) hK fun K' hK'=>yA6 wf h (of_decide_eq_true h0) h1 ho h2 hz h3 hK'
   ·cases h3
  ·cases h3
 |bxo d j base n x=>
  simp only [zCD,Bool.and_eq_true] at hk
  obtain ⟨⟨⟨⟨h0,h1⟩,h2⟩,h4⟩,h3⟩:=hk
  split at h3
  ·rename_i t y ho
   simp only [opW] at hW
   split at hW
   ·rename_i p e1
    obtain ⟨hn,hne,hu,hW⟩:=hW
    exact zUP wf h (zAt h1).2 (zDK h2) (of_decide_eq_true h4) hu (by simpa using hn) hW fun K' hK'=>yGm wf h (of_decide_eq_true h0) h1 ho h3 h2 e1 hn hne hK'
   ·exact hW.elim
  ·cases h3
 |app d e k x y=>
  simp only [zCD,Bool.and_eq_true] at hk
  obtain ⟨h1,h2⟩:=hk
  split at h2
  ·rename_i c ho
   simp only [Bool.and_eq_true] at h2
   obtain ⟨h3,h4⟩:=h2
   obtain ⟨callee,args,argTypes⟩:=c
   simp only at h3 h4
   split at h4
   ·rename_i x' y' t t' e1 e2
    simp only [Bool.and_eq_true,beq_iff_eq] at h4
    obtain ⟨⟨⟨h5,h6⟩,rfl⟩,h7⟩:=h4
    have ha:args = #[x',y']:=Array.ext' e1
    have ht:argTypes = #[t,t]:=Array.ext' e2
    subst ha; subst ht
    have hcl:callee = .builtin .append:=by
     split at h3
     ·rfl
     ·cases h3
    subst hcl
    simp only [opW] at hW
    split at hW
    ·rename_i e' k' rows k'' rs e3 e4
     cases x with
     |t n=>
      obtain ⟨hne,rfl,rfl,rfl,hn2,hb,hW⟩:=hW
      exact yIO wf h h1 ho h5 h6 h7 e3 e4 hne hn2 hb hW
     |c p=>exact hW.1.elim
     |f n=>exact hW.1.elim
    ·exact hW.elim
   ·cases h4
  ·cases h2
 |bsl d e k parts=>
  simp only [zCD,Bool.and_eq_true] at hk
  obtain ⟨h1,h2⟩:=hk
  split at h2
  ·rename_i t n ps ho
   simp only [Bool.and_eq_true,beq_iff_eq,decide_eq_true_eq] at h2
   obtain ⟨⟨⟨h3,h4⟩,h5⟩,h6⟩:=h2
   exact yIR wf h h1 ho h3 h4 h5 h6 hW.1 hW.2
  ·cases h2
 |pan x=>
  simp only [opW] at hW
  split at hW
  ·rename_i ti u' e1
   obtain ⟨hne,hX⟩:=hW
   simp only [zCD] at hk
   split at hk
   ·rename_i c ho
    simp only [Bool.and_eq_true] at hk
    obtain ⟨h3,h4⟩:=hk
    obtain ⟨callee,args,argTypes⟩:=c
    simp only at h3 h4
    split at h4
    ·rename_i y e2
     have ha:args = #[y]:=Array.ext' e2
     subst ha
     have hcl:callee = .builtin .panic:=by
      split at h3
      ·rfl
      ·cases h3
     subst hcl
     exact yGq h (.inl ⟨_,ho⟩) h4 e1 hne (hQ _ _ _ _ hX ⟨m,β,ow,h⟩)
    ·cases h4
   ·rename_i y ho
    exact yGq h (.inr ho) hk e1 hne (hQ _ _ _ _ hX ⟨m,β,ow,h⟩)
   ·cases hk
  ·exact hW.elim
 |nlk d e k=>
  simp only [zCD,Bool.and_eq_true] at hk
  obtain ⟨h1,h2⟩:=hk
  split at h2
  ·rename_i y ho
   exact yGn wf h h1 (.inl ho) h2 hW
  ·rename_i y ho
   exact yGn wf h h1 (.inr ho) h2 hW
  ·cases h2
 |mvk d x=>
  simp only [zCD,Bool.and_eq_true] at hk
  obtain ⟨h1,h2⟩:=hk
  simp only [opW] at hW
  split at hW
  ·rename_i e k rows e1
   split at h2
   ·rename_i y ho
    exact yGo wf h h1 (.inl ho) h2 e1 hW.1 hW.2
   ·rename_i y ho
    exact yGo wf h h1 (.inr ho) h2 e1 hW.1 hW.2
   ·cases h2
  ·exact hW.elim
 |trk d x hi=>
  simp only [zCD,Bool.and_eq_true] at hk
  obtain ⟨h1,h2⟩:=hk
  split at h2
  ·rename_i t y lo' hi' mx ho
   simp only [Bool.and_eq_true,Option.isNone_iff_eq_none] at h2
   obtain ⟨⟨⟨⟨rfl,rfl⟩,h3⟩,h4⟩,h5⟩:=h2
   split at h5
   ·rename_i et he
    obtain ⟨sz,hsz⟩:=Option.isSome_iff_exists.1 h5
    simp only [opW] at hW
    split at hW
    ·rename_i e k rows ik n e1 e2
     obtain ⟨hne,hnd,h6,h7,hW⟩:=hW
     exact yIP wf h h1 ho h3 h4 he hsz e1 e2 hne hnd h6 h7 hW
    ·exact hW.elim
   ·cases h5
  ·cases h2
 |apk d e k x y=>
  simp only [zCD,Bool.and_eq_true] at hk
  obtain ⟨h1,h2⟩:=hk
  split at h2
  ·rename_i c ho
   simp only [Bool.and_eq_true] at h2
   obtain ⟨h3,h4⟩:=h2
   obtain ⟨callee,args,argTypes⟩:=c
   simp only at h3 h4
   split at h4
   ·rename_i x' y' t t' e1 e2
    simp only [Bool.and_eq_true,beq_iff_eq] at h4
    obtain ⟨⟨⟨h5,h6⟩,rfl⟩,h7⟩:=h4
    have ha:args = #[x',y']:=Array.ext' e1
    have ht:argTypes = #[t,t]:=Array.ext' e2
    subst ha; subst ht
    have hcl:callee = .builtin .append:=by
     split at h3
     ·rfl
     ·cases h3
    subst hcl
    simp only [opW] at hW
    split at hW
    ·rename_i e' k' rows k'' rs e3 e4
     obtain ⟨hne,rfl,rfl,rfl,hn2,hb,hW⟩:=hW
     exact yIQ wf h h1 ho h5 h6 h7 e3 e4 hne hn2 hb hW
    ·exact hW.elim
   ·cases h4
  ·cases h2
 |vnl d e k=>
  simp only [zCD,Bool.and_eq_true] at hk
  obtain ⟨h1,h2⟩:=hk
  split at h2
  ·rename_i y ho; exact yGr wf h h1 (.inl ho) h2 hW
  ·rename_i y ho; exact yGr wf h h1 (.inr ho) h2 hW
  ·cases h2
 |vmv d x=>
  simp only [zCD,Bool.and_eq_true] at hk
  obtain ⟨h1,h2⟩:=hk
  simp only [opW] at hW
  split at hW
  ·rename_i v e1
   split at h2
   ·rename_i y ho; exact yGs wf h h1 (.inl ho) h2 e1 hW.2
   ·rename_i y ho; exact yGs wf h h1 (.inr ho) h2 e1 hW.2
   ·cases h2
  ·exact hW.elim
 |vld d x j base off n agg=>
  simp only [zCD,Bool.and_eq_true] at hk
  obtain ⟨h1,h2⟩:=hk
  split at h2
  ·rename_i t y ho
   simp only [Bool.and_eq_true,beq_iff_eq,Bool.or_eq_true] at h2
   obtain ⟨⟨⟨⟨h3,h4⟩,h5⟩,h6⟩,h7⟩:=h2
   simp only [opW] at hW
   split at hW
   ·rename_i j' off' cs e1 e2
    obtain ⟨rfl,rfl,hW⟩:=hW
    exact yIW wf h h1 ho h3 h4 h5 h6 h7 e1 e2 hW
   ·exact hW.elim
  ·cases h2
 |callo d f x=>
  simp only [zCD] at hk
  simp only [Bool.and_eq_true] at hk
  obtain ⟨h1,h2⟩:=hk
  split at h2
  ·rename_i c ho
   simp only [Bool.and_eq_true] at h2
   obtain ⟨h2,h3⟩:=h2
   split at h2
   ·rename_i g hc
    simp only [beq_iff_eq] at h2
    subst h2
    split at h3
    ·rename_i y hargs
     simp only [opW] at hW
     split at hW
     ·rename_i v e1
      obtain ⟨v',hcon,hW⟩:=hW
      exact yE9 wf h h1 ho hc hargs h3 e1 hcon hW
     ·exact hW.elim
    ·cases h3
   ·cases h2
  ·cases h2
 |callp d f x=>
  simp only [zCD] at hk
  simp only [Bool.and_eq_true] at hk
  obtain ⟨h1,h2⟩:=hk
  split at h2
  ·rename_i c ho
   simp only [Bool.and_eq_true] at h2
   obtain ⟨h2,h3⟩:=h2
   split at h2
   ·rename_i g hc
    simp only [beq_iff_eq] at h2
    subst h2
    split at h3
    ·rename_i y hargs
     simp only [opW] at hW
     split at hW
     ·rename_i v e1
      obtain ⟨cs,xs,hcon,hfz,hW⟩:=hW
      exact yFa wf h h1 ho hc hargs h3 e1 hcon hfz hW
     ·exact hW.elim
    ·cases h3
   ·cases h2
  ·cases h2
 |vbx d j base n x=>
  simp only [zCD,Bool.and_eq_true,decide_eq_true_eq] at hk
  obtain ⟨⟨⟨h1,h2⟩,h3⟩,h4⟩:=hk
  split at h4
  ·rename_i t y ho
   simp only [opW] at hW
   split at hW
   ·rename_i v e1
    exact yGt wf h h1 h2 ho h4 h3 e1 hW.1 hW.2
   ·exact hW.elim
  ·cases h4
 |vst x j base off n y=>
  simp only [zCD,Bool.and_eq_true] at hk
  obtain ⟨h1,h2⟩:=hk
  split at h2
  ·rename_i t x' y' ho
   simp only [Bool.and_eq_true,beq_iff_eq] at h2
   obtain ⟨⟨⟨h3,h4⟩,h5⟩,h6⟩:=h2
   simp only [opW] at hW
   split at hW
   ·rename_i j' off' v e1 e2
    obtain ⟨rfl,rfl,hn,hW⟩:=hW
    exact yIX wf h (Option.isNone_iff_eq_none.1 h1) ho h3 h4 h5 h6 e1 e2 hn hW
   ·exact hW.elim
  ·cases h2
 |vap d e k x y=>
  simp only [zCD,Bool.and_eq_true] at hk
  obtain ⟨h1,h2⟩:=hk
  split at h2
  ·rename_i c ho
   simp only [Bool.and_eq_true] at h2
   obtain ⟨h3,h4⟩:=h2
   obtain ⟨callee,args,argTypes⟩:=c
   simp only at h3 h4
   split at h4
   ·rename_i x' y' t t' e1 e2
    simp only [Bool.and_eq_true,beq_iff_eq] at h4
    obtain ⟨⟨⟨h5,h6⟩,rfl⟩,h7⟩:=h4
    have ha:args = #[x',y']:=Array.ext' e1
    have ht:argTypes = #[t,t]:=Array.ext' e2
    subst ha; subst ht
    have hcl:callee = .builtin .append:=by
     split at h3
     ·rfl
     ·cases h3
    subst hcl
    simp only [opW] at hW
    split at hW
    ·rename_i pb e' k' rows e3
     obtain ⟨hne,rfl,rfl,hs,hb,hW⟩:=hW
     exact yI2 wf h h1 ho h5 h6 h7 e3 hne hs hb hW
    ·exact hW.elim
   ·cases h4
  ·cases h2
 |vbs d e k x=>
  simp only [zCD,Bool.and_eq_true] at hk
  obtain ⟨h1,h2⟩:=hk
  split at h2
  ·rename_i t n ps ho
   simp only [Bool.and_eq_true,beq_iff_eq,decide_eq_true_eq] at h2
   obtain ⟨⟨⟨h3,h4⟩,h5⟩,h6⟩:=h2
   simp only [opW] at hW
   split at hW
   ·rename_i v e1
    exact yIY wf h h1 ho h3 h4 h5 h6 e1 hW.1 hW.2
   ·exact hW.elim
  ·cases h2
 |vbp d e k y=>
  simp only [zCD,Bool.and_eq_true] at hk
  obtain ⟨h1,h2⟩:=hk
  split at h2
  ·rename_i t n ps ho
   simp only [Bool.and_eq_true,beq_iff_eq,decide_eq_true_eq] at h2
   obtain ⟨⟨⟨h3,h4⟩,h5⟩,h6⟩:=h2
   simp only [opW] at hW
   exact yIZ wf h h1 ho h3 h4 h5 h6 hW.1 hW.2.1 hW.2.2
  ·cases h2
 |vbd d zs off n y=>
  simp only [zCD,Bool.and_eq_true] at hk
  obtain ⟨h1,h2⟩:=hk
  split at h2
  ·rename_i t ps ho
   simp only [Bool.and_eq_true] at h2
   obtain ⟨⟨h3,h4⟩,h5⟩:=h2
   split at h3
   ·rename_i z hz
    simp only [opW] at hW
    exact yI0 wf h h1 ho h4 hz h3 h5 hW.1 hW.2.1 hW.2.2.1 hW.2.2.2
   ·cases h3
  ·cases h2
 |vbe d zs parts off n y=>
  simp only [zCD,Bool.and_eq_true] at hk
  obtain ⟨h1,h2⟩:=hk
  split at h2
  ·rename_i t ps ho
   simp only [Bool.and_eq_true] at h2
   obtain ⟨⟨h3,h4⟩,h5⟩:=h2
   split at h3
   ·rename_i z hz
    simp only [opW] at hW
    exact yI1 wf h h1 ho h4 hz h3 h5 hW.1 hW.2.1 hW.2.2.1 hW.2.2.2.1 hW.2.2.2.2.1 hW.2.2.2.2.2
   ·cases h3
  ·cases h2
 |vby d j base n x=>
  simp only [zCD,Bool.and_eq_true] at hk
  obtain ⟨⟨⟨⟨h0,h1⟩,h2⟩,h4⟩,h3⟩:=hk
  split at h3
  ·rename_i t y ho
   simp only [opW] at hW
   split at hW
   ·rename_i v e1
    obtain ⟨hn,hu,hW⟩:=hW
    have hxN:=(zBw h3).2
    have hlo:=wf.lo j _ (zDK h2)
    refine zUP wf (h.forget wf hxN (c:=.un) (fun _ _=>trivial)) (zAt h1).2 (zDK h2) (of_decide_eq_true h4) ?_ (by simpa using hn) hW fun K' hK'=>yGt wf h (of_decide_eq_true h0) h1 ho h3 h2 e1 hn hK'
    simp only at hlo
    rw [zAP,if_neg yO]
    exact hu
   ·exact hW.elim
  ·cases h3
 |vle d x r j base pt n agg=>
  simp only [zCD,Bool.and_eq_true] at hk
  obtain ⟨⟨⟨h1,h2⟩,_⟩,h3⟩:=hk
  split at h3
  ·rename_i t y ho
   simp only [Bool.and_eq_true,beq_iff_eq,Bool.or_eq_true] at h3
   exact yIU wf h h1 h2 ho h3.1.1.1 h3.1.1.2 h3.1.2 h3.2 hW
  ·cases h3
 |vlp d x r j base pt n agg=>
  simp only [zCD,Bool.and_eq_true] at hk
  obtain ⟨⟨⟨h1,h2⟩,_⟩,h3⟩:=hk
  split at h3
  ·rename_i t y ho
   simp only [Bool.and_eq_true,beq_iff_eq,Bool.or_eq_true] at h3
   exact yIS wf h h1 h2 ho h3.1.1.1 h3.1.1.2 h3.1.2 h3.2 hW
  ·cases h3
 |vlh d x r j base pt=>
  simp only [zCD,Bool.and_eq_true] at hk
  obtain ⟨⟨⟨h1,h2⟩,_⟩,h3⟩:=hk
  split at h3
  ·rename_i t y ho
   simp only [Bool.and_eq_true,beq_iff_eq] at h3
   exact yIT wf h h1 h2 ho h3.1.1 h3.1.2 h3.2 hW
  ·cases h3
 |vse x r j base pt n y=>
  simp only [zCD,Bool.and_eq_true] at hk
  obtain ⟨⟨⟨h1,h2⟩,_⟩,h3⟩:=hk
  split at h3
  ·rename_i t x' y' ho
   simp only [Bool.and_eq_true,beq_iff_eq] at h3
   exact yIV wf h (Option.isNone_iff_eq_none.1 h1) h2 ho h3.1.1 h3.1.2 h3.2 hW
  ·cases h3
 |mmk d=>
  simp only [zCD,Bool.and_eq_true] at hk
  obtain ⟨h1,h2⟩:=hk
  split at h2
  ·rename_i t r ho
   have hr:r=none:=Option.isNone_iff_eq_none.1 h2
   subst hr
   exact yI3 wf h h1 ho hW
  ·cases h2
 |mps x r kk k y=>
  simp only [zCD,Bool.and_eq_true,decide_eq_true_eq] at hk
  obtain ⟨⟨h1,h0⟩,h2⟩:=hk
  split at h2
  ·rename_i t m' k' y' ho
   simp only [Bool.and_eq_true] at h2
   exact yGv wf h (Option.isNone_iff_eq_none.1 h1) h0 (.inl ho) h2.1.1.1 h2.1.1.2 h2.1.2 h2.2 hW
  ·rename_i t m' k' y' ho
   simp only [Bool.and_eq_true] at h2
   exact yGv wf h (Option.isNone_iff_eq_none.1 h1) h0 (.inr ho) h2.1.1.1 h2.1.1.2 h2.1.2 h2.2 hW
  ·cases h2
 |mpl d x r kk k z ok=>
  simp only [zCD,Bool.and_eq_true,decide_eq_true_eq] at hk
  obtain ⟨⟨h1,h0⟩,h2⟩:=hk
  split at h2
  ·rename_i t m' k' ok' ho
   simp only [Bool.and_eq_true,beq_iff_eq] at h2
   obtain ⟨⟨⟨⟨rfl,h3⟩,h4⟩,h5⟩,h6⟩:=h2
   exact yI4 wf h h1 h0 ho h3 h4 h5 h6 hW
  ·cases h2
 |mpv d x r kk k e kw=>
  simp only [zCD,Bool.and_eq_true,decide_eq_true_eq] at hk
  obtain ⟨⟨h1,h0⟩,h2⟩:=hk
  split at h2
  ·rename_i t m' k' ok' ho
   simp only [Bool.and_eq_true,Bool.not_eq_true'] at h2
   obtain ⟨⟨⟨⟨rfl,h3⟩,h4⟩,h5⟩,h6⟩:=h2
   exact yI5 wf h h1 h0 ho h3 h4 h5 h6 hW
  ·cases h2
 |mrg d x r=>simp [zCD] at hk
 |mnx d it r=>simp [zCD] at hk
 |men d it r=>simp [zCD] at hk
 |vmk d e k zs x=>
  simp only [zCD,Bool.and_eq_true] at hk
  obtain ⟨h1,h2⟩:=hk
  split at h2
  ·rename_i t l c ho
   simp only [Bool.and_eq_true] at h2
   exact yI6 wf h h1 ho h2.1.1.1 h2.1.1.2 h2.1.2 h2.2 hW
  ·cases h2
 |callm d f r args=>
  simp only [zCD,Bool.and_eq_true] at hk
  obtain ⟨⟨h1,h0⟩,h2⟩:=hk
  split at h2
  ·rename_i c ho
   simp only [Bool.and_eq_true] at h2
   obtain ⟨h3,h4⟩:=h2
   split at h4
   ·rename_i y ys hargs
    simp only [Bool.and_eq_true] at h4
    have hc:c.callee = .value (.func f):=by
     split at h3
     ·rename_i g hg
      rw [hg,show g=f by simpa using h3]
     ·cases h3
    simp only [opW] at hW
    split at hW
    ·rename_i v e1
     obtain ⟨g1,g2,v',q,g3,g4⟩:=hW
     exact yFb wf h h1 ho hc hargs h4.1 h4.2 e1 g1 g2 g4 g3
    ·exact hW.elim
   ·cases h4
  ·cases h2
 |vtr d x hi=>
  simp only [zCD,Bool.and_eq_true] at hk
  obtain ⟨h1,h2⟩:=hk
  split at h2
  ·rename_i t y lo' hi' mx ho
   simp only [Bool.and_eq_true,Option.isNone_iff_eq_none] at h2
   obtain ⟨⟨⟨⟨rfl,rfl⟩,h3⟩,h4⟩,h5⟩:=h2
   split at h5
   ·rename_i et he
    obtain ⟨sz,hsz⟩:=Option.isSome_iff_exists.1 h5
    simp only [opW] at hW
    split at hW
    ·rename_i pb e k rows ik n e1 e2
     obtain ⟨hne,hnd,h6,h7,hW⟩:=hW
     exact yI7 wf h h1 ho h3 h4 he hsz e1 e2 hnd h6 h7 hW
    ·exact hW.elim
   ·cases h5
  ·cases h2
 |bmk d T e=>
  simp only [zCD,Bool.and_eq_true] at hk
  obtain ⟨h1,h2⟩:=hk
  split at h2
  ·rename_i t ho
   simp only [Bool.and_eq_true,beq_iff_eq] at h2
   obtain ⟨rfl,h3⟩:=h2
   exact yI8 wf h h1 ho h3 hW
  ·cases h2
 |isn d ng x=>
  simp only [zCD,Bool.and_eq_true] at hk
  obtain ⟨h1,h2⟩:=hk
  split at h2
  ·rename_i op' t x' t' ho
   simp only [Bool.and_eq_true,decide_eq_true_eq] at h2
   obtain ⟨⟨h3,h4⟩,h5⟩:=h2
   simp only [opW] at hW
   split at hW
   ·rename_i k rows e1
    exact yGp wf h h1 ho h3 h4 h5 (.inl e1) hW.1 fun b hb _=>hW.2 b hb
   ·rename_i k e1
    exact yGp wf h h1 ho h3 h4 h5 (.inr ⟨e1,rfl⟩) hW.1 fun b _ hb=>by rw [hb e1]; simpa using hW.2
   ·exact hW.elim
  ·cases h2
def yB7 (P:Program) (E:Env) (ops:Array Oper) (h:HO) (o:Oper):Bool:=
 zCD P E h.op o.op o.dst && (match h.g,o.guard with
  |none,none=>true
  |some (s,b),some (j,b')=>b == b' && ((ops[j]?).bind (·.dst)) == some s && decide (s<E.N) && (match h.op with | .val _ _=>true | .call (some _) _ args=>yGf args | .callv (some _) _ args=>yGf args | .vlp _ _ _ _ _ _ _ _=>true | .callg _ _ _=>true | _=>false)
  |_,_=>false)
theorem zPT (h:InvG E S m β ow F a w) {ops:Array Oper} {o:Oper} {s j:Nat} {pol:Bool} (hg:o.guard=some (j,pol)) (hj:(ops[j]?).bind (·.dst)=some s) (hs:s<E.N) {T:Bool} (hT:zDj F (s,pol)=some T):Region.wanted o (yielded ops a.tmps)=T:=by
 have hslot:=h.slots s hs
 have hsz:s<a.tmps.size:=by rw [h.lenA]; exact hs
 have hget:a.tmps[s]? = some (a.tmps.getD s undef):=zIP hsz
 unfold zDj at hT
 simp only at hT
 unfold Region.wanted yielded
 rw [hg]
 simp only [hj,Option.bind_some,hget]
 split at hT
 ·rename_i t e1
  rw [e1] at hslot
  have hv:a.tmps.getD s undef = .bool t:=hslot.1
  rw [hv]
  simp only [Option.some.injEq] at hT
  rw [← hT]
  cases t <;> cases pol <;> rfl
 ·rename_i t1 t e1
  rw [e1] at hslot
  simp only [Option.some.injEq] at hT
  rw [← hT]
  cases t1 with
  |true=>
   have hv:a.tmps.getD s undef = .bool t:=(hslot.1 rfl).1
   rw [hv]
   cases t <;> cases pol <;> rfl
  |false=>
   have hv:=hslot.2 rfl
   rw [hv]
   rfl
 ·cases hT
theorem yBe (wf:E.Wf) (h:InvG E S m β ow F a w) {ops:Array Oper} {i:Nat} {ho:HO} {o:Oper} (hi:ops[i]? = some o) (hk:yB7 P E ops ho o=true) {K:List Ct→Prop} {X:Value→List Ct→Prop} {Q:Exit→Act→World→Prop}
  (hQ:∀ v F' a' w',X v F'→Inv E S F' a' w'→Q (.panic [{ v,recovered:=false }]) a' w') (hW:hoW P ho F K X):wpOp P ops Q i (zDU E S K) a w:=by
 unfold wpOp
 rw [hi]
 simp only
 obtain ⟨g,op⟩:=ho
 simp only [yB7,Bool.and_eq_true] at hk
 obtain ⟨hk1,hk2⟩:=hk
 cases g with
 |none=>
  have hgn:o.guard=none:=by
   cases hg:o.guard with
   |none=>rfl
   |some x=>rw [hg] at hk2; cases hk2
  have hw:Region.wanted o (yielded ops a.tmps)=true:=by simp [Region.wanted,hgn]
  rw [if_pos hw]
  exact .inl (zFf wf h hk1 hQ hW)
 |some sp=>
  obtain ⟨s,pol⟩:=sp
  cases hg:o.guard with
  |none=>rw [hg] at hk2; cases hk2
  |some jb=>
   obtain ⟨j,b'⟩:=jb
   rw [hg] at hk2
   simp only [Bool.and_eq_true,beq_iff_eq,decide_eq_true_eq] at hk2
   obtain ⟨⟨⟨rfl,hj⟩,hs⟩,hop⟩:=hk2
   simp only [hoW] at hW
   split at hW
   ·exact hW.elim
   ·rename_i T hT
    rw [zPT h hg hj hs hT]
    have hskip:∀ (d:Nat) (x:PVal),o.dst=some d→d<E.N→T=false→K (F.set d (.gd T x))→zDU E S K (a.put o.dst undef) w:=by
     intro d x hd hdN hTf hK
     subst hTf
     refine ⟨_,hK,m,β,ow,?_⟩
     rw [hd]
     exact h.slot wf hdN ⟨fun h'=>(by cases h'),fun _=>rfl⟩
    cases op with
    |val d v=>
     simp only at hW
     simp only [zCD,Bool.and_eq_true] at hk1
     obtain ⟨hd1,hd2⟩:=zAt hk1.1
     split at hW
     ·rename_i x e1
      obtain ⟨hc,hK⟩:=hW
      cases hTT:T with
      |true=>
       subst hTT
       rw [if_pos rfl]
       exact .inl (yG2 wf h hk1.1 hk1.2 e1 (hc rfl) hK)
      |false=>
       rw [if_neg (by simp)]
       exact hskip d x hd1 hd2 hTT hK
     ·split at hW
      ·rw [if_pos rfl]
       exact .inl (zFf (ho:=.val d v) wf h (by simp only [zCD,Bool.and_eq_true]; exact hk1) (X:=X) hQ hW)
      ·rw [if_neg (by simp)]
       exact hskip d (bv false) hd1 hd2 rfl hW
    |call d f args=>
     cases d with
     |none=>simp at hop
     |some d=>
      simp only at hW hop
      obtain ⟨hc,x,hcon,hK⟩:=hW
      have hk1':=hk1
      simp only [zCD] at hk1'
      split at hk1'
      ·rename_i c hoc
       simp only [Bool.and_eq_true] at hk1'
       obtain ⟨hd1,hd2⟩:=zAt hk1'.1.1
       cases hTT:T with
       |true=>
        subst hTT
        rw [if_pos rfl]
        left
        have hown:=zUY hop
        refine Oper.wp_mono (K:=zDU E S (fun F'=>F'=F.set d (.pv x))) ?_ (zFf wf h hk1 (X:=X) hQ ?_)
        ·rintro a' w' ⟨F',rfl,m',β',ow',h'⟩
         refine ⟨_,hK,m',β',ow',?_⟩
         have hdL:d<F.length:=by rw [h.lenF]; exact Nat.lt_of_lt_of_le hd2 wf.le
         have h2:=h'.forget wf hd2 (c:=.gd true x) (fun u hu=>by
          rw [zAF hdL,if_pos rfl] at hu
          exact ⟨fun _=>hu,fun h''=>(by cases h'')⟩)
         rwa [List.set_set] at h2
        ·simp only [opW,zMz]
         refine ⟨hc rfl,_,hcon rfl,?_⟩
         simp only [yA3,zXK,yJ0,zAQ,hown.1,hown.2,zDI,zGo]
       |false=>
        rw [if_neg (by simp)]
        exact hskip d x hd1 hd2 hTT hK
      ·cases hk1'
    |callv d y args=>
     cases d with
     |none=>simp at hop
     |some d=>
      simp only at hW hop
      split at hW
      ·rename_i f caps e1
       obtain ⟨hc,x,hcon,hK⟩:=hW
       have hk1':=hk1
       simp only [zCD] at hk1'
       split at hk1'
       ·rename_i c hoc
        simp only [Bool.and_eq_true] at hk1'
        obtain ⟨hd1,hd2⟩:=zAt hk1'.1.1.1
        cases hTT:T with
        |true=>
         subst hTT
         rw [if_pos rfl]
         left
         have hown:=zUY hop
         refine Oper.wp_mono (K:=zDU E S (fun F'=>F'=F.set d (.pv x))) ?_ (zFf wf h hk1 (X:=X) hQ ?_)
         ·rintro a' w' ⟨F',rfl,m',β',ow',h'⟩
          refine ⟨_,hK,m',β',ow',?_⟩
          have hdL:d<F.length:=by rw [h.lenF]; exact Nat.lt_of_lt_of_le hd2 wf.le
          have h2:=h'.forget wf hd2 (c:=.gd true x) (fun u hu=>by
           rw [zAF hdL,if_pos rfl] at hu
           exact ⟨fun _=>hu,fun h''=>(by cases h'')⟩)
          rwa [List.set_set] at h2
         ·simp only [opW,e1,zMz]
          refine ⟨(hc rfl).1,(hc rfl).2,_,hcon rfl,?_⟩
          simp only [yA3,zXK,yJ0,zAQ,hown.1,hown.2,zDI,zGo]
        |false=>
         rw [if_neg (by simp)]
         exact hskip d x hd1 hd2 hTT hK
       ·cases hk1'
      ·exact hW.elim
    |callg d f args=>
     simp only at hW
     cases hTT:T with
     |true=>
      subst hTT
      rw [if_pos rfl]
      exact .inl (zFf (ho:=.callg d f args) wf h hk1 (X:=X) hQ hW)
     |false=>
      subst hTT
      rw [if_neg (by simp)]
      simp only [zCD] at hk1
      split at hk1
      ·simp only [Bool.and_eq_true] at hk1
       obtain ⟨hd1,hd2⟩:=zAt hk1.1.1
       exact hskip d (bv false) hd1 hd2 rfl hW
      ·cases hk1
    |vlp d x r j' base pt n agg=>
     simp only at hW
     cases hTT:T with
     |true=>
      subst hTT
      rw [if_pos rfl]
      exact .inl (zFf (ho:=.vlp d x r j' base pt n agg) wf h hk1 (X:=X) hQ hW)
     |false=>
      subst hTT
      rw [if_neg (by simp)]
      simp only [zCD,Bool.and_eq_true] at hk1
      obtain ⟨hd1,hd2⟩:=zAt hk1.1.1.1
      exact hskip d (bv false) hd1 hd2 rfl hW
    |_=>simp at hop
def zFg (P:Program) (E:Env) (ops:Array Oper):List HO→List Oper→Bool
 |[],[]=>true
 |h :: hs,o :: os=>yB7 P E ops h o && zFg P E ops hs os
 |_,_=>false
theorem zPU (wf:E.Wf) {ops:Array Oper} {K:List Ct→Prop} {X:Value→List Ct→Prop} {Q:Exit→Act→World→Prop}
  (hQ:∀ v F' a' w',X v F'→Inv E S F' a' w'→Q (.panic [{ v,recovered:=false }]) a' w') (hN:∀ F' a' w',K F'→Inv E S F' a' w'→Q .normal a' w') :
  ∀ (hs:List HO) (os:List Oper) (k:Nat),(∀ i o,os[i]? = some o→ops[k+i]? = some o)→zFg P E ops hs os=true→∀ (F:List Ct) (a:Act) (w:World),Inv E S F a w→yIJ P hs F K X→wpOps P ops Q (List.range' k os.length) a w
 |[],[],k,_,_,F,a,w,hI,hW=>hN F a w hW hI
 |[],_ :: _,_,_,hk,_,_,_,_,_=>by simp [zFg] at hk
 |_ :: _,[],_,_,hk,_,_,_,_,_=>by simp [zFg] at hk
 |h :: hs,o :: os,k,hi,hk,F,a,w,hI,hW=>by
  simp only [zFg,Bool.and_eq_true] at hk
  obtain ⟨m,β,ow,hG⟩:=hI
  have h0:ops[k]? = some o:=by simpa using hi 0 o rfl
  simp only [List.length_cons,List.range'_succ]
  rw [wpOps_cons]
  refine wpOp_mono ?_ (yBe wf hG h0 hk.1 hQ hW)
  rintro a' w' ⟨F',hK',hI'⟩
  exact zPU wf hQ hN hs os (k+1) (fun i o' ho'=>by
   have:=hi (i+1) o' (by simpa using ho')
   rw [show k+1+i=k+(i+1) by omega]; exact this) hk.2 F' a' w' hI' hK'
end
end Go.Hx
end
