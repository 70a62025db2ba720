/-
  Walks of functions of the program over an abstract layer, and the laws that they use: each contract says what the function computes, for every input that its conditions let by. No other condition.
-/
import Derived.Test.YtjnagiaooecklaaGreatDoorG10
import Derived.WideKeyArgs
import Derived.ChangeSame
import Derived.RowKit
import Derived.RowKit3
import Derived.Deep.DeepHandedRow
set_option linter.all false
section
/-
  From a function's contract on the abstract layer to a law's row: the arguments are read off the memory; behind the call they read as before. Generic over the program. No condition.
-/
namespace Go.Hx
open Go.RowKit Go.ChangeShapes Go.WideShapes Go.WideElems
@[reducible] def glob0:Glob:={ok:=fun _=>True,n:=0,size:=fun _ _=>Nat.zero_le _,keep:=fun _ _ _ h=>h}
attribute [local instance] glob0
section
variable {H:Type} {enc:TypeId×Value→H} {P:Program} {W W':World}
theorem Pres.g0 {G:Glob} {R:Nat→Prop} (hp:@Pres G R W W'):@Pres glob0 R W W':=
  @Pres.mk glob0 R W W' hp.os hp.tape hp.output hp.size hp.block (fun s=>by cases s)
theorem pres_cell {R:Nat→Prop} (hp:Pres R W W') (hR:∀ b,¬ R b) {p:MemPlace} (h:p.block < W.heap.size):W.sameAt W' p:=by
  have e:=hp.block p.block h (hR _)
  cases p with
  | cell b o=>
    show W'.cell? ⟨b,o,none⟩=W.cell? ⟨b,o,none⟩
    unfold World.cell?
    simp only [MemPlace.block] at e
    rw [e]
  | map b=>exact e
theorem trodAll_stays (hl:laidOutB P=true):∀ {ts:List TypeId} {vs:List Value} {ds:List (DataW H)} {ps:List MemPlace},(∀ t∈ts,P.readableRec t=true∧t < P.types.size)→DataW.TrodAll enc P W 0 (fun _=>true) true ts vs ds ps→(∀ p∈ps,W.sameAt W' p)→∀ sp':Nat→Bool,(∀ p∈ps,sp' p.block=true)→DataW.TrodAll enc P W' 0 sp' true ts vs ds ps
  | [],vs,ds,ps,_,h,_,_,_=>by
    obtain ⟨rfl,rfl,rfl⟩:=trodAll_nil h
    exact trodAll_mk0
  | t::ts,vs,ds,ps,ht,h,hs,sp',hsp=>by
    obtain ⟨v,vs1,d,ds1,a,b,rfl,rfl,rfl,h1,h2⟩:=trodAll_cons h
    have h3:=ht t List.mem_cons_self
    exact ⟨a,b,Trod_stays hl h3.1 h3.2 h1 (fun p hp=>hs p (List.mem_append_left _ hp)) (fun p hp=>hsp p (List.mem_append_left _ hp)),trodAll_stays hl (fun t ht'=>ht t (List.mem_cons_of_mem _ ht')) h2 (fun p hp=>hs p (List.mem_append_right _ hp)) sp' (fun p hp=>hsp p (List.mem_append_right _ hp)),rfl⟩
theorem pres_kept {R:Nat→Prop} (hp:Pres R W W') (hR:∀ b,¬ R b) (may:MemPlace→Prop):W.keptBut W' may:=by
  refine ⟨hp.os,hp.output,fun i hi=>?_⟩
  rw [hp.block i hi (hR i)]
  cases W.heap[i]? with
  | none=>rfl
  | some o=>cases o<;>first|exact ⟨rfl,rfl,rfl,fun _ _=>rfl⟩|exact .inr ⟨rfl,rfl⟩|rfl
theorem law_post {s:ChangeSpec} {fn:Func} {args:Array Value} {ds gs:List (DataW H)} {before:List MemPlace} {apart fresh handsOn again:Bool} {tb:TypeId} {R:Nat→Prop}
    (hW:DataW.Whole enc P fn.params.toList s.vars apart W args.toList ds gs before) (hv:s.vars=[])
    (hfn:s.fn H (ds++gs)={results:=[.lit (.bool true)],args:=ds}) (hr:fn.resultTypes=#[tb]) (htb:P.underlying tb=some .bool)
    (hl:laidOutB P=true) (hread:∀ t∈fn.params.toList,P.readableRec t=true∧t < P.types.size) (hp:Pres R W W') (hR:∀ b,¬ R b):
    s.post enc P fn apart fresh handsOn again W args (.bool true) W':=by
  have hlt:=hW.lt
  have hW':=hW
  obtain ⟨p,q,hA,hV,rfl,hz,hn⟩:=hW
  rw [hv] at hV
  obtain ⟨rfl,rfl⟩:=trodVars_none hV
  simp only [List.append_nil] at hfn hlt hz hn hW'
  have hsame:∀ x∈p,W.sameAt W' x:=fun x hx=>pres_cell hp hR (hlt x hx)
  have hres:∀ (b:Nat) (sp:Nat→Bool) (hd:Bool),DataW.TrodAll enc P W' b sp hd fn.resultTypes.toList ((Value.bool true).resultList fn.resultTypes.size) [.lit (.bool true)] []:=by
    intro b sp hd
    rw [hr]
    exact trodAll_mk1 (shut_bool htb true)
  refine ⟨ds,[],p,[],p,[],hW',?_,?_,?_,pres_kept hp hR _,fun _=>⟨?_,?_⟩⟩
  · rw [List.append_nil,hfn];exact hres _ _ _
  · rw [List.append_nil,hfn];exact trodAll_stays hl hread hA hsame _ fun x hx=>by simpa using hlt x hx
  · rw [List.append_nil,hfn,hv];exact rfl
  · exact ok_one hr rfl (okWide_bool_mk htb true)
  · refine ⟨[.lit (.bool true)]++ds,[],[]++p,⟨[]++p,[],?_,?_,by simp,?_,?_⟩,?_⟩
    · exact trodAll_append (trodAll_stays hl hread hA hsame _ fun _ _=>rfl) (hres _ _ _)
    · rw [hv];exact rfl
    · intro b off hb
      have hb':MemPlace.cell b off∈p:=by simpa using hb
      have h1:=hz b off hb'
      have h2:=hlt _ hb'
      unfold World.frozen? at h1 ⊢
      simp only at h1 ⊢
      rw [hp.block b h2 (hR b)]
      exact h1
    · intro ha;simpa using hn ha
    · intro x hx _;simpa using hx
def memOf (W:World):Mem:=fun b o=>W.cell? ⟨b,o,none⟩
theorem memOf_ok:MemOk (memOf W) W:=fun _ _ _ h=>h
def Reads (enc:TypeId×Value→H) (P:Program) (W:World) (n:Nat) (t:TypeId) {α:Type} (f:α→List PV):Prop:=
  ∀ (fuel:Nat) (cs:List Value) (y:DataW H×List MemPlace),fuel≤n→DataW.trod enc P W 0 (fun _=>true) true fuel t cs=some y→∃ x:α,RpL (memOf W) (f x) cs
variable {n:Nat}
theorem Reads.zero {t:TypeId} {α:Type} {f:α→List PV}:Reads enc P W 0 t f:=by
  intro fuel cs y hn h
  obtain rfl:fuel=0:=by omega
  simp [DataW.trod] at h
theorem Reads.map {t:TypeId} {α β:Type} {f:α→List PV} {g:β→List PV} (h:Reads enc P W n t f) (e:∀ x,∃ y,f x=g y):Reads enc P W n t g:=by
  intro fuel cs y hn hy
  obtain ⟨x,hx⟩:=h fuel cs y hn hy
  obtain ⟨z,hz⟩:=e x
  exact ⟨z,hz▸hx⟩
theorem reads_int {t:TypeId} {k:IntKind} (ht:P.underlying t=some (.int k)):Reads enc P W n t (fun n:Int=>[.v (.int k n)]):=by
  intro fuel cs y _ h
  cases fuel with
  | zero=>simp [DataW.trod] at h
  | succ fuel=>
    simp only [DataW.trod,ht] at h
    split at h<;>simp_all [RpL,Rp,zEA]
theorem reads_string {t:TypeId} (ht:P.underlying t=some .string):Reads enc P W n t (fun s:List UInt8=>[.v (mkS s)]):=by
  intro fuel cs y _ h
  cases fuel with
  | zero=>simp [DataW.trod] at h
  | succ fuel=>
    simp only [DataW.trod,ht] at h
    split at h<;>try (simp_all;done)
    rename_i s _
    split at h
    · rename_i hs
      refine ⟨s.data.toList,.string s,[],rfl,?_,rfl⟩
      refine ⟨rfl,?_⟩
      simp only [zEA]
      exact decide_eq_true hs
    · cases h
theorem mapM_all {α β:Type} {f:α→Option β}:∀ {l:List α} {r:List β},l.mapM f=some r→∀ x∈l,∃ y,f x=some y
  | [],r,_,x,hx=>by cases hx
  | a::as,r,h,x,hx=>by
    rw [List.mapM_cons] at h
    cases ha:f a with
    | none=>simp [ha] at h
    | some b=>
      cases has:as.mapM f with
      | none=>simp [ha,has] at h
      | some bs=>
        rcases List.mem_cons.1 hx with rfl|hx
        · exact ⟨b,ha⟩
        · exact mapM_all has x hx
theorem list_of {α:Type} {Q:Nat→α→Prop}:∀ n:Nat,(∀ i,i < n→∃ x,Q i x)→∃ l:List α,l.length=n∧∀ i x,l[i]?=some x→Q i x
  | 0,_=>⟨[],rfl,fun i x h=>by simp at h⟩
  | n+1,h=>by
    obtain ⟨l,h1,h2⟩:=list_of n fun i hi=>h i (by omega)
    obtain ⟨x,hx⟩:=h n (by omega)
    refine ⟨l++[x],by simp [h1],fun i y hy=>?_⟩
    by_cases hi:i < n
    · rw [List.getElem?_append_left (by omega)] at hy
      exact h2 i y hy
    · rw [List.getElem?_append_right (by omega)] at hy
      have:i=n:=by
        apply Classical.byContradiction
        intro hne
        rw [show i-l.length=(i-l.length-1)+1 by omega] at hy
        simp at hy
      subst this
      simp [h1] at hy
      exact hy▸hx
theorem rpAt_of {m:Mem} {b:Nat}:∀ {xs:List PV} {cs:List Value} {o:Nat},RpL m xs cs→(∀ j,j < cs.length→m b (o+j)=cs[j]?)→RpAt m b o xs
  | [],cs,o,_,_=>trivial
  | x::xs,cs,o,h,hm=>by
    simp only [RpL] at h
    obtain ⟨u,us,rfl,h1,h2⟩:=h
    refine ⟨⟨u,by simpa using hm 0 (by simp),h1⟩,rpAt_of h2 fun j hj=>?_⟩
    have:=hm (j+1) (by simp;omega)
    rw [show o+1+j=o+(j+1) by omega,this]
    simp
theorem rpL_len {m:Mem}:∀ {xs:List PV} {cs:List Value},RpL m xs cs→xs.length=cs.length
  | [],cs,h=>by simp only [RpL] at h;rw [h];rfl
  | x::xs,cs,h=>by
    simp only [RpL] at h
    obtain ⟨u,us,rfl,h1,h2⟩:=h
    simp [rpL_len h2]
theorem rpL_append {m:Mem}:∀ {xs ys:List PV} {cs ds:List Value},RpL m xs cs→RpL m ys ds→RpL m (xs++ys) (cs++ds)
  | [],ys,cs,ds,h,h'=>by simp only [RpL] at h;subst h;exact h'
  | x::xs,ys,cs,ds,h,h'=>by
    simp only [RpL] at h
    obtain ⟨u,us,rfl,h1,h2⟩:=h
    exact ⟨u,us++ds,rfl,h1,rpL_append h2 h'⟩
theorem rpRows_of {m:Mem} {b k:Nat}:∀ {rows:List (List PV)} {o:Nat},(∀ i r,rows[i]?=some r→r.length=k∧RpAt m b (o+i * k) r)→RpRows m b k o rows
  | [],o,_=>trivial
  | r::rs,o,h=>by
    refine ⟨by simpa using h 0 r rfl,rpRows_of fun i x hx=>?_⟩
    have:=h (i+1) x hx
    rw [show o+k+i * k=o+(i+1) * k by rw [Nat.add_mul];omega]
    exact this
theorem reads_slice {t e:TypeId} {α:Type} {f:α→List PV} {k:Nat} (ht:P.underlying t=some (.slice e)) (hk:P.cellsOf e=k) (hk0:0 < k) (he:Reads enc P W n e f):Reads enc P W (n+1) t (fun l:List α=>[.sl k (l.map f)]):=by
  intro fuel cs y hn h
  cases fuel with
  | zero=>simp [DataW.trod] at h
  | succ fuel=>
    simp only [DataW.trod,ht] at h
    split at h<;>try (simp_all;done)
    · exact ⟨[],.slice none 0 0,[],rfl,⟨none,0,rfl,Nat.le_refl _,by simp [maxLen],.inl rfl⟩,rfl⟩
    · rename_i e' a len cap he'
      obtain rfl:e=e':=by simpa using he'
      split at h
      · rename_i hb
        cases h1:(List.range len).mapM (fun i=>(W.cells? 0 (a.add (i * P.cellsOf e)) (P.cellsOf e)).bind (DataW.trod enc P W 0 (fun _=>true) true fuel e)) with
        | none=>rw [h1] at h;simp at h
        | some elems=>
          have h2:=mapM_all h1
          have h3:∀ i,i < len→∃ x:α,∃ cs,W.cells? 0 (a.add (i * k)) k=some cs∧RpL (memOf W) (f x) cs:=by
            intro i hi
            obtain ⟨z,hz⟩:=h2 i (List.mem_range.2 hi)
            rw [hk] at hz
            cases h4:W.cells? 0 (a.add (i * k)) k with
            | none=>rw [h4] at hz;cases hz
            | some cs=>
              rw [h4] at hz
              obtain ⟨x,hx⟩:=he fuel cs z (by omega) hz
              exact ⟨x,cs,rfl,hx⟩
          obtain ⟨l,h4,h5⟩:=list_of len h3
          refine ⟨l,.slice (some a) len cap,[],rfl,⟨some a,cap,by simp [h4],by simp [h4,hb.2.1],hb.2.2,?_⟩,rfl⟩
          by_cases hl:l=[]
          · exact .inl (by simp [hl])
          · have hlen:0 < len:=by rw [←h4];exact List.length_pos_iff.2 hl
            have hcell:∀ i cs,W.cells? 0 (a.add (i * k)) k=some cs→∀ j,j < cs.length→memOf W a.block (a.off+i * k+j)=cs[j]?:=by
              intro i cs hcs j hj
              obtain ⟨_,h6,h7⟩:=World.cells?_some hcs
              have h8:=h7 j (by omega)
              rw [←h8]
              have h9:(W.cell? ((a.add (i * k)).add j)).isSome:=by rw [h8];simp [hj]
              unfold memOf
              by_cases hz:i * k=0∧j=0
              · rw [hz.1,hz.2] at h9 ⊢
                simp only [Addr.add,if_true,Nat.add_zero] at h9 ⊢
                congr 1
                obtain ⟨b,o,sp⟩:=a
                cases sp with
                | none=>rfl
                | some q=>exfalso;unfold World.cell? at h9;split at h9<;>simp at h9
              · congr 1
                unfold Addr.add
                split<;>split<;>first|(exfalso;omega)|(simp_all;done)|(simp;omega)
            have ha:a=⟨a.block,a.off,none⟩:=by
              obtain ⟨x,cs,h6,h7⟩:=h3 0 hlen
              obtain ⟨_,h8,h9⟩:=World.cells?_some h6
              have h10:=h9 0 hk0
              obtain ⟨b,o,sp⟩:=a
              cases sp with
              | none=>rfl
              | some q=>
                exfalso
                simp [Addr.add] at h10
                have h11:cs[0]?≠none:=by rw [List.getElem?_eq_getElem (by omega)];simp
                rw [←h10] at h11
                unfold World.cell? at h11
                split at h11<;>simp at h11
            refine .inr ⟨a.block,a.off,by rw [←ha],rpRows_of fun i r hr=>?_⟩
            rw [List.getElem?_map] at hr
            cases hx:l[i]? with
            | none=>rw [hx] at hr;cases hr
            | some x=>
              rw [hx] at hr
              obtain rfl:f x=r:=by simpa using hr
              obtain ⟨cs,h6,h7⟩:=h5 i x hx
              have h8:=rpL_len h7
              obtain ⟨_,h9,_⟩:=World.cells?_some h6
              exact ⟨by omega,rpAt_of h7 (hcell i cs h6)⟩
      · cases h
def ReadsFs (enc:TypeId×Value→H) (P:Program) (W:World) (n:Nat) (fs:List Field) (off N:Nat) {α:Type} (g:α→List PV):Prop:=
  ∀ (fuel:Nat) (cs:List Value) (ys:List (DataW H×List MemPlace)),fuel≤n→cs.length=off+N→(fs.mapM fun f=>DataW.trod enc P W 0 (fun _=>true) true fuel f.type ((cs.drop f.offset).take (P.cellsOf f.type)))=some ys→∃ x:α,RpL (memOf W) (g x) (cs.drop off)
theorem fs_nil {off:Nat}:ReadsFs enc P W n [] off 0 (fun _:Unit=>[]):=by
  intro fuel cs ys _ hl _
  refine ⟨(),?_⟩
  simp only [RpL]
  exact List.drop_eq_nil_of_le (by omega)
theorem fs_cons {fd:Field} {fs:List Field} {off k N:Nat} {α β:Type} {f:α→List PV} {g:β→List PV} (ho:fd.offset=off) (hk:P.cellsOf fd.type=k) (h1:Reads enc P W n fd.type f) (h2:ReadsFs enc P W n fs (off+k) N g):ReadsFs enc P W n (fd::fs) off (k+N) (fun x:α×β=>f x.1++g x.2):=by
  intro fuel cs ys hn hl h
  rw [List.mapM_cons] at h
  rw [ho,hk] at h
  cases ha:DataW.trod enc P W 0 (fun _=>true) true fuel fd.type ((cs.drop off).take k) with
  | none=>simp [ha] at h
  | some b=>
    cases has:fs.mapM (fun f=>DataW.trod enc P W 0 (fun _=>true) true fuel f.type ((cs.drop f.offset).take (P.cellsOf f.type))) with
    | none=>simp [ha,has] at h
    | some bs=>
      obtain ⟨x,hx⟩:=h1 fuel _ b hn ha
      obtain ⟨z,hz⟩:=h2 fuel cs bs hn (by omega) has
      refine ⟨(x,z),?_⟩
      have e:cs.drop off=(cs.drop off).take k++cs.drop (off+k):=by
        rw [←List.drop_drop,List.take_append_drop]
      rw [e]
      exact rpL_append hx hz
theorem reads_struct {t:TypeId} {fs:Array Field} {N:Nat} {α:Type} {g:α→List PV} (ht:P.underlying t=some (.struct fs)) (hN:P.cellsOf t=N) (h:ReadsFs enc P W n fs.toList 0 N g):Reads enc P W (n+1) t g:=by
  intro fuel cs y hn hy
  cases fuel with
  | zero=>simp [DataW.trod] at hy
  | succ fuel=>
    simp only [DataW.trod,ht] at hy
    split at hy
    · rename_i hl
      cases h1:fs.toList.mapM (fun f=>DataW.trod enc P W 0 (fun _=>true) true fuel f.type ((cs.drop f.offset).take (P.cellsOf f.type))) with
      | none=>rw [h1] at hy;cases hy
      | some ys=>
        obtain ⟨x,hx⟩:=h fuel cs ys (by omega) (by omega) h1
        exact ⟨x,by simpa using hx⟩
    · cases hy
theorem Reads.less {n':Nat} (hn:n'≤n) {t:TypeId} {α:Type} {f:α→List PV} (h:Reads enc P W n t f):Reads enc P W n' t f:=fun fuel cs y h1 h2=>h fuel cs y (by omega) h2
end
end Go.Hx
end

section
/-
  Arguments read off the memory, whatever the program. No condition.
-/
set_option linter.unusedVariables false
set_option maxRecDepth 100000
namespace Go.Hx
open Go.RowKit Go.ChangeShapes Go.WideShapes Go.WideElems
section
variable {H:Type} {enc:TypeId×Value→H} {P:Program} {W:World}
theorem arg_struct {r:Reach} {base:Nat} {t:TypeId} {fs:Array Field} {v:Value} {d:DataW H} {ps:List MemPlace} {α:Type} {f:α→List PV} (ht:P.underlying t=some (.struct fs)) (hR:∀ n,Reads enc P W n t f) (hval:Value.okWide P W r base t v) (h:DataW.Trod enc P W 0 (fun _=>true) true t v d ps):∃ x:α,RpV (memOf W) (.agg (f x)) v:=by
  obtain ⟨fuel,h⟩:=h
  obtain ⟨x,hx⟩:=hR fuel fuel _ _ (Nat.le_refl _) h
  simp only [Value.okWide,ht] at hval
  obtain ⟨cs,rfl,_⟩:=hval
  exact ⟨x,cs.toList,by simp,hx⟩
theorem arg_cell {r:Reach} {base:Nat} {t:TypeId} {v:Value} {d:DataW H} {ps:List MemPlace} {α:Type} {f:α→PV} (hns:∀ cs,¬ Value.okWide P W r base t (.agg cs)) (hR:∀ n,Reads enc P W n t (fun x=>[f x])) (hval:Value.okWide P W r base t v) (h:DataW.Trod enc P W 0 (fun _=>true) true t v d ps):∃ x:α,RpV (memOf W) (.one (f x)) v:=by
  obtain ⟨fuel,h⟩:=h
  obtain ⟨x,hx⟩:=hR fuel fuel _ _ (Nat.le_refl _) h
  have hv:v.cells.toList=[v]:=by
    cases v<;>first|rfl|(exact (hns _ hval).elim)
  rw [hv] at hx
  simp only [RpL] at hx
  obtain ⟨u,us,e,h1,rfl⟩:=hx
  cases e
  exact ⟨x,h1⟩
theorem int_not_agg {r:Reach} {base:Nat} {t:TypeId} {k:IntKind} (ht:P.underlying t=some (.int k)):∀ cs,¬ Value.okWide P W r base t (.agg cs):=by
  intro cs h;simp [Value.okWide,ht,Cell.okWide,Cell.ok] at h
theorem slice_not_agg {r:Reach} {base:Nat} {t e:TypeId} (ht:P.underlying t=some (.slice e)):∀ cs,¬ Value.okWide P W r base t (.agg cs):=by
  intro cs h;simp [Value.okWide,ht,Cell.okWide,Cell.ok] at h
end
end Go.Hx
end
