/-
  Entries off the memory, whose elements' bytes are within the form's reach. No condition.
-/
import Derived.Test.YtjnagiaooecklabGreatDoorG36
import Derived.SizedLaws
set_option linter.all false
set_option linter.unusedVariables false
set_option maxRecDepth 100000
namespace Go.Hx
open Go.RowKit Go.ChangeShapes Go.WideShapes Go.WideElems Go.Proofs
section
variable {H:Type} {enc:TypeId×Value→H} {P:Program} {W:World}
theorem mapM_lenB {α β:Type} {f:α→Option β}:∀ {l:List α} {r:List β},l.mapM f=some r→r.length=l.length
  | [],r,h=>by simp at h;subst h;rfl
  | x::l,r,h=>by
    rw [List.mapM_cons] at h
    cases h1:f x with
    | none=>simp [h1] at h
    | some y=>
      cases h2:l.mapM f with
      | none=>simp [h1,h2] at h
      | some q=>
        simp [h1,h2] at h
        subst h
        simp [mapM_lenB h2]
theorem mapM_mem {α β:Type} {f:α→Option β}:∀ {l:List α} {r:List β},l.mapM f=some r→∀ x∈l,∃ y,y∈r∧f x=some y
  | [],r,h,x,hx=>by cases hx
  | z::l,r,h,x,hx=>by
    rw [List.mapM_cons] at h
    cases h1:f z with
    | none=>simp [h1] at h
    | some y=>
      cases h2:l.mapM f with
      | none=>simp [h1,h2] at h
      | some q=>
        simp [h1,h2] at h
        subst h
        rcases List.mem_cons.1 hx with rfl|hx
        · exact ⟨y,List.mem_cons_self,h1⟩
        · obtain ⟨y',h3,h4⟩:=mapM_mem h2 x hx
          exact ⟨y',List.mem_cons_of_mem _ h3,h4⟩
theorem trod_sliceF {t e:TypeId} (ht:P.underlying t=some (.slice e)) {A:Option Addr} {n c fuel:Nat} {y:DataW H×List MemPlace} (h:DataW.trod enc P W 0 (fun _=>true) true fuel t [.slice A n c]=some y):n=0∨∃ el rest,y.1=.slice el rest∧el.length=n:=by
  cases fuel with
  | zero=>simp [DataW.trod] at h
  | succ fuel=>
    simp only [DataW.trod,ht] at h
    split at h<;>try (simp_all;done)
    rename_i e' a len cap he' hq
    obtain rfl:e=e':=by simpa using he'
    split at h
    · rename_i hb
      right
      obtain ⟨el,h1,h⟩:=Option.bind_eq_some_iff.1 h
      obtain ⟨rest,h2,h⟩:=Option.map_eq_some_iff.1 h
      have h3:=mapM_lenB h1
      simp only [List.length_range] at h3
      simp only [List.cons.injEq,Value.slice.injEq,and_true] at hq
      subst h
      exact ⟨_,_,rfl,by rw [List.length_map,h3];exact hq.2.1.symm⟩
    · cases h
theorem weightsAll_mem {e:TypeId}:∀ {l:List (DataW H)} {d:DataW H},d∈l→∀ n∈d.weights P e,n∈DataW.weightsAll P e l
  | x::l,d,hd,n,hn=>by
    rw [DataW.weightsAll,List.mem_append]
    rcases List.mem_cons.1 hd with rfl|hd
    · exact .inl hn
    · exact .inr (weightsAll_mem hd n hn)
  | [],d,hd,_,_=>by cases hd
theorem elem_of {t e:TypeId} {α:Type} {f:α→List PV} {k:Nat} (ht:P.underlying t=some (.slice e)) (hk:P.cellsOf e=k) (hk0:0 < k) {fuel:Nat} {A:Option Addr} {n c:Nat} {y:DataW H×List MemPlace}
    (h:DataW.trod enc P W 0 (fun _=>true) true fuel t [.slice A n c]=some y) {l:List α} (hfl:∀ x,(f x).length=k) (hl:Rp (memOf W) (.sl k (l.map f)) (.slice A n c)):
    ∀ x∈l,∃ fuel' cs z,DataW.trod enc P W 0 (fun _=>true) true fuel' e cs=some z∧RpL (memOf W) (f x) cs∧∀ m∈z.1.weights P e,m∈y.1.weights P t:=by
  intro x hx
  obtain ⟨i,hi,rfl⟩:=List.mem_iff_getElem.1 hx
  simp only [Rp] at hl
  obtain ⟨A',c',hv,_,_,hr⟩:=hl
  injection hv with hA hn hc
  rcases hr with hr|⟨b,o,hA',hr⟩
  · have:l=[]:=by simpa using hr
    subst this;cases hi
  rw [hA'] at hA
  subst hA
  obtain ⟨hk1,hrp⟩:=hr.get i (f l[i]) (by simp [hi])
  cases fuel with
  | zero=>simp [DataW.trod] at h
  | succ fuel=>
    simp only [DataW.trod,ht] at h
    split at h
    · rename_i hb
      obtain ⟨el,h1,h⟩:=Option.bind_eq_some_iff.1 h
      obtain ⟨rest,h2,h⟩:=Option.map_eq_some_iff.1 h
      have hil:i < n:=by rw [hn];simpa using hi
      obtain ⟨z,hz,hz2⟩:=mapM_mem h1 i (List.mem_range.2 hil)
      obtain ⟨cs,hcs,hz3⟩:=Option.bind_eq_some_iff.1 hz2
      subst h
      refine ⟨fuel,cs,z,hz3,?_,fun m hm=>?_⟩
      · obtain ⟨us,hu1,hu2⟩:=hrp.vals
        obtain ⟨_,h6,h7⟩:=World.cells?_some hcs
        have hul:=hu1.length
        have:us=cs:=by
          apply List.ext_getElem?
          intro j
          by_cases hj:j < k
          · have h8:=h7 j (by omega)
            have hju:j < us.length:=by omega
            have h9:=hu2 j _ (List.getElem?_eq_getElem hju)
            rw [List.getElem?_eq_getElem hju,←h9,←h8]
            unfold memOf
            have e2:((⟨b,o,none⟩:Addr).add (i * P.cellsOf e)).add j=⟨b,o+i * k+j,none⟩:=by
              rw [hk]
              unfold Addr.add
              split<;>split<;>first|(exfalso;omega)|(simp_all;done)|(simp;omega)
            rw [e2]
          · rw [List.getElem?_eq_none (by omega),List.getElem?_eq_none (by omega)]
        rw [←this];exact hu1
      · simp only [DataW.weights,ht,List.mem_cons,List.mem_append]
        exact .inr (.inl (weightsAll_mem (List.mem_map.2 ⟨z,hz,rfl⟩) m hm))
    · cases h
end
section
variable {H:Type} {enc:TypeId×Value→H} {W:World}
theorem ent_size {fuel:Nat} {cs:List Value} {z:DataW H×List MemPlace} (h:DataW.trod enc Tryz.prog W 0 (fun _=>true) true fuel 75 cs=some z) {x:Ent} (hx:RpL (memOf W) (entV x) cs) (hw:∀ m∈z.1.weights Tryz.prog 75,m≤reachBytes):x.nodes.length * 8≤reachBytes:=by
  simp only [entV,RpL] at hx
  obtain ⟨u0,r0,rfl,_,u1,r1,rfl,_,u,r2,rfl,hu,rfl⟩:=hx
  simp only [Rp] at hu
  obtain ⟨A,c,rfl,_⟩:=hu
  cases fuel with
  | zero=>simp [DataW.trod] at h
  | succ fuel=>
    simp only [DataW.trod,u_ent] at h
    split at h
    · obtain ⟨xs,h1,h⟩:=Option.map_eq_some_iff.1 h
      subst h
      have e1:fsEnt.toList=[{name := "Kind", type:=3,offset:=0,embedded:=false,tag := "", pkgPath := "", byteOffset:=0},{name := "Name", type:=9,offset:=1,embedded:=false,tag := "", pkgPath := "", byteOffset:=8},{name := "Nodes", type:=29,offset:=2,embedded:=false,tag := "", pkgPath := "", byteOffset:=24}]:=rfl
      rw [e1] at h1
      simp only [List.mapM_cons,List.mapM_nil] at h1
      obtain ⟨y0,g0,h1⟩:=Option.bind_eq_some_iff.1 h1
      obtain ⟨q1,h1,h2⟩:=Option.bind_eq_some_iff.1 h1
      obtain ⟨y1,g1,h1⟩:=Option.bind_eq_some_iff.1 h1
      obtain ⟨q2,h1,h3⟩:=Option.bind_eq_some_iff.1 h1
      obtain ⟨y2,g2,h1⟩:=Option.bind_eq_some_iff.1 h1
      have h1:some [y2]=some q2:=h1
      have h3:some (y1::q2)=some q1:=h3
      have h2:some (y0::q1)=some xs:=h2
      injection h1 with h1;injection h3 with h3;injection h2 with h2
      subst h1;subst h3;subst h2
      have hc:Tryz.prog.cellsOf 29=1:=by kernel_rfl
      rw [hc] at g2
      have g2:DataW.trod enc Tryz.prog W 0 (fun _=>true) true fuel 29 [.slice A (zAS x.nodes).length c]=some y2:=g2
      have hil:(zAS x.nodes).length=x.nodes.length:=by simp [zAS]
      rcases trod_sliceF u_ints g2 with h|⟨el,rest,h5,h6⟩
      · rw [hil] at h;rw [h];simp
      · rw [hil] at h6
        have:=hw ((el.length+rest.length) * Tryz.prog.bytesOf 3) (by
          simp only [DataW.weights,u_ent,e1,List.map_cons,List.map_nil,DataW.weightsEach,List.mem_append,h5,u_ints]
          exact .inr (.inr (.inl List.mem_cons_self)))
        rw [show Tryz.prog.bytesOf 3=8 by kernel_rfl] at this
        omega
    · cases h
theorem ents_sizes {d:DataW H} {ps:List MemPlace} {v:Value} (h:DataW.Trod enc Tryz.prog W 0 (fun _=>true) true 47 v d ps) {x:List Ent} (hx:ArgRep (memOf W) W (.val (.one (.sl 3 (zCj x)))) v) (hw:∀ m∈d.weights Tryz.prog 47,m≤reachBytes):∀ e∈x,e.nodes.length * 8≤140737488355328:=by
  intro e he
  have hx':Rp (memOf W) (.sl 3 (x.map entV)) v:=hx
  have hv:=hx'
  simp only [Rp] at hv
  obtain ⟨A,c,rfl,_⟩:=hv
  obtain ⟨fuel,h⟩:=h
  have h:DataW.trod enc Tryz.prog W 0 (fun _=>true) true fuel 47 [.slice A (x.map entV).length c]=some (d,ps):=h
  obtain ⟨f',cs,z,g1,g2,g3⟩:=elem_of (f:=entV) (k:=3) u_ents (by kernel_rfl) (by decide) h (fun x=>rfl) hx' e he
  have:=ent_size g1 g2 fun m hm=>hw m (g3 m hm)
  have h7:reachBytes=140737488351232:=rfl
  omega
end
end Go.Hx
