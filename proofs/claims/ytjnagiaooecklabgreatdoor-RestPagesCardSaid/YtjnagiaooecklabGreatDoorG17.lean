/-
  Walks of functions of the program over an abstract layer, and the laws that they use: each contract says what the function computes, for every input that its conditions let by. No other condition.
-/
import Derived.Test.YtjnagiaooecklabGreatDoorG14
import Derived.Test.YtjnagiaooecklabGreatDoorG16
import Derived.Shelf.SlSortCmp.WholeK
import Derived.Test.YtjnagiaooecklabGreatDoorG12
set_option linter.all false
section
set_option maxRecDepth 100000
set_option maxHeartbeats 4000000
namespace Go.Hx
open Go.Proofs Go.RowKit Go.Sort
attribute [local go_sem] zAh zAj zAg zAd ndV zAm
theorem zWd {k:Nat} (h0:0 < k):∀ (l:List (List Value)),(∀ r∈l,r.length=k)→∀ t,t < l.length * k→l.flatten[t]! = (l[t / k]!)[t % k]!
 |[],_,t,ht=>by simp at ht
 |r::l,hk,t,ht=>by
  have hr:=hk r List.mem_cons_self
  rw [List.flatten_cons]
  by_cases h:t < k
  ·rw [Nat.div_eq_of_lt h,Nat.mod_eq_of_lt h]
   have h1:t < (r++l.flatten).length:=by rw [List.length_append];omega
   rw [getElem!_pos _ t h1,List.getElem_append_left (by omega),List.getElem!_cons_zero,getElem!_pos r t (by omega)]
  ·obtain ⟨s,rfl⟩:∃ s,t=s+k:=⟨t-k,by omega⟩
   have hs:s < l.length * k:=by rw [List.length_cons,Nat.succ_mul] at ht;omega
   have ih:=zWd h0 l (fun r hr=>hk r (List.mem_cons_of_mem _ hr)) s hs
   rw [Nat.add_div_right _ h0,Nat.add_mod_right,List.getElem!_cons_succ,←ih]
   simp only [List.getElem!_eq_getElem?_getD]
   rw [List.getElem?_append_right (by omega),hr,Nat.add_sub_cancel]
theorem zI5 {k:Nat}:∀ (l:List (List Value)),(∀ r∈l,r.length=k)→l.flatten.length=l.length * k
 |[],_=>by simp
 |r::l,h=>by rw [List.flatten_cons,List.length_append,h r List.mem_cons_self,zI5 l (fun r hr=>h r (List.mem_cons_of_mem _ hr)),List.length_cons,Nat.succ_mul,Nat.add_comm]
theorem yOl {α:Type} [Inhabited α] (enc:α→List Value) (k:Nat) (h0:0 < k) (hk:∀ x,(enc x).length=k) (d:Array α):(flatK enc k d).toList=(d.toList.map enc).flatten:=by
 have hr:∀ r∈d.toList.map enc,r.length=k:=fun r hr=>by obtain ⟨x,_,rfl⟩:=List.mem_map.1 hr;exact hk x
 have hl:=zI5 _ hr
 apply List.ext_getElem
 ·rw [Array.length_toList,size_flatK,hl,List.length_map,Array.length_toList]
 ·intro t h1 h2
  have ht:t < d.size * k:=by simpa using h1
  have e1:=get_flatK enc k d t ht
  have e2:=zWd h0 _ hr t (by simpa using ht)
  rw [←getElem!_pos (d.toList.map enc).flatten t h2,e2,Array.getElem_toList,←getElem!_pos (flatK enc k d) t (by simpa using ht),e1]
  have hq:t / k < d.size:=by rw [Nat.div_lt_iff_lt_mul h0];exact ht
  congr 1
  rw [getElem!_pos (d.toList.map enc) (t / k) (by simpa using hq),List.getElem_map,Array.getElem_toList,getElem!_pos d (t / k) hq]
abbrev EV:=Ent×Value
def nmE (x:EV):Bys:=if x.1.name.length≤maxLen then x.1.name else []
theorem yKn (x:EV):(nmE x).length≤maxLen:=by
 unfold nmE
 split
 ·assumption
 ·exact Nat.zero_le _
def kyE (x:EV):Key:=(x.1.kind,nmE x)
def zLI (x:EV):List Value:=[.int .i64 x.1.kind,mkS (nmE x),if zFI x.2 then x.2 else .slice none 0 0]
section
variable [Glob]
theorem yHS (x:EV):∀ v∈zLI x,zFI v=true:=by
 intro v hv
 simp only [zLI,List.mem_cons,List.not_mem_nil,or_false] at hv
 rcases hv with rfl|rfl|rfl
 ·rfl
 ·exact zTk (yKn x)
 ·split
  ·assumption
  ·rfl
def cfE (x y:EV):Int:=yQQ (kyE x) (kyE y)
theorem ltE (x y:EV):ltOf cfE x y=zAJ (kyE x) (kyE y):=by
 unfold ltOf cfE
 rw [Bool.eq_iff_iff,decide_eq_true_eq]
 exact yRB _ _
theorem yZS:SWO (ltOf cfE) where
 irrefl x:=by rw [ltE];exact zBy _
 trans x y z h1 h2:=by rw [ltE] at *;exact zEk h1 h2
 ntrans x y z h1 h2:=by
  rw [ltE] at *
  cases h3:zAJ (kyE x) (kyE z) with
  |false=>rfl
  |true=>
   cases h4:zAJ (kyE y) (kyE x) with
   |true=>rw [zEk h4 h3] at h2;cases h2
   |false=>rw [←zIS h1 h4,h3] at h2;cases h2
end
theorem yRF {w w':World} (h1:w'.os=w.os) (h2:w'.tape=w.tape) (h3:w'.output=w.output) (h4:w.drawn≤w'.drawn) (h5:w.heap.size≤w'.heap.size) (h6:∀ b,b < w.heap.size→w'.heap[b]?=w.heap[b]?):∃ q os',w'=grow (w.drewN q) os':=by
 refine ⟨w'.drawn-w.drawn,w'.heap.extract w.heap.size w'.heap.size,?_⟩
 obtain ⟨hp,tp,dr,os,out⟩:=w
 obtain ⟨hp',tp',dr',os',out'⟩:=w'
 simp only at h1 h2 h3 h4 h5 h6
 subst h1;subst h2;subst h3
 unfold grow World.drewN
 simp only [World.mk.injEq,true_and,and_true]
 refine ⟨?_,by omega⟩
 apply Array.ext_getElem?
 intro i
 rw [Array.getElem?_append]
 split
 ·rename_i hi;exact h6 i hi
 ·rename_i hi
  rw [Array.getElem?_extract]
  split
  ·congr 1;omega
  ·rw [Array.getElem?_eq_none];omega
theorem yRG [Glob] (hs:Glob.strict=true) {R:Nat→Prop} (hR:∀ b,¬ R b) {w w':World} (p:Pres R w w'):∃ q os',w'=grow (w.drewN q) os':=
 yRF p.os p.tape p.output (p.drawn hs) p.size fun b hb=>p.block b hb (hR b)
@[reducible] def gS (G:Glob):Glob:={ok:=G.ok,n:=G.n,size:=G.size,keep:=G.keep,strict:=true}
theorem yZT [G:Glob] (blk size:Nat) (w:World) (hw:Glob.ok w) (hb:Glob.n≤blk):CmpLays Tryz.prog zBA #[] zLI 3 cfE blk 0 size w:=by
 intro k os dk hs x y
 have h:=@yMi (gS G) x.1.kind y.1.kind (nmE x) (nmE y) .any .any
 obtain ⟨W,hW⟩:∃ W,W=sortWorldK zLI 3 w blk 0 k dk os:=⟨_,rfl⟩
 rw [←hW]
 have hok:G.ok W:=G.keep w W (fun b hbn=>by
  rw [hW]
  unfold sortWorldK grow
  have hlt:b < w.heap.size:=Nat.lt_of_lt_of_le hbn (G.size _ hw)
  rw [Array.getElem?_append_left (by rw [size_putRowK];exact hlt)]
  unfold putRowK putRow mapBlock
  rw [Array.getElem?_modify,if_neg (by have:b < G.n:=hbn;have:G.n≤blk:=hb;omega)]
  rfl) hw
 have ha:ArgsRep (fun _ _=>none) W [.val (.agg [bI x.1.kind,bS (nmE x),.any]),.val (.agg [bI y.1.kind,bS (nmE y),.any])] [.agg (zLI x).toArray,.agg (zLI y).toArray]:=by
  have one:∀ z:EV,RpV (fun _ _=>none) (.agg [bI z.1.kind,bS (nmE z),.any]) (.agg (zLI z).toArray):=fun z=>by
   refine ⟨zLI z,rfl,?_⟩
   have hf:=yHS z
   simp only [zLI,RpL,Rp]
   exact ⟨_,_,rfl,⟨rfl,rfl⟩,_,_,rfl,⟨rfl,zTk (yKn z)⟩,_,_,rfl,hf _ (by simp [zLI]),rfl⟩
  exact ⟨_,_,rfl,one x,_,_,rfl,one y,rfl⟩
 have hc:=h.2 (fun _ _=>none) W _ (fun b o u hu=>by cases hu) ha (fun g hg=>by cases hg) hok (fun b hb=>by rcases hb with hb|hb<;>cases hb)
 refine hc.mono fun e w' hp=>?_
 obtain ⟨m',p1,p2,p3,p4,p5,u,rfl,p6⟩:=hp
 obtain rfl:u=.int .i64 (yQQ (x.1.kind,nmE x) (y.1.kind,nmE y)):=p6.1
 exact ⟨rfl,@yRG (gS G) rfl _ (fun b hc=>by rcases hc with hc|hc<;>cases hc) _ _ p3⟩
end Go.Hx
end

section
set_option maxRecDepth 100000
set_option maxHeartbeats 4000000
namespace Go.Hx
open Go.Proofs Go.RowKit Go.Sort
variable [Glob]
attribute [local go_sem] zAh zAj zAg zAd ndV zAm
def yYN (e:Ent):List PV:=[bI e.kind,bS e.name,fr (.sl 1 (zAM e.nodes))]
def zFi (l:List Ent):List (List PV):=l.map yYN
theorem yWK (e:Ent):DnL (yYN e) (entV e):=⟨Dn.refl _,Dn.refl _,Dn.w _ _,trivial⟩
theorem yKq (l:List Ent):DnR (zFi l) (zEf l):=DnR.map l fun x _=>yWK x
def ovE (l:List Ent):List (List OV):=(zFi l).map fun r=>r.map OV.p
theorem yMk (l:List Ent):(ovE l).flatten=(zFi l).flatten.map OV.p:=by unfold ovE;rw [List.map_flatten]
theorem yE5 (l:List Ent):(ovE l).length=l.length:=by simp [ovE,zFi]
theorem yUC (l:List Ent):∀ r∈ovE l,r.length=3:=by
 intro r hr
 obtain ⟨q,hq,rfl⟩:=List.mem_map.1 hr
 obtain ⟨e,_,rfl⟩:=List.mem_map.1 hq
 rfl
section
variable {m:Mem} {w:World}
theorem yWL:∀ {cs:List PV} {us:List Value} {fp:List Nat},OvL m w (cs.map OV.p) us fp→fp=[]∧RpL m cs us
 |[],us,fp,h=>by
  simp only [List.map_nil,OvL] at h
  exact ⟨h.2,by simp only [RpL];exact h.1⟩
 |c::cs,us,fp,h=>by
  simp only [List.map_cons,OvL,OvR] at h
  obtain ⟨u,us',f1,f2,rfl,rfl,⟨rfl,h3⟩,h4⟩:=h
  obtain ⟨h5,h6⟩:=yWL h4
  subst h5
  exact ⟨rfl,by simp only [RpL];exact ⟨_,_,rfl,h3,h6⟩⟩
theorem yBF:∀ {es:List Ent} {us:List Value},RpL m (zFi es).flatten us→∃ d:List EV,d.map (·.1)=es∧us=(d.map zLI).flatten∧∀ x∈d,nmE x=x.1.name∧Rp m (fr (.sl 1 (zAM x.1.nodes))) x.2
 |[],us,h=>⟨[],rfl,by simpa [zFi,RpL] using h,by simp⟩
 |e::es,us,h=>by
  have e0:(zFi (e::es)).flatten=bI e.kind::bS e.name::fr (.sl 1 (zAM e.nodes))::(zFi es).flatten:=rfl
  rw [e0] at h
  simp only [RpL] at h
  obtain ⟨u1,r1,rfl,h1,u2,r2,rfl,h2,u3,r3,rfl,h3,h4⟩:=h
  obtain ⟨d,g1,rfl,g3⟩:=yBF h4
  obtain ⟨rfl,_⟩:=h1
  obtain ⟨rfl,hfl⟩:=h2
  have hn:nmE (e,u3)=e.name:=by
   unfold nmE
   rw [if_pos]
   have e2:zFI (mkS e.name)=decide (ByteArray.size ⟨e.name.toArray⟩≤maxLen):=rfl
   rw [e2,decide_eq_true_eq] at hfl
   simpa [ByteArray.size] using hfl
  refine ⟨(e,u3)::d,by rw [List.map_cons,g1],?_,fun x hx=>?_⟩
  ·simp only [List.map_cons,List.flatten_cons,zLI,hn,if_pos h3.flat_]
   rfl
  ·rcases List.mem_cons.1 hx with rfl|hx
   ·exact ⟨hn,h3⟩
   ·exact g3 x hx
theorem yBG:∀ (d:List EV),(∀ x∈d,nmE x=x.1.name∧Rp m (fr (.sl 1 (zAM x.1.nodes))) x.2)→RpL m (zFi (d.map (·.1))).flatten (d.map zLI).flatten
 |[],_=>by simp [zFi,RpL]
 |x::d,h=>by
  obtain ⟨h1,h2⟩:=h x List.mem_cons_self
  have e0:(zFi ((x::d).map (·.1))).flatten=bI x.1.kind::bS x.1.name::fr (.sl 1 (zAM x.1.nodes))::(zFi (d.map (·.1))).flatten:=rfl
  rw [e0]
  have hl:=yKn x
  rw [h1] at hl
  simp only [List.map_cons,List.flatten_cons,zLI,h1,if_pos h2.flat_,List.cons_append,List.nil_append,RpL,Rp]
  refine ⟨_,_,rfl,⟨rfl,rfl⟩,_,_,rfl,⟨rfl,zTk hl⟩,_,_,rfl,?_,yBG d fun y hy=>h y (List.mem_cons_of_mem _ hy)⟩
  have h3:=h2
  simp only [Rp] at h3
  exact h3
end
theorem yWM {es es':List Ent} (hs:zLx es') (hp:es.Perm es') (hl:es.length≤1000000):zTV Tryz.prog zD8 zAF 3 (ovE es) [.val (.one (.clo zBA []))] (ovE es'):=by
 refine ⟨by kernel_rfl,fun m w u b c fp us hm hv hne hnd hfp hG ha=>?_⟩
 obtain ⟨u2,us2,rfl,h2,rfl⟩:=ha
 have h2':Rp m (.clo zBA []) u2:=h2
 simp only [Rp,RpL] at h2'
 obtain ⟨us3,rfl,rfl⟩:=h2'
 obtain ⟨xs,f,g1,g2,g3,rfl,g5⟩:=zCm.1 hv
 rw [yMk] at g2
 obtain ⟨rfl,g6⟩:=yWL g2
 obtain ⟨d,d1,rfl,d3⟩:=yBF g6
 have hub:=g5 b rfl hne
 have hb0:=hfp b (List.mem_append_left _ (zC0.2 hub))
 rw [yE5] at g1
 have hdl:d.length=es.length:=by rw [←d1,List.length_map]
 have hen:∀ r∈d.map zLI,r.length=3:=fun r hr=>by obtain ⟨x,_,rfl⟩:=List.mem_map.1 hr;rfl
 rcases g1.2 with ⟨rfl,_⟩|⟨g,cap,cur,rfl,_,hh,hc1,hc2,hc3,hc4⟩
 ·simp [Value.ownBlock] at hub
 obtain rfl:g=b:=by simpa [Value.ownBlock] using hub
 have hgs:g < w.heap.size:=(Array.getElem?_eq_some_iff.1 hh).1
 have hfl:∀ D:List EV,(flatK zLI 3 D.toArray).toList=(D.map zLI).flatten:=fun D=>yOl zLI 3 (by decide) (fun _=>rfl) D.toArray
 have hH:HoldsK zLI 3 w g 0 d.toArray:=by
  intro j hj
  rw [size_flatK] at hj
  have hjl:j < (d.map zLI).flatten.length:=by rw [zI5 _ hen,List.length_map];simpa using hj
  have hcl:j < cur.size:=by rw [hc3];have:d.length * 3≤cap * 3:=Nat.mul_le_mul_right _ (by omega);simp at hj;omega
  refine ⟨?_,?_⟩
  ·unfold World.cell?
   simp only [hh,Nat.zero_add,Option.isSome_none,Bool.false_eq_true,if_false,id]
   rw [getElem!_pos _ j (by simpa using hj),Array.getElem?_eq_getElem hcl,←Array.getElem_toList,←Array.getElem_toList]
   congr 1
   simp only [hfl,←hc4,List.getElem_take]
  ·unfold World.frozen?
   simp only [hh]
   simp
 have hk:=AnyQ.slices_SortFunc (P:=Tryz.prog) Tryz.sortEnt 3 Tryz.isAgg75 Tryz.sizeOf75 zLI (fun _=>rfl) (fun x v hv=>zCl (yHS x v hv)) cfE yZS zBA #[] g 0 c d.toArray w (fun _ _=>zQd (by kernel_rfl) _ _) (yZT g _ w hG hb0.1) hH hgs (by simp;omega)
 have hsz:d.toArray.size=(ovE es).length:=by rw [yE5];simpa using hdl
 rw [hsz] at hk
 refine hk.mono ?_
 rintro e w' ⟨rfl,D,n,os,p1,p2,rfl⟩
 obtain ⟨p1,_,p3⟩:=p1
 have hDs:D.size=d.length:=by rw [p1];simp
 have hperm:D.toList.Perm d:=by
  have e1:(D.extract 0 (ovE es).length).toList=D.toList:=by
   rw [←hsz]
   simp [p1]
   exact List.take_of_length_le (by simp [hDs])
  have e2:(d.toArray.extract 0 (ovE es).length).toList=d:=by
   rw [←hsz];simp
  rw [e1,e2] at p3
  exact p3
 have hD3:∀ x∈D.toList,nmE x=x.1.name∧Rp m (fr (.sl 1 (zAM x.1.nodes))) x.2:=fun x hx=>d3 x (hperm.mem_iff.1 hx)
 have hDE:D.toList.map (·.1)=es':=by
  have q1:(D.toList.map (·.1)).Perm es':=((hperm.map (·.1)).trans (by rw [d1])).trans hp
  refine yBv ?_ hs (fun e=>q1.mem_iff)
  have hkn:(es'.map (·.key)).Nodup:=by
   rw [List.nodup_iff_pairwise_ne,List.pairwise_map]
   refine List.Pairwise.imp (fun {a b} h e=>?_) hs
   rw [e,zBy] at h;cases h
  have hkn2:((D.toList.map (·.1)).map (·.key)).Nodup:=(q1.map (·.key)).nodup_iff.2 hkn
  unfold zLx
  rw [List.pairwise_iff_getElem]
  intro i j hi hj hij
  have hi':i < D.size:=by simpa using hi
  have hj':j < D.size:=by simpa using hj
  have h5:=p2 i j (Nat.zero_le _) hij (by rw [←hsz];simp;omega)
  rw [ltE] at h5
  have a1:(D.toList.map (·.1))[i]=(D[i]!).1:=by rw [List.getElem_map,Array.getElem_toList,getElem!_pos D i hi']
  have a2:(D.toList.map (·.1))[j]=(D[j]!).1:=by rw [List.getElem_map,Array.getElem_toList,getElem!_pos D j hj']
  have k1:kyE D[i]! = (D[i]!).1.key:=by
   unfold kyE Ent.key
   rw [(hD3 D[i]! (by rw [getElem!_pos D i hi'];simp)).1]
  have k2:kyE D[j]! = (D[j]!).1.key:=by
   unfold kyE Ent.key
   rw [(hD3 D[j]! (by rw [getElem!_pos D j hj'];simp)).1]
  rw [k1,k2] at h5
  rw [a1,a2]
  cases h6:zAJ (D[i]!).1.key (D[j]!).1.key with
  |true=>rfl
  |false=>
   exfalso
   have h7:=zIS h6 h5
   have h8:((D.toList.map (·.1)).map (·.key))[i]'(by simpa using hi)=((D.toList.map (·.1)).map (·.key))[j]'(by simpa using hj):=by
    have b1:((D.toList.map (·.1)).map (·.key))[i]'(by simpa using hi)=(D[i]!).1.key:=by rw [List.getElem_map];exact congrArg Ent.key a1
    have b2:((D.toList.map (·.1)).map (·.key))[j]'(by simpa using hj)=(D[j]!).1.key:=by rw [List.getElem_map];exact congrArg Ent.key a2
    rw [b1,b2,h7]
   have:=(List.getElem_inj hkn2).1 h8
   omega
 have hl':es'.length=es.length:=hp.length_eq.symm
 have hw:(sortWorldK zLI 3 w g 0 n D os).heap[g]?=some (.cells (putCells id 0 (flatK zLI 3 D) cur) zAF (0,0)):=by
  unfold sortWorldK grow
  rw [Array.getElem?_append_left (by rw [size_putRowK];exact hgs)]
  unfold putRowK putRow mapBlock
  rw [Array.getElem?_modify,if_pos rfl]
  show Option.map _ (w.heap[g]?)=_
  rw [hh];rfl
 have hother:∀ x,x < w.heap.size→x≠g→(sortWorldK zLI 3 w g 0 n D os).heap[x]?=w.heap[x]?:=fun x hx hxg=>by
  unfold sortWorldK grow
  rw [Array.getElem?_append_left (by rw [size_putRowK];exact hx)]
  unfold putRowK putRow mapBlock
  rw [Array.getElem?_modify,if_neg (fun h=>hxg h.symm)]
  rfl
 have hH':=holdsK_sortWorldK_c (enc:=zLI) (k:=3) (w:=w) (blk:=g) (off:=0) d.toArray D n os hH hgs (by simp [hDs])
 have hpc:(putCells id 0 (flatK zLI 3 D) cur).size=cur.size:=by simp [putCells]
 have htake:(putCells id 0 (flatK zLI 3 D) cur).toList.take (es'.length * 3)=(D.toList.map zLI).flatten:=by
  have hDl:=hfl D.toList
  simp only [Array.toArray_toList] at hDl
  rw [←hDl]
  have hsz3:es'.length * 3≤cur.size:=by rw [hc3,hl'];exact Nat.mul_le_mul_right _ (by omega)
  apply List.ext_getElem
  ·rw [List.length_take,(Array.length_toList:(putCells id 0 (flatK zLI 3 D) cur).toList.length=_),hpc,(Array.length_toList:(flatK zLI 3 D).toList.length=_),size_flatK,hDs,hdl,hl']
   rw [hl'] at hsz3
   omega
  ·intro j h1 h2
   have hjs:j < (flatK zLI 3 D).size:=by simpa using h2
   have:=(hH' j hjs).1
   unfold World.cell? at this
   simp only [hw,Nat.zero_add,Option.isSome_none,Bool.false_eq_true,if_false,id] at this
   obtain ⟨q1,q2⟩:=Array.getElem?_eq_some_iff.1 this
   rw [List.getElem_take,Array.getElem_toList,q2,Array.getElem_toList,getElem!_pos _ j hjs]
 refine ⟨m,m.le_refl,fun x o v hv=>?_,⟨rfl,rfl,rfl,size_sortWorldK_c ..,fun x hx hxn=>?_,fun _=>?_⟩,fun _ _ _ h=>.inl h,_,blk (.slice (some ⟨g,0,none⟩) es.length cap)++[],rfl,(fun p hp=>by cases hp),?_,hnd,fun x hx=>⟨.inr hx,(hfp x hx).2⟩⟩
 ·have h1:=hm x o v hv
  have hxs:=h1.lt
  have hxg:x≠g:=fun e=>by rw [e,hb0.2 o] at hv;cases hv
  exact h1.block (hother x hxs hxg)
 ·exact hother x hx fun e=>hxn (by rw [e];exact List.mem_append_left _ (zC0.2 hub))
 ·exact Nat.le_add_right _ _
 ·refine zCm.2 ⟨(D.toList.map zLI).flatten,[],?_,?_,yUC _,rfl,fun q hq _=>by rw [←hq];exact hub⟩
  ·rw [yE5,hl']
   refine ⟨?_,.inr ⟨g,cap,_,rfl,Nat.zero_le _,hw,hc1,hc2,by rw [hpc];exact hc3,by rw [←hl'];exact htake⟩⟩
   rw [zI5 (k:=3) _ (fun r hr=>by obtain ⟨x,_,rfl⟩:=List.mem_map.1 hr;rfl),List.length_map,Array.length_toList,hDs,hdl]
  ·rw [yMk,←hDE]
   exact OvL.of_rp (yBG _ hD3)
end Go.Hx
end
