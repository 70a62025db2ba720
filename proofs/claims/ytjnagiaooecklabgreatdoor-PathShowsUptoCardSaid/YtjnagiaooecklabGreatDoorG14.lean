/-
  Walks of functions of the program over an abstract layer, and the laws that they use: each contract says what the function computes, for every input that its conditions let by. No other condition.
-/
import Derived.Test.YtjnagiaooecklabGreatDoorG9
import Derived.Test.YtjnagiaooecklabGreatDoorG13
import Derived.Test.YtjnagiaooecklabGreatDoorProg
import Derived.Shelf.Strings.Builder1
import Derived.Test.YtjnagiaooecklabGreatDoorG11
set_option linter.all false
section
set_option linter.unusedVariables false
namespace Go.Hx
open Go.Proofs Go.Shelf Go.RowKit
attribute [local instance] zBi
attribute [local go_sem] zAC zAz zAB zAw ndV zAx
def BAt (T e b:Nat) (p v:Value) (bs:List Value) (w:World):Prop:=w.heap[b]? = some (.cells #[p,v] T (0,0))∧w.ownsRow 0 e 1 v bs.length bs∧v.ownBlock≠some b
theorem BAt.lib {T e b:Nat} {p v:Value} {bs:List Value} {w:World} (h:BAt T e b p v bs w):Lib.BuilderAt T e 0 b p bs w:=⟨Nat.zero_le _,v,h.1,h.2.1,h.2.2⟩
theorem BAt.lt {T e b:Nat} {p v:Value} {bs:List Value} {w:World} (h:BAt T e b p v bs w):b<w.heap.size:=(Array.getElem?_eq_some_iff.1 h.1).1
theorem yDN {T b:Nat} {p v:Value} {w:World} (h:w.heap[b]? = some (.cells #[p,v] T (0,0))) (o:Nat) (x:Value):(w.setCell ⟨b,o,none⟩ x).heap[b]? = some (.cells (#[p,v].setIfInBounds o x) T (0,0)):=by
 simp [World.setCell,Array.getElem?_modify,h]
theorem yFz {w:World} {b o:Nat} {x:Value}:Pres (fun y=>y=b) w (w.setCell ⟨b,o,none⟩ x):=
 ⟨rfl,rfl,rfl,by simp [World.setCell],fun k _ hk=>Below.heap_setCell _ _ _ _ (fun e=>hk e)⟩
theorem yAd {T e b o:Nat} {v x:Value} {bs:List Value} {w:World} (h:w.ownsRow 0 e 1 v bs.length bs) (hne:v.ownBlock≠some b):(w.setCell ⟨b,o,none⟩ x).ownsRow 0 e 1 v bs.length bs:=
 zDf h fun g hg=>Below.heap_setCell _ _ _ _ (fun e=>hne (by rw [hg,e]))
set_option maxRecDepth 100000 in
set_option maxHeartbeats 1000000 in
theorem yHK (b:Nat) (w:World) (h0:w.cell? ⟨b,0,none⟩=some (.pointer (some ⟨b,0,none⟩))) :
  Calls Tryz.prog 247 #[.pointer (some ⟨b,0,none⟩)] w fun e w'=>e = .returned (.tuple #[])∧w'=w:=by
 obtain ⟨j,hj,_⟩:=Option.map_eq_some_iff.1 (show (Tryz.prog.info? 258).map (·.size)=some 2 by kernel_rfl)
 go_enter Tryz.func247,Tryz.ntmps247
 go_wp2
 rw [Lib.run_neq_ptr_same w _ Tryz.underlying255 hj]
 go_wp2
 go_end0
 exact ⟨rfl,rfl⟩
set_option maxRecDepth 100000 in
set_option maxHeartbeats 1000000 in
theorem yFA (b:Nat) (w:World) (h0:w.cell? ⟨b,0,none⟩=some (.pointer none)) (hsh:w.shape? b=some (258,2)) (hfz:w.frozen? ⟨b,0,none⟩=false) :
  Calls Tryz.prog 247 #[.pointer (some ⟨b,0,none⟩)] w fun e w'=>e = .returned (.tuple #[])∧w'=w.setCell ⟨b,0,none⟩ (.pointer (some ⟨b,0,none⟩)):=by
 obtain ⟨j,hj,hjs⟩:=Option.map_eq_some_iff.1 (show (Tryz.prog.info? 258).map (·.size)=some 2 by kernel_rfl)
 go_enter Tryz.func247,Tryz.ntmps247
 go_wp2
 rw [Lib.run_to_unsafe w ⟨b,0,none⟩ Tryz.underlying255 Tryz.underlying309 hj (by rw [hjs]; decide) hsh (Nat.zero_lt_succ 1)]
 simp only [Result.andThen]
 rw [Oper.upon_value]
 go_wp2
 rw [run_callFunc_extern Tryz.func271 (by kernel_rfl) (by kernel_rfl) (by kernel_rfl) (e:=Extern.AbiNoEscape.same) (by kernel_rfl)]
 rw [Lib.run_noEscape]
 simp only [Result.andThen]
 rw [Oper.upon_value]
 go_wp2
 rw [Lib.run_from_unsafe w ⟨b,0,none⟩ Tryz.underlying309 Tryz.underlying255 hj hsh (by kernel_rfl)]
 simp only [Result.andThen]
 rw [Oper.upon_value]
 go_wp2
 go_end0
 exact ⟨rfl,rfl⟩
theorem zVv {b:Nat} {p v:Value} {bs:List Value} {w:World} (h:BAt 258 5 b p v bs w) (hp:p = .pointer none∨p = .pointer (some ⟨b,0,none⟩)) :
  Calls Tryz.prog 247 #[.pointer (some ⟨b,0,none⟩)] w fun e w'=>e = .returned (.tuple #[])∧BAt 258 5 b (.pointer (some ⟨b,0,none⟩)) v bs w'∧Pres (fun x=>x=b) w w':=by
 rcases hp with rfl | rfl
 ·refine (yFA b w h.lib.cell0 h.lib.shape h.lib.frozen0).mono ?_
  rintro e w' ⟨rfl,rfl⟩
  exact ⟨rfl,⟨yDN h.1 0 _,yAd (T:=0) h.2.1 h.2.2,h.2.2⟩,yFz⟩
 ·refine (yHK b w h.lib.cell0).mono ?_
  rintro e w' ⟨rfl,rfl⟩
  exact ⟨rfl,h,Pres.refl _ _⟩
theorem yAe {P:Program} {w:World} {t u ty e:TypeId} {i:TypeInfo} (ht:P.underlying t=some (.slice e)) (hu:P.underlying u=some .string) (hi:P.info? e=some i) (hz:i.zero=some (.int .u8 0)) (hsize:i.size=1) (hby:i.bytes=1)
  {v:Value} {n:Nat} {xs:List Value} (hown:w.ownsRow 0 e 1 v n xs) (s:ByteArray) (hbytes:n+s.size≤140737488355328) :
  ∃ v' w',(Builtin.append_ #[t,u] ty #[v,.string s]).run P w = .ok v' w'∧w'.ownsRow 0 e 1 v' (n+s.size) (xs ++ Lib.strCells s) ∧
   ((v'.ownBlock=v.ownBlock∧w.grownBy w' v.ownBlock)∨(v'.ownBlock=some w.heap.size∧w.grownBy w' none)):=by
 have h63:n+s.size≤maxLen:=by simp only [maxLen]; omega
 have hsmall:n+s.size≤9223372036854775807:=by omega
 have hxl:xs.length=n:=by simpa using hown.1
 have hlen:(xs ++ Lib.strCells s).length=(n+s.size) * 1:=by rw [List.length_append,hxl,Lib.strCells_length,Nat.mul_one]
 have grown:∀ (old:Nat),old<n+s.size →
   (w.drew.alloc (.cells (xs.toArray ++ (Lib.strCells s).toArray ++ Builtin.zeroCells (Value.int .u8 0).cells (grownCap w (n+s.size) old e - (n+s.size))) e)).ownsRow 0 e 1
    (.slice (some ⟨w.heap.size,0,none⟩) (n+s.size) (grownCap w (n+s.size) old e)) (n+s.size) (xs ++ Lib.strCells s) ∧
   w.grownBy (w.drew.alloc (.cells (xs.toArray ++ (Lib.strCells s).toArray ++ Builtin.zeroCells (Value.int .u8 0).cells (grownCap w (n+s.size) old e - (n+s.size))) e)) none:=by
  intro old ho
  have hge:=grownCap_ge w (n+s.size) old e
  have hcm:grownCap w (n+s.size) old e≤maxLen:=grownCap_le_maxLen w (n+s.size) old e h63
  refine ⟨⟨hlen,.inr ⟨w.heap.size,_,_,rfl,Nat.zero_le _,heap_alloc_new w.drew _,hge,hcm,?_,?_⟩⟩,⟨rfl,rfl,rfl,by simp,fun k hk _=>Below.heap_alloc w.drew _ k hk⟩⟩
  ·have hz1:(Value.int IntKind.u8 0).cells.size=1:=rfl
   simp only [Array.size_append,List.size_toArray,size_zeroCells,hz1,hxl,Lib.strCells_length]
   omega
  ·simp only [Array.toList_append,List.append_assoc]
   rw [← List.append_assoc,← hlen]
   exact List.take_left
 rcases hown.2 with ⟨rfl,rfl⟩ | ⟨g,cap,cur,rfl,hbg,hg,hnc,hcm,hcs,htake⟩
 ·have hx:xs=[]:=List.eq_nil_of_length_eq_zero hxl
  subst hx
  by_cases hm:s.size=0
  ·have hn:Lib.strCells s=[]:=List.eq_nil_of_length_eq_zero (by rw [Lib.strCells_length]; exact hm)
   refine ⟨.slice none 0 0,w,?_,by rw [hm,hn]; exact World.ownsRow_nil w 0 e 1,.inl ⟨rfl,⟨rfl,rfl,rfl,Nat.le_refl _,fun _ _ _=>rfl⟩⟩⟩
   have hf:=Lib.run_firstCells_string (P:=P) w 1 s
   rw [hm] at hf
   simp [Builtin.append_,run_underlying ht,run_underlying hu,sizeOf,typeInfo,hi,hsize,Builtin.lenOf,hm,hf]
  ·have hr:=run_append_nil_string (P:=P) w t u ty e i (.int .u8 0) ht hu hi hz s yO yO (by rw [hby]; omega)
   have hgr:=grown 0 yO
   simp only [Nat.zero_add,List.nil_append,Array.empty_append] at hgr ⊢
   have e1:(s.data.map fun b=>Value.int .u8 b.toNat)=(Lib.strCells s).toArray:=by
    apply Array.ext'
    simp [Lib.strCells]
   rw [e1] at hr
   exact ⟨_,_,hr,hgr.1,.inr ⟨rfl,hgr.2⟩⟩
 ·by_cases hroom:n+s.size≤cap
  ·have hcs':cur.size=cap:=by simpa using hcs
   have hr:=Lib.run_append_room_string (P:=P) w t u ty e i ht hu hi hsize g n cap cur hg s hroom yO
   refine ⟨_,_,hr,⟨hlen,.inr ⟨g,cap,_,rfl,hbg,setRow_heap w g cur _ e _ hg,hroom,hcm,?_,?_⟩⟩,.inl ⟨rfl,⟨rfl,rfl,rfl,by simp,fun k _ hk=>setRow_other w g k _ (fun e=>hk (by simp [Value.ownBlock,e]))⟩⟩⟩
   ·simp only [List.size_toArray,List.length_append,List.length_take,List.length_drop,Array.length_toList,Lib.strCells_length]
    omega
   ·have ht':cur.toList.take n=xs:=by simpa using htake
    rw [ht',← hlen]
    exact List.take_left
  ·have holds:∀ j u,xs[j]? = some u→w.cell? ((⟨g,0,none⟩:Addr).add j)=some u:=hown.cells (g:=g) rfl
   have hr:=Lib.run_append_grow_string (P:=P) w t u ty e i (.int .u8 0) ht hu hi hz ⟨g,0,none⟩ n cap xs (by rw [hsize]; simpa using hxl) holds s yO yO (by rw [hby]; exact growslice_fits yO yO)
   have hgr:=grown cap yO
   exact ⟨_,_,hr,hgr.1,.inr ⟨rfl,hgr.2⟩⟩
theorem zSL {P:Program} {w:World} {ops:Array Oper} {rest:List Oper} {o:Oper} {a:Act} {Q:Exit→Act→World→Prop} (hgd:o.guard=none) (sl x:Operand) (t u:TypeId)
  (ho:o.op = .call { callee:=.builtin .append,args:=#[sl,x],argTypes:=#[t,u] }) {e:TypeId} {i:TypeInfo} (ht:P.underlying t=some (.slice e)) (hu:P.underlying u=some .string) (hi:P.info? e=some i) (hz:i.zero=some (.int .u8 0)) (hsize:i.size=1) (hby:i.bytes=1)
  (v:Value) (n:Nat) (xs:List Value) (hs:a.eval sl=v) (hown:w.ownsRow 0 e 1 v n xs) (s:ByteArray) (hx:a.eval x = .string s) (hbytes:n+s.size≤140737488355328)
  (h:∀ v' w',w'.ownsRow 0 e 1 v' (n+s.size) (xs ++ Lib.strCells s)→((v'.ownBlock=v.ownBlock∧w.grownBy w' v.ownBlock)∨(v'.ownBlock=some w.heap.size∧w.grownBy w' none))→wpList P ops Q rest (a.put o.dst v') w'):wpList P ops Q (o :: rest) a w:=by
 refine wpList_plain hgd fun K hK=>?_
 obtain ⟨v',w',hr,h2,h3⟩:=yAe (P:=P) (w:=w) (ty:=o.type) ht hu hi hz hsize hby hown s hbytes
 unfold Oper.wp execOp
 simp only [ho,resolve,invoke,builtin,Sem.run_bind,Sem.run_pure,Result.andThen_ok,List.map_toArray,List.map_cons,List.map_nil,hs,hx,hr]
 exact hK _ _ (h v' w' h2 h3)
set_option maxHeartbeats 2000000 in
set_option maxRecDepth 100000 in
theorem zSM {b:Nat} {p v:Value} {bs:List Value} {w:World} (s:ByteArray) (h:BAt 258 5 b p v bs w) (hp:p = .pointer none∨p = .pointer (some ⟨b,0,none⟩)) (hlen:bs.length+s.size≤140737488355328) :
  Calls Tryz.prog 211 #[.pointer (some ⟨b,0,none⟩),.string s] w fun e w'=>(∃ r,e = .returned r)∧∃ v',BAt 258 5 b (.pointer (some ⟨b,0,none⟩)) v' (bs ++ Lib.strCells s) w'∧Pres (fun x=>x=b∨v.ownBlock=some x) w w'∧∀ g,v'.ownBlock=some g→v.ownBlock=some g∨w.heap.size≤g:=by
 obtain ⟨i0,hi,hz0,hz1,hz2⟩:=info_parts (show (Tryz.prog.info? 5).map (fun i=>(i.zero,i.size,i.bytes))=some (some (.int .u8 0),1,1) by kernel_rfl)
 go_enter Tryz.func211,Tryz.ntmps211
 go_wp2_with (go_at_call 247; refine (zVv h hp).mono ?_)
 rintro e w1 ⟨rfl,⟨hbk,hown,hne⟩,hb1⟩
 have c0:w1.cell? ⟨b,0,none⟩=some (.pointer (some ⟨b,0,none⟩)):=by rw [Lib.cell_of_heap hbk]; rfl
 have c1:w1.cell? ⟨b,1,none⟩=some v:=by rw [Lib.cell_of_heap hbk]; rfl
 have hlt:b<w1.heap.size:=(Array.getElem?_eq_some_iff.1 hbk).1
 go_wp2_with (at_builtin; refine zSL rfl _ _ 256 9 rfl Tryz.underlying256 Tryz.underlying9 hi hz0 hz1 hz2 _ _ _ rfl hown s rfl hlen ?_)
 intro v' w2 hown' hgrow
 have hg1:∀ k,k<w1.heap.size→v.ownBlock≠some k→w2.heap[k]? = w1.heap[k]?:=by
  intro k hk hkv
  rcases hgrow with ⟨_,hg⟩ | ⟨_,hg⟩
  ·exact hg.block k hk (fun e=>hkv e.symm)
  ·exact hg.block k hk (by simp)
 have hsz:w1.heap.size≤w2.heap.size:=by
  rcases hgrow with ⟨_,hg⟩ | ⟨_,hg⟩ <;> exact hg.size
 have hos:w2.os=w1.os∧w2.tape=w1.tape∧w2.output=w1.output:=by
  rcases hgrow with ⟨_,hg⟩ | ⟨_,hg⟩ <;> exact ⟨hg.os,hg.tape,hg.output⟩
 have hnew:∀ g,v'.ownBlock=some g→v.ownBlock=some g∨w.heap.size≤g:=by
  intro g hg
  rcases hgrow with ⟨e,_⟩ | ⟨e,_⟩
  ·exact .inl (by rw [← e]; exact hg)
  ·rw [e] at hg
   injection hg with hg
   have h1:=hb1.size
   exact .inr yO
 have hb2:w2.heap[b]? = some (.cells #[.pointer (some ⟨b,0,none⟩),v] 258 (0,0)):=(hg1 b hlt hne).trans hbk
 have d0:w2.cell? ⟨b,0,none⟩=some (.pointer (some ⟨b,0,none⟩)):=by rw [Lib.cell_of_heap hb2]; rfl
 have d1:w2.cell? ⟨b,1,none⟩=some v:=by rw [Lib.cell_of_heap hb2]; rfl
 have f1:w2.frozen? ⟨b,1,none⟩=false:=Lib.frozen_of_heap hb2 1
 have hne':v'.ownBlock≠some b:=Lib.ownBlock_ne hown' hb2 (by decide)
 obtain ⟨ao,n',cap,rfl⟩:∃ ao n' cap,v' = .slice ao n' cap:=by
  rcases hown'.2 with ⟨hv,_⟩ | ⟨g,cap,cur,hv,_⟩
  ·exact ⟨_,_,_,hv⟩
  ·exact ⟨_,_,_,hv⟩
 go_wp2
 go_ret2
 have hbw:=hb1.size
 refine ⟨⟨_,rfl⟩,_,⟨yDN hb2 1 _,yAd (T:=0) (by simpa [Lib.strCells_length] using hown') hne',hne'⟩,⟨hos.1.trans hb1.os,hos.2.1.trans hb1.tape,hos.2.2.trans hb1.output,by simp [World.setCell]; omega,fun k hk hr=>?_⟩,hnew⟩
 have hkb:k≠b:=fun e=>hr (.inl e)
 rw [Below.heap_setCell _ _ _ _ (fun e=>hkb e),hg1 k yO (fun e=>hr (.inr e))]
 exact hb1.block k hk hkb
theorem yAf {w:World} {g n:Nat}:Pres (fun x=>x=g) w (w.freeze ⟨g,0,none⟩ n):=by
 unfold World.freeze
 split
 ·exact Pres.refl _ _
 ·exact ⟨rfl,rfl,rfl,by simp,fun k _ hk=>by
   simp only [Array.getElem?_modify]
   rw [if_neg (fun e=>hk e.symm)]⟩
set_option maxHeartbeats 2000000 in
set_option maxRecDepth 100000 in
theorem yDO {b:Nat} {p v:Value} (l:List UInt8) {w:World} (h:BAt 258 5 b p v (Lib.byteCells l) w) (h0:l≠[]) :
  Calls Tryz.prog 212 #[.pointer (some ⟨b,0,none⟩)] w fun e w'=>e = .returned (.string ⟨l.toArray⟩)∧Pres (fun x=>v.ownBlock=some x) w w':=by
 obtain ⟨hbk,hown,hne⟩:=h
 have hl0:l.length≠0:=by simpa using h0
 rw [Lib.byteCells_length] at hown
 obtain ⟨g,cap,cur,rfl,hbg,hg,hnc,hcm,hcs,htake⟩:∃ g cap cur,v = .slice (some ⟨g,0,none⟩) l.length cap∧0≤g∧w.heap[g]? = some (.cells cur 5 (0,0))∧l.length≤cap∧cap≤maxLen∧cur.size=cap * 1∧cur.toList.take (l.length * 1)=Lib.byteCells l:=by
  rcases hown.2 with ⟨_,hz⟩ | ⟨g,cap,cur,hv,r⟩
  ·exact absurd hz hl0
  ·exact ⟨g,cap,cur,hv,r⟩
 have c1:w.drew.cell? ⟨b,1,none⟩=some (.slice (some ⟨g,0,none⟩) l.length cap):=by
  have:w.drew.heap[b]? = some (.cells #[p,.slice (some ⟨g,0,none⟩) l.length cap] 258 (0,0)):=hbk
  rw [Lib.cell_of_heap this]; rfl
 have hSD:(Builtin.unsafeSliceData_ #[256] 289 #[.slice (some ⟨g,0,none⟩) l.length cap]).run Tryz.prog w.drew = .ok (.pointer (some ⟨g,0,none⟩)) w.drew:=
  Lib.run_unsafeSliceData_row _ _ _ _ _ _ yO
 have hUS:(Builtin.unsafeString_ #[289,3] 9 #[.pointer (some ⟨g,0,none⟩),.int .i64 l.length]).run Tryz.prog w.drew = .ok (.string ⟨l.toArray⟩) (w.drew.freeze ⟨g,0,none⟩ l.length):=by
  refine Lib.run_unsafeString_row w.drew 289 3 9 5 Tryz.underlying289 (by kernel_rfl) g cur.size (by have hg':w.drew.heap[g]? = some (.cells cur 5 (0,0)):=hg; simp [World.shape?,hg']) l h0 yO (by unfold maxLen at hcm; omega) ?_
  intro j x hx
  have:=hown.cells (g:=g) rfl j (.int .u8 x.toNat) (by simp [Lib.byteCells,hx])
  exact this
 have mixed:Tryz.prog.follows .mixedOrders=true:=by kernel_rfl
 have hfin:Pres (fun x=>(Value.slice (some ⟨g,0,none⟩) l.length cap).ownBlock=some x) w (w.drew.freeze ⟨g,0,none⟩ l.length):=
  by
  have h1:=yAf (w:=w.drew) (g:=g) (n:=l.length)
  exact ⟨h1.os,h1.tape,h1.output,h1.size,fun k hk hr=>h1.block k hk fun e=>hr (by rw [e]; rfl)⟩
 go_enter Tryz.func212,Tryz.ntmps212
 go_wp2
 go_region_o
 all_goals (go_wp2; go_ret; exact ⟨rfl,hfin⟩)
end Go.Hx
end

section
set_option maxRecDepth 100000
set_option linter.unusedSimpArgs false
namespace Go.Hx
open Go.Proofs Go.RowKit
attribute [local instance] zBi
attribute [local go_sem] zAC zAz zAB zAw ndV zAx
theorem yHN (a b:List UInt8):byV (a ++ b)=byV a ++ byV b:=by simp [byV]
theorem yAB (a:List UInt8):(byV a).length=a.length:=by simp [byV]
theorem yHO {m:Mem} {w:World} {T e b:Nat} {bs:Bys} {u:Value} {fp:List Nat} (h:OvR m w (.bl T e b bs) u fp) (hn:fp.Nodup) :
  ∃ p v,u = .pointer (some ⟨b,0,none⟩)∧BAt T e b p v (byV bs) w∧(p = .pointer none∨p = .pointer (some ⟨b,0,none⟩))∧fp=b :: blk v:=by
 simp only [OvR] at h
 obtain ⟨p,v,h1,h2,h3,h4,rfl⟩:=h
 refine ⟨p,v,h1,⟨h2,by rw [yAB]; exact h4,fun hc=>?_⟩,h3,rfl⟩
 exact (List.nodup_cons.1 hn).1 (zB1.2 hc)
theorem yBr {m:Mem} {w w':World} {fp:List Nat} (hm:MemOk m w) (hf:∀ g ∈ fp,∀ o,m g o=none) (hp:Pres (fun x=>x ∈ fp) w w'):MemOk m w':=fun b o u hu=>by
 have h1:=hm b o u hu
 rw [← h1]
 exact World.cell?_of_block (hp.block b (World.block_lt_of_cell? w _ h1) fun hc=>by rw [hf b hc o] at hu; cases hu)
theorem yFC {m:Mem} {w:World} (hm:MemOk m w) {g:Nat} (hg:w.heap.size≤g) (o:Nat):m g o=none:=by
 cases h:m g o with
 |none=>rfl
 |some u=>exact absurd (World.block_lt_of_cell? w _ (hm g o u h)) (Nat.not_lt.2 hg)
theorem yDU {m:Mem} {w w':World} {T e b:Nat} {bs':Bys} {v v' r:Value} {en:Ending} (hm:MemOk m w) (hf:∀ g ∈ b :: blk v,∀ o,m g o=none) (he:en = .returned r)
  (hB:BAt T e b (.pointer (some ⟨b,0,none⟩)) v' (byV bs') w') (hP:Pres (fun x=>x=b∨v.ownBlock=some x) w w') (hnew:∀ g,v'.ownBlock=some g→v.ownBlock=some g∨w.heap.size≤g) :
  yIH m w (b :: blk v) (.pointer (some ⟨b,0,none⟩)) (.bl T e b bs') none en w':=by
 have hP':Pres (fun x=>x ∈ b :: blk v) w w':=hP.mono fun x _ hx=>by
  rcases hx with rfl | hx
  ·exact List.mem_cons_self
  ·exact List.mem_cons_of_mem _ (zB1.2 hx)
 refine ⟨m,m.le_refl,yBr hm hf hP',hP',fun _ _ _ h=>.inl h,r,b :: blk v',he,(fun p hp=>by cases hp),?_,?_,fun g hg=>?_⟩
 ·simp only [OvR]
  exact ⟨_,v',trivial,hB.1,.inr rfl,by have:=hB.2.1; rwa [yAB] at this,rfl⟩
 ·refine List.nodup_cons.2 ⟨fun hc=>hB.2.2 (zB1.1 hc),?_⟩
  unfold blk
  cases v'.ownBlock <;> simp
 ·rcases List.mem_cons.1 hg with rfl | hg
  ·exact ⟨.inr List.mem_cons_self,hf _ List.mem_cons_self⟩
  ·rcases hnew g (zB1.1 hg) with h | h
   ·exact ⟨.inr (List.mem_cons_of_mem _ (zB1.2 h)),hf g (List.mem_cons_of_mem _ (zB1.2 h))⟩
   ·exact ⟨.inl h,yFC hm h⟩
theorem zFW (b:Nat) (bs s:Bys) (hl:bs.length+s.length≤140737488355328):zE9 Tryz.prog zAZ (.bl zBa zFV b bs) [.val (sv s)] (.bl zBa zFV b (bs ++ s)) none:=by
 refine ⟨by kernel_rfl,fun m w u fp us hm hr hn hf hg ha=>?_⟩
 obtain ⟨p,v,rfl,hB,hp,rfl⟩:=yHO hr hn
 obtain ⟨u1,us1,rfl,⟨rfl,_⟩,rfl⟩:=ha
 refine (zSM ⟨s.toArray⟩ hB hp (by rw [yAB]; simpa [ByteArray.size] using hl)).mono ?_
 rintro e w' ⟨⟨r,rfl⟩,v',hB',hP,hnew⟩
 refine yDU hm (fun g hg=>(hf g hg).2) rfl ?_ hP hnew
 rw [yHN]
 simpa [Lib.strCells,byV] using hB'
theorem yFD (b:Nat) (bs:Bys) (h0:bs≠[]) (hl:bs.length≤maxLen):zE9 Tryz.prog zCU (.bl zBa zFV b bs) [] .hole (some (sv bs)):=by
 refine ⟨by kernel_rfl,fun m w u fp us hm hr hn hf hg ha=>?_⟩
 obtain ⟨p,v,rfl,hB,hp,rfl⟩:=yHO hr hn
 obtain rfl:us=[]:=ha
 refine (yDO bs hB h0).mono ?_
 rintro e w' ⟨rfl,hP⟩
 have hP':Pres (fun x=>x ∈ b :: blk v) w w':=hP.mono fun x _ hx=>List.mem_cons_of_mem _ (zB1.2 hx)
 refine ⟨m,m.le_refl,yBr hm (fun g hg=>(hf g hg).2) hP',hP',fun _ _ _ h=>.inl h,_,[],rfl,fun p hp=>?_,?_,List.nodup_nil,by simp⟩
 ·injection hp with hp
  subst hp
  refine ⟨rfl,?_⟩
  simp only [zEH]
  exact decide_eq_true (by simpa [ByteArray.size] using hl)
 ·simp only [OvR]
  exact ⟨trivial,rfl⟩
end Go.Hx
end
