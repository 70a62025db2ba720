/-
  Walks of functions of the program over an abstract layer, and the laws that they use: each contract says what the function computes, for every input that its conditions let by. No other condition.
-/
import Derived.Test.YtjnagiaooecklabGreatDoorG10
import Derived.Test.YtjnagiaooecklabGreatDoorG11
import Derived.Test.YtjnagiaooecklabGreatDoorG9
import Derived.Lib.ItoaLen
import Derived.Lib.IndexMore
set_option linter.all false
section
/-
 Itoa, Atoi, and Index at one byte, of the library, in the layer's words; what is told of the library's variables. No other condition.
-/
set_option maxRecDepth 100000
namespace Go.Hx
open Go.Proofs Go.RowKit
attribute [local go_sem] zAC zAz zAB zAw ndV zAx
noncomputable def powName : String := ((Tryz.prog.globals[3]?).map (·.name)).getD ""
structure NumOk (w:World):Prop where
 size:8≤w.heap.size
 tab:Lib.TabIs Tryz.prog w powName .u64 Lib.pow10Tab
 syn : ∃ tp p, w.var? Tryz.prog "strconv.ErrSyntax" = some #[.iface tp p]
 rng : ∃ tp p, w.var? Tryz.prog "strconv.ErrRange" = some #[.iface tp p]
 mx:∃ m:Int,w.cell? ⟨0,0,none⟩=some (.int .i64 m)
theorem zVu {P:Program} {w w':World} {n g:Nat} {name:String} (hg:P.globalNamed name=some g) (hgn:g<n) (h:∀ b,b<n→w'.heap[b]? = w.heap[b]?):w'.var? P name=w.var? P name:=by
 unfold World.var?
 rw [hg]
 simp only [Option.bind_some]
 rw [h g hgn]
theorem yDL {w w':World} {n:Nat} (h:∀ b,b<n→w'.heap[b]? = w.heap[b]?) (hs:n≤w.heap.size):n≤w'.heap.size:=by
 rcases Nat.eq_zero_or_pos n with h0 | h0
 ·omega
 ·have h1:=h (n - 1) yO
  rw [Array.getElem?_eq_getElem (show n - 1<w.heap.size by omega)] at h1
  have:=(Array.getElem?_eq_some_iff.1 h1).1
  omega
theorem yDM {w w':World} {n b o:Nat} (hb:b<n) (h:∀ b,b<n→w'.heap[b]? = w.heap[b]?):w'.cell? ⟨b,o,none⟩=w.cell? ⟨b,o,none⟩:=by
 unfold World.cell?
 simp only
 rw [h b hb]
theorem NumOk.keep {w w':World} (h:∀ b,b<8→w'.heap[b]? = w.heap[b]?) (hw:NumOk w):NumOk w' where
 size:=yDL h hw.size
 tab:=(zVu (g:=3) (by kernel_rfl) (by decide) h).trans hw.tab
 syn:=hw.syn.imp fun _ h1=>h1.imp fun _ h2=>(zVu (g:=4) (by kernel_rfl) (by decide) h).trans h2
 rng:=hw.rng.imp fun _ h1=>h1.imp fun _ h2=>(zVu (g:=5) (by kernel_rfl) (by decide) h).trans h2
 mx:=hw.mx.imp fun _ h1=>(yDM (by decide) h).trans h1
@[reducible] noncomputable def zBi:Glob:={ ok:=NumOk,n:=8,size:=fun _ h=>h.size,keep:=fun _ _ h hw=>hw.keep h }
section
attribute [local instance] zBi
theorem zSJ {R:Nat→Prop} {w w':World} (h:Below w.heap.size w w'):Pres R w w':=⟨h.os,h.tape,h.output,h.size,fun b hb _=>h.block b hb⟩
theorem zX8 {m:Mem} {w w':World} (hm:MemOk m w) (h:Below w.heap.size w w'):MemOk m w':=fun b o u hu=>by
 have h1:=hm b o u hu
 have h2:b<w.heap.size:=World.block_lt_of_cell? w _ h1
 rw [← h1]
 exact World.cell?_of_block (h.block b h2)
theorem zJa {m:Mem} {w w':World} {avs:List AV} {us:List Value} {e:Ending} {r:Res} (hm:MemOk m w) (h:Below w.heap.size w w') (hio:ioB avs us=none) (hr:zPH m w w' (zGj avs us) r e):yEO m w avs us { res:=r } e w':=
 ⟨m,m.le_refl,zX8 hm h,zSJ h,fun _ _ _ h=>.inl h,(fun b hb=>by rw [hio] at hb; cases hb),hr⟩
theorem yFy {s:Bys} (h:s.length≤maxLen):zEH (mkS s)=true:=by
 simp only [zEH]
 exact decide_eq_true (by simpa [ByteArray.size] using h)
theorem yCn (w:World) (k:Nat) (os:Array Obj):Below w.heap.size w (Sort.grow (w.drewN k) os):=
 ⟨rfl,rfl,rfl,by show w.heap.size≤(w.heap ++ os).size; rw [Array.size_append]; omega,fun _ hj=>Sort.heap_grow_old (w.drewN k) os hj⟩
theorem zE3 (n:Int) (h0 : -9223372036854775808≤n) (h1:n≤9223372036854775807):Contract Tryz.prog zDp [.val (iv n)] { res:=.val (sv (Lib.itoa n)) }:=by
 refine ⟨by kernel_rfl,fun m w us hm hargs _ hG _=>?_⟩
 obtain ⟨u1,us1,rfl,h2,rfl⟩:=hargs
 obtain ⟨rfl,f1⟩:=h2
 have hT:=Any.strconv_Itoa Tryz.l171 n h0 h1 w (by
  refine (congrArg (fun s=>Lib.TabIs Tryz.prog w s .u64 Lib.pow10Tab) ?_).mp hG.tab
  kernel_rfl)
 change Calls Tryz.prog zDp _ _ _ at hT
 refine hT.mono fun e w' ⟨he,k,os,hw⟩=>zJa hm (hw ▸ yCn w k os) rfl ⟨_,he,by simp,yFy ?_⟩
 have h3:=Lib.itoa_length_le n h0 h1
 simp only [maxLen]
 omega
def zSK (s:Bys):Int:=match Lib.atoiAll s with
 |.ok v=>v
 |.range=>Lib.atoiSat s
 |_=>0
theorem zHs (s:Bys) (hs:s.length≤281474976710656):Contract Tryz.prog zB8 [.val (sv s)] { res:=.tup [iv (zSK s),.one .any] }:=by
 refine ⟨by kernel_rfl,fun m w us hm hargs _ hG _=>?_⟩
 obtain ⟨u1,us1,rfl,h2,rfl⟩:=hargs
 obtain ⟨rfl,f1⟩:=h2
 cases h:Lib.atoiAll s with
 |ok v=>
  have hT:=Any.strconv_Atoi_ok Tryz.l172 ⟨s.toArray⟩ (by simp [ByteArray.size]; omega) v (by simpa using h) w
  change Calls Tryz.prog zB8 _ _ _ at hT
  refine hT.mono fun e w' ⟨he,hw⟩=>zJa hm ?_ rfl ⟨_,he,?_⟩
  ·rcases hw with rfl | ⟨t,rfl⟩
   ·exact Below.refl _ _
   ·exact ⟨rfl,rfl,rfl,by rw [Lib.bytesWorld_size]; omega,fun k hk=>Lib.bytesWorld_at_old w _ _ k yO⟩
  ·unfold zSK; rw [h]
   exact ⟨_,_,rfl,⟨rfl,rfl⟩,_,_,rfl,rfl,rfl⟩
 |range=>
  obtain ⟨tp,p,hv⟩:=hG.rng
  have hT:=Any.strconv_Atoi_range_var Tryz.l172 ⟨s.toArray⟩ (by simpa [ByteArray.size] using hs) (by simpa using h) tp p w hv
  change Calls Tryz.prog zB8 _ _ _ at hT
  refine hT.mono fun e w' ⟨N,he,_,_,hb⟩=>zJa hm hb rfl ⟨_,he,?_⟩
  unfold zSK; rw [h]
  exact ⟨_,_,rfl,⟨rfl,rfl⟩,_,_,rfl,rfl,rfl⟩
 |_=>
  obtain ⟨tp,p,hv⟩:=hG.syn
  have hT:=Any.strconv_Atoi_syntax_var Tryz.l172 ⟨s.toArray⟩ (by simpa [ByteArray.size] using hs) (by simpa using h) tp p w hv
  change Calls Tryz.prog zB8 _ _ _ at hT
  refine hT.mono fun e w' ⟨N,he,_,_,hb⟩=>zJa hm hb rfl ⟨_,he,?_⟩
  unfold zSK; rw [h]
  exact ⟨_,_,rfl,⟨rfl,rfl⟩,_,_,rfl,rfl,rfl⟩
theorem yAc (s:Bys) (c:UInt8):Contract Tryz.prog zBt [.val (sv s),.val (sv [c])] { res:=.val (iv (Lib.indexByte s c)) }:=by
 refine ⟨by kernel_rfl,fun m w us hm hargs _ hG _=>?_⟩
 obtain ⟨u1,us1,rfl,h1,u2,us2,rfl,h2,rfl⟩:=hargs
 obtain ⟨rfl,f1⟩:=h1
 obtain ⟨rfl,f2⟩:=h2
 have hT:=Any.stringslite_Index_one Tryz.l219 ⟨s.toArray⟩ c w
 change Calls Tryz.prog zBt _ _ _ at hT
 refine hT.mono fun e w' ⟨he,hw⟩=>zJa hm (hw ▸ Below.refl _ _) rfl ⟨_,he,rfl,rfl⟩
end
end Go.Hx
end

section
set_option maxRecDepth 100000
set_option linter.unusedSimpArgs false
namespace Go.Hx
open Go.Proofs
attribute [local instance] zBi
attribute [local go_sem] zAC zAz zAB zAw ndV zAx zAv
attribute [local go_sem] reduceCtorEq Nat.reduceAdd Nat.reduceEqDiff reduceIte Nat.reduceLeDiff Nat.reduceLT Nat.reduceSub
theorem zMm:∀ (s:Bys) (c:UInt8),-1≤Lib.indexByte s c∧Lib.indexByte s c<s.length
 |[],c=>by simp [Lib.indexByte]
 |b :: l,c=>by
  have ih:=zMm l c
  simp only [Lib.indexByte,List.length_cons]
  split
  ·omega
  ·split <;> omega
theorem yHW (s t:Bys):(Lib.cut s t).1.length≤s.length∧(Lib.cut s t).2.1.length≤s.length:=by
 unfold Lib.cut
 split
 ·simp; omega
 ·simp
theorem zLQ (s:Bys) (c:UInt8) (hs:s.length≤140737488355328):Contract Tryz.prog zBK [.val (sv s),.val (sv [c])] { res:=.tup [sv (Lib.cut s [c]).1,sv (Lib.cut s [c]).2.1,bv (Lib.cut s [c]).2.2] }:=by
 have hb:=zMm s c
 refine mkA zEt (base:=0) (fo rfl) (fun hfit=>?_)
 unfold F0 zCO
 simp only [yIn,Nat.reduceAdd,Nat.reduceSub]
 try simp only [go_sem]
 repeat with_reducible refine zAc ?_
 refine zAd yR (yAc s c) ?_
 try simp only [go_sem]
 repeat with_reducible refine zAc ?_
 refine zAa yF trivial (fun h=>?_) (fun h=>?_)
 ·have h2:0≤Lib.indexByte s c:=by simpa using h
  have e:Lib.cut s [c]=(s.take (Lib.indexByte s c).toNat,s.drop ((Lib.indexByte s c).toNat+1),true):=by
   unfold Lib.cut
   rw [Lib.index_one,if_pos h2]
   rfl
  have hsl:(0:Int)≤0∧0≤Lib.indexByte s c∧Lib.indexByte s c≤s.length:=by omega
  have hsl2:0≤Lib.indexByte s c+1∧Lib.indexByte s c+1≤(s.length:Int)∧(s.length:Int)≤s.length:=by omega
  have e2:(Lib.indexByte s c+1).toNat=(Lib.indexByte s c).toNat+1:=by omega
  try simp only [go_sem,List.take_length,Int.toNat_zero]
  repeat with_reducible refine zAc ?_
  rw [e]
  exact zCr (by simp) ⟨zAO rfl trivial (.inl rfl),zAO rfl trivial (.inl (by rw [← e2]; rfl)),zAO rfl trivial (.inl rfl),rfl⟩
 ·have h2:¬ 0≤Lib.indexByte s c:=by simpa using h
  have e:Lib.cut s [c]=(s,[],false):=by
   unfold Lib.cut
   rw [Lib.index_one,if_neg h2]
  try simp only [go_sem]
  repeat with_reducible refine zAc ?_
  rw [e]
  exact zCr (by simp) ⟨zAO rfl trivial (.inl rfl),zAO rfl trivial (.inl rfl),zAO rfl trivial (.inl rfl),rfl⟩
theorem zWz (s:Bys) (c:UInt8) (hs:s.length≤140737488355328):Contract Tryz.prog zCl [.val (sv s),.val (sv [c])] { res:=.tup [sv (Lib.cut s [c]).1,sv (Lib.cut s [c]).2.1,bv (Lib.cut s [c]).2.2] }:=by
 refine mkA zSI (base:=0) (fo rfl) (fun hfit=>?_)
 unfold F0 zI9
 simp only [yIn,Nat.reduceAdd,Nat.reduceSub]
 try simp only [go_sem]
 repeat with_reducible refine zAc ?_
 refine zAE yR (zLQ s c hs) ?_
 try simp only [go_sem]
 repeat with_reducible refine zAc ?_
 exact zCr (by simp) ⟨zAO rfl trivial (.inl rfl),zAO rfl trivial (.inl rfl),zAO rfl trivial (.inl rfl),rfl⟩
end Go.Hx
end

section
set_option maxRecDepth 100000
set_option linter.unusedSimpArgs false
namespace Go.Hx
open Go.Proofs
attribute [local instance] zBi
attribute [local go_sem] zAC zAz zAB zAw ndV zAx zAv
attribute [local go_sem] reduceCtorEq Nat.reduceAdd Nat.reduceEqDiff reduceIte Nat.reduceLeDiff Nat.reduceLT Nat.reduceSub
def zBA (a b:Int):Bys:=Lib.itoa a ++ [110] ++ ((if 0≤b then [43] else []) ++ Lib.itoa b)
theorem zBE {a:Int} (h : -1048576≤a∧a≤1048576):(Lib.itoa a).length≤21:=Lib.itoa_length_le a yO yO
theorem zUl (a b:Int):Contract Tryz.prog zFS [.val (yAF a b)] { res:=.tup [sv (if zIG a b=0 then zBA a b else []),iv (zIG a b)] }:=by
 unfold yAF
 refine mkA zZ0 (base:=0) (fo rfl) (fun hfit=>?_)
 unfold F0 zUf
 simp only [yIn,Nat.reduceAdd,Nat.reduceSub]
 try simp only [go_sem]
 repeat with_reducible refine zAc ?_
 refine zAd yR (zRi a b) ?_
 try simp only [go_sem]
 repeat with_reducible refine zAc ?_
 refine zAa yF trivial (fun h=>?_) (fun h=>?_)
 ·try simp only [go_sem]
  repeat with_reducible refine zAc ?_
  have:¬ zIG a b=0:=by simpa using h
  rw [if_neg this]
  exact zCr (by simp) ⟨zAO rfl trivial (.inl rfl),zAO rfl trivial (.inl rfl),rfl⟩
 have h2:zIG a b=0:=by simpa using h
 obtain ⟨h3,h4⟩:=zWC h2
 have l1:=zBE h3
 have l2:=zBE h4
 have hm:maxLen=9223372036854775807:=rfl
 try simp only [go_sem]
 repeat with_reducible refine zAc ?_
 refine zAd yR (zE3 b yO yO) ?_
 try simp only [go_sem]
 repeat with_reducible refine zAc ?_
 refine zAa yF trivial (fun h5=>?_) (fun h5=>?_)
 ·try simp only [go_sem,List.length_append,List.length_cons,List.length_nil,Nat.zero_add]
  repeat with_reducible refine zAc ?_
  refine zAd yR (zE3 a yO yO) ?_
  try simp only [go_sem,List.length_append,List.length_cons,List.length_nil,Nat.zero_add]
  repeat with_reducible refine zAc ?_
  rw [h2,if_pos rfl]
  refine zCr (by simp) ⟨zAO rfl trivial (.inl ?_),zAO rfl trivial (.inl rfl),rfl⟩
  unfold zBA
  rw [if_pos (by simpa using h5)]
  rfl
 ·try simp only [go_sem,List.length_append,List.length_cons,List.length_nil,Nat.zero_add]
  repeat with_reducible refine zAc ?_
  refine zAd yR (zE3 a yO yO) ?_
  try simp only [go_sem,List.length_append,List.length_cons,List.length_nil,Nat.zero_add]
  repeat with_reducible refine zAc ?_
  rw [h2,if_pos rfl]
  refine zCr (by simp) ⟨zAO rfl trivial (.inl ?_),zAO rfl trivial (.inl rfl),rfl⟩
  unfold zBA
  rw [if_neg (by simpa using h5)]
  rfl
def yFL (s:Bys):Int:=zSK (Lib.cut s [110]).1
def yFM (s:Bys):Int:=zSK (Lib.cut s [110]).2.1
def zFm (s:Bys):Bool:=decide (zIG (yFL s) (yFM s)=0∧zBA (yFL s) (yFM s)=s)
theorem yCO (s:Bys) (hs:s.length≤140737488355328):Contract Tryz.prog zHG [.val (sv s)] { res:=.tup [yAF (if zFm s then yFL s else 0) (if zFm s then yFM s else 0),iv (if zFm s then 0 else 1)] }:=by
 refine mkA yAa (base:=0) (fo rfl) (fun hfit=>?_)
 unfold F0 zUg
 simp only [yIn,Nat.reduceAdd,Nat.reduceSub]
 try simp only [go_sem]
 repeat with_reducible refine zAc ?_
 have hl:=yHW s [110]
 refine zAE yR (zWz s 110 hs) ?_
 try simp only [go_sem]
 repeat with_reducible refine zAc ?_
 refine zAE yR (zHs (Lib.cut s [110]).1 yO) ?_
 try simp only [go_sem]
 repeat with_reducible refine zAc ?_
 refine zAE yR (zHs (Lib.cut s [110]).2.1 yO) ?_
 try simp only [go_sem]
 repeat with_reducible refine zAc ?_
 refine zAE yR (zUl (yFL s) (yFM s)) ?_
 try simp only [go_sem]
 repeat with_reducible refine zAc ?_
 refine zAa yF trivial (fun h=>?_) (fun h=>?_)
 ·try simp only [go_sem]
  repeat with_reducible refine zAc ?_
  have h2:zFm s=false:=by
   unfold zFm
   refine decide_eq_false fun hc=>?_
   rw [hc.1,if_pos rfl,hc.2] at h
   simp at h
  rw [h2]
  exact zCr (by simp) ⟨zAS rfl rfl (.inl rfl),zAO rfl trivial (.inl rfl),rfl⟩
 ·try simp only [go_sem]
  repeat with_reducible refine zAc ?_
  have h2:zFm s=true:=by
   unfold zFm
   refine decide_eq_true ?_
   simp at h
   obtain ⟨h3,h4⟩:=h
   rw [if_pos h3] at h4
   exact ⟨h3,h4⟩
  rw [h2]
  exact zCr (by simp) ⟨zAS rfl rfl (.inl rfl),zAO rfl trivial (.inl rfl),rfl⟩
end Go.Hx
end

section
set_option maxRecDepth 100000
set_option linter.unusedSimpArgs false
namespace Go.Hx
open Go.Proofs
attribute [local instance] zBi
attribute [local go_sem] zAC zAz zAB zAw ndV zAx zAv u8s Option.map_some
attribute [local go_sem] reduceCtorEq Nat.reduceAdd Nat.reduceEqDiff reduceIte Nat.reduceLeDiff Nat.reduceLT Nat.reduceSub
theorem yJN {u:Nat} (h:¬ u<10):Lib.decDigits u=Lib.decDigits (u / 10) ++ Lib.decDigits (u % 10):=by
 rw [Lib.decDigits,dif_neg h,Lib.decDigits_one (show u % 10<10 by omega)]
theorem zJx {n:Int} (h:n<0):Lib.itoa n=45 :: Lib.itoa (-n):=by
 unfold Lib.itoa
 rw [if_pos h,if_neg yO]
 congr 2
 omega
theorem yBy {n:Int} (h:10≤n):Lib.itoa n=Lib.itoa (n.tdiv 10) ++ Lib.itoa (n.tmod 10):=by
 obtain ⟨u,rfl⟩:∃ u:Nat,n=u:=⟨n.toNat,by omega⟩
 have e1:(u:Int).tdiv 10=((u / 10:Nat):Int):=by rw [Int.tdiv_eq_ediv_of_nonneg yO]; omega
 have e2:(u:Int).tmod 10=((u % 10:Nat):Int):=by rw [Int.tmod_eq_emod_of_nonneg yO]; omega
 rw [e1,e2]
 unfold Lib.itoa
 rw [if_neg yO,if_neg yO,if_neg yO,Int.toNat_natCast,Int.toNat_natCast,Int.toNat_natCast]
 exact yJN yO
theorem yD5 {n:Int} (h:n ≤ -10):Lib.itoa n=Lib.itoa (n.tdiv 10) ++ Lib.itoa (-(n.tmod 10)):=by
 have e1:n.tdiv 10 = -((-n).tdiv 10):=by rw [Int.neg_tdiv]; omega
 have e2:n.tmod 10 = -((-n).tmod 10):=by rw [Int.neg_tmod]; omega
 have h3:(-n).tdiv 10 = -n / 10:=Int.tdiv_eq_ediv_of_nonneg yO
 rw [zJx yO,yBy yO,e1,e2,Int.neg_neg,zJx (n:=-((-n).tdiv 10)) (by rw [h3]; omega),Int.neg_neg]
 rfl
theorem yK8 {n:Int} (h : -1048576≤n∧n≤1048576):(0≤n→n.tdiv 10=n / 10∧n.tmod 10=n % 10)∧(n≤0→n.tdiv 10 = -(-n / 10)∧n.tmod 10 = -(-n % 10)):=by
 refine ⟨fun h0=>⟨Int.tdiv_eq_ediv_of_nonneg h0,Int.tmod_eq_emod_of_nonneg h0⟩,fun h0=>?_⟩
 have h3:(-n).tdiv 10 = -n / 10:=Int.tdiv_eq_ediv_of_nonneg yO
 have h4:(-n).tmod 10 = -n % 10:=Int.tmod_eq_emod_of_nonneg yO
 rw [← h3,← h4,Int.neg_tdiv,Int.neg_tmod]
 omega
theorem zDd:∀ (k:Nat) (n:Int),2 * n.natAbs+(if n<0 then 1 else 0)<k→(-1048576≤n∧n≤1048576)→Contract Tryz.prog zA3 [.val (iv n)] { res:=.val (sv (Lib.itoa n)) }
 |0,n,hk,_=>by omega
 |k+1,n,hk,hn=>by
  have hl:=zBE hn
  obtain ⟨hd1,hd2⟩:=yK8 hn
  have hm0:maxLen=9223372036854775807:=rfl
  refine mkA zVt (base:=0) (fo rfl) (fun hfit=>?_)
  unfold F0 zMg
  simp only [yIn,Nat.reduceAdd,Nat.reduceSub]
  try simp only [go_sem]
  repeat with_reducible refine zAc ?_
  refine zAa yF trivial (fun h=>?_) (fun h=>?_)
  ·have h2:n<0 ∧ -10<n:=by simp at h; omega
   have l1:=zBE (a:=-n) yO
   try simp only [go_sem]
   repeat with_reducible refine zAc ?_
   refine zAd yR (zDd k (-n) (by split at hk <;> split <;> omega) yO) ?_
   try simp only [go_sem,List.length_append,List.length_cons,List.length_nil,Nat.zero_add]
   repeat with_reducible refine zAc ?_
   refine zAq rfl trivial (.inl ?_)
   rw [zJx h2.1]
  try simp only [go_sem]
  repeat with_reducible refine zAc ?_
  refine zAa yF trivial (fun h3=>?_) (fun h3=>?_)
  ·have h4:n ≤ -10:=by simp at h h3; omega
   have e:=hd2 yO
   have hm : -1048576≤n.tdiv 10∧n.tdiv 10≤1048576:=by omega
   have hm2 : -1048576 ≤ -(n.tmod 10) ∧ -(n.tmod 10)≤1048576:=by omega
   have l1:=zBE hm
   have l2:=zBE hm2
   have hq:¬ (10:Int)=0∧inR .i64 (n.tdiv 10):=⟨by decide,zEk yO yO⟩
   try simp only [go_sem]
   repeat with_reducible refine zAc ?_
   refine zAd yR (zDd k (n.tdiv 10) (by split at hk <;> split <;> omega) hm) ?_
   try simp only [go_sem]
   repeat with_reducible refine zAc ?_
   refine zAd yR (zDd k (-(n.tmod 10)) (by split at hk <;> split <;> omega) hm2) ?_
   try simp only [go_sem]
   repeat with_reducible refine zAc ?_
   refine zAq rfl trivial (.inl ?_)
   rw [yD5 h4]
  have h4:0≤n:=by simpa using h3
  have e:=hd1 yO
  try simp only [go_sem]
  repeat with_reducible refine zAc ?_
  refine zAa yF trivial (fun h5=>?_) (fun h5=>?_)
  ·have h6:n<10:=by simpa using h5
   have hq:inR .u8 (48+n):=⟨show (0:Int)≤48+n by omega,show 48+n≤(255:Int) by omega⟩
   try simp only [go_sem]
   repeat with_reducible refine zAc ?_
   refine zAq rfl trivial (.inl ?_)
   have e1:Lib.itoa n=[UInt8.ofNat (48+n.toNat)]:=by
    unfold Lib.itoa
    rw [if_neg yO,Lib.decDigits_one yO]
   rw [e1]
   have e2:(48+n).toNat=48+n.toNat:=by omega
   rw [e2]
  ·have h6:10≤n:=by simpa using h5
   have hm : -1048576≤n.tdiv 10∧n.tdiv 10≤1048576:=by omega
   have hm2 : -1048576≤n.tmod 10∧n.tmod 10≤1048576:=by omega
   have l1:=zBE hm
   have l2:=zBE hm2
   have hq:¬ (10:Int)=0∧inR .i64 (n.tdiv 10):=⟨by decide,zEk yO yO⟩
   try simp only [go_sem]
   repeat with_reducible refine zAc ?_
   refine zAd yR (zDd k (n.tdiv 10) (by split at hk <;> split <;> omega) hm) ?_
   try simp only [go_sem]
   repeat with_reducible refine zAc ?_
   refine zAd yR (zDd k (n.tmod 10) (by split at hk <;> split <;> omega) hm2) ?_
   try simp only [go_sem]
   repeat with_reducible refine zAc ?_
   refine zAq rfl trivial (.inl ?_)
   rw [yBy h6]
end Go.Hx
end

section
set_option maxRecDepth 100000
set_option linter.unusedSimpArgs false
namespace Go.Hx
open Go.Proofs
attribute [local instance] zBi
attribute [local go_sem] zAC zAz zAB zAw ndV zAx zAv yAF
attribute [local go_sem] reduceCtorEq Nat.reduceAdd Nat.reduceEqDiff reduceIte Nat.reduceLeDiff Nat.reduceLT Nat.reduceSub
theorem zPv (n:Int) (hn : -1048576≤n∧n≤1048576):Contract Tryz.prog zA3 [.val (iv n)] { res:=.val (sv (Lib.itoa n)) }:=zDd _ n (Nat.lt_succ_self _) hn
theorem zJy (a b:Int) (h:zIG a b=0):Contract Tryz.prog zDL [.val (yAF a b)] { res:=.val (sv (zBA a b)) }:=by
 obtain ⟨h3,h4⟩:=zWC h
 have l1:=zBE h3
 have l2:=zBE h4
 have hm0:maxLen=9223372036854775807:=rfl
 refine mkA zSE (base:=0) (fo rfl) (fun hfit=>?_)
 unfold F0 zIZ
 simp only [yIn,Nat.reduceAdd,Nat.reduceSub]
 try simp only [go_sem]
 repeat with_reducible refine zAc ?_
 refine zAa yF trivial (fun h5=>?_) (fun h5=>?_)
 ·have h6:b<0:=by simpa using h5
  have l3:=zBE (a:=-b) yO
  try simp only [go_sem]
  repeat with_reducible refine zAc ?_
  refine zAd yR (zPv a h3) ?_
  try simp only [go_sem,List.length_append,List.length_cons,List.length_nil,Nat.zero_add]
  repeat with_reducible refine zAc ?_
  refine zAd yR (zPv (-b) yO) ?_
  try simp only [go_sem,List.length_append,List.length_cons,List.length_nil,Nat.zero_add]
  repeat with_reducible refine zAc ?_
  refine zAq rfl trivial (.inl ?_)
  unfold zBA
  rw [if_neg yO,zJx h6]
  simp
 ·have h6:0≤b:=by simpa using h5
  try simp only [go_sem]
  repeat with_reducible refine zAc ?_
  refine zAd yR (zPv a h3) ?_
  try simp only [go_sem,List.length_append,List.length_cons,List.length_nil,Nat.zero_add]
  repeat with_reducible refine zAc ?_
  refine zAd yR (zPv b h4) ?_
  try simp only [go_sem,List.length_append,List.length_cons,List.length_nil,Nat.zero_add]
  repeat with_reducible refine zAc ?_
  refine zAq rfl trivial (.inl ?_)
  unfold zBA
  rw [if_pos h6]
  simp
def zXC:Nat→Int→Bys→Int × Bys
 |0,n,s=>(n,s)
 |_+1,n,[]=>(n,[])
 |f+1,n,c :: s=>if 48≤c.toNat∧c.toNat≤57 then zXC f (10 * n+((c.toNat:Int) - 48)) s else (n,c :: s)
def zPw (s:Bys):Int × Bys:=zXC 8 0 s
theorem p10:∀ i:Nat,i≤8→(10:Int) ^ i≤100000000
 |0,_ | 1,_ | 2,_ | 3,_ | 4,_ | 5,_ | 6,_ | 7,_ | 8,_=>by decide
 |n+9,h=>by omega
theorem zUm:∀ (f k:Nat) (n:Int) (s:Bys),f+k=8→0≤n→n<10 ^ k→0≤(zXC f n s).1∧(zXC f n s).1<100000000
 |0,k,n,s,hk,h0,h1=>by
  have:=p10 k yO
  exact ⟨h0,Int.lt_of_lt_of_le h1 this⟩
 |f+1,k,n,[],hk,h0,h1=>by
  have:=p10 k yO
  exact ⟨h0,Int.lt_of_lt_of_le h1 this⟩
 |f+1,k,n,c :: s,hk,h0,h1=>by
  simp only [zXC]
  split
  ·have h2:(10:Int) ^ (k+1)=10 * 10 ^ k:=by rw [Int.pow_succ,Int.mul_comm]
   exact zUm f (k+1) _ s yO yO yO
  ·have:=p10 k yO
   exact ⟨h0,Int.lt_of_lt_of_le h1 this⟩
theorem zUn (s:Bys):0≤(zPw s).1∧(zPw s).1<100000000:=by
 have:=zUm 8 0 0 s rfl yO (by simp)
 exact this
theorem zC9 (s:Bys):Contract Tryz.prog zB4 [.io [bS s]] { res:=.val (iv (zPw s).1),io:=[bS (zPw s).2] }:=by
 refine mkA zHi (base:=52) ⟨Nat.le_of_ble_eq_true rfl,Nat.le_of_ble_eq_true rfl,Nat.le_of_ble_eq_true rfl,⟨rfl,rfl⟩⟩ (fun hfit=>?_)
 unfold F0 zEn
 simp only [yIn,Nat.reduceAdd,Nat.reduceSub]
 try simp only [go_sem]
 repeat with_reducible refine zAc ?_
 refine zAr (fun x:Nat × Int × Bys=>[(3,.pv (iv x.2.1)),(4,.pv (iv x.1)),(30,.un),(52,.pv (.one (bS x.2.2)))]) (fun x:Nat × Int × Bys=>8 - x.1) (fun x:Nat × Int × Bys=>x.1≤8∧0≤x.2.1∧x.2.1<10 ^ x.1∧zXC (8 - x.1) x.2.1 x.2.2=zPw s) ((0,0,s)) ?_ ⟨Nat.zero_le _,Int.le_refl _,by simp,rfl⟩ ?_
 focus (simp only [go_sem,zAf,zAl,zAs,zAb]; all_goals (repeat' (first | exact trivial | exact zAi yO | exact zAh rfl | exact zAm rfl | exact zAn | exact le_refl _ | refine And.intro ?_ ?_)))
 rintro ⟨i,n,r⟩ ⟨h1,h2,h3,h4⟩
 simp only at h1 h2 h3 h4
 have hp:=p10 i h1
 by_cases hi:i<8
 ·have hd:decide ((i:Int)<8)=true:=by simp; omega
  cases hl:decide ((r.length:Int) > 0) with
  |false=>
   have hr:r=[]:=by
    cases r with
    |nil=>rfl
    |cons c r=>simp at hl
   try simp only [go_sem,hd,hl]
   repeat with_reducible refine zAc ?_
   refine zAa yF trivial (fun h=>?_) (fun h=>?_)
   ·simp at h
   ·try simp only [go_sem]
    repeat with_reducible refine zAc ?_
    subst hr
    obtain ⟨f,hf⟩:∃ f,8 - i=f+1:=⟨8 - i - 1,by omega⟩
    rw [hf] at h4
    simp only [zXC] at h4
    rw [← h4]
    exact zBT rfl trivial (.inl rfl) rfl rfl
  |true=>
   obtain ⟨c,r',hr⟩:∃ c r',r=c :: r':=by
    cases r with
    |nil=>simp at hl
    |cons c r=>exact ⟨c,r,rfl⟩
   obtain ⟨f,hf⟩:∃ f,8 - i=f+1:=⟨8 - i - 1,by omega⟩
   rw [hf,hr] at h4
   simp only [zXC] at h4
   have hb:=c.toNat_lt
   have hlen:((r.length:Nat):Int)=r'.length+1:=by rw [hr]; simp
   have hg:r.getD (0:Int).toNat 0=c:=by rw [hr]; rfl
   have hdr:List.drop 1 r=r':=by rw [hr]; rfl
   cases hc1:decide (((r.getD (0:Int).toNat 0).toNat:Int) ≥ 48) with
   |false=>
    have hc2:¬ 48≤c.toNat:=by rw [hg] at hc1; simp at hc1; omega
    try simp only [go_sem,hd,hl,hc1]
    repeat with_reducible refine zAc ?_
    refine zAa yF trivial (fun h=>?_) (fun h=>?_)
    ·simp at h
    ·try simp only [go_sem]
     repeat with_reducible refine zAc ?_
     rw [if_neg yO] at h4
     rw [← h4]
     subst hr
     exact zBT rfl trivial (.inl rfl) rfl rfl
   |true=>
    have hc2:48≤c.toNat:=by rw [hg] at hc1; simp at hc1; omega
    try simp only [go_sem,hd,hl,hc1]
    repeat with_reducible refine zAc ?_
    refine zAa yF trivial (fun h=>?_) (fun h=>?_)
    ·have hc3:c.toNat≤57:=by rw [hg] at h; simp at h; omega
     rw [if_pos ⟨hc2,hc3⟩] at h4
     have hg0:r.getD 0 0=c:=hg
     have hu8:inR .u8 ((c.toNat:Int) - 48):=⟨show (0:Int)≤(c.toNat:Int) - 48 by omega,show (c.toNat:Int) - 48≤(255:Int) by omega⟩
     have hsl:(0:Int)≤1∧(1:Int)≤r.length∧(r.length:Int)≤r.length:=by omega
     have hpw:(10:Int) ^ (i+1)=10 * 10 ^ i:=by rw [Int.pow_succ,Int.mul_comm]
     try simp only [go_sem,Int.toNat_zero,hg0]
     repeat with_reducible refine zAc ?_
     have e:8 - (i+1)=f:=by omega
     refine ⟨(i+1,10 * n+((c.toNat:Int) - 48),r'),by simp only; omega,⟨by simp only; omega,by simp only; omega,by simp only; omega,by simp only; rw [e]; exact h4⟩,?_⟩
     simp only [go_sem,zAf,zAl,zAs,zAb]
     all_goals (repeat' (first | exact trivial | exact zAi yO | exact zAh rfl | exact zAm rfl | exact zAn | exact le_refl _ | refine And.intro ?_ ?_))
     refine zAm ?_
     rw [List.take_length]
     congr 4
    ·try simp only [go_sem]
     repeat with_reducible refine zAc ?_
     have hc3:¬ c.toNat≤57:=by rw [hg] at h; simp at h; omega
     rw [if_neg yO] at h4
     rw [← h4]
     subst hr
     exact zBT rfl trivial (.inl rfl) rfl rfl
 ·have hd:decide ((i:Int)<8)=false:=by simp; omega
  try simp only [go_sem,hd]
  repeat with_reducible refine zAc ?_
  refine zAa yF trivial (fun h=>?_) (fun h=>?_)
  ·simp at h
  ·try simp only [go_sem]
   repeat with_reducible refine zAc ?_
   have e:8 - i=0:=by omega
   rw [e] at h4
   simp only [zXC] at h4
   rw [← h4]
   exact zBT rfl trivial (.inl rfl) rfl rfl
end Go.Hx
end

section
set_option maxRecDepth 100000
set_option linter.unusedSimpArgs false
namespace Go.Hx
open Go.Proofs
attribute [local instance] zBi
attribute [local go_sem] zAC zAz zAB zAw ndV zAx zAv yAF
attribute [local go_sem] reduceCtorEq Nat.reduceAdd Nat.reduceEqDiff reduceIte Nat.reduceLeDiff Nat.reduceLT Nat.reduceSub
def rdA (s:Bys):Int × Bys:=let m:=zAj s [45]; let x:=zPw (zAg s [45]); (if m then -x.1 else x.1,x.2)
def rdB (s:Bys):Int × Bys:=let m:=zAj s [45]; let x:=zPw (zAg (zAg s [45]) [43]); (if m then -x.1 else x.1,x.2)
def zDJ (s:Bys):(Int × Int) × Bys:=let a:=rdA s; let b:=rdB (zAg a.2 [110]); ((a.1,b.1),b.2)
theorem zCx {E:Env} {base:Nat} {av:List AV} {F:List Ct} {x:PVal} {t j bs off n:Nat} {agg:Bool} {cs cells io:List PV} (e:F.getD t .un = .ptr j off) (h:zAL F (bs+off) n=some cs) (hx:x=(if agg then PVal.agg cs else .one (cs.headD (.nl 0)))) (hio:ioOf av=some cells) (hc:zAL F base cells.length=some io):yCd E base av [.cellB t j bs off n agg] { res:=.val x,io:=io } .ret F:=by
 refine ⟨?_,fun cs h=>by rw [hio] at h; injection h with h; subst h; exact hc⟩
 simp only [zDc,rsV,e,h]
 exact ⟨trivial,trivial,.inl hx⟩
theorem zGe (s:Bys):Contract Tryz.prog zCF [.io [bS s]] { res:=.val (yAF (zDJ s).1.1 (zDJ s).1.2),io:=[bS (zDJ s).2] }:=by
 refine mkA zK4 (base:=30) ⟨Nat.le_of_ble_eq_true rfl,Nat.le_of_ble_eq_true rfl,Nat.le_of_ble_eq_true rfl,⟨rfl,rfl⟩⟩ (fun hfit=>?_)
 unfold F0 zF9
 simp only [yIn,Nat.reduceAdd,Nat.reduceSub]
 try simp only [go_sem]
 repeat with_reducible refine zAc ?_
 have n1:=zUn (zAg s [45])
 refine zAd yR (zAk s [45]) ?_
 try simp only [go_sem]
 repeat with_reducible refine zAc ?_
 refine zAd yR (zC9 (zAg s [45])) ?_
 try simp only [go_sem]
 repeat with_reducible refine zAc ?_
 obtain ⟨t,ht⟩:∃ t,t=(zPw (zAg s [45])).2:=⟨_,rfl⟩
 rw [← ht]
 have n2:=zUn (zAg (zAg (zAg t [110]) [45]) [43])
 refine zAa yF trivial (fun h=>?_) (fun h=>?_)
 ·try simp only [go_sem]
  repeat with_reducible refine zAc ?_
  refine zAd yR (zAk t [110]) ?_
  try simp only [go_sem]
  repeat with_reducible refine zAc ?_
  refine zAd yR (zAk (zAg t [110]) [45]) ?_
  try simp only [go_sem]
  repeat with_reducible refine zAc ?_
  refine zAd yR (zAk (zAg (zAg t [110]) [45]) [43]) ?_
  try simp only [go_sem]
  repeat with_reducible refine zAc ?_
  refine zAd yR (zC9 (zAg (zAg (zAg t [110]) [45]) [43])) ?_
  try simp only [go_sem]
  repeat with_reducible refine zAc ?_
  refine zAa yF trivial (fun h2=>?_) (fun h2=>?_)
  ·try simp only [go_sem]
   repeat with_reducible refine zAc ?_
   have e:zDJ s=((-(zPw (zAg s [45])).1,-(zPw (zAg (zAg (zAg t [110]) [45]) [43])).1),(zPw (zAg (zAg (zAg t [110]) [45]) [43])).2):=by
    unfold zDJ rdA rdB
    simp only [← ht,h,h2,if_true,if_false,Bool.false_eq_true]
   rw [e]
   exact zCx rfl rfl rfl rfl rfl
  ·try simp only [go_sem]
   repeat with_reducible refine zAc ?_
   have e:zDJ s=((-(zPw (zAg s [45])).1,(zPw (zAg (zAg (zAg t [110]) [45]) [43])).1),(zPw (zAg (zAg (zAg t [110]) [45]) [43])).2):=by
    unfold zDJ rdA rdB
    simp only [← ht,h,h2,if_true,if_false,Bool.false_eq_true]
   rw [e]
   exact zCx rfl rfl rfl rfl rfl
 ·try simp only [go_sem]
  repeat with_reducible refine zAc ?_
  refine zAd yR (zAk t [110]) ?_
  try simp only [go_sem]
  repeat with_reducible refine zAc ?_
  refine zAd yR (zAk (zAg t [110]) [45]) ?_
  try simp only [go_sem]
  repeat with_reducible refine zAc ?_
  refine zAd yR (zAk (zAg (zAg t [110]) [45]) [43]) ?_
  try simp only [go_sem]
  repeat with_reducible refine zAc ?_
  refine zAd yR (zC9 (zAg (zAg (zAg t [110]) [45]) [43])) ?_
  try simp only [go_sem]
  repeat with_reducible refine zAc ?_
  refine zAa yF trivial (fun h2=>?_) (fun h2=>?_)
  ·try simp only [go_sem]
   repeat with_reducible refine zAc ?_
   have e:zDJ s=(((zPw (zAg s [45])).1,-(zPw (zAg (zAg (zAg t [110]) [45]) [43])).1),(zPw (zAg (zAg (zAg t [110]) [45]) [43])).2):=by
    unfold zDJ rdA rdB
    simp only [← ht,h,h2,if_true,if_false,Bool.false_eq_true]
   rw [e]
   exact zCx rfl rfl rfl rfl rfl
  ·try simp only [go_sem]
   repeat with_reducible refine zAc ?_
   have e:zDJ s=(((zPw (zAg s [45])).1,(zPw (zAg (zAg (zAg t [110]) [45]) [43])).1),(zPw (zAg (zAg (zAg t [110]) [45]) [43])).2):=by
    unfold zDJ rdA rdB
    simp only [← ht,h,h2,if_true,if_false,Bool.false_eq_true]
   rw [e]
   exact zCx rfl rfl rfl rfl rfl
end Go.Hx
end

section
/-
 Counts, in plain Lean: a text of a count is read as it was, by the library's Atoi and by the document's reader; where a count holds. No program in sight. No condition.
-/
namespace Go.Hx
attribute [local instance] zBi
def zGh (c:UInt8):Bool:=decide (48≤c.toNat∧c.toNat≤57)
def yFN (n:Int):Bys→Int
 |[]=>n
 |c :: l=>yFN (10 * n+((c.toNat:Int) - 48)) l
theorem yFO (n:Int) (l r:Bys):yFN n (l ++ r)=yFN (yFN n l) r:=by
 induction l generalizing n with
 |nil=>rfl
 |cons c l ih=>exact ih _
theorem zGH {d:Nat} (h:d<10):(UInt8.ofNat (48+d)).toNat=48+d:=by
 rw [UInt8.toNat_ofNat']; omega
theorem yAG {u:Nat} (h:¬ u<10):Lib.decDigits u=Lib.decDigits (u / 10) ++ [UInt8.ofNat (48+u % 10)]:=by
 rw [Lib.decDigits,dif_neg h]
theorem yBz:∀ (u:Nat),∀ c ∈ Lib.decDigits u,zGh c=true:=by
 intro u
 induction u using Nat.strongRecOn with
 |ind u ih=>
  intro c hc
  by_cases h:u<10
  ·rw [Lib.decDigits_one h,List.mem_singleton] at hc
   subst hc
   unfold zGh
   rw [zGH h]
   simp; omega
  ·rw [yAG h] at hc
   rcases List.mem_append.1 hc with hc | hc
   ·exact ih (u / 10) yO c hc
   ·rw [List.mem_singleton] at hc
    subst hc
    unfold zGh
    rw [zGH yO]
    simp; omega
theorem yJO:∀ (u:Nat),yFN 0 (Lib.decDigits u)=u:=by
 intro u
 induction u using Nat.strongRecOn with
 |ind u ih=>
  by_cases h:u<10
  ·rw [Lib.decDigits_one h]
   simp only [yFN]
   rw [zGH h]; omega
  ·rw [yAG h,yFO,ih (u / 10) yO]
   simp only [yFN]
   rw [zGH yO]; omega
theorem yK9 (u:Nat):Lib.decDigits u≠[]:=by
 intro h
 have:=Lib.decDigits_length u
 rw [h] at this
 have:=Lib.nDigits_pos u
 simp at *
 omega
theorem zWD (u:Nat):∃ c l,Lib.decDigits u=c :: l∧zGh c=true:=by
 cases h:Lib.decDigits u with
 |nil=>exact absurd h (yK9 u)
 |cons c l=>exact ⟨c,l,rfl,yBz u c (by rw [h]; exact List.mem_cons_self)⟩
theorem yJP:∀ (k u:Nat),0<k→u<10 ^ k→Lib.nDigits u≤k
 |0,u,h,_=>by omega
 |k+1,u,_,h=>by
  by_cases h1:u<10
  ·rw [Lib.nDigits_small h1]; omega
  ·rw [Lib.nDigits_big h1]
   have h2:u / 10<10 ^ k:=by
    rw [Nat.pow_succ] at h
    omega
   have h3:0<k:=by
    rcases Nat.eq_zero_or_pos k with e | e
    ·subst e; simp at h; omega
    ·exact e
   have:=yJP k (u / 10) h3 h2
   omega
theorem zYS {u:Nat} (h:u≤1048576):(Lib.decDigits u).length≤8:=by
 rw [Lib.decDigits_length]
 exact yJP 8 u yO yO
theorem yBA:∀ (l:Bys) (f:Nat) (n:Int) (r:Bys),(∀ c ∈ l,zGh c=true)→l.length≤f→zXC f n (l ++ r)=zXC (f - l.length) (yFN n l) r
 |[],f,n,r,_,_=>rfl
 |c :: l,0,n,r,_,h=>by simp at h
 |c :: l,f+1,n,r,hd,h=>by
  have hc:=hd c List.mem_cons_self
  simp only [zGh,decide_eq_true_eq] at hc
  simp only [List.cons_append,zXC,if_pos hc,List.length_cons,yFN]
  rw [yBA l f _ r (fun x hx=>hd x (List.mem_cons_of_mem _ hx)) (by simpa using h),Nat.add_sub_add_right]
theorem yD6 (f:Nat) (n:Int) (r:Bys) (h:∀ c l,r=c :: l→zGh c=false):zXC f n r=(n,r):=by
 cases f with
 |zero=>rfl
 |succ f=>
  cases r with
  |nil=>rfl
  |cons c l=>
   have:=h c l rfl
   simp only [zGh,decide_eq_false_iff_not] at this
   simp only [zXC,if_neg this]
theorem zWE {u:Nat} (h:u≤1048576) {r:Bys} (hr:∀ c l,r=c :: l→zGh c=false):zPw (Lib.decDigits u ++ r)=((u:Int),r):=by
 unfold zPw
 rw [yBA _ _ _ _ (yBz u) (zYS h),yD6 _ _ _ hr,yJO]
theorem zEA (c d:UInt8) (s:Bys):zAj (c :: s) [d]=(c == d):=by
 simp [zAj]
theorem zFn (c d:UInt8) (s:Bys):zAg (c :: s) [d]=if (c == d)=true then s else c :: s:=by
 unfold zAg
 rw [zEA]
 rfl
theorem yBB {c:UInt8} (h:zGh c=true) {d:UInt8} (hd:zGh d=false):(c == d)=false:=by
 rw [beq_eq_false_iff_ne]
 rintro rfl
 rw [h] at hd; cases hd
theorem yAH (l r:Bys):∀ acc,Lib.decFrom acc (l ++ r)=(Lib.decFrom acc l).bind fun m=>Lib.decFrom m r:=by
 induction l with
 |nil=>intro acc; rfl
 |cons c l ih=>
  intro acc
  simp only [List.cons_append,Lib.decFrom]
  cases Lib.digitVal c with
  |none=>rfl
  |some d=>exact ih _
theorem zMq {d:Nat} (h:d<10):Lib.digitVal (UInt8.ofNat (48+d))=some d:=by
 unfold Lib.digitVal
 rw [zGH h,if_pos yO]
 congr 1; omega
theorem yCP:∀ (u:Nat),Lib.decFrom 0 (Lib.decDigits u)=some u:=by
 intro u
 induction u using Nat.strongRecOn with
 |ind u ih=>
  by_cases h:u<10
  ·rw [Lib.decDigits_one h]
   simp only [Lib.decFrom,zMq h]
   congr 1; omega
  ·rw [yAG h,yAH,ih (u / 10) yO]
   simp only [Option.bind_some,Lib.decFrom,zMq (show u % 10<10 by omega)]
   congr 1; omega
theorem zRj (u:Nat):Lib.decNat (Lib.decDigits u)=some u:=by
 unfold Lib.decNat
 obtain ⟨c,l,e,_⟩:=zWD u
 rw [if_neg (by rw [e]; simp),yCP]
theorem zPx {l:Bys} {n:Int} (hl:l.length≤18) (h:Lib.atoi l=some n):zSK l=n:=by
 unfold zSK
 rw [Lib.atoiAll_short l hl,h]
 rfl
theorem yCQ (u:Nat):Lib.atoi (Lib.decDigits u)=some (u:Int):=by
 obtain ⟨c,l,e,hc⟩:=zWD u
 have h:=zRj u
 rw [e] at h ⊢
 simp only [Lib.atoi,yBB hc (show zGh 45=false by decide),yBB hc (show zGh 43=false by decide),Bool.false_eq_true,if_false,h,Option.map_some]
theorem yD7 (u:Nat):Lib.atoi (43 :: Lib.decDigits u)=some (u:Int):=by
 simp only [Lib.atoi,zRj,Option.map_some]
 rfl
theorem zUo (u:Nat):Lib.atoi (45 :: Lib.decDigits u)=some (-(u:Int)):=by
 simp only [Lib.atoi,zRj,Option.map_some]
 rfl
def yFP (b:Int):Bys:=(if 0≤b then [43] else []) ++ Lib.itoa b
theorem yBC {b:Int} (h:0≤b):yFP b=43 :: Lib.decDigits b.toNat:=by
 unfold yFP Lib.itoa
 rw [if_pos h,if_neg yO]; rfl
theorem yBD {b:Int} (h:b<0):yFP b=45 :: Lib.decDigits b.natAbs:=by
 unfold yFP Lib.itoa
 rw [if_neg yO,if_pos h]; rfl
theorem zUp (a b:Int):zBA a b=Lib.itoa a ++ 110 :: yFP b:=by
 unfold zBA yFP
 simp
theorem yCR {a:Int} (h : -1048576≤a∧a≤1048576):zSK (Lib.itoa a)=a:=by
 unfold Lib.itoa
 split
 ·have:=zYS (u:=a.natAbs) yO
  rw [zPx (by rw [List.length_cons]; omega) (zUo _)]; omega
 ·have:=zYS (u:=a.toNat) yO
  rw [zPx yO (yCQ _)]; omega
theorem yCS {b:Int} (h : -1048576≤b∧b≤1048576):zSK (yFP b)=b:=by
 by_cases hb:0≤b
 ·have:=zYS (u:=b.toNat) yO
  rw [yBC hb,zPx (by rw [List.length_cons]; omega) (yD7 _)]; omega
 ·have:=zYS (u:=b.natAbs) yO
  rw [yBD yO,zPx (by rw [List.length_cons]; omega) (zUo _)]; omega
theorem yCT (a:Int):∀ c ∈ Lib.itoa a,c≠110:=by
 intro c hc
 have hd:∀ u,c ∈ Lib.decDigits u→c≠110:=fun u hu e=>by
  have:=yBz u c hu
  rw [e] at this
  exact absurd this (by decide)
 unfold Lib.itoa at hc
 split at hc
 ·rcases List.mem_cons.1 hc with rfl | hc
  ·decide
  ·exact hd _ hc
 ·exact hd _ hc
theorem yBE:∀ (l r:Bys),(∀ c ∈ l,c≠110)→Lib.indexByte (l ++ 110 :: r) 110=l.length
 |[],r,_=>by simp [Lib.indexByte]
 |c :: l,r,h=>by
  have ih:=yBE l r fun x hx=>h x (List.mem_cons_of_mem _ hx)
  have hc:(c == 110)=false:=by simpa using h c List.mem_cons_self
  simp only [List.cons_append,Lib.indexByte,hc,ih,List.length_cons]
  rw [if_neg (by simp),if_neg (by simp)]
  omega
theorem yFQ (a b:Int):Lib.cut (zBA a b) [110]=(Lib.itoa a,yFP b,true):=by
 unfold Lib.cut
 rw [zUp,Lib.index_one,yBE _ _ (yCT a),if_pos yO]
 simp
theorem zWF {a b:Int} (h:zIG a b=0):yFL (zBA a b)=a∧yFM (zBA a b)=b:=by
 obtain ⟨h1,h2⟩:=zWC h
 unfold yFL yFM
 rw [yFQ]
 exact ⟨yCR h1,yCS h2⟩
theorem yAI {a b:Int} (h:zIG a b=0):zFm (zBA a b)=true:=by
 obtain ⟨h1,h2⟩:=zWF h
 unfold zFm
 rw [h1,h2]
 exact decide_eq_true ⟨h,rfl⟩
theorem yFR {a:Int} (h : -1048576≤a∧a≤1048576) (r:Bys):rdA (Lib.itoa a ++ 110 :: r)=(a,110 :: r):=by
 have hst:∀ c l,(110:UInt8) :: r=c :: l→zGh c=false:=by
  intro c l e
  injection e with e1 _
  subst e1; decide
 unfold rdA Lib.itoa
 by_cases h0:a<0
 ·rw [if_pos h0]
  simp only [List.cons_append,zEA,zFn,beq_self_eq_true,if_true]
  rw [zWE (u:=a.natAbs) yO hst]
  simp only [Prod.mk.injEq,and_true]; omega
 ·rw [if_neg h0]
  obtain ⟨c,l,e,hc⟩:=zWD a.toNat
  have hn:=yBB hc (show zGh 45=false by decide)
  have h3:=zWE (u:=a.toNat) (r:=110 :: r) yO hst
  rw [e] at h3 ⊢
  simp only [List.cons_append] at h3 ⊢
  simp only [zEA,zFn,hn,Bool.false_eq_true,if_false,h3]
  simp only [Prod.mk.injEq,and_true]; omega
end Go.Hx
end
