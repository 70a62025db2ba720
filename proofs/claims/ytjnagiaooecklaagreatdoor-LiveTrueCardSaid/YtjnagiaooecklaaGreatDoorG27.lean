/-
  Walks of functions of the program over an abstract layer, and the laws that they use: each contract says what the function computes, for every input that its conditions let by. No other condition.
-/
import Derived.Test.YtjnagiaooecklaaGreatDoorG24
import Derived.Test.YtjnagiaooecklaaGreatDoorG26
import Derived.Test.YtjnagiaooecklaaGreatDoorG10
import Derived.Test.YtjnagiaooecklaaGreatDoorG19
import Derived.Test.YtjnagiaooecklaaGreatDoorG14
set_option linter.all false
section
set_option maxRecDepth 100000
set_option linter.unusedSimpArgs false
set_option maxHeartbeats 4000000
attribute [local go_sem] Go.Oper.semAt_some
namespace Go.Hx
open Go.Proofs Go.RowKit Go.Shelf
variable [Glob] [GlobL]
attribute [local go_sem] zAk zAi zAj zAe ndV zAg zAf zBC zA2 zBy zBx zBs
theorem yO9 {v:Array Value} (h:v.size=38):v=#[v.getD 0 undef,v.getD 1 undef,v.getD 2 undef,v.getD 3 undef,v.getD 4 undef,v.getD 5 undef,v.getD 6 undef,v.getD 7 undef,v.getD 8 undef,v.getD 9 undef,v.getD 10 undef,v.getD 11 undef,v.getD 12 undef,v.getD 13 undef,v.getD 14 undef,v.getD 15 undef,v.getD 16 undef,v.getD 17 undef,v.getD 18 undef,v.getD 19 undef,v.getD 20 undef,v.getD 21 undef,v.getD 22 undef,v.getD 23 undef,v.getD 24 undef,v.getD 25 undef,v.getD 26 undef,v.getD 27 undef,v.getD 28 undef,v.getD 29 undef,v.getD 30 undef,v.getD 31 undef,v.getD 32 undef,v.getD 33 undef,v.getD 34 undef,v.getD 35 undef,v.getD 36 undef,v.getD 37 undef]:=by
 refine Array.ext (by simp [h]) fun i h1 h2=>?_
 have h3:i < 38:=by omega
 have e:∀ k,k < 38→∀ h:k < v.size,v[k]=v.getD k undef:=fun k _ hk=>by rw [Array.getD_eq_getD_getElem?,Array.getElem?_eq_getElem hk];rfl
 rw [e i h3 h1]
 match i,h3,h2 with
 |0,_,_=>rfl
 |1,_,_=>rfl
 |2,_,_=>rfl
 |3,_,_=>rfl
 |4,_,_=>rfl
 |5,_,_=>rfl
 |6,_,_=>rfl
 |7,_,_=>rfl
 |8,_,_=>rfl
 |9,_,_=>rfl
 |10,_,_=>rfl
 |11,_,_=>rfl
 |12,_,_=>rfl
 |13,_,_=>rfl
 |14,_,_=>rfl
 |15,_,_=>rfl
 |16,_,_=>rfl
 |17,_,_=>rfl
 |18,_,_=>rfl
 |19,_,_=>rfl
 |20,_,_=>rfl
 |21,_,_=>rfl
 |22,_,_=>rfl
 |23,_,_=>rfl
 |24,_,_=>rfl
 |25,_,_=>rfl
 |26,_,_=>rfl
 |27,_,_=>rfl
 |28,_,_=>rfl
 |29,_,_=>rfl
 |30,_,_=>rfl
 |31,_,_=>rfl
 |32,_,_=>rfl
 |33,_,_=>rfl
 |34,_,_=>rfl
 |35,_,_=>rfl
 |36,_,_=>rfl
 |37,_,_=>rfl
 |k+38,h,_=>exact absurd h (by omega)
theorem zRW (m:Mem) {β:Type}:Own (fun (_:β) W=>MemOk m W):=fun _ _ _ _ hs hg hr b o u hu=>cell_kept (hs b o u hu) hg hr
theorem yAA {m:Mem} {W:World} {b:Nat} (h:MemOk m W) (h8:∀ o,m b o=none) (v:Value):MemOk m (W.setCell ⟨b,0,none⟩ v):=fun c o u hu=>by
 have hne:c≠b:=by rintro rfl;rw [h8 o] at hu;cases hu
 exact (World.cell?_setCell_other _ _ _ _ (by intro e;cases e;exact hne rfl)).trans (h c o u hu)
theorem yLz (d:List Nd) (hd:zCF d d.length=true) (link:Int) (n:Nat) (hn:n < d.length) (p:Pt) (k:Nat) (hk:k < 1000) (X:Nat→Bool)
  (hX:∀ x,x < d.length→Contract Tryz.prog zA7 [.val (.one (zBs d)),.val (.agg (ptV p)),.val (iv k),.val (iv x)] {res:=.val (bv (X x))})
  (m:Mem) (w0 w:World) (hm:MemOk m w) (hG:Glob.ok w) (hB0:Below w0.heap.size w0 w) (v:Array Value) (hs:v.size=38) (b8 T:Nat) (h8:w0.heap.size≤b8) (hm8:∀ o,m b8 o=none) (hc8:w.heap[b8]?=some (.cells #[.bool false] T (0,0)))
  (v4:Rp m (.fp [zBs d]) (v.getD 4 undef)) (v5:Rp m (.fp (ptV p)) (v.getD 5 undef)) (v6:Rp m (.fp [bI (k+1:Nat)]) (v.getD 6 undef)) (v8:v.getD 8 undef=.pointer (some ⟨b8,0,none⟩)) (v30:Rp m (yHh d link n) (v.getD 30 undef))
  (R:Ending→World→Prop) (fn:Func) (hfr:fn.results=#[.cell 8 4]) (hR:∀ W,MemOk m W→Below w0.heap.size w0 W→R (.returned (.bool ((yFR d link n).any X))) W):
  (cdR (cdL (cdR (cdR (cdR (Tryz.f91.body.getD .skip)))))).wpIn Fence.wide 3 Tryz.prog (Exit.then (fun a w=>(cdR (cdR (cdR (cdR (Tryz.f91.body.getD .skip))))).wpIn Fence.wide 3 Tryz.prog (bodyPostM Fence.wide 3 Tryz.prog fn R) a w) (bodyPostM Fence.wide 3 Tryz.prog fn R)) {tmps:=v,defers:=[]} w:=by
 have hv:=yO9 hs
 obtain ⟨x0,e0⟩:∃ x,x=v.getD 0 undef:=⟨_,rfl⟩
 obtain ⟨x1,e1⟩:∃ x,x=v.getD 1 undef:=⟨_,rfl⟩
 obtain ⟨x2,e2⟩:∃ x,x=v.getD 2 undef:=⟨_,rfl⟩
 obtain ⟨x3,e3⟩:∃ x,x=v.getD 3 undef:=⟨_,rfl⟩
 obtain ⟨x4,e4⟩:∃ x,x=v.getD 4 undef:=⟨_,rfl⟩
 obtain ⟨x5,e5⟩:∃ x,x=v.getD 5 undef:=⟨_,rfl⟩
 obtain ⟨x6,e6⟩:∃ x,x=v.getD 6 undef:=⟨_,rfl⟩
 obtain ⟨x7,e7⟩:∃ x,x=v.getD 7 undef:=⟨_,rfl⟩
 obtain ⟨x8,e8⟩:∃ x,x=v.getD 8 undef:=⟨_,rfl⟩
 obtain ⟨x9,e9⟩:∃ x,x=v.getD 9 undef:=⟨_,rfl⟩
 obtain ⟨x10,e10⟩:∃ x,x=v.getD 10 undef:=⟨_,rfl⟩
 obtain ⟨x11,e11⟩:∃ x,x=v.getD 11 undef:=⟨_,rfl⟩
 obtain ⟨x12,e12⟩:∃ x,x=v.getD 12 undef:=⟨_,rfl⟩
 obtain ⟨x13,e13⟩:∃ x,x=v.getD 13 undef:=⟨_,rfl⟩
 obtain ⟨x14,e14⟩:∃ x,x=v.getD 14 undef:=⟨_,rfl⟩
 obtain ⟨x15,e15⟩:∃ x,x=v.getD 15 undef:=⟨_,rfl⟩
 obtain ⟨x16,e16⟩:∃ x,x=v.getD 16 undef:=⟨_,rfl⟩
 obtain ⟨x17,e17⟩:∃ x,x=v.getD 17 undef:=⟨_,rfl⟩
 obtain ⟨x18,e18⟩:∃ x,x=v.getD 18 undef:=⟨_,rfl⟩
 obtain ⟨x19,e19⟩:∃ x,x=v.getD 19 undef:=⟨_,rfl⟩
 obtain ⟨x20,e20⟩:∃ x,x=v.getD 20 undef:=⟨_,rfl⟩
 obtain ⟨x21,e21⟩:∃ x,x=v.getD 21 undef:=⟨_,rfl⟩
 obtain ⟨x22,e22⟩:∃ x,x=v.getD 22 undef:=⟨_,rfl⟩
 obtain ⟨x23,e23⟩:∃ x,x=v.getD 23 undef:=⟨_,rfl⟩
 obtain ⟨x24,e24⟩:∃ x,x=v.getD 24 undef:=⟨_,rfl⟩
 obtain ⟨x25,e25⟩:∃ x,x=v.getD 25 undef:=⟨_,rfl⟩
 obtain ⟨x26,e26⟩:∃ x,x=v.getD 26 undef:=⟨_,rfl⟩
 obtain ⟨x27,e27⟩:∃ x,x=v.getD 27 undef:=⟨_,rfl⟩
 obtain ⟨x28,e28⟩:∃ x,x=v.getD 28 undef:=⟨_,rfl⟩
 obtain ⟨x29,e29⟩:∃ x,x=v.getD 29 undef:=⟨_,rfl⟩
 obtain ⟨x30,e30⟩:∃ x,x=v.getD 30 undef:=⟨_,rfl⟩
 obtain ⟨x31,e31⟩:∃ x,x=v.getD 31 undef:=⟨_,rfl⟩
 obtain ⟨x32,e32⟩:∃ x,x=v.getD 32 undef:=⟨_,rfl⟩
 obtain ⟨x33,e33⟩:∃ x,x=v.getD 33 undef:=⟨_,rfl⟩
 obtain ⟨x34,e34⟩:∃ x,x=v.getD 34 undef:=⟨_,rfl⟩
 obtain ⟨x35,e35⟩:∃ x,x=v.getD 35 undef:=⟨_,rfl⟩
 obtain ⟨x36,e36⟩:∃ x,x=v.getD 36 undef:=⟨_,rfl⟩
 obtain ⟨x37,e37⟩:∃ x,x=v.getD 37 undef:=⟨_,rfl⟩
 rw [←e4] at v4;rw [←e5] at v5;rw [←e6] at v6;rw [←e8] at v8;rw [←e30] at v30
 rw [←e0,←e1,←e2,←e3,←e4,←e5,←e6,←e7,←e8,←e9,←e10,←e11,←e12,←e13,←e14,←e15,←e16,←e17,←e18,←e19,←e20,←e21,←e22,←e23,←e24,←e25,←e26,←e27,←e28,←e29,←e30,←e31,←e32,←e33,←e34,←e35,←e36,←e37]at hv
 clear e0 e1 e2 e3 e4 e5 e6 e7 e8 e9 e10 e11 e12 e13 e14 e15 e16 e17 e18 e19 e20 e21 e22 e23 e24 e25 e26 e27 e28 e29 e30 e31 e32 e33 e34 e35 e36 e37 hs
 subst hv
 subst v8
 rw [zH8] at v5
 simp only [yHh,Rp,RpAt] at v4 v5 v6 v30
 obtain ⟨b4,o4,rfl,⟨u4,g4,r4⟩,_⟩:=v4
 obtain ⟨b5,o5,rfl,⟨p0,g50,r50⟩,⟨p1,g51,r51⟩,_⟩:=v5
 obtain ⟨b6,o6,rfl,⟨u6,g6,rfl,_⟩,_⟩:=v6
 obtain ⟨us,rfl,hus⟩:=v30
 have c8:w.cell? ⟨b8,0,none⟩=some (.bool false):=by unfold World.cell?;simp [hc8]
 have f8:w.frozen? ⟨b8,0,none⟩=false:=by unfold World.frozen?;simp [hc8]
 have hlt8:b8 < w.heap.size:=(Array.getElem?_eq_some_iff.1 hc8).1
 have hcall:∀ (x:Nat),x < d.length→∀ W,MemOk m W→Glob.ok W→Calls Tryz.prog 91 #[u4,.agg #[p0,p1],.int .i64 k,.int .i64 x] W fun e W'=>e=.returned (.bool (X x))∧Below W.heap.size W W':=fun x hx W hW hGW=>by
  have hT:=(hX x hx).2 m W [u4,.agg #[p0,p1],.int .i64 k,.int .i64 x] hW ⟨_,_,rfl,r4,_,_,rfl,⟨[p0,p1],rfl,by rw [zH8];exact ⟨_,_,rfl,r50,_,_,rfl,r51,rfl⟩⟩,_,_,rfl,⟨rfl,rfl⟩,_,_,rfl,⟨rfl,rfl⟩,rfl⟩ (by intro g h;cases h) hGW (by rintro b (h|h)<;>cases h)
  refine hT.mono fun e w' ⟨m',_,_,hp,_,_,v,hv,hr⟩=>?_
  exact ⟨by rw [hv];exact congrArg _ hr.1,⟨hp.os,hp.tape,hp.output,hp.size,fun b hb=>hp.block b hb (by rintro (h|h)<;>cases h)⟩⟩
 have hfw:∀ g,Fence.wide.fn g:=fun _=>trivial
 simp only [Tryz.f91,Option.getD_some,cdL,cdR]
 refine wpIn_block ?_
 refine wpIn_rangeFunc_ownG rfl (by decide) (gf:=205) (lb:=us.toArray) rfl trivial (enters_of Tryz.func205 (by kernel_rfl) rfl)
  (yCI d hd link n hn m w us hm hG hus 2 (by decide)) belowK_t (belowK_b (Nat.le_refl _)) (Below.refl _ _) (fun _=>rfl)
  (fun pre W=>(∀ y∈pre,X y.1=false)∧Below w.heap.size w W)
  (fun c pre W=>(c=.ret∧(∃ y∈pre,X y.1=true)∧MemOk m W∧W.cell? ⟨b8,0,none⟩=some (.bool true))∧Below w0.heap.size w0 W)
  (OwnFrom.and (ownFrom_pure _ _) (ownFrom_below (Nat.le_refl _) (Nat.le_refl _)))
  (fun c=>OwnFrom.and (Own.from (fun s A B row hs hg hr=>⟨hs.1,hs.2.1,zRW m () A B row hs.2.2.1 hg hr,cell_kept hs.2.2.2 hg hr⟩) _) (ownFrom_below (Nat.le_refl _) hB0.size))
  ⟨by simp,Below.refl _ _⟩
  (fun x=>{tmps:=#[x0,x1,x2,x3,.pointer (some ⟨b4,o4,none⟩),.pointer (some ⟨b5,o5,none⟩),.pointer (some ⟨b6,o6,none⟩),x7,.pointer (some ⟨b8,0,none⟩),.int .i64 x.1,x10,x11,x12,x13,x14,x15,x16,x17,x18,x19,x20,x21,x22,x23,x24,x25,x26,x27,x28,x29,.func (.func 205) #[] us.toArray,.int .i64 x.1,x32,x33,x34,x35,x36,x37],defers:=[]}) ?assign ?body ?done ?stop
 case assign=>
  intro l x W K hK
  gi_wp2
  exact hK
 case body=>
  rintro l pre x W ⟨hp,hB⟩ _
  have hmW:=yNV hm hB
  have d4:=hmW _ _ _ g4
  have d50:=hmW _ _ _ g50
  have d51:=hmW _ _ _ g51
  have d6:=hmW _ _ _ g6
  have hcx:=hcall x.1 x.2 W hmW (yNI hG hB)
  gi_wp2
  refine (CallsIn.inRound l (callsIn_wide.2 hcx)).mono ?_
  rintro e W1 ⟨rfl,hbW⟩
  have hB1:Below w.heap.size w W1:=hB.trans (hbW.mono hB.size)
  have c8':=(World.cell?_of_block (hB1.block b8 hlt8)).trans c8
  have f8':=(World.frozen?_of_block (hB1.block b8 hlt8)).trans f8
  have hkf:KeepsFrom w.heap.size W W1:=⟨hbW.size,fun k o _ hk _=>(hbW.block k (Array.getElem?_eq_some_iff.1 hk).1).trans hk⟩
  have hBW1:Below w.heap.size W W1:=hbW.mono hB.size
  cases hXx:X x.1 with
  |true=>
   gi_wp2
   exact ⟨hkf.trans ((KeepsOthers.setCell _ _ _).from _),⟨rfl,⟨x,by simp,hXx⟩,yAA (yNV hm hB1) hm8 _,World.cell?_setCell_same' _ _ _ (by rw [c8'];rfl)⟩,(hB0.trans (hB1.mono hB0.size)).setCell (p:=⟨b8,0,none⟩) h8 _⟩
  |false=>
   gi_wp2
   exact ⟨hkf,hBW1,⟨fun y hy=>(List.mem_append.1 hy).elim (hp y) (fun e=>by simp at e;rw [e];exact hXx),hB1⟩⟩
 case done=>
  rintro D ys W hD hys ⟨hne,hB⟩ hK
  have c8':=(World.cell?_of_block (hB.block b8 hlt8)).trans c8
  have f8':=(World.frozen?_of_block (hB.block b8 hlt8)).trans f8
  show Code.wpIn _ _ _ _ _ _ _
  gi_wp2
  have hK':=(KeepsOthers.setCell W ⟨b8,0,none⟩ (.bool false)).same D _ hK rfl
  refine ⟨by simp,.inl ⟨_,_,rfl,run_takeDeferred hK',?_⟩⟩
  have hc5:=cell_kept (World.cell?_setCell_same' W ⟨b8,0,none⟩ (.bool false) (by rw [c8'];rfl)) (grownBy_putObj' _ D (.deferred none)) (fun r e=>by cases e;exact ⟨_,hK',rfl⟩)
  have hB5:=((hB0.trans (hB.mono hB0.size)).setCell (p:=⟨b8,0,none⟩) h8 (.bool false)).trans (belowK_b (w:=w) hB0.size _ D _ (.deferred none) hD hK' rfl rfl)
  have hm5:=zRW m () _ _ _ (yAA (yNV hm hB) hm8 (.bool false)) (grownBy_putObj' _ D (.deferred none)) (fun r e=>by cases e;exact ⟨_,hK',rfl⟩)
  have hany:(yFR d link n).any X=false:=by
   rw [List.any_eq_false,←hys]
   intro z hz
   obtain ⟨y,hy,rfl⟩:=List.mem_map.1 hz
   rw [hne y hy];decide
  have hr:=hR _ hm5 hB5
  rw [hany] at hr
  refine ⟨.bool false,?_,hr⟩
  simp [results,hfr,go_sem,hc5]
 case stop=>
  rintro D c pre W hD hpre ⟨⟨rfl,⟨y,hy,hXy⟩,hmW,hc8⟩,hB⟩ hK
  gi_wp2
  refine ⟨by simp,.inl ⟨_,_,rfl,run_takeDeferred hK,?_⟩⟩
  have hc5:=cell_kept hc8 (grownBy_putObj' _ D (.deferred none)) (fun r e=>by cases e;exact ⟨_,hK,rfl⟩)
  have hB5:=hB.trans (belowK_b (w:=w) hB0.size W D _ (.deferred none) hD hK rfl rfl)
  have hm5:=zRW m () _ _ _ hmW (grownBy_putObj' _ D (.deferred none)) (fun r e=>by cases e;exact ⟨_,hK,rfl⟩)
  have hany:(yFR d link n).any X=true:=by
   rw [List.any_eq_true]
   exact ⟨y.1,hpre.subset (List.mem_map.2 ⟨y,hy,rfl⟩),hXy⟩
  have hr:=hR _ hm5 hB5
  rw [hany] at hr
  refine ⟨.bool true,?_,hr⟩
  simp [results,hfr,go_sem,hc5]
end Go.Hx
end

section
set_option maxRecDepth 100000
set_option linter.unusedSimpArgs false
set_option maxHeartbeats 4000000
namespace Go.Hx
open Go.Proofs Go.RowKit Go.Shelf
variable [Glob] [GlobL]
attribute [local go_sem] zAk zAi zAj zAe ndV zAg zAf zBC zA2 zBy zBx zBs
attribute [local go_sem] reduceCtorEq Nat.reduceAdd Nat.reduceEqDiff reduceIte Nat.reduceLeDiff Nat.reduceLT Nat.reduceSub
theorem zN4 {P:Program} {E:Env} {S:Start} (wf:E.Wf) {x y:Code} {hx hy:HCode} {F:List Ct} {a:Act} {w:World} {k:Nat} {QA:Exit→List Ct→Prop} {Q:Exit→Act→World→Prop} (hk:zCV P E x hx=true) (hW:hwp P (.seq hx hy) QA F) (hI:Inv E S F a w)
  (hn:∀ F a w,hwp P hy QA F→Inv E S F a w→y.wpIn Fence.wide k P Q a w) (ho:∀ e F a w,e≠.normal→QA e F→Inv E S F a w→Q e a w):(Code.seq x y).wpIn Fence.wide k P Q a w:=by
 refine wpIn_seq (wpIn_mono (wpIn_wide.2 (zJC wf x hx _ _ _ _ hk hW hI)) ?_)
 rintro e a w ⟨F',hq,hi⟩
 cases e with
 |normal=>exact hn F' a w hq hi
 |exit id=>exact ho _ F' a w (by simp) hq hi
 |ret=>exact ho _ F' a w (by simp) hq hi
 |goto t=>exact ho _ F' a w (by simp) hq hi
 |panic ch=>exact ho _ F' a w (by simp) hq hi
 |outgrown=>exact ho _ F' a w (by simp) hq hi
def lpQ (av:List AV) (r:RV) (G:List Ct→Prop):Exit→List Ct→Prop
 |.normal,F=>G F
 |.ret,F=>yED match_look_path_E 0 av zB6 r .ret F
 |.exit _,_=>False
 |.goto _,_=>False
 |.panic _,_=>False
 |.outgrown,_=>False
theorem yCJ {av:List AV} {r:RV} {G:List Ct→Prop} {F:List Ct}:lpQ av r G .normal F=G F:=rfl
theorem yCK {av:List AV} {r:RV} {G:List Ct→Prop} {F:List Ct}:lpQ av r G .ret F=yED match_look_path_E 0 av zB6 r .ret F:=rfl
theorem yJP {av:List AV} {b:Bool} {F:List Ct} (hio:ioOf av=none) (h8:F.getD 8 .un=.ptr 0 0) (h38:F.getD 38 .un=.pv (.one (.v (.bool b)))):yED match_look_path_E 0 av zB6 {res:=.val (bv b)} .ret F:=by
 refine ⟨?_,fun cs h=>by rw [hio] at h;cases h⟩
 simp only [zKj,zB6,rsV,h8,zAM,zLC,Nat.add_zero,h38]
 exact ⟨trivial,trivial,.inl rfl⟩
def lpG (d:List Nd) (p:Pt) (j n:Nat) (F:List Ct):Prop:=
 ∃ i,j=i+1∧sM d (p.steps.getD j default) n=true∧F.getD 4 .un=.pv (.one (.fp [zBs d]))∧F.getD 5 .un=.pv (.one (.fp (ptV p)))∧F.getD 6 .un=.pv (.one (.fp [bI (j+1:Nat)]))∧F.getD 8 .un=.ptr 0 0∧
  F.getD 30 .un=.pv (.one (yHh d (p.links.getD i 0) n))∧F.getD 38 .un=.pv (.one (.v (.bool false)))
theorem yLA (d:List Nd) (p:Pt) (j n:Nat) (hj:j < p.steps.length) (p2:p.steps.length≤5) (p3:p.links.length+1=p.steps.length)
  (hS:Contract Tryz.prog zBp [.val (.one (zBs d)),.val (.agg (stV (p.steps.getD j default))),.val (iv n)] {res:=.val (bv (sM d (p.steps.getD j default) n))}):
  hwp Tryz.prog lpA (lpQ [.val (.one (zBs d)),.val (.agg (ptV p)),.val (iv (j+1:Nat)),.val (iv n)] {res:=.val (bv (zDU d (p.steps.map (sM d)) p.links j n))} (lpG d p j n)) (F0 match_look_path_E 0 [.val (.one (zBs d)),.val (.agg (ptV p)),.val (iv (j+1:Nat)),.val (iv n)]):=by
 have hget:=zVL p.steps j hj
 have hps:(p.steps.map (sM d)).getD j (fun _=>false)=sM d (p.steps.getD j default):=by
  rw [List.getD_eq_getElem?_getD,List.getElem?_map,List.getD_eq_getElem?_getD,List.getElem?_eq_getElem hj];rfl
 obtain ⟨s,hs⟩:∃ s,s=p.steps.getD j default:=⟨_,rfl⟩
 rw [←hs] at hget hS hps
 obtain ⟨b,hb⟩:∃ b,b=sM d s n:=⟨_,rfl⟩
 obtain ⟨G,hG⟩:∃ G,G=lpG d p j n:=⟨_,rfl⟩
 rw [←hG]
 have hp0:b=false→zDU d (p.steps.map (sM d)) p.links j n=false:=fun h=>by
  cases j with
  |zero=>rw [zDU,hps,←hb,h]
  |succ i=>rw [zDU,hps,←hb,h];rfl
 have hp1:j=0→b=true→zDU d (p.steps.map (sM d)) p.links j n=true:=fun h0 h=>by
  subst h0;rw [zDU,hps,←hb,h]
 obtain ⟨r,hr⟩:∃ r,r=zDU d (p.steps.map (sM d)) p.links j n:=⟨_,rfl⟩
 rw [←hr] at hp0 hp1 ⊢
 have hpt:=zH8 p
 rw [zUA] at hget hS
 rw [←hb] at hS
 rw [zH8]
 have e1:(((j+1:Nat):Int)-1)=(j:Int):=by omega
 unfold F0 match_look_path_E
 simp (maxSteps:=2000000) only [zSL,List.set_cons_succ,List.set_cons_zero,List.map_cons,List.map_nil,zNo,zAl,ioOf,List.length_cons,List.length_nil,Nat.reduceAdd,Nat.reduceSub,List.replicate,List.cons_append,List.nil_append]
 try simp (maxSteps:=2000000) only [go_sem,yCJ,yCK,e1,Int.toNat_natCast,hget]
 repeat with_reducible refine zAP ?_
 refine zAo (by repeat' constructor) (hS) ?_
 try simp (maxSteps:=2000000) only [go_sem,yCJ,yCK,hget]
 repeat with_reducible refine zAP ?_
 refine zAa (by rfl) trivial (fun g1=>?_) (fun g1=>?_)
 ·try simp (maxSteps:=2000000) only [go_sem,yCJ,yCK]
  repeat with_reducible refine zAP ?_
  have h0:b=false:=by simpa using g1
  rw [hp0 h0]
  exact yJP rfl rfl rfl
 ·have h1:b=true:=by simpa using g1
  try simp (maxSteps:=2000000) only [go_sem,yCJ,yCK]
  repeat with_reducible refine zAP ?_
  refine zAa (by rfl) trivial (fun g2=>?_) (fun g2=>?_)
  ·try simp (maxSteps:=2000000) only [go_sem,yCJ,yCK]
   repeat with_reducible refine zAP ?_
   have h0:j=0:=by simp at g2;omega
   rw [hp1 h0 h1]
   exact yJP rfl rfl rfl
  ·have h0:j≠0:=by simp at g2;omega
   obtain ⟨i,rfl⟩:∃ i,j=i+1:=⟨j-1,by omega⟩
   have e2:(((i+1+1:Nat):Int)-2)=(i:Int):=by omega
   have hlk:=zD3 p.links i (by omega)
   have hil:i < p.links.length:=by omega
   have hrd:=zXY d (p.links.getD i 0) n
   try simp (maxSteps:=2000000) only [go_sem,yCJ,yCK,e2,Int.toNat_natCast,hlk]
   repeat with_reducible refine zAP ?_
   refine zAo (by repeat' constructor) (hrd) ?_
   try simp (maxSteps:=2000000) only [go_sem,yCJ,yCK]
   repeat with_reducible refine zAP ?_
   rw [hG]
   exact ⟨i,rfl,by rw [←hs,←hb,h1],rfl,by rw [zH8];rfl,rfl,rfl,rfl,rfl⟩
abbrev yFS (d:List Nd) (p:Pt) (j n:Nat):List AV:=[.val (.one (zBs d)),.val (.agg (ptV p)),.val (iv (j+1:Nat)),.val (iv n)]
theorem yPa {d:List Nd} {p:Pt} {j n:Nat} {m:Mem} {w:World}:∀ {us:List Value},ArgsRep m w (yFS d p j n) us→zHV (yFS d p j n) us=none∧ioB (yFS d p j n) us=none:=by
 intro us h
 obtain ⟨u0,us0,rfl,_,u1,us1,rfl,_,u2,us2,rfl,_,u3,us3,rfl,_,rfl⟩:=h
 exact ⟨rfl,rfl⟩
theorem zM1 (d:List Nd) (hd:zCF d d.length=true) (p:Pt) (j n:Nat) (hn:n < d.length) (hj:j < p.steps.length) (p2:p.steps.length≤5) (p3:p.links.length+1=p.steps.length) (p4:∀ n∈p.links,1≤n∧n≤4)
  (hS:Contract Tryz.prog zBp [.val (.one (zBs d)),.val (.agg (stV (p.steps.getD j default))),.val (iv n)] {res:=.val (bv (sM d (p.steps.getD j default) n))})
  (hP:∀ i,j=i+1→∀ x,x < d.length→Contract Tryz.prog zA7 [.val (.one (zBs d)),.val (.agg (ptV p)),.val (iv (i+1:Nat)),.val (iv x)] {res:=.val (bv (zDU d (p.steps.map (sM d)) p.links i x))}):
  Contract Tryz.prog zA7 [.val (.one (zBs d)),.val (.agg (ptV p)),.val (iv (j+1:Nat)),.val (iv n)] {res:=.val (bv (zDU d (p.steps.map (sM d)) p.links j n))}:=by
 refine ⟨by kernel_rfl,fun m w us hm ha hd' hG0 hGR=>?_⟩
 have hE:=Bool.and_eq_true_iff.1 yPC
 have wf:=Env.wf_of_ok hE.1
 have hno:=yPa ha
 have hfo:zYu match_look_path_E 0 (yFS d p j n):=⟨Nat.le_of_ble_eq_true rfl,Nat.le_of_ble_eq_true rfl,Nat.le_of_ble_eq_true rfl,rfl⟩
 have h0:=zYw hE.2 wf hfo hm ha hd' hG0 hGR
 have hW:=yLA d p j n hj p2 p3 hS
 have hnr:∀ b,¬ zNi (yFS d p j n) us b:=by
  rintro b (h|h)
  ·rw [hno.1] at h;cases h
  ·rw [hno.2] at h;cases h
 have hpost:∀ {m5:Mem} {W:World} (v:Bool),m.le m5→MemOk m5 W→Below w.heap.size w W→(∀ b o u,m5 b o=some u→m b o=some u∨w.heap.size≤b)→v=zDU d (p.steps.map (sM d)) p.links j n→
   yJn m w (yFS d p j n) us {res:=.val (bv (zDU d (p.steps.map (sM d)) p.links j n))} (.returned (.bool v)) W:=fun {m5 W} v h1 h2 h3 h4 h5=>by
  refine ⟨m5,h1,h2,Pres.of_below _ h3,fun b o u hu=>?_,fun b hb=>?_,_,rfl,?_⟩
  ·rcases h4 b o u hu with h|h
   ·exact .inl h
   ·exact .inr (.inl h)
  ·rw [hno.2] at hb;cases hb
  ·rw [←h5];exact ⟨rfl,rfl⟩
 have key:∀ {m5:Mem} {β:Bx} {ow:Ow} {F:List Ct} {a':Act} {w':World},InvG match_look_path_E {w0:=w,m0:=m,R0:=zNi (yFS d p j n) us,b0:=fun q=>if q=0 then ioB (yFS d p j n) us else none,g0:=hG0,gR:=hGR} m5 β ow F a' w'→
   m.le m5∧MemOk m5 w'∧Below w.heap.size w w'∧(∀ b o u,m5 b o=some u→m b o=some u∨w.heap.size≤b):=fun hI=>
  ⟨hI.mle,hI.mem,⟨hI.pres.os,hI.pres.tape,hI.pres.output,hI.pres.size,fun b hb=>hI.pres.block b hb (hnr b)⟩,fun b o u hu=>by
   rcases hI.new b o u hu with h|h|h
   ·exact .inl h
   ·exact .inr h
   ·exact absurd h (hnr b)⟩
 have hx:∀ (e:Exit) (F:List Ct) (a':Act) (w':World),e≠.normal→lpQ (yFS d p j n) {res:=.val (bv (zDU d (p.steps.map (sM d)) p.links j n))} (lpG d p j n) e F→
   Inv match_look_path_E {w0:=w,m0:=m,R0:=zNi (yFS d p j n) us,b0:=fun q=>if q=0 then ioB (yFS d p j n) us else none,g0:=hG0,gR:=hGR} F a' w'→
   bodyPostM Fence.wide 3 Tryz.prog Tryz.f91 (yJn m w (yFS d p j n) us {res:=.val (bv (zDU d (p.steps.map (sM d)) p.links j n))}) e a' w':=by
  rintro e F a' w' hne hq ⟨m5,β,ow,hI⟩
  cases e with
  |normal=>exact absurd rfl hne
  |exit id=>exact hq.elim
  |goto t=>exact hq.elim
  |panic ch=>exact hq.elim
  |outgrown=>exact hq.elim
  |ret=>
   obtain ⟨c1,c2,c3,c4⟩:=key hI
   obtain ⟨us',h1,h2⟩:=zG1 hI yPD (xs:=[bv (zDU d (p.steps.map (sM d)) p.links j n)]) (by simp only [yBj];exact ⟨hq.1,trivial⟩)
   obtain ⟨u,us'',rfl,h3,h4⟩:=h2
   simp only [RpVL] at h4
   subst h4
   have hu:u=.bool (zDU d (p.steps.map (sM d)) p.links j n):=h3.1
   subst hu
   show LeavesInM _ _ _ _ _ _ a'.defers _ _
   rw [hI.dfr]
   exact ⟨_,h1,hpost _ c1 c2 c3 c4 rfl⟩
 refine (callsIn_wide (n:=3)).1 (callsIn_of_wp_marks Tryz.func91 (c:=Tryz.f91.body.getD .skip) (by kernel_rfl) trivial ?_ rfl)
 rw [yO8]
 refine zN4 wf yO4 hW h0 (fun F1 a1 w1 hW1 hI1=>zN4 wf yO5 hW1 hI1 (fun F2 a2 w2 hW2 hI2=>zN4 wf yO6 hW2 hI2 (fun F3 a3 w3 hW3 hI3=>?_) hx) hx) hx
 refine wpIn_seq (wpIn_seq (wpIn_mono (wpIn_wide.2 (zJC wf _ _ _ _ _ _ yO7 hW3 hI3)) ?_))
 rintro e a' w' ⟨F',hq,hi⟩
 cases e with
 |exit id=>exact hx _ F' a' w' (by simp) hq hi
 |ret=>exact hx _ F' a' w' (by simp) hq hi
 |goto t=>exact hx _ F' a' w' (by simp) hq hi
 |panic ch=>exact hx _ F' a' w' (by simp) hq hi
 |outgrown=>exact hx _ F' a' w' (by simp) hq hi
 |normal=>
  obtain ⟨i,rfl,hs1,q4,q5,q6,q8,q30,q38⟩:=hq
  obtain ⟨m5,β,ow,hI⟩:=hi
  obtain ⟨c1,c2,c3,c4⟩:=key hI
  have v4:=hI.slots 4 (by decide)
  have v5:=hI.slots 5 (by decide)
  have v6:=hI.slots 6 (by decide)
  have v8:=hI.slots 8 (by decide)
  have v30:=hI.slots 30 (by decide)
  rw [q4] at v4;rw [q5] at v5;rw [q6] at v6;rw [q8] at v8;rw [q30] at v30
  obtain ⟨b8,hb8,v8⟩:=v8
  have hbx:=hI.boxes 0 (38,1) rfl
  rw [hb8] at hbx
  obtain ⟨hown,hmb,cs,T,hblk,hsz,hcell⟩:=hbx
  have hc:=hcell 0 (by decide)
  rw [q38] at hc
  have hcs:cs=#[.bool false]:=by
   have h1:cs.getD 0 undef=.bool false:=hc.1
   refine Array.ext (by rw [hsz];rfl) (fun k hk1 hk2=>?_)
   have hk:k=0:=by simp at hk2;omega
   subst hk
   rw [Array.getD_eq_getD_getElem?,Array.getElem?_eq_getElem hk1] at h1
   exact h1
  subst hcs
  have h8:w.heap.size≤b8:=by
   rcases hI.own b8 _ hown with h|h
   ·exact h
   ·exact absurd h (hnr b8)
  obtain ⟨tm,df⟩:=a'
  obtain rfl:df=[]:=hI.dfr
  have hlk:=p4 (p.links.getD i 0) (by rw [List.getD_eq_getElem?_getD,List.getElem?_eq_getElem (by omega)];exact List.getElem_mem (by omega))
  have hps:(p.steps.map (sM d)).getD (i+1) (fun _=>false)=sM d (p.steps.getD (i+1) default):=by
   rw [List.getD_eq_getElem?_getD,List.getElem?_map,List.getD_eq_getElem?_getD,List.getElem?_eq_getElem hj];rfl
  have hval:zDU d (p.steps.map (sM d)) p.links (i+1) n=(yFR d (p.links.getD i 0) n).any (fun x=>zDU d (p.steps.map (sM d)) p.links i x):=by
   rw [yFA hd hn hlk.1 hlk.2,hps,hs1,Bool.true_and]
  exact yLz d hd (p.links.getD i 0) n hn p (i+1) (by omega) (fun x=>zDU d (p.steps.map (sM d)) p.links i x) (fun x hx=>hP i rfl x hx) m5 w w' hI.mem hI.glob c3 tm hI.lenA b8 T h8 hmb hblk v4 v5 v6 v8 v30 _ _ rfl
   (fun W h1 h2=>hpost _ c1 h1 h2 c4 hval.symm)
end Go.Hx
end

section
set_option maxRecDepth 100000
set_option linter.unusedSimpArgs false
set_option maxHeartbeats 4000000
namespace Go.Hx
open Go.Proofs
variable [Glob] [GlobL]
attribute [local go_sem] zAk zAi zAj zAe ndV zAg zAf zBC zA2 zBy zBx zBs
theorem zHq (d:List Nd) (hd:zAd d=0) (p:Pt) (p1:1≤p.steps.length) (p2:p.steps.length≤5) (p3:p.links.length+1=p.steps.length) (p4:∀ n∈p.links,1≤n∧n≤4)
  (hS:∀ s∈p.steps,∀ n,n < d.length→Contract Tryz.prog zBp [.val (.one (zBs d)),.val (.agg (stV s)),.val (iv n)] {res:=.val (bv (sM d s n))}):
  ∀ j,j < p.steps.length→∀ n,n < d.length→Contract Tryz.prog zA7 [.val (.one (zBs d)),.val (.agg (ptV p)),.val (iv (j+1:Nat)),.val (iv n)] {res:=.val (bv (zDU d (p.steps.map (sM d)) p.links j n))}
 |0,hj,n,hn=>zM1 d (yND hd).2.2 p 0 n hn hj p2 p3 p4 (hS _ (zFr hj) n hn) (fun i e=>absurd e (by omega))
 |j+1,hj,n,hn=>zM1 d (yND hd).2.2 p (j+1) n hn hj p2 p3 p4 (hS _ (zFr hj) n hn) (fun i e m hm=>(Nat.succ.inj e)▸zHq d hd p p1 p2 p3 p4 hS j (by omega) m hm)
theorem zO8 (d:List Nd) (n:Nat):Contract Tryz.prog zAy [.val (.one (zBs d)),.val (zBC []),.val (iv n)] {res:=.val (bv (lM d [] n))}:=
 zMV d [] n (fun i hi=>absurd hi (Nat.not_lt_zero i))
theorem zM2 (hM:zO6) (d:List Nd) (hd:zAd d=0) {e:Nat} (t:Ts) (h:GT t e)
  (hL:13≤t.kind→∀ m,m < d.length→Contract Tryz.prog zAy [.val (.one (zBs d)),.val (zBC t.list),.val (iv m)] {res:=.val (bv (lM d t.list m))}) (n:Nat) (hn:n < d.length):
  Contract Tryz.prog zA9 [.val (.one (zBs d)),.val (.agg (tsV t)),.val (iv n)] {res:=.val (bv (tM d t n))}:=by
 refine zKb hM d hd t h.parts'.1 n hn (fun m hm=>?_)
 by_cases hk:13≤t.kind
 ·exact hL hk m hm
 ·have e:t.list=[]:=by
   obtain ⟨k,nm,v,a,b,l⟩:=t
   have:=h.parts.2.2.2.2.2
   rw [if_neg (show ¬ 13≤k from hk)] at this
   exact this
  rw [e]
  exact zO8 d m
theorem zHr (hM:zO6) (d:List Nd) (hd:zAd d=0):∀ (f e:Nat),e+f=4→∀ l:List Pt,GL l e→∀ n:Nat,n < d.length→Contract Tryz.prog zAy [.val (.one (zBs d)),.val (zBC l),.val (iv n)] {res:=.val (bv (lM d l n))}
 |0,e,he,l,hg,n,hn=>by exact absurd hg.1 (by omega)
 |f+1,e,he,l,hg,n,hn=>by
  refine zMV d l n (fun i hi=>?_)
  have hp:=zFr hi
  obtain ⟨p,ep⟩:∃ p,p=l.getD i default:=⟨_,rfl⟩
  rw [←ep] at hp ⊢
  obtain ⟨p1,p2,p3,p4,p5⟩:=(yLo hg.2.2.2 p hp).parts'
  have:=zHq d hd p p1 p2 p3 p4 (fun s hs n hn=>by
   obtain ⟨s1,s2⟩:=(yLp p5 s hs).parts'
   refine zXX d s n hn (fun i hi=>?_)
   have hgt:=yLq s2 _ (zFr hi)
   exact zM2 hM d hd _ hgt (fun hk m hm=>zHr hM d hd f (e+1) (by omega) _ (hgt.parts'.2 hk) m hm) n hn) (p.steps.length-1) (by omega) n hn
  rw [show p.steps.length-1+1=p.steps.length by omega] at this
  rw [yNs]
  exact this
theorem zOA (hM:zO6) (d:List Nd) (hd:zAd d=0) (l:List Pt) (h:zB8 l=0) (n:Nat) (hn:n < d.length):Contract Tryz.prog zAy [.val (.one (zBs d)),.val (zBC l),.val (iv n)] {res:=.val (bv (lM d l n))}:=
 zHr hM d hd 3 1 rfl l (yK6 h) n hn
end Go.Hx
end

section
set_option maxRecDepth 100000
set_option linter.unusedSimpArgs false
set_option maxHeartbeats 4000000
namespace Go.Hx
open Go.Proofs
variable [Glob] [GlobL]
attribute [local go_sem] zAk zAi zAj zAe ndV zAg zAf zBC zA2 zBy zBx zBs List.take_nil
attribute [local go_sem] reduceCtorEq Nat.reduceAdd Nat.reduceEqDiff reduceIte Nat.reduceLeDiff Nat.reduceLT Nat.reduceSub
def zRX (d:List Nd) (l:List Pt):Int:=if zAd d≠0 then zAd d else zB8 l
def zT1 (d:List Nd) (e:Int):PVal:=if e=0 then .one (zBs d) else .one (.v (.pointer none))
theorem zU1 (d:List Nd) (l:List Pt) (n:Int):zMO d l n=if zRX d l≠0 then zRX d l else (if 0≤n∧n < d.length then 0 else 5):=by
 unfold zMO zRX zCB
 by_cases h1:zAd d=0<;>by_cases h2:zB8 l=0<;>simp only [h1,h2,ne_eq,not_true_eq_false,not_false_eq_true,if_true,if_false]
 all_goals (repeat' split)
 all_goals omega
theorem yCL {d:List Nd} {l:List Pt} (h:zRX d l=0):zAd d=0∧zB8 l=0:=by
 unfold zRX at h
 split at h
 ·rename_i h1;exact absurd h h1
 ·rename_i h1;exact ⟨by simpa using h1,h⟩
theorem zM3 (d:List Nd) (l:List Pt):Contract Tryz.prog zDY [.val (zCv d),.val (zBC l)] {res:=.tup [zT1 d (zRX d l),iv (zRX d l)]}:=by
 have hD:=zDV d
 have hL:=zOy l
 have hO:=fun h=>yFt d h
 unfold zCv at hD hO ⊢
 unfold zBC at hL ⊢
 refine mkA zTd (base:=0) (fo rfl) (fun hfit=>?_)
 unfold F0 zMh
 refine goU ?_
 refine zAo (by repeat' constructor) (hD) ?_
 refine goW ?_
 refine zAa (by rfl) trivial (fun g1=>?_) (fun g1=>?_)
 ·refine goW ?_
  have h1:zAd d≠0:=by simpa using g1
  have hb:zRX d l=zAd d:=by rw [zRX,if_pos h1]
  exact zAA (by simp) ⟨zAv rfl trivial (.inl (by rw [zT1,hb,if_neg h1])),zAv rfl trivial (.inl (by rw [hb])),rfl⟩
 have h1:zAd d=0:=by simpa using g1
 refine goW ?_
 refine zAo (by repeat' constructor) (hL) ?_
 refine goW ?_
 have hb:zRX d l=zB8 l:=by rw [zRX,if_neg (by simpa using h1)]
 refine zAa (by rfl) trivial (fun g2=>?_) (fun g2=>?_)
 ·refine goW ?_
  have h2:zB8 l≠0:=by simpa using g2
  exact zAA (by simp) ⟨zAv rfl trivial (.inl (by rw [zT1,hb,if_neg h2])),zAv rfl trivial (.inl (by rw [hb])),rfl⟩
 have h2:zB8 l=0:=by simpa using g2
 refine goW ?_
 refine zAo (by repeat' constructor) (hO h1) ?_
 refine goW ?_
 exact zAA (by simp) ⟨zAv rfl trivial (.inl (by rw [zT1,hb,if_pos h2];rfl)),zAv rfl trivial (.inl (by rw [hb,h2])),rfl⟩
theorem yFB (d:List Nd) (l:List Pt) (n:Int):Contract Tryz.prog zKT [.val (zCv d),.val (zBC l),.val (iv n)] {res:=.tup [zT1 d (zRX d l),iv (zMO d l n)]}:=by
 have hB:=zM3 d l
 have hm:=zU1 d l n
 obtain ⟨R,hR⟩:∃ R,R=zT1 d (zRX d l):=⟨_,rfl⟩
 rw [←hR] at hB ⊢
 obtain ⟨b,hb⟩:∃ b,b=zRX d l:=⟨_,rfl⟩
 rw [←hb] at hB hm
 unfold zCv at hB ⊢
 unfold zBC at hB ⊢
 refine mkA yCc (base:=0) (fo rfl) (fun hfit=>?_)
 unfold F0 zUH
 refine goU ?_
 refine zAR (by repeat' constructor) (hB) ?_
 refine goW ?_
 by_cases h0:b=0
 ·have g0:(b==0)=true:=by simp [h0]
  rw [if_neg (by simpa using h0)] at hm
  by_cases h1:n < 0
  ·have g1:(decide (n < 0))=true:=by simp [h1]
   rw [if_neg (by omega)] at hm
   try simp (maxSteps:=2000000) only [go_sem,g0,g1]
   repeat with_reducible refine zAP ?_
   refine zAa (by rfl) trivial (fun g2=>?_) (fun g2=>?_)
   ·refine goW ?_
    exact zAA (by simp) ⟨zAv rfl trivial (.inl rfl),zAv rfl trivial (.inl (by rw [hm])),rfl⟩
   ·simp at g2
  ·have g1:(decide (n < 0))=false:=by simp;omega
   try simp (maxSteps:=2000000) only [go_sem,g0,g1]
   repeat with_reducible refine zAP ?_
   refine zAa (by rfl) trivial (fun g2=>?_) (fun g2=>?_)
   ·refine goW ?_
    have h2:(d.length:Int)≤n:=by simpa using g2
    rw [if_neg (by omega)] at hm
    exact zAA (by simp) ⟨zAv rfl trivial (.inl rfl),zAv rfl trivial (.inl (by rw [hm])),rfl⟩
   ·refine goW ?_
    have h2:¬ (d.length:Int)≤n:=by simpa using g2
    rw [if_pos (by omega)] at hm
    exact zAA (by simp) ⟨zAv rfl trivial (.inl rfl),zAv rfl trivial (.inl (by rw [hm,h0])),rfl⟩
 ·have g0:(b==0)=false:=by simp [h0]
  rw [if_pos h0] at hm
  try simp (maxSteps:=2000000) only [go_sem,g0]
  repeat with_reducible refine zAP ?_
  refine zAa (by rfl) trivial (fun g2=>?_) (fun g2=>?_)
  ·simp at g2
  ·refine goW ?_
   exact zAA (by simp) ⟨zAv rfl trivial (.inl rfl),zAv rfl trivial (.inl (by rw [hm])),rfl⟩
theorem yPb {d:List Nd} {l:List Pt} {n:Int} (h:zMO d l n=0):zAd d=0∧zB8 l=0∧zRX d l=0∧∃ k:Nat,n=k∧k < d.length:=by
 rw [zU1] at h
 split at h
 ·rename_i h1;exact absurd h h1
 ·rename_i h1
  have h1:zRX d l=0:=by simpa using h1
  split at h
  ·rename_i h2;exact ⟨(yCL h1).1,(yCL h1).2,h1,n.toNat,by omega,by omega⟩
  ·cases h
theorem zRY (hM:zO6) (d:List Nd) (l:List Pt) (n:Int):Contract Tryz.prog zEh [.val (zCv d),.val (zBC l),.val (iv n)] {res:=.tup [bv (decide (zMO d l n=0)&&lM d l n.toNat),iv (zMO d l n)]}:=by
 have hB:=yFB d l n
 have hL:=fun hd hl=>zOA hM d hd l hl n.toNat
 obtain ⟨R,hR⟩:∃ R,R=zT1 d (zRX d l):=⟨_,rfl⟩
 rw [←hR] at hB
 obtain ⟨e,he⟩:∃ e,e=zMO d l n:=⟨_,rfl⟩
 rw [←he] at hB ⊢
 unfold zCv at hB ⊢
 unfold zBC at hB hL ⊢
 refine mkA zOO (base:=0) (fo rfl) (fun hfit=>?_)
 unfold F0 zI4
 refine goU ?_
 refine zAR (by repeat' constructor) (hB) ?_
 refine goW ?_
 by_cases h0:e=0
 ·obtain ⟨a1,a2,a3,k,rfl,hk⟩:=yPb (he.symm.trans h0)
  rw [Int.toNat_natCast] at hL ⊢
  rw [zT1,if_pos a3] at hR
  have hc:=hL a1 a2 hk
  subst hR
  have g0:(e==0)=true:=by simp [h0]
  try simp (maxSteps:=2000000) only [go_sem,g0]
  repeat with_reducible refine zAP ?_
  apply zAr (h2:=fun _=>hc)
  ·(simp (maxSteps:=2000000) only [go_sem];rfl)
  ·intro h;repeat' (first|exact trivial|exact h|refine And.intro ?_ ?_)
  refine goW ?_
  exact zAA (by simp) ⟨zAv rfl trivial (.inl (by rw [h0];rfl)),zAv rfl trivial (.inl rfl),rfl⟩
 ·have g0:(e==0)=false:=by simp [h0]
  try simp (maxSteps:=2000000) only [go_sem,g0]
  repeat with_reducible refine zAP ?_
  apply zAr (T:=false) (x:=bv false) (h1:=fun h=>by cases h) (h2:=fun h=>by cases h)
  ·simp (maxSteps:=2000000) only [go_sem]
   all_goals rfl
  refine goW ?_
  exact zAA (by simp) ⟨zAv rfl trivial (.inl (by rw [decide_eq_false h0];rfl)),zAv rfl trivial (.inl rfl),rfl⟩
end Go.Hx
end

section
set_option maxRecDepth 100000
set_option linter.unusedSimpArgs false
set_option maxHeartbeats 4000000
namespace Go.Hx
open Go.Proofs
variable [Glob] [GlobL]
attribute [local go_sem] zAk zAi zAj zAe ndV zAg zAf zBC zA2 zBy zBx zBs List.take_nil
attribute [local go_sem] reduceCtorEq Nat.reduceAdd Nat.reduceEqDiff reduceIte Nat.reduceLeDiff Nat.reduceLT Nat.reduceSub
theorem yCM (hM:zO6) (d:List Nd) (l:List Pt):Contract Tryz.prog zIA [.val (zCv d),.val (zBC l)] {res:=.tup [.one (.sl 1 (zAH (if zRX d l=0 then yLT d l else []))),iv (zRX d l)]}:=by
 have hB:=zM3 d l
 have hL:=fun hd hl n hn=>zOA hM d hd l hl n hn
 obtain ⟨R,hR⟩:∃ R,R=zT1 d (zRX d l):=⟨_,rfl⟩
 rw [←hR] at hB
 obtain ⟨e,he⟩:∃ e,e=zRX d l:=⟨_,rfl⟩
 rw [←he] at hB ⊢
 unfold zCv at hB ⊢
 unfold zBC at hB hL ⊢
 refine mkA zZ3 (base:=0) (fo rfl) (fun hfit=>?_)
 unfold F0 zQ9
 refine goU ?_
 refine zAR (by repeat' constructor) (hB) ?_
 refine goW ?_
 refine zAa (by rfl) trivial (fun g1=>?_) (fun g1=>?_)
 ·have h0:e≠0:=by simpa using g1
  refine goW ?_
  exact zAA (by simp) ⟨zAv rfl trivial (.inr (by rw [if_neg h0];rfl)),zAv rfl trivial (.inl rfl),rfl⟩
 have h0:e=0:=by simpa using g1
 obtain ⟨a1,a2⟩:=yCL (he.symm.trans h0)
 obtain ⟨d1,d2,d3⟩:=yND a1
 rw [zT1,if_pos (he.symm.trans h0)] at hR
 subst hR
 have hL:=hL a1 a2
 refine goW ?_
 refine zAn (fun i:Nat=>[(22,.pv (iv i)),(8,.own zAs 1 (zAH (zXR d l i))),(9,.un),(23,.un),(28,.un)]) (fun i:Nat=>d.length-i) (fun i:Nat=>i≤d.length) (0) ?_ (Nat.zero_le _) ?_
 focus (exact leA)
 intro i hi
 have hal:=yAi (d:=d) (l:=l) i
 refine goW ?_
 refine zAa (by rfl) trivial (fun g1=>?_) (fun g1=>?_)
 ·have hil:i < d.length:=by simpa using g1
  have hs:=zUT (d:=d) (l:=l) (k:=i)
  have hc:=hL i hil
  refine goW ?_
  refine zAo (by repeat' constructor) (hc) ?_
  refine goW ?_
  refine zAa (by rfl) trivial (fun g2=>?_) (fun g2=>?_)
  ·refine goW ?_
   refine ⟨i+1,by omega,by omega,?_⟩
   simp (maxSteps:=2000000) only [go_sem,zAS,zBu,zCR,zAT]
   all_goals (repeat' (first|exact trivial|exact zBa (by omega)|exact zAX rfl|exact zBb rfl|exact zBB|exact le_refl _|refine And.intro ?_ ?_))
   refine zQp ?_
   rw [hs,g2,if_pos rfl]
   simp [zAH]
  ·refine goW ?_
   refine ⟨i+1,by omega,by omega,?_⟩
   simp (maxSteps:=2000000) only [go_sem,zAS,zBu,zCR,zAT]
   all_goals (repeat' (first|exact trivial|exact zBa (by omega)|exact zAX rfl|exact zBb rfl|exact zBB|exact le_refl _|refine And.intro ?_ ?_))
   refine zQp ?_
   rw [hs,g2]
   simp
 ·refine goW ?_
  have hil:i=d.length:=by simp at g1;omega
  exact zAA (by simp) ⟨zAv rfl trivial (.inl (by rw [if_pos h0,hil];rfl)),zAv rfl trivial (.inl (by rw [h0])),rfl⟩
end Go.Hx
end

section
set_option maxRecDepth 100000
set_option linter.unusedSimpArgs false
namespace Go.Hx
open Go.Proofs
variable [Glob]
attribute [local go_sem] zAk zAi zAj zAe ndV zAg zCv zBC
def smallD:List Nd:=[
 {up:=-1,tag:=[108,105,115,116],id:=[116,111,112],cls:=[],att:=[]},
 {up:=0,tag:=[105,116,101,109],id:=[],cls:=[[97]],att:=[]},
 {up:=0,tag:=[105,116,101,109],id:=[],cls:=[[98]],att:=[]},
 {up:=2,tag:=[108,105,110,107],id:=[],cls:=[],att:=[([116,111],[111,110,101,32,116,119,111])]},
 {up:=0,tag:=[105,116,101,109],id:=[],cls:=[[97]],att:=[]}]
theorem yDp:Contract Tryz.prog zIc [] {res:=.val (zCv smallD)}:=by
 refine mkA zZd (base:=0) (fo rfl) (fun hfit=>?_)
 unfold F0 zQ3
 refine goU ?_
 exact zQq rfl rfl rfl
end Go.Hx
end
