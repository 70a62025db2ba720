/-
  Walks of functions of the program over an abstract layer, and the laws that they use: each contract says what the function computes, for every input that its conditions let by. No other condition.
-/
import Derived.Test.YtjnagiaooecklabGreatDoorG14
import Derived.Shelf.Strings.Builder2
set_option linter.all false
section
set_option maxRecDepth 100000
set_option linter.unusedSimpArgs false
set_option linter.unusedVariables false
namespace Go.Hx
open Go.Proofs Go.Shelf Go.RowKit
attribute [local instance] zBi
attribute [local go_sem] zAC zAz zAB zAw ndV zAx
theorem yFE {b c:Nat} {A:Option Addr} {p:Value} {w:World} {cs:Array Value} (hbk:w.heap[b]? = some (.cells #[p,.slice A 0 c] 258 (0,0))) (hm:cs.size≤maxLen) :
  BAt 258 5 b p (.slice (some ⟨w.heap.size,0,none⟩) 0 cs.size) [] ((w.alloc (.cells cs 5)).setCell ⟨b,1,none⟩ (.slice (some ⟨w.heap.size,0,none⟩) 0 cs.size)).drew.drew.drew ∧
   Pres (fun x=>x=b) w ((w.alloc (.cells cs 5)).setCell ⟨b,1,none⟩ (.slice (some ⟨w.heap.size,0,none⟩) 0 cs.size)).drew.drew.drew:=by
 have hlt:b<w.heap.size:=(Array.getElem?_eq_some_iff.1 hbk).1
 have hb2:(w.alloc (.cells cs 5)).heap[b]? = some (.cells #[p,.slice A 0 c] 258 (0,0)):=(Lib.alloc_old w _ b hlt).trans hbk
 have hne:∀ g,(Value.slice (some ⟨w.heap.size,0,none⟩) 0 cs.size).ownBlock=some g→g≠b:=by
  intro g hg e
  simp only [Value.ownBlock,Option.some.injEq] at hg
  omega
 have hown:(w.alloc (.cells cs 5)).ownsRow 0 5 1 (.slice (some ⟨w.heap.size,0,none⟩) 0 cs.size) ([]:List Value).length []:=
  ⟨rfl,.inr ⟨w.heap.size,cs.size,cs,rfl,Nat.zero_le _,heap_alloc_new w _,Nat.zero_le _,hm,by simp,by simp⟩⟩
 have h1:BAt 258 5 b p (.slice (some ⟨w.heap.size,0,none⟩) 0 cs.size) [] ((w.alloc (.cells cs 5)).setCell ⟨b,1,none⟩ (.slice (some ⟨w.heap.size,0,none⟩) 0 cs.size)):=⟨yDN hb2 1 _,yAd (T:=0) hown (fun e=>hne b e rfl),fun e=>hne b e rfl⟩
 have h2:Pres (fun x=>x=b) w ((w.alloc (.cells cs 5)).setCell ⟨b,1,none⟩ (.slice (some ⟨w.heap.size,0,none⟩) 0 cs.size)):=by
  refine ⟨rfl,rfl,rfl,by simp [World.setCell],fun k hk hkb=>?_⟩
  rw [Below.heap_setCell _ _ _ _ (fun e=>hkb e)]
  exact Lib.alloc_old w _ k hk
 exact ⟨⟨h1.1,h1.2.1,h1.2.2⟩,⟨h2.os,h2.tape,h2.output,h2.size,h2.block⟩⟩
set_option maxHeartbeats 2000000 in
set_option maxRecDepth 1000000 in
theorem yHP (b n c:Nat) (A:Option Addr) (w:World) (hbk:w.heap[b]? = some (.cells #[.pointer (some ⟨b,0,none⟩),.slice A 0 c] 258 (0,0))) (hn:n≤70368744177664) (hc:c<n) :
  Calls Tryz.prog 248 #[.pointer (some ⟨b,0,none⟩),.int .i64 n] w fun e w'=>e = .returned (.tuple #[])∧∃ v',BAt 258 5 b (.pointer (some ⟨b,0,none⟩)) v' [] w'∧Pres (fun x=>x=b) w w'∧∀ g,v'.ownBlock=some g→w.heap.size≤g:=by
 obtain ⟨cs,hrun,hle,hmax⟩:=Lib.run_makeNoZero (P:=Tryz.prog) w.drew #[3] 256 5 Tryz.underlying256 (2 * c+n) yO
 have hw:IntKind.i64.wrap (IntKind.i64.wrap (2 * (c:Int))+(n:Int))=((2 * c+n:Nat):Int):=by
  rw [IntKind.wrap_i64,IntKind.wrap_i64]
  omega
 have hcall:(callFunc 272 #[.int .i64 (IntKind.i64.wrap (IntKind.i64.wrap (2 * (c:Int))+(n:Int)))]).run Tryz.prog w.drew = .ok (.value (.slice (some ⟨w.drew.heap.size,0,none⟩) (2 * c+n) cs.size)) (w.drew.drew.drew.alloc (.cells cs 5)):=by
  rw [hw,run_callFunc_extern Tryz.func272 (by kernel_rfl) (by kernel_rfl) (by kernel_rfl) (e:=Extern.BytealgMakeNoZero.makeNoZero #[3] #[256]) (by kernel_rfl),hrun]
  rfl
 have hlt:b<w.heap.size:=(Array.getElem?_eq_some_iff.1 hbk).1
 have c1:w.drew.cell? ⟨b,1,none⟩=some (.slice A 0 c):=by
  have:w.drew.heap[b]? = _:=hbk
  rw [Lib.cell_of_heap this]; rfl
 have c2:(w.alloc (.cells cs 5)).cell? ⟨b,1,none⟩=some (.slice A 0 c):=by
  have:(w.alloc (.cells cs 5)).heap[b]? = _:=(Lib.alloc_old w _ b hlt).trans hbk
  rw [Lib.cell_of_heap this]; rfl
 have f2:(w.alloc (.cells cs 5)).frozen? ⟨b,1,none⟩=false:=Lib.frozen_of_heap ((Lib.alloc_old w _ b hlt).trans hbk) 1
 have hcopy:∀ W:World,(Builtin.copy_ #[256,256] 3 #[.slice (some ⟨w.heap.size,0,none⟩) 0 cs.size,.slice A 0 c]).run Tryz.prog W = .ok (goInt 0) W:=
  fun W=>run_copy_none W 256 256 3 5 _ _ 0 cs.size 0 c Tryz.underlying256 (by kernel_rfl) rfl
 clear hw
 have mixed:Tryz.prog.follows .mixedOrders=true:=by kernel_rfl
 go_enter Tryz.func248,Tryz.ntmps248
 go_wp2
 have hfin:=yFE (cs:=cs) hbk (hmax (by unfold maxLen; omega))
 rw [World.setCell_alloc_past _ _ _ _ hlt] at hfin
 go_region_o
 all_goals (go_wp2; go_end0; refine ⟨rfl,.slice (some ⟨w.heap.size,0,none⟩) 0 cs.size,hfin.1,hfin.2,fun g hg=>?_⟩; simp only [Value.ownBlock,Option.some.injEq] at hg; omega)
end Go.Hx
end

section
set_option maxRecDepth 100000
set_option linter.unusedSimpArgs false
set_option linter.unusedVariables false
namespace Go.Hx
open Go.Proofs Go.Shelf Go.RowKit
attribute [local instance] zBi
set_option maxHeartbeats 2000000 in
set_option maxRecDepth 1000000 in
attribute [local go_sem] zAC zAz zAB zAw ndV zAx
theorem yHQ (b n c:Nat) (A:Option Addr) (p:Value) (w:World) (hp:p = .pointer none∨p = .pointer (some ⟨b,0,none⟩)) (hbk:w.heap[b]? = some (.cells #[p,.slice A 0 c] 258 (0,0))) (hn:n≤70368744177664) (hcm:c≤maxLen) (hown:w.ownsRow 0 5 1 (.slice A 0 c) 0 []) (hne:(Value.slice A 0 c).ownBlock≠some b) :
  Calls Tryz.prog 210 #[.pointer (some ⟨b,0,none⟩),.int .i64 n] w fun e w'=>e = .returned (.tuple #[])∧∃ v',BAt 258 5 b (.pointer (some ⟨b,0,none⟩)) v' [] w'∧Pres (fun x=>x=b) w w'∧∀ g,v'.ownBlock=some g→(Value.slice A 0 c).ownBlock=some g∨w.heap.size≤g:=by
 have hB:BAt 258 5 b p (.slice A 0 c) [] w:=⟨hbk,hown,hne⟩
 have mixed:Tryz.prog.follows .mixedOrders=true:=by kernel_rfl
 have hm0:maxLen=9223372036854775807:=rfl
 have hw64:wrap64 (c:Int)=(c:Int):=by
  have:=IntKind.wrap_i64 (c:Int)
  simp only [wrap64]
  omega
 by_cases hcn:c<n
 ·have hlt2:((c:Int)<(n:Int))=True:=by simp [hcn]
  go_enter Tryz.func210,Tryz.ntmps210
  go_wp2_with (go_at_call 247; refine (zVv hB hp).mono ?_)
  rintro e w1 ⟨rfl,hB1,hP1⟩
  have hbk1:=hB1.1
  have c1:w1.cell? ⟨b,1,none⟩=some (.slice A 0 c):=by rw [Lib.cell_of_heap hbk1]; rfl
  have c1':w1.drew.cell? ⟨b,1,none⟩=some (.slice A 0 c):=c1
  go_wp2
  go_region_o
  all_goals (rename_i K' hK; change K' _ _; refine hK _ _ ?_)
  all_goals go_wp2_with (go_at_call 248; refine (yHP b n c A w1.drew hbk1 hn hcn).mono ?_; rintro e w' ⟨rfl,v',h1,h2,h3⟩)
  all_goals (go_end0; exact ⟨rfl,v',h1,⟨h2.os.trans hP1.os,h2.tape.trans hP1.tape,h2.output.trans hP1.output,Nat.le_trans hP1.size h2.size,fun k hk hkb=>(h2.block k (Nat.lt_of_lt_of_le hk hP1.size) hkb).trans (hP1.block k hk hkb)⟩,fun g hg=>.inr (Nat.le_trans hP1.size (h3 g hg))⟩)
 ·have hlt2:((c:Int)<(n:Int))=False:=by simp [hcn]
  go_enter Tryz.func210,Tryz.ntmps210
  go_wp2_with (go_at_call 247; refine (zVv hB hp).mono ?_)
  rintro e w1 ⟨rfl,hB1,hP1⟩
  have hbk1:=hB1.1
  have c1:w1.cell? ⟨b,1,none⟩=some (.slice A 0 c):=by rw [Lib.cell_of_heap hbk1]; rfl
  have c1':w1.drew.cell? ⟨b,1,none⟩=some (.slice A 0 c):=c1
  go_wp2
  go_region_o
  all_goals (rename_i K' hK; change K' _ _; refine hK _ _ ?_)
  all_goals go_wp2
  all_goals (go_end0; exact ⟨rfl,.slice A 0 c,⟨hB1.1,hB1.2.1,hB1.2.2⟩,⟨hP1.os,hP1.tape,hP1.output,hP1.size,hP1.block⟩,fun g hg=>.inl hg⟩)
theorem yJE (b n:Nat) (hn:n≤70368744177664):zE9 Tryz.prog zDr (.bl zBa zFV b []) [.val (iv n)] (.bl zBa zFV b []) none:=by
 refine ⟨by kernel_rfl,fun m w u fp us hm hr hnd hf hg ha=>?_⟩
 obtain ⟨p,v,rfl,hB,hp,rfl⟩:=yHO hr hnd
 obtain ⟨u1,us1,rfl,⟨rfl,_⟩,rfl⟩:=ha
 obtain ⟨A,c,rfl,hcm⟩:∃ A c,v = .slice A 0 c∧c≤maxLen:=by
  rcases hB.2.1.2 with ⟨hv,_⟩ | ⟨g,cap,cur,hv,_,_,_,hc,_⟩
  ·exact ⟨none,0,hv,Nat.zero_le _⟩
  ·exact ⟨_,cap,hv,hc⟩
 refine (yHQ b n c A p w hp hB.1 hn hcm hB.2.1 hB.2.2).mono ?_
 rintro e w' ⟨rfl,v',hB',hP,hnew⟩
 refine yDU hm (fun g hg=>(hf g hg).2) rfl hB' (hP.mono fun x _ hx=>.inl hx) hnew
end Go.Hx
end
