/-
 slices.Grow at nil: what comes may be appended to. No condition.
-/
import Derived.Test.YtjnagiaooecklaaGreatDoorProg
import Derived.Test.YtjnagiaooecklaaGreatDoorG10
import Derived.WalkKit
import Derived.RegionTactic
import Derived.Deep.Draws
import Derived.Laws.MakeOwn
import Derived.Laws.AppendOwn
set_option linter.all false
set_option maxRecDepth 100000
namespace Go.Proofs
open Go.RowKit Go.Hx
variable [Glob]
theorem zX9 {n:Nat} (h:n≤1000) (h2:n≠0):Builtin.nextslicecap n 0=n:=by
 unfold Builtin.nextslicecap;rw [if_pos (by omega)]
theorem yHt (n:Nat) (hn:1≤n) (h2:n≤1000) (w:World):Calls Tryz.prog 138 #[.slice none 0 0,.int .i64 n] w fun e w'=>
  ∃ cs:Array Value,e=.returned (.slice (some ⟨w.heap.size,0,none⟩) 0 (grownCap w n 0 28))∧cs.size=grownCap w n 0 28 * 5∧(w'=(w.alloc (.cells cs 28)).drew):=by
 have hc:=zX9 h2 (by omega)
 have hb:Tryz.t28.bytes=88:=rfl
 go_enter Tryz.func138,Tryz.ntmps138
 go_wp2
 all_goals first
  |(exfalso;rw [hc,hb] at *;omega)
  |(exfalso;omega)
  |skip
 go_ret
 have hge:=grownCap_ge w n 0 28
 refine ⟨rfl,_,?_,rfl⟩
 simp only [Array.size_append,size_zeroCells]
 have:grownCap w n 0 28=(Question.appendCap n 0 28).cut (w.tape w.drawn (Question.appendCap n 0 28)):=rfl
 rw [←this]
 simp
 omega
theorem yFG (w:World):Calls Tryz.prog 138 #[.slice none 0 0,.int .i64 0] w fun e w'=>e=.returned (.slice none 0 0)∧w'=w:=by
 go_enter Tryz.func138,Tryz.ntmps138
 go_wp2
 all_goals first
  |(exfalso;omega)
  |skip
 go_ret
 exact ⟨rfl,rfl⟩
theorem yHu {m:Mem} {w:World} (h:MemOk m w) (o:Nat):m w.heap.size o=none:=by
 cases e:m w.heap.size o with
 |none=>rfl
 |some u=>
  have:=h _ _ _ e
  exact absurd (World.block_lt_of_cell? w _ this) (Nat.lt_irrefl _)
theorem yFH {m:Mem} {w:World} (h:MemOk m w):MemOk m w.drew:=h
theorem yDk {m:Mem} {w:World} (h:MemOk m w) (o:Obj):MemOk m (w.alloc o):=fun b i u hu=>by
 have h1:=h b i u hu
 have h2:b < w.heap.size:=World.block_lt_of_cell? w _ h1
 rw [←h1]
 exact World.cell?_of_block (heap_alloc_old w o h2)
theorem zSt {R:Nat→Prop} (w:World) (o:Obj):Pres R w (w.alloc o).drew where
 os:=rfl
 tape:=rfl
 output:=rfl
 size:=by show w.heap.size≤(w.heap.push o).size;rw [Array.size_push];omega
 block:=fun b hb _=>heap_alloc_old w o hb
 drawn:=fun _=>Nat.le_succ _
theorem zM8 (n:Nat) (hn:n≤1000):Contract Tryz.prog 138 [.val (.one (.nl 5)),.val (iv n)] {res:=.own 28 5 []}:=by
 refine ⟨by kernel_rfl,fun m w us hm hargs _ hG _=>?_⟩
 obtain ⟨u1,us1,rfl,h1,u2,us2,rfl,h2,rfl⟩:=hargs
 obtain rfl:u1=.slice none 0 0:=h1
 obtain rfl:u2=.int .i64 n:=h2.1
 by_cases h0:n=0
 ·subst h0
  refine (yFG w).mono fun e w' ⟨he,hw⟩=>?_
  subst hw
  exact ⟨m,m.le_refl,hm,Pres.refl _ _,fun b o u h=>.inl h,(fun b h=>by cases h),_,he,OwnAt.nil m w' 28 5,(fun g hg=>by cases hg)⟩
 ·refine (yHt n (by omega) hn w).mono fun e w' ⟨cs,he,hs,hw⟩=>?_
  subst hw
  refine ⟨m,m.le_refl,yFH (yDk hm _),zSt _ _,fun b o u h=>.inl h,(fun b h=>by cases h),_,he,⟨⟨[],?_⟩,fun g hg=>?_⟩,fun g hg=>?_⟩
  ·exact World.ownsRow_made w cs (grownCap w n 0 28) (Nat.zero_le _) (grownCap_le_maxLen w n 0 28 (by simp [maxLen];omega)) hs
  ·obtain rfl:w.heap.size=g:=by simpa [Value.ownBlock] using hg
   exact ⟨trivial,fun o _=>yHu hm o⟩
  ·obtain rfl:w.heap.size=g:=by simpa [Value.ownBlock] using hg
   exact .inl (Nat.le_refl _)
end Go.Proofs
