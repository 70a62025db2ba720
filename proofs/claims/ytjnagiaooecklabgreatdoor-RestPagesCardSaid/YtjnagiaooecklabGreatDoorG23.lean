/-
 slices.Grow at nil: what comes may be appended to. No condition.
-/
import Derived.Test.YtjnagiaooecklabGreatDoorProg
import Derived.Test.YtjnagiaooecklabGreatDoorG11
import Derived.WalkKit
import Derived.RegionTactic
import Derived.Deep.Draws
import Derived.Laws.MakeOwn
import Derived.Laws.AppendOwn
set_option linter.all false
set_option maxRecDepth 100000
namespace Go.Proofs
open Go.RowKit Go.Hx
variable [Glob]
theorem yFq {n:Nat} (h:n≤1000) (h2:n≠0):Builtin.nextslicecap n 0=n:=by
 unfold Builtin.nextslicecap;rw [if_pos (by omega)]
theorem yP1 (n:Nat) (hn:1≤n) (h2:n≤1000) (w:World):Calls Tryz.prog 184 #[.slice none 0 0,.int .i64 n] w fun e w'=>
  ∃ cs:Array Value,e=.returned (.slice (some ⟨w.heap.size,0,none⟩) 0 (grownCap w n 0 53))∧cs.size=grownCap w n 0 53 * 5∧(w'=(w.alloc (.cells cs 53)).drew):=by
 have hc:=yFq h2 (by omega)
 have hb:Tryz.t53.bytes=88:=rfl
 go_enter Tryz.func184,Tryz.ntmps184
 go_wp2
 all_goals first
  |(exfalso;rw [hc,hb] at *;omega)
  |(exfalso;omega)
  |skip
 go_ret
 have hge:=grownCap_ge w n 0 53
 refine ⟨rfl,_,?_,rfl⟩
 simp only [Array.size_append,size_zeroCells]
 have:grownCap w n 0 53=(Question.appendCap n 0 53).cut (w.tape w.drawn (Question.appendCap n 0 53)):=rfl
 rw [←this]
 simp
 omega
theorem yOv (w:World):Calls Tryz.prog 184 #[.slice none 0 0,.int .i64 0] w fun e w'=>e=.returned (.slice none 0 0)∧w'=w:=by
 go_enter Tryz.func184,Tryz.ntmps184
 go_wp2
 all_goals first
  |(exfalso;omega)
  |skip
 go_ret
 exact ⟨rfl,rfl⟩
theorem yP2 {m:Mem} {w:World} (h:MemOk m w) (o:Nat):m w.heap.size o=none:=by
 cases e:m w.heap.size o with
 |none=>rfl
 |some u=>
  have:=h _ _ _ e
  exact absurd this.lt (Nat.lt_irrefl _)
theorem yOw {m:Mem} {w:World} (h:MemOk m w):MemOk m w.drew:=h
theorem yK3 {m:Mem} {w:World} (h:MemOk m w) (o:Obj):MemOk m (w.alloc o):=fun b i u hu=>by
 have h1:=h b i u hu
 exact h1.block (heap_alloc_old w o h1.lt)
theorem zW2 {R:Nat→Prop} (w:World) (o:Obj):Pres R w (w.alloc o).drew where
 os:=rfl
 tape:=rfl
 output:=rfl
 size:=by show w.heap.size≤(w.heap.push o).size;rw [Array.size_push];omega
 block:=fun b hb _=>heap_alloc_old w o hb
 drawn:=fun _=>Nat.le_succ _
theorem zNX (n:Nat) (hn:n≤1000):Contract Tryz.prog 184 [.val (.one (.nl 5)),.val (iv n)] {res:=.own 53 5 []}:=by
 refine ⟨by kernel_rfl,fun m w us hm hargs _ hG _=>?_⟩
 obtain ⟨u1,us1,rfl,h1,u2,us2,rfl,h2,rfl⟩:=hargs
 obtain rfl:u1=.slice none 0 0:=h1
 obtain rfl:u2=.int .i64 n:=h2.1
 by_cases h0:n=0
 ·subst h0
  refine (yOv w).mono fun e w' ⟨he,hw⟩=>?_
  subst hw
  exact ⟨m,m.le_refl,hm,Pres.refl _ _,fun b o u h=>.inl h,(fun b h=>by cases h),_,he,OwnAt.nil m w' 53 5,(fun g hg=>by cases hg)⟩
 ·refine (yP1 n (by omega) hn w).mono fun e w' ⟨cs,he,hs,hw⟩=>?_
  subst hw
  refine ⟨m,m.le_refl,yOw (yK3 hm _),zW2 _ _,fun b o u h=>.inl h,(fun b h=>by cases h),_,he,⟨⟨[],?_⟩,fun g hg=>?_⟩,fun g hg=>?_⟩
  ·exact World.ownsRow_made w cs (grownCap w n 0 53) (Nat.zero_le _) (grownCap_le_maxLen w n 0 53 (by simp [maxLen];omega)) hs
  ·obtain rfl:w.heap.size=g:=by simpa [Value.ownBlock] using hg
   exact ⟨trivial,fun o _=>yP2 hm o⟩
  ·obtain rfl:w.heap.size=g:=by simpa [Value.ownBlock] using hg
   exact .inl (Nat.le_refl _)
end Go.Proofs
