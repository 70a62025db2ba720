/-
  slices.Grow at nil: what comes may be appended to. No condition.
-/
import Derived.Test.YtjnagiaooecklaaDoorProg
import Derived.Test.YtjnagiaooecklaaDoorG8
import Derived.WalkKit
import Derived.RegionTactic
import Derived.Deep.Draws
import Derived.Laws.MakeOwn
import Derived.Laws.AppendOwn
set_option linter.all false
set_option maxRecDepth 100000
namespace Go.Proofs
open Go.RowKit Go.Hx
variable [Glob]
theorem nextcap_small {n : Nat} (h : n ≤ 1000) (h2 : n ≠ 0) : Builtin.nextslicecap n 0 = n := by
  unfold Builtin.nextslicecap; rw [if_pos (by omega)]
theorem grow_walk (n : Nat) (hn : 1 ≤ n) (h2 : n ≤ 1000) (w : World) : Calls Tryd.prog 119 #[.slice none 0 0, .int .i64 n] w fun e w' =>
    ∃ cs : Array Value, e = .returned (.slice (some ⟨w.heap.size, 0, none⟩) 0 (grownCap w n 0 47)) ∧ cs.size = grownCap w n 0 47 * 5 ∧ (w' = (w.alloc (.cells cs 47)).drew) := by
  have hc := nextcap_small h2 (by omega)
  have hb : Tryd.t47.bytes = 88 := rfl
  go_enter Tryd.func119, Tryd.ntmps119
  go_wp2
  all_goals first
    | (exfalso; rw [hc, hb] at *; omega)
    | (exfalso; omega)
    | skip
  go_ret
  have hge := grownCap_ge w n 0 47
  refine ⟨rfl, _, ?_, rfl⟩
  simp only [Array.size_append, size_zeroCells]
  have : grownCap w n 0 47 = (Question.appendCap n 0 47).cut (w.tape w.drawn (Question.appendCap n 0 47)) := rfl
  rw [← this]
  simp
  omega
theorem grow_walk0 (w : World) : Calls Tryd.prog 119 #[.slice none 0 0, .int .i64 0] w fun e w' => e = .returned (.slice none 0 0) ∧ w' = w := by
  go_enter Tryd.func119, Tryd.ntmps119
  go_wp2
  all_goals first
    | (exfalso; omega)
    | skip
  go_ret
  exact ⟨rfl, rfl⟩
theorem mem_fresh {m : Mem} {w : World} (h : MemOk m w) (o : Nat) : m w.heap.size o = none := by
  cases e : m w.heap.size o with
  | none => rfl
  | some u =>
    have := h _ _ _ e
    exact absurd (World.block_lt_of_cell? w _ this) (Nat.lt_irrefl _)
theorem memOk_drew {m : Mem} {w : World} (h : MemOk m w) : MemOk m w.drew := h
theorem memOk_alloc {m : Mem} {w : World} (h : MemOk m w) (o : Obj) : MemOk m (w.alloc o) := fun b i u hu => by
  have h1 := h b i u hu
  have h2 : b < w.heap.size := World.block_lt_of_cell? w _ h1
  rw [← h1]
  exact World.cell?_of_block (heap_alloc_old w o h2)
theorem pres_alloc_drew {R : Nat → Prop} (w : World) (o : Obj) : Pres R w (w.alloc o).drew where
  os := rfl
  tape := rfl
  output := rfl
  size := by show w.heap.size ≤ (w.heap.push o).size; rw [Array.size_push]; omega
  block := fun b hb _ => heap_alloc_old w o hb
theorem c_slices_Grow_Node (n : Nat) (hn : n ≤ 1000) : Contract Tryd.prog 119 [.val (.one (.nl 5)), .val (iv n)] { res := .own 47 5 [] } := by
  refine ⟨by kernel_rfl, fun m w us hm hargs _ hG _ => ?_⟩
  obtain ⟨u1, us1, rfl, h1, u2, us2, rfl, h2, rfl⟩ := hargs
  obtain rfl : u1 = .slice none 0 0 := h1
  obtain rfl : u2 = .int .i64 n := h2.1
  by_cases h0 : n = 0
  · subst h0
    refine (grow_walk0 w).mono fun e w' ⟨he, hw⟩ => ?_
    subst hw
    exact ⟨m, m.le_refl, hm, Pres.refl _ _, fun b o u h => .inl h, (fun b h => by cases h), _, he, OwnAt.nil m w' 47 5, (fun g hg => by cases hg)⟩
  · refine (grow_walk n (by omega) hn w).mono fun e w' ⟨cs, he, hs, hw⟩ => ?_
    subst hw
    refine ⟨m, m.le_refl, memOk_drew (memOk_alloc hm _), pres_alloc_drew _ _, fun b o u h => .inl h, (fun b h => by cases h), _, he, ⟨⟨[], ?_⟩, fun g hg => ?_⟩, fun g hg => ?_⟩
    · exact World.ownsRow_made w cs (grownCap w n 0 47) (Nat.zero_le _) (grownCap_le_maxLen w n 0 47 (by simp [maxLen]; omega)) hs
    · obtain rfl : w.heap.size = g := by simpa [Value.ownBlock] using hg
      exact ⟨trivial, fun o _ => mem_fresh hm o⟩
    · obtain rfl : w.heap.size = g := by simpa [Value.ownBlock] using hg
      exact .inl (Nat.le_refl _)
end Go.Proofs
