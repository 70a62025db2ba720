/-
  Walks of functions of the program: each contract says what the function computes, for every input that its conditions let by. No other condition.
-/
import Derived.Test.YtjnagiaooecklaaDoorG14
import Derived.Test.YtjnagiaooecklaaDoorG15
import Derived.Tactics2
import Derived.Laws.Pointers
set_option linter.all false
-- DOM getO
set_option maxRecDepth 100000
set_option linter.unusedSimpArgs false
namespace Go.Hx
open Go.Proofs Go.RowKit
variable [Glob]

attribute [local go_sem] ndsV_len clsV_len attV_len intsR_len ndV cellsEq getO
theorem one_cell {vs : Array Value} (h : vs.size = 1) : ∃ x, vs = #[x] := by
  refine ⟨vs[0], ?_⟩
  apply Array.ext
  · simp [h]
  · intro i h1 h2
    simp at h2
    subst h2
    simp
set_option maxHeartbeats 1000000 in
theorem read_pan : DPan Tryd.prog 99 bkV [[.nl 5], [bI 1]] := by
  intro m w bs hm hg hl hn hb hc
  match bs, hl with
  | [b1, b2], _ =>
    obtain ⟨vs1, T1, e1, s1⟩ := hc 0 b1 _ rfl rfl
    obtain ⟨vs2, T2, e2, s2⟩ := hc 1 b2 _ rfl rfl
    obtain ⟨x1, rfl⟩ := one_cell s1
    obtain ⟨x2, rfl⟩ := one_cell s2
    have hne : b1 ≠ b2 := by simpa using hn
    have c1 : w.cell? ⟨b1, 0, none⟩ = some x1 := by simp [World.cell?, e1]
    have c2 : w.cell? ⟨b2, 0, none⟩ = some x2 := by simp [World.cell?, e2]
    have z1 : w.frozen? ⟨b1, 0, none⟩ = false := by simp [World.frozen?, e1]
    have z2 : w.frozen? ⟨b2, 0, none⟩ = false := by simp [World.frozen?, e2]
    refine callsD_of_wpS Tryd.func99 rfl fun c₀ cs hu => ?_
    apply wpS_seq
    apply wpS_region
    simp [wpOpsS, go_sem, recoverD, hu, Tryd.ntmps99, Exit.thenS, ptrsOf]
    refine wpS_cond (t := true) (by simp [Act.eval, Array.replicate]) ?_
    simp only [if_true]
    apply wpS_region
    simp [wpOpsS, go_sem, c1, c2, z1, z2, hne, hne.symm, bodyPostS, results, Tryd.results99]
    have f1 : ((w.setCell ⟨b1, 0, none⟩ (.slice none 0 0)).setCell ⟨b2, 0, none⟩ (.int .i64 1)).heap[b1]? = some (.cells #[.slice none 0 0] T1 (0, 0)) := by
      simp [World.setCell, Array.getElem?_modify, e1, hne.symm]
    have f2 : ((w.setCell ⟨b1, 0, none⟩ (.slice none 0 0)).setCell ⟨b2, 0, none⟩ (.int .i64 1)).heap[b2]? = some (.cells #[.int .i64 1] T2 (0, 0)) := by
      simp [World.setCell, Array.getElem?_modify, e2, hne]
    refine ⟨⟨rfl, rfl, rfl, by simp [World.setCell], fun k _ hk => ?_⟩, fun k b cs hbk hck => ?_⟩
    · rw [Below.heap_setCell _ _ _ _ (fun e => hk (.inr e)), Below.heap_setCell _ _ _ _ (fun e => hk (.inl e))]
    · match k, hbk, hck with
      | 0, hbk, hck =>
        simp only [List.getElem?_cons_zero, Option.some.injEq] at hbk hck
        subst hbk; subst hck
        exact ⟨_, ⟨_, f1⟩, by simp [RpL, Rp]⟩
      | 1, hbk, hck =>
        simp only [List.getElem?_cons_succ, List.getElem?_cons_zero, Option.some.injEq] at hbk hck
        subst hbk; subst hck
        exact ⟨_, ⟨_, f2⟩, by simp [RpL, Rp, flat]⟩
      | k + 2, hbk, _ => simp at hbk

set_option maxHeartbeats 1000000 in
theorem read_ret : DRet Tryd.prog 99 2 := by
  intro w bs hl hg
  match bs, hl with
  | [b1, b2], _ =>
    refine callsD_of_wpS Tryd.func99 rfl fun c₀ cs hu => ?_
    apply wpS_seq
    apply wpS_region
    simp [wpOpsS, go_sem, recoverD, hu, Tryd.ntmps99, Exit.thenS, ptrsOf]
    refine wpS_cond (t := false) (by simp [Act.eval, Array.replicate]) ?_
    simp only [Bool.false_eq_true, if_false]
    refine wpS_of_wp (wp_skip ?_)
    cases c₀
    simp_all [bodyPostS, results, Tryd.results99]
    exact Pres.refl _ _
end Go.Hx
