/-
  Walks of functions of the program over an abstract layer, and the laws that they use: each contract says what the function computes, for every input that its conditions let by. No other condition.
-/
import Derived.Test.YtjnagiaooecklabGreatDoorG18
import Derived.Test.YtjnagiaooecklabGreatDoorG20
import Derived.Test.YtjnagiaooecklabGreatDoorG21
import Derived.Shelf.Strings.Split
import Derived.Shelf.Strings.Search3
import Derived.Test.YtjnagiaooecklabGreatDoorG13
set_option linter.all false
section
set_option maxRecDepth 100000
set_option linter.unusedSimpArgs false
set_option maxHeartbeats 2000000
namespace Go.Hx
open Go.Proofs
variable [Glob] [GlobL]
attribute [local go_sem] zAq zAo zAp zAg ndV zAl zAh zBo zA3 zBr zBq zBm
attribute [local go_sem] reduceCtorEq Nat.reduceAdd Nat.reduceEqDiff reduceIte Nat.reduceLeDiff Nat.reduceLT Nat.reduceSub
def zMl : Prop := ∀ w, Glob.ok w → ∃ m : Int, w.cell? ⟨0, 0, none⟩ = some (.int .i64 m)
theorem yI9 {s : Bys} (h : zD7 (mkS s) = true) : s.length ≤ 9223372036854775807 := by
 simp only [zD7, decide_eq_true_eq] at h
 have h2 : s.length ≤ maxLen := by simpa [ByteArray.size] using h
 exact h2
theorem yBp : ∀ (f : Nat) (s : Bys), s.length < f → Lib.countFrom [32] f s = s.count 32
 |0, s, h => by omega
 |f + 1, s, h => by
  rw [Lib.countFrom]
  by_cases hi : Lib.index s [32] = -1
  ·rw [if_pos (by simpa using hi)]
   have := zRw hi
   exact (List.count_eq_zero.2 fun hc => this 32 hc rfl).symm
  ·obtain ⟨i, hix⟩ : ∃ i : Nat, Lib.index s [32] = i := ⟨(Lib.index s [32]).toNat, by have := Lib.index_ge s [32]; omega⟩
   obtain ⟨h1, h2⟩ := zRx hix
   rw [if_neg (by simpa using hi), hix]
   simp only [Int.toNat_natCast, List.length_singleton]
   have h3 := congrArg List.length h2
   simp only [List.length_append, List.length_cons, List.length_take, List.length_drop] at h3
   rw [yBp f _ (by simp only [List.length_drop]; omega)]
   have h4 := congrArg (List.count 32) h2
   rw [List.count_append, List.count_cons_self] at h4
   have h5 : (s.take i).count 32 = 0 := List.count_eq_zero.2 fun hc => h1 32 hc rfl
   omega
theorem zWa : ∀ (s w : Bys), w ∈ zBn s → w.length ≤ s.length
 |[], w, h => by simp [zBn] at h; subst h; simp
 |c :: r, w, h => by
  obtain ⟨w', ws', h'⟩ := zLn r
  have ih := zWa r
  rw [zBn] at h
  by_cases hc : c = 32
  ·rw [if_pos hc, List.mem_cons] at h
   rcases h with rfl | h
   ·simp
   ·have := ih w h; simp; omega
  ·rw [if_neg hc, h', List.mem_cons] at h
   rcases h with rfl | h
   ·have := ih w' (by rw [h']; simp); simp; omega
   ·have := ih w (by rw [h']; simp [h]); simp; omega
theorem zYZ {m : Mem} : ∀ (bs : List ByteArray), (∀ b ∈ bs, b.data.toList.length ≤ 9223372036854775807) → RpL m (zPC (bs.map (·.data.toList))).flatten (bs.map Value.string)
 |[], _ => by simp [zPC, RpL]
 |b :: bs, h => by
  have ih := zYZ (m := m) bs fun x hx => h x (by simp [hx])
  have e : (zPC ((b :: bs).map (·.data.toList))).flatten = bS b.data.toList :: (zPC (bs.map (·.data.toList))).flatten := by simp [zPC]
  rw [e, List.map_cons]
  simp only [RpL]
  refine ⟨_, _, rfl, ⟨rfl, ?_⟩, ih⟩
  have := h b (by simp)
  simp only [zD7, decide_eq_true_eq]
  show b.data.toList.toArray.size ≤ maxLen
  simp only [maxLen, List.size_toArray]
  exact this
theorem mkB (s : Bys) : (ByteArray.mk s.toArray).data.toList = s := rfl
theorem zWb (s t : Bys) : Contract Tryz.prog zA4 [.val (sv s), .val (sv t)] { res := .val (bv (zBO s t 0)) } := by
 refine mkA zDc (base := 0) (fo rfl) (fun hfit => ?_)
 unfold F0 zBL
 simp (maxSteps := 2000000) only [zAH, List.set_cons_succ, List.set_cons_zero, List.map_cons, List.map_nil, zAG, zAa, ioOf, List.length_cons, List.length_nil, Nat.reduceAdd, Nat.reduceSub, List.replicate, List.cons_append, List.nil_append]
 try simp (maxSteps := 2000000) only [go_sem]
 repeat with_reducible refine zAb ?_
 by_cases h : t.length ≤ s.length
 ·have g : decide ((t.length : Int) ≤ (s.length : Int)) = true := by simpa using h
  try simp (maxSteps := 2000000) only [go_sem, g]
  repeat with_reducible refine zAb ?_
  refine zAe rfl trivial (.inl ?_)
  congr 3
  unfold zBO
  rw [Bool.eq_iff_iff]
  simp [h]
 ·have g : decide ((t.length : Int) ≤ (s.length : Int)) = false := by simpa using h
  try simp (maxSteps := 2000000) only [go_sem, g]
  repeat with_reducible refine zAb ?_
  refine zAe rfl trivial (.inl ?_)
  congr 3
  unfold zBO
  rw [Bool.eq_iff_iff]
  simp; omega
theorem zXW (s t : Bys) : Contract Tryz.prog zCx [.val (sv s), .val (sv t)] { res := .val (bv (zBO s t 0)) } := by
 refine mkA zIE (base := 0) (fo rfl) (fun hfit => ?_)
 unfold F0 zEr
 simp (maxSteps := 2000000) only [zAH, List.set_cons_succ, List.set_cons_zero, List.map_cons, List.map_nil, zAG, zAa, ioOf, List.length_cons, List.length_nil, Nat.reduceAdd, Nat.reduceSub, List.replicate, List.cons_append, List.nil_append]
 try simp (maxSteps := 2000000) only [go_sem]
 repeat with_reducible refine zAb ?_
 refine zAu (by repeat' constructor) (zWb s t) ?_
 try simp (maxSteps := 2000000) only [go_sem]
 repeat with_reducible refine zAb ?_
 exact zAe rfl trivial (.inl rfl)
theorem zWc (s t : Bys) : Contract Tryz.prog zA5 [.val (sv s), .val (sv t)] { res := .val (bv (zBO s t ((s.length : Int) - t.length))) } := by
 refine mkA zDf (base := 0) (fo rfl) (fun hfit => ?_)
 unfold F0 zBM
 simp (maxSteps := 2000000) only [zAH, List.set_cons_succ, List.set_cons_zero, List.map_cons, List.map_nil, zAG, zAa, ioOf, List.length_cons, List.length_nil, Nat.reduceAdd, Nat.reduceSub, List.replicate, List.cons_append, List.nil_append]
 try simp (maxSteps := 2000000) only [go_sem]
 repeat with_reducible refine zAb ?_
 have fs := yI9 hfit.1
 have ft := yI9 hfit.2.1
 by_cases h : t.length ≤ s.length
 ·have g : decide ((t.length : Int) ≤ (s.length : Int)) = true := by simpa using h
  try simp (maxSteps := 2000000) only [go_sem, g]
  repeat with_reducible refine zAb ?_
  refine zAe rfl trivial (.inl ?_)
  congr 3
  unfold zBO
  rw [Bool.eq_iff_iff]
  have e : (((s.length : Int) - t.length)).toNat = s.length - t.length := by omega
  have e2 : (s.drop (s.length - t.length)).take t.length = s.drop (s.length - t.length) := List.take_of_length_le (by simp; omega)
  rw [e, e2]
  simp; omega
 ·have g : decide ((t.length : Int) ≤ (s.length : Int)) = false := by simpa using h
  try simp (maxSteps := 2000000) only [go_sem, g]
  repeat with_reducible refine zAb ?_
  refine zAe rfl trivial (.inl ?_)
  congr 3
  unfold zBO
  rw [Bool.eq_iff_iff]
  simp; omega
theorem zXX (s t : Bys) : Contract Tryz.prog zCy [.val (sv s), .val (sv t)] { res := .val (bv (zBO s t ((s.length : Int) - t.length))) } := by
 refine mkA zIH (base := 0) (fo rfl) (fun hfit => ?_)
 unfold F0 zEs
 simp (maxSteps := 2000000) only [zAH, List.set_cons_succ, List.set_cons_zero, List.map_cons, List.map_nil, zAG, zAa, ioOf, List.length_cons, List.length_nil, Nat.reduceAdd, Nat.reduceSub, List.replicate, List.cons_append, List.nil_append]
 try simp (maxSteps := 2000000) only [go_sem]
 repeat with_reducible refine zAb ?_
 refine zAu (by repeat' constructor) (zWc s t) ?_
 try simp (maxSteps := 2000000) only [go_sem]
 repeat with_reducible refine zAb ?_
 exact zAe rfl trivial (.inl rfl)
theorem yHq {m : Mem} {w : World} {avs : List AV} {us : List Value} {e : Ending} {r : Res} (hm : MemOk m w) (hio : ioB avs us = none) (hr : zUj m w w (zG2 avs us) r e) : yC9 m w avs us { res := r } e w :=
 ⟨m, m.le_refl, hm, Pres.refl _ w, fun _ _ _ h => .inl h, (fun b hb => by rw [hio] at hb; cases hb), hr⟩
theorem yCY {s : Bys} : (ByteArray.mk s.toArray).size = s.length := by simp [ByteArray.size]
theorem zZY (hM : zMl) (s t : Bys) (hs : s.length < 4294967281) (ht : t ≠ []) : Contract Tryz.prog zCO [.val (sv s), .val (sv t)] { res := .val (bv ((List.range s.length).any fun i => zBO s t i)) } := by
 refine ⟨by kernel_rfl, fun m w us hm hargs _ hG _ => ?_⟩
 obtain ⟨u1, us1, rfl, h2, h3⟩ := hargs
 obtain ⟨u2, us2, rfl, h4, rfl⟩ := h3
 obtain ⟨rfl, f1⟩ := h2
 obtain ⟨rfl, f2⟩ := h4
 obtain ⟨mx, hmx⟩ := hM w hG
 have hT := Any.strings_Contains Tryz.lays144 ⟨s.toArray⟩ ⟨t.toArray⟩ mx w (by rw [yCY]; exact hs) hmx
 change Calls Tryz.prog zCO _ _ _ at hT
 refine hT.mono fun e w' ⟨he, hw⟩ => ?_
 subst hw
 refine yHq hm rfl ⟨_, he, ?_⟩
 rw [mkB, mkB, zV8 s t ht]
 exact ⟨rfl, rfl⟩
theorem yFd (hM : zMl) (s : Bys) (hs : s.length < 4294967281) : Contract Tryz.prog zDQ [.val (sv s), .val (sv [32])] { res := .val (.one (.sl 1 (zPC (zBn s)))) } := by
 refine ⟨by kernel_rfl, fun m w us hm hargs _ hG _ => ?_⟩
 obtain ⟨u1, us1, rfl, h2, h3⟩ := hargs
 obtain ⟨u2, us2, rfl, h4, rfl⟩ := h3
 obtain ⟨rfl, f1⟩ := h2
 obtain ⟨rfl, f2⟩ := h4
 obtain ⟨mx, hmx⟩ := hM w hG
 have hT := Any.strings_Split Tryz.lays146 (by kernel_rfl) ⟨s.toArray⟩ ⟨([32] : Bys).toArray⟩ mx w (by rw [yCY]; exact hs) hmx (by decide)
 change Calls Tryz.prog zDQ _ _ _ at hT
 refine hT.mono fun e w' ⟨he, hw⟩ => ?_
 have hN := Lib.splitB_all ⟨([32] : Bys).toArray⟩ (by decide) 0 _ ⟨s.toArray⟩ rfl
 have hdat := Lib.splitB_data ⟨([32] : Bys).toArray⟩ 0 (Lib.countB ⟨s.toArray⟩ ⟨([32] : Bys).toArray⟩) ⟨s.toArray⟩
 rw [mkB, mkB, zPj _ _ (by rw [← yBp (s.length + 1) s (by omega)]; exact Nat.le_refl _)] at hdat
 generalize Lib.splitB ⟨([32] : Bys).toArray⟩ 0 (Lib.countB ⟨s.toArray⟩ ⟨([32] : Bys).toArray⟩) ⟨s.toArray⟩ = bs at he hw hN hdat
 have hle := Lib.countB_le ⟨([32] : Bys).toArray⟩ (by decide) s.length ⟨s.toArray⟩ (by rw [yCY]; exact Nat.le_refl _)
 rw [yCY] at hle
 rw [← hN] at he
 have hlw : (zBn s).length = bs.length := by rw [← hdat, List.length_map]
 have hrl : RpL m (zPC (zBn s)).flatten (bs.map Value.string) := by
  rw [← hdat]
  refine zYZ bs fun b hb => ?_
  have h9 := zWa s b.data.toList (by rw [← hdat]; exact List.mem_map_of_mem hb)
  omega
 have hq : m.le (m.put w.heap.size (bs.map Value.string)) := fun b o u hu => by
  have := zDo hm hu
  simp only [Mem.put]
  rw [if_neg (by omega)]
  exact hu
 subst hw
 refine ⟨m.put w.heap.size (bs.map Value.string), hq, ?_, Pres.alloc _ w _, ?_, (fun b hb => by cases hb), ?_⟩
 ·intro b o u hu
  simp only [Mem.put] at hu
  split at hu
  ·rename_i hb
   subst hb
   rw [cell_of_row _ _ o (bs.map Value.string).toArray _ (0, 0) (heap_alloc_new w _)]
   simpa using hu
  ·have := zDo hm hu
   rw [World.cell?_alloc_lt w _ _ (by simpa using this)]
   exact hm b o u hu
 ·intro b o u hu
  simp only [Mem.put] at hu
  split at hu
  ·rename_i hb
   exact .inr (.inl (by omega))
  ·exact .inl hu
 ·refine ⟨_, he, ?_⟩
  have hl2 : (zPC (zBn s)).length = bs.length := by rw [zAo, hlw]
  refine ⟨some ⟨w.heap.size, 0, none⟩, bs.length, by rw [hl2], by rw [hl2]; exact Nat.le_refl _, by rw [hN]; simp only [maxLen]; omega, .inr ⟨w.heap.size, 0, rfl, ?_⟩⟩
  exact RpRows.of_flat (by intro r hr; simp [zPC] at hr; obtain ⟨a, _, rfl⟩ := hr; rfl) (RpL.mono hq _ _ hrl) fun i u hi => by simp only [Mem.put, if_true, Nat.zero_add]; exact hi
theorem zWd (hM : zMl) (t : Ts) (s : Bys) (hs : s.length < 4294967281) (hk : 3 ≤ t.kind ∧ t.kind ≤ 8) : Contract Tryz.prog zGq [.val (.agg (tsV t)), .val (sv s)] { res := .val (bv (zGo t.kind s t.value)) } := by
 rw [zMF]
 obtain ⟨k, hkk⟩ : ∃ k, k = t.kind := ⟨_, rfl⟩
 obtain ⟨v, hv⟩ : ∃ v, v = t.value := ⟨_, rfl⟩
 rw [← hkk] at hk ⊢
 rw [← hv]
 have hP := zXW s v
 have hS := zXX s v
 have hW := yFd hM s hs
 have hWc := zGc (zBn s) v
 refine mkA zS3 (base := 0) (fo rfl) (fun hfit => ?_)
 unfold F0 zMM
 simp (maxSteps := 2000000) only [zAH, List.set_cons_succ, List.set_cons_zero, List.map_cons, List.map_nil, zAG, zAa, ioOf, List.length_cons, List.length_nil, Nat.reduceAdd, Nat.reduceSub, List.replicate, List.cons_append, List.nil_append]
 try simp (maxSteps := 2000000) only [go_sem]
 repeat with_reducible refine zAb ?_
 refine zAc (by rfl) trivial (fun h1 => ?_) (fun h1 => ?_)
 ·have e : k = 4 := by simpa using h1
  subst e
  try simp (maxSteps := 2000000) only [go_sem]
  repeat with_reducible refine zAb ?_
  refine zAe rfl trivial (.inl ?_)
  congr 3
  unfold zGo
  rw [Bool.eq_iff_iff]; simp
 try simp (maxSteps := 2000000) only [go_sem]
 repeat with_reducible refine zAb ?_
 refine zAc (by rfl) trivial (fun h2 => ?_) (fun h2 => ?_)
 ·have e : k = 5 := by simpa using h2
  subst e
  try simp (maxSteps := 2000000) only [go_sem]
  repeat with_reducible refine zAb ?_
  apply zAE (h2 := fun _ => hP)
  ·(simp (maxSteps := 2000000) only [go_sem]; rfl)
  ·intro h; repeat' (first | exact trivial | exact h | refine And.intro ?_ ?_)
  try simp (maxSteps := 2000000) only [go_sem]
  repeat with_reducible refine zAb ?_
  refine zAe rfl trivial (.inl ?_)
  congr 3
  unfold zGo
  rw [Bool.eq_iff_iff]; simp
 try simp (maxSteps := 2000000) only [go_sem]
 repeat with_reducible refine zAb ?_
 refine zAc (by rfl) trivial (fun h3 => ?_) (fun h3 => ?_)
 ·have e : k = 6 := by simpa using h3
  subst e
  try simp (maxSteps := 2000000) only [go_sem]
  repeat with_reducible refine zAb ?_
  apply zAE (h2 := fun _ => hS)
  ·(simp (maxSteps := 2000000) only [go_sem]; rfl)
  ·intro h; repeat' (first | exact trivial | exact h | refine And.intro ?_ ?_)
  try simp (maxSteps := 2000000) only [go_sem]
  repeat with_reducible refine zAb ?_
  refine zAe rfl trivial (.inl ?_)
  congr 3
  unfold zGo
  rw [Bool.eq_iff_iff]; simp
 try simp (maxSteps := 2000000) only [go_sem]
 repeat with_reducible refine zAb ?_
 refine zAc (by rfl) trivial (fun h4 => ?_) (fun h4 => ?_)
 ·have e : k = 7 := by simpa using h4
  subst e
  by_cases hv0 : v = []
  ·have g : (v != []) = false := by simp [hv0]
   try simp (maxSteps := 2000000) only [go_sem, g]
   repeat with_reducible refine zAb ?_
   refine zAE rfl (fun h => absurd h (by simp [hv0])) (fun h => absurd h (by simp [hv0])) (x := bv false) ?_
   simp only [go_sem]
   try simp (maxSteps := 2000000) only [go_sem]
   repeat with_reducible refine zAb ?_
   refine zAe rfl trivial (.inl ?_)
   congr 3
   unfold zGo
   simp [hv0]
  ·have g : (v != []) = true := by simp [hv0]
   have hC := zZY hM s v hs hv0
   try simp (maxSteps := 2000000) only [go_sem, g]
   repeat with_reducible refine zAb ?_
   apply zAE (h2 := fun _ => hC)
   ·(simp (maxSteps := 2000000) only [go_sem]; rfl)
   ·intro h; repeat' (first | exact trivial | exact h | refine And.intro ?_ ?_)
   try simp (maxSteps := 2000000) only [go_sem]
   repeat with_reducible refine zAb ?_
   refine zAe rfl trivial (.inl ?_)
   congr 3
   unfold zGo
   simp [hv0]
 try simp (maxSteps := 2000000) only [go_sem]
 repeat with_reducible refine zAb ?_
 refine zAc (by rfl) trivial (fun h5 => ?_) (fun h5 => ?_)
 ·have e : k = 8 := by simpa using h5
  subst e
  try simp (maxSteps := 2000000) only [go_sem]
  repeat with_reducible refine zAb ?_
  apply zAE (h2 := fun _ => hW)
  ·(simp (maxSteps := 2000000) only [go_sem]; rfl)
  ·intro h; repeat' (first | exact trivial | exact h | refine And.intro ?_ ?_)
  try simp (maxSteps := 2000000) only [go_sem]
  repeat with_reducible refine zAb ?_
  apply zAE (h2 := fun _ => hWc)
  ·(simp (maxSteps := 2000000) only [go_sem]; rfl)
  ·intro h; repeat' (first | exact trivial | exact h | refine And.intro ?_ ?_)
  try simp (maxSteps := 2000000) only [go_sem]
  repeat with_reducible refine zAb ?_
  refine zAe rfl trivial (.inl ?_)
  congr 3
  unfold zGo
  by_cases hv0 : v = []
  ·simp [hv0, yCy]
  ·rw [zZX s v hv0]; simp [hv0]
 have e : k = 3 := by simp at h1 h2 h3 h4 h5; omega
 subst e
 try simp (maxSteps := 2000000) only [go_sem]
 repeat with_reducible refine zAb ?_
 exact zAe rfl trivial (.inl rfl)
end Go.Hx
end

section
set_option maxRecDepth 100000
set_option linter.unusedSimpArgs false
set_option maxHeartbeats 4000000
namespace Go.Hx
open Go.Proofs
variable [Glob] [GlobL]
attribute [local go_sem] zAq zAo zAp zAg ndV zAl zAh zBo zA3 zBr zBq zBm
attribute [local go_sem] reduceCtorEq Nat.reduceAdd Nat.reduceEqDiff reduceIte Nat.reduceLeDiff Nat.reduceLT Nat.reduceSub
theorem yBv {d : List Nd} (hd : zDD d d.length = true) {n : Nat} (hn : n < d.length) (nm : Bys) {v : Bys} (h : zHf (d.getD n default).att nm = some v) : v.length ≤ 16 := by
 have h1 := zBp hd hn
 simp only [zYF, Bool.and_eq_true, zGl] at h1
 have h2 := h1.1.2
 unfold zHf at h
 obtain ⟨a, ha, rfl⟩ := Option.map_eq_some_iff.1 h
 have hm := List.mem_of_find?_eq_some ha
 obtain ⟨j, hj, hje⟩ := List.getElem_of_mem hm
 have h3 := zBp h2 hj
 simp only [aOk, Bool.and_eq_true] at h3
 have h4 := h3.1.2
 unfold zHb at h4
 simp only [Bool.and_eq_true, decide_eq_true_eq] at h4
 have e : (d.getD n default).att.getD j default = a := by rw [List.getD_eq_getElem?_getD, List.getElem?_eq_getElem hj, hje]; rfl
 rw [e] at h4
 exact h4.1
theorem yFg (d : List Nd) (t : Ts) (n : Nat) : tM d t n = zM0 d t.kind t.name t.value t.na t.nb (lM d t.list) n := by rw [yES]
theorem yBw {d : List Nd} (lp : Nat → Bool) (n : Nat) (hd : zDD d d.length = true) : ((List.range d.length).any fun m => zKA d n m && lp m) = true ↔ ∃ m, n < m ∧ (m : Int) ≤ n + zCz d n ∧ m < d.length ∧ lp m = true := by
 rw [List.any_eq_true]
 constructor
 ·rintro ⟨m, hm, h⟩
  rw [Bool.and_eq_true] at h
  have hml := List.mem_range.1 hm
  obtain ⟨h1, h2⟩ := (zWf hd hml).1 h.1
  exact ⟨m, h1, h2, hml, h.2⟩
 ·rintro ⟨m, h1, h2, h3, h4⟩
  exact ⟨m, List.mem_range.2 h3, by rw [Bool.and_eq_true]; exact ⟨(zWf hd h3).2 ⟨h1, h2⟩, h4⟩⟩
theorem zI0 (hM : zMl) (d : List Nd) (hd : zAz d = 0) (t : Ts) (hk : 1 ≤ t.kind ∧ t.kind ≤ 15) (n : Nat) (hn : n < d.length) (hL : ∀ m, m < d.length → Contract Tryz.prog zAC [.val (.one (zBm d)), .val (zBo t.list), .val (iv m)] { res := .val (bv (lM d t.list m)) }) :
  Contract Tryz.prog zA7 [.val (.one (zBm d)), .val (.agg (tsV t)), .val (iv n)] { res := .val (bv (tM d t n)) } := by
 obtain ⟨d1, d2, d3⟩ := yHn hd
 rw [yFg, zMF]
 have e1 := zCl d n hn
 have e2 := zV7 d n hn
 obtain ⟨x, hx⟩ : ∃ x, x = d.getD n default := ⟨_, rfl⟩
 have hln := zV6 d
 rw [← hx] at e1
 have hcl := zGc x.cls t.name
 have hva := zLm d n hn t.name
 rw [← hx] at hva
 obtain ⟨k, hkk⟩ : ∃ k, k = t.kind := ⟨_, rfl⟩
 rw [← hkk] at hk ⊢
 have hH1 := zPi t.na t.nb (plc d n)
 have hH2 := zPi t.na t.nb (ofN d n - plc d n + 1)
 unfold yHm at hH1 hH2
 have hL0 := hL n hn
 unfold zBo at hL0
 have hp := yBs d3 hn
 have ho := yFf d3 hn
 have hu := zZ0 d3 n
 have hpb : 0 ≤ plc d n ∧ plc d n ≤ 65 := by
  have := zGa (d := d) (n := zBh d n) n
  unfold plc; omega
 have hob : 0 ≤ ofN d n ∧ ofN d n ≤ 64 := by
  have := zGa (d := d) (n := zBh d n) d.length
  unfold ofN zIb; split <;> omega
 refine mkA zIS (base := 0) (fo rfl) (fun hfit => ?_)
 unfold F0 zEz
 simp (maxSteps := 2000000) only [zAH, List.set_cons_succ, List.set_cons_zero, List.map_cons, List.map_nil, zAG, zAa, ioOf, List.length_cons, List.length_nil, Nat.reduceAdd, Nat.reduceSub, List.replicate, List.cons_append, List.nil_append]
 try simp (maxSteps := 2000000) only [go_sem]
 repeat with_reducible refine zAb ?_
 try simp (maxSteps := 2000000) only [go_sem, e1]
 repeat with_reducible refine zAb ?_
 refine zAc (by rfl) trivial (fun h1 => ?_) (fun h1 => ?_)
 ·have e : k = 1 := by simpa using h1
  subst e
  try simp (maxSteps := 2000000) only [go_sem]
  repeat with_reducible refine zAb ?_
  refine zAu (by repeat' constructor) (hcl) ?_
  try simp (maxSteps := 2000000) only [go_sem]
  repeat with_reducible refine zAb ?_
  refine zAe rfl trivial (.inl ?_)
  congr 3
  unfold zM0
  rw [if_pos rfl, ← hx]
 try simp (maxSteps := 2000000) only [go_sem]
 repeat with_reducible refine zAb ?_
 refine zAc (by rfl) trivial (fun h2 => ?_) (fun h2 => ?_)
 ·have e : k = 2 := by simpa using h2
  subst e
  try simp (maxSteps := 2000000) only [go_sem]
  repeat with_reducible refine zAb ?_
  refine zAe rfl trivial (.inl ?_)
  congr 3
  unfold zM0
  rw [← hx, Bool.eq_iff_iff]; simp
 try simp (maxSteps := 2000000) only [go_sem]
 repeat with_reducible refine zAb ?_
 refine zAc (by rfl) trivial (fun h9 => ?_) (fun h9 => ?_)
 ·have e : k = 9 := by simpa using h9
  subst e
  try simp (maxSteps := 2000000) only [go_sem, e2]
  repeat with_reducible refine zAb ?_
  refine zAu (by repeat' constructor) (hH1) ?_
  try simp (maxSteps := 2000000) only [go_sem]
  repeat with_reducible refine zAb ?_
  refine zAe rfl trivial (.inl ?_)
  congr 3
  rw [zWh, hp]; rfl
 try simp (maxSteps := 2000000) only [go_sem]
 repeat with_reducible refine zAb ?_
 refine zAc (by rfl) trivial (fun h10 => ?_) (fun h10 => ?_)
 ·have e : k = 10 := by simpa using h10
  subst e
  try simp (maxSteps := 2000000) only [go_sem, e2]
  repeat with_reducible refine zAb ?_
  refine zAu (by repeat' constructor) (hH2) ?_
  try simp (maxSteps := 2000000) only [go_sem]
  repeat with_reducible refine zAb ?_
  refine zAe rfl trivial (.inl ?_)
  congr 3
  rw [zWh, hp, ho]
  show zYN _ _ _ = zYN _ _ _
  congr 1; omega
 try simp (maxSteps := 2000000) only [go_sem]
 repeat with_reducible refine zAb ?_
 refine zAc (by rfl) trivial (fun h11 => ?_) (fun h11 => ?_)
 ·have e : k = 11 := by simpa using h11
  subst e
  try simp (maxSteps := 2000000) only [go_sem, e2]
  repeat with_reducible refine zAb ?_
  refine zAe rfl trivial (.inl ?_)
  congr 3
  unfold zM0
  rw [Bool.eq_iff_iff]
  simp [yBt d3]
 try simp (maxSteps := 2000000) only [go_sem]
 repeat with_reducible refine zAb ?_
 refine zAc (by rfl) trivial (fun h12 => ?_) (fun h12 => ?_)
 ·have e : k = 12 := by simpa using h12
  subst e
  try simp (maxSteps := 2000000) only [go_sem]
  repeat with_reducible refine zAb ?_
  refine zAe rfl trivial (.inl ?_)
  congr 3
  unfold zM0
  rw [Bool.eq_iff_iff]; simp
 try simp (maxSteps := 2000000) only [go_sem]
 repeat with_reducible refine zAb ?_
 refine zAc (by rfl) trivial (fun h13 => ?_) (fun h13 => ?_)
 ·have e : k = 13 := by simpa using h13
  subst e
  try simp (maxSteps := 2000000) only [go_sem]
  repeat with_reducible refine zAb ?_
  refine zAu (by repeat' constructor) (hL0) ?_
  try simp (maxSteps := 2000000) only [go_sem]
  repeat with_reducible refine zAb ?_
  refine zAe rfl trivial (.inl ?_)
  rfl
 try simp (maxSteps := 2000000) only [go_sem]
 repeat with_reducible refine zAb ?_
 refine zAc (by rfl) trivial (fun h14 => ?_) (fun h14 => ?_)
 ·have e : k = 14 := by simpa using h14
  subst e
  try simp (maxSteps := 2000000) only [go_sem]
  repeat with_reducible refine zAb ?_
  refine zAu (by repeat' constructor) (hL0) ?_
  try simp (maxSteps := 2000000) only [go_sem]
  repeat with_reducible refine zAb ?_
  refine zAe rfl trivial (.inl ?_)
  rfl
 try simp (maxSteps := 2000000) only [go_sem]
 repeat with_reducible refine zAb ?_
 refine zAc (by rfl) trivial (fun h15 => ?_) (fun h15 => ?_)
 ·have e : k = 15 := by simpa using h15
  subst e
  have hb := yBw (d := d) (lM d t.list) n d3
  have hT : zM0 d 15 t.name t.value t.na t.nb (lM d t.list) n = ((List.range d.length).any fun m => zKA d n m && lM d t.list m) := rfl
  rw [hT]
  try simp (maxSteps := 2000000) only [go_sem]
  repeat with_reducible refine zAb ?_
  refine zAv (fun i : Nat => [(8, .pv (iv i)), (6, .un), (116, .un), (123, .un)]) (fun i : Nat => d.length + 1 - i) (fun i : Nat => n < i ∧ i ≤ d.length + 1 ∧ ∀ m, n < m → m < i → m < d.length → (m : Int) ≤ n + zCz d n → lM d t.list m = false) ((n + 1)) ?_ ⟨by omega, by omega, fun m h1 h2 => by omega⟩ ?_
  focus (simp (maxSteps := 2000000) only [go_sem, zAi, zAs, zAF, zAj]; all_goals (repeat' (first | exact trivial | exact zAr (by omega) | exact zAk rfl | exact zAw rfl | exact zAt | exact le_refl _ | refine And.intro ?_ ?_)))
  rintro i ⟨hi1, hi2, hinv⟩
  try simp (maxSteps := 2000000) only [go_sem, e2]
  repeat with_reducible refine zAb ?_
  refine zAc (by rfl) trivial (fun h16 => ?_) (fun h16 => ?_)
  ·have hil : (i : Int) ≤ n + zCz d n := by simpa using h16
   have hid : i < d.length := by
    have := zIe d3 (n := n) (d.length - (n + 1)) (by omega)
    rw [show n + 1 + (d.length - (n + 1)) = d.length by omega] at this
    unfold zCz at hil
    omega
   have hLi := hL i hid
   unfold zBo at hLi
   try simp (maxSteps := 2000000) only [go_sem]
   repeat with_reducible refine zAb ?_
   refine zAu (by repeat' constructor) (hLi) ?_
   try simp (maxSteps := 2000000) only [go_sem]
   repeat with_reducible refine zAb ?_
   refine zAc (by rfl) trivial (fun h17 => ?_) (fun h17 => ?_)
   ·have h17' : lM d t.list i = true := by simpa using h17
    try simp (maxSteps := 2000000) only [go_sem]
    repeat with_reducible refine zAb ?_
    refine zAe rfl trivial (.inl ?_)
    congr 3
    exact hb.2 ⟨i, by omega, hil, hid, h17'⟩
   ·have h17' : lM d t.list i = false := by simpa using h17
    try simp (maxSteps := 2000000) only [go_sem]
    repeat with_reducible refine zAb ?_
    refine ⟨i + 1, by omega, ⟨by omega, by omega, fun m g1 g2 g3 g4 => ?_⟩, ?_⟩
    ·by_cases e : m = i
     ·rw [e]; exact h17'
     ·exact hinv m g1 (by omega) g3 g4
    ·simp (maxSteps := 2000000) only [go_sem, zAi, zAs, zAF, zAj]
     all_goals (repeat' (first | exact trivial | exact zAr (by omega) | exact zAk rfl | exact zAw rfl | exact zAt | exact le_refl _ | refine And.intro ?_ ?_))
  ·have hil : ¬ (i : Int) ≤ n + zCz d n := by simpa using h16
   try simp (maxSteps := 2000000) only [go_sem]
   repeat with_reducible refine zAb ?_
   refine zAe rfl trivial (.inl ?_)
   congr 3
   cases hc : ((List.range d.length).any fun m => zKA d n m && lM d t.list m) with
   |false => rfl
   |true =>
    obtain ⟨m, g1, g2, g3, g4⟩ := hb.1 hc
    rw [hinv m g1 (by omega) g3 g2] at g4
    cases g4
 have hk2 : 3 ≤ k ∧ k ≤ 8 := by
  simp at h1 h2 h9 h10 h11 h12 h13 h14 h15
  omega
 try simp (maxSteps := 2000000) only [go_sem]
 repeat with_reducible refine zAb ?_
 refine zBA (by repeat' constructor) (hva) ?_
 try simp (maxSteps := 2000000) only [go_sem]
 repeat with_reducible refine zAb ?_
 have hT : zM0 d k t.name t.value t.na t.nb (lM d t.list) n = (match zHf x.att t.name with | some s => zGo k s t.value | none => false) := by
  unfold zM0
  rw [if_neg (by omega), if_neg (by omega), if_pos hk2.2, ← hx] <;> rfl
 rw [hT]
 cases hat : zHf x.att t.name with
 |none =>
  try simp (maxSteps := 2000000) only [go_sem]
  repeat with_reducible refine zAb ?_
  refine zAE rfl (fun h => by cases h) (fun h => by cases h) (x := bv false) ?_
  try simp (maxSteps := 2000000) only [go_sem]
  repeat with_reducible refine zAb ?_
  refine zAe rfl trivial (.inl ?_)
  rfl
 |some s =>
  have hs := yBv d3 hn t.name (v := s) (by rw [← hx]; exact hat)
  have hc := zWd hM t s (by omega) (by rw [← hkk]; exact hk2)
  rw [zMF, ← hkk] at hc
  try simp (maxSteps := 2000000) only [go_sem]
  repeat with_reducible refine zAb ?_
  apply zAE (h2 := fun _ => hc)
  ·(simp (maxSteps := 2000000) only [go_sem]; rfl)
  ·intro h; repeat' (first | exact trivial | exact h | refine And.intro ?_ ?_)
  try simp (maxSteps := 2000000) only [go_sem]
  repeat with_reducible refine zAb ?_
  refine zAe rfl trivial (.inl ?_)
  simp
end Go.Hx
end

section
set_option maxRecDepth 100000
set_option linter.unusedSimpArgs false
set_option maxHeartbeats 4000000
namespace Go.Hx
open Go.Proofs
variable [Glob] [GlobL]
attribute [local go_sem] zAq zAo zAp zAg ndV zAl zAh zBo zA3 zBr zBq zBm
attribute [local go_sem] reduceCtorEq Nat.reduceAdd Nat.reduceEqDiff reduceIte Nat.reduceLeDiff Nat.reduceLT Nat.reduceSub
theorem zQR (d : List Nd) (t : Ts) (n : Nat) (r : Bool) (h : Contract Tryz.prog zA7 [.val (.one (zBm d)), .val (.agg (tsV t)), .val (iv n)] { res := .val (bv r) }) :
  Contract Tryz.prog zBQ [.val (.agg (tsV t)), .val (.one (.fp [zBm d])), .val (.one (.fp [bI n]))] { res := .val (bv !r) } := by
 rw [zMF] at h ⊢
 refine mkA zIV (base := 0) (fo rfl) (fun hfit => ?_)
 unfold F0 zEA
 simp (maxSteps := 2000000) only [zAH, List.set_cons_succ, List.set_cons_zero, List.map_cons, List.map_nil, zAG, zAa, ioOf, List.length_cons, List.length_nil, Nat.reduceAdd, Nat.reduceSub, List.replicate, List.cons_append, List.nil_append]
 try simp (maxSteps := 2000000) only [go_sem]
 repeat with_reducible refine zAb ?_
 refine zAu (by repeat' constructor) (h) ?_
 try simp (maxSteps := 2000000) only [go_sem]
 repeat with_reducible refine zAb ?_
 exact zAe rfl trivial (.inl rfl)
theorem zT4 (d : List Nd) (s : St) (n : Nat) (hn : n < d.length) (h : ∀ i, i < s.tests.length → Contract Tryz.prog zA7 [.val (.one (zBm d)), .val (.agg (tsV (s.tests.getD i default))), .val (iv n)] { res := .val (bv (tM d (s.tests.getD i default) n)) }) :
  Contract Tryz.prog zBl [.val (.one (zBm d)), .val (.agg (stV s)), .val (iv n)] { res := .val (bv (sM d s n)) } := by
 have hc := zXS zBQ [.fp [zBm d], .fp [bI n]] s.tests (fun t => !tM d t n) (fun i hi => by
  have := zQR d (s.tests.getD i default) n _ (h i hi)
  rw [zMF] at this
  exact this)
 have e1 := zCl d n hn
 obtain ⟨x, hx⟩ : ∃ x, x = d.getD n default := ⟨_, rfl⟩
 rw [← hx] at e1
 rw [zRd, yCz, ← hx]
 refine mkA zKU (base := 0) (fo rfl) (fun hfit => ?_)
 unfold F0 zF7
 simp (maxSteps := 2000000) only [zAH, List.set_cons_succ, List.set_cons_zero, List.map_cons, List.map_nil, zAG, zAa, ioOf, List.length_cons, List.length_nil, Nat.reduceAdd, Nat.reduceSub, List.replicate, List.cons_append, List.nil_append]
 try simp (maxSteps := 2000000) only [go_sem]
 repeat with_reducible refine zAb ?_
 by_cases h0 : s.tag = []
 ·have g : (s.tag == []) = true := by simp [h0]
  try simp (maxSteps := 2000000) only [go_sem, g, e1]
  repeat with_reducible refine zAb ?_
  apply zAE (h2 := fun _ => hc)
  ·(simp (maxSteps := 2000000) only [go_sem]; rfl)
  ·intro h; repeat' (first | exact trivial | exact h | refine And.intro ?_ ?_)
  try simp (maxSteps := 2000000) only [go_sem]
  repeat with_reducible refine zAb ?_
  refine zAe rfl trivial (.inl ?_)
  congr 3
  rw [h0, Bool.eq_iff_iff]
  simp
 ·have g : (s.tag == []) = false := by simp [h0]
  try simp (maxSteps := 2000000) only [go_sem, g, e1]
  repeat with_reducible refine zAb ?_
  apply zAE (h2 := fun _ => hc)
  ·(simp (maxSteps := 2000000) only [go_sem]; rfl)
  ·intro h; repeat' (first | exact trivial | exact h | refine And.intro ?_ ?_)
  try simp (maxSteps := 2000000) only [go_sem]
  repeat with_reducible refine zAb ?_
  refine zAe rfl trivial (.inl ?_)
  congr 3
  rw [Bool.eq_iff_iff]
  simp [h0]
theorem zQS (d : List Nd) (p : Pt) (n : Nat) (r : Bool) (h : Contract Tryz.prog zA6 [.val (.one (zBm d)), .val (.agg (ptV p)), .val (iv p.steps.length), .val (iv n)] { res := .val (bv r) }) :
  Contract Tryz.prog zBP [.val (.agg (ptV p)), .val (.one (.fp [zBm d])), .val (.one (.fp [bI n]))] { res := .val (bv r) } := by
 rw [zHd] at h ⊢
 refine mkA zIY (base := 0) (fo rfl) (fun hfit => ?_)
 unfold F0 zEB
 simp (maxSteps := 2000000) only [zAH, List.set_cons_succ, List.set_cons_zero, List.map_cons, List.map_nil, zAG, zAa, ioOf, List.length_cons, List.length_nil, Nat.reduceAdd, Nat.reduceSub, List.replicate, List.cons_append, List.nil_append]
 try simp (maxSteps := 2000000) only [go_sem]
 repeat with_reducible refine zAb ?_
 refine zAu (by repeat' constructor) (h) ?_
 try simp (maxSteps := 2000000) only [go_sem]
 repeat with_reducible refine zAb ?_
 exact zAe rfl trivial (.inl rfl)
theorem zLo (d : List Nd) (l : List Pt) (n : Nat) (h : ∀ i, i < l.length → Contract Tryz.prog zA6 [.val (.one (zBm d)), .val (.agg (ptV (l.getD i default))), .val (iv (l.getD i default).steps.length), .val (iv n)] { res := .val (bv (pM d (l.getD i default) n)) }) :
  Contract Tryz.prog zAC [.val (.one (zBm d)), .val (zBo l), .val (iv n)] { res := .val (bv (lM d l n)) } := by
 have hc := zXQ zBP [.fp [zBm d], .fp [bI n]] l (fun p => pM d p n) (fun i hi => by
  have := zQS d (l.getD i default) n _ (h i hi)
  rw [zHd] at this
  exact this)
 rw [yAS]
 unfold zBo
 refine mkA zKZ (base := 0) (fo rfl) (fun hfit => ?_)
 unfold F0 zF8
 simp (maxSteps := 2000000) only [zAH, List.set_cons_succ, List.set_cons_zero, List.map_cons, List.map_nil, zAG, zAa, ioOf, List.length_cons, List.length_nil, Nat.reduceAdd, Nat.reduceSub, List.replicate, List.cons_append, List.nil_append]
 try simp (maxSteps := 2000000) only [go_sem]
 repeat with_reducible refine zAb ?_
 refine zAu (by repeat' constructor) (hc) ?_
 try simp (maxSteps := 2000000) only [go_sem]
 repeat with_reducible refine zAb ?_
 exact zAe rfl trivial (.inl rfl)
end Go.Hx
end

section
set_option maxRecDepth 100000
set_option linter.unusedSimpArgs false
set_option maxHeartbeats 4000000
namespace Go.Hx
open Go.Proofs
variable [Glob] [GlobL]
attribute [local go_sem] zAq zAo zAp zAg ndV zAl zAh zBo zA3 zBr zBq zBm
attribute [local go_sem] reduceCtorEq Nat.reduceAdd Nat.reduceEqDiff reduceIte Nat.reduceLeDiff Nat.reduceLT Nat.reduceSub
theorem zPn (d : List Nd) (k : Nat) (hk : k < d.length) : Contract Tryz.prog zBG [.val (iv k), .val (.one (.fp [zBm d]))] { res := .val (iv (zBh d k)) } := by
 have e1 := zCl d k hk
 refine mkA zHT (base := 0) (fo rfl) (fun hfit => ?_)
 unfold F0 zDU
 simp (maxSteps := 2000000) only [zAH, List.set_cons_succ, List.set_cons_zero, List.map_cons, List.map_nil, zAG, zAa, ioOf, List.length_cons, List.length_nil, Nat.reduceAdd, Nat.reduceSub, List.replicate, List.cons_append, List.nil_append]
 try simp (maxSteps := 2000000) only [go_sem]
 repeat with_reducible refine zAb ?_
 try simp (maxSteps := 2000000) only [go_sem, e1]
 repeat with_reducible refine zAb ?_
 exact zAe rfl trivial (.inl rfl)
theorem zPo (d : List Nd) (k : Nat) (hk : k < d.length) : Contract Tryz.prog zBH [.val (iv k), .val (.one (.fp [zBm d]))] { res := .val (iv (ahd d k)) } := by
 have e2 := zV7 d k hk
 have hln := zV6 d
 refine mkA zHW (base := 0) (fo rfl) (fun hfit => ?_)
 unfold F0 zDV
 simp (maxSteps := 2000000) only [zAH, List.set_cons_succ, List.set_cons_zero, List.map_cons, List.map_nil, zAG, zAa, ioOf, List.length_cons, List.length_nil, Nat.reduceAdd, Nat.reduceSub, List.replicate, List.cons_append, List.nil_append]
 try simp (maxSteps := 2000000) only [go_sem]
 repeat with_reducible refine zAb ?_
 try simp (maxSteps := 2000000) only [go_sem, e2]
 repeat with_reducible refine zAb ?_
 exact zAe rfl trivial (.inl rfl)
def zNk (link : Int) : Nat := if link = 3 ∨ link = 4 then zBH else zBG
def yBx (d : List Nd) (link : Int) (n : Nat) : PV := .clo zDF [.fp [.clo (zNk link) [.fp [zBm d]]], .fp [bI n], .fp [bI link]]
theorem zT5 (d : List Nd) (link : Int) (n : Nat) : Contract Tryz.prog zCM [.val (.one (zBm d)), .val (iv link), .val (iv n)] { res := .val (.one (yBx d link n)) } := by
 unfold yBx zNk
 refine mkA zJP (base := 0) (fo rfl) (fun hfit => ?_)
 unfold F0 zEZ
 simp (maxSteps := 2000000) only [zAH, List.set_cons_succ, List.set_cons_zero, List.map_cons, List.map_nil, zAG, zAa, ioOf, List.length_cons, List.length_nil, Nat.reduceAdd, Nat.reduceSub, List.replicate, List.cons_append, List.nil_append]
 try simp (maxSteps := 2000000) only [go_sem]
 repeat with_reducible refine zAb ?_
 by_cases h3 : link = 3
 ·subst h3
  try simp (maxSteps := 2000000) only [go_sem]
  repeat with_reducible refine zAb ?_
  refine zAc (by rfl) trivial (fun h => ?_) (fun h => ?_)
  ·try simp (maxSteps := 2000000) only [go_sem]
   repeat with_reducible refine zAb ?_
   exact zAe rfl trivial (.inl rfl)
  ·simp at h
 ·have g3 : (link == 3) = false := by simp [h3]
  try simp (maxSteps := 2000000) only [go_sem, g3]
  repeat with_reducible refine zAb ?_
  refine zAc (by rfl) trivial (fun h => ?_) (fun h => ?_)
  ·have h4 : link = 4 := by simpa using h
   subst h4
   try simp (maxSteps := 2000000) only [go_sem]
   repeat with_reducible refine zAb ?_
   exact zAe rfl trivial (.inl rfl)
  ·have h4 : ¬ link = 4 := by simpa using h
   rw [if_neg (by omega)]
   try simp (maxSteps := 2000000) only [go_sem]
   repeat with_reducible refine zAb ?_
   exact zAe rfl trivial (.inl rfl)
end Go.Hx
end
