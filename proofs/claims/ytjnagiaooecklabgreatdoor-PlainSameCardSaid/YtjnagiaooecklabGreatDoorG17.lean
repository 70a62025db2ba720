/-
  Walks of functions of the program over an abstract layer, and the laws that they use: each contract says what the function computes, for every input that its conditions let by. No other condition.
-/
import Derived.Test.YtjnagiaooecklabGreatDoorG14
import Derived.Test.YtjnagiaooecklabGreatDoorG15
import Derived.Test.YtjnagiaooecklabGreatDoorG16
import Derived.Shelf.Strings.Split
import Derived.Shelf.Strings.Search3
import Derived.Test.YtjnagiaooecklabGreatDoorG10
set_option linter.all false
section
set_option maxRecDepth 100000
set_option linter.unusedSimpArgs false
set_option maxHeartbeats 2000000
namespace Go.Hx
open Go.Proofs
variable [Glob]
attribute [local go_sem] zAu zAr zAs zAk ndV zAo zAj zBc zAJ zAO zAI zBm
attribute [local go_sem] reduceCtorEq Nat.reduceAdd Nat.reduceEqDiff reduceIte Nat.reduceLeDiff Nat.reduceLT Nat.reduceSub
def zQf : Prop := ∀ w, Glob.ok w → ∃ m : Int, w.cell? ⟨0, 0, none⟩ = some (.int .i64 m)
theorem yIW {s : Bys} (h : zE0 (mkS s) = true) : s.length ≤ 9223372036854775807 := by
 simp only [zE0, decide_eq_true_eq] at h
 have h2 : s.length ≤ maxLen := by simpa [ByteArray.size] using h
 exact h2
theorem yAS : ∀ (f : Nat) (s : Bys), s.length < f → Lib.countFrom [32] f s = s.count 32
 | 0, s, h => by omega
 | f + 1, s, h => by
  rw [Lib.countFrom]
  by_cases hi : Lib.index s [32] = -1
  ·rw [if_pos (by simpa using hi)]
   have := zQ5 hi
   exact (List.count_eq_zero.2 fun hc => this 32 hc rfl).symm
  ·obtain ⟨i, hix⟩ : ∃ i : Nat, Lib.index s [32] = i := ⟨(Lib.index s [32]).toNat, by have := Lib.index_ge s [32]; omega⟩
   obtain ⟨h1, h2⟩ := zQ6 hix
   rw [if_neg (by simpa using hi), hix]
   simp only [Int.toNat_natCast, List.length_singleton]
   have h3 := congrArg List.length h2
   simp only [List.length_append, List.length_cons, List.length_take, List.length_drop] at h3
   rw [yAS f _ (by simp only [List.length_drop]; omega)]
   have h4 := congrArg (List.count 32) h2
   rw [List.count_append, List.count_cons_self] at h4
   have h5 : (s.take i).count 32 = 0 := List.count_eq_zero.2 fun hc => h1 32 hc rfl
   omega
theorem zVD : ∀ (s w : Bys), w ∈ zBn s → w.length ≤ s.length
 | [], w, h => by simp [zBn] at h; subst h; simp
 | c :: r, w, h => by
  obtain ⟨w', ws', h'⟩ := zLu r
  have ih := zVD r
  rw [zBn] at h
  by_cases hc : c = 32
  ·rw [if_pos hc, List.mem_cons] at h
   rcases h with rfl | h
   ·simp
   ·have := ih w h; simp; omega
  ·rw [if_neg hc, h', List.mem_cons] at h
   rcases h with rfl | h
   ·have := ih w' (by rw [h']; simp); simp; omega
   ·have := ih w (by rw [h']; simp [h]); simp; omega
theorem zYk {m : Mem} : ∀ (bs : List ByteArray), (∀ b ∈ bs, b.data.toList.length ≤ 9223372036854775807) → RpL m (zRV (bs.map (·.data.toList))).flatten (bs.map Value.string)
 | [], _ => by simp [zRV, RpL]
 | b :: bs, h => by
  have ih := zYk (m := m) bs fun x hx => h x (by simp [hx])
  have e : (zRV ((b :: bs).map (·.data.toList))).flatten = bS b.data.toList :: (zRV (bs.map (·.data.toList))).flatten := by simp [zRV]
  rw [e, List.map_cons]
  simp only [RpL]
  refine ⟨_, _, rfl, ⟨rfl, ?_⟩, ih⟩
  have := h b (by simp)
  simp only [zE0, decide_eq_true_eq]
  show b.data.toList.toArray.size ≤ maxLen
  simp only [maxLen, List.size_toArray]
  exact this
theorem mkB (s : Bys) : (ByteArray.mk s.toArray).data.toList = s := rfl
theorem zVE (s t : Bys) : Contract Tryz.prog zAX [.val (sv s), .val (sv t)] { res := .val (bv (zBP s t 0)) } := by
 refine mkA zDl (base := 0) (fo rfl) (fun hfit => ?_)
 unfold F0 zBN
 simp (maxSteps := 2000000) only [zAD, List.set_cons_succ, List.set_cons_zero, List.map_cons, List.map_nil, zAB, zAa, ioOf, List.length_cons, List.length_nil, Nat.reduceAdd, Nat.reduceSub, List.replicate, List.cons_append, List.nil_append]
 try simp (maxSteps := 2000000) only [go_sem]
 repeat with_reducible refine zAb ?_
 by_cases h : t.length ≤ s.length
 ·have g : decide ((t.length : Int) ≤ (s.length : Int)) = true := by simpa using h
  try simp (maxSteps := 2000000) only [go_sem, g]
  repeat with_reducible refine zAb ?_
  refine zAd rfl trivial (.inl ?_)
  congr 3
  unfold zBP
  rw [Bool.eq_iff_iff]
  simp [h]
 ·have g : decide ((t.length : Int) ≤ (s.length : Int)) = false := by simpa using h
  try simp (maxSteps := 2000000) only [go_sem, g]
  repeat with_reducible refine zAb ?_
  refine zAd rfl trivial (.inl ?_)
  congr 3
  unfold zBP
  rw [Bool.eq_iff_iff]
  simp; omega
theorem zXe (s t : Bys) : Contract Tryz.prog zCG [.val (sv s), .val (sv t)] { res := .val (bv (zBP s t 0)) } := by
 refine mkA zJb (base := 0) (fo rfl) (fun hfit => ?_)
 unfold F0 zEC
 simp (maxSteps := 2000000) only [zAD, List.set_cons_succ, List.set_cons_zero, List.map_cons, List.map_nil, zAB, zAa, ioOf, List.length_cons, List.length_nil, Nat.reduceAdd, Nat.reduceSub, List.replicate, List.cons_append, List.nil_append]
 try simp (maxSteps := 2000000) only [go_sem]
 repeat with_reducible refine zAb ?_
 refine zAt (by repeat' constructor) (zVE s t) ?_
 try simp (maxSteps := 2000000) only [go_sem]
 repeat with_reducible refine zAb ?_
 exact zAd rfl trivial (.inl rfl)
theorem zVF (s t : Bys) : Contract Tryz.prog zAY [.val (sv s), .val (sv t)] { res := .val (bv (zBP s t ((s.length : Int) - t.length))) } := by
 refine mkA zDo (base := 0) (fo rfl) (fun hfit => ?_)
 unfold F0 zBO
 simp (maxSteps := 2000000) only [zAD, List.set_cons_succ, List.set_cons_zero, List.map_cons, List.map_nil, zAB, zAa, ioOf, List.length_cons, List.length_nil, Nat.reduceAdd, Nat.reduceSub, List.replicate, List.cons_append, List.nil_append]
 try simp (maxSteps := 2000000) only [go_sem]
 repeat with_reducible refine zAb ?_
 have fs := yIW hfit.1
 have ft := yIW hfit.2.1
 by_cases h : t.length ≤ s.length
 ·have g : decide ((t.length : Int) ≤ (s.length : Int)) = true := by simpa using h
  try simp (maxSteps := 2000000) only [go_sem, g]
  repeat with_reducible refine zAb ?_
  refine zAd rfl trivial (.inl ?_)
  congr 3
  unfold zBP
  rw [Bool.eq_iff_iff]
  have e : (((s.length : Int) - t.length)).toNat = s.length - t.length := by omega
  have e2 : (s.drop (s.length - t.length)).take t.length = s.drop (s.length - t.length) := List.take_of_length_le (by simp; omega)
  rw [e, e2]
  simp; omega
 ·have g : decide ((t.length : Int) ≤ (s.length : Int)) = false := by simpa using h
  try simp (maxSteps := 2000000) only [go_sem, g]
  repeat with_reducible refine zAb ?_
  refine zAd rfl trivial (.inl ?_)
  congr 3
  unfold zBP
  rw [Bool.eq_iff_iff]
  simp; omega
theorem zXf (s t : Bys) : Contract Tryz.prog zCH [.val (sv s), .val (sv t)] { res := .val (bv (zBP s t ((s.length : Int) - t.length))) } := by
 refine mkA zJe (base := 0) (fo rfl) (fun hfit => ?_)
 unfold F0 zED
 simp (maxSteps := 2000000) only [zAD, List.set_cons_succ, List.set_cons_zero, List.map_cons, List.map_nil, zAB, zAa, ioOf, List.length_cons, List.length_nil, Nat.reduceAdd, Nat.reduceSub, List.replicate, List.cons_append, List.nil_append]
 try simp (maxSteps := 2000000) only [go_sem]
 repeat with_reducible refine zAb ?_
 refine zAt (by repeat' constructor) (zVF s t) ?_
 try simp (maxSteps := 2000000) only [go_sem]
 repeat with_reducible refine zAb ?_
 exact zAd rfl trivial (.inl rfl)
theorem yGD {m : Mem} {w : World} {avs : List AV} {us : List Value} {e : Ending} {r : Res} (hm : MemOk m w) (hio : ioB avs us = none) (hr : zTY m w w (zHQ avs us) r e) : yCM m w avs us { res := r } e w :=
 ⟨m, m.le_refl, hm, Pres.refl _ w, fun _ _ _ h => .inl h, (fun b hb => by rw [hio] at hb; cases hb), hr⟩
theorem yCp {s : Bys} : (ByteArray.mk s.toArray).size = s.length := by simp [ByteArray.size]
theorem zZq (hM : zQf) (s t : Bys) (hs : s.length < 4294967281) (ht : t ≠ []) : Contract Tryz.prog zCX [.val (sv s), .val (sv t)] { res := .val (bv ((List.range s.length).any fun i => zBP s t i)) } := by
 refine ⟨by kernel_rfl, fun m w us hm hargs _ hG _ => ?_⟩
 obtain ⟨u1, us1, rfl, h2, h3⟩ := hargs
 obtain ⟨u2, us2, rfl, h4, rfl⟩ := h3
 obtain ⟨rfl, f1⟩ := h2
 obtain ⟨rfl, f2⟩ := h4
 obtain ⟨mx, hmx⟩ := hM w hG
 have hT := Any.strings_Contains Tryz.lays144 ⟨s.toArray⟩ ⟨t.toArray⟩ mx w (by rw [yCp]; exact hs) hmx
 change Calls Tryz.prog zCX _ _ _ at hT
 refine hT.mono fun e w' ⟨he, hw⟩ => ?_
 subst hw
 refine yGD hm rfl ⟨_, he, ?_⟩
 rw [mkB, mkB, zVB s t ht]
 exact ⟨rfl, rfl⟩
theorem yEH (hM : zQf) (s : Bys) (hs : s.length < 4294967281) : Contract Tryz.prog zD4 [.val (sv s), .val (sv [32])] { res := .val (.one (.sl 1 (zRV (zBn s)))) } := by
 refine ⟨by kernel_rfl, fun m w us hm hargs _ hG _ => ?_⟩
 obtain ⟨u1, us1, rfl, h2, h3⟩ := hargs
 obtain ⟨u2, us2, rfl, h4, rfl⟩ := h3
 obtain ⟨rfl, f1⟩ := h2
 obtain ⟨rfl, f2⟩ := h4
 obtain ⟨mx, hmx⟩ := hM w hG
 have hT := Any.strings_Split Tryz.lays146 (by kernel_rfl) ⟨s.toArray⟩ ⟨([32] : Bys).toArray⟩ mx w (by rw [yCp]; exact hs) hmx (by decide)
 change Calls Tryz.prog zD4 _ _ _ at hT
 refine hT.mono fun e w' ⟨he, hw⟩ => ?_
 have hN := Lib.splitB_all ⟨([32] : Bys).toArray⟩ (by decide) 0 _ ⟨s.toArray⟩ rfl
 have hdat := Lib.splitB_data ⟨([32] : Bys).toArray⟩ 0 (Lib.countB ⟨s.toArray⟩ ⟨([32] : Bys).toArray⟩) ⟨s.toArray⟩
 rw [mkB, mkB, zPl _ _ (by rw [← yAS (s.length + 1) s (by omega)]; exact Nat.le_refl _)] at hdat
 generalize Lib.splitB ⟨([32] : Bys).toArray⟩ 0 (Lib.countB ⟨s.toArray⟩ ⟨([32] : Bys).toArray⟩) ⟨s.toArray⟩ = bs at he hw hN hdat
 have hle := Lib.countB_le ⟨([32] : Bys).toArray⟩ (by decide) s.length ⟨s.toArray⟩ (by rw [yCp]; exact Nat.le_refl _)
 rw [yCp] at hle
 rw [← hN] at he
 have hlw : (zBn s).length = bs.length := by rw [← hdat, List.length_map]
 have hrl : RpL m (zRV (zBn s)).flatten (bs.map Value.string) := by
  rw [← hdat]
  refine zYk bs fun b hb => ?_
  have h9 := zVD s b.data.toList (by rw [← hdat]; exact List.mem_map_of_mem hb)
  omega
 have hq : m.le (m.put w.heap.size (bs.map Value.string)) := fun b o u hu => by
  have := zDC hm hu
  simp only [Mem.put]
  rw [if_neg (by omega)]
  exact hu
 subst hw
 refine ⟨m.put w.heap.size (bs.map Value.string), hq, ?_, Pres.alloc _ w _, ?_, (fun b hb => by cases hb), ?_⟩
 ·intro b o u hu
  simp only [Mem.put] at hu
  split at hu
  ·rename_i hb
   subst hb
   rw [cell_of_row _ _ o (bs.map Value.string).toArray _ (0, 0) (heap_alloc_new w _)]
   simpa using hu
  ·have := zDC hm hu
   rw [World.cell?_alloc_lt w _ _ (by simpa using this)]
   exact hm b o u hu
 ·intro b o u hu
  simp only [Mem.put] at hu
  split at hu
  ·rename_i hb
   exact .inr (.inl (by omega))
  ·exact .inl hu
 ·refine ⟨_, he, ?_⟩
  have hl2 : (zRV (zBn s)).length = bs.length := by rw [zAr, hlw]
  refine ⟨some ⟨w.heap.size, 0, none⟩, bs.length, by rw [hl2], by rw [hl2]; exact Nat.le_refl _, by rw [hN]; simp only [maxLen]; omega, .inr ⟨w.heap.size, 0, rfl, ?_⟩⟩
  exact RpRows.of_flat (by intro r hr; simp [zRV] at hr; obtain ⟨a, _, rfl⟩ := hr; rfl) (RpL.mono hq _ _ hrl) fun i u hi => by simp only [Mem.put, if_true, Nat.zero_add]; exact hi
theorem zVG (hM : zQf) (t : Ts) (s : Bys) (hs : s.length < 4294967281) (hk : 3 ≤ t.kind ∧ t.kind ≤ 8) : Contract Tryz.prog zHi [.val (.agg (tsV t)), .val (sv s)] { res := .val (bv (zHg t.kind s t.value)) } := by
 rw [zBh]
 obtain ⟨k, hkk⟩ : ∃ k, k = t.kind := ⟨_, rfl⟩
 obtain ⟨v, hv⟩ : ∃ v, v = t.value := ⟨_, rfl⟩
 rw [← hkk] at hk ⊢
 rw [← hv]
 have hP := zXe s v
 have hS := zXf s v
 have hW := yEH hM s hs
 have hWc := zGc (zBn s) v
 refine mkA zSJ (base := 0) (fo rfl) (fun hfit => ?_)
 unfold F0 zM8
 simp (maxSteps := 2000000) only [zAD, List.set_cons_succ, List.set_cons_zero, List.map_cons, List.map_nil, zAB, zAa, ioOf, List.length_cons, List.length_nil, Nat.reduceAdd, Nat.reduceSub, List.replicate, List.cons_append, List.nil_append]
 try simp (maxSteps := 2000000) only [go_sem]
 repeat with_reducible refine zAb ?_
 refine zAc (by rfl) trivial (fun h1 => ?_) (fun h1 => ?_)
 ·have e : k = 4 := by simpa using h1
  subst e
  try simp (maxSteps := 2000000) only [go_sem]
  repeat with_reducible refine zAb ?_
  refine zAd rfl trivial (.inl ?_)
  congr 3
  unfold zHg
  rw [Bool.eq_iff_iff]; simp
 try simp (maxSteps := 2000000) only [go_sem]
 repeat with_reducible refine zAb ?_
 refine zAc (by rfl) trivial (fun h2 => ?_) (fun h2 => ?_)
 ·have e : k = 5 := by simpa using h2
  subst e
  try simp (maxSteps := 2000000) only [go_sem]
  repeat with_reducible refine zAb ?_
  apply zAy (h2 := fun _ => hP)
  ·(simp (maxSteps := 2000000) only [go_sem]; rfl)
  ·intro h; repeat' (first | exact trivial | exact h | refine And.intro ?_ ?_)
  try simp (maxSteps := 2000000) only [go_sem]
  repeat with_reducible refine zAb ?_
  refine zAd rfl trivial (.inl ?_)
  congr 3
  unfold zHg
  rw [Bool.eq_iff_iff]; simp
 try simp (maxSteps := 2000000) only [go_sem]
 repeat with_reducible refine zAb ?_
 refine zAc (by rfl) trivial (fun h3 => ?_) (fun h3 => ?_)
 ·have e : k = 6 := by simpa using h3
  subst e
  try simp (maxSteps := 2000000) only [go_sem]
  repeat with_reducible refine zAb ?_
  apply zAy (h2 := fun _ => hS)
  ·(simp (maxSteps := 2000000) only [go_sem]; rfl)
  ·intro h; repeat' (first | exact trivial | exact h | refine And.intro ?_ ?_)
  try simp (maxSteps := 2000000) only [go_sem]
  repeat with_reducible refine zAb ?_
  refine zAd rfl trivial (.inl ?_)
  congr 3
  unfold zHg
  rw [Bool.eq_iff_iff]; simp
 try simp (maxSteps := 2000000) only [go_sem]
 repeat with_reducible refine zAb ?_
 refine zAc (by rfl) trivial (fun h4 => ?_) (fun h4 => ?_)
 ·have e : k = 7 := by simpa using h4
  subst e
  by_cases hv0 : v = []
  ·have g : (v != []) = false := by simp [hv0]
   try simp (maxSteps := 2000000) only [go_sem, g]
   repeat with_reducible refine zAb ?_
   refine zAy rfl (fun h => absurd h (by simp [hv0])) (fun h => absurd h (by simp [hv0])) (x := bv false) ?_
   simp only [go_sem]
   try simp (maxSteps := 2000000) only [go_sem]
   repeat with_reducible refine zAb ?_
   refine zAd rfl trivial (.inl ?_)
   congr 3
   unfold zHg
   simp [hv0]
  ·have g : (v != []) = true := by simp [hv0]
   have hC := zZq hM s v hs hv0
   try simp (maxSteps := 2000000) only [go_sem, g]
   repeat with_reducible refine zAb ?_
   apply zAy (h2 := fun _ => hC)
   ·(simp (maxSteps := 2000000) only [go_sem]; rfl)
   ·intro h; repeat' (first | exact trivial | exact h | refine And.intro ?_ ?_)
   try simp (maxSteps := 2000000) only [go_sem]
   repeat with_reducible refine zAb ?_
   refine zAd rfl trivial (.inl ?_)
   congr 3
   unfold zHg
   simp [hv0]
 try simp (maxSteps := 2000000) only [go_sem]
 repeat with_reducible refine zAb ?_
 refine zAc (by rfl) trivial (fun h5 => ?_) (fun h5 => ?_)
 ·have e : k = 8 := by simpa using h5
  subst e
  try simp (maxSteps := 2000000) only [go_sem]
  repeat with_reducible refine zAb ?_
  apply zAy (h2 := fun _ => hW)
  ·(simp (maxSteps := 2000000) only [go_sem]; rfl)
  ·intro h; repeat' (first | exact trivial | exact h | refine And.intro ?_ ?_)
  try simp (maxSteps := 2000000) only [go_sem]
  repeat with_reducible refine zAb ?_
  apply zAy (h2 := fun _ => hWc)
  ·(simp (maxSteps := 2000000) only [go_sem]; rfl)
  ·intro h; repeat' (first | exact trivial | exact h | refine And.intro ?_ ?_)
  try simp (maxSteps := 2000000) only [go_sem]
  repeat with_reducible refine zAb ?_
  refine zAd rfl trivial (.inl ?_)
  congr 3
  unfold zHg
  by_cases hv0 : v = []
  ·simp [hv0, yCa]
  ·rw [zZp s v hv0]; simp [hv0]
 have e : k = 3 := by simp at h1 h2 h3 h4 h5; omega
 subst e
 try simp (maxSteps := 2000000) only [go_sem]
 repeat with_reducible refine zAb ?_
 exact zAd rfl trivial (.inl rfl)
end Go.Hx
end

section
set_option maxRecDepth 100000
set_option linter.unusedSimpArgs false
set_option maxHeartbeats 4000000
namespace Go.Hx
open Go.Proofs
variable [Glob]
attribute [local go_sem] zAu zAr zAs zAk ndV zAo zAj zBc zAJ zAO zAI zBm
attribute [local go_sem] reduceCtorEq Nat.reduceAdd Nat.reduceEqDiff reduceIte Nat.reduceLeDiff Nat.reduceLT Nat.reduceSub
theorem yAY {d : List Nd} (hd : zEw d d.length = true) {n : Nat} (hn : n < d.length) (nm : Bys) {v : Bys} (h : zHZ (d.getD n default).att nm = some v) : v.length ≤ 16 := by
 have h1 := zBI hd hn
 simp only [zYX, Bool.and_eq_true, zOf] at h1
 have h2 := h1.1.2
 unfold zHZ at h
 obtain ⟨a, ha, rfl⟩ := Option.map_eq_some_iff.1 h
 have hm := List.mem_of_find?_eq_some ha
 obtain ⟨j, hj, hje⟩ := List.getElem_of_mem hm
 have h3 := zBI h2 hj
 simp only [aOk, Bool.and_eq_true] at h3
 have h4 := h3.1.2
 unfold zHX at h4
 simp only [Bool.and_eq_true, decide_eq_true_eq] at h4
 have e : (d.getD n default).att.getD j default = a := by rw [List.getD_eq_getElem?_getD, List.getElem?_eq_getElem hj, hje]; rfl
 rw [e] at h4
 exact h4.1
theorem yEK (d : List Nd) (t : Ts) (n : Nat) : tM d t n = zNl d t.kind t.name t.value t.na t.nb (lM d t.list) n := by rw [yAw]
theorem yAZ {d : List Nd} (lp : Nat → Bool) (n : Nat) (hd : zEw d d.length = true) : ((List.range d.length).any fun m => zKW d n m && lp m) = true ↔ ∃ m, n < m ∧ (m : Int) ≤ n + zCF d n ∧ m < d.length ∧ lp m = true := by
 rw [List.any_eq_true]
 constructor
 ·rintro ⟨m, hm, h⟩
  rw [Bool.and_eq_true] at h
  have hml := List.mem_range.1 hm
  obtain ⟨h1, h2⟩ := (zVI hd hml).1 h.1
  exact ⟨m, h1, h2, hml, h.2⟩
 ·rintro ⟨m, h1, h2, h3, h4⟩
  exact ⟨m, List.mem_range.2 h3, by rw [Bool.and_eq_true]; exact ⟨(zVI hd h3).2 ⟨h1, h2⟩, h4⟩⟩
theorem zJx (hM : zQf) (d : List Nd) (hd : zBr d = 0) (t : Ts) (hk : 1 ≤ t.kind ∧ t.kind ≤ 15) (n : Nat) (hn : n < d.length) (hL : ∀ m, m < d.length → Contract Tryz.prog zAE [.val (.one (zBm d)), .val (zBc t.list), .val (iv m)] { res := .val (bv (lM d t.list m)) }) :
  Contract Tryz.prog zA4 [.val (.one (zBm d)), .val (.agg (tsV t)), .val (iv n)] { res := .val (bv (tM d t n)) } := by
 obtain ⟨d1, d2, d3⟩ := yGA hd
 rw [yEK, zBh]
 have e1 := zDh d n hn
 have e2 := zVA d n hn
 obtain ⟨x, hx⟩ : ∃ x, x = d.getD n default := ⟨_, rfl⟩
 have hln := zVz d
 rw [← hx] at e1
 have hcl := zGc x.cls t.name
 have hva := zLt d n hn t.name
 rw [← hx] at hva
 obtain ⟨k, hkk⟩ : ∃ k, k = t.kind := ⟨_, rfl⟩
 rw [← hkk] at hk ⊢
 have hH1 := zPd t.na t.nb (plc d n)
 have hH2 := zPd t.na t.nb (ofN d n - plc d n + 1)
 unfold yGx at hH1 hH2
 have hL0 := hL n hn
 unfold zBc at hL0
 have hp := yAV d3 hn
 have ho := yEJ d3 hn
 have hu := zZs d3 n
 have hpb : 0 ≤ plc d n ∧ plc d n ≤ 65 := by
  have := zFO (d := d) (n := zBf d n) n
  unfold plc; omega
 have hob : 0 ≤ ofN d n ∧ ofN d n ≤ 64 := by
  have := zFO (d := d) (n := zBf d n) d.length
  unfold ofN zIe; split <;> omega
 refine mkA zJp (base := 0) (fo rfl) (fun hfit => ?_)
 unfold F0 zEK
 simp (maxSteps := 2000000) only [zAD, List.set_cons_succ, List.set_cons_zero, List.map_cons, List.map_nil, zAB, zAa, ioOf, List.length_cons, List.length_nil, Nat.reduceAdd, Nat.reduceSub, List.replicate, List.cons_append, List.nil_append]
 try simp (maxSteps := 2000000) only [go_sem]
 repeat with_reducible refine zAb ?_
 try simp (maxSteps := 2000000) only [go_sem, e1]
 repeat with_reducible refine zAb ?_
 refine zAc (by rfl) trivial (fun h1 => ?_) (fun h1 => ?_)
 ·have e : k = 1 := by simpa using h1
  subst e
  try simp (maxSteps := 2000000) only [go_sem]
  repeat with_reducible refine zAb ?_
  refine zAt (by repeat' constructor) (hcl) ?_
  try simp (maxSteps := 2000000) only [go_sem]
  repeat with_reducible refine zAb ?_
  refine zAd rfl trivial (.inl ?_)
  congr 3
  unfold zNl
  rw [if_pos rfl, ← hx]
 try simp (maxSteps := 2000000) only [go_sem]
 repeat with_reducible refine zAb ?_
 refine zAc (by rfl) trivial (fun h2 => ?_) (fun h2 => ?_)
 ·have e : k = 2 := by simpa using h2
  subst e
  try simp (maxSteps := 2000000) only [go_sem]
  repeat with_reducible refine zAb ?_
  refine zAd rfl trivial (.inl ?_)
  congr 3
  unfold zNl
  rw [← hx, Bool.eq_iff_iff]; simp
 try simp (maxSteps := 2000000) only [go_sem]
 repeat with_reducible refine zAb ?_
 refine zAc (by rfl) trivial (fun h9 => ?_) (fun h9 => ?_)
 ·have e : k = 9 := by simpa using h9
  subst e
  try simp (maxSteps := 2000000) only [go_sem, e2]
  repeat with_reducible refine zAb ?_
  refine zAt (by repeat' constructor) (hH1) ?_
  try simp (maxSteps := 2000000) only [go_sem]
  repeat with_reducible refine zAb ?_
  refine zAd rfl trivial (.inl ?_)
  congr 3
  rw [zVK, hp]; rfl
 try simp (maxSteps := 2000000) only [go_sem]
 repeat with_reducible refine zAb ?_
 refine zAc (by rfl) trivial (fun h10 => ?_) (fun h10 => ?_)
 ·have e : k = 10 := by simpa using h10
  subst e
  try simp (maxSteps := 2000000) only [go_sem, e2]
  repeat with_reducible refine zAb ?_
  refine zAt (by repeat' constructor) (hH2) ?_
  try simp (maxSteps := 2000000) only [go_sem]
  repeat with_reducible refine zAb ?_
  refine zAd rfl trivial (.inl ?_)
  congr 3
  rw [zVK, hp, ho]
  show zYc _ _ _ = zYc _ _ _
  congr 1; omega
 try simp (maxSteps := 2000000) only [go_sem]
 repeat with_reducible refine zAb ?_
 refine zAc (by rfl) trivial (fun h11 => ?_) (fun h11 => ?_)
 ·have e : k = 11 := by simpa using h11
  subst e
  try simp (maxSteps := 2000000) only [go_sem, e2]
  repeat with_reducible refine zAb ?_
  refine zAd rfl trivial (.inl ?_)
  congr 3
  unfold zNl
  rw [Bool.eq_iff_iff]
  simp [yAW d3]
 try simp (maxSteps := 2000000) only [go_sem]
 repeat with_reducible refine zAb ?_
 refine zAc (by rfl) trivial (fun h12 => ?_) (fun h12 => ?_)
 ·have e : k = 12 := by simpa using h12
  subst e
  try simp (maxSteps := 2000000) only [go_sem]
  repeat with_reducible refine zAb ?_
  refine zAd rfl trivial (.inl ?_)
  congr 3
  unfold zNl
  rw [Bool.eq_iff_iff]; simp
 try simp (maxSteps := 2000000) only [go_sem]
 repeat with_reducible refine zAb ?_
 refine zAc (by rfl) trivial (fun h13 => ?_) (fun h13 => ?_)
 ·have e : k = 13 := by simpa using h13
  subst e
  try simp (maxSteps := 2000000) only [go_sem]
  repeat with_reducible refine zAb ?_
  refine zAt (by repeat' constructor) (hL0) ?_
  try simp (maxSteps := 2000000) only [go_sem]
  repeat with_reducible refine zAb ?_
  refine zAd rfl trivial (.inl ?_)
  rfl
 try simp (maxSteps := 2000000) only [go_sem]
 repeat with_reducible refine zAb ?_
 refine zAc (by rfl) trivial (fun h14 => ?_) (fun h14 => ?_)
 ·have e : k = 14 := by simpa using h14
  subst e
  try simp (maxSteps := 2000000) only [go_sem]
  repeat with_reducible refine zAb ?_
  refine zAt (by repeat' constructor) (hL0) ?_
  try simp (maxSteps := 2000000) only [go_sem]
  repeat with_reducible refine zAb ?_
  refine zAd rfl trivial (.inl ?_)
  rfl
 try simp (maxSteps := 2000000) only [go_sem]
 repeat with_reducible refine zAb ?_
 refine zAc (by rfl) trivial (fun h15 => ?_) (fun h15 => ?_)
 ·have e : k = 15 := by simpa using h15
  subst e
  have hb := yAZ (d := d) (lM d t.list) n d3
  have hT : zNl d 15 t.name t.value t.na t.nb (lM d t.list) n = ((List.range d.length).any fun m => zKW d n m && lM d t.list m) := rfl
  rw [hT]
  try simp (maxSteps := 2000000) only [go_sem]
  repeat with_reducible refine zAb ?_
  refine zAv (fun i : Nat => [(8, .pv (iv i)), (6, .un), (116, .un), (123, .un)]) (fun i : Nat => d.length + 1 - i) (fun i : Nat => n < i ∧ i ≤ d.length + 1 ∧ ∀ m, n < m → m < i → m < d.length → (m : Int) ≤ n + zCF d n → lM d t.list m = false) ((n + 1)) ?_ ⟨by omega, by omega, fun m h1 h2 => by omega⟩ ?_
  focus (simp (maxSteps := 2000000) only [go_sem, zAf, zAn, zAz, zAg]; all_goals (repeat' (first | exact trivial | exact zAl (by omega) | exact zAh rfl | exact zAw rfl | exact zAp | exact le_refl _ | refine And.intro ?_ ?_)))
  rintro i ⟨hi1, hi2, hinv⟩
  try simp (maxSteps := 2000000) only [go_sem, e2]
  repeat with_reducible refine zAb ?_
  refine zAc (by rfl) trivial (fun h16 => ?_) (fun h16 => ?_)
  ·have hil : (i : Int) ≤ n + zCF d n := by simpa using h16
   have hid : i < d.length := by
    have := zII d3 (n := n) (d.length - (n + 1)) (by omega)
    rw [show n + 1 + (d.length - (n + 1)) = d.length by omega] at this
    unfold zCF at hil
    omega
   have hLi := hL i hid
   unfold zBc at hLi
   try simp (maxSteps := 2000000) only [go_sem]
   repeat with_reducible refine zAb ?_
   refine zAt (by repeat' constructor) (hLi) ?_
   try simp (maxSteps := 2000000) only [go_sem]
   repeat with_reducible refine zAb ?_
   refine zAc (by rfl) trivial (fun h17 => ?_) (fun h17 => ?_)
   ·have h17' : lM d t.list i = true := by simpa using h17
    try simp (maxSteps := 2000000) only [go_sem]
    repeat with_reducible refine zAb ?_
    refine zAd rfl trivial (.inl ?_)
    congr 3
    exact hb.2 ⟨i, by omega, hil, hid, h17'⟩
   ·have h17' : lM d t.list i = false := by simpa using h17
    try simp (maxSteps := 2000000) only [go_sem]
    repeat with_reducible refine zAb ?_
    refine ⟨i + 1, by omega, ⟨by omega, by omega, fun m g1 g2 g3 g4 => ?_⟩, ?_⟩
    ·by_cases e : m = i
     ·rw [e]; exact h17'
     ·exact hinv m g1 (by omega) g3 g4
    ·simp (maxSteps := 2000000) only [go_sem, zAf, zAn, zAz, zAg]
     all_goals (repeat' (first | exact trivial | exact zAl (by omega) | exact zAh rfl | exact zAw rfl | exact zAp | exact le_refl _ | refine And.intro ?_ ?_))
  ·have hil : ¬ (i : Int) ≤ n + zCF d n := by simpa using h16
   try simp (maxSteps := 2000000) only [go_sem]
   repeat with_reducible refine zAb ?_
   refine zAd rfl trivial (.inl ?_)
   congr 3
   cases hc : ((List.range d.length).any fun m => zKW d n m && lM d t.list m) with
   | false => rfl
   | true =>
    obtain ⟨m, g1, g2, g3, g4⟩ := hb.1 hc
    rw [hinv m g1 (by omega) g3 g2] at g4
    cases g4
 have hk2 : 3 ≤ k ∧ k ≤ 8 := by
  simp at h1 h2 h9 h10 h11 h12 h13 h14 h15
  omega
 try simp (maxSteps := 2000000) only [go_sem]
 repeat with_reducible refine zAb ?_
 refine zB4 (by repeat' constructor) (hva) ?_
 try simp (maxSteps := 2000000) only [go_sem]
 repeat with_reducible refine zAb ?_
 have hT : zNl d k t.name t.value t.na t.nb (lM d t.list) n = (match zHZ x.att t.name with | some s => zHg k s t.value | none => false) := by
  unfold zNl
  rw [if_neg (by omega), if_neg (by omega), if_pos hk2.2, ← hx] <;> rfl
 rw [hT]
 cases hat : zHZ x.att t.name with
 | none =>
  try simp (maxSteps := 2000000) only [go_sem]
  repeat with_reducible refine zAb ?_
  refine zAy rfl (fun h => by cases h) (fun h => by cases h) (x := bv false) ?_
  try simp (maxSteps := 2000000) only [go_sem]
  repeat with_reducible refine zAb ?_
  refine zAd rfl trivial (.inl ?_)
  rfl
 | some s =>
  have hs := yAY d3 hn t.name (v := s) (by rw [← hx]; exact hat)
  have hc := zVG hM t s (by omega) (by rw [← hkk]; exact hk2)
  rw [zBh, ← hkk] at hc
  try simp (maxSteps := 2000000) only [go_sem]
  repeat with_reducible refine zAb ?_
  apply zAy (h2 := fun _ => hc)
  ·(simp (maxSteps := 2000000) only [go_sem]; rfl)
  ·intro h; repeat' (first | exact trivial | exact h | refine And.intro ?_ ?_)
  try simp (maxSteps := 2000000) only [go_sem]
  repeat with_reducible refine zAb ?_
  refine zAd rfl trivial (.inl ?_)
  simp
end Go.Hx
end

section
set_option maxRecDepth 100000
set_option linter.unusedSimpArgs false
set_option maxHeartbeats 4000000
namespace Go.Hx
open Go.Proofs
variable [Glob]
attribute [local go_sem] zAu zAr zAs zAk ndV zAo zAj zBc zAJ zAO zAI zBm
attribute [local go_sem] reduceCtorEq Nat.reduceAdd Nat.reduceEqDiff reduceIte Nat.reduceLeDiff Nat.reduceLT Nat.reduceSub
theorem zQg (d : List Nd) (t : Ts) (n : Nat) (r : Bool) (h : Contract Tryz.prog zA4 [.val (.one (zBm d)), .val (.agg (tsV t)), .val (iv n)] { res := .val (bv r) }) :
  Contract Tryz.prog zBR [.val (.agg (tsV t)), .val (.one (.fp [zBm d])), .val (.one (.fp [bI n]))] { res := .val (bv !r) } := by
 rw [zBh] at h ⊢
 refine mkA zJs (base := 0) (fo rfl) (fun hfit => ?_)
 unfold F0 zEL
 simp (maxSteps := 2000000) only [zAD, List.set_cons_succ, List.set_cons_zero, List.map_cons, List.map_nil, zAB, zAa, ioOf, List.length_cons, List.length_nil, Nat.reduceAdd, Nat.reduceSub, List.replicate, List.cons_append, List.nil_append]
 try simp (maxSteps := 2000000) only [go_sem]
 repeat with_reducible refine zAb ?_
 refine zAt (by repeat' constructor) (h) ?_
 try simp (maxSteps := 2000000) only [go_sem]
 repeat with_reducible refine zAb ?_
 exact zAd rfl trivial (.inl rfl)
theorem zSQ (d : List Nd) (s : St) (n : Nat) (hn : n < d.length) (h : ∀ i, i < s.tests.length → Contract Tryz.prog zA4 [.val (.one (zBm d)), .val (.agg (tsV (s.tests.getD i default))), .val (iv n)] { res := .val (bv (tM d (s.tests.getD i default) n)) }) :
  Contract Tryz.prog zBi [.val (.one (zBm d)), .val (.agg (stV s)), .val (iv n)] { res := .val (bv (sM d s n)) } := by
 have hc := zPk zBR [.fp [zBm d], .fp [bI n]] s.tests (fun t => !tM d t n) (fun i hi => by
  have := zQg d (s.tests.getD i default) n _ (h i hi)
  rw [zBh] at this
  exact this)
 have e1 := zDh d n hn
 obtain ⟨x, hx⟩ : ∃ x, x = d.getD n default := ⟨_, rfl⟩
 rw [← hx] at e1
 rw [zCk, zUp, ← hx]
 refine mkA zLi (base := 0) (fo rfl) (fun hfit => ?_)
 unfold F0 zF9
 simp (maxSteps := 2000000) only [zAD, List.set_cons_succ, List.set_cons_zero, List.map_cons, List.map_nil, zAB, zAa, ioOf, List.length_cons, List.length_nil, Nat.reduceAdd, Nat.reduceSub, List.replicate, List.cons_append, List.nil_append]
 try simp (maxSteps := 2000000) only [go_sem]
 repeat with_reducible refine zAb ?_
 by_cases h0 : s.tag = []
 ·have g : (s.tag == []) = true := by simp [h0]
  try simp (maxSteps := 2000000) only [go_sem, g, e1]
  repeat with_reducible refine zAb ?_
  apply zAy (h2 := fun _ => hc)
  ·(simp (maxSteps := 2000000) only [go_sem]; rfl)
  ·intro h; repeat' (first | exact trivial | exact h | refine And.intro ?_ ?_)
  try simp (maxSteps := 2000000) only [go_sem]
  repeat with_reducible refine zAb ?_
  refine zAd rfl trivial (.inl ?_)
  congr 3
  rw [h0, Bool.eq_iff_iff]
  simp
 ·have g : (s.tag == []) = false := by simp [h0]
  try simp (maxSteps := 2000000) only [go_sem, g, e1]
  repeat with_reducible refine zAb ?_
  apply zAy (h2 := fun _ => hc)
  ·(simp (maxSteps := 2000000) only [go_sem]; rfl)
  ·intro h; repeat' (first | exact trivial | exact h | refine And.intro ?_ ?_)
  try simp (maxSteps := 2000000) only [go_sem]
  repeat with_reducible refine zAb ?_
  refine zAd rfl trivial (.inl ?_)
  congr 3
  rw [Bool.eq_iff_iff]
  simp [h0]
theorem zQh (d : List Nd) (p : Pt) (n : Nat) (r : Bool) (h : Contract Tryz.prog zAZ [.val (.one (zBm d)), .val (.agg (ptV p)), .val (iv p.steps.length), .val (iv n)] { res := .val (bv r) }) :
  Contract Tryz.prog zBQ [.val (.agg (ptV p)), .val (.one (.fp [zBm d])), .val (.one (.fp [bI n]))] { res := .val (bv r) } := by
 rw [zBp] at h ⊢
 refine mkA zJv (base := 0) (fo rfl) (fun hfit => ?_)
 unfold F0 zEM
 simp (maxSteps := 2000000) only [zAD, List.set_cons_succ, List.set_cons_zero, List.map_cons, List.map_nil, zAB, zAa, ioOf, List.length_cons, List.length_nil, Nat.reduceAdd, Nat.reduceSub, List.replicate, List.cons_append, List.nil_append]
 try simp (maxSteps := 2000000) only [go_sem]
 repeat with_reducible refine zAb ?_
 refine zAt (by repeat' constructor) (h) ?_
 try simp (maxSteps := 2000000) only [go_sem]
 repeat with_reducible refine zAb ?_
 exact zAd rfl trivial (.inl rfl)
theorem zLv (d : List Nd) (l : List Pt) (n : Nat) (h : ∀ i, i < l.length → Contract Tryz.prog zAZ [.val (.one (zBm d)), .val (.agg (ptV (l.getD i default))), .val (iv (l.getD i default).steps.length), .val (iv n)] { res := .val (bv (pM d (l.getD i default) n)) }) :
  Contract Tryz.prog zAE [.val (.one (zBm d)), .val (zBc l), .val (iv n)] { res := .val (bv (lM d l n)) } := by
 have hc := zPj zBQ [.fp [zBm d], .fp [bI n]] l (fun p => pM d p n) (fun i hi => by
  have := zQh d (l.getD i default) n _ (h i hi)
  rw [zBp] at this
  exact this)
 rw [zKX]
 unfold zBc
 refine mkA zLn (base := 0) (fo rfl) (fun hfit => ?_)
 unfold F0 zGa
 simp (maxSteps := 2000000) only [zAD, List.set_cons_succ, List.set_cons_zero, List.map_cons, List.map_nil, zAB, zAa, ioOf, List.length_cons, List.length_nil, Nat.reduceAdd, Nat.reduceSub, List.replicate, List.cons_append, List.nil_append]
 try simp (maxSteps := 2000000) only [go_sem]
 repeat with_reducible refine zAb ?_
 refine zAt (by repeat' constructor) (hc) ?_
 try simp (maxSteps := 2000000) only [go_sem]
 repeat with_reducible refine zAb ?_
 exact zAd rfl trivial (.inl rfl)
end Go.Hx
end

section
set_option maxRecDepth 100000
set_option linter.unusedSimpArgs false
set_option maxHeartbeats 4000000
namespace Go.Hx
open Go.Proofs
variable [Glob]
attribute [local go_sem] zAu zAr zAs zAk ndV zAo zAj zBc zAJ zAO zAI zBm
attribute [local go_sem] reduceCtorEq Nat.reduceAdd Nat.reduceEqDiff reduceIte Nat.reduceLeDiff Nat.reduceLT Nat.reduceSub
theorem zPp (d : List Nd) (k : Nat) (hk : k < d.length) : Contract Tryz.prog zBJ [.val (iv k), .val (.one (.fp [zBm d]))] { res := .val (iv (zBf d k)) } := by
 have e1 := zDh d k hk
 refine mkA zIE (base := 0) (fo rfl) (fun hfit => ?_)
 unfold F0 zEa
 simp (maxSteps := 2000000) only [zAD, List.set_cons_succ, List.set_cons_zero, List.map_cons, List.map_nil, zAB, zAa, ioOf, List.length_cons, List.length_nil, Nat.reduceAdd, Nat.reduceSub, List.replicate, List.cons_append, List.nil_append]
 try simp (maxSteps := 2000000) only [go_sem]
 repeat with_reducible refine zAb ?_
 try simp (maxSteps := 2000000) only [go_sem, e1]
 repeat with_reducible refine zAb ?_
 exact zAd rfl trivial (.inl rfl)
theorem zPq (d : List Nd) (k : Nat) (hk : k < d.length) : Contract Tryz.prog zBK [.val (iv k), .val (.one (.fp [zBm d]))] { res := .val (iv (ahd d k)) } := by
 have e2 := zVA d k hk
 have hln := zVz d
 refine mkA zIH (base := 0) (fo rfl) (fun hfit => ?_)
 unfold F0 zEb
 simp (maxSteps := 2000000) only [zAD, List.set_cons_succ, List.set_cons_zero, List.map_cons, List.map_nil, zAB, zAa, ioOf, List.length_cons, List.length_nil, Nat.reduceAdd, Nat.reduceSub, List.replicate, List.cons_append, List.nil_append]
 try simp (maxSteps := 2000000) only [go_sem]
 repeat with_reducible refine zAb ?_
 try simp (maxSteps := 2000000) only [go_sem, e2]
 repeat with_reducible refine zAb ?_
 exact zAd rfl trivial (.inl rfl)
def zNq (link : Int) : Nat := if link = 3 ∨ link = 4 then zBK else zBJ
def yA0 (d : List Nd) (link : Int) (n : Nat) : PV := .clo zDT [.fp [.clo (zNq link) [.fp [zBm d]]], .fp [bI n], .fp [bI link]]
theorem zSR (d : List Nd) (link : Int) (n : Nat) : Contract Tryz.prog zCV [.val (.one (zBm d)), .val (iv link), .val (iv n)] { res := .val (.one (yA0 d link n)) } := by
 unfold yA0 zNq
 refine mkA zKg (base := 0) (fo rfl) (fun hfit => ?_)
 unfold F0 zFe
 simp (maxSteps := 2000000) only [zAD, List.set_cons_succ, List.set_cons_zero, List.map_cons, List.map_nil, zAB, zAa, ioOf, List.length_cons, List.length_nil, Nat.reduceAdd, Nat.reduceSub, List.replicate, List.cons_append, List.nil_append]
 try simp (maxSteps := 2000000) only [go_sem]
 repeat with_reducible refine zAb ?_
 by_cases h3 : link = 3
 ·subst h3
  try simp (maxSteps := 2000000) only [go_sem]
  repeat with_reducible refine zAb ?_
  refine zAc (by rfl) trivial (fun h => ?_) (fun h => ?_)
  ·try simp (maxSteps := 2000000) only [go_sem]
   repeat with_reducible refine zAb ?_
   exact zAd rfl trivial (.inl rfl)
  ·simp at h
 ·have g3 : (link == 3) = false := by simp [h3]
  try simp (maxSteps := 2000000) only [go_sem, g3]
  repeat with_reducible refine zAb ?_
  refine zAc (by rfl) trivial (fun h => ?_) (fun h => ?_)
  ·have h4 : link = 4 := by simpa using h
   subst h4
   try simp (maxSteps := 2000000) only [go_sem]
   repeat with_reducible refine zAb ?_
   exact zAd rfl trivial (.inl rfl)
  ·have h4 : ¬ link = 4 := by simpa using h
   rw [if_neg (by omega)]
   try simp (maxSteps := 2000000) only [go_sem]
   repeat with_reducible refine zAb ?_
   exact zAd rfl trivial (.inl rfl)
end Go.Hx
end
