/-
  Walks of functions of the program over an abstract layer, and the laws that they use: each contract says what the function computes, for every input that its conditions let by. No other condition.
-/
import Derived.Test.YtjnagiaooecklabGreatDoorG9
import Derived.Test.YtjnagiaooecklabGreatDoorG10
import Derived.Test.YtjnagiaooecklabGreatDoorG8
import Derived.Lib.ItoaLen
import Derived.Lib.IndexMore
import Derived.Test.YtjnagiaooecklabGreatDoorG11
set_option linter.all false
section
/-
 Itoa, Atoi, and Index at one byte, of the library, in the layer's words; what is told of the library's variables. No other condition.
-/
set_option maxRecDepth 100000
namespace Go.Hx
open Go.Proofs Go.RowKit
attribute [local go_sem] zAz zAx zAy zAq ndV zAu
noncomputable def powName : String := ((Tryz.prog.globals[3]?).map (·.name)).getD ""
structure NumOk (w : World) : Prop where
 size : 8 ≤ w.heap.size
 tab : Lib.TabIs Tryz.prog w powName .u64 Lib.pow10Tab
 syn : ∃ tp p, w.var? Tryz.prog "strconv.ErrSyntax" = some #[.iface tp p]
 rng : ∃ tp p, w.var? Tryz.prog "strconv.ErrRange" = some #[.iface tp p]
 mx : ∃ m : Int, w.cell? ⟨0, 0, none⟩ = some (.int .i64 m)
theorem zRM {P : Program} {w w' : World} {n g : Nat} {name : String} (hg : P.globalNamed name = some g) (hgn : g < n) (h : ∀ b, b < n → w'.heap[b]? = w.heap[b]?) : w'.var? P name = w.var? P name := by
 unfold World.var?
 rw [hg]
 simp only [Option.bind_some]
 rw [h g hgn]
theorem yAc {w w' : World} {n : Nat} (h : ∀ b, b < n → w'.heap[b]? = w.heap[b]?) (hs : n ≤ w.heap.size) : n ≤ w'.heap.size := by
 rcases Nat.eq_zero_or_pos n with h0 | h0
 ·omega
 ·have h1 := h (n - 1) (by omega)
  rw [Array.getElem?_eq_getElem (show n - 1 < w.heap.size by omega)] at h1
  have := (Array.getElem?_eq_some_iff.1 h1).1
  omega
theorem yAd {w w' : World} {n b o : Nat} (hb : b < n) (h : ∀ b, b < n → w'.heap[b]? = w.heap[b]?) : w'.cell? ⟨b, o, none⟩ = w.cell? ⟨b, o, none⟩ := by
 unfold World.cell?
 simp only
 rw [h b hb]
theorem NumOk.keep {w w' : World} (h : ∀ b, b < 8 → w'.heap[b]? = w.heap[b]?) (hw : NumOk w) : NumOk w' where
 size := yAc h hw.size
 tab := (zRM (g := 3) (by kernel_rfl) (by decide) h).trans hw.tab
 syn := hw.syn.imp fun _ h1 => h1.imp fun _ h2 => (zRM (g := 4) (by kernel_rfl) (by decide) h).trans h2
 rng := hw.rng.imp fun _ h1 => h1.imp fun _ h2 => (zRM (g := 5) (by kernel_rfl) (by decide) h).trans h2
 mx := hw.mx.imp fun _ h1 => (yAd (by decide) h).trans h1
@[reducible] noncomputable def zA2 : Glob := { ok := NumOk, n := 8, size := fun _ h => h.size, keep := fun _ _ h hw => hw.keep h }
section
attribute [local instance] zA2
theorem zO8 {R : Nat → Prop} {w w' : World} (h : Below w.heap.size w w') : Pres R w w' := ⟨h.os, h.tape, h.output, h.size, fun b hb _ => h.block b hb⟩
theorem zUp {m : Mem} {w w' : World} (hm : MemOk m w) (h : Below w.heap.size w w') : MemOk m w' := fun b o u hu => by
 have h1 := hm b o u hu
 have h2 : b < w.heap.size := World.block_lt_of_cell? w _ h1
 rw [← h1]
 exact World.cell?_of_block (h.block b h2)
theorem zHs {m : Mem} {w w' : World} {avs : List AV} {us : List Value} {e : Ending} {r : Res} (hm : MemOk m w) (h : Below w.heap.size w w') (hio : ioB avs us = none) (hr : zMq m w w' (zF3 avs us) r e) : yBc m w avs us { res := r } e w' :=
 ⟨m, m.le_refl, zUp hm h, zO8 h, fun _ _ _ h => .inl h, (fun b hb => by rw [hio] at hb; cases hb), hr⟩
theorem yBU {s : Bys} (h : s.length ≤ maxLen) : zEB (mkS s) = true := by
 simp only [zEB]
 exact decide_eq_true (by simpa [ByteArray.size] using h)
theorem zYO (w : World) (k : Nat) (os : Array Obj) : Below w.heap.size w (Sort.grow (w.drewN k) os) :=
 ⟨rfl, rfl, rfl, by show w.heap.size ≤ (w.heap ++ os).size; rw [Array.size_append]; omega, fun _ hj => Sort.heap_grow_old (w.drewN k) os hj⟩
theorem zE1 (n : Int) (h0 : -9223372036854775808 ≤ n) (h1 : n ≤ 9223372036854775807) : Contract Tryz.prog zC3 [.val (iv n)] { res := .val (sv (Lib.itoa n)) } := by
 refine ⟨by kernel_rfl, fun m w us hm hargs _ hG _ => ?_⟩
 obtain ⟨u1, us1, rfl, h2, rfl⟩ := hargs
 obtain ⟨rfl, f1⟩ := h2
 have hT := Any.strconv_Itoa Tryz.l171 n h0 h1 w (by
  refine (congrArg (fun s => Lib.TabIs Tryz.prog w s .u64 Lib.pow10Tab) ?_).mp hG.tab
  kernel_rfl)
 change Calls Tryz.prog zC3 _ _ _ at hT
 refine hT.mono fun e w' ⟨he, k, os, hw⟩ => zHs hm (hw ▸ zYO w k os) rfl ⟨_, he, by simp, yBU ?_⟩
 have h3 := Lib.itoa_length_le n h0 h1
 simp only [maxLen]
 omega
def zO9 (s : Bys) : Int := match Lib.atoiAll s with
 | .ok v => v
 | .range => Lib.atoiSat s
 | _ => 0
theorem zGS (s : Bys) (hs : s.length ≤ 281474976710656) : Contract Tryz.prog zBJ [.val (sv s)] { res := .tup [iv (zO9 s), .one .any] } := by
 refine ⟨by kernel_rfl, fun m w us hm hargs _ hG _ => ?_⟩
 obtain ⟨u1, us1, rfl, h2, rfl⟩ := hargs
 obtain ⟨rfl, f1⟩ := h2
 cases h : Lib.atoiAll s with
 | ok v =>
  have hT := Any.strconv_Atoi_ok Tryz.l172 ⟨s.toArray⟩ (by simp [ByteArray.size]; omega) v (by simpa using h) w
  change Calls Tryz.prog zBJ _ _ _ at hT
  refine hT.mono fun e w' ⟨he, hw⟩ => zHs hm ?_ rfl ⟨_, he, ?_⟩
  ·rcases hw with rfl | ⟨t, rfl⟩
   ·exact Below.refl _ _
   ·exact ⟨rfl, rfl, rfl, by rw [Lib.bytesWorld_size]; omega, fun k hk => Lib.bytesWorld_at_old w _ _ k (by omega)⟩
  ·unfold zO9; rw [h]
   exact ⟨_, _, rfl, ⟨rfl, rfl⟩, _, _, rfl, rfl, rfl⟩
 | range =>
  obtain ⟨tp, p, hv⟩ := hG.rng
  have hT := Any.strconv_Atoi_range_var Tryz.l172 ⟨s.toArray⟩ (by simpa [ByteArray.size] using hs) (by simpa using h) tp p w hv
  change Calls Tryz.prog zBJ _ _ _ at hT
  refine hT.mono fun e w' ⟨N, he, _, _, hb⟩ => zHs hm hb rfl ⟨_, he, ?_⟩
  unfold zO9; rw [h]
  exact ⟨_, _, rfl, ⟨rfl, rfl⟩, _, _, rfl, rfl, rfl⟩
 | _ =>
  obtain ⟨tp, p, hv⟩ := hG.syn
  have hT := Any.strconv_Atoi_syntax_var Tryz.l172 ⟨s.toArray⟩ (by simpa [ByteArray.size] using hs) (by simpa using h) tp p w hv
  change Calls Tryz.prog zBJ _ _ _ at hT
  refine hT.mono fun e w' ⟨N, he, _, _, hb⟩ => zHs hm hb rfl ⟨_, he, ?_⟩
  unfold zO9; rw [h]
  exact ⟨_, _, rfl, ⟨rfl, rfl⟩, _, _, rfl, rfl, rfl⟩
theorem zWC (s : Bys) (c : UInt8) : Contract Tryz.prog zA9 [.val (sv s), .val (sv [c])] { res := .val (iv (Lib.indexByte s c)) } := by
 refine ⟨by kernel_rfl, fun m w us hm hargs _ hG _ => ?_⟩
 obtain ⟨u1, us1, rfl, h1, u2, us2, rfl, h2, rfl⟩ := hargs
 obtain ⟨rfl, f1⟩ := h1
 obtain ⟨rfl, f2⟩ := h2
 have hT := Any.stringslite_Index_one Tryz.l219 ⟨s.toArray⟩ c w
 change Calls Tryz.prog zA9 _ _ _ at hT
 refine hT.mono fun e w' ⟨he, hw⟩ => zHs hm (hw ▸ Below.refl _ _) rfl ⟨_, he, rfl, rfl⟩
end
end Go.Hx
end

section
set_option maxRecDepth 100000
set_option linter.unusedSimpArgs false
namespace Go.Hx
open Go.Proofs
attribute [local instance] zA2
attribute [local go_sem] zAz zAx zAy zAq ndV zAu zAp
attribute [local go_sem] reduceCtorEq Nat.reduceAdd Nat.reduceEqDiff reduceIte Nat.reduceLeDiff Nat.reduceLT Nat.reduceSub
theorem zJv : ∀ (s : Bys) (c : UInt8), -1 ≤ Lib.indexByte s c ∧ Lib.indexByte s c < s.length
 | [], c => by simp [Lib.indexByte]
 | b :: l, c => by
  have ih := zJv l c
  simp only [Lib.indexByte, List.length_cons]
  split
  ·omega
  ·split <;> omega
theorem yEd (s t : Bys) : (Lib.cut s t).1.length ≤ s.length ∧ (Lib.cut s t).2.1.length ≤ s.length := by
 unfold Lib.cut
 split
 ·simp; omega
 ·simp
theorem zI5 (s : Bys) (c : UInt8) (hs : s.length ≤ 140737488355328) : Contract Tryz.prog zBo [.val (sv s), .val (sv [c])] { res := .tup [sv (Lib.cut s [c]).1, sv (Lib.cut s [c]).2.1, bv (Lib.cut s [c]).2.2] } := by
 have hb := zJv s c
 refine zEs (base := 0) ⟨Nat.le_of_ble_eq_true rfl, Nat.le_of_ble_eq_true rfl, Nat.le_of_ble_eq_true rfl, rfl⟩ (fun hfit => ?_)
 unfold F0 zAZ
 simp (maxSteps := 2000000) only [zAN, List.set_cons_succ, List.set_cons_zero, List.map_cons, List.map_nil, zAM, zAb, ioOf, List.length_cons, List.length_nil, Nat.reduceAdd, Nat.reduceSub, List.replicate, List.cons_append, List.nil_append]
 try simp (maxSteps := 2000000) only [go_sem]
 repeat with_reducible refine zAd ?_
 refine zAh (by repeat' constructor) (zWC s c) ?_
 try simp (maxSteps := 2000000) only [go_sem]
 repeat with_reducible refine zAd ?_
 refine zAa (by rfl) trivial (fun h => ?_) (fun h => ?_)
 ·have h2 : 0 ≤ Lib.indexByte s c := by simpa using h
  have e : Lib.cut s [c] = (s.take (Lib.indexByte s c).toNat, s.drop ((Lib.indexByte s c).toNat + 1), true) := by
   unfold Lib.cut
   rw [Lib.index_one, if_pos h2]
   rfl
  have hsl : (0 : Int) ≤ 0 ∧ 0 ≤ Lib.indexByte s c ∧ Lib.indexByte s c ≤ s.length := by omega
  have hsl2 : 0 ≤ Lib.indexByte s c + 1 ∧ Lib.indexByte s c + 1 ≤ (s.length : Int) ∧ (s.length : Int) ≤ s.length := by omega
  have e2 : (Lib.indexByte s c + 1).toNat = (Lib.indexByte s c).toNat + 1 := by omega
  try simp (maxSteps := 2000000) only [go_sem, List.take_length, Int.toNat_zero]
  repeat with_reducible refine zAd ?_
  rw [e]
  exact zCM (by simp) ⟨zA1 rfl trivial (.inl rfl), zA1 rfl trivial (.inl (by rw [← e2]; rfl)), zA1 rfl trivial (.inl rfl), rfl⟩
 ·have h2 : ¬ 0 ≤ Lib.indexByte s c := by simpa using h
  have e : Lib.cut s [c] = (s, [], false) := by
   unfold Lib.cut
   rw [Lib.index_one, if_neg h2]
  try simp (maxSteps := 2000000) only [go_sem]
  repeat with_reducible refine zAd ?_
  rw [e]
  exact zCM (by simp) ⟨zA1 rfl trivial (.inl rfl), zA1 rfl trivial (.inl rfl), zA1 rfl trivial (.inl rfl), rfl⟩
theorem zSW (s : Bys) (c : UInt8) (hs : s.length ≤ 140737488355328) : Contract Tryz.prog zB1 [.val (sv s), .val (sv [c])] { res := .tup [sv (Lib.cut s [c]).1, sv (Lib.cut s [c]).2.1, bv (Lib.cut s [c]).2.2] } := by
 refine zO7 (base := 0) ⟨Nat.le_of_ble_eq_true rfl, Nat.le_of_ble_eq_true rfl, Nat.le_of_ble_eq_true rfl, rfl⟩ (fun hfit => ?_)
 unfold F0 zD4
 simp (maxSteps := 2000000) only [zAN, List.set_cons_succ, List.set_cons_zero, List.map_cons, List.map_nil, zAM, zAb, ioOf, List.length_cons, List.length_nil, Nat.reduceAdd, Nat.reduceSub, List.replicate, List.cons_append, List.nil_append]
 try simp (maxSteps := 2000000) only [go_sem]
 repeat with_reducible refine zAd ?_
 refine zAR (by repeat' constructor) (zI5 s c hs) ?_
 try simp (maxSteps := 2000000) only [go_sem]
 repeat with_reducible refine zAd ?_
 exact zCM (by simp) ⟨zA1 rfl trivial (.inl rfl), zA1 rfl trivial (.inl rfl), zA1 rfl trivial (.inl rfl), rfl⟩
end Go.Hx
end

section
set_option maxRecDepth 100000
set_option linter.unusedSimpArgs false
namespace Go.Hx
open Go.Proofs
attribute [local instance] zA2
attribute [local go_sem] zAz zAx zAy zAq ndV zAu zAp
attribute [local go_sem] reduceCtorEq Nat.reduceAdd Nat.reduceEqDiff reduceIte Nat.reduceLeDiff Nat.reduceLT Nat.reduceSub
def zBS (a b : Int) : Bys := Lib.itoa a ++ [110] ++ ((if 0 ≤ b then [43] else []) ++ Lib.itoa b)
theorem zGH {a : Int} (h : -1048576 ≤ a ∧ a ≤ 1048576) : (Lib.itoa a).length ≤ 21 := Lib.itoa_length_le a (by omega) (by omega)
theorem zQR (a b : Int) : Contract Tryz.prog zFF [.val (yAA a b)] { res := .tup [sv (if zI7 a b = 0 then zBS a b else []), iv (zI7 a b)] } := by
 unfold yAA
 refine zWr (base := 0) ⟨Nat.le_of_ble_eq_true rfl, Nat.le_of_ble_eq_true rfl, Nat.le_of_ble_eq_true rfl, rfl⟩ (fun hfit => ?_)
 unfold F0 zGz
 simp (maxSteps := 2000000) only [zAN, List.set_cons_succ, List.set_cons_zero, List.map_cons, List.map_nil, zAM, zAb, ioOf, List.length_cons, List.length_nil, Nat.reduceAdd, Nat.reduceSub, List.replicate, List.cons_append, List.nil_append]
 try simp (maxSteps := 2000000) only [go_sem]
 repeat with_reducible refine zAd ?_
 refine zAh (by repeat' constructor) (zN5 a b) ?_
 try simp (maxSteps := 2000000) only [go_sem]
 repeat with_reducible refine zAd ?_
 refine zAa (by rfl) trivial (fun h => ?_) (fun h => ?_)
 ·try simp (maxSteps := 2000000) only [go_sem]
  repeat with_reducible refine zAd ?_
  have : ¬ zI7 a b = 0 := by simpa using h
  rw [if_neg this]
  exact zCM (by simp) ⟨zA1 rfl trivial (.inl rfl), zA1 rfl trivial (.inl rfl), rfl⟩
 have h2 : zI7 a b = 0 := by simpa using h
 obtain ⟨h3, h4⟩ := yAz h2
 have l1 := zGH h3
 have l2 := zGH h4
 have hm : maxLen = 9223372036854775807 := rfl
 try simp (maxSteps := 2000000) only [go_sem]
 repeat with_reducible refine zAd ?_
 refine zAh (by repeat' constructor) (zE1 b (by omega) (by omega)) ?_
 try simp (maxSteps := 2000000) only [go_sem]
 repeat with_reducible refine zAd ?_
 refine zAa (by rfl) trivial (fun h5 => ?_) (fun h5 => ?_)
 ·try simp (maxSteps := 2000000) only [go_sem, List.length_append, List.length_cons, List.length_nil, Nat.zero_add]
  repeat with_reducible refine zAd ?_
  refine zAh (by repeat' constructor) (zE1 a (by omega) (by omega)) ?_
  try simp (maxSteps := 2000000) only [go_sem, List.length_append, List.length_cons, List.length_nil, Nat.zero_add]
  repeat with_reducible refine zAd ?_
  rw [h2, if_pos rfl]
  refine zCM (by simp) ⟨zA1 rfl trivial (.inl ?_), zA1 rfl trivial (.inl rfl), rfl⟩
  unfold zBS
  rw [if_pos (by simpa using h5)]
  rfl
 ·try simp (maxSteps := 2000000) only [go_sem, List.length_append, List.length_cons, List.length_nil, Nat.zero_add]
  repeat with_reducible refine zAd ?_
  refine zAh (by repeat' constructor) (zE1 a (by omega) (by omega)) ?_
  try simp (maxSteps := 2000000) only [go_sem, List.length_append, List.length_cons, List.length_nil, Nat.zero_add]
  repeat with_reducible refine zAd ?_
  rw [h2, if_pos rfl]
  refine zCM (by simp) ⟨zA1 rfl trivial (.inl ?_), zA1 rfl trivial (.inl rfl), rfl⟩
  unfold zBS
  rw [if_neg (by simpa using h5)]
  rfl
def yB7 (s : Bys) : Int := zO9 (Lib.cut s [110]).1
def yB8 (s : Bys) : Int := zO9 (Lib.cut s [110]).2.1
def zFj (s : Bys) : Bool := decide (zI7 (yB7 s) (yB8 s) = 0 ∧ zBS (yB7 s) (yB8 s) = s)
theorem zZg (s : Bys) (hs : s.length ≤ 140737488355328) : Contract Tryz.prog zGY [.val (sv s)] { res := .tup [yAA (if zFj s then yB7 s else 0) (if zFj s then yB8 s else 0), iv (if zFj s then 0 else 1)] } := by
 refine zWB (base := 0) ⟨Nat.le_of_ble_eq_true rfl, Nat.le_of_ble_eq_true rfl, Nat.le_of_ble_eq_true rfl, rfl⟩ (fun hfit => ?_)
 unfold F0 zGA
 simp (maxSteps := 2000000) only [zAN, List.set_cons_succ, List.set_cons_zero, List.map_cons, List.map_nil, zAM, zAb, ioOf, List.length_cons, List.length_nil, Nat.reduceAdd, Nat.reduceSub, List.replicate, List.cons_append, List.nil_append]
 try simp (maxSteps := 2000000) only [go_sem]
 repeat with_reducible refine zAd ?_
 have hl := yEd s [110]
 refine zAR (by repeat' constructor) (zSW s 110 hs) ?_
 try simp (maxSteps := 2000000) only [go_sem]
 repeat with_reducible refine zAd ?_
 refine zAR (by repeat' constructor) (zGS (Lib.cut s [110]).1 (by omega)) ?_
 try simp (maxSteps := 2000000) only [go_sem]
 repeat with_reducible refine zAd ?_
 refine zAR (by repeat' constructor) (zGS (Lib.cut s [110]).2.1 (by omega)) ?_
 try simp (maxSteps := 2000000) only [go_sem]
 repeat with_reducible refine zAd ?_
 refine zAR (by repeat' constructor) (zQR (yB7 s) (yB8 s)) ?_
 try simp (maxSteps := 2000000) only [go_sem]
 repeat with_reducible refine zAd ?_
 refine zAa (by rfl) trivial (fun h => ?_) (fun h => ?_)
 ·try simp (maxSteps := 2000000) only [go_sem]
  repeat with_reducible refine zAd ?_
  have h2 : zFj s = false := by
   unfold zFj
   refine decide_eq_false fun hc => ?_
   rw [hc.1, if_pos rfl, hc.2] at h
   simp at h
  rw [h2]
  exact zCM (by simp) ⟨zBg rfl rfl (.inl rfl), zA1 rfl trivial (.inl rfl), rfl⟩
 ·try simp (maxSteps := 2000000) only [go_sem]
  repeat with_reducible refine zAd ?_
  have h2 : zFj s = true := by
   unfold zFj
   refine decide_eq_true ?_
   simp at h
   obtain ⟨h3, h4⟩ := h
   rw [if_pos h3] at h4
   exact ⟨h3, h4⟩
  rw [h2]
  exact zCM (by simp) ⟨zBg rfl rfl (.inl rfl), zA1 rfl trivial (.inl rfl), rfl⟩
end Go.Hx
end

section
set_option maxRecDepth 100000
set_option linter.unusedSimpArgs false
namespace Go.Hx
open Go.Proofs
attribute [local instance] zA2
attribute [local go_sem] zAz zAx zAy zAq ndV zAu zAp u8s Option.map_some
theorem yB9 {n : Int} (h : n < 0) : Lib.itoa n = 45 :: Lib.itoa (-n) := by
 unfold Lib.itoa
 rw [if_pos h, if_neg (by omega)]
 congr 2
 omega
end Go.Hx
end

section
set_option maxRecDepth 100000
set_option linter.unusedSimpArgs false
namespace Go.Hx
open Go.Proofs
attribute [local instance] zA2
attribute [local go_sem] zAz zAx zAy zAq ndV zAu zAp yAA
end Go.Hx
end

section
set_option maxRecDepth 100000
set_option linter.unusedSimpArgs false
namespace Go.Hx
open Go.Proofs
attribute [local instance] zA2
attribute [local go_sem] zAz zAx zAy zAq ndV zAu zAp yAA
theorem zN6 {E : Env} {base : Nat} {av : List AV} {F : List Ct} {x : PVal} {t j bs off n : Nat} {agg : Bool} {cs cells io : List PV} (e : F.getD t .un = .ptr j off) (h : zAE F (bs + off) n = some cs) (hx : x = (if agg then PVal.agg cs else .one (cs.headD (.nl 0)))) (hio : ioOf av = some cells) (hc : zAE F base cells.length = some io) : zCj E base av [.cellB t j bs off n agg] { res := .val x, io := io } .ret F := by
 refine ⟨?_, fun cs h => by rw [hio] at h; injection h with h; subst h; exact hc⟩
 simp only [zCQ, rsV, e, h]
 exact ⟨trivial, trivial, .inl hx⟩
end Go.Hx
end

section
/-
 Counts, in plain Lean: a text of a count is read as it was, by the library's Atoi and by the document's reader; where a count holds. No program in sight. No condition.
-/
namespace Go.Hx
attribute [local instance] zA2
def zS0 (c : UInt8) : Bool := decide (48 ≤ c.toNat ∧ c.toNat ≤ 57)
theorem zN7 {d : Nat} (h : d < 10) : (UInt8.ofNat (48 + d)).toNat = 48 + d := by
 rw [UInt8.toNat_ofNat']; omega
theorem yAB {u : Nat} (h : ¬ u < 10) : Lib.decDigits u = Lib.decDigits (u / 10) ++ [UInt8.ofNat (48 + u % 10)] := by
 rw [Lib.decDigits, dif_neg h]
theorem yAC : ∀ (u : Nat), ∀ c ∈ Lib.decDigits u, zS0 c = true := by
 intro u
 induction u using Nat.strongRecOn with
 | ind u ih =>
  intro c hc
  by_cases h : u < 10
  ·rw [Lib.decDigits_one h, List.mem_singleton] at hc
   subst hc
   unfold zS0
   rw [zN7 h]
   simp; omega
  ·rw [yAB h] at hc
   rcases List.mem_append.1 hc with hc | hc
   ·exact ih (u / 10) (by omega) c hc
   ·rw [List.mem_singleton] at hc
    subst hc
    unfold zS0
    rw [zN7 (by omega)]
    simp; omega
theorem yHo (u : Nat) : Lib.decDigits u ≠ [] := by
 intro h
 have := Lib.decDigits_length u
 rw [h] at this
 have := Lib.nDigits_pos u
 simp at *
 omega
theorem yAD (u : Nat) : ∃ c l, Lib.decDigits u = c :: l ∧ zS0 c = true := by
 cases h : Lib.decDigits u with
 | nil => exact absurd h (yHo u)
 | cons c l => exact ⟨c, l, rfl, yAC u c (by rw [h]; exact List.mem_cons_self)⟩
theorem yF4 : ∀ (k u : Nat), 0 < k → u < 10 ^ k → Lib.nDigits u ≤ k
 | 0, u, h, _ => by omega
 | k + 1, u, _, h => by
  by_cases h1 : u < 10
  ·rw [Lib.nDigits_small h1]; omega
  ·rw [Lib.nDigits_big h1]
   have h2 : u / 10 < 10 ^ k := by
    rw [Nat.pow_succ] at h
    omega
   have h3 : 0 < k := by
    rcases Nat.eq_zero_or_pos k with e | e
    ·subst e; simp at h; omega
    ·exact e
   have := yF4 k (u / 10) h3 h2
   omega
theorem zX6 {u : Nat} (h : u ≤ 1048576) : (Lib.decDigits u).length ≤ 8 := by
 rw [Lib.decDigits_length]
 exact yF4 8 u (by omega) (by omega)
theorem yCW {c : UInt8} (h : zS0 c = true) {d : UInt8} (hd : zS0 d = false) : (c == d) = false := by
 rw [beq_eq_false_iff_ne]
 rintro rfl
 rw [h] at hd; cases hd
theorem zXb (l r : Bys) : ∀ acc, Lib.decFrom acc (l ++ r) = (Lib.decFrom acc l).bind fun m => Lib.decFrom m r := by
 induction l with
 | nil => intro acc; rfl
 | cons c l ih =>
  intro acc
  simp only [List.cons_append, Lib.decFrom]
  cases Lib.digitVal c with
  | none => rfl
  | some d => exact ih _
theorem zJy {d : Nat} (h : d < 10) : Lib.digitVal (UInt8.ofNat (48 + d)) = some d := by
 unfold Lib.digitVal
 rw [zN7 h, if_pos (by omega)]
 congr 1; omega
theorem zZh : ∀ (u : Nat), Lib.decFrom 0 (Lib.decDigits u) = some u := by
 intro u
 induction u using Nat.strongRecOn with
 | ind u ih =>
  by_cases h : u < 10
  ·rw [Lib.decDigits_one h]
   simp only [Lib.decFrom, zJy h]
   congr 1; omega
  ·rw [yAB h, zXb, ih (u / 10) (by omega)]
   simp only [Option.bind_some, Lib.decFrom, zJy (show u % 10 < 10 by omega)]
   congr 1; omega
theorem zN8 (u : Nat) : Lib.decNat (Lib.decDigits u) = some u := by
 unfold Lib.decNat
 obtain ⟨c, l, e, _⟩ := yAD u
 rw [if_neg (by rw [e]; simp), zZh]
theorem zMf {l : Bys} {n : Int} (hl : l.length ≤ 18) (h : Lib.atoi l = some n) : zO9 l = n := by
 unfold zO9
 rw [Lib.atoiAll_short l hl, h]
 rfl
theorem zZi (u : Nat) : Lib.atoi (Lib.decDigits u) = some (u : Int) := by
 obtain ⟨c, l, e, hc⟩ := yAD u
 have h := zN8 u
 rw [e] at h ⊢
 simp only [Lib.atoi, yCW hc (show zS0 45 = false by decide), yCW hc (show zS0 43 = false by decide), Bool.false_eq_true, if_false, h, Option.map_some]
theorem yAE (u : Nat) : Lib.atoi (43 :: Lib.decDigits u) = some (u : Int) := by
 simp only [Lib.atoi, zN8, Option.map_some]
 rfl
theorem zQS (u : Nat) : Lib.atoi (45 :: Lib.decDigits u) = some (-(u : Int)) := by
 simp only [Lib.atoi, zN8, Option.map_some]
 rfl
def yCX (b : Int) : Bys := (if 0 ≤ b then [43] else []) ++ Lib.itoa b
theorem yCa {b : Int} (h : 0 ≤ b) : yCX b = 43 :: Lib.decDigits b.toNat := by
 unfold yCX Lib.itoa
 rw [if_pos h, if_neg (by omega)]; rfl
theorem yCb {b : Int} (h : b < 0) : yCX b = 45 :: Lib.decDigits b.natAbs := by
 unfold yCX Lib.itoa
 rw [if_neg (by omega), if_pos h]; rfl
theorem zZj (a b : Int) : zBS a b = Lib.itoa a ++ 110 :: yCX b := by
 unfold zBS yCX
 simp
theorem zZk {a : Int} (h : -1048576 ≤ a ∧ a ≤ 1048576) : zO9 (Lib.itoa a) = a := by
 unfold Lib.itoa
 split
 ·have := zX6 (u := a.natAbs) (by omega)
  rw [zMf (by rw [List.length_cons]; omega) (zQS _)]; omega
 ·have := zX6 (u := a.toNat) (by omega)
  rw [zMf (by omega) (zZi _)]; omega
theorem zZl {b : Int} (h : -1048576 ≤ b ∧ b ≤ 1048576) : zO9 (yCX b) = b := by
 by_cases hb : 0 ≤ b
 ·have := zX6 (u := b.toNat) (by omega)
  rw [yCa hb, zMf (by rw [List.length_cons]; omega) (yAE _)]; omega
 ·have := zX6 (u := b.natAbs) (by omega)
  rw [yCb (by omega), zMf (by rw [List.length_cons]; omega) (zQS _)]; omega
theorem zZm (a : Int) : ∀ c ∈ Lib.itoa a, c ≠ 110 := by
 intro c hc
 have hd : ∀ u, c ∈ Lib.decDigits u → c ≠ 110 := fun u hu e => by
  have := yAC u c hu
  rw [e] at this
  exact absurd this (by decide)
 unfold Lib.itoa at hc
 split at hc
 ·rcases List.mem_cons.1 hc with rfl | hc
  ·decide
  ·exact hd _ hc
 ·exact hd _ hc
theorem zX7 : ∀ (l r : Bys), (∀ c ∈ l, c ≠ 110) → Lib.indexByte (l ++ 110 :: r) 110 = l.length
 | [], r, _ => by simp [Lib.indexByte]
 | c :: l, r, h => by
  have ih := zX7 l r fun x hx => h x (List.mem_cons_of_mem _ hx)
  have hc : (c == 110) = false := by simpa using h c List.mem_cons_self
  simp only [List.cons_append, Lib.indexByte, hc, ih, List.length_cons]
  rw [if_neg (by simp), if_neg (by simp)]
  omega
theorem yCc (a b : Int) : Lib.cut (zBS a b) [110] = (Lib.itoa a, yCX b, true) := by
 unfold Lib.cut
 rw [zZj, Lib.index_one, zX7 _ _ (zZm a), if_pos (by omega)]
 simp
theorem zS1 {a b : Int} (h : zI7 a b = 0) : yB7 (zBS a b) = a ∧ yB8 (zBS a b) = b := by
 obtain ⟨h1, h2⟩ := yAz h
 unfold yB7 yB8
 rw [yCc]
 exact ⟨zZk h1, zZl h2⟩
theorem zXc {a b : Int} (h : zI7 a b = 0) : zFj (zBS a b) = true := by
 obtain ⟨h1, h2⟩ := zS1 h
 unfold zFj
 rw [h1, h2]
 exact decide_eq_true ⟨h, rfl⟩
end Go.Hx
end
