/-
  Walks of functions of the program over an abstract layer, and the laws that they use: each contract says what the function computes, for every input that its conditions let by. No other condition.
-/
import Derived.Test.YtjnagiaooecklabGreatDoorG9
import Derived.Test.YtjnagiaooecklabGreatDoorG10
import Derived.Test.YtjnagiaooecklabGreatDoorG8
import Derived.Lib.ItoaLen
import Derived.Lib.IndexMore
set_option linter.all false
section
/-
 Itoa, Atoi, and Index at one byte, of the library, in the layer's words; what is told of the library's variables. No other condition.
-/
set_option maxRecDepth 100000
namespace Go.Hx
open Go.Proofs Go.RowKit
attribute [local go_sem] zAw zAu zAv zAm ndV zAq
noncomputable def powName : String := ((Tryz.prog.globals[3]?).map (·.name)).getD ""
structure NumOk (w : World) : Prop where
 size : 8 ≤ w.heap.size
 tab : Lib.TabIs Tryz.prog w powName .u64 Lib.pow10Tab
 syn : ∃ tp p, w.var? Tryz.prog "strconv.ErrSyntax" = some #[.iface tp p]
 rng : ∃ tp p, w.var? Tryz.prog "strconv.ErrRange" = some #[.iface tp p]
 mx : ∃ m : Int, w.cell? ⟨0, 0, none⟩ = some (.int .i64 m)
theorem zOT {P : Program} {w w' : World} {n g : Nat} {name : String} (hg : P.globalNamed name = some g) (hgn : g < n) (h : ∀ b, b < n → w'.heap[b]? = w.heap[b]?) : w'.var? P name = w.var? P name := by
 unfold World.var?
 rw [hg]
 simp only [Option.bind_some]
 rw [h g hgn]
theorem zWA {w w' : World} {n : Nat} (h : ∀ b, b < n → w'.heap[b]? = w.heap[b]?) (hs : n ≤ w.heap.size) : n ≤ w'.heap.size := by
 rcases Nat.eq_zero_or_pos n with h0 | h0
 ·omega
 ·have h1 := h (n - 1) (by omega)
  rw [Array.getElem?_eq_getElem (show n - 1 < w.heap.size by omega)] at h1
  have := (Array.getElem?_eq_some_iff.1 h1).1
  omega
theorem zWB {w w' : World} {n b o : Nat} (hb : b < n) (h : ∀ b, b < n → w'.heap[b]? = w.heap[b]?) : w'.cell? ⟨b, o, none⟩ = w.cell? ⟨b, o, none⟩ := by
 unfold World.cell?
 simp only
 rw [h b hb]
theorem NumOk.keep {w w' : World} (h : ∀ b, b < 8 → w'.heap[b]? = w.heap[b]?) (hw : NumOk w) : NumOk w' where
 size := zWA h hw.size
 tab := (zOT (g := 3) (by kernel_rfl) (by decide) h).trans hw.tab
 syn := hw.syn.imp fun _ h1 => h1.imp fun _ h2 => (zOT (g := 4) (by kernel_rfl) (by decide) h).trans h2
 rng := hw.rng.imp fun _ h1 => h1.imp fun _ h2 => (zOT (g := 5) (by kernel_rfl) (by decide) h).trans h2
 mx := hw.mx.imp fun _ h1 => (zWB (by decide) h).trans h1
@[reducible] noncomputable def zAZ : Glob := { ok := NumOk, n := 8, size := fun _ h => h.size, keep := fun _ _ h hw => hw.keep h }
section
attribute [local instance] zAZ
theorem zNb {R : Nat → Prop} {w w' : World} (h : Below w.heap.size w w') : Pres R w w' := ⟨h.os, h.tape, h.output, h.size, fun b hb _ => h.block b hb⟩
theorem zQ9 {m : Mem} {w w' : World} (hm : MemOk m w) (h : Below w.heap.size w w') : MemOk m w' := fun b o u hu => by
 have h1 := hm b o u hu
 have h2 : b < w.heap.size := World.block_lt_of_cell? w _ h1
 rw [← h1]
 exact World.cell?_of_block (h.block b h2)
theorem zG2 {m : Mem} {w w' : World} {avs : List AV} {us : List Value} {e : Ending} {r : Res} (hm : MemOk m w) (h : Below w.heap.size w w') (hio : ioB avs us = none) (hr : zLi m w w' (zFE avs us) r e) : zXB m w avs us { res := r } e w' :=
 ⟨m, m.le_refl, zQ9 hm h, zNb h, fun _ _ _ h => .inl h, (fun b hb => by rw [hio] at hb; cases hb), hr⟩
theorem zYe {s : Bys} (h : s.length ≤ maxLen) : zEd (mkS s) = true := by
 simp only [zEd]
 exact decide_eq_true (by simpa [ByteArray.size] using h)
theorem zVm (w : World) (k : Nat) (os : Array Obj) : Below w.heap.size w (Sort.grow (w.drewN k) os) :=
 ⟨rfl, rfl, rfl, by show w.heap.size ≤ (w.heap ++ os).size; rw [Array.size_append]; omega, fun _ hj => Sort.heap_grow_old (w.drewN k) os hj⟩
theorem zEA (n : Int) (h0 : -9223372036854775808 ≤ n) (h1 : n ≤ 9223372036854775807) : Contract Tryz.prog zCT [.val (iv n)] { res := .val (sv (Lib.itoa n)) } := by
 refine ⟨by kernel_rfl, fun m w us hm hargs _ hG _ => ?_⟩
 obtain ⟨u1, us1, rfl, h2, rfl⟩ := hargs
 obtain ⟨rfl, f1⟩ := h2
 have hT := Any.strconv_Itoa Tryz.l171 n h0 h1 w (by
  refine (congrArg (fun s => Lib.TabIs Tryz.prog w s .u64 Lib.pow10Tab) ?_).mp hG.tab
  kernel_rfl)
 change Calls Tryz.prog zCT _ _ _ at hT
 refine hT.mono fun e w' ⟨he, k, os, hw⟩ => zG2 hm (hw ▸ zVm w k os) rfl ⟨_, he, by simp, zYe ?_⟩
 have h3 := Lib.itoa_length_le n h0 h1
 simp only [maxLen]
 omega
def zNc (s : Bys) : Int := match Lib.atoiAll s with
 | .ok v => v
 | .range => Lib.atoiSat s
 | _ => 0
theorem zGm (s : Bys) (hs : s.length ≤ 281474976710656) : Contract Tryz.prog zBE [.val (sv s)] { res := .tup [iv (zNc s), .one .any] } := by
 refine ⟨by kernel_rfl, fun m w us hm hargs _ hG _ => ?_⟩
 obtain ⟨u1, us1, rfl, h2, rfl⟩ := hargs
 obtain ⟨rfl, f1⟩ := h2
 cases h : Lib.atoiAll s with
 | ok v =>
  have hT := Any.strconv_Atoi_ok Tryz.l172 ⟨s.toArray⟩ (by simp [ByteArray.size]; omega) v (by simpa using h) w
  change Calls Tryz.prog zBE _ _ _ at hT
  refine hT.mono fun e w' ⟨he, hw⟩ => zG2 hm ?_ rfl ⟨_, he, ?_⟩
  ·rcases hw with rfl | ⟨t, rfl⟩
   ·exact Below.refl _ _
   ·exact ⟨rfl, rfl, rfl, by rw [Lib.bytesWorld_size]; omega, fun k hk => Lib.bytesWorld_at_old w _ _ k (by omega)⟩
  ·unfold zNc; rw [h]
   exact ⟨_, _, rfl, ⟨rfl, rfl⟩, _, _, rfl, rfl, rfl⟩
 | range =>
  obtain ⟨tp, p, hv⟩ := hG.rng
  have hT := Any.strconv_Atoi_range_var Tryz.l172 ⟨s.toArray⟩ (by simpa [ByteArray.size] using hs) (by simpa using h) tp p w hv
  change Calls Tryz.prog zBE _ _ _ at hT
  refine hT.mono fun e w' ⟨N, he, _, _, hb⟩ => zG2 hm hb rfl ⟨_, he, ?_⟩
  unfold zNc; rw [h]
  exact ⟨_, _, rfl, ⟨rfl, rfl⟩, _, _, rfl, rfl, rfl⟩
 | _ =>
  obtain ⟨tp, p, hv⟩ := hG.syn
  have hT := Any.strconv_Atoi_syntax_var Tryz.l172 ⟨s.toArray⟩ (by simpa [ByteArray.size] using hs) (by simpa using h) tp p w hv
  change Calls Tryz.prog zBE _ _ _ at hT
  refine hT.mono fun e w' ⟨N, he, _, _, hb⟩ => zG2 hm hb rfl ⟨_, he, ?_⟩
  unfold zNc; rw [h]
  exact ⟨_, _, rfl, ⟨rfl, rfl⟩, _, _, rfl, rfl, rfl⟩
theorem zTj (s : Bys) (c : UInt8) : Contract Tryz.prog zA5 [.val (sv s), .val (sv [c])] { res := .val (iv (Lib.indexByte s c)) } := by
 refine ⟨by kernel_rfl, fun m w us hm hargs _ hG _ => ?_⟩
 obtain ⟨u1, us1, rfl, h1, u2, us2, rfl, h2, rfl⟩ := hargs
 obtain ⟨rfl, f1⟩ := h1
 obtain ⟨rfl, f2⟩ := h2
 have hT := Any.stringslite_Index_one Tryz.l219 ⟨s.toArray⟩ c w
 change Calls Tryz.prog zA5 _ _ _ at hT
 refine hT.mono fun e w' ⟨he, hw⟩ => zG2 hm (hw ▸ Below.refl _ _) rfl ⟨_, he, rfl, rfl⟩
end
end Go.Hx
end

section
set_option maxRecDepth 100000
set_option linter.unusedSimpArgs false
namespace Go.Hx
open Go.Proofs
attribute [local instance] zAZ
attribute [local go_sem] zAw zAu zAv zAm ndV zAq zAl
attribute [local go_sem] reduceCtorEq Nat.reduceAdd Nat.reduceEqDiff reduceIte Nat.reduceLeDiff Nat.reduceLT Nat.reduceSub
theorem zIV : ∀ (s : Bys) (c : UInt8), -1 ≤ Lib.indexByte s c ∧ Lib.indexByte s c < s.length
 | [], c => by simp [Lib.indexByte]
 | b :: l, c => by
  have ih := zIV l c
  simp only [Lib.indexByte, List.length_cons]
  split
  ·omega
  ·split <;> omega
theorem yAA (s t : Bys) : (Lib.cut s t).1.length ≤ s.length ∧ (Lib.cut s t).2.1.length ≤ s.length := by
 unfold Lib.cut
 split
 ·simp; omega
 ·simp
theorem zIC (s : Bys) (c : UInt8) (hs : s.length ≤ 140737488355328) : Contract Tryz.prog zBj [.val (sv s), .val (sv [c])] { res := .tup [sv (Lib.cut s [c]).1, sv (Lib.cut s [c]).2.1, bv (Lib.cut s [c]).2.2] } := by
 have hb := zIV s c
 refine zD4 (base := 0) ⟨Nat.le_of_ble_eq_true rfl, Nat.le_of_ble_eq_true rfl, Nat.le_of_ble_eq_true rfl, rfl⟩ (fun hfit => ?_)
 unfold F0 zAX
 simp (maxSteps := 2000000) only [zAS, List.set_cons_succ, List.set_cons_zero, List.map_cons, List.map_nil, zAQ, zAb, ioOf, List.length_cons, List.length_nil, Nat.reduceAdd, Nat.reduceSub, List.replicate, List.cons_append, List.nil_append]
 try simp (maxSteps := 2000000) only [go_sem]
 repeat with_reducible refine zAc ?_
 refine zAf (by repeat' constructor) (zTj s c) ?_
 try simp (maxSteps := 2000000) only [go_sem]
 repeat with_reducible refine zAc ?_
 refine zAa (by rfl) trivial (fun h => ?_) (fun h => ?_)
 ·have h2 : 0 ≤ Lib.indexByte s c := by simpa using h
  have e : Lib.cut s [c] = (s.take (Lib.indexByte s c).toNat, s.drop ((Lib.indexByte s c).toNat + 1), true) := by
   unfold Lib.cut
   rw [Lib.index_one, if_pos h2]
   rfl
  have hsl : (0 : Int) ≤ 0 ∧ 0 ≤ Lib.indexByte s c ∧ Lib.indexByte s c ≤ s.length := by omega
  have hsl2 : 0 ≤ Lib.indexByte s c + 1 ∧ Lib.indexByte s c + 1 ≤ (s.length : Int) ∧ (s.length : Int) ≤ s.length := by omega
  have e2 : (Lib.indexByte s c + 1).toNat = (Lib.indexByte s c).toNat + 1 := by omega
  try simp (maxSteps := 2000000) only [go_sem, List.take_length, Int.toNat_zero]
  repeat with_reducible refine zAc ?_
  rw [e]
  exact zCS (by simp) ⟨zBa rfl trivial (.inl rfl), zBa rfl trivial (.inl (by rw [← e2]; rfl)), zBa rfl trivial (.inl rfl), rfl⟩
 ·have h2 : ¬ 0 ≤ Lib.indexByte s c := by simpa using h
  have e : Lib.cut s [c] = (s, [], false) := by
   unfold Lib.cut
   rw [Lib.index_one, if_neg h2]
  try simp (maxSteps := 2000000) only [go_sem]
  repeat with_reducible refine zAc ?_
  rw [e]
  exact zCS (by simp) ⟨zBa rfl trivial (.inl rfl), zBa rfl trivial (.inl rfl), zBa rfl trivial (.inl rfl), rfl⟩
theorem zPO (s : Bys) (c : UInt8) (hs : s.length ≤ 140737488355328) : Contract Tryz.prog zBR [.val (sv s), .val (sv [c])] { res := .tup [sv (Lib.cut s [c]).1, sv (Lib.cut s [c]).2.1, bv (Lib.cut s [c]).2.2] } := by
 refine zNa (base := 0) ⟨Nat.le_of_ble_eq_true rfl, Nat.le_of_ble_eq_true rfl, Nat.le_of_ble_eq_true rfl, rfl⟩ (fun hfit => ?_)
 unfold F0 zDO
 simp (maxSteps := 2000000) only [zAS, List.set_cons_succ, List.set_cons_zero, List.map_cons, List.map_nil, zAQ, zAb, ioOf, List.length_cons, List.length_nil, Nat.reduceAdd, Nat.reduceSub, List.replicate, List.cons_append, List.nil_append]
 try simp (maxSteps := 2000000) only [go_sem]
 repeat with_reducible refine zAc ?_
 refine zAF (by repeat' constructor) (zIC s c hs) ?_
 try simp (maxSteps := 2000000) only [go_sem]
 repeat with_reducible refine zAc ?_
 exact zCS (by simp) ⟨zBa rfl trivial (.inl rfl), zBa rfl trivial (.inl rfl), zBa rfl trivial (.inl rfl), rfl⟩
end Go.Hx
end

section
set_option maxRecDepth 100000
set_option linter.unusedSimpArgs false
namespace Go.Hx
open Go.Proofs
attribute [local instance] zAZ
attribute [local go_sem] zAw zAu zAv zAm ndV zAq zAl
attribute [local go_sem] reduceCtorEq Nat.reduceAdd Nat.reduceEqDiff reduceIte Nat.reduceLeDiff Nat.reduceLT Nat.reduceSub
def zBK (a b : Int) : Bys := Lib.itoa a ++ [110] ++ ((if 0 ≤ b then [43] else []) ++ Lib.itoa b)
theorem zGa {a : Int} (h : -1048576 ≤ a ∧ a ≤ 1048576) : (Lib.itoa a).length ≤ 21 := Lib.itoa_length_le a (by omega) (by omega)
theorem zOb (a b : Int) : Contract Tryz.prog zFd [.val (zYr a b)] { res := .tup [sv (if zM0 a b = 0 then zBK a b else []), iv (zM0 a b)] } := by
 unfold zYr
 refine zS8 (base := 0) ⟨Nat.le_of_ble_eq_true rfl, Nat.le_of_ble_eq_true rfl, Nat.le_of_ble_eq_true rfl, rfl⟩ (fun hfit => ?_)
 unfold F0 zF4
 simp (maxSteps := 2000000) only [zAS, List.set_cons_succ, List.set_cons_zero, List.map_cons, List.map_nil, zAQ, zAb, ioOf, List.length_cons, List.length_nil, Nat.reduceAdd, Nat.reduceSub, List.replicate, List.cons_append, List.nil_append]
 try simp (maxSteps := 2000000) only [go_sem]
 repeat with_reducible refine zAc ?_
 refine zAf (by repeat' constructor) (zMn a b) ?_
 try simp (maxSteps := 2000000) only [go_sem]
 repeat with_reducible refine zAc ?_
 refine zAa (by rfl) trivial (fun h => ?_) (fun h => ?_)
 ·try simp (maxSteps := 2000000) only [go_sem]
  repeat with_reducible refine zAc ?_
  have : ¬ zM0 a b = 0 := by simpa using h
  rw [if_neg this]
  exact zCS (by simp) ⟨zBa rfl trivial (.inl rfl), zBa rfl trivial (.inl rfl), rfl⟩
 have h2 : zM0 a b = 0 := by simpa using h
 obtain ⟨h3, h4⟩ := zWU h2
 have l1 := zGa h3
 have l2 := zGa h4
 have hm : maxLen = 9223372036854775807 := rfl
 try simp (maxSteps := 2000000) only [go_sem]
 repeat with_reducible refine zAc ?_
 refine zAf (by repeat' constructor) (zEA b (by omega) (by omega)) ?_
 try simp (maxSteps := 2000000) only [go_sem]
 repeat with_reducible refine zAc ?_
 refine zAa (by rfl) trivial (fun h5 => ?_) (fun h5 => ?_)
 ·try simp (maxSteps := 2000000) only [go_sem, List.length_append, List.length_cons, List.length_nil, Nat.zero_add]
  repeat with_reducible refine zAc ?_
  refine zAf (by repeat' constructor) (zEA a (by omega) (by omega)) ?_
  try simp (maxSteps := 2000000) only [go_sem, List.length_append, List.length_cons, List.length_nil, Nat.zero_add]
  repeat with_reducible refine zAc ?_
  rw [h2, if_pos rfl]
  refine zCS (by simp) ⟨zBa rfl trivial (.inl ?_), zBa rfl trivial (.inl rfl), rfl⟩
  unfold zBK
  rw [if_pos (by simpa using h5)]
  rfl
 ·try simp (maxSteps := 2000000) only [go_sem, List.length_append, List.length_cons, List.length_nil, Nat.zero_add]
  repeat with_reducible refine zAc ?_
  refine zAf (by repeat' constructor) (zEA a (by omega) (by omega)) ?_
  try simp (maxSteps := 2000000) only [go_sem, List.length_append, List.length_cons, List.length_nil, Nat.zero_add]
  repeat with_reducible refine zAc ?_
  rw [h2, if_pos rfl]
  refine zCS (by simp) ⟨zBa rfl trivial (.inl ?_), zBa rfl trivial (.inl rfl), rfl⟩
  unfold zBK
  rw [if_neg (by simpa using h5)]
  rfl
def zYs (s : Bys) : Int := zNc (Lib.cut s [110]).1
def zYt (s : Bys) : Int := zNc (Lib.cut s [110]).2.1
def zEQ (s : Bys) : Bool := decide (zM0 (zYs s) (zYt s) = 0 ∧ zBK (zYs s) (zYt s) = s)
theorem zVF (s : Bys) (hs : s.length ≤ 140737488355328) : Contract Tryz.prog zGu [.val (sv s)] { res := .tup [zYr (if zEQ s then zYs s else 0) (if zEQ s then zYt s else 0), iv (if zEQ s then 0 else 1)] } := by
 refine zTi (base := 0) ⟨Nat.le_of_ble_eq_true rfl, Nat.le_of_ble_eq_true rfl, Nat.le_of_ble_eq_true rfl, rfl⟩ (fun hfit => ?_)
 unfold F0 zF5
 simp (maxSteps := 2000000) only [zAS, List.set_cons_succ, List.set_cons_zero, List.map_cons, List.map_nil, zAQ, zAb, ioOf, List.length_cons, List.length_nil, Nat.reduceAdd, Nat.reduceSub, List.replicate, List.cons_append, List.nil_append]
 try simp (maxSteps := 2000000) only [go_sem]
 repeat with_reducible refine zAc ?_
 have hl := yAA s [110]
 refine zAF (by repeat' constructor) (zPO s 110 hs) ?_
 try simp (maxSteps := 2000000) only [go_sem]
 repeat with_reducible refine zAc ?_
 refine zAF (by repeat' constructor) (zGm (Lib.cut s [110]).1 (by omega)) ?_
 try simp (maxSteps := 2000000) only [go_sem]
 repeat with_reducible refine zAc ?_
 refine zAF (by repeat' constructor) (zGm (Lib.cut s [110]).2.1 (by omega)) ?_
 try simp (maxSteps := 2000000) only [go_sem]
 repeat with_reducible refine zAc ?_
 refine zAF (by repeat' constructor) (zOb (zYs s) (zYt s)) ?_
 try simp (maxSteps := 2000000) only [go_sem]
 repeat with_reducible refine zAc ?_
 refine zAa (by rfl) trivial (fun h => ?_) (fun h => ?_)
 ·try simp (maxSteps := 2000000) only [go_sem]
  repeat with_reducible refine zAc ?_
  have h2 : zEQ s = false := by
   unfold zEQ
   refine decide_eq_false fun hc => ?_
   rw [hc.1, if_pos rfl, hc.2] at h
   simp at h
  rw [h2]
  exact zCS (by simp) ⟨zBc rfl rfl (.inl rfl), zBa rfl trivial (.inl rfl), rfl⟩
 ·try simp (maxSteps := 2000000) only [go_sem]
  repeat with_reducible refine zAc ?_
  have h2 : zEQ s = true := by
   unfold zEQ
   refine decide_eq_true ?_
   simp at h
   obtain ⟨h3, h4⟩ := h
   rw [if_pos h3] at h4
   exact ⟨h3, h4⟩
  rw [h2]
  exact zCS (by simp) ⟨zBc rfl rfl (.inl rfl), zBa rfl trivial (.inl rfl), rfl⟩
end Go.Hx
end

section
set_option maxRecDepth 100000
set_option linter.unusedSimpArgs false
namespace Go.Hx
open Go.Proofs
attribute [local instance] zAZ
attribute [local go_sem] zAw zAu zAv zAm ndV zAq zAl u8s Option.map_some
theorem zYu {n : Int} (h : n < 0) : Lib.itoa n = 45 :: Lib.itoa (-n) := by
 unfold Lib.itoa
 rw [if_pos h, if_neg (by omega)]
 congr 2
 omega
end Go.Hx
end

section
set_option maxRecDepth 100000
set_option linter.unusedSimpArgs false
namespace Go.Hx
open Go.Proofs
attribute [local instance] zAZ
attribute [local go_sem] zAw zAu zAv zAm ndV zAq zAl zYr
end Go.Hx
end

section
set_option maxRecDepth 100000
set_option linter.unusedSimpArgs false
namespace Go.Hx
open Go.Proofs
attribute [local instance] zAZ
attribute [local go_sem] zAw zAu zAv zAm ndV zAq zAl zYr
theorem zMo {E : Env} {base : Nat} {av : List AV} {F : List Ct} {x : PVal} {t j bs off n : Nat} {agg : Bool} {cs cells io : List PV} (e : F.getD t .un = .ptr j off) (h : zAD F (bs + off) n = some cs) (hx : x = (if agg then PVal.agg cs else .one (cs.headD (.nl 0)))) (hio : ioOf av = some cells) (hc : zAD F base cells.length = some io) : zDb E base av [.cellB t j bs off n agg] { res := .val x, io := io } .ret F := by
 refine ⟨?_, fun cs h => by rw [hio] at h; injection h with h; subst h; exact hc⟩
 simp only [zCF, rsV, e, h]
 exact ⟨trivial, trivial, .inl hx⟩
end Go.Hx
end

section
/-
 Counts, in plain Lean: a text of a count is read as it was, by the library's Atoi and by the document's reader; where a count holds. No program in sight. No condition.
-/
namespace Go.Hx
attribute [local instance] zAZ
def zPR (c : UInt8) : Bool := decide (48 ≤ c.toNat ∧ c.toNat ≤ 57)
theorem zMp {d : Nat} (h : d < 10) : (UInt8.ofNat (48 + d)).toNat = 48 + d := by
 rw [UInt8.toNat_ofNat']; omega
theorem zWV {u : Nat} (h : ¬ u < 10) : Lib.decDigits u = Lib.decDigits (u / 10) ++ [UInt8.ofNat (48 + u % 10)] := by
 rw [Lib.decDigits, dif_neg h]
theorem zWW : ∀ (u : Nat), ∀ c ∈ Lib.decDigits u, zPR c = true := by
 intro u
 induction u using Nat.strongRecOn with
 | ind u ih =>
  intro c hc
  by_cases h : u < 10
  ·rw [Lib.decDigits_one h, List.mem_singleton] at hc
   subst hc
   unfold zPR
   rw [zMp h]
   simp; omega
  ·rw [zWV h] at hc
   rcases List.mem_append.1 hc with hc | hc
   ·exact ih (u / 10) (by omega) c hc
   ·rw [List.mem_singleton] at hc
    subst hc
    unfold zPR
    rw [zMp (by omega)]
    simp; omega
theorem yDW (u : Nat) : Lib.decDigits u ≠ [] := by
 intro h
 have := Lib.decDigits_length u
 rw [h] at this
 have := Lib.nDigits_pos u
 simp at *
 omega
theorem zWX (u : Nat) : ∃ c l, Lib.decDigits u = c :: l ∧ zPR c = true := by
 cases h : Lib.decDigits u with
 | nil => exact absurd h (yDW u)
 | cons c l => exact ⟨c, l, rfl, zWW u c (by rw [h]; exact List.mem_cons_self)⟩
theorem yCB : ∀ (k u : Nat), 0 < k → u < 10 ^ k → Lib.nDigits u ≤ k
 | 0, u, h, _ => by omega
 | k + 1, u, _, h => by
  by_cases h1 : u < 10
  ·rw [Lib.nDigits_small h1]; omega
  ·rw [Lib.nDigits_big h1]
   have h2 : u / 10 < 10 ^ k := by
    rw [Nat.pow_succ] at h
    omega
   have h3 : 0 < k := by
    rcases Nat.eq_zero_or_pos k with e | e
    ·subst e; simp at h; omega
    ·exact e
   have := yCB k (u / 10) h3 h2
   omega
theorem zUI {u : Nat} (h : u ≤ 1048576) : (Lib.decDigits u).length ≤ 8 := by
 rw [Lib.decDigits_length]
 exact yCB 8 u (by omega) (by omega)
theorem zZk {c : UInt8} (h : zPR c = true) {d : UInt8} (hd : zPR d = false) : (c == d) = false := by
 rw [beq_eq_false_iff_ne]
 rintro rfl
 rw [h] at hd; cases hd
theorem zTR (l r : Bys) : ∀ acc, Lib.decFrom acc (l ++ r) = (Lib.decFrom acc l).bind fun m => Lib.decFrom m r := by
 induction l with
 | nil => intro acc; rfl
 | cons c l ih =>
  intro acc
  simp only [List.cons_append, Lib.decFrom]
  cases Lib.digitVal c with
  | none => rfl
  | some d => exact ih _
theorem zIW {d : Nat} (h : d < 10) : Lib.digitVal (UInt8.ofNat (48 + d)) = some d := by
 unfold Lib.digitVal
 rw [zMp h, if_pos (by omega)]
 congr 1; omega
theorem zVG : ∀ (u : Nat), Lib.decFrom 0 (Lib.decDigits u) = some u := by
 intro u
 induction u using Nat.strongRecOn with
 | ind u ih =>
  by_cases h : u < 10
  ·rw [Lib.decDigits_one h]
   simp only [Lib.decFrom, zIW h]
   congr 1; omega
  ·rw [zWV h, zTR, ih (u / 10) (by omega)]
   simp only [Option.bind_some, Lib.decFrom, zIW (show u % 10 < 10 by omega)]
   congr 1; omega
theorem zMq (u : Nat) : Lib.decNat (Lib.decDigits u) = some u := by
 unfold Lib.decNat
 obtain ⟨c, l, e, _⟩ := zWX u
 rw [if_neg (by rw [e]; simp), zVG]
theorem zK9 {l : Bys} {n : Int} (hl : l.length ≤ 18) (h : Lib.atoi l = some n) : zNc l = n := by
 unfold zNc
 rw [Lib.atoiAll_short l hl, h]
 rfl
theorem zVH (u : Nat) : Lib.atoi (Lib.decDigits u) = some (u : Int) := by
 obtain ⟨c, l, e, hc⟩ := zWX u
 have h := zMq u
 rw [e] at h ⊢
 simp only [Lib.atoi, zZk hc (show zPR 45 = false by decide), zZk hc (show zPR 43 = false by decide), Bool.false_eq_true, if_false, h, Option.map_some]
theorem zWY (u : Nat) : Lib.atoi (43 :: Lib.decDigits u) = some (u : Int) := by
 simp only [Lib.atoi, zMq, Option.map_some]
 rfl
theorem zOc (u : Nat) : Lib.atoi (45 :: Lib.decDigits u) = some (-(u : Int)) := by
 simp only [Lib.atoi, zMq, Option.map_some]
 rfl
def zZl (b : Int) : Bys := (if 0 ≤ b then [43] else []) ++ Lib.itoa b
theorem zYv {b : Int} (h : 0 ≤ b) : zZl b = 43 :: Lib.decDigits b.toNat := by
 unfold zZl Lib.itoa
 rw [if_pos h, if_neg (by omega)]; rfl
theorem zYw {b : Int} (h : b < 0) : zZl b = 45 :: Lib.decDigits b.natAbs := by
 unfold zZl Lib.itoa
 rw [if_neg (by omega), if_pos h]; rfl
theorem zVI (a b : Int) : zBK a b = Lib.itoa a ++ 110 :: zZl b := by
 unfold zBK zZl
 simp
theorem zVJ {a : Int} (h : -1048576 ≤ a ∧ a ≤ 1048576) : zNc (Lib.itoa a) = a := by
 unfold Lib.itoa
 split
 ·have := zUI (u := a.natAbs) (by omega)
  rw [zK9 (by rw [List.length_cons]; omega) (zOc _)]; omega
 ·have := zUI (u := a.toNat) (by omega)
  rw [zK9 (by omega) (zVH _)]; omega
theorem zVK {b : Int} (h : -1048576 ≤ b ∧ b ≤ 1048576) : zNc (zZl b) = b := by
 by_cases hb : 0 ≤ b
 ·have := zUI (u := b.toNat) (by omega)
  rw [zYv hb, zK9 (by rw [List.length_cons]; omega) (zWY _)]; omega
 ·have := zUI (u := b.natAbs) (by omega)
  rw [zYw (by omega), zK9 (by rw [List.length_cons]; omega) (zOc _)]; omega
theorem zVL (a : Int) : ∀ c ∈ Lib.itoa a, c ≠ 110 := by
 intro c hc
 have hd : ∀ u, c ∈ Lib.decDigits u → c ≠ 110 := fun u hu e => by
  have := zWW u c hu
  rw [e] at this
  exact absurd this (by decide)
 unfold Lib.itoa at hc
 split at hc
 ·rcases List.mem_cons.1 hc with rfl | hc
  ·decide
  ·exact hd _ hc
 ·exact hd _ hc
theorem zUJ : ∀ (l r : Bys), (∀ c ∈ l, c ≠ 110) → Lib.indexByte (l ++ 110 :: r) 110 = l.length
 | [], r, _ => by simp [Lib.indexByte]
 | c :: l, r, h => by
  have ih := zUJ l r fun x hx => h x (List.mem_cons_of_mem _ hx)
  have hc : (c == 110) = false := by simpa using h c List.mem_cons_self
  simp only [List.cons_append, Lib.indexByte, hc, ih, List.length_cons]
  rw [if_neg (by simp), if_neg (by simp)]
  omega
theorem zYx (a b : Int) : Lib.cut (zBK a b) [110] = (Lib.itoa a, zZl b, true) := by
 unfold Lib.cut
 rw [zVI, Lib.index_one, zUJ _ _ (zVL a), if_pos (by omega)]
 simp
theorem zPS {a b : Int} (h : zM0 a b = 0) : zYs (zBK a b) = a ∧ zYt (zBK a b) = b := by
 obtain ⟨h1, h2⟩ := zWU h
 unfold zYs zYt
 rw [zYx]
 exact ⟨zVJ h1, zVK h2⟩
theorem zTS {a b : Int} (h : zM0 a b = 0) : zEQ (zBK a b) = true := by
 obtain ⟨h1, h2⟩ := zPS h
 unfold zEQ
 rw [h1, h2]
 exact decide_eq_true ⟨h, rfl⟩
end Go.Hx
end
