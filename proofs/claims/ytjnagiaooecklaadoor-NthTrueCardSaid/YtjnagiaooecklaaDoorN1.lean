/-
  Itoa, Atoi, and Index at one byte, of the library, in the layer's words; what is told of the library's variables. No other condition.
-/
import Derived.Test.YtjnagiaooecklaaDoorS2
import Derived.Test.YtjnagiaooecklaaDoorC7
import Derived.Test.YtjnagiaooecklaaDoorDD
import Derived.Lib.ItoaLen
import Derived.Test.YtjnagiaooecklaaDoorC8
import Derived.Lib.IndexMore
set_option linter.all false
set_option maxRecDepth 100000
namespace Go.Hx
open Go.Proofs Go.RowKit

/-- The name of the table of the powers of ten. -/
noncomputable def powName : String := ((Tryd.prog.globals[3]?).map (·.name)).getD ""
/-- What the program's variables hold: the powers of ten; the two errors. -/
structure NumOk (w : World) : Prop where
  size : 8 ≤ w.heap.size
  tab : Lib.TabIs Tryd.prog w powName .u64 Lib.pow10Tab
  syn : ∃ tp p, w.var? Tryd.prog "strconv.ErrSyntax" = some #[.iface tp p]
  rng : ∃ tp p, w.var? Tryd.prog "strconv.ErrRange" = some #[.iface tp p]

theorem var_keep {P : Program} {w w' : World} {n g : Nat} {name : String} (hg : P.globalNamed name = some g) (hgn : g < n) (h : ∀ b, b < n → w'.heap[b]? = w.heap[b]?) : w'.var? P name = w.var? P name := by
  unfold World.var?
  rw [hg]
  simp only [Option.bind_some]
  rw [h g hgn]
theorem size_keep {w w' : World} {n : Nat} (h : ∀ b, b < n → w'.heap[b]? = w.heap[b]?) (hs : n ≤ w.heap.size) : n ≤ w'.heap.size := by
  rcases Nat.eq_zero_or_pos n with h0 | h0
  · omega
  · have h1 := h (n - 1) (by omega)
    rw [Array.getElem?_eq_getElem (show n - 1 < w.heap.size by omega)] at h1
    have := (Array.getElem?_eq_some_iff.1 h1).1
    omega
theorem NumOk.keep {w w' : World} (h : ∀ b, b < 8 → w'.heap[b]? = w.heap[b]?) (hw : NumOk w) : NumOk w' where
  size := size_keep h hw.size
  tab := (var_keep (g := 3) (by kernel_rfl) (by decide) h).trans hw.tab
  syn := hw.syn.imp fun _ h1 => h1.imp fun _ h2 => (var_keep (g := 1) (by kernel_rfl) (by decide) h).trans h2
  rng := hw.rng.imp fun _ h1 => h1.imp fun _ h2 => (var_keep (g := 2) (by kernel_rfl) (by decide) h).trans h2

@[reducible] noncomputable def globNum : Glob := { ok := NumOk, n := 8, size := fun _ h => h.size, keep := fun _ _ h hw => hw.keep h }

section
attribute [local instance] globNum

theorem pres_of_below' {R : Nat → Prop} {w w' : World} (h : Below w.heap.size w w') : Pres R w w' := ⟨h.os, h.tape, h.output, h.size, fun b hb _ => h.block b hb⟩
theorem memOk_below' {m : Mem} {w w' : World} (hm : MemOk m w) (h : Below w.heap.size w w') : MemOk m w' := fun b o u hu => by
  have h1 := hm b o u hu
  have h2 : b < w.heap.size := World.block_lt_of_cell? w _ h1
  rw [← h1]
  exact World.cell?_of_block (h.block b h2)
/-- What a contract of the kit's says of a function of values alone. -/
theorem post_res {m : Mem} {w w' : World} {avs : List AV} {us : List Value} {e : Ending} {r : Res} (hm : MemOk m w) (h : Below w.heap.size w w') (hio : ioB avs us = none) (hr : ResRep m w w' (ownB avs us) r e) : Post m w avs us { res := r } e w' :=
  ⟨m, m.le_refl, memOk_below' hm h, pres_of_below' h, fun _ _ _ h => .inl h, (fun b hb => by rw [hio] at hb; cases hb), hr⟩
theorem flat_str {s : Bys} (h : s.length ≤ maxLen) : flat (mkS s) = true := by
  simp only [flat]
  exact decide_eq_true (by simpa [ByteArray.size] using h)
theorem str_flat {s : Bys} (h : flat (mkS s) = true) : s.length ≤ maxLen := by
  simp only [flat, decide_eq_true_eq] at h
  simpa [ByteArray.size] using h
theorem below_grow (w : World) (k : Nat) (os : Array Obj) : Below w.heap.size w (Sort.grow (w.drewN k) os) :=
  ⟨rfl, rfl, rfl, by show w.heap.size ≤ (w.heap ++ os).size; rw [Array.size_append]; omega, fun _ hj => Sort.heap_grow_old (w.drewN k) os hj⟩

theorem c_strconv_Itoa (n : Int) (h0 : -9223372036854775808 ≤ n) (h1 : n ≤ 9223372036854775807) : Contract Tryd.prog fn_strconv_Itoa [.val (iv n)] { res := .val (sv (Lib.itoa n)) } := by
  refine ⟨by kernel_rfl, fun m w us hm hargs _ hG _ => ?_⟩
  obtain ⟨u1, us1, rfl, h2, rfl⟩ := hargs
  obtain ⟨rfl, f1⟩ := h2
  have hT := Any.strconv_Itoa Tryd.l171 n h0 h1 w (by
    refine (congrArg (fun s => Lib.TabIs Tryd.prog w s .u64 Lib.pow10Tab) ?_).mp hG.tab
    kernel_rfl)
  change Calls Tryd.prog fn_strconv_Itoa _ _ _ at hT
  refine hT.mono fun e w' ⟨he, k, os, hw⟩ => post_res hm (hw ▸ below_grow w k os) rfl ⟨_, he, by simp, flat_str ?_⟩
  have h3 := Lib.itoa_length_le n h0 h1
  simp only [maxLen]
  omega

/-- The number that Atoi hands back. -/
def atoiV (s : Bys) : Int := match Lib.atoiAll s with
  | .ok v => v
  | .range => Lib.atoiSat s
  | _ => 0
theorem c_strconv_Atoi (s : Bys) (hs : s.length ≤ 281474976710656) : Contract Tryd.prog fn_strconv_Atoi [.val (sv s)] { res := .tup [iv (atoiV s), .one .any] } := by
  refine ⟨by kernel_rfl, fun m w us hm hargs _ hG _ => ?_⟩
  obtain ⟨u1, us1, rfl, h2, rfl⟩ := hargs
  obtain ⟨rfl, f1⟩ := h2
  cases h : Lib.atoiAll s with
  | ok v =>
    have hT := Any.strconv_Atoi_ok Tryd.l172 ⟨s.toArray⟩ (by simp [ByteArray.size]; omega) v (by simpa using h) w
    change Calls Tryd.prog fn_strconv_Atoi _ _ _ at hT
    refine hT.mono fun e w' ⟨he, hw⟩ => post_res hm ?_ rfl ⟨_, he, ?_⟩
    · rcases hw with rfl | ⟨t, rfl⟩
      · exact Below.refl _ _
      · exact ⟨rfl, rfl, rfl, by rw [Lib.bytesWorld_size]; omega, fun k hk => Lib.bytesWorld_at_old w _ _ k (by omega)⟩
    · unfold atoiV; rw [h]
      exact ⟨_, _, rfl, ⟨rfl, rfl⟩, _, _, rfl, rfl, rfl⟩
  | range =>
    obtain ⟨tp, p, hv⟩ := hG.rng
    have hT := Any.strconv_Atoi_range_var Tryd.l172 ⟨s.toArray⟩ (by simpa [ByteArray.size] using hs) (by simpa using h) tp p w hv
    change Calls Tryd.prog fn_strconv_Atoi _ _ _ at hT
    refine hT.mono fun e w' ⟨N, he, _, _, hb⟩ => post_res hm hb rfl ⟨_, he, ?_⟩
    unfold atoiV; rw [h]
    exact ⟨_, _, rfl, ⟨rfl, rfl⟩, _, _, rfl, rfl, rfl⟩
  | _ =>
    obtain ⟨tp, p, hv⟩ := hG.syn
    have hT := Any.strconv_Atoi_syntax_var Tryd.l172 ⟨s.toArray⟩ (by simpa [ByteArray.size] using hs) (by simpa using h) tp p w hv
    change Calls Tryd.prog fn_strconv_Atoi _ _ _ at hT
    refine hT.mono fun e w' ⟨N, he, _, _, hb⟩ => post_res hm hb rfl ⟨_, he, ?_⟩
    unfold atoiV; rw [h]
    exact ⟨_, _, rfl, ⟨rfl, rfl⟩, _, _, rfl, rfl, rfl⟩
theorem c_Index_one (s : Bys) (c : UInt8) : Contract Tryd.prog fn_internal_stringslite_Index [.val (sv s), .val (sv [c])] { res := .val (iv (Lib.indexByte s c)) } := by
  refine ⟨by kernel_rfl, fun m w us hm hargs _ hG _ => ?_⟩
  obtain ⟨u1, us1, rfl, h1, u2, us2, rfl, h2, rfl⟩ := hargs
  obtain ⟨rfl, f1⟩ := h1
  obtain ⟨rfl, f2⟩ := h2
  have hT := Any.stringslite_Index_one Tryd.l219 ⟨s.toArray⟩ c w
  change Calls Tryd.prog fn_internal_stringslite_Index _ _ _ at hT
  refine hT.mono fun e w' ⟨he, hw⟩ => post_res hm (hw ▸ Below.refl _ _) rfl ⟨_, he, rfl, rfl⟩
end
end Go.Hx
