/-
  What the laws over counts are told of the library's variables; their arguments; a world that holds what their rows list. No condition.
-/
import Derived.Test.YtjnagiaooecklaaDoorZ2
import Derived.Test.YtjnagiaooecklaaDoorN1
import Derived.Lib.LaidTab
import Derived.Stop.LaidErr
import Derived.ChangeMaps5
import Derived.Deep.DeepWitnessRowRef
set_option linter.all false
set_option maxRecDepth 100000
namespace Go.Hx
open Go.RowKit Go.ChangeShapes Go.WideShapes Go.WideElems Go.Proofs

theorem var_size {P : Program} {W : World} {name : String} {g : Nat} {cs : Array Value} (hg : P.globalNamed name = some g) (h : W.var? P name = some cs) : g < W.heap.size := by
  unfold World.var? at h
  rw [hg] at h
  simp only [Option.bind_some] at h
  cases hh : W.heap[g]? with
  | none => rw [hh] at h; cases h
  | some o => exact (Array.getElem?_eq_some_iff.1 hh).1
theorem row_err (u : TypeId) (h : Tryd.prog.typeName? 3 u = Tryd.prog.typeName? 3 240) : u = 240 :=
  typeName_ptr_named (nm := "errors.errorString") (by kernel_rfl) (by kernel_rfl) (by decide) u (h.trans (by kernel_rfl))
theorem numOk_of {W : World} (h : laidMet Tryd.prog YtjnagiaooecklaaDoor.Rows.nthTellsRow.laid W) : NumOk W := by
  have t1 := laidMet.tail h
  have t2 := t1.tail
  have t3 := t2.tail
  have t4 := t3.tail
  have tab0 := Lib.tabIs_of_head (k := .u64) (zs := Lib.pow10Tab) (g := 3) (t := 232) (e := 213) (n := 20) (by kernel_rfl) (by kernel_rfl) (by kernel_rfl) (by kernel_rfl) (by kernel_rfl) (by kernel_rfl) t2
  have tab : Lib.TabIs Tryd.prog W powName .u64 Lib.pow10Tab := by
    refine (congrArg (fun s => Lib.TabIs Tryd.prog W s .u64 Lib.pow10Tab) ?_).mp tab0
    kernel_rfl
  obtain ⟨ps, ⟨g', t', cs, fuel, p, q, hg', ht', hvar, _⟩, _⟩ := t1
  have h7 : 7 < W.heap.size := var_size (by kernel_rfl) hvar
  obtain ⟨a0, s0, hv0, -, -, -⟩ := laid_sentinel t3 (g := 2) (ti := 119) (tp := 240) (te := 242) (ts := 9) (by kernel_rfl) (by kernel_rfl) Tryd.underlying119 (fun u h => row_err u (h.trans (by kernel_rfl))) Tryd.underlying240 Tryd.underlying242 rfl rfl Tryd.underlying9 (by kernel_rfl) (by kernel_rfl)
  obtain ⟨a1, s1, hv1, -, -, -⟩ := laid_sentinel t4 (g := 1) (ti := 119) (tp := 240) (te := 242) (ts := 9) (by kernel_rfl) (by kernel_rfl) Tryd.underlying119 (fun u h => row_err u (h.trans (by kernel_rfl))) Tryd.underlying240 Tryd.underlying242 rfl rfl Tryd.underlying9 (by kernel_rfl) (by kernel_rfl)
  exact ⟨h7, tab, ⟨_, _, hv1⟩, ⟨_, _, hv0⟩⟩

section
variable {H : Type} {enc : TypeId × Value → H} {W : World} {n : Nat}
def fsNth : Array Field := #[{ name := "A", type := 3, offset := 0, embedded := false, tag := "", pkgPath := "", byteOffset := 0 }, { name := "B", type := 3, offset := 1, embedded := false, tag := "", pkgPath := "", byteOffset := 8 }]
theorem u_nth : Tryd.prog.underlying 68 = some (.struct fsNth) := by kernel_rfl
theorem r_nth : Reads enc Tryd.prog W n 68 (fun x : Int × Int => [bI x.1, bI x.2]) := by
  cases n with
  | zero => exact Reads.zero
  | succ n =>
    exact (reads_struct u_nth (by kernel_rfl) (fs_cons (k := 1) rfl (by kernel_rfl) (reads_int u_int) (fs_cons (k := 1) rfl (by kernel_rfl) (reads_int u_int) fs_nil))).map fun x => ⟨(x.1, x.2.1), rfl⟩
variable {r : Reach} {base : Nat} {v : Value} {d : DataW H} {ps : List MemPlace}
theorem a_nth (hval : Value.okWide Tryd.prog W r base 68 v) (h : DataW.Trod enc Tryd.prog W 0 (fun _ => true) true 68 v d ps) : ∃ x : Int × Int, ArgRep (memOf W) W (.val (.agg [bI x.1, bI x.2])) v := arg_struct u_nth (fun _ => r_nth) hval h
theorem a_int64 (hval : Value.okWide Tryd.prog W r base 3 v) (h : DataW.Trod enc Tryd.prog W 0 (fun _ => true) true 3 v d ps) : ∃ x : Int, ArgRep (memOf W) W (.val (iv x)) v ∧ -9223372036854775808 ≤ x ∧ x ≤ 9223372036854775807 := by
  obtain ⟨n, rfl, rfl, rfl, hw⟩ := open_int u_int hval h
  exact ⟨n, ⟨rfl, rfl⟩, by simpa [Lit.wf, IntKind.has, IntKind.min, IntKind.max, IntKind.signed, IntKind.bits] using hw⟩
theorem a_str (hval : Value.okWide Tryd.prog W r base 9 v) (h : DataW.Trod enc Tryd.prog W 0 (fun _ => true) true 9 v d ps) : ∃ x : Bys, ArgRep (memOf W) W (.val (sv x)) v ∧ d = .lit (.string x) := by
  obtain ⟨s, rfl, rfl, rfl, hs⟩ := ChangeMaps.open_string u_string hval h
  exact ⟨s.data.toList, ⟨rfl, by simp only [flat]; exact decide_eq_true hs⟩, rfl⟩
end
end Go.Hx

namespace Go.Proofs.YtjnagiaooecklaaDoor
/-- A variable's cells, laid. -/
def setVar (g : Nat) (cs : Array Value) (w : World) : World :=
  { w with heap := w.heap.modify g fun
      | .cells _ t frozen => .cells cs t frozen
      | o => o }
/-- So many blocks has the settled world. -/
noncomputable def lowN : Nat := (World.holding Tryd.prog default ⟨#[], #[], []⟩).heap.size
def cellsOfD : DataW Unit → Array Value
  | .agg l => (l.map fun | .lit (.int k z) => Value.int k z | _ => .nilIface).toArray
  | _ => #[]
/-- The settled world with two blocks more, each an errors.errorString; the two errors point to them; the three tables laid. -/
noncomputable def laidN (os : Os) : World :=
  setVar 3 (cellsOfD Rows.laid_internal_strconv_uint64pow10) (setVar 6 (cellsOfD Rows.laid_math_bits_deBruijn32tab) (setVar 7 (cellsOfD Rows.laid_math_bits_deBruijn64tab)
    (setVar 1 #[.iface 240 (.pointer (some ⟨lowN, 0, none⟩))] (setVar 2 #[.iface 240 (.pointer (some ⟨lowN + 1, 0, none⟩))]
      (World.holding Tryd.prog os ⟨#[.cells #[.string ⟨#[105, 110, 118, 97, 108, 105, 100, 32, 115, 121, 110, 116, 97, 120]⟩] 242, .cells #[.string ⟨#[118, 97, 108, 117, 101, 32, 111, 117, 116, 32, 111, 102, 32, 114, 97, 110, 103, 101]⟩] 242], #[], []⟩)))))
end Go.Proofs.YtjnagiaooecklaaDoor
