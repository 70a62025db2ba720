/-
  The arguments of the laws of this seat, read off the memory. No condition.
-/
import Derived.Test.YtjnagiaooecklabDoorG22
import Derived.Test.YtjnagiaooecklabDoorG8
import Derived.Test.YtjnagiaooecklabDoorCards
import Derived.Test.YtjnagiaooecklabDoorTie
set_option linter.all false
set_option linter.unusedVariables false
set_option maxRecDepth 100000
namespace Go.Hx
open Go.RowKit Go.ChangeShapes Go.WideShapes Go.WideElems Go.Proofs
attribute [local go_sem] zAw zAq zAr zAk ndV zAo
section
variable {H : Type} {enc : TypeId × Value → H} {W : World} {n : Nat}
theorem u_int : Tryd.prog.underlying 3 = some (.int .i64) := by kernel_rfl
theorem u_string : Tryd.prog.underlying 9 = some .string := by kernel_rfl
theorem u_strings : Tryd.prog.underlying 40 = some (.slice 9) := by kernel_rfl
theorem u_attrs : Tryd.prog.underlying 41 = some (.slice 64) := by kernel_rfl
def fsAttr : Array Field := #[{ name := "Name", type := 9, offset := 0, embedded := false, tag := "", pkgPath := "", byteOffset := 0 }, { name := "Value", type := 9, offset := 1, embedded := false, tag := "", pkgPath := "", byteOffset := 16 }]
theorem u_attr : Tryd.prog.underlying 64 = some (.struct fsAttr) := by kernel_rfl
def fsNode : Array Field := #[{ name := "Up", type := 3, offset := 0, embedded := false, tag := "", pkgPath := "", byteOffset := 0 },
        { name := "Tag", type := 9, offset := 1, embedded := false, tag := "", pkgPath := "", byteOffset := 8 },
        { name := "Id", type := 9, offset := 2, embedded := false, tag := "", pkgPath := "", byteOffset := 24 },
        { name := "Classes", type := 40, offset := 3, embedded := false, tag := "", pkgPath := "", byteOffset := 40 },
        { name := "Attrs", type := 41, offset := 4, embedded := false, tag := "", pkgPath := "", byteOffset := 64 }]
theorem u_node : Tryd.prog.underlying 43 = some (.struct fsNode) := by kernel_rfl
theorem u_nodes : Tryd.prog.underlying 22 = some (.slice 43) := by kernel_rfl
def fsDoc : Array Field := #[{ name := "Nodes", type := 22, offset := 0, embedded := false, tag := "", pkgPath := "", byteOffset := 0 }]
theorem u_doc : Tryd.prog.underlying 24 = some (.struct fsDoc) := by kernel_rfl
theorem r_strings : Reads enc Tryd.prog W n 40 (fun l : List Bys => [.sl 1 (zOw l)]) := by
  cases n with
  | zero => exact Reads.zero
  | succ n => exact (reads_slice u_strings (by kernel_rfl) (by decide) (reads_string u_string)).map fun x => ⟨x, rfl⟩
theorem r_attr : Reads enc Tryd.prog W n 64 (fun a : Bys × Bys => [bS a.1, bS a.2]) := by
  cases n with
  | zero => exact Reads.zero
  | succ n =>
    exact (reads_struct u_attr (by kernel_rfl) (fs_cons (k := 1) rfl (by kernel_rfl) (reads_string u_string) (fs_cons (k := 1) rfl (by kernel_rfl) (reads_string u_string) fs_nil))).map fun x => ⟨(x.1, x.2.1), rfl⟩
theorem r_attrs : Reads enc Tryd.prog W n 41 (fun l : List (Bys × Bys) => [.sl 2 (zVA l)]) := by
  cases n with
  | zero => exact Reads.zero
  | succ n => exact (reads_slice u_attrs (by kernel_rfl) (by decide) r_attr).map fun x => ⟨x, rfl⟩
theorem r_node : Reads enc Tryd.prog W n 43 ndV := by
  cases n with
  | zero => exact Reads.zero
  | succ n =>
    exact (reads_struct u_node (by kernel_rfl) (fs_cons (k := 1) rfl (by kernel_rfl) (reads_int u_int) (fs_cons (k := 1) rfl (by kernel_rfl) (reads_string u_string) (fs_cons (k := 1) rfl (by kernel_rfl) (reads_string u_string) (fs_cons (k := 1) rfl (by kernel_rfl) r_strings (fs_cons (k := 1) rfl (by kernel_rfl) r_attrs fs_nil)))))).map fun x => ⟨⟨x.1, x.2.1, x.2.2.1, x.2.2.2.1, x.2.2.2.2.1⟩, rfl⟩
theorem r_nodes : Reads enc Tryd.prog W n 22 (fun l : List Nd => [.sl 5 (zXF l)]) := by
  cases n with
  | zero => exact Reads.zero
  | succ n => exact (reads_slice u_nodes (by kernel_rfl) (by decide) r_node).map fun x => ⟨x, rfl⟩
theorem r_doc : Reads enc Tryd.prog W n 24 (fun l : List Nd => [.sl 5 (zXF l)]) := by
  cases n with
  | zero => exact Reads.zero
  | succ n => exact (reads_struct u_doc (by kernel_rfl) (fs_cons (k := 1) rfl (by kernel_rfl) r_nodes fs_nil)).map fun x => ⟨x.1, rfl⟩
variable {r : Reach} {base : Nat} {v : Value} {d : DataW H} {ps : List MemPlace}
theorem a_doc (hval : Value.okWide Tryd.prog W r base 24 v) (h : DataW.Trod enc Tryd.prog W 0 (fun _ => true) true 24 v d ps) : ∃ x : List Nd, ArgRep (memOf W) W (.val (zHq x)) v := arg_struct u_doc (fun _ => r_doc) hval h
theorem a_int (hval : Value.okWide Tryd.prog W r base 3 v) (h : DataW.Trod enc Tryd.prog W 0 (fun _ => true) true 3 v d ps) : ∃ x : Int, ArgRep (memOf W) W (.val (iv x)) v := arg_cell (int_not_agg u_int) (fun _ => reads_int u_int) hval h
end
end Go.Hx
