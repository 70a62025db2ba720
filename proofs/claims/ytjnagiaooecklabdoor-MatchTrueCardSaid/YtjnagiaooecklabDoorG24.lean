/-
  Arguments over paths, read off the memory. No condition.
-/
import Derived.Test.YtjnagiaooecklabDoorG22
import Derived.Test.YtjnagiaooecklabDoorG8
import Derived.Test.YtjnagiaooecklabDoorProg
set_option linter.all false
set_option linter.unusedVariables false
set_option maxRecDepth 100000
namespace Go.Hx
open Go.RowKit Go.ChangeShapes Go.WideShapes Go.WideElems Go.Proofs
attribute [local go_sem] zAw zAq zAr zAk ndV zAo
section
variable {H : Type} {enc : TypeId × Value → H} {W : World}
theorem up_int : Tryd.prog.underlying 3 = some (.int .i64) := by kernel_rfl
theorem up_string : Tryd.prog.underlying 9 = some .string := by kernel_rfl
theorem up_ints : Tryd.prog.underlying 35 = some (.slice 3) := by kernel_rfl
theorem up_paths : Tryd.prog.underlying 25 = some (.slice 57) := by kernel_rfl
theorem up_steps : Tryd.prog.underlying 55 = some (.slice 54) := by kernel_rfl
theorem up_tests : Tryd.prog.underlying 52 = some (.slice 34) := by kernel_rfl
def fsPath : Array Field := #[{ name := "Steps", type := 55, offset := 0, embedded := false, tag := "", pkgPath := "", byteOffset := 0 }, { name := "Links", type := 35, offset := 1, embedded := false, tag := "", pkgPath := "", byteOffset := 24 }]
theorem up_path : Tryd.prog.underlying 57 = some (.struct fsPath) := by kernel_rfl
def fsStep : Array Field := #[{ name := "Tag", type := 9, offset := 0, embedded := false, tag := "", pkgPath := "", byteOffset := 0 }, { name := "Tests", type := 52, offset := 1, embedded := false, tag := "", pkgPath := "", byteOffset := 16 }]
theorem up_step : Tryd.prog.underlying 54 = some (.struct fsStep) := by kernel_rfl
def fsTest : Array Field := #[{ name := "Kind", type := 3, offset := 0, embedded := false, tag := "", pkgPath := "", byteOffset := 0 }, { name := "Name", type := 9, offset := 1, embedded := false, tag := "", pkgPath := "", byteOffset := 8 }, { name := "Value", type := 9, offset := 2, embedded := false, tag := "", pkgPath := "", byteOffset := 24 }, { name := "Nth", type := 32, offset := 3, embedded := false, tag := "", pkgPath := "", byteOffset := 40 }, { name := "List", type := 25, offset := 5, embedded := false, tag := "", pkgPath := "", byteOffset := 56 }]
theorem up_test : Tryd.prog.underlying 34 = some (.struct fsTest) := by kernel_rfl
def fsNthP : Array Field := #[{ name := "A", type := 3, offset := 0, embedded := false, tag := "", pkgPath := "", byteOffset := 0 }, { name := "B", type := 3, offset := 1, embedded := false, tag := "", pkgPath := "", byteOffset := 8 }]
theorem up_nth : Tryd.prog.underlying 32 = some (.struct fsNthP) := by kernel_rfl
theorem rp_ints {n : Nat} : Reads enc Tryd.prog W n 35 (fun l : List Int => [.sl 1 (zDJ l)]) := by
  cases n with
  | zero => exact Reads.zero
  | succ n => exact (reads_slice up_ints (by kernel_rfl) (by decide) (reads_int up_int)).map fun x => ⟨x, rfl⟩
theorem rp_nth {n : Nat} : Reads enc Tryd.prog W n 32 (fun x : Int × Int => [bI x.1, bI x.2]) := by
  cases n with
  | zero => exact Reads.zero
  | succ n =>
    exact (reads_struct up_nth (by kernel_rfl) (fs_cons (k := 1) rfl (by kernel_rfl) (reads_int up_int) (fs_cons (k := 1) rfl (by kernel_rfl) (reads_int up_int) fs_nil))).map fun x => ⟨(x.1, x.2.1), rfl⟩
theorem rp_test {n : Nat} (ih : Reads enc Tryd.prog W n 25 (fun l : List Pt => [.sl 2 (zLc l)])) : Reads enc Tryd.prog W (n + 1) 34 tsV :=
  (reads_struct up_test (by kernel_rfl) (fs_cons (k := 1) rfl (by kernel_rfl) (reads_int up_int) (fs_cons (k := 1) rfl (by kernel_rfl) (reads_string up_string) (fs_cons (k := 1) rfl (by kernel_rfl) (reads_string up_string) (fs_cons (k := 2) rfl (by kernel_rfl) rp_nth (fs_cons (k := 1) rfl (by kernel_rfl) ih fs_nil)))))).map fun x => ⟨.mk x.1 x.2.1 x.2.2.1 x.2.2.2.1.1 x.2.2.2.1.2 x.2.2.2.2.1, rfl⟩
theorem rp_tests {n : Nat} (ih : Reads enc Tryd.prog W n 25 (fun l : List Pt => [.sl 2 (zLc l)])) : Reads enc Tryd.prog W (n + 2) 52 (fun l : List Ts => [.sl 6 (zVB l)]) :=
  (reads_slice (k := 6) up_tests (by kernel_rfl) (by decide) (rp_test ih)).map fun x => ⟨x, by rw [zLV]⟩
theorem rp_step {n : Nat} (ih : Reads enc Tryd.prog W n 25 (fun l : List Pt => [.sl 2 (zLc l)])) : Reads enc Tryd.prog W (n + 3) 54 stV :=
  (reads_struct up_step (by kernel_rfl) (fs_cons (k := 1) rfl (by kernel_rfl) (reads_string up_string) (fs_cons (k := 1) rfl (by kernel_rfl) (rp_tests ih) fs_nil))).map fun x => ⟨.mk x.1 x.2.1, rfl⟩
theorem rp_steps {n : Nat} (ih : Reads enc Tryd.prog W n 25 (fun l : List Pt => [.sl 2 (zLc l)])) : Reads enc Tryd.prog W (n + 4) 55 (fun l : List St => [.sl 2 (zU3 l)]) :=
  (reads_slice (k := 2) up_steps (by kernel_rfl) (by decide) (rp_step ih)).map fun x => ⟨x, by rw [zLW]⟩
theorem rp_path {n : Nat} (ih : Reads enc Tryd.prog W n 25 (fun l : List Pt => [.sl 2 (zLc l)])) : Reads enc Tryd.prog W (n + 5) 57 ptV :=
  (reads_struct up_path (by kernel_rfl) (fs_cons (k := 1) rfl (by kernel_rfl) (rp_steps ih) (fs_cons (k := 1) rfl (by kernel_rfl) rp_ints fs_nil))).map fun x => ⟨.mk x.1 x.2.1, rfl⟩
theorem rp_paths1 {n : Nat} (ih : Reads enc Tryd.prog W n 25 (fun l : List Pt => [.sl 2 (zLc l)])) : Reads enc Tryd.prog W (n + 6) 25 (fun l : List Pt => [.sl 2 (zLc l)]) :=
  (reads_slice (k := 2) up_paths (by kernel_rfl) (by decide) (rp_path ih)).map fun x => ⟨x, by rw [zIY]⟩
theorem rp_paths6 : ∀ n : Nat, Reads enc Tryd.prog W (6 * n) 25 (fun l : List Pt => [.sl 2 (zLc l)])
  | 0 => Reads.zero
  | n + 1 => rp_paths1 (rp_paths6 n)
theorem rp_paths (n : Nat) : Reads enc Tryd.prog W n 25 (fun l : List Pt => [.sl 2 (zLc l)]) := (rp_paths6 n).less (by omega)
variable {r : Reach} {base : Nat} {v : Value} {d : DataW H} {ps : List MemPlace}
theorem a_paths (hval : Value.okWide Tryd.prog W r base 25 v) (h : DataW.Trod enc Tryd.prog W 0 (fun _ => true) true 25 v d ps) : ∃ x : List Pt, ArgRep (memOf W) W (.val (.one (.sl 2 (zLc x)))) v := arg_cell (slice_not_agg up_paths) rp_paths hval h
end
end Go.Hx
