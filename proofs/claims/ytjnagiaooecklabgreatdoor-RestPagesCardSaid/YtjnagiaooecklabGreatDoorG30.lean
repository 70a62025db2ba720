/-
  Arguments over paths, read off the memory. No condition.
-/
import Derived.Test.YtjnagiaooecklabGreatDoorG29
import Derived.Test.YtjnagiaooecklabGreatDoorG12
import Derived.Test.YtjnagiaooecklabGreatDoorProg
set_option linter.all false
set_option maxRecDepth 100000
namespace Go.Hx
open Go.RowKit Go.ChangeShapes Go.WideShapes Go.WideElems Go.Proofs
attribute [local go_sem] zAh zAj zAg zAd ndV zAm
section
variable {H:Type} {enc:TypeId×Value→H} {W:World}
theorem up_int:Tryz.prog.underlying 3=some (.int .i64):=by kernel_rfl
theorem up_string:Tryz.prog.underlying 9=some .string:=by kernel_rfl
theorem up_ints:Tryz.prog.underlying 29=some (.slice 3):=by kernel_rfl
theorem up_paths:Tryz.prog.underlying 25=some (.slice 78):=by kernel_rfl
theorem up_steps:Tryz.prog.underlying 76=some (.slice 81):=by kernel_rfl
theorem up_tests:Tryz.prog.underlying 79=some (.slice 85):=by kernel_rfl
def fsPath:Array Field:=#[{name := "Steps", type:=76,offset:=0,embedded:=false,tag := "", pkgPath := "", byteOffset:=0},{name := "Links", type:=29,offset:=1,embedded:=false,tag := "", pkgPath := "", byteOffset:=24}]
theorem up_path:Tryz.prog.underlying 78=some (.struct fsPath):=by kernel_rfl
def fsStep:Array Field:=#[{name := "Tag", type:=9,offset:=0,embedded:=false,tag := "", pkgPath := "", byteOffset:=0},{name := "Tests", type:=79,offset:=1,embedded:=false,tag := "", pkgPath := "", byteOffset:=16}]
theorem up_step:Tryz.prog.underlying 81=some (.struct fsStep):=by kernel_rfl
def fsTest:Array Field:=#[{name := "Kind", type:=3,offset:=0,embedded:=false,tag := "", pkgPath := "", byteOffset:=0},{name := "Name", type:=9,offset:=1,embedded:=false,tag := "", pkgPath := "", byteOffset:=8},{name := "Value", type:=9,offset:=2,embedded:=false,tag := "", pkgPath := "", byteOffset:=24},{name := "Nth", type:=83,offset:=3,embedded:=false,tag := "", pkgPath := "", byteOffset:=40},{name := "List", type:=25,offset:=5,embedded:=false,tag := "", pkgPath := "", byteOffset:=56}]
theorem up_test:Tryz.prog.underlying 85=some (.struct fsTest):=by kernel_rfl
def fsNthP:Array Field:=#[{name := "A", type:=3,offset:=0,embedded:=false,tag := "", pkgPath := "", byteOffset:=0},{name := "B", type:=3,offset:=1,embedded:=false,tag := "", pkgPath := "", byteOffset:=8}]
theorem up_nth:Tryz.prog.underlying 83=some (.struct fsNthP):=by kernel_rfl
theorem rp_ints {n:Nat}:Reads enc Tryz.prog W n 29 (fun l:List Int=>[.sl 1 (zAM l)]):=by
  cases n with
  | zero=>exact Reads.zero
  | succ n=>exact (reads_slice up_ints (by kernel_rfl) (by decide) (reads_int up_int)).map fun x=>⟨x,rfl⟩
theorem rp_nth {n:Nat}:Reads enc Tryz.prog W n 83 (fun x:Int×Int=>[bI x.1,bI x.2]):=by
  cases n with
  | zero=>exact Reads.zero
  | succ n=>
    exact (reads_struct up_nth (by kernel_rfl) (fs_cons (k:=1) rfl (by kernel_rfl) (reads_int up_int) (fs_cons (k:=1) rfl (by kernel_rfl) (reads_int up_int) fs_nil))).map fun x=>⟨(x.1,x.2.1),rfl⟩
theorem rp_test {n:Nat} (ih:Reads enc Tryz.prog W n 25 (fun l:List Pt=>[.sl 2 (zBx l)])):Reads enc Tryz.prog W (n+1) 85 tsV:=
  (reads_struct up_test (by kernel_rfl) (fs_cons (k:=1) rfl (by kernel_rfl) (reads_int up_int) (fs_cons (k:=1) rfl (by kernel_rfl) (reads_string up_string) (fs_cons (k:=1) rfl (by kernel_rfl) (reads_string up_string) (fs_cons (k:=2) rfl (by kernel_rfl) rp_nth (fs_cons (k:=1) rfl (by kernel_rfl) ih fs_nil)))))).map fun x=>⟨.mk x.1 x.2.1 x.2.2.1 x.2.2.2.1.1 x.2.2.2.1.2 x.2.2.2.2.1,rfl⟩
theorem rp_tests {n:Nat} (ih:Reads enc Tryz.prog W n 25 (fun l:List Pt=>[.sl 2 (zBx l)])):Reads enc Tryz.prog W (n+2) 79 (fun l:List Ts=>[.sl 6 (zCJ l)]):=
  (reads_slice (k:=6) up_tests (by kernel_rfl) (by decide) (rp_test ih)).map fun x=>⟨x,by rw [zEV]⟩
theorem rp_step {n:Nat} (ih:Reads enc Tryz.prog W n 25 (fun l:List Pt=>[.sl 2 (zBx l)])):Reads enc Tryz.prog W (n+3) 81 stV:=
  (reads_struct up_step (by kernel_rfl) (fs_cons (k:=1) rfl (by kernel_rfl) (reads_string up_string) (fs_cons (k:=1) rfl (by kernel_rfl) (rp_tests ih) fs_nil))).map fun x=>⟨.mk x.1 x.2.1,rfl⟩
theorem rp_steps {n:Nat} (ih:Reads enc Tryz.prog W n 25 (fun l:List Pt=>[.sl 2 (zBx l)])):Reads enc Tryz.prog W (n+4) 76 (fun l:List St=>[.sl 2 (zFG l)]):=
  (reads_slice (k:=2) up_steps (by kernel_rfl) (by decide) (rp_step ih)).map fun x=>⟨x,by rw [zEl]⟩
theorem rp_path {n:Nat} (ih:Reads enc Tryz.prog W n 25 (fun l:List Pt=>[.sl 2 (zBx l)])):Reads enc Tryz.prog W (n+5) 78 ptV:=
  (reads_struct up_path (by kernel_rfl) (fs_cons (k:=1) rfl (by kernel_rfl) (rp_steps ih) (fs_cons (k:=1) rfl (by kernel_rfl) rp_ints fs_nil))).map fun x=>⟨.mk x.1 x.2.1,rfl⟩
theorem rp_paths1 {n:Nat} (ih:Reads enc Tryz.prog W n 25 (fun l:List Pt=>[.sl 2 (zBx l)])):Reads enc Tryz.prog W (n+6) 25 (fun l:List Pt=>[.sl 2 (zBx l)]):=
  (reads_slice (k:=2) up_paths (by kernel_rfl) (by decide) (rp_path ih)).map fun x=>⟨x,by rw [zDq]⟩
theorem rp_paths6:∀ n:Nat,Reads enc Tryz.prog W (6 * n) 25 (fun l:List Pt=>[.sl 2 (zBx l)])
  | 0=>Reads.zero
  | n+1=>rp_paths1 (rp_paths6 n)
theorem rp_paths (n:Nat):Reads enc Tryz.prog W n 25 (fun l:List Pt=>[.sl 2 (zBx l)]):=(rp_paths6 n).less (by omega)
variable {r:Reach} {base:Nat} {v:Value} {d:DataW H} {ps:List MemPlace}
theorem a_paths (hval:Value.okWide Tryz.prog W r base 25 v) (h:DataW.Trod enc Tryz.prog W 0 (fun _=>true) true 25 v d ps):∃ x:List Pt,ArgRep (memOf W) W (.val (.one (.sl 2 (zBx x)))) v:=arg_cell (slice_not_agg up_paths) rp_paths hval h
end
end Go.Hx
