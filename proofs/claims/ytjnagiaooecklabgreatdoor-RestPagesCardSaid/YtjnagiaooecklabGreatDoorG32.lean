/-
  The arguments of the laws of this seat, read off the memory. No condition.
-/
import Derived.Test.YtjnagiaooecklabGreatDoorG29
import Derived.Test.YtjnagiaooecklabGreatDoorG11
import Derived.Test.YtjnagiaooecklabGreatDoorCards
import Derived.Test.YtjnagiaooecklabGreatDoorTie
set_option linter.all false
set_option maxRecDepth 100000
namespace Go.Hx
open Go.RowKit Go.ChangeShapes Go.WideShapes Go.WideElems Go.Proofs
attribute [local go_sem] zAh zAj zAg zAd ndV zAm
section
variable {H:Type} {enc:TypeId×Value→H} {W:World} {n:Nat}
theorem u_int:Tryz.prog.underlying 3=some (.int .i64):=by kernel_rfl
theorem u_string:Tryz.prog.underlying 9=some .string:=by kernel_rfl
theorem u_strings:Tryz.prog.underlying 50=some (.slice 9):=by kernel_rfl
theorem u_attrs:Tryz.prog.underlying 51=some (.slice 73):=by kernel_rfl
def fsAttr:Array Field:=#[{name := "Name", type:=9,offset:=0,embedded:=false,tag := "", pkgPath := "", byteOffset:=0},{name := "Value", type:=9,offset:=1,embedded:=false,tag := "", pkgPath := "", byteOffset:=16}]
theorem u_attr:Tryz.prog.underlying 73=some (.struct fsAttr):=by kernel_rfl
def fsNode:Array Field:=#[{name := "Up", type:=3,offset:=0,embedded:=false,tag := "", pkgPath := "", byteOffset:=0},
        {name := "Tag", type:=9,offset:=1,embedded:=false,tag := "", pkgPath := "", byteOffset:=8},
        {name := "Id", type:=9,offset:=2,embedded:=false,tag := "", pkgPath := "", byteOffset:=24},
        {name := "Classes", type:=50,offset:=3,embedded:=false,tag := "", pkgPath := "", byteOffset:=40},
        {name := "Attrs", type:=51,offset:=4,embedded:=false,tag := "", pkgPath := "", byteOffset:=64}]
theorem u_node:Tryz.prog.underlying 53=some (.struct fsNode):=by kernel_rfl
theorem u_nodes:Tryz.prog.underlying 22=some (.slice 53):=by kernel_rfl
def fsDoc:Array Field:=#[{name := "Nodes", type:=22,offset:=0,embedded:=false,tag := "", pkgPath := "", byteOffset:=0}]
theorem u_doc:Tryz.prog.underlying 24=some (.struct fsDoc):=by kernel_rfl
theorem r_strings:Reads enc Tryz.prog W n 50 (fun l:List Bys=>[.sl 1 (yCG l)]):=by
  cases n with
  | zero=>exact Reads.zero
  | succ n=>exact (reads_slice u_strings (by kernel_rfl) (by decide) (reads_string u_string)).map fun x=>⟨x,rfl⟩
theorem r_attr:Reads enc Tryz.prog W n 73 (fun a:Bys×Bys=>[bS a.1,bS a.2]):=by
  cases n with
  | zero=>exact Reads.zero
  | succ n=>
    exact (reads_struct u_attr (by kernel_rfl) (fs_cons (k:=1) rfl (by kernel_rfl) (reads_string u_string) (fs_cons (k:=1) rfl (by kernel_rfl) (reads_string u_string) fs_nil))).map fun x=>⟨(x.1,x.2.1),rfl⟩
theorem r_attrs:Reads enc Tryz.prog W n 51 (fun l:List (Bys×Bys)=>[.sl 2 (yCH l)]):=by
  cases n with
  | zero=>exact Reads.zero
  | succ n=>exact (reads_slice u_attrs (by kernel_rfl) (by decide) r_attr).map fun x=>⟨x,rfl⟩
theorem r_node:Reads enc Tryz.prog W n 53 ndV:=by
  cases n with
  | zero=>exact Reads.zero
  | succ n=>
    exact (reads_struct u_node (by kernel_rfl) (fs_cons (k:=1) rfl (by kernel_rfl) (reads_int u_int) (fs_cons (k:=1) rfl (by kernel_rfl) (reads_string u_string) (fs_cons (k:=1) rfl (by kernel_rfl) (reads_string u_string) (fs_cons (k:=1) rfl (by kernel_rfl) r_strings (fs_cons (k:=1) rfl (by kernel_rfl) r_attrs fs_nil)))))).map fun x=>⟨⟨x.1,x.2.1,x.2.2.1,x.2.2.2.1,x.2.2.2.2.1⟩,rfl⟩
theorem r_nodes:Reads enc Tryz.prog W n 22 (fun l:List Nd=>[.sl 5 (zDW l)]):=by
  cases n with
  | zero=>exact Reads.zero
  | succ n=>exact (reads_slice u_nodes (by kernel_rfl) (by decide) r_node).map fun x=>⟨x,rfl⟩
theorem r_doc:Reads enc Tryz.prog W n 24 (fun l:List Nd=>[.sl 5 (zDW l)]):=by
  cases n with
  | zero=>exact Reads.zero
  | succ n=>exact (reads_struct u_doc (by kernel_rfl) (fs_cons (k:=1) rfl (by kernel_rfl) r_nodes fs_nil)).map fun x=>⟨x.1,rfl⟩
variable {r:Reach} {base:Nat} {v:Value} {d:DataW H} {ps:List MemPlace}
theorem a_doc (hval:Value.okWide Tryz.prog W r base 24 v) (h:DataW.Trod enc Tryz.prog W 0 (fun _=>true) true 24 v d ps):∃ x:List Nd,ArgRep (memOf W) W (.val (zB6 x)) v:=arg_struct u_doc (fun _=>r_doc) hval h
theorem a_int (hval:Value.okWide Tryz.prog W r base 3 v) (h:DataW.Trod enc Tryz.prog W 0 (fun _=>true) true 3 v d ps):∃ x:Int,ArgRep (memOf W) W (.val (iv x)) v:=arg_cell (int_not_agg u_int) (fun _=>reads_int u_int) hval h
end
end Go.Hx
