/-
  Pages, entries off the memory. No condition.
-/
import Derived.Test.YtjnagiaooecklabGreatDoorG32
import Derived.Test.YtjnagiaooecklabGreatDoorG11
import Derived.Test.YtjnagiaooecklabGreatDoorG14
set_option linter.all false
set_option maxRecDepth 100000
namespace Go.Hx
open Go.RowKit Go.ChangeShapes Go.WideShapes Go.WideElems Go.Proofs
section
variable {H:Type} {enc:TypeId×Value→H} {W:World} {n:Nat}
theorem u_ints:Tryz.prog.underlying 29=some (.slice 3):=by kernel_rfl
def fsEnt:Array Field:=#[{name := "Kind", type:=3,offset:=0,embedded:=false,tag := "", pkgPath := "", byteOffset:=0},{name := "Name", type:=9,offset:=1,embedded:=false,tag := "", pkgPath := "", byteOffset:=8},{name := "Nodes", type:=29,offset:=2,embedded:=false,tag := "", pkgPath := "", byteOffset:=24}]
theorem u_ent:Tryz.prog.underlying 75=some (.struct fsEnt):=by kernel_rfl
theorem u_ents:Tryz.prog.underlying 47=some (.slice 75):=by kernel_rfl
def fsPage:Array Field:=#[{name := "Doc", type:=24,offset:=0,embedded:=false,tag := "", pkgPath := "", byteOffset:=0},{name := "Index", type:=47,offset:=1,embedded:=false,tag := "", pkgPath := "", byteOffset:=24}]
theorem u_page:Tryz.prog.underlying 49=some (.struct fsPage):=by kernel_rfl
theorem rg_ints:Reads enc Tryz.prog W n 29 (fun l:List Int=>[.sl 1 (zAM l)]):=by
  cases n with
  | zero=>exact Reads.zero
  | succ n=>exact (reads_slice u_ints (by kernel_rfl) (by decide) (reads_int u_int)).map fun x=>⟨x,rfl⟩
theorem r_ent:Reads enc Tryz.prog W n 75 entV:=by
  cases n with
  | zero=>exact Reads.zero
  | succ n=>
    exact (reads_struct u_ent (by kernel_rfl) (fs_cons (k:=1) rfl (by kernel_rfl) (reads_int u_int) (fs_cons (k:=1) rfl (by kernel_rfl) (reads_string u_string) (fs_cons (k:=1) rfl (by kernel_rfl) rg_ints fs_nil)))).map fun x=>⟨⟨x.1,x.2.1,x.2.2.1⟩,rfl⟩
theorem r_ents:Reads enc Tryz.prog W n 47 (fun l:List Ent=>[.sl 3 (zEf l)]):=by
  cases n with
  | zero=>exact Reads.zero
  | succ n=>exact (reads_slice u_ents (by kernel_rfl) (by decide) r_ent).map fun x=>⟨x,rfl⟩
theorem r_page:Reads enc Tryz.prog W n 49 (fun x:List Nd×List Ent=>[.sl 5 (zDW x.1),.sl 3 (zEf x.2)]):=by
  cases n with
  | zero=>exact Reads.zero
  | succ n=>exact (reads_struct u_page (by kernel_rfl) (fs_cons (k:=1) rfl (by kernel_rfl) r_doc (fs_cons (k:=1) rfl (by kernel_rfl) r_ents fs_nil))).map fun x=>⟨(x.1,x.2.1),rfl⟩
variable {r:Reach} {base:Nat} {v:Value} {d:DataW H} {ps:List MemPlace}
theorem a_page (hval:Value.okWide Tryz.prog W r base 49 v) (h:DataW.Trod enc Tryz.prog W 0 (fun _=>true) true 49 v d ps):∃ x:List Nd×List Ent,ArgRep (memOf W) W (.val (.agg [.sl 5 (zDW x.1),.sl 3 (zEf x.2)])) v:=arg_struct u_page (fun _=>r_page) hval h
end
end Go.Hx
