/-
  What the laws over counts are told of the library's variables; their arguments; a world that holds what their rows list. No condition.
-/
import Derived.Test.YtjnagiaooecklabGreatDoorG30
import Derived.Test.YtjnagiaooecklabGreatDoorG19
import Derived.Test.YtjnagiaooecklabGreatDoorG32
import Derived.Test.YtjnagiaooecklabGreatDoorG13
import Derived.Lib.LaidTab
import Derived.Stop.LaidErr
import Derived.ChangeMaps5
import Derived.Deep.DeepWitnessRowRef
set_option linter.all false
set_option maxRecDepth 100000
namespace Go.Hx
open Go.RowKit Go.ChangeShapes Go.WideShapes Go.WideElems Go.Proofs
attribute [local go_sem] zAC zAz zAB zAw ndV zAx
theorem var_size {P:Program} {W:World} {name:String} {g:Nat} {cs:Array Value} (hg:P.globalNamed name=some g) (h:W.var? P name=some cs):g<W.heap.size:=by
  unfold World.var? at h
  rw [hg] at h
  simp only [Option.bind_some] at h
  cases hh:W.heap[g]? with
  | none=>rw [hh] at h; cases h
  | some o=>exact (Array.getElem?_eq_some_iff.1 hh).1
theorem row_err (u:TypeId) (h:Tryz.prog.typeName? 3 u=Tryz.prog.typeName? 3 351):u=351:=
  typeName_ptr_named (nm := "errors.errorString") (by kernel_rfl) (by kernel_rfl) (by decide) u (h.trans (by kernel_rfl))
theorem numOk_of {W:World} (h:laidMet Tryz.prog YtjnagiaooecklabGreatDoor.Rows.pathShowsRow.laid W) (hsh:W.ShapedOpen Tryz.prog):NumOk W:=by
  have t1:=laidMet.tail h
  have t2:=t1.tail
  have t3:=t2.tail.tail
  have t4:=t3.tail
  have tab0:=Lib.tabIs_of_head (k:=.u64) (zs:=Lib.pow10Tab) (g:=3) (t:=343) (e:=251) (n:=20) (by kernel_rfl) (by kernel_rfl) (by kernel_rfl) (by kernel_rfl) (by kernel_rfl) (by kernel_rfl) t2
  have tab:Lib.TabIs Tryz.prog W powName .u64 Lib.pow10Tab:=by
    refine (congrArg (fun s=>Lib.TabIs Tryz.prog W s .u64 Lib.pow10Tab) ?_).mp tab0
    kernel_rfl
  obtain ⟨ps,⟨g',t',cs,fuel,p,q,hg',ht',hvar,_⟩,_⟩:=t1
  have h7:7<W.heap.size:=var_size (by kernel_rfl) hvar
  obtain ⟨a0,s0,hv0,-,-,-⟩:=laid_sentinel t3 (g:=5) (ti:=261) (tp:=351) (te:=353) (ts:=9) (by kernel_rfl) (by kernel_rfl) Tryz.underlying261 (fun u h=>row_err u (h.trans (by kernel_rfl))) Tryz.underlying351 Tryz.underlying353 rfl rfl Tryz.underlying9 (by kernel_rfl) (by kernel_rfl)
  obtain ⟨a1,s1,hv1,-,-,-⟩:=laid_sentinel t4 (g:=4) (ti:=261) (tp:=351) (te:=353) (ts:=9) (by kernel_rfl) (by kernel_rfl) Tryz.underlying261 (fun u h=>row_err u (h.trans (by kernel_rfl))) Tryz.underlying351 Tryz.underlying353 rfl rfl Tryz.underlying9 (by kernel_rfl) (by kernel_rfl)
  exact ⟨h7,tab,⟨_,_,hv1⟩,⟨_,_,hv0⟩,Tryz.laysM145.s1_3 W hsh⟩
end Go.Hx
namespace Go.Proofs.YtjnagiaooecklabGreatDoor
def setVar (g:Nat) (cs:Array Value) (w:World):World:=
  { w with heap:=w.heap.modify g fun
      | .cells _ t frozen=>.cells cs t frozen
      | o=>o }
noncomputable def lowN:Nat:=(World.holding Tryz.prog default ⟨#[],#[],[]⟩).heap.size
def cellsOfD:DataW Unit→Array Value
  | .agg l=>(l.map fun | .lit (.int k z)=>Value.int k z | _=>.nilIface).toArray
  | _=>#[]
noncomputable def laidN (os:Os):World:=
  setTab 2 accCells (setTab 1 firstCells (setVar 3 (cellsOfD Rows.laid_internal_strconv_uint64pow10) (setVar 6 (cellsOfD Rows.laid_math_bits_deBruijn32tab) (setVar 7 (cellsOfD Rows.laid_math_bits_deBruijn64tab)
    (setVar 4 #[.iface 351 (.pointer (some ⟨lowN,0,none⟩))] (setVar 5 #[.iface 351 (.pointer (some ⟨lowN+1,0,none⟩))]
      (World.holding Tryz.prog os ⟨#[.cells #[.string ⟨#[105,110,118,97,108,105,100,32,115,121,110,116,97,120]⟩] 353,.cells #[.string ⟨#[118,97,108,117,101,32,111,117,116,32,111,102,32,114,97,110,103,101]⟩] 353],#[],[]⟩)))))))
end Go.Proofs.YtjnagiaooecklabGreatDoor
