/-
  The law IndexFinds, it returns true for every input, and each argument reads behind the call as it read before. No condition.
-/
import Derived.Test.YtjnagiaooecklabGreatDoorG32
import Derived.Test.YtjnagiaooecklabGreatDoorG34
import Derived.Test.YtjnagiaooecklabGreatDoorG36
import Derived.Test.YtjnagiaooecklabGreatDoorG38
import Derived.Test.YtjnagiaooecklabGreatDoorG35
import Derived.Test.YtjnagiaooecklabGreatDoorG39
import Derived.Test.YtjnagiaooecklabGreatDoorCards
import Derived.Test.YtjnagiaooecklabGreatDoorTie
import Derived.Deep.DeepLaidRun
import Derived.ProofKit
import Derived.OpenShut
set_option linter.all false
set_option maxRecDepth 100000
namespace Go.Proofs.YtjnagiaooecklabGreatDoor
open Go.RowKit Go.ChangeShapes Go.WideShapes Go.WideElems Go.Hx
theorem own_indexFinds:ownKnob Tryz.prog.godebug=none:=by kernel_rfl
theorem contract_indexFinds (H:Type) (enc:TypeId×Value→H) (W:World) (base:Nat) (args:Array Value) (ds gs:List (DataW H)) (before:List MemPlace)
    (hval:∀ (j:Nat) t v,Tryz.f8.params[j]?=some t→args[j]?=some v→Value.okWide Tryz.prog W .any base t v)
    (hW:DataW.Whole enc Tryz.prog Tryz.f8.params.toList Rows.indexFindsSpec.vars false W args.toList ds gs before)
    (hL:laidMetH Tryz.prog Rows.indexFindsRow.laid W) (hsh:W.ShapedOpen Tryz.prog):
    Calls Tryz.prog 8 args W fun e W'=>∃ v,e=.returned v∧Rows.indexFindsSpec.post enc Tryz.prog Tryz.f8 false true false false W args v W':=by
  have hW':=hW
  obtain ⟨p,q,hA0,hV,rfl,hfz,hnd⟩:=hW
  have hA:DataW.TrodAll enc Tryz.prog W 0 (fun _=>true) true Tryz.f8.params.toList args.toList ds p:=hA0
  rw [Tryz.params8] at hA hval
  obtain ⟨v0,vs0,d0,ds0,p0,q0,e0,rfl,rfl,h0,r0⟩:=trodAll_cons hA
  obtain ⟨v1,vs1,d1,ds1,p1,q1,e1,rfl,rfl,h1,r1⟩:=trodAll_cons r0
  obtain ⟨rfl,rfl,rfl⟩:=trodAll_nil r1
  subst e1
  obtain rfl:args=#[v0,v1]:=by cases args;simp_all
  obtain ⟨x0,g0⟩:=a_page (hval 0 49 v0 rfl rfl) h0
  obtain ⟨x1,g1⟩:=a_paths (hval 1 25 v1 rfl rfl) h1
  obtain ⟨rfl,rfl⟩:=trodVars_none hV
  have hC:=(@zQC globMax (@GlobL.mk globMax rfl) maxOk_globMax x0.1 x0.2 x1).2 (memOf W) W [v0,v1] memOf_ok ⟨_,_,rfl,g0,⟨_,_,rfl,g1,rfl⟩⟩ (by intro g h;cases h) (maxIn_of hsh) (by rintro b (h|h)<;>cases h)
  refine hC.mono fun e W' ⟨m',_,_,hp,_,_,u,hu,hr⟩=>?_
  obtain rfl:u=.bool true:=hr.1
  refine ⟨.bool true,hu,?_⟩
  exact law_post (tb:=4) hW' rfl rfl (by kernel_rfl) (by kernel_rfl) (by kernel_rfl) (by rw [Tryz.params8];intro t ht;simp only [List.mem_cons,List.not_mem_nil,or_false] at ht;rcases ht with rfl|rfl<;>exact ⟨by kernel_rfl,of_decide_eq_true (by kernel_rfl)⟩) (Pres.g0 hp) (by intro b h;rcases h with h|h<;>cases h)
theorem laid_met_indexFinds (os:Os):laidMet Tryz.prog Rows.indexFindsRow.laid ((laidW os).forCall (fun _ _=>0) ⟨#[],#[.agg #[.slice none 0 0,.slice none 0 0],.slice none 0 0],[]⟩).memory:=
  laidMet_of_run3 8 (by kernel_rfl) (by kernel_rfl) (by kernel_rfl)
theorem reads_indexFinds (os:Os) {H:Type} (enc:TypeId×Value→H):∃ places,DataW.whole enc Tryz.prog ((laidW os).forCall (fun _ _=>0) ⟨#[],#[.agg #[.slice none 0 0,.slice none 0 0],.slice none 0 0],[]⟩).memory Tryz.f8.params.toList Rows.indexFindsSpec.vars false (#[.agg #[.slice none 0 0,.slice none 0 0],.slice none 0 0]:Array Value).toList 8=some ([.agg [.agg [.nil],.nil],.nil],[],places):=
  ⟨[],by kernel_rfl⟩
theorem lifted_indexFinds (os:Os) (started:os.Started) (H:Type) (enc:TypeId×Value→H) (F:Stop.Interp):
    ReturnsInHanded {} Tryz.checked os 8 .any ((OpenSpec.ofChange Rows.indexFindsSpec).preRow enc Tryz.prog Tryz.f8 Rows.indexFindsRow.domain false Rows.indexFindsRow.laid) (((OpenSpec.ofChange Rows.indexFindsSpec).at F).post enc Tryz.prog Tryz.f8 false true false false):=by
  obtain ⟨places,hx⟩:=reads_indexFinds os enc
  refine returnsInHanded_of_row (C:=Tryz.checked) (s:=OpenSpec.ofChange Rows.indexFindsSpec) own_indexFinds started (by kernel_rfl) Tryz.func8
    (witness_row_at (enc:=enc) (C:=Tryz.checked) false (laidW os) #[.agg #[.slice none 0 0,.slice none 0 0],.slice none 0 0] rfl (by kernel_rfl) (by kernel_rfl) (by kernel_rfl)
      (OpenSpec.preRow_of_cond 8 hx (by kernel_rfl) (fun k hk=>by cases hk) (by kernel_rfl) (laid_met_indexFinds os))) ?_
  intro W base args ds gs before hval hW _ hcond hsz hL hsh _
  exact contract_indexFinds H enc W base args ds gs before hval hW hL hsh
theorem in_indexFinds:(Rows.indexFindsRow.inPlace==Tryz.pinned.checked.prog.inPlace 8)=true:=by kernel_rfl
theorem unf_indexFinds:(Rows.indexFindsRow.unfollowed==Tryz.pinned.checked.prog.unfollowed 8)=true:=by kernel_rfl
theorem rec_indexFinds:(Rows.indexFindsRow.recurses==Tryz.pinned.checked.prog.recurses 8)=true:=by kernel_rfl
theorem nam_indexFinds:(Rows.indexFindsRow.named==Tryz.pinned.checked.prog.varsNamed 8)=true:=by kernel_rfl
theorem lif_indexFinds:(Rows.indexFindsRow.lifted==Tryz.pinned.checked.prog.liftsFinal)=true:=by kernel_rfl
theorem mak_indexFinds:(Tryz.pinned.checked.prog.make==some Rows.indexFindsRow.make)=true:=by kernel_rfl
theorem key_indexFinds:(Rows.indexFindsRow.plainKeys==Tryz.pinned.checked.prog.plainKeys)=true:=j_keys
theorem closed_indexFinds:joinedFacts Tryz.pinned.checked.prog 8 Tryz.f8 (OpenSpec.ofChange Rows.indexFindsSpec).bare Rows.indexFindsRow=true:=by
  simp only [joinedFacts,Bool.and_eq_true]
  repeat' with_reducible apply And.intro
  all_goals with_reducible first|exact j_laid|exact j_maps|exact j_heard|exact j_enter|exact j_stops|exact j_knobs|exact in_indexFinds|exact unf_indexFinds|exact rec_indexFinds|exact nam_indexFinds|exact lif_indexFinds|exact mak_indexFinds|exact key_indexFinds|skip
  all_goals (as_aux_lemma=>kernel_rfl)
theorem said_indexFinds:Rows.IndexFindsSaid:=
  OpenClaim.holds_of_cond 8 Tryz.f8 rfl rfl rfl rfl rfl rfl rfl ⟨rfl,rfl,rfl,rfl,rfl⟩ rfl rfl rfl rfl rfl (by kernel_rfl) Tryz.func8 closed_indexFinds
    (of_decide_eq_true (by kernel_rfl)) (by unfold Func.isWrapper;first|(rw [if_pos (by decide +kernel)];kernel_rfl)|(rw [if_neg (by decide +kernel)];exact ⟨rfl,rfl⟩))
    (fun os started H enc _ F=>by rw [OpenClaim.pre_eq_preRow];exact lifted_indexFinds os started H enc F)
theorem plain_indexFinds (f:FuncId) (fn:Func) (hf:Tryz.pinned.checked.prog.funcNamed Rows.indexFindsRow.func=some f) (hfn:Tryz.pinned.checked.prog.funcs[f]?=some fn):
    true=Tryz.pinned.checked.prog.looks []∧∀ (j:Nat) t,fn.params[j]?=some t→Tryz.pinned.checked.prog.wantsStandIn t=false:=by
  obtain rfl:f=8:=Option.some.inj ((show Tryz.prog.funcNamed Rows.indexFindsRow.func=some 8 by kernel_rfl).symm.trans hf) |>.symm
  obtain rfl:fn=Tryz.f8:=(Option.some.inj (Tryz.func8.symm.trans hfn)).symm
  refine ⟨by kernel_rfl,fun j t ht=>?_⟩
  rw [Tryz.params8] at ht
  have hm:=Array.mem_of_getElem? ht
  simp only [List.mem_toArray,List.mem_cons,List.not_mem_nil,or_false] at hm
  rcases hm with rfl|rfl<;>first|exact (show Tryz.prog.wantsStandIn 49=false by kernel_rfl)|exact (show Tryz.prog.wantsStandIn 25=false by kernel_rfl)
end Go.Proofs.YtjnagiaooecklabGreatDoor
