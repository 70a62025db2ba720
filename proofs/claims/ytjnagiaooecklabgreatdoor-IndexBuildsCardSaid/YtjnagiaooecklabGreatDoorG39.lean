/-
  The law IndexBuilds, it returns true for every input, and each argument reads behind the call as it read before. No condition.
-/
import Derived.Test.YtjnagiaooecklabGreatDoorG31
import Derived.Test.YtjnagiaooecklabGreatDoorG33
import Derived.Test.YtjnagiaooecklabGreatDoorG34
import Derived.Test.YtjnagiaooecklabGreatDoorG35
import Derived.Test.YtjnagiaooecklabGreatDoorG36
import Derived.Test.YtjnagiaooecklabGreatDoorG37
import Derived.Test.YtjnagiaooecklabGreatDoorG38
import Derived.Test.YtjnagiaooecklabGreatDoorCards
import Derived.Test.YtjnagiaooecklabGreatDoorTie
import Derived.Deep.DeepLaidRun
import Derived.ProofKit
import Derived.OpenShut
import Derived.SizedLaws
set_option linter.all false
set_option maxRecDepth 100000
namespace Go.Proofs.YtjnagiaooecklabGreatDoor
open Go.RowKit Go.ChangeShapes Go.WideShapes Go.WideElems Go.Hx
theorem own_indexBuilds:ownKnob Tryz.prog.godebug=none:=by kernel_rfl
theorem contract_indexBuilds (H:Type) (enc:TypeId×Value→H) (W:World) (base:Nat) (args:Array Value) (ds gs:List (DataW H)) (before:List MemPlace)
    (hval:∀ (j:Nat) t v,Tryz.f7.params[j]?=some t→args[j]?=some v→Value.okWide Tryz.prog W .any base t v)
    (hW:DataW.Whole enc Tryz.prog Tryz.f7.params.toList Rows.indexBuildsSpec.vars false W args.toList ds gs before)
    (hsz:(DataW.weightsEach Tryz.prog (Tryz.f7.params.toList++(OpenSpec.ofChange Rows.indexBuildsSpec).bare.plain.varTypes Tryz.prog) (ds++gs)).all (·≤reachBytes)=true)
    (hL:laidMetH Tryz.prog Rows.indexBuildsRow.laid W) (hsh:W.ShapedOpen Tryz.prog):
    Calls Tryz.prog 7 args W fun e W'=>∃ v,e=.returned v∧Rows.indexBuildsSpec.post enc Tryz.prog Tryz.f7 false true false false W args v W':=by
  have hW':=hW
  obtain ⟨p,q,hA0,hV,rfl,hfz,hnd⟩:=hW
  have hA:DataW.TrodAll enc Tryz.prog W 0 (fun _=>true) true Tryz.f7.params.toList args.toList ds p:=hA0
  rw [Tryz.params7] at hA hval
  obtain ⟨v0,vs0,d0,ds0,p0,q0,e0,rfl,rfl,h0,r0⟩:=trodAll_cons hA
  obtain ⟨v1,vs1,d1,ds1,p1,q1,e1,rfl,rfl,h1,r1⟩:=trodAll_cons r0
  obtain ⟨v2,vs2,d2,ds2,p2,q2,e2,rfl,rfl,h2,r2⟩:=trodAll_cons r1
  obtain ⟨v3,vs3,d3,ds3,p3,q3,e3,rfl,rfl,h3,r3⟩:=trodAll_cons r2
  obtain ⟨rfl,rfl,rfl⟩:=trodAll_nil r3
  subst e3
  subst e2
  subst e1
  obtain rfl:args=#[v0,v1,v2,v3]:=by cases args;simp_all
  obtain ⟨x0,g0⟩:=a_doc (hval 0 24 v0 rfl rfl) h0
  obtain ⟨x1,g1⟩:=a_ents (hval 1 47 v1 rfl rfl) h1
  obtain ⟨x2,g2⟩:=a_int (hval 2 3 v2 rfl rfl) h2
  obtain ⟨x3,g3⟩:=a_string (hval 3 9 v3 rfl rfl) h3
  obtain ⟨rfl,rfl⟩:=trodVars_none hV
  have hlen:=ents_sizes h1 g1 fun m hm=>by
    have:=List.all_eq_true.1 hsz m (DataW.weights_mem_each (j:=1) (t:=47) (d:=d1) (by kernel_rfl) rfl m hm)
    simpa using this
  have hC:=(@zNq globMax (@GlobL.mk globMax rfl) maxOk_globMax x0 x1 x2 x3 hlen).2 (memOf W) W [v0,v1,v2,v3] memOf_ok ⟨_,_,rfl,g0,⟨_,_,rfl,g1,⟨_,_,rfl,g2,⟨_,_,rfl,g3,rfl⟩⟩⟩⟩ (by intro g h;cases h) (maxIn_of hsh) (by rintro b (h|h)<;>cases h)
  refine hC.mono fun e W' ⟨m',_,_,hp,_,_,u,hu,hr⟩=>?_
  obtain rfl:u=.bool true:=hr.1
  refine ⟨.bool true,hu,?_⟩
  exact law_post (tb:=4) hW' rfl rfl (by kernel_rfl) (by kernel_rfl) (by kernel_rfl) (by rw [Tryz.params7];intro t ht;simp only [List.mem_cons,List.not_mem_nil,or_false] at ht;rcases ht with rfl|rfl|rfl|rfl<;>exact ⟨by kernel_rfl,of_decide_eq_true (by kernel_rfl)⟩) (Pres.g0 hp) (by intro b h;rcases h with h|h<;>cases h)
theorem laid_met_indexBuilds (os:Os):laidMet Tryz.prog Rows.indexBuildsRow.laid ((laidW os).forCall (fun _ _=>0) ⟨#[],#[.agg #[.slice none 0 0],.slice none 0 0,.int .i64 0,.string ⟨#[]⟩],[]⟩).memory:=
  laidMet_of_run3 8 (by kernel_rfl) (by kernel_rfl) (by kernel_rfl)
theorem reads_indexBuilds (os:Os) {H:Type} (enc:TypeId×Value→H):∃ places,DataW.whole enc Tryz.prog ((laidW os).forCall (fun _ _=>0) ⟨#[],#[.agg #[.slice none 0 0],.slice none 0 0,.int .i64 0,.string ⟨#[]⟩],[]⟩).memory Tryz.f7.params.toList Rows.indexBuildsSpec.vars false (#[.agg #[.slice none 0 0],.slice none 0 0,.int .i64 0,.string ⟨#[]⟩]:Array Value).toList 8=some ([.agg [.nil],.nil,.lit (.int .i64 0),.lit (.string [])],[],places):=
  ⟨[],by kernel_rfl⟩
theorem lifted_indexBuilds (os:Os) (started:os.Started) (H:Type) (enc:TypeId×Value→H) (F:Stop.Interp):
    ReturnsInHanded {} Tryz.checked os 7 .any ((OpenSpec.ofChange Rows.indexBuildsSpec).preRow enc Tryz.prog Tryz.f7 Rows.indexBuildsRow.domain false Rows.indexBuildsRow.laid) (((OpenSpec.ofChange Rows.indexBuildsSpec).at F).post enc Tryz.prog Tryz.f7 false true false false):=by
  obtain ⟨places,hx⟩:=reads_indexBuilds os enc
  refine returnsInHanded_of_row (C:=Tryz.checked) (s:=OpenSpec.ofChange Rows.indexBuildsSpec) own_indexBuilds started (by kernel_rfl) Tryz.func7
    (witness_row_at (enc:=enc) (C:=Tryz.checked) false (laidW os) #[.agg #[.slice none 0 0],.slice none 0 0,.int .i64 0,.string ⟨#[]⟩] rfl (by kernel_rfl) (by kernel_rfl) (by kernel_rfl)
      (OpenSpec.preRow_of_cond 8 hx (by kernel_rfl) (fun k hk=>by cases hk) (by kernel_rfl) (laid_met_indexBuilds os))) ?_
  intro W base args ds gs before hval hW _ hcond hsz hL hsh _
  exact contract_indexBuilds H enc W base args ds gs before hval hW hsz hL hsh
theorem in_indexBuilds:(Rows.indexBuildsRow.inPlace==Tryz.pinned.checked.prog.inPlace 7)=true:=by kernel_rfl
theorem unf_indexBuilds:(Rows.indexBuildsRow.unfollowed==Tryz.pinned.checked.prog.unfollowed 7)=true:=by kernel_rfl
theorem rec_indexBuilds:(Rows.indexBuildsRow.recurses==Tryz.pinned.checked.prog.recurses 7)=true:=by kernel_rfl
theorem nam_indexBuilds:(Rows.indexBuildsRow.named==Tryz.pinned.checked.prog.varsNamed 7)=true:=by kernel_rfl
theorem lif_indexBuilds:(Rows.indexBuildsRow.lifted==Tryz.pinned.checked.prog.liftsFinal)=true:=by kernel_rfl
theorem mak_indexBuilds:(Tryz.pinned.checked.prog.make==some Rows.indexBuildsRow.make)=true:=by kernel_rfl
theorem key_indexBuilds:(Rows.indexBuildsRow.plainKeys==Tryz.pinned.checked.prog.plainKeys)=true:=j_keys
theorem closed_indexBuilds:joinedFacts Tryz.pinned.checked.prog 7 Tryz.f7 (OpenSpec.ofChange Rows.indexBuildsSpec).bare Rows.indexBuildsRow=true:=by
  simp only [joinedFacts,Bool.and_eq_true]
  repeat' with_reducible apply And.intro
  all_goals with_reducible first|exact j_laid|exact j_maps|exact j_heard|exact j_enter|exact j_stops|exact j_knobs|exact in_indexBuilds|exact unf_indexBuilds|exact rec_indexBuilds|exact nam_indexBuilds|exact lif_indexBuilds|exact mak_indexBuilds|exact key_indexBuilds|skip
  all_goals (as_aux_lemma=>kernel_rfl)
theorem said_indexBuilds:Rows.IndexBuildsSaid:=
  OpenClaim.holds_of_cond 7 Tryz.f7 rfl rfl rfl rfl rfl rfl rfl ⟨rfl,rfl,rfl,rfl,rfl⟩ rfl rfl rfl rfl rfl (by kernel_rfl) Tryz.func7 closed_indexBuilds
    (of_decide_eq_true (by kernel_rfl)) (by unfold Func.isWrapper;first|(rw [if_pos (by decide +kernel)];kernel_rfl)|(rw [if_neg (by decide +kernel)];exact ⟨rfl,rfl⟩))
    (fun os started H enc _ F=>by rw [OpenClaim.pre_eq_preRow];exact lifted_indexBuilds os started H enc F)
theorem plain_indexBuilds (f:FuncId) (fn:Func) (hf:Tryz.pinned.checked.prog.funcNamed Rows.indexBuildsRow.func=some f) (hfn:Tryz.pinned.checked.prog.funcs[f]?=some fn):
    true=Tryz.pinned.checked.prog.looks []∧∀ (j:Nat) t,fn.params[j]?=some t→Tryz.pinned.checked.prog.wantsStandIn t=false:=by
  obtain rfl:f=7:=Option.some.inj ((show Tryz.prog.funcNamed Rows.indexBuildsRow.func=some 7 by kernel_rfl).symm.trans hf) |>.symm
  obtain rfl:fn=Tryz.f7:=(Option.some.inj (Tryz.func7.symm.trans hfn)).symm
  refine ⟨by kernel_rfl,fun j t ht=>?_⟩
  rw [Tryz.params7] at ht
  have hm:=Array.mem_of_getElem? ht
  simp only [List.mem_toArray,List.mem_cons,List.not_mem_nil,or_false] at hm
  rcases hm with rfl|rfl|rfl|rfl<;>first|exact (show Tryz.prog.wantsStandIn 24=false by kernel_rfl)|exact (show Tryz.prog.wantsStandIn 47=false by kernel_rfl)|exact (show Tryz.prog.wantsStandIn 3=false by kernel_rfl)|exact (show Tryz.prog.wantsStandIn 9=false by kernel_rfl)
end Go.Proofs.YtjnagiaooecklabGreatDoor
