/-
  The law RestPages, it returns true for every input, and each argument reads behind the call as it read before. No condition.
-/
import Derived.Test.YtjnagiaooecklabGreatDoorG28
import Derived.Test.YtjnagiaooecklabGreatDoorG31
import Derived.Test.YtjnagiaooecklabGreatDoorG32
import Derived.Test.YtjnagiaooecklabGreatDoorG33
import Derived.Test.YtjnagiaooecklabGreatDoorG30
import Derived.Test.YtjnagiaooecklabGreatDoorG34
import Derived.Test.YtjnagiaooecklabGreatDoorCards
import Derived.Test.YtjnagiaooecklabGreatDoorTie
import Derived.Deep.DeepLaidRun
import Derived.ProofKit
import Derived.OpenShut
set_option linter.all false
set_option maxRecDepth 100000
namespace Go.Proofs.YtjnagiaooecklabGreatDoor
open Go.RowKit Go.ChangeShapes Go.WideShapes Go.WideElems Go.Hx
theorem own_restPages:ownKnob Tryz.prog.godebug=none:=by kernel_rfl
theorem contract_restPages (H:Type) (enc:TypeId×Value→H) (W:World) (base:Nat) (args:Array Value) (ds gs:List (DataW H)) (before:List MemPlace)
    (hval:∀ (j:Nat) t v,Tryz.f6.params[j]?=some t→args[j]?=some v→Value.okWide Tryz.prog W .any base t v)
    (hW:DataW.Whole enc Tryz.prog Tryz.f6.params.toList Rows.restPagesSpec.vars false W args.toList ds gs before)
    (hL:laidMetH Tryz.prog Rows.restPagesRow.laid W) (hsh:W.ShapedOpen Tryz.prog):
    Calls Tryz.prog 6 args W fun e W'=>∃ v,e=.returned v∧Rows.restPagesSpec.post enc Tryz.prog Tryz.f6 false true false false W args v W':=by
  have hW':=hW
  obtain ⟨p,q,hA0,hV,rfl,hfz,hnd⟩:=hW
  have hA:DataW.TrodAll enc Tryz.prog W 0 (fun _=>true) true Tryz.f6.params.toList args.toList ds p:=hA0
  rw [Tryz.params6] at hA hval
  obtain ⟨v0,vs0,d0,ds0,p0,q0,e0,rfl,rfl,h0,r0⟩:=trodAll_cons hA
  obtain ⟨v1,vs1,d1,ds1,p1,q1,e1,rfl,rfl,h1,r1⟩:=trodAll_cons r0
  obtain ⟨v2,vs2,d2,ds2,p2,q2,e2,rfl,rfl,h2,r2⟩:=trodAll_cons r1
  obtain ⟨v3,vs3,d3,ds3,p3,q3,e3,rfl,rfl,h3,r3⟩:=trodAll_cons r2
  obtain ⟨v4,vs4,d4,ds4,p4,q4,e4,rfl,rfl,h4,r4⟩:=trodAll_cons r3
  obtain ⟨rfl,rfl,rfl⟩:=trodAll_nil r4
  subst e4
  subst e3
  subst e2
  subst e1
  obtain rfl:args=#[v0,v1,v2,v3,v4]:=by cases args;simp_all
  obtain ⟨x0,g0⟩:=a_page (hval 0 49 v0 rfl rfl) h0
  obtain ⟨x1,g1⟩:=a_int (hval 1 3 v1 rfl rfl) h1
  obtain ⟨x2,g2⟩:=a_int (hval 2 3 v2 rfl rfl) h2
  obtain ⟨x3,g3⟩:=a_doc (hval 3 24 v3 rfl rfl) h3
  obtain ⟨x4,g4⟩:=a_paths (hval 4 25 v4 rfl rfl) h4
  obtain ⟨rfl,rfl⟩:=trodVars_none hV
  have hC:=(@zYf (gAt glob0 W.heap.size) globLW x0.1 x0.2 x1 x2 x3 x4).2 (memOf W) W [v0,v1,v2,v3,v4] memOf_okW ⟨_,_,rfl,g0,⟨_,_,rfl,g1,⟨_,_,rfl,g2,⟨_,_,rfl,g3,⟨_,_,rfl,g4,rfl⟩⟩⟩⟩⟩ (by intro g h;cases h) ⟨trivial,Nat.le_refl _⟩ (by rintro b (h|h)<;>cases h)
  refine hC.mono fun e W' ⟨m',_,_,hp,_,_,u,hu,hr⟩=>?_
  obtain rfl:u=.bool true:=hr.1
  refine ⟨.bool true,hu,?_⟩
  exact law_post (tb:=4) hW' rfl rfl (by kernel_rfl) (by kernel_rfl) (by kernel_rfl) (by rw [Tryz.params6];intro t ht;simp only [List.mem_cons,List.not_mem_nil,or_false] at ht;rcases ht with rfl|rfl|rfl|rfl|rfl<;>exact ⟨by kernel_rfl,of_decide_eq_true (by kernel_rfl)⟩) (Pres.g0 hp) (by intro b h;rcases h with h|h<;>cases h)
theorem laid_met_restPages (os:Os):laidMet Tryz.prog Rows.restPagesRow.laid ((laidW os).forCall (fun _ _=>0) ⟨#[],#[.agg #[.slice none 0 0,.slice none 0 0],.int .i64 0,.int .i64 0,.agg #[.slice none 0 0],.slice none 0 0],[]⟩).memory:=
  laidMet_of_run3 8 (by kernel_rfl) (by kernel_rfl) (by kernel_rfl)
theorem reads_restPages (os:Os) {H:Type} (enc:TypeId×Value→H):∃ places,DataW.whole enc Tryz.prog ((laidW os).forCall (fun _ _=>0) ⟨#[],#[.agg #[.slice none 0 0,.slice none 0 0],.int .i64 0,.int .i64 0,.agg #[.slice none 0 0],.slice none 0 0],[]⟩).memory Tryz.f6.params.toList Rows.restPagesSpec.vars false (#[.agg #[.slice none 0 0,.slice none 0 0],.int .i64 0,.int .i64 0,.agg #[.slice none 0 0],.slice none 0 0]:Array Value).toList 8=some ([.agg [.agg [.nil],.nil],.lit (.int .i64 0),.lit (.int .i64 0),.agg [.nil],.nil],[],places):=
  ⟨[],by kernel_rfl⟩
theorem lifted_restPages (os:Os) (started:os.Started) (H:Type) (enc:TypeId×Value→H) (F:Stop.Interp):
    ReturnsInHanded {} Tryz.checked os 6 .any ((OpenSpec.ofChange Rows.restPagesSpec).preRow enc Tryz.prog Tryz.f6 Rows.restPagesRow.domain false Rows.restPagesRow.laid) (((OpenSpec.ofChange Rows.restPagesSpec).at F).post enc Tryz.prog Tryz.f6 false true false false):=by
  obtain ⟨places,hx⟩:=reads_restPages os enc
  refine returnsInHanded_of_row (C:=Tryz.checked) (s:=OpenSpec.ofChange Rows.restPagesSpec) own_restPages started (by kernel_rfl) Tryz.func6
    (witness_row_at (enc:=enc) (C:=Tryz.checked) false (laidW os) #[.agg #[.slice none 0 0,.slice none 0 0],.int .i64 0,.int .i64 0,.agg #[.slice none 0 0],.slice none 0 0] rfl (by kernel_rfl) (by kernel_rfl) (by kernel_rfl)
      (OpenSpec.preRow_of_cond 8 hx (by kernel_rfl) (fun k hk=>by cases hk) (by kernel_rfl) (laid_met_restPages os))) ?_
  intro W base args ds gs before hval hW _ hcond hsz hL hsh _
  exact contract_restPages H enc W base args ds gs before hval hW hL hsh
theorem in_restPages:(Rows.restPagesRow.inPlace==Tryz.pinned.checked.prog.inPlace 6)=true:=by kernel_rfl
theorem unf_restPages:(Rows.restPagesRow.unfollowed==Tryz.pinned.checked.prog.unfollowed 6)=true:=by kernel_rfl
theorem rec_restPages:(Rows.restPagesRow.recurses==Tryz.pinned.checked.prog.recurses 6)=true:=by kernel_rfl
theorem nam_restPages:(Rows.restPagesRow.named==Tryz.pinned.checked.prog.varsNamed 6)=true:=by kernel_rfl
theorem lif_restPages:(Rows.restPagesRow.lifted==Tryz.pinned.checked.prog.liftsFinal)=true:=by kernel_rfl
theorem mak_restPages:(Tryz.pinned.checked.prog.make==some Rows.restPagesRow.make)=true:=by kernel_rfl
theorem key_restPages:(Rows.restPagesRow.plainKeys==Tryz.pinned.checked.prog.plainKeys)=true:=j_keys
theorem closed_restPages:joinedFacts Tryz.pinned.checked.prog 6 Tryz.f6 (OpenSpec.ofChange Rows.restPagesSpec).bare Rows.restPagesRow=true:=by
  simp only [joinedFacts,Bool.and_eq_true]
  repeat' with_reducible apply And.intro
  all_goals with_reducible first|exact j_laid|exact j_maps|exact j_heard|exact j_enter|exact j_stops|exact j_knobs|exact in_restPages|exact unf_restPages|exact rec_restPages|exact nam_restPages|exact lif_restPages|exact mak_restPages|exact key_restPages|skip
  all_goals (as_aux_lemma=>kernel_rfl)
theorem said_restPages:Rows.RestPagesSaid:=
  OpenClaim.holds_of_cond 6 Tryz.f6 rfl rfl rfl rfl rfl rfl rfl ⟨rfl,rfl,rfl,rfl,rfl⟩ rfl rfl rfl rfl rfl (by kernel_rfl) Tryz.func6 closed_restPages
    (of_decide_eq_true (by kernel_rfl)) (by unfold Func.isWrapper;first|(rw [if_pos (by decide +kernel)];kernel_rfl)|(rw [if_neg (by decide +kernel)];exact ⟨rfl,rfl⟩))
    (fun os started H enc _ F=>by rw [OpenClaim.pre_eq_preRow];exact lifted_restPages os started H enc F)
theorem plain_restPages (f:FuncId) (fn:Func) (hf:Tryz.pinned.checked.prog.funcNamed Rows.restPagesRow.func=some f) (hfn:Tryz.pinned.checked.prog.funcs[f]?=some fn):
    true=Tryz.pinned.checked.prog.looks []∧∀ (j:Nat) t,fn.params[j]?=some t→Tryz.pinned.checked.prog.wantsStandIn t=false:=by
  obtain rfl:f=6:=Option.some.inj ((show Tryz.prog.funcNamed Rows.restPagesRow.func=some 6 by kernel_rfl).symm.trans hf) |>.symm
  obtain rfl:fn=Tryz.f6:=(Option.some.inj (Tryz.func6.symm.trans hfn)).symm
  refine ⟨by kernel_rfl,fun j t ht=>?_⟩
  rw [Tryz.params6] at ht
  have hm:=Array.mem_of_getElem? ht
  simp only [List.mem_toArray,List.mem_cons,List.not_mem_nil,or_false] at hm
  rcases hm with rfl|rfl|rfl|rfl|rfl<;>first|exact (show Tryz.prog.wantsStandIn 24=false by kernel_rfl)|exact (show Tryz.prog.wantsStandIn 3=false by kernel_rfl)|exact (show Tryz.prog.wantsStandIn 49=false by kernel_rfl)|exact (show Tryz.prog.wantsStandIn 25=false by kernel_rfl)
end Go.Proofs.YtjnagiaooecklabGreatDoor
