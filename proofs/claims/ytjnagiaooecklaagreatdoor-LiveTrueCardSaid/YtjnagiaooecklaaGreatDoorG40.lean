/-
  The law LiveTrue, it returns true for every input, and each argument reads behind the call as it read before. No condition.
-/
import Derived.Test.YtjnagiaooecklaaGreatDoorG33
import Derived.Test.YtjnagiaooecklaaGreatDoorG35
import Derived.Test.YtjnagiaooecklaaGreatDoorG37
import Derived.Test.YtjnagiaooecklaaGreatDoorG38
import Derived.Test.YtjnagiaooecklaaGreatDoorG36
import Derived.Test.YtjnagiaooecklaaGreatDoorG39
import Derived.Test.YtjnagiaooecklaaGreatDoorCards
import Derived.Test.YtjnagiaooecklaaGreatDoorTie
import Derived.Deep.DeepLaidRun
import Derived.ProofKit
import Derived.OpenShut
set_option linter.all false
set_option maxRecDepth 100000
namespace Go.Proofs.YtjnagiaooecklaaGreatDoor
open Go.RowKit Go.ChangeShapes Go.WideShapes Go.WideElems Go.Hx
theorem own_liveTrue:ownKnob Tryz.prog.godebug=none:=by kernel_rfl
theorem contract_liveTrue (H:Type) (enc:TypeId×Value→H) (W:World) (base:Nat) (args:Array Value) (ds gs:List (DataW H)) (before:List MemPlace)
    (hval:∀ (j:Nat) t v,Tryz.f3.params[j]?=some t→args[j]?=some v→Value.okWide Tryz.prog W .any base t v)
    (hW:DataW.Whole enc Tryz.prog Tryz.f3.params.toList Rows.liveTrueSpec.vars false W args.toList ds gs before)
    (hL:laidMetH Tryz.prog Rows.liveTrueRow.laid W) (hsh:W.ShapedOpen Tryz.prog):
    Calls Tryz.prog 3 args W fun e W'=>∃ v,e=.returned v∧Rows.liveTrueSpec.post enc Tryz.prog Tryz.f3 false true false false W args v W':=by
  have hW':=hW
  obtain ⟨p,q,hA0,hV,rfl,hfz,hnd⟩:=hW
  have hA:DataW.TrodAll enc Tryz.prog W 0 (fun _=>true) true Tryz.f3.params.toList args.toList ds p:=hA0
  rw [Tryz.params3] at hA hval
  obtain ⟨v0,vs0,d0,ds0,p0,q0,e0,rfl,rfl,h0,r0⟩:=trodAll_cons hA
  obtain ⟨v1,vs1,d1,ds1,p1,q1,e1,rfl,rfl,h1,r1⟩:=trodAll_cons r0
  obtain ⟨v2,vs2,d2,ds2,p2,q2,e2,rfl,rfl,h2,r2⟩:=trodAll_cons r1
  obtain ⟨v3,vs3,d3,ds3,p3,q3,e3,rfl,rfl,h3,r3⟩:=trodAll_cons r2
  obtain ⟨v4,vs4,d4,ds4,p4,q4,e4,rfl,rfl,h4,r4⟩:=trodAll_cons r3
  obtain ⟨v5,vs5,d5,ds5,p5,q5,e5,rfl,rfl,h5,r5⟩:=trodAll_cons r4
  obtain ⟨v6,vs6,d6,ds6,p6,q6,e6,rfl,rfl,h6,r6⟩:=trodAll_cons r5
  obtain ⟨v7,vs7,d7,ds7,p7,q7,e7,rfl,rfl,h7,r7⟩:=trodAll_cons r6
  obtain ⟨rfl,rfl,rfl⟩:=trodAll_nil r7
  subst e7
  subst e6
  subst e5
  subst e4
  subst e3
  subst e2
  subst e1
  obtain rfl:args=#[v0,v1,v2,v3,v4,v5,v6,v7]:=by cases args;simp_all
  obtain ⟨x0,g0⟩:=a_doc (hval 0 24 v0 rfl rfl) h0
  obtain ⟨x1,g1⟩:=a_int (hval 1 3 v1 rfl rfl) h1
  obtain ⟨x2,g2⟩:=a_int (hval 2 3 v2 rfl rfl) h2
  obtain ⟨x3,g3⟩:=a_doc (hval 3 24 v3 rfl rfl) h3
  obtain ⟨x4,g4⟩:=a_int (hval 4 3 v4 rfl rfl) h4
  obtain ⟨x5,g5⟩:=a_int (hval 5 3 v5 rfl rfl) h5
  obtain ⟨x6,g6⟩:=a_node (hval 6 28 v6 rfl rfl) h6
  obtain ⟨x7,g7⟩:=a_paths (hval 7 29 v7 rfl rfl) h7
  obtain ⟨rfl,rfl⟩:=trodVars_none hV
  have hC:=(@zUl globMax (@GlobL.mk globMax rfl) maxOk_globMax x0 x1 x2 x3 x4 x5 x6 x7).2 (memOf W) W [v0,v1,v2,v3,v4,v5,v6,v7] memOf_ok ⟨_,_,rfl,g0,⟨_,_,rfl,g1,⟨_,_,rfl,g2,⟨_,_,rfl,g3,⟨_,_,rfl,g4,⟨_,_,rfl,g5,⟨_,_,rfl,g6,⟨_,_,rfl,g7,rfl⟩⟩⟩⟩⟩⟩⟩⟩ (by intro g h;cases h) (maxIn_of hsh) (by rintro b (h|h)<;>cases h)
  refine hC.mono fun e W' ⟨m',_,_,hp,_,_,u,hu,hr⟩=>?_
  obtain rfl:u=.bool true:=hr.1
  refine ⟨.bool true,hu,?_⟩
  exact law_post (tb:=4) hW' rfl rfl (by kernel_rfl) (by kernel_rfl) (by kernel_rfl) (by rw [Tryz.params3];intro t ht;simp only [List.mem_cons,List.not_mem_nil,or_false] at ht;rcases ht with rfl|rfl|rfl|rfl|rfl|rfl|rfl|rfl<;>exact ⟨by kernel_rfl,of_decide_eq_true (by kernel_rfl)⟩) (Pres.g0 hp) (by intro b h;rcases h with h|h<;>cases h)
theorem laid_met_liveTrue (os:Os):laidMet Tryz.prog Rows.liveTrueRow.laid ((laidW os).forCall (fun _ _=>0) ⟨#[],#[.agg #[.slice none 0 0],.int .i64 0,.int .i64 0,.agg #[.slice none 0 0],.int .i64 0,.int .i64 0,.agg #[.int .i64 0,.string ⟨#[]⟩,.string ⟨#[]⟩,.slice none 0 0,.slice none 0 0],.slice none 0 0],[]⟩).memory:=
  laidMet_of_run3 8 (by kernel_rfl) (by kernel_rfl) (by kernel_rfl)
theorem reads_liveTrue (os:Os) {H:Type} (enc:TypeId×Value→H):∃ places,DataW.whole enc Tryz.prog ((laidW os).forCall (fun _ _=>0) ⟨#[],#[.agg #[.slice none 0 0],.int .i64 0,.int .i64 0,.agg #[.slice none 0 0],.int .i64 0,.int .i64 0,.agg #[.int .i64 0,.string ⟨#[]⟩,.string ⟨#[]⟩,.slice none 0 0,.slice none 0 0],.slice none 0 0],[]⟩).memory Tryz.f3.params.toList Rows.liveTrueSpec.vars false (#[.agg #[.slice none 0 0],.int .i64 0,.int .i64 0,.agg #[.slice none 0 0],.int .i64 0,.int .i64 0,.agg #[.int .i64 0,.string ⟨#[]⟩,.string ⟨#[]⟩,.slice none 0 0,.slice none 0 0],.slice none 0 0]:Array Value).toList 8=some ([.agg [.nil],.lit (.int .i64 0),.lit (.int .i64 0),.agg [.nil],.lit (.int .i64 0),.lit (.int .i64 0),.agg [.lit (.int .i64 0),.lit (.string []),.lit (.string []),.nil,.nil],.nil],[],places):=
  ⟨[],by kernel_rfl⟩
theorem lifted_liveTrue (os:Os) (started:os.Started) (H:Type) (enc:TypeId×Value→H) (F:Stop.Interp):
    ReturnsInHanded {} Tryz.checked os 3 .any ((OpenSpec.ofChange Rows.liveTrueSpec).preRow enc Tryz.prog Tryz.f3 Rows.liveTrueRow.domain false Rows.liveTrueRow.laid) (((OpenSpec.ofChange Rows.liveTrueSpec).at F).post enc Tryz.prog Tryz.f3 false true false false):=by
  obtain ⟨places,hx⟩:=reads_liveTrue os enc
  refine returnsInHanded_of_row (C:=Tryz.checked) (s:=OpenSpec.ofChange Rows.liveTrueSpec) own_liveTrue started (by kernel_rfl) Tryz.func3
    (witness_row_at (enc:=enc) (C:=Tryz.checked) false (laidW os) #[.agg #[.slice none 0 0],.int .i64 0,.int .i64 0,.agg #[.slice none 0 0],.int .i64 0,.int .i64 0,.agg #[.int .i64 0,.string ⟨#[]⟩,.string ⟨#[]⟩,.slice none 0 0,.slice none 0 0],.slice none 0 0] rfl (by kernel_rfl) (by kernel_rfl) (by kernel_rfl)
      (OpenSpec.preRow_of_cond 8 hx (by kernel_rfl) (fun k hk=>by cases hk) (by kernel_rfl) (laid_met_liveTrue os))) ?_
  intro W base args ds gs before hval hW _ hcond hsz hL hsh _
  exact contract_liveTrue H enc W base args ds gs before hval hW hL hsh
theorem in_liveTrue:(Rows.liveTrueRow.inPlace==Tryz.pinned.checked.prog.inPlace 3)=true:=by kernel_rfl
theorem unf_liveTrue:(Rows.liveTrueRow.unfollowed==Tryz.pinned.checked.prog.unfollowed 3)=true:=by kernel_rfl
theorem rec_liveTrue:(Rows.liveTrueRow.recurses==Tryz.pinned.checked.prog.recurses 3)=true:=by kernel_rfl
theorem nam_liveTrue:(Rows.liveTrueRow.named==Tryz.pinned.checked.prog.varsNamed 3)=true:=by kernel_rfl
theorem lif_liveTrue:(Rows.liveTrueRow.lifted==Tryz.pinned.checked.prog.liftsFinal)=true:=by kernel_rfl
theorem mak_liveTrue:(Tryz.pinned.checked.prog.make==some Rows.liveTrueRow.make)=true:=by kernel_rfl
theorem key_liveTrue:(Rows.liveTrueRow.plainKeys==Tryz.pinned.checked.prog.plainKeys)=true:=j_keys
theorem closed_liveTrue:joinedFacts Tryz.pinned.checked.prog 3 Tryz.f3 (OpenSpec.ofChange Rows.liveTrueSpec).bare Rows.liveTrueRow=true:=by
  simp only [joinedFacts,Bool.and_eq_true]
  repeat' with_reducible apply And.intro
  all_goals with_reducible first|exact j_laid|exact j_maps|exact j_heard|exact j_enter|exact j_stops|exact j_knobs|exact in_liveTrue|exact unf_liveTrue|exact rec_liveTrue|exact nam_liveTrue|exact lif_liveTrue|exact mak_liveTrue|exact key_liveTrue|skip
  all_goals (as_aux_lemma=>kernel_rfl)
theorem said_liveTrue:Rows.LiveTrueSaid:=
  OpenClaim.holds_of_cond 3 Tryz.f3 rfl rfl rfl rfl rfl rfl rfl ⟨rfl,rfl,rfl,rfl,rfl⟩ rfl rfl rfl rfl rfl (by kernel_rfl) Tryz.func3 closed_liveTrue
    (of_decide_eq_true (by kernel_rfl)) (by unfold Func.isWrapper;first|(rw [if_pos (by decide +kernel)];kernel_rfl)|(rw [if_neg (by decide +kernel)];exact ⟨rfl,rfl⟩))
    (fun os started H enc _ F=>by rw [OpenClaim.pre_eq_preRow];exact lifted_liveTrue os started H enc F)
theorem plain_liveTrue (f:FuncId) (fn:Func) (hf:Tryz.pinned.checked.prog.funcNamed Rows.liveTrueRow.func=some f) (hfn:Tryz.pinned.checked.prog.funcs[f]?=some fn):
    true=Tryz.pinned.checked.prog.looks []∧∀ (j:Nat) t,fn.params[j]?=some t→Tryz.pinned.checked.prog.wantsStandIn t=false:=by
  obtain rfl:f=3:=Option.some.inj ((show Tryz.prog.funcNamed Rows.liveTrueRow.func=some 3 by kernel_rfl).symm.trans hf) |>.symm
  obtain rfl:fn=Tryz.f3:=(Option.some.inj (Tryz.func3.symm.trans hfn)).symm
  refine ⟨by kernel_rfl,fun j t ht=>?_⟩
  rw [Tryz.params3] at ht
  have hm:=Array.mem_of_getElem? ht
  simp only [List.mem_toArray,List.mem_cons,List.not_mem_nil,or_false] at hm
  rcases hm with rfl|rfl|rfl|rfl|rfl|rfl|rfl|rfl<;>first|exact (show Tryz.prog.wantsStandIn 24=false by kernel_rfl)|exact (show Tryz.prog.wantsStandIn 3=false by kernel_rfl)|exact (show Tryz.prog.wantsStandIn 28=false by kernel_rfl)|exact (show Tryz.prog.wantsStandIn 29=false by kernel_rfl)
end Go.Proofs.YtjnagiaooecklaaGreatDoor
