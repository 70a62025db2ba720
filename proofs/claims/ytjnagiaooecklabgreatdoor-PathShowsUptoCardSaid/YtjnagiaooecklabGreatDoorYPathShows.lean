/-
  The law PathShows, where what it reads is of bulk at most 1048576: it returns true, and each argument reads behind the call as it read before. No other condition.
-/
import Derived.Test.YtjnagiaooecklabGreatDoorG28
import Derived.Test.YtjnagiaooecklabGreatDoorG33
import Derived.Test.YtjnagiaooecklabGreatDoorG31
import Derived.Test.YtjnagiaooecklabGreatDoorG30
import Derived.Test.YtjnagiaooecklabGreatDoorG34
import Derived.Test.YtjnagiaooecklabGreatDoorCards
import Derived.Test.YtjnagiaooecklabGreatDoorTie
import Derived.Deep.DeepLaidRun
import Derived.Deep.DeepWitnessRowRef
import Derived.OpenShut
set_option linter.all false
set_option maxRecDepth 100000
namespace Go.Proofs.YtjnagiaooecklabGreatDoor
open Go.RowKit Go.ChangeShapes Go.WideShapes Go.WideElems Go.Hx
theorem own_pathShows:ownKnob Tryz.prog.godebug=none:=by kernel_rfl
theorem contract_pathShows (H:Type) (enc:TypeId × Value→H) (W:World) (base:Nat) (args:Array Value) (ds gs:List (DataW H)) (before:List MemPlace)
    (hval:∀ (j:Nat) t v,Tryz.f10.params[j]? = some t→args[j]? = some v→Value.okWide Tryz.prog W .any base t v)
    (hW:DataW.Whole enc Tryz.prog Tryz.f10.params.toList Rows.pathShowsSpec.vars false W args.toList ds gs before)
    (hk:Rows.uptoSmall H (ds ++ gs)=true)
    (hL:laidMetH Tryz.prog Rows.pathShowsUptoRow.laid W) (hsh:W.ShapedOpen Tryz.prog) :
    Calls Tryz.prog 10 args W fun e W'=>∃ v,e = .returned v∧Rows.pathShowsSpec.post enc Tryz.prog Tryz.f10 false true false false W args v W':=by
  have hW':=hW
  obtain ⟨p,q,hA0,hV,rfl,hfz,hnd⟩:=hW
  have hA:DataW.TrodAll enc Tryz.prog W 0 (fun _=>true) true Tryz.f10.params.toList args.toList ds p:=hA0
  rw [Tryz.params10] at hA hval
  obtain ⟨v0,vs0,d0,ds0,p0,q0,e0,rfl,rfl,h0,r0⟩:=trodAll_cons hA
  obtain ⟨v1,vs1,d1,ds1,p1,q1,e1,rfl,rfl,h1,r1⟩:=trodAll_cons r0
  obtain ⟨rfl,rfl,rfl⟩:=trodAll_nil r1
  subst e1
  obtain rfl:args = #[v0,v1]:=by cases args; simp_all
  obtain ⟨x0,g0⟩:=a_paths (hval 0 25 v0 rfl rfl) h0
  obtain ⟨x1,g1,hd1⟩:=a_str (hval 1 9 v1 rfl rfl) h1
  obtain ⟨rfl,rfl⟩:=trodVars_none hV
  have hlen:x1.length≤1048576:=by
    subst hd1
    have hk':Rows.uptoBulkAll [d0,DataW.lit (H:=H) (.string x1)]≤1048576:=of_decide_eq_true hk
    simp only [Rows.uptoBulkAll,Rows.uptoBulk] at hk'
    omega
  have hC:=(@zSg  x0 x1 yO).2 (memOf W) W [v0,v1] memOf_ok ⟨_,_,rfl,g0,⟨_,_,rfl,g1,rfl⟩⟩ (by intro g h; cases h) (numOk_of hL hsh) (by rintro b (h | h) <;> cases h)
  refine hC.mono fun e W' ⟨m',_,_,hp,_,_,u,hu,hr⟩=>?_
  obtain rfl:u = .bool true:=hr.1
  refine ⟨.bool true,hu,?_⟩
  exact law_post (tb:=4) hW' rfl rfl (by kernel_rfl) (by kernel_rfl) (by kernel_rfl) (by rw [Tryz.params10]; intro t ht; simp only [List.mem_cons,List.not_mem_nil,or_false] at ht; rcases ht with rfl | rfl <;> exact ⟨by kernel_rfl,of_decide_eq_true (by kernel_rfl)⟩) hp (by intro b h; rcases h with h | h <;> cases h)
theorem laid_met_pathShows (os:Os):laidMet Tryz.prog Rows.pathShowsUptoRow.laid ((laidN os).forCall (fun _ _=>0) ⟨#[],#[.slice none 0 0,.string ⟨#[]⟩],[]⟩).memory:=
  laidMet_of_run3 8 (by kernel_rfl) (by kernel_rfl) (by kernel_rfl)
theorem reads_pathShows (os:Os) {H:Type} (enc:TypeId × Value→H):∃ places,DataW.whole enc Tryz.prog ((laidN os).forCall (fun _ _=>0) ⟨#[],#[.slice none 0 0,.string ⟨#[]⟩],[]⟩).memory Tryz.f10.params.toList Rows.pathShowsSpec.vars false (#[.slice none 0 0,.string ⟨#[]⟩]:Array Value).toList 8=some ([.nil,.lit (.string [])],[],places):=
  ⟨[],by kernel_rfl⟩
theorem lifted_pathShows (os:Os) (started:os.Started) (H:Type) (enc:TypeId × Value→H) (F:Stop.Interp) :
    ReturnsInHanded {} Tryz.checked os 10 .any ((Rows.OpenSpec.upto Rows.pathShowsSpec).preRow enc Tryz.prog Tryz.f10 Rows.pathShowsUptoRow.domain false Rows.pathShowsUptoRow.laid) (((Rows.OpenSpec.upto Rows.pathShowsSpec).at F).post enc Tryz.prog Tryz.f10 false true false false):=by
  obtain ⟨places,hx⟩:=reads_pathShows os enc
  refine returnsInHanded_of_row (C:=Tryz.checked) (s:=Rows.OpenSpec.upto Rows.pathShowsSpec) own_pathShows started (by kernel_rfl) Tryz.func10
    (witness_row_atRef (enc:=enc) (C:=Tryz.checked) false (laidN os) #[.slice none 0 0,.string ⟨#[]⟩] rfl (by kernel_rfl) (by kernel_rfl) (by kernel_rfl)
      (OpenSpec.preRow_of_cond 8 hx (by kernel_rfl) (fun k hk=>by cases hk; kernel_rfl) (by kernel_rfl) (laid_met_pathShows os))) ?_
  intro W base args ds gs before hval hW _ hcond _ hL hsh _
  exact contract_pathShows H enc W base args ds gs before hval hW (hcond _ rfl) hL hsh
theorem in_pathShows:(Rows.pathShowsUptoRow.inPlace == Tryz.pinned.checked.prog.inPlace 10)=true:=by kernel_rfl
theorem unf_pathShows:(Rows.pathShowsUptoRow.unfollowed == Tryz.pinned.checked.prog.unfollowed 10)=true:=by kernel_rfl
theorem rec_pathShows:(Rows.pathShowsUptoRow.recurses == Tryz.pinned.checked.prog.recurses 10)=true:=by kernel_rfl
theorem nam_pathShows:(Rows.pathShowsUptoRow.named == Tryz.pinned.checked.prog.varsNamed 10)=true:=by kernel_rfl
theorem lif_pathShows:(Rows.pathShowsUptoRow.lifted == Tryz.pinned.checked.prog.liftsFinal)=true:=by kernel_rfl
theorem mak_pathShows:(Tryz.pinned.checked.prog.make == some Rows.pathShowsUptoRow.make)=true:=by kernel_rfl
theorem key_pathShows:(Rows.pathShowsUptoRow.plainKeys == Tryz.pinned.checked.prog.plainKeys)=true:=j_keys
theorem closed_pathShows:joinedFacts Tryz.pinned.checked.prog 10 Tryz.f10 (Rows.OpenSpec.upto Rows.pathShowsSpec).bare Rows.pathShowsUptoRow=true:=by
  simp only [joinedFacts,Bool.and_eq_true]
  repeat' with_reducible apply And.intro
  all_goals with_reducible first | exact j_laid | exact j_maps | exact j_heard | exact j_enter | exact j_stops | exact j_knobs | exact in_pathShows | exact unf_pathShows | exact rec_pathShows | exact nam_pathShows | exact lif_pathShows | exact mak_pathShows | exact key_pathShows | skip
  all_goals (as_aux_lemma=>kernel_rfl)
theorem said_pathShows:Rows.PathShowsUptoSaid:=
  OpenClaim.holds_of_cond 10 Tryz.f10 rfl rfl rfl rfl rfl rfl rfl ⟨rfl,rfl,rfl,rfl,rfl⟩ rfl rfl rfl rfl rfl (by kernel_rfl) Tryz.func10 closed_pathShows
    (of_decide_eq_true (by kernel_rfl)) (by unfold Func.isWrapper; first | (rw [if_pos (by decide +kernel)]; kernel_rfl) | (rw [if_neg (by decide +kernel)]; exact ⟨rfl,rfl⟩))
    (fun os started H enc _ F=>by rw [OpenClaim.pre_eq_preRow]; exact lifted_pathShows os started H enc F)
theorem plain_pathShows (f:FuncId) (fn:Func) (hf:Tryz.pinned.checked.prog.funcNamed Rows.pathShowsUptoRow.func=some f) (hfn:Tryz.pinned.checked.prog.funcs[f]? = some fn) :
    true=Tryz.pinned.checked.prog.looks []∧∀ (j:Nat) t,fn.params[j]? = some t→Tryz.pinned.checked.prog.wantsStandIn t=false:=by
  obtain rfl:f=10:=Option.some.inj ((show Tryz.prog.funcNamed Rows.pathShowsUptoRow.func=some 10 by kernel_rfl).symm.trans hf) |>.symm
  obtain rfl:fn=Tryz.f10:=(Option.some.inj (Tryz.func10.symm.trans hfn)).symm
  refine ⟨by kernel_rfl,fun j t ht=>?_⟩
  rw [Tryz.params10] at ht
  have hm:=Array.mem_of_getElem? ht
  simp only [List.mem_toArray,List.mem_cons,List.not_mem_nil,or_false] at hm
  rcases hm with rfl | rfl <;> first | exact (show Tryz.prog.wantsStandIn 25=false by kernel_rfl) | exact (show Tryz.prog.wantsStandIn 9=false by kernel_rfl)
theorem pathShowsUpto_card:Rows.PathShowsUptoCardSaid:=
  Claim7.holds_tied_plain_at .later [] _ _ _ _ said_pathShows (fun _ h=>by cases h) (by kernel_rfl) (fun _ h=>by cases h) pathShowsUpto_row_tie rfl ⟨rfl,rfl⟩ (by kernel_rfl) rfl plain_pathShows (by kernel_rfl)
#print axioms pathShowsUpto_card
end Go.Proofs.YtjnagiaooecklabGreatDoor
