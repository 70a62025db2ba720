/-
  The law IndexAll, it returns true for every input, and each argument reads behind the call as it read before. No condition.
-/
import Derived.Test.YtjnagiaooecklabGreatDoorG30
import Derived.Test.YtjnagiaooecklabGreatDoorG32
import Derived.Test.YtjnagiaooecklabGreatDoorG34
import Derived.Test.YtjnagiaooecklabGreatDoorG35
import Derived.Test.YtjnagiaooecklabGreatDoorG33
import Derived.Test.YtjnagiaooecklabGreatDoorG36
import Derived.Test.YtjnagiaooecklabGreatDoorCards
import Derived.Test.YtjnagiaooecklabGreatDoorTie
import Derived.Deep.DeepLaidRun
import Derived.ProofKit
import Derived.OpenShut
set_option linter.all false
set_option maxRecDepth 100000
namespace Go.Proofs.YtjnagiaooecklabGreatDoor
open Go.RowKit Go.ChangeShapes Go.WideShapes Go.WideElems Go.Hx
theorem own_indexAll : ownKnob Tryz.prog.godebug = none := by kernel_rfl
theorem contract_indexAll (H : Type) (enc : TypeId × Value → H) (W : World) (base : Nat) (args : Array Value) (ds gs : List (DataW H)) (before : List MemPlace)
    (hval : ∀ (j : Nat) t v, Tryz.f9.params[j]? = some t → args[j]? = some v → Value.okWide Tryz.prog W .any base t v)
    (hW : DataW.Whole enc Tryz.prog Tryz.f9.params.toList Rows.indexAllSpec.vars false W args.toList ds gs before)
    (hL : laidMetH Tryz.prog Rows.indexAllRow.laid W) (hsh : W.ShapedOpen Tryz.prog) :
    Calls Tryz.prog 9 args W fun e W' => ∃ v, e = .returned v ∧ Rows.indexAllSpec.post enc Tryz.prog Tryz.f9 false true false false W args v W' := by
  have hW' := hW
  obtain ⟨p, q, hA0, hV, rfl, hfz, hnd⟩ := hW
  have hA : DataW.TrodAll enc Tryz.prog W 0 (fun _ => true) true Tryz.f9.params.toList args.toList ds p := hA0
  rw [Tryz.params9] at hA hval
  obtain ⟨v0, vs0, d0, ds0, p0, q0, e0, rfl, rfl, h0, r0⟩ := trodAll_cons hA
  obtain ⟨v1, vs1, d1, ds1, p1, q1, e1, rfl, rfl, h1, r1⟩ := trodAll_cons r0
  obtain ⟨rfl, rfl, rfl⟩ := trodAll_nil r1
  subst e1
  obtain rfl : args = #[v0, v1] := by cases args; simp_all
  obtain ⟨x0, g0⟩ := a_doc (hval 0 24 v0 rfl rfl) h0
  obtain ⟨x1, g1⟩ := a_paths (hval 1 25 v1 rfl rfl) h1
  obtain ⟨rfl, rfl⟩ := trodVars_none hV
  have hC := (@zQW globMax (@GlobL.mk globMax rfl) maxOk_globMax x0 x1).2 (memOf W) W [v0, v1] memOf_ok ⟨_, _, rfl, g0, ⟨_, _, rfl, g1, rfl⟩⟩ (by intro g h; cases h) (maxIn_of hsh) (by rintro b (h | h) <;> cases h)
  refine hC.mono fun e W' ⟨m', _, _, hp, _, _, u, hu, hr⟩ => ?_
  obtain rfl : u = .bool true := hr.1
  refine ⟨.bool true, hu, ?_⟩
  exact law_post (tb := 4) hW' rfl rfl (by kernel_rfl) (by kernel_rfl) (by kernel_rfl) (by rw [Tryz.params9]; intro t ht; simp only [List.mem_cons, List.not_mem_nil, or_false] at ht; rcases ht with rfl | rfl <;> exact ⟨by kernel_rfl, of_decide_eq_true (by kernel_rfl)⟩) (Pres.g0 hp) (by intro b h; rcases h with h | h <;> cases h)
theorem laid_met_indexAll (os : Os) : laidMet Tryz.prog Rows.indexAllRow.laid ((laidW os).forCall (fun _ _ => 0) ⟨#[], #[.agg #[.slice none 0 0], .slice none 0 0], []⟩).memory :=
  laidMet_of_run3 8 (by kernel_rfl) (by kernel_rfl) (by kernel_rfl)
theorem reads_indexAll (os : Os) {H : Type} (enc : TypeId × Value → H) : ∃ places, DataW.whole enc Tryz.prog ((laidW os).forCall (fun _ _ => 0) ⟨#[], #[.agg #[.slice none 0 0], .slice none 0 0], []⟩).memory Tryz.f9.params.toList Rows.indexAllSpec.vars false (#[.agg #[.slice none 0 0], .slice none 0 0] : Array Value).toList 8 = some ([.agg [.nil], .nil], [], places) :=
  ⟨[], by kernel_rfl⟩
theorem lifted_indexAll (os : Os) (started : os.Started) (H : Type) (enc : TypeId × Value → H) (F : Stop.Interp) :
    ReturnsInHanded {} Tryz.checked os 9 .any ((OpenSpec.ofChange Rows.indexAllSpec).preRow enc Tryz.prog Tryz.f9 Rows.indexAllRow.domain false Rows.indexAllRow.laid) (((OpenSpec.ofChange Rows.indexAllSpec).at F).post enc Tryz.prog Tryz.f9 false true false false) := by
  obtain ⟨places, hx⟩ := reads_indexAll os enc
  refine returnsInHanded_of_row (C := Tryz.checked) (s := OpenSpec.ofChange Rows.indexAllSpec) own_indexAll started (by kernel_rfl) Tryz.func9
    (witness_row_at (enc := enc) (C := Tryz.checked) false (laidW os) #[.agg #[.slice none 0 0], .slice none 0 0] rfl (by kernel_rfl) (by kernel_rfl) (by kernel_rfl)
      (OpenSpec.preRow_of_cond 8 hx (by kernel_rfl) (fun k hk => by cases hk) (by kernel_rfl) (laid_met_indexAll os))) ?_
  intro W base args ds gs before hval hW _ hcond hsz hL hsh _
  exact contract_indexAll H enc W base args ds gs before hval hW hL hsh
theorem in_indexAll : (Rows.indexAllRow.inPlace == Tryz.pinned.checked.prog.inPlace 9) = true := by kernel_rfl
theorem unf_indexAll : (Rows.indexAllRow.unfollowed == Tryz.pinned.checked.prog.unfollowed 9) = true := by kernel_rfl
theorem rec_indexAll : (Rows.indexAllRow.recurses == Tryz.pinned.checked.prog.recurses 9) = true := by kernel_rfl
theorem nam_indexAll : (Rows.indexAllRow.named == Tryz.pinned.checked.prog.varsNamed 9) = true := by kernel_rfl
theorem lif_indexAll : (Rows.indexAllRow.lifted == Tryz.pinned.checked.prog.liftsFinal) = true := by kernel_rfl
theorem mak_indexAll : (Tryz.pinned.checked.prog.make == some Rows.indexAllRow.make) = true := by kernel_rfl
theorem key_indexAll : (Rows.indexAllRow.plainKeys == Tryz.pinned.checked.prog.plainKeys) = true := j_keys
theorem closed_indexAll : joinedFacts Tryz.pinned.checked.prog 9 Tryz.f9 (OpenSpec.ofChange Rows.indexAllSpec).bare Rows.indexAllRow = true := by
  simp only [joinedFacts, Bool.and_eq_true]
  repeat' with_reducible apply And.intro
  all_goals with_reducible first | exact j_laid | exact j_maps | exact j_heard | exact j_enter | exact j_stops | exact j_knobs | exact in_indexAll | exact unf_indexAll | exact rec_indexAll | exact nam_indexAll | exact lif_indexAll | exact mak_indexAll | exact key_indexAll | skip
  all_goals (as_aux_lemma => kernel_rfl)
theorem said_indexAll : Rows.IndexAllSaid :=
  OpenClaim.holds_of_cond 9 Tryz.f9 rfl rfl rfl rfl rfl rfl rfl ⟨rfl, rfl, rfl, rfl, rfl⟩ rfl rfl rfl rfl rfl (by kernel_rfl) Tryz.func9 closed_indexAll
    (of_decide_eq_true (by kernel_rfl)) (by unfold Func.isWrapper; first | (rw [if_pos (by decide +kernel)]; kernel_rfl) | (rw [if_neg (by decide +kernel)]; exact ⟨rfl, rfl⟩))
    (fun os started H enc _ F => by rw [OpenClaim.pre_eq_preRow]; exact lifted_indexAll os started H enc F)
theorem plain_indexAll (f : FuncId) (fn : Func) (hf : Tryz.pinned.checked.prog.funcNamed Rows.indexAllRow.func = some f) (hfn : Tryz.pinned.checked.prog.funcs[f]? = some fn) :
    true = Tryz.pinned.checked.prog.looks [] ∧ ∀ (j : Nat) t, fn.params[j]? = some t → Tryz.pinned.checked.prog.wantsStandIn t = false := by
  obtain rfl : f = 9 := Option.some.inj ((show Tryz.prog.funcNamed Rows.indexAllRow.func = some 9 by kernel_rfl).symm.trans hf) |>.symm
  obtain rfl : fn = Tryz.f9 := (Option.some.inj (Tryz.func9.symm.trans hfn)).symm
  refine ⟨by kernel_rfl, fun j t ht => ?_⟩
  rw [Tryz.params9] at ht
  have hm := Array.mem_of_getElem? ht
  simp only [List.mem_toArray, List.mem_cons, List.not_mem_nil, or_false] at hm
  rcases hm with rfl | rfl <;> first | exact (show Tryz.prog.wantsStandIn 24 = false by kernel_rfl) | exact (show Tryz.prog.wantsStandIn 25 = false by kernel_rfl)
theorem indexAll_card : Rows.IndexAllCardSaid :=
  Claim7.holds_tied_plain_at .later [] _ _ _ _ said_indexAll (fun _ h => by cases h) (by kernel_rfl) (fun _ h => by cases h) indexAll_row_tie rfl ⟨rfl, rfl⟩ (by kernel_rfl) rfl plain_indexAll (by kernel_rfl)
#print axioms indexAll_card
end Go.Proofs.YtjnagiaooecklabGreatDoor
